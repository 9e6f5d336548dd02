/- Items, Close: the closure put. -/
import Derived.Test.YtlpokomfljmogaaGreatItem12
namespace Go.Proofs.YtlpokomfljmogaaGreat
set_option linter.unusedVariables false
set_option linter.unusedSimpArgs false
open Go.RowKit Go.Maps
attribute [local irreducible] wpStill wpOne wpPh

/-- what stands while items are closed: the map's block s, its variable's box s + 1, the answer's box s + 2, the answer's row behind -/
structure CSt (w wr : World) (F : Nat → Prop) (A1 : Option Addr) (c1 : Nat) (A2 : Option Addr) (c2 : Nat) (A3 : Option Addr) (c3 T N R : Nat) (st : Int) (G : GramD) (vl : Value) (l : List It) (s : Nat) (vo : Value) (o : List It) : Prop where
  g : GBox wr F w.heap.size A1 c1 A2 c2 A3 c3 T N R st G
  le : Below w.heap.size w wr
  rv : RdIt wr (fun b => b < w.heap.size) vl l
  hs : w.heap.size < s
  zl : s + 1 + 1 + 1 ≤ wr.heap.size
  hF : ∀ b, F b → b < w.heap.size
  met : Blk wr (s + 1) 87 #[.map (some s)]
  out : Blk wr (s + 1 + 1) 26 #[vo]
  own : wr.ownsRow (s + 1 + 1 + 1) 34 2 vo o.length (itCells o)
  map : ∃ D : DataW Unit, wr.ownsMap Tryz.prog 34 (plainElem Tryz.prog 4) s o.length D ∧ SetMap D o
section
variable {w wr wr' : World} {F : Nat → Prop} {A1 : Option Addr} {c1 : Nat} {A2 : Option Addr} {c2 : Nat} {A3 : Option Addr} {c3 T N R : Nat} {st : Int} {G : GramD} {vl : Value} {l : List It} {s : Nat} {vo : Value} {o : List It}
theorem CSt.below (h : CSt w wr F A1 c1 A2 c2 A3 c3 T N R st G vl l s vo o) (hb : Below wr.heap.size wr wr') : CSt w wr' F A1 c1 A2 c2 A3 c3 T N R st G vl l s vo o := by
  obtain ⟨D, m1, m2⟩ := h.map
  exact ⟨h.g.below hb, h.le.trans (hb.mono h.le.size), h.rv.below hb (fun k hk => Nat.lt_of_lt_of_le hk h.le.size), h.hs, Nat.le_trans h.zl hb.size, h.hF, h.met.below hb h.met.lt, h.out.below hb h.out.lt, own_below' h.own hb, D, (Touch.of_size hb (fun _ => False)).ownsMap m1 (fun e => e), m2⟩
/-- the map's turn, and all that follows -/
theorem CSt.add {w1 w2 : World} {A : Option Addr} {c : Nat} {x : It} {D : DataW Unit} {X : Obj} (h : CSt w wr F A1 c1 A2 c2 A3 c3 T N R st G vl l s vo o) (hx : WfI x)
    (hD : SetMap D o) (hm : w1.ownsMap Tryz.prog 34 (plainElem Tryz.prog 4) s (o.length + 1) (D.put (ikey x) (.lit (.bool true)))) (g1 : wr.grownBy w1 (some s))
    (own2 : w2.ownsRow (s + 1 + 1 + 1) 34 2 (.slice A (o.length + 1) c) (o.length + 1) (itCells o ++ [I64 x.1, I64 x.2])) (g2 : (w1.alloc X).grownBy w2 vo.ownBlock) :
    CSt w (w2.setCell ⟨s + 1 + 1, 0, none⟩ (.slice A (o.length + 1) c)) F A1 c1 A2 c2 A3 c3 T N R st G vl l s (.slice A (o.length + 1) c) (o ++ [x]) ∧ Touch (fun k => k = s ∨ vo.ownBlock = some k ∨ k = s + 1 + 1) wr (w2.setCell ⟨s + 1 + 1, 0, none⟩ (.slice A (o.length + 1) c)) := by
  have hk : ∀ k, vo.ownBlock = some k → s + 1 + 1 + 1 ≤ k ∧ k < wr.heap.size := fun k e => h.own.lt k e
  have t1 : Touch (fun k => k = s) wr w1 := (Touch.refl _ _).grown g1 (fun k e _ => by injection e with e; exact e.symm)
  have t2 : Touch (fun k => k = s ∨ vo.ownBlock = some k) wr w2 := ((t1.mono (S' := fun k => k = s ∨ vo.ownBlock = some k) (fun _ _ e => .inl e)).alloc X).grown g2 (fun k e _ => .inr e)
  have t3 : Touch (fun k => k = s ∨ vo.ownBlock = some k ∨ k = s + 1 + 1) wr (w2.setCell ⟨s + 1 + 1, 0, none⟩ (.slice A (o.length + 1) c)) := (t2.mono (S' := fun k => k = s ∨ vo.ownBlock = some k ∨ k = s + 1 + 1) (fun _ _ e => e.elim .inl (fun e => .inr (.inl e)))).setCell (p := ⟨s + 1 + 1, 0, none⟩) (fun _ => .inr (.inr rfl)) _
  have hbig : ∀ k, (k = s ∨ vo.ownBlock = some k ∨ k = s + 1 + 1) → s ≤ k ∧ k ≠ s + 1 := fun k e => by
    rcases e with e | e | e
    · omega
    · have := hk k e; omega
    · omega
  have hs := h.hs
  have hsz := t2.size
  have hnS : ∀ k, s < k → k < s + 1 + 1 + 1 → ¬ (k = s ∨ vo.ownBlock = some k) := fun k k1 k2 e => by
    rcases e with e | e
    · omega
    · have := hk k e; omega
  have hmet2 : Blk w2 (s + 1) 87 #[.map (some s)] := h.met.touch t2 (hnS _ (by omega) (by omega))
  have hout2 : Blk w2 (s + 1 + 1) 26 #[vo] := h.out.touch t2 (hnS _ (by omega) (by omega))
  have hm2 : w2.ownsMap Tryz.prog 34 (plainElem Tryz.prog 4) s (o.length + 1) (D.put (ikey x) (.lit (.bool true))) :=
    (((Touch.refl (fun k => vo.ownBlock = some k) w1).alloc X).grown g2 (fun k e _ => e)).ownsMap hm (fun e => by have := hk _ e; omega)
  refine ⟨⟨h.g.touch t3 (fun b hb e => by have := h.hF b hb; have := hbig b e; omega) (fun e => by have := hbig _ e; omega), t3.toBelow (fun k e => by have := hbig k e; omega) h.le h.le.size, h.rv.touch t3 (fun b hb e => by have := hbig b e; omega), hs, Nat.le_trans h.zl t3.size, h.hF, hmet2.far (by simp) _, ?_, ?_, D.put (ikey x) (.lit (.bool true)), ?_, hD.put hx⟩, t3⟩
  · exact hout2.put 0 _
  · rw [List.length_append, itCells_append]
    exact own_far own2 (fun e => by
      have := own2.lt _ e
      simp at this
      omega) _
  · rw [List.length_append]
    exact ((Touch.refl (fun k => k = s + 1 + 1) w2).setCell (p := ⟨s + 1 + 1, 0, none⟩) (fun _ => rfl) _).ownsMap hm2 (fun e => by omega)
end
set_option maxRecDepth 100000 in
set_option maxHeartbeats 4000000 in
theorem put_clo {w wr : World} {F : Nat → Prop} {A1 : Option Addr} {c1 : Nat} {A2 : Option Addr} {c2 : Nat} {A3 : Option Addr} {c3 T N R : Nat} {st : Int} {G : GramD} {vl : Value} {l : List It} {s : Nat} {vo : Value} {o : List It}
    (h : CSt w wr F A1 c1 A2 c2 A3 c3 T N R st G vl l s vo o) (x : It) (hx : WfI x) (hlen : o.length ≤ 500000) :
    Calls Tryz.prog 61 #[ItV x, .pointer (some ⟨s + 1, 0, none⟩), .pointer (some ⟨w.heap.size, 0, none⟩), .pointer (some ⟨s + 1 + 1, 0, none⟩)] wr fun e w' => e = .returned (.tuple #[]) ∧ ∃ vo', CSt w w' F A1 c1 A2 c2 A3 c3 T N R st G vl l s vo' (addI o x (rightI G st x)) ∧ Touch (fun k => k = s ∨ vo.ownBlock = some k ∨ k = s + 1 + 1) wr w' ∧ ∀ k, vo'.ownBlock = some k → vo.ownBlock = some k ∨ wr.heap.size ≤ k := by
  have hadd : addI o x (rightI G st x) = if (!decide (x ∈ o) && rightI G st x) = true then o ++ [x] else o := rfl
  obtain ⟨nx, hnx⟩ : ∃ nx, nx = addI o x (rightI G st x) := ⟨_, rfl⟩
  rw [← hnx] at hadd ⊢
  obtain ⟨x0, x1⟩ := x
  obtain ⟨wb, hwb⟩ : ∃ wb, wb = wr.alloc (.cells #[.int .i64 x0, .int .i64 x1] 34) := ⟨_, rfl⟩
  have bb : Below wr.heap.size wr wb := by rw [hwb]; exact (Below.refl _ _).alloc (Nat.le_refl _) _
  have kb : Blk wb wr.heap.size 34 #[.int .i64 x0, .int .i64 x1] := by rw [hwb]; exact Blk.new _ _ _
  have tb := h.below bb
  obtain ⟨D, m1, m2⟩ := tb.map
  have hlk := m2.look m1 hx
  have cr := item_right tb.g.gram st (x0, x1)
  obtain ⟨q0, q1, q2, q3⟩ := tb.g.cells
  have e0 := (tb.met.cell 0).trans rfl
  obtain ⟨im, him⟩ : ∃ im, im = decide (((x0, x1) : It) ∈ o) := ⟨_, rfl⟩
  obtain ⟨rt, hrt⟩ : ∃ rt, rt = rightI G st (x0, x1) := ⟨_, rfl⟩
  rw [← him, ← hrt] at hadd
  rw [← him] at hlk
  rw [← hrt] at cr
  rw [hwb] at hlk cr q0 q1 q2 q3 e0
  clear h hnx m1 m2
  cases im with
  | true =>
    have hadd : nx = o := by rw [hadd]; rfl
    have t5 := tb
    have b5 := bb
    rw [hwb] at t5 b5
    have Xtb := hide tb
    have Xcr := hide cr
    have Xkb := hide kb
    have Xhadd := hide hadd
    have Xhim := hide him
    have Xhrt := hide hrt
    have Xt5 := hide t5
    have Xb5 := hide b5
    clear tb cr kb hadd him hrt t5 b5
    go_enter Tryz.func61, Tryz.ntmps61
    go_wp2_with fail
    go_end0
    exact ⟨rfl, _, by rw [Xhadd.out]; exact Xt5.out, Touch.of_size Xb5.out _, fun k e => .inl e⟩
  | false =>
    cases rt with
    | false =>
      have hadd : nx = o := by rw [hadd]; rfl
      have Xtb := hide tb
      have Xcr := hide cr
      have Xkb := hide kb
      have Xhadd := hide hadd
      have Xhim := hide him
      have Xhrt := hide hrt
      have Xbb := hide bb
      clear tb cr kb hadd him hrt bb
      go_enter Tryz.func61, Tryz.ntmps61
      go_wp2_with fail
      with_reducible refine Xcr.out.mono ?_
      rintro e w5 ⟨rfl, b5⟩
      rw [← hwb] at b5
      have t5 := Xtb.out.below b5
      have b5 := Xbb.out.trans (b5.mono Xbb.out.size)
      have Xb5 := hide b5
      clear b5
      clear hwb q0 q1 q2 q3 e0 hlk Xtb Xkb Xcr
      have Xt5 := hide t5
      clear t5
      go_wp2_with fail
      go_end0
      exact ⟨rfl, _, by rw [Xhadd.out]; exact Xt5.out, Touch.of_size Xb5.out _, fun k e => .inl e⟩
    | true =>
      have hadd : nx = o ++ [(x0, x1)] := by rw [hadd]; rfl
      have Xtb := hide tb
      have Xcr := hide cr
      have Xkb := hide kb
      have Xhadd := hide hadd
      have Xhim := hide him
      have Xhrt := hide hrt
      have Xbb := hide bb
      clear tb cr kb hadd him hrt bb
      go_enter Tryz.func61, Tryz.ntmps61
      go_wp2_with fail
      with_reducible refine Xcr.out.mono ?_
      rintro e w5 ⟨rfl, b5⟩
      rw [← hwb] at b5
      have t5 := Xtb.out.below b5
      have k5 := Xkb.out.below b5 Xkb.out.lt
      have b5 := Xbb.out.trans (b5.mono Xbb.out.size)
      clear hwb q0 q1 q2 q3 e0 hlk Xtb Xkb Xcr
      have e0 := (t5.met.cell 0).trans rfl
      have d0 := (k5.cell 0).trans rfl
      have d1 := (k5.cell 1).trans rfl
      obtain ⟨D, m1, m2⟩ := t5.map
      have hkey := ikey_some hx
      have Xt5 := hide t5
      have Xk5 := hide k5
      have Xm2 := hide m2
      have Xb5 := hide b5
      clear t5 k5 m2 b5
      go_wp2_with (at_mapUpdate; refine wpList_mapUpdate_own _ rfl _ _ _ 87 rfl 34 4 Tryz.itemKeyed Tryz.underlying87 _ s o.length D rfl m1 (by unfold maxLen; omega) _ _ _ rfl rfl hkey _ [] (plainElem_bool Tryz.underlying4 true) ?_)
      intro w6 m6 g6
      have k6 := Xk5.out.grown g6 (by have := Xk5.out.ne_map m1; simp; exact fun e => this e.symm)
      have o6 := Xt5.out.out.grown g6 (by simp; omega)
      have d0 := (k6.cell 0).trans rfl
      have d1 := (k6.cell 1).trans rfl
      have e1 := (o6.cell 0).trans rfl
      have own6 := own_grown Xt5.out.own g6 (fun k hk e => by injection e with e; have := (Xt5.out.own.lt k hk).1; omega)
      have hone : RdIt (w6.alloc (.cells #[.int .i64 x0, .int .i64 x1] 34)) (fun b => b = w6.heap.size) (.slice (some ⟨w6.heap.size, 0, none⟩) 1 1) [(x0, x1)] := RdIt.one (w := w6) (e := 34) (x0, x1)
      have own7 := own_alloc own6 (.cells #[.int .i64 x0, .int .i64 x1] 34)
      have hz7 : s + 1 + 1 + 1 ≤ (w6.alloc (.cells #[.int .i64 x0, .int .i64 x1] 34)).heap.size := by have h1 := Xt5.out.zl; have h2 := g6.size; simp; omega
      have o7 := o6.alloc (.cells #[.int .i64 x0, .int .i64 x1] 34)
      have Xm6 := hide m6
      have Xg6 := hide g6
      have Xk6 := hide k6
      have Xo6 := hide o6
      have Xhone := hide hone
      have Xown6 := hide own6
      have Xown7 := hide own7
      have Xo7 := hide o7
      have Xm1 := hide m1
      have Xhkey := hide hkey
      clear m6 g6 k6 o6 hone own6 own7 o7 m1 hkey
      go_wp2_with (at_builtin; refine wp_append _ rfl (.tmp 16) (.tmp 18) _ rfl Tryz.elemItem (s + 1 + 1 + 1) _ o.length (itCells o) rfl Xown7.out _ _ [I64 x0, I64 x1] 1 rfl rfl Xhone.out (itCells_one [(x0, x1)]) (by unfold maxLen; omega) (by omega) hz7 ?_)
      intro A8 c8 w8 own8 g8 hb8
      have o8 := Xo7.out.grown g8 (by
        intro e
        have := (Xown7.out.lt _ e.symm).1
        omega)
      obtain ⟨fin, tf⟩ := Xt5.out.add (c := c8) (A := A8) hx Xm2.out Xm6.out Xg6.out own8 g8
      have tf2 := (Touch.of_size Xb5.out (fun k => k = s ∨ vo.ownBlock = some k ∨ k = s + 1 + 1)).trans' tf
      have hnew : ∀ k, (Value.slice A8 (o.length + 1) c8).ownBlock = some k → vo.ownBlock = some k ∨ wr.heap.size ≤ k := fun k e => by
        rcases hb8 with e8 | e8
        · exact .inl (e8 ▸ e)
        · right
          rw [e8] at e
          injection e with e
          have h1 := Xb5.out.size
          have h2 := Xg6.out.size
          rw [← e]
          simp
          omega
      have f0 := (o8.cell 0).trans rfl
      have f1 := o8.frozen 0
      clear d0 d1 e0 e1 own8 g8 hz7 Xt5 Xm6 Xg6 Xk6 Xo6 Xhone Xown6 Xown7 Xo7 Xm1
      have Xo8 := hide o8
      have Xfin := hide fin
      have Xtf2 := hide tf2
      have Xhnew := hide hnew
      clear o8 fin tf2 hnew
      clear tf hb8
      go_wp2_with fail
      go_end0
      exact ⟨rfl, _, by rw [Xhadd.out]; exact Xfin.out, Xtf2.out, Xhnew.out⟩
end Go.Proofs.YtlpokomfljmogaaGreat

/- Items: Close. -/
import Derived.Test.YtlpokomfljmogaaGreatItem13
import Derived.Test.YtlpokomfljmogaaGreatItem7
import Derived.Test.YtlpokomfljmogaaGreatG8
import Derived.Test.YtlpokomfljmogaaGreatG9
namespace Go.Proofs.YtlpokomfljmogaaGreat
set_option linter.unusedVariables false
set_option linter.unusedSimpArgs false
open Go.RowKit Go.Maps
attribute [local irreducible] wpStill wpOne wpPh

/-- of a grammar that may be -/
structure KnI (G : GramD) (st : Int) : Prop where
  r : G.rules.length ≤ 300
  non : ∀ s k, k ∈ ofOf G s → isNon G s = true
  short : ShortG G st
theorem KnI.of_check {G : GramD} {st : Int} (h : checkOf G st = 0) : KnI G st := by
  obtain ⟨hm, -, -, hk, -, -⟩ := checkOf_zero h
  obtain ⟨-, -, h3, hsh⟩ := manyOf_no hm
  refine ⟨h3, fun s k hs => ?_, fun i => ?_⟩
  · obtain ⟨n, x, -, hx⟩ := of_mem.1 hs
    unfold allKnown at hk
    rw [Bool.and_eq_true, List.all_eq_true] at hk
    have := hk.2 _ (List.mem_of_getElem? hx)
    unfold knownOf at this
    rw [Bool.and_eq_true] at this
    exact this.1
  · unfold shortOf at hsh
    rw [List.all_eq_true] at hsh
    unfold ruleOf
    split
    · simp
    · split
      · simp
      · cases e : G.rules[i.toNat]? with
        | none => simp
        | some r => have := hsh r (List.mem_of_getElem? e); simp at this ⊢; omega
/-- the items that are gathered -/
structure Gat (G : GramD) (st : Int) (l : List It) (M : Nat) (o : List It) : Prop where
  nodup : o.Nodup
  sound : ∀ z ∈ o, Cl G st l z
  bound : missI G st o + o.length ≤ M
theorem Gat.add {G : GramD} {st : Int} {l o : List It} {M : Nat} {x : It} (h : Gat G st l M o) (hx : rightI G st x = true → Cl G st l x) : Gat G st l M (addI o x (rightI G st x)) :=
  ⟨addI_nodup h.nodup, fun z hz => by
    rcases addI_mem.1 hz with hz | ⟨rfl, hr⟩
    · exact h.sound z hz
    · exact hx hr, Nat.le_trans addI_miss h.bound⟩
/-- grown, at its end -/
structure Ext (o o' : List It) : Prop where
  len : o.length ≤ o'.length
  get : ∀ j, j < o.length → o'[j]? = o[j]?
theorem Ext.refl (o : List It) : Ext o o := ⟨Nat.le_refl _, fun _ _ => rfl⟩
theorem Ext.mem {o o' : List It} (h : Ext o o') {x : It} (hx : x ∈ o) : x ∈ o' := by
  obtain ⟨j, hj, e⟩ := List.getElem_of_mem hx
  have := h.get j hj
  rw [List.getElem?_eq_getElem hj, e] at this
  exact List.mem_of_getElem? this
theorem Ext.add {o o' : List It} (h : Ext o o') (x : It) (r : Bool) : Ext o (addI o' x r) := ⟨Nat.le_trans h.len addI_len, fun j hj => (addI_get (Nat.lt_of_lt_of_le hj h.len)).trans (h.get j hj)⟩
section
variable {w : World} {F : Nat → Prop} {A1 : Option Addr} {c1 : Nat} {A2 : Option Addr} {c2 : Nat} {A3 : Option Addr} {c3 T N R : Nat} {st : Int} {G : GramD} {vl : Value} {l : List It}
theorem CSt.start {w2 w3 : World} (g : GBox w2 F w.heap.size A1 c1 A2 c2 A3 c3 T N R st G) (le : Below w.heap.size w w2) (rv : RdIt w2 (fun b => b < w.heap.size) vl l) (hs : w.heap.size < w2.heap.size) (hF : ∀ b, F b → b < w.heap.size)
    (h3 : w3 = ((w2.alloc (.map #[] 0)).alloc (.cells #[.map (some w2.heap.size)] 87)).alloc (.cells #[.slice none 0 0] 26)) : CSt w w3 F A1 c1 A2 c2 A3 c3 T N R st G vl l w2.heap.size (.slice none 0 0) [] := by
  obtain ⟨wa, ha⟩ : ∃ wa, wa = w2.alloc (.map #[] 0) := ⟨_, rfl⟩
  obtain ⟨wb, hb⟩ : ∃ wb, wb = wa.alloc (.cells #[.map (some w2.heap.size)] 87) := ⟨_, rfl⟩
  have sa : wa.heap.size = w2.heap.size + 1 := by rw [ha]; simp
  have sb : wb.heap.size = w2.heap.size + 1 + 1 := by rw [hb]; simp [sa]
  rw [← ha, ← hb] at h3
  have b1 : Below w2.heap.size w2 w3 := by
    rw [h3, hb, ha]
    exact (((Below.refl _ w2).alloc (Nat.le_refl _) _).alloc (by simp) _).alloc (by simp; omega) _
  have kb : Blk wb (w2.heap.size + 1) 87 #[.map (some w2.heap.size)] := by rw [hb, ← sa]; exact Blk.new _ _ _
  have hm : wa.ownsMap Tryz.prog 34 (plainElem (H := Unit) Tryz.prog 4) w2.heap.size 0 (.map []) := by rw [ha]; exact World.ownsMap_made w2 Tryz.prog 34 (plainElem (H := Unit) Tryz.prog 4)
  refine ⟨g.below b1, le.trans (b1.mono le.size), rv.below b1 (fun k hk => Nat.lt_of_lt_of_le hk le.size), hs, by rw [h3]; simp [sb], hF, by rw [h3]; exact kb.alloc _, by rw [h3, ← sb]; exact Blk.new _ _ _, World.ownsRow_nil _ _ _ _, .map [], ?_, SetMap.empty⟩
  rw [h3, hb]
  exact (((Touch.refl (fun _ => False) wa).alloc _).alloc _).ownsMap hm (fun e => e)
end
/-- Close's answer; nothing of a grammar that may not be -/
def MayClose (mb : Bool) (w : World) (G : GramD) (st : Int) (l : List It) (e : Ending) (w' : World) : Prop := if mb = true then ClosePost w G st l e w' else ItPost w [] e w'
theorem wf_small {x : Int} (h0 : 0 ≤ x) (h : x ≤ 1000) : WfI (x, 0) := ⟨⟨by simp only; omega, by simp only; omega⟩, by simp only; omega, by simp only; omega⟩
set_option maxRecDepth 100000 in
set_option maxHeartbeats 8000000 in
theorem item_Close {w : World} {F : Nat → Prop} {vt vn vr : Value} {G : GramD} (h : IsGram w F vt vn vr G) (hF : ∀ b, F b → b < w.heap.size) (st : Int) {v : Value} {l : List It} (hl : RdIt w (fun b => b < w.heap.size) v l) (hwf : ∀ x ∈ l, WfI x) :
    Calls Tryz.prog 18 #[GV vt vn vr st, v] w (MayClose (mayB G st) w G st l) := by
  obtain ⟨A1, c1, A2, c2, A3, c3, rfl, rfl, rfl, -⟩ := h.slices
  obtain ⟨A, n, c, rfl, -⟩ := id hl
  obtain ⟨hn, hnc, hcm, -⟩ := RdIt.at_ hl
  unfold maxLen at hcm
  obtain ⟨w1, hw1⟩ : ∃ w1, w1 = w.alloc (.cells #[.slice A1 G.terms.length c1, .slice A2 G.nons.length c2, .slice A3 G.rules.length c3, .int .i64 st] 25) := ⟨_, rfl⟩
  have g1 := GBox.new h st
  have b1 : Below w.heap.size w w1 := by rw [hw1]; exact (Below.refl _ w).alloc (Nat.le_refl _) _
  have hz1 : w.heap.size < w1.heap.size := by rw [hw1]; simp
  rw [← hw1] at g1
  have rv1 := hl.below b1 (fun k hk => hk)
  have cM := item_may g1.gram st
  have cB := fun wr (g : GBox wr F w.heap.size A1 c1 A2 c2 A3 c3 G.terms.length G.nons.length G.rules.length st G) x => item_behind g.gram st x
  have cN := fun wr (g : GBox wr F w.heap.size A1 c1 A2 c2 A3 c3 G.terms.length G.nons.length G.rules.length st G) s => gram_non g.gram st s
  have cO := fun wr (g : GBox wr F w.heap.size A1 c1 A2 c2 A3 c3 G.terms.length G.nons.length G.rules.length st G) s => gram_of g.gram st s
  have hkn : mayB G st = true → KnI G st ∧ (allIt G st).length ≤ 400000 := fun hm => by
    have hk := KnI.of_check (of_decide_eq_true hm)
    exact ⟨hk, all_len hk.short hk.r⟩
  obtain ⟨M, hM⟩ : ∃ M, M = (allIt G st).length := ⟨_, rfl⟩
  have hM0 : missI G st [] ≤ M := by rw [hM]; unfold missI; exact List.length_filter_le _ _
  rw [← hM] at hkn
  obtain ⟨q0, q1, q2, q3⟩ := g1.cells
  obtain ⟨mb, hmb⟩ : ∃ mb, mb = mayB G st := ⟨_, rfl⟩
  rw [← hmb] at cM hkn ⊢
  generalize G.terms.length = T at *
  generalize G.nons.length = N at *
  generalize hR : G.rules.length = R at *
  have hn2 := hn
  have hmm := @run_makeMap Tryz.prog
  rw [hw1] at cM q0 q1 q2 q3
  clear h hl hn
  have Xg1 := hide g1
  have Xb1 := hide b1
  have Xrv1 := hide rv1
  have Xhz1 := hide hz1
  have XhF := hide hF
  have Xhwf := hide hwf
  have XcM := hide cM
  have XcB := hide cB
  have XcN := hide cN
  have XcO := hide cO
  have Xhkn := hide hkn
  have XhM := hide hM
  have XhM0 := hide hM0
  have Xhn2 := hide hn2
  have XhR := hide hR
  clear g1 b1 rv1 hz1 hF hwf cM cB cN cO hkn hM hM0 hn2 hR
  clear hmb
  go_enter Tryz.func18, Tryz.ntmps18
  go_wp2_with fail
  with_reducible refine XcM.out.mono ?_
  rintro e w2 ⟨rfl, b2⟩
  rw [← hw1] at b2
  have g2 := Xg1.out.below b2
  have le2 := Xb1.out.trans (b2.mono Xb1.out.size)
  have rv2 := Xrv1.out.below b2 (fun k hk => Nat.lt_trans hk Xhz1.out)
  have hz2 : w.heap.size < w2.heap.size := Nat.lt_of_lt_of_le Xhz1.out b2.size
  clear hw1 q0 q1 q2 q3 b2 Xg1 Xb1 Xrv1 Xhz1 XcM
  cases mb with
  | false =>
    have Xg2 := hide g2
    have Xle2 := hide le2
    have Xrv2 := hide rv2
    have Xhz2 := hide hz2
    clear g2 le2 rv2 hz2
    go_wp2_with fail
    go_ret
    exact ItPost.nil Xle2.out
  | true =>
    obtain ⟨hk, hM4⟩ := Xhkn.out (by first | rfl | trivial)
    have t3 := CSt.start g2 le2 rv2 hz2 XhF.out rfl
    have gat3 : Gat G st l M [] := ⟨List.nodup_nil, fun _ h => (by cases h), by have := XhM0.out; simpa using this⟩
    obtain ⟨s, hs⟩ : ∃ s, s = w2.heap.size := ⟨_, rfl⟩
    clear Xhkn g2 le2 rv2
    have Xt3 := hide t3
    have Xgat3 := hide gat3
    have Xhk := hide hk
    have XhM4 := hide hM4
    have Xhs := hide hs
    have Xhz2 := hide hz2
    clear t3 gat3 hk hM4 hs hz2
    go_wp2_with fail
    go_loopw [22] (fun i wr => ∃ (k : Nat) (vo : Value) (o : List It), k ≤ n ∧ i = .int .i64 k ∧ CSt w wr F A1 c1 A2 c2 A3 c3 T N R st G (.slice A n c) l w2.heap.size vo o ∧ Gat G st l M o ∧ ∀ (j : Nat) (x : It), j < k → l[j]? = some x → rightI G st x = true → x ∈ o) (fun i _ => n - (intOf i).toNat)
    case atStart => exact ⟨0, _, [], Nat.zero_le _, rfl, Xt3.out, Xgat3.out, fun j x hj => absurd hj (by omega)⟩
    case round =>
      clear Xt3 Xgat3 hmm
      obtain ⟨k, vo, o, hk1, rfl, t, gat, hb⟩ := hrel
      have hol : o.length ≤ 400000 := by have := gat.bound; have := XhM4.out; omega
      by_cases hlt : k < n
      · have hlt' : (k : Int) < (n : Int) := by omega
        obtain ⟨-, -, -, hcell⟩ := RdIt.at_ t.rv
        obtain ⟨b, off, rfl, hbl, hcc⟩ := hcell (by omega)
        obtain ⟨⟨x0, x1⟩, hx⟩ : ∃ x, l[k]? = some x := ⟨_, List.getElem?_eq_getElem (by rw [← Xhn2.out]; exact hlt)⟩
        obtain ⟨p0, p1⟩ := hcc k _ hx
        simp only at p0 p1
        obtain ⟨wb, hwb⟩ : ∃ wb, wb = wr.alloc (.cells #[.int .i64 x0, .int .i64 x1] 34) := ⟨_, rfl⟩
        have bb : Below wr.heap.size wr wb := by rw [hwb]; exact (Below.refl _ _).alloc (Nat.le_refl _) _
        have tb := t.below bb
        have cp := put_clo tb (x0, x1) (Xhwf.out _ (List.mem_of_getElem? hx)) (by omega)
        have gat2 := gat.add (x := (x0, x1)) (fun hr => Cl.base _ (List.mem_of_getElem? hx) hr)
        have hb2 : ∀ (j : Nat) (x : It), j < k + 1 → l[j]? = some x → rightI G st x = true → x ∈ addI o (x0, x1) (rightI G st (x0, x1)) := fun j x hj hjx hr => by
          by_cases e : j = k
          · subst e; rw [hx] at hjx; injection hjx with hjx; subst hjx; exact addI_mem.2 (.inr ⟨rfl, hr⟩)
          · exact addI_mem.2 (.inl (hb j x (by omega) hjx hr))
        rw [hwb] at cp
        clear hcell hcc bb
        have Xt := hide t
        have Xtb := hide tb
        have Xcp := hide cp
        have Xhx := hide hx
        have Xhbl := hide hbl
        have Xgat := hide gat
        have Xgat2 := hide gat2
        have Xhb := hide hb
        have Xhb2 := hide hb2
        clear t tb cp hx hbl gat gat2 hb hb2
        go_wp2_with fail
        refine Xcp.out.mono ?_
        rintro e w5 ⟨rfl, vo', t5, -, -⟩
        clear hwb p0 p1 Xt Xtb Xcp
        have Xt5 := hide t5
        clear t5
        go_wp2_with fail
        go_roundw
        case rel => exact ⟨k + 1, vo', _, by omega, by go_num, Xt5.out, Xgat2.out, Xhb2.out⟩
        case measure => simp [intOf]; omega
      · have hlt' : ¬ (k : Int) < (n : Int) := by omega
        have hbase : ∀ z ∈ l, rightI G st z = true → z ∈ o := fun z hz hr => by
          obtain ⟨j, hj, e⟩ := List.getElem_of_mem hz
          exact hb j z (by have := Xhn2.out; omega) (by rw [List.getElem?_eq_getElem hj, e]) hr
        clear hb
        have Xt := hide t
        have Xgat := hide gat
        have Xhbase := hide hbase
        clear t gat hbase
        go_wp2_with fail
        go_loopg [10] M (fun κ i wr => ∃ (k : Nat) (vo : Value) (o : List It), i = .int .i64 k ∧ k ≤ o.length ∧ CSt w wr F A1 c1 A2 c2 A3 c3 T N R st G (.slice A n c) l w2.heap.size vo o ∧ Gat G st l M o ∧ (∀ z ∈ l, rightI G st z = true → z ∈ o) ∧ (∀ (j : Nat) (y : It), j < k → o[j]? = some y → DoneI G st o y) ∧ missI G st o + o.length ≤ κ + k)
        case atStart => exact ⟨0, vo, o, rfl, Nat.zero_le _, Xt.out, Xgat.out, Xhbase.out, fun j y hj => absurd hj (by omega), by have := Xgat.out.bound; omega⟩
        case round =>
          clear Xt Xgat Xhbase hlt hlt' hk1 hol
          obtain ⟨k, vo, o, rfl, hko, t, gat, hbase, hd, hκ⟩ := hrel
          have hol : o.length ≤ 400000 := by have := gat.bound; have := XhM4.out; omega
          obtain ⟨Au, cu, rfl, hnu, hcu⟩ := ownsRow_shape t.own
          unfold maxLen at hcu
          have f0 := (t.out.cell 0).trans rfl
          by_cases hlt : k < o.length
          · have hlt' : (k : Int) < (o.length : Int) := by omega
            have hgk : 0 < gk := by omega
            obtain ⟨q0, q1, q2, q3⟩ := t.g.cells
            obtain ⟨-, -, -, hcell⟩ := RdIt.at_ (Rd.of_own t.own)
            obtain ⟨b, off, rfl, -, hcc⟩ := hcell (by omega)
            obtain ⟨⟨x0, x1⟩, hx⟩ : ∃ x, o[k]? = some x := ⟨_, List.getElem?_eq_getElem hlt⟩
            obtain ⟨p0, p1⟩ := hcc k _ hx
            simp only at p0 p1
            have td := t.below ((Below.refl _ wr).drew)
            have cb := XcB.out _ td.g (x0, x1)
            obtain ⟨⟨y, sok⟩, hy⟩ : ∃ r, r = behindI G st (x0, x1) := ⟨_, rfl⟩
            rw [← hy] at cb
            obtain ⟨ol, hol2⟩ : ∃ ol, ol = o.length := ⟨_, rfl⟩
            rw [← hol2] at hlt' hnu f0 hol hlt
            have hlp : (Value.slice (some ⟨b, off, none⟩) o.length cu) = .slice (some ⟨b, off, none⟩) ol cu := by rw [hol2]
            clear hcell hcc
            have Xt := hide t
            have Xtd := hide td
            have Xcb := hide cb
            have Xhx := hide hx
            have Xhy := hide hy
            have Xgat := hide gat
            have Xhbase := hide hbase
            have Xhd := hide hd
            have Xhκ := hide hκ
            have Xhol2 := hide hol2
            have Xhlp := hide hlp
            have Xhko := hide hko
            clear t td cb hx hy gat hbase hd hκ hol2 hlp hko
            go_wp2_with fail
            refine wp_region_held_drew (S := (fun W => W.cell? ⟨w.heap.size, 0, none⟩ = some (.slice A1 T c1) ∧ W.cell? ⟨w.heap.size, 1, none⟩ = some (.slice A2 N c2) ∧ W.cell? ⟨w.heap.size, 2, none⟩ = some (.slice A3 R c3) ∧ W.cell? ⟨w.heap.size, 3, none⟩ = some (.int .i64 st) ∧ W.cell? ⟨w2.heap.size + 1 + 1, 0, none⟩ = some (.slice (some ⟨b, off, none⟩) ol cu) ∧ W.cell? ⟨b, off + k * 2, none⟩ = some (.int .i64 x0) ∧ W.cell? ⟨b, off + k * 2 + 1, none⟩ = some (.int .i64 x1))) (by kernel_rfl) ?_ (fun hHeld => ?_)
            · exact ⟨q0, q1, q2, q3, f0, p0, p1⟩
            refine wpAnyH_take (i := 0) (oi := ?_) (v := ?_) ?_ (by kernel_rfl) (by kernel_rfl) (by kernel_rfl) ?_ (Or.inl ⟨?_, ?_⟩) (by assumption) ?_
            rotate_left 2
            · (try simp only [List.getElem?_toArray, List.getElem?_cons_succ, List.getElem?_cons_zero]); rfl
            · exact fun _ _ _ h => h
            · rfl
            · (intro wS hwS; (try dsimp only at hwS); go_simp; all_goals with_reducible rfl)
            try simp only [Act.put, List.setIfInBounds_toArray, List.set_cons_zero, List.set_cons_succ]
            refine wpAnyH_take (i := 1) (oi := ?_) (v := ?_) ?_ (by kernel_rfl) (by kernel_rfl) (by kernel_rfl) ?_ (Or.inl ⟨?_, ?_⟩) (by assumption) ?_
            rotate_left 2
            · (try simp only [List.getElem?_toArray, List.getElem?_cons_succ, List.getElem?_cons_zero]); rfl
            · exact fun _ _ _ h => h
            · rfl
            · (intro wS hwS; (try dsimp only at hwS); go_simp; all_goals with_reducible rfl)
            try simp only [Act.put, List.setIfInBounds_toArray, List.set_cons_zero, List.set_cons_succ]
            refine wpAnyH_take (i := 2) (oi := ?_) (v := ?_) ?_ (by kernel_rfl) (by kernel_rfl) (by kernel_rfl) ?_ (Or.inl ⟨?_, ?_⟩) (by assumption) ?_
            rotate_left 2
            · (try simp only [List.getElem?_toArray, List.getElem?_cons_succ, List.getElem?_cons_zero]); rfl
            · exact fun _ _ _ h => h
            · rfl
            · (intro wS hwS; (try dsimp only at hwS); go_simp; all_goals with_reducible rfl)
            try simp only [Act.put, List.setIfInBounds_toArray, List.set_cons_zero, List.set_cons_succ]
            refine wpAnyH_take (i := 3) (oi := ?_) (v := ?_) ?_ (by kernel_rfl) (by kernel_rfl) (by kernel_rfl) ?_ (Or.inl ⟨?_, ?_⟩) (by assumption) ?_
            rotate_left 2
            · (try simp only [List.getElem?_toArray, List.getElem?_cons_succ, List.getElem?_cons_zero]); rfl
            · exact fun _ _ _ h => h
            · rfl
            · (intro wS hwS; (try dsimp only at hwS); go_simp; all_goals with_reducible rfl)
            try simp only [Act.put, List.setIfInBounds_toArray, List.set_cons_zero, List.set_cons_succ]
            refine wpAnyH_take (i := 4) (oi := ?_) (v := ?_) ?_ (by kernel_rfl) (by kernel_rfl) (by kernel_rfl) ?_ (Or.inl ⟨?_, ?_⟩) (by assumption) ?_
            rotate_left 2
            · (try simp only [List.getElem?_toArray, List.getElem?_cons_succ, List.getElem?_cons_zero]); rfl
            · exact fun _ _ _ h => h
            · rfl
            · (intro wS hwS; (try dsimp only at hwS); go_simp; all_goals with_reducible rfl)
            try simp only [Act.put, List.setIfInBounds_toArray, List.set_cons_zero, List.set_cons_succ]
            refine wpAnyH_ready (rs := [5]) (by kernel_rfl) (by simp) ?_
            refine AllReadyH.cons (o := ?_) ?_ (fun K hK => ?_) AllReadyH.nil
            rotate_left 1
            · (try simp only [List.getElem?_toArray, List.getElem?_cons_succ, List.getElem?_cons_zero]); rfl
            go_simp
            go_at_call 59
            with_reducible refine Xcb.out.mono ?_
            rintro e w5 ⟨rfl, b5⟩
            have t5 := Xtd.out.below b5
            have f5 := (t5.out.cell 0).trans rfl
            rw [Xhlp.out] at f5
            refine hK.out _ _ ?_ (fun hHeld => ?_)
            · exact ⟨t5.g.cells.1, t5.g.cells.2.1, t5.g.cells.2.2.1, t5.g.cells.2.2.2, f5, (b5.cell (p := ⟨b, off + k * 2, none⟩) (World.block_lt_of_cell? wr _ p0)).trans p0, (b5.cell (p := ⟨b, off + k * 2 + 1, none⟩) (World.block_lt_of_cell? wr _ p1)).trans p1⟩
            clear hK K
            try simp only [Act.put, List.setIfInBounds_toArray, List.set_cons_zero, List.set_cons_succ]
            clear q0 q1 q2 q3 p0 p1 f0 f5 b5 Xt Xtd Xcb
            cases sok with
            | false =>
              have hd2 : ∀ (j : Nat) (z : It), j < k + 1 → o[j]? = some z → DoneI G st o z := fun j z hj hjz => by
                by_cases e : j = k
                · subst e; rw [Xhx.out] at hjz; injection hjz with hjz
                  intro s' q hs' _
                  rw [← hjz, ← Xhy.out] at hs'; cases hs'
                · exact Xhd.out j z (by omega) hjz
              have Xt5 := hide t5
              have Xhd2 := hide hd2
              have Xhgk := hide hgk
              clear t5 hd2 hgk
              refine wpAnyH_take (i := 6) (oi := ?_) (v := ?_) ?_ (by kernel_rfl) (by kernel_rfl) (by kernel_rfl) ?_ (Or.inl ⟨?_, ?_⟩) (by assumption) ?_
              rotate_left 2
              · (try simp only [List.getElem?_toArray, List.getElem?_cons_succ, List.getElem?_cons_zero]); rfl
              · exact fun _ _ _ h => h
              · rfl
              · (intro wS hwS; (try dsimp only at hwS); go_simp; all_goals with_reducible rfl)
              try simp only [Act.put, List.setIfInBounds_toArray, List.set_cons_zero, List.set_cons_succ]
              refine wpAnyH_take (i := 7) (oi := ?_) (v := ?_) ?_ (by kernel_rfl) (by kernel_rfl) (by kernel_rfl) ?_ (Or.inl ⟨?_, ?_⟩) (by assumption) ?_
              rotate_left 2
              · (try simp only [List.getElem?_toArray, List.getElem?_cons_succ, List.getElem?_cons_zero]); rfl
              · exact fun _ _ _ h => h
              · rfl
              · (intro wS hwS; (try dsimp only at hwS); go_simp; all_goals with_reducible rfl)
              try simp only [Act.put, List.setIfInBounds_toArray, List.set_cons_zero, List.set_cons_succ]
              refine wpAnyH_take (i := 8) (oi := ?_) (v := ?_) ?_ (by kernel_rfl) (by kernel_rfl) (by kernel_rfl) ?_ (Or.inl ⟨?_, ?_⟩) (by assumption) ?_
              rotate_left 2
              · (try simp only [List.getElem?_toArray, List.getElem?_cons_succ, List.getElem?_cons_zero]); rfl
              · exact fun _ _ _ h => h
              · rfl
              · (intro wS hwS; (try dsimp only at hwS); go_simp; all_goals with_reducible rfl)
              try simp only [Act.put, List.setIfInBounds_toArray, List.set_cons_zero, List.set_cons_succ]
              refine wpAnyH_take (i := 9) (oi := ?_) (v := ?_) ?_ (by kernel_rfl) (by kernel_rfl) (by kernel_rfl) ?_ (Or.inl ⟨?_, ?_⟩) (by assumption) ?_
              rotate_left 2
              · (try simp only [List.getElem?_toArray, List.getElem?_cons_succ, List.getElem?_cons_zero]); rfl
              · exact fun _ _ _ h => h
              · rfl
              · (intro wS hwS; (try dsimp only at hwS); go_simp; all_goals with_reducible rfl)
              try simp only [Act.put, List.setIfInBounds_toArray, List.set_cons_zero, List.set_cons_succ]
              refine wpAnyH_take (i := 10) (oi := ?_) (v := ?_) ?_ (by kernel_rfl) (by kernel_rfl) (by kernel_rfl) ?_ (Or.inl ⟨?_, ?_⟩) (by assumption) ?_
              rotate_left 2
              · (try simp only [List.getElem?_toArray, List.getElem?_cons_succ, List.getElem?_cons_zero]); rfl
              · exact fun _ _ _ h => h
              · rfl
              · (intro wS hwS; (try dsimp only at hwS); go_simp; all_goals with_reducible rfl)
              try simp only [Act.put, List.setIfInBounds_toArray, List.set_cons_zero, List.set_cons_succ]
              refine wpAnyH_done (by kernel_rfl) ?_ _
              clear hHeld
              go_wp2_with fail
              go_roundg (gk - 1)
              case measure => have := Xhgk.out; omega
              case rel => exact ⟨k + 1, _, o, by go_num, by have := Xhol2.out; omega, Xt5.out, Xgat.out, Xhbase.out, Xhd2.out, by have := Xhκ.out; have := Xhgk.out; omega⟩
            | true =>
              have cn := XcN.out _ t5.g y
              obtain ⟨q0, q1, q2, q3⟩ := t5.g.cells
              obtain ⟨nb, hnb⟩ : ∃ nb, nb = isNon G y := ⟨_, rfl⟩
              rw [← hnb] at cn
              have Xt5 := hide t5
              have Xcn := hide cn
              have Xhnb := hide hnb
              have Xhgk := hide hgk
              clear t5 cn hnb hgk
              refine wpAnyH_take (i := 6) (oi := ?_) (v := ?_) ?_ (by kernel_rfl) (by kernel_rfl) (by kernel_rfl) ?_ (Or.inl ⟨?_, ?_⟩) (by assumption) ?_
              rotate_left 2
              · (try simp only [List.getElem?_toArray, List.getElem?_cons_succ, List.getElem?_cons_zero]); rfl
              · exact fun _ _ _ h => h
              · rfl
              · (intro wS hwS; (try dsimp only at hwS); go_simp; all_goals with_reducible rfl)
              try simp only [Act.put, List.setIfInBounds_toArray, List.set_cons_zero, List.set_cons_succ]
              refine wpAnyH_take (i := 7) (oi := ?_) (v := ?_) ?_ (by kernel_rfl) (by kernel_rfl) (by kernel_rfl) ?_ (Or.inl ⟨?_, ?_⟩) (by assumption) ?_
              rotate_left 2
              · (try simp only [List.getElem?_toArray, List.getElem?_cons_succ, List.getElem?_cons_zero]); rfl
              · exact fun _ _ _ h => h
              · rfl
              · (intro wS hwS; (try dsimp only at hwS); go_simp; all_goals with_reducible rfl)
              try simp only [Act.put, List.setIfInBounds_toArray, List.set_cons_zero, List.set_cons_succ]
              refine wpAnyH_take (i := 8) (oi := ?_) (v := ?_) ?_ (by kernel_rfl) (by kernel_rfl) (by kernel_rfl) ?_ (Or.inl ⟨?_, ?_⟩) (by assumption) ?_
              rotate_left 2
              · (try simp only [List.getElem?_toArray, List.getElem?_cons_succ, List.getElem?_cons_zero]); rfl
              · exact fun _ _ _ h => h
              · rfl
              · (intro wS hwS; (try dsimp only at hwS); go_simp; all_goals with_reducible rfl)
              try simp only [Act.put, List.setIfInBounds_toArray, List.set_cons_zero, List.set_cons_succ]
              refine wpAnyH_take (i := 9) (oi := ?_) (v := ?_) ?_ (by kernel_rfl) (by kernel_rfl) (by kernel_rfl) ?_ (Or.inl ⟨?_, ?_⟩) (by assumption) ?_
              rotate_left 2
              · (try simp only [List.getElem?_toArray, List.getElem?_cons_succ, List.getElem?_cons_zero]); rfl
              · exact fun _ _ _ h => h
              · rfl
              · (intro wS hwS; (try dsimp only at hwS); go_simp; all_goals with_reducible rfl)
              try simp only [Act.put, List.setIfInBounds_toArray, List.set_cons_zero, List.set_cons_succ]
              refine wpAnyH_take (i := 10) (oi := ?_) (v := ?_) ?_ (by kernel_rfl) (by kernel_rfl) (by kernel_rfl) ?_ (Or.inl ⟨?_, ?_⟩) (by assumption) ?_
              rotate_left 2
              · (try simp only [List.getElem?_toArray, List.getElem?_cons_succ, List.getElem?_cons_zero]); rfl
              · exact fun _ _ _ h => h
              · rfl
              · (intro wS hwS; (try dsimp only at hwS); go_simp; all_goals with_reducible rfl)
              try simp only [Act.put, List.setIfInBounds_toArray, List.set_cons_zero, List.set_cons_succ]
              refine wpAnyH_done (by kernel_rfl) ?_ _
              clear hHeld
              go_wp2_with fail
              with_reducible refine Xcn.out.mono ?_
              rintro e w6 ⟨rfl, b6⟩
              have t6 := Xt5.out.below b6
              clear q0 q1 q2 q3 b6 Xt5 Xcn
              cases nb with
              | false =>
                have hd2 : ∀ (j : Nat) (z : It), j < k + 1 → o[j]? = some z → DoneI G st o z := fun j z hj hjz => by
                  by_cases e : j = k
                  · subst e; rw [Xhx.out] at hjz; injection hjz with hjz
                    intro s' q hs' hq
                    rw [← hjz, ← Xhy.out] at hs'
                    injection hs' with hs' _
                    subst hs'
                    have := Xhk.out.non _ _ hq
                    rw [← Xhnb.out] at this; cases this
                  · exact Xhd.out j z (by omega) hjz
                have Xt6 := hide t6
                have Xhd2 := hide hd2
                clear t6 hd2
                go_wp2_with fail
                go_roundg (gk - 1)
                case measure => have := Xhgk.out; omega
                case rel => exact ⟨k + 1, _, o, by go_num, by have := Xhol2.out; omega, Xt6.out, Xgat.out, Xhbase.out, Xhd2.out, by have := Xhκ.out; have := Xhgk.out; omega⟩
              | true =>
                have co := XcO.out _ t6.g y
                obtain ⟨q0, q1, q2, q3⟩ := t6.g.cells
                have Xt6 := hide t6
                have Xco := hide co
                clear t6 co
                go_wp2_with fail
                with_reducible refine Xco.out.mono ?_
                rintro e w7 ⟨Ar, cr, rfl, hown, b7⟩
                have t7 := Xt6.out.below b7
                obtain ⟨rs, hrs⟩ : ∃ rs, rs = ofOf G y := ⟨_, rfl⟩
                rw [← hrs] at hown
                have hrl : (ofOf G y).length = rs.length := by rw [hrs]
                rw [hrl]
                have hrd : RdI w7 (fun b => w6.heap.size ≤ b ∧ b < w7.heap.size) (.slice Ar rs.length cr) rs := (Rd.of_own hown).mono (fun q hq => hown.lt q hq)
                obtain ⟨-, hrnc, hrcm, -⟩ := RdI.at_ hrd
                unfold maxLen at hrcm
                have hrm : ∀ r ∈ rs, r ∈ ofOf G y := fun r hr => by rw [← hrs]; exact hr
                have hvo : ∀ q, (Value.slice (some ⟨b, off, none⟩) o.length cu).ownBlock = some q → q < w6.heap.size ∨ w7.heap.size ≤ q := fun q hq => .inl (Xt6.out.own.lt q hq).2
                have hz6 := Xt6.out.zl
                have hz7 := b7.size
                clear q0 q1 q2 q3 b7 Xt6 Xco hown hrl
                have Xt7 := hide t7
                have Xhrd := hide hrd
                have Xhrs := hide hrs
                have Xhrm := hide hrm
                have Xhvo := hide hvo
                have Xhz6 := hide hz6
                have Xhz7 := hide hz7
                clear t7 hrd hrs hrm hvo hz6 hz7
                go_wp2_with fail
                go_loopw [57] (fun i wr => ∃ (q : Nat) (vo' : Value) (o' : List It), q ≤ rs.length ∧ i = .int .i64 q ∧ CSt w wr F A1 c1 A2 c2 A3 c3 T N R st G (.slice A n c) l w2.heap.size vo' o' ∧ Gat G st l M o' ∧ Ext o o' ∧ missI G st o' + o'.length ≤ missI G st o + o.length ∧ (∀ (j : Nat) (r : Int), j < q → rs[j]? = some r → ((r, 0) : It) ∈ o') ∧ RdI wr (fun b => w6.heap.size ≤ b ∧ b < w7.heap.size) (.slice Ar rs.length cr) rs ∧ (∀ z, vo'.ownBlock = some z → z < w6.heap.size ∨ w7.heap.size ≤ z) ∧ w7.heap.size ≤ wr.heap.size) (fun i _ => rs.length - (intOf i).toNat)
                case atStart => exact ⟨0, _, o, Nat.zero_le _, rfl, Xt7.out, Xgat.out, Ext.refl o, Nat.le_refl _, fun j r hj => absurd hj (by omega), Xhrd.out, Xhvo.out, Nat.le_refl _⟩
                case round =>
                  clear Xt7 Xhrd Xhvo
                  obtain ⟨q, vo', o', hq, rfl, t, gat', ext, hmis, hin, hrd, hvo, hz⟩ := hrel
                  by_cases hlq : q < rs.length
                  · have hlq' : (q : Int) < (rs.length : Int) := by omega
                    obtain ⟨-, -, -, hcr⟩ := RdI.at_ hrd
                    obtain ⟨b2, o2, rfl, hb2, hc2⟩ := hcr (by omega)
                    obtain ⟨r, hr⟩ : ∃ r, rs[q]? = some r := ⟨_, List.getElem?_eq_getElem hlq⟩
                    have hcr2 := hc2 q r hr
                    have hro := Xhrm.out r (List.mem_of_getElem? hr)
                    have hlow := new_low hro
                    have hol' : o'.length ≤ 500000 := by have := gat'.bound; have := XhM4.out; omega
                    have cp := put_clo t (r, 0) (wf_small hlow.1 (by have := Xhk.out.r; omega)) hol'
                    have gat2 := gat'.add (x := (r, 0)) (fun _ => Cl.next _ y r (Xgat.out.sound (x0, x1) (List.mem_of_getElem? Xhx.out)) Xhy.out.symm hro)
                    have ext2 := ext.add (r, 0) (rightI G st (r, 0))
                    have hmis2 := Nat.le_trans (addI_miss (G := G) (st := st) (o := o') (x := (r, 0))) hmis
                    have hin2 : ∀ (j : Nat) (z : Int), j < q + 1 → rs[j]? = some z → ((z, 0) : It) ∈ addI o' (r, 0) (rightI G st (r, 0)) := fun j z hj hjz => by
                      by_cases e : j = q
                      · subst e; rw [hr] at hjz; injection hjz with hjz; subst hjz; exact addI_mem.2 (.inr ⟨rfl, right_new hro⟩)
                      · exact addI_mem.2 (.inl (hin j z (by omega) hjz))
                    clear hc2 hcr hlow
                    have Xt := hide t
                    have Xhrd := hide hrd
                    have Xhr := hide hr
                    have Xcp := hide cp
                    have Xgat' := hide gat'
                    have Xext := hide ext
                    have Xhmis := hide hmis
                    have Xhin := hide hin
                    have Xhvo := hide hvo
                    have Xhz := hide hz
                    have Xgat2 := hide gat2
                    have Xext2 := hide ext2
                    have Xhmis2 := hide hmis2
                    have Xhin2 := hide hin2
                    have Xhro := hide hro
                    have Xhb2 := hide hb2
                    clear t hrd hr cp gat' ext hmis hin hvo hz gat2 ext2 hmis2 hin2 hro hb2
                    go_wp2_with fail
                    refine Xcp.out.mono ?_
                    rintro e w8 ⟨rfl, vo2, t8, tt8, hv8⟩
                    have hrd8 := Xhrd.out.touch tt8 (fun z hz e => by
                      have h6 := Xhz6.out
                      rcases e with e | e | e
                      · omega
                      · have := Xhvo.out z e; omega
                      · omega)
                    have hvo8 : ∀ z, vo2.ownBlock = some z → z < w6.heap.size ∨ w7.heap.size ≤ z := fun z hz => (hv8 z hz).elim (Xhvo.out z) (fun e => .inr (Nat.le_trans Xhz.out e))
                    have hz8 := Nat.le_trans Xhz.out tt8.size
                    clear tt8 hv8 hcr2 Xt Xhrd Xcp Xhvo Xhz
                    have Xt8 := hide t8
                    have Xhrd8 := hide hrd8
                    have Xhvo8 := hide hvo8
                    have Xhz8 := hide hz8
                    clear t8 hrd8 hvo8 hz8
                    go_wp2_with fail
                    go_roundw
                    case rel => exact ⟨q + 1, vo2, _, by omega, by go_num, Xt8.out, Xgat2.out, Xext2.out, Xhmis2.out, Xhin2.out, Xhrd8.out, Xhvo8.out, Xhz8.out⟩
                    case measure => simp [intOf]; omega
                  · have hlq' : ¬ (q : Int) < (rs.length : Int) := by omega
                    have hd2 : ∀ (j : Nat) (z : It), j < k + 1 → o'[j]? = some z → DoneI G st o' z := fun j z hj hjz => by
                      have hjo : j < o.length := by have := Xhol2.out; omega
                      rw [ext.get j hjo] at hjz
                      by_cases e : j = k
                      · subst e; rw [Xhx.out] at hjz; injection hjz with hjz
                        intro s' r' hs' hr'
                        rw [← hjz, ← Xhy.out] at hs'
                        injection hs' with hs' _
                        subst hs'
                        rw [← Xhrs.out] at hr'
                        obtain ⟨m, hm, em⟩ := List.getElem_of_mem hr'
                        exact hin m r' (by omega) (by rw [List.getElem?_eq_getElem hm, em])
                      · intro s' r' hs' hr'
                        exact ext.mem (Xhd.out j z (by omega) hjz s' r' hs' hr')
                    have hb2 : ∀ z ∈ l, rightI G st z = true → z ∈ o' := fun z hz hr => ext.mem (Xhbase.out z hz hr)
                    have hlen2 : k + 1 ≤ o'.length := by have := ext.len; have := Xhol2.out; omega
                    have Xt := hide t
                    have Xgat' := hide gat'
                    have Xhmis := hide hmis
                    have Xhd2 := hide hd2
                    have Xhb2 := hide hb2
                    have Xhlen2 := hide hlen2
                    have Xhrd := hide hrd
                    have Xhvo := hide hvo
                    have Xhz := hide hz
                    have Xext := hide ext
                    have Xhin := hide hin
                    clear t gat' hmis hd2 hb2 hlen2 hrd hvo hz ext hin
                    go_wp2_with fail
                    go_roundg (gk - 1)
                    case measure => have := Xhgk.out; omega
                    case rel => exact ⟨k + 1, vo', o', by go_num, Xhlen2.out, Xt.out, Xgat'.out, Xhb2.out, Xhd2.out, by have := Xhκ.out; have := Xhgk.out; have := Xhmis.out; omega⟩
          · have hlt' : ¬ (k : Int) < (o.length : Int) := by omega
            have hcl : IsCl G st l (canonI o) := ClSt.is (i := k) ⟨gat.nodup, gat.sound, hbase, fun j y s' r' hj hjy hs' hr' => hd j y hj hjy s' r' hs' hr'⟩ (by omega)
            have cs := item_sorted t.own t.zl rfl (by omega)
            have hlo := t.hs
            have Xt := hide t
            have Xgat := hide gat
            have Xhbase := hide hbase
            have Xhd := hide hd
            have Xhκ := hide hκ
            have Xcs := hide cs
            have Xhcl := hide hcl
            have Xhlo := hide hlo
            have Xhko := hide hko
            clear t gat hbase hd hκ cs hcl hlo hko
            go_wp2_with fail
            refine Xcs.out.mono ?_
            rintro e w6 ⟨A6, n6, c6, rfl, hr6, b6⟩
            have hle := Xt.out.le.trans (b6.mono (by have := Xhlo.out; omega))
            clear b6 Xcs
            have Xhr6 := hide hr6
            have Xhle := hide hle
            clear hr6 hle
            go_wp2_with fail
            go_ret
            exact ⟨canonI o, Xhcl.out, A6, n6, c6, rfl, by have := Xhr6.out; have h2 := Xhlo.out; exact this.mono (fun b hb => ⟨by omega, hb.2⟩), Xhle.out⟩
end Go.Proofs.YtlpokomfljmogaaGreat

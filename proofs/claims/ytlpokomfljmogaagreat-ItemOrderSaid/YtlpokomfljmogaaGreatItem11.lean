/- Items: Step, Kernel. -/
import Derived.Test.YtlpokomfljmogaaGreatItem10
namespace Go.Proofs.YtlpokomfljmogaaGreat
set_option linter.unusedVariables false
set_option linter.unusedSimpArgs false
open Go.RowKit
attribute [local irreducible] wpStill wpOne wpPh

/-- what a walk over a list carries: the grammar's box, the list, what has been gathered -/
structure PSt (w wr : World) (F : Nat → Prop) (A1 : Option Addr) (c1 : Nat) (A2 : Option Addr) (c2 : Nat) (A3 : Option Addr) (c3 T N R : Nat) (st : Int) (G : GramD) (vl : Value) (l : List It) (vo : Value) (o : List It) : Prop where
  g : GBox wr F w.heap.size A1 c1 A2 c2 A3 c3 T N R st G
  le : Below w.heap.size w wr
  rv : RdIt wr (fun b => b < w.heap.size) vl l
  own : wr.ownsRow (w.heap.size + 1) 34 2 vo o.length (itCells o)
  zl : w.heap.size + 1 ≤ wr.heap.size
  hF : ∀ b, F b → b < w.heap.size
section
variable {w wr wr' : World} {F : Nat → Prop} {A1 : Option Addr} {c1 : Nat} {A2 : Option Addr} {c2 : Nat} {A3 : Option Addr} {c3 T N R : Nat} {st : Int} {G : GramD} {vl : Value} {l : List It} {vo : Value} {o : List It}
theorem PSt.below (h : PSt w wr F A1 c1 A2 c2 A3 c3 T N R st G vl l vo o) (hb : Below wr.heap.size wr wr') : PSt w wr' F A1 c1 A2 c2 A3 c3 T N R st G vl l vo o :=
  ⟨h.g.below hb, h.le.trans (hb.mono h.le.size), h.rv.below hb (fun k hk => Nat.lt_of_lt_of_le hk h.le.size), own_below' h.own hb, Nat.le_trans h.zl hb.size, h.hF⟩
theorem PSt.app {A : Option Addr} {c : Nat} {xs : List Value} {x : It} (h : PSt w wr F A1 c1 A2 c2 A3 c3 T N R st G vl l vo o) (own2 : wr'.ownsRow (w.heap.size + 1) 34 2 (.slice A (o.length + 1) c) (o.length + 1) xs) (hxs : xs = itCells o ++ [I64 x.1, I64 x.2]) (hg : wr.grownBy wr' vo.ownBlock) :
    PSt w wr' F A1 c1 A2 c2 A3 c3 T N R st G vl l (.slice A (o.length + 1) c) (o ++ [x]) := by
  have t : Touch (fun k => vo.ownBlock = some k) wr wr' := (Touch.refl _ _).grown hg (fun k hk _ => hk)
  have hk : ∀ k, vo.ownBlock = some k → w.heap.size + 1 ≤ k := fun k e => (h.own.lt k e).1
  refine ⟨h.g.touch t (fun b hb e => by have := h.hF b hb; have := hk b e; omega) (fun e => by have := hk _ e; omega), t.toBelow (fun k e => by have := hk k e; omega) h.le h.le.size, h.rv.touch t (fun b hb e => by have := hk b e; omega), ?_, Nat.le_trans h.zl t.size, h.hF⟩
  rw [hxs] at own2
  rw [List.length_append, itCells_append]
  exact own2
end
set_option maxRecDepth 100000 in
set_option maxHeartbeats 4000000 in
theorem item_Step {w : World} {F : Nat → Prop} {vt vn vr : Value} {G : GramD} (h : IsGram w F vt vn vr G) (hF : ∀ b, F b → b < w.heap.size) (st : Int) {v : Value} {l : List It} (hl : RdIt w (fun b => b < w.heap.size) v l) (hsh : mayB G st = true → ShortG G st) (hlen : l.length ≤ 1000000) (s : Int) :
    Calls Tryz.prog 19 #[GV vt vn vr st, v, .int .i64 s] w (ItPost w (if mayB G st = true then canonI (stepsI G st l s) else [])) := by
  obtain ⟨A1, c1, A2, c2, A3, c3, rfl, rfl, rfl, -⟩ := h.slices
  obtain ⟨A, n, c, rfl, -⟩ := id hl
  obtain ⟨hn, hnc, hcm, -⟩ := RdIt.at_ hl
  unfold maxLen at hcm
  obtain ⟨w1, hw1⟩ : ∃ w1, w1 = w.alloc (.cells #[.slice A1 G.terms.length c1, .slice A2 G.nons.length c2, .slice A3 G.rules.length c3, .int .i64 st] 25) := ⟨_, rfl⟩
  have g1 := GBox.new h st
  have b1 : Below w.heap.size w w1 := by rw [hw1]; exact (Below.refl _ w).alloc (Nat.le_refl _) _
  have hz1 : w.heap.size + 1 ≤ w1.heap.size := by rw [hw1]; simp
  rw [← hw1] at g1
  have t1 : PSt w w1 F A1 c1 A2 c2 A3 c3 G.terms.length G.nons.length G.rules.length st G (.slice A n c) l (.slice none 0 0) (stepsI G st (l.take 0) s) := ⟨g1, b1, hl.below b1 (fun k hk => hk), World.ownsRow_nil _ _ _ _, hz1, hF⟩
  have cM := item_may g1.gram st
  have cB := fun wr (g : GBox wr F w.heap.size A1 c1 A2 c2 A3 c3 G.terms.length G.nons.length G.rules.length st G) x => item_behind g.gram st x
  obtain ⟨q0, q1, q2, q3⟩ := g1.cells
  obtain ⟨rs, hrs⟩ : ∃ rs, rs = (if mayB G st = true then canonI (stepsI G st l s) else []) := ⟨_, rfl⟩
  rw [← hrs]
  generalize hmb : mayB G st = mb at *
  generalize G.terms.length = T at *
  generalize G.nons.length = N at *
  generalize G.rules.length = R at *
  have hn2 := hn
  rw [← hn] at hlen
  rw [hw1] at cM q0 q1 q2 q3
  clear g1 b1 h hl hn hF hz1
  have Xt1 := hide t1
  have XcB := hide cB
  have XcM := hide cM
  have Xhsh := hide hsh
  have Xhn2 := hide hn2
  have Xhrs := hide hrs
  have Xhmb := hide hmb
  clear t1 cB cM hsh hn2 hrs hmb
  go_enter Tryz.func19, Tryz.ntmps19
  go_wp2_with fail
  with_reducible refine XcM.out.mono ?_
  rintro e w2 ⟨rfl, b2⟩
  rw [← hw1] at b2
  have t2 := Xt1.out.below b2
  clear hw1 q0 q1 q2 q3 b2 Xt1 XcM
  cases mb with
  | false =>
    have Xt2 := hide t2
    clear t2
    go_wp2_with fail
    go_ret
    rw [Xhrs.out]
    exact ItPost.nil Xt2.out.le
  | true =>
    have Xt2 := hide t2
    clear t2
    go_wp2_with fail
    go_loopw [7, 17] (fun u i wr => ∃ (k : Nat) (o : List It), k ≤ n ∧ i = .int .i64 k ∧ o = stepsI G st (l.take k) s ∧ PSt w wr F A1 c1 A2 c2 A3 c3 T N R st G (.slice A n c) l u o) (fun _ i _ => n - (intOf i).toNat)
    case atStart => exact ⟨0, _, Nat.zero_le _, rfl, rfl, Xt2.out⟩
    case round =>
      clear Xt2
      obtain ⟨k, o, hk, rfl, ho, t⟩ := hrel
      obtain ⟨Au, cu, rfl, -, -⟩ := ownsRow_shape t.own
      have hol : o.length ≤ 1000000 := by rw [ho]; have := steps_len G st (l.take k) s; rw [List.length_take] at this; omega
      by_cases hlt : k < n
      · have hlt' : (k : Int) < (n : Int) := by omega
        obtain ⟨-, -, -, hcell⟩ := RdIt.at_ t.rv
        obtain ⟨b, off, rfl, hbl, hcc⟩ := hcell (by omega)
        obtain ⟨⟨x0, x1⟩, hx⟩ : ∃ x, l[k]? = some x := ⟨_, List.getElem?_eq_getElem (by rw [← Xhn2.out]; exact hlt)⟩
        obtain ⟨p0, p1⟩ := hcc k _ hx
        simp only at p0 p1
        obtain ⟨wb, hwb⟩ : ∃ wb, wb = wr.alloc (.cells #[.int .i64 x0, .int .i64 x1] 34) := ⟨_, rfl⟩
        have bb : Below wr.heap.size wr wb := by rw [hwb]; exact (Below.refl _ _).alloc (Nat.le_refl _) _
        have kb : Blk wb wr.heap.size 34 #[.int .i64 x0, .int .i64 x1] := by rw [hwb]; exact Blk.new _ _ _
        have tb := t.below bb
        have cb := XcB.out _ tb.g (x0, x1)
        obtain ⟨q0, q1, q2, q3⟩ := tb.g.cells
        obtain ⟨⟨y, ok⟩, hy⟩ : ∃ r, r = behindI G st (x0, x1) := ⟨_, rfl⟩
        rw [← hy] at cb
        rw [hwb] at cb q0 q1 q2 q3
        clear hcell hcc bb
        have Xt := hide t
        have Xtb := hide tb
        have Xcb := hide cb
        have Xhx := hide hx
        have Xhy := hide hy
        have Xhbl := hide hbl
        have Xkb := hide kb
        have Xho := hide ho
        clear t tb cb hx hy hbl kb ho
        go_wp2_with fail
        with_reducible refine Xcb.out.mono ?_
        rintro e w5 ⟨rfl, b5⟩
        rw [← hwb] at b5
        have t5 := Xtb.out.below b5
        have k5 := Xkb.out.below b5 Xkb.out.lt
        have d0 := (k5.cell 0).trans rfl
        have d1 := (k5.cell 1).trans rfl
        clear hwb q0 q1 q2 q3 p0 p1 b5 Xt Xtb Xcb Xkb
        cases ok with
        | false =>
          have hno := steps_no (G := G) (st := st) (s := s) Xhx.out (by rw [← Xhy.out]; simp)
          rw [← Xho.out] at hno
          have Xt5 := hide t5
          have Xhno := hide hno
          have Xk5 := hide k5
          clear t5 hno k5
          go_wp2_with fail
          go_roundw
          case rel => exact ⟨k + 1, o, by omega, by go_num, Xhno.out.symm, Xt5.out⟩
          case measure => simp [intOf]; omega
        | true =>
          by_cases hys : y = s
          · subst hys
            have hr := behind_right Xhy.out.symm
            have hyes := steps_yes (G := G) (st := st) Xhx.out Xhy.out.symm
            have hsl := Xhsh.out (by first | rfl | trivial) x0
            obtain ⟨hr1, hr2, -⟩ := hr
            unfold rightI at hr1
            simp only [Bool.and_eq_true, decide_eq_true_eq] at hr1 hr2
            have hw63 : IntKind.i64.wrap (x1 + 1) = x1 + 1 := by rw [IntKind.wrap_i64]; omega
            rw [← Xho.out] at hyes
            simp only at hyes
            have t6 := t5.below ((Below.refl _ w5).alloc (Nat.le_refl _) (.cells #[.int .i64 x0, .int .i64 (x1 + 1)] 34))
            have hone : RdIt (w5.alloc (.cells #[.int .i64 x0, .int .i64 (x1 + 1)] 34)) (fun b => b = w5.heap.size) (.slice (some ⟨w5.heap.size, 0, none⟩) 1 1) [(x0, x1 + 1)] := RdIt.one (w := w5) (e := 34) (x0, x1 + 1)
            have hzz := t6.zl
            clear hr1 hr2 hsl
            have Xt5 := hide t5
            have Xhyes := hide hyes
            have Xk5 := hide k5
            have Xt6 := hide t6
            have Xhone := hide hone
            clear t5 hyes k5 t6 hone
            go_wp2_with (at_builtin; refine wp_append _ rfl (.tmp 33) (.tmp 40) _ rfl Tryz.elemItem (w.heap.size + 1) _ o.length (itCells o) rfl Xt6.out.own _ _ [I64 x0, I64 (x1 + 1)] 1 rfl rfl Xhone.out (itCells_one [(x0, x1 + 1)]) (by unfold maxLen; omega) (by omega) hzz ?_)
            intro A' c' w7 own7 hg7 _
            have t7 := Xt6.out.app (x := (x0, x1 + 1)) own7 rfl hg7
            clear d0 d1 own7 hg7 Xt5 Xt6 hzz hw63 Xhone
            have Xt7 := hide t7
            clear t7
            go_wp2_with fail
            go_roundw
            case rel => exact ⟨k + 1, _, by omega, by go_num, Xhyes.out.symm, by have := Xt7.out; simpa using this⟩
            case measure => simp [intOf]; omega
          · have hys' : (y == s) = false := by simpa using hys
            have hno := steps_no (G := G) (st := st) (s := s) Xhx.out (by rw [← Xhy.out]; simpa using hys)
            rw [← Xho.out] at hno
            have Xt5 := hide t5
            have Xhno := hide hno
            have Xhys := hide hys
            have Xk5 := hide k5
            clear t5 hno hys k5
            go_wp2_with fail
            go_roundw
            case rel => exact ⟨k + 1, o, by omega, by go_num, Xhno.out.symm, Xt5.out⟩
            case measure => simp [intOf]; omega
      · have hlt' : ¬ (k : Int) < (n : Int) := by omega
        have hk' : l.take k = l := List.take_of_length_le (by have := Xhn2.out; omega)
        rw [hk'] at ho
        have Xhrs := hide (show rs = canonI o by rw [Xhrs.out, ho]; rfl)
        have Xho := hide ho
        clear ho
        have hlo := canon_len o
        have cs := item_sorted t.own t.zl rfl (by omega)
        have Xt := hide t
        have Xcs := hide cs
        have Xhk' := hide hk'
        have Xhlo := hide hlo
        clear t cs hk' hlo
        go_wp2_with fail
        refine Xcs.out.mono ?_
        rintro e w6 ⟨A6, n6, c6, rfl, hr6, b6⟩
        have hle := Xt.out.le.trans (b6.mono (Nat.le_succ _))
        clear b6 Xcs
        have Xhr6 := hide hr6
        have Xhle := hide hle
        clear hr6 hle
        go_wp2_with fail
        go_ret
        rw [Xhrs.out]
        exact ⟨A6, n6, c6, rfl, by have := Xhr6.out; first | exact this.mono (fun b hb => ⟨by omega, hb.2⟩), Xhle.out⟩
set_option maxRecDepth 100000 in
set_option maxHeartbeats 4000000 in
theorem item_Kernel {w : World} {F : Nat → Prop} {vt vn vr : Value} {G : GramD} (h : IsGram w F vt vn vr G) (hF : ∀ b, F b → b < w.heap.size) (st : Int) {v : Value} {l : List It} (hl : RdIt w (fun b => b < w.heap.size) v l) (hlen : l.length ≤ 1000000) :
    Calls Tryz.prog 20 #[GV vt vn vr st, v] w (ItPost w (if mayB G st = true then canonI (kernsI G st l) else [])) := by
  obtain ⟨A1, c1, A2, c2, A3, c3, rfl, rfl, rfl, -⟩ := h.slices
  obtain ⟨A, n, c, rfl, -⟩ := id hl
  obtain ⟨hn, hnc, hcm, -⟩ := RdIt.at_ hl
  unfold maxLen at hcm
  obtain ⟨w1, hw1⟩ : ∃ w1, w1 = w.alloc (.cells #[.slice A1 G.terms.length c1, .slice A2 G.nons.length c2, .slice A3 G.rules.length c3, .int .i64 st] 25) := ⟨_, rfl⟩
  have g1 := GBox.new h st
  have b1 : Below w.heap.size w w1 := by rw [hw1]; exact (Below.refl _ w).alloc (Nat.le_refl _) _
  have hz1 : w.heap.size + 1 ≤ w1.heap.size := by rw [hw1]; simp
  rw [← hw1] at g1
  have t1 : PSt w w1 F A1 c1 A2 c2 A3 c3 G.terms.length G.nons.length G.rules.length st G (.slice A n c) l (.slice none 0 0) (if mayB G st = true then kernsI G st (l.take 0) else []) := by
    have : (if mayB G st = true then kernsI G st (l.take 0) else []) = [] := by split <;> rfl
    rw [this]
    exact ⟨g1, b1, hl.below b1 (fun k hk => hk), World.ownsRow_nil _ _ _ _, hz1, hF⟩
  have cM := fun wr (g : GBox wr F w.heap.size A1 c1 A2 c2 A3 c3 G.terms.length G.nons.length G.rules.length st G) => item_may g.gram st
  have cB := fun wr (g : GBox wr F w.heap.size A1 c1 A2 c2 A3 c3 G.terms.length G.nons.length G.rules.length st G) x => item_right g.gram st x
  have hkd : ∀ x0 x1 : Int, kernI G st (x0, x1) = (rightI G st (x0, x1) && (decide (0 < x1) || decide (x0 = (G.rules.length : Int)))) := fun _ _ => rfl
  obtain ⟨rs, hrs⟩ : ∃ rs, rs = (if mayB G st = true then canonI (kernsI G st l) else []) := ⟨_, rfl⟩
  rw [← hrs]
  obtain ⟨kf, hkf⟩ : ∃ kf : Nat → List It, kf = fun k => if mayB G st = true then kernsI G st (l.take k) else [] := ⟨_, rfl⟩
  have hkfl : ∀ k, (kf k).length ≤ k := fun k => by
    rw [hkf]; simp only; split
    · have := kerns_len G st (l.take k); rw [List.length_take] at this; omega
    · simp
  have hkfend : ∀ k, l.length ≤ k → rs = canonI (kf k) := fun k hk => by
    rw [hrs, hkf]; simp only
    split
    · rw [List.take_of_length_le hk]
    · rfl
  have hkfy : ∀ k x, l[k]? = some x → mayB G st = true → kernI G st x = true → kf (k + 1) = kf k ++ [x] := fun k x hx h1 h2 => by
    rw [hkf]; simp only; rw [if_pos h1, if_pos h1]; exact kerns_yes hx h2
  have hkfn : ∀ k x, l[k]? = some x → (mayB G st = true → kernI G st x = false) → kf (k + 1) = kf k := fun k x hx h1 => by
    rw [hkf]; simp only
    split
    · rename_i hm; exact kerns_no hx (h1 hm)
    · rfl
  rw [show (if mayB G st = true then kernsI G st (l.take 0) else []) = kf 0 by rw [hkf]] at t1
  clear hrs hkf
  generalize mayB G st = mb at *
  generalize G.terms.length = T at *
  generalize G.nons.length = N at *
  generalize G.rules.length = R at *
  have hn2 := hn
  rw [← hn] at hlen
  clear g1 b1 h hl hn hF hz1
  have Xt1 := hide t1
  have XcB := hide cB
  have XcM := hide cM
  have Xhn2 := hide hn2
  have Xhkd := hide hkd
  have Xhkfl := hide hkfl
  have Xhkfend := hide hkfend
  have Xhkfy := hide hkfy
  have Xhkfn := hide hkfn
  clear t1 cB cM hn2 hkd hkfl hkfend hkfy hkfn
  go_enter Tryz.func20, Tryz.ntmps20
  go_wp2_with fail
  rw [← hw1]
  go_loopw [5, 10] (fun u i wr => ∃ (k : Nat) (o : List It), k ≤ n ∧ i = .int .i64 k ∧ o = kf k ∧ PSt w wr F A1 c1 A2 c2 A3 c3 T N R st G (.slice A n c) l u o) (fun _ i _ => n - (intOf i).toNat)
  case atStart => exact ⟨0, _, Nat.zero_le _, rfl, rfl, Xt1.out⟩
  case round =>
    clear Xt1
    obtain ⟨k, o, hk, rfl, ho, t⟩ := hrel
    obtain ⟨Au, cu, rfl, -, -⟩ := ownsRow_shape t.own
    have hol : o.length ≤ 1000000 := by rw [ho]; have := Xhkfl.out k; omega
    by_cases hlt : k < n
    · have hlt' : (k : Int) < (n : Int) := by omega
      obtain ⟨-, -, -, hcell⟩ := RdIt.at_ t.rv
      obtain ⟨b, off, rfl, hbl, hcc⟩ := hcell (by omega)
      obtain ⟨⟨x0, x1⟩, hx⟩ : ∃ x, l[k]? = some x := ⟨_, List.getElem?_eq_getElem (by rw [← Xhn2.out]; exact hlt)⟩
      obtain ⟨p0, p1⟩ := hcc k _ hx
      simp only at p0 p1
      obtain ⟨wb, hwb⟩ : ∃ wb, wb = wr.alloc (.cells #[.int .i64 x0, .int .i64 x1] 34) := ⟨_, rfl⟩
      have bb : Below wr.heap.size wr wb := by rw [hwb]; exact (Below.refl _ _).alloc (Nat.le_refl _) _
      have kb : Blk wb wr.heap.size 34 #[.int .i64 x0, .int .i64 x1] := by rw [hwb]; exact Blk.new _ _ _
      have tb := t.below bb
      have cb := XcM.out _ tb.g
      obtain ⟨q0, q1, q2, q3⟩ := tb.g.cells
      rw [hwb] at cb q0 q1 q2 q3
      clear hcell hcc bb
      have Xt := hide t
      have Xtb := hide tb
      have Xcb := hide cb
      have Xhx := hide hx
      have Xhbl := hide hbl
      have Xkb := hide kb
      have Xho := hide ho
      clear t tb cb hx hbl kb ho
      go_wp2_with fail
      with_reducible refine Xcb.out.mono ?_
      rintro e w4 ⟨rfl, b4⟩
      rw [← hwb] at b4
      have t5 := Xtb.out.below b4
      have k5 := Xkb.out.below b4 Xkb.out.lt
      clear hwb q0 q1 q2 q3 p0 p1 b4 Xt Xtb Xcb Xkb
      have d0 := (k5.cell 0).trans rfl
      have d1 := (k5.cell 1).trans rfl
      cases mb with
      | false =>
        have hno := Xhkfn.out k _ Xhx.out (fun e => by cases e)
        rw [← Xho.out] at hno
        have Xt5 := hide t5
        have Xhno := hide hno
        have Xk5 := hide k5
        clear t5 hno k5
        go_wp2_with fail
        go_roundw
        case rel => exact ⟨k + 1, o, by omega, by go_num, Xhno.out.symm, Xt5.out⟩
        case measure => simp [intOf]; omega
      | true =>
        have cb := XcB.out _ t5.g (x0, x1)
        have hkx := Xhkd.out x0 x1
        obtain ⟨rt, hy⟩ : ∃ r, r = rightI G st (x0, x1) := ⟨_, rfl⟩
        rw [← hy] at cb hkx
        obtain ⟨q0, q1, q2, q3⟩ := t5.g.cells
        have Xt5 := hide t5
        have Xk5 := hide k5
        have Xcb := hide cb
        have Xhkx := hide hkx
        have Xhy := hide hy
        clear t5 k5 cb hkx hy
        go_wp2_with fail
        with_reducible refine Xcb.out.mono ?_
        rintro e w5 ⟨rfl, b5⟩
        have t5 := Xt5.out.below b5
        have k5 := Xk5.out.below b5 Xk5.out.lt
        clear d0 d1 q0 q1 q2 q3 b5 Xcb Xt5 Xk5
        have d0 := (k5.cell 0).trans rfl
        have d1 := (k5.cell 1).trans rfl
        obtain ⟨q0, q1, q2, q3⟩ := t5.g.cells
        cases rt with
        | false =>
          have hno := Xhkfn.out k _ Xhx.out (fun _ => by rw [Xhkx.out]; rfl)
          rw [← Xho.out] at hno
          have Xt5 := hide t5
          have Xhno := hide hno
          have Xk5 := hide k5
          clear t5 hno k5
          go_wp2_with fail
          go_roundw
          case rel => exact ⟨k + 1, o, by omega, by go_num, Xhno.out.symm, Xt5.out⟩
          case measure => simp [intOf]; omega
        | true =>
          by_cases hp0 : 0 < x1
          · have hyes := Xhkfy.out k _ Xhx.out (by first | rfl | trivial) (by rw [Xhkx.out, decide_eq_true hp0]; rfl)
            rw [← Xho.out] at hyes
            have Xt5 := hide t5
            have Xhyes := hide hyes
            have Xk5 := hide k5
            clear t5 hyes k5
            have t6 := Xt5.out.below ((Below.refl _ w5).alloc (Nat.le_refl _) (.cells #[.int .i64 x0, .int .i64 x1] 34))
            have hone : RdIt (w5.alloc (.cells #[.int .i64 x0, .int .i64 x1] 34)) (fun b => b = w5.heap.size) (.slice (some ⟨w5.heap.size, 0, none⟩) 1 1) [(x0, x1)] := RdIt.one (w := w5) (e := 34) (x0, x1)
            have hzz := t6.zl
            have Xt6 := hide t6
            have Xhone := hide hone
            clear t6 hone
            go_wp2_with (at_builtin; refine wp_append _ rfl (.tmp 34) (.tmp 36) _ rfl Tryz.elemItem (w.heap.size + 1) _ o.length (itCells o) rfl Xt6.out.own _ _ [I64 x0, I64 x1] 1 rfl rfl Xhone.out (itCells_one [(x0, x1)]) (by unfold maxLen; omega) (by omega) hzz ?_)
            intro A' c' w7 own7 hg7 _
            have t7 := Xt6.out.app (x := (x0, x1)) own7 rfl hg7
            clear d0 d1 own7 hg7 Xt5 Xt6 hzz Xhone
            have Xt7 := hide t7
            clear t7
            go_wp2_with fail
            go_roundw
            case rel => exact ⟨k + 1, _, by omega, by go_num, Xhyes.out.symm, by have := Xt7.out; simpa using this⟩
            case measure => simp [intOf]; omega
          · by_cases hx0 : x0 = (R : Int)
            · have hyes := Xhkfy.out k _ Xhx.out (by first | rfl | trivial) (by rw [Xhkx.out, decide_eq_true hx0]; simp)
              rw [← Xho.out] at hyes
              have hx0' : (x0 == (R : Int)) = true := by simpa using hx0
              have Xt5 := hide t5
              have Xhyes := hide hyes
              have Xk5 := hide k5
              have Xhx0 := hide hx0
              clear t5 hyes k5 hx0
              have t6 := Xt5.out.below ((Below.refl _ w5).alloc (Nat.le_refl _) (.cells #[.int .i64 x0, .int .i64 x1] 34))
              have hone : RdIt (w5.alloc (.cells #[.int .i64 x0, .int .i64 x1] 34)) (fun b => b = w5.heap.size) (.slice (some ⟨w5.heap.size, 0, none⟩) 1 1) [(x0, x1)] := RdIt.one (w := w5) (e := 34) (x0, x1)
              have hzz := t6.zl
              have Xt6 := hide t6
              have Xhone := hide hone
              clear t6 hone
              go_wp2_with (at_builtin; refine wp_append _ rfl (.tmp 34) (.tmp 36) _ rfl Tryz.elemItem (w.heap.size + 1) _ o.length (itCells o) rfl Xt6.out.own _ _ [I64 x0, I64 x1] 1 rfl rfl Xhone.out (itCells_one [(x0, x1)]) (by unfold maxLen; omega) (by omega) hzz ?_)
              intro A' c' w7 own7 hg7 _
              have t7 := Xt6.out.app (x := (x0, x1)) own7 rfl hg7
              clear d0 d1 own7 hg7 Xt5 Xt6 hzz Xhone
              have Xt7 := hide t7
              clear t7
              go_wp2_with fail
              go_roundw
              case rel => exact ⟨k + 1, _, by omega, by go_num, Xhyes.out.symm, by have := Xt7.out; simpa using this⟩
              case measure => simp [intOf]; omega
            · have hno := Xhkfn.out k _ Xhx.out (fun _ => by rw [Xhkx.out, decide_eq_false (by omega), decide_eq_false hx0]; rfl)
              rw [← Xho.out] at hno
              have hx0' : (x0 == (R : Int)) = false := by simpa using hx0
              have Xt5 := hide t5
              have Xhno := hide hno
              have Xk5 := hide k5
              have Xhx0 := hide hx0
              clear t5 hno k5 hx0
              go_wp2_with fail
              go_roundw
              case rel => exact ⟨k + 1, o, by omega, by go_num, Xhno.out.symm, Xt5.out⟩
              case measure => simp [intOf]; omega
    · have hlt' : ¬ (k : Int) < (n : Int) := by omega
      have hk' : True := trivial
      have Xhrs := hide (show rs = canonI o by rw [ho]; exact Xhkfend.out k (by have := Xhn2.out; omega))
      have Xho := hide ho
      clear ho
      have hlo := canon_len o
      have cs := item_sorted t.own t.zl rfl (by omega)
      have Xt := hide t
      have Xcs := hide cs
      have Xhk' := hide hk'
      have Xhlo := hide hlo
      clear t cs hk' hlo
      go_wp2_with fail
      refine Xcs.out.mono ?_
      rintro e w6 ⟨A6, n6, c6, rfl, hr6, b6⟩
      have hle := Xt.out.le.trans (b6.mono (Nat.le_succ _))
      clear b6 Xcs
      have Xhr6 := hide hr6
      have Xhle := hide hle
      clear hr6 hle
      go_wp2_with fail
      go_ret
      rw [Xhrs.out]
      exact ⟨A6, n6, c6, rfl, by have := Xhr6.out; first | exact this.mono (fun b hb => ⟨by omega, hb.2⟩), Xhle.out⟩
end Go.Proofs.YtlpokomfljmogaaGreat

/- Items: Step, Kernel. -/
import Derived.Test.YtlpokomfljmogaaGreatItem8
import Derived.Test.YtlpokomfljmogaaGreatG7
import Derived.DeepKeys4
import Derived.Maps.OwnOps
import Derived.Test.YtlpokomfljmogaaGreatItem5
import Derived.Test.YtlpokomfljmogaaGreatG8
import Derived.Test.YtlpokomfljmogaaGreatG9
namespace Go.Proofs.YtlpokomfljmogaaGreat
set_option linter.unusedVariables false

section
set_option linter.unusedSimpArgs false
open Go.RowKit
attribute [local irreducible] wpStill wpOne wpPh

/-- what a walk over a list carries: the grammar's box, the list, what has been gathered -/
structure PSt (w wr : World) (F : Nat → Prop) (A1 : Option Addr) (c1 : Nat) (A2 : Option Addr) (c2 : Nat) (A3 : Option Addr) (c3 T N R : Nat) (st : Int) (G : GramD) (vl : Value) (l : List It) (vo : Value) (o : List It) : Prop where
  g : GBox wr F w.heap.size A1 c1 A2 c2 A3 c3 T N R st G
  le : Below w.heap.size w wr
  rv : RdIt wr (fun b => b < w.heap.size) vl l
  own : wr.ownsRow (w.heap.size + 1) 34 2 vo o.length (itCells o)
  zl : w.heap.size + 1 ≤ wr.heap.size
  hF : ∀ b, F b → b < w.heap.size
section
variable {w wr wr' : World} {F : Nat → Prop} {A1 : Option Addr} {c1 : Nat} {A2 : Option Addr} {c2 : Nat} {A3 : Option Addr} {c3 T N R : Nat} {st : Int} {G : GramD} {vl : Value} {l : List It} {vo : Value} {o : List It}
theorem PSt.below (h : PSt w wr F A1 c1 A2 c2 A3 c3 T N R st G vl l vo o) (hb : Below wr.heap.size wr wr') : PSt w wr' F A1 c1 A2 c2 A3 c3 T N R st G vl l vo o :=
  ⟨h.g.below hb, h.le.trans (hb.mono h.le.size), h.rv.below hb (fun k hk => Nat.lt_of_lt_of_le hk h.le.size), own_below' h.own hb, Nat.le_trans h.zl hb.size, h.hF⟩
theorem PSt.app {A : Option Addr} {c : Nat} {xs : List Value} {x : It} (h : PSt w wr F A1 c1 A2 c2 A3 c3 T N R st G vl l vo o) (own2 : wr'.ownsRow (w.heap.size + 1) 34 2 (.slice A (o.length + 1) c) (o.length + 1) xs) (hxs : xs = itCells o ++ [I64 x.1, I64 x.2]) (hg : wr.grownBy wr' vo.ownBlock) :
    PSt w wr' F A1 c1 A2 c2 A3 c3 T N R st G vl l (.slice A (o.length + 1) c) (o ++ [x]) := by
  have t : Touch (fun k => vo.ownBlock = some k) wr wr' := (Touch.refl _ _).grown hg (fun k hk _ => hk)
  have hk : ∀ k, vo.ownBlock = some k → w.heap.size + 1 ≤ k := fun k e => (h.own.lt k e).1
  refine ⟨h.g.touch t (fun b hb e => by have := h.hF b hb; have := hk b e; omega) (fun e => by have := hk _ e; omega), t.toBelow (fun k e => by have := hk k e; omega) h.le h.le.size, h.rv.touch t (fun b hb e => by have := hk b e; omega), ?_, Nat.le_trans h.zl t.size, h.hF⟩
  rw [hxs] at own2
  rw [List.length_append, itCells_append]
  exact own2
end
set_option maxRecDepth 100000 in
set_option maxHeartbeats 4000000 in
theorem item_Step {w : World} {F : Nat → Prop} {vt vn vr : Value} {G : GramD} (h : IsGram w F vt vn vr G) (hF : ∀ b, F b → b < w.heap.size) (st : Int) {v : Value} {l : List It} (hl : RdIt w (fun b => b < w.heap.size) v l) (hsh : mayB G st = true → ShortG G st) (hlen : l.length ≤ 1000000) (s : Int) :
    Calls Tryz.prog 19 #[GV vt vn vr st, v, .int .i64 s] w (ItPost w (if mayB G st = true then canonI (stepsI G st l s) else [])) := by
  obtain ⟨A1, c1, A2, c2, A3, c3, rfl, rfl, rfl, -⟩ := h.slices
  obtain ⟨A, n, c, rfl, -⟩ := id hl
  obtain ⟨hn, hnc, hcm, -⟩ := RdIt.at_ hl
  unfold maxLen at hcm
  obtain ⟨w1, hw1⟩ : ∃ w1, w1 = w.alloc (.cells #[.slice A1 G.terms.length c1, .slice A2 G.nons.length c2, .slice A3 G.rules.length c3, .int .i64 st] 25) := ⟨_, rfl⟩
  have g1 := GBox.new h st
  have b1 : Below w.heap.size w w1 := by rw [hw1]; exact (Below.refl _ w).alloc (Nat.le_refl _) _
  have hz1 : w.heap.size + 1 ≤ w1.heap.size := by rw [hw1]; simp
  rw [← hw1] at g1
  have t1 : PSt w w1 F A1 c1 A2 c2 A3 c3 G.terms.length G.nons.length G.rules.length st G (.slice A n c) l (.slice none 0 0) (stepsI G st (l.take 0) s) := ⟨g1, b1, hl.below b1 (fun k hk => hk), World.ownsRow_nil _ _ _ _, hz1, hF⟩
  have cM := item_may g1.gram st
  have cB := fun wr (g : GBox wr F w.heap.size A1 c1 A2 c2 A3 c3 G.terms.length G.nons.length G.rules.length st G) x => item_behind g.gram st x
  obtain ⟨q0, q1, q2, q3⟩ := g1.cells
  obtain ⟨rs, hrs⟩ : ∃ rs, rs = (if mayB G st = true then canonI (stepsI G st l s) else []) := ⟨_, rfl⟩
  rw [← hrs]
  generalize hmb : mayB G st = mb at *
  generalize G.terms.length = T at *
  generalize G.nons.length = N at *
  generalize G.rules.length = R at *
  have hn2 := hn
  rw [← hn] at hlen
  rw [hw1] at cM q0 q1 q2 q3
  clear g1 b1 h hl hn hF hz1
  have Xt1 := hide t1
  have XcB := hide cB
  have XcM := hide cM
  have Xhsh := hide hsh
  have Xhn2 := hide hn2
  have Xhrs := hide hrs
  have Xhmb := hide hmb
  clear t1 cB cM hsh hn2 hrs hmb
  go_enter Tryz.func19, Tryz.ntmps19
  go_wp2_with fail
  with_reducible refine XcM.out.mono ?_
  rintro e w2 ⟨rfl, b2⟩
  rw [← hw1] at b2
  have t2 := Xt1.out.below b2
  clear hw1 q0 q1 q2 q3 b2 Xt1 XcM
  cases mb with
  | false =>
    have Xt2 := hide t2
    clear t2
    go_wp2_with fail
    go_ret
    rw [Xhrs.out]
    exact ItPost.nil Xt2.out.le
  | true =>
    have Xt2 := hide t2
    clear t2
    go_wp2_with fail
    go_loopw [7, 17] (fun u i wr => ∃ (k : Nat) (o : List It), k ≤ n ∧ i = .int .i64 k ∧ o = stepsI G st (l.take k) s ∧ PSt w wr F A1 c1 A2 c2 A3 c3 T N R st G (.slice A n c) l u o) (fun _ i _ => n - (intOf i).toNat)
    case atStart => exact ⟨0, _, Nat.zero_le _, rfl, rfl, Xt2.out⟩
    case round =>
      clear Xt2
      obtain ⟨k, o, hk, rfl, ho, t⟩ := hrel
      obtain ⟨Au, cu, rfl, -, -⟩ := ownsRow_shape t.own
      have hol : o.length ≤ 1000000 := by rw [ho]; have := steps_len G st (l.take k) s; rw [List.length_take] at this; omega
      by_cases hlt : k < n
      · have hlt' : (k : Int) < (n : Int) := by omega
        obtain ⟨-, -, -, hcell⟩ := RdIt.at_ t.rv
        obtain ⟨b, off, rfl, hbl, hcc⟩ := hcell (by omega)
        obtain ⟨⟨x0, x1⟩, hx⟩ : ∃ x, l[k]? = some x := ⟨_, List.getElem?_eq_getElem (by rw [← Xhn2.out]; exact hlt)⟩
        obtain ⟨p0, p1⟩ := hcc k _ hx
        simp only at p0 p1
        obtain ⟨wb, hwb⟩ : ∃ wb, wb = wr.alloc (.cells #[.int .i64 x0, .int .i64 x1] 34) := ⟨_, rfl⟩
        have bb : Below wr.heap.size wr wb := by rw [hwb]; exact (Below.refl _ _).alloc (Nat.le_refl _) _
        have kb : Blk wb wr.heap.size 34 #[.int .i64 x0, .int .i64 x1] := by rw [hwb]; exact Blk.new _ _ _
        have tb := t.below bb
        have cb := XcB.out _ tb.g (x0, x1)
        obtain ⟨q0, q1, q2, q3⟩ := tb.g.cells
        obtain ⟨⟨y, ok⟩, hy⟩ : ∃ r, r = behindI G st (x0, x1) := ⟨_, rfl⟩
        rw [← hy] at cb
        rw [hwb] at cb q0 q1 q2 q3
        clear hcell hcc bb
        have Xt := hide t
        have Xtb := hide tb
        have Xcb := hide cb
        have Xhx := hide hx
        have Xhy := hide hy
        have Xhbl := hide hbl
        have Xkb := hide kb
        have Xho := hide ho
        clear t tb cb hx hy hbl kb ho
        go_wp2_with fail
        with_reducible refine Xcb.out.mono ?_
        rintro e w5 ⟨rfl, b5⟩
        rw [← hwb] at b5
        have t5 := Xtb.out.below b5
        have k5 := Xkb.out.below b5 Xkb.out.lt
        have d0 := (k5.cell 0).trans rfl
        have d1 := (k5.cell 1).trans rfl
        clear hwb q0 q1 q2 q3 p0 p1 b5 Xt Xtb Xcb Xkb
        cases ok with
        | false =>
          have hno := steps_no (G := G) (st := st) (s := s) Xhx.out (by rw [← Xhy.out]; simp)
          rw [← Xho.out] at hno
          have Xt5 := hide t5
          have Xhno := hide hno
          have Xk5 := hide k5
          clear t5 hno k5
          go_wp2_with fail
          go_roundw
          case rel => exact ⟨k + 1, o, by omega, by go_num, Xhno.out.symm, Xt5.out⟩
          case measure => simp [intOf]; omega
        | true =>
          by_cases hys : y = s
          · subst hys
            have hr := behind_right Xhy.out.symm
            have hyes := steps_yes (G := G) (st := st) Xhx.out Xhy.out.symm
            have hsl := Xhsh.out (by first | rfl | trivial) x0
            obtain ⟨hr1, hr2, -⟩ := hr
            unfold rightI at hr1
            simp only [Bool.and_eq_true, decide_eq_true_eq] at hr1 hr2
            have hw63 : IntKind.i64.wrap (x1 + 1) = x1 + 1 := by rw [IntKind.wrap_i64]; omega
            rw [← Xho.out] at hyes
            simp only at hyes
            have t6 := t5.below ((Below.refl _ w5).alloc (Nat.le_refl _) (.cells #[.int .i64 x0, .int .i64 (x1 + 1)] 34))
            have hone : RdIt (w5.alloc (.cells #[.int .i64 x0, .int .i64 (x1 + 1)] 34)) (fun b => b = w5.heap.size) (.slice (some ⟨w5.heap.size, 0, none⟩) 1 1) [(x0, x1 + 1)] := RdIt.one (w := w5) (e := 34) (x0, x1 + 1)
            have hzz := t6.zl
            clear hr1 hr2 hsl
            have Xt5 := hide t5
            have Xhyes := hide hyes
            have Xk5 := hide k5
            have Xt6 := hide t6
            have Xhone := hide hone
            clear t5 hyes k5 t6 hone
            go_wp2_with (at_builtin; refine wp_append _ rfl (.tmp 33) (.tmp 40) _ rfl Tryz.elemItem (w.heap.size + 1) _ o.length (itCells o) rfl Xt6.out.own _ _ [I64 x0, I64 (x1 + 1)] 1 rfl rfl Xhone.out (itCells_one [(x0, x1 + 1)]) (by unfold maxLen; omega) (by omega) hzz ?_)
            intro A' c' w7 own7 hg7 _
            have t7 := Xt6.out.app (x := (x0, x1 + 1)) own7 rfl hg7
            clear d0 d1 own7 hg7 Xt5 Xt6 hzz hw63 Xhone
            have Xt7 := hide t7
            clear t7
            go_wp2_with fail
            go_roundw
            case rel => exact ⟨k + 1, _, by omega, by go_num, Xhyes.out.symm, by have := Xt7.out; simpa using this⟩
            case measure => simp [intOf]; omega
          · have hys' : (y == s) = false := by simpa using hys
            have hno := steps_no (G := G) (st := st) (s := s) Xhx.out (by rw [← Xhy.out]; simpa using hys)
            rw [← Xho.out] at hno
            have Xt5 := hide t5
            have Xhno := hide hno
            have Xhys := hide hys
            have Xk5 := hide k5
            clear t5 hno hys k5
            go_wp2_with fail
            go_roundw
            case rel => exact ⟨k + 1, o, by omega, by go_num, Xhno.out.symm, Xt5.out⟩
            case measure => simp [intOf]; omega
      · have hlt' : ¬ (k : Int) < (n : Int) := by omega
        have hk' : l.take k = l := List.take_of_length_le (by have := Xhn2.out; omega)
        rw [hk'] at ho
        have Xhrs := hide (show rs = canonI o by rw [Xhrs.out, ho]; rfl)
        have Xho := hide ho
        clear ho
        have hlo := canon_len o
        have cs := item_sorted t.own t.zl rfl (by omega)
        have Xt := hide t
        have Xcs := hide cs
        have Xhk' := hide hk'
        have Xhlo := hide hlo
        clear t cs hk' hlo
        go_wp2_with fail
        refine Xcs.out.mono ?_
        rintro e w6 ⟨A6, n6, c6, rfl, hr6, b6⟩
        have hle := Xt.out.le.trans (b6.mono (Nat.le_succ _))
        clear b6 Xcs
        have Xhr6 := hide hr6
        have Xhle := hide hle
        clear hr6 hle
        go_wp2_with fail
        go_ret
        rw [Xhrs.out]
        exact ⟨A6, n6, c6, rfl, by have := Xhr6.out; first | exact this.mono (fun b hb => ⟨by omega, hb.2⟩), Xhle.out⟩
set_option maxRecDepth 100000 in
set_option maxHeartbeats 4000000 in
theorem item_Kernel {w : World} {F : Nat → Prop} {vt vn vr : Value} {G : GramD} (h : IsGram w F vt vn vr G) (hF : ∀ b, F b → b < w.heap.size) (st : Int) {v : Value} {l : List It} (hl : RdIt w (fun b => b < w.heap.size) v l) (hlen : l.length ≤ 1000000) :
    Calls Tryz.prog 20 #[GV vt vn vr st, v] w (ItPost w (if mayB G st = true then canonI (kernsI G st l) else [])) := by
  obtain ⟨A1, c1, A2, c2, A3, c3, rfl, rfl, rfl, -⟩ := h.slices
  obtain ⟨A, n, c, rfl, -⟩ := id hl
  obtain ⟨hn, hnc, hcm, -⟩ := RdIt.at_ hl
  unfold maxLen at hcm
  obtain ⟨w1, hw1⟩ : ∃ w1, w1 = w.alloc (.cells #[.slice A1 G.terms.length c1, .slice A2 G.nons.length c2, .slice A3 G.rules.length c3, .int .i64 st] 25) := ⟨_, rfl⟩
  have g1 := GBox.new h st
  have b1 : Below w.heap.size w w1 := by rw [hw1]; exact (Below.refl _ w).alloc (Nat.le_refl _) _
  have hz1 : w.heap.size + 1 ≤ w1.heap.size := by rw [hw1]; simp
  rw [← hw1] at g1
  have t1 : PSt w w1 F A1 c1 A2 c2 A3 c3 G.terms.length G.nons.length G.rules.length st G (.slice A n c) l (.slice none 0 0) (if mayB G st = true then kernsI G st (l.take 0) else []) := by
    have : (if mayB G st = true then kernsI G st (l.take 0) else []) = [] := by split <;> rfl
    rw [this]
    exact ⟨g1, b1, hl.below b1 (fun k hk => hk), World.ownsRow_nil _ _ _ _, hz1, hF⟩
  have cM := fun wr (g : GBox wr F w.heap.size A1 c1 A2 c2 A3 c3 G.terms.length G.nons.length G.rules.length st G) => item_may g.gram st
  have cB := fun wr (g : GBox wr F w.heap.size A1 c1 A2 c2 A3 c3 G.terms.length G.nons.length G.rules.length st G) x => item_right g.gram st x
  have hkd : ∀ x0 x1 : Int, kernI G st (x0, x1) = (rightI G st (x0, x1) && (decide (0 < x1) || decide (x0 = (G.rules.length : Int)))) := fun _ _ => rfl
  obtain ⟨rs, hrs⟩ : ∃ rs, rs = (if mayB G st = true then canonI (kernsI G st l) else []) := ⟨_, rfl⟩
  rw [← hrs]
  obtain ⟨kf, hkf⟩ : ∃ kf : Nat → List It, kf = fun k => if mayB G st = true then kernsI G st (l.take k) else [] := ⟨_, rfl⟩
  have hkfl : ∀ k, (kf k).length ≤ k := fun k => by
    rw [hkf]; simp only; split
    · have := kerns_len G st (l.take k); rw [List.length_take] at this; omega
    · simp
  have hkfend : ∀ k, l.length ≤ k → rs = canonI (kf k) := fun k hk => by
    rw [hrs, hkf]; simp only
    split
    · rw [List.take_of_length_le hk]
    · rfl
  have hkfy : ∀ k x, l[k]? = some x → mayB G st = true → kernI G st x = true → kf (k + 1) = kf k ++ [x] := fun k x hx h1 h2 => by
    rw [hkf]; simp only; rw [if_pos h1, if_pos h1]; exact kerns_yes hx h2
  have hkfn : ∀ k x, l[k]? = some x → (mayB G st = true → kernI G st x = false) → kf (k + 1) = kf k := fun k x hx h1 => by
    rw [hkf]; simp only
    split
    · rename_i hm; exact kerns_no hx (h1 hm)
    · rfl
  rw [show (if mayB G st = true then kernsI G st (l.take 0) else []) = kf 0 by rw [hkf]] at t1
  clear hrs hkf
  generalize mayB G st = mb at *
  generalize G.terms.length = T at *
  generalize G.nons.length = N at *
  generalize G.rules.length = R at *
  have hn2 := hn
  rw [← hn] at hlen
  clear g1 b1 h hl hn hF hz1
  have Xt1 := hide t1
  have XcB := hide cB
  have XcM := hide cM
  have Xhn2 := hide hn2
  have Xhkd := hide hkd
  have Xhkfl := hide hkfl
  have Xhkfend := hide hkfend
  have Xhkfy := hide hkfy
  have Xhkfn := hide hkfn
  clear t1 cB cM hn2 hkd hkfl hkfend hkfy hkfn
  go_enter Tryz.func20, Tryz.ntmps20
  go_wp2_with fail
  rw [← hw1]
  go_loopw [5, 10] (fun u i wr => ∃ (k : Nat) (o : List It), k ≤ n ∧ i = .int .i64 k ∧ o = kf k ∧ PSt w wr F A1 c1 A2 c2 A3 c3 T N R st G (.slice A n c) l u o) (fun _ i _ => n - (intOf i).toNat)
  case atStart => exact ⟨0, _, Nat.zero_le _, rfl, rfl, Xt1.out⟩
  case round =>
    clear Xt1
    obtain ⟨k, o, hk, rfl, ho, t⟩ := hrel
    obtain ⟨Au, cu, rfl, -, -⟩ := ownsRow_shape t.own
    have hol : o.length ≤ 1000000 := by rw [ho]; have := Xhkfl.out k; omega
    by_cases hlt : k < n
    · have hlt' : (k : Int) < (n : Int) := by omega
      obtain ⟨-, -, -, hcell⟩ := RdIt.at_ t.rv
      obtain ⟨b, off, rfl, hbl, hcc⟩ := hcell (by omega)
      obtain ⟨⟨x0, x1⟩, hx⟩ : ∃ x, l[k]? = some x := ⟨_, List.getElem?_eq_getElem (by rw [← Xhn2.out]; exact hlt)⟩
      obtain ⟨p0, p1⟩ := hcc k _ hx
      simp only at p0 p1
      obtain ⟨wb, hwb⟩ : ∃ wb, wb = wr.alloc (.cells #[.int .i64 x0, .int .i64 x1] 34) := ⟨_, rfl⟩
      have bb : Below wr.heap.size wr wb := by rw [hwb]; exact (Below.refl _ _).alloc (Nat.le_refl _) _
      have kb : Blk wb wr.heap.size 34 #[.int .i64 x0, .int .i64 x1] := by rw [hwb]; exact Blk.new _ _ _
      have tb := t.below bb
      have cb := XcM.out _ tb.g
      obtain ⟨q0, q1, q2, q3⟩ := tb.g.cells
      rw [hwb] at cb q0 q1 q2 q3
      clear hcell hcc bb
      have Xt := hide t
      have Xtb := hide tb
      have Xcb := hide cb
      have Xhx := hide hx
      have Xhbl := hide hbl
      have Xkb := hide kb
      have Xho := hide ho
      clear t tb cb hx hbl kb ho
      go_wp2_with fail
      with_reducible refine Xcb.out.mono ?_
      rintro e w4 ⟨rfl, b4⟩
      rw [← hwb] at b4
      have t5 := Xtb.out.below b4
      have k5 := Xkb.out.below b4 Xkb.out.lt
      clear hwb q0 q1 q2 q3 p0 p1 b4 Xt Xtb Xcb Xkb
      have d0 := (k5.cell 0).trans rfl
      have d1 := (k5.cell 1).trans rfl
      cases mb with
      | false =>
        have hno := Xhkfn.out k _ Xhx.out (fun e => by cases e)
        rw [← Xho.out] at hno
        have Xt5 := hide t5
        have Xhno := hide hno
        have Xk5 := hide k5
        clear t5 hno k5
        go_wp2_with fail
        go_roundw
        case rel => exact ⟨k + 1, o, by omega, by go_num, Xhno.out.symm, Xt5.out⟩
        case measure => simp [intOf]; omega
      | true =>
        have cb := XcB.out _ t5.g (x0, x1)
        have hkx := Xhkd.out x0 x1
        obtain ⟨rt, hy⟩ : ∃ r, r = rightI G st (x0, x1) := ⟨_, rfl⟩
        rw [← hy] at cb hkx
        obtain ⟨q0, q1, q2, q3⟩ := t5.g.cells
        have Xt5 := hide t5
        have Xk5 := hide k5
        have Xcb := hide cb
        have Xhkx := hide hkx
        have Xhy := hide hy
        clear t5 k5 cb hkx hy
        go_wp2_with fail
        with_reducible refine Xcb.out.mono ?_
        rintro e w5 ⟨rfl, b5⟩
        have t5 := Xt5.out.below b5
        have k5 := Xk5.out.below b5 Xk5.out.lt
        clear d0 d1 q0 q1 q2 q3 b5 Xcb Xt5 Xk5
        have d0 := (k5.cell 0).trans rfl
        have d1 := (k5.cell 1).trans rfl
        obtain ⟨q0, q1, q2, q3⟩ := t5.g.cells
        cases rt with
        | false =>
          have hno := Xhkfn.out k _ Xhx.out (fun _ => by rw [Xhkx.out]; rfl)
          rw [← Xho.out] at hno
          have Xt5 := hide t5
          have Xhno := hide hno
          have Xk5 := hide k5
          clear t5 hno k5
          go_wp2_with fail
          go_roundw
          case rel => exact ⟨k + 1, o, by omega, by go_num, Xhno.out.symm, Xt5.out⟩
          case measure => simp [intOf]; omega
        | true =>
          by_cases hp0 : 0 < x1
          · have hyes := Xhkfy.out k _ Xhx.out (by first | rfl | trivial) (by rw [Xhkx.out, decide_eq_true hp0]; rfl)
            rw [← Xho.out] at hyes
            have Xt5 := hide t5
            have Xhyes := hide hyes
            have Xk5 := hide k5
            clear t5 hyes k5
            have t6 := Xt5.out.below ((Below.refl _ w5).alloc (Nat.le_refl _) (.cells #[.int .i64 x0, .int .i64 x1] 34))
            have hone : RdIt (w5.alloc (.cells #[.int .i64 x0, .int .i64 x1] 34)) (fun b => b = w5.heap.size) (.slice (some ⟨w5.heap.size, 0, none⟩) 1 1) [(x0, x1)] := RdIt.one (w := w5) (e := 34) (x0, x1)
            have hzz := t6.zl
            have Xt6 := hide t6
            have Xhone := hide hone
            clear t6 hone
            go_wp2_with (at_builtin; refine wp_append _ rfl (.tmp 34) (.tmp 36) _ rfl Tryz.elemItem (w.heap.size + 1) _ o.length (itCells o) rfl Xt6.out.own _ _ [I64 x0, I64 x1] 1 rfl rfl Xhone.out (itCells_one [(x0, x1)]) (by unfold maxLen; omega) (by omega) hzz ?_)
            intro A' c' w7 own7 hg7 _
            have t7 := Xt6.out.app (x := (x0, x1)) own7 rfl hg7
            clear d0 d1 own7 hg7 Xt5 Xt6 hzz Xhone
            have Xt7 := hide t7
            clear t7
            go_wp2_with fail
            go_roundw
            case rel => exact ⟨k + 1, _, by omega, by go_num, Xhyes.out.symm, by have := Xt7.out; simpa using this⟩
            case measure => simp [intOf]; omega
          · by_cases hx0 : x0 = (R : Int)
            · have hyes := Xhkfy.out k _ Xhx.out (by first | rfl | trivial) (by rw [Xhkx.out, decide_eq_true hx0]; simp)
              rw [← Xho.out] at hyes
              have hx0' : (x0 == (R : Int)) = true := by simpa using hx0
              have Xt5 := hide t5
              have Xhyes := hide hyes
              have Xk5 := hide k5
              have Xhx0 := hide hx0
              clear t5 hyes k5 hx0
              have t6 := Xt5.out.below ((Below.refl _ w5).alloc (Nat.le_refl _) (.cells #[.int .i64 x0, .int .i64 x1] 34))
              have hone : RdIt (w5.alloc (.cells #[.int .i64 x0, .int .i64 x1] 34)) (fun b => b = w5.heap.size) (.slice (some ⟨w5.heap.size, 0, none⟩) 1 1) [(x0, x1)] := RdIt.one (w := w5) (e := 34) (x0, x1)
              have hzz := t6.zl
              have Xt6 := hide t6
              have Xhone := hide hone
              clear t6 hone
              go_wp2_with (at_builtin; refine wp_append _ rfl (.tmp 34) (.tmp 36) _ rfl Tryz.elemItem (w.heap.size + 1) _ o.length (itCells o) rfl Xt6.out.own _ _ [I64 x0, I64 x1] 1 rfl rfl Xhone.out (itCells_one [(x0, x1)]) (by unfold maxLen; omega) (by omega) hzz ?_)
              intro A' c' w7 own7 hg7 _
              have t7 := Xt6.out.app (x := (x0, x1)) own7 rfl hg7
              clear d0 d1 own7 hg7 Xt5 Xt6 hzz Xhone
              have Xt7 := hide t7
              clear t7
              go_wp2_with fail
              go_roundw
              case rel => exact ⟨k + 1, _, by omega, by go_num, Xhyes.out.symm, by have := Xt7.out; simpa using this⟩
              case measure => simp [intOf]; omega
            · have hno := Xhkfn.out k _ Xhx.out (fun _ => by rw [Xhkx.out, decide_eq_false (by omega), decide_eq_false hx0]; rfl)
              rw [← Xho.out] at hno
              have hx0' : (x0 == (R : Int)) = false := by simpa using hx0
              have Xt5 := hide t5
              have Xhno := hide hno
              have Xk5 := hide k5
              have Xhx0 := hide hx0
              clear t5 hno k5 hx0
              go_wp2_with fail
              go_roundw
              case rel => exact ⟨k + 1, o, by omega, by go_num, Xhno.out.symm, Xt5.out⟩
              case measure => simp [intOf]; omega
    · have hlt' : ¬ (k : Int) < (n : Int) := by omega
      have hk' : True := trivial
      have Xhrs := hide (show rs = canonI o by rw [ho]; exact Xhkfend.out k (by have := Xhn2.out; omega))
      have Xho := hide ho
      clear ho
      have hlo := canon_len o
      have cs := item_sorted t.own t.zl rfl (by omega)
      have Xt := hide t
      have Xcs := hide cs
      have Xhk' := hide hk'
      have Xhlo := hide hlo
      clear t cs hk' hlo
      go_wp2_with fail
      refine Xcs.out.mono ?_
      rintro e w6 ⟨A6, n6, c6, rfl, hr6, b6⟩
      have hle := Xt.out.le.trans (b6.mono (Nat.le_succ _))
      clear b6 Xcs
      have Xhr6 := hide hr6
      have Xhle := hide hle
      clear hr6 hle
      go_wp2_with fail
      go_ret
      rw [Xhrs.out]
      exact ⟨A6, n6, c6, rfl, by have := Xhr6.out; first | exact this.mono (fun b hb => ⟨by omega, hb.2⟩), Xhle.out⟩
end

section
set_option linter.unusedSimpArgs false
open Go.RowKit Go.Maps

theorem Tryz.laidOut : laidOutB Tryz.prog = true := by kernel_rfl
theorem Tryz.itemRow : (34 : TypeId) < Tryz.prog.types.size := of_decide_eq_true (by kernel_rfl)
theorem Tryz.itemLaw : WideMaps.KeyLaw Tryz.prog 34 := deep_law_laid Tryz.laidOut (m := 3) (by omega) Tryz.itemRow (by kernel_rfl) (by kernel_rfl)
theorem Tryz.itemKeyed : Keyed Tryz.prog 34 := Keyed.of_law Tryz.itemLaw
theorem Tryz.itemKeyType : Tryz.prog.keyType 34 = true := by kernel_rfl
theorem Tryz.itemCells : Tryz.prog.cellsOf 34 = 2 := by kernel_rfl
theorem Tryz.intCells : Tryz.prog.cellsOf 3 = 1 := by kernel_rfl
theorem wf_i64_mk {n : Int} (h : -9223372036854775808 ≤ n ∧ n ≤ 9223372036854775807) : (Lit.int .i64 n).wf = true := by
  simp [Lit.wf, IntKind.min, IntKind.max, IntKind.signed, IntKind.bits]
  omega
theorem key_item {x : It} (hx : WfI x) : ∃ kl, keyOf Tryz.prog 34 (ItV x) = some kl := by
  have h1 := wf_i64_mk hx.1
  have h2 := wf_i64_mk hx.2
  have hpos : 0 < Tryz.prog.types.size := Nat.lt_of_le_of_lt (Nat.zero_le _) Tryz.itemRow
  obtain ⟨d, hd⟩ := Nat.exists_eq_succ_of_ne_zero (Nat.ne_of_gt hpos)
  have hu := Tryz.underlying34
  have hi := Tryz.underlying3
  have hc := Tryz.itemCells
  have hci := Tryz.intCells
  have hk : ∀ n : Int, (Lit.int .i64 n).wf = true → Tryz.prog.keyLits (d + 1) 3 [.int .i64 n] = some [.int .i64 n] := fun n hn => by
    unfold Program.keyLits
    simp only [hi]
    simp [hn]
  have hf : (ItV x).formed Tryz.prog 34 = true := by simp [Value.formed, hu, hc]
  refine Option.isSome_iff_exists.1 ?_
  unfold keyOf
  simp only [hu]
  rw [Tryz.itemKeyType, hf, hd]
  unfold Program.keyLits
  simp only [hu]
  simp [Value.cells, hc, hci, hk _ h1, hk _ h2]
noncomputable def ikey (x : It) : Lit := (keyOf Tryz.prog 34 (ItV x)).getD (.bool false)
theorem ikey_some {x : It} (hx : WfI x) : keyOf Tryz.prog 34 (ItV x) = some (ikey x) := by
  obtain ⟨kl, h⟩ := key_item hx
  unfold ikey
  rw [h]; rfl
attribute [irreducible] ikey
theorem ikey_inj {x y : It} (hx : WfI x) (hy : WfI y) (h : ikey x = ikey y) : x = y := by
  have e := Tryz.itemKeyed.inj (ikey_some hx) (by rw [h]; exact ikey_some hy)
  injection e with e
  have e1 := congrArg (fun a : Array Value => a[0]?) e
  have e2 := congrArg (fun a : Array Value => a[1]?) e
  simp at e1 e2
  exact Prod.ext e1 e2
/-- what the map holds: the items that are put -/
structure SetMap (D : DataW Unit) (o : List It) : Prop where
  m : Maps.IsMap D
  at_ : ∀ x, WfI x → D.atKey (ikey x) (.lit (.bool false)) = .lit (.bool (decide (x ∈ o)))
theorem SetMap.empty : SetMap (.map []) [] := ⟨⟨[], rfl⟩, fun x _ => rfl⟩
theorem SetMap.put {D : DataW Unit} {o : List It} (h : SetMap D o) {x : It} (hx : WfI x) : SetMap (D.put (ikey x) (.lit (.bool true))) (o ++ [x]) := by
  refine ⟨h.m.put _ _, fun y hy => ?_⟩
  by_cases e : y = x
  · subst e
    rw [Maps.atKey_put_same h.m (Tryz.itemKeyed.key (ikey_some hy))]
    simp
  · rw [Maps.atKey_put_other (fun c => e (ikey_inj hy hx c)), h.at_ y hy]
    simp [e]
set_option maxRecDepth 100000 in
/-- m[x], of such a map -/
theorem SetMap.look {w : World} {b n : Nat} {D : DataW Unit} {o : List It} (h : SetMap D o) (hm : w.ownsMap Tryz.prog 34 (plainElem Tryz.prog 4) b n D) {x : It} (hx : WfI x) :
    (Instr.lookup 87 (.map (some b)) (ItV x) false).run Tryz.prog w = .ok (.bool (decide (x ∈ o))) w := by
  have hz : (zeroValue 4).run Tryz.prog w = .ok (.bool false) w := Tryz.zeroValue4 w
  obtain ⟨v, ps, hrun, hv⟩ := hm.lookup Tryz.itemKeyed Tryz.underlying87 hz (plainElem_bool Tryz.underlying4 false) (ikey_some hx)
  rw [h.at_ x hx] at hv
  generalize decide (x ∈ o) = dd at *
  have hv2 : v = .bool dd := by
    unfold plainElem at hv
    rw [Tryz.underlying4] at hv
    cases v with
    | bool b => simp only [Option.some.injEq, Prod.mk.injEq] at hv; have := hv.1; injection this with this; injection this with this; rw [this]
    | _ => simp at hv
  subst hv2
  exact hrun
end

section
set_option linter.unusedSimpArgs false
open Go.RowKit Go.Maps
attribute [local irreducible] wpStill wpOne wpPh

/-- what stands while items are closed: the map's block s, its variable's box s + 1, the answer's box s + 2, the answer's row behind -/
structure CSt (w wr : World) (F : Nat → Prop) (A1 : Option Addr) (c1 : Nat) (A2 : Option Addr) (c2 : Nat) (A3 : Option Addr) (c3 T N R : Nat) (st : Int) (G : GramD) (vl : Value) (l : List It) (s : Nat) (vo : Value) (o : List It) : Prop where
  g : GBox wr F w.heap.size A1 c1 A2 c2 A3 c3 T N R st G
  le : Below w.heap.size w wr
  rv : RdIt wr (fun b => b < w.heap.size) vl l
  hs : w.heap.size < s
  zl : s + 1 + 1 + 1 ≤ wr.heap.size
  hF : ∀ b, F b → b < w.heap.size
  met : Blk wr (s + 1) 87 #[.map (some s)]
  out : Blk wr (s + 1 + 1) 26 #[vo]
  own : wr.ownsRow (s + 1 + 1 + 1) 34 2 vo o.length (itCells o)
  map : ∃ D : DataW Unit, wr.ownsMap Tryz.prog 34 (plainElem Tryz.prog 4) s o.length D ∧ SetMap D o
section
variable {w wr wr' : World} {F : Nat → Prop} {A1 : Option Addr} {c1 : Nat} {A2 : Option Addr} {c2 : Nat} {A3 : Option Addr} {c3 T N R : Nat} {st : Int} {G : GramD} {vl : Value} {l : List It} {s : Nat} {vo : Value} {o : List It}
theorem CSt.below (h : CSt w wr F A1 c1 A2 c2 A3 c3 T N R st G vl l s vo o) (hb : Below wr.heap.size wr wr') : CSt w wr' F A1 c1 A2 c2 A3 c3 T N R st G vl l s vo o := by
  obtain ⟨D, m1, m2⟩ := h.map
  exact ⟨h.g.below hb, h.le.trans (hb.mono h.le.size), h.rv.below hb (fun k hk => Nat.lt_of_lt_of_le hk h.le.size), h.hs, Nat.le_trans h.zl hb.size, h.hF, h.met.below hb h.met.lt, h.out.below hb h.out.lt, own_below' h.own hb, D, (Touch.of_size hb (fun _ => False)).ownsMap m1 (fun e => e), m2⟩
/-- the map's turn, and all that follows -/
theorem CSt.add {w1 w2 : World} {A : Option Addr} {c : Nat} {x : It} {D : DataW Unit} {X : Obj} (h : CSt w wr F A1 c1 A2 c2 A3 c3 T N R st G vl l s vo o) (hx : WfI x)
    (hD : SetMap D o) (hm : w1.ownsMap Tryz.prog 34 (plainElem Tryz.prog 4) s (o.length + 1) (D.put (ikey x) (.lit (.bool true)))) (g1 : wr.grownBy w1 (some s))
    (own2 : w2.ownsRow (s + 1 + 1 + 1) 34 2 (.slice A (o.length + 1) c) (o.length + 1) (itCells o ++ [I64 x.1, I64 x.2])) (g2 : (w1.alloc X).grownBy w2 vo.ownBlock) :
    CSt w (w2.setCell ⟨s + 1 + 1, 0, none⟩ (.slice A (o.length + 1) c)) F A1 c1 A2 c2 A3 c3 T N R st G vl l s (.slice A (o.length + 1) c) (o ++ [x]) ∧ Touch (fun k => k = s ∨ vo.ownBlock = some k ∨ k = s + 1 + 1) wr (w2.setCell ⟨s + 1 + 1, 0, none⟩ (.slice A (o.length + 1) c)) := by
  have hk : ∀ k, vo.ownBlock = some k → s + 1 + 1 + 1 ≤ k ∧ k < wr.heap.size := fun k e => h.own.lt k e
  have t1 : Touch (fun k => k = s) wr w1 := (Touch.refl _ _).grown g1 (fun k e _ => by injection e with e; exact e.symm)
  have t2 : Touch (fun k => k = s ∨ vo.ownBlock = some k) wr w2 := ((t1.mono (S' := fun k => k = s ∨ vo.ownBlock = some k) (fun _ _ e => .inl e)).alloc X).grown g2 (fun k e _ => .inr e)
  have t3 : Touch (fun k => k = s ∨ vo.ownBlock = some k ∨ k = s + 1 + 1) wr (w2.setCell ⟨s + 1 + 1, 0, none⟩ (.slice A (o.length + 1) c)) := (t2.mono (S' := fun k => k = s ∨ vo.ownBlock = some k ∨ k = s + 1 + 1) (fun _ _ e => e.elim .inl (fun e => .inr (.inl e)))).setCell (p := ⟨s + 1 + 1, 0, none⟩) (fun _ => .inr (.inr rfl)) _
  have hbig : ∀ k, (k = s ∨ vo.ownBlock = some k ∨ k = s + 1 + 1) → s ≤ k ∧ k ≠ s + 1 := fun k e => by
    rcases e with e | e | e
    · omega
    · have := hk k e; omega
    · omega
  have hs := h.hs
  have hsz := t2.size
  have hnS : ∀ k, s < k → k < s + 1 + 1 + 1 → ¬ (k = s ∨ vo.ownBlock = some k) := fun k k1 k2 e => by
    rcases e with e | e
    · omega
    · have := hk k e; omega
  have hmet2 : Blk w2 (s + 1) 87 #[.map (some s)] := h.met.touch t2 (hnS _ (by omega) (by omega))
  have hout2 : Blk w2 (s + 1 + 1) 26 #[vo] := h.out.touch t2 (hnS _ (by omega) (by omega))
  have hm2 : w2.ownsMap Tryz.prog 34 (plainElem Tryz.prog 4) s (o.length + 1) (D.put (ikey x) (.lit (.bool true))) :=
    (((Touch.refl (fun k => vo.ownBlock = some k) w1).alloc X).grown g2 (fun k e _ => e)).ownsMap hm (fun e => by have := hk _ e; omega)
  refine ⟨⟨h.g.touch t3 (fun b hb e => by have := h.hF b hb; have := hbig b e; omega) (fun e => by have := hbig _ e; omega), t3.toBelow (fun k e => by have := hbig k e; omega) h.le h.le.size, h.rv.touch t3 (fun b hb e => by have := hbig b e; omega), hs, Nat.le_trans h.zl t3.size, h.hF, hmet2.far (by simp) _, ?_, ?_, D.put (ikey x) (.lit (.bool true)), ?_, hD.put hx⟩, t3⟩
  · exact hout2.put 0 _
  · rw [List.length_append, itCells_append]
    exact own_far own2 (fun e => by
      have := own2.lt _ e
      simp at this
      omega) _
  · rw [List.length_append]
    exact ((Touch.refl (fun k => k = s + 1 + 1) w2).setCell (p := ⟨s + 1 + 1, 0, none⟩) (fun _ => rfl) _).ownsMap hm2 (fun e => by omega)
end
set_option maxRecDepth 100000 in
set_option maxHeartbeats 4000000 in
theorem put_clo {w wr : World} {F : Nat → Prop} {A1 : Option Addr} {c1 : Nat} {A2 : Option Addr} {c2 : Nat} {A3 : Option Addr} {c3 T N R : Nat} {st : Int} {G : GramD} {vl : Value} {l : List It} {s : Nat} {vo : Value} {o : List It}
    (h : CSt w wr F A1 c1 A2 c2 A3 c3 T N R st G vl l s vo o) (x : It) (hx : WfI x) (hlen : o.length ≤ 500000) :
    Calls Tryz.prog 61 #[ItV x, .pointer (some ⟨s + 1, 0, none⟩), .pointer (some ⟨w.heap.size, 0, none⟩), .pointer (some ⟨s + 1 + 1, 0, none⟩)] wr fun e w' => e = .returned (.tuple #[]) ∧ ∃ vo', CSt w w' F A1 c1 A2 c2 A3 c3 T N R st G vl l s vo' (addI o x (rightI G st x)) ∧ Touch (fun k => k = s ∨ vo.ownBlock = some k ∨ k = s + 1 + 1) wr w' ∧ ∀ k, vo'.ownBlock = some k → vo.ownBlock = some k ∨ wr.heap.size ≤ k := by
  have hadd : addI o x (rightI G st x) = if (!decide (x ∈ o) && rightI G st x) = true then o ++ [x] else o := rfl
  obtain ⟨nx, hnx⟩ : ∃ nx, nx = addI o x (rightI G st x) := ⟨_, rfl⟩
  rw [← hnx] at hadd ⊢
  obtain ⟨x0, x1⟩ := x
  obtain ⟨wb, hwb⟩ : ∃ wb, wb = wr.alloc (.cells #[.int .i64 x0, .int .i64 x1] 34) := ⟨_, rfl⟩
  have bb : Below wr.heap.size wr wb := by rw [hwb]; exact (Below.refl _ _).alloc (Nat.le_refl _) _
  have kb : Blk wb wr.heap.size 34 #[.int .i64 x0, .int .i64 x1] := by rw [hwb]; exact Blk.new _ _ _
  have tb := h.below bb
  obtain ⟨D, m1, m2⟩ := tb.map
  have hlk := m2.look m1 hx
  have cr := item_right tb.g.gram st (x0, x1)
  obtain ⟨q0, q1, q2, q3⟩ := tb.g.cells
  have e0 := (tb.met.cell 0).trans rfl
  obtain ⟨im, him⟩ : ∃ im, im = decide (((x0, x1) : It) ∈ o) := ⟨_, rfl⟩
  obtain ⟨rt, hrt⟩ : ∃ rt, rt = rightI G st (x0, x1) := ⟨_, rfl⟩
  rw [← him, ← hrt] at hadd
  rw [← him] at hlk
  rw [← hrt] at cr
  rw [hwb] at hlk cr q0 q1 q2 q3 e0
  clear h hnx m1 m2
  cases im with
  | true =>
    have hadd : nx = o := by rw [hadd]; rfl
    have t5 := tb
    have b5 := bb
    rw [hwb] at t5 b5
    have Xtb := hide tb
    have Xcr := hide cr
    have Xkb := hide kb
    have Xhadd := hide hadd
    have Xhim := hide him
    have Xhrt := hide hrt
    have Xt5 := hide t5
    have Xb5 := hide b5
    clear tb cr kb hadd him hrt t5 b5
    go_enter Tryz.func61, Tryz.ntmps61
    go_wp2_with fail
    go_end0
    exact ⟨rfl, _, by rw [Xhadd.out]; exact Xt5.out, Touch.of_size Xb5.out _, fun k e => .inl e⟩
  | false =>
    cases rt with
    | false =>
      have hadd : nx = o := by rw [hadd]; rfl
      have Xtb := hide tb
      have Xcr := hide cr
      have Xkb := hide kb
      have Xhadd := hide hadd
      have Xhim := hide him
      have Xhrt := hide hrt
      have Xbb := hide bb
      clear tb cr kb hadd him hrt bb
      go_enter Tryz.func61, Tryz.ntmps61
      go_wp2_with fail
      with_reducible refine Xcr.out.mono ?_
      rintro e w5 ⟨rfl, b5⟩
      rw [← hwb] at b5
      have t5 := Xtb.out.below b5
      have b5 := Xbb.out.trans (b5.mono Xbb.out.size)
      have Xb5 := hide b5
      clear b5
      clear hwb q0 q1 q2 q3 e0 hlk Xtb Xkb Xcr
      have Xt5 := hide t5
      clear t5
      go_wp2_with fail
      go_end0
      exact ⟨rfl, _, by rw [Xhadd.out]; exact Xt5.out, Touch.of_size Xb5.out _, fun k e => .inl e⟩
    | true =>
      have hadd : nx = o ++ [(x0, x1)] := by rw [hadd]; rfl
      have Xtb := hide tb
      have Xcr := hide cr
      have Xkb := hide kb
      have Xhadd := hide hadd
      have Xhim := hide him
      have Xhrt := hide hrt
      have Xbb := hide bb
      clear tb cr kb hadd him hrt bb
      go_enter Tryz.func61, Tryz.ntmps61
      go_wp2_with fail
      with_reducible refine Xcr.out.mono ?_
      rintro e w5 ⟨rfl, b5⟩
      rw [← hwb] at b5
      have t5 := Xtb.out.below b5
      have k5 := Xkb.out.below b5 Xkb.out.lt
      have b5 := Xbb.out.trans (b5.mono Xbb.out.size)
      clear hwb q0 q1 q2 q3 e0 hlk Xtb Xkb Xcr
      have e0 := (t5.met.cell 0).trans rfl
      have d0 := (k5.cell 0).trans rfl
      have d1 := (k5.cell 1).trans rfl
      obtain ⟨D, m1, m2⟩ := t5.map
      have hkey := ikey_some hx
      have Xt5 := hide t5
      have Xk5 := hide k5
      have Xm2 := hide m2
      have Xb5 := hide b5
      clear t5 k5 m2 b5
      go_wp2_with (at_mapUpdate; refine wpList_mapUpdate_own _ rfl _ _ _ 87 rfl 34 4 Tryz.itemKeyed Tryz.underlying87 _ s o.length D rfl m1 (by unfold maxLen; omega) _ _ _ rfl rfl hkey _ [] (plainElem_bool Tryz.underlying4 true) ?_)
      intro w6 m6 g6
      have k6 := Xk5.out.grown g6 (by have := Xk5.out.ne_map m1; simp; exact fun e => this e.symm)
      have o6 := Xt5.out.out.grown g6 (by simp; omega)
      have d0 := (k6.cell 0).trans rfl
      have d1 := (k6.cell 1).trans rfl
      have e1 := (o6.cell 0).trans rfl
      have own6 := own_grown Xt5.out.own g6 (fun k hk e => by injection e with e; have := (Xt5.out.own.lt k hk).1; omega)
      have hone : RdIt (w6.alloc (.cells #[.int .i64 x0, .int .i64 x1] 34)) (fun b => b = w6.heap.size) (.slice (some ⟨w6.heap.size, 0, none⟩) 1 1) [(x0, x1)] := RdIt.one (w := w6) (e := 34) (x0, x1)
      have own7 := own_alloc own6 (.cells #[.int .i64 x0, .int .i64 x1] 34)
      have hz7 : s + 1 + 1 + 1 ≤ (w6.alloc (.cells #[.int .i64 x0, .int .i64 x1] 34)).heap.size := by have h1 := Xt5.out.zl; have h2 := g6.size; simp; omega
      have o7 := o6.alloc (.cells #[.int .i64 x0, .int .i64 x1] 34)
      have Xm6 := hide m6
      have Xg6 := hide g6
      have Xk6 := hide k6
      have Xo6 := hide o6
      have Xhone := hide hone
      have Xown6 := hide own6
      have Xown7 := hide own7
      have Xo7 := hide o7
      have Xm1 := hide m1
      have Xhkey := hide hkey
      clear m6 g6 k6 o6 hone own6 own7 o7 m1 hkey
      go_wp2_with (at_builtin; refine wp_append _ rfl (.tmp 16) (.tmp 18) _ rfl Tryz.elemItem (s + 1 + 1 + 1) _ o.length (itCells o) rfl Xown7.out _ _ [I64 x0, I64 x1] 1 rfl rfl Xhone.out (itCells_one [(x0, x1)]) (by unfold maxLen; omega) (by omega) hz7 ?_)
      intro A8 c8 w8 own8 g8 hb8
      have o8 := Xo7.out.grown g8 (by
        intro e
        have := (Xown7.out.lt _ e.symm).1
        omega)
      obtain ⟨fin, tf⟩ := Xt5.out.add (c := c8) (A := A8) hx Xm2.out Xm6.out Xg6.out own8 g8
      have tf2 := (Touch.of_size Xb5.out (fun k => k = s ∨ vo.ownBlock = some k ∨ k = s + 1 + 1)).trans' tf
      have hnew : ∀ k, (Value.slice A8 (o.length + 1) c8).ownBlock = some k → vo.ownBlock = some k ∨ wr.heap.size ≤ k := fun k e => by
        rcases hb8 with e8 | e8
        · exact .inl (e8 ▸ e)
        · right
          rw [e8] at e
          injection e with e
          have h1 := Xb5.out.size
          have h2 := Xg6.out.size
          rw [← e]
          simp
          omega
      have f0 := (o8.cell 0).trans rfl
      have f1 := o8.frozen 0
      clear d0 d1 e0 e1 own8 g8 hz7 Xt5 Xm6 Xg6 Xk6 Xo6 Xhone Xown6 Xown7 Xo7 Xm1
      have Xo8 := hide o8
      have Xfin := hide fin
      have Xtf2 := hide tf2
      have Xhnew := hide hnew
      clear o8 fin tf2 hnew
      clear tf hb8
      go_wp2_with fail
      go_end0
      exact ⟨rfl, _, by rw [Xhadd.out]; exact Xfin.out, Xtf2.out, Xhnew.out⟩
end

section
set_option linter.unusedSimpArgs false
open Go.RowKit Go.Maps
attribute [local irreducible] wpStill wpOne wpPh

/-- of a grammar that may be -/
structure KnI (G : GramD) (st : Int) : Prop where
  r : G.rules.length ≤ 300
  non : ∀ s k, k ∈ ofOf G s → isNon G s = true
  short : ShortG G st
theorem KnI.of_check {G : GramD} {st : Int} (h : checkOf G st = 0) : KnI G st := by
  obtain ⟨hm, -, -, hk, -, -⟩ := checkOf_zero h
  obtain ⟨-, -, h3, hsh⟩ := manyOf_no hm
  refine ⟨h3, fun s k hs => ?_, fun i => ?_⟩
  · obtain ⟨n, x, -, hx⟩ := of_mem.1 hs
    unfold allKnown at hk
    rw [Bool.and_eq_true, List.all_eq_true] at hk
    have := hk.2 _ (List.mem_of_getElem? hx)
    unfold knownOf at this
    rw [Bool.and_eq_true] at this
    exact this.1
  · unfold shortOf at hsh
    rw [List.all_eq_true] at hsh
    unfold ruleOf
    split
    · simp
    · split
      · simp
      · cases e : G.rules[i.toNat]? with
        | none => simp
        | some r => have := hsh r (List.mem_of_getElem? e); simp at this ⊢; omega
/-- the items that are gathered -/
structure Gat (G : GramD) (st : Int) (l : List It) (M : Nat) (o : List It) : Prop where
  nodup : o.Nodup
  sound : ∀ z ∈ o, Cl G st l z
  bound : missI G st o + o.length ≤ M
theorem Gat.add {G : GramD} {st : Int} {l o : List It} {M : Nat} {x : It} (h : Gat G st l M o) (hx : rightI G st x = true → Cl G st l x) : Gat G st l M (addI o x (rightI G st x)) :=
  ⟨addI_nodup h.nodup, fun z hz => by
    rcases addI_mem.1 hz with hz | ⟨rfl, hr⟩
    · exact h.sound z hz
    · exact hx hr, Nat.le_trans addI_miss h.bound⟩
/-- grown, at its end -/
structure Ext (o o' : List It) : Prop where
  len : o.length ≤ o'.length
  get : ∀ j, j < o.length → o'[j]? = o[j]?
theorem Ext.refl (o : List It) : Ext o o := ⟨Nat.le_refl _, fun _ _ => rfl⟩
theorem Ext.mem {o o' : List It} (h : Ext o o') {x : It} (hx : x ∈ o) : x ∈ o' := by
  obtain ⟨j, hj, e⟩ := List.getElem_of_mem hx
  have := h.get j hj
  rw [List.getElem?_eq_getElem hj, e] at this
  exact List.mem_of_getElem? this
theorem Ext.add {o o' : List It} (h : Ext o o') (x : It) (r : Bool) : Ext o (addI o' x r) := ⟨Nat.le_trans h.len addI_len, fun j hj => (addI_get (Nat.lt_of_lt_of_le hj h.len)).trans (h.get j hj)⟩
section
variable {w : World} {F : Nat → Prop} {A1 : Option Addr} {c1 : Nat} {A2 : Option Addr} {c2 : Nat} {A3 : Option Addr} {c3 T N R : Nat} {st : Int} {G : GramD} {vl : Value} {l : List It}
theorem CSt.start {w2 w3 : World} (g : GBox w2 F w.heap.size A1 c1 A2 c2 A3 c3 T N R st G) (le : Below w.heap.size w w2) (rv : RdIt w2 (fun b => b < w.heap.size) vl l) (hs : w.heap.size < w2.heap.size) (hF : ∀ b, F b → b < w.heap.size)
    (h3 : w3 = ((w2.alloc (.map #[] 0)).alloc (.cells #[.map (some w2.heap.size)] 87)).alloc (.cells #[.slice none 0 0] 26)) : CSt w w3 F A1 c1 A2 c2 A3 c3 T N R st G vl l w2.heap.size (.slice none 0 0) [] := by
  obtain ⟨wa, ha⟩ : ∃ wa, wa = w2.alloc (.map #[] 0) := ⟨_, rfl⟩
  obtain ⟨wb, hb⟩ : ∃ wb, wb = wa.alloc (.cells #[.map (some w2.heap.size)] 87) := ⟨_, rfl⟩
  have sa : wa.heap.size = w2.heap.size + 1 := by rw [ha]; simp
  have sb : wb.heap.size = w2.heap.size + 1 + 1 := by rw [hb]; simp [sa]
  rw [← ha, ← hb] at h3
  have b1 : Below w2.heap.size w2 w3 := by
    rw [h3, hb, ha]
    exact (((Below.refl _ w2).alloc (Nat.le_refl _) _).alloc (by simp) _).alloc (by simp; omega) _
  have kb : Blk wb (w2.heap.size + 1) 87 #[.map (some w2.heap.size)] := by rw [hb, ← sa]; exact Blk.new _ _ _
  have hm : wa.ownsMap Tryz.prog 34 (plainElem (H := Unit) Tryz.prog 4) w2.heap.size 0 (.map []) := by rw [ha]; exact World.ownsMap_made w2 Tryz.prog 34 (plainElem (H := Unit) Tryz.prog 4)
  refine ⟨g.below b1, le.trans (b1.mono le.size), rv.below b1 (fun k hk => Nat.lt_of_lt_of_le hk le.size), hs, by rw [h3]; simp [sb], hF, by rw [h3]; exact kb.alloc _, by rw [h3, ← sb]; exact Blk.new _ _ _, World.ownsRow_nil _ _ _ _, .map [], ?_, SetMap.empty⟩
  rw [h3, hb]
  exact (((Touch.refl (fun _ => False) wa).alloc _).alloc _).ownsMap hm (fun e => e)
end
/-- Close's answer; nothing of a grammar that may not be -/
def MayClose (mb : Bool) (w : World) (G : GramD) (st : Int) (l : List It) (e : Ending) (w' : World) : Prop := if mb = true then ClosePost w G st l e w' else ItPost w [] e w'
theorem wf_small {x : Int} (h0 : 0 ≤ x) (h : x ≤ 1000) : WfI (x, 0) := ⟨⟨by simp only; omega, by simp only; omega⟩, by simp only; omega, by simp only; omega⟩
set_option maxRecDepth 100000 in
set_option maxHeartbeats 8000000 in
theorem item_Close {w : World} {F : Nat → Prop} {vt vn vr : Value} {G : GramD} (h : IsGram w F vt vn vr G) (hF : ∀ b, F b → b < w.heap.size) (st : Int) {v : Value} {l : List It} (hl : RdIt w (fun b => b < w.heap.size) v l) (hwf : ∀ x ∈ l, WfI x) :
    Calls Tryz.prog 18 #[GV vt vn vr st, v] w (MayClose (mayB G st) w G st l) := by
  obtain ⟨A1, c1, A2, c2, A3, c3, rfl, rfl, rfl, -⟩ := h.slices
  obtain ⟨A, n, c, rfl, -⟩ := id hl
  obtain ⟨hn, hnc, hcm, -⟩ := RdIt.at_ hl
  unfold maxLen at hcm
  obtain ⟨w1, hw1⟩ : ∃ w1, w1 = w.alloc (.cells #[.slice A1 G.terms.length c1, .slice A2 G.nons.length c2, .slice A3 G.rules.length c3, .int .i64 st] 25) := ⟨_, rfl⟩
  have g1 := GBox.new h st
  have b1 : Below w.heap.size w w1 := by rw [hw1]; exact (Below.refl _ w).alloc (Nat.le_refl _) _
  have hz1 : w.heap.size < w1.heap.size := by rw [hw1]; simp
  rw [← hw1] at g1
  have rv1 := hl.below b1 (fun k hk => hk)
  have cM := item_may g1.gram st
  have cB := fun wr (g : GBox wr F w.heap.size A1 c1 A2 c2 A3 c3 G.terms.length G.nons.length G.rules.length st G) x => item_behind g.gram st x
  have cN := fun wr (g : GBox wr F w.heap.size A1 c1 A2 c2 A3 c3 G.terms.length G.nons.length G.rules.length st G) s => gram_non g.gram st s
  have cO := fun wr (g : GBox wr F w.heap.size A1 c1 A2 c2 A3 c3 G.terms.length G.nons.length G.rules.length st G) s => gram_of g.gram st s
  have hkn : mayB G st = true → KnI G st ∧ (allIt G st).length ≤ 400000 := fun hm => by
    have hk := KnI.of_check (of_decide_eq_true hm)
    exact ⟨hk, all_len hk.short hk.r⟩
  obtain ⟨M, hM⟩ : ∃ M, M = (allIt G st).length := ⟨_, rfl⟩
  have hM0 : missI G st [] ≤ M := by rw [hM]; unfold missI; exact List.length_filter_le _ _
  rw [← hM] at hkn
  obtain ⟨q0, q1, q2, q3⟩ := g1.cells
  obtain ⟨mb, hmb⟩ : ∃ mb, mb = mayB G st := ⟨_, rfl⟩
  rw [← hmb] at cM hkn ⊢
  generalize G.terms.length = T at *
  generalize G.nons.length = N at *
  generalize hR : G.rules.length = R at *
  have hn2 := hn
  have hmm := @run_makeMap Tryz.prog
  rw [hw1] at cM q0 q1 q2 q3
  clear h hl hn
  have Xg1 := hide g1
  have Xb1 := hide b1
  have Xrv1 := hide rv1
  have Xhz1 := hide hz1
  have XhF := hide hF
  have Xhwf := hide hwf
  have XcM := hide cM
  have XcB := hide cB
  have XcN := hide cN
  have XcO := hide cO
  have Xhkn := hide hkn
  have XhM := hide hM
  have XhM0 := hide hM0
  have Xhn2 := hide hn2
  have XhR := hide hR
  clear g1 b1 rv1 hz1 hF hwf cM cB cN cO hkn hM hM0 hn2 hR
  clear hmb
  go_enter Tryz.func18, Tryz.ntmps18
  go_wp2_with fail
  with_reducible refine XcM.out.mono ?_
  rintro e w2 ⟨rfl, b2⟩
  rw [← hw1] at b2
  have g2 := Xg1.out.below b2
  have le2 := Xb1.out.trans (b2.mono Xb1.out.size)
  have rv2 := Xrv1.out.below b2 (fun k hk => Nat.lt_trans hk Xhz1.out)
  have hz2 : w.heap.size < w2.heap.size := Nat.lt_of_lt_of_le Xhz1.out b2.size
  clear hw1 q0 q1 q2 q3 b2 Xg1 Xb1 Xrv1 Xhz1 XcM
  cases mb with
  | false =>
    have Xg2 := hide g2
    have Xle2 := hide le2
    have Xrv2 := hide rv2
    have Xhz2 := hide hz2
    clear g2 le2 rv2 hz2
    go_wp2_with fail
    go_ret
    exact ItPost.nil Xle2.out
  | true =>
    obtain ⟨hk, hM4⟩ := Xhkn.out (by first | rfl | trivial)
    have t3 := CSt.start g2 le2 rv2 hz2 XhF.out rfl
    have gat3 : Gat G st l M [] := ⟨List.nodup_nil, fun _ h => (by cases h), by have := XhM0.out; simpa using this⟩
    obtain ⟨s, hs⟩ : ∃ s, s = w2.heap.size := ⟨_, rfl⟩
    clear Xhkn g2 le2 rv2
    have Xt3 := hide t3
    have Xgat3 := hide gat3
    have Xhk := hide hk
    have XhM4 := hide hM4
    have Xhs := hide hs
    have Xhz2 := hide hz2
    clear t3 gat3 hk hM4 hs hz2
    go_wp2_with fail
    go_loopw [22] (fun i wr => ∃ (k : Nat) (vo : Value) (o : List It), k ≤ n ∧ i = .int .i64 k ∧ CSt w wr F A1 c1 A2 c2 A3 c3 T N R st G (.slice A n c) l w2.heap.size vo o ∧ Gat G st l M o ∧ ∀ (j : Nat) (x : It), j < k → l[j]? = some x → rightI G st x = true → x ∈ o) (fun i _ => n - (intOf i).toNat)
    case atStart => exact ⟨0, _, [], Nat.zero_le _, rfl, Xt3.out, Xgat3.out, fun j x hj => absurd hj (by omega)⟩
    case round =>
      clear Xt3 Xgat3 hmm
      obtain ⟨k, vo, o, hk1, rfl, t, gat, hb⟩ := hrel
      have hol : o.length ≤ 400000 := by have := gat.bound; have := XhM4.out; omega
      by_cases hlt : k < n
      · have hlt' : (k : Int) < (n : Int) := by omega
        obtain ⟨-, -, -, hcell⟩ := RdIt.at_ t.rv
        obtain ⟨b, off, rfl, hbl, hcc⟩ := hcell (by omega)
        obtain ⟨⟨x0, x1⟩, hx⟩ : ∃ x, l[k]? = some x := ⟨_, List.getElem?_eq_getElem (by rw [← Xhn2.out]; exact hlt)⟩
        obtain ⟨p0, p1⟩ := hcc k _ hx
        simp only at p0 p1
        obtain ⟨wb, hwb⟩ : ∃ wb, wb = wr.alloc (.cells #[.int .i64 x0, .int .i64 x1] 34) := ⟨_, rfl⟩
        have bb : Below wr.heap.size wr wb := by rw [hwb]; exact (Below.refl _ _).alloc (Nat.le_refl _) _
        have tb := t.below bb
        have cp := put_clo tb (x0, x1) (Xhwf.out _ (List.mem_of_getElem? hx)) (by omega)
        have gat2 := gat.add (x := (x0, x1)) (fun hr => Cl.base _ (List.mem_of_getElem? hx) hr)
        have hb2 : ∀ (j : Nat) (x : It), j < k + 1 → l[j]? = some x → rightI G st x = true → x ∈ addI o (x0, x1) (rightI G st (x0, x1)) := fun j x hj hjx hr => by
          by_cases e : j = k
          · subst e; rw [hx] at hjx; injection hjx with hjx; subst hjx; exact addI_mem.2 (.inr ⟨rfl, hr⟩)
          · exact addI_mem.2 (.inl (hb j x (by omega) hjx hr))
        rw [hwb] at cp
        clear hcell hcc bb
        have Xt := hide t
        have Xtb := hide tb
        have Xcp := hide cp
        have Xhx := hide hx
        have Xhbl := hide hbl
        have Xgat := hide gat
        have Xgat2 := hide gat2
        have Xhb := hide hb
        have Xhb2 := hide hb2
        clear t tb cp hx hbl gat gat2 hb hb2
        go_wp2_with fail
        refine Xcp.out.mono ?_
        rintro e w5 ⟨rfl, vo', t5, -, -⟩
        clear hwb p0 p1 Xt Xtb Xcp
        have Xt5 := hide t5
        clear t5
        go_wp2_with fail
        go_roundw
        case rel => exact ⟨k + 1, vo', _, by omega, by go_num, Xt5.out, Xgat2.out, Xhb2.out⟩
        case measure => simp [intOf]; omega
      · have hlt' : ¬ (k : Int) < (n : Int) := by omega
        have hbase : ∀ z ∈ l, rightI G st z = true → z ∈ o := fun z hz hr => by
          obtain ⟨j, hj, e⟩ := List.getElem_of_mem hz
          exact hb j z (by have := Xhn2.out; omega) (by rw [List.getElem?_eq_getElem hj, e]) hr
        clear hb
        have Xt := hide t
        have Xgat := hide gat
        have Xhbase := hide hbase
        clear t gat hbase
        go_wp2_with fail
        go_loopg [10] M (fun κ i wr => ∃ (k : Nat) (vo : Value) (o : List It), i = .int .i64 k ∧ k ≤ o.length ∧ CSt w wr F A1 c1 A2 c2 A3 c3 T N R st G (.slice A n c) l w2.heap.size vo o ∧ Gat G st l M o ∧ (∀ z ∈ l, rightI G st z = true → z ∈ o) ∧ (∀ (j : Nat) (y : It), j < k → o[j]? = some y → DoneI G st o y) ∧ missI G st o + o.length ≤ κ + k)
        case atStart => exact ⟨0, vo, o, rfl, Nat.zero_le _, Xt.out, Xgat.out, Xhbase.out, fun j y hj => absurd hj (by omega), by have := Xgat.out.bound; omega⟩
        case round =>
          clear Xt Xgat Xhbase hlt hlt' hk1 hol
          obtain ⟨k, vo, o, rfl, hko, t, gat, hbase, hd, hκ⟩ := hrel
          have hol : o.length ≤ 400000 := by have := gat.bound; have := XhM4.out; omega
          obtain ⟨Au, cu, rfl, hnu, hcu⟩ := ownsRow_shape t.own
          unfold maxLen at hcu
          have f0 := (t.out.cell 0).trans rfl
          by_cases hlt : k < o.length
          · have hlt' : (k : Int) < (o.length : Int) := by omega
            have hgk : 0 < gk := by omega
            obtain ⟨q0, q1, q2, q3⟩ := t.g.cells
            obtain ⟨-, -, -, hcell⟩ := RdIt.at_ (Rd.of_own t.own)
            obtain ⟨b, off, rfl, -, hcc⟩ := hcell (by omega)
            obtain ⟨⟨x0, x1⟩, hx⟩ : ∃ x, o[k]? = some x := ⟨_, List.getElem?_eq_getElem hlt⟩
            obtain ⟨p0, p1⟩ := hcc k _ hx
            simp only at p0 p1
            have td := t.below ((Below.refl _ wr).drew)
            have cb := XcB.out _ td.g (x0, x1)
            obtain ⟨⟨y, sok⟩, hy⟩ : ∃ r, r = behindI G st (x0, x1) := ⟨_, rfl⟩
            rw [← hy] at cb
            obtain ⟨ol, hol2⟩ : ∃ ol, ol = o.length := ⟨_, rfl⟩
            rw [← hol2] at hlt' hnu f0 hol hlt
            have hlp : (Value.slice (some ⟨b, off, none⟩) o.length cu) = .slice (some ⟨b, off, none⟩) ol cu := by rw [hol2]
            clear hcell hcc
            have Xt := hide t
            have Xtd := hide td
            have Xcb := hide cb
            have Xhx := hide hx
            have Xhy := hide hy
            have Xgat := hide gat
            have Xhbase := hide hbase
            have Xhd := hide hd
            have Xhκ := hide hκ
            have Xhol2 := hide hol2
            have Xhlp := hide hlp
            have Xhko := hide hko
            clear t td cb hx hy gat hbase hd hκ hol2 hlp hko
            go_wp2_with fail
            refine wp_region_held_drew (S := (fun W => W.cell? ⟨w.heap.size, 0, none⟩ = some (.slice A1 T c1) ∧ W.cell? ⟨w.heap.size, 1, none⟩ = some (.slice A2 N c2) ∧ W.cell? ⟨w.heap.size, 2, none⟩ = some (.slice A3 R c3) ∧ W.cell? ⟨w.heap.size, 3, none⟩ = some (.int .i64 st) ∧ W.cell? ⟨w2.heap.size + 1 + 1, 0, none⟩ = some (.slice (some ⟨b, off, none⟩) ol cu) ∧ W.cell? ⟨b, off + k * 2, none⟩ = some (.int .i64 x0) ∧ W.cell? ⟨b, off + k * 2 + 1, none⟩ = some (.int .i64 x1))) (by kernel_rfl) ?_ (fun hHeld => ?_)
            · exact ⟨q0, q1, q2, q3, f0, p0, p1⟩
            refine wpAnyH_take (i := 0) (oi := ?_) (v := ?_) ?_ (by kernel_rfl) (by kernel_rfl) (by kernel_rfl) ?_ (Or.inl ⟨?_, ?_⟩) (by assumption) ?_
            rotate_left 2
            · (try simp only [List.getElem?_toArray, List.getElem?_cons_succ, List.getElem?_cons_zero]); rfl
            · exact fun _ _ _ h => h
            · rfl
            · (intro wS hwS; (try dsimp only at hwS); go_simp; all_goals with_reducible rfl)
            try simp only [Act.put, List.setIfInBounds_toArray, List.set_cons_zero, List.set_cons_succ]
            refine wpAnyH_take (i := 1) (oi := ?_) (v := ?_) ?_ (by kernel_rfl) (by kernel_rfl) (by kernel_rfl) ?_ (Or.inl ⟨?_, ?_⟩) (by assumption) ?_
            rotate_left 2
            · (try simp only [List.getElem?_toArray, List.getElem?_cons_succ, List.getElem?_cons_zero]); rfl
            · exact fun _ _ _ h => h
            · rfl
            · (intro wS hwS; (try dsimp only at hwS); go_simp; all_goals with_reducible rfl)
            try simp only [Act.put, List.setIfInBounds_toArray, List.set_cons_zero, List.set_cons_succ]
            refine wpAnyH_take (i := 2) (oi := ?_) (v := ?_) ?_ (by kernel_rfl) (by kernel_rfl) (by kernel_rfl) ?_ (Or.inl ⟨?_, ?_⟩) (by assumption) ?_
            rotate_left 2
            · (try simp only [List.getElem?_toArray, List.getElem?_cons_succ, List.getElem?_cons_zero]); rfl
            · exact fun _ _ _ h => h
            · rfl
            · (intro wS hwS; (try dsimp only at hwS); go_simp; all_goals with_reducible rfl)
            try simp only [Act.put, List.setIfInBounds_toArray, List.set_cons_zero, List.set_cons_succ]
            refine wpAnyH_take (i := 3) (oi := ?_) (v := ?_) ?_ (by kernel_rfl) (by kernel_rfl) (by kernel_rfl) ?_ (Or.inl ⟨?_, ?_⟩) (by assumption) ?_
            rotate_left 2
            · (try simp only [List.getElem?_toArray, List.getElem?_cons_succ, List.getElem?_cons_zero]); rfl
            · exact fun _ _ _ h => h
            · rfl
            · (intro wS hwS; (try dsimp only at hwS); go_simp; all_goals with_reducible rfl)
            try simp only [Act.put, List.setIfInBounds_toArray, List.set_cons_zero, List.set_cons_succ]
            refine wpAnyH_take (i := 4) (oi := ?_) (v := ?_) ?_ (by kernel_rfl) (by kernel_rfl) (by kernel_rfl) ?_ (Or.inl ⟨?_, ?_⟩) (by assumption) ?_
            rotate_left 2
            · (try simp only [List.getElem?_toArray, List.getElem?_cons_succ, List.getElem?_cons_zero]); rfl
            · exact fun _ _ _ h => h
            · rfl
            · (intro wS hwS; (try dsimp only at hwS); go_simp; all_goals with_reducible rfl)
            try simp only [Act.put, List.setIfInBounds_toArray, List.set_cons_zero, List.set_cons_succ]
            refine wpAnyH_ready (rs := [5]) (by kernel_rfl) (by simp) ?_
            refine AllReadyH.cons (o := ?_) ?_ (fun K hK => ?_) AllReadyH.nil
            rotate_left 1
            · (try simp only [List.getElem?_toArray, List.getElem?_cons_succ, List.getElem?_cons_zero]); rfl
            go_simp
            go_at_call 59
            with_reducible refine Xcb.out.mono ?_
            rintro e w5 ⟨rfl, b5⟩
            have t5 := Xtd.out.below b5
            have f5 := (t5.out.cell 0).trans rfl
            rw [Xhlp.out] at f5
            refine hK.out _ _ ?_ (fun hHeld => ?_)
            · exact ⟨t5.g.cells.1, t5.g.cells.2.1, t5.g.cells.2.2.1, t5.g.cells.2.2.2, f5, (b5.cell (p := ⟨b, off + k * 2, none⟩) (World.block_lt_of_cell? wr _ p0)).trans p0, (b5.cell (p := ⟨b, off + k * 2 + 1, none⟩) (World.block_lt_of_cell? wr _ p1)).trans p1⟩
            clear hK K
            try simp only [Act.put, List.setIfInBounds_toArray, List.set_cons_zero, List.set_cons_succ]
            clear q0 q1 q2 q3 p0 p1 f0 f5 b5 Xt Xtd Xcb
            cases sok with
            | false =>
              have hd2 : ∀ (j : Nat) (z : It), j < k + 1 → o[j]? = some z → DoneI G st o z := fun j z hj hjz => by
                by_cases e : j = k
                · subst e; rw [Xhx.out] at hjz; injection hjz with hjz
                  intro s' q hs' _
                  rw [← hjz, ← Xhy.out] at hs'; cases hs'
                · exact Xhd.out j z (by omega) hjz
              have Xt5 := hide t5
              have Xhd2 := hide hd2
              have Xhgk := hide hgk
              clear t5 hd2 hgk
              refine wpAnyH_take (i := 6) (oi := ?_) (v := ?_) ?_ (by kernel_rfl) (by kernel_rfl) (by kernel_rfl) ?_ (Or.inl ⟨?_, ?_⟩) (by assumption) ?_
              rotate_left 2
              · (try simp only [List.getElem?_toArray, List.getElem?_cons_succ, List.getElem?_cons_zero]); rfl
              · exact fun _ _ _ h => h
              · rfl
              · (intro wS hwS; (try dsimp only at hwS); go_simp; all_goals with_reducible rfl)
              try simp only [Act.put, List.setIfInBounds_toArray, List.set_cons_zero, List.set_cons_succ]
              refine wpAnyH_take (i := 7) (oi := ?_) (v := ?_) ?_ (by kernel_rfl) (by kernel_rfl) (by kernel_rfl) ?_ (Or.inl ⟨?_, ?_⟩) (by assumption) ?_
              rotate_left 2
              · (try simp only [List.getElem?_toArray, List.getElem?_cons_succ, List.getElem?_cons_zero]); rfl
              · exact fun _ _ _ h => h
              · rfl
              · (intro wS hwS; (try dsimp only at hwS); go_simp; all_goals with_reducible rfl)
              try simp only [Act.put, List.setIfInBounds_toArray, List.set_cons_zero, List.set_cons_succ]
              refine wpAnyH_take (i := 8) (oi := ?_) (v := ?_) ?_ (by kernel_rfl) (by kernel_rfl) (by kernel_rfl) ?_ (Or.inl ⟨?_, ?_⟩) (by assumption) ?_
              rotate_left 2
              · (try simp only [List.getElem?_toArray, List.getElem?_cons_succ, List.getElem?_cons_zero]); rfl
              · exact fun _ _ _ h => h
              · rfl
              · (intro wS hwS; (try dsimp only at hwS); go_simp; all_goals with_reducible rfl)
              try simp only [Act.put, List.setIfInBounds_toArray, List.set_cons_zero, List.set_cons_succ]
              refine wpAnyH_take (i := 9) (oi := ?_) (v := ?_) ?_ (by kernel_rfl) (by kernel_rfl) (by kernel_rfl) ?_ (Or.inl ⟨?_, ?_⟩) (by assumption) ?_
              rotate_left 2
              · (try simp only [List.getElem?_toArray, List.getElem?_cons_succ, List.getElem?_cons_zero]); rfl
              · exact fun _ _ _ h => h
              · rfl
              · (intro wS hwS; (try dsimp only at hwS); go_simp; all_goals with_reducible rfl)
              try simp only [Act.put, List.setIfInBounds_toArray, List.set_cons_zero, List.set_cons_succ]
              refine wpAnyH_take (i := 10) (oi := ?_) (v := ?_) ?_ (by kernel_rfl) (by kernel_rfl) (by kernel_rfl) ?_ (Or.inl ⟨?_, ?_⟩) (by assumption) ?_
              rotate_left 2
              · (try simp only [List.getElem?_toArray, List.getElem?_cons_succ, List.getElem?_cons_zero]); rfl
              · exact fun _ _ _ h => h
              · rfl
              · (intro wS hwS; (try dsimp only at hwS); go_simp; all_goals with_reducible rfl)
              try simp only [Act.put, List.setIfInBounds_toArray, List.set_cons_zero, List.set_cons_succ]
              refine wpAnyH_done (by kernel_rfl) ?_ _
              clear hHeld
              go_wp2_with fail
              go_roundg (gk - 1)
              case measure => have := Xhgk.out; omega
              case rel => exact ⟨k + 1, _, o, by go_num, by have := Xhol2.out; omega, Xt5.out, Xgat.out, Xhbase.out, Xhd2.out, by have := Xhκ.out; have := Xhgk.out; omega⟩
            | true =>
              have cn := XcN.out _ t5.g y
              obtain ⟨q0, q1, q2, q3⟩ := t5.g.cells
              obtain ⟨nb, hnb⟩ : ∃ nb, nb = isNon G y := ⟨_, rfl⟩
              rw [← hnb] at cn
              have Xt5 := hide t5
              have Xcn := hide cn
              have Xhnb := hide hnb
              have Xhgk := hide hgk
              clear t5 cn hnb hgk
              refine wpAnyH_take (i := 6) (oi := ?_) (v := ?_) ?_ (by kernel_rfl) (by kernel_rfl) (by kernel_rfl) ?_ (Or.inl ⟨?_, ?_⟩) (by assumption) ?_
              rotate_left 2
              · (try simp only [List.getElem?_toArray, List.getElem?_cons_succ, List.getElem?_cons_zero]); rfl
              · exact fun _ _ _ h => h
              · rfl
              · (intro wS hwS; (try dsimp only at hwS); go_simp; all_goals with_reducible rfl)
              try simp only [Act.put, List.setIfInBounds_toArray, List.set_cons_zero, List.set_cons_succ]
              refine wpAnyH_take (i := 7) (oi := ?_) (v := ?_) ?_ (by kernel_rfl) (by kernel_rfl) (by kernel_rfl) ?_ (Or.inl ⟨?_, ?_⟩) (by assumption) ?_
              rotate_left 2
              · (try simp only [List.getElem?_toArray, List.getElem?_cons_succ, List.getElem?_cons_zero]); rfl
              · exact fun _ _ _ h => h
              · rfl
              · (intro wS hwS; (try dsimp only at hwS); go_simp; all_goals with_reducible rfl)
              try simp only [Act.put, List.setIfInBounds_toArray, List.set_cons_zero, List.set_cons_succ]
              refine wpAnyH_take (i := 8) (oi := ?_) (v := ?_) ?_ (by kernel_rfl) (by kernel_rfl) (by kernel_rfl) ?_ (Or.inl ⟨?_, ?_⟩) (by assumption) ?_
              rotate_left 2
              · (try simp only [List.getElem?_toArray, List.getElem?_cons_succ, List.getElem?_cons_zero]); rfl
              · exact fun _ _ _ h => h
              · rfl
              · (intro wS hwS; (try dsimp only at hwS); go_simp; all_goals with_reducible rfl)
              try simp only [Act.put, List.setIfInBounds_toArray, List.set_cons_zero, List.set_cons_succ]
              refine wpAnyH_take (i := 9) (oi := ?_) (v := ?_) ?_ (by kernel_rfl) (by kernel_rfl) (by kernel_rfl) ?_ (Or.inl ⟨?_, ?_⟩) (by assumption) ?_
              rotate_left 2
              · (try simp only [List.getElem?_toArray, List.getElem?_cons_succ, List.getElem?_cons_zero]); rfl
              · exact fun _ _ _ h => h
              · rfl
              · (intro wS hwS; (try dsimp only at hwS); go_simp; all_goals with_reducible rfl)
              try simp only [Act.put, List.setIfInBounds_toArray, List.set_cons_zero, List.set_cons_succ]
              refine wpAnyH_take (i := 10) (oi := ?_) (v := ?_) ?_ (by kernel_rfl) (by kernel_rfl) (by kernel_rfl) ?_ (Or.inl ⟨?_, ?_⟩) (by assumption) ?_
              rotate_left 2
              · (try simp only [List.getElem?_toArray, List.getElem?_cons_succ, List.getElem?_cons_zero]); rfl
              · exact fun _ _ _ h => h
              · rfl
              · (intro wS hwS; (try dsimp only at hwS); go_simp; all_goals with_reducible rfl)
              try simp only [Act.put, List.setIfInBounds_toArray, List.set_cons_zero, List.set_cons_succ]
              refine wpAnyH_done (by kernel_rfl) ?_ _
              clear hHeld
              go_wp2_with fail
              with_reducible refine Xcn.out.mono ?_
              rintro e w6 ⟨rfl, b6⟩
              have t6 := Xt5.out.below b6
              clear q0 q1 q2 q3 b6 Xt5 Xcn
              cases nb with
              | false =>
                have hd2 : ∀ (j : Nat) (z : It), j < k + 1 → o[j]? = some z → DoneI G st o z := fun j z hj hjz => by
                  by_cases e : j = k
                  · subst e; rw [Xhx.out] at hjz; injection hjz with hjz
                    intro s' q hs' hq
                    rw [← hjz, ← Xhy.out] at hs'
                    injection hs' with hs' _
                    subst hs'
                    have := Xhk.out.non _ _ hq
                    rw [← Xhnb.out] at this; cases this
                  · exact Xhd.out j z (by omega) hjz
                have Xt6 := hide t6
                have Xhd2 := hide hd2
                clear t6 hd2
                go_wp2_with fail
                go_roundg (gk - 1)
                case measure => have := Xhgk.out; omega
                case rel => exact ⟨k + 1, _, o, by go_num, by have := Xhol2.out; omega, Xt6.out, Xgat.out, Xhbase.out, Xhd2.out, by have := Xhκ.out; have := Xhgk.out; omega⟩
              | true =>
                have co := XcO.out _ t6.g y
                obtain ⟨q0, q1, q2, q3⟩ := t6.g.cells
                have Xt6 := hide t6
                have Xco := hide co
                clear t6 co
                go_wp2_with fail
                with_reducible refine Xco.out.mono ?_
                rintro e w7 ⟨Ar, cr, rfl, hown, b7⟩
                have t7 := Xt6.out.below b7
                obtain ⟨rs, hrs⟩ : ∃ rs, rs = ofOf G y := ⟨_, rfl⟩
                rw [← hrs] at hown
                have hrl : (ofOf G y).length = rs.length := by rw [hrs]
                rw [hrl]
                have hrd : RdI w7 (fun b => w6.heap.size ≤ b ∧ b < w7.heap.size) (.slice Ar rs.length cr) rs := (Rd.of_own hown).mono (fun q hq => hown.lt q hq)
                obtain ⟨-, hrnc, hrcm, -⟩ := RdI.at_ hrd
                unfold maxLen at hrcm
                have hrm : ∀ r ∈ rs, r ∈ ofOf G y := fun r hr => by rw [← hrs]; exact hr
                have hvo : ∀ q, (Value.slice (some ⟨b, off, none⟩) o.length cu).ownBlock = some q → q < w6.heap.size ∨ w7.heap.size ≤ q := fun q hq => .inl (Xt6.out.own.lt q hq).2
                have hz6 := Xt6.out.zl
                have hz7 := b7.size
                clear q0 q1 q2 q3 b7 Xt6 Xco hown hrl
                have Xt7 := hide t7
                have Xhrd := hide hrd
                have Xhrs := hide hrs
                have Xhrm := hide hrm
                have Xhvo := hide hvo
                have Xhz6 := hide hz6
                have Xhz7 := hide hz7
                clear t7 hrd hrs hrm hvo hz6 hz7
                go_wp2_with fail
                go_loopw [57] (fun i wr => ∃ (q : Nat) (vo' : Value) (o' : List It), q ≤ rs.length ∧ i = .int .i64 q ∧ CSt w wr F A1 c1 A2 c2 A3 c3 T N R st G (.slice A n c) l w2.heap.size vo' o' ∧ Gat G st l M o' ∧ Ext o o' ∧ missI G st o' + o'.length ≤ missI G st o + o.length ∧ (∀ (j : Nat) (r : Int), j < q → rs[j]? = some r → ((r, 0) : It) ∈ o') ∧ RdI wr (fun b => w6.heap.size ≤ b ∧ b < w7.heap.size) (.slice Ar rs.length cr) rs ∧ (∀ z, vo'.ownBlock = some z → z < w6.heap.size ∨ w7.heap.size ≤ z) ∧ w7.heap.size ≤ wr.heap.size) (fun i _ => rs.length - (intOf i).toNat)
                case atStart => exact ⟨0, _, o, Nat.zero_le _, rfl, Xt7.out, Xgat.out, Ext.refl o, Nat.le_refl _, fun j r hj => absurd hj (by omega), Xhrd.out, Xhvo.out, Nat.le_refl _⟩
                case round =>
                  clear Xt7 Xhrd Xhvo
                  obtain ⟨q, vo', o', hq, rfl, t, gat', ext, hmis, hin, hrd, hvo, hz⟩ := hrel
                  by_cases hlq : q < rs.length
                  · have hlq' : (q : Int) < (rs.length : Int) := by omega
                    obtain ⟨-, -, -, hcr⟩ := RdI.at_ hrd
                    obtain ⟨b2, o2, rfl, hb2, hc2⟩ := hcr (by omega)
                    obtain ⟨r, hr⟩ : ∃ r, rs[q]? = some r := ⟨_, List.getElem?_eq_getElem hlq⟩
                    have hcr2 := hc2 q r hr
                    have hro := Xhrm.out r (List.mem_of_getElem? hr)
                    have hlow := new_low hro
                    have hol' : o'.length ≤ 500000 := by have := gat'.bound; have := XhM4.out; omega
                    have cp := put_clo t (r, 0) (wf_small hlow.1 (by have := Xhk.out.r; omega)) hol'
                    have gat2 := gat'.add (x := (r, 0)) (fun _ => Cl.next _ y r (Xgat.out.sound (x0, x1) (List.mem_of_getElem? Xhx.out)) Xhy.out.symm hro)
                    have ext2 := ext.add (r, 0) (rightI G st (r, 0))
                    have hmis2 := Nat.le_trans (addI_miss (G := G) (st := st) (o := o') (x := (r, 0))) hmis
                    have hin2 : ∀ (j : Nat) (z : Int), j < q + 1 → rs[j]? = some z → ((z, 0) : It) ∈ addI o' (r, 0) (rightI G st (r, 0)) := fun j z hj hjz => by
                      by_cases e : j = q
                      · subst e; rw [hr] at hjz; injection hjz with hjz; subst hjz; exact addI_mem.2 (.inr ⟨rfl, right_new hro⟩)
                      · exact addI_mem.2 (.inl (hin j z (by omega) hjz))
                    clear hc2 hcr hlow
                    have Xt := hide t
                    have Xhrd := hide hrd
                    have Xhr := hide hr
                    have Xcp := hide cp
                    have Xgat' := hide gat'
                    have Xext := hide ext
                    have Xhmis := hide hmis
                    have Xhin := hide hin
                    have Xhvo := hide hvo
                    have Xhz := hide hz
                    have Xgat2 := hide gat2
                    have Xext2 := hide ext2
                    have Xhmis2 := hide hmis2
                    have Xhin2 := hide hin2
                    have Xhro := hide hro
                    have Xhb2 := hide hb2
                    clear t hrd hr cp gat' ext hmis hin hvo hz gat2 ext2 hmis2 hin2 hro hb2
                    go_wp2_with fail
                    refine Xcp.out.mono ?_
                    rintro e w8 ⟨rfl, vo2, t8, tt8, hv8⟩
                    have hrd8 := Xhrd.out.touch tt8 (fun z hz e => by
                      have h6 := Xhz6.out
                      rcases e with e | e | e
                      · omega
                      · have := Xhvo.out z e; omega
                      · omega)
                    have hvo8 : ∀ z, vo2.ownBlock = some z → z < w6.heap.size ∨ w7.heap.size ≤ z := fun z hz => (hv8 z hz).elim (Xhvo.out z) (fun e => .inr (Nat.le_trans Xhz.out e))
                    have hz8 := Nat.le_trans Xhz.out tt8.size
                    clear tt8 hv8 hcr2 Xt Xhrd Xcp Xhvo Xhz
                    have Xt8 := hide t8
                    have Xhrd8 := hide hrd8
                    have Xhvo8 := hide hvo8
                    have Xhz8 := hide hz8
                    clear t8 hrd8 hvo8 hz8
                    go_wp2_with fail
                    go_roundw
                    case rel => exact ⟨q + 1, vo2, _, by omega, by go_num, Xt8.out, Xgat2.out, Xext2.out, Xhmis2.out, Xhin2.out, Xhrd8.out, Xhvo8.out, Xhz8.out⟩
                    case measure => simp [intOf]; omega
                  · have hlq' : ¬ (q : Int) < (rs.length : Int) := by omega
                    have hd2 : ∀ (j : Nat) (z : It), j < k + 1 → o'[j]? = some z → DoneI G st o' z := fun j z hj hjz => by
                      have hjo : j < o.length := by have := Xhol2.out; omega
                      rw [ext.get j hjo] at hjz
                      by_cases e : j = k
                      · subst e; rw [Xhx.out] at hjz; injection hjz with hjz
                        intro s' r' hs' hr'
                        rw [← hjz, ← Xhy.out] at hs'
                        injection hs' with hs' _
                        subst hs'
                        rw [← Xhrs.out] at hr'
                        obtain ⟨m, hm, em⟩ := List.getElem_of_mem hr'
                        exact hin m r' (by omega) (by rw [List.getElem?_eq_getElem hm, em])
                      · intro s' r' hs' hr'
                        exact ext.mem (Xhd.out j z (by omega) hjz s' r' hs' hr')
                    have hb2 : ∀ z ∈ l, rightI G st z = true → z ∈ o' := fun z hz hr => ext.mem (Xhbase.out z hz hr)
                    have hlen2 : k + 1 ≤ o'.length := by have := ext.len; have := Xhol2.out; omega
                    have Xt := hide t
                    have Xgat' := hide gat'
                    have Xhmis := hide hmis
                    have Xhd2 := hide hd2
                    have Xhb2 := hide hb2
                    have Xhlen2 := hide hlen2
                    have Xhrd := hide hrd
                    have Xhvo := hide hvo
                    have Xhz := hide hz
                    have Xext := hide ext
                    have Xhin := hide hin
                    clear t gat' hmis hd2 hb2 hlen2 hrd hvo hz ext hin
                    go_wp2_with fail
                    go_roundg (gk - 1)
                    case measure => have := Xhgk.out; omega
                    case rel => exact ⟨k + 1, vo', o', by go_num, Xhlen2.out, Xt.out, Xgat'.out, Xhb2.out, Xhd2.out, by have := Xhκ.out; have := Xhgk.out; have := Xhmis.out; omega⟩
          · have hlt' : ¬ (k : Int) < (o.length : Int) := by omega
            have hcl : IsCl G st l (canonI o) := ClSt.is (i := k) ⟨gat.nodup, gat.sound, hbase, fun j y s' r' hj hjy hs' hr' => hd j y hj hjy s' r' hs' hr'⟩ (by omega)
            have cs := item_sorted t.own t.zl rfl (by omega)
            have hlo := t.hs
            have Xt := hide t
            have Xgat := hide gat
            have Xhbase := hide hbase
            have Xhd := hide hd
            have Xhκ := hide hκ
            have Xcs := hide cs
            have Xhcl := hide hcl
            have Xhlo := hide hlo
            have Xhko := hide hko
            clear t gat hbase hd hκ cs hcl hlo hko
            go_wp2_with fail
            refine Xcs.out.mono ?_
            rintro e w6 ⟨A6, n6, c6, rfl, hr6, b6⟩
            have hle := Xt.out.le.trans (b6.mono (by have := Xhlo.out; omega))
            clear b6 Xcs
            have Xhr6 := hide hr6
            have Xhle := hide hle
            clear hr6 hle
            go_wp2_with fail
            go_ret
            exact ⟨canonI o, Xhcl.out, A6, n6, c6, rfl, by have := Xhr6.out; have h2 := Xhlo.out; exact this.mono (fun b hb => ⟨by omega, hb.2⟩), Xhle.out⟩
end
end Go.Proofs.YtlpokomfljmogaaGreat

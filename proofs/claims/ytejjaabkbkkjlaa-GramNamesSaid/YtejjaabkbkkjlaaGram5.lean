/- slices.EqualFunc at rules; gram.Same and the reference's. -/
import Derived.Test.YtejjaabkbkkjlaaGram4
import Derived.Shelf.Abstract
namespace Go.Proofs.Ytejjaabkbkkjlaa
set_option linter.unusedVariables false
open Go.RowKit

theorem Try.enters_same : ∀ args w, (callFunc 83 args).run Try.prog w = .ok (.enter 83 args) w := enters_of Try.func83 (by kernel_rfl) rfl

abbrev RdR (w : World) (F : Nat → Prop) (v : Value) (rs : List (Int × List Int)) : Prop := RdL w F 2 (ERule w F) v rs
theorem RdR.below {w w' : World} {F : Nat → Prop} {v : Value} {rs : List (Int × List Int)} (h : RdR w F v rs) (hb : Below w.heap.size w w') (hF : ∀ b, F b → b < w.heap.size) : RdR w' F v rs :=
  RdL.below h hb hF fun cs x _ e => e.below hb hF

/-- a rule's cells, in any later world -/
theorem RdR.get {w wr : World} {F : Nat → Prop} {b off n : Nat} {rs : List (Int × List Int)} (hF : ∀ b, F b → b < w.heap.size) (hb : F b) (hw : Below w.heap.size w wr)
    (hc : ∀ (k : Nat) (r : Int × List Int), rs[k]? = some r → ∃ v, w.cell? ⟨b, off + k * 2, none⟩ = some (.int .i64 r.1) ∧ w.cell? ⟨b, off + k * 2 + 1, none⟩ = some v ∧ RdI w F v r.2) {k : Nat} (hk : k < rs.length) :
    ∃ l xs v, rs[k]? = some (l, xs) ∧ wr.cell? ⟨b, off + k * 2, none⟩ = some (.int .i64 l) ∧ wr.cell? ⟨b, off + k * 2 + 1, none⟩ = some v ∧ RdI wr F v xs := by
  obtain ⟨v, h1, h2, h3⟩ := hc k _ (List.getElem?_eq_getElem hk)
  refine ⟨_, _, v, List.getElem?_eq_getElem hk, ?_, ?_, h3.below hw hF⟩
  · rw [hw.cell (p := ⟨b, _, none⟩) (hF b hb)]; exact h1
  · rw [hw.cell (p := ⟨b, _, none⟩) (hF b hb)]; exact h2

set_option maxHeartbeats 2000000 in
theorem equal_rules {w : World} {F G : Nat → Prop} {v u : Value} {xs ys : List (Int × List Int)} (h : RdR w F v xs) (g : RdR w G u ys) (hF : ∀ b, F b → b < w.heap.size) (hG : ∀ b, G b → b < w.heap.size) :
    Calls Try.prog 96 #[v, u, .func (.func 83) #[] #[]] w (Quiet w (.bool (decide (xs = ys)))) := by
  obtain ⟨A, c, rfl, _⟩ := id h
  obtain ⟨B, d, rfl, _⟩ := id g
  obtain ⟨hn, hnc, hcm, hcell⟩ := ERule.at_ h
  obtain ⟨hm, hmd, hdm, hcell'⟩ := ERule.at_ g
  obtain ⟨n, en⟩ : ∃ n, n = xs.length := ⟨_, rfl⟩
  obtain ⟨m, em⟩ : ∃ m, m = ys.length := ⟨_, rfl⟩
  have HN := hide en
  have HM := hide em
  rw [← en] at hnc hcell ⊢
  rw [← em] at hmd hcell' ⊢
  unfold maxLen at hcm hdm
  have eg := Try.enters_same
  clear h g hn hm en em
  by_cases hnm : n = m
  · subst hnm
    go_enter Try.func96, Try.ntmps96
    go_wp2
    go_loopw [17] (fun i wr => ∃ k : Nat, k ≤ n ∧ i = .int .i64 k ∧ Below w.heap.size w wr ∧ ∀ j : Nat, j < k → xs[j]? = ys[j]?) (fun i _ => n - (intOf i).toNat)
    case atStart => exact ⟨0, Nat.zero_le _, rfl, Below.refl _ _, fun j hj => absurd hj (by omega)⟩
    case round =>
      obtain ⟨k, hk, rfl, hw, hbefore⟩ := hrel
      have HB := hide hbefore
      have HW := hide hw
      clear hbefore
      by_cases hlt : k < n
      · obtain ⟨b, off, rfl, hb, hc⟩ := hcell (by omega)
        obtain ⟨b', off', rfl, hb', hc'⟩ := hcell' (by omega)
        obtain ⟨l, x, vx, hx, hx0, hx1, hxr⟩ := RdR.get (n := n) hF hb hw hc (k := k) (by rw [← HN.out]; omega)
        obtain ⟨l', y, vy, hy, hy0, hy1, hyr⟩ := RdR.get (n := n) hG hb' hw hc' (k := k) (by rw [← HM.out]; omega)
        obtain ⟨A5, n5, c5, rfl, _⟩ := id hxr
        obtain ⟨A6, n6, c6, rfl, _⟩ := id hyr
        have lb := Nat.lt_of_lt_of_le (hF b hb) hw.size
        have lb' := Nat.lt_of_lt_of_le (hG b' hb') hw.size
        have hy0' := fun o => cell_a hy0 o
        have hy1' := fun o => cell_a hy1 o
        have B2 : Below wr.heap.size wr ((wr.alloc (.cells #[.int .i64 l, .slice A5 n5 c5] 30)).alloc (.cells #[.int .i64 l', .slice A6 n6 c6] 30)) := ((Below.refl _ wr).alloc (Nat.le_refl _) _).alloc (by simp) _
        have hs := same_rule (l := l) (m := l') (hxr.below B2 (fun b e => Nat.lt_of_lt_of_le (hF b e) hw.size)) (hyr.below B2 (fun b e => Nat.lt_of_lt_of_le (hG b e) hw.size)) (fun b e => Nat.lt_of_lt_of_le (Nat.lt_of_lt_of_le (hF b e) hw.size) (by simp; omega)) (fun b e => Nat.lt_of_lt_of_le (Nat.lt_of_lt_of_le (hG b e) hw.size) (by simp; omega))
        have HS := hide hs
        have HX := hide hx
        have HY := hide hy
        have HB2 := hide B2
        clear hcell hc hx hcell' hc' hy hs hxr hyr B2 hw hF hG
        by_cases he : (l, x) = (l', y)
        · have HE := hide he
          have hd : decide ((l, x) = (l', y)) = true := by simpa using he
          rw [hd] at HS
          clear he hd
          go_wp2_with (go_at_call 83; refine HS.out.mono ?_; rintro e w1 ⟨rfl, b1⟩)
          go_roundw
          case rel =>
            refine ⟨k + 1, by omega, by go_num, HW.out.trans ((HB2.out.trans (b1.mono (by simp; omega))).mono HW.out.size), fun j hj => ?_⟩
            by_cases hjk : j = k
            · subst hjk; rw [HX.out, HY.out, HE.out]
            · exact HB.out j (by omega)
          case measure => simp [intOf]; omega
        · have HE := hide he
          have hd : decide ((l, x) = (l', y)) = false := by simpa using he
          rw [hd] at HS
          clear he hd
          go_wp2_with (go_at_call 83; refine HS.out.mono ?_; rintro e w1 ⟨rfl, b1⟩)
          go_ret
          refine ⟨ret_bool ?_, HW.out.trans ((HB2.out.trans (b1.mono (by simp; omega))).mono HW.out.size)⟩
          symm
          rw [decide_eq_false_iff_not]
          rintro rfl
          rw [HX.out] at HY
          have := HY.out
          injection this with this
          exact HE.out this
      · go_wp2
        go_ret
        refine ⟨ret_bool ?_, HW.out⟩
        symm
        rw [decide_eq_true_eq]
        apply List.ext_getElem?
        intro j
        by_cases hj : j < n
        · exact HB.out j (by omega)
        · rw [List.getElem?_eq_none (by rw [← HN.out]; omega), List.getElem?_eq_none (by rw [← HM.out]; omega)]
  · have hne : ((n : Int) == (m : Int)) = false := by simpa using (by omega : ¬ (n : Int) = (m : Int))
    go_enter Try.func96, Try.ntmps96
    go_wp2
    go_ret
    refine ⟨ret_bool ?_, Below.refl _ _⟩
    symm
    rw [decide_eq_false_iff_not]
    rintro rfl
    exact hnm (by rw [HN.out, HM.out])
end Go.Proofs.Ytejjaabkbkkjlaa

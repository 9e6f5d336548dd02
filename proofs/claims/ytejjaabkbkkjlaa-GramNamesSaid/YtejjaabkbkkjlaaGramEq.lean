/- Two lists, are they the same: of texts and of numbers; of the program and of the reference. (Printed by wip/tools/gen_eq.py.) -/
import Derived.Test.YtejjaabkbkkjlaaGram2
namespace Go.Proofs.Ytejjaabkbkkjlaa
set_option linter.unusedVariables false
open Go.RowKit

theorem equal_strs {w : World} {F G : Nat → Prop} {v u : Value} {xs ys : List ByteArray} (h : RdS w F v xs) (g : RdS w G u ys) :
    Calls Try.prog 95 #[v, u] w (Quiet w (.bool (decide (xs = ys)))) := by
  obtain ⟨A, n, c, rfl, _⟩ := id h
  obtain ⟨B, m, d, rfl, _⟩ := id g
  obtain ⟨hn, hnc, hcm, hcell⟩ := h.at_
  obtain ⟨hm, hmd, hdm, hcell'⟩ := g.at_
  unfold maxLen at hcm hdm
  by_cases hnm : n = m
  · subst hnm
    have HN := hide hn
    have HM := hide hm
    clear hn hm
    go_enter Try.func95, Try.ntmps95
    go_wp2
    go_loopw [13] (fun i wr => ∃ k q : Nat, k ≤ n ∧ i = .int .i64 k ∧ wr = w.drewN q ∧ ∀ j : Nat, j < k → xs[j]? = ys[j]?) (fun i _ => n - (intOf i).toNat)
    case atStart => exact ⟨0, 0, Nat.zero_le _, rfl, rfl, fun j hj => absurd hj (by omega)⟩
    case round =>
      obtain ⟨k, q, hk, rfl, rfl, hbefore⟩ := hrel
      have HB := hide hbefore
      clear hbefore
      by_cases hlt : k < n
      · obtain ⟨b, off, rfl, _, hc⟩ := hcell (by omega)
        obtain ⟨b', off', rfl, _, hc'⟩ := hcell' (by omega)
        obtain ⟨x, hx⟩ : ∃ x, xs[k]? = some x := ⟨_, List.getElem?_eq_getElem (by rw [← HN.out]; omega)⟩
        obtain ⟨y, hy⟩ : ∃ y, ys[k]? = some y := ⟨_, List.getElem?_eq_getElem (by rw [← HM.out]; omega)⟩
        have hcx := hc k x hx
        have hcy := hc' k y hy
        have HX := hide hx
        have HY := hide hy
        clear hcell hc hx hcell' hc' hy
        by_cases he : x = y
        · have HE := hide he
          have he' : (x.toList == y.toList) = true := by subst he; simp
          clear he
          go_wp2_with fail
          go_quiet (fail)
          go_wp2
          go_roundw
          case rel =>
            refine ⟨k + 1, q + nq, by omega, by go_num, rfl, fun j hj => ?_⟩
            by_cases hjk : j = k
            · subst hjk; rw [HX.out, HY.out, HE.out]
            · exact HB.out j (by omega)
          case measure => simp [intOf]; omega
        · have HE := hide he
          have he' : (x.toList == y.toList) = false := by simpa using (fun e => he (toList_inj e))
          clear he
          go_wp2_with fail
          go_quiet (fail)
          go_wp2
          go_ret
          refine ⟨ret_bool ?_, ⟨rfl, rfl, rfl, Nat.le_refl _, fun _ _ => rfl⟩⟩
          symm
          rw [decide_eq_false_iff_not]
          rintro rfl
          rw [HX.out] at HY
          have := HY.out
          injection this with this
          exact HE.out this
      · go_wp2
        go_ret
        refine ⟨ret_bool ?_, ⟨rfl, rfl, rfl, Nat.le_refl _, fun _ _ => rfl⟩⟩
        symm
        rw [decide_eq_true_eq]
        apply List.ext_getElem?
        intro j
        by_cases hj : j < n
        · exact HB.out j (by omega)
        · rw [List.getElem?_eq_none (by rw [← HN.out]; omega), List.getElem?_eq_none (by rw [← HM.out]; omega)]
  · have hne : ((n : Int) == (m : Int)) = false := by simpa using (by omega : ¬ (n : Int) = (m : Int))
    have HN := hide hn
    have HM := hide hm
    clear hn hm
    go_enter Try.func95, Try.ntmps95
    go_wp2
    go_ret
    refine ⟨ret_bool ?_, ⟨rfl, rfl, rfl, Nat.le_refl _, fun _ _ => rfl⟩⟩
    symm
    rw [decide_eq_false_iff_not]
    rintro rfl
    exact hnm (by rw [HN.out, HM.out])

theorem equal_ints {w : World} {F G : Nat → Prop} {v u : Value} {xs ys : List Int} (h : RdI w F v xs) (g : RdI w G u ys) :
    Calls Try.prog 137 #[v, u] w (Quiet w (.bool (decide (xs = ys)))) := by
  obtain ⟨A, n, c, rfl, _⟩ := id h
  obtain ⟨B, m, d, rfl, _⟩ := id g
  obtain ⟨hn, hnc, hcm, hcell⟩ := h.at_
  obtain ⟨hm, hmd, hdm, hcell'⟩ := g.at_
  unfold maxLen at hcm hdm
  by_cases hnm : n = m
  · subst hnm
    have HN := hide hn
    have HM := hide hm
    clear hn hm
    go_enter Try.func137, Try.ntmps137
    go_wp2
    go_loopw [13] (fun i wr => ∃ k q : Nat, k ≤ n ∧ i = .int .i64 k ∧ wr = w.drewN q ∧ ∀ j : Nat, j < k → xs[j]? = ys[j]?) (fun i _ => n - (intOf i).toNat)
    case atStart => exact ⟨0, 0, Nat.zero_le _, rfl, rfl, fun j hj => absurd hj (by omega)⟩
    case round =>
      obtain ⟨k, q, hk, rfl, rfl, hbefore⟩ := hrel
      have HB := hide hbefore
      clear hbefore
      by_cases hlt : k < n
      · obtain ⟨b, off, rfl, _, hc⟩ := hcell (by omega)
        obtain ⟨b', off', rfl, _, hc'⟩ := hcell' (by omega)
        obtain ⟨x, hx⟩ : ∃ x, xs[k]? = some x := ⟨_, List.getElem?_eq_getElem (by rw [← HN.out]; omega)⟩
        obtain ⟨y, hy⟩ : ∃ y, ys[k]? = some y := ⟨_, List.getElem?_eq_getElem (by rw [← HM.out]; omega)⟩
        have hcx := hc k x hx
        have hcy := hc' k y hy
        have HX := hide hx
        have HY := hide hy
        clear hcell hc hx hcell' hc' hy
        by_cases he : x = y
        · have HE := hide he
          have he' : (x == y) = true := by subst he; simp
          clear he
          go_wp2_with fail
          go_quiet (fail)
          go_wp2
          go_roundw
          case rel =>
            refine ⟨k + 1, q + nq, by omega, by go_num, rfl, fun j hj => ?_⟩
            by_cases hjk : j = k
            · subst hjk; rw [HX.out, HY.out, HE.out]
            · exact HB.out j (by omega)
          case measure => simp [intOf]; omega
        · have HE := hide he
          have he' : (x == y) = false := by simpa using he
          clear he
          go_wp2_with fail
          go_quiet (fail)
          go_wp2
          go_ret
          refine ⟨ret_bool ?_, ⟨rfl, rfl, rfl, Nat.le_refl _, fun _ _ => rfl⟩⟩
          symm
          rw [decide_eq_false_iff_not]
          rintro rfl
          rw [HX.out] at HY
          have := HY.out
          injection this with this
          exact HE.out this
      · go_wp2
        go_ret
        refine ⟨ret_bool ?_, ⟨rfl, rfl, rfl, Nat.le_refl _, fun _ _ => rfl⟩⟩
        symm
        rw [decide_eq_true_eq]
        apply List.ext_getElem?
        intro j
        by_cases hj : j < n
        · exact HB.out j (by omega)
        · rw [List.getElem?_eq_none (by rw [← HN.out]; omega), List.getElem?_eq_none (by rw [← HM.out]; omega)]
  · have hne : ((n : Int) == (m : Int)) = false := by simpa using (by omega : ¬ (n : Int) = (m : Int))
    have HN := hide hn
    have HM := hide hm
    clear hn hm
    go_enter Try.func137, Try.ntmps137
    go_wp2
    go_ret
    refine ⟨ret_bool ?_, ⟨rfl, rfl, rfl, Nat.le_refl _, fun _ _ => rfl⟩⟩
    symm
    rw [decide_eq_false_iff_not]
    rintro rfl
    exact hnm (by rw [HN.out, HM.out])

theorem ref_same_strs {w : World} {F G : Nat → Prop} {v u : Value} {xs ys : List ByteArray} (h : RdS w F v xs) (g : RdS w G u ys) :
    Calls Try.prog 97 #[v, u] w (Quiet w (.bool (decide (xs = ys)))) := by
  obtain ⟨A, n, c, rfl, _⟩ := id h
  obtain ⟨B, m, d, rfl, _⟩ := id g
  obtain ⟨hn, hnc, hcm, hcell⟩ := h.at_
  obtain ⟨hm, hmd, hdm, hcell'⟩ := g.at_
  unfold maxLen at hcm hdm
  by_cases hnm : n = m
  · subst hnm
    have HN := hide hn
    have HM := hide hm
    clear hn hm
    go_enter Try.func97, Try.ntmps97
    go_wp2
    go_loopw [5] (fun i wr => ∃ k q : Nat, k ≤ n ∧ i = .int .i64 k ∧ wr = w.drewN q ∧ ∀ j : Nat, j < k → xs[j]? = ys[j]?) (fun i _ => n - (intOf i).toNat)
    case atStart => exact ⟨0, 0, Nat.zero_le _, rfl, rfl, fun j hj => absurd hj (by omega)⟩
    case round =>
      obtain ⟨k, q, hk, rfl, rfl, hbefore⟩ := hrel
      have HB := hide hbefore
      clear hbefore
      by_cases hlt : k < n
      · obtain ⟨b, off, rfl, _, hc⟩ := hcell (by omega)
        obtain ⟨b', off', rfl, _, hc'⟩ := hcell' (by omega)
        obtain ⟨x, hx⟩ : ∃ x, xs[k]? = some x := ⟨_, List.getElem?_eq_getElem (by rw [← HN.out]; omega)⟩
        obtain ⟨y, hy⟩ : ∃ y, ys[k]? = some y := ⟨_, List.getElem?_eq_getElem (by rw [← HM.out]; omega)⟩
        have hcx := hc k x hx
        have hcy := hc' k y hy
        have HX := hide hx
        have HY := hide hy
        clear hcell hc hx hcell' hc' hy
        by_cases he : x = y
        · have HE := hide he
          have he' : (x.toList == y.toList) = true := by subst he; simp
          clear he
          go_wp2_with fail
          go_quiet (fail)
          go_wp2
          go_roundw
          case rel =>
            refine ⟨k + 1, q + nq, by omega, by go_num, rfl, fun j hj => ?_⟩
            by_cases hjk : j = k
            · subst hjk; rw [HX.out, HY.out, HE.out]
            · exact HB.out j (by omega)
          case measure => simp [intOf]; omega
        · have HE := hide he
          have he' : (x.toList == y.toList) = false := by simpa using (fun e => he (toList_inj e))
          clear he
          go_wp2_with fail
          go_quiet (fail)
          go_wp2
          go_ret
          refine ⟨ret_bool ?_, ⟨rfl, rfl, rfl, Nat.le_refl _, fun _ _ => rfl⟩⟩
          symm
          rw [decide_eq_false_iff_not]
          rintro rfl
          rw [HX.out] at HY
          have := HY.out
          injection this with this
          exact HE.out this
      · go_wp2
        go_ret
        refine ⟨ret_bool ?_, ⟨rfl, rfl, rfl, Nat.le_refl _, fun _ _ => rfl⟩⟩
        symm
        rw [decide_eq_true_eq]
        apply List.ext_getElem?
        intro j
        by_cases hj : j < n
        · exact HB.out j (by omega)
        · rw [List.getElem?_eq_none (by rw [← HN.out]; omega), List.getElem?_eq_none (by rw [← HM.out]; omega)]
  · have hne : ((n : Int) == (m : Int)) = false := by simpa using (by omega : ¬ (n : Int) = (m : Int))
    have HN := hide hn
    have HM := hide hm
    clear hn hm
    go_enter Try.func97, Try.ntmps97
    go_wp2
    go_ret
    refine ⟨ret_bool ?_, ⟨rfl, rfl, rfl, Nat.le_refl _, fun _ _ => rfl⟩⟩
    symm
    rw [decide_eq_false_iff_not]
    rintro rfl
    exact hnm (by rw [HN.out, HM.out])

theorem ref_ints {w : World} {F G : Nat → Prop} {v u : Value} {xs ys : List Int} (h : RdI w F v xs) (g : RdI w G u ys) :
    Calls Try.prog 33 #[v, u] w (Quiet w (.bool (decide (xs = ys)))) := by
  obtain ⟨A, n, c, rfl, _⟩ := id h
  obtain ⟨B, m, d, rfl, _⟩ := id g
  obtain ⟨hn, hnc, hcm, hcell⟩ := h.at_
  obtain ⟨hm, hmd, hdm, hcell'⟩ := g.at_
  unfold maxLen at hcm hdm
  by_cases hnm : n = m
  · subst hnm
    have HN := hide hn
    have HM := hide hm
    clear hn hm
    go_enter Try.func33, Try.ntmps33
    go_wp2
    go_loopw [5] (fun i wr => ∃ k q : Nat, k ≤ n ∧ i = .int .i64 k ∧ wr = w.drewN q ∧ ∀ j : Nat, j < k → xs[j]? = ys[j]?) (fun i _ => n - (intOf i).toNat)
    case atStart => exact ⟨0, 0, Nat.zero_le _, rfl, rfl, fun j hj => absurd hj (by omega)⟩
    case round =>
      obtain ⟨k, q, hk, rfl, rfl, hbefore⟩ := hrel
      have HB := hide hbefore
      clear hbefore
      by_cases hlt : k < n
      · obtain ⟨b, off, rfl, _, hc⟩ := hcell (by omega)
        obtain ⟨b', off', rfl, _, hc'⟩ := hcell' (by omega)
        obtain ⟨x, hx⟩ : ∃ x, xs[k]? = some x := ⟨_, List.getElem?_eq_getElem (by rw [← HN.out]; omega)⟩
        obtain ⟨y, hy⟩ : ∃ y, ys[k]? = some y := ⟨_, List.getElem?_eq_getElem (by rw [← HM.out]; omega)⟩
        have hcx := hc k x hx
        have hcy := hc' k y hy
        have HX := hide hx
        have HY := hide hy
        clear hcell hc hx hcell' hc' hy
        by_cases he : x = y
        · have HE := hide he
          have he' : (x == y) = true := by subst he; simp
          clear he
          go_wp2_with fail
          go_quiet (fail)
          go_wp2
          go_roundw
          case rel =>
            refine ⟨k + 1, q + nq, by omega, by go_num, rfl, fun j hj => ?_⟩
            by_cases hjk : j = k
            · subst hjk; rw [HX.out, HY.out, HE.out]
            · exact HB.out j (by omega)
          case measure => simp [intOf]; omega
        · have HE := hide he
          have he' : (x == y) = false := by simpa using he
          clear he
          go_wp2_with fail
          go_quiet (fail)
          go_wp2
          go_ret
          refine ⟨ret_bool ?_, ⟨rfl, rfl, rfl, Nat.le_refl _, fun _ _ => rfl⟩⟩
          symm
          rw [decide_eq_false_iff_not]
          rintro rfl
          rw [HX.out] at HY
          have := HY.out
          injection this with this
          exact HE.out this
      · go_wp2
        go_ret
        refine ⟨ret_bool ?_, ⟨rfl, rfl, rfl, Nat.le_refl _, fun _ _ => rfl⟩⟩
        symm
        rw [decide_eq_true_eq]
        apply List.ext_getElem?
        intro j
        by_cases hj : j < n
        · exact HB.out j (by omega)
        · rw [List.getElem?_eq_none (by rw [← HN.out]; omega), List.getElem?_eq_none (by rw [← HM.out]; omega)]
  · have hne : ((n : Int) == (m : Int)) = false := by simpa using (by omega : ¬ (n : Int) = (m : Int))
    have HN := hide hn
    have HM := hide hm
    clear hn hm
    go_enter Try.func33, Try.ntmps33
    go_wp2
    go_ret
    refine ⟨ret_bool ?_, ⟨rfl, rfl, rfl, Nat.le_refl _, fun _ _ => rfl⟩⟩
    symm
    rw [decide_eq_false_iff_not]
    rintro rfl
    exact hnm (by rw [HN.out, HM.out])

end Go.Proofs.Ytejjaabkbkkjlaa

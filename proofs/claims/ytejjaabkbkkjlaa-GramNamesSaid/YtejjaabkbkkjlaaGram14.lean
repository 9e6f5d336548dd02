/- cmp.Less, slices.IsSorted at numbers. -/
import Derived.Test.YtejjaabkbkkjlaaGram13
namespace Go.Proofs.Ytejjaabkbkkjlaa
set_option linter.unusedVariables false
open Go.RowKit

theorem quiet_left {P : Program} {f : FuncId} {args : Array Value} {w : World} {n : Nat} {v : Value}
    (h : Calls P f args (w.drewN n) fun e w' => e = .returned v ∧ w.drewN n = w') : Calls P f args (w.drewN n) fun e w' => e = .returned v ∧ ∃ m, w' = w.drewN m :=
  h.mono fun _ _ ⟨he, hw⟩ => ⟨he, n, hw.symm⟩

theorem quiet_left2 {P : Program} {f : FuncId} {args : Array Value} {w : World} {q n : Nat} {v : Value}
    (h : Calls P f args (w.drewN (q + n)) fun e w' => e = .returned v ∧ w.drewN (q + n) = w') : Calls P f args (w.drewN (q + n)) fun e w' => e = .returned v ∧ ∃ m, w' = w.drewN (q + m) :=
  h.mono fun _ _ ⟨he, hw⟩ => ⟨he, n, hw.symm⟩

theorem less_int {w : World} (a b : Int) : Calls Try.prog 140 #[.int .i64 a, .int .i64 b] w fun e w' => e = .returned (.bool (decide (a < b))) ∧ w = w' := by
  have ha : (a == a) = true := by simp
  have hb : (b == b) = true := by simp
  go_enter Try.func140, Try.ntmps140
  go_wp2
  go_ret
  exact ⟨rfl, rfl⟩

/-- no next one is less -/
def sortedL (l : List Int) : Bool := (List.range (l.length - 1)).all (fun j => !decide (l[j + 1]?.getD 0 < l[j]?.getD 0))
theorem sortedL_iff {l : List Int} : sortedL l = true ↔ ∀ j : Nat, j + 1 < l.length → ¬ (l[j + 1]?.getD 0 < l[j]?.getD 0) := by
  unfold sortedL
  rw [List.all_eq_true]
  constructor
  · intro h j hj
    have := h j (by rw [List.mem_range]; omega)
    simpa using this
  · intro h j hj
    rw [List.mem_range] at hj
    have := h j (by omega)
    simpa using this

theorem is_sorted {w : World} {F : Nat → Prop} {v : Value} {xs : List Int} (h : RdI w F v xs) :
    Calls Try.prog 94 #[v] w (Quiet w (.bool (sortedL xs))) := by
  obtain ⟨A, n, c, rfl, _⟩ := id h
  obtain ⟨hn, hnc, hcm, hcell⟩ := h.at_
  unfold maxLen at hcm
  have hT : (∀ j : Nat, j + 1 < n → ∀ x y, xs[j]? = some x → xs[j+1]? = some y → ¬ y < x) → sortedL xs = true := fun hh => by
    rw [sortedL_iff]
    intro j hj
    rw [List.getElem?_eq_getElem (by omega), List.getElem?_eq_getElem (by omega)]
    exact hh j (by omega) _ _ (List.getElem?_eq_getElem (by omega)) (List.getElem?_eq_getElem (by omega))
  have hFa : ∀ (j : Nat) x y, j + 1 < n → xs[j]? = some x → xs[j+1]? = some y → y < x → sortedL xs = false := fun j x y hj hx hy hlt => by
    rw [← Bool.not_eq_true, sortedL_iff]
    intro hh
    have := hh j (by omega)
    rw [hx, hy] at this
    exact this hlt
  have HN := hide hn
  have HT := hide hT
  have HF := hide hFa
  have HC := hide hcell
  clear hn hT hFa h hcell
  by_cases h0 : n = 0
  · subst h0
    go_enter Try.func94, Try.ntmps94
    go_wp2
    go_loopw [3] (fun i wr => i = .int .i64 (-1) ∧ wr = w) (fun _ _ => 0)
    case atStart => exact ⟨rfl, rfl⟩
    case round =>
      obtain ⟨rfl, rfl⟩ := hrel
      go_wp2
      go_ret
      exact ⟨ret_bool (HT.out (fun j hj => absurd hj (by omega))).symm, Below.refl _ _⟩
  go_enter Try.func94, Try.ntmps94
  go_wp2
  go_loopw [3] (fun i wr => ∃ k q : Nat, k < n ∧ i = .int .i64 k ∧ wr = w.drewN q ∧ ∀ j : Nat, k ≤ j → j + 1 < n → ∀ x y, xs[j]? = some x → xs[j+1]? = some y → ¬ y < x) (fun i _ => (intOf i).toNat)
  case atStart => exact ⟨n - 1, 0, by omega, by go_num, rfl, fun j hj hj1 => absurd hj1 (by omega)⟩
  case round =>
    obtain ⟨k, q, hk, rfl, rfl, hbefore⟩ := hrel
    have HB := hide hbefore
    clear hbefore
    by_cases hlt : 0 < k
    · obtain ⟨m, hm⟩ : ∃ m, m = k := ⟨_, rfl⟩
      rw [← hm] at HB hlt hk ⊢
      clear hm k
      obtain ⟨k, hkm⟩ : ∃ k, m = k + 1 := ⟨m - 1, by omega⟩
      obtain ⟨b, off, rfl, _, hc⟩ := HC.out (by omega)
      obtain ⟨x, hx⟩ : ∃ x, xs[m]? = some x := ⟨_, List.getElem?_eq_getElem (by rw [← HN.out]; omega)⟩
      obtain ⟨y, hy⟩ : ∃ y, xs[k]? = some y := ⟨_, List.getElem?_eq_getElem (by rw [← HN.out]; omega)⟩
      have hcx := hc m x hx
      have hcy := hc k y hy
      have HX := hide hx
      have HY := hide hy
      have e1 : (m : Int) - 1 = (k : Int) := by omega
      have i1 : (m : Int) < (n : Int) := by omega
      have hwr : IntKind.i64.wrap (k : Int) = (k : Int) := IntWalk.i64_in _ (by omega)
      have HKM := hide hkm
      clear hkm
      have i2 : (k : Int) < (n : Int) := by omega
      clear hc hx hy
      by_cases he : x < y
      · go_wp2_with fail
        go_quiet ((go_at_call 140; exact quiet_left2 (less_int _ _)))
        go_wp2
        go_ret
        exact ⟨ret_bool (HF.out k y x (by have := HKM.out; omega) HY.out (by rw [← HKM.out]; exact HX.out) he).symm, ⟨rfl, rfl, rfl, Nat.le_refl _, fun _ _ => rfl⟩⟩
      · go_wp2_with fail
        go_quiet ((go_at_call 140; exact quiet_left2 (less_int _ _)))
        go_wp2
        go_roundw
        case rel =>
          have hkm := HKM.out
          refine ⟨k, q + nq, by omega, by go_num, rfl, fun j hj hj1 x' y' hx' hy' => ?_⟩
          by_cases hjk : j = k
          · subst hjk
            rw [HY.out] at hx'; rw [← hkm, HX.out] at hy'
            injection hx' with hx'; injection hy' with hy'
            subst hx' hy'
            omega
          · have := HB.out j (by omega) hj1 x' y' hx' hy'; omega
        case measure => have hkm := HKM.out; simp [intOf]; omega
    · have hk0 : k = 0 := by omega
      subst hk0
      go_wp2
      go_ret
      exact ⟨ret_bool (HT.out fun j hj => HB.out j (Nat.zero_le _) hj).symm, ⟨rfl, rfl, rfl, Nat.le_refl _, fun _ _ => rfl⟩⟩
end Go.Proofs.Ytejjaabkbkkjlaa

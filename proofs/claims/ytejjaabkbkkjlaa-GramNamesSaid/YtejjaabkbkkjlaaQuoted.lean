/- What is quoted: conchref05 and gtok. -/
import Derived.Test.YtejjaabkbkkjlaaChar3
namespace Go.Proofs.Ytejjaabkbkkjlaa
set_option linter.unusedVariables false
open Go.RowKit

def insideB (c : Int) : Bool := decide (33 ≤ c) && (decide (c ≤ 126) && decide (c ≠ 39))
theorem ref_inside (c : Int) (w : World) : Calls Try.prog 168 #[.int .u8 c] w fun e w' => e = .returned (.bool (insideB c)) ∧ w = w' := by
  have hp : insideB c = (decide (33 ≤ c) && (decide (c ≤ 126) && decide (c ≠ 39))) := rfl
  by_cases h1 : 33 ≤ c
  · rw [decide_eq_true h1] at hp
    by_cases h2 : c ≤ 126
    · rw [decide_eq_true h2] at hp
      by_cases h3 : c = 39
      · have h3' : (c != 39) = false := by simp [h3]
        rw [decide_eq_false (by simpa using h3)] at hp
        have Xhp := hide hp
        have Xh3 := hide h3
        clear hp h3
        go_enter Try.func168, Try.ntmps168
        go_wp2_with fail
        go_ret
        exact ⟨ret_bool (by rw [Xhp.out]; rfl), by first | rfl | trivial⟩
      · have h3' : (c != 39) = true := by simpa using h3
        rw [decide_eq_true (by simpa using h3)] at hp
        have Xhp := hide hp
        have Xh3 := hide h3
        clear hp h3
        go_enter Try.func168, Try.ntmps168
        go_wp2_with fail
        go_ret
        exact ⟨ret_bool (by rw [Xhp.out]; rfl), by first | rfl | trivial⟩
    · rw [decide_eq_false h2] at hp
      have Xhp := hide hp
      clear hp
      go_enter Try.func168, Try.ntmps168
      go_wp2_with fail
      go_ret
      exact ⟨ret_bool (by rw [Xhp.out]; rfl), by first | rfl | trivial⟩
  · rw [decide_eq_false h1] at hp
    have Xhp := hide hp
    clear hp
    go_enter Try.func168, Try.ntmps168
    go_wp2_with fail
    go_ret
    exact ⟨ret_bool (by rw [Xhp.out]; rfl), by first | rfl | trivial⟩
theorem gtok_inside (c : Int) (w : World) : Calls Try.prog 154 #[.int .u8 c] w fun e w' => e = .returned (.bool (insideB c)) ∧ w = w' := by
  have hp : insideB c = (decide (33 ≤ c) && (decide (c ≤ 126) && decide (c ≠ 39))) := rfl
  by_cases h1 : 33 ≤ c
  · rw [decide_eq_true h1] at hp
    have h1' : (32 : Int) < c := by omega
    by_cases h2 : c ≤ 126
    · rw [decide_eq_true h2] at hp
      by_cases h3 : c = 39
      · have h3' : (c != 39) = false := by simp [h3]
        rw [decide_eq_false (by simpa using h3)] at hp
        have Xhp := hide hp
        have Xh3 := hide h3
        clear hp h3
        go_enter Try.func154, Try.ntmps154
        go_wp2_with fail
        go_ret
        exact ⟨ret_bool (by rw [Xhp.out]; rfl), by first | rfl | trivial⟩
      · have h3' : (c != 39) = true := by simpa using h3
        rw [decide_eq_true (by simpa using h3)] at hp
        have Xhp := hide hp
        have Xh3 := hide h3
        clear hp h3
        go_enter Try.func154, Try.ntmps154
        go_wp2_with fail
        go_ret
        exact ⟨ret_bool (by rw [Xhp.out]; rfl), by first | rfl | trivial⟩
    · rw [decide_eq_false h2] at hp
      have Xhp := hide hp
      clear hp
      go_enter Try.func154, Try.ntmps154
      go_wp2_with fail
      go_ret
      exact ⟨ret_bool (by rw [Xhp.out]; rfl), by first | rfl | trivial⟩
  · rw [decide_eq_false h1] at hp
    have h1' : ¬ (32 : Int) < c := by omega
    have Xhp := hide hp
    clear hp
    go_enter Try.func154, Try.ntmps154
    go_wp2_with fail
    go_ret
    exact ⟨ret_bool (by rw [Xhp.out]; rfl), by first | rfl | trivial⟩

def insAt (s : ByteArray) (j : Nat) : Bool := insideB (byteAt s j)
/-- where what is quoted ends -/
def quotEnd (s : ByteArray) : Nat := 1 + ((List.range (s.size - 1)).map (· + 1)).findIdx (fun j => !insAt s j)
theorem quotEnd_eq {s : ByteArray} {n : Nat} (h1 : 1 ≤ n) (hn : n ≤ s.size) (hb : ∀ j : Nat, 1 ≤ j → j < n → insAt s j = true) (he : n = s.size ∨ insAt s n = false) : quotEnd s = n := by
  unfold quotEnd
  rcases he with rfl | he
  · have : ((List.range (s.size - 1)).map (· + 1)).findIdx (fun j => !insAt s j) = ((List.range (s.size - 1)).map (· + 1)).length := by
      rw [List.findIdx_eq_length]
      intro x hx
      obtain ⟨y, hy, rfl⟩ := List.mem_map.1 hx
      have := List.mem_range.1 hy
      simp [hb (y + 1) (by omega) (by omega)]
    rw [this]
    simp; omega
  · by_cases hlt : n < s.size
    · have : ((List.range (s.size - 1)).map (· + 1)).findIdx (fun j => !insAt s j) = n - 1 := by
        rw [List.findIdx_eq (by simp; omega)]
        refine ⟨by simp [show n - 1 + 1 = n by omega, he], fun j hj => ?_⟩
        simp [hb (j + 1) (by omega) (by omega)]
      rw [this]; omega
    · have : n = s.size := by omega
      subst this
      have : ((List.range (s.size - 1)).map (· + 1)).findIdx (fun j => !insAt s j) = ((List.range (s.size - 1)).map (· + 1)).length := by
        rw [List.findIdx_eq_length]
        intro x hx
        obtain ⟨y, hy, rfl⟩ := List.mem_map.1 hx
        have := List.mem_range.1 hy
        simp [hb (y + 1) (by omega) (by omega)]
      rw [this]
      simp; omega
/-- is it right, and as a whole? -/
def quotOk (s : ByteArray) (n : Nat) : Bool := decide (n < s.size) && (decide (byteAt s n = 39) && (decide (n ≠ 1) && decide (n < 24)))
def quotedB (s : ByteArray) : Bool := decide (0 < s.size) && (decide (byteAt s 0 = 39) && (quotOk s (quotEnd s) && decide (quotEnd s + 1 = s.size)))

theorem Try.enters_inside : Enters Try.prog 154 := enters_of Try.func154 (by kernel_rfl) rfl
set_option maxRecDepth 100000 in
set_option maxHeartbeats 1000000 in
theorem gtok_span (s : ByteArray) (hs : s.size ≤ maxLen) (h0 : 0 < s.size) (w : World) : Calls Try.prog 153 #[.string s, .int .i64 1, .func (.func 154) #[] #[]] w fun e w' => (∃ m : Nat, e = .returned (.int .i64 m) ∧ quotEnd s = m + 1 ∧ m + 1 ≤ s.size) ∧ w = w' := by
  unfold maxLen at hs
  have hend : ∀ n : Nat, 1 ≤ n → n ≤ s.size → (∀ j : Nat, 1 ≤ j → j < n → insAt s j = true) → (n = s.size ∨ insAt s n = false) → quotEnd s = n := fun n => quotEnd_eq
  have hat : ∀ j, insAt s j = insideB (byteAt s j) := fun _ => rfl
  have eg := Try.enters_inside
  have eg' : ∀ args w, (callFunc 154 args).run Try.prog w = .ok (.enter 154 args) w := eg
  have Xhend := hide hend
  have Xhat := hide hat
  clear hend hat
  clear eg
  go_enter Try.func153, Try.ntmps153
  go_wp2_with fail
  go_loopw [7] (fun i wr => ∃ k : Nat, k + 1 ≤ s.size ∧ i = .int .i64 k ∧ (∀ j : Nat, 1 ≤ j → j < k + 1 → insAt s j = true) ∧ w = wr) (fun i _ => s.size - (intOf i).toNat)
  case atStart => exact ⟨0, by omega, rfl, fun j h1 h2 => absurd h2 (by omega), rfl⟩
  case round =>
    obtain ⟨k, hk, rfl, hb, rfl⟩ := hrel
    have Xhb := hide hb
    clear hb
    by_cases hlt : k + 1 < s.size
    · have hlt' : (1 : Int) + (k : Int) < (s.size : Int) := by omega
      have hin := gtok_inside (byteAt s (1 + k)) w
      rw [← Xhat.out] at hin
      rw [byteAt_eq (show 1 + k < s.size by omega)] at hin
      cases hq : insAt s (1 + k) with
      | true =>
        rw [hq] at hin
        have Xhin := hide hin
        have Xhq := hide hq
        clear hin hq
        go_wp2_with (go_at_fn 154; refine Xhin.out.mono ?_; rintro e w' ⟨rfl, rfl⟩)
        go_roundw
        case rel => exact ⟨k + 1, by omega, by go_num, fun j h1 h2 => by
          by_cases e : j = k + 1
          · subst e; rw [Nat.add_comm k 1]; exact Xhq.out
          · exact Xhb.out j h1 (by omega), by first | rfl | trivial⟩
        case measure => simp [intOf]; omega
      | false =>
        rw [hq] at hin
        have Xhin := hide hin
        have Xhq := hide hq
        clear hin hq
        go_wp2_with (go_at_fn 154; refine Xhin.out.mono ?_; rintro e w' ⟨rfl, rfl⟩)
        go_ret
        exact ⟨⟨k, rfl, Xhend.out _ (by omega) (by omega) Xhb.out (.inr (by rw [Nat.add_comm k 1]; exact Xhq.out)), by omega⟩, by first | rfl | trivial⟩
    · have hlt' : ¬ (1 : Int) + (k : Int) < (s.size : Int) := by omega
      go_wp2_with fail
      go_ret
      exact ⟨⟨k, rfl, Xhend.out _ (by omega) (by omega) Xhb.out (.inl (by omega)), by omega⟩, by first | rfl | trivial⟩
end Go.Proofs.Ytejjaabkbkkjlaa

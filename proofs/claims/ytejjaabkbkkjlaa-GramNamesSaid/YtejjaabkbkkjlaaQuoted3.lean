/- What is quoted, of the reference. -/
import Derived.Test.YtejjaabkbkkjlaaQuoted
namespace Go.Proofs.Ytejjaabkbkkjlaa
set_option linter.unusedVariables false
open Go.RowKit

/-- what the reference's quoted answers at the head -/
def RQuotPost (s : ByteArray) (w : World) (e : Ending) (w' : World) : Prop :=
  Below w.heap.size w w' ∧ ((quotOk s (quotEnd s) = true ∧ e = .returned (.tuple #[.int .i64 ((quotEnd s : Int) + 1), .agg #[.int .i64 0, .int .i64 0]])) ∨ (quotOk s (quotEnd s) = false ∧ ∃ k a : Int, k ≠ 0 ∧ e = .returned (.tuple #[.int .i64 0, .agg #[.int .i64 k, .int .i64 a]])))
theorem RQuotPost.no {s : ByteArray} {w w' : World} {k a : Int} (hb : Below w.heap.size w w') (h : quotOk s (quotEnd s) = false) (hk : k ≠ 0) : RQuotPost s w (.returned (.tuple #[.int .i64 0, .agg #[.int .i64 k, .int .i64 a]])) w' := ⟨hb, .inr ⟨h, k, a, hk, rfl⟩⟩
theorem RQuotPost.yes {s : ByteArray} {w w' : World} {n : Int} (hb : Below w.heap.size w w') (h : quotOk s (quotEnd s) = true) (hn : n = (quotEnd s : Int) + 1) : RQuotPost s w (.returned (.tuple #[.int .i64 n, .agg #[.int .i64 0, .int .i64 0]])) w' := ⟨hb, .inl ⟨h, by rw [hn]⟩⟩

set_option maxRecDepth 100000 in
set_option maxHeartbeats 1000000 in
theorem ref_quoted (s : ByteArray) (hs : s.size ≤ maxLen) (h0 : 0 < s.size) (w : World) : Calls Try.prog 160 #[.string s, .int .i64 0] w (RQuotPost s w) := by
  unfold maxLen at hs
  have hend : ∀ n : Nat, 1 ≤ n → n ≤ s.size → (∀ j : Nat, 1 ≤ j → j < n → insAt s j = true) → (n = s.size ∨ insAt s n = false) → quotEnd s = n := fun n => quotEnd_eq
  have hat : ∀ j, insAt s j = insideB (byteAt s j) := fun _ => rfl
  have hok : ∀ n, quotOk s n = (decide (n < s.size) && (decide (byteAt s n = 39) && (decide (n ≠ 1) && decide (n < 24)))) := fun _ => rfl
  have Xhend := hide hend
  have Xhat := hide hat
  have Xhok := hide hok
  clear hend hat hok
  go_enter Try.func160, Try.ntmps160
  go_wp2_with fail
  go_loopw [6] (fun i wr => ∃ k : Nat, 1 ≤ k ∧ k ≤ s.size ∧ i = .int .i64 k ∧ (∀ j : Nat, 1 ≤ j → j < k → insAt s j = true) ∧ wr = w.alloc (.cells #[.int .i64 0, .int .i64 0] 150)) (fun i _ => s.size - (intOf i).toNat)
  case atStart => exact ⟨1, by omega, by omega, rfl, fun j h1 h2 => absurd h2 (by omega), rfl⟩
  case round =>
    obtain ⟨k, hk1, hk, rfl, hb, rfl⟩ := hrel
    have Xhb := hide hb
    clear hb
    by_cases hlt : k < s.size
    · have hin := ref_inside (byteAt s k) (w.alloc (.cells #[.int .i64 0, .int .i64 0] 150))
      rw [← Xhat.out] at hin
      have hbe := byteAt_eq hlt
      rw [hbe] at hin
      cases hq : insAt s k with
      | true =>
        rw [hq] at hin
        have Xhin := hide hin
        have Xhq := hide hq
        have Xhbe := hide hbe
        clear hin hq hbe
        go_wp2_with fail
        refine Xhin.out.mono ?_
        rintro e w' ⟨rfl, rfl⟩
        go_wp2_with fail
        go_roundw
        case rel => exact ⟨k + 1, by omega, by omega, by go_num, fun j h1 h2 => by
          by_cases e : j = k
          · subst e; exact Xhq.out
          · exact Xhb.out j h1 (by omega), by first | rfl | trivial⟩
        case measure => simp [intOf]; omega
      | false =>
        rw [hq] at hin
        have hqe := Xhend.out k hk1 hk Xhb.out (.inr hq)
        have hko := Xhok.out k
        rw [decide_eq_true hlt, Bool.true_and] at hko
        by_cases h2 : byteAt s k = 39
        · rw [decide_eq_true h2, Bool.true_and] at hko
          have e2 : ((s[k].toNat : Int) != 39) = false := by rw [← hbe]; simp [h2]
          by_cases h3 : k = 1
          · have h3' : ((k : Int) == 1) = true := by rw [beq_iff_eq]; omega
            rw [decide_eq_false (by omega : ¬ k ≠ 1), Bool.false_and] at hko
            have Xhin := hide hin
            have Xhq := hide hq
            have Xhbe := hide hbe
            have Xhqe := hide hqe
            have Xhko := hide hko
            have Xh2 := hide h2
            have Xh3 := hide h3
            clear hin hq hbe hqe hko h2 h3
            go_wp2_with fail
            refine Xhin.out.mono ?_
            rintro e w' ⟨rfl, rfl⟩
            go_wp2_with fail
            refine bodyPost_ret (v := .tuple #[.int .i64 0, .agg #[.int .i64 2, .int .i64 k]]) (by simp [results, Try.results160, go_sem]) rfl ?_
            exact RQuotPost.no ((Below.refl _ w).alloc (Nat.le_refl _) _) (by rw [Xhqe.out]; exact Xhko.out) (by decide)
          · have h3' : ((k : Int) == 1) = false := by rw [beq_eq_false_iff_ne]; omega
            rw [decide_eq_true (by omega : k ≠ 1), Bool.true_and] at hko
            by_cases h4 : k < 24
            · rw [decide_eq_true h4] at hko
              have h4' : ¬ (24 : Int) < (k : Int) + 1 := by omega
              have Xhin := hide hin
              have Xhq := hide hq
              have Xhbe := hide hbe
              have Xhqe := hide hqe
              have Xhko := hide hko
              have Xh2 := hide h2
              have Xh3 := hide h3
              clear hin hq hbe hqe hko h2 h3
              go_wp2_with fail
              refine Xhin.out.mono ?_
              rintro e w' ⟨rfl, rfl⟩
              go_wp2_with fail
              refine bodyPost_ret (v := .tuple #[.int .i64 (k + 1), .agg #[.int .i64 0, .int .i64 0]]) (by simp [results, Try.results160, go_sem]) rfl ?_
              exact RQuotPost.yes ((Below.refl _ w).alloc (Nat.le_refl _) _) (by rw [Xhqe.out]; exact Xhko.out) (by rw [Xhqe.out])
            · rw [decide_eq_false h4] at hko
              have h4' : (24 : Int) < (k : Int) + 1 := by omega
              have Xhin := hide hin
              have Xhq := hide hq
              have Xhbe := hide hbe
              have Xhqe := hide hqe
              have Xhko := hide hko
              have Xh2 := hide h2
              have Xh3 := hide h3
              clear hin hq hbe hqe hko h2 h3
              go_wp2_with fail
              refine Xhin.out.mono ?_
              rintro e w' ⟨rfl, rfl⟩
              go_wp2_with fail
              refine bodyPost_ret (v := .tuple #[.int .i64 0, .agg #[.int .i64 5, .int .i64 0]]) (by simp [results, Try.results160, go_sem]) rfl ?_
              exact RQuotPost.no ((Below.refl _ w).alloc (Nat.le_refl _) _) (by rw [Xhqe.out]; exact Xhko.out) (by decide)
        · rw [decide_eq_false h2, Bool.false_and] at hko
          have e2 : ((s[k].toNat : Int) != 39) = true := by rw [← hbe]; simpa using h2
          have Xhin := hide hin
          have Xhq := hide hq
          have Xhbe := hide hbe
          have Xhqe := hide hqe
          have Xhko := hide hko
          have Xh2 := hide h2
          clear hin hq hbe hqe hko h2
          go_wp2_with fail
          refine Xhin.out.mono ?_
          rintro e w' ⟨rfl, rfl⟩
          go_wp2_with fail
          refine bodyPost_ret (v := .tuple #[.int .i64 0, .agg #[.int .i64 2, .int .i64 k]]) (by simp [results, Try.results160, go_sem]) rfl ?_
          exact RQuotPost.no ((Below.refl _ w).alloc (Nat.le_refl _) _) (by rw [Xhqe.out]; exact Xhko.out) (by decide)
    · have hks : k = s.size := by omega
      have hqe := Xhend.out k hk1 hk Xhb.out (.inl hks)
      have hko := Xhok.out k
      rw [decide_eq_false hlt, Bool.false_and] at hko
      have Xhqe := hide hqe
      have Xhko := hide hko
      have Xhks := hide hks
      clear hqe hko hks
      go_wp2_with fail
      refine bodyPost_ret (v := .tuple #[.int .i64 0, .agg #[.int .i64 4, .int .i64 s.size]]) (by simp [results, Try.results160, go_sem]) rfl ?_
      exact RQuotPost.no ((Below.refl _ w).alloc (Nat.le_refl _) _) (by rw [Xhqe.out]; exact Xhko.out) (by decide)

set_option maxRecDepth 100000 in
set_option maxHeartbeats 1000000 in
theorem ref_isquoted (s : ByteArray) (hs : s.size ≤ maxLen) (w : World) : Calls Try.prog 139 #[.string s] w (Quiet0 w (.bool (quotedB s))) := by
  have hq : quotedB s = (decide (0 < s.size) && (decide (byteAt s 0 = 39) && (quotOk s (quotEnd s) && decide (quotEnd s + 1 = s.size)))) := rfl
  have hemp : (s.toList.isEmpty) = decide (s.size = 0) := isEmpty_size s
  have hnil := toList_nil s
  by_cases h0 : 0 < s.size
  · have hgq := ref_quoted s hs h0 w
    unfold maxLen at hs
    rw [decide_eq_true h0, Bool.true_and] at hq
    rw [decide_eq_false (by omega)] at hemp
    have hnn : ¬ s.toList = [] := fun e => by have := hnil.1 e; omega
    have hbe := byteAt_eq h0
    clear hnil
    by_cases h1 : byteAt s 0 = 39
    · rw [decide_eq_true h1, Bool.true_and] at hq
      have e1 : ((s[0].toNat : Int) != 39) = false := by rw [← hbe]; simp [h1]
      obtain ⟨n, hn⟩ : ∃ n, n = quotEnd s := ⟨_, rfl⟩
      have Xhgq := hide hgq
      have Xhbe := hide hbe
      have Xh1 := hide h1
      clear hgq hbe h1
      go_enter Try.func139, Try.ntmps139
      go_wp2_with fail
      refine Xhgq.out.mono ?_
      rintro e w' ⟨hb, ⟨hok, rfl⟩ | ⟨hok, k, a, hk, rfl⟩⟩
      · rw [hok, Bool.true_and] at hq
        rw [← hn] at hq ⊢
        by_cases he : n + 1 = s.size
        · have he' : ((n : Int) + 1 == (s.size : Int)) = true := by rw [beq_iff_eq]; omega
          rw [decide_eq_true he] at hq
          have Xhq := hide hq
          have Xhok := hide hok
          have Xhn := hide hn
          have Xhe := hide he
          clear hq hok hn he
          go_wp2_with fail
          go_ret
          exact ⟨ret_bool Xhq.out.symm, hb.alloc hb.size _⟩
        · have he' : ((n : Int) + 1 == (s.size : Int)) = false := by rw [beq_eq_false_iff_ne]; omega
          rw [decide_eq_false he] at hq
          have Xhq := hide hq
          have Xhok := hide hok
          have Xhn := hide hn
          have Xhe := hide he
          clear hq hok hn he
          go_wp2_with fail
          go_ret
          exact ⟨ret_bool Xhq.out.symm, hb.alloc hb.size _⟩
      · rw [hok, Bool.false_and] at hq
        have hk' : ((k : Int) == 0) = false := by simpa using hk
        have Xhq := hide hq
        have Xhok := hide hok
        have Xhn := hide hn
        have Xhk := hide hk
        clear hq hok hn hk
        go_wp2_with fail
        go_ret
        exact ⟨ret_bool Xhq.out.symm, hb.alloc hb.size _⟩
    · rw [decide_eq_false h1, Bool.false_and] at hq
      have e1 : ((s[0].toNat : Int) != 39) = true := by rw [← hbe]; simpa using h1
      have Xhgq := hide hgq
      have Xhbe := hide hbe
      have Xh1 := hide h1
      have Xhq := hide hq
      clear hgq hbe h1 hq
      go_enter Try.func139, Try.ntmps139
      go_wp2_with fail
      go_ret
      exact ⟨ret_bool Xhq.out.symm, Below.refl _ _⟩
  · rw [decide_eq_false h0, Bool.false_and] at hq
    rw [decide_eq_true (by omega)] at hemp
    have hnn : s.toList = [] := hnil.2 (by omega)
    have Xhq := hide hq
    clear hq
    clear hs hnil
    go_enter Try.func139, Try.ntmps139
    go_wp2_with fail
    go_ret
    exact ⟨ret_bool Xhq.out.symm, Below.refl _ _⟩
end Go.Proofs.Ytejjaabkbkkjlaa

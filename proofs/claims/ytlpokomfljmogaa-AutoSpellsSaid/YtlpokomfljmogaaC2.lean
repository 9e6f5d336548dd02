/- What is quoted. -/
import Derived.Test.YtlpokomfljmogaaC1
import Derived.WideLaws
namespace Go.Proofs.Ytlpokomfljmogaa
set_option linter.unusedVariables false

section
open Go.RowKit

def insideB (c : Int) : Bool := decide (33 ≤ c) && (decide (c ≤ 126) && decide (c ≠ 39))
theorem gtok_inside (c : Int) (w : World) : Calls Try.prog 78 #[.int .u8 c] w fun e w' => e = .returned (.bool (insideB c)) ∧ w = w' := by
  have hp : insideB c = (decide (33 ≤ c) && (decide (c ≤ 126) && decide (c ≠ 39))) := rfl
  by_cases h1 : 33 ≤ c
  · rw [decide_eq_true h1] at hp
    have h1' : (32 : Int) < c := by omega
    by_cases h2 : c ≤ 126
    · rw [decide_eq_true h2] at hp
      by_cases h3 : c = 39
      · have h3' : (c != 39) = false := by simp [h3]
        rw [decide_eq_false (by simpa using h3)] at hp
        have Xhp := hide hp
        have Xh3 := hide h3
        clear hp h3
        go_enter Try.func78, Try.ntmps78
        go_wp2_with fail
        go_ret
        exact ⟨ret_bool (by rw [Xhp.out]; rfl), by first | rfl | trivial⟩
      · have h3' : (c != 39) = true := by simpa using h3
        rw [decide_eq_true (by simpa using h3)] at hp
        have Xhp := hide hp
        have Xh3 := hide h3
        clear hp h3
        go_enter Try.func78, Try.ntmps78
        go_wp2_with fail
        go_ret
        exact ⟨ret_bool (by rw [Xhp.out]; rfl), by first | rfl | trivial⟩
    · rw [decide_eq_false h2] at hp
      have Xhp := hide hp
      clear hp
      go_enter Try.func78, Try.ntmps78
      go_wp2_with fail
      go_ret
      exact ⟨ret_bool (by rw [Xhp.out]; rfl), by first | rfl | trivial⟩
  · rw [decide_eq_false h1] at hp
    have h1' : ¬ (32 : Int) < c := by omega
    have Xhp := hide hp
    clear hp
    go_enter Try.func78, Try.ntmps78
    go_wp2_with fail
    go_ret
    exact ⟨ret_bool (by rw [Xhp.out]; rfl), by first | rfl | trivial⟩

def insAt (s : ByteArray) (j : Nat) : Bool := insideB (byteAt s j)
/-- where what is quoted ends -/
def quotEnd (s : ByteArray) : Nat := 1 + ((List.range (s.size - 1)).map (· + 1)).findIdx (fun j => !insAt s j)
theorem quotEnd_eq {s : ByteArray} {n : Nat} (h1 : 1 ≤ n) (hn : n ≤ s.size) (hb : ∀ j : Nat, 1 ≤ j → j < n → insAt s j = true) (he : n = s.size ∨ insAt s n = false) : quotEnd s = n := by
  unfold quotEnd
  rcases he with rfl | he
  · have : ((List.range (s.size - 1)).map (· + 1)).findIdx (fun j => !insAt s j) = ((List.range (s.size - 1)).map (· + 1)).length := by
      rw [List.findIdx_eq_length]
      intro x hx
      obtain ⟨y, hy, rfl⟩ := List.mem_map.1 hx
      have := List.mem_range.1 hy
      simp [hb (y + 1) (by omega) (by omega)]
    rw [this]
    simp; omega
  · by_cases hlt : n < s.size
    · have : ((List.range (s.size - 1)).map (· + 1)).findIdx (fun j => !insAt s j) = n - 1 := by
        rw [List.findIdx_eq (by simp; omega)]
        refine ⟨by simp [show n - 1 + 1 = n by omega, he], fun j hj => ?_⟩
        simp [hb (j + 1) (by omega) (by omega)]
      rw [this]; omega
    · have : n = s.size := by omega
      subst this
      have : ((List.range (s.size - 1)).map (· + 1)).findIdx (fun j => !insAt s j) = ((List.range (s.size - 1)).map (· + 1)).length := by
        rw [List.findIdx_eq_length]
        intro x hx
        obtain ⟨y, hy, rfl⟩ := List.mem_map.1 hx
        have := List.mem_range.1 hy
        simp [hb (y + 1) (by omega) (by omega)]
      rw [this]
      simp; omega
/-- is it right, and as a whole? -/
def quotOk (s : ByteArray) (n : Nat) : Bool := decide (n < s.size) && (decide (byteAt s n = 39) && (decide (n ≠ 1) && decide (n < 24)))
def quotedB (s : ByteArray) : Bool := decide (0 < s.size) && (decide (byteAt s 0 = 39) && (quotOk s (quotEnd s) && decide (quotEnd s + 1 = s.size)))

theorem Try.enters_inside : Enters Try.prog 78 := enters_of Try.func78 (by kernel_rfl) rfl
set_option maxRecDepth 100000 in
set_option maxHeartbeats 1000000 in
theorem gtok_span (s : ByteArray) (hs : s.size ≤ maxLen) (h0 : 0 < s.size) (w : World) : Calls Try.prog 77 #[.string s, .int .i64 1, .func (.func 78) #[] #[]] w fun e w' => (∃ m : Nat, e = .returned (.int .i64 m) ∧ quotEnd s = m + 1 ∧ m + 1 ≤ s.size) ∧ w = w' := by
  unfold maxLen at hs
  have hend : ∀ n : Nat, 1 ≤ n → n ≤ s.size → (∀ j : Nat, 1 ≤ j → j < n → insAt s j = true) → (n = s.size ∨ insAt s n = false) → quotEnd s = n := fun n => quotEnd_eq
  have hat : ∀ j, insAt s j = insideB (byteAt s j) := fun _ => rfl
  have eg := Try.enters_inside
  have eg' : ∀ args w, (callFunc 78 args).run Try.prog w = .ok (.enter 78 args) w := eg
  have Xhend := hide hend
  have Xhat := hide hat
  clear hend hat
  clear eg
  go_enter Try.func77, Try.ntmps77
  go_wp2_with fail
  go_loopw [7] (fun i wr => ∃ k : Nat, k + 1 ≤ s.size ∧ i = .int .i64 k ∧ (∀ j : Nat, 1 ≤ j → j < k + 1 → insAt s j = true) ∧ w = wr) (fun i _ => s.size - (intOf i).toNat)
  case atStart => exact ⟨0, by omega, rfl, fun j h1 h2 => absurd h2 (by omega), rfl⟩
  case round =>
    obtain ⟨k, hk, rfl, hb, rfl⟩ := hrel
    have Xhb := hide hb
    clear hb
    by_cases hlt : k + 1 < s.size
    · have hlt' : (1 : Int) + (k : Int) < (s.size : Int) := by omega
      have hin := gtok_inside (byteAt s (1 + k)) w
      rw [← Xhat.out] at hin
      rw [byteAt_eq (show 1 + k < s.size by omega)] at hin
      cases hq : insAt s (1 + k) with
      | true =>
        rw [hq] at hin
        have Xhin := hide hin
        have Xhq := hide hq
        clear hin hq
        go_wp2_with (go_at_fn 78; refine Xhin.out.mono ?_; rintro e w' ⟨rfl, rfl⟩)
        go_roundw
        case rel => exact ⟨k + 1, by omega, by go_num, fun j h1 h2 => by
          by_cases e : j = k + 1
          · subst e; rw [Nat.add_comm k 1]; exact Xhq.out
          · exact Xhb.out j h1 (by omega), by first | rfl | trivial⟩
        case measure => simp [intOf]; omega
      | false =>
        rw [hq] at hin
        have Xhin := hide hin
        have Xhq := hide hq
        clear hin hq
        go_wp2_with (go_at_fn 78; refine Xhin.out.mono ?_; rintro e w' ⟨rfl, rfl⟩)
        go_ret
        exact ⟨⟨k, rfl, Xhend.out _ (by omega) (by omega) Xhb.out (.inr (by rw [Nat.add_comm k 1]; exact Xhq.out)), by omega⟩, by first | rfl | trivial⟩
    · have hlt' : ¬ (1 : Int) + (k : Int) < (s.size : Int) := by omega
      go_wp2_with fail
      go_ret
      exact ⟨⟨k, rfl, Xhend.out _ (by omega) (by omega) Xhb.out (.inl (by omega)), by omega⟩, by first | rfl | trivial⟩
end

section
open Go.RowKit

theorem fault_new (e at_ : Int) (he : e ≠ 0) (w : World) : Calls Try.prog 79 #[.int .i64 e, .int .i64 at_] w (Quiet0 w (.iface 117 (.pointer (some ⟨w.heap.size, 0, none⟩)))) := by
  have h : ((e : Int) == 0) = false := by simpa using he
  clear he
  go_enter Try.func79, Try.ntmps79
  go_wp2_with fail
  go_ret
  exact ⟨rfl, (Below.refl _ w).alloc (Nat.le_refl _) _⟩

/-- what quoted answers at the head -/
def QuotPost (s : ByteArray) (w : World) (e : Ending) (w' : World) : Prop :=
  Below w.heap.size w w' ∧ ((quotOk s (quotEnd s) = true ∧ e = .returned (.tuple #[.int .i64 ((quotEnd s : Int) + 1), .nilIface])) ∨ (quotOk s (quotEnd s) = false ∧ ∃ p, e = .returned (.tuple #[.int .i64 0, .iface 117 (.pointer (some p))])))
theorem QuotPost.no {s : ByteArray} {w w' : World} {p : Addr} (hb : Below w.heap.size w w') (h : quotOk s (quotEnd s) = false) : QuotPost s w (.returned (.tuple #[.int .i64 0, .iface 117 (.pointer (some p))])) w' := ⟨hb, .inr ⟨h, p, rfl⟩⟩
theorem QuotPost.yes {s : ByteArray} {w w' : World} {n : Int} (hb : Below w.heap.size w w') (h : quotOk s (quotEnd s) = true) (hn : n = (quotEnd s : Int) + 1) : QuotPost s w (.returned (.tuple #[.int .i64 n, .nilIface])) w' := ⟨hb, .inl ⟨h, by rw [hn]⟩⟩

set_option maxRecDepth 100000 in
set_option maxHeartbeats 1000000 in
theorem gtok_quoted (s : ByteArray) (hs : s.size ≤ maxLen) (h0 : 0 < s.size) (w : World) : Calls Try.prog 58 #[.string s, .int .i64 0] w (QuotPost s w) := by
  have hsp := gtok_span s hs h0 w
  unfold maxLen at hs
  have hok : quotOk s (quotEnd s) = (decide (quotEnd s < s.size) && (decide (byteAt s (quotEnd s) = 39) && (decide (quotEnd s ≠ 1) && decide (quotEnd s < 24)))) := rfl
  have hne : ∀ (at_ : Int), Calls Try.prog 79 #[.int .i64 4, .int .i64 at_] w (Quiet0 w (.iface 117 (.pointer (some ⟨w.heap.size, 0, none⟩)))) := fun a => fault_new 4 a (by decide) w
  have hn2 : ∀ (at_ : Int), Calls Try.prog 79 #[.int .i64 2, .int .i64 at_] w (Quiet0 w (.iface 117 (.pointer (some ⟨w.heap.size, 0, none⟩)))) := fun a => fault_new 2 a (by decide) w
  have hn5 : ∀ (at_ : Int), Calls Try.prog 79 #[.int .i64 5, .int .i64 at_] w (Quiet0 w (.iface 117 (.pointer (some ⟨w.heap.size, 0, none⟩)))) := fun a => fault_new 5 a (by decide) w
  obtain ⟨n, hn⟩ : ∃ n, n = quotEnd s := ⟨_, rfl⟩
  rw [← hn] at hok
  have Xhsp := hide hsp
  have Xhne := hide hne
  have Xhn2 := hide hn2
  have Xhn5 := hide hn5
  clear hsp hne hn2 hn5
  go_enter Try.func58, Try.ntmps58
  go_wp2_with fail
  refine Xhsp.out.mono ?_
  rintro e w' ⟨⟨m, rfl, hm, hms⟩, rfl⟩
  have hnm : n = m + 1 := by omega
  have hm0 : m < 9223372036854775807 := by omega
  subst hnm
  by_cases h1 : m + 1 < s.size
  · rw [decide_eq_true h1, Bool.true_and] at hok
    have hbe := byteAt_eq (show 1 + m < s.size by omega)
    rw [Nat.add_comm m 1] at hok
    by_cases h2 : byteAt s (1 + m) = 39
    · rw [decide_eq_true h2, Bool.true_and] at hok
      have e2 : ((s[1 + m].toNat : Int) != 39) = false := by rw [← hbe]; simp [h2]
      by_cases h3 : m = 0
      · subst h3
        have Xhok := hide hok
        have Xhm := hide hm
        have Xhbe := hide hbe
        have Xh2 := hide h2
        have Xhn := hide hn
        clear hok hm hbe h2 hn
        go_wp2_with fail
        refine (Xhn2.out _).mono ?_
        rintro e w' ⟨rfl, hb⟩
        go_wp2_with fail
        go_ret2
        exact QuotPost.no hb (by rw [← Xhn.out]; exact Xhok.out.trans rfl)
      · have e3 : (1 + (m : Int) == 1) = false := by simpa using (by omega : ¬ (1 + (m : Int)) = 1)
        rw [decide_eq_true (show 1 + m ≠ 1 by omega), Bool.true_and] at hok
        by_cases h4 : 1 + m < 24
        · rw [decide_eq_true h4] at hok
          have h4' : ¬ (24 : Int) ≤ 1 + (m : Int) := by omega
          have Xhok := hide hok
          have Xhm := hide hm
          have Xhbe := hide hbe
          have Xh2 := hide h2
          have Xhn := hide hn
          have Xh3 := hide h3
          clear hok hm hbe h2 hn h3
          go_wp2_with fail
          go_ret2
          exact QuotPost.yes (Below.refl _ _) (by rw [← Xhn.out, Nat.add_comm m 1]; exact Xhok.out) (by rw [← Xhn.out]; omega)
        · rw [decide_eq_false h4] at hok
          have h4' : (24 : Int) ≤ 1 + (m : Int) := by omega
          have Xhok := hide hok
          have Xhm := hide hm
          have Xhbe := hide hbe
          have Xh2 := hide h2
          have Xhn := hide hn
          have Xh3 := hide h3
          clear hok hm hbe h2 hn h3
          go_wp2_with fail
          refine (Xhn5.out _).mono ?_
          rintro e w' ⟨rfl, hb⟩
          go_wp2_with fail
          go_ret2
          exact QuotPost.no hb (by rw [← Xhn.out, Nat.add_comm m 1]; exact Xhok.out)
    · rw [decide_eq_false h2, Bool.false_and] at hok
      have e2 : ((s[1 + m].toNat : Int) != 39) = true := by rw [← hbe]; simpa using h2
      have Xhok := hide hok
      have Xhm := hide hm
      have Xhbe := hide hbe
      have Xh2 := hide h2
      have Xhn := hide hn
      clear hok hm hbe h2 hn
      go_wp2_with fail
      refine (Xhn2.out _).mono ?_
      rintro e w' ⟨rfl, hb⟩
      go_wp2_with fail
      go_ret2
      exact QuotPost.no hb (by rw [← Xhn.out, Nat.add_comm m 1]; exact Xhok.out)
  · rw [decide_eq_false h1, Bool.false_and] at hok
    have h1' : (s.size : Int) ≤ 1 + (m : Int) := by omega
    have Xhok := hide hok
    have Xhm := hide hm
    have Xhn := hide hn
    clear hok hm hn
    go_wp2_with fail
    refine (Xhne.out _).mono ?_
    rintro e w' ⟨rfl, hb⟩
    go_wp2_with fail
    go_ret2
    exact QuotPost.no hb (by rw [← Xhn.out]; exact Xhok.out)

set_option maxRecDepth 100000 in
set_option maxHeartbeats 1000000 in
theorem gtok_isquoted (s : ByteArray) (hs : s.size ≤ maxLen) (w : World) : Calls Try.prog 38 #[.string s] w (Quiet0 w (.bool (quotedB s))) := by
  have hq : quotedB s = (decide (0 < s.size) && (decide (byteAt s 0 = 39) && (quotOk s (quotEnd s) && decide (quotEnd s + 1 = s.size)))) := rfl
  have hemp : (s.toList.isEmpty) = decide (s.size = 0) := isEmpty_size s
  have hnil := toList_nil s
  by_cases h0 : 0 < s.size
  · have hgq := gtok_quoted s hs h0 w
    unfold maxLen at hs
    rw [decide_eq_true h0, Bool.true_and] at hq
    rw [decide_eq_false (by omega)] at hemp
    have hnn : ¬ s.toList = [] := fun e => by have := hnil.1 e; omega
    have hbe := byteAt_eq h0
    clear hnil
    by_cases h1 : byteAt s 0 = 39
    · rw [decide_eq_true h1, Bool.true_and] at hq
      have e1 : ((s[0].toNat : Int) != 39) = false := by rw [← hbe]; simp [h1]
      have hi := fun p => run_eql_held_nil (P := Try.prog) w 88 117 (.pointer (some p)) Try.underlying88
      have hi2 := run_eql_nil_nil (P := Try.prog) w 88 Try.underlying88
      obtain ⟨n, hn⟩ : ∃ n, n = quotEnd s := ⟨_, rfl⟩
      have Xhgq := hide hgq
      have Xhbe := hide hbe
      have Xh1 := hide h1
      clear hgq hbe h1
      go_enter Try.func38, Try.ntmps38
      go_wp2_with fail
      refine Xhgq.out.mono ?_
      rintro e w' ⟨hb, ⟨hok, rfl⟩ | ⟨hok, p, rfl⟩⟩
      · rw [hok, Bool.true_and] at hq
        rw [← hn] at hq ⊢
        by_cases he : n + 1 = s.size
        · have he' : ((n : Int) + 1 == (s.size : Int)) = true := by rw [beq_iff_eq]; omega
          rw [decide_eq_true he] at hq
          have Xhq := hide hq
          have Xhok := hide hok
          have Xhn := hide hn
          have Xhe := hide he
          clear hq hok hn he
          go_wp2_with fail
          go_ret
          exact ⟨ret_bool Xhq.out.symm, hb⟩
        · have he' : ((n : Int) + 1 == (s.size : Int)) = false := by rw [beq_eq_false_iff_ne]; omega
          rw [decide_eq_false he] at hq
          have Xhq := hide hq
          have Xhok := hide hok
          have Xhn := hide hn
          have Xhe := hide he
          clear hq hok hn he
          go_wp2_with fail
          go_ret
          exact ⟨ret_bool Xhq.out.symm, hb⟩
      · rw [hok, Bool.false_and] at hq
        have Xhq := hide hq
        have Xhok := hide hok
        have Xhn := hide hn
        clear hq hok hn
        go_wp2_with fail
        go_ret
        exact ⟨ret_bool Xhq.out.symm, hb⟩
    · rw [decide_eq_false h1, Bool.false_and] at hq
      have e1 : ((s[0].toNat : Int) != 39) = true := by rw [← hbe]; simpa using h1
      have Xhgq := hide hgq
      have Xhbe := hide hbe
      have Xh1 := hide h1
      have Xhq := hide hq
      clear hgq hbe h1 hq
      go_enter Try.func38, Try.ntmps38
      go_wp2_with fail
      go_ret
      exact ⟨ret_bool Xhq.out.symm, Below.refl _ _⟩
  · rw [decide_eq_false h0, Bool.false_and] at hq
    rw [decide_eq_true (by omega)] at hemp
    have hnn : s.toList = [] := hnil.2 (by omega)
    have Xhq := hide hq
    clear hq
    clear hs hnil
    go_enter Try.func38, Try.ntmps38
    go_wp2_with fail
    go_ret
    exact ⟨ret_bool Xhq.out.symm, Below.refl _ _⟩
end

section
open Go.RowKit

/-- what the reference's quoted answers at the head -/
def RQuotPost (s : ByteArray) (w : World) (e : Ending) (w' : World) : Prop :=
  Below w.heap.size w w' ∧ ((quotOk s (quotEnd s) = true ∧ e = .returned (.tuple #[.int .i64 ((quotEnd s : Int) + 1), .agg #[.int .i64 0, .int .i64 0]])) ∨ (quotOk s (quotEnd s) = false ∧ ∃ k a : Int, k ≠ 0 ∧ e = .returned (.tuple #[.int .i64 0, .agg #[.int .i64 k, .int .i64 a]])))
theorem RQuotPost.no {s : ByteArray} {w w' : World} {k a : Int} (hb : Below w.heap.size w w') (h : quotOk s (quotEnd s) = false) (hk : k ≠ 0) : RQuotPost s w (.returned (.tuple #[.int .i64 0, .agg #[.int .i64 k, .int .i64 a]])) w' := ⟨hb, .inr ⟨h, k, a, hk, rfl⟩⟩
theorem RQuotPost.yes {s : ByteArray} {w w' : World} {n : Int} (hb : Below w.heap.size w w') (h : quotOk s (quotEnd s) = true) (hn : n = (quotEnd s : Int) + 1) : RQuotPost s w (.returned (.tuple #[.int .i64 n, .agg #[.int .i64 0, .int .i64 0]])) w' := ⟨hb, .inl ⟨h, by rw [hn]⟩⟩

end
end Go.Proofs.Ytlpokomfljmogaa

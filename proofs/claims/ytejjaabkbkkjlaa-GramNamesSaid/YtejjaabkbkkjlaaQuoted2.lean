/- What is quoted, of the program: fault.New, gtok.quoted at the head, gtok.Quoted. -/
import Derived.Test.YtejjaabkbkkjlaaQuoted
import Derived.WideLaws
namespace Go.Proofs.Ytejjaabkbkkjlaa
set_option linter.unusedVariables false
open Go.RowKit

theorem fault_new (e at_ : Int) (he : e ≠ 0) (w : World) : Calls Try.prog 155 #[.int .i64 e, .int .i64 at_] w (Quiet0 w (.iface 156 (.pointer (some ⟨w.heap.size, 0, none⟩)))) := by
  have h : ((e : Int) == 0) = false := by simpa using he
  clear he
  go_enter Try.func155, Try.ntmps155
  go_wp2_with fail
  go_ret
  exact ⟨rfl, (Below.refl _ w).alloc (Nat.le_refl _) _⟩

/-- what quoted answers at the head -/
def QuotPost (s : ByteArray) (w : World) (e : Ending) (w' : World) : Prop :=
  Below w.heap.size w w' ∧ ((quotOk s (quotEnd s) = true ∧ e = .returned (.tuple #[.int .i64 ((quotEnd s : Int) + 1), .nilIface])) ∨ (quotOk s (quotEnd s) = false ∧ ∃ p, e = .returned (.tuple #[.int .i64 0, .iface 156 (.pointer (some p))])))
theorem QuotPost.no {s : ByteArray} {w w' : World} {p : Addr} (hb : Below w.heap.size w w') (h : quotOk s (quotEnd s) = false) : QuotPost s w (.returned (.tuple #[.int .i64 0, .iface 156 (.pointer (some p))])) w' := ⟨hb, .inr ⟨h, p, rfl⟩⟩
theorem QuotPost.yes {s : ByteArray} {w w' : World} {n : Int} (hb : Below w.heap.size w w') (h : quotOk s (quotEnd s) = true) (hn : n = (quotEnd s : Int) + 1) : QuotPost s w (.returned (.tuple #[.int .i64 n, .nilIface])) w' := ⟨hb, .inl ⟨h, by rw [hn]⟩⟩

set_option maxRecDepth 100000 in
set_option maxHeartbeats 1000000 in
theorem gtok_quoted (s : ByteArray) (hs : s.size ≤ maxLen) (h0 : 0 < s.size) (w : World) : Calls Try.prog 132 #[.string s, .int .i64 0] w (QuotPost s w) := by
  have hsp := gtok_span s hs h0 w
  unfold maxLen at hs
  have hok : quotOk s (quotEnd s) = (decide (quotEnd s < s.size) && (decide (byteAt s (quotEnd s) = 39) && (decide (quotEnd s ≠ 1) && decide (quotEnd s < 24)))) := rfl
  have hne : ∀ (at_ : Int), Calls Try.prog 155 #[.int .i64 4, .int .i64 at_] w (Quiet0 w (.iface 156 (.pointer (some ⟨w.heap.size, 0, none⟩)))) := fun a => fault_new 4 a (by decide) w
  have hn2 : ∀ (at_ : Int), Calls Try.prog 155 #[.int .i64 2, .int .i64 at_] w (Quiet0 w (.iface 156 (.pointer (some ⟨w.heap.size, 0, none⟩)))) := fun a => fault_new 2 a (by decide) w
  have hn5 : ∀ (at_ : Int), Calls Try.prog 155 #[.int .i64 5, .int .i64 at_] w (Quiet0 w (.iface 156 (.pointer (some ⟨w.heap.size, 0, none⟩)))) := fun a => fault_new 5 a (by decide) w
  obtain ⟨n, hn⟩ : ∃ n, n = quotEnd s := ⟨_, rfl⟩
  rw [← hn] at hok
  have Xhsp := hide hsp
  have Xhne := hide hne
  have Xhn2 := hide hn2
  have Xhn5 := hide hn5
  clear hsp hne hn2 hn5
  go_enter Try.func132, Try.ntmps132
  go_wp2_with fail
  refine Xhsp.out.mono ?_
  rintro e w' ⟨⟨m, rfl, hm, hms⟩, rfl⟩
  have hnm : n = m + 1 := by omega
  have hm0 : m < 9223372036854775807 := by omega
  subst hnm
  by_cases h1 : m + 1 < s.size
  · rw [decide_eq_true h1, Bool.true_and] at hok
    have hbe := byteAt_eq (show 1 + m < s.size by omega)
    rw [Nat.add_comm m 1] at hok
    by_cases h2 : byteAt s (1 + m) = 39
    · rw [decide_eq_true h2, Bool.true_and] at hok
      have e2 : ((s[1 + m].toNat : Int) != 39) = false := by rw [← hbe]; simp [h2]
      by_cases h3 : m = 0
      · subst h3
        have Xhok := hide hok
        have Xhm := hide hm
        have Xhbe := hide hbe
        have Xh2 := hide h2
        have Xhn := hide hn
        clear hok hm hbe h2 hn
        go_wp2_with fail
        refine (Xhn2.out _).mono ?_
        rintro e w' ⟨rfl, hb⟩
        go_wp2_with fail
        go_ret2
        exact QuotPost.no hb (by rw [← Xhn.out]; exact Xhok.out.trans rfl)
      · have e3 : (1 + (m : Int) == 1) = false := by simpa using (by omega : ¬ (1 + (m : Int)) = 1)
        rw [decide_eq_true (show 1 + m ≠ 1 by omega), Bool.true_and] at hok
        by_cases h4 : 1 + m < 24
        · rw [decide_eq_true h4] at hok
          have h4' : ¬ (24 : Int) ≤ 1 + (m : Int) := by omega
          have Xhok := hide hok
          have Xhm := hide hm
          have Xhbe := hide hbe
          have Xh2 := hide h2
          have Xhn := hide hn
          have Xh3 := hide h3
          clear hok hm hbe h2 hn h3
          go_wp2_with fail
          go_ret2
          exact QuotPost.yes (Below.refl _ _) (by rw [← Xhn.out, Nat.add_comm m 1]; exact Xhok.out) (by rw [← Xhn.out]; omega)
        · rw [decide_eq_false h4] at hok
          have h4' : (24 : Int) ≤ 1 + (m : Int) := by omega
          have Xhok := hide hok
          have Xhm := hide hm
          have Xhbe := hide hbe
          have Xh2 := hide h2
          have Xhn := hide hn
          have Xh3 := hide h3
          clear hok hm hbe h2 hn h3
          go_wp2_with fail
          refine (Xhn5.out _).mono ?_
          rintro e w' ⟨rfl, hb⟩
          go_wp2_with fail
          go_ret2
          exact QuotPost.no hb (by rw [← Xhn.out, Nat.add_comm m 1]; exact Xhok.out)
    · rw [decide_eq_false h2, Bool.false_and] at hok
      have e2 : ((s[1 + m].toNat : Int) != 39) = true := by rw [← hbe]; simpa using h2
      have Xhok := hide hok
      have Xhm := hide hm
      have Xhbe := hide hbe
      have Xh2 := hide h2
      have Xhn := hide hn
      clear hok hm hbe h2 hn
      go_wp2_with fail
      refine (Xhn2.out _).mono ?_
      rintro e w' ⟨rfl, hb⟩
      go_wp2_with fail
      go_ret2
      exact QuotPost.no hb (by rw [← Xhn.out, Nat.add_comm m 1]; exact Xhok.out)
  · rw [decide_eq_false h1, Bool.false_and] at hok
    have h1' : (s.size : Int) ≤ 1 + (m : Int) := by omega
    have Xhok := hide hok
    have Xhm := hide hm
    have Xhn := hide hn
    clear hok hm hn
    go_wp2_with fail
    refine (Xhne.out _).mono ?_
    rintro e w' ⟨rfl, hb⟩
    go_wp2_with fail
    go_ret2
    exact QuotPost.no hb (by rw [← Xhn.out]; exact Xhok.out)

set_option maxRecDepth 100000 in
set_option maxHeartbeats 1000000 in
theorem gtok_isquoted (s : ByteArray) (hs : s.size ≤ maxLen) (w : World) : Calls Try.prog 78 #[.string s] w (Quiet0 w (.bool (quotedB s))) := by
  have hq : quotedB s = (decide (0 < s.size) && (decide (byteAt s 0 = 39) && (quotOk s (quotEnd s) && decide (quotEnd s + 1 = s.size)))) := rfl
  have hemp : (s.toList.isEmpty) = decide (s.size = 0) := isEmpty_size s
  have hnil := toList_nil s
  by_cases h0 : 0 < s.size
  · have hgq := gtok_quoted s hs h0 w
    unfold maxLen at hs
    rw [decide_eq_true h0, Bool.true_and] at hq
    rw [decide_eq_false (by omega)] at hemp
    have hnn : ¬ s.toList = [] := fun e => by have := hnil.1 e; omega
    have hbe := byteAt_eq h0
    clear hnil
    by_cases h1 : byteAt s 0 = 39
    · rw [decide_eq_true h1, Bool.true_and] at hq
      have e1 : ((s[0].toNat : Int) != 39) = false := by rw [← hbe]; simp [h1]
      have hi := fun p => run_eql_held_nil (P := Try.prog) w 123 156 (.pointer (some p)) Try.underlying123
      have hi2 := run_eql_nil_nil (P := Try.prog) w 123 Try.underlying123
      obtain ⟨n, hn⟩ : ∃ n, n = quotEnd s := ⟨_, rfl⟩
      have Xhgq := hide hgq
      have Xhbe := hide hbe
      have Xh1 := hide h1
      clear hgq hbe h1
      go_enter Try.func78, Try.ntmps78
      go_wp2_with fail
      refine Xhgq.out.mono ?_
      rintro e w' ⟨hb, ⟨hok, rfl⟩ | ⟨hok, p, rfl⟩⟩
      · rw [hok, Bool.true_and] at hq
        rw [← hn] at hq ⊢
        by_cases he : n + 1 = s.size
        · have he' : ((n : Int) + 1 == (s.size : Int)) = true := by rw [beq_iff_eq]; omega
          rw [decide_eq_true he] at hq
          have Xhq := hide hq
          have Xhok := hide hok
          have Xhn := hide hn
          have Xhe := hide he
          clear hq hok hn he
          go_wp2_with fail
          go_ret
          exact ⟨ret_bool Xhq.out.symm, hb⟩
        · have he' : ((n : Int) + 1 == (s.size : Int)) = false := by rw [beq_eq_false_iff_ne]; omega
          rw [decide_eq_false he] at hq
          have Xhq := hide hq
          have Xhok := hide hok
          have Xhn := hide hn
          have Xhe := hide he
          clear hq hok hn he
          go_wp2_with fail
          go_ret
          exact ⟨ret_bool Xhq.out.symm, hb⟩
      · rw [hok, Bool.false_and] at hq
        have Xhq := hide hq
        have Xhok := hide hok
        have Xhn := hide hn
        clear hq hok hn
        go_wp2_with fail
        go_ret
        exact ⟨ret_bool Xhq.out.symm, hb⟩
    · rw [decide_eq_false h1, Bool.false_and] at hq
      have e1 : ((s[0].toNat : Int) != 39) = true := by rw [← hbe]; simpa using h1
      have Xhgq := hide hgq
      have Xhbe := hide hbe
      have Xh1 := hide h1
      have Xhq := hide hq
      clear hgq hbe h1 hq
      go_enter Try.func78, Try.ntmps78
      go_wp2_with fail
      go_ret
      exact ⟨ret_bool Xhq.out.symm, Below.refl _ _⟩
  · rw [decide_eq_false h0, Bool.false_and] at hq
    rw [decide_eq_true (by omega)] at hemp
    have hnn : s.toList = [] := hnil.2 (by omega)
    have Xhq := hide hq
    clear hq
    clear hs hnil
    go_enter Try.func78, Try.ntmps78
    go_wp2_with fail
    go_ret
    exact ⟨ret_bool Xhq.out.symm, Below.refl _ _⟩
end Go.Proofs.Ytejjaabkbkkjlaa

/- char.each at Name's closure, char.Name, gram.plain, conchref06.plain. -/
import Derived.Test.YtejjaabkbkkjlaaChar3
import Derived.Laws.RangeString
import Derived.WalkSmall
namespace Go.Proofs.Ytejjaabkbkkjlaa
set_option linter.unusedVariables false
open Go.RowKit

set_option maxRecDepth 100000 in
set_option maxHeartbeats 1000000 in
theorem char_each (s : ByteArray) (hs : s.size ≤ maxLen) (ha : ∀ j : Nat, j < s.size → byteAt s j < 128) (w : World) : Calls Try.prog 150 #[.string s, .func (.func 151) #[] #[]] w fun e w' => e = .returned (.bool (nameB s)) ∧ Below w.heap.size w w' := by
  unfold maxLen at hs
  have hsucc := goodUpto_succ s
  have hno : ∀ k, k < s.size → goodAt s k = false → nameB s = false := fun k => goodUpto_no
  have hend : nameB s = (decide (0 < s.size) && goodUpto s s.size) := rfl
  have hat : ∀ k, goodAt s k = (decide (classOf (byteAt s k) = 4) || (decide (classOf (byteAt s k) = 3) && decide (0 < k))) := fun k => rfl
  have eg := Try.enters_name1
  have eg' : ∀ args w, (callFunc 151 args).run Try.prog w = .ok (.enter 151 args) w := eg
  have B0 : ∀ k : Nat, Below w.heap.size w (w.iter s k) := fun k => (Below.refl _ w).alloc (Nat.le_refl _) _
  have hemp : (s.toList.isEmpty) = decide (s.size = 0) := isEmpty_size s
  have Xhsucc := hide hsucc
  have Xhno := hide hno
  have Xhend := hide hend
  have Xhat := hide hat
  have Xha := hide ha
  have XB0 := hide B0
  clear hsucc hno hend hat ha B0
  clear eg
  go_enter Try.func150, Try.ntmps150
  go_wp2
  go_loopw [5] (fun i wr => ∃ k : Nat, k ≤ s.size ∧ goodUpto s k = true ∧ wr = w.iter s k) (fun _ wr => s.size - wr.iterPos w.heap.size)
  case atStart => exact ⟨0, Nat.zero_le _, rfl, rfl⟩
  case round =>
    obtain ⟨k, hk, hg, rfl⟩ := hrel
    have hsk := Xhsucc.out k
    rw [hg, Bool.true_and] at hsk
    have hnk := Xhno.out k
    have Xhg := hide hg
    clear hg
    by_cases hlt : k < s.size
    · have hba := Xha.out k hlt
      have hnx := fun ty => run_next_ascii (P := Try.prog) w s k ty hlt (by rw [byteAt_eq hlt] at hba; omega)
      have hb := byteAt_lt s k
      have hcl := name_clo k (byteAt s k) hb.1 hb.2 (by omega) (w.iter s (k + 1))
      rw [← Xhat.out k] at hcl
      rw [byteAt_eq hlt] at hcl
      clear hba hb
      cases hq : goodAt s k with
      | true =>
        rw [hq] at hcl hsk
        have Xhcl := hide hcl
        have Xhsk := hide hsk
        have Xhnk := hide hnk
        have Xhq := hide hq
        clear hcl hsk hnk hq
        go_wp2_with (go_at_fn 151; refine Xhcl.out.mono ?_; rintro e w' ⟨rfl, rfl⟩)
        go_roundw
        case rel => exact ⟨k + 1, by omega, Xhsk.out, rfl⟩
        case measure =>
          rw [World.iterPos_iter, World.iterPos_iter]
          omega
      | false =>
        rw [hq] at hcl hsk
        have hf := hnk hlt hq
        have Xhcl := hide hcl
        have Xhsk := hide hsk
        have Xhnk := hide hnk
        have Xhq := hide hq
        have Xhf := hide hf
        clear hcl hsk hnk hq hf
        go_wp2_with (go_at_fn 151; refine Xhcl.out.mono ?_; rintro e w' ⟨rfl, rfl⟩)
        go_ret
        exact ⟨ret_bool Xhf.out.symm, XB0.out _⟩
    · have hnx := fun ty => run_next_end (P := Try.prog) w s k ty hlt
      have hks : k = s.size := by omega
      subst hks
      clear hsk hnk
      by_cases hz : s.size = 0
      · rw [decide_eq_true hz] at hemp
        have Xhz := hide hz
        clear hz
        go_wp2_with fail
        go_ret
        exact ⟨ret_bool (by rw [Xhend.out, Xhz.out]; simp), XB0.out _⟩
      · rw [decide_eq_false hz] at hemp
        have Xhz := hide hz
        clear hz
        go_wp2_with fail
        go_ret
        exact ⟨ret_bool (by rw [Xhend.out, Xhg.out, decide_eq_true (show 0 < s.size by have := Xhz.out; omega)]; simp), XB0.out _⟩
end Go.Proofs.Ytejjaabkbkkjlaa

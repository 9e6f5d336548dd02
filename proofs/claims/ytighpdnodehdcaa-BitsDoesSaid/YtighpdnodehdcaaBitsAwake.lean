/- 'awake' of layer 3. -/
import Derived.Test.YtighpdnodehdcaaBitsRef4
namespace Go.Proofs.Ytighpdnodehdcaa
set_option linter.unusedVariables false
open Go.RowKit

theorem bits_awake (w : World) : Calls Try.prog 25 #[] w fun e w' => e = .returned (.bool true) ∧ Below w.heap.size w w' := by
  have hn : (min (max 100 0) 4096 : Int).toNat = 100 := by decide
  have a1 : putAns 100 noBits 70 = true := by decide
  have a2 : putAns 100 (putSet 100 noBits 70) 70 = false := by decide
  have a3 : hasI 100 (putSet 100 noBits 70) 70 = true := by decide
  have a4 : nextOf (putSet 100 noBits 70) 100 (0 : Int).toNat = 70 := by decide
  have a5 : (below (putSet 100 noBits 70) 100).length = 1 := by decide
  have A1 := hide a1
  have A2 := hide a2
  have A3 := hide a3
  have A4 := hide a4
  have A5 := hide a5
  have HN := hide hn
  clear a1 a2 a3 a4 a5 hn
  go_enter Try.func25, Try.ntmps25
  go_wp2_with fail
  refine (set_new 100 _).mono ?_
  rintro e w1 ⟨rfl, n1, b1⟩
  rw [HN.out] at n1
  go_wp2_with fail
  refine (set_put_yes n1 70 A1.out).mono ?_
  rintro e w2 ⟨rfl, n2, t2⟩
  obtain ⟨g, hg⟩ : ∃ g, g = putSet 100 noBits 70 := ⟨_, rfl⟩
  rw [← hg] at n2 A2 A3 A4 A5
  clear hg
  go_wp2_with fail
  refine (set_put_no n2 70 A2.out).mono ?_
  rintro e w' ⟨rfl, rfl⟩
  go_wp2_with fail
  refine (set_has n2 70).mono ?_
  rintro e w' ⟨rfl, rfl⟩
  rw [A3.out]
  go_wp2_with fail
  refine (set_next n2 0 (by decide)).mono ?_
  rintro e w' ⟨rfl, rfl⟩
  rw [A4.out]
  go_wp2_with fail
  refine (set_count n2).mono ?_
  rintro e w3 ⟨rfl, b3⟩
  rw [A5.out]
  have n3 := n2.touch (Touch.of_size b3 (fun _ => False)) (fun _ _ hf => hf)
  go_wp2_with fail
  refine (set_room n3).mono ?_
  rintro e w' ⟨rfl, rfl⟩
  go_wp2_with fail
  go_ret
  have z1 := b1.size
  have z2 := t2.size
  have h2 : Below w.heap.size w w2 := t2.toBelow (New.lt (fun _ hf => hf.elim) (Nat.le_refl _)) b1 z1
  exact ⟨rfl, h2.trans (b3.mono (Nat.le_trans z1 z2))⟩
end Go.Proofs.Ytighpdnodehdcaa

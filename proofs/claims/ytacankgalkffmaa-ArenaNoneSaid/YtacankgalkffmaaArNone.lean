/- No tree: the walk of the statement ArenaNone. -/
import Derived.Test.YtacankgalkffmaaArAw
import Derived.Test.YtacankgalkffmaaArena15
import Derived.Test.YtacankgalkffmaaArOps
namespace Go.Proofs.Ytacankgalkffmaa
set_option linter.unusedVariables false
set_option linter.unusedSimpArgs false
open Go.RowKit
set_option maxRecDepth 100000 in
set_option maxHeartbeats 2000000 in
theorem walk_ArenaNone (C : Array Value) (x : OpD) (i : Int) (w : World) (hC : OpWf w (· < w.heap.size) C.toList x) (hi : (Lit.int .i64 i).wf = true) :
  Calls Try.prog 4 #[.agg C, .int .i64 i] w (Quiet w (.bool true)) := by
 obtain ⟨z, hC, hz⟩ := hC
 obtain rfl : C = #[.bool x.leaf, .int .i64 x.sym, .int .i64 x.n, z] := Array.toList_inj.1 hC
 clear hC hi
 obtain ⟨xl, xs, xn, kids⟩ := x
 simp only at hz ⊢
 obtain ⟨A, n, c, rfl, -⟩ := id hz
 obtain ⟨hn, hnc, hcm, -⟩ := RdI.at_ hz
 unfold maxLen at hcm
 obtain ⟨w1, hw1⟩ : ∃ q, w.alloc (.cells #[.bool xl, .int .i64 xs, .int .i64 xn, .slice A n c] 27) = q := ⟨_, rfl⟩
 have b1 : Below w.heap.size w w1 := by rw [← hw1]; exact (Below.refl _ _).alloc (Nat.le_refl _) _
 have k1 : Blk w1 w.heap.size 27 #[.bool xl, .int .i64 xs, .int .i64 xn, .slice A n c] := by rw [← hw1]; exact Blk.new _ _ _
 have p3 : w1.cell? ⟨w.heap.size, 3, none⟩ = some (.slice A n c) := k1.cell 3
 have z1 : w1.heap.size = w.heap.size + 1 := by rw [← hw1]; simp
 clear hz
 by_cases hlt : n ≤ 1000
 ·have hlt' : ¬ (1000 : Int) < (n : Int) := by omega
  have c1 := arena_Node0 i w1
  have hin : inN ([] : List Nd).length i = false := by
   rcases e : inN ([] : List Nd).length i with _ | _
   ·rfl
   ·have := inN_iff.1 e; simp at this; omega
  unfold NodePost at c1
  rw [hin] at c1
  have Xc1 := hide c1
  have Xk1 := hide k1
  have Xb1 := hide b1
  have Xhn := hide hn
  clear c1 k1 b1 hn
  clear hin
  go_enter Try.func4, Try.ntmps4
  go_wp2_with fail
  refine Xc1.out.mono ?_
  rintro e w2 ⟨b2, z2, rfl, hz2⟩
  obtain ⟨A2, n2, c2, rfl, -⟩ := id hz2
  obtain ⟨w3, hw3⟩ : ∃ q, w2.alloc (.cells #[.int .i64 0, .int .i64 0, .int .i64 0, .slice A2 n2 c2] 35) = q := ⟨_, rfl⟩
  have b3 : Below w2.heap.size w2 w3 := by rw [← hw3]; exact (Below.refl _ _).alloc (Nat.le_refl _) _
  have k3 := (Xk1.out.below b2 (by omega)).below b3 (by have := b2.size; omega)
  have bb3 := Xb1.out.trans ((b2.trans (b3.mono b2.size)).mono (by omega))
  have q1 : w3.cell? ⟨w.heap.size, 1, none⟩ = some (.int .i64 xs) := k3.cell 1
  have q2 : w3.cell? ⟨w.heap.size, 2, none⟩ = some (.int .i64 xn) := k3.cell 2
  have z3 : w.heap.size + 1 ≤ w3.heap.size := by have := b2.size; have := b3.size; omega
  clear Xc1 Xk1 Xb1 b2 b3 hz2 p3
  have c4 := arena_Leaf0 xs xn w3
  have Xc4 := hide c4
  have Xk3 := hide k3
  have Xbb3 := hide bb3
  clear c4 k3 bb3
  go_wp2_with fail
  refine Xc4.out.mono ?_
  rintro e w4 ⟨rfl, b4⟩
  have k4 := Xk3.out.below b4 (by omega)
  have bb4 := Xbb3.out.trans (b4.mono (by omega))
  have r1 : w4.cell? ⟨w.heap.size, 1, none⟩ = some (.int .i64 xs) := k4.cell 1
  have r2 : w4.cell? ⟨w.heap.size, 2, none⟩ = some (.int .i64 xn) := k4.cell 2
  have r3 : w4.cell? ⟨w.heap.size, 3, none⟩ = some (.slice A n c) := k4.cell 3
  have c5 := arena_Join0 xs xn (.slice A n c) w4
  clear Xc4 Xk3 Xbb3 q1 q2 b4 k4
  have Xc5 := hide c5
  have Xbb4 := hide bb4
  clear c5 bb4
  go_wp2_with fail
  refine Xc5.out.mono ?_
  rintro e w5 ⟨rfl, b5⟩
  have bb5 := Xbb4.out.trans (b5.mono Xbb4.out.size)
  clear Xc5 Xbb4 r1 r2 r3 b5
  have c6 := arena_Len0 w5
  have Xc6 := hide c6
  have Xbb5 := hide bb5
  clear c6 bb5
  go_wp2_with fail
  refine Xc6.out.mono ?_
  rintro e w6 ⟨rfl, b6⟩
  have bb6 := Xbb5.out.trans (b6.mono Xbb5.out.size)
  clear Xc6 Xbb5 b6
  have c7 := arena_Roots0 w6
  have Xc7 := hide c7
  have Xbb6 := hide bb6
  clear c7 bb6
  go_wp2_with fail
  refine Xc7.out.mono ?_
  rintro e w7 ⟨rfl, b7⟩
  have bb7 := Xbb6.out.trans (b7.mono Xbb6.out.size)
  clear Xc7 Xbb6 b7
  have c8 := arena_Leaves0 i w7
  have Xc8 := hide c8
  have Xbb7 := hide bb7
  clear c8 bb7
  go_wp2_with fail
  refine Xc8.out.mono ?_
  rintro e w8 ⟨b8, A8, k8, rfl, -⟩
  have bb8 := Xbb7.out.trans (b8.mono Xbb7.out.size)
  clear Xc8 Xbb7 b8
  have c9 := arena_Yield0 i w8
  have Xc9 := hide c9
  have Xbb8 := hide bb8
  clear c9 bb8
  go_wp2_with fail
  refine Xc9.out.mono ?_
  rintro e w9 ⟨b9, A9, k9, rfl, -⟩
  have bb9 := Xbb8.out.trans (b9.mono Xbb8.out.size)
  clear Xc9 Xbb8 b9
  have c10 := arena_Check0 (.slice none 0 0) (.slice none 0 0) (.slice none 0 0) 0 i w9 ⟨_, _, _, _, _, _, _, _, _, rfl, rfl, rfl⟩
  have Xc10 := hide c10
  have Xbb9 := hide bb9
  clear c10 bb9
  go_wp2_with fail
  refine Xc10.out.mono ?_
  rintro e w10 ⟨rfl, b10⟩
  have bb10 := Xbb9.out.trans (b10.mono Xbb9.out.size)
  clear Xc10 Xbb9 b10
  have c11 := arena_Show0 (.slice none 0 0) (.slice none 0 0) (.slice none 0 0) 0 i w10 ⟨_, _, _, _, _, _, _, _, _, rfl, rfl, rfl⟩
  have Xc11 := hide c11
  have Xbb10 := hide bb10
  clear c11 bb10
  go_wp2_with fail
  refine Xc11.out.mono ?_
  rintro e w11 ⟨rfl, b11⟩
  have bb11 := Xbb10.out.trans (b11.mono Xbb10.out.size)
  clear Xc11 Xbb10 b11
  have c12 := arena_Twin0 w11
  have Xc12 := hide c12
  have Xbb11 := hide bb11
  clear c12 bb11
  go_wp2_with fail
  refine Xc12.out.mono ?_
  rintro e w12 ⟨rfl, b12⟩
  have bb12 := Xbb11.out.trans (b12.mono Xbb11.out.size)
  clear Xc12 Xbb11 b12
  have c13 := law19_awake w12
  have Xc13 := hide c13
  have Xbb12 := hide bb12
  clear c13 bb12
  go_wp2_with fail
  refine Xc13.out.mono ?_
  rintro e w13 ⟨rfl, b13⟩
  have bb13 := Xbb12.out.trans (b13.mono Xbb12.out.size)
  clear Xc13 Xbb12 b13
  have Xbb13 := hide bb13
  clear bb13
  go_wp2_with fail
  go_ret
  exact ⟨rfl, Xbb13.out⟩
 ·have hlt' : (1000 : Int) < (n : Int) := by omega
  have cA := law19_awake w1
  clear k1
  have Xb1 := hide b1
  have Xhn := hide hn
  have XcA := hide cA
  clear b1 hn cA
  go_enter Try.func4, Try.ntmps4
  go_wp2_with fail
  refine XcA.out.mono ?_
  rintro e w2 ⟨rfl, b2⟩
  have bb := Xb1.out.trans (b2.mono Xb1.out.size)
  clear XcA b2 Xb1
  have Xbb := hide bb
  clear bb
  go_wp2_with fail
  go_ret
  exact ⟨rfl, Xbb.out⟩
end Go.Proofs.Ytacankgalkffmaa

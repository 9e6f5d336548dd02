/- The reference's tree: Check. -/
import Derived.Test.YtacankgalkffmaaGreatArR6
namespace Go.Proofs.YtacankgalkffmaaGreat
set_option linter.unusedVariables false
set_option linter.unusedSimpArgs false
open Go.RowKit
attribute [local irreducible] wpStill wpOne wpPh
section
variable {w w' : World} {bt : Nat} {S F : Nat → Prop} {L : List Nd} {vt vn vr : Value} {G : GramD}
theorem ref19_Check (hL : Tr L) (hr : RAr w bt S L) (hg : IsGram w F vt vn vr G) (st i : Int) : Calls Tryz.prog 13 #[.pointer (some ⟨bt, 0, none⟩), GV vt vn vr st, .int .i64 i] w (Quiet w (.bool (chkO G st L i))) := by
 obtain ⟨A1, c1, A2, c2, A3, c3, rfl, rfl, rfl, -⟩ := hg.slices
 obtain ⟨w1, hw1⟩ : ∃ x, w.alloc (.cells #[.slice A1 G.terms.length c1, .slice A2 G.nons.length c2, .slice A3 G.rules.length c3, .int .i64 st] 26) = x := ⟨_, rfl⟩
 have b1 : Below w.heap.size w w1 := by rw [← hw1]; exact (Below.refl _ _).alloc (Nat.le_refl _) _
 have hr1 := hr.below b1
 have hg1 := hg.below b1
 have k1 : Blk w1 w.heap.size 26 #[.slice A1 G.terms.length c1, .slice A2 G.nons.length c2, .slice A3 G.rules.length c3, .int .i64 st] := by rw [← hw1]; exact Blk.new _ _ _
 have q0 : w1.cell? ⟨w.heap.size, 0, none⟩ = some (.slice A1 G.terms.length c1) := k1.cell 0
 have q1 : w1.cell? ⟨w.heap.size, 1, none⟩ = some (.slice A2 G.nons.length c2) := k1.cell 1
 have q2 : w1.cell? ⟨w.heap.size, 2, none⟩ = some (.slice A3 G.rules.length c3) := k1.cell 2
 have q3 : w1.cell? ⟨w.heap.size, 3, none⟩ = some (.int .i64 st) := k1.cell 3
 have cI := ref19_in hr1 i
 have cC := ref_check hg1 st
 have hc : chkO G st L i = (inN L.length i && (decide (checkOf G st = 0) && derO G L i)) := rfl
 generalize chkO G st L i = r at *
 by_cases hi : inN L.length i = true
 ·have cD := fun w hr hg => ref19_derived hL st (i.toNat + 1) i w (Nat.lt_succ_self _) hi hr hg (bt := bt) (S := S) (F := F) (vt := .slice A1 G.terms.length c1) (vn := .slice A2 G.nons.length c2) (vr := .slice A3 G.rules.length c3) (G := G)
  rw [hi] at cI
  rw [hi, Bool.true_and] at hc
  obtain ⟨q, hq⟩ : ∃ q, q = checkOf G st := ⟨_, rfl⟩
  rw [← hq] at hc cC
  by_cases h0 : q = 0
  ·subst h0
   have he : ((0 : Int) == 0) = true := rfl
   rw [decide_eq_true rfl, Bool.true_and] at hc
   have z1 : w1.heap.size = w.heap.size + 1 := by rw [← hw1]; simp
   clear hq hi hL hr hg
   have XcI := hide cI
   have XcC := hide cC
   have XcD := hide cD
   have Xhc := hide hc
   have Xk1 := hide k1
   have Xhr1 := hide hr1
   have Xhg1 := hide hg1
   have Xb1 := hide b1
   clear cI cC cD hc k1 hr1 hg1 b1
   go_enter Tryz.func13, Tryz.ntmps13
   go_wp2_with fail
   refine XcI.out.mono ?_
   rintro e w' ⟨rfl, rfl⟩
   clear XcI
   go_wp2_with fail
   refine XcC.out.mono ?_
   rintro e w2 ⟨rfl, b2⟩
   have k2 := Xk1.out.below b2 (by omega)
   have p0 : w2.cell? ⟨w.heap.size, 0, none⟩ = some (.slice A1 G.terms.length c1) := k2.cell 0
   have p1 : w2.cell? ⟨w.heap.size, 1, none⟩ = some (.slice A2 G.nons.length c2) := k2.cell 1
   have p2 : w2.cell? ⟨w.heap.size, 2, none⟩ = some (.slice A3 G.rules.length c3) := k2.cell 2
   have p3 : w2.cell? ⟨w.heap.size, 3, none⟩ = some (.int .i64 st) := k2.cell 3
   have d2 := XcD.out w2 (Xhr1.out.below b2) (Xhg1.out.below b2)
   have bb := Xb1.out.trans (b2.mono Xb1.out.size)
   clear XcC XcD Xhr1 Xhg1 Xk1 k2 b2 q0 q1 q2 q3 Xb1
   have Xd2 := hide d2
   have Xbb := hide bb
   clear d2 bb
   go_wp2_with fail
   refine Xd2.out.mono ?_
   rintro e w3 ⟨rfl, b3⟩
   have bb3 := Xbb.out.trans (b3.mono Xbb.out.size)
   clear Xd2 b3 Xbb
   have Xbb3 := hide bb3
   clear bb3
   go_wp2_with fail
   go_ret
   exact ⟨ret_bool Xhc.out.symm, Xbb3.out⟩
  ·have he : (q == 0) = false := by simpa using h0
   rw [decide_eq_false h0, Bool.false_and] at hc
   clear hq hi hL hr hg hr1 hg1 k1 h0
   have XcI := hide cI
   have XcC := hide cC
   have Xhc := hide hc
   have Xb1 := hide b1
   clear cI cC hc b1
   go_enter Tryz.func13, Tryz.ntmps13
   go_wp2_with fail
   refine XcI.out.mono ?_
   rintro e w' ⟨rfl, rfl⟩
   clear XcI
   go_wp2_with fail
   refine XcC.out.mono ?_
   rintro e w2 ⟨rfl, b2⟩
   have bb := Xb1.out.trans (b2.mono Xb1.out.size)
   clear XcC b2 q0 q1 q2 q3 Xb1
   have Xbb := hide bb
   clear bb
   go_wp2_with fail
   go_ret
   exact ⟨ret_bool Xhc.out.symm, Xbb.out⟩
 ·have hi : inN L.length i = false := by simpa using hi
  rw [hi] at cI
  rw [hi, Bool.false_and] at hc
  clear hi hL hr hg hr1 hg1 k1 cC
  have XcI := hide cI
  have Xhc := hide hc
  have Xb1 := hide b1
  clear cI hc b1
  go_enter Tryz.func13, Tryz.ntmps13
  go_wp2_with fail
  refine XcI.out.mono ?_
  rintro e w' ⟨rfl, rfl⟩
  clear XcI
  go_wp2_with fail
  go_ret
  exact ⟨ret_bool Xhc.out.symm, Xb1.out⟩
end
end Go.Proofs.YtacankgalkffmaaGreat

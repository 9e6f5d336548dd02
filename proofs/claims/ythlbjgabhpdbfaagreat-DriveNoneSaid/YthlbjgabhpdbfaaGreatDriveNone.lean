/- No engine: the walk of the statement DriveNone. -/
import Derived.Test.YthlbjgabhpdbfaaGreatBase
import Derived.Test.YthlbjgabhpdbfaaGreatAw20
namespace Go.Proofs.YthlbjgabhpdbfaaGreat
set_option linter.unusedVariables false
set_option linter.unusedSimpArgs false
open Go.RowKit
theorem drive_can0 (t : Int) (w : World) : Calls Tryz.prog 96 #[.pointer none, .int .i64 t] w fun e w' => e = .returned (.bool false) ∧ w = w' := by
 go_enter Tryz.func96, Tryz.ntmps96
 go_wp2_with fail
 go_ret
 exact ⟨rfl, rfl⟩
theorem drive_Probe0 (t : Int) (w : World) : Calls Tryz.prog 43 #[.pointer none, .int .i64 t] w fun e w' => e = .returned (.bool false) ∧ w = w' := by
 have cL := drive_can0 t w
 have XcL := hide cL
 clear cL
 go_enter Tryz.func43, Tryz.ntmps43
 go_wp2_with fail
 refine XcL.out.mono ?_
 rintro e w' ⟨rfl, rfl⟩
 clear XcL
 go_wp2_with fail
 go_ret
 exact ⟨rfl, rfl⟩
theorem drive_Push0 (t l : Int) (w : World) : Calls Tryz.prog 44 #[.pointer none, .int .i64 t, .int .i64 l] w fun e w' => e = .returned (.int .i64 13) ∧ w = w' := by
 go_enter Tryz.func44, Tryz.ntmps44
 go_wp2_with fail
 go_ret
 exact ⟨rfl, rfl⟩
theorem drive_Finish0 (w : World) : Calls Tryz.prog 54 #[.pointer none] w fun e w' => e = .returned (.tuple #[.int .i64 (-1), .int .i64 13]) ∧ w = w' := by
 go_enter Tryz.func54, Tryz.ntmps54
 go_wp2_with fail
 go_ret2
 exact ⟨rfl, rfl⟩
theorem drive_Steps0 (w : World) : Calls Tryz.prog 55 #[.pointer none] w fun e w' => e = .returned (.int .i64 0) ∧ w = w' := by
 go_enter Tryz.func55, Tryz.ntmps55
 go_wp2_with fail
 go_ret
 exact ⟨rfl, rfl⟩
theorem drive_Stack0 (w : World) : Calls Tryz.prog 40 #[.pointer none] w fun e w' => e = .returned (.slice none 0 0) ∧ w = w' := by
 go_enter Tryz.func40, Tryz.ntmps40
 go_wp2_with fail
 go_ret
 exact ⟨rfl, rfl⟩
theorem drive_Expected0 (w : World) : Calls Tryz.prog 58 #[.pointer none] w fun e w' => e = .returned (.slice none 0 0) ∧ w = w' := by
 go_enter Tryz.func58, Tryz.ntmps58
 go_wp2_with fail
 go_ret
 exact ⟨rfl, rfl⟩
theorem drive_Tree0 (w : World) : Calls Tryz.prog 41 #[.pointer none] w fun e w' => e = .returned (.pointer none) ∧ w = w' := by
 go_enter Tryz.func41, Tryz.ntmps41
 go_wp2_with fail
 go_ret
 exact ⟨rfl, rfl⟩
theorem drive_Twin0 (w : World) : Calls Tryz.prog 53 #[.pointer none] w fun e w' => e = .returned (.pointer none) ∧ w = w' := by
 go_enter Tryz.func53, Tryz.ntmps53
 go_wp2_with fail
 go_ret
 exact ⟨rfl, rfl⟩
theorem drive_New0 (w : World) : Calls Tryz.prog 39 #[.pointer none] w fun e w' => e = .returned (.pointer none) ∧ w = w' := by
 go_enter Tryz.func39, Tryz.ntmps39
 go_wp2_with fail
 go_ret
 exact ⟨rfl, rfl⟩
set_option maxRecDepth 100000 in
theorem walk_DriveNone (t l : Int) (w : World) (ht : (Lit.int .i64 t).wf = true) (hl : (Lit.int .i64 l).wf = true) : Calls Tryz.prog 11 #[.int .i64 t, .int .i64 l] w fun e w' => e = .returned (.bool true) ∧ Below w.heap.size w w' := by
 clear ht hl
 have c1 := drive_Finish0 w
 have c2 := drive_Probe0 t w
 have c3 := drive_Push0 t l w
 have c4 := drive_Steps0 w
 have c5 := drive_Stack0 w
 have c6 := drive_Expected0 w
 have c7 := drive_Tree0 w
 have c8 := drive_Twin0 w
 have c9 := drive_New0 w
 have cA := law20_awake w
 have Xc1 := hide c1
 have Xc2 := hide c2
 have Xc3 := hide c3
 have Xc4 := hide c4
 have Xc5 := hide c5
 have Xc6 := hide c6
 have Xc7 := hide c7
 have Xc8 := hide c8
 have Xc9 := hide c9
 have XcA := hide cA
 clear c1 c2 c3 c4 c5 c6 c7 c8 c9 cA
 go_enter Tryz.func11, Tryz.ntmps11
 go_wp2_with fail
 refine Xc1.out.mono ?_
 rintro e w' ⟨rfl, rfl⟩
 go_wp2_with fail
 refine Xc2.out.mono ?_
 rintro e w' ⟨rfl, rfl⟩
 go_wp2_with fail
 refine Xc3.out.mono ?_
 rintro e w' ⟨rfl, rfl⟩
 go_wp2_with fail
 refine Xc4.out.mono ?_
 rintro e w' ⟨rfl, rfl⟩
 go_wp2_with fail
 refine Xc5.out.mono ?_
 rintro e w' ⟨rfl, rfl⟩
 go_wp2_with fail
 refine Xc6.out.mono ?_
 rintro e w' ⟨rfl, rfl⟩
 go_wp2_with fail
 refine Xc7.out.mono ?_
 rintro e w' ⟨rfl, rfl⟩
 go_wp2_with fail
 refine Xc8.out.mono ?_
 rintro e w' ⟨rfl, rfl⟩
 go_wp2_with fail
 refine Xc9.out.mono ?_
 rintro e w' ⟨rfl, rfl⟩
 go_wp2_with fail
 refine XcA.out.mono ?_
 rintro e w' ⟨rfl, b⟩
 have Xb := hide b
 clear b
 go_wp2_with fail
 go_ret
 exact ⟨rfl, Xb.out⟩
end Go.Proofs.YthlbjgabhpdbfaaGreat

/- The statement 'DriveNone': for every input the law returns true, and each argument reads as it did. No condition. -/
import Derived.Test.YthlbjgabhpdbfaaGreatRows
import Derived.Test.YthlbjgabhpdbfaaGreatOpen
import Derived.Test.YthlbjgabhpdbfaaGreatOpenZ
import Derived.Test.YthlbjgabhpdbfaaGreatDriveNone
namespace Go.Proofs.YthlbjgabhpdbfaaGreat.driveNone
open Go.ChangeShapes Go.WideShapes Go.ChangeAt Go.RowKit
open Go.ChangeMaps (open_string shut_string)
set_option linter.unusedVariables false
theorem own : ownKnob Tryz.prog.godebug = none := by kernel_rfl
theorem laidOut : laidOutB Tryz.prog = true := by kernel_rfl
set_option maxRecDepth 100000 in
theorem lifted (os : Os) (started : os.Started) (H : Type) (enc : TypeId × Value → H) :
  ReturnsInHanded {} Tryz.checked os 11 .any (Rows.driveNoneSpec.pre6 enc Tryz.prog Tryz.f11 Rows.driveNoneRow.domain false) (Rows.driveNoneSpec.post enc Tryz.prog Tryz.f11 false true false false) := by
 refine returnsInHanded_of_change_sized (C := Tryz.checked) own started (by kernel_rfl) Tryz.func11
  (ChangeSpec.witness6 (enc := enc) (C := Tryz.checked) false ⟨#[], #[.int .i64 0, .int .i64 0], []⟩ 8 (by kernel_rfl) (by kernel_rfl) (by kernel_rfl) (by kernel_rfl)) ?_
 intro W base args ds gs before hval0 hW hcnd hsz0 _
 have hval : ∀ (j : Nat) t v, Tryz.f11.params[j]? = some t → args[j]? = some v → Value.okWide Tryz.prog W .any base t v := hval0
 have hW' := hW
 obtain ⟨p, q, hA0, hV, rfl, hfz, hnd⟩ := hW
 have hA : DataW.TrodAll enc Tryz.prog W 0 (fun _ => true) true Tryz.f11.params.toList args.toList ds p := hA0
 obtain ⟨rfl, rfl⟩ := trodVars_none hV
 have hsz1 : (DataW.weightsEach Tryz.prog Tryz.f11.params.toList ds).all (· ≤ reachBytes) = true := by
  have h : (DataW.weightsEach Tryz.prog (Tryz.f11.params.toList ++ []) (ds ++ [])).all (· ≤ reachBytes) = true := hsz0
  rw [List.append_nil, List.append_nil] at h
  exact h
 rw [Tryz.params11] at hA hval hsz1
 obtain ⟨v0, vs0, d0, ds0, p0, q0, hargs, rfl, rfl, h0, r0⟩ := trodAll_cons hA
 obtain ⟨v1, vs1, d1, ds1, p1, q1, rfl, rfl, rfl, h1, r1⟩ := trodAll_cons r0
 obtain ⟨rfl, rfl, rfl⟩ := trodAll_nil r1
 obtain rfl : args = #[v0, v1] := by cases args; simp_all
 have k0 := h0
 have k1 := h1
 obtain ⟨a0, rfl, rfl, rfl, w0⟩ := open_int Tryz.underlying3 (hval 0 3 v0 rfl rfl) h0
 obtain ⟨a1, rfl, rfl, rfl, w1⟩ := open_int Tryz.underlying3 (hval 1 3 v1 rfl rfl) h1
 refine (walk_DriveNone a0 a1 W w0 w1).mono fun e W' ⟨he, bel⟩ => ?_
 subst he
 exact ⟨_, rfl, _, _, _, [], _, [], hW', trodAll_mk1 (shut_bool Tryz.underlying4 _), (trodAll_cons_mk (trod_back laidOut (by kernel_rfl) (of_decide_eq_true (by kernel_rfl)) k0 bel) (trodAll_cons_mk (trod_back laidOut (by kernel_rfl) (of_decide_eq_true (by kernel_rfl)) k1 bel) trodAll_mk0)), rfl, bel.frame _, fun h => by cases h⟩
theorem part1 : (Rows.driveNoneRow.inPlace == Tryz.pinned.checked.prog.inPlace 11) = true := by kernel_rfl
theorem part2 : (Rows.driveNoneRow.unfollowed == Tryz.pinned.checked.prog.unfollowed 11) = true := by kernel_rfl
theorem part3 : (Rows.driveNoneRow.recurses == Tryz.pinned.checked.prog.recurses 11) = true := by kernel_rfl
theorem part4 : (Rows.driveNoneRow.named == Tryz.pinned.checked.prog.varsNamed 11) = true := by kernel_rfl
theorem part5 : laidOutB Tryz.pinned.checked.prog = true := by kernel_rfl
theorem part6 : mapsRowed Tryz.pinned.checked.prog = true := by kernel_rfl
theorem part7 : (Rows.driveNoneRow.plainKeys == Tryz.pinned.checked.prog.plainKeys) = true := by kernel_rfl
theorem joined : joinedFacts Tryz.pinned.checked.prog 11 Tryz.f11 Rows.driveNoneSpec Rows.driveNoneRow = true := by
 unfold joinedFacts
 rw [part1, part2, part3, part4, part5, part6, part7]
 kernel_rfl
theorem named : Tryz.pinned.checked.prog.funcNamed Rows.driveNoneRow.func = some 11 := by kernel_rfl
theorem inst : Tryz.f11.isInstance Tryz.pinned.checked.prog Rows.driveNoneRow.origin Rows.driveNoneRow.targs := of_decide_eq_true (by kernel_rfl)
theorem wrap : Tryz.f11.isWrapper Tryz.pinned.checked.prog Rows.driveNoneRow.wrapper Rows.driveNoneRow.mainSum := by unfold Func.isWrapper; first | (rw [if_pos (by decide +kernel)]; kernel_rfl) | (rw [if_neg (by decide +kernel)]; exact ⟨rfl, rfl⟩)
theorem over : Rows.driveNoneRow.holds Tryz.pinned (OpenSpec.ofChange Rows.driveNoneSpec) :=
 OpenClaim.holds_of_wide 11 Tryz.f11 rfl rfl rfl rfl rfl rfl rfl ⟨rfl, rfl, rfl, rfl, rfl⟩ rfl rfl rfl rfl rfl named Tryz.func11 joined inst wrap
  (fun os started H enc _ => lifted os started H enc)
theorem proved : Rows.DriveNoneSaid := over
#print axioms proved
end Go.Proofs.YthlbjgabhpdbfaaGreat.driveNone

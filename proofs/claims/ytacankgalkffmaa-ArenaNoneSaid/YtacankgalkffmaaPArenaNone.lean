/- The statement 'ArenaNone': for every input the law returns true, and each argument reads as it did. No condition. -/
import Derived.Test.YtacankgalkffmaaRows
import Derived.Test.YtacankgalkffmaaOpen
import Derived.Test.YtacankgalkffmaaOpenZ
import Derived.Test.YtacankgalkffmaaArNone
namespace Go.Proofs.Ytacankgalkffmaa.arenaNone
open Go.ChangeShapes Go.WideShapes Go.ChangeAt Go.RowKit
open Go.ChangeMaps (open_string shut_string)
set_option linter.unusedVariables false
theorem own : ownKnob Try.prog.godebug = none := by kernel_rfl
theorem laidOut : laidOutB Try.prog = true := by kernel_rfl
set_option maxRecDepth 100000 in
theorem lifted (os : Os) (started : os.Started) (H : Type) (enc : TypeId × Value → H) :
  ReturnsInHanded {} Try.checked os 4 .any (Rows.arenaNoneSpec.pre6 enc Try.prog Try.f4 Rows.arenaNoneRow.domain false) (Rows.arenaNoneSpec.post enc Try.prog Try.f4 false true false false) := by
 refine returnsInHanded_of_change_sized (C := Try.checked) own started (by kernel_rfl) Try.func4
  (ChangeSpec.witness6 (enc := enc) (C := Try.checked) false ⟨#[], #[.agg #[.bool false, .int .i64 0, .int .i64 0, .slice none 0 0], .int .i64 0], []⟩ 8 (by kernel_rfl) (by kernel_rfl) (by kernel_rfl) (by kernel_rfl)) ?_
 intro W base args ds gs before hval0 hW hcnd hsz0 _
 have hval : ∀ (j : Nat) t v, Try.f4.params[j]? = some t → args[j]? = some v → Value.okWide Try.prog W .any base t v := hval0
 have hW' := hW
 obtain ⟨p, q, hA0, hV, rfl, hfz, hnd⟩ := hW
 have hA : DataW.TrodAll enc Try.prog W 0 (fun _ => true) true Try.f4.params.toList args.toList ds p := hA0
 obtain ⟨rfl, rfl⟩ := trodVars_none hV
 have hsz1 : (DataW.weightsEach Try.prog Try.f4.params.toList ds).all (· ≤ reachBytes) = true := by
  have h : (DataW.weightsEach Try.prog (Try.f4.params.toList ++ []) (ds ++ [])).all (· ≤ reachBytes) = true := hsz0
  rw [List.append_nil, List.append_nil] at h
  exact h
 rw [Try.params4] at hA hval hsz1
 obtain ⟨v0, vs0, d0, ds0, p0, q0, hargs, rfl, rfl, h0, r0⟩ := trodAll_cons hA
 obtain ⟨v1, vs1, d1, ds1, p1, q1, rfl, rfl, rfl, h1, r1⟩ := trodAll_cons r0
 obtain ⟨rfl, rfl, rfl⟩ := trodAll_nil r1
 obtain rfl : args = #[v0, v1] := by cases args; simp_all
 have k0 := h0
 have k1 := h1
 obtain ⟨C0, rfl, hs0⟩ := okWide_struct Try.underlying27 (hval 0 27 v0 rfl rfl)
 obtain ⟨n0, hn0⟩ := h0
 obtain ⟨a0, w0⟩ := opens_opZ n0 _ _ hn0 (reached_of hsz1 (j := 0) rfl rfl)
 obtain ⟨a1, rfl, rfl, rfl, w1⟩ := open_int Try.underlying3 (hval 1 3 v1 rfl rfl) h1
 refine (walk_ArenaNone C0 a0 a1 W w0 w1).mono fun e W' ⟨he, bel⟩ => ?_
 subst he
 exact ⟨_, rfl, _, _, _, [], _, [], hW', trodAll_mk1 (shut_bool Try.underlying4 _), (trodAll_cons_mk (trod_back laidOut (by kernel_rfl) (of_decide_eq_true (by kernel_rfl)) k0 bel) (trodAll_cons_mk (trod_back laidOut (by kernel_rfl) (of_decide_eq_true (by kernel_rfl)) k1 bel) trodAll_mk0)), rfl, bel.frame _, fun h => by cases h⟩
theorem part1 : (Rows.arenaNoneRow.inPlace == Try.pinned.checked.prog.inPlace 4) = true := by kernel_rfl
theorem part2 : (Rows.arenaNoneRow.unfollowed == Try.pinned.checked.prog.unfollowed 4) = true := by kernel_rfl
theorem part3 : (Rows.arenaNoneRow.recurses == Try.pinned.checked.prog.recurses 4) = true := by kernel_rfl
theorem part4 : (Rows.arenaNoneRow.named == Try.pinned.checked.prog.varsNamed 4) = true := by kernel_rfl
theorem part5 : laidOutB Try.pinned.checked.prog = true := by kernel_rfl
theorem part6 : mapsRowed Try.pinned.checked.prog = true := by kernel_rfl
theorem part7 : (Rows.arenaNoneRow.plainKeys == Try.pinned.checked.prog.plainKeys) = true := by kernel_rfl
theorem joined : joinedFacts Try.pinned.checked.prog 4 Try.f4 Rows.arenaNoneSpec Rows.arenaNoneRow = true := by
 unfold joinedFacts
 rw [part1, part2, part3, part4, part5, part6, part7]
 kernel_rfl
theorem named : Try.pinned.checked.prog.funcNamed Rows.arenaNoneRow.func = some 4 := by kernel_rfl
theorem inst : Try.f4.isInstance Try.pinned.checked.prog Rows.arenaNoneRow.origin Rows.arenaNoneRow.targs := of_decide_eq_true (by kernel_rfl)
theorem wrap : Try.f4.isWrapper Try.pinned.checked.prog Rows.arenaNoneRow.wrapper Rows.arenaNoneRow.mainSum := by unfold Func.isWrapper; first | (rw [if_pos (by decide +kernel)]; kernel_rfl) | (rw [if_neg (by decide +kernel)]; exact ⟨rfl, rfl⟩)
theorem over : Rows.arenaNoneRow.holds Try.pinned (OpenSpec.ofChange Rows.arenaNoneSpec) :=
 OpenClaim.holds_of_wide 4 Try.f4 rfl rfl rfl rfl rfl rfl rfl ⟨rfl, rfl, rfl, rfl, rfl⟩ rfl rfl rfl rfl rfl named Try.func4 joined inst wrap
  (fun os started H enc _ => lifted os started H enc)
theorem proved : Rows.ArenaNoneSaid := over
#print axioms proved
end Go.Proofs.Ytacankgalkffmaa.arenaNone

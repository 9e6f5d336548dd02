/- The statement 'ArenaRoots': for every input the law returns true, and each argument reads as it did. No condition. -/
import Derived.Test.YtacankgalkffmaaRows
import Derived.Test.YtacankgalkffmaaOpen
import Derived.Test.YtacankgalkffmaaOpenZ
import Derived.Test.YtacankgalkffmaaArRoots
namespace Go.Proofs.Ytacankgalkffmaa.arenaRoots
open Go.ChangeShapes Go.WideShapes Go.ChangeAt Go.RowKit
open Go.ChangeMaps (open_string shut_string)
set_option linter.unusedVariables false
theorem own : ownKnob Try.prog.godebug = none := by kernel_rfl
theorem laidOut : laidOutB Try.prog = true := by kernel_rfl
set_option maxRecDepth 100000 in
theorem lifted (os : Os) (started : os.Started) (H : Type) (enc : TypeId × Value → H) :
  ReturnsInHanded {} Try.checked os 3 .any (Rows.arenaRootsSpec.pre6 enc Try.prog Try.f3 Rows.arenaRootsRow.domain false) (Rows.arenaRootsSpec.post enc Try.prog Try.f3 false true false false) := by
 refine returnsInHanded_of_change_sized (C := Try.checked) own started (by kernel_rfl) Try.func3
  (ChangeSpec.witness6 (enc := enc) (C := Try.checked) false ⟨#[], #[.slice none 0 0], []⟩ 8 (by kernel_rfl) (by kernel_rfl) (by kernel_rfl) (by kernel_rfl)) ?_
 intro W base args ds gs before hval0 hW hcnd hsz0 _
 have hval : ∀ (j : Nat) t v, Try.f3.params[j]? = some t → args[j]? = some v → Value.okWide Try.prog W .any base t v := hval0
 have hW' := hW
 obtain ⟨p, q, hA0, hV, rfl, hfz, hnd⟩ := hW
 have hA : DataW.TrodAll enc Try.prog W 0 (fun _ => true) true Try.f3.params.toList args.toList ds p := hA0
 obtain ⟨rfl, rfl⟩ := trodVars_none hV
 have hsz1 : (DataW.weightsEach Try.prog Try.f3.params.toList ds).all (· ≤ reachBytes) = true := by
  have h : (DataW.weightsEach Try.prog (Try.f3.params.toList ++ []) (ds ++ [])).all (· ≤ reachBytes) = true := hsz0
  rw [List.append_nil, List.append_nil] at h
  exact h
 rw [Try.params3] at hA hval hsz1
 obtain ⟨v0, vs0, d0, ds0, p0, q0, hargs, rfl, rfl, h0, r0⟩ := trodAll_cons hA
 obtain ⟨rfl, rfl, rfl⟩ := trodAll_nil r0
 obtain rfl : args = #[v0] := by cases args; simp_all
 have k0 := h0
 obtain ⟨A0, l0, c0, rfl⟩ := okWide_slice Try.underlying22 (hval 0 22 v0 rfl rfl)
 obtain ⟨n0, hn0⟩ := h0
 obtain ⟨a0, u0, hu0, w0⟩ := opens_opsZ n0 _ _ hn0 (reached_of hsz1 (j := 0) rfl rfl)
 obtain rfl : u0 = .slice A0 l0 c0 := by simpa [Value.cells] using hu0.symm
 refine (walk_ArenaRoots (.slice A0 l0 c0) a0 W w0).mono fun e W' ⟨he, bel⟩ => ?_
 subst he
 exact ⟨_, rfl, _, _, _, [], _, [], hW', trodAll_mk1 (shut_bool Try.underlying4 _), (trodAll_cons_mk (trod_back laidOut (by kernel_rfl) (of_decide_eq_true (by kernel_rfl)) k0 bel) trodAll_mk0), rfl, bel.frame _, fun h => by cases h⟩
theorem part1 : (Rows.arenaRootsRow.inPlace == Try.pinned.checked.prog.inPlace 3) = true := by kernel_rfl
theorem part2 : (Rows.arenaRootsRow.unfollowed == Try.pinned.checked.prog.unfollowed 3) = true := by kernel_rfl
theorem part3 : (Rows.arenaRootsRow.recurses == Try.pinned.checked.prog.recurses 3) = true := by kernel_rfl
theorem part4 : (Rows.arenaRootsRow.named == Try.pinned.checked.prog.varsNamed 3) = true := by kernel_rfl
theorem part5 : laidOutB Try.pinned.checked.prog = true := by kernel_rfl
theorem part6 : mapsRowed Try.pinned.checked.prog = true := by kernel_rfl
theorem part7 : (Rows.arenaRootsRow.plainKeys == Try.pinned.checked.prog.plainKeys) = true := by kernel_rfl
theorem joined : joinedFacts Try.pinned.checked.prog 3 Try.f3 Rows.arenaRootsSpec Rows.arenaRootsRow = true := by
 unfold joinedFacts
 rw [part1, part2, part3, part4, part5, part6, part7]
 kernel_rfl
theorem named : Try.pinned.checked.prog.funcNamed Rows.arenaRootsRow.func = some 3 := by kernel_rfl
theorem inst : Try.f3.isInstance Try.pinned.checked.prog Rows.arenaRootsRow.origin Rows.arenaRootsRow.targs := of_decide_eq_true (by kernel_rfl)
theorem wrap : Try.f3.isWrapper Try.pinned.checked.prog Rows.arenaRootsRow.wrapper Rows.arenaRootsRow.mainSum := by unfold Func.isWrapper; first | (rw [if_pos (by decide +kernel)]; kernel_rfl) | (rw [if_neg (by decide +kernel)]; exact ⟨rfl, rfl⟩)
theorem over : Rows.arenaRootsRow.holds Try.pinned (OpenSpec.ofChange Rows.arenaRootsSpec) :=
 OpenClaim.holds_of_wide 3 Try.f3 rfl rfl rfl rfl rfl rfl rfl ⟨rfl, rfl, rfl, rfl, rfl⟩ rfl rfl rfl rfl rfl named Try.func3 joined inst wrap
  (fun os started H enc _ => lifted os started H enc)
theorem proved : Rows.ArenaRootsSaid := over
#print axioms proved
end Go.Proofs.Ytacankgalkffmaa.arenaRoots

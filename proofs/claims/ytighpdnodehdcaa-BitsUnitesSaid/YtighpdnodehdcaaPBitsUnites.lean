/- The statement 'BitsUnites': for every input the law returns true, and each argument reads as it did. No condition. -/
import Derived.Test.YtighpdnodehdcaaRows
import Derived.Test.YtighpdnodehdcaaOpen
import Derived.Test.YtighpdnodehdcaaBitsUnites
namespace Go.Proofs.Ytighpdnodehdcaa.bitsUnites
open Go.ChangeShapes Go.WideShapes Go.ChangeAt Go.RowKit
open Go.ChangeMaps (open_string shut_string)
set_option linter.unusedVariables false

theorem own : ownKnob Try.prog.godebug = none := by kernel_rfl
theorem laidOut : laidOutB Try.prog = true := by kernel_rfl

set_option maxRecDepth 100000 in
theorem lifted (os : Os) (started : os.Started) (H : Type) (enc : TypeId × Value → H) :
    ReturnsInHanded {} Try.checked os 6 .any (Rows.bitsUnitesSpec.pre6 enc Try.prog Try.f6 Rows.bitsUnitesRow.domain false) (Rows.bitsUnitesSpec.post enc Try.prog Try.f6 false true false false) := by
  refine returnsInHanded_of_change (C := Try.checked) own started (by kernel_rfl) Try.func6
    (ChangeSpec.witness6 (enc := enc) (C := Try.checked) false ⟨#[], #[.int .i64 0, .slice none 0 0, .slice none 0 0, .slice none 0 0], []⟩ 8 (by kernel_rfl) (by kernel_rfl) (by kernel_rfl) (by kernel_rfl)) ?_
  intro W base args ds gs before hval0 hW hcnd _
  have hval : ∀ (j : Nat) t v, Try.f6.params[j]? = some t → args[j]? = some v → Value.okWide Try.prog W .any base t v := hval0
  have hW' := hW
  obtain ⟨p, q, hA0, hV, rfl, hfz, hnd⟩ := hW
  have hA : DataW.TrodAll enc Try.prog W 0 (fun _ => true) true Try.f6.params.toList args.toList ds p := hA0
  rw [Try.params6] at hA hval
  obtain ⟨v0, vs0, d0, ds0, p0, q0, hargs, rfl, rfl, h0, r0⟩ := trodAll_cons hA
  obtain ⟨v1, vs1, d1, ds1, p1, q1, rfl, rfl, rfl, h1, r1⟩ := trodAll_cons r0
  obtain ⟨v2, vs2, d2, ds2, p2, q2, rfl, rfl, rfl, h2, r2⟩ := trodAll_cons r1
  obtain ⟨v3, vs3, d3, ds3, p3, q3, rfl, rfl, rfl, h3, r3⟩ := trodAll_cons r2
  obtain ⟨rfl, rfl, rfl⟩ := trodAll_nil r3
  obtain rfl : args = #[v0, v1, v2, v3] := by cases args; simp_all
  obtain ⟨rfl, rfl⟩ := trodVars_none hV
  have k0 := h0
  have k1 := h1
  have k2 := h2
  have k3 := h3
  obtain ⟨a0, rfl, rfl, rfl, w0⟩ := open_int Try.underlying3 (hval 0 3 v0 rfl rfl) h0
  obtain ⟨A1, l1, c1, rfl⟩ := okWide_slice Try.underlying43 (hval 1 43 v1 rfl rfl)
  obtain ⟨n1, hn1⟩ := h1
  obtain ⟨a1, u1, hu1, w1⟩ := (opens_list (k := 1) Try.underlying43 (by kernel_rfl) Nat.one_pos (opens_int Try.underlying3)) n1 _ _ hn1
  obtain rfl : u1 = .slice A1 l1 c1 := by simpa [Value.cells] using hu1.symm
  obtain ⟨A2, l2, c2, rfl⟩ := okWide_slice Try.underlying43 (hval 2 43 v2 rfl rfl)
  obtain ⟨n2, hn2⟩ := h2
  obtain ⟨a2, u2, hu2, w2⟩ := (opens_list (k := 1) Try.underlying43 (by kernel_rfl) Nat.one_pos (opens_int Try.underlying3)) n2 _ _ hn2
  obtain rfl : u2 = .slice A2 l2 c2 := by simpa [Value.cells] using hu2.symm
  obtain ⟨A3, l3, c3, rfl⟩ := okWide_slice Try.underlying43 (hval 3 43 v3 rfl rfl)
  obtain ⟨n3, hn3⟩ := h3
  obtain ⟨a3, u3, hu3, w3⟩ := (opens_list (k := 1) Try.underlying43 (by kernel_rfl) Nat.one_pos (opens_int Try.underlying3)) n3 _ _ hn3
  obtain rfl : u3 = .slice A3 l3 c3 := by simpa [Value.cells] using hu3.symm
  refine (walk_BitsUnites a0 (.slice A1 l1 c1) a1 (.slice A2 l2 c2) a2 (.slice A3 l3 c3) a3 W w0 w1 w2 w3).mono fun e W' ⟨he, bel⟩ => ?_
  subst he
  exact ⟨_, rfl, _, _, _, [], _, [], hW', trodAll_mk1 (shut_bool Try.underlying4 _), (trodAll_cons_mk (trod_back laidOut (by kernel_rfl) (of_decide_eq_true (by kernel_rfl)) k0 bel) (trodAll_cons_mk (trod_back laidOut (by kernel_rfl) (of_decide_eq_true (by kernel_rfl)) k1 bel) (trodAll_cons_mk (trod_back laidOut (by kernel_rfl) (of_decide_eq_true (by kernel_rfl)) k2 bel) (trodAll_cons_mk (trod_back laidOut (by kernel_rfl) (of_decide_eq_true (by kernel_rfl)) k3 bel) trodAll_mk0)))), rfl, bel.frame _, fun h => by cases h⟩

theorem over : Rows.bitsUnitesRow.holds Try.pinned (OpenSpec.ofChange Rows.bitsUnitesSpec) :=
  OpenClaim.holds_of_wide 6 Try.f6 rfl rfl rfl rfl rfl rfl rfl ⟨rfl, rfl, rfl, rfl, rfl⟩ rfl rfl rfl rfl rfl (by kernel_rfl) Try.func6 (by kernel_rfl)
    (of_decide_eq_true (by kernel_rfl)) (by unfold Func.isWrapper; first | (rw [if_pos (by decide +kernel)]; kernel_rfl) | (rw [if_neg (by decide +kernel)]; exact ⟨rfl, rfl⟩))
    (fun os started H enc _ => lifted os started H enc)

theorem proved : Rows.BitsUnitesSaid := over
#print axioms proved
end Go.Proofs.Ytighpdnodehdcaa.bitsUnites

/- States in memory: the opening of a list of states. -/
import Derived.Test.YtlpokomfljmogaaAuto11
namespace Go.Proofs.Ytlpokomfljmogaa
set_option linter.unusedVariables false
set_option linter.unusedSimpArgs false
open Go.RowKit
section
open Go.ChangeShapes Go.WideShapes Go.ChangeAt Go.RowKit Go.Deep
variable {H : Type} {enc : TypeId × Value → H} {w : World} {sp : Nat → Bool}
theorem opens_transZ : OpensZ enc Try.prog w sp 42 (fun cs (x : It) => ItemWf cs x) :=
  opens_struct2Z Try.underlying42 (by kernel_rfl) (by kernel_rfl) (OpensZ.of (opens_int Try.underlying3)) (OpensZ.of (opens_int Try.underlying3))
theorem opens_transsZ : OpensZ enc Try.prog w sp 26 (fun cs (xs : List It) => ∃ v, cs = [v] ∧ RdL w (· < w.heap.size) 2 (fun cs x => ItemWf cs x) v xs ∧ xs.length * 16 ≤ 140737488351232) :=
  opens_listZ Try.underlying26 (by kernel_rfl) (by decide) (by kernel_rfl) opens_transZ
def StWf (w : World) (cs : List Value) (d : List It × List It) : Prop := ∃ c0 c1, cs = [c0, c1] ∧ (∃ v, [c0] = [v] ∧ RdL w (· < w.heap.size) 2 (fun cs x => ItemWf cs x) v d.1 ∧ d.1.length * 16 ≤ 140737488351232) ∧ (∃ v, [c1] = [v] ∧ RdL w (· < w.heap.size) 2 (fun cs x => ItemWf cs x) v d.2 ∧ d.2.length * 16 ≤ 140737488351232)
theorem opens_stateZ : OpensZ enc Try.prog w sp 28 (fun cs (d : List It × List It) => StWf w cs d) :=
  opens_struct2Z Try.underlying28 (by kernel_rfl) (by kernel_rfl) opens_itemsZ opens_transsZ
theorem opens_statesZ : OpensZ enc Try.prog w sp 22 (fun cs (xs : List (List It × List It)) => ∃ v, cs = [v] ∧ RdL w (· < w.heap.size) 2 (fun cs d => StWf w cs d) v xs ∧ xs.length * 48 ≤ 140737488351232) :=
  opens_listZ Try.underlying22 (by kernel_rfl) (by decide) (by kernel_rfl) opens_stateZ
end
theorem stCells_at {Z : List (Value × Value)} {j : Nat} {u : Value} (h : (stCells Z)[j]? = some u) : ∃ i z, Z[i]? = some z ∧ ((j = i * 2 ∧ u = z.1) ∨ (j = i * 2 + 1 ∧ u = z.2)) := by
  induction Z generalizing j with
  | nil => simp at h
  | cons y r ih =>
    match j, h with
    | 0, h => simp [stCells] at h; exact ⟨0, y, rfl, .inl ⟨rfl, h.symm⟩⟩
    | 1, h => simp [stCells] at h; exact ⟨0, y, rfl, .inr ⟨rfl, h.symm⟩⟩
    | j + 2, h =>
      have h' : (stCells r)[j]? = some u := by simpa [stCells] using h
      obtain ⟨i, z, h1, h2⟩ := ih h'
      refine ⟨i + 1, z, by simpa using h1, ?_⟩
      rcases h2 with ⟨e1, e2⟩ | ⟨e1, e2⟩
      · exact .inl ⟨by omega, e2⟩
      · exact .inr ⟨by omega, e2⟩
theorem list_choice {α β : Type} : ∀ {D : List α} {P : Nat → β → Prop}, (∀ i d, D[i]? = some d → ∃ z, P i z) → ∃ Z : List β, Z.length = D.length ∧ ∀ i z, Z[i]? = some z → P i z
  | [], P, _ => ⟨[], rfl, fun i z h => by simp at h⟩
  | d :: r, P, h => by
    obtain ⟨z, hz⟩ := h 0 d rfl
    obtain ⟨Z, h1, h2⟩ := list_choice (D := r) (P := fun i z => P (i + 1) z) (fun i d hd => h (i + 1) d (by simpa using hd))
    refine ⟨z :: Z, by simp [h1], fun i y hy => ?_⟩
    cases i with
    | zero => simp at hy; subst hy; exact hz
    | succ i => exact h2 i y (by simpa using hy)
theorem rdl_states {w : World} {v : Value} {D : List (List It × List It)} (h : RdL w (· < w.heap.size) 2 (fun cs d => StWf w cs d) v D) : RdSt w (· < w.heap.size) v D := by
  obtain ⟨A, c, hv, hc, hm, hr⟩ := h
  subst hv
  by_cases h0 : 0 < D.length
  · obtain ⟨b, off, rfl, hb, hcell⟩ := hr h0
    obtain ⟨Z, hZ, hP⟩ := list_choice (D := D) (P := fun i (z : Value × Value) => w.cell? ⟨b, off + i * 2, none⟩ = some z.1 ∧ w.cell? ⟨b, off + i * 2 + 1, none⟩ = some z.2 ∧ ∀ d, D[i]? = some d → RdIt w (· < w.heap.size) z.1 d.1 ∧ RdIt w (· < w.heap.size) z.2 d.2) (fun i d hd => by
      obtain ⟨cs, hl, ⟨c0, c1, rfl, ⟨u0, e0, f0, -⟩, u1, e1, f1, -⟩, hu⟩ := hcell i d hd
      injection e0 with e0 _
      injection e1 with e1 _
      subst e0 e1
      refine ⟨(c0, c1), by have := hu 0 c0 rfl; simpa using this, hu 1 c1 rfl, fun d' hd' => ?_⟩
      rw [hd] at hd'
      injection hd' with hd'
      subst hd'
      exact ⟨(rdl_items f0).1, (rdl_items f1).1⟩)
    refine ⟨Z, ⟨_, D.length, c, rfl, hc, hm, by rw [stCells_len, hZ], fun _ => ⟨b, off, rfl, hb, fun j u hu => ?_⟩⟩, hZ, fun i z d hz hd => (hP i z hz).2.2 d hd⟩
    obtain ⟨i, z, hz, h2⟩ := stCells_at hu
    obtain ⟨p1, p2, -⟩ := hP i z hz
    rcases h2 with ⟨e, e'⟩ | ⟨e, e'⟩
    · rw [e, e']; exact p1
    · rw [e, e', ← Nat.add_assoc]; exact p2
  · have hD : D = [] := List.eq_nil_of_length_eq_zero (by omega)
    subst hD
    exact ⟨[], ⟨A, 0, c, rfl, Nat.zero_le _, hm, rfl, fun h => absurd h (by omega)⟩, rfl, fun i z d h => by simp at h⟩
end Go.Proofs.Ytlpokomfljmogaa

/- Items in memory: lists of two cells an element. -/
import Derived.Test.YtlpokomfljmogaaGreatItemPlain
import Derived.Test.YtlpokomfljmogaaGreatOpenZ
import Derived.Test.YtlpokomfljmogaaGreatG9
namespace Go.Proofs.YtlpokomfljmogaaGreat
set_option linter.unusedVariables false
open Go.RowKit

def itCells : List It → List Value
  | [] => []
  | x :: r => I64 x.1 :: I64 x.2 :: itCells r
theorem itCells_length : ∀ l : List It, (itCells l).length = l.length * 2
  | [] => rfl
  | x :: r => by simp [itCells, itCells_length r]; omega
theorem itCells_append : ∀ a b : List It, itCells (a ++ b) = itCells a ++ itCells b
  | [], b => rfl
  | x :: r, b => by simp [itCells, itCells_append r b]
theorem itCells_get : ∀ {l : List It} {k : Nat} {x : It}, l[k]? = some x → (itCells l)[k * 2]? = some (I64 x.1) ∧ (itCells l)[k * 2 + 1]? = some (I64 x.2)
  | [], k, x, h => by simp at h
  | y :: r, 0, x, h => by simp at h; subst h; exact ⟨rfl, rfl⟩
  | y :: r, k + 1, x, h => by
    have := itCells_get (l := r) (k := k) (x := x) (by simpa using h)
    rw [show (k + 1) * 2 = k * 2 + 1 + 1 by omega]
    simpa [itCells] using this
theorem itCells_one (l : List It) : ∀ u ∈ itCells l, u.oneCell' = true := by
  induction l with
  | nil => simp [itCells]
  | cons x r ih =>
    intro u hu
    simp only [itCells, List.mem_cons] at hu
    rcases hu with rfl | rfl | hu
    · rfl
    · rfl
    · exact ih u hu
theorem itCells_at {l : List It} {j : Nat} {u : Value} (h : (itCells l)[j]? = some u) : ∃ k x, l[k]? = some x ∧ ((j = k * 2 ∧ u = I64 x.1) ∨ (j = k * 2 + 1 ∧ u = I64 x.2)) := by
  induction l generalizing j with
  | nil => simp [itCells] at h
  | cons y r ih =>
    match j, h with
    | 0, h => simp [itCells] at h; exact ⟨0, y, rfl, .inl ⟨rfl, h.symm⟩⟩
    | 1, h => simp [itCells] at h; exact ⟨0, y, rfl, .inr ⟨rfl, h.symm⟩⟩
    | j + 2, h =>
      simp [itCells] at h
      obtain ⟨k, x, h1, h2⟩ := ih h
      refine ⟨k + 1, x, by simpa using h1, ?_⟩
      rcases h2 with ⟨e1, e2⟩ | ⟨e1, e2⟩
      · exact .inl ⟨by omega, e2⟩
      · exact .inr ⟨by omega, e2⟩
/-- a slice that reads as items -/
abbrev RdIt (w : World) (F : Nat → Prop) (v : Value) (l : List It) : Prop := Rd w F v 2 (itCells l)
theorem RdIt.at_ {w : World} {F : Nat → Prop} {A : Option Addr} {n c : Nat} {l : List It} (h : RdIt w F (.slice A n c) l) : n = l.length ∧ n ≤ c ∧ c ≤ maxLen ∧ (0 < n → ∃ b off, A = some ⟨b, off, none⟩ ∧ F b ∧ ∀ k x, l[k]? = some x → w.cell? ⟨b, off + k * 2, none⟩ = some (.int .i64 x.1) ∧ w.cell? ⟨b, off + k * 2 + 1, none⟩ = some (.int .i64 x.2)) := by
  obtain ⟨A', n', c', hv, h1, h2, hl, hr⟩ := h
  injection hv with e1 e2 e3
  subst e1 e2 e3
  rw [itCells_length] at hl
  refine ⟨by omega, h1, h2, fun hn => ?_⟩
  obtain ⟨b, off, hA, hF, hc⟩ := hr hn
  refine ⟨b, off, hA, hF, fun k x hx => ?_⟩
  obtain ⟨k1, k2⟩ := itCells_get hx
  exact ⟨hc _ _ k1, by rw [Nat.add_assoc]; exact hc _ _ k2⟩
/-- the like from cells -/
theorem RdIt.mk {w : World} {F : Nat → Prop} {b off n c : Nat} {l : List It} (hn : n = l.length) (hc : n ≤ c) (hm : c ≤ maxLen) (hF : F b) (h : ∀ k x, l[k]? = some x → w.cell? ⟨b, off + k * 2, none⟩ = some (.int .i64 x.1) ∧ w.cell? ⟨b, off + k * 2 + 1, none⟩ = some (.int .i64 x.2)) : RdIt w F (.slice (some ⟨b, off, none⟩) n c) l := by
  refine ⟨_, _, _, rfl, hc, hm, by rw [itCells_length, hn], fun _ => ⟨b, off, rfl, hF, fun j u hu => ?_⟩⟩
  obtain ⟨k, x, hx, h2 | h2⟩ := itCells_at hu
  · rw [h2.1, h2.2]; exact (h k x hx).1
  · rw [h2.1, h2.2, ← Nat.add_assoc]; exact (h k x hx).2
theorem RdIt.one {w : World} {e : TypeId} (x : It) : RdIt (w.alloc (.cells #[.int .i64 x.1, .int .i64 x.2] e)) (fun b => b = w.heap.size) (.slice (some ⟨w.heap.size, 0, none⟩) 1 1) [x] := Rd.one' (w := w) (e := e) [I64 x.1, I64 x.2] 2 rfl

/-! ### the opening of a list of items -/
section
open Go.ChangeShapes Go.WideShapes Go.ChangeAt Go.RowKit Go.Deep
variable {H : Type} {enc : TypeId × Value → H} {w : World} {sp : Nat → Bool}
def ItemWf (cs : List Value) (x : It) : Prop := ∃ c0 c1, cs = [c0, c1] ∧ ([c0] = [Value.int .i64 x.1] ∧ (Lit.int .i64 x.1).wf = true) ∧ ([c1] = [Value.int .i64 x.2] ∧ (Lit.int .i64 x.2).wf = true)
theorem opens_itemZ : OpensZ enc Tryz.prog w sp 34 (fun cs (x : It) => ItemWf cs x) :=
  opens_struct2Z Tryz.underlying34 (by kernel_rfl) (by kernel_rfl) (OpensZ.of (opens_int Tryz.underlying3)) (OpensZ.of (opens_int Tryz.underlying3))
theorem opens_itemsZ : OpensZ enc Tryz.prog w sp 26 (fun cs (xs : List It) => ∃ v, cs = [v] ∧ RdL w (· < w.heap.size) 2 (fun cs x => ItemWf cs x) v xs ∧ xs.length * 16 ≤ 140737488351232) :=
  opens_listZ Tryz.underlying26 (by kernel_rfl) (by decide) (by kernel_rfl) opens_itemZ
end
def WfI (x : It) : Prop := (-9223372036854775808 ≤ x.1 ∧ x.1 ≤ 9223372036854775807) ∧ (-9223372036854775808 ≤ x.2 ∧ x.2 ≤ 9223372036854775807)
theorem rdl_items {w : World} {v : Value} {xs : List It} (h : RdL w (· < w.heap.size) 2 (fun cs x => ItemWf cs x) v xs) : RdIt w (· < w.heap.size) v xs ∧ ∀ x ∈ xs, WfI x := by
  obtain ⟨A, c, hv, hc, hm, hr⟩ := h
  subst hv
  have key : ∀ i x, xs[i]? = some x → (∃ b off, A = some ⟨b, off, none⟩ ∧ b < w.heap.size ∧ w.cell? ⟨b, off + i * 2, none⟩ = some (.int .i64 x.1) ∧ w.cell? ⟨b, off + i * 2 + 1, none⟩ = some (.int .i64 x.2)) ∧ WfI x := fun i x hx => by
    have hlt := (List.getElem?_eq_some_iff.1 hx).1
    obtain ⟨b, off, hA, hb, hcell⟩ := hr (by omega)
    obtain ⟨cs, hl, ⟨c0, c1, rfl, ⟨e0, f0⟩, e1, f1⟩, hu⟩ := hcell i x hx
    injection e0 with e0 _
    injection e1 with e1 _
    subst e0 e1
    exact ⟨⟨b, off, hA, hb, hu 0 _ rfl, hu 1 _ rfl⟩, wf_i64_iff f0, wf_i64_iff f1⟩
  refine ⟨⟨A, xs.length, c, rfl, hc, hm, itCells_length xs, fun hn => ?_⟩, fun x hx => ?_⟩
  · obtain ⟨b, off, hA, hb, hcell⟩ := hr hn
    refine ⟨b, off, hA, hb, fun j u hu => ?_⟩
    obtain ⟨k, x, hx, h2⟩ := itCells_at hu
    obtain ⟨⟨b', off', hA', -, k1, k2⟩, -⟩ := key k x hx
    rw [hA] at hA'
    injection hA' with hA'
    injection hA' with e1 e2 _
    subst e1 e2
    rcases h2 with h2 | h2
    · rw [h2.1, h2.2]; exact k1
    · rw [h2.1, h2.2, ← Nat.add_assoc]; exact k2
  · obtain ⟨i, hi, rfl⟩ := List.getElem_of_mem hx
    exact (key i _ (List.getElem?_eq_getElem hi)).2
end Go.Proofs.YtlpokomfljmogaaGreat

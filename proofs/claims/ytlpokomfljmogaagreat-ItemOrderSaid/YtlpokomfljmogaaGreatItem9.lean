/- Items: slices.Compact; sorted. -/
import Derived.Test.YtlpokomfljmogaaGreatItem8
import Derived.Test.YtlpokomfljmogaaGreatItem5
namespace Go.Proofs.YtlpokomfljmogaaGreat
set_option linter.unusedVariables false
set_option linter.unusedSimpArgs false
open Go.RowKit Go.Shelf Go.Lib Go.Sort
attribute [local irreducible] wpStill wpOne wpPh

/-- items that lie at the beginning of a block, and may be written -/
def HI (w : World) (g : Nat) (l : List It) : Prop := ∀ (k : Nat) (x : It), l[k]? = some x → (w.cell? ⟨g, k * 2, none⟩ = some (.int .i64 x.1) ∧ w.frozen? ⟨g, k * 2, none⟩ = false) ∧ (w.cell? ⟨g, k * 2 + 1, none⟩ = some (.int .i64 x.2) ∧ w.frozen? ⟨g, k * 2 + 1, none⟩ = false)
theorem HI.drewN {w : World} {g : Nat} {l : List It} (h : HI w g l) (q : Nat) : HI (w.drewN q) g l := h
theorem HI.lt {w : World} {g : Nat} {l : List It} (h : HI w g l) (hl : 0 < l.length) : g < w.heap.size := by
  have := (h 0 l[0] (List.getElem?_eq_getElem hl)).1.1
  exact World.block_lt_of_cell? w _ this
theorem HI.set {w : World} {g : Nat} {l : List It} (h : HI w g l) {k : Nat} (hk : k < l.length) (x : It) : HI ((w.setCell ⟨g, k * 2, none⟩ (.int .i64 x.1)).setCell ⟨g, k * 2 + 1, none⟩ (.int .i64 x.2)) g (l.set k x) := by
  intro j y hy
  have hj : j < l.length := by have := (List.getElem?_eq_some_iff.1 hy).1; simpa using this
  obtain ⟨⟨a1, a2⟩, a3, a4⟩ := h j l[j] (List.getElem?_eq_getElem hj)
  rw [World.frozen?_setCell, World.frozen?_setCell, World.frozen?_setCell, World.frozen?_setCell]
  refine ⟨⟨?_, a2⟩, ?_, a4⟩
  · by_cases e : j = k
    · subst e
      rw [List.getElem?_set_self hj] at hy
      injection hy with hy
      subst hy
      rw [World.cell?_setCell_other _ _ _ _ (fun ea => by injection ea with _ ea; omega), World.cell?_setCell_same' _ _ _ (by rw [a1]; rfl)]
    · rw [List.getElem?_set_ne (fun e' => e e'.symm), List.getElem?_eq_getElem hj] at hy
      injection hy with hy
      subst hy
      rw [World.cell?_setCell_other _ _ _ _ (fun ea => by injection ea with _ ea; omega), World.cell?_setCell_other _ _ _ _ (fun ea => by injection ea with _ ea; omega)]
      exact a1
  · by_cases e : j = k
    · subst e
      rw [List.getElem?_set_self hj] at hy
      injection hy with hy
      subst hy
      refine World.cell?_setCell_same' _ _ _ ?_
      rw [World.cell?_setCell_other _ _ _ _ (fun ea => by injection ea with _ ea; omega), a3]; rfl
    · rw [List.getElem?_set_ne (fun e' => e e'.symm), List.getElem?_eq_getElem hj] at hy
      injection hy with hy
      subst hy
      rw [World.cell?_setCell_other _ _ _ _ (fun ea => by injection ea with _ ea; omega), World.cell?_setCell_other _ _ _ _ (fun ea => by injection ea with _ ea; omega)]
      exact a3
theorem HI.holds {w : World} {g : Nat} {l : List It} (h : HI w g l) : HoldsK encIt 2 w g 0 l.toArray := by
  intro t ht
  rw [size_flatK] at ht
  rw [get_flatK _ _ _ _ ht, Nat.zero_add]
  have hk : t / 2 < l.length := by simp at ht; omega
  obtain ⟨⟨a1, a2⟩, a3, a4⟩ := h (t / 2) l[t / 2] (List.getElem?_eq_getElem hk)
  have e : l.toArray[t / 2]! = l[t / 2] := by simp [hk]
  rw [e]
  rcases Nat.mod_two_eq_zero_or_one t with h0 | h1
  · rw [h0]
    have ht2 : t = t / 2 * 2 := by omega
    have e1 : (⟨g, t, none⟩ : Addr) = ⟨g, t / 2 * 2, none⟩ := by rw [← ht2]
    rw [e1]; exact ⟨a1, a2⟩
  · rw [h1]
    have ht2 : t = t / 2 * 2 + 1 := by omega
    have e1 : (⟨g, t, none⟩ : Addr) = ⟨g, t / 2 * 2 + 1, none⟩ := by rw [← ht2]
    rw [e1]; exact ⟨a3, a4⟩
theorem HI.of_holds {w : World} {g : Nat} {l : List It} (h : HoldsK encIt 2 w g 0 l.toArray) : HI w g l := by
  intro k x hx
  have hk := (List.getElem?_eq_some_iff.1 hx).1
  have e : l.toArray[k]! = x := by
    rw [List.getElem?_eq_getElem hk] at hx; injection hx with hx; simp [hk, hx]
  have h0 := HoldsK.cell h (i := k) (c := 0) (by simpa using hk) (by omega)
  have h1 := HoldsK.cell h (i := k) (c := 1) (by simpa using hk) (by omega)
  rw [e, Nat.zero_add] at h0 h1
  exact ⟨h0, h1⟩
theorem HI.of_own {w : World} {base : Nat} {e : TypeId} {n g c : Nat} {l : List It} (h : w.ownsRow base e 2 (.slice (some ⟨g, 0, none⟩) n c) n (itCells l)) (hl : 0 < l.length) : HI w g l := by
  have hlen := h.1
  rw [itCells_length] at hlen
  rcases h.2 with ⟨h1, -⟩ | ⟨g', cap, cur, h1, hb, hh, hn, hc, hz, ht⟩
  · cases h1
  · injection h1 with h1 _ _
    injection h1 with h1
    injection h1 with h1 _ _
    subst h1
    have key : ∀ j u, (itCells l)[j]? = some u → w.cell? ⟨g, j, none⟩ = some u ∧ w.frozen? ⟨g, j, none⟩ = false := fun j u hu => by
      constructor
      · rw [cell_of_row w g j cur e (0, 0) hh]
        rw [← ht, List.getElem?_take] at hu
        split at hu
        · simpa using hu
        · cases hu
      · unfold World.frozen?
        rw [hh]
        simp
    intro k x hx
    obtain ⟨k1, k2⟩ := itCells_get hx
    exact ⟨key _ _ k1, key _ _ k2⟩
theorem HI.rd {w : World} {g n c : Nat} {l : List It} (h : HI w g l) (hn : n = l.length) (hc : n ≤ c) (hm : c ≤ maxLen) : RdIt w (fun b => b = g) (.slice (some ⟨g, 0, none⟩) n c) l :=
  RdIt.mk hn hc hm rfl fun k x hx => by obtain ⟨⟨a1, -⟩, a3, -⟩ := h k x hx; rw [Nat.zero_add]; exact ⟨a1, a3⟩
theorem HI.take {w : World} {g m : Nat} {l : List It} (h : HI w g l) : HI w g (l.take m) := fun k x hx => by
  rw [List.getElem?_take] at hx
  split at hx
  · exact h k x hx
  · cases hx
/-- a world of the sort's -/
theorem sort_touch (w : World) (g n : Nat) (d : Array It) (os : Array Obj) : Touch (fun b => b = g) w (sortWorldK encIt 2 w g 0 n d os) := by
  refine ⟨rfl, rfl, rfl, ?_, fun i hi hn => ?_⟩
  · unfold sortWorldK grow putRowK putRow mapBlock Sort.ahead
    simp
  · unfold sortWorldK grow putRowK putRow mapBlock Sort.ahead
    simp only
    rw [Array.getElem?_append_left (by simpa using hi), Array.getElem?_modify, if_neg (fun e => hn e.symm)]
/-- clear, at items -/
theorem clear_items {w : World} {g : Nat} {l : List It} (h : HI w g l) {k : Nat} (hk : k < l.length) (c : Nat) (ty : TypeId) : (Builtin.clear_ #[26] ty #[.slice (some ⟨g, k * 2, none⟩) (l.length - k) c]).run Tryz.prog w = .ok (.tuple #[]) (w.setCells g (k * 2) (List.replicate ((l.length - k) * 2) (.int .i64 0))) := by
  obtain ⟨m, hm⟩ : ∃ m, l.length - k = m + 1 := ⟨l.length - k - 1, by omega⟩
  have hz : (Builtin.zeroCells (Value.cells (.agg #[.int .i64 0, .int .i64 0])) (m + 1)).toList = List.replicate ((m + 1) * 2) (.int .i64 0) := by
    simp [Builtin.zeroCells, Value.cells]
    apply List.ext_getElem
    · simp
    · intro i h1 h2
      simp
      rcases Nat.mod_two_eq_zero_or_one i with e | e <;> simp [e]
  have hat : ∀ j, j < (m + 1) * 2 → (w.cell? ⟨g, k * 2 + j, none⟩).isSome = true ∧ w.frozen? ⟨g, k * 2 + j, none⟩ = false := fun j hj => by
    obtain ⟨⟨a1, a2⟩, a3, a4⟩ := h (k + j / 2) l[k + j / 2] (List.getElem?_eq_getElem (by omega))
    rcases Nat.mod_two_eq_zero_or_one j with e | e
    · rw [show k * 2 + j = (k + j / 2) * 2 by omega, a1]; exact ⟨rfl, a2⟩
    · rw [show k * 2 + j = (k + j / 2) * 2 + 1 by omega, a3]; exact ⟨rfl, a4⟩
  have hst := run_storeCells_cells (P := Tryz.prog) g (k * 2) (List.replicate ((m + 1) * 2) (.int .i64 0)) 0 w (fun j hj => by rw [Nat.add_zero]; exact (hat j (by simpa using hj)).1) (fun j hj => by rw [Nat.add_zero]; exact (hat j (by simpa using hj)).2) (by intro v hv'; rw [List.eq_of_mem_replicate hv']; rfl)
  simp only [Nat.add_zero] at hst
  rw [hm]
  simp [Builtin.clear_, run_underlying Tryz.underlying26, Tryz.zeroValue34, hz, hst]
end Go.Proofs.YtlpokomfljmogaaGreat

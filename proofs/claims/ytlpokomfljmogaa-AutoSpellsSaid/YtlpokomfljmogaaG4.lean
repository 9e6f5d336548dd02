/- Ordered. -/
import Derived.Test.YtlpokomfljmogaaG3
namespace Go.Proofs.Ytlpokomfljmogaa
set_option linter.unusedVariables false

section
open Go.RowKit

/-- the first rule's place of each nonterminal, or the end -/
def firstAt (G : GramD) (i : Nat) : Int := if firstBy (fun r => decide (r.1 = (G.terms.length : Int) + 1 + i)) G.rules < 0 then (G.rules.length : Int) else firstBy (fun r => decide (r.1 = (G.terms.length : Int) + 1 + i)) G.rules
def firstsOf (G : GramD) (k : Nat) : List Int := (List.range k).map (firstAt G)
theorem firstsOf_succ (G : GramD) (k : Nat) : firstsOf G (k + 1) = firstsOf G k ++ [firstAt G k] := by
  unfold firstsOf; rw [List.range_succ, List.map_append]; rfl
theorem firstsOf_len (G : GramD) (k : Nat) : (firstsOf G k).length = k := by unfold firstsOf; simp
end

section
open Go.RowKit

end

section
open Go.RowKit

theorem ofUpto_head {rs : List (Int × List Int)} {s : Int} : ∀ k : Nat, k ≤ rs.length →
    (ofUpto rs s k = [] ∧ ∀ (j : Nat) y, j < k → rs[j]? = some y → y.1 ≠ s) ∨
    (∃ i : Nat, i < k ∧ (ofUpto rs s k)[0]? = some (i : Int) ∧ (∃ x, rs[i]? = some (s, x)) ∧ ∀ (j : Nat) y, j < i → rs[j]? = some y → y.1 ≠ s)
  | 0, _ => .inl ⟨rfl, fun j y hj => absurd hj (by omega)⟩
  | k + 1, hk => by
    obtain ⟨⟨l, x⟩, hx⟩ : ∃ x, rs[k]? = some x := ⟨_, List.getElem?_eq_getElem (by omega)⟩
    rcases ofUpto_head (rs := rs) (s := s) k (by omega) with ⟨he, hno⟩ | ⟨i, hi, h0, hs, hno⟩
    · by_cases hl : l = s
      · subst hl
        refine .inr ⟨k, by omega, ?_, ⟨x, hx⟩, fun j y hj hy => hno j y hj hy⟩
        rw [ofUpto_yes hx, he]; rfl
      · refine .inl ⟨by rw [ofUpto_no hx hl, he], fun j y hj hy => ?_⟩
        by_cases hjk : j = k
        · subst hjk; rw [hx] at hy; injection hy with hy; rw [← hy]; exact hl
        · exact hno j y (by omega) hy
    · refine .inr ⟨i, by omega, ?_, hs, hno⟩
      by_cases hl : l = s
      · subst hl
        have hne : 0 < (ofUpto rs l k).length := (List.getElem?_eq_some_iff.1 h0).1
        rw [ofUpto_yes hx, List.getElem?_append_left hne, h0]
      · rw [ofUpto_no hx hl, h0]

/-- the first rule of a left side, by Of -/
theorem first_of {G : GramD} {k : Nat} : (ofOf G ((G.terms.length : Int) + 1 + k) = [] ∧ firstAt G k = (G.rules.length : Int)) ∨ ((ofOf G ((G.terms.length : Int) + 1 + k))[0]? = some (firstAt G k) ∧ 0 ≤ firstAt G k ∧ firstAt G k < (G.rules.length : Int)) := by
  have hd : firstAt G k = (if firstBy (fun r => decide (r.1 = (G.terms.length : Int) + 1 + k)) G.rules < 0 then (G.rules.length : Int) else firstBy (fun r => decide (r.1 = (G.terms.length : Int) + 1 + k)) G.rules) := rfl
  rcases ofUpto_head (rs := G.rules) (s := (G.terms.length : Int) + 1 + k) G.rules.length (Nat.le_refl _) with ⟨he, hno⟩ | ⟨i, hi, h0, ⟨x, hx⟩, hno⟩
  · left
    refine ⟨he, ?_⟩
    have := firstBy_miss (p := fun r : Int × List Int => decide (r.1 = (G.terms.length : Int) + 1 + k)) (xs := G.rules) (fun j y hy => by
      have := hno j y (List.getElem?_eq_some_iff.1 hy).1 hy
      simpa using this)
    rw [hd, this]; rfl
  · right
    have := firstBy_hit (p := fun r : Int × List Int => decide (r.1 = (G.terms.length : Int) + 1 + k)) (xs := G.rules) hx (by simp) (fun j y hj hy => by
      have := hno j y hj hy
      simpa using this)
    have e : firstAt G k = (i : Int) := by rw [hd, this, if_neg (by omega)]
    rw [e]
    exact ⟨h0, by omega, by omega⟩

def lastAt (G : GramD) (k : Nat) : Int := if k = 0 then -1 else firstAt G (k - 1)
theorem sorted_firsts {G : GramD} {N : Nat} : sortedL (firstsOf G N) = true ↔ ∀ j : Nat, j + 1 < N → ¬ firstAt G (j + 1) < firstAt G j := by
  rw [sortedL_iff, firstsOf_len]
  unfold firstsOf
  constructor
  · intro h j hj
    have := h j hj
    rw [List.getElem?_map, List.getElem?_map, List.getElem?_range (by omega), List.getElem?_range (by omega)] at this
    exact this
  · intro h j hj
    rw [List.getElem?_map, List.getElem?_map, List.getElem?_range (by omega), List.getElem?_range (by omega)]
    exact h j hj
end

section
open Go.RowKit

end
end Go.Proofs.Ytlpokomfljmogaa

/- The rules of a left side: plain facts. -/
import Derived.Test.YtlpokomfljmogaaG2
namespace Go.Proofs.Ytlpokomfljmogaa
set_option linter.unusedVariables false

theorem of_mem {G : GramD} {s i : Int} : i ∈ ofOf G s ↔ ∃ (n : Nat) (x : List Int), i = n ∧ G.rules[n]? = some (s, x) := by
  unfold ofOf ofUpto
  rw [List.mem_map]
  constructor
  · rintro ⟨n, hn, rfl⟩
    rw [List.mem_filter, decide_eq_true_eq] at hn
    obtain ⟨⟨l, x⟩, hx, hl⟩ := Option.map_eq_some_iff.1 hn.2
    simp only at hl
    subst hl
    exact ⟨n, x, rfl, hx⟩
  · rintro ⟨n, x, rfl, hx⟩
    refine ⟨n, ?_, rfl⟩
    rw [List.mem_filter, decide_eq_true_eq, hx]
    exact ⟨List.mem_range.2 (List.getElem?_eq_some_iff.1 hx).1, rfl⟩
def rightOf (G : GramD) (i : Int) : List Int := ((G.rules[i.toNat]?).getD (0, [])).2
theorem rightOf_nat {G : GramD} {n : Nat} {s : Int} {x : List Int} (h : G.rules[n]? = some (s, x)) : rightOf G n = x := by
  unfold rightOf; rw [Int.toNat_natCast, h]; rfl
end Go.Proofs.Ytlpokomfljmogaa

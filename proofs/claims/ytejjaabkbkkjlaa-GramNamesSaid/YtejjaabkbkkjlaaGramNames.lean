/- The law GramNames: plain facts. -/
import Derived.Test.YtejjaabkbkkjlaaGram30
namespace Go.Proofs.Ytejjaabkbkkjlaa
set_option linter.unusedVariables false
open Go.RowKit

/-- what a grammar that may be is -/
theorem checkOf_zero {G : GramD} {st : Int} (h : checkOf G st = 0) : manyOf G = false ∧ formOf G = true ∧ (namesOf G).Nodup ∧ allKnown G st = true ∧ unlikeOf G.rules = true ∧ haveUpto G G.nons.length = true := by
  unfold checkOf at h
  by_cases h1 : manyOf G = true
  · rw [if_pos h1] at h; omega
  rw [if_neg h1] at h
  by_cases h2 : formOf G = false
  · rw [if_pos h2] at h; omega
  rw [if_neg h2] at h
  by_cases h3 : ¬ (namesOf G).Nodup
  · rw [if_pos h3] at h; omega
  rw [if_neg h3] at h
  by_cases h4 : allKnown G st = false
  · rw [if_pos h4] at h; omega
  rw [if_neg h4] at h
  by_cases h5 : unlikeOf G.rules = false
  · rw [if_pos h5] at h; omega
  rw [if_neg h5] at h
  by_cases h6 : haveUpto G G.nons.length = false
  · rw [if_pos h6] at h; omega
  exact ⟨by simpa using h1, by simpa using h2, by simpa using h3, by simpa using h4, by simpa using h5, by simpa using h6⟩

theorem nameOf_sym {G : GramD} {k : Nat} (h1 : 1 ≤ k) (h2 : k ≤ topOf G) : (namesOf G)[k - 1]? = some (nameOf G k) := by
  have hl : (namesOf G).length = topOf G := by unfold namesOf topOf; simp
  unfold nameOf
  rw [if_neg (by omega), if_pos (by omega)]
  rw [show ((k : Int) - 1).toNat = k - 1 by omega]
  show (namesOf G)[k - 1]? = some (((namesOf G)[k - 1]?).getD ⟨#[]⟩)
  rw [List.getElem?_eq_getElem (by omega)]
  rfl
theorem find_name {G : GramD} {k : Nat} (hn : (namesOf G).Nodup) (h1 : 1 ≤ k) (h2 : k ≤ topOf G) : findOf G (nameOf G k) = k := by
  unfold findOf
  have := place_nodup hn (nameOf_sym h1 h2)
  show place (namesOf G) (nameOf G k) + 1 = k
  rw [this]
  omega
theorem term_non {G : GramD} {k : Nat} (h1 : 1 ≤ k) (h2 : k ≤ topOf G) : isTerm G k = !isNon G k := by
  unfold isTerm isNon
  unfold topOf at *
  by_cases h : k ≤ G.terms.length
  · rw [decide_eq_true (by omega), decide_eq_true (by omega), decide_eq_false (by omega)]; rfl
  · rw [decide_eq_true (by omega), decide_eq_false (by omega), decide_eq_true (by omega), decide_eq_true (by omega)]; rfl
theorem ofOf_mem {G : GramD} {s i : Int} (h : i ∈ ofOf G s) : ∃ k : Nat, i = k ∧ k < G.rules.length ∧ ∃ x, G.rules[k]? = some (s, x) := by
  unfold ofOf ofUpto at h
  obtain ⟨k, hk, rfl⟩ := List.mem_map.1 h
  obtain ⟨hk, hd⟩ := List.mem_filter.1 hk
  have hk := List.mem_range.1 hk
  have hd := of_decide_eq_true hd
  rw [List.getElem?_eq_getElem hk] at hd
  simp at hd
  exact ⟨k, rfl, hk, (G.rules[k]).2, by rw [List.getElem?_eq_getElem hk, ← hd]⟩
theorem non_rules {G : GramD} {st : Int} (h : checkOf G st = 0) {k : Nat} (h1 : 1 ≤ k) (h2 : k ≤ topOf G) : isNon G k = decide (0 < (ofOf G k).length) := by
  obtain ⟨_, _, _, hk, _, hh⟩ := checkOf_zero h
  rw [Bool.eq_iff_iff, decide_eq_true_eq, isNon_iff]
  unfold topOf at h2
  constructor
  · rintro ⟨a, b⟩
    unfold haveUpto at hh
    rw [List.all_eq_true] at hh
    have := hh (k - 1 - G.terms.length) (List.mem_range.2 (by omega))
    rw [decide_eq_true_eq] at this
    rw [show (G.terms.length : Int) + 1 + ((k - 1 - G.terms.length : Nat) : Int) = k by omega] at this
    omega
  · intro hp
    obtain ⟨i, hi⟩ : ∃ i, i ∈ ofOf G k := by
      cases hl : ofOf G k with
      | nil => rw [hl] at hp; simp at hp
      | cons a r => exact ⟨a, by simp⟩
    obtain ⟨j, _, hj, x, hx⟩ := ofOf_mem hi
    unfold allKnown at hk
    rw [Bool.and_eq_true, List.all_eq_true] at hk
    have := hk.2 _ (List.mem_of_getElem? hx)
    unfold knownOf at this
    rw [Bool.and_eq_true, isNon_iff] at this
    have h3 := this.1
    simp only at h3
    omega
theorem rule_of {G : GramD} {st s i : Int} (h : i ∈ ofOf G s) : ∃ x, ruleOf G st i = ((s, x), true) := by
  obtain ⟨k, rfl, hk, x, hx⟩ := ofOf_mem h
  refine ⟨x, ?_⟩
  unfold ruleOf
  rw [if_neg (by omega), if_neg (by omega), Int.toNat_natCast, hx]
  rfl

/-- all rules, left side by left side, up to a symbol -/
def countUpto (G : GramD) (n : Nat) : Nat := ((List.range n).map (fun (s : Nat) => (ofOf G (s : Int)).length)).sum
theorem countUpto_succ (G : GramD) (n : Nat) : countUpto G (n + 1) = countUpto G n + (ofOf G (n : Int)).length := by unfold countUpto; rw [List.range_succ, List.map_append, List.sum_append]; simp
theorem ofUpto_lenS {rs : List (Int × List Int)} {s : Int} {k : Nat} {l : Int} {x : List Int} (h : rs[k]? = some (l, x)) : (ofUpto rs s (k + 1)).length = (ofUpto rs s k).length + if l = s then 1 else 0 := by
  by_cases e : l = s
  · subst e; rw [ofUpto_yes h]; simp
  · rw [ofUpto_no h e]; simp [e]
theorem sum_one : ∀ (n : Nat) (l : Int), ((List.range n).map (fun (s : Nat) => if l = (s : Int) then 1 else 0)).sum = if 0 ≤ l ∧ l < n then 1 else 0
  | 0, l => by rw [if_neg (by omega)]; rfl
  | n + 1, l => by
    rw [List.range_succ, List.map_append, List.sum_append, sum_one n l]
    simp only [List.map_cons, List.map_nil, List.sum_cons, List.sum_nil]
    by_cases e : l = (n : Int)
    · rw [if_pos e, if_neg (by omega), if_pos (by omega)]; rfl
    · by_cases e2 : 0 ≤ l ∧ l < n
      · rw [if_neg e, if_pos e2, if_pos (by omega)]; rfl
      · rw [if_neg e, if_neg e2, if_neg (by omega)]; rfl
theorem sum_add : ∀ (l : List Nat) (f g : Nat → Nat), (l.map (fun s => f s + g s)).sum = (l.map f).sum + (l.map g).sum
  | [], _, _ => rfl
  | a :: r, f, g => by simp only [List.map_cons, List.sum_cons, sum_add r f g]; omega
theorem count_rules {rs : List (Int × List Int)} {n : Nat} (hl : ∀ r ∈ rs, 0 ≤ r.1 ∧ r.1 < n) : ∀ k : Nat, k ≤ rs.length → ((List.range n).map (fun (s : Nat) => (ofUpto rs (s : Int) k).length)).sum = k
  | 0, _ => by
    have : ∀ m : Nat, ((List.range m).map (fun (s : Nat) => (ofUpto rs (s : Int) 0).length)).sum = 0 := fun m => by
      induction m with
      | zero => rfl
      | succ m ih => rw [List.range_succ, List.map_append, List.sum_append, ih]; rfl
    exact this n
  | k + 1, hk => by
    have hx : rs[k]? = some (rs[k].1, rs[k].2) := List.getElem?_eq_getElem (by omega)
    have h := hl rs[k] (List.getElem_mem _)
    have : (fun (s : Nat) => (ofUpto rs (s : Int) (k + 1)).length) = fun (s : Nat) => (ofUpto rs (s : Int) k).length + if rs[k].1 = (s : Int) then 1 else 0 := by
      funext s; exact ofUpto_lenS hx
    rw [this, sum_add, count_rules hl k (by omega), sum_one, if_pos h]
theorem count_all {G : GramD} {st : Int} (h : checkOf G st = 0) : countUpto G (topOf G + 1) = G.rules.length := by
  obtain ⟨_, _, _, hk, _, _⟩ := checkOf_zero h
  refine count_rules (fun r hr => ?_) _ (Nat.le_refl _)
  unfold allKnown at hk
  rw [Bool.and_eq_true, List.all_eq_true] at hk
  have := hk.2 r hr
  unfold knownOf at this
  rw [Bool.and_eq_true, isNon_iff] at this
  unfold topOf
  omega
theorem countUpto_le {G : GramD} {n : Nat} : countUpto G n ≤ n * G.rules.length := by
  induction n with
  | zero => simp [countUpto]
  | succ n ih =>
    rw [countUpto_succ]
    have : (ofOf G (n : Int)).length ≤ G.rules.length := ofUpto_len
    rw [Nat.add_mul]
    omega
end Go.Proofs.Ytejjaabkbkkjlaa

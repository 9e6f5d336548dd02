/- The law LiveMore: the rules as cells, and a rule more. -/
import Derived.Test.YtejjaabkbkkjlaaLiveMore1
import Derived.Test.YtejjaabkbkkjlaaGrow
namespace Go.Proofs.Ytejjaabkbkkjlaa
set_option linter.unusedVariables false
open Go.RowKit

theorem flat_aux {w : World} {F : Nat → Prop} {b : Nat} : ∀ (rs : List (Int × List Int)) (off : Nat),
    (∀ (k : Nat) (r : Int × List Int), rs[k]? = some r → ∃ v, w.cell? ⟨b, off + k * 2, none⟩ = some (.int .i64 r.1) ∧ w.cell? ⟨b, off + k * 2 + 1, none⟩ = some v ∧ RdI w F v r.2) →
    ∃ rvs : List ((Int × List Int) × Value), rvs.map (·.1) = rs ∧ (∀ p ∈ rvs, RdI w F p.2 p.1.2) ∧ ∀ (j : Nat) (u : Value), (flatR rvs)[j]? = some u → w.cell? ⟨b, off + j, none⟩ = some u := by
  intro rs
  induction rs with
  | nil => exact fun off _ => ⟨[], rfl, by simp, by simp⟩
  | cons r rs ih =>
    intro off h
    obtain ⟨v, h1, h2, h3⟩ := h 0 r rfl
    obtain ⟨rvs, e1, e2, e3⟩ := ih (off + 2) fun k r' hr => by
      obtain ⟨v', a1, a2, a3⟩ := h (k + 1) r' (by simpa using hr)
      have e : off + (k + 1) * 2 = off + 2 + k * 2 := by omega
      rw [e] at a1 a2
      exact ⟨v', a1, a2, a3⟩
    refine ⟨(r, v) :: rvs, by simp [e1], fun p hp => ?_, fun j u hj => ?_⟩
    · rcases List.mem_cons.1 hp with rfl | hp
      · exact h3
      · exact e2 p hp
    · match j, hj with
      | 0, hj =>
        have : u = Value.int .i64 r.1 := by simpa [flatR] using hj.symm
        rw [this]; simpa using h1
      | 1, hj =>
        have : u = v := by simpa [flatR] using hj.symm
        rw [this]; simpa using h2
      | j + 2, hj =>
        have := e3 j u (by simpa [flatR] using hj)
        have e : off + (j + 2) = off + 2 + j := by omega
        rw [e]; exact this
theorem flatR_length (rvs : List ((Int × List Int) × Value)) : (flatR rvs).length = rvs.length * 2 := by
  induction rvs with
  | nil => rfl
  | cons a r ih => unfold flatR at ih ⊢; rw [List.flatMap_cons, List.length_append, ih]; simp only [List.length_cons, List.length_nil]; omega
theorem rules_flat {w : World} {F : Nat → Prop} {A : Option Addr} {n c : Nat} {rs : List (Int × List Int)} (h : RdL w F 2 (ERule w F) (.slice A n c) rs) :
    ∃ rvs : List ((Int × List Int) × Value), rvs.map (·.1) = rs ∧ rvs.length = n ∧ (∀ p ∈ rvs, RdI w F p.2 p.1.2) ∧ Rd w F (.slice A n c) 2 (flatR rvs) := by
  obtain ⟨e, hc, hm, hcell⟩ := ERule.at_ h
  by_cases h0 : 0 < n
  · obtain ⟨b, off, rfl, hF, hk⟩ := hcell h0
    obtain ⟨rvs, e1, e2, e3⟩ := flat_aux rs off hk
    have hl : rvs.length = n := by rw [e, ← e1]; simp
    exact ⟨rvs, e1, hl, e2, ⟨_, n, c, rfl, hc, hm, by rw [flatR_length, hl], fun _ => ⟨b, off, rfl, hF, e3⟩⟩⟩
  · have hn : n = 0 := by omega
    have hr : rs = [] := List.length_eq_zero_iff.1 (by omega)
    exact ⟨[], by simp [hr], by simp [hn], by simp, ⟨_, n, c, rfl, hc, hm, by simp [flatR, hn], fun h => absurd h h0⟩⟩
theorem flatR_one (l : Int) (xs : List Int) (u : Value) : flatR [((l, xs), u)] = [Value.int .i64 l, u] := rfl
theorem flatR_oneCell (rvs : List ((Int × List Int) × Value)) (F : Nat → Prop) (w : World) (h : ∀ p ∈ rvs, RdI w F p.2 p.1.2) : ∀ u ∈ flatR rvs, u.oneCell' = true := by
  intro u hu
  obtain ⟨p, hp, hm⟩ := List.mem_flatMap.1 hu
  obtain ⟨A, n, c, e, -⟩ := h p hp
  rw [e] at hm
  simp only [List.mem_cons, List.not_mem_nil, or_false] at hm
  rcases hm with rfl | rfl <;> rfl

/-- the grammar with a rule more, from its row of rules -/
theorem IsGram.more {w w' : World} {base : Nat} {vt vn vr u v : Value} {G : GramD} {l st : Int} {xs : List Int} {rvs : List ((Int × List Int) × Value)} {m : Nat} (h : IsGram w (· < w.heap.size) vt vn vr G) (hu : RdI w (· < w.heap.size) u xs) (he : rvs.map (·.1) = G.rules) (hm : m = G.rules.length + 1) (hr : ∀ p ∈ rvs, RdI w (· < w.heap.size) p.2 p.1.2)
    (ho : w'.ownsRow base 30 2 v m (flatR rvs ++ [.int .i64 l, u])) (hb : Below w.heap.size w w')
    (hs : G.rules.length + 1 ≤ 4398046511103) (hl : -9223372036854775808 ≤ l ∧ l ≤ 9223372036854775807) (hx : xs.length ≤ 17592186044416 ∧ ∀ x ∈ xs, -9223372036854775808 ≤ x ∧ x ≤ 9223372036854775807) :
    IsGram w' (· < w'.heap.size) vt vn v (moreG G (l, xs) st) := by
  have up : ∀ k, k < w.heap.size → k < w'.heap.size := fun k hk => Nat.lt_of_lt_of_le hk hb.size
  have hf : flatR rvs ++ [.int .i64 l, u] = flatR (rvs ++ [((l, xs), u)]) := by unfold flatR; rw [List.flatMap_append]; rfl
  rw [hf] at ho
  have hrd : RdL w' (· < w'.heap.size) 2 (ERule w' (· < w'.heap.size)) v ((rvs ++ [((l, xs), u)]).map (·.1)) := RdR.of_rd _ ((Rd.of_own ho).mono (fun k hk => by have := (ho.lt k hk).2; omega)) fun p hp => by
    rcases List.mem_append.1 hp with hp | hp
    · exact ((hr p hp).below hb (fun k hk => hk)).mono up
    · obtain rfl := List.mem_singleton.1 hp
      exact (hu.below hb (fun k hk => hk)).mono up
  have e : (rvs ++ [((l, xs), u)]).map (·.1) = G.rules ++ [(l, xs)] := by rw [List.map_append, he]; rfl
  rw [e] at hrd
  refine ⟨(h.terms.below hb h.lt).mono up, (h.nons.below hb h.lt).mono up, hrd, fun _ h => h, ⟨h.small.1, h.small.2.1, ?_⟩, h.sizes, h.reach, fun r hr => ?_⟩
  · show (G.rules ++ [(l, xs)]).length ≤ _
    rw [List.length_append]; exact hs
  · rcases List.mem_append.1 hr with hr | hr
    · exact h.wfs r hr
    · obtain rfl := List.mem_singleton.1 hr
      exact ⟨hl, hx⟩
end Go.Proofs.Ytejjaabkbkkjlaa

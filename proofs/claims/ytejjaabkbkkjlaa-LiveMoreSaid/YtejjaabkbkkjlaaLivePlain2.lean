/- What is trimmed: plain laws. -/
import Derived.Test.YtejjaabkbkkjlaaLiveR2
namespace Go.Proofs.Ytejjaabkbkkjlaa
set_option linter.unusedVariables false

/-- all symbols -/
def allS (n : Nat) : List Int := (List.range n).map (fun i : Nat => (i : Int) + 1)
theorem allS_mem {n : Nat} {s : Int} : s ∈ allS n ↔ 1 ≤ s ∧ s ≤ n := by
  unfold allS
  rw [List.mem_map]
  constructor
  · rintro ⟨i, hi, rfl⟩
    have := List.mem_range.1 hi
    omega
  · rintro ⟨h1, h2⟩
    exact ⟨(s - 1).toNat, List.mem_range.2 (by omega), by omega⟩
theorem allS_get {n i : Nat} (h : i < n) : (allS n)[i]? = some ((i : Int) + 1) := by
  unfold allS
  rw [List.getElem?_map, List.getElem?_range h]
  rfl
theorem place_all {n : Nat} {s : Int} (h1 : 1 ≤ s) (h2 : s ≤ n) : placeOf (allS n) s = s := by
  obtain ⟨i, rfl⟩ : ∃ i : Nat, s = (i : Int) + 1 := ⟨(s - 1).toNat, by omega⟩
  exact placeOf_first (allS_get (by omega)) fun j hj e => by
    rw [allS_get (by omega)] at e
    injection e with e
    omega
theorem allS_split (a b : Nat) : allS (a + b) = allS a ++ (List.range b).map (fun i : Nat => ((a + i : Nat) : Int) + 1) := by
  unfold allS
  rw [List.range_add, List.map_append, List.map_map]
  rfl
theorem all_terms (G : GramD) : ((allS (G.terms.length + G.nons.length)).filter (fun s => isTerm G s)).map (nameOf G) = G.terms := by
  rw [allS_split, List.filter_append, List.filter_eq_self.2, List.filter_eq_nil_iff.2, List.append_nil]
  · refine List.ext_getElem? fun i => ?_
    rw [List.getElem?_map]
    by_cases h2 : i < G.terms.length
    · rw [allS_get h2, Option.map_some, List.getElem?_eq_getElem h2]
      unfold nameOf topOf
      rw [if_neg (by omega), if_pos (by omega), show ((i : Int) + 1 - 1).toNat = i by omega, List.getElem?_append_left h2, List.getElem?_eq_getElem h2]
      rfl
    · rw [List.getElem?_eq_none (by unfold allS; simp; omega), List.getElem?_eq_none (by omega)]
      rfl
  · intro s hs
    obtain ⟨i, _, rfl⟩ := List.mem_map.1 hs
    rw [isTerm_iff]
    omega
  · intro s hs
    rw [isTerm_iff]
    exact allS_mem.1 hs
theorem all_nons (G : GramD) : ((allS (G.terms.length + G.nons.length)).filter (fun s => !isTerm G s)).map (nameOf G) = G.nons := by
  rw [allS_split, List.filter_append, List.filter_eq_nil_iff.2, List.nil_append, List.filter_eq_self.2]
  · refine List.ext_getElem (by simp) fun i h1 h2 => ?_
    rw [List.getElem_map, List.getElem_map, List.getElem_range]
    unfold nameOf topOf
    rw [if_neg (by omega), if_pos (by omega), show ((((G.terms.length + i : Nat) : Int) + 1 - 1).toNat) = G.terms.length + i by omega, List.getElem?_append_right (by omega), Nat.add_sub_cancel_left, List.getElem?_eq_getElem h2]
    rfl
  · intro s hs
    obtain ⟨i, _, rfl⟩ := List.mem_map.1 hs
    have : ¬ (isTerm G (((G.terms.length + i : Nat) : Int) + 1) = true) := by rw [isTerm_iff]; omega
    simpa using this
  · intro s hs
    have := isTerm_iff.2 (allS_mem.1 hs)
    simp [this]
theorem only_all {G : GramD} {st : Int} (hk : Kn G st) : onlyG G st (allS (G.terms.length + G.nons.length)) = ⟨G.terms, G.nons, G.rules, st⟩ := by
  have hst := hk.st
  rw [isNon_iff] at hst
  unfold onlyG
  rw [all_terms, all_nons, place_all (by omega) (by omega), List.filter_eq_self.2]
  · congr 1
    rw [List.map_congr_left (g := id)]
    · simp
    · intro r hr
      obtain ⟨k1, k2⟩ := hk.k r hr
      rw [isNon_iff] at k1
      have e1 : placeOf (allS (G.terms.length + G.nons.length)) r.1 = r.1 := place_all (by omega) (by omega)
      have e2 : r.2.map (placeOf (allS (G.terms.length + G.nons.length))) = r.2 := by
        rw [List.map_congr_left (g := id)]
        · simp
        · intro x hx
          have := k2 x hx
          exact place_all (by omega) (by omega)
      rw [e1, e2]
      rfl
  · intro r hr
    obtain ⟨k1, -⟩ := hk.k r hr
    rw [isNon_iff] at k1
    exact decide_eq_true (allS_mem.2 (by omega))

/-- all of use -/
structure Live (G : GramD) (st : Int) : Prop where
  r : ∀ s : Int, 1 ≤ s → s ≤ (G.terms.length : Int) + G.nons.length → Rch G.rules st s
  p : ∀ s : Int, isNon G s = true → PrdG G s
theorem live_of_dead {G : GramD} {st : Int} (hz : checkOf G st = 0) (h : (deadOf G st).1 = 0) : Live G st := by
  have hb : ∀ i : Nat, i < G.terms.length + G.nons.length → deadB G st ((i : Int) + 1) = false := by
    intro i hi
    cases e : deadB G st ((i : Int) + 1) with
    | false => rfl
    | true =>
      exfalso
      unfold deadOf at h
      rw [if_pos hz] at h
      rcases hf : (List.range (G.terms.length + G.nons.length)).find? (fun (i : Nat) => deadB G st ((i : Int) + 1)) with _ | j
      · rw [List.find?_eq_none] at hf
        exact hf i (List.mem_range.2 hi) e
      · rw [hf] at h
        simp at h
  have key : ∀ s : Int, 1 ≤ s → s ≤ (G.terms.length : Int) + G.nons.length → hasI (G.terms.length + G.nons.length + 1) (rchB G st) s = true ∧ (isNon G s = true → hasI (G.terms.length + G.nons.length + 1) (prdB G) s = true) := fun s h1 h2 => by
    have := hb (s - 1).toNat (by omega)
    rw [show (((s - 1).toNat : Nat) : Int) + 1 = s by omega] at this
    unfold deadB at this
    simp only [Bool.or_eq_false_iff, Bool.not_eq_false', Bool.and_eq_false_imp] at this
    exact ⟨this.1, this.2⟩
  refine ⟨fun s h1 h2 => ?_, fun s hs => ?_⟩
  · have := (key s h1 h2).1
    unfold hasI at this
    simp only [Bool.and_eq_true, decide_eq_true_eq] at this
    have h4 := toB_iff.1 this.2
    rwa [show ((s.toNat : Nat) : Int) = s by omega] at h4
  · have hs' := hs
    rw [isNon_iff] at hs'
    have := (key s (by omega) (by omega)).2 hs
    unfold hasI at this
    simp only [Bool.and_eq_true, decide_eq_true_eq] at this
    have h4 := toB_iff.1 this.2
    rwa [show ((s.toNat : Nat) : Int) = s by omega] at h4
theorem hasI_prd {G : GramD} {st : Int} (hk : Kn G st) {s : Int} (h : PrdG G s) : hasI (G.terms.length + G.nons.length + 1) (prdB G) s = true := by
  have := hk.prd h
  rw [isNon_iff] at this
  unfold hasI
  simp only [Bool.and_eq_true, decide_eq_true_eq]
  exact ⟨⟨by omega, by omega⟩, toB_iff.2 (by rw [show ((s.toNat : Nat) : Int) = s by omega]; exact h)⟩
theorem fine_live {G : GramD} {st : Int} (hk : Kn G st) (h : Live G st) : fineG G st = ⟨G.terms, G.nons, G.rules, st⟩ := by
  unfold fineG
  congr 1
  rw [List.filter_eq_self]
  intro r hr
  exact fineB_iff.2 fun x hx hn => hasI_prd hk (h.p x hn)
theorem rchL_live {G : GramD} {st : Int} (hk : Kn G st) (h : Live G st) : rchL G st = allS (G.terms.length + G.nons.length) := by
  rw [← rchL_of hk (l := allS (G.terms.length + G.nons.length)) (fun s hs => by have := allS_mem.1 hs; exact h.r s (by omega) (by omega)) (by have := hk.st; rw [isNon_iff] at this; exact allS_mem.2 (by omega)) (fun r hr _ x hx => by have := (hk.k r hr).2 x hx; exact allS_mem.2 (by omega))]
  change (allS (G.terms.length + G.nons.length)).filter (fun s => decide (s ∈ allS (G.terms.length + G.nons.length))) = _
  rw [List.filter_eq_self.2 (fun s hs => decide_eq_true hs)]
/-- NOTHING GOES -/
theorem trim_live {G : GramD} {st : Int} (hz : checkOf G st = 0) (h : Live G st) : trimOf G st = (⟨G.terms, G.nons, G.rules, st⟩, true) := by
  have hk := Kn.of_check hz
  unfold trimOf
  rw [if_pos hz, if_pos (hasI_prd hk (h.p st hk.st)), fine_live hk h]
  have hk2 : Kn ⟨G.terms, G.nons, G.rules, st⟩ st := ⟨hk.t, hk.n, hk.r, hk.st, hk.k⟩
  have hl2 : Live ⟨G.terms, G.nons, G.rules, st⟩ st := ⟨h.r, h.p⟩
  rw [rchL_live hk2 hl2]
  have := only_all hk2
  simp only at this ⊢
  rw [this]
theorem trim_live' {G : GramD} {st : Int} (hz : checkOf G st = 0) (h : (deadOf G st).1 = 0) : trimOf G st = (⟨G.terms, G.nons, G.rules, st⟩, true) := trim_live hz (live_of_dead hz h)
end Go.Proofs.Ytejjaabkbkkjlaa

/- What is productive, and what is reached: plain laws. -/
import Derived.Test.YtejjaabkbkkjlaaBitsL
import Derived.Test.YtejjaabkbkkjlaaG9
namespace Go.Proofs.Ytejjaabkbkkjlaa
set_option linter.unusedVariables false

/-- productive -/
inductive Prd (T N : Nat) (rs : List (Int × List Int)) : Int → Prop
  | mk (r : Int × List Int) : r ∈ rs → (∀ x ∈ r.2, (T : Int) < x ∧ x ≤ T + N → Prd T N rs x) → Prd T N rs r.1
/-- reached -/
inductive Rch (rs : List (Int × List Int)) (st : Int) : Int → Prop
  | start : Rch rs st st
  | step (r : Int × List Int) (x : Int) : r ∈ rs → Rch rs st r.1 → x ∈ r.2 → Rch rs st x

noncomputable def toB (P : Prop) : Bool := @decide P (Classical.propDecidable P)
theorem toB_iff {P : Prop} : toB P = true ↔ P := by unfold toB; exact @decide_eq_true_iff P (Classical.propDecidable P)
theorem toB_eq {P : Prop} {b : Bool} (h : b = true ↔ P) : toB P = b := by
  rw [Bool.eq_iff_iff, toB_iff]; exact h.symm

/-- are all nonterminals of a right side there? -/
def fineB (G : GramD) (p : Int → Bool) (xs : List Int) : Bool := xs.all (fun x => !isNon G x || p x)
theorem fineB_iff {G : GramD} {p : Int → Bool} {xs : List Int} : fineB G p xs = true ↔ ∀ x ∈ xs, isNon G x = true → p x = true := by
  unfold fineB
  rw [List.all_eq_true]
  constructor
  · intro h x hx hn
    have := h x hx
    rw [hn] at this
    simpa using this
  · intro h x hx
    cases hn : isNon G x with
    | false => rfl
    | true => rw [h x hx hn]; rfl
theorem isNon_iff' {G : GramD} {x : Int} : isNon G x = true ↔ (G.terms.length : Int) < x ∧ x ≤ G.terms.length + G.nons.length := by
  rw [isNon_iff]
abbrev PrdG (G : GramD) : Int → Prop := Prd G.terms.length G.nons.length G.rules
theorem prd_closed {G : GramD} {p : Int → Bool} (hc : ∀ r ∈ G.rules, fineB G p r.2 = true → p r.1 = true) {s : Int} (h : PrdG G s) : p s = true := by
  induction h with
  | mk r hr hx ih => exact hc r hr (fineB_iff.2 fun x hx' hn => ih x hx' (isNon_iff'.1 hn))
theorem prd_sound {G : GramD} {p : Int → Bool} (hp : ∀ s, p s = true → PrdG G s) {r : Int × List Int} (hr : r ∈ G.rules) (hf : fineB G p r.2 = true) : PrdG G r.1 :=
  Prd.mk r hr fun x hx hn => hp x (fineB_iff.1 hf x hx (isNon_iff'.2 hn))
theorem rch_closed {rs : List (Int × List Int)} {st : Int} {p : Int → Bool} (h0 : p st = true) (hc : ∀ r ∈ rs, p r.1 = true → ∀ x ∈ r.2, p x = true) {s : Int} (h : Rch rs st s) : p s = true := by
  induction h with
  | start => exact h0
  | step r x hr _ hx ih => exact hc r hr ih x hx

/-- what such a grammar holds: its symbols are known, it is not great -/
structure Kn (G : GramD) (st : Int) : Prop where
  t : G.terms.length ≤ 120
  n : G.nons.length ≤ 120
  r : G.rules.length ≤ 300
  st : isNon G st = true
  k : ∀ r ∈ G.rules, isNon G r.1 = true ∧ ∀ x ∈ r.2, 1 ≤ x ∧ x ≤ (G.terms.length : Int) + G.nons.length
theorem Kn.of_check {G : GramD} {st : Int} (h : checkOf G st = 0) : Kn G st := by
  obtain ⟨hm, -, -, hk, -, -⟩ := checkOf_zero h
  obtain ⟨h1, h2, h3, -⟩ := manyOf_no hm
  unfold allKnown at hk
  rw [Bool.and_eq_true, List.all_eq_true] at hk
  refine ⟨h1, h2, h3, hk.1, fun r hr => ?_⟩
  have := hk.2 r hr
  unfold knownOf at this
  rw [Bool.and_eq_true, List.all_eq_true] at this
  refine ⟨this.1, fun x hx => ?_⟩
  have h := this.2 x hx
  rw [Bool.or_eq_true, isTerm_iff, isNon_iff] at h
  omega
theorem Kn.prd {G : GramD} {st : Int} (h : Kn G st) {s : Int} (hs : PrdG G s) : isNon G s = true := by
  cases hs with
  | mk r hr _ => exact (h.k r hr).1
theorem Kn.rch {G : GramD} {st : Int} (h : Kn G st) {s : Int} (hs : Rch G.rules st s) : 1 ≤ s ∧ s ≤ (G.terms.length : Int) + G.nons.length := by
  cases hs with
  | start => have := h.st; rw [isNon_iff] at this; omega
  | step r _ hr _ hx => exact (h.k r hr).2 _ hx

/-! ### counting -/
theorem filt_le {p q : Nat → Bool} (n : Nat) (h : ∀ j, q j = true → p j = true) : ((List.range n).filter q).length ≤ ((List.range n).filter p).length := by
  induction n with
  | zero => simp
  | succ n ih =>
    rw [List.range_succ, List.filter_append, List.filter_append, List.length_append, List.length_append]
    have : ([n].filter q).length ≤ ([n].filter p).length := by
      cases hq : q n with
      | false => simp [hq]
      | true => simp [hq, h n hq]
    omega
theorem filt_lt {p q : Nat → Bool} (n : Nat) (h : ∀ j, q j = true → p j = true) {i : Nat} (hi : i < n) (hp : p i = true) (hq : q i = false) : ((List.range n).filter q).length < ((List.range n).filter p).length := by
  induction n with
  | zero => omega
  | succ n ih =>
    rw [List.range_succ, List.filter_append, List.filter_append, List.length_append, List.length_append]
    by_cases e : i = n
    · subst e
      have := filt_le i h
      simp [hp, hq]
      omega
    · have := ih (by omega)
      have h2 : ([n].filter q).length ≤ ([n].filter p).length := by
        cases hq : q n with
        | false => simp [hq]
        | true => simp [hq, h n hq]
      omega
/-- how many are not there -/
def unset (f : Nat → Bool) (n : Nat) : Nat := ((List.range n).filter (fun j => !f j)).length
theorem unset_put {f : Nat → Bool} {n : Nat} {i : Int} (h : putAns n f i = true) : unset (putSet n f i) n < unset f n := by
  unfold putAns at h
  simp only [Bool.and_eq_true, decide_eq_true_eq, Bool.not_eq_true'] at h
  obtain ⟨⟨h0, h1⟩, h2⟩ := h
  refine filt_lt n (fun j hj => ?_) (i := i.toNat) (by omega) (by simp [h2]) ?_
  · unfold putSet at hj
    simp only [Bool.not_eq_true', Bool.or_eq_false_iff] at hj
    simp [hj.1]
  · unfold putSet
    simp only [Bool.not_eq_false', Bool.or_eq_true, Bool.and_eq_true, decide_eq_true_eq]
    exact .inr ⟨⟨h0, h1⟩, by omega⟩
theorem putSet_has {n : Nat} {f : Nat → Bool} {i : Int} (s : Int) : hasI n (putSet n f i) s = (hasI n f s || (decide (0 ≤ i) && decide (i < n) && decide (s = i))) := by
  unfold hasI putSet
  by_cases h0 : 0 ≤ s
  · by_cases h1 : s < n
    · have e : ((s.toNat : Nat) : Int) = s := by omega
      simp [h0, h1, e]
    · by_cases e : s = i
      · subst e; simp [h0, h1]
      · simp [h0, h1, e]
  · by_cases e : s = i
    · subst e; simp [h0]
    · simp [h0, e]
theorem putAns_iff {n : Nat} {f : Nat → Bool} {i : Int} : putAns n f i = true ↔ (0 ≤ i ∧ i < n) ∧ hasI n f i = false := by
  unfold putAns hasI
  by_cases h0 : 0 ≤ i
  · by_cases h1 : i < n
    · simp [h0, h1]
    · simp [h0, h1]
  · simp [h0]

/-! ### the two sets, as lists -/
noncomputable def prdB (G : GramD) (j : Nat) : Bool := toB (PrdG G (j : Int))
noncomputable def rchB (G : GramD) (st : Int) (j : Nat) : Bool := toB (Rch G.rules st (j : Int))
noncomputable def prdL (G : GramD) : List Int := (below (prdB G) (G.terms.length + G.nons.length + 1)).map (fun n : Nat => (n : Int))
noncomputable def rchL (G : GramD) (st : Int) : List Int := (below (rchB G st) (G.terms.length + G.nons.length + 1)).map (fun n : Nat => (n : Int))
theorem mem_below {f : Nat → Bool} {n : Nat} {x : Int} : x ∈ (below f n).map (fun n : Nat => (n : Int)) ↔ hasI n f x = true := by
  unfold below hasI
  rw [List.mem_map]
  simp only [Bool.and_eq_true, decide_eq_true_eq, List.mem_filter, List.mem_range]
  constructor
  · rintro ⟨j, ⟨h1, h2⟩, rfl⟩
    refine ⟨⟨by omega, by omega⟩, by simpa using h2⟩
  · rintro ⟨⟨h0, h1⟩, h2⟩
    exact ⟨x.toNat, ⟨by omega, h2⟩, by omega⟩
theorem below_congr {f g : Nat → Bool} {n : Nat} (h : ∀ j, j < n → f j = g j) : below f n = below g n := by
  unfold below
  exact List.filter_congr fun j hj => h j (List.mem_range.1 hj)
theorem prd_set {G : GramD} {st : Int} (hk : Kn G st) {f : Nat → Bool} (hs : ∀ s, hasI (G.terms.length + G.nons.length + 1) f s = true → PrdG G s) (hc : ∀ r ∈ G.rules, fineB G (hasI (G.terms.length + G.nons.length + 1) f) r.2 = true → hasI (G.terms.length + G.nons.length + 1) f r.1 = true)
    (hhi : ∀ j, G.terms.length + G.nons.length + 1 ≤ j → f j = false) (j : Nat) : f j = prdB G j := by
  unfold prdB
  refine (toB_eq ⟨fun h => ?_, fun h => ?_⟩).symm
  · have hj : j < G.terms.length + G.nons.length + 1 := by
      rcases Nat.lt_or_ge j (G.terms.length + G.nons.length + 1) with h1 | h1
      · exact h1
      · rw [hhi j h1] at h; cases h
    exact hs _ (by rw [hasI_nat hj]; exact h)
  · have h1 := prd_closed hc h
    have := hk.prd h
    rw [isNon_iff] at this
    rwa [hasI_nat (by omega)] at h1
theorem rch_set {G : GramD} {st : Int} (hk : Kn G st) {f : Nat → Bool} (hs : ∀ s, hasI (G.terms.length + G.nons.length + 1) f s = true → Rch G.rules st s) (h0 : hasI (G.terms.length + G.nons.length + 1) f st = true) (hc : ∀ r ∈ G.rules, hasI (G.terms.length + G.nons.length + 1) f r.1 = true → ∀ x ∈ r.2, hasI (G.terms.length + G.nons.length + 1) f x = true)
    (hhi : ∀ j, G.terms.length + G.nons.length + 1 ≤ j → f j = false) (j : Nat) : f j = rchB G st j := by
  unfold rchB
  refine (toB_eq ⟨fun h => ?_, fun h => ?_⟩).symm
  · have hj : j < G.terms.length + G.nons.length + 1 := by
      rcases Nat.lt_or_ge j (G.terms.length + G.nons.length + 1) with h1 | h1
      · exact h1
      · rw [hhi j h1] at h; cases h
    exact hs _ (by rw [hasI_nat hj]; exact h)
  · have h1 := rch_closed h0 hc h
    have := hk.rch h
    rwa [hasI_nat (by omega)] at h1
end Go.Proofs.Ytejjaabkbkkjlaa

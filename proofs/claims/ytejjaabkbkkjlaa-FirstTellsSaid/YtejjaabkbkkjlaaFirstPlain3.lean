/- What words begin with, what stands behind: the passes, plain. -/
import Derived.Test.YtejjaabkbkkjlaaFirstPlain2
namespace Go.Proofs.Ytejjaabkbkkjlaa
set_option linter.unusedVariables false

theorem Kn.left {G : GramD} {st : Int} (h : Kn G st) {r : Int × List Int} (hr : r ∈ G.rules) : 0 ≤ r.1 ∧ r.1 < topN G := by
  have := (h.k r hr).1
  rw [isNon_iff] at this
  unfold topN
  omega
/-- behind q rules of a pass -/
structure BPass (G : GramD) (M : Nat) (e0 : Nat → Bool) (bg0 : Nat → Nat → Bool) (q : Nat) (e : Nat → Bool) (bg : Nat → Nat → Bool) (m : Bool) : Prop where
  sound : SoundB G e bg
  base : ∀ t, t ≤ G.terms.length → bg t t = true
  still : m = false → e = e0 ∧ bg = bg0 ∧ ∀ (j : Nat) (r : Int × List Int), j < q → G.rules[j]? = some r → closedB G e0 bg0 r
  grow : m = true → measB (topN G) M e bg < measB (topN G) M e0 bg0
theorem BPass.start {G : GramD} {M : Nat} {e : Nat → Bool} {bg : Nat → Nat → Bool} (h : SoundB G e bg) (hb : ∀ t, t ≤ G.terms.length → bg t t = true) : BPass G M e bg 0 e bg false :=
  ⟨h, hb, fun _ => ⟨rfl, rfl, fun j r hj => absurd hj (by omega)⟩, fun h => (by cases h)⟩
theorem BPass.step {G : GramD} {st : Int} {M : Nat} {e0 e : Nat → Bool} {bg0 bg : Nat → Nat → Bool} {q : Nat} {m : Bool} (h : BPass G M e0 bg0 q e bg m) (hk : Kn G st) {r : Int × List Int} (hr : G.rules[q]? = some r) (hh : ∀ i t, i < topN G → M ≤ t → bg i t = false) :
    BPass G M e0 bg0 (q + 1) (stepE G e r) (stepB G e bg r) (m || ((r.2.all (hasI (topN G) e) && putAns (topN G) e r.1) || moreB M (bg r.1.toNat) (joinL (bg r.1.toNat) (hasI (topN G) e) (famI (topN G) bg) r.2))) := by
  have hrm := List.mem_of_getElem? hr
  have hl := hk.left hrm
  have hle : measB (topN G) M e bg ≤ measB (topN G) M e0 bg0 := by
    cases m with
    | false => obtain ⟨e1, e2, -⟩ := h.still rfl; rw [e1, e2]; exact Nat.le_refl _
    | true => exact Nat.le_of_lt (h.grow rfl)
  refine ⟨h.sound.step hrm hl, fun t ht => ?_, fun hm => ?_, fun hm => ?_⟩
  · unfold stepB
    by_cases et : t = r.1.toNat
    · subst et; rw [setF_same, h.base _ ht]; rfl
    · rw [setF_ne et]; exact h.base t ht
  · rw [Bool.or_eq_false_iff, Bool.or_eq_false_iff] at hm
    obtain ⟨e1, e2, e3⟩ := h.still hm.1
    obtain ⟨f1, f2, f3⟩ := bstep_still hl hh hm.2.1 hm.2.2
    refine ⟨by rw [f1, e1], by rw [f2, e2], fun j r' hj hr' => ?_⟩
    by_cases ej : j = q
    · subst ej
      rw [hr] at hr'
      injection hr' with hr'
      subst hr'
      rw [← e1, ← e2]; exact f3
    · exact e3 j r' (by omega) hr'
  · by_cases hn : ((r.2.all (hasI (topN G) e) && putAns (topN G) e r.1) || moreB M (bg r.1.toNat) (joinL (bg r.1.toNat) (hasI (topN G) e) (famI (topN G) bg) r.2)) = true
    · have := bstep_grow (M := M) hl (by simpa using hn)
      omega
    · rw [Bool.not_eq_true] at hn
      rw [hn, Bool.or_false] at hm
      rw [Bool.or_eq_false_iff] at hn
      obtain ⟨f1, f2, -⟩ := bstep_still hl hh hn.1 hn.2
      rw [f1, f2]
      exact h.grow hm
theorem BPass.closed {G : GramD} {M : Nat} {e0 e : Nat → Bool} {bg0 bg : Nat → Nat → Bool} {q : Nat} (h : BPass G M e0 bg0 q e bg false) (hq : q = G.rules.length) : ∀ r ∈ G.rules, closedB G e bg r := fun r hr => by
  obtain ⟨e1, e2, e3⟩ := h.still rfl
  obtain ⟨j, hj, e⟩ := List.getElem_of_mem hr
  rw [e1, e2]
  exact e3 j r (by omega) (by rw [List.getElem?_eq_getElem hj, e])

/-! ### the empty start -/
def startB (k : Nat) (i t : Nat) : Bool := decide (i < k) && decide (t = i)
theorem startB_put {T k : Nat} (hk : k ≤ T) : setF (startB k) k (putSet (T + 1) (startB k k) (k : Int)) = startB (k + 1) := by
  funext i t
  unfold startB putSet
  by_cases e : i = k
  · subst e
    rw [setF_same]
    by_cases ht : t = i
    · subst ht; simp; omega
    · have : ¬ ((t : Int) = (i : Int)) := by omega
      simp [ht, this]
  · rw [setF_ne e]
    by_cases h1 : i < k
    · have : i < k + 1 := by omega
      simp [h1, this]
    · have : ¬ i < k + 1 := by omega
      simp [h1, this]
theorem startB_sound (G : GramD) : SoundB G noBits (startB (G.terms.length + 1)) := by
  refine ⟨fun s h => ?_, fun s t h => ?_⟩
  · unfold hasI noBits at h; simp at h
  · obtain ⟨h0, h1, h2⟩ := famI_in h
    unfold startB at h2
    simp only [Bool.and_eq_true, decide_eq_true_eq] at h2
    have := Beg.self (T := G.terms.length) (rs := G.rules) t (by omega)
    rwa [show (t : Int) = s by omega] at this
theorem startB_base {T : Nat} : ∀ t, t ≤ T → startB (T + 1) t t = true := fun t ht => by
  unfold startB
  have : t < T + 1 := by omega
  simp [this]
theorem startB_zero : startB 0 = fun _ => noBits := by funext i t; simp [startB, noBits]

/-! ### what stands behind -/
theorem Kn.beg {G : GramD} {st : Int} (h : Kn G st) {s : Int} {t : Nat} (hs : BegG G s t) : 0 ≤ s ∧ s < topN G := by
  cases hs with
  | self t ht => unfold topN; omega
  | step r x _ pre post hr _ _ _ => exact h.left hr
theorem Kn.emp' {G : GramD} {st : Int} (h : Kn G st) {s : Int} (hs : EmpG G s) : 0 ≤ s ∧ s < topN G := by
  have := h.emp hs
  rw [isNon_iff] at this
  unfold topN
  omega
theorem has_emp {G : GramD} {st : Int} (hk : Kn G st) {s : Int} : hasI (topN G) (empB G) s = true ↔ EmpG G s := by
  constructor
  · intro h
    unfold hasI at h
    simp only [Bool.and_eq_true, decide_eq_true_eq] at h
    have := toB_iff.1 h.2
    rwa [show ((s.toNat : Nat) : Int) = s by omega] at this
  · intro h
    obtain ⟨h0, h1⟩ := hk.emp' h
    unfold hasI
    rw [decide_eq_true h0, decide_eq_true h1]
    exact toB_iff.2 (by rwa [show ((s.toNat : Nat) : Int) = s by omega])
theorem fam_beg {G : GramD} {st : Int} (hk : Kn G st) {s : Int} {t : Nat} : famI (topN G) (begB G) s t = true ↔ BegG G s t := by
  constructor
  · intro h
    obtain ⟨h0, h1, h2⟩ := famI_in h
    have := toB_iff.1 h2
    rwa [show ((s.toNat : Nat) : Int) = s by omega] at this
  · intro h
    obtain ⟨h0, h1⟩ := hk.beg h
    exact famI_mk h0 h1 (toB_iff.2 (by rwa [show ((s.toNat : Nat) : Int) = s by omega]))
theorem fam_beh {G : GramD} {st : Int} {s : Int} {t : Nat} (h0 : 0 ≤ s) (h1 : s < topN G) : famI (topN G) (behB G st) s t = true ↔ BehG G st s t := by
  constructor
  · intro h
    obtain ⟨-, -, h2⟩ := famI_in h
    have := toB_iff.1 h2
    rwa [show ((s.toNat : Nat) : Int) = s by omega] at this
  · intro h
    exact famI_mk h0 h1 (toB_iff.2 (by rwa [show ((s.toNat : Nat) : Int) = s by omega]))
theorem line_beg {G : GramD} {st : Int} (hk : Kn G st) {l : List Int} {t : Nat} : lineB (hasI (topN G) (empB G)) (famI (topN G) (begB G)) l t = true ↔ BegLG G l t := by
  rw [lineB_iff]
  constructor
  · rintro ⟨pre, x, post, e, h1, h2⟩
    exact ⟨pre, x, post, e, fun y hy => (has_emp hk).1 (h1 y hy), (fam_beg hk).1 h2⟩
  · rintro ⟨pre, x, post, e, h1, h2⟩
    exact ⟨pre, x, post, e, fun y hy => (has_emp hk).2 (h1 y hy), (fam_beg hk).2 h2⟩
theorem all_emp {G : GramD} {st : Int} (hk : Kn G st) {l : List Int} : l.all (hasI (topN G) (empB G)) = true ↔ ∀ y ∈ l, EmpG G y := by
  rw [List.all_eq_true]
  exact ⟨fun h y hy => (has_emp hk).1 (h y hy), fun h y hy => (has_emp hk).2 (h y hy)⟩

/-- behind q rules of a pass -/
structure HPass (G : GramD) (st : Int) (M : Nat) (bh0 : Nat → Nat → Bool) (q : Nat) (bh : Nat → Nat → Bool) (m : Bool) : Prop where
  sound : SoundH G st bh
  start : famI (topN G) bh st 0 = true
  still : m = false → bh = bh0 ∧ ∀ (j : Nat) (r : Int × List Int), j < q → G.rules[j]? = some r → closedH G bh0 r
  grow : m = true → unsetF bh M (topN G) < unsetF bh0 M (topN G)
theorem HPass.begin {G : GramD} {st : Int} {M : Nat} {bh : Nat → Nat → Bool} (h : SoundH G st bh) (h0 : famI (topN G) bh st 0 = true) : HPass G st M bh 0 bh false :=
  ⟨h, h0, fun _ => ⟨rfl, fun j r hj => absurd hj (by omega)⟩, fun h => (by cases h)⟩
theorem nonB_isNon {G : GramD} {x : Int} : nonB G.terms.length (topOf G) x = isNon G x := rfl
theorem HPass.step {G : GramD} {st : Int} {M : Nat} {bh0 bh bh' : Nat → Nat → Bool} {q : Nat} {m m' : Bool} (h : HPass G st M bh0 q bh m) (hk : Kn G st) {r : Int × List Int} (hr : G.rules[q]? = some r)
    (hs : HStep G.terms.length (topOf G) (topN G) M (hasI (topN G) (empB G)) (famI (topN G) (begB G)) bh r.1 r.2 r.2.length bh' m') : HPass G st M bh0 (q + 1) bh' (m || m') := by
  have hrm := List.mem_of_getElem? hr
  have hl := hk.left hrm
  have hin : ∀ {x : Int} {j : Nat}, r.2[j]? = some x → 0 ≤ x ∧ x < topN G := fun {x j} hx => by
    have := (hk.k r hrm).2 x (List.mem_of_getElem? hx)
    unfold topN; omega
  have hle : unsetF bh M (topN G) ≤ unsetF bh0 M (topN G) := by
    cases m with
    | false => rw [(h.still rfl).1]; exact Nat.le_refl _
    | true => exact Nat.le_of_lt (h.grow rfl)
  obtain ⟨g1, g2⟩ := hs.grow
  refine ⟨⟨fun s t hst => ?_⟩, ?_, fun hm => ?_, fun hm => ?_⟩
  · obtain ⟨h0, h1, h2⟩ := famI_in hst
    have := hs.sound (fun i t => i < topN G → BehG G st (i : Int) t) (fun i t hi hlt => h.sound.b _ _ (by rw [famI_nat hlt]; exact hi)) (fun j x hj hx hn => by
      obtain ⟨x0, x1⟩ := hin hx
      have hxx : ((x.toNat : Nat) : Int) = x := by omega
      refine ⟨fun t ht hlt => ?_, fun hall t hQ hlt => ?_⟩
      · rw [hxx]
        exact Beh.next r x t _ _ hrm (at_split hx) (isNon_iff'.1 hn) ((line_beg hk).1 ht)
      · rw [hxx]
        refine Beh.last r x t _ _ hrm (at_split hx) (isNon_iff'.1 hn) ((all_emp hk).1 hall) ?_
        have := hQ (by omega)
        rwa [show ((r.1.toNat : Nat) : Int) = r.1 by omega] at this) _ _ h2 (by omega)
    rwa [show ((s.toNat : Nat) : Int) = s by omega] at this
  · obtain ⟨h0, h1, h2⟩ := famI_in h.start
    exact famI_mk h0 h1 (hs.le _ _ h2)
  · rw [Bool.or_eq_false_iff] at hm
    obtain ⟨e1, e2⟩ := h.still hm.1
    obtain ⟨f1, f2⟩ := hs.still hm.2
    refine ⟨by rw [f1, e1], fun j r' hj hr' => ?_⟩
    by_cases ej : j = q
    · subst ej
      rw [hr] at hr'
      injection hr' with hr'
      subst hr'
      intro k x hx hn
      obtain ⟨x0, x1⟩ := hin hx
      have hkl := (List.getElem?_eq_some_iff.1 hx).1
      obtain ⟨a, b⟩ := f2 k x hkl hx hn
      rw [← e1]
      refine ⟨fun t ht => famI_mk x0 x1 (a t ((line_beg hk).2 ht)), fun hall t ht => famI_mk x0 x1 (b ((all_emp hk).2 hall) t (famI_in ht).2.2)⟩
    · exact e2 j r' (by omega) hr'
  · rw [Bool.or_eq_true] at hm
    rcases hm with hm | hm
    · have := h.grow hm; omega
    · have := g2 hm; omega
theorem HPass.closed {G : GramD} {st : Int} {M : Nat} {bh0 bh : Nat → Nat → Bool} {q : Nat} (h : HPass G st M bh0 q bh false) (hq : q = G.rules.length) : ∀ r ∈ G.rules, closedH G bh r := fun r hr => by
  obtain ⟨e1, e2⟩ := h.still rfl
  obtain ⟨j, hj, e⟩ := List.getElem_of_mem hr
  rw [e1]
  exact e2 j r (by omega) (by rw [List.getElem?_eq_getElem hj, e])
/-- the start, put -/
def startH (s i t : Nat) : Bool := decide (i = s) && decide (t = 0)
theorem startH_put {T s : Nat} : setF (fun _ => noBits) s (putSet (T + 1) noBits 0) = startH s := by
  funext i t
  unfold startH putSet noBits
  by_cases e : i = s
  · subst e; rw [setF_same]
    by_cases ht : t = 0
    · subst ht; simp <;> omega
    · simp [ht]
  · rw [setF_ne e]; simp [e]
theorem startH_sound {G : GramD} {st : Int} (hk : Kn G st) : SoundH G st (startH st.toNat) ∧ famI (topN G) (startH st.toNat) st 0 = true := by
  have hs := hk.st
  rw [isNon_iff] at hs
  refine ⟨⟨fun s t h => ?_⟩, famI_mk (by omega) (by unfold topN; omega) (by simp [startH])⟩
  obtain ⟨h0, h1, h2⟩ := famI_in h
  unfold startH at h2
  simp only [Bool.and_eq_true, decide_eq_true_eq] at h2
  obtain ⟨e1, rfl⟩ := h2
  rw [show s = st by omega]
  exact Beh.start
end Go.Proofs.Ytejjaabkbkkjlaa

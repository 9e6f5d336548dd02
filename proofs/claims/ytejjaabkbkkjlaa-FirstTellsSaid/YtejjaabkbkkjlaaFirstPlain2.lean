/- What words begin with, what stands behind: a rule's step, plain. -/
import Derived.Test.YtejjaabkbkkjlaaFirstPlain
namespace Go.Proofs.Ytejjaabkbkkjlaa
set_option linter.unusedVariables false

theorem lineB_snoc {e : Int → Bool} {b : Int → Nat → Bool} {x : Int} {t : Nat} : ∀ {l : List Int}, l.all e = true → lineB e b (l ++ [x]) t = (lineB e b l t || b x t)
  | [], _ => by simp [lineB]
  | y :: l, h => by
    simp only [List.all_cons, Bool.and_eq_true] at h
    simp only [List.cons_append, lineB, lineB_snoc h.2, h.1, Bool.true_and, Bool.or_assoc]
theorem lineB_stop {e : Int → Bool} {b : Int → Nat → Bool} {t : Nat} : ∀ {l : List Int} {k : Nat} {x : Int}, l[k]? = some x → e x = false → lineB e b l t = lineB e b (l.take (k + 1)) t
  | [], k, x, h, _ => by simp at h
  | y :: l, 0, x, h, he => by
    simp at h
    subst h
    simp [lineB, he]
  | y :: l, k + 1, x, h, he => by
    have := lineB_stop (e := e) (b := b) (t := t) (l := l) (k := k) (by simpa using h) he
    simp only [List.take_succ_cons, lineB, this]
theorem all_stop {e : Int → Bool} {l : List Int} {k : Nat} {x : Int} (h : l[k]? = some x) (he : e x = false) : l.all e = false := by
  rw [List.all_eq_false]
  exact ⟨x, List.mem_of_getElem? h, by simp [he]⟩
theorem take_get {l : List Int} {k : Nat} {x : Int} (h : l[k]? = some x) : l.take (k + 1) = l.take k ++ [x] := by
  rw [List.take_add_one, h]; rfl
theorem all_take {e : Int → Bool} {l : List Int} {k : Nat} {x : Int} (h : l[k]? = some x) (ha : (l.take k).all e = true) (he : e x = true) : (l.take (k + 1)).all e = true := by
  rw [take_get h, List.all_append, ha]; simp [he]

/-- what is joined with what a line begins with -/
def joinL (f : Nat → Bool) (e : Int → Bool) (b : Int → Nat → Bool) (l : List Int) (t : Nat) : Bool := f t || lineB e b l t
theorem joinL_le {f : Nat → Bool} {e : Int → Bool} {b : Int → Nat → Bool} {l : List Int} (t : Nat) (h : f t = true) : joinL f e b l t = true := by unfold joinL; rw [h]; rfl
theorem lineB_high {n M : Nat} {e : Int → Bool} {bg : Nat → Nat → Bool} {l : List Int} {t : Nat} (h : ∀ i t, i < n → M ≤ t → bg i t = false) (ht : M ≤ t) : lineB e (famI n bg) l t = false := by
  cases hl : lineB e (famI n bg) l t with
  | false => rfl
  | true =>
    obtain ⟨pre, x, post, -, -, hx⟩ := lineB_iff.1 hl
    obtain ⟨h0, h1, h2⟩ := famI_in hx
    rw [h x.toNat t (by omega) ht] at h2
    cases h2

/-! ### the step of a rule, what begins -/
theorem unsetF_less {F : Nat → Nat → Bool} {n M i : Nat} {f : Nat → Bool} (hi : i < n) (h : moreB M (F i) f = true) (h1 : ∀ t, F i t = true → f t = true) : unsetF (setF F i f) M n < unsetF F M n := by
  have := unsetF_set (F := F) (f := f) (m := M) hi
  have := unset_more h h1
  omega
theorem unsetF_leq {F : Nat → Nat → Bool} {n M i : Nat} {f : Nat → Bool} (hi : i < n) (h1 : ∀ t, F i t = true → f t = true) : unsetF (setF F i f) M n ≤ unsetF F M n := by
  have := unsetF_set (F := F) (f := f) (m := M) hi
  have := unset_le (m := M) h1
  omega
def measB (n M : Nat) (e : Nat → Bool) (bg : Nat → Nat → Bool) : Nat := unset e n + unsetF bg M n
theorem putSet_le {n : Nat} {f : Nat → Bool} {i : Int} (t : Nat) (h : f t = true) : putSet n f i t = true := by unfold putSet; rw [h]; rfl
theorem putSet_id {n : Nat} {f : Nat → Bool} {i : Int} (h : putAns n f i = false) : putSet n f i = f := by
  funext j
  unfold putSet
  cases hf : f j with
  | true => rfl
  | false =>
    cases hh : (decide (0 ≤ i) && decide (i < n) && decide ((j : Int) = i)) with
    | false => rfl
    | true =>
      simp only [Bool.and_eq_true, decide_eq_true_eq] at hh
      unfold putAns at h
      rw [decide_eq_true hh.1.1, decide_eq_true hh.1.2, show i.toNat = j by omega, hf] at h
      cases h
theorem bstep_grow {G : GramD} {e : Nat → Bool} {bg : Nat → Nat → Bool} {r : Int × List Int} {M : Nat} (hl : 0 ≤ r.1 ∧ r.1 < topN G)
    (h : (r.2.all (hasI (topN G) e) && putAns (topN G) e r.1) = true ∨ moreB M (bg r.1.toNat) (joinL (bg r.1.toNat) (hasI (topN G) e) (famI (topN G) bg) r.2) = true) :
    measB (topN G) M (stepE G e r) (stepB G e bg r) < measB (topN G) M e bg := by
  have hi : r.1.toNat < topN G := by omega
  have h1 := unsetF_leq (M := M) (f := joinL (bg r.1.toNat) (hasI (topN G) e) (famI (topN G) bg) r.2) hi (fun t => joinL_le t)
  have h2 : unset (stepE G e r) (topN G) ≤ unset e (topN G) := by
    refine unset_le fun t ht => ?_
    unfold stepE
    split
    · exact putSet_le t ht
    · exact ht
  have e2 : stepB G e bg r = setF bg r.1.toNat (joinL (bg r.1.toNat) (hasI (topN G) e) (famI (topN G) bg) r.2) := rfl
  unfold measB
  rw [e2]
  rcases h with h | h
  · rw [Bool.and_eq_true] at h
    have : unset (stepE G e r) (topN G) < unset e (topN G) := by
      unfold stepE
      rw [if_pos h.1]
      exact unset_put h.2
    omega
  · have := unsetF_less hi h (fun t => joinL_le t)
    omega
theorem bstep_still {G : GramD} {e : Nat → Bool} {bg : Nat → Nat → Bool} {r : Int × List Int} {M : Nat} (hl : 0 ≤ r.1 ∧ r.1 < topN G) (hh : ∀ i t, i < topN G → M ≤ t → bg i t = false)
    (h : (r.2.all (hasI (topN G) e) && putAns (topN G) e r.1) = false) (h' : moreB M (bg r.1.toNat) (joinL (bg r.1.toNat) (hasI (topN G) e) (famI (topN G) bg) r.2) = false) :
    stepE G e r = e ∧ stepB G e bg r = bg ∧ closedB G e bg r := by
  have hi : r.1.toNat < topN G := by omega
  have h1 : stepE G e r = e := by
    unfold stepE
    split
    · rename_i ha
      rw [ha, Bool.true_and] at h
      exact putSet_id h
    · rfl
  have h2 : stepB G e bg r = bg := by
    refine setF_id ?_
    refine moreB_eq h' (fun t => joinL_le t) fun t ht => ?_
    show (bg r.1.toNat t || lineB (hasI (topN G) e) (famI (topN G) bg) r.2 t) = false
    rw [hh _ t hi ht, lineB_high hh ht]; rfl
  exact ⟨h1, h2, closed_step hl h1 h2⟩

/-! ### the step of a rule, what stands behind -/
def nonB (T p : Nat) (x : Int) : Bool := decide ((T : Int) < x) && decide (x ≤ p)
/-- the first k places of a right side have been walked -/
structure HStep (T p n M : Nat) (e : Int → Bool) (b : Int → Nat → Bool) (bh : Nat → Nat → Bool) (l : Int) (xs : List Int) (k : Nat) (bh' : Nat → Nat → Bool) (m : Bool) : Prop where
  le : ∀ i t, bh i t = true → bh' i t = true
  sound : ∀ Q : Nat → Nat → Prop, (∀ i t, bh i t = true → Q i t) → (∀ j x, j < k → xs[j]? = some x → nonB T p x = true → (∀ t, lineB e b (xs.drop (j + 1)) t = true → Q x.toNat t) ∧ ((xs.drop (j + 1)).all e = true → ∀ t, Q l.toNat t → Q x.toNat t)) → ∀ i t, bh' i t = true → Q i t
  still : m = false → bh' = bh ∧ ∀ j x, j < k → xs[j]? = some x → nonB T p x = true → (∀ t, lineB e b (xs.drop (j + 1)) t = true → bh x.toNat t = true) ∧ ((xs.drop (j + 1)).all e = true → ∀ t, bh l.toNat t = true → bh x.toNat t = true)
  grow : unsetF bh' M n ≤ unsetF bh M n ∧ (m = true → unsetF bh' M n < unsetF bh M n)
section
variable {T p n M : Nat} {e : Int → Bool} {b : Int → Nat → Bool} {bh bh' : Nat → Nat → Bool} {l : Int} {xs : List Int} {k : Nat} {m : Bool} {x : Int}
theorem HStep.zero (T p n M : Nat) (e : Int → Bool) (b : Int → Nat → Bool) (bh : Nat → Nat → Bool) (l : Int) (xs : List Int) : HStep T p n M e b bh l xs 0 bh false :=
  ⟨fun _ _ h => h, fun Q h0 _ => h0, fun _ => ⟨rfl, fun j x hj => absurd hj (by omega)⟩, Nat.le_refl _, fun h => (by cases h)⟩
theorem HStep.skip (h : HStep T p n M e b bh l xs k bh' m) (hx : xs[k]? = some x) (hn : nonB T p x = false) : HStep T p n M e b bh l xs (k + 1) bh' m := by
  refine ⟨h.le, fun Q h0 h1 => h.sound Q h0 fun j y hj => h1 j y (by omega), fun hm => ?_, h.grow⟩
  obtain ⟨e1, e2⟩ := h.still hm
  refine ⟨e1, fun j y hj hy hny => ?_⟩
  by_cases ej : j = k
  · subst ej; rw [hx] at hy; injection hy with hy; subst hy; rw [hn] at hny; cases hny
  · exact e2 j y (by omega) hy hny
theorem HStep.part (h : HStep T p n M e b bh l xs k bh' m) (hx : xs[k]? = some x) (hn : nonB T p x = true) (hp : p < n) (hh : ∀ i t, i < n → M ≤ t → bh' i t = false) (hbh : ∀ t, M ≤ t → lineB e b (xs.drop (k + 1)) t = false) (ha : (xs.drop (k + 1)).all e = false) :
    HStep T p n M e b bh l xs (k + 1) (setF bh' x.toNat (joinL (bh' x.toNat) e b (xs.drop (k + 1)))) (m || moreB M (bh' x.toNat) (joinL (bh' x.toNat) e b (xs.drop (k + 1)))) := by
  have hxr : 0 ≤ x ∧ x ≤ p := by unfold nonB at hn; simp only [Bool.and_eq_true, decide_eq_true_eq] at hn; omega
  have hi : x.toNat < n := by omega
  obtain ⟨g1, g2⟩ := h.grow
  have g3 := unsetF_leq (M := M) (f := joinL (bh' x.toNat) e b (xs.drop (k + 1))) hi (fun t => joinL_le t)
  refine ⟨fun i t ht => ?_, fun Q h0 h1 i t ht => ?_, fun hm => ?_, by omega, fun hm => ?_⟩
  · by_cases ei : i = x.toNat
    · subst ei; rw [setF_same]; exact joinL_le t (h.le _ t ht)
    · rw [setF_ne ei]; exact h.le i t ht
  · have hQ := h.sound Q h0 fun j y hj => h1 j y (by omega)
    by_cases ei : i = x.toNat
    · subst ei
      rw [setF_same] at ht
      unfold joinL at ht
      rw [Bool.or_eq_true] at ht
      rcases ht with ht | ht
      · exact hQ _ t ht
      · exact (h1 k x (by omega) hx hn).1 t ht
    · rw [setF_ne ei] at ht; exact hQ i t ht
  · rw [Bool.or_eq_false_iff] at hm
    obtain ⟨e1, e2⟩ := h.still hm.1
    have hid : joinL (bh' x.toNat) e b (xs.drop (k + 1)) = bh' x.toNat := moreB_eq hm.2 (fun t => joinL_le t) fun t ht => by
      unfold joinL; rw [hh _ t hi ht, hbh t ht]; rfl
    refine ⟨by rw [setF_id hid, e1], fun j y hj hy hny => ?_⟩
    by_cases ej : j = k
    · subst ej
      rw [hx] at hy
      injection hy with hy
      subst hy
      refine ⟨fun t ht => ?_, fun hall => by rw [ha] at hall; cases hall⟩
      rw [← e1, ← hid]
      unfold joinL
      rw [ht, Bool.or_true]
    · exact e2 j y (by omega) hy hny
  · rw [Bool.or_eq_true] at hm
    rcases hm with hm | hm
    · have := g2 hm; omega
    · have := unsetF_less hi hm (fun t => joinL_le t); omega
theorem HStep.whole {f f2 : Nat → Bool} (h : HStep T p n M e b bh l xs k bh' m) (hx : xs[k]? = some x) (hn : nonB T p x = true) (hp : p < n) (hh : ∀ i t, i < n → M ≤ t → bh' i t = false) (hbh : ∀ t, M ≤ t → lineB e b (xs.drop (k + 1)) t = false) (ha : (xs.drop (k + 1)).all e = true) (hl : l.toNat < n)
    (hf : f = joinL (bh' x.toNat) e b (xs.drop (k + 1))) (hf2 : f2 = fun t => f t || setF bh' x.toNat f l.toNat t) :
    HStep T p n M e b bh l xs (k + 1) (setF (setF bh' x.toNat f) x.toNat f2) (m || (moreB M f f2 || moreB M (bh' x.toNat) f)) := by
  have hxr : 0 ≤ x ∧ x ≤ p := by unfold nonB at hn; simp only [Bool.and_eq_true, decide_eq_true_eq] at hn; omega
  have hi : x.toNat < n := by omega
  have hss : setF (setF bh' x.toNat f) x.toNat f2 = setF bh' x.toNat f2 := by
    funext j; by_cases ej : j = x.toNat
    · subst ej; rw [setF_same, setF_same]
    · rw [setF_ne ej, setF_ne ej, setF_ne ej]
  have hle1 : ∀ t, bh' x.toNat t = true → f t = true := fun t ht => by rw [hf]; exact joinL_le t ht
  have hle2 : ∀ t, f t = true → f2 t = true := fun t ht => by rw [hf2]; simp [ht]
  have hmm : (moreB M f f2 || moreB M (bh' x.toNat) f) = moreB M (bh' x.toNat) f2 := moreB_trans hle1 hle2
  have hlf : ∀ t, f2 t = true → f t = true ∨ bh' l.toNat t = true := fun t ht => by
    rw [hf2] at ht
    simp only [Bool.or_eq_true] at ht
    rcases ht with ht | ht
    · exact .inl ht
    · by_cases el : l.toNat = x.toNat
      · rw [el, setF_same] at ht; exact .inl ht
      · rw [setF_ne el] at ht; exact .inr ht
  rw [hss, hmm]
  obtain ⟨g1, g2⟩ := h.grow
  have g3 := unsetF_leq (M := M) (f := f2) hi (fun t ht => hle2 t (hle1 t ht))
  refine ⟨fun i t ht => ?_, fun Q h0 h1 i t ht => ?_, fun hm => ?_, by omega, fun hm => ?_⟩
  · by_cases ei : i = x.toNat
    · subst ei; rw [setF_same]; exact hle2 t (hle1 t (h.le _ t ht))
    · rw [setF_ne ei]; exact h.le i t ht
  · have hQ := h.sound Q h0 fun j y hj => h1 j y (by omega)
    by_cases ei : i = x.toNat
    · subst ei
      rw [setF_same] at ht
      rcases hlf t ht with ht | ht
      · rw [hf] at ht
        unfold joinL at ht
        rw [Bool.or_eq_true] at ht
        rcases ht with ht | ht
        · exact hQ _ t ht
        · exact (h1 k x (by omega) hx hn).1 t ht
      · exact (h1 k x (by omega) hx hn).2 ha t (hQ _ t ht)
    · rw [setF_ne ei] at ht; exact hQ i t ht
  · rw [Bool.or_eq_false_iff] at hm
    obtain ⟨e1, e2⟩ := h.still hm.1
    have hid : f2 = bh' x.toNat := moreB_eq hm.2 (fun t ht => hle2 t (hle1 t ht)) fun t ht => by
      cases h2 : f2 t with
      | false => rfl
      | true =>
        rcases hlf t h2 with h3 | h3
        · rw [hf] at h3; unfold joinL at h3; rw [hh _ t hi ht, hbh t ht] at h3; cases h3
        · rw [hh _ t hl ht] at h3; cases h3
    refine ⟨by rw [setF_id hid, e1], fun j y hj hy hny => ?_⟩
    by_cases ej : j = k
    · subst ej
      rw [hx] at hy
      injection hy with hy
      subst hy
      rw [← e1, ← hid]
      refine ⟨fun t ht => hle2 t ?_, fun _ t ht => ?_⟩
      · rw [hf]; unfold joinL; rw [ht, Bool.or_true]
      · by_cases el : l.toNat = x.toNat
        · rw [el, ← hid] at ht; exact ht
        · rw [hf2]
          simp only [setF_ne el, ht, Bool.or_true]
    · exact e2 j y (by omega) hy hny
  · rw [Bool.or_eq_true] at hm
    rcases hm with hm | hm
    · have := g2 hm; omega
    · have := unsetF_less hi hm (fun t ht => hle2 t (hle1 t ht)); omega
end
end Go.Proofs.Ytejjaabkbkkjlaa

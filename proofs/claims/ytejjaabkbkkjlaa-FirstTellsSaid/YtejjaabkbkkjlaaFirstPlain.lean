/- What words begin with, and what stands behind: plain laws. -/
import Derived.Test.YtejjaabkbkkjlaaLivePlain
namespace Go.Proofs.Ytejjaabkbkkjlaa
set_option linter.unusedVariables false

/-- it can be empty -/
inductive Emp (rs : List (Int × List Int)) : Int → Prop
  | mk (r : Int × List Int) : r ∈ rs → (∀ x ∈ r.2, Emp rs x) → Emp rs r.1
/-- it can begin so -/
inductive Beg (T : Nat) (rs : List (Int × List Int)) : Int → Nat → Prop
  | self (t : Nat) : t ≤ T → Beg T rs (t : Int) t
  | step (r : Int × List Int) (x : Int) (t : Nat) (pre post : List Int) : r ∈ rs → r.2 = pre ++ x :: post → (∀ y ∈ pre, Emp rs y) → Beg T rs x t → Beg T rs r.1 t
/-- symbols can begin so -/
def BegL (T : Nat) (rs : List (Int × List Int)) (l : List Int) (t : Nat) : Prop := ∃ pre x post, l = pre ++ x :: post ∧ (∀ y ∈ pre, Emp rs y) ∧ Beg T rs x t
/-- it can stand behind -/
inductive Beh (T N : Nat) (rs : List (Int × List Int)) (st : Int) : Int → Nat → Prop
  | start : Beh T N rs st st 0
  | next (r : Int × List Int) (x : Int) (t : Nat) (pre post : List Int) : r ∈ rs → r.2 = pre ++ x :: post → (T : Int) < x ∧ x ≤ T + N → BegL T rs post t → Beh T N rs st x t
  | last (r : Int × List Int) (x : Int) (t : Nat) (pre post : List Int) : r ∈ rs → r.2 = pre ++ x :: post → (T : Int) < x ∧ x ≤ T + N → (∀ y ∈ post, Emp rs y) → Beh T N rs st r.1 t → Beh T N rs st x t

/-- what a line of symbols begins with, out of what each one does -/
def lineB (e : Int → Bool) (b : Int → Nat → Bool) : List Int → Nat → Bool
  | [], _ => false
  | x :: r, t => b x t || (e x && lineB e b r t)
theorem lineB_iff {e : Int → Bool} {b : Int → Nat → Bool} : ∀ {l : List Int} {t : Nat}, lineB e b l t = true ↔ ∃ pre x post, l = pre ++ x :: post ∧ (∀ y ∈ pre, e y = true) ∧ b x t = true
  | [], t => by
    constructor
    · intro h; cases h
    · rintro ⟨pre, x, post, h, -⟩; cases pre <;> cases h
  | x :: r, t => by
    unfold lineB
    rw [Bool.or_eq_true, Bool.and_eq_true, lineB_iff]
    constructor
    · rintro (h | ⟨h1, pre, y, post, rfl, h2, h3⟩)
      · exact ⟨[], x, r, rfl, fun _ h => (by cases h), h⟩
      · exact ⟨x :: pre, y, post, rfl, fun z hz => (List.mem_cons.1 hz).elim (fun e => e ▸ h1) (fun hz => h2 z hz), h3⟩
    · rintro ⟨pre, y, post, h1, h2, h3⟩
      cases pre with
      | nil => injection h1 with h1 h4; subst h1; exact .inl h3
      | cons z pre =>
        injection h1 with h1 h4
        subst h1
        exact .inr ⟨h2 _ (List.mem_cons_self ..), pre, y, post, h4, fun q hq => h2 q (List.mem_cons_of_mem _ hq), h3⟩

/-! ### more: is there something in the second that is not in the first? -/
def moreB (m : Nat) (f g : Nat → Bool) : Bool := (List.range m).any fun t => g t && !f t
theorem moreB_iff {m : Nat} {f g : Nat → Bool} : moreB m f g = true ↔ ∃ t, t < m ∧ g t = true ∧ f t = false := by
  unfold moreB
  rw [List.any_eq_true]
  constructor
  · rintro ⟨t, ht, h⟩; simp only [Bool.and_eq_true, Bool.not_eq_true'] at h; exact ⟨t, List.mem_range.1 ht, h.1, h.2⟩
  · rintro ⟨t, ht, h1, h2⟩; exact ⟨t, List.mem_range.2 ht, by simp [h1, h2]⟩
theorem moreB_no {m : Nat} {f g : Nat → Bool} : moreB m f g = false ↔ ∀ t, t < m → g t = true → f t = true := by
  rw [← Bool.not_eq_true, moreB_iff]
  constructor
  · intro h t ht hg
    cases hf : f t with
    | true => rfl
    | false => exact absurd ⟨t, ht, hg, hf⟩ h
  · rintro h ⟨t, ht, hg, hf⟩
    rw [h t ht hg] at hf; cases hf
theorem moreB_self (m : Nat) (f : Nat → Bool) : moreB m f f = false := moreB_no.2 fun _ _ h => h
theorem moreB_trans {m : Nat} {f g h : Nat → Bool} (h1 : ∀ t, f t = true → g t = true) (h2 : ∀ t, g t = true → h t = true) : (moreB m g h || moreB m f g) = moreB m f h := by
  rw [Bool.eq_iff_iff, Bool.or_eq_true, moreB_iff, moreB_iff, moreB_iff]
  constructor
  · rintro (⟨t, ht, a, b⟩ | ⟨t, ht, a, b⟩)
    · refine ⟨t, ht, a, ?_⟩
      cases hf : f t with
      | false => rfl
      | true => rw [h1 t hf] at b; cases b
    · exact ⟨t, ht, h2 t a, b⟩
  · rintro ⟨t, ht, a, b⟩
    cases hg : g t with
    | true => exact .inr ⟨t, ht, hg, b⟩
    | false => exact .inl ⟨t, ht, a, hg⟩
theorem moreB_eq {m : Nat} {f g : Nat → Bool} (h : moreB m f g = false) (h1 : ∀ t, f t = true → g t = true) (hg : ∀ t, m ≤ t → g t = false) : g = f := by
  funext t
  rw [Bool.eq_iff_iff]
  refine ⟨fun hh => ?_, h1 t⟩
  rcases Nat.lt_or_ge t m with ht | ht
  · exact moreB_no.1 h t ht hh
  · rw [hg t ht] at hh; cases hh
theorem unset_more {m : Nat} {f g : Nat → Bool} (h : moreB m f g = true) (h1 : ∀ t, f t = true → g t = true) : unset g m < unset f m := by
  obtain ⟨t, ht, a, b⟩ := moreB_iff.1 h
  refine filt_lt m (fun j hj => ?_) ht (by simp [b]) (by simp [a])
  simp only [Bool.not_eq_true'] at hj ⊢
  cases hf : f j with
  | false => rfl
  | true => rw [h1 j hf] at hj; cases hj
theorem unset_le {m : Nat} {f g : Nat → Bool} (h1 : ∀ t, f t = true → g t = true) : unset g m ≤ unset f m := by
  refine filt_le m (fun j hj => ?_)
  simp only [Bool.not_eq_true'] at hj ⊢
  cases hf : f j with
  | false => rfl
  | true => rw [h1 j hf] at hj; cases hj

/-! ### families -/
def setF (F : Nat → Nat → Bool) (i : Nat) (f : Nat → Bool) (j : Nat) : Nat → Bool := if j = i then f else F j
theorem setF_same (F : Nat → Nat → Bool) (i : Nat) (f : Nat → Bool) : setF F i f i = f := by simp [setF]
theorem setF_ne {F : Nat → Nat → Bool} {i j : Nat} {f : Nat → Bool} (h : j ≠ i) : setF F i f j = F j := by simp [setF, h]
theorem setF_id {F : Nat → Nat → Bool} {i : Nat} {f : Nat → Bool} (h : f = F i) : setF F i f = F := by
  funext j; by_cases e : j = i
  · subst e; rw [setF_same, h]
  · rw [setF_ne e]
/-- how many are not there, in all -/
def unsetF (F : Nat → Nat → Bool) (m : Nat) : Nat → Nat
  | 0 => 0
  | n + 1 => unsetF F m n + unset (F n) m
theorem unsetF_far {F : Nat → Nat → Bool} {i : Nat} {f : Nat → Bool} {m : Nat} : ∀ {n : Nat}, n ≤ i → unsetF (setF F i f) m n = unsetF F m n
  | 0, _ => rfl
  | n + 1, h => by unfold unsetF; rw [unsetF_far (by omega), setF_ne (by omega)]
theorem unsetF_set {F : Nat → Nat → Bool} {i : Nat} {f : Nat → Bool} {m : Nat} : ∀ {n : Nat}, i < n → unsetF (setF F i f) m n + unset (F i) m = unsetF F m n + unset f m
  | n + 1, h => by
    unfold unsetF
    by_cases e : n = i
    · subst e; rw [unsetF_far (Nat.le_refl _), setF_same]; omega
    · rw [setF_ne e]; have := unsetF_set (F := F) (f := f) (m := m) (n := n) (i := i) (by omega); omega

/-- a family, at an integer -/
def famI (n : Nat) (F : Nat → Nat → Bool) (x : Int) (t : Nat) : Bool := decide (0 ≤ x) && decide (x < n) && F x.toNat t
theorem famI_nat {n : Nat} {F : Nat → Nat → Bool} {i : Nat} (h : i < n) (t : Nat) : famI n F i t = F i t := by
  unfold famI
  have h' : (i : Int) < n := by omega
  simp [h']
theorem famI_no {n : Nat} {F : Nat → Nat → Bool} {x : Int} (h : x < 0 ∨ (n : Int) ≤ x) (t : Nat) : famI n F x t = false := by
  unfold famI
  rcases h with h | h
  · have : ¬ 0 ≤ x := by omega
    simp [this]
  · have : ¬ x < n := by omega
    simp [this]
theorem famI_in {n : Nat} {F : Nat → Nat → Bool} {x : Int} {t : Nat} (h : famI n F x t = true) : 0 ≤ x ∧ x < n ∧ F x.toNat t = true := by
  unfold famI at h
  simpa [and_assoc] using h

theorem famI_mk {n : Nat} {F : Nat → Nat → Bool} {x : Int} {t : Nat} (h0 : 0 ≤ x) (h1 : x < n) (h : F x.toNat t = true) : famI n F x t = true := by
  unfold famI
  rw [decide_eq_true h0, decide_eq_true h1, h]; rfl
/-! ### what begins: the least fixed point -/
abbrev EmpG (G : GramD) : Int → Prop := Emp G.rules
abbrev BegG (G : GramD) : Int → Nat → Prop := Beg G.terms.length G.rules
abbrev BegLG (G : GramD) : List Int → Nat → Prop := BegL G.terms.length G.rules
abbrev BehG (G : GramD) (st : Int) : Int → Nat → Prop := Beh G.terms.length G.nons.length G.rules st

abbrev topN (G : GramD) : Nat := G.terms.length + G.nons.length + 1
structure SoundB (G : GramD) (e : Nat → Bool) (bg : Nat → Nat → Bool) : Prop where
  e : ∀ s, hasI (topN G) e s = true → EmpG G s
  b : ∀ s t, famI (topN G) bg s t = true → BegG G s t
theorem SoundB.line {G : GramD} {e : Nat → Bool} {bg : Nat → Nat → Bool} (h : SoundB G e bg) {l : List Int} {t : Nat} (hl : lineB (hasI (topN G) e) (famI (topN G) bg) l t = true) : BegLG G l t := by
  obtain ⟨pre, x, post, e1, e2, e3⟩ := lineB_iff.1 hl
  exact ⟨pre, x, post, e1, fun y hy => h.e y (e2 y hy), h.b x t e3⟩
theorem SoundB.all {G : GramD} {e : Nat → Bool} {bg : Nat → Nat → Bool} (h : SoundB G e bg) {l : List Int} (hl : l.all (hasI (topN G) e) = true) : ∀ x ∈ l, EmpG G x := fun x hx => h.e x (List.all_eq_true.1 hl x hx)

/-- closed at a rule -/
def closedB (G : GramD) (e : Nat → Bool) (bg : Nat → Nat → Bool) (r : Int × List Int) : Prop :=
  (r.2.all (hasI (topN G) e) = true → hasI (topN G) e r.1 = true) ∧ ∀ t, lineB (hasI (topN G) e) (famI (topN G) bg) r.2 t = true → famI (topN G) bg r.1 t = true
theorem emp_closed {G : GramD} {e : Nat → Bool} {bg : Nat → Nat → Bool} (hc : ∀ r ∈ G.rules, closedB G e bg r) {s : Int} (h : EmpG G s) : hasI (topN G) e s = true := by
  induction h with
  | mk r hr hx ih => exact (hc r hr).1 (List.all_eq_true.2 ih)
theorem beg_closed {G : GramD} {e : Nat → Bool} {bg : Nat → Nat → Bool} (hb : ∀ t, t ≤ G.terms.length → bg t t = true) (hc : ∀ r ∈ G.rules, closedB G e bg r) {s : Int} {t : Nat} (h : BegG G s t) : famI (topN G) bg s t = true := by
  induction h with
  | self t ht => rw [famI_nat (by unfold topN; omega)]; exact hb t ht
  | step r x t pre post hr he hp _ ih => exact (hc r hr).2 t (lineB_iff.2 ⟨pre, x, post, he, fun y hy => emp_closed hc (hp y hy), ih⟩)
noncomputable def empB (G : GramD) (j : Nat) : Bool := toB (EmpG G (j : Int))
noncomputable def begB (G : GramD) (i t : Nat) : Bool := toB (BegG G (i : Int) t)
noncomputable def behB (G : GramD) (st : Int) (i t : Nat) : Bool := toB (BehG G st (i : Int) t)
theorem Kn.emp {G : GramD} {st : Int} (h : Kn G st) {s : Int} (hs : EmpG G s) : isNon G s = true := by
  cases hs with
  | mk r hr _ => exact (h.k r hr).1
theorem emp_set {G : GramD} {st : Int} (hk : Kn G st) {e : Nat → Bool} {bg : Nat → Nat → Bool} (hs : SoundB G e bg) (hc : ∀ r ∈ G.rules, closedB G e bg r) (hhi : ∀ j, topN G ≤ j → e j = false) : e = empB G := by
  funext j
  unfold empB
  refine (toB_eq ⟨fun h => ?_, fun h => ?_⟩).symm
  · have hj : j < topN G := by
      rcases Nat.lt_or_ge j (topN G) with h1 | h1
      · exact h1
      · rw [hhi j h1] at h; cases h
    exact hs.e _ (by rw [hasI_nat hj]; exact h)
  · have h1 := emp_closed hc h
    have := hk.emp h
    rw [isNon_iff] at this
    rwa [hasI_nat (by unfold topN; omega)] at h1
theorem beg_set {G : GramD} {e : Nat → Bool} {bg : Nat → Nat → Bool} (hb : ∀ t, t ≤ G.terms.length → bg t t = true) (hs : SoundB G e bg) (hc : ∀ r ∈ G.rules, closedB G e bg r) {i : Nat} (hi : i < topN G) : bg i = begB G i := by
  funext t
  unfold begB
  refine (toB_eq ⟨fun h => ?_, fun h => ?_⟩).symm
  · exact hs.b _ _ (by rw [famI_nat hi]; exact h)
  · have h1 := beg_closed hb hc h
    rwa [famI_nat hi] at h1

/-- a rule's step -/
def stepE (G : GramD) (e : Nat → Bool) (r : Int × List Int) : Nat → Bool := if r.2.all (hasI (topN G) e) then putSet (topN G) e r.1 else e
def stepB (G : GramD) (e : Nat → Bool) (bg : Nat → Nat → Bool) (r : Int × List Int) : Nat → Nat → Bool := setF bg r.1.toNat fun t => bg r.1.toNat t || lineB (hasI (topN G) e) (famI (topN G) bg) r.2 t
theorem SoundB.step {G : GramD} {e : Nat → Bool} {bg : Nat → Nat → Bool} (h : SoundB G e bg) {r : Int × List Int} (hr : r ∈ G.rules) (hl : 0 ≤ r.1 ∧ r.1 < topN G) : SoundB G (stepE G e r) (stepB G e bg r) := by
  refine ⟨fun s hs => ?_, fun s t hs => ?_⟩
  · unfold stepE at hs
    split at hs
    · rename_i hall
      rw [putSet_has] at hs
      simp only [Bool.or_eq_true, Bool.and_eq_true, decide_eq_true_eq] at hs
      rcases hs with hs | ⟨-, rfl⟩
      · exact h.e s hs
      · exact Emp.mk r hr (h.all hall)
    · exact h.e s hs
  · obtain ⟨h0, h1, h2⟩ := famI_in hs
    unfold stepB at h2
    by_cases e' : s.toNat = r.1.toNat
    · have : s = r.1 := by omega
      subst this
      rw [setF_same, Bool.or_eq_true] at h2
      rcases h2 with h2 | h2
      · exact h.b _ _ (famI_mk h0 h1 h2)
      · obtain ⟨pre, x, post, e1, e2, e3⟩ := h.line h2
        exact Beg.step r x t pre post hr e1 e2 e3
    · rw [setF_ne e'] at h2
      exact h.b _ _ (famI_mk h0 h1 h2)
theorem closed_step {G : GramD} {e : Nat → Bool} {bg : Nat → Nat → Bool} {r : Int × List Int} (hl : 0 ≤ r.1 ∧ r.1 < topN G) (h1 : stepE G e r = e) (h2 : stepB G e bg r = bg) : closedB G e bg r := by
  refine ⟨fun h => ?_, fun t ht => ?_⟩
  · unfold stepE at h1
    rw [if_pos h] at h1
    have := putSet_has (n := topN G) (f := e) (i := r.1) r.1
    rw [h1] at this
    rw [this, decide_eq_true hl.1, decide_eq_true hl.2]
    simp
  · have := congrFun (congrFun h2 r.1.toNat) t
    unfold stepB at this
    rw [setF_same, ht, Bool.or_true] at this
    exact famI_mk hl.1 hl.2 this.symm

/-! ### what stands behind -/
structure SoundH (G : GramD) (st : Int) (bh : Nat → Nat → Bool) : Prop where
  b : ∀ s t, famI (topN G) bh s t = true → BehG G st s t
def closedH (G : GramD) (bh : Nat → Nat → Bool) (r : Int × List Int) : Prop := ∀ k x, r.2[k]? = some x → isNon G x = true →
  (∀ t, BegLG G (r.2.drop (k + 1)) t → famI (topN G) bh x t = true) ∧ ((∀ y ∈ r.2.drop (k + 1), EmpG G y) → ∀ t, famI (topN G) bh r.1 t = true → famI (topN G) bh x t = true)
theorem split_at {l pre post : List Int} {x : Int} (h : l = pre ++ x :: post) : l[pre.length]? = some x ∧ l.drop (pre.length + 1) = post := by
  subst h
  refine ⟨by simp, ?_⟩
  rw [show pre ++ x :: post = (pre ++ [x]) ++ post by simp, List.drop_left' (by simp)]
theorem at_split {l : List Int} {k : Nat} {x : Int} (h : l[k]? = some x) : l = l.take k ++ x :: l.drop (k + 1) := by
  obtain ⟨hk, rfl⟩ := List.getElem?_eq_some_iff.1 h
  rw [← List.drop_eq_getElem_cons hk, List.take_append_drop]
theorem beh_closed {G : GramD} {st : Int} {bh : Nat → Nat → Bool} (h0 : famI (topN G) bh st 0 = true) (hc : ∀ r ∈ G.rules, closedH G bh r) {s : Int} {t : Nat} (h : BehG G st s t) : famI (topN G) bh s t = true := by
  induction h with
  | start => exact h0
  | next r x t pre post hr he hx hp =>
    obtain ⟨a, b⟩ := split_at he
    exact (hc r hr _ x a (isNon_iff'.2 hx)).1 t (by rw [b]; exact hp)
  | last r x t pre post hr he hx hp _ ih =>
    obtain ⟨a, b⟩ := split_at he
    exact (hc r hr _ x a (isNon_iff'.2 hx)).2 (by rw [b]; exact hp) t ih
theorem beh_set {G : GramD} {st : Int} {bh : Nat → Nat → Bool} (h0 : famI (topN G) bh st 0 = true) (hs : SoundH G st bh) (hc : ∀ r ∈ G.rules, closedH G bh r) {i : Nat} (hi : i < topN G) : bh i = behB G st i := by
  funext t
  unfold behB
  refine (toB_eq ⟨fun h => ?_, fun h => ?_⟩).symm
  · exact hs.b _ _ (by rw [famI_nat hi]; exact h)
  · have h1 := beh_closed h0 hc h
    rwa [famI_nat hi] at h1
end Go.Proofs.Ytejjaabkbkkjlaa

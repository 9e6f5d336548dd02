/- What is trimmed may be, and all of it is of use: the plain law of LiveTrims. -/
import Derived.Test.YtejjaabkbkkjlaaLivePlain2
import Derived.Test.YtejjaabkbkkjlaaOf
import Derived.Test.YtejjaabkbkkjlaaG9
namespace Go.Proofs.Ytejjaabkbkkjlaa
set_option linter.unusedVariables false

theorem placeOf_left {a b : List Int} {s : Int} (h : s ∈ a) : placeOf (a ++ b) s = placeOf a s := by
  obtain ⟨i, hi, hf, hp⟩ := placeOf_some h
  have hl := (List.getElem?_eq_some_iff.1 hi).1
  rw [hp]
  exact placeOf_first (by rw [List.getElem?_append_left hl]; exact hi) fun j hj => by rw [List.getElem?_append_left (by omega)]; exact hf j hj
theorem placeOf_right {a b : List Int} {s : Int} (h : s ∉ a) (hb : s ∈ b) : placeOf (a ++ b) s = (a.length : Int) + placeOf b s := by
  obtain ⟨i, hi, hf, hp⟩ := placeOf_some hb
  rw [hp]
  have := placeOf_first (l := a ++ b) (s := s) (i := a.length + i) (by rw [List.getElem?_append_right (by omega), Nat.add_sub_cancel_left]; exact hi) fun j hj e => by
    by_cases hja : j < a.length
    · rw [List.getElem?_append_left hja] at e
      exact h (List.mem_of_getElem? e)
    · rw [List.getElem?_append_right (by omega)] at e
      exact hf (j - a.length) (by omega) e
  rw [this]
  omega
theorem placeOf_get {l : List Int} {s : Int} (h : s ∈ l) : l[(placeOf l s - 1).toNat]? = some s := by
  obtain ⟨i, hi, _, hp⟩ := placeOf_some h
  rw [hp, show ((i : Int) + 1 - 1).toNat = i by omega]
  exact hi
theorem placeOf_inj {l : List Int} {s t : Int} (hs : s ∈ l) (ht : t ∈ l) (h : placeOf l s = placeOf l t) : s = t := by
  have h1 := placeOf_get hs
  have h2 := placeOf_get ht
  rw [h] at h1
  rw [h1] at h2
  injection h2
theorem placeOf_map_inj {l : List Int} : ∀ {a b : List Int}, (∀ x ∈ a, x ∈ l) → (∀ x ∈ b, x ∈ l) → a.map (placeOf l) = b.map (placeOf l) → a = b
  | [], [], _, _, _ => rfl
  | [], _ :: _, _, _, h => by simp at h
  | _ :: _, [], _, _, h => by simp at h
  | x :: a, y :: b, ha, hb, h => by
    rw [List.map_cons, List.map_cons] at h
    injection h with h1 h2
    rw [placeOf_inj (ha x (by simp)) (hb y (by simp)) h1, placeOf_map_inj (fun z hz => ha z (by simp [hz])) (fun z hz => hb z (by simp [hz])) h2]
theorem unlikeOf_nodup {rs : List (Int × List Int)} : unlikeOf rs = true ↔ rs.Nodup := by
  unfold unlikeOf unlikeUpto
  rw [List.all_eq_true, List.Nodup, List.pairwise_iff_getElem]
  constructor
  · intro h i j hi hj hij e
    have := h j (List.mem_range.2 hj)
    simp only [Bool.not_eq_true', List.any_eq_false, decide_eq_true_eq] at this
    refine this rs[i] ?_ (by rw [List.getElem?_eq_getElem hj, e])
    exact List.mem_of_getElem? (i := i) (by rw [List.getElem?_take_of_lt hij]; exact List.getElem?_eq_getElem hi)
  · intro h j hj
    have hj := List.mem_range.1 hj
    simp only [Bool.not_eq_true', List.any_eq_false, decide_eq_true_eq]
    intro r hr e
    obtain ⟨i, hi, he⟩ := List.getElem_of_mem hr
    rw [List.length_take] at hi
    rw [List.getElem_take] at he
    rw [List.getElem?_eq_getElem hj] at e
    injection e with e
    exact h i j (by omega) hj (by omega) (by rw [he, e])

/-- a grammar, all of whose nonterminals have rules of their own kind; what is reached of it -/
structure TrimOk (G : GramD) (st : Int) : Prop where
  kn : Kn G st
  short : shortOf G = true
  form : formOf G = true
  names : (namesOf G).Nodup
  unlike : G.rules.Nodup
  /-- what is reached is productive -/
  prd : ∀ s, isNon G s = true → Rch G.rules st s → PrdG G s
section
variable {G : GramD} {st : Int}
theorem rchL_mem (h : Kn G st) {s : Int} : s ∈ rchL G st ↔ Rch G.rules st s := by
  unfold rchL
  rw [mem_below]
  unfold hasI
  simp only [Bool.and_eq_true, decide_eq_true_eq]
  constructor
  · rintro ⟨⟨h0, h1⟩, h2⟩
    have h4 := toB_iff.1 h2
    rwa [show ((s.toNat : Nat) : Int) = s by omega] at h4
  · intro hs
    have := h.rch hs
    exact ⟨⟨by omega, by omega⟩, toB_iff.2 (by rw [show ((s.toNat : Nat) : Int) = s by omega]; exact hs)⟩
theorem rchL_sub (h : Kn G st) : (rchL G st).Sublist (allS (G.terms.length + G.nons.length)) := by
  have : rchL G st = sortOf (G.terms.length + G.nons.length) (rchL G st) := by
    refine (rchL_of h (fun s hs => (rchL_mem h).1 hs) ((rchL_mem h).2 Rch.start) fun r hr h1 x hx => (rchL_mem h).2 (Rch.step r x hr ((rchL_mem h).1 h1) hx)).symm
  rw [this]
  exact List.filter_sublist
theorem rchL_nodup (G : GramD) (st : Int) : (rchL G st).Nodup := below_nodup _ _
theorem rchL_parts (h : Kn G st) : rchL G st = (rchL G st).filter (fun s => isTerm G s) ++ (rchL G st).filter (fun s => !isTerm G s) := by
  have e : rchL G st = (allS (G.terms.length + G.nons.length)).filter (fun s => decide (s ∈ rchL G st)) :=
    (rchL_of h (fun s hs => (rchL_mem h).1 hs) ((rchL_mem h).2 Rch.start) fun r hr h1 x hx => (rchL_mem h).2 (Rch.step r x hr ((rchL_mem h).1 h1) hx)).symm
  generalize rchL G st = l at *
  rw [allS_split, List.filter_append] at e
  have h1 : ∀ s ∈ (allS G.terms.length).filter (fun s => decide (s ∈ l)), isTerm G s = true := fun s hs => isTerm_iff.2 (allS_mem.1 (List.mem_filter.1 hs).1)
  have h2 : ∀ s ∈ ((List.range G.nons.length).map (fun i : Nat => ((G.terms.length + i : Nat) : Int) + 1)).filter (fun s => decide (s ∈ l)), isTerm G s = false := fun s hs => by
    obtain ⟨i, _, rfl⟩ := List.mem_map.1 (List.mem_filter.1 hs).1
    have : ¬ (isTerm G (((G.terms.length + i : Nat) : Int) + 1) = true) := by rw [isTerm_iff]; omega
    simpa using this
  generalize (allS G.terms.length).filter (fun s => decide (s ∈ l)) = a at *
  generalize ((List.range G.nons.length).map (fun i : Nat => ((G.terms.length + i : Nat) : Int) + 1)).filter (fun s => decide (s ∈ l)) = b at *
  subst e
  rw [List.filter_append, List.filter_append, List.filter_eq_self.2 h1, List.filter_eq_nil_iff.2 (fun s hs => by rw [h2 s hs]; simp), List.filter_eq_nil_iff.2 (fun s hs => by rw [h1 s hs]; simp), List.filter_eq_self.2 (fun s hs => by rw [h2 s hs]; rfl)]
  simp
theorem only_term (h : Kn G st) {s : Int} (hs : s ∈ rchL G st) : (isTerm G s = true → 1 ≤ placeOf (rchL G st) s ∧ placeOf (rchL G st) s ≤ ((onlyG G st (rchL G st)).terms.length : Int)) ∧
    (isTerm G s = false → ((onlyG G st (rchL G st)).terms.length : Int) < placeOf (rchL G st) s ∧ placeOf (rchL G st) s ≤ ((onlyG G st (rchL G st)).terms.length : Int) + (onlyG G st (rchL G st)).nons.length) := by
  have hp := rchL_parts h
  have e1 : (onlyG G st (rchL G st)).terms.length = ((rchL G st).filter (fun s => isTerm G s)).length := by unfold onlyG; rw [List.length_map]
  have e2 : (onlyG G st (rchL G st)).nons.length = ((rchL G st).filter (fun s => !isTerm G s)).length := by unfold onlyG; rw [List.length_map]
  rw [e1, e2]
  constructor
  · intro ht
    have hm : s ∈ (rchL G st).filter (fun s => isTerm G s) := List.mem_filter.2 ⟨hs, ht⟩
    have e : placeOf (rchL G st) s = placeOf ((rchL G st).filter (fun s => isTerm G s)) s := by
      conv => lhs; rw [hp]
      exact placeOf_left hm
    rw [e]
    exact ⟨placeOf_pos.2 hm, (placeOf_range _ _).2⟩
  · intro ht
    have hm : s ∈ (rchL G st).filter (fun s => !isTerm G s) := List.mem_filter.2 ⟨hs, by rw [ht]; rfl⟩
    have hn : s ∉ (rchL G st).filter (fun s => isTerm G s) := fun hh => by rw [(List.mem_filter.1 hh).2] at ht; cases ht
    have e : placeOf (rchL G st) s = (((rchL G st).filter (fun s => isTerm G s)).length : Int) + placeOf ((rchL G st).filter (fun s => !isTerm G s)) s := by
      conv => lhs; rw [hp]
      exact placeOf_right hn hm
    have h1 := placeOf_pos.2 hm
    have h2 := (placeOf_range ((rchL G st).filter (fun s => !isTerm G s)) s).2
    omega
theorem only_len (h : Kn G st) : (onlyG G st (rchL G st)).terms.length + (onlyG G st (rchL G st)).nons.length = (rchL G st).length := by
  have hp := congrArg List.length (rchL_parts h)
  rw [List.length_append] at hp
  unfold onlyG
  rw [List.length_map, List.length_map]
  exact hp.symm
theorem only_non (h : Kn G st) {s : Int} (hs : s ∈ rchL G st) : isNon (onlyG G st (rchL G st)) (placeOf (rchL G st) s) = isNon G s := by
  have hr := h.rch ((rchL_mem h).1 hs)
  obtain ⟨h1, h2⟩ := only_term h hs
  rw [Bool.eq_iff_iff, isNon_iff, isNon_iff]
  cases ht : isTerm G s with
  | true =>
    have := h1 ht
    rw [isTerm_iff] at ht
    omega
  | false =>
    have := h2 ht
    have ht' : ¬ (isTerm G s = true) := by rw [ht]; simp
    rw [isTerm_iff] at ht'
    omega
theorem only_rule (h : Kn G st) {r : Int × List Int} : r ∈ (onlyG G st (rchL G st)).rules ↔ ∃ r0 ∈ G.rules, r0.1 ∈ rchL G st ∧ (∀ x ∈ r0.2, x ∈ rchL G st) ∧ r = (placeOf (rchL G st) r0.1, r0.2.map (placeOf (rchL G st))) := by
  unfold onlyG
  rw [List.mem_map]
  constructor
  · rintro ⟨r0, hr0, rfl⟩
    rw [List.mem_filter, decide_eq_true_eq] at hr0
    exact ⟨r0, hr0.1, hr0.2, fun x hx => (rchL_mem h).2 (Rch.step r0 x hr0.1 ((rchL_mem h).1 hr0.2) hx), rfl⟩
  · rintro ⟨r0, h1, h2, -, rfl⟩
    exact ⟨r0, List.mem_filter.2 ⟨h1, decide_eq_true h2⟩, rfl⟩
theorem only_kn (h : Kn G st) : Kn (onlyG G st (rchL G st)) (placeOf (rchL G st) st) := by
  have hs := rchL_sub h
  have l1 : (onlyG G st (rchL G st)).terms.Sublist G.terms := by
    have := (hs.filter (fun s => isTerm G s)).map (nameOf G)
    rw [all_terms] at this
    exact this
  have l2 : (onlyG G st (rchL G st)).nons.Sublist G.nons := by
    have := (hs.filter (fun s => !isTerm G s)).map (nameOf G)
    rw [all_nons] at this
    exact this
  have hst : st ∈ rchL G st := (rchL_mem h).2 Rch.start
  refine ⟨Nat.le_trans l1.length_le h.t, Nat.le_trans l2.length_le h.n, ?_, by rw [only_non h hst]; exact h.st, fun r hr => ?_⟩
  · unfold onlyG
    rw [List.length_map]
    exact Nat.le_trans (List.length_filter_le _ _) h.r
  · obtain ⟨r0, h1, h2, h3, rfl⟩ := (only_rule h).1 hr
    refine ⟨by rw [only_non h h2]; exact (h.k r0 h1).1, fun y hy => ?_⟩
    obtain ⟨x, hx, rfl⟩ := List.mem_map.1 hy
    have hl := only_len h
    have := placeOf_pos.2 (h3 x hx)
    have := (placeOf_range (rchL G st) x).2
    omega
theorem only_rch (h : Kn G st) {s : Int} (hs : Rch G.rules st s) : Rch (onlyG G st (rchL G st)).rules (placeOf (rchL G st) st) (placeOf (rchL G st) s) := by
  induction hs with
  | start => exact Rch.start
  | step r x hr h1 hx ih =>
    have hl := (rchL_mem h).2 h1
    exact Rch.step (placeOf (rchL G st) r.1, r.2.map (placeOf (rchL G st))) _ ((only_rule h).2 ⟨r, hr, hl, fun y hy => (rchL_mem h).2 (Rch.step r y hr h1 hy), rfl⟩) ih (List.mem_map.2 ⟨x, hx, rfl⟩)
theorem only_prd (h : Kn G st) {s : Int} (hs : PrdG G s) : s ∈ rchL G st → PrdG (onlyG G st (rchL G st)) (placeOf (rchL G st) s) := by
  induction hs with
  | mk r hr hx ih =>
    intro hl
    have hall : ∀ y ∈ r.2, y ∈ rchL G st := fun y hy => (rchL_mem h).2 (Rch.step r y hr ((rchL_mem h).1 hl) hy)
    refine Prd.mk (placeOf (rchL G st) r.1, r.2.map (placeOf (rchL G st))) ((only_rule h).2 ⟨r, hr, hl, hall, rfl⟩) fun y hy hn => ?_
    obtain ⟨x, hx', rfl⟩ := List.mem_map.1 hy
    have hn2 := isNon_iff'.2 hn
    rw [only_non h (hall x hx')] at hn2
    exact ih x hx' (isNon_iff'.1 hn2) (hall x hx')
theorem only_live (h : TrimOk G st) : Live (onlyG G st (rchL G st)) (placeOf (rchL G st) st) := by
  have hl := only_len h.kn
  have key : ∀ k : Int, 1 ≤ k → k ≤ ((onlyG G st (rchL G st)).terms.length : Int) + (onlyG G st (rchL G st)).nons.length → ∃ s ∈ rchL G st, placeOf (rchL G st) s = k := fun k h1 h2 => by
    obtain ⟨i, rfl⟩ : ∃ i : Nat, k = (i : Int) + 1 := ⟨(k - 1).toNat, by omega⟩
    have hi : i < (rchL G st).length := by omega
    exact ⟨_, List.getElem_mem hi, placeOf_nodup (rchL_nodup G st) (List.getElem?_eq_getElem hi)⟩
  refine ⟨fun k h1 h2 => ?_, fun k hk => ?_⟩
  · obtain ⟨s, hs, rfl⟩ := key k h1 h2
    exact only_rch h.kn ((rchL_mem h.kn).1 hs)
  · have hk' := hk
    rw [isNon_iff] at hk'
    obtain ⟨s, hs, rfl⟩ := key k (by omega) (by omega)
    rw [only_non h.kn hs] at hk
    exact only_prd h.kn (h.prd s hk ((rchL_mem h.kn).1 hs)) hs
theorem only_check (h : TrimOk G st) : checkOf (onlyG G st (rchL G st)) (placeOf (rchL G st) st) = 0 := by
  have hk := only_kn h.kn
  have hs := rchL_sub h.kn
  have l1 : (onlyG G st (rchL G st)).terms.Sublist G.terms := by
    have := (hs.filter (fun s => isTerm G s)).map (nameOf G)
    rw [all_terms] at this
    exact this
  have l2 : (onlyG G st (rchL G st)).nons.Sublist G.nons := by
    have := (hs.filter (fun s => !isTerm G s)).map (nameOf G)
    rw [all_nons] at this
    exact this
  have c1 : manyOf (onlyG G st (rchL G st)) = false := by
    unfold manyOf
    have hsh : shortOf (onlyG G st (rchL G st)) = true := by
      have h0 := h.short
      unfold shortOf at h0 ⊢
      rw [List.all_eq_true] at h0 ⊢
      intro r hr
      obtain ⟨r0, h1, -, -, rfl⟩ := (only_rule h.kn).1 hr
      have := h0 r0 h1
      simpa using this
    have := hk.t
    have := hk.n
    have := hk.r
    rw [hsh, decide_eq_false (by omega), decide_eq_false (by omega), decide_eq_false (by omega)]
    rfl
  have c2 : formOf (onlyG G st (rchL G st)) = true := by
    have h0 := h.form
    unfold formOf at h0 ⊢
    rw [Bool.and_eq_true, List.all_eq_true, List.all_eq_true] at h0 ⊢
    exact ⟨fun s hs => h0.1 s (l1.subset hs), fun s hs => h0.2 s (l2.subset hs)⟩
  have c3 : (namesOf (onlyG G st (rchL G st))).Nodup := List.Nodup.sublist (l1.append l2) h.names
  have c4 : allKnown (onlyG G st (rchL G st)) (placeOf (rchL G st) st) = true := by
    unfold allKnown
    rw [Bool.and_eq_true, List.all_eq_true]
    refine ⟨hk.st, fun r hr => ?_⟩
    obtain ⟨k1, k2⟩ := hk.k r hr
    unfold knownOf
    rw [Bool.and_eq_true, List.all_eq_true]
    refine ⟨k1, fun x hx => ?_⟩
    have := k2 x hx
    rw [Bool.or_eq_true, isTerm_iff, isNon_iff]
    omega
  have c5 : unlikeOf (onlyG G st (rchL G st)).rules = true := by
    rw [unlikeOf_nodup]
    show ((G.rules.filter (fun r => decide (r.1 ∈ rchL G st))).map (fun r => (placeOf (rchL G st) r.1, r.2.map (placeOf (rchL G st))))).Nodup
    rw [List.Nodup, List.pairwise_map]
    refine List.Pairwise.imp_of_mem ?_ (List.Nodup.sublist List.filter_sublist h.unlike)
    intro a b ha hb hne e
    rw [List.mem_filter, decide_eq_true_eq] at ha hb
    injection e with e1 e2
    refine hne (Prod.ext (placeOf_inj ha.2 hb.2 e1) (placeOf_map_inj (fun x hx => (rchL_mem h.kn).2 (Rch.step a x ha.1 ((rchL_mem h.kn).1 ha.2) hx)) (fun x hx => (rchL_mem h.kn).2 (Rch.step b x hb.1 ((rchL_mem h.kn).1 hb.2) hx)) e2))
  have c6 : haveUpto (onlyG G st (rchL G st)) (onlyG G st (rchL G st)).nons.length = true := by
    unfold haveUpto
    rw [List.all_eq_true]
    intro i hi
    have hi := List.mem_range.1 hi
    rw [decide_eq_true_eq]
    have hp := (only_live h).p (((onlyG G st (rchL G st)).terms.length : Int) + 1 + i) (isNon_iff.2 (by omega))
    generalize hs : ((onlyG G st (rchL G st)).terms.length : Int) + 1 + i = s at *
    cases hp with
    | mk r hr _ =>
      obtain ⟨n, hn, e⟩ := List.getElem_of_mem hr
      have : (n : Int) ∈ ofOf (onlyG G st (rchL G st)) r.1 := of_mem.2 ⟨n, r.2, rfl, by rw [List.getElem?_eq_getElem hn, e]⟩
      intro e0
      rw [List.length_eq_zero_iff.1 e0] at this
      cases this
  unfold checkOf
  rw [if_neg (by rw [c1]; simp), if_neg (by rw [c2]; simp), if_neg (by simpa using c3), if_neg (by rw [c4]; simp), if_neg (by rw [c5]; simp), if_neg (by rw [c6]; simp)]
end
/-- what is fine of a grammar that may be -/
theorem fine_ok {G : GramD} {st : Int} (hz : checkOf G st = 0) (hp : PrdG G st) : TrimOk (fineG G st) st := by
  have hk := Kn.of_check hz
  obtain ⟨hm, hf, hn, -, hu, -⟩ := checkOf_zero hz
  obtain ⟨-, -, -, hs⟩ := manyOf_no hm
  have sub : (fineG G st).rules.Sublist G.rules := List.filter_sublist
  have fr : ∀ r ∈ (fineG G st).rules, r ∈ G.rules ∧ ∀ x ∈ r.2, isNon G x = true → PrdG G x := fun r hr => by
    obtain ⟨h1, h2⟩ := List.mem_filter.1 hr
    refine ⟨h1, fun x hx hnx => ?_⟩
    have := fineB_iff.1 h2 x hx hnx
    unfold hasI at this
    simp only [Bool.and_eq_true, decide_eq_true_eq] at this
    have h4 := toB_iff.1 this.2
    rwa [show ((x.toNat : Nat) : Int) = x by omega] at h4
  -- a productive symbol is productive by fine rules
  have pf : ∀ s, PrdG G s → PrdG (fineG G st) s := fun s h => by
    induction h with
    | mk r hr hx ih => exact Prd.mk r (List.mem_filter.2 ⟨hr, fineB_iff.2 fun x hx' hnx => hasI_prd hk (hx x hx' (isNon_iff'.1 hnx))⟩) fun x hx' hnx => ih x hx' hnx
  refine ⟨hk.fine, ?_, hf, hn, List.Nodup.sublist sub (unlikeOf_nodup.1 hu), fun s hns hr => ?_⟩
  · unfold shortOf at hs ⊢
    rw [List.all_eq_true] at hs ⊢
    exact fun r hr => hs r (fr r hr).1
  · cases hr with
    | start => exact pf _ hp
    | step r _ h1 h2 h3 => exact pf _ ((fr r h1).2 s h3 hns)
/-- ALL OF USE -/
theorem trim_trims {G : GramD} {st : Int} (hok : (trimOf G st).2 = true) : checkOf (trimOf G st).1 (trimOf G st).1.start = 0 ∧ Live (trimOf G st).1 (trimOf G st).1.start := by
  by_cases hz : checkOf G st = 0
  · by_cases hp : hasI (G.terms.length + G.nons.length + 1) (prdB G) st = true
    · have e : trimOf G st = (onlyG (fineG G st) st (rchL (fineG G st) st), true) := by unfold trimOf; rw [if_pos hz, if_pos hp]
      rw [e]
      have hp' : PrdG G st := by
        unfold hasI at hp
        simp only [Bool.and_eq_true, decide_eq_true_eq] at hp
        have h4 := toB_iff.1 hp.2
        rwa [show ((st.toNat : Nat) : Int) = st by omega] at h4
      have ok := fine_ok hz hp'
      exact ⟨only_check ok, only_live ok⟩
    · have e : trimOf G st = (noGram, false) := by unfold trimOf; rw [if_pos hz, if_neg hp]
      rw [e] at hok; cases hok
  · have e : trimOf G st = (noGram, false) := by unfold trimOf; rw [if_neg hz]
    rw [e] at hok; cases hok
theorem trim_no {G : GramD} {st : Int} (hok : (trimOf G st).2 = false) : (trimOf G st).1 = noGram := by
  unfold trimOf at hok ⊢
  split
  · rename_i hz
    rw [if_pos hz] at hok
    split
    · rename_i hp
      rw [if_pos hp] at hok; cases hok
    · rfl
  · rfl
end Go.Proofs.Ytejjaabkbkkjlaa

/- The law FirstWords, plain: what least words say of what is empty, and of what begins. -/
import Derived.Test.YtejjaabkbkkjlaaLeastPlain2
import Derived.Test.YtejjaabkbkkjlaaFirstRules1
namespace Go.Proofs.Ytejjaabkbkkjlaa
set_option linter.unusedVariables false

/-- what the words of the symbols say, while they are made -/
def WSay (G : GramD) (S : List FoundD) : Prop := ∀ s : Int, 1 ≤ s → (lookW S s).is = true → (lookW S s).long = false → ((lookW S s).l = [] → EmpG G s) ∧ (∀ d r, (lookW S s).l = d :: r → BegG G s d.toNat)
theorem jTo_stay {S : List FoundD} : ∀ (l : List Int) (p : Bool × List Int), p.1 = true → (l.foldl (jStep S) p).1 = true
  | [], _, h => h
  | s :: r, p, h => by rw [List.foldl_cons]; exact jTo_stay r _ (by unfold jStep; simp [h])
/-- a join that is not too long is the words in a row -/
theorem join_row {S : List FoundD} : ∀ (l : List Int) (p : Bool × List Int), (l.foldl (jStep S) p).1 = false → (∀ s ∈ l, (lookW S s).long = false) ∧ (l.foldl (jStep S) p).2 = p.2 ++ l.flatMap (fun s => (lookW S s).l)
  | [], p, _ => ⟨fun _ h => (by cases h), by simp⟩
  | s :: r, p, h => by
    rw [List.foldl_cons] at h ⊢
    have hn : (jStep S p s).1 = false := by
      cases e : (jStep S p s).1 with
      | true => rw [jTo_stay r _ e] at h; cases h
      | false => rfl
    obtain ⟨h1, h2⟩ := join_row r _ h
    have hc := hn
    unfold jStep at hc
    simp only [Bool.or_eq_false_iff] at hc
    have e2 : (jStep S p s).2 = p.2 ++ (lookW S s).l := by
      unfold jStep
      simp only
      rw [if_neg (by simp [hc.1, hc.2.1, hc.2.2])]
    refine ⟨fun x hx => (List.mem_cons.1 hx).elim (fun e => e ▸ hc.2.1) (h1 x), ?_⟩
    rw [h2, e2, List.flatMap_cons, List.append_assoc]
theorem flat_head {f : Int → List Int} : ∀ {l : List Int} {d : Int} {r : List Int}, l.flatMap f = d :: r → ∃ pre x post t, l = pre ++ x :: post ∧ (∀ y ∈ pre, f y = []) ∧ f x = d :: t
  | [], d, r, h => by simp at h
  | x :: l, d, r, h => by
    rw [List.flatMap_cons] at h
    cases e : f x with
    | nil =>
      rw [e, List.nil_append] at h
      obtain ⟨pre, y, post, t, e1, e2, e3⟩ := flat_head h
      exact ⟨x :: pre, y, post, t, by rw [e1]; rfl, fun z hz => (List.mem_cons.1 hz).elim (fun q => q ▸ e) (e2 z), e3⟩
    | cons a t =>
      rw [e] at h
      injection h with h1 h2
      subst h1
      exact ⟨[], x, l, t, rfl, fun _ h => (by cases h), e⟩
theorem say_join {G : GramD} {S : List FoundD} (h : WSay G S) {r : Int × List Int} (hr : r ∈ G.rules) (h1 : ∀ x ∈ r.2, 1 ≤ x) (hi : (joinOf S r.2).is = true) (hl : (joinOf S r.2).long = false) :
    ((joinOf S r.2).l = [] → EmpG G r.1) ∧ (∀ d t, (joinOf S r.2).l = d :: t → BegG G r.1 d.toNat) := by
  unfold joinOf at hi hl ⊢
  split at hi
  case isFalse => cases hi
  case isTrue hall =>
    rw [if_pos hall] at hl ⊢
    simp only at hl ⊢
    rw [List.all_eq_true] at hall
    obtain ⟨k1, k2⟩ := join_row r.2 (false, []) hl
    have k2' : (jTo S r.2).2 = r.2.flatMap (fun s => (lookW S s).l) := by rw [show (jTo S r.2).2 = _ from k2]; rfl
    rw [hl, if_neg (by simp), k2']
    refine ⟨fun e => ?_, fun d t e => ?_⟩
    · rw [List.flatMap_eq_nil_iff] at e
      exact Emp.mk r hr fun x hx => (h x (h1 x hx) (hall x hx) (k1 x hx)).1 (e x hx)
    · obtain ⟨pre, x, post, t', e1, e2, e3⟩ := flat_head e
      have hx : x ∈ r.2 := by rw [e1]; simp
      have hp : ∀ y ∈ pre, y ∈ r.2 := fun y hy => by rw [e1]; simp [hy]
      exact Beg.step r x d.toNat pre post hr e1 (fun y hy => (h y (h1 y (hp y hy)) (hall y (hp y hy)) (k1 y (hp y hy))).1 (e2 y hy)) ((h x (h1 x hx) (hall x hx) (k1 x hx)).2 d t' e3)
theorem say_step {G : GramD} {S : List FoundD} (h : WSay G S) {r : Int × List Int} (hr : r ∈ G.rules) (h1 : ∀ x ∈ r.2, 1 ≤ x) (h0 : 0 ≤ r.1) (hs : r.1 < S.length) : WSay G (stepR S r).1 := by
  unfold stepR
  split
  · intro s hs1 hi hl
    simp only at hi hl ⊢
    have hlk : lookW (S.set r.1.toNat (joinOf S r.2)) s = if s = r.1 then joinOf S r.2 else lookW S s := by
      rw [lookW_set (by omega)]
      rw [Int.toNat_of_nonneg h0]
    rw [hlk] at hi hl ⊢
    by_cases e : s = r.1
    · rw [if_pos e] at hi hl ⊢
      rw [e]
      exact say_join h hr h1 hi hl
    · rw [if_neg e] at hi hl ⊢
      exact h s hs1 hi hl
  · exact h
theorem say_pass {G : GramD} : ∀ (l : List (Int × List Int)) (S : List FoundD) (b : Bool), (∀ r ∈ l, r ∈ G.rules) → (∀ r ∈ l, (∀ x ∈ r.2, 1 ≤ x) ∧ 0 ≤ r.1 ∧ r.1 < S.length) → WSay G S →
    WSay G (l.foldl (fun (p : List FoundD × Bool) r => ((stepR p.1 r).1, p.2 || (stepR p.1 r).2)) (S, b)).1 ∧ (l.foldl (fun (p : List FoundD × Bool) r => ((stepR p.1 r).1, p.2 || (stepR p.1 r).2)) (S, b)).1.length = S.length
  | [], S, b, _, _, h => ⟨h, rfl⟩
  | r :: l, S, b, hl, hr, h => by
    rw [List.foldl_cons]
    have hrr := hr r (by simp)
    have e : (stepR S r).1.length = S.length := by unfold stepR; split <;> simp
    obtain ⟨k1, k2⟩ := say_pass l (stepR S r).1 (b || (stepR S r).2) (fun q hq => hl q (by simp [hq])) (fun q hq => by rw [e]; exact hr q (by simp [hq])) (say_step h (hl r (by simp)) hrr.1 hrr.2.1 hrr.2.2)
    exact ⟨k1, k2.trans e⟩
theorem lookW_start {T N : Nat} {s : Int} (h : (lookW (startW T N) s).is = true) (h1 : 1 ≤ s) : s ≤ T ∧ lookW (startW T N) s = ⟨true, false, [s]⟩ := by
  unfold lookW at h ⊢
  rw [if_pos (by omega)] at h ⊢
  obtain ⟨k, hk⟩ : ∃ k, s.toNat = k + 1 := ⟨s.toNat - 1, by omega⟩
  unfold startW at h ⊢
  rw [hk, List.getElem?_cons_succ] at h ⊢
  rcases Nat.lt_or_ge k T with hT | hT
  · rw [List.getElem?_append_left (by simpa using hT), List.getElem?_map, List.getElem?_range hT]
    refine ⟨by omega, ?_⟩
    show (⟨true, false, [(k : Int) + 1]⟩ : FoundD) = _
    have : (k : Int) + 1 = s := by omega
    rw [this]
  · exfalso
    rw [List.getElem?_append_right (by simpa using hT), List.getElem?_replicate] at h
    split at h <;> cases h
theorem say_start {G : GramD} : WSay G (startW G.terms.length G.nons.length) := by
  intro s h1 hi hl
  obtain ⟨hT, e⟩ := lookW_start hi h1
  rw [e]
  refine ⟨fun h => (by cases h), fun d r h => ?_⟩
  injection h with h _
  subst h
  have := Beg.self (T := G.terms.length) (rs := G.rules) s.toNat (by omega)
  rwa [Int.toNat_of_nonneg (by omega)] at this
theorem say_fixed {G : GramD} {st : Int} (hk : Kn G st) {S : List FoundD} (h : Fixed G.rules (startW G.terms.length G.nons.length) S) : WSay G S := by
  obtain ⟨⟨j, hj⟩, -⟩ := h
  have key : ∀ j, WSay G (iter (fun S => (passTo G.rules S).1) j (startW G.terms.length G.nons.length)) ∧ (iter (fun S => (passTo G.rules S).1) j (startW G.terms.length G.nons.length)).length = topN G := by
    intro j
    induction j with
    | zero => exact ⟨say_start, (startW_good _ _).2⟩
    | succ j ih =>
      obtain ⟨k1, k2⟩ := say_pass G.rules _ false (fun r hr => hr) (fun r hr => ⟨fun x hx => by have := (hk.k r hr).2 x hx; omega, by rw [ih.2]; exact hk.left hr⟩) ih.1
      exact ⟨k1, k2.trans ih.2⟩
  rw [hj]
  exact (key j).1
/-- what can be empty has the empty word -/
theorem emp_word {G : GramD} {st : Int} (hk : Kn G st) {S : List FoundD} (hg : GoodS G.terms.length S) (h : Fixed G.rules (startW G.terms.length G.nons.length) S) {s : Int} (he : EmpG G s) : lookW S s = ⟨true, false, []⟩ := by
  have hno := (pass_false h.2).2
  induction he with
  | mk r hr hx ih =>
    have hj : joinOf S r.2 = ⟨true, false, []⟩ := by
      have hall : r.2.all (fun s => (lookW S s).is) = true := List.all_eq_true.2 fun x hx => by rw [ih x hx]
      have key : ∀ l : List Int, (∀ x ∈ l, lookW S x = ⟨true, false, []⟩) → l.foldl (jStep S) (false, []) = (false, []) := by
        intro l
        induction l with
        | nil => intro _; rfl
        | cons a l ih2 =>
          intro hl
          rw [List.foldl_cons]
          have : jStep S (false, []) a = (false, []) := by unfold jStep; rw [hl a (by simp)]; rfl
          rw [this]
          exact ih2 fun x hx => hl x (by simp [hx])
      have hj2 : jTo S r.2 = (false, []) := key r.2 ih
      unfold joinOf
      rw [if_pos hall, hj2]; rfl
    have hb := hno r hr
    rw [hj] at hb
    have hgood := hg.look r.1
    generalize lookW S r.1 = y at hb hgood
    obtain ⟨yi, yl, ys⟩ := y
    unfold betterB at hb
    cases yi with
    | false => simp at hb
    | true =>
      cases yl with
      | true => simp at hb
      | false =>
        simp only [Bool.true_and, Bool.not_true, Bool.false_or, Bool.or_self, Bool.false_eq_true, if_false] at hb
        cases ys with
        | nil => rfl
        | cons a t => simp [lessB] at hb
theorem join_one11 {T : Nat} {S : List FoundD} (hg : GoodS T S) (s : Int) : joinOf S [s] = lookW S s := by
  have h := hg.look s
  have h1 := h.no
  have h2 := h.long
  have h3 := h.len
  unfold joinOf jTo jStep
  simp only [List.all_cons, List.all_nil, Bool.and_true, List.foldl_cons, List.foldl_nil, Bool.false_or, List.nil_append, List.length_nil, Nat.zero_add]
  generalize lookW S s = y at h1 h2 h3
  obtain ⟨yi, yl, ys⟩ := y
  simp only at h1 h2 h3 ⊢
  cases yi with
  | false => obtain ⟨rfl, rfl⟩ := h1 rfl; rfl
  | true =>
    have : ¬ 4096 < ys.length := by omega
    cases yl with
    | true => rw [h2 rfl]; rfl
    | false => simp [this]
section
variable {G : GramD} {st : Int} (hk : Kn G st) {S : List FoundD} (hg : GoodS G.terms.length S) (h : Fixed G.rules (startW G.terms.length G.nons.length) S)
include hk hg h
theorem words_empty {s : Int} (h1 : 1 ≤ s) : hasI (topN G) (empB G) s = ((lookW S s).is && !(lookW S s).long && decide ((lookW S s).l.length = 0)) := by
  rw [Bool.eq_iff_iff, has_emp hk]
  simp only [Bool.and_eq_true, Bool.not_eq_true', decide_eq_true_eq, List.length_eq_zero_iff]
  constructor
  · intro he; rw [emp_word hk hg h he]; exact ⟨⟨rfl, rfl⟩, rfl⟩
  · rintro ⟨⟨h2, h3⟩, h4⟩
    exact (say_fixed hk h s h1 h2 h3).1 h4
theorem words_first {s d : Int} {r : List Int} (h1 : 1 ≤ s) (ht : s < topN G) (h2 : (lookW S s).is = true) (h3 : (lookW S s).long = false) (h4 : (lookW S s).l = d :: r) : within11 [d] (firstG G s) = true := by
  rw [within11_iff]
  intro y hy
  obtain rfl : y = d := by simpa using hy
  have hd := (hg.look s).digit y (by rw [h4]; simp)
  have hb := (say_fixed hk h s h1 h2 h3).2 y r h4
  unfold firstG
  rw [mem_famL, hasI_iff]
  exact ⟨⟨by omega, ht⟩, ⟨by omega, by omega⟩, (famI_in ((fam_beg hk).2 hb)).2.2⟩
end
end Go.Proofs.Ytejjaabkbkkjlaa

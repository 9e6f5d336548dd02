/- Least words: the fixpoint, one word of a rule each. Of no program. -/
import Derived.Test.YtejjaabkbkkjlaaLeastPlain
namespace Go.Proofs.Ytejjaabkbkkjlaa
set_option linter.unusedVariables false

theorem num_append (B : Nat) : ∀ (a b : List Int), num B (a ++ b) = num B a * B ^ b.length + num B b := by
  intro a b
  unfold num
  rw [List.foldl_append, num_from]
  rfl
theorem num_len {B T : Nat} (hB : B = T + 1) {a b : List Int} (ha : ∀ d ∈ a, 1 ≤ d ∧ d ≤ (T : Int)) (hb : ∀ d ∈ b, 1 ≤ d ∧ d ≤ (T : Int)) (h : num B a ≤ num B b) : a.length ≤ b.length := by
  rcases Nat.lt_or_ge b.length a.length with hl | hl
  · exfalso
    match a, ha, h, hl with
    | [], _, _, hl => simp at hl
    | x :: r, ha, h, hl =>
      have h1 := num_lt hB hb
      have h2 := num_ge hB ha
      have h3 : B ^ b.length ≤ B ^ r.length := Nat.pow_le_pow_right (by omega) (by simp at hl; omega)
      omega
  · exact hl
theorem lexB_total : ∀ {a b : List Int}, a.length = b.length → lexB a b = false → lexB b a = false → a = b
  | [], [], _, _, _ => rfl
  | [], _ :: _, h, _, _ => by simp at h
  | _ :: _, [], h, _, _ => by simp at h
  | x :: r, y :: t, hl, h1, h2 => by
    unfold lexB at h1 h2
    by_cases e : x = y
    · subst e
      rw [if_pos rfl] at h1 h2
      rw [lexB_total (by simpa using hl) h1 h2]
    · rw [if_neg e, decide_eq_false_iff_not] at h1
      rw [if_neg (fun e' => e e'.symm), decide_eq_false_iff_not] at h2
      omega
theorem lessB_total {a b : List Int} (h1 : lessB a b = false) (h2 : lessB b a = false) : a = b := by
  unfold lessB at h1 h2
  by_cases e : a.length = b.length
  · rw [if_pos e] at h1
    rw [if_pos e.symm] at h2
    exact lexB_total e h1 h2
  · rw [if_neg e, decide_eq_false_iff_not] at h1
    rw [if_neg (fun e' => e e'.symm), decide_eq_false_iff_not] at h2
    omega
theorem better_total {T : Nat} {x y : FoundD} (hx : GoodW T x) (hy : GoodW T y) (h1 : betterB x y = false) (h2 : betterB y x = false) : x = y := by
  obtain ⟨xi, xl, xs⟩ := x
  obtain ⟨yi, yl, ys⟩ := y
  unfold betterB at h1 h2
  have n1 := hx.no
  have n2 := hy.no
  have l1 := hx.long
  have l2 := hy.long
  simp only at h1 h2 n1 n2 l1 l2
  cases xi <;> cases yi
  · obtain ⟨rfl, rfl⟩ := n1 rfl
    obtain ⟨rfl, rfl⟩ := n2 rfl
    rfl
  · simp at h2
  · simp at h1
  · cases xl <;> cases yl
    · simp at h1 h2
      rw [lessB_total h1 h2]
    · simp at h1
    · simp at h2
    · rw [l1 rfl, l2 rfl]
theorem rank_le {B T : Nat} (hB : B = T + 1) {x y : FoundD} (hx : GoodW T x) (hy : GoodW T y) : betterB y x = false ↔ rankW B x ≤ rankW B y := by
  constructor
  · intro h
    cases h2 : betterB x y with
    | true => exact Nat.le_of_lt (better_rank hB hx hy h2)
    | false => rw [better_total hx hy h2 h]; exact Nat.le_refl _
  · intro h
    cases h2 : betterB y x with
    | true => have := better_rank hB hy hx h2; omega
    | false => rfl
theorem rank_top {B T : Nat} (hB : B = T + 1) {x : FoundD} (hx : GoodW T x) : rankW B x ≤ B ^ expW + 1 ∧ (x.is = true → rankW B x ≤ B ^ expW) ∧ (x.is = true → x.long = false → rankW B x < B ^ expW) := by
  cases hi : x.is with
  | false => rw [rankW_none hi]; exact ⟨Nat.le_refl _, fun h => (by cases h), fun h => (by cases h)⟩
  | true =>
    cases hl : x.long with
    | true => rw [rankW_long hi hl]; exact ⟨by omega, fun _ => Nat.le_refl _, fun _ h => (by cases h)⟩
    | false =>
      rw [rankW_word hi hl]
      have h1 := num_lt hB hx.digit
      have h2 : B ^ x.l.length ≤ B ^ expW := Nat.pow_le_pow_right (by omega) (Nat.le_trans hx.len expW_ge)
      exact ⟨by omega, fun _ => by omega, fun _ _ => by omega⟩
/-- what a word of no greater rank is -/
theorem rank_word {B T : Nat} (hB : B = T + 1) {x y : FoundD} (hx : GoodW T x) (hy : GoodW T y) (h : rankW B x ≤ rankW B y) :
    (y.is = true → x.is = true) ∧ (y.is = true → y.long = false → x.long = false ∧ num B x.l ≤ num B y.l ∧ x.l.length ≤ y.l.length) := by
  obtain ⟨-, h2, h3⟩ := rank_top hB hy
  have k1 : y.is = true → x.is = true := fun hyi => by
    cases hi : x.is with
    | true => rfl
    | false => rw [rankW_none hi] at h; have := h2 hyi; omega
  refine ⟨k1, fun hyi hyl => ?_⟩
  have hxi := k1 hyi
  have hlt := h3 hyi hyl
  cases hl : x.long with
  | true => rw [rankW_long hxi hl] at h; omega
  | false =>
    rw [rankW_word hxi hl, rankW_word hyi hyl] at h
    exact ⟨rfl, h, num_len hB hx.digit hy.digit h⟩
def LeS (B : Nat) (S' S : List FoundD) : Prop := ∀ s : Int, rankW B (lookW S' s) ≤ rankW B (lookW S s)
theorem jTo_mono {B T : Nat} (hB : B = T + 1) {S' S : List FoundD} (hg' : GoodS T S') (hg : GoodS T S) (h : LeS B S' S) (l : List Int) (hall : ∀ s ∈ l, (lookW S s).is = true) (hl : (jTo S l).1 = false) :
    (jTo S' l).1 = false ∧ num B (jTo S' l).2 ≤ num B (jTo S l).2 ∧ (jTo S' l).2.length ≤ (jTo S l).2.length := by
  have key : ∀ (l : List Int) (p' p : Bool × List Int), (∀ s ∈ l, (lookW S s).is = true) → (l.foldl (jStep S) p).1 = false → (p'.1 = false ∧ num B p'.2 ≤ num B p.2 ∧ p'.2.length ≤ p.2.length) →
      ((l.foldl (jStep S') p').1 = false ∧ num B (l.foldl (jStep S') p').2 ≤ num B (l.foldl (jStep S) p).2 ∧ (l.foldl (jStep S') p').2.length ≤ (l.foldl (jStep S) p).2.length) := by
    have stay : ∀ (l : List Int) (p : Bool × List Int), p.1 = true → (l.foldl (jStep S) p).1 = true := by
      intro l
      induction l with
      | nil => intro p hp; exact hp
      | cons s r ih => intro p hp; rw [List.foldl_cons]; exact ih _ (by unfold jStep; simp [hp])
    intro l
    induction l with
    | nil => intro p' p _ _ hp; exact hp
    | cons s r ih =>
      intro p' p hall hl hp
      rw [List.foldl_cons] at hl ⊢
      rw [List.foldl_cons]
      have hs := hall s (by simp)
      obtain ⟨-, hw⟩ := rank_word hB (hg'.look s) (hg.look s) (h s)
      have hnot : (jStep S p s).1 = false := by
        cases e : (jStep S p s).1 with
        | true => rw [stay r _ e] at hl; cases hl
        | false => rfl
      have hcond := hnot
      unfold jStep at hcond
      simp only [Bool.or_eq_false_iff, decide_eq_false_iff_not] at hcond
      obtain ⟨hp1, hsl, hlen⟩ := hcond
      obtain ⟨hsl', hnum, hln⟩ := hw hs hsl
      refine ih _ _ (fun s hs => hall s (by simp [hs])) hl ?_
      have e1 : jStep S p s = (false, p.2 ++ (lookW S s).l) := by
        unfold jStep; simp only [hp1, hsl, decide_eq_false hlen, Bool.or_self, Bool.false_eq_true, if_false]
      have e2 : jStep S' p' s = (false, p'.2 ++ (lookW S' s).l) := by
        unfold jStep; simp only [hp.1, hsl', decide_eq_false (show ¬ 4096 < p'.2.length + (lookW S' s).l.length by have := hp.2.2; omega), Bool.or_self, Bool.false_eq_true, if_false]
      rw [e1, e2]
      refine ⟨rfl, ?_, by simp only [List.length_append]; have := hp.2.2; omega⟩
      simp only [num_append]
      have h1 : B ^ (lookW S' s).l.length ≤ B ^ (lookW S s).l.length := Nat.pow_le_pow_right (by omega) hln
      have h2 := Nat.mul_le_mul hp.2.1 h1
      omega
  exact key l (false, []) (false, []) hall hl ⟨rfl, Nat.le_refl _, Nat.le_refl _⟩
theorem joinOf_mono {B T : Nat} (hB : B = T + 1) {S' S : List FoundD} (hg' : GoodS T S') (hg : GoodS T S) (h : LeS B S' S) (l : List Int) : rankW B (joinOf S' l) ≤ rankW B (joinOf S l) := by
  have g1 := joinOf_good hg l
  have g2 := joinOf_good hg' l
  obtain ⟨t1, t2, t3⟩ := rank_top hB g2
  by_cases hall : l.all (fun s => (lookW S s).is) = true
  · have hall2 : l.all (fun s => (lookW S' s).is) = true := by
      rw [List.all_eq_true] at hall ⊢
      intro s hs
      exact (rank_word hB (hg'.look s) (hg.look s) (h s)).1 (hall s hs)
    have e1 : joinOf S l = ⟨true, (jTo S l).1, if (jTo S l).1 = true then [] else (jTo S l).2⟩ := by unfold joinOf; rw [if_pos hall]
    have e2 : joinOf S' l = ⟨true, (jTo S' l).1, if (jTo S' l).1 = true then [] else (jTo S' l).2⟩ := by unfold joinOf; rw [if_pos hall2]
    cases hl : (jTo S l).1 with
    | true =>
      rw [rankW_long (x := joinOf S l) (by rw [e1]) (by rw [e1]; exact hl)]
      exact t2 (by rw [e2])
    | false =>
      rw [List.all_eq_true] at hall
      obtain ⟨k1, k2, k3⟩ := jTo_mono hB hg' hg h l hall hl
      rw [rankW_word (x := joinOf S l) (by rw [e1]) (by rw [e1]; exact hl), rankW_word (x := joinOf S' l) (by rw [e2]) (by rw [e2]; exact k1), e1, e2]
      simp only [hl, k1, Bool.false_eq_true, if_false]
      exact k2
  · have : joinOf S l = noFound := by unfold joinOf; rw [if_neg hall]
    rw [this, rankW_none (x := noFound) rfl]
    exact t1

/-! ### one of its rules has it -/
theorem lookW_set {S : List FoundD} {k : Nat} {x : FoundD} (hk : k < S.length) (s : Int) : lookW (S.set k x) s = if s = k then x else lookW S s := by
  unfold lookW
  by_cases h0 : 0 ≤ s
  · rw [if_pos h0, if_pos h0]
    by_cases e : s = k
    · subst e
      rw [if_pos rfl, Int.toNat_natCast, List.getElem?_set_self hk]; rfl
    · rw [if_neg e, List.getElem?_set_ne (by omega)]
  · rw [if_neg h0, if_neg h0, if_neg (by omega)]
/-- each word of a nonterminal has a rule whose right side is no worse -/
def HasRule (B T : Nat) (rs : List (Int × List Int)) (S : List FoundD) : Prop := ∀ s : Int, (T : Int) < s → (lookW S s).is = true → ∃ r ∈ rs, r.1 = s ∧ rankW B (joinOf S r.2) ≤ rankW B (lookW S s)
theorem stepR_has {B T : Nat} (hB : B = T + 1) {rs : List (Int × List Int)} {S : List FoundD} {r : Int × List Int} (hg : GoodS T S) (hr : r ∈ rs) (h0 : 0 ≤ r.1) (h1 : r.1 < S.length) (h : HasRule B T rs S) : HasRule B T rs (stepR S r).1 := by
  unfold stepR
  by_cases e : betterB (joinOf S r.2) (lookW S r.1) = true
  · rw [if_pos e]
    have hk : r.1.toNat < S.length := by omega
    have hlook : ∀ s : Int, lookW (S.set r.1.toNat (joinOf S r.2)) s = if s = r.1 then joinOf S r.2 else lookW S s := fun s => by
      rw [lookW_set hk, Int.toNat_of_nonneg h0]
    have hg' : GoodS T (S.set r.1.toNat (joinOf S r.2)) := by
      have := (stepR_good hg r).1
      unfold stepR at this
      rw [if_pos e] at this
      exact this
    have hlt := better_rank hB (joinOf_good hg r.2) (hg.look r.1) e
    have hle : LeS B (S.set r.1.toNat (joinOf S r.2)) S := fun s => by
      rw [hlook]
      split
      · rename_i e2; rw [e2]; omega
      · exact Nat.le_refl _
    intro s hs hi
    simp only at hi ⊢
    rw [hlook] at hi ⊢
    by_cases e2 : s = r.1
    · rw [if_pos e2]
      exact ⟨r, hr, e2.symm, joinOf_mono hB hg' hg hle r.2⟩
    · rw [if_neg e2] at hi ⊢
      obtain ⟨q, hq, hqs, hqr⟩ := h s hs hi
      exact ⟨q, hq, hqs, Nat.le_trans (joinOf_mono hB hg' hg hle q.2) hqr⟩
  · rw [if_neg e]; exact h
theorem pass_has {B T : Nat} (hB : B = T + 1) {rs : List (Int × List Int)} (hrs : ∀ (S : List FoundD) (n : Nat), True) : ∀ (l : List (Int × List Int)) (S : List FoundD) (b : Bool), (∀ r ∈ l, r ∈ rs) → GoodS T S → (∀ r ∈ rs, 0 ≤ r.1 ∧ r.1 < S.length) → HasRule B T rs S →
    GoodS T (l.foldl (fun (p : List FoundD × Bool) r => ((stepR p.1 r).1, p.2 || (stepR p.1 r).2)) (S, b)).1 ∧ (l.foldl (fun (p : List FoundD × Bool) r => ((stepR p.1 r).1, p.2 || (stepR p.1 r).2)) (S, b)).1.length = S.length ∧ HasRule B T rs (l.foldl (fun (p : List FoundD × Bool) r => ((stepR p.1 r).1, p.2 || (stepR p.1 r).2)) (S, b)).1
  | [], S, b, _, hg, _, h => ⟨hg, rfl, h⟩
  | r :: l, S, b, hl, hg, hr, h => by
    rw [List.foldl_cons]
    obtain ⟨g1, g2⟩ := stepR_good hg r
    have hrr := hl r (by simp)
    obtain ⟨h1, h2, h3⟩ := pass_has hB hrs l (stepR S r).1 (b || (stepR S r).2) (fun q hq => hl q (by simp [hq])) g1 (fun q hq => by rw [g2]; exact hr q hq) (stepR_has hB hg hrr (hr r hrr).1 (hr r hrr).2 h)
    exact ⟨h1, by rw [h2, g2], h3⟩
theorem iter_has {B T : Nat} (hB : B = T + 1) {rs : List (Int × List Int)} {S0 : List FoundD} (hg : GoodS T S0) (hr : ∀ r ∈ rs, 0 ≤ r.1 ∧ r.1 < S0.length) (h : HasRule B T rs S0) :
    ∀ j, GoodS T (iter (fun S => (passTo rs S).1) j S0) ∧ (iter (fun S => (passTo rs S).1) j S0).length = S0.length ∧ HasRule B T rs (iter (fun S => (passTo rs S).1) j S0)
  | 0 => ⟨hg, rfl, h⟩
  | j + 1 => by
    obtain ⟨h1, h2, h3⟩ := iter_has hB hg hr h j
    obtain ⟨k1, k2, k3⟩ := pass_has hB (fun _ _ => trivial) rs _ false (fun r hr => hr) h1 (fun r hq => by rw [h2]; exact hr r hq) h3
    exact ⟨k1, k2.trans h2, k3⟩
theorem start_has (B T N : Nat) (rs : List (Int × List Int)) : HasRule B T rs (startW T N) := by
  intro s hs hi
  exfalso
  have : (lookW (startW T N) s).is = false := by
    unfold lookW
    rw [if_pos (by omega)]
    unfold startW
    obtain ⟨k, hk⟩ : ∃ k, s.toNat = k + 1 := ⟨s.toNat - 1, by omega⟩
    rw [hk, List.getElem?_cons_succ, List.getElem?_append_right (by simp; omega)]
    rw [List.getElem?_replicate]
    split <;> rfl
  rw [this] at hi
  cases hi
/-- at the fixpoint: no rule is better, and one has the word -/
theorem fixed_rules {T N : Nat} {rs : List (Int × List Int)} {S : List FoundD} (hr : ∀ r ∈ rs, 0 ≤ r.1 ∧ r.1 < T + N + 1) (h : Fixed rs (startW T N) S) :
    (∀ r ∈ rs, betterB (joinOf S r.2) (lookW S r.1) = false) ∧ (∀ s : Int, (T : Int) < s → (lookW S s).is = true → ∃ r ∈ rs, r.1 = s ∧ joinOf S r.2 = lookW S s) := by
  obtain ⟨⟨j, hj⟩, hf⟩ := h
  have hno := (pass_false hf).2
  obtain ⟨g0, l0⟩ := startW_good T N
  obtain ⟨h1, h2, h3⟩ := iter_has (B := T + 1) rfl g0 (fun r hq => by rw [l0]; have := hr r hq; omega) (start_has (T + 1) T N rs) j
  rw [← hj] at h1 h2 h3
  refine ⟨hno, fun s hs hi => ?_⟩
  obtain ⟨r, hr1, hr2, hr3⟩ := h3 s hs hi
  have hb := hno r hr1
  rw [hr2] at hb
  exact ⟨r, hr1, hr2, better_total (joinOf_good h1 r.2) (h1.look s) hb ((rank_le rfl (joinOf_good h1 r.2) (h1.look s)).2 hr3)⟩
end Go.Proofs.Ytejjaabkbkkjlaa

/- Least words: what is computed, in plain lists; that it ends; that the end is one. Of no program. -/
import Derived.WalkKit
namespace Go.Proofs.YtlpokomfljmogaaGreat
set_option linter.unusedVariables false
structure FoundD where
 is : Bool
 long : Bool
 l : List Int
def noFound : FoundD := ⟨false, false, []⟩
def lookW (S : List FoundD) (s : Int) : FoundD := if 0 ≤ s then (S[s.toNat]?).getD noFound else noFound
def jStep (S : List FoundD) (p : Bool × List Int) (s : Int) : Bool × List Int :=
 (p.1 || ((lookW S s).long || decide (4096 < p.2.length + (lookW S s).l.length)), if (p.1 || ((lookW S s).long || decide (4096 < p.2.length + (lookW S s).l.length))) = true then p.2 else p.2 ++ (lookW S s).l)
def jTo (S : List FoundD) (l : List Int) : Bool × List Int := l.foldl (jStep S) (false, [])
def joinOf (S : List FoundD) (l : List Int) : FoundD := if l.all (fun s => (lookW S s).is) = true then ⟨true, (jTo S l).1, if (jTo S l).1 = true then [] else (jTo S l).2⟩ else noFound
def lexB : List Int → List Int → Bool
 | a :: r, b :: t => if a = b then lexB r t else decide (a < b)
 | _, _ => false
def lessB (a b : List Int) : Bool := if a.length = b.length then lexB a b else decide (a.length < b.length)
def betterB (x than : FoundD) : Bool := x.is && (!than.is || (if (x.long || than.long) = true then than.long && !x.long else lessB x.l than.l))
def stepR (S : List FoundD) (r : Int × List Int) : List FoundD × Bool := if betterB (joinOf S r.2) (lookW S r.1) = true then (S.set r.1.toNat (joinOf S r.2), true) else (S, false)
def passTo (rs : List (Int × List Int)) (S : List FoundD) : List FoundD × Bool := rs.foldl (fun p r => ((stepR p.1 r).1, p.2 || (stepR p.1 r).2)) (S, false)
def iter {X : Type} (f : X → X) : Nat → X → X
 | 0, x => x
 | n + 1, x => f (iter f n x)
def Fixed (rs : List (Int × List Int)) (S0 S : List FoundD) : Prop := (∃ j, S = iter (fun S => (passTo rs S).1) j S0) ∧ (passTo rs S).2 = false
def startW (T N : Nat) : List FoundD := ⟨true, false, []⟩ :: ((List.range T).map (fun (i : Nat) => (⟨true, false, [(i : Int) + 1]⟩ : FoundD)) ++ List.replicate N noFound)
theorem iter_add {X : Type} (f : X → X) (a b : Nat) (x : X) : iter f (a + b) x = iter f a (iter f b x) := by
 induction a with
 | zero => rw [Nat.zero_add]; rfl
 | succ a ih => rw [Nat.succ_add]; show f _ = f _; rw [ih]
theorem iter_fix {X : Type} {f : X → X} {x : X} (h : f x = x) (n : Nat) : iter f n x = x := by
 induction n with
 | zero => rfl
 | succ n ih => show f _ = x; rw [ih, h]
theorem passFrom_false {rs : List (Int × List Int)} : ∀ {S : List FoundD} {b : Bool}, (rs.foldl (fun (p : List FoundD × Bool) r => ((stepR p.1 r).1, p.2 || (stepR p.1 r).2)) (S, b)).2 = false →
  b = false ∧ (rs.foldl (fun (p : List FoundD × Bool) r => ((stepR p.1 r).1, p.2 || (stepR p.1 r).2)) (S, b)).1 = S ∧ ∀ r ∈ rs, betterB (joinOf S r.2) (lookW S r.1) = false := by
 induction rs with
 | nil => intro S b h; exact ⟨h, rfl, fun r hr => absurd hr (by simp)⟩
 | cons r t ih =>
  intro S b h
  rw [List.foldl_cons] at h ⊢
  obtain ⟨h1, h2, h3⟩ := ih h
  rw [Bool.or_eq_false_iff] at h1
  obtain ⟨hb, hs⟩ := h1
  have he : betterB (joinOf S r.2) (lookW S r.1) = false := by
   unfold stepR at hs
   by_cases e : betterB (joinOf S r.2) (lookW S r.1) = true
   ·rw [if_pos e] at hs; cases hs
   ·simpa using e
  have hS : (stepR S r).1 = S := by unfold stepR; rw [if_neg (by simp [he])]
  simp only [hS] at h2 h3
  refine ⟨hb, by rw [hS]; exact h2, fun q hq => ?_⟩
  rcases List.mem_cons.1 hq with rfl | hq
  ·exact he
  ·exact h3 q hq
theorem pass_false {rs : List (Int × List Int)} {S : List FoundD} (h : (passTo rs S).2 = false) : (passTo rs S).1 = S ∧ ∀ r ∈ rs, betterB (joinOf S r.2) (lookW S r.1) = false :=
 ⟨(passFrom_false h).2.1, (passFrom_false h).2.2⟩
theorem fixed_unique {rs : List (Int × List Int)} {S0 S S' : List FoundD} (h : Fixed rs S0 S) (h' : Fixed rs S0 S') : S = S' := by
 obtain ⟨⟨j, hj⟩, hf⟩ := h
 obtain ⟨⟨k, hk⟩, hf'⟩ := h'
 have e1 := (pass_false hf).1
 have e2 := (pass_false hf').1
 rcases Nat.le_total j k with hle | hle
 ·have : k = (k - j) + j := by omega
  rw [this, iter_add, ← hj, iter_fix e1] at hk
  exact hk.symm
 ·have : j = (j - k) + k := by omega
  rw [this, iter_add, ← hk, iter_fix e2] at hj
  exact hj
structure GoodW (T : Nat) (x : FoundD) : Prop where
 no : x.is = false → x.long = false ∧ x.l = []
 long : x.long = true → x.l = []
 len : x.l.length ≤ 4096
 digit : ∀ d ∈ x.l, 1 ≤ d ∧ d ≤ (T : Int)
theorem GoodW.none (T : Nat) : GoodW T noFound := ⟨fun _ => ⟨rfl, rfl⟩, fun h => (by cases h), (by simp [noFound]), fun d h => absurd h (by simp [noFound])⟩
def GoodS (T : Nat) (S : List FoundD) : Prop := ∀ x ∈ S, GoodW T x
theorem GoodS.look {T : Nat} {S : List FoundD} (h : GoodS T S) (s : Int) : GoodW T (lookW S s) := by
 unfold lookW
 split
 ·rcases e : S[s.toNat]? with _ | x
  ·exact GoodW.none T
  ·exact h x (List.mem_of_getElem? e)
 ·exact GoodW.none T
theorem jTo_snoc (S : List FoundD) (l : List Int) (s : Int) : jTo S (l ++ [s]) = jStep S (jTo S l) s := by unfold jTo; rw [List.foldl_append]; rfl
theorem jTo_good {T : Nat} {S : List FoundD} (h : GoodS T S) (l : List Int) : (jTo S l).2.length ≤ 4096 ∧ ∀ d ∈ (jTo S l).2, 1 ≤ d ∧ d ≤ (T : Int) := by
 have : ∀ (l : List Int) (p : Bool × List Int), (p.2.length ≤ 4096 ∧ ∀ d ∈ p.2, 1 ≤ d ∧ d ≤ (T : Int)) → ((l.foldl (jStep S) p).2.length ≤ 4096 ∧ ∀ d ∈ (l.foldl (jStep S) p).2, 1 ≤ d ∧ d ≤ (T : Int)) := by
  intro l
  induction l with
  | nil => intro p hp; exact hp
  | cons s r ih =>
   intro p hp
   rw [List.foldl_cons]
   refine ih _ ?_
   unfold jStep
   by_cases hq : (p.1 || ((lookW S s).long || decide (4096 < p.2.length + (lookW S s).l.length))) = true
   ·simp only [hq, if_true]; exact hp
   ·simp only [if_neg hq]
    rw [Bool.not_eq_true, Bool.or_eq_false_iff, Bool.or_eq_false_iff, decide_eq_false_iff_not] at hq
    refine ⟨by rw [List.length_append]; omega, fun d hd => ?_⟩
    rcases List.mem_append.1 hd with hd | hd
    ·exact hp.2 d hd
    ·exact (h.look s).digit d hd
 exact this l (false, []) ⟨by simp, fun d hd => absurd hd (by simp)⟩
theorem joinOf_good {T : Nat} {S : List FoundD} (h : GoodS T S) (l : List Int) : GoodW T (joinOf S l) := by
 unfold joinOf
 split
 ·obtain ⟨h1, h2⟩ := jTo_good h l
  refine ⟨fun e => (by cases e), fun e => ?_, ?_, fun d hd => ?_⟩
  ·simp only at e ⊢; rw [if_pos e]
  ·simp only; split
   ·simp
   ·exact h1
  ·simp only at hd
   split at hd
   ·simp at hd
   ·exact h2 d hd
 ·exact GoodW.none T
theorem stepR_good {T : Nat} {S : List FoundD} (h : GoodS T S) (r : Int × List Int) : GoodS T (stepR S r).1 ∧ (stepR S r).1.length = S.length := by
 unfold stepR
 split
 ·refine ⟨fun x hx => ?_, by simp⟩
  rcases List.mem_or_eq_of_mem_set hx with hx | rfl
  ·exact h x hx
  ·exact joinOf_good h _
 ·exact ⟨h, rfl⟩
def num (B : Nat) (l : List Int) : Nat := l.foldl (fun a d => a * B + d.toNat) 0
theorem num_from (B : Nat) : ∀ (l : List Int) (a : Nat), l.foldl (fun a d => a * B + d.toNat) a = a * B ^ l.length + num B l
 | [], a => by simp [num]
 | d :: r, a => by
  unfold num
  rw [List.foldl_cons, List.foldl_cons, num_from B r, num_from B r (0 * B + d.toNat), List.length_cons, Nat.pow_succ]
  rw [Nat.add_mul, Nat.zero_mul, Nat.zero_add, Nat.mul_assoc, Nat.mul_comm B (B ^ r.length), Nat.add_assoc]
theorem num_cons (B : Nat) (d : Int) (r : List Int) : num B (d :: r) = d.toNat * B ^ r.length + num B r := by
 unfold num
 rw [List.foldl_cons, num_from]
 simp [num]
theorem num_lt {B T : Nat} (hB : B = T + 1) : ∀ {l : List Int}, (∀ d ∈ l, 1 ≤ d ∧ d ≤ (T : Int)) → num B l < B ^ l.length
 | [], _ => by simp [num]
 | d :: r, h => by
  have h1 := num_lt hB (l := r) (fun x hx => h x (by simp [hx]))
  have h2 := h d (by simp)
  rw [num_cons, List.length_cons, Nat.pow_succ]
  have h3 : d.toNat + 1 ≤ B := by omega
  have h4 : (d.toNat + 1) * B ^ r.length ≤ B * B ^ r.length := Nat.mul_le_mul_right _ h3
  rw [Nat.add_mul, Nat.one_mul] at h4
  rw [Nat.mul_comm (B ^ r.length) B]
  omega
theorem num_ge {B T : Nat} (hB : B = T + 1) {d : Int} {r : List Int} (h : ∀ x ∈ d :: r, 1 ≤ x ∧ x ≤ (T : Int)) : B ^ r.length ≤ num B (d :: r) := by
 rw [num_cons]
 have h2 := h d (by simp)
 have : 1 * B ^ r.length ≤ d.toNat * B ^ r.length := Nat.mul_le_mul_right _ (by omega)
 omega
theorem num_lex {B T : Nat} (hB : B = T + 1) : ∀ {a b : List Int}, a.length = b.length → (∀ d ∈ a, 1 ≤ d ∧ d ≤ (T : Int)) → (∀ d ∈ b, 1 ≤ d ∧ d ≤ (T : Int)) → lexB a b = true → num B a < num B b
 | [], [], _, _, _, h => by simp [lexB] at h
 | [], _ :: _, h, _, _, _ => by simp at h
 | _ :: _, [], h, _, _, _ => by simp at h
 | x :: r, y :: t, hl, ha, hb, h => by
  have hl' : r.length = t.length := by simpa using hl
  have ha' : ∀ d ∈ r, 1 ≤ d ∧ d ≤ (T : Int) := fun d hd => ha d (by simp [hd])
  have hb' : ∀ d ∈ t, 1 ≤ d ∧ d ≤ (T : Int) := fun d hd => hb d (by simp [hd])
  rw [num_cons, num_cons, hl']
  unfold lexB at h
  by_cases e : x = y
  ·rw [if_pos e] at h
   have := num_lex hB hl' ha' hb' h
   rw [e]; omega
  ·rw [if_neg e, decide_eq_true_eq] at h
   have hx := ha x (by simp)
   have hy := hb y (by simp)
   have h1 := num_lt hB ha'
   rw [hl'] at h1
   have h2 : (x.toNat + 1) * B ^ t.length ≤ y.toNat * B ^ t.length := Nat.mul_le_mul_right _ (by omega)
   rw [Nat.add_mul, Nat.one_mul] at h2
   omega
theorem num_less {B T : Nat} (hB : B = T + 1) {a b : List Int} (ha : ∀ d ∈ a, 1 ≤ d ∧ d ≤ (T : Int)) (hb : ∀ d ∈ b, 1 ≤ d ∧ d ≤ (T : Int)) (h : lessB a b = true) : num B a < num B b := by
 unfold lessB at h
 by_cases e : a.length = b.length
 ·rw [if_pos e] at h; exact num_lex hB e ha hb h
 ·rw [if_neg e, decide_eq_true_eq] at h
  match b, hb, h with
  | [], _, h => simp at h
  | y :: t, hb, h =>
   have h1 := num_lt hB ha
   have h2 := num_ge hB hb
   have h3 : B ^ a.length ≤ B ^ t.length := Nat.pow_le_pow_right (by omega) (by simp at h; omega)
   omega
def expW : Nat := 4097
theorem expW_ge : 4096 ≤ expW := by decide
def rankW (B : Nat) (x : FoundD) : Nat := if x.is = false then B ^ expW + 1 else if x.long = true then B ^ expW else num B x.l
theorem rankW_none {B : Nat} {x : FoundD} (h : x.is = false) : rankW B x = B ^ expW + 1 := by unfold rankW; rw [if_pos h]
theorem rankW_long {B : Nat} {x : FoundD} (h : x.is = true) (h2 : x.long = true) : rankW B x = B ^ expW := by unfold rankW; rw [if_neg (by simp [h]), if_pos h2]
theorem rankW_word {B : Nat} {x : FoundD} (h : x.is = true) (h2 : x.long = false) : rankW B x = num B x.l := by unfold rankW; rw [if_neg (by simp [h]), if_neg (by simp [h2])]
theorem better_rank {B T : Nat} (hB : B = T + 1) {x y : FoundD} (hx : GoodW T x) (hy : GoodW T y) (h : betterB x y = true) : rankW B x < rankW B y := by
 unfold betterB at h
 rw [Bool.and_eq_true] at h
 obtain ⟨hi, h⟩ := h
 have hlow : ∀ z : FoundD, GoodW T z → z.long = false → num B z.l < B ^ expW := fun z hz _ => by
  have := num_lt hB hz.digit
  have h2 : B ^ z.l.length ≤ B ^ expW := Nat.pow_le_pow_right (by omega) (Nat.le_trans hz.len expW_ge)
  exact Nat.lt_of_lt_of_le this h2
 cases hyi : y.is with
 | false =>
  rw [rankW_none hyi]
  cases hxl : x.long with
  | true => rw [rankW_long hi hxl]; omega
  | false => rw [rankW_word hi hxl]; have := hlow x hx hxl; omega
 | true =>
  rw [hyi] at h
  simp only [Bool.not_true, Bool.false_or] at h
  cases hxl : x.long with
  | true => rw [hxl] at h; simp at h
  | false =>
   rw [rankW_word hi hxl]
   cases hyl : y.long with
   | true => rw [rankW_long hyi hyl]; exact hlow x hx hxl
   | false =>
    rw [rankW_word hyi hyl]
    rw [hxl, hyl] at h
    simp only [Bool.or_self, Bool.false_eq_true, if_false] at h
    exact num_less hB hx.digit hy.digit h
def totalW (B : Nat) (S : List FoundD) : Nat := (S.map (rankW B)).sum
theorem total_set {B : Nat} {S : List FoundD} {i : Nat} {x y : FoundD} (h : S[i]? = some y) (hr : rankW B x < rankW B y) : totalW B (S.set i x) < totalW B S := by
 induction S generalizing i with
 | nil => simp at h
 | cons a r ih =>
  cases i with
  | zero => simp at h; subst h; simp [totalW]; omega
  | succ i =>
   have := ih (i := i) (by simpa using h)
   simp only [totalW, List.set_cons_succ, List.map_cons, List.sum_cons] at this ⊢
   omega
theorem lookW_get {S : List FoundD} {s : Int} (h0 : 0 ≤ s) (h : s < S.length) : S[s.toNat]? = some (lookW S s) := by
 unfold lookW
 rw [if_pos h0, List.getElem?_eq_getElem (by omega)]
 rfl
theorem stepR_rank {B T : Nat} (hB : B = T + 1) {S : List FoundD} {r : Int × List Int} (h : GoodS T S) (h0 : 0 ≤ r.1) (h1 : r.1 < S.length) :
  ((stepR S r).2 = false ∧ (stepR S r).1 = S) ∨ ((stepR S r).2 = true ∧ totalW B (stepR S r).1 < totalW B S) := by
 unfold stepR
 by_cases e : betterB (joinOf S r.2) (lookW S r.1) = true
 ·rw [if_pos e]
  exact .inr ⟨rfl, total_set (lookW_get h0 h1) (better_rank hB (joinOf_good h _) (h.look _) e)⟩
 ·rw [if_neg e]; exact .inl ⟨rfl, rfl⟩
theorem startW_good (T N : Nat) : GoodS T (startW T N) ∧ (startW T N).length = T + N + 1 := by
 refine ⟨fun x hx => ?_, by unfold startW; simp⟩
 unfold startW at hx
 rcases List.mem_cons.1 hx with rfl | hx
 ·exact ⟨fun h => (by cases h), fun h => (by cases h), by simp, fun d hd => absurd hd (by simp)⟩
 rcases List.mem_append.1 hx with hx | hx
 ·obtain ⟨i, hi, rfl⟩ := List.mem_map.1 hx
  have := List.mem_range.1 hi
  refine ⟨fun h => (by cases h), fun h => (by cases h), by simp, fun d hd => ?_⟩
  simp at hd
  omega
 ·rw [(List.mem_replicate.1 hx).2]; exact GoodW.none T
end Go.Proofs.YtlpokomfljmogaaGreat

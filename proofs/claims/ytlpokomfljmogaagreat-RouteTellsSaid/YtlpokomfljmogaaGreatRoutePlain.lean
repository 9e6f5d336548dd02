/- The least way to each state: plain laws. Of no program. -/
import Derived.Test.YtlpokomfljmogaaGreatAuto18
import Derived.Test.YtlpokomfljmogaaGreatLeastPlain
namespace Go.Proofs.YtlpokomfljmogaaGreat
set_option linter.unusedVariables false
section
def OkW (T : Nat) (w : List Int) : Prop := ∀ d ∈ w, 1 ≤ d ∧ d ≤ (T : Int)
theorem OkW.nil (T : Nat) : OkW T [] := fun d h => by cases h
theorem OkW.snoc {T : Nat} {w : List Int} (h : OkW T w) {s : Int} (h1 : 1 ≤ s) (h2 : s ≤ T) : OkW T (w ++ [s]) := fun d hd => by
 rcases List.mem_append.1 hd with hd | hd
 ·exact h d hd
 ·rw [List.mem_singleton.1 hd]; exact ⟨h1, h2⟩
def nm (T : Nat) (w : List Int) : Nat := num (T + 1) w
theorem nm_nil (T : Nat) : nm T [] = 0 := rfl
theorem nm_snoc (T : Nat) (w : List Int) (s : Int) : nm T (w ++ [s]) = nm T w * (T + 1) + s.toNat := by unfold nm num; rw [List.foldl_append]; rfl
theorem lexB_tri : ∀ {a b : List Int}, a.length = b.length → lexB a b = false → a = b ∨ lexB b a = true
 | [], [], _, _ => .inl rfl
 | [], _ :: _, h, _ => by simp at h
 | _ :: _, [], h, _ => by simp at h
 | x :: r, y :: t, hl, h => by
  have hl' : r.length = t.length := by simpa using hl
  unfold lexB at h ⊢
  by_cases e : x = y
  ·rw [if_pos e] at h
   rw [if_pos e.symm]
   rcases lexB_tri hl' h with h | h
   ·exact .inl (by rw [e, h])
   ·exact .inr h
  ·rw [if_neg e, decide_eq_false_iff_not] at h
   rw [if_neg (fun e' => e e'.symm), decide_eq_true_eq]
   exact .inr (by omega)
theorem lessB_tri {a b : List Int} (h : lessB a b = false) : a = b ∨ lessB b a = true := by
 unfold lessB at h ⊢
 by_cases e : a.length = b.length
 ·rw [if_pos e] at h
  rw [if_pos e.symm]
  exact lexB_tri e h
 ·rw [if_neg e, decide_eq_false_iff_not] at h
  rw [if_neg (fun e' => e e'.symm), decide_eq_true_eq]
  exact .inr (by omega)
theorem less_nm {T : Nat} {a b : List Int} (ha : OkW T a) (hb : OkW T b) : lessB a b = decide (nm T a < nm T b) := by
 cases h : lessB a b with
 | true => exact (decide_eq_true (num_less rfl ha hb h)).symm
 | false =>
  refine (decide_eq_false ?_).symm
  rcases lessB_tri h with rfl | h
  ·exact Nat.lt_irrefl _
  ·have := num_less rfl hb ha h
   unfold nm
   omega
theorem nm_inj {T : Nat} {a b : List Int} (ha : OkW T a) (hb : OkW T b) (h : nm T a = nm T b) : a = b := by
 have h1 := less_nm ha hb
 rw [decide_eq_false (by omega)] at h1
 rcases lessB_tri h1 with e | e
 ·exact e
 ·have := num_less rfl hb ha e
  unfold nm at h
  omega
theorem nm_len {T : Nat} {a b : List Int} (ha : OkW T a) (hb : OkW T b) (h : nm T a ≤ nm T b) : a.length ≤ b.length := by
 apply Classical.byContradiction
 intro hn
 have h1 : lessB b a = true := by
  unfold lessB
  rw [if_neg (by omega), decide_eq_true_eq]
  omega
 have := num_less rfl hb ha h1
 unfold nm at h
 omega
theorem nm_mono {T : Nat} {a b : List Int} (h : nm T a ≤ nm T b) (s : Int) : nm T (a ++ [s]) ≤ nm T (b ++ [s]) := by
 rw [nm_snoc, nm_snoc]
 exact Nat.add_le_add_right (Nat.mul_le_mul_right _ h) _
abbrev Sts := List (List It × List It)
structure DW (T : Nat) (D : Sts) : Prop where
 pos : 0 < D.length
 small : D.length ≤ 2000
 tr : ∀ (i : Nat) d, D[i]? = some d → ∀ s to : Int, ((s, to) : It) ∈ d.2 → 1 ≤ s ∧ s ≤ (T : Int) ∧ ∃ t : Nat, to = t ∧ t < D.length
 sort : ∀ (i : Nat) d, D[i]? = some d → d.2.Pairwise (fun a b : It => a.1 < b.1)
 early : ∀ n : Nat, 0 < n → n < D.length → ∃ (k : Nat) (d : List It × List It) (s : Int), k < n ∧ D[k]? = some d ∧ ((s, (n : Int)) : It) ∈ d.2
inductive PathD (D : Sts) : List Int → Nat → Prop
 | nil : PathD D [] 0
 | snoc (q : List Int) (i : Nat) (d : List It × List It) (s : Int) (t : Nat) : PathD D q i → D[i]? = some d → ((s, (t : Int)) : It) ∈ d.2 → PathD D (q ++ [s]) t
section
variable {T : Nat} {D : Sts} {W : List (Option (List Int))}
theorem PathD.ok (hD : DW T D) {w : List Int} {n : Nat} (h : PathD D w n) : OkW T w := by
 induction h with
 | nil => exact OkW.nil T
 | snoc q i d s t _ hd hm ih =>
  obtain ⟨h1, h2, -⟩ := hD.tr i d hd s t hm
  exact ih.snoc h1 h2
theorem PathD.lt (hD : DW T D) {w : List Int} {n : Nat} (h : PathD D w n) : n < D.length := by
 cases h with
 | nil => exact hD.pos
 | snoc q i d s t _ hd hm =>
  obtain ⟨-, -, t', e, h⟩ := hD.tr i d hd s _ hm
  omega
theorem walkF_snoc (D : Sts) (w : List Int) (s : Int) : ∀ (i : Int) (j : Nat), walkF D i w = (j : Int) → walkF D i (w ++ [s]) = if gotoD D j s < 0 ∨ (D.length : Int) ≤ gotoD D j s then -1 else gotoD D j s := by
 induction w with
 | nil =>
  intro i j h
  have h : i = (j : Int) := h
  subst h
  rfl
 | cons x r ih =>
  intro i j h
  have h : (if gotoD D i x < 0 ∨ (D.length : Int) ≤ gotoD D i x then -1 else walkF D (gotoD D i x) r) = (j : Int) := h
  show (if gotoD D i x < 0 ∨ (D.length : Int) ≤ gotoD D i x then -1 else walkF D (gotoD D i x) (r ++ [s])) = _
  by_cases e : gotoD D i x < 0 ∨ (D.length : Int) ≤ gotoD D i x
  ·rw [if_pos e] at h; omega
  ·rw [if_neg e] at h ⊢
   exact ih _ _ h
theorem wayTo_in {t : List It} (hs : t.Pairwise (fun a b : It => a.1 < b.1)) {s to : Int} (h : ((s, to) : It) ∈ t) : wayTo t s = to := by
 obtain ⟨i, hi, e⟩ := List.getElem_of_mem h
 refine wayTo_yes (i := i) (x := (s, to)) (by rw [List.getElem?_eq_getElem hi, e]) rfl fun j y hj hy => ?_
 obtain ⟨hj', e'⟩ := List.getElem?_eq_some_iff.1 hy
 have := (List.pairwise_iff_getElem.1 hs) j i hj' hi hj
 rw [e, e'] at this
 simp only at this
 omega
theorem PathD.walk (hD : DW T D) {w : List Int} {n : Nat} (h : PathD D w n) : walkD D 0 w = n := by
 have key : walkF D 0 w = n := by
  induction h with
  | nil => rfl
  | snoc q i d s t _ hd hm ih =>
   obtain ⟨-, -, t', e, h⟩ := hD.tr i d hd s _ hm
   rw [walkF_snoc D q s 0 i ih, gotoD_in hd, wayTo_in (hD.sort i d hd) hm, if_neg (by omega)]
 unfold walkD
 have := hD.pos
 rw [if_neg (by omega)]
 exact key
structure FamW (T : Nat) (D : Sts) (W : List (List Int)) : Prop where
 len : W.length = D.length
 zero : W[0]? = some []
 path : ∀ (n : Nat) w, W[n]? = some w → PathD D w n
 closed : ∀ (i : Nat) w d, W[i]? = some w → D[i]? = some d → ∀ (s : Int) (t : Nat) wt, ((s, (t : Int)) : It) ∈ d.2 → W[t]? = some wt → nm T wt ≤ nm T (w ++ [s])
theorem FamW.le (hD : DW T D) {W : List (List Int)} (h : FamW T D W) {p : List Int} {n : Nat} (hp : PathD D p n) : ∀ w, W[n]? = some w → nm T w ≤ nm T p := by
 induction hp with
 | nil => intro w hw; rw [h.zero] at hw; injection hw with hw; subst hw; exact Nat.le_refl _
 | snoc q i d s t _ hd hm ih =>
  intro w hw
  have hi : i < W.length := by rw [h.len]; exact (List.getElem?_eq_some_iff.1 hd).1
  have h1 := ih W[i] (List.getElem?_eq_getElem hi)
  exact Nat.le_trans (h.closed i W[i] d (List.getElem?_eq_getElem hi) hd s t w hm hw) (nm_mono h1 s)
theorem FamW.unique (hD : DW T D) {W W' : List (List Int)} (h : FamW T D W) (h' : FamW T D W') : W = W' := by
 refine List.ext_getElem? fun n => ?_
 by_cases hn : n < D.length
 ·have e : W[n]? = some (W[n]'(by rw [h.len]; exact hn)) := List.getElem?_eq_getElem _
  have e' : W'[n]? = some (W'[n]'(by rw [h'.len]; exact hn)) := List.getElem?_eq_getElem _
  rw [e, e']
  have p := h.path n _ e
  have p' := h'.path n _ e'
  have h1 := h.le hD p' _ e
  have h2 := h'.le hD p _ e'
  exact congrArg some (nm_inj (p.ok hD) (p'.ok hD) (by omega))
 ·rw [List.getElem?_eq_none (by rw [h.len]; omega), List.getElem?_eq_none (by rw [h'.len]; omega)]
abbrev Wos := List (Option (List Int))
def cntW (W : Wos) : Nat := W.countP Option.isSome
theorem cnt_le (W : Wos) : cntW W ≤ W.length := List.countP_le_length
theorem cnt_new : ∀ {W : Wos} {t : Nat} {x : List Int}, W[t]? = some none → cntW (W.set t (some x)) = cntW W + 1
 | [], t, x, h => by simp at h
 | a :: r, 0, x, h => by
  have : a = none := by simpa using h
  subst this
  simp [cntW]
 | a :: r, t + 1, x, h => by
  have := cnt_new (W := r) (t := t) (x := x) (by simpa using h)
  unfold cntW at this ⊢
  rw [List.set_cons_succ, List.countP_cons, List.countP_cons, this]
  omega
theorem cnt_old : ∀ {W : Wos} {t : Nat} {x y : List Int}, W[t]? = some (some y) → cntW (W.set t (some x)) = cntW W
 | [], t, x, y, h => by simp at h
 | a :: r, 0, x, y, h => by
  have : a = some y := by simpa using h
  subst this
  simp [cntW]
 | a :: r, t + 1, x, y, h => by
  have := cnt_old (W := r) (t := t) (x := x) (by simpa using h)
  unfold cntW at this ⊢
  rw [List.set_cons_succ, List.countP_cons, List.countP_cons, this]
structure SomeW (D : Sts) (W : Wos) : Prop where
 len : W.length = D.length
 zero : W[0]? = some (some [])
 path : ∀ (n : Nat) w, W[n]? = some (some w) → PathD D w n
 short : ∀ (n : Nat) w, W[n]? = some (some w) → w.length + 1 ≤ cntW W
theorem SomeW.fam (hD : DW T D) {W : Wos} (h : SomeW D W) (hc : ∀ (i : Nat) w d, W[i]? = some (some w) → D[i]? = some d → ∀ (s : Int) (t : Nat), ((s, (t : Int)) : It) ∈ d.2 → ∃ wt, W[t]? = some (some wt) ∧ nm T wt ≤ nm T (w ++ [s])) :
  ∃ L : List (List Int), W = L.map some ∧ FamW T D L := by
 have all : ∀ n, n < D.length → ∃ w, W[n]? = some (some w) := by
  intro n
  induction n using Nat.strongRecOn with
  | ind n ih =>
   intro hn
   by_cases h0 : n = 0
   ·subst h0; exact ⟨[], h.zero⟩
   ·obtain ⟨k, d, s, hk, hd, hm⟩ := hD.early n (by omega) hn
    obtain ⟨w, hw⟩ := ih k hk (by omega)
    obtain ⟨wt, hwt, -⟩ := hc k w d hw hd s n hm
    exact ⟨wt, hwt⟩
 obtain ⟨L, hL⟩ : ∃ L : List (List Int), W = L.map some := by
  refine ⟨W.map (fun o => o.getD []), ?_⟩
  rw [List.map_map]
  refine List.ext_getElem? fun n => ?_
  rw [List.getElem?_map]
  by_cases hn : n < D.length
  ·obtain ⟨w, hw⟩ := all n hn
   rw [hw]; rfl
  ·rw [List.getElem?_eq_none (by rw [h.len]; omega)]; rfl
 have get : ∀ n w, L[n]? = some w ↔ W[n]? = some (some w) := fun n w => by
  rw [hL, List.getElem?_map]
  cases L[n]? <;> simp
 refine ⟨L, hL, by rw [← h.len, hL, List.length_map], (get _ _).2 h.zero, fun n w hw => h.path n w ((get _ _).1 hw), fun i w d hw hd s t wt hm hwt => ?_⟩
 obtain ⟨wt', h1, h2⟩ := hc i w d ((get _ _).1 hw) hd s t hm
 rw [(get _ _).1 hwt] at h1
 injection h1 with h1
 injection h1 with h1
 rw [h1]; exact h2
def GoodT (T : Nat) (W : Wos) (w : List Int) (x : It) : Prop := ∃ (t : Nat) (wt : List Int), x.2 = t ∧ W[t]? = some (some wt) ∧ nm T wt ≤ nm T (w ++ [x.1])
theorem SomeW.fam' (hD : DW T D) {W : Wos} (h : SomeW D W) (hc : ∀ (i : Nat) w d, W[i]? = some (some w) → D[i]? = some d → ∀ (j : Nat) x, d.2[j]? = some x → GoodT T W w x) : ∃ L : List (List Int), W = L.map some ∧ FamW T D L := by
 refine h.fam hD fun i w d hw hd s t hm => ?_
 obtain ⟨j, hj, e⟩ := List.getElem_of_mem hm
 obtain ⟨t', wt, e1, e2, e3⟩ := hc i w d hw hd j _ (by rw [List.getElem?_eq_getElem hj, e])
 have : t = t' := by simp only at e1; omega
 subst this
 exact ⟨wt, e2, e3⟩
theorem SomeW.new (h : SomeW D W) {i : Nat} {w : List Int} {d : List It × List It} {s : Int} {t : Nat} (hw : W[i]? = some (some w)) (hd : D[i]? = some d) (hm : ((s, (t : Int)) : It) ∈ d.2) (ht : W[t]? = some none) : SomeW D (W.set t (some (w ++ [s]))) := by
 have hl := (List.getElem?_eq_some_iff.1 ht).1
 have hc := cnt_new (x := w ++ [s]) ht
 refine ⟨by rw [List.length_set]; exact h.len, ?_, fun n x hx => ?_, fun n x hx => ?_⟩
 ·rw [List.getElem?_set_ne (fun e => by subst e; rw [h.zero] at ht; cases ht)]; exact h.zero
 ·by_cases e : t = n
  ·subst e
   rw [List.getElem?_set_self hl] at hx
   injection hx with hx
   injection hx with hx
   subst hx
   exact .snoc w i d s _ (h.path i w hw) hd hm
  ·rw [List.getElem?_set_ne e] at hx; exact h.path n x hx
 ·rw [hc]
  by_cases e : t = n
  ·subst e
   rw [List.getElem?_set_self hl] at hx
   injection hx with hx
   injection hx with hx
   subst hx
   have := h.short i w hw
   simp only [List.length_append, List.length_singleton]
   omega
  ·rw [List.getElem?_set_ne e] at hx
   have := h.short n x hx
   omega
theorem SomeW.less (hD : DW T D) (h : SomeW D W) {i : Nat} {w wt : List Int} {d : List It × List It} {s : Int} {t : Nat} (hw : W[i]? = some (some w)) (hd : D[i]? = some d) (hm : ((s, (t : Int)) : It) ∈ d.2) (ht : W[t]? = some (some wt)) (hl : nm T (w ++ [s]) < nm T wt) : SomeW D (W.set t (some (w ++ [s]))) := by
 have hlt := (List.getElem?_eq_some_iff.1 ht).1
 have hc := cnt_old (x := w ++ [s]) ht
 have hp : PathD D (w ++ [s]) t := .snoc w i d s _ (h.path i w hw) hd hm
 refine ⟨by rw [List.length_set]; exact h.len, ?_, fun n x hx => ?_, fun n x hx => ?_⟩
 ·rw [List.getElem?_set_ne (fun e => by
   subst e
   rw [h.zero] at ht
   injection ht with ht
   injection ht with ht
   subst ht
   rw [nm_nil] at hl
   omega)]
  exact h.zero
 ·by_cases e : t = n
  ·subst e
   rw [List.getElem?_set_self hlt] at hx
   injection hx with hx
   injection hx with hx
   subst hx
   exact hp
  ·rw [List.getElem?_set_ne e] at hx; exact h.path n x hx
 ·rw [hc]
  by_cases e : t = n
  ·subst e
   rw [List.getElem?_set_self hlt] at hx
   injection hx with hx
   injection hx with hx
   subst hx
   have h1 := h.short t wt ht
   have h2 := nm_len (hp.ok hD) ((h.path t wt ht).ok hD) (by omega)
   omega
  ·rw [List.getElem?_set_ne e] at hx
   exact h.short n x hx
def expR : Nat := 2001
theorem expR_ge : 2000 ≤ expR := by decide
def rankO (T : Nat) : Option (List Int) → Nat
 | none => (T + 1) ^ expR
 | some w => nm T w
def totO (T : Nat) (W : Wos) : Nat := (W.map (rankO T)).sum
theorem totO_set {x y : Option (List Int)} : ∀ {W : Wos} {t : Nat}, W[t]? = some y → rankO T x < rankO T y → totO T (W.set t x) < totO T W
 | [], t, h, _ => by simp at h
 | a :: r, 0, h, hr => by
  have : a = y := by simpa using h
  subst this
  simp only [totO, List.set_cons_zero, List.map_cons, List.sum_cons]
  omega
 | a :: r, t + 1, h, hr => by
  have := totO_set (W := r) (t := t) (by simpa using h) hr
  simp only [totO, List.set_cons_succ, List.map_cons, List.sum_cons] at this ⊢
  omega
def UptoW (T : Nat) (D : Sts) (W : Wos) (i k : Nat) : Prop := ∀ (i' : Nat) w d, W[i']? = some (some w) → D[i']? = some d → ∀ (j : Nat) x, d.2[j]? = some x → (i' < i ∨ (i' = i ∧ j < k)) → GoodT T W w x
theorem UptoW.start (W : Wos) : UptoW T D W 0 0 := fun i' w d _ _ j x _ h => by omega
theorem UptoW.row {i k : Nat} {d : List It × List It} (h : UptoW T D W i k) (hd : D[i]? = some d) (hk : d.2.length ≤ k ∨ W[i]? = some none) : UptoW T D W (i + 1) 0 := fun i' w d' hw hd' j x hx hh => by
 by_cases e : i' = i
 ·subst e
  rw [hd] at hd'
  injection hd' with hd'
  subst hd'
  rcases hk with hk | hk
  ·exact h _ w d hw hd j x hx (.inr ⟨rfl, by have := (List.getElem?_eq_some_iff.1 hx).1; omega⟩)
  ·rw [hk] at hw; cases hw
 ·exact h i' w d' hw hd' j x hx (.inl (by omega))
theorem UptoW.step {i k : Nat} {d : List It × List It} {w : List Int} {x : It} (h : UptoW T D W i k) (hw : W[i]? = some (some w)) (hd : D[i]? = some d) (hx : d.2[k]? = some x) (hg : GoodT T W w x) : UptoW T D W i (k + 1) := fun i' w' d' hw' hd' j y hy hh => by
 by_cases e : i' = i ∧ j = k
 ·obtain ⟨rfl, rfl⟩ := e
  rw [hd] at hd'
  injection hd' with hd'
  subst hd'
  rw [hx] at hy
  injection hy with hy
  subst hy
  rw [hw] at hw'
  injection hw' with hw'
  injection hw' with hw'
  subst hw'
  exact hg
 ·exact h i' w' d' hw' hd' j y hy (by omega)
theorem SomeW.rank (hD : DW T D) (h : SomeW D W) {n : Nat} {w : List Int} (hw : W[n]? = some (some w)) : nm T w < (T + 1) ^ expR ∧ w.length < 2000 := by
 have h1 := h.short n w hw
 have h2 := cnt_le W
 have h3 := hD.small
 have h4 := h.len
 have h5 : w.length < 2000 := by omega
 refine ⟨?_, h5⟩
 have h6 := num_lt rfl (B := T + 1) ((h.path n w hw).ok hD)
 have h7 := expR_ge
 exact Nat.lt_of_lt_of_le h6 (Nat.pow_le_pow_right (by omega) (by omega))
theorem lens_of (hD : DW T D) {L : List (List Int)} (h : SomeW D (L.map some)) : ∀ l ∈ L, l.length ≤ 2000 := fun l hl => by
 obtain ⟨k, hk, e⟩ := List.getElem_of_mem hl
 have := (h.rank hD (n := k) (w := l) (by rw [List.getElem?_map, List.getElem?_eq_getElem hk, e]; rfl)).2
 omega
def keyW (T : Nat) (W : Wos) (x : Int) : Nat := match W[x.toNat]? with | some (some w) => nm T w | _ => 0
theorem keyW_at {n : Nat} {w : List Int} (h : W[n]? = some (some w)) : keyW T W (n : Int) = nm T w := by unfold keyW; rw [Int.toNat_natCast, h]
theorem keyW_set {t : Nat} {o : Option (List Int)} {n : Nat} (h : n ≠ t) : keyW T (W.set t o) (n : Int) = keyW T W (n : Int) := by
 unfold keyW
 rw [Int.toNat_natCast, List.getElem?_set_ne (fun e => h e.symm)]
def OfLen (W : Wos) (d : Nat) (x : Int) : Prop := ∃ (n : Nat) (w : List Int), x = n ∧ W[n]? = some (some w) ∧ w.length = d
structure LevW (T : Nat) (D : Sts) (W : Wos) (d : Nat) (now : List Int) : Prop where
 som : SomeW D W
 closed : ∀ (i : Nat) w dd, W[i]? = some (some w) → D[i]? = some dd → w.length < d → ∀ (j : Nat) x, dd.2[j]? = some x → GoodT T W w x
 lens : ∀ (n : Nat) w, W[n]? = some (some w) → w.length ≤ d
 now_ : ∀ x, x ∈ now ↔ OfLen W d x
 sort : now.Pairwise (fun a b => keyW T W a < keyW T W b)
 cnt : d + now.length ≤ cntW W
structure InW (T : Nat) (D : Sts) (W : Wos) (d : Nat) (now next : List Int) (p k : Nat) : Prop where
 som : SomeW D W
 closed : ∀ (i : Nat) w dd, W[i]? = some (some w) → D[i]? = some dd → ∀ (j : Nat) x, dd.2[j]? = some x → (w.length < d ∨ (∃ p', p' < p ∧ now[p']? = some (i : Int)) ∨ (now[p]? = some (i : Int) ∧ j < k)) → GoodT T W w x
 lens : ∀ (n : Nat) w, W[n]? = some (some w) → w.length ≤ d + 1
 now_ : ∀ x, x ∈ now ↔ OfLen W d x
 next_ : ∀ x, x ∈ next ↔ OfLen W (d + 1) x
 sort : now.Pairwise (fun a b => keyW T W a < keyW T W b)
 snext : next.Pairwise (fun a b => keyW T W a < keyW T W b)
 bnd : ∀ (n : Nat) w, W[n]? = some (some w) → w.length = d + 1 → ∀ (i : Nat) wi di, now[p]? = some (i : Int) → W[i]? = some (some wi) → D[i]? = some di → nm T w < nm T wi * (T + 1) + (match di.2[k]? with | some x => x.1.toNat | none => T + 1)
 cnt : d + now.length + next.length ≤ cntW W
theorem LevW.start (hD : DW T D) : LevW T D (some [] :: List.replicate (D.length - 1) none) 0 [0] := by
 have hp := hD.pos
 have key : ∀ (n : Nat) w, (some ([] : List Int) :: List.replicate (D.length - 1) none)[n]? = some (some w) → n = 0 ∧ w = [] := fun n w h => by
  cases n with
  | zero => exact ⟨rfl, by simpa using h.symm⟩
  | succ n =>
   rw [List.getElem?_cons_succ, List.getElem?_replicate] at h
   split at h <;> simp at h
 have hc : cntW (some ([] : List Int) :: List.replicate (D.length - 1) none) = 1 := by
  unfold cntW
  rw [List.countP_cons, List.countP_replicate]
  simp
 refine ⟨⟨by simp; omega, rfl, fun n w h => ?_, fun n w h => ?_⟩, fun i w dd h _ hl => by omega, fun n w h => ?_, fun x => ?_, List.pairwise_singleton _ _, by rw [hc]; simp⟩
 ·obtain ⟨rfl, rfl⟩ := key n w h; exact .nil
 ·obtain ⟨rfl, rfl⟩ := key n w h; rw [hc]; simp
 ·obtain ⟨rfl, rfl⟩ := key n w h; simp
 ·rw [List.mem_singleton]
  constructor
  ·rintro rfl; exact ⟨0, [], rfl, rfl, rfl⟩
  ·rintro ⟨n, w, rfl, h, -⟩
   obtain ⟨rfl, rfl⟩ := key n w h
   rfl
theorem LevW.in_ {d : Nat} {now : List Int} (h : LevW T D W d now) : InW T D W d now [] 0 0 := by
 have no : ∀ (n : Nat) w, W[n]? = some (some w) → w.length = d + 1 → False := fun n w h1 h2 => by have := h.lens n w h1; omega
 refine ⟨h.som, fun i w dd hw hd j x hx hh => ?_, fun n w hw => by have := h.lens n w hw; omega, h.now_, fun x => ⟨fun hx => by (cases hx), fun ⟨n, w, _, h1, h2⟩ => (no n w h1 h2).elim⟩, h.sort, List.Pairwise.nil, fun n w h1 h2 => (no n w h1 h2).elim, by have := h.cnt; simp; omega⟩
 rcases hh with hh | ⟨p', h1, -⟩ | ⟨-, h1⟩
 ·exact h.closed i w dd hw hd hh j x hx
 ·omega
 ·omega
theorem LevW.done (hD : DW T D) {d : Nat} (h : LevW T D W d []) : ∃ L : List (List Int), W = L.map some ∧ FamW T D L := by
 refine h.som.fam' hD fun i w dd hw hd j x hx => ?_
 refine h.closed i w dd hw hd ?_ j x hx
 have h1 := h.lens i w hw
 apply Classical.byContradiction
 intro h2
 have := (h.now_ (i : Int)).2 ⟨i, w, rfl, hw, by omega⟩
 cases this
theorem InW.at_ {d : Nat} {now next : List Int} {p k : Nat} (h : InW T D W d now next p k) {x : Int} (hx : now[p]? = some x) : ∃ (i : Nat) (w : List Int), x = i ∧ W[i]? = some (some w) ∧ w.length = d := (h.now_ x).1 (List.mem_of_getElem? hx)
theorem InW.bnd' (hD : DW T D) {d : Nat} {now next : List Int} {p k i : Nat} {wi : List Int} {di : List It × List It} {x : It} (h : InW T D W d now next p k) (hp : now[p]? = some (i : Int)) (hw : W[i]? = some (some wi)) (hd : D[i]? = some di) (hx : di.2[k]? = some x) : (∀ (n : Nat) w, W[n]? = some (some w) → w.length = d + 1 → nm T w < nm T (wi ++ [x.1])) ∧ nm T (wi ++ [x.1]) < nm T wi * (T + 1) + (match di.2[k + 1]? with | some x => x.1.toNat | none => T + 1) := by
 constructor
 ·intro n w h1 h2
  have := h.bnd n w h1 h2 i wi di hp hw hd
  rw [hx] at this
  rw [nm_snoc]
  exact this
 ·rw [nm_snoc]
  apply Nat.add_lt_add_left
  obtain ⟨h1, h2, -⟩ := hD.tr i di hd x.1 x.2 (List.mem_of_getElem? hx)
  cases e : di.2[k + 1]? with
  | none => simp only; omega
  | some y =>
   obtain ⟨a1, a2⟩ := List.getElem?_eq_some_iff.1 hx
   obtain ⟨b1, b2⟩ := List.getElem?_eq_some_iff.1 e
   have := (List.pairwise_iff_getElem.1 (hD.sort i di hd)) k (k + 1) a1 b1 (by omega)
   rw [a2, b2] at this
   simp only
   omega
theorem InW.skip (hD : DW T D) {d : Nat} {now next : List Int} {p k i : Nat} {wi wt : List Int} {di : List It × List It} {s : Int} {t : Nat} (h : InW T D W d now next p k) (hp : now[p]? = some (i : Int)) (hw : W[i]? = some (some wi)) (hl : wi.length = d) (hd : D[i]? = some di) (hx : di.2[k]? = some (s, (t : Int))) (ht : W[t]? = some (some wt)) : InW T D W d now next p (k + 1) := by
 obtain ⟨b1, b2⟩ := h.bnd' hD hp hw hd hx
 simp only at b1 b2
 have hpt : PathD D (wi ++ [s]) t := .snoc wi i di s t (h.som.path i wi hw) hd (List.mem_of_getElem? hx)
 have hg : GoodT T W wi (s, (t : Int)) := by
  refine ⟨t, wt, rfl, ht, ?_⟩
  have h1 := h.lens t wt ht
  by_cases e : wt.length = d + 1
  ·exact Nat.le_of_lt (b1 t wt ht e)
  ·apply Classical.byContradiction
   intro hn
   have := nm_len (hpt.ok hD) ((h.som.path t wt ht).ok hD) (by simp only at hn; omega)
   simp only [List.length_append, List.length_singleton] at this
   omega
 refine ⟨h.som, fun i' w dd hw' hd' j x hx' hh => ?_, h.lens, h.now_, h.next_, h.sort, h.snext, fun n w hn hwl i' wi' di' hp' hw' hd' => ?_, h.cnt⟩
 ·by_cases e : now[p]? = some (i' : Int) ∧ j = k
  ·obtain ⟨e1, rfl⟩ := e
   rw [hp] at e1
   injection e1 with e1
   have e1 : i = i' := by omega
   subst e1
   rw [hw] at hw'; injection hw' with hw'; injection hw' with hw'; subst hw'
   rw [hd] at hd'; injection hd' with hd'; subst hd'
   rw [hx] at hx'; injection hx' with hx'; subst hx'
   exact hg
  ·refine h.closed i' w dd hw' hd' j x hx' ?_
   rcases hh with hh | hh | ⟨h1, h2⟩
   ·exact .inl hh
   ·exact .inr (.inl hh)
   ·exact .inr (.inr ⟨h1, by have : j ≠ k := fun e' => e ⟨h1, e'⟩; omega⟩)
 ·rw [hp] at hp'
  injection hp' with hp'
  have e1 : i = i' := by omega
  subst e1
  rw [hw] at hw'; injection hw' with hw'; injection hw' with hw'; subst hw'
  rw [hd] at hd'; injection hd' with hd'; subst hd'
  have := b1 n w hn hwl
  omega
theorem InW.put (hD : DW T D) {d : Nat} {now next : List Int} {p k i : Nat} {wi : List Int} {di : List It × List It} {s : Int} {t : Nat} (h : InW T D W d now next p k) (hp : now[p]? = some (i : Int)) (hw : W[i]? = some (some wi)) (hl : wi.length = d) (hd : D[i]? = some di) (hx : di.2[k]? = some (s, (t : Int))) (ht : W[t]? = some none) : InW T D (W.set t (some (wi ++ [s]))) d now (next ++ [(t : Int)]) p (k + 1) := by
 obtain ⟨b1, b2⟩ := h.bnd' hD hp hw hd hx
 simp only at b1 b2
 have htl := (List.getElem?_eq_some_iff.1 ht).1
 have hit : t ≠ i := fun e => by subst e; rw [hw] at ht; cases ht
 have self : (W.set t (some (wi ++ [s])))[t]? = some (some (wi ++ [s])) := List.getElem?_set_self htl
 have old : ∀ {n : Nat}, n ≠ t → (W.set t (some (wi ++ [s])))[n]? = W[n]? := fun {n} e => List.getElem?_set_ne (fun e' => e e'.symm)
 have back : ∀ {n : Nat} {w : List Int}, (W.set t (some (wi ++ [s])))[n]? = some (some w) → (n = t ∧ w = wi ++ [s]) ∨ (n ≠ t ∧ W[n]? = some (some w)) := fun {n w} hn => by
  by_cases e : n = t
  ·subst e
   rw [self] at hn; injection hn with hn; injection hn with hn
   exact .inl ⟨rfl, hn.symm⟩
  ·rw [old e] at hn; exact .inr ⟨e, hn⟩
 have fwd : ∀ {n : Nat} {w : List Int}, W[n]? = some (some w) → n ≠ t ∧ (W.set t (some (wi ++ [s])))[n]? = some (some w) := fun {n w} hn => by
  have e : n ≠ t := fun e => by subst e; rw [ht] at hn; cases hn
  exact ⟨e, by rw [old e]; exact hn⟩
 have hlen : (wi ++ [s]).length = d + 1 := by simp [hl]
 have of_ : ∀ (m : Nat) x, m ≠ d + 1 → (OfLen (W.set t (some (wi ++ [s]))) m x ↔ OfLen W m x) := fun m x hm => by
  constructor
  ·rintro ⟨n, w, rfl, h1, h2⟩
   rcases back h1 with ⟨rfl, rfl⟩ | ⟨-, h1⟩
   ·exact absurd (by rw [← h2, hlen]) hm
   ·exact ⟨n, w, rfl, h1, h2⟩
  ·rintro ⟨n, w, rfl, h1, h2⟩
   exact ⟨n, w, rfl, (fwd h1).2, h2⟩
 have keyO : ∀ {m : Nat} {x : Int}, OfLen W m x → keyW T (W.set t (some (wi ++ [s]))) x = keyW T W x := fun {m x} hh => by
  obtain ⟨n, w, rfl, h1, -⟩ := hh
  exact keyW_set (fwd h1).1
 have mono : ∀ {w : List Int} {x : It}, GoodT T W w x → GoodT T (W.set t (some (wi ++ [s]))) w x := fun {w x} ⟨t', wt, e1, e2, e3⟩ => ⟨t', wt, e1, (fwd e2).2, e3⟩
 refine ⟨h.som.new hw hd (List.mem_of_getElem? hx) ht, fun i' w dd hw' hd' j x hx' hh => ?_, fun n w hn => ?_, fun x => (h.now_ x).trans (of_ d x (by omega)).symm, fun x => ?_, ?_, ?_, fun n w hn hwl i' wi' di' hp' hw' hd' => ?_, ?_⟩
 ·rcases back hw' with ⟨rfl, rfl⟩ | ⟨hne, hw0⟩
  ·exfalso
   have now_no : ∀ q, now[q]? = some (i' : Int) → False := fun q hq => by
    obtain ⟨n, w, e, h1, -⟩ := (h.now_ _).1 (List.mem_of_getElem? hq)
    have : i' = n := by omega
    subst this
    rw [ht] at h1; cases h1
   rcases hh with hh | ⟨p', -, hh⟩ | ⟨hh, -⟩
   ·omega
   ·exact now_no _ hh
   ·exact now_no _ hh
  ·by_cases e : now[p]? = some (i' : Int) ∧ j = k
   ·obtain ⟨e1, rfl⟩ := e
    rw [hp] at e1
    injection e1 with e1
    have e1 : i = i' := by omega
    subst e1
    rw [hw] at hw0; injection hw0 with hw0; injection hw0 with hw0; subst hw0
    rw [hd] at hd'; injection hd' with hd'; subst hd'
    rw [hx] at hx'; injection hx' with hx'; subst hx'
    exact ⟨t, wi ++ [s], rfl, self, Nat.le_refl _⟩
   ·refine mono (h.closed i' w dd hw0 hd' j x hx' ?_)
    rcases hh with hh | hh | ⟨h1, h2⟩
    ·exact .inl hh
    ·exact .inr (.inl hh)
    ·exact .inr (.inr ⟨h1, by have : j ≠ k := fun e' => e ⟨h1, e'⟩; omega⟩)
 ·rcases back hn with ⟨rfl, rfl⟩ | ⟨-, hn⟩
  ·omega
  ·exact h.lens n w hn
 ·rw [List.mem_append, List.mem_singleton, h.next_]
  constructor
  ·rintro (⟨n, w, rfl, h1, h2⟩ | rfl)
   ·exact ⟨n, w, rfl, (fwd h1).2, h2⟩
   ·exact ⟨t, wi ++ [s], rfl, self, hlen⟩
  ·rintro ⟨n, w, rfl, h1, h2⟩
   rcases back h1 with ⟨rfl, rfl⟩ | ⟨-, h1⟩
   ·exact .inr rfl
   ·exact .inl ⟨n, w, rfl, h1, h2⟩
 ·refine List.Pairwise.imp_of_mem (fun {a b} ha hb hab => ?_) h.sort
  rw [keyO ((h.now_ a).1 ha), keyO ((h.now_ b).1 hb)]
  exact hab
 ·refine List.pairwise_append.2 ⟨List.Pairwise.imp_of_mem (fun {a b} ha hb hab => ?_) h.snext, List.pairwise_singleton _ _, fun a ha b hb => ?_⟩
  ·rw [keyO ((h.next_ a).1 ha), keyO ((h.next_ b).1 hb)]
   exact hab
  ·obtain rfl := List.mem_singleton.1 hb
   have ha' := (h.next_ a).1 ha
   rw [keyO ha', keyW_at self]
   obtain ⟨n, w, rfl, h1, h2⟩ := ha'
   rw [keyW_at h1]
   exact b1 n w h1 h2
 ·rw [hp] at hp'
  injection hp' with hp'
  have e1 : i = i' := by omega
  subst e1
  rw [(fwd hw).2] at hw'; injection hw' with hw'; injection hw' with hw'; subst hw'
  rw [hd] at hd'; injection hd' with hd'; subst hd'
  rcases back hn with ⟨rfl, rfl⟩ | ⟨-, hn⟩
  ·exact b2
  ·have := b1 n w hn hwl
   omega
 ·rw [cnt_new ht]
  have := h.cnt
  simp only [List.length_append, List.length_singleton]
  omega
theorem InW.row (hD : DW T D) {d : Nat} {now next : List Int} {p k i : Nat} {wi : List Int} {di : List It × List It} (h : InW T D W d now next p k) (hp : now[p]? = some (i : Int)) (hw : W[i]? = some (some wi)) (hd : D[i]? = some di) (hk : di.2.length ≤ k) : InW T D W d now next (p + 1) 0 := by
 refine ⟨h.som, fun i' w dd hw' hd' j x hx' hh => ?_, h.lens, h.now_, h.next_, h.sort, h.snext, fun n w hn hwl i' wi' di' hp' hw' hd' => ?_, h.cnt⟩
 ·refine h.closed i' w dd hw' hd' j x hx' ?_
  rcases hh with hh | ⟨p', h1, h2⟩ | ⟨-, h2⟩
  ·exact .inl hh
  ·by_cases e : p' = p
   ·subst e
    rw [hp] at h2
    injection h2 with h2
    have e1 : i = i' := by omega
    subst e1
    rw [hd] at hd'; injection hd' with hd'; subst hd'
    exact .inr (.inr ⟨hp, by have := (List.getElem?_eq_some_iff.1 hx').1; omega⟩)
   ·exact .inr (.inl ⟨p', by omega, h2⟩)
  ·omega
 ·have h1 := h.bnd n w hn hwl i wi di hp hw hd
  rw [List.getElem?_eq_none hk] at h1
  simp only at h1
  obtain ⟨a1, a2⟩ := List.getElem?_eq_some_iff.1 hp
  obtain ⟨c1, c2⟩ := List.getElem?_eq_some_iff.1 hp'
  have h2 := (List.pairwise_iff_getElem.1 h.sort) p (p + 1) a1 c1 (by omega)
  rw [a2, c2, keyW_at hw, keyW_at hw'] at h2
  have h3 : (nm T wi + 1) * (T + 1) ≤ nm T wi' * (T + 1) := Nat.mul_le_mul_right _ h2
  rw [Nat.add_mul, Nat.one_mul] at h3
  exact Nat.lt_of_lt_of_le h1 (Nat.le_trans h3 (Nat.le_add_right _ _))
theorem InW.out {d : Nat} {now next : List Int} {p k : Nat} (h : InW T D W d now next p k) (hp : now.length ≤ p) (h0 : 0 < now.length) : LevW T D W (d + 1) next := by
 refine ⟨h.som, fun i w dd hw hd hl j x hx => ?_, h.lens, h.next_, h.snext, by have := h.cnt; omega⟩
 refine h.closed i w dd hw hd j x hx ?_
 by_cases e : w.length = d
 ·have hm := (h.now_ (i : Int)).2 ⟨i, w, rfl, hw, e⟩
  obtain ⟨q, hq, e'⟩ := List.getElem_of_mem hm
  exact .inr (.inl ⟨q, by omega, by rw [List.getElem?_eq_getElem hq, e']⟩)
 ·exact .inl (by omega)
theorem LevW.lt {d : Nat} {now : List Int} (h : LevW T D W d now) (h0 : 0 < now.length) : d < D.length := by
 have h1 := h.cnt
 have h2 := cnt_le W
 have h3 := h.som.len
 omega
end
end
section
def wayR (L : List (List Int)) (i : Int) : Bool × List Int := if 0 ≤ i ∧ i < (L.length : Int) then (true, (L[i.toNat]?).getD []) else (false, [])
def textR (L : List (List Int)) (S : List FoundD) (i : Int) : Bool × List Int := if (wayR L i).1 = true then ((joinOf S (wayR L i).2).is && !(joinOf S (wayR L i).2).long, (joinOf S (wayR L i).2).l) else (false, [])
def witR (L : List (List Int)) (S : List FoundD) (st tm : Int) : Bool × List Int := if (textR L S st).1 = true ∧ tm ≠ 0 then (true, (textR L S st).2 ++ [tm]) else textR L S st
theorem wayR_out {L : List (List Int)} {i : Int} (h : ¬ (0 ≤ i ∧ i < (L.length : Int))) : wayR L i = (false, []) := by unfold wayR; rw [if_neg h]
theorem wayR_in {L : List (List Int)} {k : Nat} {l : List Int} (h : L[k]? = some l) : wayR L (k : Int) = (true, l) := by
 have hk := (List.getElem?_eq_some_iff.1 h).1
 unfold wayR
 rw [if_pos ⟨by omega, by omega⟩, Int.toNat_natCast, h]; rfl
theorem joinOf_no {S : List FoundD} {l : List Int} (h : ((joinOf S l).is && !(joinOf S l).long) = false) : (joinOf S l).l = [] := by
 unfold joinOf at h ⊢
 split at h
 ·rename_i hc
  rw [if_pos hc]
  simp only at h ⊢
  cases e : (jTo S l).1 with
  | true => rfl
  | false => rw [e] at h; simp at h
 ·rename_i hc
  rw [if_neg hc]; rfl
theorem joinOf_len {T : Nat} {S : List FoundD} (h : GoodS T S) (l : List Int) : (joinOf S l).l.length ≤ 4096 := by
 unfold joinOf
 split
 ·simp only
  split
  ·simp
  ·exact (jTo_good h l).1
 ·simp [noFound]
theorem textR_no {L : List (List Int)} {S : List FoundD} {i : Int} (h : (textR L S i).1 = false) : (textR L S i).2 = [] := by
 unfold textR at h ⊢
 split at h
 ·rename_i hc
  rw [if_pos hc]
  exact joinOf_no h
 ·rename_i hc
  rw [if_neg hc]
end
end Go.Proofs.YtlpokomfljmogaaGreat

/- A region that draws, whose reads may come late: reads that yield the same in every world that meets S, then calls, allocations behind each of which S is shown anew, then what all wait for, in one order. Of no program. No condition. -/
import Derived.Test.YtlpokomfljmogaaRegion
import Derived.OrdersHeld
namespace Go.Proofs.Ytlpokomfljmogaa
set_option linter.unusedVariables false
attribute [local irreducible] wpStill

section
variable {P : Program} {ops : Array Oper} {md : Region.Mode} {S : World → Prop} {Q : Exit → Act → World → Prop}

/-- whatever comes up of those below m; S behind each; L behind all -/
def wpHd (P : Program) (md : Region.Mode) (ops : Array Oper) (Q : Exit → Act → World → Prop) (S : World → Prop) (m : Nat) (L : Array Bool → Act → World → Prop) : Nat → Array Bool → Act → World → Prop
  | 0, listed, a, w => L listed a w
  | f + 1, listed, a, w => Region.ready md ops listed ≠ [] ∧ ∀ j ∈ Region.ready md ops listed, j < m ∧ wpOp P ops Q j (fun a' w' => S w' ∧ wpHd P md ops Q S m L f (listed.setIfInBounds j true) a' w') a w

theorem wpAny_of_hd {m g : Nat} {L : Array Bool → Act → World → Prop} (hL : ∀ listed a w, L listed a w → wpAny P md ops Q g listed a w) :
    ∀ (f : Nat) (listed : Array Bool) (a : Act) (w : World), wpHd P md ops Q S m L f listed a w → wpAny P md ops Q (f + g) listed a w
  | 0, listed, a, w, h => by rw [Nat.zero_add]; exact hL _ _ _ h
  | f + 1, listed, a, w, h => by
    rw [show f + 1 + g = (f + g) + 1 by omega]
    exact ⟨fun h0 => absurd h0 h.1, fun i hi => wpOp_mono (fun a' w' h' => wpAny_of_hd hL f _ a' w' h'.2) (h.2 i hi).2⟩

theorem wpHd_first {m i : Nat} {oi : Oper} {v : Value} {L : Array Bool → Act → World → Prop} (hi : ops[i]? = some oi) (hsel : ∀ (j : Nat) (o : Oper) cs b, ops[j]? = some o → o.op ≠ .select cs b)
    (hQ : ∀ c a w, Q (.panic c) (a.put oi.dst v) w → Q (.panic c) a w) (hs : sinkS md ops 0 m = true) (hc : depB md ops m = true) (hm : m < ops.size) (him : i < m)
    (hdone : ∀ listed a w, L listed a w → ∀ j ∈ Region.ready md ops listed, m ≤ j) :
    ∀ (f : Nat) (listed : Array Bool) (a : Act) (w : World), HeadInv md ops m listed →
      (∀ j oj, ops[j]? = some oj → j ≠ i → listed.getD j true = false → (∀ e ∈ oj.after, Region.binds md e = true → e.on ≠ i) → oi.apart ops oj = true) →
      i ∈ Region.ready md ops listed → YieldsIf P ops S oi v a → S w →
      wpHd P md ops Q S m L f (listed.setIfInBounds i true) (a.put oi.dst v) w → wpHd P md ops Q S m L (f + 1) listed a w := by
  intro f
  induction f with
  | zero =>
    intro listed a w inv _ hr hy hS H
    have hun := (mem_ready.1 hr).1
    refine ⟨fun h => (by rw [h] at hr; cases hr), fun j hj => ?_⟩
    have hjm : j < m := by
      rcases Nat.lt_or_ge j m with h | h
      · exact h
      · exact absurd hj (tail_waits' (w := w) hs hc hm inv _ i rfl (Nat.zero_le _) him hun j h)
    refine ⟨hjm, ?_⟩
    by_cases hji : j = i
    · subst hji; exact hy.wpOp hi hS ⟨hS, H⟩
    · have := hdone _ _ _ H j (ready_mono hj hji)
      omega
  | succ f ih =>
    intro listed a w inv hfree hr hy hS H
    have hun := (mem_ready.1 hr).1
    refine ⟨fun h => (by rw [h] at hr; cases hr), fun j hj => ?_⟩
    have hjm : j < m := by
      rcases Nat.lt_or_ge j m with h | h
      · exact h
      · exact absurd hj (tail_waits' (w := w) hs hc hm inv _ i rfl (Nat.zero_le _) him hun j h)
    refine ⟨hjm, ?_⟩
    by_cases hji : j = i
    · subst hji; exact hy.wpOp hi hS ⟨hS, H⟩
    · have h1 := (H.2 j (ready_mono hj hji)).2
      obtain ⟨hjun, oj, hoj, hall⟩ := mem_ready.1 hj
      have hnot : ∀ e ∈ oj.after, Region.binds md e = true → e.on ≠ i := fun e he hb heq => by
        have h1 := hall e he hb
        rw [heq, getD_both hun] at h1
        cases h1
      have h2 := wpOp_putIf hoj (hfree j oj hoj hji hjun hnot) (fun cs b => hsel i oi cs b hi) (fun cs b => hsel j oj cs b hoj) hQ hy h1
      have hfree' : ∀ k ok, ops[k]? = some ok → k ≠ i → (listed.setIfInBounds j true).getD k true = false →
          (∀ e ∈ ok.after, Region.binds md e = true → e.on ≠ i) → oi.apart ops ok = true := fun k ok hk hki hun hno => by
        refine hfree k ok hk hki ?_ hno
        by_cases hjk : j = k
        · subst hjk; exact hjun
        · rw [getD_set_ne true hjk] at hun; exact hun
      refine wpOp_mono (fun a' w' h3 => ⟨h3.2.1, ih (listed.setIfInBounds j true) a' w' (inv.set hj hjm) hfree' (ready_mono hr (Ne.symm hji)) h3.1 h3.2.1 ?_⟩) h2
      rw [Array.setIfInBounds_comm _ _ hji]
      exact h3.2.2

/-- reads, each of which yields the same in every world that meets S -/
def wpHeld (P : Program) (ops : Array Oper) (S : World → Prop) (K : Act → Prop) : List Oper → Act → Prop
  | [], a => K a
  | o :: t, a => ∃ v, YieldsIf P ops S o v a ∧ wpHeld P ops S K t (a.put o.dst v)
/-- operations in one order, S behind each -/
def wpMid (P : Program) (ops : Array Oper) (Q : Exit → Act → World → Prop) (S : World → Prop) (rest : List Oper) : List Oper → Act → World → Prop
  | [], a, w => wpList P ops Q rest a w
  | o :: t, a, w => wpOne P ops Q o (fun a' w' => S w' ∧ wpMid P ops Q S rest t a' w') a w

/-- so many come up alone, one behind another -/
def aloneB (md : Region.Mode) (ops : Array Oper) : Nat → Nat → Array Bool → Bool
  | 0, _, _ => true
  | m + 1, k, listed => decide (Region.ready md ops listed = [k]) && aloneB md ops m (k + 1) (listed.setIfInBounds k true)
def lateB (ops : Array Oper) (n m : Nat) : Bool :=
  Region.noSelect ops && decide (n ≤ m) && decide (m < ops.size) && sinkS .any ops 0 m && depB .any ops m && rdB .any ops n 0 (Array.replicate ops.size false) && aloneB .any ops (m - n) n (setN n 0 (Array.replicate ops.size false)) &&
    decide (Region.ready .any ops (setN (m - n) n (setN n 0 (Array.replicate ops.size false))) = [m]) && Region.seqB .any ops (ops.size - m) m (setN (m - n) n (setN n 0 (Array.replicate ops.size false)))

theorem wpHd_mid {m : Nat} {rest : List Oper} {l2 : Array Bool} : ∀ (l : List Oper) (k : Nat) (listed : Array Bool) (a : Act) (w : World), (∀ j, j < l.length → l[j]? = ops[k + j]?) → k + l.length ≤ m → setN l.length k listed = l2 → aloneB md ops l.length k listed = true →
    wpMid P ops Q S rest l a w → wpHd P md ops Q S m (fun listed' a' w' => listed' = l2 ∧ wpList P ops Q rest a' w') l.length listed a w
  | [], k, listed, a, w, _, _, he, _, h => ⟨he, h⟩
  | o :: l, k, listed, a, w, hl, hk, he, hB, h => by
    have h0 : ops[k]? = some o := by simpa using (hl 0 (by simp)).symm
    simp only [List.length_cons, aloneB, Bool.and_eq_true, decide_eq_true_eq] at hB
    simp only [List.length_cons] at hk
    refine ⟨fun e => (by rw [hB.1] at e; cases e), fun j hj => ?_⟩
    rw [hB.1] at hj
    have : j = k := by simpa using hj
    subst this
    refine ⟨by omega, wpOp_of_one h0 (fun a2 w2 h2 => ⟨h2.1, ?_⟩) h⟩
    exact wpHd_mid l (j + 1) _ a2 w2 (fun i hi => by have := hl (i + 1) (by simp; omega); simpa [Nat.add_assoc, Nat.add_comm 1 i] using this) (by omega) (by simpa [setN] using he) hB.2 h2.2
theorem wpHd_held {m r : Nat} {L : Array Bool → Act → World → Prop} {w : World} (hsel : Region.noSelect ops = true) (hQ : ∀ c a a' w, Q (.panic c) a w → Q (.panic c) a' w) (hs : sinkS md ops 0 m = true) (hc : depB md ops m = true) (hm : m < ops.size)
    (hdone : ∀ listed a w, L listed a w → ∀ j ∈ Region.ready md ops listed, m ≤ j) (hS : S w) {l2 : Array Bool} :
    ∀ (l : List Oper) (k : Nat) (listed : Array Bool) (a : Act), (∀ j, j < l.length → l[j]? = ops[k + j]?) → k + l.length ≤ m → HeadInv md ops m listed → setN l.length k listed = l2 → rdB md ops l.length k listed = true →
      wpHeld P ops S (fun a' => wpHd P md ops Q S m L r l2 a' w) l a → wpHd P md ops Q S m L (l.length + r) listed a w
  | [], k, listed, a, _, _, _, he, _, h => by
    have he' : listed = l2 := he
    subst he'
    rw [List.length_nil, Nat.zero_add]
    exact h
  | o :: l, k, listed, a, hl, hk, inv, he, hB, h => by
    have h0 : ops[k]? = some o := by simpa using (hl 0 (by simp)).symm
    simp only [List.length_cons, rdB, Bool.and_eq_true] at hB
    simp only [List.length_cons] at hk
    obtain ⟨⟨hr, hf⟩, hB'⟩ := hB
    obtain ⟨v, hy, hK⟩ := h
    have hr' : k ∈ Region.ready md ops listed := by simpa using hr
    rw [List.length_cons, show l.length + 1 + r = (l.length + r) + 1 by omega]
    refine wpHd_first h0 (Region.noSelect_spec hsel) (fun c a w h => hQ c _ _ w h) hs hc hm (by omega) hdone _ listed a w inv (Region.free_spec h0 hf) hr' hy hS ?_
    exact wpHd_held hsel hQ hs hc hm hdone hS l (k + 1) _ _ (fun i hi => by have := hl (i + 1) (by simp; omega); simpa [Nat.add_assoc, Nat.add_comm 1 i] using this) (by omega) (inv.set hr' (by omega)) (by simpa [setN] using he) hB' hK
end

/-- S names the cells that the n reads read; behind what is number n .. m - 1, S anew; no panic -/
theorem region_late {P : Program} {id : Nat} {Q : Exit → Act → World → Prop} {a : Act} {w : World} {l : List Oper} (S : World → Prop) (n m : Nat) (hm : P.follows .mixedOrders = true) (hB : lateB l.toArray n m = true) (hS : S w.drew)
    (h : wpHeld P l.toArray S (fun a' => wpMid P l.toArray (NoPanic Q) S (l.drop m) ((l.take m).drop n) a' w.drew) (l.take n) a) : (Code.region id l.toArray true).wp P Q a w := by
  refine wp_region_noPanic ?_
  simp only [lateB, Bool.and_eq_true, decide_eq_true_eq] at hB
  obtain ⟨⟨⟨⟨⟨⟨⟨⟨hsel, hnm⟩, hms⟩, hsk⟩, hdp⟩, hrd⟩, hal⟩, hrl⟩, hsq⟩ := hB
  have hms' : m < l.length := by simpa using hms
  have htl : (l.take n).length = n := by simp; omega
  have hml : ((l.take m).drop n).length = m - n := by simp; omega
  refine wp_region_any hm ?_
  have inv0 : HeadInv .any l.toArray m (Array.replicate l.toArray.size false) :=
    ⟨by simp, fun j oj _ hl => (by rw [getD_replicate_false] at hl; cases hl), fun t _ ht => getD_in (by simpa using ht) (getD_replicate_false _ _)⟩
  have hL : ∀ (listed : Array Bool) (a : Act) (w : World), (listed = setN (m - n) n (setN n 0 (Array.replicate l.toArray.size false)) ∧ wpList P l.toArray (NoPanic Q) (l.drop m) a w) → wpAny P .any l.toArray (NoPanic Q) (l.drop m).length listed a w := fun listed a w h => by
    obtain ⟨rfl, h⟩ := h
    refine wpAny_of_seq (l.drop m) m _ a w (fun j => by rw [List.getElem?_drop]; simp) ?_ h
    rw [show (l.drop m).length = l.toArray.size - m by simp]
    exact hsq
  have H := wpHd_held (md := .any) (P := P) (Q := NoPanic Q) (S := S) (w := w.drew) (m := m) (r := m - n) (L := fun listed a w => listed = setN (m - n) n (setN n 0 (Array.replicate l.toArray.size false)) ∧ wpList P l.toArray (NoPanic Q) (l.drop m) a w) hsel (fun c a a' w h => h) hsk hdp hms
    (fun listed a w hl j hj => by rw [hl.1, hrl] at hj; have : j = m := by simpa using hj
                                  omega) hS (l.take n) 0 (Array.replicate l.toArray.size false) a (fun j hj => by rw [htl] at hj; rw [List.getElem?_take_of_lt hj]; simp) (by rw [htl]; omega) inv0 rfl (by rw [htl]; exact hrd) (by
      rw [htl]
      have mono : ∀ (l' : List Oper) (a : Act) (K K' : Act → Prop), (∀ a, K a → K' a) → wpHeld P l.toArray S K l' a → wpHeld P l.toArray S K' l' a := by
        intro l'
        induction l' with
        | nil => intro a K K' hk h; exact hk a h
        | cons o t ih => intro a K K' hk h; obtain ⟨v, h1, h2⟩ := h; exact ⟨v, h1, ih _ K K' hk h2⟩
      refine mono _ _ _ _ (fun a' h' => ?_) h
      have := wpHd_mid (md := .any) (m := m) (l2 := setN (m - n) n (setN n 0 (Array.replicate l.toArray.size false))) ((l.take m).drop n) n (setN n 0 (Array.replicate l.toArray.size false)) a' w.drew (fun j hj => by
        rw [hml] at hj
        rw [List.getElem?_drop, List.getElem?_take_of_lt (by omega)]; simp) (by rw [hml]; omega) (by rw [hml]) (by rw [hml]; exact hal) h'
      rw [hml] at this
      exact this)
  have := wpAny_of_hd hL _ _ _ _ H
  rw [htl, show n + (m - n) + (l.drop m).length = l.toArray.size by simp; omega] at this
  exact this

theorem wpHeld_nil {P : Program} {ops : Array Oper} {S : World → Prop} {K : Act → Prop} {a : Act} (h : K a) : wpHeld P ops S K [] a := h
theorem wpHeld_cons {P : Program} {ops : Array Oper} {S : World → Prop} {K : Act → Prop} {a : Act} {o : Oper} {t : List Oper} (v : Value) (hw : Region.wanted o (yielded ops a.tmps) = true) (hy : ∀ w, S w → (execOp a.eval o).run P w = .ok (.value v) w) (h : wpHeld P ops S K t (a.put o.dst v)) : wpHeld P ops S K (o :: t) a := ⟨v, .inl ⟨hw, hy⟩, h⟩
theorem wpMid_nil {P : Program} {ops : Array Oper} {Q : Exit → Act → World → Prop} {S : World → Prop} {rest : List Oper} {a : Act} {w : World} (h : wpList P ops Q rest a w) : wpMid P ops Q S rest [] a w := h
theorem wpMid_cons {P : Program} {ops : Array Oper} {Q : Exit → Act → World → Prop} {S : World → Prop} {rest : List Oper} {a : Act} {w : World} {o : Oper} {t : List Oper} (h : wpList P ops (Exit.then (fun a' w' => S w' ∧ wpMid P ops Q S rest t a' w') Q) [o] a w) : wpMid P ops Q S rest (o :: t) a w := h
end Go.Proofs.Ytlpokomfljmogaa

/- A region that draws, in phases: reads in whatever order, then one operation that the rest waits for, and so on. Of no program. No condition. -/
import Derived.Test.YtlpokomfljmogaaBase
namespace Go.Proofs.Ytlpokomfljmogaa
set_option linter.unusedVariables false

section
variable {P : Program} {ops : Array Oper} {md : Region.Mode}

def sinkS (md : Region.Mode) (ops : Array Oper) (s n : Nat) : Bool :=
  (List.range n).all fun i => decide (i < s) || (List.range (n + 1)).any fun j => decide (i < j) && Region.waitsFor md ops j i
def depB (md : Region.Mode) (ops : Array Oper) (n : Nat) : Bool :=
  (List.range ops.size).all fun t => decide (t ≤ n) || (List.range t).any fun i => decide (n ≤ i) && Region.waitsFor md ops t i

/-- between two phases: just those below s have come up -/
structure PhInv (ops : Array Oper) (s : Nat) (listed : Array Bool) : Prop where
  size : listed.size = ops.size
  low : ∀ j, j < s → j < ops.size → listed.getD j false = true
  high : ∀ t, s ≤ t → t < ops.size → listed.getD t true = false

theorem tail_waits' {w : World} {s n : Nat} {listed : Array Bool} (hs : sinkS md ops s n = true) (hc : depB md ops n = true) (hn : n < ops.size) (inv : HeadInv md ops n listed) :
    ∀ (d i : Nat), n - i = d → s ≤ i → i < n → listed.getD i true = false → ∀ t, n ≤ t → t ∉ Region.ready md ops listed := by
  intro d
  induction d using Nat.strongRecOn with
  | _ d ih =>
    intro i hd hsi hi hun t ht hr
    obtain ⟨_, ot, hot, hall⟩ := mem_ready.1 hr
    have htlt : t < ops.size := (Array.getElem?_eq_some_iff.1 hot).1
    by_cases htn : t = n
    · subst htn
      have h1 := List.all_eq_true.1 hs i (List.mem_range.2 hi)
      rw [Bool.or_eq_true] at h1
      rcases h1 with h1 | h1
      · have := of_decide_eq_true h1; omega
      obtain ⟨j, hj, hj2⟩ := List.any_eq_true.1 h1
      simp only [Bool.and_eq_true, decide_eq_true_eq] at hj2
      obtain ⟨oj, hoj, e, he, hb, hon⟩ := Region.waitsFor_spec hj2.2
      have hjle : j ≤ t := by have := List.mem_range.1 hj; omega
      by_cases hjt : j = t
      · subst hjt
        have : oj = ot := Option.some.inj (hoj.symm.trans hot)
        subst this
        have h2 := hall e he hb
        rw [hon, getD_both hun] at h2
        cases h2
      · cases hl : listed.getD j false with
        | true =>
          have h2 := inv.closed j oj hoj hl e he hb
          rw [hon, getD_both hun] at h2
          cases h2
        | false =>
          have hjs : j < listed.size := by rw [inv.size]; omega
          exact ih (t - j) (by omega) j rfl (by omega) (by omega) (getD_in hjs hl) t (Nat.le_refl _) hr
    · have h1 := List.all_eq_true.1 hc t (List.mem_range.2 htlt)
      simp only [Bool.or_eq_true, decide_eq_true_eq] at h1
      rcases h1 with h1 | h1
      · omega
      · obtain ⟨j, hj, hj2⟩ := List.any_eq_true.1 h1
        simp only [Bool.and_eq_true, decide_eq_true_eq] at hj2
        obtain ⟨o', ho', e, he, hb, hon⟩ := Region.waitsFor_spec hj2.2
        have : o' = ot := Option.some.inj (ho'.symm.trans hot)
        subst this
        have h2 := hall e he hb
        have hjt := List.mem_range.1 hj
        rw [hon, getD_both (inv.tail j (by omega) (by omega))] at h2
        cases h2

theorem wpAnyL_first' {w : World} {s n i : Nat} {oi : Oper} {v : Value} {L : Array Bool → Act → Prop} (hi : ops[i]? = some oi) (hsel : ∀ (j : Nat) (o : Oper) cs b, ops[j]? = some o → o.op ≠ .select cs b)
    (hs : sinkS md ops s n = true) (hc : depB md ops n = true) (hn : n < ops.size) (hin : i < n) (hsi : s ≤ i)
    (hdone : ∀ listed a, L listed a → ∀ j ∈ Region.ready md ops listed, n ≤ j) :
    ∀ (f : Nat) (listed : Array Bool) (a : Act), HeadInv md ops n listed →
      (∀ j oj, ops[j]? = some oj → j ≠ i → listed.getD j true = false → (∀ e ∈ oj.after, Region.binds md e = true → e.on ≠ i) → oi.apart ops oj = true) →
      i ∈ Region.ready md ops listed → YieldsAt P ops w oi v a →
      wpAnyL P md ops w n L f (listed.setIfInBounds i true) (a.put oi.dst v) → wpAnyL P md ops w n L (f + 1) listed a := by
  intro f
  induction f with
  | zero =>
    intro listed a inv _ hr hy H
    have hun := (mem_ready.1 hr).1
    refine ⟨fun h => (by rw [h] at hr; cases hr), fun j hj => ?_⟩
    have hjn : j < n := by
      rcases Nat.lt_or_ge j n with h | h
      · exact h
      · exact absurd hj (tail_waits' (w := w) hs hc hn inv _ i rfl hsi hin hun j h)
    refine ⟨hjn, ?_⟩
    by_cases hji : j = i
    · subst hji; exact hy.stOp hi H
    · have := hdone _ _ H j (ready_mono hj hji)
      omega
  | succ f ih =>
    intro listed a inv hfree hr hy H
    have hun := (mem_ready.1 hr).1
    refine ⟨fun h => (by rw [h] at hr; cases hr), fun j hj => ?_⟩
    have hjn : j < n := by
      rcases Nat.lt_or_ge j n with h | h
      · exact h
      · exact absurd hj (tail_waits' (w := w) hs hc hn inv _ i rfl hsi hin hun j h)
    refine ⟨hjn, ?_⟩
    by_cases hji : j = i
    · subst hji; exact hy.stOp hi H
    · have h1 := (H.2 j (ready_mono hj hji)).2
      obtain ⟨hjun, oj, hoj, hall⟩ := mem_ready.1 hj
      have hnot : ∀ e ∈ oj.after, Region.binds md e = true → e.on ≠ i := fun e he hb heq => by
        have h1 := hall e he hb
        rw [heq, getD_both hun] at h1
        cases h1
      have h2 := stOp_put hoj (hfree j oj hoj hji hjun hnot) (fun cs b => hsel i oi cs b hi) (fun cs b => hsel j oj cs b hoj) hy h1
      have hfree' : ∀ k ok, ops[k]? = some ok → k ≠ i → (listed.setIfInBounds j true).getD k true = false →
          (∀ e ∈ ok.after, Region.binds md e = true → e.on ≠ i) → oi.apart ops ok = true := fun k ok hk hki hun hno => by
        refine hfree k ok hk hki ?_ hno
        by_cases hjk : j = k
        · subst hjk; exact hjun
        · rw [getD_set_ne true hjk] at hun; exact hun
      refine stOp_mono (fun a' h3 => ih (listed.setIfInBounds j true) a' (inv.set hj hjn) hfree' (ready_mono hr (Ne.symm hji)) h3.1 ?_) h2
      rw [Array.setIfInBounds_comm _ _ hji]
      exact h3.2

/-- m operations from k on, each free to be taken first -/
def rdB (md : Region.Mode) (ops : Array Oper) : Nat → Nat → Array Bool → Bool
  | 0, _, _ => true
  | m + 1, k, listed => (Region.ready md ops listed).contains k && Region.free md ops listed k && rdB md ops m (k + 1) (listed.setIfInBounds k true)
def setN : Nat → Nat → Array Bool → Array Bool
  | 0, _, listed => listed
  | m + 1, k, listed => setN m (k + 1) (listed.setIfInBounds k true)
/-- how long the phases are; behind the last one all come up in one order -/
def phB (md : Region.Mode) (ops : Array Oper) : List Nat → Nat → Array Bool → Bool
  | [], k, listed => Region.seqB md ops (ops.size - k) k listed
  | m :: ms, k, listed => decide (k + m < ops.size) && sinkS md ops k (k + m) && depB md ops (k + m) && rdB md ops m k listed && decide (Region.ready md ops (setN m k listed) = [k + m]) &&
    phB md ops ms (k + m + 1) ((setN m k listed).setIfInBounds (k + m) true)

theorem wpAnyL_lex' {w : World} {s n : Nat} {Lq : Act → Prop} (hsel : Region.noSelect ops = true) (hs : sinkS md ops s n = true) (hc : depB md ops n = true) (hn : n < ops.size) (l2 : Array Bool) (hl2 : Region.ready md ops l2 = [n]) :
    ∀ (l : List Oper) (k : Nat) (listed : Array Bool) (a : Act), (∀ j, j < l.length → l[j]? = ops[k + j]?) → k + l.length = n → s ≤ k → HeadInv md ops n listed → setN l.length k listed = l2 →
    rdB md ops l.length k listed = true → wpStill P ops w Lq l a →
    wpAnyL P md ops w n (fun listed' a' => listed' = l2 ∧ Lq a') l.length listed a
  | [], k, listed, a, _, hk, _, _, he, hB, h => ⟨he, h⟩
  | o :: l, k, listed, a, hl, hk, hsk, inv, he, hB, h => by
    have h0 : ops[k]? = some o := by simpa using (hl 0 (by simp)).symm
    simp only [List.length_cons, rdB, Bool.and_eq_true] at hB
    obtain ⟨⟨hr, hf⟩, hB'⟩ := hB
    have hkn : k < n := by simp only [List.length_cons] at hk; omega
    have hr' : k ∈ Region.ready md ops listed := by simpa using hr
    have hst : stOp P ops w k (wpStill P ops w Lq l) a := by unfold stOp; simp only [h0]; exact h
    obtain ⟨v, hy, hK⟩ := yieldsAt_of_stOp h0 hst
    exact wpAnyL_first' h0 (Region.noSelect_spec hsel) hs hc hn hkn hsk (fun listed' a' hL j hj => by rw [hL.1, hl2] at hj; have : j = n := by simpa using hj
                                                                                                      omega) l.length listed a inv (Region.free_spec h0 hf) hr' hy
      (wpAnyL_lex' hsel hs hc hn l2 hl2 l (k + 1) _ _ (fun j hj => by have := hl (j + 1) (by simp; omega); simpa [Nat.add_assoc, Nat.add_comm 1 j] using this) (by simp only [List.length_cons] at hk; omega) (by omega) (inv.set hr' hkn) (by simpa [setN] using he) hB' hK)

theorem setN_size : ∀ (m k : Nat) (listed : Array Bool), (setN m k listed).size = listed.size
  | 0, _, _ => rfl
  | m + 1, k, listed => by unfold setN; rw [setN_size]; simp
theorem setN_getD : ∀ (m k : Nat) (listed : Array Bool) (j : Nat) (d : Bool), k + m ≤ listed.size → (setN m k listed).getD j d = if k ≤ j ∧ j < k + m then true else listed.getD j d
  | 0, k, listed, j, d, _ => by rw [if_neg (by omega)]; rfl
  | m + 1, k, listed, j, d, h => by
    unfold setN
    rw [setN_getD m (k + 1) _ j d (by simp; omega)]
    by_cases h1 : k + 1 ≤ j ∧ j < k + 1 + m
    · rw [if_pos h1, if_pos (by omega)]
    · rw [if_neg h1]
      by_cases h2 : j = k
      · subst h2
        rw [if_pos (by omega)]
        have : j < listed.size := by omega
        simp [this]
      · rw [if_neg (by omega), getD_set_ne d (by omega)]

/-- one operation, then what follows -/
def wpOne (P : Program) (ops : Array Oper) (Q : Exit → Act → World → Prop) (o : Oper) (K : Act → World → Prop) (a : Act) (w : World) : Prop := wpList P ops (Exit.then K Q) [o] a w
def wpPh (P : Program) (ops : Array Oper) (Q : Exit → Act → World → Prop) : List Nat → List Oper → Act → World → Prop
  | [], l, a, w => wpList P ops Q l a w
  | m :: ms, l, a, w => wpStill P ops w (fun a' => match l.drop m with | [] => False | o :: rest => wpOne P ops Q o (wpPh P ops Q ms rest) a' w) (l.take m) a

theorem wpOp_of_one {Q : Exit → Act → World → Prop} {i : Nat} {o : Oper} {K K' : Act → World → Prop} {a : Act} {w : World} (hi : ops[i]? = some o) (hK : ∀ a w, K a w → K' a w) (h : wpOne P ops Q o K a w) : wpOp P ops Q i K' a w := by
  unfold wpOne wpList at h
  unfold wpOp
  simp only [hi]
  split at h
  · rename_i hw
    rw [if_pos hw]
    rcases h with h | ⟨ha, hlet⟩
    · refine .inl ?_
      unfold Oper.wp at *
      generalize (execOp a.eval o).run P w = r at *
      cases r with
      | ok n w' =>
        cases n <;> simp only [Oper.upon] at h ⊢
        case enter f args =>
          refine Calls.mono h fun e w'' he => ?_
          cases e with
          | returned u => exact hK _ _ he
          | panicked c => exact he
          | outgrown => exact he
        case row row args => exact Rows.mono h fun u w'' he => hK _ _ he
        all_goals first | exact hK _ _ h | exact h
      | halt x w' => cases x <;> simp only [Oper.upon] at h ⊢ <;> exact h
    · exact .inr ⟨ha, hlet⟩
  · rename_i hw
    rw [if_neg hw]
    exact hK _ _ h

theorem PhInv.head {s n : Nat} {listed : Array Bool} (inv : PhInv ops s listed) (hsn : s ≤ n) (hclosed : ∀ j oj, ops[j]? = some oj → j < s → ∀ e ∈ oj.after, Region.binds md e = true → e.on < s) (hs : s ≤ ops.size) : HeadInv md ops n listed := by
  refine ⟨inv.size, fun j oj hj hl e he hb => ?_, fun t ht ht' => inv.high t (by omega) ht'⟩
  have hjl : j < ops.size := (Array.getElem?_eq_some_iff.1 hj).1
  rcases Nat.lt_or_ge j s with h | h
  · have := hclosed j oj hj h e he hb
    exact inv.low _ this (by omega)
  · rw [getD_both (inv.high j h hjl)] at hl; cases hl

theorem wpAny_phases {Q : Exit → Act → World → Prop} (hsel : Region.noSelect ops = true) (hcl : ∀ j oj, ops[j]? = some oj → ∀ e ∈ oj.after, Region.binds md e = true → e.on < j) :
    ∀ (ms : List Nat) (l : List Oper) (k : Nat) (listed : Array Bool) (a : Act) (w : World), (∀ j, l[j]? = ops[k + j]?) → k + l.length = ops.size → PhInv ops k listed → phB md ops ms k listed = true → wpPh P ops Q ms l a w →
      wpAny P md ops Q l.length listed a w
  | [], l, k, listed, a, w, hl, hk, inv, hB, h => wpAny_of_seq l k listed a w hl (by have : ops.size - k = l.length := by omega
                                                                                     rw [← this]; exact hB) h
  | m :: ms, l, k, listed, a, w, hl, hk, inv, hB, h => by
    simp only [phB, Bool.and_eq_true, decide_eq_true_eq] at hB
    obtain ⟨⟨⟨⟨⟨hn, hs⟩, hd⟩, hr⟩, hr2⟩, hB'⟩ := hB
    have hml : m < l.length := by omega
    have htl : (l.take m).length = m := by simp; omega
    have hdl : l.drop m = l[m] :: l.drop (m + 1) := List.drop_eq_getElem_cons hml
    have ho : ops[k + m]? = some l[m] := by rw [← hl m]; simp [hml]
    have H := wpAnyL_lex' (md := md) (P := P) (w := w) hsel hs hd hn (setN m k listed) hr2 (l.take m) k listed a
      (fun j hj => by rw [htl] at hj; rw [List.getElem?_take_of_lt hj]; exact hl j) (by rw [htl]) (Nat.le_refl _)
      (inv.head (by omega) (fun j oj hj hjk e he hb => by have := hcl j oj hj e he hb; omega) (by omega)) (by rw [htl]) (by rw [htl]; exact hr) (by unfold wpPh at h; exact h)
    have hsz : (setN m k listed).size = ops.size := by rw [setN_size]; exact inv.size
    have := wpAny_of_head (Q' := Q) (g := (l.drop (m + 1)).length + 1) (fun listed' a' hL => by
      obtain ⟨rfl, hL2⟩ := hL
      rw [hdl] at hL2
      refine ⟨fun e => (by rw [hr2] at e; cases e), fun i hi => ?_⟩
      rw [hr2] at hi
      have : i = k + m := by simpa using hi
      subst this
      refine wpOp_of_one ho (fun a2 w2 h2 => ?_) hL2
      refine wpAny_phases hsel hcl ms (l.drop (m + 1)) (k + m + 1) _ a2 w2 (fun j => by rw [List.getElem?_drop, hl]; congr 1; omega) (by simp; omega) ?_ hB' h2
      refine ⟨by simp [hsz], fun j hj hj' => ?_, fun t ht ht' => ?_⟩
      · by_cases e : j = k + m
        · subst e
          have : k + m < (setN m k listed).size := by rw [hsz]; exact hn
          simp [this]
        · rw [getD_set_ne false (by omega), setN_getD m k listed j false (by rw [inv.size]; omega)]
          split
          · rfl
          · exact inv.low j (by omega) hj'
      · rw [getD_set_ne true (by omega), setN_getD m k listed t true (by rw [inv.size]; omega), if_neg (by omega)]
        exact inv.high t (by omega) ht') _ _ _ H
    rw [htl] at this
    have e : m + ((l.drop (m + 1)).length + 1) = l.length := by simp; omega
    rw [e] at this
    exact this

def backB (md : Region.Mode) (ops : Array Oper) : Bool := (List.range ops.size).all fun j => match ops[j]? with | none => true | some oj => oj.after.all fun e => !Region.binds md e || decide (e.on < j)
theorem backB_spec (h : backB md ops = true) : ∀ j oj, ops[j]? = some oj → ∀ e ∈ oj.after, Region.binds md e = true → e.on < j := by
  intro j oj hj e he hb
  have h1 := List.all_eq_true.1 h j (List.mem_range.2 (Array.getElem?_eq_some_iff.1 hj).1)
  simp only [hj] at h1
  have h2 := Array.all_eq_true_iff_forall_mem.1 h1 e he
  simpa [hb] using h2

def regB (ops : Array Oper) (ms : List Nat) : Bool := Region.noSelect ops && backB .any ops && phB .any ops ms 0 (Array.replicate ops.size false)
end

/-- a region that draws, in phases -/
theorem region_phases {P : Program} {id : Nat} {Q : Exit → Act → World → Prop} {a : Act} {w : World} {l : List Oper} (ms : List Nat) (hm : P.follows .mixedOrders = true) (hB : regB l.toArray ms = true)
    (h : wpPh P l.toArray Q ms l a w.drew) : (Code.region id l.toArray true).wp P Q a w := by
  simp only [regB, Bool.and_eq_true] at hB
  obtain ⟨⟨hsel, hb⟩, hph⟩ := hB
  refine wp_region_any hm ?_
  have := wpAny_phases (md := .any) (P := P) (Q := Q) hsel (backB_spec hb) ms l 0 (Array.replicate l.toArray.size false) a w.drew (by simp) (by simp)
    ⟨by simp, fun j hj => absurd hj (by omega), fun t _ ht => getD_in (by simpa using ht) (getD_replicate_false _ _)⟩ hph h
  simpa using this

theorem wpPh_nil {P : Program} {ops : Array Oper} {Q : Exit → Act → World → Prop} {l : List Oper} {a : Act} {w : World} (h : wpList P ops Q l a w) : wpPh P ops Q [] l a w := h
theorem wpPh_cons {P : Program} {ops : Array Oper} {Q : Exit → Act → World → Prop} {l : List Oper} {a : Act} {w : World} (m : Nat) (ms : List Nat) (h : wpStill P ops w (fun a' => match l.drop m with | [] => False | o :: rest => wpOne P ops Q o (wpPh P ops Q ms rest) a' w) (l.take m) a) : wpPh P ops Q (m :: ms) l a w := h
theorem wpOne_list {P : Program} {ops : Array Oper} {Q : Exit → Act → World → Prop} {o : Oper} {K : Act → World → Prop} {a : Act} {w : World} (h : wpList P ops (Exit.then K Q) [o] a w) : wpOne P ops Q o K a w := h
end Go.Proofs.Ytlpokomfljmogaa

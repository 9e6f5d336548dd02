/- A region that draws, whose reads may come late, wherever they stand: reads by their numbers, then operations by their numbers, each alone, S behind each, then what all wait for, in one order. Of no program. No condition. -/
import Derived.Test.YtacankgalkffmaaGreatRegion
namespace Go.Proofs.YtacankgalkffmaaGreat
set_option linter.unusedVariables false
attribute [local irreducible] wpStill
section
variable {P : Program} {ops : Array Oper} {md : Region.Mode} {S : World → Prop} {Q : Exit → Act → World → Prop}
def pickO (l : List Oper) : List Nat → List Oper
 | [] => []
 | i :: t => match l[i]? with | some o => o :: pickO l t | none => pickO l t
def setL : List Nat → Array Bool → Array Bool
 | [], listed => listed
 | k :: t, listed => setL t (listed.setIfInBounds k true)
def rdLB (md : Region.Mode) (ops : Array Oper) : List Nat → Array Bool → Bool
 | [], _ => true
 | k :: t, listed => (Region.ready md ops listed).contains k && Region.free md ops listed k && rdLB md ops t (listed.setIfInBounds k true)
def alLB (md : Region.Mode) (ops : Array Oper) : List Nat → Array Bool → Bool
 | [], _ => true
 | k :: t, listed => decide (Region.ready md ops listed = [k]) && alLB md ops t (listed.setIfInBounds k true)
def late2B (ops : Array Oper) (rs ms : List Nat) (m : Nat) : Bool :=
 Region.noSelect ops && decide (m < ops.size) && decide (rs.length + ms.length = m) && rs.all (fun i => decide (i < m)) && ms.all (fun i => decide (i < m)) && sinkS .any ops 0 m && depB .any ops m && rdLB .any ops rs (Array.replicate ops.size false) && alLB .any ops ms (setL rs (Array.replicate ops.size false)) &&
  decide (Region.ready .any ops (setL ms (setL rs (Array.replicate ops.size false))) = [m]) && Region.seqB .any ops (ops.size - m) m (setL ms (setL rs (Array.replicate ops.size false)))
theorem wpHd_midL {m : Nat} {rest l0 : List Oper} {l2 : Array Bool} (hm : m ≤ l0.length) : ∀ (ms : List Nat) (listed : Array Bool) (a : Act) (w : World), ms.all (fun i => decide (i < m)) = true → setL ms listed = l2 → alLB md l0.toArray ms listed = true →
  wpMid P l0.toArray Q S rest (pickO l0 ms) a w → wpHd P md l0.toArray Q S m (fun listed' a' w' => listed' = l2 ∧ wpList P l0.toArray Q rest a' w') ms.length listed a w
 | [], listed, a, w, _, he, _, h => ⟨he, h⟩
 | k :: t, listed, a, w, hk, he, hB, h => by
  simp only [List.all_cons, Bool.and_eq_true, decide_eq_true_eq] at hk
  simp only [alLB, Bool.and_eq_true, decide_eq_true_eq] at hB
  have h0 : l0[k]? = some l0[k] := List.getElem?_eq_getElem (by omega)
  have hp : pickO l0 (k :: t) = l0[k] :: pickO l0 t := by
   show (match l0[k]? with | some o => o :: pickO l0 t | none => pickO l0 t) = _
   rw [h0]
  rw [hp] at h
  refine ⟨fun e => (by rw [hB.1] at e; cases e), fun j hj => ?_⟩
  rw [hB.1] at hj
  have : j = k := by simpa using hj
  subst this
  refine ⟨hk.1, wpOp_of_one (by simp) (fun a2 w2 h2 => ⟨h2.1, ?_⟩) h⟩
  exact wpHd_midL hm t _ a2 w2 hk.2 he hB.2 h2.2
theorem wpHd_heldL {m r : Nat} {l0 : List Oper} {L : Array Bool → Act → World → Prop} {w : World} (hsel : Region.noSelect l0.toArray = true) (hQ : ∀ c a a' w, Q (.panic c) a w → Q (.panic c) a' w) (hs : sinkS md l0.toArray 0 m = true) (hc : depB md l0.toArray m = true) (hm : m < l0.toArray.size)
  (hdone : ∀ listed a w, L listed a w → ∀ j ∈ Region.ready md l0.toArray listed, m ≤ j) (hS : S w) {l2 : Array Bool} :
  ∀ (rs : List Nat) (listed : Array Bool) (a : Act), rs.all (fun i => decide (i < m)) = true → HeadInv md l0.toArray m listed → setL rs listed = l2 → rdLB md l0.toArray rs listed = true →
   wpHeld P l0.toArray S (fun a' => wpHd P md l0.toArray Q S m L r l2 a' w) (pickO l0 rs) a → wpHd P md l0.toArray Q S m L (rs.length + r) listed a w
 | [], listed, a, _, _, he, _, h => by
  have he' : listed = l2 := he
  subst he'
  rw [List.length_nil, Nat.zero_add]
  exact h
 | k :: t, listed, a, hk, inv, he, hB, h => by
  simp only [List.all_cons, Bool.and_eq_true, decide_eq_true_eq] at hk
  simp only [rdLB, Bool.and_eq_true] at hB
  have hkl : k < l0.length := by have : m < l0.length := (by simpa using hm); omega
  have h0 : l0[k]? = some l0[k] := List.getElem?_eq_getElem hkl
  have hp : pickO l0 (k :: t) = l0[k] :: pickO l0 t := by
   show (match l0[k]? with | some o => o :: pickO l0 t | none => pickO l0 t) = _
   rw [h0]
  rw [hp] at h
  obtain ⟨⟨hr, hf⟩, hB'⟩ := hB
  obtain ⟨v, hy, hK⟩ := h
  have h0' : l0.toArray[k]? = some l0[k] := by simp
  have hr' : k ∈ Region.ready md l0.toArray listed := by simpa using hr
  rw [List.length_cons, show t.length + 1 + r = (t.length + r) + 1 by omega]
  refine wpHd_first h0' (Region.noSelect_spec hsel) (fun c a w h => hQ c _ _ w h) hs hc hm hk.1 hdone _ listed a w inv (Region.free_spec h0' hf) hr' hy hS ?_
  exact wpHd_heldL hsel hQ hs hc hm hdone hS t _ _ hk.2 (inv.set hr' hk.1) he hB' hK
end
theorem wpHeld_off {P : Program} {ops : Array Oper} {S : World → Prop} {K : Act → Prop} {a : Act} {o : Oper} {t : List Oper} (hw : Region.wanted o (yielded ops a.tmps) = false) (h : wpHeld P ops S K t (a.put o.dst undef)) : wpHeld P ops S K (o :: t) a := ⟨undef, .inr ⟨hw, rfl⟩, h⟩
theorem region_late2 {P : Program} {id : Nat} {Q : Exit → Act → World → Prop} {a : Act} {w : World} {l : List Oper} (S : World → Prop) (rs ms : List Nat) (m : Nat) (hm : P.follows .mixedOrders = true) (hB : late2B l.toArray rs ms m = true) (hS : S w.drew)
  (h : wpHeld P l.toArray S (fun a' => wpMid P l.toArray (NoPanic Q) S (l.drop m) (pickO l ms) a' w.drew) (pickO l rs) a) : (Code.region id l.toArray true).wp P Q a w := by
 refine wp_region_noPanic ?_
 simp only [late2B, Bool.and_eq_true, decide_eq_true_eq] at hB
 obtain ⟨⟨⟨⟨⟨⟨⟨⟨⟨⟨hsel, hms⟩, hlen⟩, hr1⟩, hm1⟩, hsk⟩, hdp⟩, hrd⟩, hal⟩, hrl⟩, hsq⟩ := hB
 have hms' : m < l.length := by simpa using hms
 refine wp_region_any hm ?_
 have inv0 : HeadInv .any l.toArray m (Array.replicate l.toArray.size false) :=
  ⟨by simp, fun j oj _ hl => (by rw [getD_replicate_false] at hl; cases hl), fun t _ ht => getD_in (by simpa using ht) (getD_replicate_false _ _)⟩
 have hL : ∀ (listed : Array Bool) (a : Act) (w : World), (listed = setL ms (setL rs (Array.replicate l.toArray.size false)) ∧ wpList P l.toArray (NoPanic Q) (l.drop m) a w) → wpAny P .any l.toArray (NoPanic Q) (l.drop m).length listed a w := fun listed a w h => by
  obtain ⟨rfl, h⟩ := h
  refine wpAny_of_seq (l.drop m) m _ a w (fun j => by rw [List.getElem?_drop]; simp) ?_ h
  rw [show (l.drop m).length = l.toArray.size - m by simp]
  exact hsq
 have H := wpHd_heldL (md := .any) (P := P) (Q := NoPanic Q) (S := S) (w := w.drew) (m := m) (r := ms.length) (L := fun listed a w => listed = setL ms (setL rs (Array.replicate l.toArray.size false)) ∧ wpList P l.toArray (NoPanic Q) (l.drop m) a w) hsel (fun c a a' w h => h) hsk hdp hms
  (fun listed a w hl j hj => by rw [hl.1, hrl] at hj; have : j = m := (by simpa using hj); omega) hS rs (Array.replicate l.toArray.size false) a hr1 inv0 rfl hrd (by
   have mono : ∀ (l' : List Oper) (a : Act) (K K' : Act → Prop), (∀ a, K a → K' a) → wpHeld P l.toArray S K l' a → wpHeld P l.toArray S K' l' a := by
    intro l'
    induction l' with
    | nil => intro a K K' hk h; exact hk a h
    | cons o t ih => intro a K K' hk h; obtain ⟨v, h1, h2⟩ := h; exact ⟨v, h1, ih _ K K' hk h2⟩
   refine mono _ _ _ _ (fun a' h' => ?_) h
   exact wpHd_midL (md := .any) (l2 := setL ms (setL rs (Array.replicate l.toArray.size false))) (by omega) ms (setL rs (Array.replicate l.toArray.size false)) a' w.drew hm1 rfl hal h')
 have := wpAny_of_hd hL _ _ _ _ H
 rw [hlen, show m + (l.drop m).length = l.toArray.size by simp; omega] at this
 exact this
end Go.Proofs.YtacankgalkffmaaGreat

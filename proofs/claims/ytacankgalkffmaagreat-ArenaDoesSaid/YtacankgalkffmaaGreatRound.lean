/- Of no program: a region that draws its order, in a round of a range over a function: shown by the plain words. -/
import Derived.Test.YtacankgalkffmaaGreatRegion
import Derived.Test.YtacankgalkffmaaGreatMarks
namespace Go.Proofs.YtacankgalkffmaaGreat
set_option linter.unusedVariables false
set_option linter.unusedSimpArgs false
open Go.RowKit
theorem upon_round {l n : Nat} {P : Program} {o : Oper} {a : Act} {K : Act → World → Prop} {Q : Exit → Act → World → Prop} {r : Result Next} (h : o.upon P a K Q r) : o.uponIn (Fence.wide.inRound l) n P a K Q r := by
 cases r with
 | ok nx w' =>
  cases nx <;> first
   | exact h
   | exact (h : False).elim
   | exact ⟨fun c => (by cases c), (callsIn_wide (n := n - 1)).2 h⟩
   | exact ⟨fun c => (by cases c), fun c cs _ => let ⟨v, w', r, s⟩ := h c cs; ⟨v, w', r, stepsIn_wide.2 s⟩⟩
 | halt ht w' => cases ht <;> first | exact h | exact (h : False).elim
theorem oper_round {l n : Nat} {P : Program} {o : Oper} {a : Act} {w : World} {K : Act → World → Prop} {Q : Exit → Act → World → Prop} (hnd : ∀ c, o.op ≠ .defer c) (h : o.wp P a w K Q) : o.wpIn (Fence.wide.inRound l) n P a w K Q := by
 refine ⟨fun _ _ => trivial, ?_⟩
 rw [show (Fence.wide.inRound l).round = some l from rfl, Oper.semAt_some l _ _ hnd]
 exact upon_round h
theorem any_round {l n : Nat} {P : Program} {md : Region.Mode} {ops : Array Oper} {Q : Exit → Act → World → Prop} (hnd : ∀ (i : Nat) o, ops[i]? = some o → ∀ c, o.op ≠ .defer c) (hQ : ¬ LetsOut Q) : ∀ (fuel : Nat) (listed : Array Bool) (a : Act) (w : World), wpAny P md ops Q fuel listed a w → wpAnyIn (Fence.wide.inRound l) n P md ops Q fuel listed a w
 | 0, _, _, _, h => h
 | fuel + 1, listed, a, w, h => by
  refine ⟨h.1, fun i hi => ?_⟩
  have h2 := h.2 i hi
  unfold wpOp at h2
  unfold wpOpIn
  rcases ho : ops[i]? with _ | o
  ·rw [ho] at h2
   exact any_round hnd hQ fuel _ a w h2
  ·rw [ho] at h2
   simp only at h2 ⊢
   by_cases hw : Region.wanted o (yielded ops a.tmps) = true
   ·rw [if_pos hw] at h2 ⊢
    rcases h2 with h2 | ⟨-, h2⟩
    ·exact Oper.wpIn_mono (fun a w k => any_round hnd hQ fuel _ a w k) (oper_round (hnd i o ho) h2)
    ·exact absurd h2 hQ
   ·rw [if_neg hw] at h2 ⊢
    exact ⟨fun _ _ => trivial, any_round hnd hQ fuel _ _ w h2⟩
section
theorem late_any {P : Program} {Q : Exit → Act → World → Prop} {a : Act} {w : World} {l : List Oper} (S : World → Prop) (n m : Nat) (hB : lateB l.toArray n m = true) (hS : S w.drew)
  (h : wpHeld P l.toArray S (fun a' => wpMid P l.toArray (NoPanic Q) S (l.drop m) ((l.take m).drop n) a' w.drew) (l.take n) a) : wpAny P .any l.toArray (NoPanic Q) l.toArray.size (Array.replicate l.toArray.size false) a w.drew := by
 simp only [lateB, Bool.and_eq_true, decide_eq_true_eq] at hB
 obtain ⟨⟨⟨⟨⟨⟨⟨⟨hsel, hnm⟩, hms⟩, hsk⟩, hdp⟩, hrd⟩, hal⟩, hrl⟩, hsq⟩ := hB
 have hms' : m < l.length := by simpa using hms
 have htl : (l.take n).length = n := by simp; omega
 have hml : ((l.take m).drop n).length = m - n := by simp; omega
 have inv0 : HeadInv .any l.toArray m (Array.replicate l.toArray.size false) :=
  ⟨by simp, fun j oj _ hl => (by rw [getD_replicate_false] at hl; cases hl), fun t _ ht => getD_in (by simpa using ht) (getD_replicate_false _ _)⟩
 have hL : ∀ (listed : Array Bool) (a : Act) (w : World), (listed = setN (m - n) n (setN n 0 (Array.replicate l.toArray.size false)) ∧ wpList P l.toArray (NoPanic Q) (l.drop m) a w) → wpAny P .any l.toArray (NoPanic Q) (l.drop m).length listed a w := fun listed a w h => by
  obtain ⟨rfl, h⟩ := h
  refine wpAny_of_seq (l.drop m) m _ a w (fun j => by rw [List.getElem?_drop]; simp) ?_ h
  rw [show (l.drop m).length = l.toArray.size - m by simp]
  exact hsq
 have H := wpHd_held (md := .any) (P := P) (Q := NoPanic Q) (S := S) (w := w.drew) (m := m) (r := m - n) (L := fun listed a w => listed = setN (m - n) n (setN n 0 (Array.replicate l.toArray.size false)) ∧ wpList P l.toArray (NoPanic Q) (l.drop m) a w) hsel (fun c a a' w h => h) hsk hdp hms
  (fun listed a w hl j hj => by rw [hl.1, hrl] at hj; have : j = m := (by simpa using hj); omega) hS (l.take n) 0 (Array.replicate l.toArray.size false) a (fun j hj => by rw [htl] at hj; rw [List.getElem?_take_of_lt hj]; simp) (by rw [htl]; omega) inv0 rfl (by rw [htl]; exact hrd) (by
   rw [htl]
   have mono : ∀ (l' : List Oper) (a : Act) (K K' : Act → Prop), (∀ a, K a → K' a) → wpHeld P l.toArray S K l' a → wpHeld P l.toArray S K' l' a := by
    intro l'
    induction l' with
    | nil => intro a K K' hk h; exact hk a h
    | cons o t ih => intro a K K' hk h; obtain ⟨v, h1, h2⟩ := h; exact ⟨v, h1, ih _ K K' hk h2⟩
   refine mono _ _ _ _ (fun a' h' => ?_) h
   have := wpHd_mid (md := .any) (m := m) (l2 := setN (m - n) n (setN n 0 (Array.replicate l.toArray.size false))) ((l.take m).drop n) n (setN n 0 (Array.replicate l.toArray.size false)) a' w.drew (fun j hj => by
    rw [hml] at hj
    rw [List.getElem?_drop, List.getElem?_take_of_lt (by omega)]; simp) (by rw [hml]; omega) (by rw [hml]) (by rw [hml]; exact hal) h'
   rw [hml] at this
   exact this)
 have := wpAny_of_hd hL _ _ _ _ H
 rw [htl, show n + (m - n) + (l.drop m).length = l.toArray.size by simp; omega] at this
 exact this
def noDefer (l : List Oper) : Bool := l.all fun o => match o.op with | .defer _ => false | _ => true
theorem noDefer_out {l : List Oper} (h : noDefer l = true) (i : Nat) (o : Oper) (ho : l.toArray[i]? = some o) : ∀ c, o.op ≠ .defer c := by
 intro c e
 unfold noDefer at h
 rw [List.all_eq_true] at h
 have := h o (List.mem_of_getElem? (by simpa using ho))
 rw [e] at this
 cases this
theorem region_late_round {q n0 : Nat} {P : Program} {id : Nat} {Q : Exit → Act → World → Prop} {a : Act} {w : World} {l : List Oper} (S : World → Prop) (n m : Nat) (hm : P.follows .mixedOrders = true) (hB : lateB l.toArray n m = true) (hS : S w.drew) (hnd : noDefer l = true) (hQ : ¬ LetsOut Q)
  (h : wpHeld P l.toArray S (fun a' => wpMid P l.toArray (NoPanic Q) S (l.drop m) ((l.take m).drop n) a' w.drew) (l.take n) a) : (Code.region id l.toArray true).wpIn (Fence.wide.inRound q) n0 P Q a w := by
 have h2 := late_any S n m hB hS h
 have h3 := any_round (n := n0) (l := q) (Q := NoPanic Q) (noDefer_out hnd) (fun ⟨a, w, h⟩ => hQ ⟨a, w, h⟩) _ _ _ _ h2
 exact wpIn_mono (wpIn_region_any hm h3) NoPanic.imp
end
end Go.Proofs.YtacankgalkffmaaGreat

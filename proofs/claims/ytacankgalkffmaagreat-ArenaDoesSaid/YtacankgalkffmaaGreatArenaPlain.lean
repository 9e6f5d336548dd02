/- Trees of nodes, in plain words: what is below a node, from left to right; the leaves; is it derived; its text. -/
import Derived.Test.YtacankgalkffmaaGreatG7
namespace Go.Proofs.YtacankgalkffmaaGreat
set_option linter.unusedVariables false
set_option linter.unusedSimpArgs false
structure Nd where
 sym : Int
 leaf : Int
 rule : Int
 kids : List Int
 il : Bool
 below : Bool
def noNd : Nd := ⟨0, 0, 0, [], false, false⟩
def leafN (s n : Int) : Nd := ⟨s, n, -1, [], true, false⟩
def joinN (s r : Int) (kids : List Int) : Nd := ⟨s, -1, r, kids, false, false⟩
def inN (n : Nat) (i : Int) : Bool := decide (0 ≤ i) && decide (i < n)
theorem inN_iff {n : Nat} {i : Int} : inN n i = true ↔ 0 ≤ i ∧ i < n := by unfold inN; simp
def ndAt (L : List Nd) (i : Int) : Nd := L.getD i.toNat noNd
theorem ndAt_get {L : List Nd} {i : Nat} {x : Nd} (h : L[i]? = some x) : ndAt L (i : Int) = x := by unfold ndAt; simp [List.getD_eq_getElem?_getD, h]
def preF (K : List (List Int)) : Nat → Int → List Int
 | 0, _ => []
 | f + 1, i => i :: (K.getD i.toNat []).flatMap (preF K f)
def preO (K : List (List Int)) (i : Int) : List Int := preF K (i.toNat + 1) i
def Acyc (K : List (List Int)) : Prop := ∀ (i : Nat) l, K[i]? = some l → ∀ k ∈ l, 0 ≤ k ∧ k < i
theorem Acyc.kid {K : List (List Int)} (h : Acyc K) {i : Int} {k : Int} (hk : k ∈ K.getD i.toNat []) : 0 ≤ k ∧ k.toNat < i.toNat := by
 rcases e : K[i.toNat]? with _ | l
 ·rw [List.getD_eq_getElem?_getD, e] at hk; cases hk
 ·rw [List.getD_eq_getElem?_getD, e] at hk
  have := h _ _ e k hk
  omega
theorem flatMap_congr' {α β : Type} {f g : α → List β} : ∀ {l : List α}, (∀ x ∈ l, f x = g x) → l.flatMap f = l.flatMap g
 | [], _ => rfl
 | x :: l, h => by rw [List.flatMap_cons, List.flatMap_cons, h x (List.mem_cons_self ..), flatMap_congr' fun y hy => h y (List.mem_cons_of_mem _ hy)]
theorem preF_stable {K : List (List Int)} (h : Acyc K) : ∀ (f : Nat) (i : Int), i.toNat < f → preF K f i = preO K i
 | 0, i, hi => absurd hi (by omega)
 | f + 1, i, hi => by
  unfold preO preF
  refine congrArg _ (flatMap_congr' fun k hk => ?_)
  have hk := h.kid hk
  rw [preF_stable h f k (by omega)]
  rcases Nat.eq_zero_or_pos i.toNat with e | e
  ·omega
  ·obtain ⟨n, hn⟩ : ∃ n, i.toNat = n + 1 := ⟨i.toNat - 1, by omega⟩
   rw [hn, preF_stable h (n + 1) k (by omega)]
termination_by f i _ => f + i.toNat
theorem preO_eq {K : List (List Int)} (h : Acyc K) (i : Int) : preO K i = i :: (K.getD i.toNat []).flatMap (preO K) := by
 conv => lhs; unfold preO preF
 exact congrArg _ (flatMap_congr' fun k hk => preF_stable h _ k (h.kid hk).2)
theorem preF_app {K K' : List (List Int)} (h : Acyc K) : ∀ (f : Nat) (i : Int), i.toNat < K.length → preF (K ++ K') f i = preF K f i
 | 0, i, _ => rfl
 | f + 1, i, hi => by
  unfold preF
  have e : (K ++ K').getD i.toNat [] = K.getD i.toNat [] := by rw [List.getD_eq_getElem?_getD, List.getElem?_append_left hi, ← List.getD_eq_getElem?_getD]
  rw [e]
  exact congrArg _ (flatMap_congr' fun k hk => preF_app h f k (by have := h.kid hk; omega))
theorem preO_app {K K' : List (List Int)} (h : Acyc K) {i : Int} (hi : i.toNat < K.length) : preO (K ++ K') i = preO K i := preF_app h _ i hi
theorem preO_in {K : List (List Int)} (h : Acyc K) : ∀ (f : Nat) (i : Int), 0 ≤ i → i.toNat < f → ∀ k ∈ preO K i, 0 ≤ k ∧ k ≤ i
 | 0, i, _, hf, _, _ => absurd hf (by omega)
 | f + 1, i, h0, hf, k, hk => by
  rw [preO_eq h, List.mem_cons, List.mem_flatMap] at hk
  rcases hk with rfl | ⟨j, hj, hk⟩
  ·exact ⟨h0, Int.le_refl _⟩
  ·have hj := h.kid hj
   have := preO_in h f j hj.1 (by omega) k hk
   omega
theorem preO_lt {K : List (List Int)} (h : Acyc K) {i k : Int} (h0 : 0 ≤ i) (hk : k ∈ preO K i) : 0 ≤ k ∧ k ≤ i := preO_in h _ i h0 (Nat.lt_succ_self _) k hk
def wtN (K : List (List Int)) (i : Int) : Nat := (preO K i).length
def wtS (K : List (List Int)) (l : List Int) : Nat := (l.map (wtN K)).sum
theorem flat_sum {α β : Type} (f : α → List β) : ∀ l : List α, (l.flatMap f).length = (l.map fun x => (f x).length).sum
 | [] => rfl
 | x :: l => by rw [List.flatMap_cons, List.length_append, flat_sum f l]; rfl
theorem wtN_eq {K : List (List Int)} (h : Acyc K) (i : Int) : wtN K i = wtS K (K.getD i.toNat []) + 1 := by
 unfold wtN
 rw [preO_eq h, List.length_cons, flat_sum]
 rfl
theorem wtS_cons (K : List (List Int)) (i : Int) (l : List Int) : wtS K (i :: l) = wtN K i + wtS K l := by unfold wtS; rw [List.map_cons, List.sum_cons]
theorem wtS_app (K : List (List Int)) (l r : List Int) : wtS K (l ++ r) = wtS K l + wtS K r := by unfold wtS; rw [List.map_append, List.sum_append]
theorem wtN_pos {K : List (List Int)} (h : Acyc K) (i : Int) : 0 < wtN K i := by rw [wtN_eq h]; omega
def kidsL (L : List Nd) : List (List Int) := L.map Nd.kids
theorem kidsL_app (L M : List Nd) : kidsL (L ++ M) = kidsL L ++ kidsL M := List.map_append
theorem kidsL_at (L : List Nd) (i : Int) : (kidsL L).getD i.toNat [] = (ndAt L i).kids := by
 unfold kidsL ndAt
 rw [List.getD_eq_getElem?_getD, List.getElem?_map, List.getD_eq_getElem?_getD]
 cases L[i.toNat]? <;> rfl
def rootsL (L : List Nd) : List Int := (List.range L.length).filterMap fun (i : Nat) => if (ndAt L (i : Int)).below = true then none else some (i : Int)
def markL (L : List Nd) (ks : List Int) : List Nd := ks.foldl (fun M k => M.modify k.toNat fun x => { x with below := true }) L
def mayJ (L : List Nd) (kids : List Int) : Bool := (kids.all fun k => inN L.length k && !(ndAt L k).below) && decide kids.Nodup
def leafL (L : List Nd) (s n : Int) : List Nd := L ++ [leafN s n]
def joinL' (L : List Nd) (s r : Int) (kids : List Int) : List Nd := if mayJ L kids = true then markL L kids ++ [joinN s r kids] else L
def joinA (L : List Nd) (kids : List Int) : Int := if mayJ L kids = true then (L.length : Int) else -1
end Go.Proofs.YtacankgalkffmaaGreat

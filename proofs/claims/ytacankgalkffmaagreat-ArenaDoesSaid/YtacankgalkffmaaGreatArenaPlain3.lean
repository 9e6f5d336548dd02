/- Trees of nodes, in plain words: the leaves below a node; is it derived; its text. -/
import Derived.Test.YtacankgalkffmaaGreatArenaPlain2
namespace Go.Proofs.YtacankgalkffmaaGreat
set_option linter.unusedVariables false
set_option linter.unusedSimpArgs false
def plcO (L : List Nd) (i : Int) : List Int := (preO (kidsL L) i).filter fun k => (ndAt L k).il
def plcI (L : List Nd) (i : Int) : List Int := if inN L.length i = true then plcO L i else []
def numsO (L : List Nd) (i : Int) : List Int := (plcI L i).map fun k => (ndAt L k).leaf
def symsO (L : List Nd) (i : Int) : List Int := (plcI L i).map fun k => (ndAt L k).sym
theorem ndAt_of {L : List Nd} {i : Int} (h0 : 0 ≤ i) (h1 : i < L.length) : L[i.toNat]? = some (ndAt L i) := by
 have : i.toNat < L.length := by omega
 unfold ndAt
 rw [List.getD_eq_getElem?_getD, List.getElem?_eq_getElem this]
 rfl
theorem plcO_leaf {L : List Nd} (h : Tr L) {i : Int} (h0 : 0 ≤ i) (h1 : i < L.length) (hl : (ndAt L i).il = true) : plcO L i = [i] := by
 unfold plcO
 rw [preO_eq h.acyc, kidsL_at, h.nokid _ _ (ndAt_of h0 h1) hl]
 simp [hl]
theorem plcO_join {L : List Nd} (h : Tr L) {i : Int} (hl : (ndAt L i).il = false) : plcO L i = (ndAt L i).kids.flatMap (plcO L) := by
 unfold plcO
 rw [preO_eq h.acyc, kidsL_at, List.filter_cons, hl, List.filter_flatMap]
 rfl
theorem Tr.kid {L : List Nd} (h : Tr L) {i k : Int} (hk : k ∈ (ndAt L i).kids) : 0 ≤ k ∧ k.toNat < i.toNat := h.acyc.kid (i := i) (by rw [kidsL_at]; exact hk)
def fineN (G : GramD) (L : List Nd) (x : Nd) : Bool :=
 if x.il = true then isTerm G x.sym else (decide (0 ≤ x.rule) && decide (x.rule < G.rules.length)) && (decide ((G.rules.getD x.rule.toNat (0, [])).1 = x.sym) && decide ((G.rules.getD x.rule.toNat (0, [])).2 = x.kids.map fun k => (ndAt L k).sym))
def derO (G : GramD) (L : List Nd) (i : Int) : Bool := (preO (kidsL L) i).all fun k => fineN G L (ndAt L k)
theorem derO_eq {G : GramD} {L : List Nd} (h : Tr L) (i : Int) : derO G L i = (fineN G L (ndAt L i) && (ndAt L i).kids.all (derO G L)) := by
 unfold derO
 rw [preO_eq h.acyc, List.all_cons, List.all_flatMap, kidsL_at]
def shoF (G : GramD) (L : List Nd) : Nat → Int → List UInt8
 | 0, _ => []
 | f + 1, i => if (ndAt L i).il = true then (nameOf G (ndAt L i).sym).toList else
   (40 :: (nameOf G (ndAt L i).sym).toList) ++ ((ndAt L i).kids.flatMap fun k => 32 :: shoF G L f k) ++ [41]
def shoO (G : GramD) (L : List Nd) (i : Int) : List UInt8 := shoF G L (i.toNat + 1) i
theorem shoF_stable {G : GramD} {L : List Nd} (h : Tr L) : ∀ (f : Nat) (i : Int), i.toNat < f → shoF G L f i = shoO G L i
 | 0, i, hi => absurd hi (by omega)
 | f + 1, i, hi => by
  unfold shoO shoF
  split
  ·rfl
  ·refine congrArg (fun z => _ ++ z ++ _) (flatMap_congr' fun k hk => ?_)
   have hk := h.kid hk
   rw [shoF_stable h f k (by omega)]
   obtain ⟨n, hn⟩ : ∃ n, i.toNat = n + 1 := ⟨i.toNat - 1, by omega⟩
   rw [hn, shoF_stable h (n + 1) k (by omega)]
termination_by f i _ => f + i.toNat
theorem shoO_leaf {G : GramD} {L : List Nd} {i : Int} (hl : (ndAt L i).il = true) : shoO G L i = (nameOf G (ndAt L i).sym).toList := by
 unfold shoO shoF
 rw [if_pos hl]
theorem shoO_join {G : GramD} {L : List Nd} (h : Tr L) {i : Int} (hl : (ndAt L i).il = false) : shoO G L i = (40 :: (nameOf G (ndAt L i).sym).toList) ++ ((ndAt L i).kids.flatMap fun k => 32 :: shoO G L k) ++ [41] := by
 conv => lhs; unfold shoO shoF
 rw [if_neg (by rw [hl]; decide)]
 refine congrArg (fun z => _ ++ z ++ _) (flatMap_congr' fun k hk => ?_)
 rw [shoF_stable h _ k (h.kid hk).2]
theorem shoO_len {G : GramD} {L : List Nd} (h : Tr L) {B : Nat} (hB : ∀ s, (nameOf G s).toList.length ≤ B) : ∀ (f : Nat) (i : Int), i.toNat < f → (shoO G L i).length + 1 ≤ wtN (kidsL L) i * (B + 3)
 | 0, i, hi => absurd hi (by omega)
 | f + 1, i, hi => by
  have hn := hB (ndAt L i).sym
  rw [wtN_eq h.acyc, kidsL_at]
  by_cases hl : (ndAt L i).il = true
  ·rw [shoO_leaf hl, Nat.add_mul]
   omega
  ·rw [shoO_join h (by simpa using hl)]
   have key : ∀ l : List Int, (∀ k ∈ l, k.toNat < f) → (l.flatMap fun k => 32 :: shoO G L k).length ≤ wtS (kidsL L) l * (B + 3) := by
    intro l hl
    induction l with
    | nil => simp
    | cons k l ih =>
     have h1 := shoO_len h hB f k (hl k (List.mem_cons_self ..))
     have h2 := ih fun j hj => hl j (List.mem_cons_of_mem _ hj)
     rw [List.flatMap_cons, List.length_append, wtS_cons, Nat.add_mul, List.length_cons]
     omega
   have hk := key (ndAt L i).kids fun k hk => by have := h.kid hk; omega
   rw [Nat.add_mul]
   simp only [List.length_append, List.length_cons, List.length_nil]
   omega
end Go.Proofs.YtacankgalkffmaaGreat

/- Calls that make nodes, in memory: the opening of one, and of a list of them; the leaves of all roots together. -/
import Derived.Test.YtacankgalkffmaaGreatArenaPlain3
import Derived.Test.YtacankgalkffmaaGreatG7
namespace Go.Proofs.YtacankgalkffmaaGreat
set_option linter.unusedVariables false
set_option linter.unusedSimpArgs false
open Go.RowKit
structure OpD where
 leaf : Bool
 sym : Int
 n : Int
 kids : List Int
def OpWf (w : World) (F : Nat → Prop) (cs : List Value) (x : OpD) : Prop := ∃ z, cs = [.bool x.leaf, .int .i64 x.sym, .int .i64 x.n, z] ∧ RdI w F z x.kids
abbrev RdOp (w : World) (F : Nat → Prop) (v : Value) (l : List OpD) : Prop := RdL w F 4 (OpWf w F) v l
theorem OpWf.touch {w w' : World} {F S : Nat → Prop} {cs : List Value} {x : OpD} (h : OpWf w F cs x) (t : Touch S w w') (hF : ∀ b, F b → ¬ S b) : OpWf w' F cs x := by
 obtain ⟨z, e, h⟩ := h
 exact ⟨z, e, Rd.touch h t hF⟩
theorem RdOp.touch {w w' : World} {F S : Nat → Prop} {v : Value} {l : List OpD} (h : RdOp w F v l) (t : Touch S w w') (hF : ∀ b, F b → ¬ S b) : RdOp w' F v l :=
 RdL.touch h t hF fun cs x _ e => e.touch t hF
theorem RdOp.shape {w : World} {F : Nat → Prop} {v : Value} {l : List OpD} (h : RdOp w F v l) : ∃ A c, v = .slice A l.length c ∧ l.length ≤ c ∧ c ≤ 9223372036854775807 := by
 obtain ⟨A, c, hv, h1, h2, -⟩ := h
 exact ⟨A, c, hv, h1, by unfold maxLen at h2; omega⟩
theorem RdOp.at_ {w : World} {F : Nat → Prop} {v : Value} {l : List OpD} (h : RdOp w F v l) {i : Nat} {x : OpD} (hx : l[i]? = some x) : ∃ b off c z, v = .slice (some ⟨b, off, none⟩) l.length c ∧ F b ∧ w.cell? ⟨b, off + i * 4, none⟩ = some (.bool x.leaf) ∧ w.cell? ⟨b, off + i * 4 + 1, none⟩ = some (.int .i64 x.sym) ∧ w.cell? ⟨b, off + i * 4 + 2, none⟩ = some (.int .i64 x.n) ∧ w.cell? ⟨b, off + i * 4 + 3, none⟩ = some z ∧ RdI w F z x.kids := by
 obtain ⟨A, c, hv, h1, h2, hr⟩ := h
 have hi := (List.getElem?_eq_some_iff.1 hx).1
 obtain ⟨b, off, rfl, hb, hc⟩ := hr (by omega)
 obtain ⟨cs, -, ⟨z, rfl, hz⟩, hu⟩ := hc i x hx
 exact ⟨b, off, c, z, hv, hb, hu 0 _ rfl, hu 1 _ rfl, hu 2 _ rfl, hu 3 _ rfl, hz⟩
section
open Go.ChangeShapes Go.WideShapes Go.ChangeAt Go.RowKit Go.Deep
variable {H : Type} {enc : TypeId × Value → H} {w : World} {sp : Nat → Bool}
theorem opens_boolZ {P : Program} {t : TypeId} (ht : P.underlying t = some .bool) : OpensZ enc P w sp t (fun cs (b : Bool) => cs = [.bool b]) := by
 intro fuel cs y h hr
 obtain ⟨b, h1, -⟩ := DataW.trod_bool ht h
 exact ⟨b, h1⟩
theorem opens_opZ : OpensZ enc Tryz.prog w sp 56 (fun cs (x : OpD) => OpWf w (· < w.heap.size) cs x) := by
 intro fuel cs y h hr
 obtain ⟨⟨a, b, c, d⟩, c0, c1, c2, c3, rfl, e0, ⟨e1, -⟩, ⟨e2, -⟩, v, e3, hv, -⟩ := opens_struct4Z Tryz.underlying56 (by kernel_rfl) (by kernel_rfl) (opens_boolZ Tryz.underlying4) (OpensZ.of (opens_int Tryz.underlying3)) (OpensZ.of (opens_int Tryz.underlying3)) opens_intsZ fuel cs y h hr
 injection e0 with e0
 injection e1 with e1
 injection e2 with e2
 injection e3 with e3
 subst e0 e1 e2 e3
 exact ⟨⟨a, b, c, d⟩, _, rfl, (rdl_ints hv).1⟩
theorem opens_opsZ : OpensZ enc Tryz.prog w sp 22 (fun cs (xs : List OpD) => ∃ v, cs = [v] ∧ RdL w (· < w.heap.size) 4 (fun cs x => OpWf w (· < w.heap.size) cs x) v xs ∧ xs.length * 48 ≤ 140737488351232) :=
 opens_listZ Tryz.underlying22 (by kernel_rfl) (by decide) (by kernel_rfl) opens_opZ
end
def allN (L : List Nd) : List Int := (rootsL L).flatMap (numsO L)
theorem numsO_app {L : List Nd} (h : Tr L) (M : List Nd) {i : Int} (hi : inN L.length i = true) (hM : ∀ (j : Nat) (x : Nd), L[j]? = some x → ∃ y, M[j]? = some y ∧ y.kids = x.kids ∧ y.il = x.il ∧ y.leaf = x.leaf) : numsO M i = numsO L i := by
 obtain ⟨h0, h1⟩ := inN_iff.1 hi
 have hlen : L.length ≤ M.length := by
  rcases Nat.eq_zero_or_pos L.length with e | e
  ·omega
  ·obtain ⟨y, hy, -⟩ := hM (L.length - 1) _ (List.getElem?_eq_getElem (by omega))
   have := (List.getElem?_eq_some_iff.1 hy).1
   omega
 have hiM : inN M.length i = true := inN_iff.2 ⟨h0, by omega⟩
 have hnd : ∀ k : Int, 0 ≤ k → k < L.length → (ndAt M k).kids = (ndAt L k).kids ∧ (ndAt M k).il = (ndAt L k).il ∧ (ndAt M k).leaf = (ndAt L k).leaf := fun k k0 k1 => by
  obtain ⟨y, hy, e1, e2, e3⟩ := hM _ _ (ndAt_of k0 k1)
  obtain ⟨j, rfl⟩ := Int.eq_ofNat_of_zero_le k0
  rw [Int.toNat_natCast] at hy
  rw [ndAt_get hy]
  exact ⟨e1, e2, e3⟩
 have hpre : ∀ (f : Nat) (k : Int), 0 ≤ k → k < L.length → preF (kidsL M) f k = preF (kidsL L) f k := by
  intro f
  induction f with
  | zero => intro k _ _; rfl
  | succ f ih =>
   intro k k0 k1
   unfold preF
   rw [kidsL_at, kidsL_at, (hnd k k0 k1).1]
   exact congrArg _ (flatMap_congr' fun j hj => ih j (h.kid hj).1 (by have := (h.kid hj); omega))
 unfold numsO plcI
 rw [if_pos hi, if_pos hiM]
 unfold plcO preO
 rw [hpre _ _ h0 h1]
 have hin : ∀ k ∈ preF (kidsL L) (i.toNat + 1) i, 0 ≤ k ∧ k < L.length := fun k hk => by
  have := preO_lt h.acyc h0 (k := k) hk
  omega
 rw [List.filter_congr (q := fun k => (ndAt L k).il) fun k hk => by rw [(hnd k (hin k hk).1 (hin k hk).2).2.1]]
 refine List.map_congr_left fun k hk => ?_
 have hk := hin k (List.mem_filter.1 hk).1
 exact (hnd k hk.1 hk.2).2.2
theorem flat_perm {f : Int → List Int} {l r : List Int} (h : l.Perm r) : (l.flatMap f).Perm (r.flatMap f) := List.Perm.flatMap_right f h
theorem mem_roots_in {L : List Nd} {k : Int} (h : k ∈ rootsL L) : inN L.length k = true := by
 have := mem_rootsL.1 h
 exact inN_iff.2 ⟨this.1, this.2.1⟩
theorem numsO_new {M : List Nd} {x : Nd} (h : Tr (M ++ [x])) : numsO (M ++ [x]) ((M.length : Nat) : Int) = if x.il = true then [x.leaf] else x.kids.flatMap (numsO (M ++ [x])) := by
 have e : ndAt (M ++ [x]) ((M.length : Nat) : Int) = x := ndAt_get (by rw [List.getElem?_append_right (Nat.le_refl _), Nat.sub_self]; rfl)
 have hin : inN (M ++ [x]).length ((M.length : Nat) : Int) = true := inN_iff.2 ⟨by omega, by rw [List.length_append, List.length_singleton]; omega⟩
 have h0 := (inN_iff.1 hin).1
 have h1 := (inN_iff.1 hin).2
 unfold numsO plcI
 rw [if_pos hin]
 split
 ·rename_i hx
  rw [plcO_leaf h h0 h1 (by rw [e]; exact hx)]
  simp [e]
 ·rename_i hx
  rw [plcO_join h (by rw [e]; simpa using hx), e, List.map_flatMap]
  refine flatMap_congr' fun k hk => ?_
  have hk' : k ∈ (ndAt (M ++ [x]) ((M.length : Nat) : Int)).kids := by rw [e]; exact hk
  have := h.kid hk'
  rw [if_pos (inN_iff.2 ⟨this.1, by omega⟩)]
theorem allN_leaf {L : List Nd} (h : Tr L) (s n : Int) : allN (leafL L s n) = allN L ++ [n] := by
 have h' := h.leaf s n
 unfold allN
 unfold leafL at h' ⊢
 rw [rootsL_snoc L (leafN s n) rfl, List.flatMap_append]
 refine congr (congrArg _ (flatMap_congr' fun k hk => ?_)) ?_
 ·exact numsO_app h _ (mem_roots_in hk) fun j x hx => ⟨x, by rw [List.getElem?_append_left (List.getElem?_eq_some_iff.1 hx).1]; exact hx, rfl, rfl, rfl⟩
 ·rw [List.flatMap_cons, List.flatMap_nil, List.append_nil, numsO_new h']
  rfl
theorem markL_get : ∀ (ks : List Int) {L : List Nd} {j : Nat} {x : Nd}, L[j]? = some x → ∃ y, (markL L ks)[j]? = some y ∧ y.kids = x.kids ∧ y.il = x.il ∧ y.leaf = x.leaf
 | [], L, j, x, h => ⟨x, h, rfl, rfl, rfl⟩
 | k :: ks, L, j, x, h => by
  rw [markL_cons]
  have h1 : (mark1 L k)[j]? = some (if k.toNat = j then { x with below := true } else x) := by rw [mark1_get, h]; rfl
  obtain ⟨y, hy, e1, e2, e3⟩ := markL_get ks h1
  refine ⟨y, hy, ?_, ?_, ?_⟩
  ·rw [e1]; split <;> rfl
  ·rw [e2]; split <;> rfl
  ·rw [e3]; split <;> rfl
theorem allN_join {L : List Nd} (h : Tr L) (s r : Int) (kids : List Int) : (allN (joinL' L s r kids)).Perm (allN L) := by
 have h' := h.join s r kids
 unfold joinL' at h' ⊢
 split at h'
 ·rename_i hm
  rw [if_pos hm]
  obtain ⟨h1, h2⟩ := mayJ_iff.1 hm
  have hp := markL_roots kids L h2 h1
  have happ : ∀ k, inN L.length k = true → numsO (markL L kids ++ [joinN s r kids]) k = numsO L k := fun k hk => numsO_app h _ hk fun j x hx => by
   obtain ⟨y, hy, e⟩ := markL_get kids hx
   exact ⟨y, by rw [List.getElem?_append_left (List.getElem?_eq_some_iff.1 hy).1]; exact hy, e⟩
  unfold allN
  rw [rootsL_snoc _ (joinN s r kids) rfl, List.flatMap_append, List.flatMap_cons, List.flatMap_nil, List.append_nil, numsO_new h']
  have e1 : (rootsL (markL L kids)).flatMap (numsO (markL L kids ++ [joinN s r kids])) = (rootsL (markL L kids)).flatMap (numsO L) := flatMap_congr' fun k hk => happ k (by have := mem_roots_in hk; rwa [markL_len] at this)
  have e2 : kids.flatMap (numsO (markL L kids ++ [joinN s r kids])) = kids.flatMap (numsO L) := flatMap_congr' fun k hk => happ k (mem_roots_in (h1 k hk))
  rw [e1]
  have e3 : (if (joinN s r kids).il = true then [(joinN s r kids).leaf] else (joinN s r kids).kids.flatMap (numsO (markL L kids ++ [joinN s r kids]))) = kids.flatMap (numsO L) := e2
  rw [e3]
  have hq := flat_perm (f := numsO L) hp
  rw [List.flatMap_append] at hq
  exact (List.perm_append_comm.trans hq.symm)
 ·rename_i hm
  rw [if_neg hm]
end Go.Proofs.YtacankgalkffmaaGreat

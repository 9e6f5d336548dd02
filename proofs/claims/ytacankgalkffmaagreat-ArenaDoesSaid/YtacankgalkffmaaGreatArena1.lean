/- Trees of nodes in memory: the box, the nodes, what is below each. -/
import Derived.Test.YtacankgalkffmaaGreatArenaPlain3
import Derived.Test.YtacankgalkffmaaGreatMarks
import Derived.Test.YtacankgalkffmaaGreatGramAwake
namespace Go.Proofs.YtacankgalkffmaaGreat
set_option linter.unusedVariables false
set_option linter.unusedSimpArgs false
open Go.RowKit
theorem flatK_len {X : Type} {k : Nat} {f : X → List Value} (hf : ∀ x, (f x).length = k) : ∀ l : List X, (l.flatMap f).length = l.length * k
 | [] => by simp
 | x :: l => by rw [List.flatMap_cons, List.length_append, hf, flatK_len hf l, List.length_cons, Nat.add_mul]; omega
theorem flatK_get {X : Type} {k : Nat} {f : X → List Value} (hf : ∀ x, (f x).length = k) : ∀ {l : List X} {i j : Nat} {x : X}, l[i]? = some x → j < k → (l.flatMap f)[i * k + j]? = (f x)[j]?
 | [], i, j, x, h, _ => by simp at h
 | y :: l, 0, j, x, h, hj => by
  injection h with h
  subst h
  rw [List.flatMap_cons, List.getElem?_append_left (by rw [hf]; omega), Nat.zero_mul, Nat.zero_add]
 | y :: l, i + 1, j, x, h, hj => by
  rw [List.flatMap_cons, List.getElem?_append_right (by rw [hf, Nat.add_mul]; omega), hf, show (i + 1) * k + j - k = i * k + j by rw [Nat.add_mul]; omega]
  exact flatK_get hf (by simpa using h) hj
theorem setc_size (w : World) (p : Addr) (v : Value) : (w.setCell p v).heap.size = w.heap.size := by simp [World.setCell]
theorem touch_set (w : World) (g i : Nat) (u : Value) : Touch (fun b => b = g) w (w.setCell ⟨g, i, none⟩ u) := Touch.setCell (S := fun b => b = g) (p := ⟨g, i, none⟩) (Touch.refl _ _) (fun _ => rfl) u
theorem ownP_put {w : World} {base : Nat} {e : TypeId} {size n g c : Nat} {xs : List Value} (h : w.ownsRow base e size (.slice (some ⟨g, 0, none⟩) n c) n xs) {j : Nat} (hj : j < xs.length) (u : Value) : (w.setCell ⟨g, j, none⟩ u).ownsRow base e size (.slice (some ⟨g, 0, none⟩) n c) n (xs.set j u) := by
 refine ⟨by rw [List.length_set]; exact h.1, ?_⟩
 rcases h.2 with ⟨hv, -⟩ | ⟨g', cap, cur, hv, hb, hh, hn, hc, hz, ht⟩
 ·cases hv
 ·right
  injection hv with hv _ hcap
  injection hv with hv
  injection hv with hv
  subst hv hcap
  have k : Blk w g e cur := hh
  refine ⟨g, c, cur.setIfInBounds j u, rfl, hb, k.put j u, hn, hc, by simpa using hz, ?_⟩
  have hset : (cur.setIfInBounds j u).toList = cur.toList.set j u := by simp
  rw [hset, List.take_set, ht]
theorem upA_cell {w w' : World} {a : Addr} {u : Value} (b : Below w.heap.size w w') (h : w.cell? a = some u) : w'.cell? a = some u := (Touch.of_size b (fun _ => False)).cell h (fun c => c)
theorem own_cut {w : World} {base : Nat} {e : TypeId} {size n g c m : Nat} {xs : List Value} (h : w.ownsRow base e size (.slice (some ⟨g, 0, none⟩) n c) n xs) (hm : m ≤ n) : w.ownsRow base e size (.slice (some ⟨g, 0, none⟩) m c) m (xs.take (m * size)) := by
 have hl := h.1
 have hmn : m * size ≤ n * size := Nat.mul_le_mul_right _ hm
 refine ⟨by rw [List.length_take]; omega, ?_⟩
 rcases h.2 with ⟨hv, -⟩ | ⟨g', cap, cur, hv, hb, hh, hn, hc, hz, ht⟩
 ·cases hv
 ·right
  injection hv with hv _ hcap
  injection hv with hv
  injection hv with hv
  subst hv hcap
  exact ⟨g, c, cur, rfl, hb, hh, by omega, hc, hz, by rw [← ht, List.take_take, Nat.min_eq_left hmn]⟩
def ndC (p : Nd × Value) : List Value := [.int .i64 p.1.sym, .int .i64 p.1.leaf, .int .i64 p.1.rule, p.2, .bool p.1.il, .bool p.1.below]
def ndCs (M : List (Nd × Value)) : List Value := M.flatMap ndC
theorem ndCs_len (M : List (Nd × Value)) : (ndCs M).length = M.length * 6 := flatK_len (k := 6) (fun _ => rfl) M
theorem ndCs_app (a b : List (Nd × Value)) : ndCs (a ++ b) = ndCs a ++ ndCs b := by unfold ndCs; rw [List.flatMap_append]
theorem ndCs_get {M : List (Nd × Value)} {i j : Nat} {p : Nd × Value} (h : M[i]? = some p) (hj : j < 6) : (ndCs M)[i * 6 + j]? = (ndC p)[j]? := flatK_get (k := 6) (fun _ => rfl) h hj
theorem Tryz.infoNode : (Tryz.prog.info? 59).map (fun i => (i.zero, i.size, i.bytes)) = some (some (.agg #[.int .i64 0, .int .i64 0, .int .i64 0, .slice none 0 0, .bool false, .bool false]), 6, 56) := by kernel_rfl
theorem Tryz.elemNode : Elem Tryz.prog 60 59 (.agg #[.int .i64 0, .int .i64 0, .int .i64 0, .slice none 0 0, .bool false, .bool false]) 6 56 := ⟨Tryz.underlying60, Tryz.infoNode, rfl, by decide⟩
structure ArM (w : World) (bt : Nat) (S : Nat → Prop) (v : Value) (M : List (Nd × Value)) : Prop where
 box : Blk w bt 62 #[v]
 own : w.ownsRow 0 59 6 v M.length (ndCs M)
 sb : S bt
 sv : ∀ k, v.ownBlock = some k → S k ∧ k ≠ bt
 kids : ∀ p ∈ M, RdI w (fun b => S b ∧ b ≠ bt ∧ v.ownBlock ≠ some b) p.2 p.1.kids
 lt : ∀ b, S b → b < w.heap.size
def Ar (w : World) (bt : Nat) (S : Nat → Prop) (L : List Nd) : Prop := ∃ v M, M.map Prod.fst = L ∧ ArM w bt S v M
section
variable {w w' : World} {bt : Nat} {S S' X : Nat → Prop} {v : Value} {M : List (Nd × Value)} {L : List Nd}
theorem ArM.touch (h : ArM w bt S v M) (t : Touch X w w') (hX : ∀ b, S b → ¬ X b) : ArM w' bt S v M :=
 ⟨h.box.touch t (hX _ h.sb), t.own h.own fun k e => hX k (h.sv k e).1, h.sb, h.sv, fun p hp => (h.kids p hp).touch t fun b hb => hX b hb.1, fun b hb => Nat.lt_of_lt_of_le (h.lt b hb) t.size⟩
theorem ArM.below (h : ArM w bt S v M) (b : Below w.heap.size w w') : ArM w' bt S v M := h.touch (Touch.of_size b (fun _ => False)) fun _ _ c => c
theorem ArM.mono (h : ArM w bt S v M) (hS : ∀ b, S b → S' b) (hl : ∀ b, S' b → b < w.heap.size) : ArM w bt S' v M :=
 ⟨h.box, h.own, hS _ h.sb, fun k e => ⟨hS k (h.sv k e).1, (h.sv k e).2⟩, fun p hp => (h.kids p hp).mono fun b hb => ⟨hS b hb.1, hb.2⟩, hl⟩
theorem Ar.touch (h : Ar w bt S L) (t : Touch X w w') (hX : ∀ b, S b → ¬ X b) : Ar w' bt S L := by
 obtain ⟨v, M, e, h⟩ := h
 exact ⟨v, M, e, h.touch t hX⟩
theorem Ar.below (h : Ar w bt S L) (b : Below w.heap.size w w') : Ar w' bt S L := h.touch (Touch.of_size b (fun _ => False)) fun _ _ c => c
theorem Ar.lt (h : Ar w bt S L) : ∀ b, S b → b < w.heap.size := by
 obtain ⟨v, M, e, h⟩ := h
 exact h.lt
theorem ArM.shape (h : ArM w bt S v M) : ∃ A c, v = .slice A M.length c ∧ M.length ≤ c ∧ c ≤ 9223372036854775807 := by
 obtain ⟨A, c, hv, h1, h2⟩ := ownsRow_shape h.own
 exact ⟨A, c, hv, h1, by unfold maxLen at h2; omega⟩
theorem ArM.at_ (h : ArM w bt S v M) {i : Nat} {p : Nd × Value} (hp : M[i]? = some p) : ∃ g c, v = .slice (some ⟨g, 0, none⟩) M.length c ∧ S g ∧ g ≠ bt ∧ w.cell? ⟨g, i * 6, none⟩ = some (.int .i64 p.1.sym) ∧ w.cell? ⟨g, i * 6 + 1, none⟩ = some (.int .i64 p.1.leaf) ∧ w.cell? ⟨g, i * 6 + 2, none⟩ = some (.int .i64 p.1.rule) ∧ w.cell? ⟨g, i * 6 + 3, none⟩ = some p.2 ∧ w.cell? ⟨g, i * 6 + 4, none⟩ = some (.bool p.1.il) ∧ w.cell? ⟨g, i * 6 + 5, none⟩ = some (.bool p.1.below) ∧ RdI w (fun b => S b ∧ b ≠ bt ∧ b ≠ g) p.2 p.1.kids := by
 have hi := (List.getElem?_eq_some_iff.1 hp).1
 rcases h.own.2 with ⟨-, hn⟩ | ⟨g, cap, cur, rfl, hb, hh, hn, hc, hz, ht⟩
 ·omega
 ·have hcell : ∀ j, j < 6 → w.cell? ⟨g, i * 6 + j, none⟩ = (ndC p)[j]? := fun j hj => by
   rw [cell_of_row w g (i * 6 + j) cur 59 (0, 0) hh, ← ndCs_get hp hj, ← ht, List.getElem?_take, if_pos (by omega)]
   simp
  refine ⟨g, cap, rfl, (h.sv g rfl).1, (h.sv g rfl).2, hcell 0 (by decide), hcell 1 (by decide), hcell 2 (by decide), hcell 3 (by decide), hcell 4 (by decide), hcell 5 (by decide), ?_⟩
  exact (h.kids p (List.mem_of_getElem? hp)).mono fun b hb => ⟨hb.1, hb.2.1, fun e => hb.2.2 (by rw [e]; rfl)⟩
theorem ArM.mark {g c : Nat} (h : ArM w bt S (.slice (some ⟨g, 0, none⟩) M.length c) M) {i : Nat} (hi : i < M.length) : ArM (w.setCell ⟨g, i * 6 + 5, none⟩ (.bool true)) bt S (.slice (some ⟨g, 0, none⟩) M.length c) (M.modify i fun p => ({ p.1 with below := true }, p.2)) := by
 obtain ⟨hs, hne⟩ := h.sv g rfl
 have t : Touch (fun b => b = g) w (w.setCell ⟨g, i * 6 + 5, none⟩ (.bool true)) := touch_set _ _ _ _
 have hcs : (ndCs M).set (i * 6 + 5) (.bool true) = ndCs (M.modify i fun p => ({ p.1 with below := true }, p.2)) := by
  refine List.ext_getElem? fun k => ?_
  have hk : k = k / 6 * 6 + k % 6 := by omega
  have h6 : k % 6 < 6 := Nat.mod_lt _ (by decide)
  rcases hq : M[k / 6]? with _ | p
  ·have hq' : M.length ≤ k / 6 := List.getElem?_eq_none_iff.1 hq
   rw [List.getElem?_eq_none (by rw [List.length_set, ndCs_len]; omega), List.getElem?_eq_none (by rw [ndCs_len, List.length_modify]; omega)]
  ·have hq2 : (M.modify i fun p => ({ p.1 with below := true }, p.2))[k / 6]? = some (if i = k / 6 then ({ p.1 with below := true }, p.2) else p) := by
    rw [List.getElem?_modify, hq]
    by_cases e : i = k / 6 <;> simp [e]
   have e1 := ndCs_get hq h6
   have e2 := ndCs_get hq2 h6
   rw [← hk] at e1 e2
   rw [e2, List.getElem?_set]
   by_cases ek : i * 6 + 5 = k
   ·have ei : i = k / 6 := by omega
    have em : k % 6 = 5 := by omega
    rw [if_pos ek, if_pos (by rw [ndCs_len]; omega), if_pos ei, em]
    rfl
   ·rw [if_neg ek, e1]
    by_cases ei : i = k / 6
    ·have em : k % 6 ≠ 5 := by omega
     rw [if_pos ei]
     have : k % 6 = 0 ∨ k % 6 = 1 ∨ k % 6 = 2 ∨ k % 6 = 3 ∨ k % 6 = 4 := by omega
     rcases this with e | e | e | e | e <;> rw [e] <;> rfl
    ·rw [if_neg ei]
 refine ⟨h.box.touch t (fun e => hne e.symm), ?_, h.sb, h.sv, fun p hp => ?_, fun b hb => Nat.lt_of_lt_of_le (h.lt b hb) t.size⟩
 ·rw [List.length_modify, ← hcs]
  exact ownP_put h.own (by rw [ndCs_len]; omega) _
 ·obtain ⟨j, hj⟩ := List.mem_iff_getElem?.1 hp
  rw [List.getElem?_modify] at hj
  rcases hM : M[j]? with _ | q
  ·rw [hM] at hj; cases hj
  ·rw [hM] at hj
   have := (h.kids q (List.mem_of_getElem? hM)).touch t fun b hb e => hb.2.2 (by rw [e]; rfl)
   have hj' : (if i = j then (({ q.1 with below := true } : Nd), q.2) else q) = p := by
    by_cases e : i = j <;> simpa [e] using hj
   rw [← hj']
   by_cases e : i = j
   ·rw [if_pos e]; exact this
   ·rw [if_neg e]; exact this
theorem ArM.push {v' z : Value} {x : Nd} (h : ArM w bt S v M) (t : Touch X w w') (hX : ∀ b, X b → v.ownBlock = some b) (own : w'.ownsRow 0 59 6 v' (M.length + 1) (ndCs M ++ ndC (x, z)))
  (hv : v'.ownBlock = v.ownBlock ∨ ∃ k, v'.ownBlock = some k ∧ w.heap.size ≤ k) (hz : RdI w' (fun b => w.heap.size ≤ b ∧ b < w'.heap.size ∧ v'.ownBlock ≠ some b) z x.kids) : ArM (w'.setCell ⟨bt, 0, none⟩ v') bt (New S w w') v' (M ++ [(x, z)]) := by
 have hbt := h.lt bt h.sb
 have kb := h.box.touch t (fun e => (h.sv bt (hX bt e)).2 rfl)
 have hv' : ∀ k, v'.ownBlock = some k → (S k ∨ w.heap.size ≤ k) ∧ k ≠ bt := fun k e => by
  rcases hv with q | ⟨k', q, hk⟩
  ·exact ⟨.inl (h.sv k (q ▸ e)).1, (h.sv k (q ▸ e)).2⟩
  ·rw [q] at e; injection e with e; exact ⟨.inr (by omega), by omega⟩
 have t2 : Touch (fun b => b = bt) w' (w'.setCell ⟨bt, 0, none⟩ v') := touch_set _ _ _ _
 have hsz : (w'.setCell ⟨bt, 0, none⟩ v').heap.size = w'.heap.size := setc_size _ _ _
 have hlt' : ∀ k, v'.ownBlock = some k → k < w'.heap.size := fun k e => (own.lt k e).2
 refine ⟨kb.put 0 v', ?_, .inl h.sb, fun k e => ?_, fun p hp => ?_, fun b hb => ?_⟩
 ·rw [List.length_append, ndCs_app]
  have e1 : ndCs [(x, z)] = ndC (x, z) := by unfold ndCs; simp
  rw [e1]
  exact t2.own own fun k e => (hv' k e).2
 ·rcases (hv' k e).1 with q | q
  ·exact ⟨.inl q, (hv' k e).2⟩
  ·exact ⟨.inr ⟨q, hlt' k e⟩, (hv' k e).2⟩
 ·rcases List.mem_append.1 hp with hp | hp
  ·refine (((h.kids p hp).touch t fun b hb e => hb.2.2 (hX b e)).touch t2 fun b hb e => hb.2.1 e).mono fun b hb => ⟨.inl hb.1, hb.2.1, fun e => ?_⟩
   rcases hv with q | ⟨k', q, hk⟩
   ·exact hb.2.2 (q ▸ e)
   ·rw [q] at e; injection e with e
    have := h.lt b hb.1
    omega
  ·rw [List.mem_singleton] at hp
   subst hp
   exact (hz.touch t2 fun b hb e => by have := hb.1; omega).mono fun b hb => ⟨.inr ⟨hb.1, hb.2.1⟩, by omega, hb.2.2⟩
 ·rw [hsz]
  rcases hb with hb | hb
  ·exact Nat.lt_of_lt_of_le (h.lt b hb) t.size
  ·exact hb.2
end
end Go.Proofs.YtacankgalkffmaaGreat

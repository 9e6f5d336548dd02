/- The reference's tree: three rows of its own. -/
import Derived.Test.YtacankgalkffmaaGreatArena5
namespace Go.Proofs.YtacankgalkffmaaGreat
set_option linter.unusedVariables false
set_option linter.unusedSimpArgs false
open Go.RowKit
def tnX (x : Nd) : Nd := { x with below := false, il := false }
def tnC (p : Nd × Value) : List Value := [.int .i64 p.1.sym, .int .i64 p.1.leaf, .int .i64 p.1.rule, p.2]
def tnCs (M : List (Nd × Value)) : List Value := M.flatMap tnC
theorem tnCs_len (M : List (Nd × Value)) : (tnCs M).length = M.length * 4 := flatK_len (k := 4) (fun _ => rfl) M
theorem tnCs_app (a b : List (Nd × Value)) : tnCs (a ++ b) = tnCs a ++ tnCs b := by unfold tnCs; rw [List.flatMap_append]
theorem tnCs_one (p : Nd × Value) : tnCs [p] = tnC p := by unfold tnCs; simp
theorem tnCs_get {M : List (Nd × Value)} {i j : Nat} {p : Nd × Value} (h : M[i]? = some p) (hj : j < 4) : (tnCs M)[i * 4 + j]? = (tnC p)[j]? := flatK_get (k := 4) (fun _ => rfl) h hj
theorem Tryz.infoTNode : (Tryz.prog.info? 35).map (fun i => (i.zero, i.size, i.bytes)) = some (some (.agg #[.int .i64 0, .int .i64 0, .int .i64 0, .slice none 0 0]), 4, 48) := by kernel_rfl
theorem Tryz.elemTNode : Elem Tryz.prog 43 35 (.agg #[.int .i64 0, .int .i64 0, .int .i64 0, .slice none 0 0]) 4 48 := ⟨Tryz.underlying43, Tryz.infoTNode, rfl, by decide⟩
theorem Tryz.infoBoolA : (Tryz.prog.info? 4).map (fun i => (i.zero, i.size, i.bytes)) = some (some (.bool false), 1, 1) := by kernel_rfl
theorem Tryz.elemBoolA : Elem Tryz.prog 44 4 (.bool false) 1 1 := ⟨Tryz.underlying44, Tryz.infoBoolA, rfl, by decide⟩
def NwB (v v' : Value) (w : World) : Prop := v'.ownBlock = v.ownBlock ∨ ∃ k, v'.ownBlock = some k ∧ w.heap.size ≤ k
theorem NwB.ne {v v' : Value} {w : World} (h : NwB v v' w) {k : Nat} (hk : v.ownBlock ≠ some k) (hl : k < w.heap.size) : v'.ownBlock ≠ some k := by
 rcases h with q | ⟨j, q, hj⟩
 ·rw [q]; exact hk
 ·rw [q]; intro e; injection e with e; omega
theorem NwB.cases {v v' : Value} {w w' : World} {base n size : Nat} {e : TypeId} {xs : List Value} (h : NwB v v' w) (own : w'.ownsRow base e size v' n xs) {k : Nat} (hk : v'.ownBlock = some k) : v.ownBlock = some k ∨ (w.heap.size ≤ k ∧ k < w'.heap.size) := by
 rcases h with q | ⟨j, q, hj⟩
 ·exact .inl (q ▸ hk)
 ·have := (own.lt k hk).2
  rw [q] at hk; injection hk with hk
  exact .inr ⟨by omega, this⟩
structure RA3 (w : World) (bt : Nat) (S : Nat → Prop) (v iv bv : Value) (M : List (Nd × Value)) (I B : List Bool) : Prop where
 box : Blk w bt 46 #[v, iv, bv]
 own : w.ownsRow 0 35 4 v M.length (tnCs M)
 owi : w.ownsRow 0 4 1 iv I.length (I.map Value.bool)
 owb : w.ownsRow 0 4 1 bv B.length (B.map Value.bool)
 sb : S bt
 sv : ∀ k, v.ownBlock = some k → S k ∧ k ≠ bt
 si : ∀ k, iv.ownBlock = some k → S k ∧ k ≠ bt ∧ v.ownBlock ≠ some k
 sB : ∀ k, bv.ownBlock = some k → S k ∧ k ≠ bt ∧ v.ownBlock ≠ some k ∧ iv.ownBlock ≠ some k
 kids : ∀ p ∈ M, RdI w (fun b => S b ∧ b ≠ bt ∧ v.ownBlock ≠ some b ∧ iv.ownBlock ≠ some b ∧ bv.ownBlock ≠ some b) p.2 p.1.kids
 lt : ∀ b, S b → b < w.heap.size
def RAr (w : World) (bt : Nat) (S : Nat → Prop) (L : List Nd) : Prop := ∃ v iv bv M, M.map (fun p => tnX p.1) = L.map tnX ∧ RA3 w bt S v iv bv M (L.map Nd.il) (L.map Nd.below)
section
variable {w w' : World} {bt : Nat} {S S' X : Nat → Prop} {v iv bv : Value} {M : List (Nd × Value)} {I B : List Bool} {L : List Nd}
theorem RA3.touch (h : RA3 w bt S v iv bv M I B) (t : Touch X w w') (hX : ∀ b, S b → ¬ X b) : RA3 w' bt S v iv bv M I B :=
 ⟨h.box.touch t (hX _ h.sb), t.own h.own fun k e => hX k (h.sv k e).1, t.own h.owi fun k e => hX k (h.si k e).1, t.own h.owb fun k e => hX k (h.sB k e).1, h.sb, h.sv, h.si, h.sB, fun p hp => (h.kids p hp).touch t fun b hb => hX b hb.1, fun b hb => Nat.lt_of_lt_of_le (h.lt b hb) t.size⟩
theorem RA3.below (h : RA3 w bt S v iv bv M I B) (b : Below w.heap.size w w') : RA3 w' bt S v iv bv M I B := h.touch (Touch.of_size b (fun _ => False)) fun _ _ c => c
theorem RA3.mono (h : RA3 w bt S v iv bv M I B) (hS : ∀ b, S b → S' b) (hl : ∀ b, S' b → b < w.heap.size) : RA3 w bt S' v iv bv M I B :=
 ⟨h.box, h.own, h.owi, h.owb, hS _ h.sb, fun k e => ⟨hS k (h.sv k e).1, (h.sv k e).2⟩, fun k e => ⟨hS k (h.si k e).1, (h.si k e).2⟩, fun k e => ⟨hS k (h.sB k e).1, (h.sB k e).2⟩, fun p hp => (h.kids p hp).mono fun b hb => ⟨hS b hb.1, hb.2⟩, hl⟩
theorem RAr.touch (h : RAr w bt S L) (t : Touch X w w') (hX : ∀ b, S b → ¬ X b) : RAr w' bt S L := by
 obtain ⟨v, iv, bv, M, e, h⟩ := h
 exact ⟨v, iv, bv, M, e, h.touch t hX⟩
theorem RAr.below (h : RAr w bt S L) (b : Below w.heap.size w w') : RAr w' bt S L := h.touch (Touch.of_size b (fun _ => False)) fun _ _ c => c
theorem RAr.mono (h : RAr w bt S L) (hS : ∀ b, S b → S' b) (hl : ∀ b, S' b → b < w.heap.size) : RAr w bt S' L := by
 obtain ⟨v, iv, bv, M, e, h⟩ := h
 exact ⟨v, iv, bv, M, e, h.mono hS hl⟩
theorem RAr.lt (h : RAr w bt S L) : ∀ b, S b → b < w.heap.size := by
 obtain ⟨v, iv, bv, M, e, h⟩ := h
 exact h.lt
theorem RAr.len {M : List (Nd × Value)} {L : List Nd} (e : M.map (fun p => tnX p.1) = L.map tnX) : M.length = L.length := by
 have := congrArg List.length e
 simpa using this
theorem own_shape63 {w : World} {base n size : Nat} {e : TypeId} {v : Value} {xs : List Value} (h : w.ownsRow base e size v n xs) : ∃ A c, v = .slice A n c ∧ n ≤ c ∧ c ≤ 9223372036854775807 := by
 obtain ⟨A, c, hv, h1, h2⟩ := ownsRow_shape h
 exact ⟨A, c, hv, h1, by unfold maxLen at h2; omega⟩
theorem RA3.at_ (h : RA3 w bt S v iv bv M I B) {i : Nat} {p : Nd × Value} (hp : M[i]? = some p) : ∃ g c, v = .slice (some ⟨g, 0, none⟩) M.length c ∧ w.cell? ⟨g, i * 4, none⟩ = some (.int .i64 p.1.sym) ∧ w.cell? ⟨g, i * 4 + 1, none⟩ = some (.int .i64 p.1.leaf) ∧ w.cell? ⟨g, i * 4 + 2, none⟩ = some (.int .i64 p.1.rule) ∧ w.cell? ⟨g, i * 4 + 3, none⟩ = some p.2 ∧ RdI w S p.2 p.1.kids := by
 have hi := (List.getElem?_eq_some_iff.1 hp).1
 rcases h.own.2 with ⟨-, hn⟩ | ⟨g, cap, cur, rfl, hb, hh, hn, hc, hz, ht⟩
 ·omega
 ·have hcell : ∀ j, j < 4 → w.cell? ⟨g, i * 4 + j, none⟩ = (tnC p)[j]? := fun j hj => by
   rw [cell_of_row w g (i * 4 + j) cur 35 (0, 0) hh, ← tnCs_get hp hj, ← ht, List.getElem?_take, if_pos (by omega)]
   simp
  exact ⟨g, cap, rfl, hcell 0 (by decide), hcell 1 (by decide), hcell 2 (by decide), hcell 3 (by decide), (h.kids p (List.mem_of_getElem? hp)).mono fun b hb => hb.1⟩
theorem own_bool {w : World} {base : Nat} {v : Value} {I : List Bool} (h : w.ownsRow base 4 1 v I.length (I.map Value.bool)) {i : Nat} {b : Bool} (hi : I[i]? = some b) : ∃ g c, v = .slice (some ⟨g, 0, none⟩) I.length c ∧ w.cell? ⟨g, i, none⟩ = some (.bool b) ∧ w.frozen? ⟨g, i, none⟩ = false := by
 have hl := (List.getElem?_eq_some_iff.1 hi).1
 rcases h.2 with ⟨-, hn⟩ | ⟨g, cap, cur, rfl, hb, hh, hn, hc, hz, ht⟩
 ·omega
 ·refine ⟨g, cap, rfl, ?_, Blk.frozen hh _⟩
  have e : (I.map Value.bool)[i]? = some (.bool b) := by rw [List.getElem?_map, hi]; rfl
  rw [cell_of_row w g i cur 4 (0, 0) hh, ← e, ← ht, List.getElem?_take, if_pos (by omega)]
  simp
theorem RA3.mark {g c : Nat} (h : RA3 w bt S v iv (.slice (some ⟨g, 0, none⟩) B.length c) M I B) {i : Nat} (hi : i < B.length) : RA3 (w.setCell ⟨g, i, none⟩ (.bool true)) bt S v iv (.slice (some ⟨g, 0, none⟩) B.length c) M I (B.set i true) := by
 obtain ⟨hs, hne, hv, hiv⟩ := h.sB g rfl
 have t : Touch (fun b => b = g) w (w.setCell ⟨g, i, none⟩ (.bool true)) := touch_set _ _ _ _
 refine ⟨h.box.touch t (fun e => hne e.symm), t.own h.own fun k e e' => hv (e' ▸ e), t.own h.owi fun k e e' => hiv (e' ▸ e), ?_, h.sb, h.sv, h.si, h.sB, fun p hp => (h.kids p hp).touch t fun b hb e => hb.2.2.2.2 (by rw [e]; rfl), fun b hb => Nat.lt_of_lt_of_le (h.lt b hb) t.size⟩
 rw [List.length_set, List.map_set]
 exact ownP_put h.owb (by rw [List.length_map]; exact hi) _
theorem RA3.pushL {v' z : Value} {x : Nd} (h : RA3 w bt S v iv bv M I B) (t : Touch X w w') (hX : ∀ b, X b → v.ownBlock = some b) (own : w'.ownsRow 0 35 4 v' (M.length + 1) (tnCs M ++ tnC (x, z)))
  (hv : NwB v v' w) (hz : RdI w' (fun b => w.heap.size ≤ b ∧ b < w'.heap.size ∧ v'.ownBlock ≠ some b) z x.kids) : RA3 (w'.setCell ⟨bt, 0, none⟩ v') bt (New S w w') v' iv bv (M ++ [(x, z)]) I B := by
 have hbt := h.lt bt h.sb
 have t2 : Touch (fun b => b = bt) w' (w'.setCell ⟨bt, 0, none⟩ v') := touch_set _ _ _ _
 have hN : ∀ b, S b → New S w w' b := fun b hb => .inl hb
 refine ⟨(h.box.touch t (fun e => (h.sv bt (hX bt e)).2 rfl)).put 0 v', ?_, t2.own (t.own h.owi fun k e c => (h.si k e).2.2 (hX k c)) fun k e => (h.si k e).2.1, t2.own (t.own h.owb fun k e c => (h.sB k e).2.2.1 (hX k c)) fun k e => (h.sB k e).2.1, .inl h.sb, fun k e => ?_, fun k e => ?_, fun k e => ?_, fun p hp => ?_, fun b hb => ?_⟩
 ·rw [List.length_append, tnCs_app, tnCs_one]
  refine t2.own own fun k e => ?_
  rcases hv.cases own e with q | q
  ·exact (h.sv k q).2
  ·omega
 ·rcases hv.cases own e with q | q
  ·exact ⟨.inl (h.sv k q).1, (h.sv k q).2⟩
  ·exact ⟨.inr q, by omega⟩
 ·exact ⟨hN _ (h.si k e).1, (h.si k e).2.1, hv.ne (h.si k e).2.2 (h.lt k (h.si k e).1)⟩
 ·exact ⟨hN _ (h.sB k e).1, (h.sB k e).2.1, hv.ne (h.sB k e).2.2.1 (h.lt k (h.sB k e).1), (h.sB k e).2.2.2⟩
 ·rcases List.mem_append.1 hp with hp | hp
  ·exact (((h.kids p hp).touch t fun b hb e => hb.2.2.1 (hX b e)).touch t2 fun b hb e => hb.2.1 e).mono fun b hb => ⟨.inl hb.1, hb.2.1, hv.ne hb.2.2.1 (h.lt b hb.1), hb.2.2.2⟩
  ·rw [List.mem_singleton] at hp
   subst hp
   refine (hz.touch t2 fun b hb e => by have := hb.1; omega).mono fun b hb => ⟨.inr ⟨hb.1, hb.2.1⟩, by omega, hb.2.2, fun e => ?_, fun e => ?_⟩
   ·have := h.lt b (h.si b e).1; omega
   ·have := h.lt b (h.sB b e).1; omega
 ·rw [setc_size]
  rcases hb with hb | hb
  ·exact Nat.lt_of_lt_of_le (h.lt b hb) t.size
  ·exact hb.2
theorem RA3.pushI {v' : Value} {x : Bool} (h : RA3 w bt S v iv bv M I B) (t : Touch X w w') (hX : ∀ b, X b → iv.ownBlock = some b) (own : w'.ownsRow 0 4 1 v' (I.length + 1) (I.map Value.bool ++ [.bool x]))
  (hv : NwB iv v' w) : RA3 (w'.setCell ⟨bt, 1, none⟩ v') bt (New S w w') v v' bv M (I ++ [x]) B := by
 have hbt := h.lt bt h.sb
 have t2 : Touch (fun b => b = bt) w' (w'.setCell ⟨bt, 1, none⟩ v') := touch_set _ _ _ _
 have hN : ∀ b, S b → New S w w' b := fun b hb => .inl hb
 refine ⟨(h.box.touch t (fun e => (h.si bt (hX bt e)).2.1 rfl)).put 1 v', t2.own (t.own h.own fun k e c => (h.si k (hX k c)).2.2 e) fun k e => (h.sv k e).2, ?_, t2.own (t.own h.owb fun k e c => (h.sB k e).2.2.2 (hX k c)) fun k e => (h.sB k e).2.1, .inl h.sb, fun k e => ⟨.inl (h.sv k e).1, (h.sv k e).2⟩, fun k e => ?_, fun k e => ?_, fun p hp => ?_, fun b hb => ?_⟩
 ·rw [List.length_append, List.map_append]
  refine t2.own own fun k e => ?_
  rcases hv.cases own e with q | q
  ·exact (h.si k q).2.1
  ·omega
 ·rcases hv.cases own e with q | q
  ·exact ⟨.inl (h.si k q).1, (h.si k q).2⟩
  ·exact ⟨.inr q, by omega, fun e => by have := h.lt k (h.sv k e).1; omega⟩
 ·exact ⟨hN _ (h.sB k e).1, (h.sB k e).2.1, (h.sB k e).2.2.1, hv.ne (h.sB k e).2.2.2 (h.lt k (h.sB k e).1)⟩
 ·exact (((h.kids p hp).touch t fun b hb e => hb.2.2.2.1 (hX b e)).touch t2 fun b hb e => hb.2.1 e).mono fun b hb => ⟨.inl hb.1, hb.2.1, hb.2.2.1, hv.ne hb.2.2.2.1 (h.lt b hb.1), hb.2.2.2.2⟩
 ·rw [setc_size]
  rcases hb with hb | hb
  ·exact Nat.lt_of_lt_of_le (h.lt b hb) t.size
  ·exact hb.2
theorem RA3.pushB {v' : Value} {x : Bool} (h : RA3 w bt S v iv bv M I B) (t : Touch X w w') (hX : ∀ b, X b → bv.ownBlock = some b) (own : w'.ownsRow 0 4 1 v' (B.length + 1) (B.map Value.bool ++ [.bool x]))
  (hv : NwB bv v' w) : RA3 (w'.setCell ⟨bt, 2, none⟩ v') bt (New S w w') v iv v' M I (B ++ [x]) := by
 have hbt := h.lt bt h.sb
 have t2 : Touch (fun b => b = bt) w' (w'.setCell ⟨bt, 2, none⟩ v') := touch_set _ _ _ _
 refine ⟨(h.box.touch t (fun e => (h.sB bt (hX bt e)).2.1 rfl)).put 2 v', t2.own (t.own h.own fun k e c => (h.sB k (hX k c)).2.2.1 e) fun k e => (h.sv k e).2, t2.own (t.own h.owi fun k e c => (h.sB k (hX k c)).2.2.2 e) fun k e => (h.si k e).2.1, ?_, .inl h.sb, fun k e => ⟨.inl (h.sv k e).1, (h.sv k e).2⟩, fun k e => ⟨.inl (h.si k e).1, (h.si k e).2⟩, fun k e => ?_, fun p hp => ?_, fun b hb => ?_⟩
 ·rw [List.length_append, List.map_append]
  refine t2.own own fun k e => ?_
  rcases hv.cases own e with q | q
  ·exact (h.sB k q).2.1
  ·omega
 ·rcases hv.cases own e with q | q
  ·exact ⟨.inl (h.sB k q).1, (h.sB k q).2⟩
  ·exact ⟨.inr q, by omega, fun e => (by have := h.lt k (h.sv k e).1; omega), fun e => (by have := h.lt k (h.si k e).1; omega)⟩
 ·exact (((h.kids p hp).touch t fun b hb e => hb.2.2.2.2 (hX b e)).touch t2 fun b hb e => hb.2.1 e).mono fun b hb => ⟨.inl hb.1, hb.2.1, hb.2.2.1, hb.2.2.2.1, hv.ne hb.2.2.2.2 (h.lt b hb.1)⟩
 ·rw [setc_size]
  rcases hb with hb | hb
  ·exact Nat.lt_of_lt_of_le (h.lt b hb) t.size
  ·exact hb.2
theorem RAr.none (bt : Nat) (hb : Blk w bt 46 #[.slice none 0 0, .slice none 0 0, .slice none 0 0]) : RAr w bt (fun b => b = bt) [] :=
 ⟨_, _, _, [], rfl, hb, World.ownsRow_nil _ _ _ _, World.ownsRow_nil _ _ _ _, World.ownsRow_nil _ _ _ _, rfl, fun k e => (by cases e), fun k e => (by cases e), fun k e => (by cases e), fun p hp => (by cases hp), fun b e => by rw [e]; exact hb.lt⟩
end
end Go.Proofs.YtacankgalkffmaaGreat

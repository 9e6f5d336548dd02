/- Trees of nodes: what the iterator under gives. -/
import Derived.Test.YtacankgalkffmaaGreatArena6
namespace Go.Proofs.YtacankgalkffmaaGreat
set_option linter.unusedVariables false
set_option linter.unusedSimpArgs false
open Go.RowKit Go.Shelf
attribute [local go_sem] Oper.semAt_some
open Classical in
theorem loop_ghost {F : Fence} {N : Nat} {P : Program} {Q : Exit → Act → World → Prop} {c : Code} {a : Act} {w : World} (I : Nat → Act → World → Prop) (n0 : Nat) (h0 : I n0 a w)
  (round : ∀ n a w, I n a w → c.wpIn F N P (Exit.then (fun a' w' => ∃ m, m < n ∧ I m a' w') Q) a w) : (Code.loop c).wpIn F N P Q a w := by
 have key : ∀ (n : Nat) (a : Act) (w : World), I n a w → ∃ k, I k a w ∧ ∀ m, I m a w → k ≤ m := by
  intro n
  induction n using Nat.strongRecOn with
  | _ n ih =>
   intro a w h
   by_cases hm : ∃ m, m < n ∧ I m a w
   ·obtain ⟨m, h1, h2⟩ := hm
    exact ih m h1 a w h2
   ·exact ⟨n, h, fun m hI => Nat.le_of_not_lt fun c => hm ⟨m, c, hI⟩⟩
 refine wpIn_loop (fun a w => ∃ n, I n a w) (fun a w => if h : ∃ n, I n a w then (key h.choose a w h.choose_spec).choose else 0) ⟨n0, h0⟩ ?_
 rintro a w hI
 have hk := (key hI.choose a w hI.choose_spec).choose_spec
 refine wpIn_mono (round _ a w hk.1) ?_
 intro e a' w' hq
 cases e with
 | normal =>
  obtain ⟨m, h1, h2⟩ := hq
  refine ⟨⟨m, h2⟩, ?_⟩
  have hI' : ∃ n, I n a' w' := ⟨m, h2⟩
  rw [dif_pos hI', dif_pos hI]
  exact Nat.lt_of_le_of_lt ((key hI'.choose a' w' hI'.choose_spec).choose_spec.2 m h2) h1
 | exit id => exact hq
 | goto l => exact hq
 | ret => exact hq
 | panic ch => exact hq
 | outgrown => exact hq
theorem loop_under {F : Fence} {N : Nat} {P : Program} {Q : Exit → Act → World → Prop} {c : Code} {v0 v1 v2 v3 v4 v5 v6 v7 v8 v9 v10 v11 v12 v13 v14 v15 v16 v17 v18 v19 v20 v21 v22 v23 v24 v25 v26 v27 v28 v29 v30 v31 v32 v33 v34 v35 v36 v37 v38 v39 v40 v41 v42 v43 v44 v45 v46 v47 : Value} {ds0 : List Deferred} {w0 : World} (rel : List Deferred → Nat → World → Prop) (n0 : Nat) (h0 : rel ds0 n0 w0)
  (round : ∀ (y5 y14 y15 y16 y17 y18 y19 y20 y21 y22 y23 y24 y25 y26 y27 y28 y29 y30 y31 y32 y33 y34 y35 y36 y37 y38 y39 y40 y41 : Value) (ds : List Deferred) (n : Nat) (w : World), rel ds n w → ∀ K : Act → World → Prop, (∀ a' w', HandE (fun a' w' => ∃ (y5 y14 y15 y16 y17 y18 y19 y20 y21 y22 y23 y24 y25 y26 y27 y28 y29 y30 y31 y32 y33 y34 y35 y36 y37 y38 y39 y40 y41 : Value) (ds' : List Deferred) (m : Nat), rel ds' m w' ∧ m < n ∧ a' = { tmps := #[v0, v1, v2, v3, v4, y5, v6, v7, v8, v9, v10, v11, v12, v13, y14, y15, y16, y17, y18, y19, y20, y21, y22, y23, y24, y25, y26, y27, y28, y29, y30, y31, y32, y33, y34, y35, y36, y37, y38, y39, y40, y41, v42, v43, v44, v45, v46, v47], defers := ds' }) a' w' → K a' w') → c.wpIn F N P (Exit.then K Q) { tmps := #[v0, v1, v2, v3, v4, y5, v6, v7, v8, v9, v10, v11, v12, v13, y14, y15, y16, y17, y18, y19, y20, y21, y22, y23, y24, y25, y26, y27, y28, y29, y30, y31, y32, y33, y34, y35, y36, y37, y38, y39, y40, y41, v42, v43, v44, v45, v46, v47], defers := ds } w) : (Code.loop c).wpIn F N P Q { tmps := #[v0, v1, v2, v3, v4, v5, v6, v7, v8, v9, v10, v11, v12, v13, v14, v15, v16, v17, v18, v19, v20, v21, v22, v23, v24, v25, v26, v27, v28, v29, v30, v31, v32, v33, v34, v35, v36, v37, v38, v39, v40, v41, v42, v43, v44, v45, v46, v47], defers := ds0 } w0 := by
 refine loop_ghost (fun n a w => ∃ (y5 y14 y15 y16 y17 y18 y19 y20 y21 y22 y23 y24 y25 y26 y27 y28 y29 y30 y31 y32 y33 y34 y35 y36 y37 y38 y39 y40 y41 : Value) (ds : List Deferred), rel ds n w ∧ a = { tmps := #[v0, v1, v2, v3, v4, y5, v6, v7, v8, v9, v10, v11, v12, v13, y14, y15, y16, y17, y18, y19, y20, y21, y22, y23, y24, y25, y26, y27, y28, y29, y30, y31, y32, y33, y34, y35, y36, y37, y38, y39, y40, y41, v42, v43, v44, v45, v46, v47], defers := ds }) n0 ⟨_, _, _, _, _, _, _, _, _, _, _, _, _, _, _, _, _, _, _, _, _, _, _, _, _, _, _, _, _, _, h0, rfl⟩ ?_
 rintro n a w ⟨y5, y14, y15, y16, y17, y18, y19, y20, y21, y22, y23, y24, y25, y26, y27, y28, y29, y30, y31, y32, y33, y34, y35, y36, y37, y38, y39, y40, y41, ds, h1, rfl⟩
 refine wpIn_mono (round y5 y14 y15 y16 y17 y18 y19 y20 y21 y22 y23 y24 y25 y26 y27 y28 y29 y30 y31 y32 y33 y34 y35 y36 y37 y38 y39 y40 y41 ds n w h1 _ (fun a' w' h => h)) ?_
 intro e a' w' hq
 cases e with
 | normal =>
  obtain ⟨z5, z14, z15, z16, z17, z18, z19, z20, z21, z22, z23, z24, z25, z26, z27, z28, z29, z30, z31, z32, z33, z34, z35, z36, z37, z38, z39, z40, z41, ds', m, k1, k2, rfl⟩ := hq
  exact ⟨m, k2, z5, z14, z15, z16, z17, z18, z19, z20, z21, z22, z23, z24, z25, z26, z27, z28, z29, z30, z31, z32, z33, z34, z35, z36, z37, z38, z39, z40, z41, ds', k1, rfl⟩
 | exit id => exact hq
 | goto l => exact hq
 | ret => exact hq
 | panic ch => exact hq
 | outgrown => exact hq
def MkO (O : Nat → Prop) (ds : List Deferred) (w : World) : Prop := ∃ Ds : List Nat, Ds.Nodup ∧ ds = Ds.map mark ∧ ∀ D ∈ Ds, O D ∧ w.heap[D]? = some (.deferred (some []))
theorem MkO.nil (O : Nat → Prop) (w : World) : MkO O [] w := ⟨[], List.nodup_nil, rfl, fun D h => by cases h⟩
theorem MkO.touch {O X : Nat → Prop} {ds : List Deferred} {w w' : World} (h : MkO O ds w) (t : Touch X w w') (hX : ∀ b, O b → ¬ X b) : MkO O ds w' := by
 obtain ⟨Ds, h1, h2, h3⟩ := h
 exact ⟨Ds, h1, h2, fun D hD => ⟨(h3 D hD).1, (t.block D (Array.getElem?_eq_some_iff.1 (h3 D hD).2).1 (hX D (h3 D hD).1)).trans (h3 D hD).2⟩⟩
theorem MkO.cons {O O' : Nat → Prop} {ds : List Deferred} {w0 w : World} {D : Nat} (h : MkO O ds w0) (hk : ∀ D, O D → w0.heap[D]? = some (.deferred (some [])) → w.heap[D]? = some (.deferred (some []))) (hO : ∀ b, O b → O' b) (hD : O' D) (hlt : w0.heap.size ≤ D) (hd : w.heap[D]? = some (.deferred (some []))) : MkO O' (mark D :: ds) w := by
 obtain ⟨Ds, h1, rfl, h3⟩ := h
 refine ⟨D :: Ds, List.nodup_cons.2 ⟨fun hm => ?_, h1⟩, rfl, fun D' hD' => ?_⟩
 ·have := (Array.getElem?_eq_some_iff.1 (h3 D hm).2).1
  omega
 ·rcases List.mem_cons.1 hD' with e | e
  ·subst e; exact ⟨hD, hd⟩
  ·exact ⟨hO _ (h3 D' e).1, hk D' (h3 D' e).1 (h3 D' e).2⟩
theorem leaves_marksO {F : Fence} {n : Nat} {P : Program} {fn : Func} {tmps : Array Value} {R : Ending → World → Prop} {O : Nat → Prop} : ∀ (Ds : List Nat) (w : World), Ds.Nodup → (∀ D ∈ Ds, O D ∧ w.heap[D]? = some (.deferred (some []))) →
  (∀ w', Touch O w w' → LeavesIn F n P fn tmps R [] .returning w') → LeavesInM F n P fn tmps R (Ds.map mark) .returning w
 | [], w, _, _, h => h w (Touch.refl _ _)
 | D :: Ds, w, hn, hk, h => by
  obtain ⟨h1, h2⟩ := List.nodup_cons.1 hn
  obtain ⟨hD, hh⟩ := hk D (List.mem_cons_self ..)
  refine ⟨by simp, .inl ⟨D, _, rfl, run_takeDeferred hh, ?_⟩⟩
  have t : Touch O w (w.putObj D (.deferred none)) := (touch_putObj _).mono fun b _ e => by subst e; exact hD
  refine leaves_marksO Ds _ h2 (fun D' hD' => ⟨(hk D' (List.mem_cons_of_mem _ hD')).1, ?_⟩) fun w' hc => h w' (t.trans' hc)
  have hne : D' ≠ D := fun e => h1 (e ▸ hD')
  exact (World.putObj_heap_other hne).trans (hk D' (List.mem_cons_of_mem _ hD')).2
theorem MkO.leaves {F : Fence} {n : Nat} {P : Program} {fn : Func} {tmps : Array Value} {R : Ending → World → Prop} {O : Nat → Prop} {ds : List Deferred} {w : World} (h : MkO O ds w) (k : ∀ w', Touch O w w' → LeavesIn F n P fn tmps R [] .returning w') : LeavesInM F n P fn tmps R ds .returning w := by
 obtain ⟨Ds, h1, rfl, h3⟩ := h
 exact leaves_marksO Ds w h1 h3 k
theorem arena_under (p : Option Addr) (i : Int) (w : World) : Calls Tryz.prog 39 #[.pointer p, .int .i64 i] w fun e w' => e = .returned (.func (.func 67) #[] #[.pointer (some ⟨w.heap.size + 1, 0, none⟩), .pointer (some ⟨w.heap.size, 0, none⟩)]) ∧ w' = (w.alloc (.cells #[.pointer p] 29)).alloc (.cells #[.int .i64 i] 3) := by
 go_enter Tryz.func39, Tryz.ntmps39
 go_wp2_with fail
 go_ret
 exact ⟨rfl, rfl⟩
end Go.Proofs.YtacankgalkffmaaGreat

/- Items: how two are compared; the library's sort of them. -/
import Derived.Test.YtlpokomfljmogaaGreatItem4
import Derived.Test.YtlpokomfljmogaaGreatItemLay
import Derived.Test.YtlpokomfljmogaaGreatItemSort
namespace Go.Proofs.YtlpokomfljmogaaGreat
set_option linter.unusedVariables false
set_option linter.unusedSimpArgs false
open Go.RowKit Go.Shelf Go.Lib Go.Sort
attribute [local irreducible] wpStill wpOne wpPh

/-- the first of two numbers, if it is not 0, else the second -/
def orI (a b : Int) : Int := if a = 0 then b else a
set_option maxRecDepth 100000 in
set_option maxHeartbeats 2000000 in
theorem cmp_or {w : World} {F : Nat → Prop} {v : Value} {a b : Int} (h : RdI w F v [a, b]) :
    Calls Tryz.prog 108 #[v] w fun e w' => e = .returned (.int .i64 (orI a b)) ∧ w' = w := by
  obtain ⟨A, n, c, rfl, -⟩ := id h
  obtain ⟨hn, hnc, hcm, hcell⟩ := RdI.at_ h
  obtain rfl : n = 2 := hn
  unfold maxLen at hcm
  obtain ⟨bb, off, rfl, -, hc⟩ := hcell (by omega)
  have p0 := hc 0 a rfl
  have p1 := hc 1 b rfl
  have hv : orI a b = if a = 0 then b else a := rfl
  rw [Nat.add_zero] at p0
  clear hcell hc h
  have Xhv := hide hv
  clear hv
  go_enter Tryz.func108, Tryz.ntmps108
  go_wp2_with fail
  go_loopw [8] (fun i wr => ∃ k : Nat, k ≤ 2 ∧ i = .int .i64 k ∧ wr = w ∧ (0 < k → a = 0) ∧ (1 < k → b = 0)) (fun i _ => 2 - (intOf i).toNat)
  case atStart => exact ⟨0, by omega, rfl, rfl, fun h => absurd h (by omega), fun h => absurd h (by omega)⟩
  case round =>
    obtain ⟨k, hk, rfl, rfl, h0, h1⟩ := hrel
    match k, hk, h0, h1 with
    | 0, _, _, _ =>
      by_cases ha : a = 0
      · have ha' : (a != 0) = false := by simpa using ha
        have Xha := hide ha
        clear ha
        go_wp2_with fail
        go_roundw
        case rel => exact ⟨1, by omega, by first | go_num | trivial, by first | rfl | trivial, fun _ => Xha.out, fun h => absurd h (by omega)⟩
        case measure => simp [intOf]
      · have ha' : (a != 0) = true := by simpa using ha
        have Xha := hide ha
        clear ha
        go_wp2_with fail
        go_ret
        exact ⟨ret_int (by rw [Xhv.out, if_neg Xha.out]), by first | rfl | trivial⟩
    | 1, _, h0, _ =>
      have ha := h0 (by omega)
      by_cases hb : b = 0
      · have hb' : (b != 0) = false := by simpa using hb
        have Xha := hide ha
        have Xhb := hide hb
        clear ha hb
        go_wp2_with fail
        go_roundw
        case rel => exact ⟨2, by omega, by first | go_num | trivial, by first | rfl | trivial, fun _ => Xha.out, fun _ => Xhb.out⟩
        case measure => simp [intOf]
      · have hb' : (b != 0) = true := by simpa using hb
        have Xha := hide ha
        have Xhb := hide hb
        clear ha hb
        go_wp2_with fail
        go_ret
        exact ⟨ret_int (by rw [Xhv.out, if_pos Xha.out]), by first | rfl | trivial⟩
    | 2, _, h0, h1 =>
      have ha := h0 (by omega)
      have hb := h1 (by omega)
      have Xha := hide ha
      have Xhb := hide hb
      clear ha hb
      go_wp2_with fail
      go_ret
      exact ⟨ret_int (by rw [Xhv.out, if_pos Xha.out, Xhb.out]), by first | rfl | trivial⟩
theorem or_cfI (x y : It) : orI (Lib.compareInt x.1 y.1) (Lib.compareInt x.2 y.2) = cfI x y := by
  unfold orI cfI Lib.compareInt
  by_cases h1 : x.1 < y.1
  · simp [h1]
  · by_cases h2 : y.1 < x.1
    · simp [h1, h2]
    · simp [h1, h2]
/-- an item's two cells -/
def encIt (x : It) : List Value := [.int .i64 x.1, .int .i64 x.2]
set_option maxRecDepth 100000 in
set_option maxHeartbeats 2000000 in
theorem sorted_clo (x y : It) (W : World) : Calls Tryz.prog 107 #[.agg (encIt x).toArray, .agg (encIt y).toArray] W fun e w' => e = .returned (.int .i64 (cfI x y)) ∧ ∃ q os', w' = grow (W.drewN q) os' := by
  obtain ⟨a, b⟩ := x
  obtain ⟨c, d⟩ := y
  have hcon := fun x y W' => AnyG.cmp_Compare_int Tryz.cmpInt x y W'
  change ∀ x y W', Calls Tryz.prog 109 _ _ _ at hcon
  have h1 := fun W' => hcon a c W'
  have h2 := fun W' => hcon b d W'
  have hv := or_cfI (a, b) (c, d)
  simp only at hv
  clear hcon
  obtain ⟨w2, hw2, k1, k2, -⟩ := boxes_it (w := W) a b c d
  have d0 := (k1.cell 0).trans rfl
  have d1 := (k1.cell 1).trans rfl
  have e0 := (k2.cell 0).trans rfl
  have e1 := (k2.cell 1).trans rfl
  generalize Lib.compareInt a c = r at *
  generalize Lib.compareInt b d = s at *
  have Xhv := hide hv
  have Xh1 := hide h1
  have Xh2 := hide h2
  have Xk1 := hide k1
  have Xk2 := hide k2
  clear hv h1 h2 k1 k2
  show Calls Tryz.prog 107 #[.agg #[.int .i64 a, .int .i64 b], .agg #[.int .i64 c, .int .i64 d]] W _
  go_enter Tryz.func107, Tryz.ntmps107
  go_wp2_with fail
  rw [← hw2]
  have Xhw2 := hide hw2
  clear hw2
  refine wp_region_held_drew (S := (fun V => V.cell? ⟨W.heap.size, 0, none⟩ = some (.int .i64 a) ∧ V.cell? ⟨W.heap.size, 1, none⟩ = some (.int .i64 b) ∧ V.cell? ⟨W.heap.size + 1, 0, none⟩ = some (.int .i64 c) ∧ V.cell? ⟨W.heap.size + 1, 1, none⟩ = some (.int .i64 d))) (by kernel_rfl) ?_ (fun hHeld => ?_)
  · exact ⟨d0, d1, e0, e1⟩
  have hh := hHeld
  clear d0 d1 e0 e1
  have Xhh := hide hh
  clear hh
  refine wpAnyH_take (i := 0) (oi := ?_) (v := ?_) ?_ (by kernel_rfl) (by kernel_rfl) (by kernel_rfl) ?_ (Or.inl ⟨?_, ?_⟩) (by assumption) ?_
  rotate_left 2
  · (try simp only [List.getElem?_toArray, List.getElem?_cons_succ, List.getElem?_cons_zero]); rfl
  · exact fun _ _ _ h => h
  · rfl
  · (intro wS hwS; (try dsimp only at hwS); go_simp; all_goals with_reducible rfl)
  try simp only [Act.put, List.setIfInBounds_toArray, List.set_cons_zero, List.set_cons_succ]
  refine wpAnyH_take (i := 1) (oi := ?_) (v := ?_) ?_ (by kernel_rfl) (by kernel_rfl) (by kernel_rfl) ?_ (Or.inl ⟨?_, ?_⟩) (by assumption) ?_
  rotate_left 2
  · (try simp only [List.getElem?_toArray, List.getElem?_cons_succ, List.getElem?_cons_zero]); rfl
  · exact fun _ _ _ h => h
  · rfl
  · (intro wS hwS; (try dsimp only at hwS); go_simp; all_goals with_reducible rfl)
  try simp only [Act.put, List.setIfInBounds_toArray, List.set_cons_zero, List.set_cons_succ]
  refine wpAnyH_take (i := 2) (oi := ?_) (v := ?_) ?_ (by kernel_rfl) (by kernel_rfl) (by kernel_rfl) ?_ (Or.inl ⟨?_, ?_⟩) (by assumption) ?_
  rotate_left 2
  · (try simp only [List.getElem?_toArray, List.getElem?_cons_succ, List.getElem?_cons_zero]); rfl
  · exact fun _ _ _ h => h
  · rfl
  · (intro wS hwS; (try dsimp only at hwS); go_simp; all_goals with_reducible rfl)
  try simp only [Act.put, List.setIfInBounds_toArray, List.set_cons_zero, List.set_cons_succ]
  refine wpAnyH_take (i := 3) (oi := ?_) (v := ?_) ?_ (by kernel_rfl) (by kernel_rfl) (by kernel_rfl) ?_ (Or.inl ⟨?_, ?_⟩) (by assumption) ?_
  rotate_left 2
  · (try simp only [List.getElem?_toArray, List.getElem?_cons_succ, List.getElem?_cons_zero]); rfl
  · exact fun _ _ _ h => h
  · rfl
  · (intro wS hwS; (try dsimp only at hwS); go_simp; all_goals with_reducible rfl)
  try simp only [Act.put, List.setIfInBounds_toArray, List.set_cons_zero, List.set_cons_succ]
  refine wpAnyH_take (i := 5) (oi := ?_) (v := ?_) ?_ (by kernel_rfl) (by kernel_rfl) (by kernel_rfl) ?_ (Or.inl ⟨?_, ?_⟩) (by assumption) ?_
  rotate_left 2
  · (try simp only [List.getElem?_toArray, List.getElem?_cons_succ, List.getElem?_cons_zero]); rfl
  · exact fun _ _ _ h => h
  · rfl
  · (intro wS hwS; (try dsimp only at hwS); go_simp; all_goals with_reducible rfl)
  try simp only [Act.put, List.setIfInBounds_toArray, List.set_cons_zero, List.set_cons_succ]
  refine wpAnyH_take (i := 6) (oi := ?_) (v := ?_) ?_ (by kernel_rfl) (by kernel_rfl) (by kernel_rfl) ?_ (Or.inl ⟨?_, ?_⟩) (by assumption) ?_
  rotate_left 2
  · (try simp only [List.getElem?_toArray, List.getElem?_cons_succ, List.getElem?_cons_zero]); rfl
  · exact fun _ _ _ h => h
  · rfl
  · (intro wS hwS; (try dsimp only at hwS); go_simp; all_goals with_reducible rfl)
  try simp only [Act.put, List.setIfInBounds_toArray, List.set_cons_zero, List.set_cons_succ]
  refine wpAnyH_take (i := 7) (oi := ?_) (v := ?_) ?_ (by kernel_rfl) (by kernel_rfl) (by kernel_rfl) ?_ (Or.inl ⟨?_, ?_⟩) (by assumption) ?_
  rotate_left 2
  · (try simp only [List.getElem?_toArray, List.getElem?_cons_succ, List.getElem?_cons_zero]); rfl
  · exact fun _ _ _ h => h
  · rfl
  · (intro wS hwS; (try dsimp only at hwS); go_simp; all_goals with_reducible rfl)
  try simp only [Act.put, List.setIfInBounds_toArray, List.set_cons_zero, List.set_cons_succ]
  refine wpAnyH_take (i := 8) (oi := ?_) (v := ?_) ?_ (by kernel_rfl) (by kernel_rfl) (by kernel_rfl) ?_ (Or.inl ⟨?_, ?_⟩) (by assumption) ?_
  rotate_left 2
  · (try simp only [List.getElem?_toArray, List.getElem?_cons_succ, List.getElem?_cons_zero]); rfl
  · exact fun _ _ _ h => h
  · rfl
  · (intro wS hwS; (try dsimp only at hwS); go_simp; all_goals with_reducible rfl)
  try simp only [Act.put, List.setIfInBounds_toArray, List.set_cons_zero, List.set_cons_succ]
  refine wpAnyH_ready (rs := [4]) (by kernel_rfl) (by simp) ?_
  refine AllReadyH.cons (o := ?_) ?_ (fun K hK => ?_) AllReadyH.nil
  rotate_left 1
  · (try simp only [List.getElem?_toArray, List.getElem?_cons_succ, List.getElem?_cons_zero]); rfl
  go_simp
  go_at_call 109
  refine (Xh1.out _).mono ?_
  rintro e w' ⟨rfl, rfl⟩
  refine hK.out _ _ ?_ (fun hHeld => ?_)
  · exact Xhh.out
  clear hK K
  try simp only [Act.put, List.setIfInBounds_toArray, List.set_cons_zero, List.set_cons_succ]
  refine wpAnyH_ready (rs := [9]) (by kernel_rfl) (by simp) ?_
  refine AllReadyH.cons (o := ?_) ?_ (fun K hK => ?_) AllReadyH.nil
  rotate_left 1
  · (try simp only [List.getElem?_toArray, List.getElem?_cons_succ, List.getElem?_cons_zero]); rfl
  go_simp
  go_at_call 109
  refine (Xh2.out _).mono ?_
  rintro e w' ⟨rfl, rfl⟩
  refine hK.out _ _ ?_ (fun hHeld => ?_)
  · exact Xhh.out
  clear hK K
  try simp only [Act.put, List.setIfInBounds_toArray, List.set_cons_zero, List.set_cons_succ]
  refine wpAnyH_ready (rs := [10]) (by kernel_rfl) (by simp) ?_
  refine AllReadyH.cons (o := ?_) ?_ (fun K hK => ?_) AllReadyH.nil
  rotate_left 1
  · (try simp only [List.getElem?_toArray, List.getElem?_cons_succ, List.getElem?_cons_zero]); rfl
  go_simp
  have hk : ∀ (V : World), Below w2.drew.heap.size w2.drew V → V.cell? ⟨W.heap.size, 0, none⟩ = some (.int .i64 a) ∧ V.cell? ⟨W.heap.size, 1, none⟩ = some (.int .i64 b) ∧ V.cell? ⟨W.heap.size + 1, 0, none⟩ = some (.int .i64 c) ∧ V.cell? ⟨W.heap.size + 1, 1, none⟩ = some (.int .i64 d) := fun V hV =>
    ⟨(hV.cell (p := ⟨W.heap.size, 0, none⟩) Xk1.out.lt).trans Xhh.out.1, (hV.cell (p := ⟨W.heap.size, 1, none⟩) Xk1.out.lt).trans Xhh.out.2.1, (hV.cell (p := ⟨W.heap.size + 1, 0, none⟩) Xk2.out.lt).trans Xhh.out.2.2.1, (hV.cell (p := ⟨W.heap.size + 1, 1, none⟩) Xk2.out.lt).trans Xhh.out.2.2.2⟩
  have hk3 := hk _ ((Below.refl _ _).alloc (Nat.le_refl _) (.cells #[.int .i64 r, .int .i64 s] 3))
  clear hk
  refine hK.out _ _ ?_ (fun hHeld => ?_)
  · exact hk3
  clear hK K
  try simp only [Act.put, List.setIfInBounds_toArray, List.set_cons_zero, List.set_cons_succ]
  have ho : RdI (w2.drew.alloc (.cells #[.int .i64 r, .int .i64 s] 3)) (fun b => b = w2.drew.heap.size) (.slice (some ⟨w2.drew.heap.size, 0, none⟩) 2 2) [r, s] := ⟨_, 2, 2, rfl, Nat.le_refl _, by decide, rfl, fun _ => ⟨_, 0, rfl, rfl, fun j u hu => by rw [(Blk.new w2.drew 3 #[.int .i64 r, .int .i64 s]).cell]; simpa using hu⟩⟩
  have cor := cmp_or ho
  have Xcor := hide cor
  have Xho := hide ho
  clear cor ho
  refine wpAnyH_ready (rs := [11]) (by kernel_rfl) (by simp) ?_
  refine AllReadyH.cons (o := ?_) ?_ (fun K hK => ?_) AllReadyH.nil
  rotate_left 1
  · (try simp only [List.getElem?_toArray, List.getElem?_cons_succ, List.getElem?_cons_zero]); rfl
  go_simp
  go_at_call 108
  refine Xcor.out.mono ?_
  rintro e w' ⟨rfl, rfl⟩
  refine hK.out _ _ ?_ (fun hHeld => ?_)
  · exact hk3
  clear hK K
  try simp only [Act.put, List.setIfInBounds_toArray, List.set_cons_zero, List.set_cons_succ]
  refine wpAnyH_take (i := 12) (oi := ?_) (v := ?_) ?_ (by kernel_rfl) (by kernel_rfl) (by kernel_rfl) ?_ (Or.inl ⟨?_, ?_⟩) (by assumption) ?_
  rotate_left 2
  · (try simp only [List.getElem?_toArray, List.getElem?_cons_succ, List.getElem?_cons_zero]); rfl
  · exact fun _ _ _ h => h
  · rfl
  · (intro wS hwS; (try dsimp only at hwS); go_simp; all_goals with_reducible rfl)
  try simp only [Act.put, List.setIfInBounds_toArray, List.set_cons_zero, List.set_cons_succ]
  refine wpAnyH_done (by kernel_rfl) ?_ _
  go_wp2_with fail
  go_ret
  refine ⟨ret_int Xhv.out, 1, #[.cells #[.int .i64 a, .int .i64 b] 34, .cells #[.int .i64 c, .int .i64 d] 34, .cells #[.int .i64 r, .int .i64 s] 3], ?_⟩
  rw [Xhw2.out]
  rfl
theorem cmp_lays (blk off size : Nat) (w : World) : CmpLays Tryz.prog 107 #[] encIt 2 cfI blk off size w :=
  fun _ _ _ _ x y => sorted_clo x y _
/-- slices.SortFunc at items: what lies there is sorted -/
theorem sort_items (blk off cap : Nat) (d : Array It) (w : World) (hH : HoldsK encIt 2 w blk off d) (hblk : blk < w.heap.size) (hsz : d.size < 4611686018427387904) :
    Calls Tryz.prog 106 #[.slice (some ⟨blk, off, none⟩) d.size cap, .func (.func 107) #[] #[]] w fun e w' => e = .returned (.tuple #[]) ∧ ∃ n os, w' = sortWorldK encIt 2 w blk off n (sortI d.toList).toArray os := by
  have eg : ∀ args w, (callFunc 107 args).run Tryz.prog w = .ok (.enter 107 args) w := enters_of Tryz.func107 (by kernel_rfl) rfl
  exact AnyQ.slices_SortFunc_total Tryz.sortIt 2 Tryz.isAgg34 Tryz.sizeOf34 encIt (fun _ => rfl) (fun x v hv => by simp [encIt] at hv; rcases hv with rfl | rfl <;> rfl) cfI swoI 107 #[] blk off cap d w eg (cmp_lays blk off d.size w) hH hblk hsz partI
theorem sort_items_none (p : Option Addr) (cap : Nat) (fv : Value) (w : World) : Calls Tryz.prog 106 #[.slice p 0 cap, fv] w fun e w' => e = .returned (.tuple #[]) ∧ w' = w :=
  AnyF.slices_SortFunc_none Tryz.sortIt p cap fv w
end Go.Proofs.YtlpokomfljmogaaGreat

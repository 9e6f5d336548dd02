/- Items, the reference's: Put. -/
import Derived.Test.YtlpokomfljmogaaGreatItem4
import Derived.Test.YtlpokomfljmogaaGreatGrow
import Derived.Deep.Cut
namespace Go.Proofs.YtlpokomfljmogaaGreat
set_option linter.unusedVariables false
set_option linter.unusedSimpArgs false
open Go.RowKit
attribute [local irreducible] wpStill wpOne wpPh

theorem Tryz.infoItem : (Tryz.prog.info? 34).map (fun i => (i.zero, i.size, i.bytes)) = some (some (.agg #[.int .i64 0, .int .i64 0]), 2, 16) := by kernel_rfl
theorem Tryz.elemItem : Elem Tryz.prog 26 34 (.agg #[.int .i64 0, .int .i64 0]) 2 16 := ⟨Tryz.underlying26, Tryz.infoItem, rfl, by decide⟩
theorem own_alloc {w : World} {base : Nat} {e : TypeId} {size n : Nat} {v : Value} {xs : List Value} (h : w.ownsRow base e size v n xs) (o : Obj) : (w.alloc o).ownsRow base e size v n xs := own_below' h ((Below.refl _ w).alloc (Nat.le_refl _) o)
theorem own_empty (w : World) (e : TypeId) (size : Nat) : World.ownsRow (w.alloc (.cells #[] e)) w.heap.size e size (.slice (some ⟨w.heap.size, 0, none⟩) 0 0) 0 [] := by
  have := World.ownsRow_made (base := w.heap.size) (e := e) (size := size) w #[] 0 (Nat.le_refl _) (by decide) (by simp)
  simpa using this
/-- the beginning and the end of a slice of items -/
theorem RdIt.first {w : World} {F : Nat → Prop} {A : Option Addr} {n c : Nat} {l : List It} (h : RdIt w F (.slice A n c) l) {k : Nat} (hk : k ≤ n) : RdIt w F (.slice A k c) (l.take k) := by
  obtain ⟨hn, hnc, hcm, hcell⟩ := RdIt.at_ h
  refine ⟨_, _, _, rfl, by omega, hcm, by rw [itCells_length, List.length_take]; congr 1; omega, fun h0 => ?_⟩
  obtain ⟨b, off, hA, hF, hc⟩ := hcell (by omega)
  refine ⟨b, off, hA, hF, fun j u hu => ?_⟩
  obtain ⟨i, x, hx, h2⟩ := itCells_at hu
  rw [List.getElem?_take] at hx
  split at hx
  · obtain ⟨k1, k2⟩ := hc i x hx
    rcases h2 with h2 | h2
    · rw [h2.1, h2.2]; exact k1
    · rw [h2.1, h2.2, ← Nat.add_assoc]; exact k2
  · cases hx
theorem RdIt.rest {w : World} {F : Nat → Prop} {bb off n c : Nat} {l : List It} (h : RdIt w F (.slice (some ⟨bb, off, none⟩) n c) l) {k : Nat} (hk : k ≤ n) : RdIt w F (.slice (if c = k then some ⟨bb, off, none⟩ else some ⟨bb, off + k * 2, none⟩) (n - k) (c - k)) (l.drop k) := by
  obtain ⟨hn, hnc, hcm, hcell⟩ := RdIt.at_ h
  refine ⟨_, _, _, rfl, by omega, by omega, by rw [itCells_length, List.length_drop]; congr 1; omega, fun hn0 => ?_⟩
  obtain ⟨b, o, e, hF, hc⟩ := hcell (by omega)
  injection e with e
  injection e with e1 e2 _
  subst e1 e2
  rw [if_neg (by omega)]
  refine ⟨_, _, rfl, hF, fun j u hu => ?_⟩
  obtain ⟨i, x, hx, h2⟩ := itCells_at hu
  rw [List.getElem?_drop] at hx
  obtain ⟨k1, k2⟩ := hc _ x hx
  rcases h2 with h2 | h2
  · rw [h2.1, h2.2, show off + k * 2 + i * 2 = off + (k + i) * 2 by omega]; exact k1
  · rw [h2.1, h2.2, show off + k * 2 + (i * 2 + 1) = off + (k + i) * 2 + 1 by omega]; exact k2
/-- what Put hands back -/
def PutPost (w : World) (F : Nat → Prop) (l : List It) (e : Ending) (w' : World) : Prop := ∃ A n c, e = .returned (.slice A n c) ∧ RdIt w' (fun b => F b ∨ (w.heap.size ≤ b ∧ b < w'.heap.size)) (.slice A n c) l ∧ Below w.heap.size w w'
set_option maxRecDepth 100000 in
set_option maxHeartbeats 4000000 in
theorem ref12_Put {w : World} {F : Nat → Prop} {v : Value} {l : List It} (h : RdIt w F v l) (hF : ∀ q, F q → q < w.heap.size) (x : It) (hl : l.length ≤ 1000000) (hnil : l = [] → v = .slice none 0 0) :
    Calls Tryz.prog 65 #[v, ItV x] w (PutPost w F (putI x l)) := by
  obtain ⟨A, n, c, rfl, -⟩ := id h
  obtain ⟨x0, x1⟩ := x
  obtain ⟨hn, hnc, hcm, -⟩ := RdIt.at_ h
  unfold maxLen at hcm
  rw [← hn] at hl
  obtain ⟨w1, hw1⟩ : ∃ w1, w1 = w.alloc (.cells #[.int .i64 x0, .int .i64 x1] 34) := ⟨_, rfl⟩
  have k1 : Blk w1 w.heap.size 34 #[.int .i64 x0, .int .i64 x1] := by rw [hw1]; exact Blk.new _ _ _
  have b1 : Below w.heap.size w w1 := by rw [hw1]; exact (Below.refl _ w).alloc (Nat.le_refl _) _
  have hnil : n = 0 → A = none ∧ c = 0 := fun e => by
    have := hnil (List.length_eq_zero_iff.1 (by omega))
    injection this with e1 e2 e3
    exact ⟨e1, e3⟩
  have Xk1 := hide k1
  have Xb1 := hide b1
  have Xh := hide h
  have XhF := hide hF
  have Xhn := hide hn
  have Xhnil := hide hnil
  clear k1 b1 h hF hn hnil
  go_enter Tryz.func65, Tryz.ntmps65
  go_wp2_with fail
  rw [← hw1]
  go_loopw [5] (fun i wr => ∃ k : Nat, k ≤ n ∧ i = .int .i64 k ∧ Below w1.heap.size w1 wr ∧ (∀ j y, j < k → l[j]? = some y → itLt y (x0, x1) = true)) (fun i _ => n - (intOf i).toNat)
  case atStart => exact ⟨0, Nat.zero_le _, rfl, Below.refl _ _, fun j y hj => absurd hj (by omega)⟩
  case round =>
    obtain ⟨k, hk, rfl, bw, hb⟩ := hrel
    obtain ⟨wd, hwd⟩ : ∃ wd, wd = wr.drew := ⟨_, rfl⟩
    have bd : Below w1.heap.size w1 wd := by rw [hwd]; exact bw.drew
    have kd := Xk1.out.below bd Xk1.out.lt
    have b0 : Below w.heap.size w wd := Xb1.out.trans (bd.mono Xb1.out.size)
    have hrd := Xh.out.below b0 XhF.out
    obtain ⟨-, -, -, hcell⟩ := RdIt.at_ hrd
    have d0 := (kd.cell 0).trans rfl
    have d1 := (kd.cell 1).trans rfl
    have hwx : w.heap.size < wd.heap.size := kd.lt
    subst hwd
    by_cases hlt : k < n
    · have hlt' : (k : Int) < (n : Int) := by omega
      obtain ⟨b, off, rfl, -, hcc⟩ := hcell (by omega)
      obtain ⟨⟨y0, y1⟩, hy⟩ : ∃ y, l[k]? = some y := ⟨_, List.getElem?_eq_getElem (by rw [← Xhn.out]; exact hlt)⟩
      obtain ⟨p0, p1⟩ := hcc k _ hy
      have cl := ref12_less (y0, y1) (x0, x1) wr.drew
      obtain ⟨lt, hlt2⟩ : ∃ b, b = itLt (y0, y1) (x0, x1) := ⟨_, rfl⟩
      rw [← hlt2] at cl
      clear hcell hcc hrd kd
      simp only at p0 p1
      have Xbw := hide bw
      have Xbd := hide bd
      have Xb0 := hide b0
      have Xhb := hide hb
      have Xhy := hide hy
      have Xhlt2 := hide hlt2
      have Xcl := hide cl
      have Xhwx := hide hwx
      clear bw bd b0 hb hy hlt2 cl hwx
      go_wp2_with fail
      refine wp_region_held_drew (S := (fun W => W.cell? ⟨w.heap.size, 0, none⟩ = some (.int .i64 x0) ∧ W.cell? ⟨w.heap.size, 1, none⟩ = some (.int .i64 x1) ∧ W.cell? ⟨b, off + k * 2, none⟩ = some (.int .i64 y0) ∧ W.cell? ⟨b, off + k * 2 + 1, none⟩ = some (.int .i64 y1))) (by kernel_rfl) ?_ (fun hHeld => ?_)
      · exact ⟨d0, d1, p0, p1⟩
      refine wpAnyH_take (i := 0) (oi := ?_) (v := ?_) ?_ (by kernel_rfl) (by kernel_rfl) (by kernel_rfl) ?_ (Or.inl ⟨?_, ?_⟩) (by assumption) ?_
      rotate_left 2
      · (try simp only [List.getElem?_toArray, List.getElem?_cons_succ, List.getElem?_cons_zero]); rfl
      · exact fun _ _ _ h => h
      · rfl
      · (intro wS hwS; (try dsimp only at hwS); go_simp; all_goals with_reducible rfl)
      try simp only [Act.put, List.setIfInBounds_toArray, List.set_cons_zero, List.set_cons_succ]
      refine wpAnyH_take (i := 1) (oi := ?_) (v := ?_) ?_ (by kernel_rfl) (by kernel_rfl) (by kernel_rfl) ?_ (Or.inl ⟨?_, ?_⟩) (by assumption) ?_
      rotate_left 2
      · (try simp only [List.getElem?_toArray, List.getElem?_cons_succ, List.getElem?_cons_zero]); rfl
      · exact fun _ _ _ h => h
      · rfl
      · (intro wS hwS; (try dsimp only at hwS); go_simp; all_goals with_reducible rfl)
      try simp only [Act.put, List.setIfInBounds_toArray, List.set_cons_zero, List.set_cons_succ]
      refine wpAnyH_take (i := 2) (oi := ?_) (v := ?_) ?_ (by kernel_rfl) (by kernel_rfl) (by kernel_rfl) ?_ (Or.inl ⟨?_, ?_⟩) (by assumption) ?_
      rotate_left 2
      · (try simp only [List.getElem?_toArray, List.getElem?_cons_succ, List.getElem?_cons_zero]); rfl
      · exact fun _ _ _ h => h
      · rfl
      · (intro wS hwS; (try dsimp only at hwS); go_simp; all_goals with_reducible rfl)
      try simp only [Act.put, List.setIfInBounds_toArray, List.set_cons_zero, List.set_cons_succ]
      refine wpAnyH_take (i := 3) (oi := ?_) (v := ?_) ?_ (by kernel_rfl) (by kernel_rfl) (by kernel_rfl) ?_ (Or.inl ⟨?_, ?_⟩) (by assumption) ?_
      rotate_left 2
      · (try simp only [List.getElem?_toArray, List.getElem?_cons_succ, List.getElem?_cons_zero]); rfl
      · exact fun _ _ _ h => h
      · rfl
      · (intro wS hwS; (try dsimp only at hwS); go_simp; all_goals with_reducible rfl)
      try simp only [Act.put, List.setIfInBounds_toArray, List.set_cons_zero, List.set_cons_succ]
      refine wpAnyH_take (i := 4) (oi := ?_) (v := ?_) ?_ (by kernel_rfl) (by kernel_rfl) (by kernel_rfl) ?_ (Or.inl ⟨?_, ?_⟩) (by assumption) ?_
      rotate_left 2
      · (try simp only [List.getElem?_toArray, List.getElem?_cons_succ, List.getElem?_cons_zero]); rfl
      · exact fun _ _ _ h => h
      · rfl
      · (intro wS hwS; (try dsimp only at hwS); go_simp; all_goals with_reducible rfl)
      try simp only [Act.put, List.setIfInBounds_toArray, List.set_cons_zero, List.set_cons_succ]
      refine wpAnyH_take (i := 5) (oi := ?_) (v := ?_) ?_ (by kernel_rfl) (by kernel_rfl) (by kernel_rfl) ?_ (Or.inl ⟨?_, ?_⟩) (by assumption) ?_
      rotate_left 2
      · (try simp only [List.getElem?_toArray, List.getElem?_cons_succ, List.getElem?_cons_zero]); rfl
      · exact fun _ _ _ h => h
      · rfl
      · (intro wS hwS; (try dsimp only at hwS); go_simp; all_goals with_reducible rfl)
      try simp only [Act.put, List.setIfInBounds_toArray, List.set_cons_zero, List.set_cons_succ]
      refine wpAnyH_take (i := 6) (oi := ?_) (v := ?_) ?_ (by kernel_rfl) (by kernel_rfl) (by kernel_rfl) ?_ (Or.inl ⟨?_, ?_⟩) (by assumption) ?_
      rotate_left 2
      · (try simp only [List.getElem?_toArray, List.getElem?_cons_succ, List.getElem?_cons_zero]); rfl
      · exact fun _ _ _ h => h
      · rfl
      · (intro wS hwS; (try dsimp only at hwS); go_simp; all_goals with_reducible rfl)
      try simp only [Act.put, List.setIfInBounds_toArray, List.set_cons_zero, List.set_cons_succ]
      refine wpAnyH_take (i := 7) (oi := ?_) (v := ?_) ?_ (by kernel_rfl) (by kernel_rfl) (by kernel_rfl) ?_ (Or.inl ⟨?_, ?_⟩) (by assumption) ?_
      rotate_left 2
      · (try simp only [List.getElem?_toArray, List.getElem?_cons_succ, List.getElem?_cons_zero]); rfl
      · exact fun _ _ _ h => h
      · rfl
      · (intro wS hwS; (try dsimp only at hwS); go_simp; all_goals with_reducible rfl)
      try simp only [Act.put, List.setIfInBounds_toArray, List.set_cons_zero, List.set_cons_succ]
      refine wpAnyH_take (i := 8) (oi := ?_) (v := ?_) ?_ (by kernel_rfl) (by kernel_rfl) (by kernel_rfl) ?_ (Or.inl ⟨?_, ?_⟩) (by assumption) ?_
      rotate_left 2
      · (try simp only [List.getElem?_toArray, List.getElem?_cons_succ, List.getElem?_cons_zero]); rfl
      · exact fun _ _ _ h => h
      · rfl
      · (intro wS hwS; (try dsimp only at hwS); go_simp; all_goals with_reducible rfl)
      try simp only [Act.put, List.setIfInBounds_toArray, List.set_cons_zero, List.set_cons_succ]
      refine wpAnyH_take (i := 9) (oi := ?_) (v := ?_) ?_ (by kernel_rfl) (by kernel_rfl) (by kernel_rfl) ?_ (Or.inl ⟨?_, ?_⟩) (by assumption) ?_
      rotate_left 2
      · (try simp only [List.getElem?_toArray, List.getElem?_cons_succ, List.getElem?_cons_zero]); rfl
      · exact fun _ _ _ h => h
      · rfl
      · (intro wS hwS; (try dsimp only at hwS); go_simp; all_goals with_reducible rfl)
      try simp only [Act.put, List.setIfInBounds_toArray, List.set_cons_zero, List.set_cons_succ]
      refine wpAnyH_ready (rs := [10]) (by kernel_rfl) (by simp) ?_
      refine AllReadyH.cons (o := ?_) ?_ (fun K hK => ?_) AllReadyH.nil
      rotate_left 1
      · (try simp only [List.getElem?_toArray, List.getElem?_cons_succ, List.getElem?_cons_zero]); rfl
      go_simp
      go_at_call 111
      with_reducible refine Xcl.out.mono ?_
      rintro e w5 ⟨rfl, b5⟩
      have b5' := Xbd.out.trans (b5.mono Xbd.out.size)
      refine hK.out _ _ ?_ (fun hHeld => ?_)
      · exact ⟨(b5.cell (p := ⟨w.heap.size, 0, none⟩) Xhwx.out).trans d0, (b5.cell (p := ⟨w.heap.size, 1, none⟩) Xhwx.out).trans d1, (b5.cell (p := ⟨b, off + k * 2, none⟩) (World.block_lt_of_cell? _ _ p0)).trans p0, (b5.cell (p := ⟨b, off + k * 2 + 1, none⟩) (World.block_lt_of_cell? _ _ p1)).trans p1⟩
      clear hK K
      try simp only [Act.put, List.setIfInBounds_toArray, List.set_cons_zero, List.set_cons_succ]
      clear b5 Xbd Xcl Xhwx Xb0 Xbw
      cases lt with
      | true =>
        have hb2 : ∀ j y, j < k + 1 → l[j]? = some y → itLt y (x0, x1) = true := fun j y hj hy' => by
          by_cases e : j = k
          · subst e; rw [Xhy.out] at hy'; injection hy' with hy'; rw [← hy']; exact Xhlt2.out.symm
          · exact Xhb.out j y (by omega) hy'
        clear d0 d1 p0 p1
        have Xb5' := hide b5'
        have Xhb2 := hide hb2
        clear b5' hb2
        refine wpAnyH_take (i := 11) (oi := ?_) (v := ?_) ?_ (by kernel_rfl) (by kernel_rfl) (by kernel_rfl) ?_ (Or.inl ⟨?_, ?_⟩) (by assumption) ?_
        rotate_left 2
        · (try simp only [List.getElem?_toArray, List.getElem?_cons_succ, List.getElem?_cons_zero]); rfl
        · exact fun _ _ _ h => h
        · rfl
        · (intro wS hwS; (try dsimp only at hwS); go_simp; all_goals with_reducible rfl)
        try simp only [Act.put, List.setIfInBounds_toArray, List.set_cons_zero, List.set_cons_succ]
        refine wpAnyH_done (by kernel_rfl) ?_ _
        go_wp2_with fail
        go_roundw
        case rel => exact ⟨k + 1, by omega, by go_num, Xb5'.out, Xhb2.out⟩
        case measure => simp [intOf]; omega
      | false =>
        have hpa := put_at (x := ((x0, x1) : It)) (l := l) (k := k) (by rw [← Xhn.out]; exact hk) Xhb.out (fun y hy' => by rw [Xhy.out] at hy'; injection hy' with hy'; rw [← hy']; exact Xhlt2.out.symm)
        obtain ⟨e0, e1, e2, e3⟩ := id hHeld
        have heq := eql_item y0 y1 x0 x1
        have hgd := fun op p q => guard_item op p q (y0, y1) (x0, x1)
        have bq : Below w.heap.size w w5.drew := (Xb1.out.trans (b5'.mono Xb1.out.size)).drew
        have hwq : w.heap.size < w5.drew.heap.size := (Xk1.out.below b5' Xk1.out.lt).lt
        clear d0 d1 p0 p1
        by_cases he : ((y0, y1) : It) = (x0, x1)
        · rw [decide_eq_true he] at heq
          rw [Xhy.out, he, if_pos rfl] at hpa
          have Xhe := hide he
          have Xhpa := hide hpa
          have Xbq := hide bq
          have Xhwq := hide hwq
          have Xb5' := hide b5'
          clear he hpa bq hwq b5'
          refine wpAnyH_take (i := 11) (oi := ?_) (v := ?_) ?_ (by kernel_rfl) (by kernel_rfl) (by kernel_rfl) ?_ (Or.inl ⟨?_, ?_⟩) (by assumption) ?_
          rotate_left 2
          · (try simp only [List.getElem?_toArray, List.getElem?_cons_succ, List.getElem?_cons_zero]); rfl
          · exact fun _ _ _ h => h
          · rfl
          · (intro wS hwS; (try dsimp only at hwS); go_simp; all_goals with_reducible rfl)
          try simp only [Act.put, List.setIfInBounds_toArray, List.set_cons_zero, List.set_cons_succ]
          refine wpAnyH_done (by kernel_rfl) ?_ _
          go_wp2_with fail
          refine wp_region_held_drew (S := (fun W => W.cell? ⟨w.heap.size, 0, none⟩ = some (.int .i64 x0) ∧ W.cell? ⟨w.heap.size, 1, none⟩ = some (.int .i64 x1) ∧ W.cell? ⟨b, off + k * 2, none⟩ = some (.int .i64 y0) ∧ W.cell? ⟨b, off + k * 2 + 1, none⟩ = some (.int .i64 y1))) (by kernel_rfl) ?_ (fun hHeld => ?_)
          · exact ⟨e0, e1, e2, e3⟩
          refine wpAnyH_take (i := 0) (oi := ?_) (v := ?_) ?_ (by kernel_rfl) (by kernel_rfl) (by kernel_rfl) ?_ (Or.inl ⟨?_, ?_⟩) (by assumption) ?_
          rotate_left 2
          · (try simp only [List.getElem?_toArray, List.getElem?_cons_succ, List.getElem?_cons_zero]); rfl
          · exact fun _ _ _ h => h
          · rfl
          · (intro wS hwS; (try dsimp only at hwS); go_simp; all_goals with_reducible rfl)
          try simp only [Act.put, List.setIfInBounds_toArray, List.set_cons_zero, List.set_cons_succ]
          refine wpAnyH_take (i := 1) (oi := ?_) (v := ?_) ?_ (by kernel_rfl) (by kernel_rfl) (by kernel_rfl) ?_ (Or.inl ⟨?_, ?_⟩) (by assumption) ?_
          rotate_left 2
          · (try simp only [List.getElem?_toArray, List.getElem?_cons_succ, List.getElem?_cons_zero]); rfl
          · exact fun _ _ _ h => h
          · rfl
          · (intro wS hwS; (try dsimp only at hwS); go_simp; all_goals with_reducible rfl)
          try simp only [Act.put, List.setIfInBounds_toArray, List.set_cons_zero, List.set_cons_succ]
          refine wpAnyH_take (i := 2) (oi := ?_) (v := ?_) ?_ (by kernel_rfl) (by kernel_rfl) (by kernel_rfl) ?_ (Or.inl ⟨?_, ?_⟩) (by assumption) ?_
          rotate_left 2
          · (try simp only [List.getElem?_toArray, List.getElem?_cons_succ, List.getElem?_cons_zero]); rfl
          · exact fun _ _ _ h => h
          · rfl
          · (intro wS hwS; (try dsimp only at hwS); go_simp; all_goals with_reducible rfl)
          try simp only [Act.put, List.setIfInBounds_toArray, List.set_cons_zero, List.set_cons_succ]
          refine wpAnyH_take (i := 3) (oi := ?_) (v := ?_) ?_ (by kernel_rfl) (by kernel_rfl) (by kernel_rfl) ?_ (Or.inl ⟨?_, ?_⟩) (by assumption) ?_
          rotate_left 2
          · (try simp only [List.getElem?_toArray, List.getElem?_cons_succ, List.getElem?_cons_zero]); rfl
          · exact fun _ _ _ h => h
          · rfl
          · (intro wS hwS; (try dsimp only at hwS); go_simp; all_goals with_reducible rfl)
          try simp only [Act.put, List.setIfInBounds_toArray, List.set_cons_zero, List.set_cons_succ]
          refine wpAnyH_take (i := 4) (oi := ?_) (v := ?_) ?_ (by kernel_rfl) (by kernel_rfl) (by kernel_rfl) ?_ (Or.inl ⟨?_, ?_⟩) (by assumption) ?_
          rotate_left 2
          · (try simp only [List.getElem?_toArray, List.getElem?_cons_succ, List.getElem?_cons_zero]); rfl
          · exact fun _ _ _ h => h
          · rfl
          · (intro wS hwS; (try dsimp only at hwS); go_simp; all_goals with_reducible rfl)
          try simp only [Act.put, List.setIfInBounds_toArray, List.set_cons_zero, List.set_cons_succ]
          refine wpAnyH_take (i := 5) (oi := ?_) (v := ?_) ?_ (by kernel_rfl) (by kernel_rfl) (by kernel_rfl) ?_ (Or.inl ⟨?_, ?_⟩) (by assumption) ?_
          rotate_left 2
          · (try simp only [List.getElem?_toArray, List.getElem?_cons_succ, List.getElem?_cons_zero]); rfl
          · exact fun _ _ _ h => h
          · rfl
          · (intro wS hwS; (try dsimp only at hwS); go_simp; all_goals with_reducible rfl)
          try simp only [Act.put, List.setIfInBounds_toArray, List.set_cons_zero, List.set_cons_succ]
          refine wpAnyH_take (i := 6) (oi := ?_) (v := ?_) ?_ (by kernel_rfl) (by kernel_rfl) (by kernel_rfl) ?_ (Or.inl ⟨?_, ?_⟩) (by assumption) ?_
          rotate_left 2
          · (try simp only [List.getElem?_toArray, List.getElem?_cons_succ, List.getElem?_cons_zero]); rfl
          · exact fun _ _ _ h => h
          · rfl
          · (intro wS hwS; (try dsimp only at hwS); go_simp; all_goals with_reducible rfl)
          try simp only [Act.put, List.setIfInBounds_toArray, List.set_cons_zero, List.set_cons_succ]
          refine wpAnyH_take (i := 7) (oi := ?_) (v := ?_) ?_ (by kernel_rfl) (by kernel_rfl) (by kernel_rfl) ?_ (Or.inl ⟨?_, ?_⟩) (by assumption) ?_
          rotate_left 2
          · (try simp only [List.getElem?_toArray, List.getElem?_cons_succ, List.getElem?_cons_zero]); rfl
          · exact fun _ _ _ h => h
          · rfl
          · (intro wS hwS; (try dsimp only at hwS); go_simp; all_goals with_reducible rfl)
          try simp only [Act.put, List.setIfInBounds_toArray, List.set_cons_zero, List.set_cons_succ]
          refine wpAnyH_take (i := 8) (oi := ?_) (v := ?_) ?_ (by kernel_rfl) (by kernel_rfl) (by kernel_rfl) ?_ (Or.inl ⟨?_, ?_⟩) (by assumption) ?_
          rotate_left 2
          · (try simp only [List.getElem?_toArray, List.getElem?_cons_succ, List.getElem?_cons_zero]); rfl
          · exact fun _ _ _ h => h
          · rfl
          · (intro wS hwS; (try dsimp only at hwS); go_simp; all_goals with_reducible rfl)
          try simp only [Act.put, List.setIfInBounds_toArray, List.set_cons_zero, List.set_cons_succ]
          refine wpAnyH_take (i := 9) (oi := ?_) (v := ?_) ?_ (by kernel_rfl) (by kernel_rfl) (by kernel_rfl) ?_ (Or.inl ⟨?_, ?_⟩) (by assumption) ?_
          rotate_left 2
          · (try simp only [List.getElem?_toArray, List.getElem?_cons_succ, List.getElem?_cons_zero]); rfl
          · exact fun _ _ _ h => h
          · rfl
          · (intro wS hwS; (try dsimp only at hwS); go_simp; all_goals with_reducible rfl)
          try simp only [Act.put, List.setIfInBounds_toArray, List.set_cons_zero, List.set_cons_succ]
          refine wpAnyH_take (i := 10) (oi := ?_) (v := ?_) ?_ (by kernel_rfl) (by kernel_rfl) (by kernel_rfl) ?_ (Or.inl ⟨?_, ?_⟩) (by assumption) ?_
          rotate_left 2
          · (try simp only [List.getElem?_toArray, List.getElem?_cons_succ, List.getElem?_cons_zero]); rfl
          · exact fun _ _ _ h => h
          · rfl
          · (intro wS hwS; (try dsimp only at hwS); go_simp; all_goals with_reducible rfl)
          try simp only [Act.put, List.setIfInBounds_toArray, List.set_cons_zero, List.set_cons_succ]
          refine wpAnyH_take (i := 11) (oi := ?_) (v := ?_) ?_ (by kernel_rfl) (by kernel_rfl) (by kernel_rfl) ?_ (Or.inl ⟨?_, ?_⟩) (by assumption) ?_
          rotate_left 2
          · (try simp only [List.getElem?_toArray, List.getElem?_cons_succ, List.getElem?_cons_zero]); rfl
          · exact fun _ _ _ h => h
          · rfl
          · (intro wS hwS; (try dsimp only at hwS); go_simp; all_goals with_reducible rfl)
          try simp only [Act.put, List.setIfInBounds_toArray, List.set_cons_zero, List.set_cons_succ]
          refine wpAnyH_done (by kernel_rfl) ?_ _
          go_wp2_with fail
          go_ret
          refine ⟨_, _, _, rfl, ?_, Xbq.out⟩
          rw [Xhpa.out]
          exact (Xh.out.below Xbq.out XhF.out).mono fun q hq => .inl hq
        · rw [decide_eq_false he] at heq
          rw [Xhy.out, if_neg (fun e => he (by injection e))] at hpa
          have bq2 : Below w.heap.size w w5.drew.drew := bq.drew
          have hrd := Xh.out.below bq2 XhF.out
          have r1 : ∀ W, Below w5.drew.drew.heap.size w5.drew.drew W → RdIt W F (.slice (some ⟨b, off, none⟩) k c) (l.take k) := fun W hW => RdIt.first (hrd.below (hW.mono (Nat.le_of_lt hwq)) XhF.out) hk
          have r2 : ∀ W, Below w5.drew.drew.heap.size w5.drew.drew W → RdIt W F (.slice (if c = k then some ⟨b, off, none⟩ else some ⟨b, off + k * 2, none⟩) (n - k) (c - k)) (l.drop k) := fun W hW => RdIt.rest (hrd.below (hW.mono (Nat.le_of_lt hwq)) XhF.out) hk
          obtain ⟨A', hA'⟩ : ∃ A' : Option Addr, (if c = k then (some ⟨b, off, none⟩ : Option Addr) else some ⟨b, off + k * 2, none⟩) = A' := ⟨_, rfl⟩
          rw [hA'] at r2
          have lk : (itCells (l.take k)).length = k * 2 := by rw [itCells_length, List.length_take, ← Xhn.out]; congr 1; omega
          have lk2 : (itCells (l.drop k)).length = (n - k) * 2 := by rw [itCells_length, List.length_drop, ← Xhn.out]
          have hk0 : (0 : Int) ≤ (k : Int) := by omega
          have hkn : (k : Int) ≤ (n : Int) := by omega
          have hkc : (k : Int) ≤ (c : Int) := by omega
          have hnl : n ≤ 1000000 := hl
          clear hrd
          have Xhe := hide he
          have Xhpa := hide hpa
          have Xbq := hide bq
          have Xhwq := hide hwq
          have Xb5' := hide b5'
          have Xbq2 := hide bq2
          have Xr1 := hide r1
          have Xr2 := hide r2
          have Xlk := hide lk
          have Xlk2 := hide lk2
          clear he hpa bq hwq b5' bq2 r1 r2 lk lk2
          refine wpAnyH_take (i := 11) (oi := ?_) (v := ?_) ?_ (by kernel_rfl) (by kernel_rfl) (by kernel_rfl) ?_ (Or.inl ⟨?_, ?_⟩) (by assumption) ?_
          rotate_left 2
          · (try simp only [List.getElem?_toArray, List.getElem?_cons_succ, List.getElem?_cons_zero]); rfl
          · exact fun _ _ _ h => h
          · rfl
          · (intro wS hwS; (try dsimp only at hwS); go_simp; all_goals with_reducible rfl)
          try simp only [Act.put, List.setIfInBounds_toArray, List.set_cons_zero, List.set_cons_succ]
          refine wpAnyH_done (by kernel_rfl) ?_ _
          go_wp2_with fail
          refine wp_region_held_drew (S := (fun W => W.cell? ⟨w.heap.size, 0, none⟩ = some (.int .i64 x0) ∧ W.cell? ⟨w.heap.size, 1, none⟩ = some (.int .i64 x1) ∧ W.cell? ⟨b, off + k * 2, none⟩ = some (.int .i64 y0) ∧ W.cell? ⟨b, off + k * 2 + 1, none⟩ = some (.int .i64 y1))) (by kernel_rfl) ?_ (fun hHeld => ?_)
          · exact ⟨e0, e1, e2, e3⟩
          refine wpAnyH_take (i := 0) (oi := ?_) (v := ?_) ?_ (by kernel_rfl) (by kernel_rfl) (by kernel_rfl) ?_ (Or.inl ⟨?_, ?_⟩) (by assumption) ?_
          rotate_left 2
          · (try simp only [List.getElem?_toArray, List.getElem?_cons_succ, List.getElem?_cons_zero]); rfl
          · exact fun _ _ _ h => h
          · rfl
          · (intro wS hwS; (try dsimp only at hwS); go_simp; all_goals with_reducible rfl)
          try simp only [Act.put, List.setIfInBounds_toArray, List.set_cons_zero, List.set_cons_succ]
          refine wpAnyH_take (i := 1) (oi := ?_) (v := ?_) ?_ (by kernel_rfl) (by kernel_rfl) (by kernel_rfl) ?_ (Or.inl ⟨?_, ?_⟩) (by assumption) ?_
          rotate_left 2
          · (try simp only [List.getElem?_toArray, List.getElem?_cons_succ, List.getElem?_cons_zero]); rfl
          · exact fun _ _ _ h => h
          · rfl
          · (intro wS hwS; (try dsimp only at hwS); go_simp; all_goals with_reducible rfl)
          try simp only [Act.put, List.setIfInBounds_toArray, List.set_cons_zero, List.set_cons_succ]
          refine wpAnyH_take (i := 2) (oi := ?_) (v := ?_) ?_ (by kernel_rfl) (by kernel_rfl) (by kernel_rfl) ?_ (Or.inl ⟨?_, ?_⟩) (by assumption) ?_
          rotate_left 2
          · (try simp only [List.getElem?_toArray, List.getElem?_cons_succ, List.getElem?_cons_zero]); rfl
          · exact fun _ _ _ h => h
          · rfl
          · (intro wS hwS; (try dsimp only at hwS); go_simp; all_goals with_reducible rfl)
          try simp only [Act.put, List.setIfInBounds_toArray, List.set_cons_zero, List.set_cons_succ]
          refine wpAnyH_take (i := 3) (oi := ?_) (v := ?_) ?_ (by kernel_rfl) (by kernel_rfl) (by kernel_rfl) ?_ (Or.inl ⟨?_, ?_⟩) (by assumption) ?_
          rotate_left 2
          · (try simp only [List.getElem?_toArray, List.getElem?_cons_succ, List.getElem?_cons_zero]); rfl
          · exact fun _ _ _ h => h
          · rfl
          · (intro wS hwS; (try dsimp only at hwS); go_simp; all_goals with_reducible rfl)
          try simp only [Act.put, List.setIfInBounds_toArray, List.set_cons_zero, List.set_cons_succ]
          refine wpAnyH_take (i := 4) (oi := ?_) (v := ?_) ?_ (by kernel_rfl) (by kernel_rfl) (by kernel_rfl) ?_ (Or.inl ⟨?_, ?_⟩) (by assumption) ?_
          rotate_left 2
          · (try simp only [List.getElem?_toArray, List.getElem?_cons_succ, List.getElem?_cons_zero]); rfl
          · exact fun _ _ _ h => h
          · rfl
          · (intro wS hwS; (try dsimp only at hwS); go_simp; all_goals with_reducible rfl)
          try simp only [Act.put, List.setIfInBounds_toArray, List.set_cons_zero, List.set_cons_succ]
          refine wpAnyH_take (i := 5) (oi := ?_) (v := ?_) ?_ (by kernel_rfl) (by kernel_rfl) (by kernel_rfl) ?_ (Or.inl ⟨?_, ?_⟩) (by assumption) ?_
          rotate_left 2
          · (try simp only [List.getElem?_toArray, List.getElem?_cons_succ, List.getElem?_cons_zero]); rfl
          · exact fun _ _ _ h => h
          · rfl
          · (intro wS hwS; (try dsimp only at hwS); go_simp; all_goals with_reducible rfl)
          try simp only [Act.put, List.setIfInBounds_toArray, List.set_cons_zero, List.set_cons_succ]
          refine wpAnyH_take (i := 6) (oi := ?_) (v := ?_) ?_ (by kernel_rfl) (by kernel_rfl) (by kernel_rfl) ?_ (Or.inl ⟨?_, ?_⟩) (by assumption) ?_
          rotate_left 2
          · (try simp only [List.getElem?_toArray, List.getElem?_cons_succ, List.getElem?_cons_zero]); rfl
          · exact fun _ _ _ h => h
          · rfl
          · (intro wS hwS; (try dsimp only at hwS); go_simp; all_goals with_reducible rfl)
          try simp only [Act.put, List.setIfInBounds_toArray, List.set_cons_zero, List.set_cons_succ]
          refine wpAnyH_take (i := 7) (oi := ?_) (v := ?_) ?_ (by kernel_rfl) (by kernel_rfl) (by kernel_rfl) ?_ (Or.inl ⟨?_, ?_⟩) (by assumption) ?_
          rotate_left 2
          · (try simp only [List.getElem?_toArray, List.getElem?_cons_succ, List.getElem?_cons_zero]); rfl
          · exact fun _ _ _ h => h
          · rfl
          · (intro wS hwS; (try dsimp only at hwS); go_simp; all_goals with_reducible rfl)
          try simp only [Act.put, List.setIfInBounds_toArray, List.set_cons_zero, List.set_cons_succ]
          refine wpAnyH_take (i := 8) (oi := ?_) (v := ?_) ?_ (by kernel_rfl) (by kernel_rfl) (by kernel_rfl) ?_ (Or.inl ⟨?_, ?_⟩) (by assumption) ?_
          rotate_left 2
          · (try simp only [List.getElem?_toArray, List.getElem?_cons_succ, List.getElem?_cons_zero]); rfl
          · exact fun _ _ _ h => h
          · rfl
          · (intro wS hwS; (try dsimp only at hwS); go_simp; all_goals with_reducible rfl)
          try simp only [Act.put, List.setIfInBounds_toArray, List.set_cons_zero, List.set_cons_succ]
          refine wpAnyH_take (i := 9) (oi := ?_) (v := ?_) ?_ (by kernel_rfl) (by kernel_rfl) (by kernel_rfl) ?_ (Or.inl ⟨?_, ?_⟩) (by assumption) ?_
          rotate_left 2
          · (try simp only [List.getElem?_toArray, List.getElem?_cons_succ, List.getElem?_cons_zero]); rfl
          · exact fun _ _ _ h => h
          · rfl
          · (intro wS hwS; (try dsimp only at hwS); go_simp; all_goals with_reducible rfl)
          try simp only [Act.put, List.setIfInBounds_toArray, List.set_cons_zero, List.set_cons_succ]
          refine wpAnyH_take (i := 10) (oi := ?_) (v := ?_) ?_ (by kernel_rfl) (by kernel_rfl) (by kernel_rfl) ?_ (Or.inl ⟨?_, ?_⟩) (by assumption) ?_
          rotate_left 2
          · (try simp only [List.getElem?_toArray, List.getElem?_cons_succ, List.getElem?_cons_zero]); rfl
          · exact fun _ _ _ h => h
          · rfl
          · (intro wS hwS; (try dsimp only at hwS); go_simp; all_goals with_reducible rfl)
          try simp only [Act.put, List.setIfInBounds_toArray, List.set_cons_zero, List.set_cons_succ]
          refine wpAnyH_take (i := 11) (oi := ?_) (v := ?_) ?_ (by kernel_rfl) (by kernel_rfl) (by kernel_rfl) ?_ (Or.inl ⟨?_, ?_⟩) (by assumption) ?_
          rotate_left 2
          · (try simp only [List.getElem?_toArray, List.getElem?_cons_succ, List.getElem?_cons_zero]); rfl
          · exact fun _ _ _ h => h
          · rfl
          · (intro wS hwS; (try dsimp only at hwS); go_simp; all_goals with_reducible rfl)
          try simp only [Act.put, List.setIfInBounds_toArray, List.set_cons_zero, List.set_cons_succ]
          refine wpAnyH_done (by kernel_rfl) ?_ _
          clear e2 e3 heq hgd
          have d0 : w5.drew.drew.cell? ⟨w.heap.size, 0, none⟩ = some (.int .i64 x0) := e0
          have d1 : w5.drew.drew.cell? ⟨w.heap.size, 1, none⟩ = some (.int .i64 x1) := e1
          clear e0 e1
          go_upto_region 6 with fail
          have Xhres := Xhpa
          have Xb0 := Xbq2
          have hwx : w.heap.size < w5.drew.drew.heap.size := Xhwq.out
          have Xhwx := hide hwx
          clear hwx
          clear Xhpa Xbq2 Xbq Xhwq Xb5' Xhb Xhy Xhlt2 Xhe Xh Xb1 Xk1
          refine wp_region_held_drew (S := (fun W => W.cell? ⟨w.heap.size, 0, none⟩ = some (.int .i64 x0) ∧ W.cell? ⟨w.heap.size, 1, none⟩ = some (.int .i64 x1))) (by kernel_rfl) ?_ (fun hHeld => ?_)
          · exact ⟨d0, d1⟩
          generalize w5.drew.drew = wd at *
          have kx : ∀ W, Below wd.heap.size wd W → W.cell? ⟨w.heap.size, 0, none⟩ = some (.int .i64 x0) ∧ W.cell? ⟨w.heap.size, 1, none⟩ = some (.int .i64 x1) := fun W h => ⟨(h.cell (p := ⟨w.heap.size, 0, none⟩) Xhwx.out).trans d0, (h.cell (p := ⟨w.heap.size, 1, none⟩) Xhwx.out).trans d1⟩
          have Xkx := hide kx
          clear kx
          clear d0 d1
          refine wpAnyH_take (i := 1) (oi := ?_) (v := ?_) ?_ (by kernel_rfl) (by kernel_rfl) (by kernel_rfl) ?_ (Or.inl ⟨?_, ?_⟩) (by assumption) ?_
          rotate_left 2
          · (try simp only [List.getElem?_toArray, List.getElem?_cons_succ, List.getElem?_cons_zero]); rfl
          · exact fun _ _ _ h => h
          · rfl
          · (intro wS hwS; (try dsimp only at hwS); go_simp; all_goals with_reducible rfl)
          try simp only [Act.put, List.setIfInBounds_toArray, List.set_cons_zero, List.set_cons_succ]
          refine wpAnyH_take (i := 2) (oi := ?_) (v := ?_) ?_ (by kernel_rfl) (by kernel_rfl) (by kernel_rfl) ?_ (Or.inl ⟨?_, ?_⟩) (by assumption) ?_
          rotate_left 2
          · (try simp only [List.getElem?_toArray, List.getElem?_cons_succ, List.getElem?_cons_zero]); rfl
          · exact fun _ _ _ h => h
          · rfl
          · (intro wS hwS; (try dsimp only at hwS); go_simp; all_goals with_reducible rfl)
          try simp only [Act.put, List.setIfInBounds_toArray, List.set_cons_zero, List.set_cons_succ]
          refine wpAnyH_take (i := 3) (oi := ?_) (v := ?_) ?_ (by kernel_rfl) (by kernel_rfl) (by kernel_rfl) ?_ (Or.inl ⟨?_, ?_⟩) (by assumption) ?_
          rotate_left 2
          · (try simp only [List.getElem?_toArray, List.getElem?_cons_succ, List.getElem?_cons_zero]); rfl
          · exact fun _ _ _ h => h
          · rfl
          · (intro wS hwS; (try dsimp only at hwS); go_simp; all_goals with_reducible rfl)
          try simp only [Act.put, List.setIfInBounds_toArray, List.set_cons_zero, List.set_cons_succ]
          refine wpAnyH_take (i := 5) (oi := ?_) (v := ?_) ?_ (by kernel_rfl) (by kernel_rfl) (by kernel_rfl) ?_ (Or.inl ⟨?_, ?_⟩) (by assumption) ?_
          rotate_left 2
          · (try simp only [List.getElem?_toArray, List.getElem?_cons_succ, List.getElem?_cons_zero]); rfl
          · exact fun _ _ _ h => h
          · rfl
          · (intro wS hwS; (try dsimp only at hwS); go_simp; all_goals with_reducible rfl)
          try simp only [Act.put, List.setIfInBounds_toArray, List.set_cons_zero, List.set_cons_succ]
          refine wpAnyH_take (i := 8) (oi := ?_) (v := ?_) ?_ (by kernel_rfl) (by kernel_rfl) (by kernel_rfl) ?_ (Or.inl ⟨?_, ?_⟩) (by assumption) ?_
          rotate_left 2
          · (try simp only [List.getElem?_toArray, List.getElem?_cons_succ, List.getElem?_cons_zero]); rfl
          · exact fun _ _ _ h => h
          · rfl
          · (intro wS hwS; (try dsimp only at hwS); go_simp; all_goals with_reducible rfl)
          try simp only [Act.put, List.setIfInBounds_toArray, List.set_cons_zero, List.set_cons_succ]
          refine wpAnyH_take (i := 9) (oi := ?_) (v := ?_) ?_ (by kernel_rfl) (by kernel_rfl) (by kernel_rfl) ?_ (Or.inl ⟨?_, ?_⟩) (by assumption) ?_
          rotate_left 2
          · (try simp only [List.getElem?_toArray, List.getElem?_cons_succ, List.getElem?_cons_zero]); rfl
          · exact fun _ _ _ h => h
          · rfl
          · (intro wS hwS; (try dsimp only at hwS); go_simp; all_goals with_reducible rfl)
          try simp only [Act.put, List.setIfInBounds_toArray, List.set_cons_zero, List.set_cons_succ]
          refine wpAnyH_take (i := 10) (oi := ?_) (v := ?_) ?_ (by kernel_rfl) (by kernel_rfl) (by kernel_rfl) ?_ (Or.inl ⟨?_, ?_⟩) (by assumption) ?_
          rotate_left 2
          · (try simp only [List.getElem?_toArray, List.getElem?_cons_succ, List.getElem?_cons_zero]); rfl
          · exact fun _ _ _ h => h
          · rfl
          · (intro wS hwS; (try dsimp only at hwS); go_simp; all_goals with_reducible rfl)
          try simp only [Act.put, List.setIfInBounds_toArray, List.set_cons_zero, List.set_cons_succ]
          refine wpAnyH_ready (rs := [0, 6]) (by kernel_rfl) (by simp) ?_
          refine AllReadyH.cons (o := ?_) ?_ (fun K hK => ?_) ?_
          rotate_left 1
          · (try simp only [List.getElem?_toArray, List.getElem?_cons_succ, List.getElem?_cons_zero]); rfl
          · go_simp
            have B1 : Below wd.heap.size wd (wd.alloc (.cells #[] 34)) := (Below.refl _ wd).alloc (Nat.le_refl _) _
            have o1 := own_empty wd 34 2
            refine hK.out _ _ ?_ (fun hHeld => ?_)
            · exact Xkx.out _ B1
            clear hK K
            try simp only [Act.put, List.setIfInBounds_toArray, List.set_cons_zero, List.set_cons_succ]
            refine wpAnyH_ready (rs := [4, 6]) (by kernel_rfl) (by simp) ?_
            refine AllReadyH.cons (o := ?_) ?_ (fun K hK => ?_) ?_
            rotate_left 1
            · (try simp only [List.getElem?_toArray, List.getElem?_cons_succ, List.getElem?_cons_zero]); rfl
            · skip
              refine step_append _ rfl (.tmp 33) (.tmp 36) _ rfl Tryz.elemItem wd.heap.size _ 0 [] rfl o1 F _ _ (k) rfl Xlk.out (Xr1.out _ B1) (itCells_one _) (by unfold maxLen; omega) (by omega) (B1).size ?_
              intro A4 c4 w4 own4 hg4 hb4
              rw [Nat.zero_add] at own4 ⊢
              have hg4 : World.grownBy _ w4 (some (wd.heap.size)) := hg4
              have B4 := (B1).grown hg4 (B1).size (fun q hq => (World.ownsRow.lt o1 q hq).1)
              refine hK.out _ _ ?_ (fun hHeld => ?_)
              · exact Xkx.out _ B4
              clear hK K
              try simp only [Act.put, List.setIfInBounds_toArray, List.set_cons_zero, List.set_cons_succ]
              refine wpAnyH_ready (rs := [6]) (by kernel_rfl) (by simp) ?_
              refine AllReadyH.cons (o := ?_) ?_ (fun K hK => ?_) ?_
              rotate_left 1
              · (try simp only [List.getElem?_toArray, List.getElem?_cons_succ, List.getElem?_cons_zero]); rfl
              · go_simp
                have B5 : Below wd.heap.size wd (w4.alloc (.cells #[.int .i64 x0, .int .i64 x1] 34)) := B4.alloc B4.size _
                have o5 := own_alloc own4 (.cells #[.int .i64 x0, .int .i64 x1] 34)
                refine hK.out _ _ ?_ (fun hHeld => ?_)
                · exact Xkx.out _ B5
                clear hK K
                try simp only [Act.put, List.setIfInBounds_toArray, List.set_cons_zero, List.set_cons_succ]
                refine wpAnyH_ready (rs := [7]) (by kernel_rfl) (by simp) ?_
                refine AllReadyH.cons (o := ?_) ?_ (fun K hK => ?_) ?_
                rotate_left 1
                · (try simp only [List.getElem?_toArray, List.getElem?_cons_succ, List.getElem?_cons_zero]); rfl
                rotate_left 1
                · exact AllReadyH.nil
                refine step_append _ rfl (.tmp 37) (.tmp 39) _ rfl Tryz.elemItem wd.heap.size _ (k) _ rfl o5 _ _ [I64 x0, I64 x1] 1 rfl rfl (RdIt.one (x0, x1)) (itCells_one [(x0, x1)]) (by unfold maxLen; omega) (by omega) (B5).size ?_
                intro A6 c6 w6 own6 hg6 hb6
                have B6 := (B5).grown hg6 (B5).size (fun q hq => (World.ownsRow.lt o5 q hq).1)
                refine hK.out _ _ ?_ (fun hHeld => ?_)
                · exact Xkx.out _ B6
                clear hK K
                try simp only [Act.put, List.setIfInBounds_toArray, List.set_cons_zero, List.set_cons_succ]
                refine wpAnyH_ready (rs := [11]) (by kernel_rfl) (by simp) ?_
                refine AllReadyH.cons (o := ?_) ?_ (fun K hK => ?_) ?_
                rotate_left 1
                · (try simp only [List.getElem?_toArray, List.getElem?_cons_succ, List.getElem?_cons_zero]); rfl
                rotate_left 1
                · exact AllReadyH.nil
                refine step_append _ rfl (.tmp 40) (.tmp 43) _ rfl Tryz.elemItem wd.heap.size _ (k + 1) _ rfl own6 F _ _ (n - k) rfl Xlk2.out (Xr2.out _ B6) (itCells_one _) (by unfold maxLen; omega) (by omega) B6.size ?_
                intro A8 c8 w8 own8 hg8 hb8
                have B8 := B6.grown hg8 B6.size (fun q hq => (World.ownsRow.lt own6 q hq).1)
                refine hK.out _ _ ?_ (fun hHeld => ?_)
                · exact Xkx.out _ B8
                clear hK K
                try simp only [Act.put, List.setIfInBounds_toArray, List.set_cons_zero, List.set_cons_succ]
                refine wpAnyH_take (i := 12) (oi := ?_) (v := ?_) ?_ (by kernel_rfl) (by kernel_rfl) (by kernel_rfl) ?_ (Or.inl ⟨?_, ?_⟩) (by assumption) ?_
                rotate_left 2
                · (try simp only [List.getElem?_toArray, List.getElem?_cons_succ, List.getElem?_cons_zero]); rfl
                · exact fun _ _ _ h => h
                · rfl
                · (intro wS hwS; (try dsimp only at hwS); go_simp; all_goals with_reducible rfl)
                try simp only [Act.put, List.setIfInBounds_toArray, List.set_cons_zero, List.set_cons_succ]
                refine wpAnyH_done (by kernel_rfl) ?_ _
                go_wp2_with fail
                go_ret
                refine ⟨A8, _, c8, rfl, ?_, Xb0.out.trans (B8.mono Xb0.out.size)⟩
                have hcells : ([] ++ itCells (l.take k)) ++ [I64 x0, I64 x1] ++ itCells (l.drop k) = itCells (putI (x0, x1) l) := by rw [Xhres.out, itCells_append]; simp [itCells]
                rw [hcells] at own8
                refine (Rd.of_own own8).mono fun q hq => .inr ⟨Nat.le_trans Xb0.out.size (World.ownsRow.lt own8 q hq).1, (World.ownsRow.lt own8 q hq).2⟩
              · exact AllReadyH.nil
            · refine AllReadyH.cons (o := ?_) ?_ (fun K hK => ?_) ?_
              rotate_left 1
              · (try simp only [List.getElem?_toArray, List.getElem?_cons_succ, List.getElem?_cons_zero]); rfl
              · go_simp
                have B2 : Below wd.heap.size wd ((wd.alloc (.cells #[] 34)).alloc (.cells #[.int .i64 x0, .int .i64 x1] 34)) := B1.alloc B1.size _
                have o2 := own_alloc o1 (.cells #[.int .i64 x0, .int .i64 x1] 34)
                have k2 : Blk ((wd.alloc (.cells #[] 34)).alloc (.cells #[.int .i64 x0, .int .i64 x1] 34)) (wd.heap.size + 1) 34 #[.int .i64 x0, .int .i64 x1] := by have := Blk.new (wd.alloc (.cells #[] 34)) 34 #[.int .i64 x0, .int .i64 x1]; simpa using this
                refine hK.out _ _ ?_ (fun hHeld => ?_)
                · exact Xkx.out _ B2
                clear hK K
                try simp only [Act.put, List.setIfInBounds_toArray, List.set_cons_zero, List.set_cons_succ]
                refine wpAnyH_ready (rs := [4]) (by kernel_rfl) (by simp) ?_
                refine AllReadyH.cons (o := ?_) ?_ (fun K hK => ?_) ?_
                rotate_left 1
                · (try simp only [List.getElem?_toArray, List.getElem?_cons_succ, List.getElem?_cons_zero]); rfl
                rotate_left 1
                · exact AllReadyH.nil
                refine step_append _ rfl (.tmp 33) (.tmp 36) _ rfl Tryz.elemItem wd.heap.size _ 0 [] rfl o2 F _ _ (k) rfl Xlk.out (Xr1.out _ B2) (itCells_one _) (by unfold maxLen; omega) (by omega) (B2).size ?_
                intro A4 c4 w4 own4 hg4 hb4
                rw [Nat.zero_add] at own4 ⊢
                have hg4 : World.grownBy _ w4 (some (wd.heap.size)) := hg4
                have B4 := (B2).grown hg4 (B2).size (fun q hq => (World.ownsRow.lt o2 q hq).1)
                have k4 := k2.grown hg4 (by simp)
                refine hK.out _ _ ?_ (fun hHeld => ?_)
                · exact Xkx.out _ B4
                clear hK K
                try simp only [Act.put, List.setIfInBounds_toArray, List.set_cons_zero, List.set_cons_succ]
                refine wpAnyH_ready (rs := [7]) (by kernel_rfl) (by simp) ?_
                refine AllReadyH.cons (o := ?_) ?_ (fun K hK => ?_) ?_
                rotate_left 1
                · (try simp only [List.getElem?_toArray, List.getElem?_cons_succ, List.getElem?_cons_zero]); rfl
                rotate_left 1
                · exact AllReadyH.nil
                refine step_append _ rfl (.tmp 37) (.tmp 39) _ rfl Tryz.elemItem wd.heap.size _ (k) _ rfl own4 _ _ [I64 x0, I64 x1] 1 rfl rfl (Rd.of_blk (F := fun b => b = wd.heap.size + 1) (us := [I64 x0, I64 x1]) (n := 1) k4 rfl rfl (by decide)) (itCells_one [(x0, x1)]) (by unfold maxLen; omega) (by omega) (B4).size ?_
                intro A6 c6 w6 own6 hg6 hb6
                have B6 := (B4).grown hg6 (B4).size (fun q hq => (World.ownsRow.lt own4 q hq).1)
                refine hK.out _ _ ?_ (fun hHeld => ?_)
                · exact Xkx.out _ B6
                clear hK K
                try simp only [Act.put, List.setIfInBounds_toArray, List.set_cons_zero, List.set_cons_succ]
                refine wpAnyH_ready (rs := [11]) (by kernel_rfl) (by simp) ?_
                refine AllReadyH.cons (o := ?_) ?_ (fun K hK => ?_) ?_
                rotate_left 1
                · (try simp only [List.getElem?_toArray, List.getElem?_cons_succ, List.getElem?_cons_zero]); rfl
                rotate_left 1
                · exact AllReadyH.nil
                refine step_append _ rfl (.tmp 40) (.tmp 43) _ rfl Tryz.elemItem wd.heap.size _ (k + 1) _ rfl own6 F _ _ (n - k) rfl Xlk2.out (Xr2.out _ B6) (itCells_one _) (by unfold maxLen; omega) (by omega) B6.size ?_
                intro A8 c8 w8 own8 hg8 hb8
                have B8 := B6.grown hg8 B6.size (fun q hq => (World.ownsRow.lt own6 q hq).1)
                refine hK.out _ _ ?_ (fun hHeld => ?_)
                · exact Xkx.out _ B8
                clear hK K
                try simp only [Act.put, List.setIfInBounds_toArray, List.set_cons_zero, List.set_cons_succ]
                refine wpAnyH_take (i := 12) (oi := ?_) (v := ?_) ?_ (by kernel_rfl) (by kernel_rfl) (by kernel_rfl) ?_ (Or.inl ⟨?_, ?_⟩) (by assumption) ?_
                rotate_left 2
                · (try simp only [List.getElem?_toArray, List.getElem?_cons_succ, List.getElem?_cons_zero]); rfl
                · exact fun _ _ _ h => h
                · rfl
                · (intro wS hwS; (try dsimp only at hwS); go_simp; all_goals with_reducible rfl)
                try simp only [Act.put, List.setIfInBounds_toArray, List.set_cons_zero, List.set_cons_succ]
                refine wpAnyH_done (by kernel_rfl) ?_ _
                go_wp2_with fail
                go_ret
                refine ⟨A8, _, c8, rfl, ?_, Xb0.out.trans (B8.mono Xb0.out.size)⟩
                have hcells : ([] ++ itCells (l.take k)) ++ [I64 x0, I64 x1] ++ itCells (l.drop k) = itCells (putI (x0, x1) l) := by rw [Xhres.out, itCells_append]; simp [itCells]
                rw [hcells] at own8
                refine (Rd.of_own own8).mono fun q hq => .inr ⟨Nat.le_trans Xb0.out.size (World.ownsRow.lt own8 q hq).1, (World.ownsRow.lt own8 q hq).2⟩
              · exact AllReadyH.nil
          · refine AllReadyH.cons (o := ?_) ?_ (fun K hK => ?_) ?_
            rotate_left 1
            · (try simp only [List.getElem?_toArray, List.getElem?_cons_succ, List.getElem?_cons_zero]); rfl
            · go_simp
              have B1 : Below wd.heap.size wd (wd.alloc (.cells #[.int .i64 x0, .int .i64 x1] 34)) := (Below.refl _ wd).alloc (Nat.le_refl _) _
              have k1 : Blk (wd.alloc (.cells #[.int .i64 x0, .int .i64 x1] 34)) wd.heap.size 34 #[.int .i64 x0, .int .i64 x1] := Blk.new _ _ _
              refine hK.out _ _ ?_ (fun hHeld => ?_)
              · exact Xkx.out _ B1
              clear hK K
              try simp only [Act.put, List.setIfInBounds_toArray, List.set_cons_zero, List.set_cons_succ]
              refine wpAnyH_ready (rs := [0]) (by kernel_rfl) (by simp) ?_
              refine AllReadyH.cons (o := ?_) ?_ (fun K hK => ?_) ?_
              rotate_left 1
              · (try simp only [List.getElem?_toArray, List.getElem?_cons_succ, List.getElem?_cons_zero]); rfl
              rotate_left 1
              · exact AllReadyH.nil
              go_simp
              have B2 : Below wd.heap.size wd ((wd.alloc (.cells #[.int .i64 x0, .int .i64 x1] 34)).alloc (.cells #[] 34)) := B1.alloc B1.size _
              have o2 : World.ownsRow ((wd.alloc (.cells #[.int .i64 x0, .int .i64 x1] 34)).alloc (.cells #[] 34)) wd.heap.size 34 2 (.slice (some ⟨wd.heap.size + 1, 0, none⟩) 0 0) 0 [] := by
                have := own_empty (wd.alloc (.cells #[.int .i64 x0, .int .i64 x1] 34)) 34 2
                rw [World.size_alloc] at this
                exact ownsRow_base this (fun q hq => by simp [Value.ownBlock] at hq; omega)
              have k2 := k1.alloc (.cells #[] 34)
              refine hK.out _ _ ?_ (fun hHeld => ?_)
              · exact Xkx.out _ B2
              clear hK K
              try simp only [Act.put, List.setIfInBounds_toArray, List.set_cons_zero, List.set_cons_succ]
              refine wpAnyH_ready (rs := [4]) (by kernel_rfl) (by simp) ?_
              refine AllReadyH.cons (o := ?_) ?_ (fun K hK => ?_) ?_
              rotate_left 1
              · (try simp only [List.getElem?_toArray, List.getElem?_cons_succ, List.getElem?_cons_zero]); rfl
              rotate_left 1
              · exact AllReadyH.nil
              refine step_append _ rfl (.tmp 33) (.tmp 36) _ rfl Tryz.elemItem wd.heap.size _ 0 [] rfl o2 F _ _ (k) rfl Xlk.out (Xr1.out _ B2) (itCells_one _) (by unfold maxLen; omega) (by omega) (B2).size ?_
              intro A4 c4 w4 own4 hg4 hb4
              rw [Nat.zero_add] at own4 ⊢
              have hg4 : World.grownBy _ w4 (some (wd.heap.size+1)) := hg4
              have B4 := (B2).grown hg4 (B2).size (fun q hq => (World.ownsRow.lt o2 q hq).1)
              have k4 := k2.grown hg4 (by simp)
              refine hK.out _ _ ?_ (fun hHeld => ?_)
              · exact Xkx.out _ B4
              clear hK K
              try simp only [Act.put, List.setIfInBounds_toArray, List.set_cons_zero, List.set_cons_succ]
              refine wpAnyH_ready (rs := [7]) (by kernel_rfl) (by simp) ?_
              refine AllReadyH.cons (o := ?_) ?_ (fun K hK => ?_) ?_
              rotate_left 1
              · (try simp only [List.getElem?_toArray, List.getElem?_cons_succ, List.getElem?_cons_zero]); rfl
              rotate_left 1
              · exact AllReadyH.nil
              refine step_append _ rfl (.tmp 37) (.tmp 39) _ rfl Tryz.elemItem wd.heap.size _ (k) _ rfl own4 _ _ [I64 x0, I64 x1] 1 rfl rfl (Rd.of_blk (F := fun b => b = wd.heap.size) (us := [I64 x0, I64 x1]) (n := 1) k4 rfl rfl (by decide)) (itCells_one [(x0, x1)]) (by unfold maxLen; omega) (by omega) (B4).size ?_
              intro A6 c6 w6 own6 hg6 hb6
              have B6 := (B4).grown hg6 (B4).size (fun q hq => (World.ownsRow.lt own4 q hq).1)
              refine hK.out _ _ ?_ (fun hHeld => ?_)
              · exact Xkx.out _ B6
              clear hK K
              try simp only [Act.put, List.setIfInBounds_toArray, List.set_cons_zero, List.set_cons_succ]
              refine wpAnyH_ready (rs := [11]) (by kernel_rfl) (by simp) ?_
              refine AllReadyH.cons (o := ?_) ?_ (fun K hK => ?_) ?_
              rotate_left 1
              · (try simp only [List.getElem?_toArray, List.getElem?_cons_succ, List.getElem?_cons_zero]); rfl
              rotate_left 1
              · exact AllReadyH.nil
              refine step_append _ rfl (.tmp 40) (.tmp 43) _ rfl Tryz.elemItem wd.heap.size _ (k + 1) _ rfl own6 F _ _ (n - k) rfl Xlk2.out (Xr2.out _ B6) (itCells_one _) (by unfold maxLen; omega) (by omega) B6.size ?_
              intro A8 c8 w8 own8 hg8 hb8
              have B8 := B6.grown hg8 B6.size (fun q hq => (World.ownsRow.lt own6 q hq).1)
              refine hK.out _ _ ?_ (fun hHeld => ?_)
              · exact Xkx.out _ B8
              clear hK K
              try simp only [Act.put, List.setIfInBounds_toArray, List.set_cons_zero, List.set_cons_succ]
              refine wpAnyH_take (i := 12) (oi := ?_) (v := ?_) ?_ (by kernel_rfl) (by kernel_rfl) (by kernel_rfl) ?_ (Or.inl ⟨?_, ?_⟩) (by assumption) ?_
              rotate_left 2
              · (try simp only [List.getElem?_toArray, List.getElem?_cons_succ, List.getElem?_cons_zero]); rfl
              · exact fun _ _ _ h => h
              · rfl
              · (intro wS hwS; (try dsimp only at hwS); go_simp; all_goals with_reducible rfl)
              try simp only [Act.put, List.setIfInBounds_toArray, List.set_cons_zero, List.set_cons_succ]
              refine wpAnyH_done (by kernel_rfl) ?_ _
              go_wp2_with fail
              go_ret
              refine ⟨A8, _, c8, rfl, ?_, Xb0.out.trans (B8.mono Xb0.out.size)⟩
              have hcells : ([] ++ itCells (l.take k)) ++ [I64 x0, I64 x1] ++ itCells (l.drop k) = itCells (putI (x0, x1) l) := by rw [Xhres.out, itCells_append]; simp [itCells]
              rw [hcells] at own8
              refine (Rd.of_own own8).mono fun q hq => .inr ⟨Nat.le_trans Xb0.out.size (World.ownsRow.lt own8 q hq).1, (World.ownsRow.lt own8 q hq).2⟩
            · exact AllReadyH.nil
    · have hlt' : ¬ (k : Int) < (n : Int) := by omega
      have ek : k = n := by omega
      subst ek
      have hpa := put_at (x := ((x0, x1) : It)) (l := l) (k := k) (by rw [← Xhn.out]; exact hk) hb (fun y hy' => by rw [List.getElem?_eq_none (by have := Xhn.out; omega)] at hy'; cases hy')
      rw [List.getElem?_eq_none (by have := Xhn.out; omega), if_neg (fun e => by cases e)] at hpa
      have bq2 : Below w.heap.size w wr.drew.drew.drew := b0.drew.drew
      have hrd := Xh.out.below bq2 XhF.out
      have hwq : w.heap.size < wr.drew.drew.drew.heap.size := hwx
      have lk : (itCells (l.take k)).length = k * 2 := by rw [itCells_length, List.length_take, ← Xhn.out]; congr 1; omega
      have lk2 : (itCells (l.drop k)).length = 0 * 2 := by rw [itCells_length, List.length_drop, ← Xhn.out, Nat.sub_self]
      have hk0 : (0 : Int) ≤ (k : Int) := by omega
      have hkn : (k : Int) ≤ (k : Int) := by omega
      have hkc : (k : Int) ≤ (c : Int) := by omega
      have r1 : ∀ W, Below wr.drew.drew.drew.heap.size wr.drew.drew.drew W → RdIt W F (.slice A k c) (l.take k) := fun W hW => RdIt.first (hrd.below (hW.mono (Nat.le_of_lt hwq)) XhF.out) (Nat.le_refl _)
      have d0 : wr.drew.drew.drew.cell? ⟨w.heap.size, 0, none⟩ = some (.int .i64 x0) := d0
      have d1 : wr.drew.drew.drew.cell? ⟨w.heap.size, 1, none⟩ = some (.int .i64 x1) := d1
      have Xhwx := hide hwq
      have Xb0 := hide bq2
      have Xhres := hide hpa
      by_cases hk0' : k = 0
      · subst hk0'
        obtain ⟨rfl, rfl⟩ := Xhnil.out rfl
        have r2 : ∀ W, Below wr.drew.drew.drew.heap.size wr.drew.drew.drew W → RdIt W F (.slice none (0 - 0) 0) (l.drop 0) := fun W hW => by
          rw [List.eq_nil_of_length_eq_zero (by have := Xhn.out; omega : l.length = 0)]
          exact Rd.nil _ _ _
        clear hcell hrd kd bw bd b0 hb hpa bq2 hwq hwx Xh Xb1 Xk1 Xhnil
        have Xr1 := hide r1
        have Xr2 := hide r2
        have Xlk := hide lk
        have Xlk2 := hide lk2
        clear r1 r2 lk lk2
        go_wp2_with fail
        refine wp_region_held_drew (S := (fun W => W.cell? ⟨w.heap.size, 0, none⟩ = some (.int .i64 x0) ∧ W.cell? ⟨w.heap.size, 1, none⟩ = some (.int .i64 x1))) (by kernel_rfl) ?_ (fun hHeld => ?_)
        · exact ⟨d0, d1⟩
        refine wpAnyH_take (i := 0) (oi := ?_) (v := ?_) ?_ (by kernel_rfl) (by kernel_rfl) (by kernel_rfl) ?_ (Or.inl ⟨?_, ?_⟩) (by assumption) ?_
        rotate_left 2
        · (try simp only [List.getElem?_toArray, List.getElem?_cons_succ, List.getElem?_cons_zero]); rfl
        · exact fun _ _ _ h => h
        · rfl
        · (intro wS hwS; (try dsimp only at hwS); go_simp; all_goals with_reducible rfl)
        try simp only [Act.put, List.setIfInBounds_toArray, List.set_cons_zero, List.set_cons_succ]
        refine wpAnyH_take (i := 1) (oi := ?_) (v := ?_) ?_ (by kernel_rfl) (by kernel_rfl) (by kernel_rfl) ?_ (Or.inl ⟨?_, ?_⟩) (by assumption) ?_
        rotate_left 2
        · (try simp only [List.getElem?_toArray, List.getElem?_cons_succ, List.getElem?_cons_zero]); rfl
        · exact fun _ _ _ h => h
        · rfl
        · (intro wS hwS; (try dsimp only at hwS); go_simp; all_goals with_reducible rfl)
        try simp only [Act.put, List.setIfInBounds_toArray, List.set_cons_zero, List.set_cons_succ]
        refine wpAnyH_take (i := 2) (oi := ?_) (v := ?_) ?_ (by kernel_rfl) (by kernel_rfl) (by kernel_rfl) ?_ (Or.inl ⟨?_, ?_⟩) (by assumption) ?_
        rotate_left 2
        · (try simp only [List.getElem?_toArray, List.getElem?_cons_succ, List.getElem?_cons_zero]); rfl
        · exact fun _ _ _ h => h
        · rfl
        · (intro wS hwS; (try dsimp only at hwS); go_simp; all_goals with_reducible rfl)
        try simp only [Act.put, List.setIfInBounds_toArray, List.set_cons_zero, List.set_cons_succ]
        refine wpAnyH_take (i := 3) (oi := ?_) (v := ?_) ?_ (by kernel_rfl) (by kernel_rfl) (by kernel_rfl) ?_ (Or.inl ⟨?_, ?_⟩) (by assumption) ?_
        rotate_left 2
        · (try simp only [List.getElem?_toArray, List.getElem?_cons_succ, List.getElem?_cons_zero]); rfl
        · exact fun _ _ _ h => h
        · rfl
        · (intro wS hwS; (try dsimp only at hwS); go_simp; all_goals with_reducible rfl)
        try simp only [Act.put, List.setIfInBounds_toArray, List.set_cons_zero, List.set_cons_succ]
        refine wpAnyH_take (i := 4) (oi := ?_) (v := ?_) ?_ (by kernel_rfl) (by kernel_rfl) (by kernel_rfl) ?_ (Or.inl ⟨?_, ?_⟩) (by assumption) ?_
        rotate_left 2
        · (try simp only [List.getElem?_toArray, List.getElem?_cons_succ, List.getElem?_cons_zero]); rfl
        · exact fun _ _ _ h => h
        · rfl
        · (intro wS hwS; (try dsimp only at hwS); go_simp; all_goals with_reducible rfl)
        try simp only [Act.put, List.setIfInBounds_toArray, List.set_cons_zero, List.set_cons_succ]
        refine wpAnyH_take (i := 5) (oi := ?_) (v := undef) ?_ (by kernel_rfl) (by kernel_rfl) (by kernel_rfl) ?_ (Or.inr ⟨?_, rfl⟩) (by assumption) ?_
        rotate_left 1
        · (try simp only [List.getElem?_toArray, List.getElem?_cons_succ, List.getElem?_cons_zero]); rfl
        · exact fun _ _ _ h => h
        · rfl
        try simp only [Act.put, List.setIfInBounds_toArray, List.set_cons_zero, List.set_cons_succ]
        refine wpAnyH_take (i := 6) (oi := ?_) (v := undef) ?_ (by kernel_rfl) (by kernel_rfl) (by kernel_rfl) ?_ (Or.inr ⟨?_, rfl⟩) (by assumption) ?_
        rotate_left 1
        · (try simp only [List.getElem?_toArray, List.getElem?_cons_succ, List.getElem?_cons_zero]); rfl
        · exact fun _ _ _ h => h
        · rfl
        try simp only [Act.put, List.setIfInBounds_toArray, List.set_cons_zero, List.set_cons_succ]
        refine wpAnyH_take (i := 7) (oi := ?_) (v := undef) ?_ (by kernel_rfl) (by kernel_rfl) (by kernel_rfl) ?_ (Or.inr ⟨?_, rfl⟩) (by assumption) ?_
        rotate_left 1
        · (try simp only [List.getElem?_toArray, List.getElem?_cons_succ, List.getElem?_cons_zero]); rfl
        · exact fun _ _ _ h => h
        · rfl
        try simp only [Act.put, List.setIfInBounds_toArray, List.set_cons_zero, List.set_cons_succ]
        refine wpAnyH_take (i := 8) (oi := ?_) (v := undef) ?_ (by kernel_rfl) (by kernel_rfl) (by kernel_rfl) ?_ (Or.inr ⟨?_, rfl⟩) (by assumption) ?_
        rotate_left 1
        · (try simp only [List.getElem?_toArray, List.getElem?_cons_succ, List.getElem?_cons_zero]); rfl
        · exact fun _ _ _ h => h
        · rfl
        try simp only [Act.put, List.setIfInBounds_toArray, List.set_cons_zero, List.set_cons_succ]
        refine wpAnyH_take (i := 9) (oi := ?_) (v := undef) ?_ (by kernel_rfl) (by kernel_rfl) (by kernel_rfl) ?_ (Or.inr ⟨?_, rfl⟩) (by assumption) ?_
        rotate_left 1
        · (try simp only [List.getElem?_toArray, List.getElem?_cons_succ, List.getElem?_cons_zero]); rfl
        · exact fun _ _ _ h => h
        · rfl
        try simp only [Act.put, List.setIfInBounds_toArray, List.set_cons_zero, List.set_cons_succ]
        refine wpAnyH_take (i := 10) (oi := ?_) (v := undef) ?_ (by kernel_rfl) (by kernel_rfl) (by kernel_rfl) ?_ (Or.inr ⟨?_, rfl⟩) (by assumption) ?_
        rotate_left 1
        · (try simp only [List.getElem?_toArray, List.getElem?_cons_succ, List.getElem?_cons_zero]); rfl
        · exact fun _ _ _ h => h
        · rfl
        try simp only [Act.put, List.setIfInBounds_toArray, List.set_cons_zero, List.set_cons_succ]
        refine wpAnyH_take (i := 11) (oi := ?_) (v := ?_) ?_ (by kernel_rfl) (by kernel_rfl) (by kernel_rfl) ?_ (Or.inl ⟨?_, ?_⟩) (by assumption) ?_
        rotate_left 2
        · (try simp only [List.getElem?_toArray, List.getElem?_cons_succ, List.getElem?_cons_zero]); rfl
        · exact fun _ _ _ h => h
        · rfl
        · (intro wS hwS; (try dsimp only at hwS); go_simp; all_goals with_reducible rfl)
        try simp only [Act.put, List.setIfInBounds_toArray, List.set_cons_zero, List.set_cons_succ]
        refine wpAnyH_done (by kernel_rfl) ?_ _
        go_wp2_with fail
        refine wp_region_held_drew (S := (fun W => W.cell? ⟨w.heap.size, 0, none⟩ = some (.int .i64 x0) ∧ W.cell? ⟨w.heap.size, 1, none⟩ = some (.int .i64 x1))) (by kernel_rfl) ?_ (fun hHeld => ?_)
        · exact ⟨d0, d1⟩
        refine wpAnyH_take (i := 0) (oi := ?_) (v := ?_) ?_ (by kernel_rfl) (by kernel_rfl) (by kernel_rfl) ?_ (Or.inl ⟨?_, ?_⟩) (by assumption) ?_
        rotate_left 2
        · (try simp only [List.getElem?_toArray, List.getElem?_cons_succ, List.getElem?_cons_zero]); rfl
        · exact fun _ _ _ h => h
        · rfl
        · (intro wS hwS; (try dsimp only at hwS); go_simp; all_goals with_reducible rfl)
        try simp only [Act.put, List.setIfInBounds_toArray, List.set_cons_zero, List.set_cons_succ]
        refine wpAnyH_take (i := 1) (oi := ?_) (v := ?_) ?_ (by kernel_rfl) (by kernel_rfl) (by kernel_rfl) ?_ (Or.inl ⟨?_, ?_⟩) (by assumption) ?_
        rotate_left 2
        · (try simp only [List.getElem?_toArray, List.getElem?_cons_succ, List.getElem?_cons_zero]); rfl
        · exact fun _ _ _ h => h
        · rfl
        · (intro wS hwS; (try dsimp only at hwS); go_simp; all_goals with_reducible rfl)
        try simp only [Act.put, List.setIfInBounds_toArray, List.set_cons_zero, List.set_cons_succ]
        refine wpAnyH_take (i := 2) (oi := ?_) (v := ?_) ?_ (by kernel_rfl) (by kernel_rfl) (by kernel_rfl) ?_ (Or.inl ⟨?_, ?_⟩) (by assumption) ?_
        rotate_left 2
        · (try simp only [List.getElem?_toArray, List.getElem?_cons_succ, List.getElem?_cons_zero]); rfl
        · exact fun _ _ _ h => h
        · rfl
        · (intro wS hwS; (try dsimp only at hwS); go_simp; all_goals with_reducible rfl)
        try simp only [Act.put, List.setIfInBounds_toArray, List.set_cons_zero, List.set_cons_succ]
        refine wpAnyH_take (i := 3) (oi := ?_) (v := ?_) ?_ (by kernel_rfl) (by kernel_rfl) (by kernel_rfl) ?_ (Or.inl ⟨?_, ?_⟩) (by assumption) ?_
        rotate_left 2
        · (try simp only [List.getElem?_toArray, List.getElem?_cons_succ, List.getElem?_cons_zero]); rfl
        · exact fun _ _ _ h => h
        · rfl
        · (intro wS hwS; (try dsimp only at hwS); go_simp; all_goals with_reducible rfl)
        try simp only [Act.put, List.setIfInBounds_toArray, List.set_cons_zero, List.set_cons_succ]
        refine wpAnyH_take (i := 4) (oi := ?_) (v := ?_) ?_ (by kernel_rfl) (by kernel_rfl) (by kernel_rfl) ?_ (Or.inl ⟨?_, ?_⟩) (by assumption) ?_
        rotate_left 2
        · (try simp only [List.getElem?_toArray, List.getElem?_cons_succ, List.getElem?_cons_zero]); rfl
        · exact fun _ _ _ h => h
        · rfl
        · (intro wS hwS; (try dsimp only at hwS); go_simp; all_goals with_reducible rfl)
        try simp only [Act.put, List.setIfInBounds_toArray, List.set_cons_zero, List.set_cons_succ]
        refine wpAnyH_take (i := 5) (oi := ?_) (v := undef) ?_ (by kernel_rfl) (by kernel_rfl) (by kernel_rfl) ?_ (Or.inr ⟨?_, rfl⟩) (by assumption) ?_
        rotate_left 1
        · (try simp only [List.getElem?_toArray, List.getElem?_cons_succ, List.getElem?_cons_zero]); rfl
        · exact fun _ _ _ h => h
        · rfl
        try simp only [Act.put, List.setIfInBounds_toArray, List.set_cons_zero, List.set_cons_succ]
        refine wpAnyH_take (i := 6) (oi := ?_) (v := undef) ?_ (by kernel_rfl) (by kernel_rfl) (by kernel_rfl) ?_ (Or.inr ⟨?_, rfl⟩) (by assumption) ?_
        rotate_left 1
        · (try simp only [List.getElem?_toArray, List.getElem?_cons_succ, List.getElem?_cons_zero]); rfl
        · exact fun _ _ _ h => h
        · rfl
        try simp only [Act.put, List.setIfInBounds_toArray, List.set_cons_zero, List.set_cons_succ]
        refine wpAnyH_take (i := 7) (oi := ?_) (v := undef) ?_ (by kernel_rfl) (by kernel_rfl) (by kernel_rfl) ?_ (Or.inr ⟨?_, rfl⟩) (by assumption) ?_
        rotate_left 1
        · (try simp only [List.getElem?_toArray, List.getElem?_cons_succ, List.getElem?_cons_zero]); rfl
        · exact fun _ _ _ h => h
        · rfl
        try simp only [Act.put, List.setIfInBounds_toArray, List.set_cons_zero, List.set_cons_succ]
        refine wpAnyH_take (i := 8) (oi := ?_) (v := undef) ?_ (by kernel_rfl) (by kernel_rfl) (by kernel_rfl) ?_ (Or.inr ⟨?_, rfl⟩) (by assumption) ?_
        rotate_left 1
        · (try simp only [List.getElem?_toArray, List.getElem?_cons_succ, List.getElem?_cons_zero]); rfl
        · exact fun _ _ _ h => h
        · rfl
        try simp only [Act.put, List.setIfInBounds_toArray, List.set_cons_zero, List.set_cons_succ]
        refine wpAnyH_take (i := 9) (oi := ?_) (v := undef) ?_ (by kernel_rfl) (by kernel_rfl) (by kernel_rfl) ?_ (Or.inr ⟨?_, rfl⟩) (by assumption) ?_
        rotate_left 1
        · (try simp only [List.getElem?_toArray, List.getElem?_cons_succ, List.getElem?_cons_zero]); rfl
        · exact fun _ _ _ h => h
        · rfl
        try simp only [Act.put, List.setIfInBounds_toArray, List.set_cons_zero, List.set_cons_succ]
        refine wpAnyH_take (i := 10) (oi := ?_) (v := undef) ?_ (by kernel_rfl) (by kernel_rfl) (by kernel_rfl) ?_ (Or.inr ⟨?_, rfl⟩) (by assumption) ?_
        rotate_left 1
        · (try simp only [List.getElem?_toArray, List.getElem?_cons_succ, List.getElem?_cons_zero]); rfl
        · exact fun _ _ _ h => h
        · rfl
        try simp only [Act.put, List.setIfInBounds_toArray, List.set_cons_zero, List.set_cons_succ]
        refine wpAnyH_take (i := 11) (oi := ?_) (v := ?_) ?_ (by kernel_rfl) (by kernel_rfl) (by kernel_rfl) ?_ (Or.inl ⟨?_, ?_⟩) (by assumption) ?_
        rotate_left 2
        · (try simp only [List.getElem?_toArray, List.getElem?_cons_succ, List.getElem?_cons_zero]); rfl
        · exact fun _ _ _ h => h
        · rfl
        · (intro wS hwS; (try dsimp only at hwS); go_simp; all_goals with_reducible rfl)
        try simp only [Act.put, List.setIfInBounds_toArray, List.set_cons_zero, List.set_cons_succ]
        refine wpAnyH_done (by kernel_rfl) ?_ _
        go_upto_region 6 with fail
        refine wp_region_held_drew (S := (fun W => W.cell? ⟨w.heap.size, 0, none⟩ = some (.int .i64 x0) ∧ W.cell? ⟨w.heap.size, 1, none⟩ = some (.int .i64 x1))) (by kernel_rfl) ?_ (fun hHeld => ?_)
        · exact ⟨d0, d1⟩
        generalize wr.drew.drew.drew = wd at *
        have kx : ∀ W, Below wd.heap.size wd W → W.cell? ⟨w.heap.size, 0, none⟩ = some (.int .i64 x0) ∧ W.cell? ⟨w.heap.size, 1, none⟩ = some (.int .i64 x1) := fun W h => ⟨(h.cell (p := ⟨w.heap.size, 0, none⟩) Xhwx.out).trans d0, (h.cell (p := ⟨w.heap.size, 1, none⟩) Xhwx.out).trans d1⟩
        have Xkx := hide kx
        clear kx
        clear d0 d1
        refine wpAnyH_take (i := 1) (oi := ?_) (v := ?_) ?_ (by kernel_rfl) (by kernel_rfl) (by kernel_rfl) ?_ (Or.inl ⟨?_, ?_⟩) (by assumption) ?_
        rotate_left 2
        · (try simp only [List.getElem?_toArray, List.getElem?_cons_succ, List.getElem?_cons_zero]); rfl
        · exact fun _ _ _ h => h
        · rfl
        · (intro wS hwS; (try dsimp only at hwS); go_simp; all_goals with_reducible rfl)
        try simp only [Act.put, List.setIfInBounds_toArray, List.set_cons_zero, List.set_cons_succ]
        refine wpAnyH_take (i := 2) (oi := ?_) (v := ?_) ?_ (by kernel_rfl) (by kernel_rfl) (by kernel_rfl) ?_ (Or.inl ⟨?_, ?_⟩) (by assumption) ?_
        rotate_left 2
        · (try simp only [List.getElem?_toArray, List.getElem?_cons_succ, List.getElem?_cons_zero]); rfl
        · exact fun _ _ _ h => h
        · rfl
        · (intro wS hwS; (try dsimp only at hwS); go_simp; all_goals with_reducible rfl)
        try simp only [Act.put, List.setIfInBounds_toArray, List.set_cons_zero, List.set_cons_succ]
        refine wpAnyH_take (i := 3) (oi := ?_) (v := ?_) ?_ (by kernel_rfl) (by kernel_rfl) (by kernel_rfl) ?_ (Or.inl ⟨?_, ?_⟩) (by assumption) ?_
        rotate_left 2
        · (try simp only [List.getElem?_toArray, List.getElem?_cons_succ, List.getElem?_cons_zero]); rfl
        · exact fun _ _ _ h => h
        · rfl
        · (intro wS hwS; (try dsimp only at hwS); go_simp; all_goals with_reducible rfl)
        try simp only [Act.put, List.setIfInBounds_toArray, List.set_cons_zero, List.set_cons_succ]
        refine wpAnyH_take (i := 5) (oi := ?_) (v := ?_) ?_ (by kernel_rfl) (by kernel_rfl) (by kernel_rfl) ?_ (Or.inl ⟨?_, ?_⟩) (by assumption) ?_
        rotate_left 2
        · (try simp only [List.getElem?_toArray, List.getElem?_cons_succ, List.getElem?_cons_zero]); rfl
        · exact fun _ _ _ h => h
        · rfl
        · (intro wS hwS; (try dsimp only at hwS); go_simp; all_goals with_reducible rfl)
        try simp only [Act.put, List.setIfInBounds_toArray, List.set_cons_zero, List.set_cons_succ]
        refine wpAnyH_take (i := 8) (oi := ?_) (v := ?_) ?_ (by kernel_rfl) (by kernel_rfl) (by kernel_rfl) ?_ (Or.inl ⟨?_, ?_⟩) (by assumption) ?_
        rotate_left 2
        · (try simp only [List.getElem?_toArray, List.getElem?_cons_succ, List.getElem?_cons_zero]); rfl
        · exact fun _ _ _ h => h
        · rfl
        · (intro wS hwS; (try dsimp only at hwS); go_simp; all_goals with_reducible rfl)
        try simp only [Act.put, List.setIfInBounds_toArray, List.set_cons_zero, List.set_cons_succ]
        refine wpAnyH_take (i := 9) (oi := ?_) (v := ?_) ?_ (by kernel_rfl) (by kernel_rfl) (by kernel_rfl) ?_ (Or.inl ⟨?_, ?_⟩) (by assumption) ?_
        rotate_left 2
        · (try simp only [List.getElem?_toArray, List.getElem?_cons_succ, List.getElem?_cons_zero]); rfl
        · exact fun _ _ _ h => h
        · rfl
        · (intro wS hwS; (try dsimp only at hwS); go_simp; all_goals with_reducible rfl)
        try simp only [Act.put, List.setIfInBounds_toArray, List.set_cons_zero, List.set_cons_succ]
        refine wpAnyH_take (i := 10) (oi := ?_) (v := ?_) ?_ (by kernel_rfl) (by kernel_rfl) (by kernel_rfl) ?_ (Or.inl ⟨?_, ?_⟩) (by assumption) ?_
        rotate_left 2
        · (try simp only [List.getElem?_toArray, List.getElem?_cons_succ, List.getElem?_cons_zero]); rfl
        · exact fun _ _ _ h => h
        · rfl
        · (intro wS hwS; (try dsimp only at hwS); go_simp; all_goals with_reducible rfl)
        try simp only [Act.put, List.setIfInBounds_toArray, List.set_cons_zero, List.set_cons_succ]
        refine wpAnyH_ready (rs := [0, 6]) (by kernel_rfl) (by simp) ?_
        refine AllReadyH.cons (o := ?_) ?_ (fun K hK => ?_) ?_
        rotate_left 1
        · (try simp only [List.getElem?_toArray, List.getElem?_cons_succ, List.getElem?_cons_zero]); rfl
        · go_simp
          have B1 : Below wd.heap.size wd (wd.alloc (.cells #[] 34)) := (Below.refl _ wd).alloc (Nat.le_refl _) _
          have o1 := own_empty wd 34 2
          refine hK.out _ _ ?_ (fun hHeld => ?_)
          · exact Xkx.out _ B1
          clear hK K
          try simp only [Act.put, List.setIfInBounds_toArray, List.set_cons_zero, List.set_cons_succ]
          refine wpAnyH_ready (rs := [4, 6]) (by kernel_rfl) (by simp) ?_
          refine AllReadyH.cons (o := ?_) ?_ (fun K hK => ?_) ?_
          rotate_left 1
          · (try simp only [List.getElem?_toArray, List.getElem?_cons_succ, List.getElem?_cons_zero]); rfl
          · skip
            refine step_append _ rfl (.tmp 33) (.tmp 36) _ rfl Tryz.elemItem wd.heap.size _ 0 [] rfl o1 F _ _ (0) rfl Xlk.out (Xr1.out _ B1) (itCells_one _) (by unfold maxLen; omega) (by omega) (B1).size ?_
            intro A4 c4 w4 own4 hg4 hb4
            rw [Nat.zero_add] at own4 ⊢
            have hg4 : World.grownBy _ w4 (some (wd.heap.size)) := hg4
            have B4 := (B1).grown hg4 (B1).size (fun q hq => (World.ownsRow.lt o1 q hq).1)
            refine hK.out _ _ ?_ (fun hHeld => ?_)
            · exact Xkx.out _ B4
            clear hK K
            try simp only [Act.put, List.setIfInBounds_toArray, List.set_cons_zero, List.set_cons_succ]
            refine wpAnyH_ready (rs := [6]) (by kernel_rfl) (by simp) ?_
            refine AllReadyH.cons (o := ?_) ?_ (fun K hK => ?_) ?_
            rotate_left 1
            · (try simp only [List.getElem?_toArray, List.getElem?_cons_succ, List.getElem?_cons_zero]); rfl
            · go_simp
              have B5 : Below wd.heap.size wd (w4.alloc (.cells #[.int .i64 x0, .int .i64 x1] 34)) := B4.alloc B4.size _
              have o5 := own_alloc own4 (.cells #[.int .i64 x0, .int .i64 x1] 34)
              refine hK.out _ _ ?_ (fun hHeld => ?_)
              · exact Xkx.out _ B5
              clear hK K
              try simp only [Act.put, List.setIfInBounds_toArray, List.set_cons_zero, List.set_cons_succ]
              refine wpAnyH_ready (rs := [7]) (by kernel_rfl) (by simp) ?_
              refine AllReadyH.cons (o := ?_) ?_ (fun K hK => ?_) ?_
              rotate_left 1
              · (try simp only [List.getElem?_toArray, List.getElem?_cons_succ, List.getElem?_cons_zero]); rfl
              rotate_left 1
              · exact AllReadyH.nil
              refine step_append _ rfl (.tmp 37) (.tmp 39) _ rfl Tryz.elemItem wd.heap.size _ (0) _ rfl o5 _ _ [I64 x0, I64 x1] 1 rfl rfl (RdIt.one (x0, x1)) (itCells_one [(x0, x1)]) (by unfold maxLen; omega) (by omega) (B5).size ?_
              intro A6 c6 w6 own6 hg6 hb6
              have B6 := (B5).grown hg6 (B5).size (fun q hq => (World.ownsRow.lt o5 q hq).1)
              refine hK.out _ _ ?_ (fun hHeld => ?_)
              · exact Xkx.out _ B6
              clear hK K
              try simp only [Act.put, List.setIfInBounds_toArray, List.set_cons_zero, List.set_cons_succ]
              refine wpAnyH_ready (rs := [11]) (by kernel_rfl) (by simp) ?_
              refine AllReadyH.cons (o := ?_) ?_ (fun K hK => ?_) ?_
              rotate_left 1
              · (try simp only [List.getElem?_toArray, List.getElem?_cons_succ, List.getElem?_cons_zero]); rfl
              rotate_left 1
              · exact AllReadyH.nil
              refine step_append _ rfl (.tmp 40) (.tmp 43) _ rfl Tryz.elemItem wd.heap.size _ (0 + 1) _ rfl own6 F _ _ (0) rfl Xlk2.out (Xr2.out _ B6) (itCells_one _) (by unfold maxLen; omega) (by omega) B6.size ?_
              intro A8 c8 w8 own8 hg8 hb8
              have B8 := B6.grown hg8 B6.size (fun q hq => (World.ownsRow.lt own6 q hq).1)
              refine hK.out _ _ ?_ (fun hHeld => ?_)
              · exact Xkx.out _ B8
              clear hK K
              try simp only [Act.put, List.setIfInBounds_toArray, List.set_cons_zero, List.set_cons_succ]
              refine wpAnyH_take (i := 12) (oi := ?_) (v := ?_) ?_ (by kernel_rfl) (by kernel_rfl) (by kernel_rfl) ?_ (Or.inl ⟨?_, ?_⟩) (by assumption) ?_
              rotate_left 2
              · (try simp only [List.getElem?_toArray, List.getElem?_cons_succ, List.getElem?_cons_zero]); rfl
              · exact fun _ _ _ h => h
              · rfl
              · (intro wS hwS; (try dsimp only at hwS); go_simp; all_goals with_reducible rfl)
              try simp only [Act.put, List.setIfInBounds_toArray, List.set_cons_zero, List.set_cons_succ]
              refine wpAnyH_done (by kernel_rfl) ?_ _
              go_wp2_with fail
              go_ret
              refine ⟨A8, _, c8, rfl, ?_, Xb0.out.trans (B8.mono Xb0.out.size)⟩
              have hcells : ([] ++ itCells (l.take 0)) ++ [I64 x0, I64 x1] ++ itCells (l.drop 0) = itCells (putI (x0, x1) l) := by rw [Xhres.out, itCells_append]; simp [itCells]
              rw [hcells] at own8
              refine (Rd.of_own own8).mono fun q hq => .inr ⟨Nat.le_trans Xb0.out.size (World.ownsRow.lt own8 q hq).1, (World.ownsRow.lt own8 q hq).2⟩
            · exact AllReadyH.nil
          · refine AllReadyH.cons (o := ?_) ?_ (fun K hK => ?_) ?_
            rotate_left 1
            · (try simp only [List.getElem?_toArray, List.getElem?_cons_succ, List.getElem?_cons_zero]); rfl
            · go_simp
              have B2 : Below wd.heap.size wd ((wd.alloc (.cells #[] 34)).alloc (.cells #[.int .i64 x0, .int .i64 x1] 34)) := B1.alloc B1.size _
              have o2 := own_alloc o1 (.cells #[.int .i64 x0, .int .i64 x1] 34)
              have k2 : Blk ((wd.alloc (.cells #[] 34)).alloc (.cells #[.int .i64 x0, .int .i64 x1] 34)) (wd.heap.size + 1) 34 #[.int .i64 x0, .int .i64 x1] := by have := Blk.new (wd.alloc (.cells #[] 34)) 34 #[.int .i64 x0, .int .i64 x1]; simpa using this
              refine hK.out _ _ ?_ (fun hHeld => ?_)
              · exact Xkx.out _ B2
              clear hK K
              try simp only [Act.put, List.setIfInBounds_toArray, List.set_cons_zero, List.set_cons_succ]
              refine wpAnyH_ready (rs := [4]) (by kernel_rfl) (by simp) ?_
              refine AllReadyH.cons (o := ?_) ?_ (fun K hK => ?_) ?_
              rotate_left 1
              · (try simp only [List.getElem?_toArray, List.getElem?_cons_succ, List.getElem?_cons_zero]); rfl
              rotate_left 1
              · exact AllReadyH.nil
              refine step_append _ rfl (.tmp 33) (.tmp 36) _ rfl Tryz.elemItem wd.heap.size _ 0 [] rfl o2 F _ _ (0) rfl Xlk.out (Xr1.out _ B2) (itCells_one _) (by unfold maxLen; omega) (by omega) (B2).size ?_
              intro A4 c4 w4 own4 hg4 hb4
              rw [Nat.zero_add] at own4 ⊢
              have hg4 : World.grownBy _ w4 (some (wd.heap.size)) := hg4
              have B4 := (B2).grown hg4 (B2).size (fun q hq => (World.ownsRow.lt o2 q hq).1)
              have k4 := k2.grown hg4 (by simp)
              refine hK.out _ _ ?_ (fun hHeld => ?_)
              · exact Xkx.out _ B4
              clear hK K
              try simp only [Act.put, List.setIfInBounds_toArray, List.set_cons_zero, List.set_cons_succ]
              refine wpAnyH_ready (rs := [7]) (by kernel_rfl) (by simp) ?_
              refine AllReadyH.cons (o := ?_) ?_ (fun K hK => ?_) ?_
              rotate_left 1
              · (try simp only [List.getElem?_toArray, List.getElem?_cons_succ, List.getElem?_cons_zero]); rfl
              rotate_left 1
              · exact AllReadyH.nil
              refine step_append _ rfl (.tmp 37) (.tmp 39) _ rfl Tryz.elemItem wd.heap.size _ (0) _ rfl own4 _ _ [I64 x0, I64 x1] 1 rfl rfl (Rd.of_blk (F := fun b => b = wd.heap.size + 1) (us := [I64 x0, I64 x1]) (n := 1) k4 rfl rfl (by decide)) (itCells_one [(x0, x1)]) (by unfold maxLen; omega) (by omega) (B4).size ?_
              intro A6 c6 w6 own6 hg6 hb6
              have B6 := (B4).grown hg6 (B4).size (fun q hq => (World.ownsRow.lt own4 q hq).1)
              refine hK.out _ _ ?_ (fun hHeld => ?_)
              · exact Xkx.out _ B6
              clear hK K
              try simp only [Act.put, List.setIfInBounds_toArray, List.set_cons_zero, List.set_cons_succ]
              refine wpAnyH_ready (rs := [11]) (by kernel_rfl) (by simp) ?_
              refine AllReadyH.cons (o := ?_) ?_ (fun K hK => ?_) ?_
              rotate_left 1
              · (try simp only [List.getElem?_toArray, List.getElem?_cons_succ, List.getElem?_cons_zero]); rfl
              rotate_left 1
              · exact AllReadyH.nil
              refine step_append _ rfl (.tmp 40) (.tmp 43) _ rfl Tryz.elemItem wd.heap.size _ (0 + 1) _ rfl own6 F _ _ (0) rfl Xlk2.out (Xr2.out _ B6) (itCells_one _) (by unfold maxLen; omega) (by omega) B6.size ?_
              intro A8 c8 w8 own8 hg8 hb8
              have B8 := B6.grown hg8 B6.size (fun q hq => (World.ownsRow.lt own6 q hq).1)
              refine hK.out _ _ ?_ (fun hHeld => ?_)
              · exact Xkx.out _ B8
              clear hK K
              try simp only [Act.put, List.setIfInBounds_toArray, List.set_cons_zero, List.set_cons_succ]
              refine wpAnyH_take (i := 12) (oi := ?_) (v := ?_) ?_ (by kernel_rfl) (by kernel_rfl) (by kernel_rfl) ?_ (Or.inl ⟨?_, ?_⟩) (by assumption) ?_
              rotate_left 2
              · (try simp only [List.getElem?_toArray, List.getElem?_cons_succ, List.getElem?_cons_zero]); rfl
              · exact fun _ _ _ h => h
              · rfl
              · (intro wS hwS; (try dsimp only at hwS); go_simp; all_goals with_reducible rfl)
              try simp only [Act.put, List.setIfInBounds_toArray, List.set_cons_zero, List.set_cons_succ]
              refine wpAnyH_done (by kernel_rfl) ?_ _
              go_wp2_with fail
              go_ret
              refine ⟨A8, _, c8, rfl, ?_, Xb0.out.trans (B8.mono Xb0.out.size)⟩
              have hcells : ([] ++ itCells (l.take 0)) ++ [I64 x0, I64 x1] ++ itCells (l.drop 0) = itCells (putI (x0, x1) l) := by rw [Xhres.out, itCells_append]; simp [itCells]
              rw [hcells] at own8
              refine (Rd.of_own own8).mono fun q hq => .inr ⟨Nat.le_trans Xb0.out.size (World.ownsRow.lt own8 q hq).1, (World.ownsRow.lt own8 q hq).2⟩
            · exact AllReadyH.nil
        · refine AllReadyH.cons (o := ?_) ?_ (fun K hK => ?_) ?_
          rotate_left 1
          · (try simp only [List.getElem?_toArray, List.getElem?_cons_succ, List.getElem?_cons_zero]); rfl
          · go_simp
            have B1 : Below wd.heap.size wd (wd.alloc (.cells #[.int .i64 x0, .int .i64 x1] 34)) := (Below.refl _ wd).alloc (Nat.le_refl _) _
            have k1 : Blk (wd.alloc (.cells #[.int .i64 x0, .int .i64 x1] 34)) wd.heap.size 34 #[.int .i64 x0, .int .i64 x1] := Blk.new _ _ _
            refine hK.out _ _ ?_ (fun hHeld => ?_)
            · exact Xkx.out _ B1
            clear hK K
            try simp only [Act.put, List.setIfInBounds_toArray, List.set_cons_zero, List.set_cons_succ]
            refine wpAnyH_ready (rs := [0]) (by kernel_rfl) (by simp) ?_
            refine AllReadyH.cons (o := ?_) ?_ (fun K hK => ?_) ?_
            rotate_left 1
            · (try simp only [List.getElem?_toArray, List.getElem?_cons_succ, List.getElem?_cons_zero]); rfl
            rotate_left 1
            · exact AllReadyH.nil
            go_simp
            have B2 : Below wd.heap.size wd ((wd.alloc (.cells #[.int .i64 x0, .int .i64 x1] 34)).alloc (.cells #[] 34)) := B1.alloc B1.size _
            have o2 : World.ownsRow ((wd.alloc (.cells #[.int .i64 x0, .int .i64 x1] 34)).alloc (.cells #[] 34)) wd.heap.size 34 2 (.slice (some ⟨wd.heap.size + 1, 0, none⟩) 0 0) 0 [] := by
              have := own_empty (wd.alloc (.cells #[.int .i64 x0, .int .i64 x1] 34)) 34 2
              rw [World.size_alloc] at this
              exact ownsRow_base this (fun q hq => by simp [Value.ownBlock] at hq; omega)
            have k2 := k1.alloc (.cells #[] 34)
            refine hK.out _ _ ?_ (fun hHeld => ?_)
            · exact Xkx.out _ B2
            clear hK K
            try simp only [Act.put, List.setIfInBounds_toArray, List.set_cons_zero, List.set_cons_succ]
            refine wpAnyH_ready (rs := [4]) (by kernel_rfl) (by simp) ?_
            refine AllReadyH.cons (o := ?_) ?_ (fun K hK => ?_) ?_
            rotate_left 1
            · (try simp only [List.getElem?_toArray, List.getElem?_cons_succ, List.getElem?_cons_zero]); rfl
            rotate_left 1
            · exact AllReadyH.nil
            refine step_append _ rfl (.tmp 33) (.tmp 36) _ rfl Tryz.elemItem wd.heap.size _ 0 [] rfl o2 F _ _ (0) rfl Xlk.out (Xr1.out _ B2) (itCells_one _) (by unfold maxLen; omega) (by omega) (B2).size ?_
            intro A4 c4 w4 own4 hg4 hb4
            rw [Nat.zero_add] at own4 ⊢
            have hg4 : World.grownBy _ w4 (some (wd.heap.size+1)) := hg4
            have B4 := (B2).grown hg4 (B2).size (fun q hq => (World.ownsRow.lt o2 q hq).1)
            have k4 := k2.grown hg4 (by simp)
            refine hK.out _ _ ?_ (fun hHeld => ?_)
            · exact Xkx.out _ B4
            clear hK K
            try simp only [Act.put, List.setIfInBounds_toArray, List.set_cons_zero, List.set_cons_succ]
            refine wpAnyH_ready (rs := [7]) (by kernel_rfl) (by simp) ?_
            refine AllReadyH.cons (o := ?_) ?_ (fun K hK => ?_) ?_
            rotate_left 1
            · (try simp only [List.getElem?_toArray, List.getElem?_cons_succ, List.getElem?_cons_zero]); rfl
            rotate_left 1
            · exact AllReadyH.nil
            refine step_append _ rfl (.tmp 37) (.tmp 39) _ rfl Tryz.elemItem wd.heap.size _ (0) _ rfl own4 _ _ [I64 x0, I64 x1] 1 rfl rfl (Rd.of_blk (F := fun b => b = wd.heap.size) (us := [I64 x0, I64 x1]) (n := 1) k4 rfl rfl (by decide)) (itCells_one [(x0, x1)]) (by unfold maxLen; omega) (by omega) (B4).size ?_
            intro A6 c6 w6 own6 hg6 hb6
            have B6 := (B4).grown hg6 (B4).size (fun q hq => (World.ownsRow.lt own4 q hq).1)
            refine hK.out _ _ ?_ (fun hHeld => ?_)
            · exact Xkx.out _ B6
            clear hK K
            try simp only [Act.put, List.setIfInBounds_toArray, List.set_cons_zero, List.set_cons_succ]
            refine wpAnyH_ready (rs := [11]) (by kernel_rfl) (by simp) ?_
            refine AllReadyH.cons (o := ?_) ?_ (fun K hK => ?_) ?_
            rotate_left 1
            · (try simp only [List.getElem?_toArray, List.getElem?_cons_succ, List.getElem?_cons_zero]); rfl
            rotate_left 1
            · exact AllReadyH.nil
            refine step_append _ rfl (.tmp 40) (.tmp 43) _ rfl Tryz.elemItem wd.heap.size _ (0 + 1) _ rfl own6 F _ _ (0) rfl Xlk2.out (Xr2.out _ B6) (itCells_one _) (by unfold maxLen; omega) (by omega) B6.size ?_
            intro A8 c8 w8 own8 hg8 hb8
            have B8 := B6.grown hg8 B6.size (fun q hq => (World.ownsRow.lt own6 q hq).1)
            refine hK.out _ _ ?_ (fun hHeld => ?_)
            · exact Xkx.out _ B8
            clear hK K
            try simp only [Act.put, List.setIfInBounds_toArray, List.set_cons_zero, List.set_cons_succ]
            refine wpAnyH_take (i := 12) (oi := ?_) (v := ?_) ?_ (by kernel_rfl) (by kernel_rfl) (by kernel_rfl) ?_ (Or.inl ⟨?_, ?_⟩) (by assumption) ?_
            rotate_left 2
            · (try simp only [List.getElem?_toArray, List.getElem?_cons_succ, List.getElem?_cons_zero]); rfl
            · exact fun _ _ _ h => h
            · rfl
            · (intro wS hwS; (try dsimp only at hwS); go_simp; all_goals with_reducible rfl)
            try simp only [Act.put, List.setIfInBounds_toArray, List.set_cons_zero, List.set_cons_succ]
            refine wpAnyH_done (by kernel_rfl) ?_ _
            go_wp2_with fail
            go_ret
            refine ⟨A8, _, c8, rfl, ?_, Xb0.out.trans (B8.mono Xb0.out.size)⟩
            have hcells : ([] ++ itCells (l.take 0)) ++ [I64 x0, I64 x1] ++ itCells (l.drop 0) = itCells (putI (x0, x1) l) := by rw [Xhres.out, itCells_append]; simp [itCells]
            rw [hcells] at own8
            refine (Rd.of_own own8).mono fun q hq => .inr ⟨Nat.le_trans Xb0.out.size (World.ownsRow.lt own8 q hq).1, (World.ownsRow.lt own8 q hq).2⟩
          · exact AllReadyH.nil
      · obtain ⟨b, off, rfl, -, -⟩ := hcell (by omega)
        have r2 : ∀ W, Below wr.drew.drew.drew.heap.size wr.drew.drew.drew W → RdIt W F (.slice (if c = k then some ⟨b, off, none⟩ else some ⟨b, off + k * 2, none⟩) 0 (c - k)) (l.drop k) := fun W hW => by
          have := RdIt.rest (hrd.below (hW.mono (Nat.le_of_lt hwq)) XhF.out) (Nat.le_refl k)
          rwa [Nat.sub_self] at this
        obtain ⟨A', hA'⟩ : ∃ A' : Option Addr, (if c = k then (some ⟨b, off, none⟩ : Option Addr) else some ⟨b, off + k * 2, none⟩) = A' := ⟨_, rfl⟩
        rw [hA'] at r2
        clear hcell hrd kd bw bd b0 hb hpa bq2 hwq hwx Xh Xb1 Xk1 Xhnil
        have Xr1 := hide r1
        have Xr2 := hide r2
        have Xlk := hide lk
        have Xlk2 := hide lk2
        clear r1 r2 lk lk2
        go_wp2_with fail
        refine wp_region_held_drew (S := (fun W => W.cell? ⟨w.heap.size, 0, none⟩ = some (.int .i64 x0) ∧ W.cell? ⟨w.heap.size, 1, none⟩ = some (.int .i64 x1))) (by kernel_rfl) ?_ (fun hHeld => ?_)
        · exact ⟨d0, d1⟩
        refine wpAnyH_take (i := 0) (oi := ?_) (v := ?_) ?_ (by kernel_rfl) (by kernel_rfl) (by kernel_rfl) ?_ (Or.inl ⟨?_, ?_⟩) (by assumption) ?_
        rotate_left 2
        · (try simp only [List.getElem?_toArray, List.getElem?_cons_succ, List.getElem?_cons_zero]); rfl
        · exact fun _ _ _ h => h
        · rfl
        · (intro wS hwS; (try dsimp only at hwS); go_simp; all_goals with_reducible rfl)
        try simp only [Act.put, List.setIfInBounds_toArray, List.set_cons_zero, List.set_cons_succ]
        refine wpAnyH_take (i := 1) (oi := ?_) (v := ?_) ?_ (by kernel_rfl) (by kernel_rfl) (by kernel_rfl) ?_ (Or.inl ⟨?_, ?_⟩) (by assumption) ?_
        rotate_left 2
        · (try simp only [List.getElem?_toArray, List.getElem?_cons_succ, List.getElem?_cons_zero]); rfl
        · exact fun _ _ _ h => h
        · rfl
        · (intro wS hwS; (try dsimp only at hwS); go_simp; all_goals with_reducible rfl)
        try simp only [Act.put, List.setIfInBounds_toArray, List.set_cons_zero, List.set_cons_succ]
        refine wpAnyH_take (i := 2) (oi := ?_) (v := ?_) ?_ (by kernel_rfl) (by kernel_rfl) (by kernel_rfl) ?_ (Or.inl ⟨?_, ?_⟩) (by assumption) ?_
        rotate_left 2
        · (try simp only [List.getElem?_toArray, List.getElem?_cons_succ, List.getElem?_cons_zero]); rfl
        · exact fun _ _ _ h => h
        · rfl
        · (intro wS hwS; (try dsimp only at hwS); go_simp; all_goals with_reducible rfl)
        try simp only [Act.put, List.setIfInBounds_toArray, List.set_cons_zero, List.set_cons_succ]
        refine wpAnyH_take (i := 3) (oi := ?_) (v := ?_) ?_ (by kernel_rfl) (by kernel_rfl) (by kernel_rfl) ?_ (Or.inl ⟨?_, ?_⟩) (by assumption) ?_
        rotate_left 2
        · (try simp only [List.getElem?_toArray, List.getElem?_cons_succ, List.getElem?_cons_zero]); rfl
        · exact fun _ _ _ h => h
        · rfl
        · (intro wS hwS; (try dsimp only at hwS); go_simp; all_goals with_reducible rfl)
        try simp only [Act.put, List.setIfInBounds_toArray, List.set_cons_zero, List.set_cons_succ]
        refine wpAnyH_take (i := 4) (oi := ?_) (v := ?_) ?_ (by kernel_rfl) (by kernel_rfl) (by kernel_rfl) ?_ (Or.inl ⟨?_, ?_⟩) (by assumption) ?_
        rotate_left 2
        · (try simp only [List.getElem?_toArray, List.getElem?_cons_succ, List.getElem?_cons_zero]); rfl
        · exact fun _ _ _ h => h
        · rfl
        · (intro wS hwS; (try dsimp only at hwS); go_simp; all_goals with_reducible rfl)
        try simp only [Act.put, List.setIfInBounds_toArray, List.set_cons_zero, List.set_cons_succ]
        refine wpAnyH_take (i := 5) (oi := ?_) (v := undef) ?_ (by kernel_rfl) (by kernel_rfl) (by kernel_rfl) ?_ (Or.inr ⟨?_, rfl⟩) (by assumption) ?_
        rotate_left 1
        · (try simp only [List.getElem?_toArray, List.getElem?_cons_succ, List.getElem?_cons_zero]); rfl
        · exact fun _ _ _ h => h
        · rfl
        try simp only [Act.put, List.setIfInBounds_toArray, List.set_cons_zero, List.set_cons_succ]
        refine wpAnyH_take (i := 6) (oi := ?_) (v := undef) ?_ (by kernel_rfl) (by kernel_rfl) (by kernel_rfl) ?_ (Or.inr ⟨?_, rfl⟩) (by assumption) ?_
        rotate_left 1
        · (try simp only [List.getElem?_toArray, List.getElem?_cons_succ, List.getElem?_cons_zero]); rfl
        · exact fun _ _ _ h => h
        · rfl
        try simp only [Act.put, List.setIfInBounds_toArray, List.set_cons_zero, List.set_cons_succ]
        refine wpAnyH_take (i := 7) (oi := ?_) (v := undef) ?_ (by kernel_rfl) (by kernel_rfl) (by kernel_rfl) ?_ (Or.inr ⟨?_, rfl⟩) (by assumption) ?_
        rotate_left 1
        · (try simp only [List.getElem?_toArray, List.getElem?_cons_succ, List.getElem?_cons_zero]); rfl
        · exact fun _ _ _ h => h
        · rfl
        try simp only [Act.put, List.setIfInBounds_toArray, List.set_cons_zero, List.set_cons_succ]
        refine wpAnyH_take (i := 8) (oi := ?_) (v := undef) ?_ (by kernel_rfl) (by kernel_rfl) (by kernel_rfl) ?_ (Or.inr ⟨?_, rfl⟩) (by assumption) ?_
        rotate_left 1
        · (try simp only [List.getElem?_toArray, List.getElem?_cons_succ, List.getElem?_cons_zero]); rfl
        · exact fun _ _ _ h => h
        · rfl
        try simp only [Act.put, List.setIfInBounds_toArray, List.set_cons_zero, List.set_cons_succ]
        refine wpAnyH_take (i := 9) (oi := ?_) (v := undef) ?_ (by kernel_rfl) (by kernel_rfl) (by kernel_rfl) ?_ (Or.inr ⟨?_, rfl⟩) (by assumption) ?_
        rotate_left 1
        · (try simp only [List.getElem?_toArray, List.getElem?_cons_succ, List.getElem?_cons_zero]); rfl
        · exact fun _ _ _ h => h
        · rfl
        try simp only [Act.put, List.setIfInBounds_toArray, List.set_cons_zero, List.set_cons_succ]
        refine wpAnyH_take (i := 10) (oi := ?_) (v := undef) ?_ (by kernel_rfl) (by kernel_rfl) (by kernel_rfl) ?_ (Or.inr ⟨?_, rfl⟩) (by assumption) ?_
        rotate_left 1
        · (try simp only [List.getElem?_toArray, List.getElem?_cons_succ, List.getElem?_cons_zero]); rfl
        · exact fun _ _ _ h => h
        · rfl
        try simp only [Act.put, List.setIfInBounds_toArray, List.set_cons_zero, List.set_cons_succ]
        refine wpAnyH_take (i := 11) (oi := ?_) (v := ?_) ?_ (by kernel_rfl) (by kernel_rfl) (by kernel_rfl) ?_ (Or.inl ⟨?_, ?_⟩) (by assumption) ?_
        rotate_left 2
        · (try simp only [List.getElem?_toArray, List.getElem?_cons_succ, List.getElem?_cons_zero]); rfl
        · exact fun _ _ _ h => h
        · rfl
        · (intro wS hwS; (try dsimp only at hwS); go_simp; all_goals with_reducible rfl)
        try simp only [Act.put, List.setIfInBounds_toArray, List.set_cons_zero, List.set_cons_succ]
        refine wpAnyH_done (by kernel_rfl) ?_ _
        go_wp2_with fail
        refine wp_region_held_drew (S := (fun W => W.cell? ⟨w.heap.size, 0, none⟩ = some (.int .i64 x0) ∧ W.cell? ⟨w.heap.size, 1, none⟩ = some (.int .i64 x1))) (by kernel_rfl) ?_ (fun hHeld => ?_)
        · exact ⟨d0, d1⟩
        refine wpAnyH_take (i := 0) (oi := ?_) (v := ?_) ?_ (by kernel_rfl) (by kernel_rfl) (by kernel_rfl) ?_ (Or.inl ⟨?_, ?_⟩) (by assumption) ?_
        rotate_left 2
        · (try simp only [List.getElem?_toArray, List.getElem?_cons_succ, List.getElem?_cons_zero]); rfl
        · exact fun _ _ _ h => h
        · rfl
        · (intro wS hwS; (try dsimp only at hwS); go_simp; all_goals with_reducible rfl)
        try simp only [Act.put, List.setIfInBounds_toArray, List.set_cons_zero, List.set_cons_succ]
        refine wpAnyH_take (i := 1) (oi := ?_) (v := ?_) ?_ (by kernel_rfl) (by kernel_rfl) (by kernel_rfl) ?_ (Or.inl ⟨?_, ?_⟩) (by assumption) ?_
        rotate_left 2
        · (try simp only [List.getElem?_toArray, List.getElem?_cons_succ, List.getElem?_cons_zero]); rfl
        · exact fun _ _ _ h => h
        · rfl
        · (intro wS hwS; (try dsimp only at hwS); go_simp; all_goals with_reducible rfl)
        try simp only [Act.put, List.setIfInBounds_toArray, List.set_cons_zero, List.set_cons_succ]
        refine wpAnyH_take (i := 2) (oi := ?_) (v := ?_) ?_ (by kernel_rfl) (by kernel_rfl) (by kernel_rfl) ?_ (Or.inl ⟨?_, ?_⟩) (by assumption) ?_
        rotate_left 2
        · (try simp only [List.getElem?_toArray, List.getElem?_cons_succ, List.getElem?_cons_zero]); rfl
        · exact fun _ _ _ h => h
        · rfl
        · (intro wS hwS; (try dsimp only at hwS); go_simp; all_goals with_reducible rfl)
        try simp only [Act.put, List.setIfInBounds_toArray, List.set_cons_zero, List.set_cons_succ]
        refine wpAnyH_take (i := 3) (oi := ?_) (v := ?_) ?_ (by kernel_rfl) (by kernel_rfl) (by kernel_rfl) ?_ (Or.inl ⟨?_, ?_⟩) (by assumption) ?_
        rotate_left 2
        · (try simp only [List.getElem?_toArray, List.getElem?_cons_succ, List.getElem?_cons_zero]); rfl
        · exact fun _ _ _ h => h
        · rfl
        · (intro wS hwS; (try dsimp only at hwS); go_simp; all_goals with_reducible rfl)
        try simp only [Act.put, List.setIfInBounds_toArray, List.set_cons_zero, List.set_cons_succ]
        refine wpAnyH_take (i := 4) (oi := ?_) (v := ?_) ?_ (by kernel_rfl) (by kernel_rfl) (by kernel_rfl) ?_ (Or.inl ⟨?_, ?_⟩) (by assumption) ?_
        rotate_left 2
        · (try simp only [List.getElem?_toArray, List.getElem?_cons_succ, List.getElem?_cons_zero]); rfl
        · exact fun _ _ _ h => h
        · rfl
        · (intro wS hwS; (try dsimp only at hwS); go_simp; all_goals with_reducible rfl)
        try simp only [Act.put, List.setIfInBounds_toArray, List.set_cons_zero, List.set_cons_succ]
        refine wpAnyH_take (i := 5) (oi := ?_) (v := undef) ?_ (by kernel_rfl) (by kernel_rfl) (by kernel_rfl) ?_ (Or.inr ⟨?_, rfl⟩) (by assumption) ?_
        rotate_left 1
        · (try simp only [List.getElem?_toArray, List.getElem?_cons_succ, List.getElem?_cons_zero]); rfl
        · exact fun _ _ _ h => h
        · rfl
        try simp only [Act.put, List.setIfInBounds_toArray, List.set_cons_zero, List.set_cons_succ]
        refine wpAnyH_take (i := 6) (oi := ?_) (v := undef) ?_ (by kernel_rfl) (by kernel_rfl) (by kernel_rfl) ?_ (Or.inr ⟨?_, rfl⟩) (by assumption) ?_
        rotate_left 1
        · (try simp only [List.getElem?_toArray, List.getElem?_cons_succ, List.getElem?_cons_zero]); rfl
        · exact fun _ _ _ h => h
        · rfl
        try simp only [Act.put, List.setIfInBounds_toArray, List.set_cons_zero, List.set_cons_succ]
        refine wpAnyH_take (i := 7) (oi := ?_) (v := undef) ?_ (by kernel_rfl) (by kernel_rfl) (by kernel_rfl) ?_ (Or.inr ⟨?_, rfl⟩) (by assumption) ?_
        rotate_left 1
        · (try simp only [List.getElem?_toArray, List.getElem?_cons_succ, List.getElem?_cons_zero]); rfl
        · exact fun _ _ _ h => h
        · rfl
        try simp only [Act.put, List.setIfInBounds_toArray, List.set_cons_zero, List.set_cons_succ]
        refine wpAnyH_take (i := 8) (oi := ?_) (v := undef) ?_ (by kernel_rfl) (by kernel_rfl) (by kernel_rfl) ?_ (Or.inr ⟨?_, rfl⟩) (by assumption) ?_
        rotate_left 1
        · (try simp only [List.getElem?_toArray, List.getElem?_cons_succ, List.getElem?_cons_zero]); rfl
        · exact fun _ _ _ h => h
        · rfl
        try simp only [Act.put, List.setIfInBounds_toArray, List.set_cons_zero, List.set_cons_succ]
        refine wpAnyH_take (i := 9) (oi := ?_) (v := undef) ?_ (by kernel_rfl) (by kernel_rfl) (by kernel_rfl) ?_ (Or.inr ⟨?_, rfl⟩) (by assumption) ?_
        rotate_left 1
        · (try simp only [List.getElem?_toArray, List.getElem?_cons_succ, List.getElem?_cons_zero]); rfl
        · exact fun _ _ _ h => h
        · rfl
        try simp only [Act.put, List.setIfInBounds_toArray, List.set_cons_zero, List.set_cons_succ]
        refine wpAnyH_take (i := 10) (oi := ?_) (v := undef) ?_ (by kernel_rfl) (by kernel_rfl) (by kernel_rfl) ?_ (Or.inr ⟨?_, rfl⟩) (by assumption) ?_
        rotate_left 1
        · (try simp only [List.getElem?_toArray, List.getElem?_cons_succ, List.getElem?_cons_zero]); rfl
        · exact fun _ _ _ h => h
        · rfl
        try simp only [Act.put, List.setIfInBounds_toArray, List.set_cons_zero, List.set_cons_succ]
        refine wpAnyH_take (i := 11) (oi := ?_) (v := ?_) ?_ (by kernel_rfl) (by kernel_rfl) (by kernel_rfl) ?_ (Or.inl ⟨?_, ?_⟩) (by assumption) ?_
        rotate_left 2
        · (try simp only [List.getElem?_toArray, List.getElem?_cons_succ, List.getElem?_cons_zero]); rfl
        · exact fun _ _ _ h => h
        · rfl
        · (intro wS hwS; (try dsimp only at hwS); go_simp; all_goals with_reducible rfl)
        try simp only [Act.put, List.setIfInBounds_toArray, List.set_cons_zero, List.set_cons_succ]
        refine wpAnyH_done (by kernel_rfl) ?_ _
        go_upto_region 6 with fail
        refine wp_region_held_drew (S := (fun W => W.cell? ⟨w.heap.size, 0, none⟩ = some (.int .i64 x0) ∧ W.cell? ⟨w.heap.size, 1, none⟩ = some (.int .i64 x1))) (by kernel_rfl) ?_ (fun hHeld => ?_)
        · exact ⟨d0, d1⟩
        generalize wr.drew.drew.drew = wd at *
        have kx : ∀ W, Below wd.heap.size wd W → W.cell? ⟨w.heap.size, 0, none⟩ = some (.int .i64 x0) ∧ W.cell? ⟨w.heap.size, 1, none⟩ = some (.int .i64 x1) := fun W h => ⟨(h.cell (p := ⟨w.heap.size, 0, none⟩) Xhwx.out).trans d0, (h.cell (p := ⟨w.heap.size, 1, none⟩) Xhwx.out).trans d1⟩
        have Xkx := hide kx
        clear kx
        clear d0 d1
        refine wpAnyH_take (i := 1) (oi := ?_) (v := ?_) ?_ (by kernel_rfl) (by kernel_rfl) (by kernel_rfl) ?_ (Or.inl ⟨?_, ?_⟩) (by assumption) ?_
        rotate_left 2
        · (try simp only [List.getElem?_toArray, List.getElem?_cons_succ, List.getElem?_cons_zero]); rfl
        · exact fun _ _ _ h => h
        · rfl
        · (intro wS hwS; (try dsimp only at hwS); go_simp; all_goals with_reducible rfl)
        try simp only [Act.put, List.setIfInBounds_toArray, List.set_cons_zero, List.set_cons_succ]
        refine wpAnyH_take (i := 2) (oi := ?_) (v := ?_) ?_ (by kernel_rfl) (by kernel_rfl) (by kernel_rfl) ?_ (Or.inl ⟨?_, ?_⟩) (by assumption) ?_
        rotate_left 2
        · (try simp only [List.getElem?_toArray, List.getElem?_cons_succ, List.getElem?_cons_zero]); rfl
        · exact fun _ _ _ h => h
        · rfl
        · (intro wS hwS; (try dsimp only at hwS); go_simp; all_goals with_reducible rfl)
        try simp only [Act.put, List.setIfInBounds_toArray, List.set_cons_zero, List.set_cons_succ]
        refine wpAnyH_take (i := 3) (oi := ?_) (v := ?_) ?_ (by kernel_rfl) (by kernel_rfl) (by kernel_rfl) ?_ (Or.inl ⟨?_, ?_⟩) (by assumption) ?_
        rotate_left 2
        · (try simp only [List.getElem?_toArray, List.getElem?_cons_succ, List.getElem?_cons_zero]); rfl
        · exact fun _ _ _ h => h
        · rfl
        · (intro wS hwS; (try dsimp only at hwS); go_simp; all_goals with_reducible rfl)
        try simp only [Act.put, List.setIfInBounds_toArray, List.set_cons_zero, List.set_cons_succ]
        refine wpAnyH_take (i := 5) (oi := ?_) (v := ?_) ?_ (by kernel_rfl) (by kernel_rfl) (by kernel_rfl) ?_ (Or.inl ⟨?_, ?_⟩) (by assumption) ?_
        rotate_left 2
        · (try simp only [List.getElem?_toArray, List.getElem?_cons_succ, List.getElem?_cons_zero]); rfl
        · exact fun _ _ _ h => h
        · rfl
        · (intro wS hwS; (try dsimp only at hwS); go_simp; all_goals with_reducible rfl)
        try simp only [Act.put, List.setIfInBounds_toArray, List.set_cons_zero, List.set_cons_succ]
        refine wpAnyH_take (i := 8) (oi := ?_) (v := ?_) ?_ (by kernel_rfl) (by kernel_rfl) (by kernel_rfl) ?_ (Or.inl ⟨?_, ?_⟩) (by assumption) ?_
        rotate_left 2
        · (try simp only [List.getElem?_toArray, List.getElem?_cons_succ, List.getElem?_cons_zero]); rfl
        · exact fun _ _ _ h => h
        · rfl
        · (intro wS hwS; (try dsimp only at hwS); go_simp; all_goals with_reducible rfl)
        try simp only [Act.put, List.setIfInBounds_toArray, List.set_cons_zero, List.set_cons_succ]
        refine wpAnyH_take (i := 9) (oi := ?_) (v := ?_) ?_ (by kernel_rfl) (by kernel_rfl) (by kernel_rfl) ?_ (Or.inl ⟨?_, ?_⟩) (by assumption) ?_
        rotate_left 2
        · (try simp only [List.getElem?_toArray, List.getElem?_cons_succ, List.getElem?_cons_zero]); rfl
        · exact fun _ _ _ h => h
        · rfl
        · (intro wS hwS; (try dsimp only at hwS); go_simp; all_goals with_reducible rfl)
        try simp only [Act.put, List.setIfInBounds_toArray, List.set_cons_zero, List.set_cons_succ]
        refine wpAnyH_take (i := 10) (oi := ?_) (v := ?_) ?_ (by kernel_rfl) (by kernel_rfl) (by kernel_rfl) ?_ (Or.inl ⟨?_, ?_⟩) (by assumption) ?_
        rotate_left 2
        · (try simp only [List.getElem?_toArray, List.getElem?_cons_succ, List.getElem?_cons_zero]); rfl
        · exact fun _ _ _ h => h
        · rfl
        · (intro wS hwS; (try dsimp only at hwS); go_simp; all_goals with_reducible rfl)
        try simp only [Act.put, List.setIfInBounds_toArray, List.set_cons_zero, List.set_cons_succ]
        refine wpAnyH_ready (rs := [0, 6]) (by kernel_rfl) (by simp) ?_
        refine AllReadyH.cons (o := ?_) ?_ (fun K hK => ?_) ?_
        rotate_left 1
        · (try simp only [List.getElem?_toArray, List.getElem?_cons_succ, List.getElem?_cons_zero]); rfl
        · go_simp
          have B1 : Below wd.heap.size wd (wd.alloc (.cells #[] 34)) := (Below.refl _ wd).alloc (Nat.le_refl _) _
          have o1 := own_empty wd 34 2
          refine hK.out _ _ ?_ (fun hHeld => ?_)
          · exact Xkx.out _ B1
          clear hK K
          try simp only [Act.put, List.setIfInBounds_toArray, List.set_cons_zero, List.set_cons_succ]
          refine wpAnyH_ready (rs := [4, 6]) (by kernel_rfl) (by simp) ?_
          refine AllReadyH.cons (o := ?_) ?_ (fun K hK => ?_) ?_
          rotate_left 1
          · (try simp only [List.getElem?_toArray, List.getElem?_cons_succ, List.getElem?_cons_zero]); rfl
          · skip
            refine step_append _ rfl (.tmp 33) (.tmp 36) _ rfl Tryz.elemItem wd.heap.size _ 0 [] rfl o1 F _ _ (k) rfl Xlk.out (Xr1.out _ B1) (itCells_one _) (by unfold maxLen; omega) (by omega) (B1).size ?_
            intro A4 c4 w4 own4 hg4 hb4
            rw [Nat.zero_add] at own4 ⊢
            have hg4 : World.grownBy _ w4 (some (wd.heap.size)) := hg4
            have B4 := (B1).grown hg4 (B1).size (fun q hq => (World.ownsRow.lt o1 q hq).1)
            refine hK.out _ _ ?_ (fun hHeld => ?_)
            · exact Xkx.out _ B4
            clear hK K
            try simp only [Act.put, List.setIfInBounds_toArray, List.set_cons_zero, List.set_cons_succ]
            refine wpAnyH_ready (rs := [6]) (by kernel_rfl) (by simp) ?_
            refine AllReadyH.cons (o := ?_) ?_ (fun K hK => ?_) ?_
            rotate_left 1
            · (try simp only [List.getElem?_toArray, List.getElem?_cons_succ, List.getElem?_cons_zero]); rfl
            · go_simp
              have B5 : Below wd.heap.size wd (w4.alloc (.cells #[.int .i64 x0, .int .i64 x1] 34)) := B4.alloc B4.size _
              have o5 := own_alloc own4 (.cells #[.int .i64 x0, .int .i64 x1] 34)
              refine hK.out _ _ ?_ (fun hHeld => ?_)
              · exact Xkx.out _ B5
              clear hK K
              try simp only [Act.put, List.setIfInBounds_toArray, List.set_cons_zero, List.set_cons_succ]
              refine wpAnyH_ready (rs := [7]) (by kernel_rfl) (by simp) ?_
              refine AllReadyH.cons (o := ?_) ?_ (fun K hK => ?_) ?_
              rotate_left 1
              · (try simp only [List.getElem?_toArray, List.getElem?_cons_succ, List.getElem?_cons_zero]); rfl
              rotate_left 1
              · exact AllReadyH.nil
              refine step_append _ rfl (.tmp 37) (.tmp 39) _ rfl Tryz.elemItem wd.heap.size _ (k) _ rfl o5 _ _ [I64 x0, I64 x1] 1 rfl rfl (RdIt.one (x0, x1)) (itCells_one [(x0, x1)]) (by unfold maxLen; omega) (by omega) (B5).size ?_
              intro A6 c6 w6 own6 hg6 hb6
              have B6 := (B5).grown hg6 (B5).size (fun q hq => (World.ownsRow.lt o5 q hq).1)
              refine hK.out _ _ ?_ (fun hHeld => ?_)
              · exact Xkx.out _ B6
              clear hK K
              try simp only [Act.put, List.setIfInBounds_toArray, List.set_cons_zero, List.set_cons_succ]
              refine wpAnyH_ready (rs := [11]) (by kernel_rfl) (by simp) ?_
              refine AllReadyH.cons (o := ?_) ?_ (fun K hK => ?_) ?_
              rotate_left 1
              · (try simp only [List.getElem?_toArray, List.getElem?_cons_succ, List.getElem?_cons_zero]); rfl
              rotate_left 1
              · exact AllReadyH.nil
              refine step_append _ rfl (.tmp 40) (.tmp 43) _ rfl Tryz.elemItem wd.heap.size _ (k + 1) _ rfl own6 F _ _ (0) rfl Xlk2.out (Xr2.out _ B6) (itCells_one _) (by unfold maxLen; omega) (by omega) B6.size ?_
              intro A8 c8 w8 own8 hg8 hb8
              have B8 := B6.grown hg8 B6.size (fun q hq => (World.ownsRow.lt own6 q hq).1)
              refine hK.out _ _ ?_ (fun hHeld => ?_)
              · exact Xkx.out _ B8
              clear hK K
              try simp only [Act.put, List.setIfInBounds_toArray, List.set_cons_zero, List.set_cons_succ]
              refine wpAnyH_take (i := 12) (oi := ?_) (v := ?_) ?_ (by kernel_rfl) (by kernel_rfl) (by kernel_rfl) ?_ (Or.inl ⟨?_, ?_⟩) (by assumption) ?_
              rotate_left 2
              · (try simp only [List.getElem?_toArray, List.getElem?_cons_succ, List.getElem?_cons_zero]); rfl
              · exact fun _ _ _ h => h
              · rfl
              · (intro wS hwS; (try dsimp only at hwS); go_simp; all_goals with_reducible rfl)
              try simp only [Act.put, List.setIfInBounds_toArray, List.set_cons_zero, List.set_cons_succ]
              refine wpAnyH_done (by kernel_rfl) ?_ _
              go_wp2_with fail
              go_ret
              refine ⟨A8, _, c8, rfl, ?_, Xb0.out.trans (B8.mono Xb0.out.size)⟩
              have hcells : ([] ++ itCells (l.take k)) ++ [I64 x0, I64 x1] ++ itCells (l.drop k) = itCells (putI (x0, x1) l) := by rw [Xhres.out, itCells_append]; simp [itCells]
              rw [hcells] at own8
              refine (Rd.of_own own8).mono fun q hq => .inr ⟨Nat.le_trans Xb0.out.size (World.ownsRow.lt own8 q hq).1, (World.ownsRow.lt own8 q hq).2⟩
            · exact AllReadyH.nil
          · refine AllReadyH.cons (o := ?_) ?_ (fun K hK => ?_) ?_
            rotate_left 1
            · (try simp only [List.getElem?_toArray, List.getElem?_cons_succ, List.getElem?_cons_zero]); rfl
            · go_simp
              have B2 : Below wd.heap.size wd ((wd.alloc (.cells #[] 34)).alloc (.cells #[.int .i64 x0, .int .i64 x1] 34)) := B1.alloc B1.size _
              have o2 := own_alloc o1 (.cells #[.int .i64 x0, .int .i64 x1] 34)
              have k2 : Blk ((wd.alloc (.cells #[] 34)).alloc (.cells #[.int .i64 x0, .int .i64 x1] 34)) (wd.heap.size + 1) 34 #[.int .i64 x0, .int .i64 x1] := by have := Blk.new (wd.alloc (.cells #[] 34)) 34 #[.int .i64 x0, .int .i64 x1]; simpa using this
              refine hK.out _ _ ?_ (fun hHeld => ?_)
              · exact Xkx.out _ B2
              clear hK K
              try simp only [Act.put, List.setIfInBounds_toArray, List.set_cons_zero, List.set_cons_succ]
              refine wpAnyH_ready (rs := [4]) (by kernel_rfl) (by simp) ?_
              refine AllReadyH.cons (o := ?_) ?_ (fun K hK => ?_) ?_
              rotate_left 1
              · (try simp only [List.getElem?_toArray, List.getElem?_cons_succ, List.getElem?_cons_zero]); rfl
              rotate_left 1
              · exact AllReadyH.nil
              refine step_append _ rfl (.tmp 33) (.tmp 36) _ rfl Tryz.elemItem wd.heap.size _ 0 [] rfl o2 F _ _ (k) rfl Xlk.out (Xr1.out _ B2) (itCells_one _) (by unfold maxLen; omega) (by omega) (B2).size ?_
              intro A4 c4 w4 own4 hg4 hb4
              rw [Nat.zero_add] at own4 ⊢
              have hg4 : World.grownBy _ w4 (some (wd.heap.size)) := hg4
              have B4 := (B2).grown hg4 (B2).size (fun q hq => (World.ownsRow.lt o2 q hq).1)
              have k4 := k2.grown hg4 (by simp)
              refine hK.out _ _ ?_ (fun hHeld => ?_)
              · exact Xkx.out _ B4
              clear hK K
              try simp only [Act.put, List.setIfInBounds_toArray, List.set_cons_zero, List.set_cons_succ]
              refine wpAnyH_ready (rs := [7]) (by kernel_rfl) (by simp) ?_
              refine AllReadyH.cons (o := ?_) ?_ (fun K hK => ?_) ?_
              rotate_left 1
              · (try simp only [List.getElem?_toArray, List.getElem?_cons_succ, List.getElem?_cons_zero]); rfl
              rotate_left 1
              · exact AllReadyH.nil
              refine step_append _ rfl (.tmp 37) (.tmp 39) _ rfl Tryz.elemItem wd.heap.size _ (k) _ rfl own4 _ _ [I64 x0, I64 x1] 1 rfl rfl (Rd.of_blk (F := fun b => b = wd.heap.size + 1) (us := [I64 x0, I64 x1]) (n := 1) k4 rfl rfl (by decide)) (itCells_one [(x0, x1)]) (by unfold maxLen; omega) (by omega) (B4).size ?_
              intro A6 c6 w6 own6 hg6 hb6
              have B6 := (B4).grown hg6 (B4).size (fun q hq => (World.ownsRow.lt own4 q hq).1)
              refine hK.out _ _ ?_ (fun hHeld => ?_)
              · exact Xkx.out _ B6
              clear hK K
              try simp only [Act.put, List.setIfInBounds_toArray, List.set_cons_zero, List.set_cons_succ]
              refine wpAnyH_ready (rs := [11]) (by kernel_rfl) (by simp) ?_
              refine AllReadyH.cons (o := ?_) ?_ (fun K hK => ?_) ?_
              rotate_left 1
              · (try simp only [List.getElem?_toArray, List.getElem?_cons_succ, List.getElem?_cons_zero]); rfl
              rotate_left 1
              · exact AllReadyH.nil
              refine step_append _ rfl (.tmp 40) (.tmp 43) _ rfl Tryz.elemItem wd.heap.size _ (k + 1) _ rfl own6 F _ _ (0) rfl Xlk2.out (Xr2.out _ B6) (itCells_one _) (by unfold maxLen; omega) (by omega) B6.size ?_
              intro A8 c8 w8 own8 hg8 hb8
              have B8 := B6.grown hg8 B6.size (fun q hq => (World.ownsRow.lt own6 q hq).1)
              refine hK.out _ _ ?_ (fun hHeld => ?_)
              · exact Xkx.out _ B8
              clear hK K
              try simp only [Act.put, List.setIfInBounds_toArray, List.set_cons_zero, List.set_cons_succ]
              refine wpAnyH_take (i := 12) (oi := ?_) (v := ?_) ?_ (by kernel_rfl) (by kernel_rfl) (by kernel_rfl) ?_ (Or.inl ⟨?_, ?_⟩) (by assumption) ?_
              rotate_left 2
              · (try simp only [List.getElem?_toArray, List.getElem?_cons_succ, List.getElem?_cons_zero]); rfl
              · exact fun _ _ _ h => h
              · rfl
              · (intro wS hwS; (try dsimp only at hwS); go_simp; all_goals with_reducible rfl)
              try simp only [Act.put, List.setIfInBounds_toArray, List.set_cons_zero, List.set_cons_succ]
              refine wpAnyH_done (by kernel_rfl) ?_ _
              go_wp2_with fail
              go_ret
              refine ⟨A8, _, c8, rfl, ?_, Xb0.out.trans (B8.mono Xb0.out.size)⟩
              have hcells : ([] ++ itCells (l.take k)) ++ [I64 x0, I64 x1] ++ itCells (l.drop k) = itCells (putI (x0, x1) l) := by rw [Xhres.out, itCells_append]; simp [itCells]
              rw [hcells] at own8
              refine (Rd.of_own own8).mono fun q hq => .inr ⟨Nat.le_trans Xb0.out.size (World.ownsRow.lt own8 q hq).1, (World.ownsRow.lt own8 q hq).2⟩
            · exact AllReadyH.nil
        · refine AllReadyH.cons (o := ?_) ?_ (fun K hK => ?_) ?_
          rotate_left 1
          · (try simp only [List.getElem?_toArray, List.getElem?_cons_succ, List.getElem?_cons_zero]); rfl
          · go_simp
            have B1 : Below wd.heap.size wd (wd.alloc (.cells #[.int .i64 x0, .int .i64 x1] 34)) := (Below.refl _ wd).alloc (Nat.le_refl _) _
            have k1 : Blk (wd.alloc (.cells #[.int .i64 x0, .int .i64 x1] 34)) wd.heap.size 34 #[.int .i64 x0, .int .i64 x1] := Blk.new _ _ _
            refine hK.out _ _ ?_ (fun hHeld => ?_)
            · exact Xkx.out _ B1
            clear hK K
            try simp only [Act.put, List.setIfInBounds_toArray, List.set_cons_zero, List.set_cons_succ]
            refine wpAnyH_ready (rs := [0]) (by kernel_rfl) (by simp) ?_
            refine AllReadyH.cons (o := ?_) ?_ (fun K hK => ?_) ?_
            rotate_left 1
            · (try simp only [List.getElem?_toArray, List.getElem?_cons_succ, List.getElem?_cons_zero]); rfl
            rotate_left 1
            · exact AllReadyH.nil
            go_simp
            have B2 : Below wd.heap.size wd ((wd.alloc (.cells #[.int .i64 x0, .int .i64 x1] 34)).alloc (.cells #[] 34)) := B1.alloc B1.size _
            have o2 : World.ownsRow ((wd.alloc (.cells #[.int .i64 x0, .int .i64 x1] 34)).alloc (.cells #[] 34)) wd.heap.size 34 2 (.slice (some ⟨wd.heap.size + 1, 0, none⟩) 0 0) 0 [] := by
              have := own_empty (wd.alloc (.cells #[.int .i64 x0, .int .i64 x1] 34)) 34 2
              rw [World.size_alloc] at this
              exact ownsRow_base this (fun q hq => by simp [Value.ownBlock] at hq; omega)
            have k2 := k1.alloc (.cells #[] 34)
            refine hK.out _ _ ?_ (fun hHeld => ?_)
            · exact Xkx.out _ B2
            clear hK K
            try simp only [Act.put, List.setIfInBounds_toArray, List.set_cons_zero, List.set_cons_succ]
            refine wpAnyH_ready (rs := [4]) (by kernel_rfl) (by simp) ?_
            refine AllReadyH.cons (o := ?_) ?_ (fun K hK => ?_) ?_
            rotate_left 1
            · (try simp only [List.getElem?_toArray, List.getElem?_cons_succ, List.getElem?_cons_zero]); rfl
            rotate_left 1
            · exact AllReadyH.nil
            refine step_append _ rfl (.tmp 33) (.tmp 36) _ rfl Tryz.elemItem wd.heap.size _ 0 [] rfl o2 F _ _ (k) rfl Xlk.out (Xr1.out _ B2) (itCells_one _) (by unfold maxLen; omega) (by omega) (B2).size ?_
            intro A4 c4 w4 own4 hg4 hb4
            rw [Nat.zero_add] at own4 ⊢
            have hg4 : World.grownBy _ w4 (some (wd.heap.size+1)) := hg4
            have B4 := (B2).grown hg4 (B2).size (fun q hq => (World.ownsRow.lt o2 q hq).1)
            have k4 := k2.grown hg4 (by simp)
            refine hK.out _ _ ?_ (fun hHeld => ?_)
            · exact Xkx.out _ B4
            clear hK K
            try simp only [Act.put, List.setIfInBounds_toArray, List.set_cons_zero, List.set_cons_succ]
            refine wpAnyH_ready (rs := [7]) (by kernel_rfl) (by simp) ?_
            refine AllReadyH.cons (o := ?_) ?_ (fun K hK => ?_) ?_
            rotate_left 1
            · (try simp only [List.getElem?_toArray, List.getElem?_cons_succ, List.getElem?_cons_zero]); rfl
            rotate_left 1
            · exact AllReadyH.nil
            refine step_append _ rfl (.tmp 37) (.tmp 39) _ rfl Tryz.elemItem wd.heap.size _ (k) _ rfl own4 _ _ [I64 x0, I64 x1] 1 rfl rfl (Rd.of_blk (F := fun b => b = wd.heap.size) (us := [I64 x0, I64 x1]) (n := 1) k4 rfl rfl (by decide)) (itCells_one [(x0, x1)]) (by unfold maxLen; omega) (by omega) (B4).size ?_
            intro A6 c6 w6 own6 hg6 hb6
            have B6 := (B4).grown hg6 (B4).size (fun q hq => (World.ownsRow.lt own4 q hq).1)
            refine hK.out _ _ ?_ (fun hHeld => ?_)
            · exact Xkx.out _ B6
            clear hK K
            try simp only [Act.put, List.setIfInBounds_toArray, List.set_cons_zero, List.set_cons_succ]
            refine wpAnyH_ready (rs := [11]) (by kernel_rfl) (by simp) ?_
            refine AllReadyH.cons (o := ?_) ?_ (fun K hK => ?_) ?_
            rotate_left 1
            · (try simp only [List.getElem?_toArray, List.getElem?_cons_succ, List.getElem?_cons_zero]); rfl
            rotate_left 1
            · exact AllReadyH.nil
            refine step_append _ rfl (.tmp 40) (.tmp 43) _ rfl Tryz.elemItem wd.heap.size _ (k + 1) _ rfl own6 F _ _ (0) rfl Xlk2.out (Xr2.out _ B6) (itCells_one _) (by unfold maxLen; omega) (by omega) B6.size ?_
            intro A8 c8 w8 own8 hg8 hb8
            have B8 := B6.grown hg8 B6.size (fun q hq => (World.ownsRow.lt own6 q hq).1)
            refine hK.out _ _ ?_ (fun hHeld => ?_)
            · exact Xkx.out _ B8
            clear hK K
            try simp only [Act.put, List.setIfInBounds_toArray, List.set_cons_zero, List.set_cons_succ]
            refine wpAnyH_take (i := 12) (oi := ?_) (v := ?_) ?_ (by kernel_rfl) (by kernel_rfl) (by kernel_rfl) ?_ (Or.inl ⟨?_, ?_⟩) (by assumption) ?_
            rotate_left 2
            · (try simp only [List.getElem?_toArray, List.getElem?_cons_succ, List.getElem?_cons_zero]); rfl
            · exact fun _ _ _ h => h
            · rfl
            · (intro wS hwS; (try dsimp only at hwS); go_simp; all_goals with_reducible rfl)
            try simp only [Act.put, List.setIfInBounds_toArray, List.set_cons_zero, List.set_cons_succ]
            refine wpAnyH_done (by kernel_rfl) ?_ _
            go_wp2_with fail
            go_ret
            refine ⟨A8, _, c8, rfl, ?_, Xb0.out.trans (B8.mono Xb0.out.size)⟩
            have hcells : ([] ++ itCells (l.take k)) ++ [I64 x0, I64 x1] ++ itCells (l.drop k) = itCells (putI (x0, x1) l) := by rw [Xhres.out, itCells_append]; simp [itCells]
            rw [hcells] at own8
            refine (Rd.of_own own8).mono fun q hq => .inr ⟨Nat.le_trans Xb0.out.size (World.ownsRow.lt own8 q hq).1, (World.ownsRow.lt own8 q hq).2⟩
          · exact AllReadyH.nil
end Go.Proofs.YtlpokomfljmogaaGreat

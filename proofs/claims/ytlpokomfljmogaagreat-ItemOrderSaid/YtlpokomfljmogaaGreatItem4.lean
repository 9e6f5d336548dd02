/- Items: less, Same. -/
import Derived.Test.YtlpokomfljmogaaGreatItem3
namespace Go.Proofs.YtlpokomfljmogaaGreat
set_option linter.unusedVariables false
open Go.RowKit
attribute [local irreducible] wpStill wpOne wpPh

theorem boxes_it {w : World} (a b c d : Int) : ∃ w2, w2 = (w.alloc (.cells #[.int .i64 a, .int .i64 b] 34)).alloc (.cells #[.int .i64 c, .int .i64 d] 34) ∧ Blk w2 w.heap.size 34 #[.int .i64 a, .int .i64 b] ∧ Blk w2 (w.heap.size + 1) 34 #[.int .i64 c, .int .i64 d] ∧ Below w.heap.size w w2 := by
  obtain ⟨w1, hw1⟩ : ∃ w1, w1 = w.alloc (.cells #[.int .i64 a, .int .i64 b] 34) := ⟨_, rfl⟩
  have hs : w1.heap.size = w.heap.size + 1 := by rw [hw1]; simp
  have k1 : Blk w1 w.heap.size 34 #[.int .i64 a, .int .i64 b] := by rw [hw1]; exact Blk.new _ _ _
  have b1 : Below w.heap.size w w1 := by rw [hw1]; exact (Below.refl _ w).alloc (Nat.le_refl _) _
  have b2 : Below w1.heap.size w1 (w1.alloc (.cells #[.int .i64 c, .int .i64 d] 34)) := (Below.refl _ _).alloc (Nat.le_refl _) _
  refine ⟨_, rfl, ?_, ?_, ?_⟩
  · rw [← hw1]; exact k1.below b2 k1.lt
  · rw [← hw1, ← hs]; exact Blk.new _ _ _
  · rw [← hw1]; exact b1.trans (b2.mono b1.size)
set_option maxRecDepth 100000 in
set_option maxHeartbeats 2000000 in
theorem ref12_less (x y : It) (w : World) : Calls Tryz.prog 111 #[ItV x, ItV y] w (Quiet w (.bool (itLt x y))) := by
  obtain ⟨a, b⟩ := x
  obtain ⟨c, d⟩ := y
  have hv : itLt (a, b) (c, d) = (decide (a < c) || (decide (a = c) && decide (b < d))) := rfl
  obtain ⟨w2, hw2, k1, k2, hb2⟩ := boxes_it (w := w) a b c d
  have d0 := (k1.cell 0).trans rfl
  have d1 := (k1.cell 1).trans rfl
  have e0 := (k2.cell 0).trans rfl
  have e1 := (k2.cell 1).trans rfl
  rw [hw2] at d0 d1 e0 e1
  by_cases h1 : a < c
  · have Xhb2 := hide hb2
    have Xhv := hide hv
    clear hb2 hv
    clear k1 k2
    go_enter Tryz.func111, Tryz.ntmps111
    go_wp2_with fail
    go_ret
    rw [← hw2]
    exact ⟨ret_bool (by rw [Xhv.out]; simp; try omega), Xhb2.out⟩
  · by_cases h2 : a = c
    · have h2' : (a == c) = true := by simpa using h2
      by_cases h3 : b < d
      · have Xhb2 := hide hb2
        have Xhv := hide hv
        have Xh2 := hide h2
        clear hb2 hv h2
        clear k1 k2
        go_enter Tryz.func111, Tryz.ntmps111
        go_wp2_with fail
        go_ret
        rw [← hw2]
        exact ⟨ret_bool (by rw [Xhv.out, decide_eq_true Xh2.out, decide_eq_true h3]; simp), Xhb2.out⟩
      · have Xhb2 := hide hb2
        have Xhv := hide hv
        have Xh2 := hide h2
        clear hb2 hv h2
        clear k1 k2
        go_enter Tryz.func111, Tryz.ntmps111
        go_wp2_with fail
        go_ret
        rw [← hw2]
        exact ⟨ret_bool (by rw [Xhv.out, decide_eq_false (show ¬ a < c by omega), decide_eq_false (show ¬ b < d by omega)]; simp), Xhb2.out⟩
    · have h2' : (a == c) = false := by simpa using h2
      have Xhb2 := hide hb2
      have Xhv := hide hv
      have Xh2 := hide h2
      clear hb2 hv h2
      clear k1 k2
      go_enter Tryz.func111, Tryz.ntmps111
      go_wp2_with fail
      go_ret
      rw [← hw2]
      exact ⟨ret_bool (by rw [Xhv.out, decide_eq_false (show ¬ a < c by omega), decide_eq_false Xh2.out]; simp), Xhb2.out⟩

set_option maxRecDepth 100000 in
set_option maxHeartbeats 2000000 in
theorem ref12_Same {w : World} {F G : Nat → Prop} {v u : Value} {xs ys : List It} (h : RdIt w F v xs) (g : RdIt w G u ys) :
    Calls Tryz.prog 23 #[v, u] w (Quiet w (.bool (decide (xs = ys)))) := by
  obtain ⟨A, n, c, rfl, -⟩ := id h
  obtain ⟨B, m, d, rfl, -⟩ := id g
  obtain ⟨hn, hnc, hcm, hcell⟩ := RdIt.at_ h
  obtain ⟨hm, hmd, hdm, hcell'⟩ := RdIt.at_ g
  unfold maxLen at hcm hdm
  clear h g
  by_cases hnm : n = m
  · subst hnm
    have hall : (∀ j : Nat, j < n → xs[j]? = ys[j]?) → xs = ys := fun hh => List.ext_getElem? fun j => by
      by_cases hj : j < n
      · exact hh j hj
      · rw [List.getElem?_eq_none (by omega), List.getElem?_eq_none (by omega)]
    have Xhn := hide hn
    have Xhm := hide hm
    have Xhall := hide hall
    clear hn hm hall
    go_enter Tryz.func23, Tryz.ntmps23
    go_wp2_with fail
    go_loopw [5] (fun i wr => ∃ k q : Nat, k ≤ n ∧ i = .int .i64 k ∧ wr = w.drewN q ∧ ∀ j : Nat, j < k → xs[j]? = ys[j]?) (fun i _ => n - (intOf i).toNat)
    case atStart => exact ⟨0, 0, Nat.zero_le _, rfl, rfl, fun j hj => absurd hj (by omega)⟩
    case round =>
      obtain ⟨k, q, hk, rfl, rfl, hb⟩ := hrel
      by_cases hlt : k < n
      · have hlt' : (k : Int) < (n : Int) := by omega
        obtain ⟨b, off, rfl, -, hc1⟩ := hcell (by omega)
        obtain ⟨b', off', rfl, -, hc2⟩ := hcell' (by omega)
        obtain ⟨⟨x0, x1⟩, hx⟩ : ∃ x, xs[k]? = some x := ⟨_, List.getElem?_eq_getElem (by rw [← Xhn.out]; exact hlt)⟩
        obtain ⟨⟨y0, y1⟩, hy⟩ : ∃ x, ys[k]? = some x := ⟨_, List.getElem?_eq_getElem (by rw [← Xhm.out]; exact hlt)⟩
        obtain ⟨p0, p1⟩ := hc1 k _ hx
        obtain ⟨r0, r1⟩ := hc2 k _ hy
        simp only at p0 p1 r0 r1
        have hne := neq_item x0 x1 y0 y1
        have hgd := fun op p q => guard_item op p q (x0, x1) (y0, y1)
        clear hcell hcell' hc1 hc2
        by_cases he : ((x0, x1) : It) = (y0, y1)
        · rw [decide_eq_true he] at hne
          have hb2 : ∀ j : Nat, j < k + 1 → xs[j]? = ys[j]? := fun j hj => by
            by_cases e : j = k
            · subst e; rw [hx, hy, he]
            · exact hb j (by omega)
          have Xhx := hide hx
          have Xhy := hide hy
          have Xhe := hide he
          have Xhb := hide hb
          have Xhb2 := hide hb2
          clear hx hy he hb hb2
          go_wp2_with fail
          refine region_reads (by kernel_rfl) (by kernel_rfl) ?_
          repeat still_step
          refine wpStill_nil ?_
          go_wp2_with fail
          go_roundw
          case rel => exact ⟨k + 1, q + 1, by omega, by go_num, rfl, Xhb2.out⟩
          case measure => simp [intOf]; omega
        · rw [decide_eq_false he] at hne
          have hfin : ¬ xs = ys := fun e => he (by rw [e, hy] at hx; injection hx with hx; exact hx.symm)
          have Xhx := hide hx
          have Xhy := hide hy
          have Xhe := hide he
          have Xhb := hide hb
          have Xhfin := hide hfin
          clear hx hy he hb hfin
          go_wp2_with fail
          refine region_reads (by kernel_rfl) (by kernel_rfl) ?_
          repeat still_step
          refine wpStill_nil ?_
          go_wp2_with fail
          go_ret
          exact ⟨ret_bool (decide_eq_false Xhfin.out).symm, below_drewN (Below.refl _ w) (q + 1)⟩
      · have hlt' : ¬ (k : Int) < (n : Int) := by omega
        have hfin := Xhall.out fun j hj => hb j (by omega)
        have Xhb := hide hb
        have Xhfin := hide hfin
        clear hb hfin
        clear hcell hcell'
        go_wp2_with fail
        go_ret
        exact ⟨ret_bool (decide_eq_true Xhfin.out).symm, below_drewN (Below.refl _ w) q⟩
  · have hnm' : ((n : Int) != (m : Int)) = true := by simp; omega
    have hfin : ¬ xs = ys := fun e => hnm (by rw [hn, hm, e])
    have Xhn := hide hn
    have Xhm := hide hm
    have Xhfin := hide hfin
    have Xhnm := hide hnm
    clear hn hm hfin hnm
    clear hcell hcell'
    go_enter Tryz.func23, Tryz.ntmps23
    go_wp2_with fail
    go_ret
    exact ⟨ret_bool (decide_eq_false Xhfin.out).symm, Below.refl _ w⟩
end Go.Proofs.YtlpokomfljmogaaGreat

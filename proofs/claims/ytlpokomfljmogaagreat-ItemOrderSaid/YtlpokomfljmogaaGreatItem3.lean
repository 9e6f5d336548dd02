/- Items: Right, Behind, Begin; less, Same. -/
import Derived.Test.YtlpokomfljmogaaGreatItem2
import Derived.Test.YtlpokomfljmogaaGreatReads
import Derived.Laws.StructEq
import Derived.Shelf.SlicesE.Kit
namespace Go.Proofs.YtlpokomfljmogaaGreat
set_option linter.unusedVariables false
open Go.RowKit
attribute [local irreducible] wpStill wpOne wpPh

/-- items are handed back, in memory of the call's own -/
def ItPost (w : World) (l : List It) (e : Ending) (w' : World) : Prop := ∃ A n c, e = .returned (.slice A n c) ∧ RdIt w' (fun b => w.heap.size ≤ b ∧ b < w'.heap.size) (.slice A n c) l ∧ Below w.heap.size w w'
theorem ItPost.nil {w w' : World} (h : Below w.heap.size w w') : ItPost w [] (.returned (.slice none 0 0)) w' := ⟨none, 0, 0, rfl, Rd.nil _ _ _, h⟩

set_option maxRecDepth 100000 in
set_option maxHeartbeats 2000000 in
theorem item_Right {w : World} {F : Nat → Prop} {vt vn vr : Value} {G : GramD} (h : IsGram w F vt vn vr G) (st : Int) (x : It) :
    Calls Tryz.prog 16 #[GV vt vn vr st, ItV x] w (Quiet w (.bool (mayB G st && rightI G st x))) := by
  obtain ⟨A1, c1, A2, c2, A3, c3, rfl, rfl, rfl, -⟩ := h.slices
  obtain ⟨a, d⟩ := x
  obtain ⟨w2, hw2, g2, k2, hb2⟩ := two_boxes h st a d
  have hc := item_may g2.gram st
  have cr := fun wr (g : GBox wr F w.heap.size A1 c1 A2 c2 A3 c3 G.terms.length G.nons.length G.rules.length st G) => item_right g.gram st (a, d)
  obtain ⟨q0, q1, q2, q3⟩ := g2.cells
  generalize mayB G st = mb at *
  generalize rightI G st (a, d) = rt at *
  generalize G.terms.length = T at *
  generalize G.nons.length = N at *
  generalize G.rules.length = R at *
  rw [hw2] at hc q0 q1 q2 q3
  have Xg2 := hide g2
  have Xk2 := hide k2
  have Xhb2 := hide hb2
  have Xhc := hide hc
  have Xh := hide h
  have Xcr := hide cr
  clear g2 k2 hb2 hc h cr
  go_enter Tryz.func16, Tryz.ntmps16
  go_wp2_with fail
  with_reducible refine Xhc.out.mono ?_
  rintro e w3 ⟨rfl, b3⟩
  rw [← hw2] at b3
  have hb3 := Xhb2.out.trans (b3.mono Xhb2.out.size)
  have k3 := Xk2.out.below b3 Xk2.out.lt
  have g3 := Xg2.out.below b3
  have d0 := (k3.cell 0).trans rfl
  have d1 := (k3.cell 1).trans rfl
  have hc3 := Xcr.out _ g3
  clear hw2 q0 q1 q2 q3 Xhc Xg2 Xk2 Xhb2 Xcr b3
  obtain ⟨q0, q1, q2, q3⟩ := g3.cells
  cases mb with
  | false =>
    have Xhb3 := hide hb3
    have Xk3 := hide k3
    have Xg3 := hide g3
    have Xhc3 := hide hc3
    clear hb3 k3 g3 hc3
    go_wp2_with fail
    go_ret
    exact ⟨rfl, Xhb3.out⟩
  | true =>
    have Xhb3 := hide hb3
    have Xk3 := hide k3
    have Xg3 := hide g3
    have Xhc3 := hide hc3
    clear hb3 k3 g3 hc3
    go_wp2_with fail
    with_reducible refine Xhc3.out.mono ?_
    rintro e w4 ⟨rfl, b4⟩
    have hb4 := Xhb3.out.trans (b4.mono Xhb3.out.size)
    clear b4 Xhb3 Xk3 Xg3 Xhc3 q0 q1 q2 q3 d0 d1
    have Xhb4 := hide hb4
    clear hb4
    go_wp2_with fail
    go_ret
    exact ⟨by cases rt <;> rfl, Xhb4.out⟩
set_option maxRecDepth 100000 in
set_option maxHeartbeats 2000000 in
theorem item_Behind {w : World} {F : Nat → Prop} {vt vn vr : Value} {G : GramD} (h : IsGram w F vt vn vr G) (st : Int) (x : It) :
    Calls Tryz.prog 15 #[GV vt vn vr st, ItV x] w (BehindPost w (if mayB G st = true then behindI G st x else (0, false))) := by
  obtain ⟨A1, c1, A2, c2, A3, c3, rfl, rfl, rfl, -⟩ := h.slices
  obtain ⟨a, d⟩ := x
  obtain ⟨w2, hw2, g2, k2, hb2⟩ := two_boxes h st a d
  have hc := item_may g2.gram st
  have cr := fun wr (g : GBox wr F w.heap.size A1 c1 A2 c2 A3 c3 G.terms.length G.nons.length G.rules.length st G) => item_behind g.gram st (a, d)
  obtain ⟨q0, q1, q2, q3⟩ := g2.cells
  generalize mayB G st = mb at *
  generalize behindI G st (a, d) = rt at *
  obtain ⟨s, bb⟩ := rt
  generalize G.terms.length = T at *
  generalize G.nons.length = N at *
  generalize G.rules.length = R at *
  obtain ⟨rs, hrs⟩ : ∃ r, r = (if mb = true then (s, bb) else (0, false)) := ⟨_, rfl⟩
  rw [← hrs]
  rw [hw2] at hc q0 q1 q2 q3
  have Xg2 := hide g2
  have Xk2 := hide k2
  have Xhb2 := hide hb2
  have Xhc := hide hc
  have Xh := hide h
  have Xcr := hide cr
  have Xhrs := hide hrs
  clear g2 k2 hb2 hc h cr hrs
  go_enter Tryz.func15, Tryz.ntmps15
  go_wp2_with fail
  with_reducible refine Xhc.out.mono ?_
  rintro e w3 ⟨rfl, b3⟩
  rw [← hw2] at b3
  have hb3 := Xhb2.out.trans (b3.mono Xhb2.out.size)
  have k3 := Xk2.out.below b3 Xk2.out.lt
  have g3 := Xg2.out.below b3
  have d0 := (k3.cell 0).trans rfl
  have d1 := (k3.cell 1).trans rfl
  have hc3 := Xcr.out _ g3
  clear hw2 q0 q1 q2 q3 Xhc Xg2 Xk2 Xhb2 Xcr b3
  obtain ⟨q0, q1, q2, q3⟩ := g3.cells
  cases mb with
  | false =>
    have Xhb3 := hide hb3
    have Xk3 := hide k3
    have Xg3 := hide g3
    have Xhc3 := hide hc3
    clear hb3 k3 g3 hc3
    go_wp2_with fail
    go_ret2
    exact ⟨by rw [Xhrs.out]; rfl, Xhb3.out⟩
  | true =>
    have Xhb3 := hide hb3
    have Xk3 := hide k3
    have Xg3 := hide g3
    have Xhc3 := hide hc3
    clear hb3 k3 g3 hc3
    go_wp2_with fail
    with_reducible refine Xhc3.out.mono ?_
    rintro e w4 ⟨rfl, b4⟩
    have hb4 := Xhb3.out.trans (b4.mono Xhb3.out.size)
    clear b4 Xhb3 Xk3 Xg3 Xhc3 q0 q1 q2 q3 d0 d1
    have Xhb4 := hide hb4
    clear hb4
    go_wp2_with fail
    go_ret2
    exact ⟨by rw [Xhrs.out]; rfl, Xhb4.out⟩
set_option maxRecDepth 100000 in
set_option maxHeartbeats 2000000 in
theorem item_Begin {w : World} {F : Nat → Prop} {vt vn vr : Value} {G : GramD} (h : IsGram w F vt vn vr G) (st : Int) :
    Calls Tryz.prog 17 #[GV vt vn vr st] w (ItPost w (if mayB G st = true then [((G.rules.length : Int), 0)] else [])) := by
  obtain ⟨A1, c1, A2, c2, A3, c3, rfl, rfl, rfl, -⟩ := h.slices
  obtain ⟨w1, hw1⟩ : ∃ w1, w1 = w.alloc (.cells #[.slice A1 G.terms.length c1, .slice A2 G.nons.length c2, .slice A3 G.rules.length c3, .int .i64 st] 25) := ⟨_, rfl⟩
  have g1 := GBox.new h st
  have b1 : Below w.heap.size w w1 := by rw [hw1]; exact (Below.refl _ w).alloc (Nat.le_refl _) _
  rw [← hw1] at g1
  have hc := item_may g1.gram st
  obtain ⟨q0, q1, q2, q3⟩ := g1.cells
  generalize mayB G st = mb at *
  generalize G.terms.length = T at *
  generalize G.nons.length = N at *
  generalize G.rules.length = R at *
  obtain ⟨rs, hrs⟩ : ∃ r, r = (if mb = true then [((R : Int), (0 : Int))] else []) := ⟨_, rfl⟩
  rw [← hrs]
  rw [hw1] at hc q0 q1 q2 q3
  have Xhc := hide hc
  have Xb1 := hide b1
  have Xg1 := hide g1
  have Xh := hide h
  have Xhrs := hide hrs
  clear hc b1 g1 h hrs
  go_enter Tryz.func17, Tryz.ntmps17
  go_wp2_with fail
  with_reducible refine Xhc.out.mono ?_
  rintro e w2 ⟨rfl, b2⟩
  rw [← hw1] at b2
  have g2 := Xg1.out.below b2
  have hb2 := Xb1.out.trans (b2.mono Xb1.out.size)
  clear hw1 q0 q1 q2 q3 Xhc Xb1 Xg1 b2
  obtain ⟨q0, q1, q2, q3⟩ := g2.cells
  cases mb with
  | false =>
    have Xhb2 := hide hb2
    have Xg2 := hide g2
    clear hb2 g2
    go_wp2_with fail
    go_ret
    rw [Xhrs.out]
    exact ItPost.nil Xhb2.out
  | true =>
    have Xhb2 := hide hb2
    have Xg2 := hide g2
    clear hb2 g2
    go_wp2_with fail
    go_ret
    rw [Xhrs.out]
    exact ⟨_, _, _, rfl, Rd.mono (RdIt.one (w := w2) (e := 34) ((R : Int), 0)) (fun b e => by rw [e]; exact ⟨Xhb2.out.size, by simp⟩), Xhb2.out.alloc Xhb2.out.size _⟩
set_option maxRecDepth 100000 in
set_option maxHeartbeats 2000000 in
theorem ref12_Begin {w : World} {F : Nat → Prop} {vt vn vr : Value} {G : GramD} (h : IsGram w F vt vn vr G) (st : Int) :
    Calls Tryz.prog 24 #[GV vt vn vr st] w (ItPost w [((G.rules.length : Int), 0)]) := by
  obtain ⟨A1, c1, A2, c2, A3, c3, rfl, rfl, rfl, -⟩ := h.slices
  obtain ⟨w1, hw1⟩ : ∃ w1, w1 = w.alloc (.cells #[.slice A1 G.terms.length c1, .slice A2 G.nons.length c2, .slice A3 G.rules.length c3, .int .i64 st] 25) := ⟨_, rfl⟩
  have g1 := GBox.new h st
  have b1 : Below w.heap.size w w1 := by rw [hw1]; exact (Below.refl _ w).alloc (Nat.le_refl _) _
  rw [← hw1] at g1
  obtain ⟨q0, q1, q2, q3⟩ := g1.cells
  generalize G.terms.length = T at *
  generalize G.nons.length = N at *
  generalize G.rules.length = R at *
  rw [hw1] at q0 q1 q2 q3
  have Xb1 := hide b1
  have Xg1 := hide g1
  have Xh := hide h
  clear b1 g1 h
  go_enter Tryz.func24, Tryz.ntmps24
  go_wp2_with fail
  go_ret
  rw [← hw1]
  have hs : w.heap.size + 1 = w1.heap.size := by rw [hw1]; simp
  rw [hs]
  exact ⟨_, _, _, rfl, Rd.mono (RdIt.one (w := w1) (e := 34) ((R : Int), 0)) (fun b e => by rw [e]; exact ⟨Xb1.out.size, by simp⟩), Xb1.out.alloc Xb1.out.size _⟩

/-! ### items compared -/
theorem Tryz.fieldsItem : Tryz.prog.underlying 34 = some (.struct (Tryz.prog.fieldsOf 34)) := by kernel_rfl
theorem Tryz.stoodItem : Tryz.prog.stoodInHeld 34 = false := by kernel_rfl
theorem Tryz.guardItem : Tryz.prog.eqGuardType Tryz.prog.depth 34 = false := by kernel_rfl
theorem eql_item (a b c d : Int) (w : World) : Sem.run Tryz.prog (binOp .eql 34 (.agg #[.int .i64 a, .int .i64 b]) (.agg #[.int .i64 c, .int .i64 d])) w = .ok (.bool (decide (((a, b) : It) = (c, d)))) w := by
  have u3 := Tryz.underlying3
  have hS := Tryz.fieldsItem
  have hp := Tryz.stoodItem
  rw [run_eql_struct, show (10000 : Nat) = 9999 + 1 from rfl, run_equalIn_agg w 9999 34 _ _ hS hp]
  simp only [Program.fieldsOf, Tryz.underlying34]
  have a3 := Tryz.isAgg3
  have z3 := Tryz.sizeOf3
  go_simp
  by_cases h1 : a = c <;> by_cases h2 : b = d <;> simp [h1, h2]
theorem neq_item (a b c d : Int) (w : World) : Sem.run Tryz.prog (binOp .neq 34 (.agg #[.int .i64 a, .int .i64 b]) (.agg #[.int .i64 c, .int .i64 d])) w = .ok (.bool (!decide (((a, b) : It) = (c, d)))) w := by
  have h := eql_item a b c d w
  rw [run_eql_struct] at h
  rw [run_neq_struct]
  generalize Sem.run Tryz.prog (Op.equalIn 10000 34 (.agg #[.int .i64 a, .int .i64 b]) (.agg #[.int .i64 c, .int .i64 d])) w = r at h ⊢
  cases r <;> simp_all [Result.andThen]
theorem guard_item (op : BinOp) (p q : Operand) (x y : It) (w : World) : (eqGuard op 34 p q (ItV x) (ItV y)).run Tryz.prog w = .ok () w := run_eqGuard_agg w op 34 p q _ _ Tryz.guardItem
end Go.Proofs.YtlpokomfljmogaaGreat

/- first.Sets: Empty, First, Follow, Line. -/
import Derived.Test.YtejjaabkbkkjlaaFirst4
import Derived.Test.YtejjaabkbkkjlaaLive5
namespace Go.Proofs.Ytejjaabkbkkjlaa
set_option linter.unusedVariables false
open Go.RowKit
attribute [local irreducible] wpStill wpOne wpPh

/-- the list of a family's set -/
def famL (n M : Nat) (F : Nat → Nat → Bool) (x : Int) : List Int := if 0 ≤ x ∧ x < n then (below (F x.toNat) M).map (fun n : Nat => (n : Int)) else []
theorem IntsPost.of_list {w w0 w' : World} {l : List Nat} {e : Ending} (h : ListPost w0 l e w') (hb : Below w.heap.size w w0) : IntsPost w (l.map (fun n : Nat => (n : Int))) e w' := by
  obtain ⟨A, c, rfl, ho, b⟩ := h
  exact IntsPost.of_own ho hb b
theorem IntsPost.nil {w w' : World} (hb : Below w.heap.size w w') : IntsPost w [] (.returned (.slice none 0 0)) w' := ⟨none, 0, 0, rfl, Rd.nil _ _ _, hb⟩

theorem first_empty_nil (x : Int) (w : World) : Calls Try.prog 64 #[.pointer none, .int .i64 x] w (Quiet w (.bool false)) := by
  go_enter Try.func64, Try.ntmps64
  go_wp2_with fail
  go_ret
  exact ⟨rfl, Below.refl _ _⟩
theorem first_empty {w : World} {q : FD} {e : Nat → Bool} {bg bh : Nat → Nat → Bool} (h : FSets w q e bg bh) (x : Int) : Calls Try.prog 64 #[PtrV q.s, .int .i64 x] w (Quiet w (.bool (hasI q.n e x))) := by
  have s2 := h.cells.2.2.1
  have ch := set_has h.em x
  have Xch := hide ch
  clear ch
  clear h
  go_enter Try.func64, Try.ntmps64
  go_wp2_with fail
  with_reducible refine Xch.out.mono ?_
  rintro ee w2 ⟨rfl, rfl⟩
  go_wp2_with fail
  go_ret
  exact ⟨rfl, Below.refl _ _⟩
theorem first_first_nil (x : Int) (w : World) : Calls Try.prog 66 #[.pointer none, .int .i64 x] w (IntsPost w []) := by
  go_enter Try.func66, Try.ntmps66
  go_wp2_with fail
  go_ret
  exact IntsPost.nil (Below.refl _ _)
theorem first_follow_nil (x : Int) (w : World) : Calls Try.prog 68 #[.pointer none, .int .i64 x] w (IntsPost w []) := by
  go_enter Try.func68, Try.ntmps68
  go_wp2_with fail
  go_ret
  exact IntsPost.nil (Below.refl _ _)
theorem first_line_nil (v : Value) (w : World) : Calls Try.prog 70 #[.pointer none, v] w fun e w' => e = .returned (.tuple #[.slice none 0 0, .bool false]) ∧ Below w.heap.size w w' := by
  go_enter Try.func70, Try.ntmps70
  go_wp2_with fail
  go_ret2
  exact ⟨rfl, Below.refl _ _⟩

set_option maxRecDepth 100000 in
set_option maxHeartbeats 2000000 in
theorem first_first {w : World} {q : FD} {e : Nat → Bool} {bg bh : Nat → Nat → Bool} (h : FSets w q e bg bh) (x : Int) : Calls Try.prog 66 #[PtrV q.s, .int .i64 x] w (IntsPost w (famL q.n (q.T + 1) bg x)) := by
  have hnp := h.np
  obtain ⟨s0, s1, s2, s3, s4⟩ := h.cells
  have Xh := hide h
  have Xhnp := hide hnp
  clear h hnp
  go_enter Try.func66, Try.ntmps66
  go_wp2_with fail
  refine (sizes_symbol q.T q.p x w).mono ?_
  rintro ee w2 ⟨rfl, b2⟩
  have h := Xh.out
  clear s0 s1 s2 s3 s4
  by_cases hin : 0 ≤ x ∧ x ≤ (q.p : Int)
  · have hsy : (decide (0 ≤ x) && decide (x ≤ (q.p : Int))) = true := by rw [decide_eq_true hin.1, decide_eq_true hin.2]; rfl
    rw [hsy]
    obtain ⟨i, rfl⟩ := Int.eq_ofNat_of_zero_le hin.1
    have hi : i < q.n := by have := Xhnp.out; omega
    have hi2 : (i : Int) < (q.n : Int) := by omega
    have hyes : famL q.n (q.T + 1) bg (i : Int) = (below (bg i) (q.T + 1)).map (fun n : Nat => (n : Int)) := by unfold famL; rw [if_pos ⟨by omega, hi2⟩, Int.toNat_natCast]
    have f2 := h.below b2
    have hp := f2.bgn.cell i hi
    have cl := set_list (f2.bgn.set i hi)
    obtain ⟨s0, s1, s2, s3, s4⟩ := f2.cells
    have fin : ∀ e w', ListPost w2 (below (bg i) (q.T + 1)) e w' → IntsPost w (famL q.n (q.T + 1) bg (i : Int)) e w' := fun e w' hl => by rw [hyes]; exact IntsPost.of_list hl b2
    have hcap := h.cap
    obtain ⟨⟨c1, c2⟩, c3, c4⟩ := hcap
    clear b2 f2
    have Xcl := hide cl
    have Xfin := hide fin
    have Xhyes := hide hyes
    clear cl fin hyes
    go_wp2_with fail
    refine Xcl.out.mono ?_
    rintro ee w3 hl
    have hl2 := Xfin.out _ _ hl
    obtain ⟨A, c, rfl, -, -⟩ := id hl
    clear hl
    have Xhl2 := hide hl2
    clear hl2
    go_wp2_with fail
    go_ret
    exact Xhl2.out
  · have hsy : (decide (0 ≤ x) && decide (x ≤ (q.p : Int))) = false := by
      rw [Bool.and_eq_false_iff, decide_eq_false_iff_not, decide_eq_false_iff_not]; omega
    rw [hsy]
    have hno : famL q.n (q.T + 1) bg x = [] := by unfold famL; rw [if_neg]; have := Xhnp.out; omega
    have Xhno := hide hno
    clear hno
    have fin : IntsPost w (famL q.n (q.T + 1) bg x) (.returned (.slice none 0 0)) w2 := by rw [Xhno.out]; exact IntsPost.nil b2
    have Xfin := hide fin
    clear fin
    go_wp2_with fail
    go_ret
    exact Xfin.out
/-- what stands behind, a nonterminal's -/
def folL (T p n : Nat) (F : Nat → Nat → Bool) (x : Int) : List Int := if nonB T p x then (below (F x.toNat) (T + 1)).map (fun n : Nat => (n : Int)) else []
set_option maxRecDepth 100000 in
set_option maxHeartbeats 2000000 in
theorem first_follow {w : World} {q : FD} {e : Nat → Bool} {bg bh : Nat → Nat → Bool} (h : FSets w q e bg bh) (x : Int) : Calls Try.prog 68 #[PtrV q.s, .int .i64 x] w (IntsPost w (folL q.T q.p q.n bh x)) := by
  have hnp := h.np
  obtain ⟨s0, s1, s2, s3, s4⟩ := h.cells
  have Xh := hide h
  have Xhnp := hide hnp
  clear h hnp
  go_enter Try.func68, Try.ntmps68
  go_wp2_with fail
  refine (sizes_non q.T q.p x w).mono ?_
  rintro ee w2 ⟨rfl, b2⟩
  have h := Xh.out
  clear s0 s1 s2 s3 s4
  cases hin : nonB q.T q.p x with
  | true =>
    have hsy := hin
    unfold nonB at hsy
    rw [hsy]
    simp only [Bool.and_eq_true, decide_eq_true_eq] at hsy
    obtain ⟨i, rfl⟩ := Int.eq_ofNat_of_zero_le (show 0 ≤ x by omega)
    have hi : i < q.n := by have := Xhnp.out; omega
    have hi2 : (i : Int) < (q.n : Int) := by omega
    have hyes : folL q.T q.p q.n bh (i : Int) = (below (bh i) (q.T + 1)).map (fun n : Nat => (n : Int)) := by unfold folL; rw [if_pos hin, Int.toNat_natCast]
    clear hin hsy
    have f2 := h.below b2
    have hp := f2.bhd.cell i hi
    have cl := set_list (f2.bhd.set i hi)
    obtain ⟨s0, s1, s2, s3, s4⟩ := f2.cells
    have fin : ∀ e w', ListPost w2 (below (bh i) (q.T + 1)) e w' → IntsPost w (folL q.T q.p q.n bh (i : Int)) e w' := fun e w' hl => by rw [hyes]; exact IntsPost.of_list hl b2
    have hcap := h.cap
    obtain ⟨⟨c1, c2⟩, c3, c4⟩ := hcap
    clear b2 f2
    have Xcl := hide cl
    have Xfin := hide fin
    have Xhyes := hide hyes
    clear cl fin hyes
    go_wp2_with fail
    refine Xcl.out.mono ?_
    rintro ee w3 hl
    have hl2 := Xfin.out _ _ hl
    obtain ⟨A, c, rfl, -, -⟩ := id hl
    clear hl
    have Xhl2 := hide hl2
    clear hl2
    go_wp2_with fail
    go_ret
    exact Xhl2.out
  | false =>
    have hsy := hin
    unfold nonB at hsy
    rw [hsy]
    have hno : folL q.T q.p q.n bh x = [] := by unfold folL; rw [hin]; rfl
    clear hin
    have Xhno := hide hno
    clear hno
    have fin : IntsPost w (folL q.T q.p q.n bh x) (.returned (.slice none 0 0)) w2 := by rw [Xhno.out]; exact IntsPost.nil b2
    have Xfin := hide fin
    clear fin
    go_wp2_with fail
    go_ret
    exact Xfin.out
/-- a line's answer -/
def lineL (M : Nat) (e : Int → Bool) (b : Int → Nat → Bool) (l : List Int) : List Int := (below (lineB e b l) M).map (fun n : Nat => (n : Int))
def TwoPost (w : World) (l : List Int) (b : Bool) (e : Ending) (w' : World) : Prop := ∃ A n c, e = .returned (.tuple #[.slice A n c, .bool b]) ∧ RdI w' (fun k => w.heap.size ≤ k ∧ k < w'.heap.size) (.slice A n c) l ∧ Below w.heap.size w w'
set_option maxRecDepth 100000 in
set_option maxHeartbeats 2000000 in
theorem first_Line {w : World} {q : FD} {e : Nat → Bool} {bg bh : Nat → Nat → Bool} (h : FSets w q e bg bh) {F : Nat → Prop} {v : Value} {l : List Int} (hl : RdI w F v l) (hF : ∀ k, F k → k < w.heap.size) :
    Calls Try.prog 70 #[PtrV q.s, v] w (TwoPost w (lineL (q.T + 1) (hasI q.n e) (famI q.n bg) l) (l.all (hasI q.n e))) := by
  obtain ⟨A, m, c, rfl, -⟩ := id hl
  have cn := set_new ((q.T : Int) + 1) w
  have hsz := h.sz
  have hw1 : IntKind.i64.wrap ((q.T : Int) + 1) = (q.T : Int) + 1 := by rw [IntKind.wrap_i64]; omega
  rw [show (min (max ((q.T : Int) + 1) 0) 4096).toNat = q.T + 1 by omega] at cn
  obtain ⟨s0, s1, s2, s3, s4⟩ := h.cells
  have hbl := h.blk.lt
  have hT0 : (0 : Int) ≤ (q.T : Int) := by omega
  have hT1 : (q.T : Int) ≤ 4096 := by omega
  clear hsz
  have Xh := hide h
  have Xcn := hide cn
  have Xhl := hide hl
  have XhF := hide hF
  clear h cn hl hF
  go_enter Try.func70, Try.ntmps70
  go_wp2_with fail
  refine Xcn.out.mono ?_
  rintro ee w2 ⟨rfl, hs2, b2⟩
  have h2 := Xh.out.below b2
  have hN : ∀ k, New (fun _ => False) w w2 k → w.heap.size ≤ k ∧ k < w2.heap.size := fun k hk => by
    rcases hk with hk | hk
    · exact hk.elim
    · exact hk
  have cl := first_line (FSets.relN q e bg bh (b := w.heap.size + 1) (S := New (fun _ => False) w w2) (fun k hk => by have := hN k hk; omega) ⟨_, h2⟩) (rel_al q.n bg noBits) (f0 := noBits) ⟨h2, hs2⟩ (Xhl.out.below b2 XhF.out) (fun k hk hk' => by have := XhF.out k hk; have := hN k hk'; omega)
  obtain ⟨f, hf⟩ : ∃ f, f = joinL noBits (hasI q.n e) (famI q.n bg) l := ⟨_, rfl⟩
  have hff : f = lineB (hasI q.n e) (famI q.n bg) l := by rw [hf]; funext t; simp [joinL, noBits]
  rw [← hf] at cl
  unfold FLinePost at cl
  clear s0 s1 s2 s3 s4
  have Xcl := hide cl
  have Xhf := hide hf
  have Xhff := hide hff
  have Xh2 := hide h2
  have Xhs2 := hide hs2
  have Xb2 := hide b2
  have XhN := hide hN
  clear cl hf hff h2 hs2 b2 hN
  go_wp2_with fail
  with_reducible refine Xcl.out.mono ?_
  rintro ee w3 ⟨rfl, hR, t3⟩
  obtain ⟨h3, hs3⟩ := id hR
  have b3 : Below w.heap.size w w3 := Xb2.out.trans (t3.below (fun k hk _ hk' => by have := XhN.out k hk'; omega) Xb2.out.size)
  have cs := set_list hs3
  rw [Xhff.out] at cs
  clear hR t3 h3 Xcl Xhf Xhff Xh2 Xhs2 Xb2 XhN hs3
  generalize hal : l.all (hasI q.n e) = al at *
  generalize moreB (q.T + 1) noBits f = mo at *
  have Xcs := hide cs
  have Xb3 := hide b3
  have Xhal := hide hal
  clear cs b3 hal
  go_wp2_with fail
  refine Xcs.out.mono ?_
  rintro ee w4 ⟨A4, c4, rfl, ho, b4⟩
  have fin : TwoPost w (lineL (q.T + 1) (hasI q.n e) (famI q.n bg) l) al (.returned (.tuple #[.slice A4 (below (lineB (hasI q.n e) (famI q.n bg) l) (q.T + 1)).length c4, .bool al])) w4 := by
    obtain ⟨A5, n5, c5, e5, r5, b5⟩ := IntsPost.of_own ho Xb3.out b4
    injection e5 with e5
    rw [← e5] at r5
    exact ⟨_, _, _, rfl, r5, b5⟩
  generalize (below (lineB (hasI q.n e) (famI q.n bg) l) (q.T + 1)).length = n4 at *
  clear ho b4
  have Xfin := hide fin
  clear fin
  go_wp2_with fail
  go_ret2
  exact Xfin.out
end Go.Proofs.Ytejjaabkbkkjlaa

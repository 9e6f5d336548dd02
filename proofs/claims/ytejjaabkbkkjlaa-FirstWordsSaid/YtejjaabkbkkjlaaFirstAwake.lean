/- conchref11.Sets: Empty, First, Follow, Line; the program computes at all: conchlaw11.awake. -/
import Derived.Test.YtejjaabkbkkjlaaFirstR4
import Derived.Test.YtejjaabkbkkjlaaFirst5
import Derived.Test.YtejjaabkbkkjlaaGramAwake
namespace Go.Proofs.Ytejjaabkbkkjlaa
set_option linter.unusedVariables false
open Go.RowKit
attribute [local irreducible] wpStill wpOne wpPh

/-! ### the reference's readers -/
theorem ref11_empty_nil (x : Int) (w : World) : Calls Try.prog 65 #[.pointer none, .int .i64 x] w (Quiet w (.bool false)) := by
  go_enter Try.func65, Try.ntmps65
  go_wp2_with fail
  refine (ref11_in_nil x w).mono ?_
  rintro ee w2 ⟨rfl, rfl⟩
  go_wp2_with fail
  go_ret
  exact ⟨rfl, Below.refl _ _⟩
theorem ref11_first_nil (x : Int) (w : World) : Calls Try.prog 67 #[.pointer none, .int .i64 x] w (IntsPost w []) := by
  go_enter Try.func67, Try.ntmps67
  go_wp2_with fail
  refine (ref11_in_nil x w).mono ?_
  rintro ee w2 ⟨rfl, rfl⟩
  go_wp2_with fail
  go_ret
  exact IntsPost.nil (Below.refl _ _)
theorem ref11_follow_nil (x : Int) (w : World) : Calls Try.prog 69 #[.pointer none, .int .i64 x] w (IntsPost w []) := by
  go_enter Try.func69, Try.ntmps69
  go_wp2_with fail
  refine (ref11_in_nil x w).mono ?_
  rintro ee w2 ⟨rfl, rfl⟩
  go_wp2_with fail
  go_ret
  exact IntsPost.nil (Below.refl _ _)
theorem ref11_line_nil (v : Value) (w : World) : Calls Try.prog 71 #[.pointer none, v] w fun e w' => e = .returned (.tuple #[.slice none 0 0, .bool false]) ∧ Below w.heap.size w w' := by
  go_enter Try.func71, Try.ntmps71
  go_wp2_with fail
  go_ret2
  exact ⟨rfl, Below.refl _ _⟩

set_option maxRecDepth 100000 in
set_option maxHeartbeats 2000000 in
theorem ref11_empty {w : World} {q : RD} {G : GramD} {e : Nat → Bool} {bg bh : Nat → Nat → Bool} (h : RSets w q G e bg bh) (x : Int) : Calls Try.prog 65 #[PtrV q.s, .int .i64 x] w (Quiet w (.bool (hasI q.n e x))) := by
  have ci := ref11_in h x
  have s4 := h.cells.2.1
  by_cases hin : 0 ≤ x ∧ x < (q.n : Int)
  · have hsy : (decide (0 ≤ x) && decide (x < (q.n : Int))) = true := by rw [decide_eq_true hin.1, decide_eq_true hin.2]; rfl
    rw [hsy] at ci
    obtain ⟨i, rfl⟩ := Int.eq_ofNat_of_zero_le hin.1
    have hi2 := hin.2
    have hi : i < q.n := by omega
    have he := h.can.cell hi
    have hh : hasI q.n e (i : Int) = e i := hasI_nat hi
    have hn4 : (q.n : Int) ≤ 9223372036854775807 := by have := h.sz.1; omega
    clear h hsy hin
    have Xci := hide ci
    have Xhh := hide hh
    clear ci hh
    go_enter Try.func65, Try.ntmps65
    go_wp2_with fail
    refine Xci.out.mono ?_
    rintro ee w2 ⟨rfl, rfl⟩
    go_wp2_with fail
    go_ret
    exact ⟨ret_bool Xhh.out.symm, Below.refl _ _⟩
  · have hsy : (decide (0 ≤ x) && decide (x < (q.n : Int))) = false := by
      rw [Bool.and_eq_false_iff, decide_eq_false_iff_not, decide_eq_false_iff_not]; omega
    rw [hsy] at ci
    have hh : hasI q.n e x = false := hasI_no (by omega)
    clear h hsy hin
    have Xci := hide ci
    have Xhh := hide hh
    clear ci hh
    go_enter Try.func65, Try.ntmps65
    go_wp2_with fail
    refine Xci.out.mono ?_
    rintro ee w2 ⟨rfl, rfl⟩
    go_wp2_with fail
    go_ret
    exact ⟨ret_bool Xhh.out.symm, Below.refl _ _⟩

set_option maxRecDepth 100000 in
set_option maxHeartbeats 2000000 in
theorem ref11_first {w : World} {q : RD} {G : GramD} {e : Nat → Bool} {bg bh : Nat → Nat → Bool} (h : RSets w q G e bg bh) (x : Int) : Calls Try.prog 67 #[PtrV q.s, .int .i64 x] w (IntsPost w (famL q.n q.m bg x)) := by
  have ci := ref11_in h x
  by_cases hin : 0 ≤ x ∧ x < (q.n : Int)
  · have hsy : (decide (0 ≤ x) && decide (x < (q.n : Int))) = true := by rw [decide_eq_true hin.1, decide_eq_true hin.2]; rfl
    rw [hsy] at ci
    obtain ⟨i, rfl⟩ := Int.eq_ofNat_of_zero_le hin.1
    have hi2 := hin.2
    have hi : i < q.n := by omega
    have hyes : famL q.n q.m bg (i : Int) = (below (bg i) q.m).map (fun n : Nat => (n : Int)) := by unfold famL; rw [if_pos ⟨by omega, hi2⟩, Int.toNat_natCast]
    clear hsy hin
    have Xci := hide ci
    have Xh := hide h
    clear ci h
    go_enter Try.func67, Try.ntmps67
    go_wp2_with fail
    refine Xci.out.mono ?_
    rintro ee w2 ⟨rfl, rfl⟩
    have h := Xh.out
    obtain ⟨-, s4, s5, s6⟩ := h.cells
    have hp := h.bgn.cell i hi
    have cl := ref11_list (h.bgn.set i hi) h.sz.2.1
    obtain ⟨⟨⟨d1, d2⟩, d3, d4⟩, -⟩ := h.cap
    clear h
    have Xcl := hide cl
    have Xhyes := hide hyes
    clear cl hyes
    go_wp2_with fail
    refine Xcl.out.mono ?_
    rintro ee w3 hl
    have hl2 := IntsPost.of_list hl (Below.refl _ _)
    rw [← Xhyes.out] at hl2
    obtain ⟨A, c, rfl, -, -⟩ := id hl
    clear hl
    have Xhl2 := hide hl2
    clear hl2
    go_wp2_with fail
    go_ret
    exact Xhl2.out
  · have hsy : (decide (0 ≤ x) && decide (x < (q.n : Int))) = false := by
      rw [Bool.and_eq_false_iff, decide_eq_false_iff_not, decide_eq_false_iff_not]; omega
    rw [hsy] at ci
    have hno : famL q.n q.m bg x = [] := by unfold famL; rw [if_neg hin]
    have fin : IntsPost w (famL q.n q.m bg x) (.returned (.slice none 0 0)) w := by rw [hno]; exact IntsPost.nil (Below.refl _ _)
    clear h hsy hin
    have Xci := hide ci
    have Xhno := hide hno
    have Xfin := hide fin
    clear ci hno fin
    go_enter Try.func67, Try.ntmps67
    go_wp2_with fail
    refine Xci.out.mono ?_
    rintro ee w2 ⟨rfl, rfl⟩
    go_wp2_with fail
    go_ret
    exact Xfin.out
set_option maxRecDepth 100000 in
set_option maxHeartbeats 2000000 in
theorem ref11_follow {w : World} {q : RD} {G : GramD} {e : Nat → Bool} {bg bh : Nat → Nat → Bool} (h : RSets w q G e bg bh) (x : Int) : Calls Try.prog 69 #[PtrV q.s, .int .i64 x] w (IntsPost w (folL q.T (topOf G) q.n bh x)) := by
  have ci := ref11_in h x
  have cn := ref_non h.gram q.st x
  have hnb : nonB q.T (topOf G) x = isNon G x := by rw [h.nG.2]; rfl
  rw [← hnb] at cn
  by_cases hin : 0 ≤ x ∧ x < (q.n : Int)
  · have hsy : (decide (0 ≤ x) && decide (x < (q.n : Int))) = true := by rw [decide_eq_true hin.1, decide_eq_true hin.2]; rfl
    rw [hsy] at ci
    obtain ⟨i, rfl⟩ := Int.eq_ofNat_of_zero_le hin.1
    have hi2 := hin.2
    have hi : i < q.n := by omega
    obtain ⟨⟨s0, s1, s2, s3⟩, -⟩ := h.cells
    have hmT := h.mT
    cases hnon : nonB q.T (topOf G) (i : Int) with
    | true =>
      rw [hnon] at cn
      have hyes : folL q.T (topOf G) q.n bh (i : Int) = (below (bh i) q.m).map (fun n : Nat => (n : Int)) := by unfold folL; rw [if_pos hnon, Int.toNat_natCast, hmT]
      clear hsy hin hnon hnb hmT
      have Xci := hide ci
      have Xh := hide h
      have Xcn := hide cn
      clear ci h cn
      go_enter Try.func69, Try.ntmps69
      go_wp2_with fail
      refine Xci.out.mono ?_
      rintro ee w2 ⟨rfl, rfl⟩
      go_wp2_with fail
      with_reducible refine Xcn.out.mono ?_
      rintro ee w2 ⟨rfl, b2⟩
      have h := Xh.out.below b2
      clear s0 s1 s2 s3
      obtain ⟨-, s4, s5, s6⟩ := h.cells
      have hp := h.bhd.cell i hi
      have cl := ref11_list (h.bhd.set i hi) h.sz.2.1
      obtain ⟨⟨⟨d1, d2⟩, d3, d4⟩, -⟩ := h.cap
      clear h
      have Xcl := hide cl
      have Xhyes := hide hyes
      clear cl hyes
      go_wp2_with fail
      refine Xcl.out.mono ?_
      rintro ee w3 hl
      have hl2 := IntsPost.of_list hl b2
      rw [← Xhyes.out] at hl2
      obtain ⟨A, c, rfl, -, -⟩ := id hl
      clear hl
      have Xhl2 := hide hl2
      clear hl2
      go_wp2_with fail
      go_ret
      exact Xhl2.out
    | false =>
      rw [hnon] at cn
      have fin : ∀ w2, Below w.heap.size w w2 → IntsPost w (folL q.T (topOf G) q.n bh (i : Int)) (.returned (.slice none 0 0)) w2 := fun w2 b => by unfold folL; rw [hnon]; exact IntsPost.nil b
      clear hsy hin hnon hnb hmT h
      have Xci := hide ci
      have Xcn := hide cn
      have Xfin := hide fin
      clear ci cn fin
      go_enter Try.func69, Try.ntmps69
      go_wp2_with fail
      refine Xci.out.mono ?_
      rintro ee w2 ⟨rfl, rfl⟩
      go_wp2_with fail
      with_reducible refine Xcn.out.mono ?_
      rintro ee w2 ⟨rfl, b2⟩
      have fin2 := Xfin.out w2 b2
      clear b2
      have Xfin2 := hide fin2
      clear fin2
      go_wp2_with fail
      go_ret
      exact Xfin2.out
  · have hsy : (decide (0 ≤ x) && decide (x < (q.n : Int))) = false := by
      rw [Bool.and_eq_false_iff, decide_eq_false_iff_not, decide_eq_false_iff_not]; omega
    rw [hsy] at ci
    have hno : folL q.T (topOf G) q.n bh x = [] := by
      unfold folL
      rw [if_neg]
      unfold nonB
      have := h.nG.1
      simp only [Bool.and_eq_true, decide_eq_true_eq]
      unfold topN at this
      unfold topOf
      omega
    have fin : IntsPost w (folL q.T (topOf G) q.n bh x) (.returned (.slice none 0 0)) w := by rw [hno]; exact IntsPost.nil (Below.refl _ _)
    clear h hsy hin hnb cn
    have Xci := hide ci
    have Xhno := hide hno
    have Xfin := hide fin
    clear ci hno fin
    go_enter Try.func69, Try.ntmps69
    go_wp2_with fail
    refine Xci.out.mono ?_
    rintro ee w2 ⟨rfl, rfl⟩
    go_wp2_with fail
    go_ret
    exact Xfin.out
set_option maxRecDepth 100000 in
set_option maxHeartbeats 2000000 in
theorem ref11_Line {w : World} {q : RD} {G : GramD} {e : Nat → Bool} {bg bh : Nat → Nat → Bool} (h : RSets w q G e bg bh) {F : Nat → Prop} {v : Value} {l : List Int} (hl : RdI w F v l) (hF : ∀ k, F k → k < w.heap.size) :
    Calls Try.prog 71 #[PtrV q.s, v] w (TwoPost w (lineL q.m (hasI q.n e) (famI q.n bg) l) (l.all (hasI q.n e))) := by
  obtain ⟨A, m, c, rfl, -⟩ := id hl
  have cb := ref11_begins h hl hF
  have hm4 := h.sz.2.1
  generalize hal : l.all (hasI q.n e) = al at *
  clear h
  have Xcb := hide cb
  have Xhl := hide hl
  have Xhal := hide hal
  have Xhm4 := hide hm4
  clear cb hl hal hm4
  go_enter Try.func71, Try.ntmps71
  go_wp2_with fail
  refine Xcb.out.mono ?_
  rintro ee w2 ⟨b, rfl, hs2, hbge, b2⟩
  have cs := ref11_list hs2 Xhm4.out
  clear hs2 hbge Xcb
  have Xcs := hide cs
  have Xb2 := hide b2
  clear cs b2
  go_wp2_with fail
  refine Xcs.out.mono ?_
  rintro ee w4 ⟨A4, c4, rfl, ho, b4⟩
  have fin : TwoPost w (lineL q.m (hasI q.n e) (famI q.n bg) l) al (.returned (.tuple #[.slice A4 (below (lineB (hasI q.n e) (famI q.n bg) l) q.m).length c4, .bool al])) w4 := by
    obtain ⟨A5, n5, c5, e5, r5, b5⟩ := IntsPost.of_own ho Xb2.out b4
    injection e5 with e5
    rw [← e5] at r5
    exact ⟨_, _, _, rfl, r5, b5⟩
  generalize (below (lineB (hasI q.n e) (famI q.n bg) l) q.m).length = n4 at *
  clear ho b4
  have Xfin := hide fin
  clear fin
  go_wp2_with fail
  go_ret2
  exact Xfin.out

/-- the grammar that awake builds -/
def aw11 : GramD := ⟨[⟨#[65]⟩, ⟨#[66]⟩], [⟨#[115]⟩, ⟨#[116]⟩], [(3, [4, 1]), (4, [2]), (4, [])], 3⟩
theorem aw11_box (w : World) : GBox ((((((w.alloc (.cells #[.string ⟨#[65]⟩, .string ⟨#[66]⟩] 9)).alloc (.cells #[.string ⟨#[115]⟩, .string ⟨#[116]⟩] 9)).alloc (.cells #[.int .i64 4, .int .i64 1] 3)).alloc (.cells #[.int .i64 2] 3)).alloc (.cells #[.int .i64 3, .slice (some ⟨w.heap.size + 1 + 1, 0, none⟩) 2 2, .int .i64 4, .slice (some ⟨w.heap.size + 1 + 1 + 1, 0, none⟩) 1 1, .int .i64 4, .slice none 0 0] 30)).alloc (.cells #[.slice (some ⟨w.heap.size, 0, none⟩) 2 2, .slice (some ⟨w.heap.size + 1, 0, none⟩) 2 2, .slice (some ⟨w.heap.size + 1 + 1 + 1 + 1, 0, none⟩) 3 3, .int .i64 3] 25)) (fun b => w.heap.size ≤ b ∧ b < w.heap.size + 5) (w.heap.size + 1 + 1 + 1 + 1 + 1) (some ⟨w.heap.size, 0, none⟩) 2 (some ⟨w.heap.size + 1, 0, none⟩) 2 (some ⟨w.heap.size + 1 + 1 + 1 + 1, 0, none⟩) 3 2 2 3 3 aw11 ∧ Below w.heap.size w ((((((w.alloc (.cells #[.string ⟨#[65]⟩, .string ⟨#[66]⟩] 9)).alloc (.cells #[.string ⟨#[115]⟩, .string ⟨#[116]⟩] 9)).alloc (.cells #[.int .i64 4, .int .i64 1] 3)).alloc (.cells #[.int .i64 2] 3)).alloc (.cells #[.int .i64 3, .slice (some ⟨w.heap.size + 1 + 1, 0, none⟩) 2 2, .int .i64 4, .slice (some ⟨w.heap.size + 1 + 1 + 1, 0, none⟩) 1 1, .int .i64 4, .slice none 0 0] 30)).alloc (.cells #[.slice (some ⟨w.heap.size, 0, none⟩) 2 2, .slice (some ⟨w.heap.size + 1, 0, none⟩) 2 2, .slice (some ⟨w.heap.size + 1 + 1 + 1 + 1, 0, none⟩) 3 3, .int .i64 3] 25)) := by
  obtain ⟨w1, e1⟩ : ∃ q, q = w.alloc (.cells #[.string ⟨#[65]⟩, .string ⟨#[66]⟩] 9) := ⟨_, rfl⟩
  obtain ⟨w2, e2⟩ : ∃ q, q = w1.alloc (.cells #[.string ⟨#[115]⟩, .string ⟨#[116]⟩] 9) := ⟨_, rfl⟩
  obtain ⟨w3, e3⟩ : ∃ q, q = w2.alloc (.cells #[.int .i64 4, .int .i64 1] 3) := ⟨_, rfl⟩
  obtain ⟨w4, e4⟩ : ∃ q, q = w3.alloc (.cells #[.int .i64 2] 3) := ⟨_, rfl⟩
  obtain ⟨w5, e5⟩ : ∃ q, q = w4.alloc (.cells #[.int .i64 3, .slice (some ⟨w.heap.size + 1 + 1, 0, none⟩) 2 2, .int .i64 4, .slice (some ⟨w.heap.size + 1 + 1 + 1, 0, none⟩) 1 1, .int .i64 4, .slice none 0 0] 30) := ⟨_, rfl⟩
  obtain ⟨w6, e6⟩ : ∃ q, q = w5.alloc (.cells #[.slice (some ⟨w.heap.size, 0, none⟩) 2 2, .slice (some ⟨w.heap.size + 1, 0, none⟩) 2 2, .slice (some ⟨w.heap.size + 1 + 1 + 1 + 1, 0, none⟩) 3 3, .int .i64 3] 25) := ⟨_, rfl⟩
  rw [← e1, ← e2, ← e3, ← e4, ← e5, ← e6]
  have z1 : w1.heap.size = w.heap.size + 1 := by rw [e1]; simp
  have b1 : Below w.heap.size w w1 := by rw [e1]; exact (Below.refl _ _).alloc (Nat.le_refl _) _
  have k1 : Blk w1 (w.heap.size) 9 #[.string ⟨#[65]⟩, .string ⟨#[66]⟩] := by
    have h := Blk.new w 9 #[.string ⟨#[65]⟩, .string ⟨#[66]⟩]
    rw [← e1] at h; exact h
  have z2 : w2.heap.size = w.heap.size + 2 := by rw [e2]; simp; omega
  have b2 : Below w1.heap.size w1 w2 := by rw [e2]; exact (Below.refl _ _).alloc (Nat.le_refl _) _
  have k2 : Blk w2 (w.heap.size + 1) 9 #[.string ⟨#[115]⟩, .string ⟨#[116]⟩] := by
    have h := Blk.new w1 9 #[.string ⟨#[115]⟩, .string ⟨#[116]⟩]
    rw [← e2, z1] at h; exact h
  have z3 : w3.heap.size = w.heap.size + 3 := by rw [e3]; simp; omega
  have b3 : Below w2.heap.size w2 w3 := by rw [e3]; exact (Below.refl _ _).alloc (Nat.le_refl _) _
  have k3 : Blk w3 (w.heap.size + 1 + 1) 3 #[.int .i64 4, .int .i64 1] := by
    have h := Blk.new w2 3 #[.int .i64 4, .int .i64 1]
    rw [← e3, z2] at h; exact h
  have z4 : w4.heap.size = w.heap.size + 4 := by rw [e4]; simp; omega
  have b4 : Below w3.heap.size w3 w4 := by rw [e4]; exact (Below.refl _ _).alloc (Nat.le_refl _) _
  have k4 : Blk w4 (w.heap.size + 1 + 1 + 1) 3 #[.int .i64 2] := by
    have h := Blk.new w3 3 #[.int .i64 2]
    rw [← e4, z3] at h; exact h
  have z5 : w5.heap.size = w.heap.size + 5 := by rw [e5]; simp; omega
  have b5 : Below w4.heap.size w4 w5 := by rw [e5]; exact (Below.refl _ _).alloc (Nat.le_refl _) _
  have k5 : Blk w5 (w.heap.size + 1 + 1 + 1 + 1) 30 #[.int .i64 3, .slice (some ⟨w.heap.size + 1 + 1, 0, none⟩) 2 2, .int .i64 4, .slice (some ⟨w.heap.size + 1 + 1 + 1, 0, none⟩) 1 1, .int .i64 4, .slice none 0 0] := by
    have h := Blk.new w4 30 #[.int .i64 3, .slice (some ⟨w.heap.size + 1 + 1, 0, none⟩) 2 2, .int .i64 4, .slice (some ⟨w.heap.size + 1 + 1 + 1, 0, none⟩) 1 1, .int .i64 4, .slice none 0 0]
    rw [← e5, z4] at h; exact h
  have z6 : w6.heap.size = w.heap.size + 6 := by rw [e6]; simp; omega
  have b6 : Below w5.heap.size w5 w6 := by rw [e6]; exact (Below.refl _ _).alloc (Nat.le_refl _) _
  have k6 : Blk w6 (w.heap.size + 1 + 1 + 1 + 1 + 1) 25 #[.slice (some ⟨w.heap.size, 0, none⟩) 2 2, .slice (some ⟨w.heap.size + 1, 0, none⟩) 2 2, .slice (some ⟨w.heap.size + 1 + 1 + 1 + 1, 0, none⟩) 3 3, .int .i64 3] := by
    have h := Blk.new w5 25 #[.slice (some ⟨w.heap.size, 0, none⟩) 2 2, .slice (some ⟨w.heap.size + 1, 0, none⟩) 2 2, .slice (some ⟨w.heap.size + 1 + 1 + 1 + 1, 0, none⟩) 3 3, .int .i64 3]
    rw [← e6, z5] at h; exact h
  have bb6 : Below w6.heap.size w6 w6 := Below.refl _ _
  have bb5 : Below w5.heap.size w5 w6 := b6.trans (bb6.mono b6.size)
  have bb4 : Below w4.heap.size w4 w6 := b5.trans (bb5.mono b5.size)
  have bb3 : Below w3.heap.size w3 w6 := b4.trans (bb4.mono b4.size)
  have bb2 : Below w2.heap.size w2 w6 := b3.trans (bb3.mono b3.size)
  have bb1 : Below w1.heap.size w1 w6 := b2.trans (bb2.mono b2.size)
  have b0 : Below w.heap.size w w6 := b1.trans (bb1.mono b1.size)
  have y1 := k1.below bb1 k1.lt
  have y2 := k2.below bb2 k2.lt
  have y3 := k3.below bb3 k3.lt
  have y4 := k4.below bb4 k4.lt
  have y5 := k5.below bb5 k5.lt
  have y6 := k6.below bb6 k6.lt
  refine ⟨⟨⟨?_, ?_, ?_, ?_, ?_, ?_, ?_, ?_⟩, y6, rfl, rfl, rfl, by omega, by omega, by omega, by omega, by omega, by omega, by omega, by omega, by omega⟩, b0⟩
  · exact Rd.of_blk (us := aw11.terms.map Value.string) y1 (by omega) rfl (by decide)
  · exact Rd.of_blk (us := aw11.nons.map Value.string) y2 (by omega) rfl (by decide)
  · refine RdR.of_blk [((3, [4, 1]), .slice (some ⟨w.heap.size + 1 + 1, 0, none⟩) 2 2), ((4, [2]), .slice (some ⟨w.heap.size + 1 + 1 + 1, 0, none⟩) 1 1), ((4, []), .slice none 0 0)] y5 (by omega) ?_ (by unfold maxLen; simp)
    intro p hp
    simp only [List.mem_cons, List.not_mem_nil, or_false] at hp
    rcases hp with rfl | rfl | rfl
    · exact Rd.of_blk (us := [Value.int .i64 4, Value.int .i64 1]) y3 (by omega) rfl (by decide)
    · exact Rd.of_blk (us := [Value.int .i64 2]) y4 (by omega) rfl (by decide)
    · exact Rd.nil _ _ _
  · intro b hb; rw [z6]; omega
  · decide
  · exact ⟨by decide, by decide⟩
  · exact ⟨by decide, by decide⟩
  · decide

theorem aw11_check : checkOf aw11 3 = 0 := by decide +kernel
theorem aw11_kn : Kn aw11 3 := Kn.of_check aw11_check
def eT (j : Nat) : Bool := decide (j = 4)
def bT (i t : Nat) : Bool := decide (t = i ∧ i ≤ 2) || decide (i = 3 ∧ (t = 1 ∨ t = 2)) || decide (i = 4 ∧ t = 2)
def hT (i t : Nat) : Bool := decide (i = 3 ∧ t = 0) || decide (i = 4 ∧ t = 1)
theorem aw11_emp4 : EmpG aw11 4 := Emp.mk (4, []) (by simp [aw11]) (fun x hx => by simp at hx)
theorem aw11_b42 : BegG aw11 4 2 := Beg.step (4, [2]) 2 2 [] [] (by simp [aw11]) rfl (fun y hy => by simp at hy) (Beg.self 2 (by decide))
theorem aw11_sound : SoundB aw11 eT bT := by
  refine ⟨fun s h => ?_, fun s t h => ?_⟩
  · unfold hasI eT at h
    simp only [Bool.and_eq_true, decide_eq_true_eq] at h
    rw [show s = 4 by omega]
    exact aw11_emp4
  · obtain ⟨h0, h1, h2⟩ := famI_in h
    unfold bT at h2
    simp only [Bool.or_eq_true, decide_eq_true_eq] at h2
    rcases h2 with (⟨h3, h4⟩ | ⟨h3, h4⟩) | ⟨h3, h4⟩
    · have := Beg.self (T := 2) (rs := aw11.rules) t (by omega)
      rwa [show (t : Int) = s by omega] at this
    · rw [show s = 3 by omega]
      rcases h4 with rfl | rfl
      · exact Beg.step (3, [4, 1]) 1 1 [4] [] (by simp [aw11]) rfl (fun y hy => by simp at hy; subst hy; exact aw11_emp4) (Beg.self 1 (by decide))
      · exact Beg.step (3, [4, 1]) 4 2 [] [1] (by simp [aw11]) rfl (fun y hy => by simp at hy) aw11_b42
    · rw [show s = 4 by omega]; subst h4; exact aw11_b42
theorem aw11_closed : ∀ r ∈ aw11.rules, closedB aw11 eT bT r := by
  intro r hr
  simp only [aw11, List.mem_cons, List.not_mem_nil, or_false] at hr
  rcases hr with rfl | rfl | rfl
  · refine ⟨fun h => by revert h; decide, fun t h => ?_⟩
    simp only [lineB, Bool.or_eq_true, Bool.and_eq_true, Bool.false_eq_true, and_false, or_false] at h
    refine famI_mk (by decide) (by decide) ?_
    unfold bT
    simp only [Bool.or_eq_true, decide_eq_true_eq]
    rcases h with h | ⟨-, h⟩
    · have := (famI_in h).2.2
      unfold bT at this
      simp only [Bool.or_eq_true, decide_eq_true_eq] at this
      have e : (4 : Int).toNat = 4 := rfl
      have e2 : (3 : Int).toNat = 3 := rfl
      rw [e] at this
      rw [e2]
      omega
    · have := (famI_in h).2.2
      unfold bT at this
      simp only [Bool.or_eq_true, decide_eq_true_eq] at this
      have e : (1 : Int).toNat = 1 := rfl
      have e2 : (3 : Int).toNat = 3 := rfl
      rw [e] at this
      rw [e2]
      omega
  · refine ⟨fun h => by revert h; decide, fun t h => ?_⟩
    simp only [lineB, Bool.or_eq_true, Bool.and_eq_true, Bool.false_eq_true, and_false, or_false] at h
    refine famI_mk (by decide) (by decide) ?_
    have := (famI_in h).2.2
    unfold bT at this ⊢
    simp only [Bool.or_eq_true, decide_eq_true_eq] at this ⊢
    have e : (2 : Int).toNat = 2 := rfl
    have e2 : (4 : Int).toNat = 4 := rfl
    rw [e] at this
    rw [e2]
    omega
  · refine ⟨fun h => by decide, fun t h => by simp [lineB] at h⟩
theorem aw11_base : ∀ t, t ≤ aw11.terms.length → bT t t = true := fun t ht => by
  have : t ≤ 2 := ht
  unfold bT
  simp [this]
theorem aw11_e : empB aw11 = eT := (emp_set aw11_kn aw11_sound aw11_closed (fun j hj => by
  have : 5 ≤ j := hj
  unfold eT
  rw [decide_eq_false_iff_not]
  omega)).symm
theorem aw11_b {i : Nat} (hi : i < 5) : begB aw11 i = bT i := (beg_set aw11_base aw11_sound aw11_closed hi).symm
theorem aw11_h {i : Nat} (hi : i < 5) : behB aw11 3 i = hT i := by
  refine (beh_set (bh := hT) (by decide) ⟨fun s t h => ?_⟩ (fun r hr => ?_) hi).symm
  · obtain ⟨h0, h1, h2⟩ := famI_in h
    unfold hT at h2
    simp only [Bool.or_eq_true, decide_eq_true_eq] at h2
    rcases h2 with ⟨h3, rfl⟩ | ⟨h3, rfl⟩
    · rw [show s = 3 by omega]; exact Beh.start
    · rw [show s = 4 by omega]
      exact Beh.next (3, [4, 1]) 4 1 [] [1] (by simp [aw11]) rfl (by decide) ⟨[], 1, [], rfl, fun y hy => by simp at hy, Beg.self 1 (by decide)⟩
  · simp only [aw11, List.mem_cons, List.not_mem_nil, or_false] at hr
    rcases hr with rfl | rfl | rfl
    · intro k x hx hn
      match k, hx with
      | 0, hx =>
        obtain rfl : x = 4 := by simpa using hx.symm
        refine ⟨fun t ht => ?_, fun hall => ?_⟩
        · have h1 := (line_beg aw11_kn).2 ht
          rw [aw11_e] at h1
          simp only [List.drop_succ_cons, List.drop_zero, lineB, Bool.or_eq_true, Bool.and_eq_true, Bool.false_eq_true, and_false, or_false] at h1
          have h2 := (famI_in h1).2.2
          have e : (1 : Int).toNat = 1 := rfl
          rw [e, aw11_b (by decide)] at h2
          unfold bT at h2
          simp only [Bool.or_eq_true, decide_eq_true_eq] at h2
          obtain rfl : t = 1 := by omega
          decide
        · have := (has_emp aw11_kn).2 (hall 1 (by simp))
          rw [aw11_e] at this
          exact absurd this (by decide)
      | 1, hx =>
        obtain rfl : x = 1 := by simpa using hx.symm
        exact absurd hn (by decide)
      | k + 2, hx => simp at hx
    · intro k x hx hn
      match k, hx with
      | 0, hx =>
        obtain rfl : x = 2 := by simpa using hx.symm
        exact absurd hn (by decide)
      | k + 1, hx => simp at hx
    · intro k x hx hn
      simp at hx
theorem aw11_v1 : hasI (topN aw11) (empB aw11) 4 = true := by rw [aw11_e]; decide
theorem aw11_v2 : hasI (topN aw11) (empB aw11) 3 = false := by rw [aw11_e]; decide
theorem aw11_v3 : (famL (topN aw11) 3 (begB aw11) 3).length = 2 := by
  unfold famL
  rw [if_pos (by decide), show (3 : Int).toNat = 3 from rfl, aw11_b (by decide)]
  decide
theorem aw11_v4 : (folL 2 4 (topN aw11) (behB aw11 3) 4).length = 1 := by
  unfold folL
  rw [if_pos (by decide), show (4 : Int).toNat = 4 from rfl, aw11_h (by decide)]
  decide
theorem aw11_v5 : (lineL 3 (hasI (topN aw11) (empB aw11)) (famI (topN aw11) (begB aw11)) [4, 4]).length = 1 := by
  unfold lineL
  rw [List.length_map]
  have : lineB (hasI (topN aw11) (empB aw11)) (famI (topN aw11) (begB aw11)) [4, 4] = bT 4 := by
    funext t
    have h4 : famI (topN aw11) (begB aw11) 4 t = bT 4 t := by
      have := famI_nat (F := begB aw11) (n := topN aw11) (i := 4) (by decide) t
      rw [aw11_b (by decide)] at this
      exact this
    simp only [lineB, h4, aw11_v1, Bool.true_and, Bool.and_false, Bool.or_false, Bool.or_self]
  rw [this]
  decide
theorem aw11_v6 : ([4, 4] : List Int).all (hasI (topN aw11) (empB aw11)) = true := by simp [aw11_v1]

set_option maxRecDepth 100000 in
set_option maxHeartbeats 4000000 in
theorem law11_awake (w : World) : Calls Try.prog 61 #[] w (Quiet w (.bool true)) := by
  obtain ⟨g, hb⟩ := aw11_box w
  have cc := first_Of g.gram 3
  have Xcc := hide cc
  have Xg := hide g
  have Xhb := hide hb
  clear cc g hb
  go_enter Try.func61, Try.ntmps61
  go_wp2_with fail
  with_reducible refine Xcc.out.mono ?_
  rintro e w2 hp
  rcases hp with ⟨h0, -, -⟩ | ⟨-, q, rfl, f2, hT, hP, hN, -, b2⟩
  · exact absurd aw11_check h0
  have hb2 := Xhb.out.trans (b2.mono Xhb.out.size)
  have hT : q.T = 2 := hT
  have hP : q.p = 4 := hP
  have w3r : ∀ wr : World, Blk wr w2.heap.size 3 #[.int .i64 4, .int .i64 4] → RdI wr (fun k => k = w2.heap.size) (.slice (some ⟨w2.heap.size, 0, none⟩) 2 2) [4, 4] := fun wr hk => Rd.of_blk (us := [Value.int .i64 4, Value.int .i64 4]) hk (by omega) rfl (by decide)
  obtain ⟨w3, hw3⟩ : ∃ w3, w3 = w2.alloc (.cells #[.int .i64 4, .int .i64 4] 3) := ⟨_, rfl⟩
  have b3 : Below w2.heap.size w2 w3 := by rw [hw3]; exact (Below.refl _ _).alloc (Nat.le_refl _) _
  have f3 := f2.below b3
  have hb3 := hb2.trans (b3.mono hb2.size)
  have k3 : Blk w3 w2.heap.size 3 #[.int .i64 4, .int .i64 4] := by rw [hw3]; exact Blk.new _ _ _
  have cl := first_Line f3 (w3r w3 k3) (fun k hk => by rw [hk]; exact k3.lt)
  rw [hN, aw11_v6] at cl
  rw [hw3] at cl
  clear Xcc Xg Xhb b2 f2 b3 k3 w3r hb2
  have Xcl := hide cl
  have Xf3 := hide f3
  have Xhb3 := hide hb3
  have XhT := hide hT
  have XhP := hide hP
  have XhN := hide hN
  clear cl f3 hb3 hT hP hN
  go_wp2_with fail
  refine Xcl.out.mono ?_
  rintro e w4 ⟨A, n, c, rfl, hr4, b4⟩
  rw [← hw3] at b4
  have f4 := Xf3.out.below b4
  have hb4 := Xhb3.out.trans (b4.mono Xhb3.out.size)
  obtain ⟨hn4, -⟩ := RdI.at_ hr4
  rw [XhT.out, aw11_v5] at hn4
  subst hn4
  clear hr4 b4 hw3 Xcl Xf3 Xhb3
  have c1 := first_empty f4 4
  rw [XhN.out, aw11_v1] at c1
  have Xc1 := hide c1
  have Xf4 := hide f4
  have Xhb4 := hide hb4
  clear c1 f4 hb4
  go_wp2_with fail
  with_reducible refine Xc1.out.mono ?_
  rintro e w5 ⟨rfl, b5⟩
  have f5 := Xf4.out.below b5
  have hb5 := Xhb4.out.trans (b5.mono Xhb4.out.size)
  have c2 := first_empty f5 3
  rw [XhN.out, aw11_v2] at c2
  clear b5 Xc1 Xf4 Xhb4
  have Xc2 := hide c2
  have Xf5 := hide f5
  have Xhb5 := hide hb5
  clear c2 f5 hb5
  go_wp2_with fail
  with_reducible refine Xc2.out.mono ?_
  rintro e w6 ⟨rfl, b6⟩
  have f6 := Xf5.out.below b6
  have hb6 := Xhb5.out.trans (b6.mono Xhb5.out.size)
  have c3 := first_first f6 3
  rw [XhN.out, XhT.out] at c3
  clear b6 Xc2 Xf5 Xhb5
  have Xc3 := hide c3
  have Xf6 := hide f6
  have Xhb6 := hide hb6
  clear c3 f6 hb6
  go_wp2_with fail
  refine Xc3.out.mono ?_
  rintro e w7 ⟨A7, n7, c7, rfl, hr7, b7⟩
  have f7 := Xf6.out.below b7
  have hb7 := Xhb6.out.trans (b7.mono Xhb6.out.size)
  obtain ⟨hn7, -⟩ := RdI.at_ hr7
  rw [aw11_v3] at hn7
  subst hn7
  have c4 := first_follow f7 4
  rw [XhN.out, XhT.out, XhP.out] at c4
  clear hr7 b7 Xc3 Xf6 Xhb6
  have Xc4 := hide c4
  have Xf7 := hide f7
  have Xhb7 := hide hb7
  clear c4 f7 hb7
  go_wp2_with fail
  refine Xc4.out.mono ?_
  rintro e w8 ⟨A8, n8, c8, rfl, hr8, b8⟩
  have hb8 := Xhb7.out.trans (b8.mono Xhb7.out.size)
  obtain ⟨hn8, -⟩ := RdI.at_ hr8
  rw [aw11_v4] at hn8
  subst hn8
  clear hr8 b8 Xc4 Xf7 Xhb7
  have Xhb8 := hide hb8
  clear hb8
  go_wp2_with fail
  go_ret
  exact ⟨rfl, Xhb8.out⟩
end Go.Proofs.Ytejjaabkbkkjlaa

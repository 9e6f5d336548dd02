/- The program computes at all: conchlaw09.awake. -/
import Derived.Test.YtejjaabkbkkjlaaLiveR7
namespace Go.Proofs.Ytejjaabkbkkjlaa
set_option linter.unusedVariables false
open Go.RowKit
attribute [local irreducible] wpStill wpOne wpPh

/-- the grammar that awake builds -/
def aw09 : GramD := ⟨[⟨#[65]⟩], [⟨#[115]⟩, ⟨#[116]⟩], [(2, [1]), (3, [3])], 2⟩
theorem aw09_box (w : World) : GBox ((((((w.alloc (.cells #[.string ⟨#[65]⟩] 9)).alloc (.cells #[.string ⟨#[115]⟩, .string ⟨#[116]⟩] 9)).alloc (.cells #[.int .i64 1] 3)).alloc (.cells #[.int .i64 3] 3)).alloc (.cells #[.int .i64 2, .slice (some ⟨w.heap.size + 1 + 1, 0, none⟩) 1 1, .int .i64 3, .slice (some ⟨w.heap.size + 1 + 1 + 1, 0, none⟩) 1 1] 30)).alloc (.cells #[.slice (some ⟨w.heap.size, 0, none⟩) 1 1, .slice (some ⟨w.heap.size + 1, 0, none⟩) 2 2, .slice (some ⟨w.heap.size + 1 + 1 + 1 + 1, 0, none⟩) 2 2, .int .i64 2] 25)) (fun b => w.heap.size ≤ b ∧ b < w.heap.size + 5) (w.heap.size + 1 + 1 + 1 + 1 + 1) (some ⟨w.heap.size, 0, none⟩) 1 (some ⟨w.heap.size + 1, 0, none⟩) 2 (some ⟨w.heap.size + 1 + 1 + 1 + 1, 0, none⟩) 2 1 2 2 2 aw09 ∧ Below w.heap.size w ((((((w.alloc (.cells #[.string ⟨#[65]⟩] 9)).alloc (.cells #[.string ⟨#[115]⟩, .string ⟨#[116]⟩] 9)).alloc (.cells #[.int .i64 1] 3)).alloc (.cells #[.int .i64 3] 3)).alloc (.cells #[.int .i64 2, .slice (some ⟨w.heap.size + 1 + 1, 0, none⟩) 1 1, .int .i64 3, .slice (some ⟨w.heap.size + 1 + 1 + 1, 0, none⟩) 1 1] 30)).alloc (.cells #[.slice (some ⟨w.heap.size, 0, none⟩) 1 1, .slice (some ⟨w.heap.size + 1, 0, none⟩) 2 2, .slice (some ⟨w.heap.size + 1 + 1 + 1 + 1, 0, none⟩) 2 2, .int .i64 2] 25)) := by
  obtain ⟨w1, e1⟩ : ∃ q, q = w.alloc (.cells #[.string ⟨#[65]⟩] 9) := ⟨_, rfl⟩
  obtain ⟨w2, e2⟩ : ∃ q, q = w1.alloc (.cells #[.string ⟨#[115]⟩, .string ⟨#[116]⟩] 9) := ⟨_, rfl⟩
  obtain ⟨w3, e3⟩ : ∃ q, q = w2.alloc (.cells #[.int .i64 1] 3) := ⟨_, rfl⟩
  obtain ⟨w4, e4⟩ : ∃ q, q = w3.alloc (.cells #[.int .i64 3] 3) := ⟨_, rfl⟩
  obtain ⟨w5, e5⟩ : ∃ q, q = w4.alloc (.cells #[.int .i64 2, .slice (some ⟨w.heap.size + 1 + 1, 0, none⟩) 1 1, .int .i64 3, .slice (some ⟨w.heap.size + 1 + 1 + 1, 0, none⟩) 1 1] 30) := ⟨_, rfl⟩
  obtain ⟨w6, e6⟩ : ∃ q, q = w5.alloc (.cells #[.slice (some ⟨w.heap.size, 0, none⟩) 1 1, .slice (some ⟨w.heap.size + 1, 0, none⟩) 2 2, .slice (some ⟨w.heap.size + 1 + 1 + 1 + 1, 0, none⟩) 2 2, .int .i64 2] 25) := ⟨_, rfl⟩
  rw [← e1, ← e2, ← e3, ← e4, ← e5, ← e6]
  have z1 : w1.heap.size = w.heap.size + 1 := by rw [e1]; simp
  have b1 : Below w.heap.size w w1 := by rw [e1]; exact (Below.refl _ _).alloc (Nat.le_refl _) _
  have k1 : Blk w1 (w.heap.size) 9 #[.string ⟨#[65]⟩] := by
    have h := Blk.new w 9 #[.string ⟨#[65]⟩]
    rw [← e1] at h; exact h
  have z2 : w2.heap.size = w.heap.size + 2 := by rw [e2]; simp; omega
  have b2 : Below w1.heap.size w1 w2 := by rw [e2]; exact (Below.refl _ _).alloc (Nat.le_refl _) _
  have k2 : Blk w2 (w.heap.size + 1) 9 #[.string ⟨#[115]⟩, .string ⟨#[116]⟩] := by
    have h := Blk.new w1 9 #[.string ⟨#[115]⟩, .string ⟨#[116]⟩]
    rw [← e2, z1] at h; exact h
  have z3 : w3.heap.size = w.heap.size + 3 := by rw [e3]; simp; omega
  have b3 : Below w2.heap.size w2 w3 := by rw [e3]; exact (Below.refl _ _).alloc (Nat.le_refl _) _
  have k3 : Blk w3 (w.heap.size + 1 + 1) 3 #[.int .i64 1] := by
    have h := Blk.new w2 3 #[.int .i64 1]
    rw [← e3, z2] at h; exact h
  have z4 : w4.heap.size = w.heap.size + 4 := by rw [e4]; simp; omega
  have b4 : Below w3.heap.size w3 w4 := by rw [e4]; exact (Below.refl _ _).alloc (Nat.le_refl _) _
  have k4 : Blk w4 (w.heap.size + 1 + 1 + 1) 3 #[.int .i64 3] := by
    have h := Blk.new w3 3 #[.int .i64 3]
    rw [← e4, z3] at h; exact h
  have z5 : w5.heap.size = w.heap.size + 5 := by rw [e5]; simp; omega
  have b5 : Below w4.heap.size w4 w5 := by rw [e5]; exact (Below.refl _ _).alloc (Nat.le_refl _) _
  have k5 : Blk w5 (w.heap.size + 1 + 1 + 1 + 1) 30 #[.int .i64 2, .slice (some ⟨w.heap.size + 1 + 1, 0, none⟩) 1 1, .int .i64 3, .slice (some ⟨w.heap.size + 1 + 1 + 1, 0, none⟩) 1 1] := by
    have h := Blk.new w4 30 #[.int .i64 2, .slice (some ⟨w.heap.size + 1 + 1, 0, none⟩) 1 1, .int .i64 3, .slice (some ⟨w.heap.size + 1 + 1 + 1, 0, none⟩) 1 1]
    rw [← e5, z4] at h; exact h
  have z6 : w6.heap.size = w.heap.size + 6 := by rw [e6]; simp; omega
  have b6 : Below w5.heap.size w5 w6 := by rw [e6]; exact (Below.refl _ _).alloc (Nat.le_refl _) _
  have k6 : Blk w6 (w.heap.size + 1 + 1 + 1 + 1 + 1) 25 #[.slice (some ⟨w.heap.size, 0, none⟩) 1 1, .slice (some ⟨w.heap.size + 1, 0, none⟩) 2 2, .slice (some ⟨w.heap.size + 1 + 1 + 1 + 1, 0, none⟩) 2 2, .int .i64 2] := by
    have h := Blk.new w5 25 #[.slice (some ⟨w.heap.size, 0, none⟩) 1 1, .slice (some ⟨w.heap.size + 1, 0, none⟩) 2 2, .slice (some ⟨w.heap.size + 1 + 1 + 1 + 1, 0, none⟩) 2 2, .int .i64 2]
    rw [← e6, z5] at h; exact h
  have bb6 : Below w6.heap.size w6 w6 := Below.refl _ _
  have bb5 : Below w5.heap.size w5 w6 := b6.trans (bb6.mono b6.size)
  have bb4 : Below w4.heap.size w4 w6 := b5.trans (bb5.mono b5.size)
  have bb3 : Below w3.heap.size w3 w6 := b4.trans (bb4.mono b4.size)
  have bb2 : Below w2.heap.size w2 w6 := b3.trans (bb3.mono b3.size)
  have bb1 : Below w1.heap.size w1 w6 := b2.trans (bb2.mono b2.size)
  have b0 : Below w.heap.size w w6 := b1.trans (bb1.mono b1.size)
  have y1 := k1.below bb1 k1.lt
  have y2 := k2.below bb2 k2.lt
  have y3 := k3.below bb3 k3.lt
  have y4 := k4.below bb4 k4.lt
  have y5 := k5.below bb5 k5.lt
  have y6 := k6.below bb6 k6.lt
  refine ⟨⟨⟨?_, ?_, ?_, ?_, ?_, ?_, ?_, ?_⟩, y6, rfl, rfl, rfl, by omega, by omega, by omega, by omega, by omega, by omega, by omega, by omega, by omega⟩, b0⟩
  · exact Rd.of_blk (us := aw09.terms.map Value.string) y1 (by omega) rfl (by decide)
  · exact Rd.of_blk (us := aw09.nons.map Value.string) y2 (by omega) rfl (by decide)
  · refine RdR.of_blk [((2, [1]), .slice (some ⟨w.heap.size + 1 + 1, 0, none⟩) 1 1), ((3, [3]), .slice (some ⟨w.heap.size + 1 + 1 + 1, 0, none⟩) 1 1)] y5 (by omega) ?_ (by unfold maxLen; simp)
    intro p hp
    simp only [List.mem_cons, List.not_mem_nil, or_false] at hp
    rcases hp with rfl | rfl
    · exact Rd.of_blk (us := [Value.int .i64 1]) y3 (by omega) rfl (by decide)
    · exact Rd.of_blk (us := [Value.int .i64 3]) y4 (by omega) rfl (by decide)
  · intro b hb; rw [z6]; omega
  · decide
  · exact ⟨by decide, by decide⟩
  · exact ⟨by decide, by decide⟩
  · decide
theorem aw09_check : checkOf aw09 2 = 0 := by decide +kernel
theorem aw09_prd (s : Int) : PrdG aw09 s ↔ s = 2 := by
  constructor
  · intro h
    have h' : Prd 1 2 [(2, [1]), (3, [3])] s := h
    clear h
    induction h' with
    | mk r hr hx ih =>
      simp only [List.mem_cons, List.not_mem_nil, or_false] at hr
      rcases hr with rfl | rfl
      · rfl
      · have := ih 3 (by simp) (by omega); omega
  · rintro rfl
    exact Prd.mk (2, [1]) (by simp [aw09]) (fun x hx hn => by simp at hx; subst hx; simp [aw09] at hn)
theorem aw09_rch (s : Int) : Rch aw09.rules 2 s ↔ s = 1 ∨ s = 2 := by
  constructor
  · intro h
    have h' : Rch [(2, [1]), (3, [3])] 2 s := h
    clear h
    induction h' with
    | start => exact .inr rfl
    | step r x hr _ hx ih =>
      simp only [List.mem_cons, List.not_mem_nil, or_false] at hr
      rcases hr with rfl | rfl
      · simp at hx; exact .inl hx
      · simp at ih
  · rintro (rfl | rfl)
    · exact Rch.step (2, [1]) 1 (by simp [aw09]) Rch.start (by simp)
    · exact Rch.start
theorem aw09_prdB : prdB aw09 = fun j => decide (j = 2) := by
  funext j
  unfold prdB
  refine toB_eq ?_
  rw [decide_eq_true_eq, aw09_prd]
  omega
theorem aw09_rchB : rchB aw09 2 = fun j => decide (j = 1 ∨ j = 2) := by
  funext j
  unfold rchB
  refine toB_eq ?_
  rw [decide_eq_true_eq, aw09_rch]
  omega
theorem aw09_productive : productiveOf aw09 2 = [2] := by
  unfold productiveOf
  rw [if_pos aw09_check]
  unfold prdL
  rw [aw09_prdB]
  rfl
theorem aw09_reached : reachedOf aw09 2 = [1, 2] := by
  unfold reachedOf
  rw [if_pos aw09_check]
  unfold rchL
  rw [aw09_rchB]
  rfl
theorem aw09_dead : deadOf aw09 2 = (11, 3) := by
  refine dead_some aw09_check (i := 2) (by decide) ?_ (fun j hj => ?_)
  · unfold deadB; rw [aw09_rchB]; rfl
  · unfold deadB
    rw [aw09_rchB, aw09_prdB]
    have : j = 0 ∨ j = 1 := by omega
    rcases this with rfl | rfl <;> rfl
theorem aw09_fine : fineG aw09 2 = ⟨[⟨#[65]⟩], [⟨#[115]⟩, ⟨#[116]⟩], [(2, [1])], 2⟩ := by
  unfold fineG
  rw [aw09_prdB]
  rfl
theorem aw09_frch (s : Int) : Rch [((2 : Int), [(1 : Int)])] 2 s ↔ s = 1 ∨ s = 2 := by
  constructor
  · intro h
    induction h with
    | start => exact .inr rfl
    | step r x hr _ hx ih =>
      simp only [List.mem_cons, List.not_mem_nil, or_false] at hr
      subst hr
      simp at hx; exact .inl hx
  · rintro (rfl | rfl)
    · exact Rch.step (2, [1]) 1 (by simp) Rch.start (by simp)
    · exact Rch.start
theorem aw09_trim : ∃ G, trimOf aw09 2 = (G, true) ∧ G.nons.length = 1 ∧ G.rules.length = 1 := by
  unfold trimOf
  rw [if_pos aw09_check, aw09_prdB, if_pos (by rfl), aw09_fine]
  refine ⟨_, rfl, ?_⟩
  unfold rchL
  rw [show rchB ⟨[⟨#[65]⟩], [⟨#[115]⟩, ⟨#[116]⟩], [(2, [1])], 2⟩ 2 = fun j => decide (j = 1 ∨ j = 2) by
    funext j
    unfold rchB
    refine toB_eq ?_
    rw [decide_eq_true_eq, aw09_frch]
    omega]
  exact ⟨by rfl, by rfl⟩

set_option maxRecDepth 100000 in
set_option maxHeartbeats 4000000 in
theorem law09_awake (w : World) : Calls Try.prog 50 #[] w (Quiet w (.bool true)) := by
  obtain ⟨g, hb⟩ := aw09_box w
  have cc := live_check g.gram 2
  rw [aw09_dead] at cc
  simp only at cc
  obtain ⟨TG, htg, hn1, hr1⟩ := aw09_trim
  have ct := fun wr (g : GBox wr (fun b => w.heap.size ≤ b ∧ b < w.heap.size + 5) (w.heap.size + 1 + 1 + 1 + 1 + 1) (some ⟨w.heap.size, 0, none⟩) 1 (some ⟨w.heap.size + 1, 0, none⟩) 2 (some ⟨w.heap.size + 1 + 1 + 1 + 1, 0, none⟩) 2 1 2 2 2 aw09) => live_trim g.gram 2
  rw [htg] at ct
  have cp := fun wr (g : GBox wr (fun b => w.heap.size ≤ b ∧ b < w.heap.size + 5) (w.heap.size + 1 + 1 + 1 + 1 + 1) (some ⟨w.heap.size, 0, none⟩) 1 (some ⟨w.heap.size + 1, 0, none⟩) 2 (some ⟨w.heap.size + 1 + 1 + 1 + 1, 0, none⟩) 2 1 2 2 2 aw09) => live_productives g.gram 2
  rw [aw09_productive] at cp
  have cr := fun wr (g : GBox wr (fun b => w.heap.size ≤ b ∧ b < w.heap.size + 5) (w.heap.size + 1 + 1 + 1 + 1 + 1) (some ⟨w.heap.size, 0, none⟩) 1 (some ⟨w.heap.size + 1, 0, none⟩) 2 (some ⟨w.heap.size + 1 + 1 + 1 + 1, 0, none⟩) 2 1 2 2 2 aw09) => live_reacheds g.gram 2
  rw [aw09_reached] at cr
  have Xcc := hide cc
  have Xct := hide ct
  have Xcp := hide cp
  have Xcr := hide cr
  have Xg := hide g
  have Xhb := hide hb
  have Xhtg := hide htg
  have Xhn1 := hide hn1
  have Xhr1 := hide hr1
  clear cc ct cp cr g hb htg hn1 hr1
  go_enter Try.func50, Try.ntmps50
  go_wp2_with fail
  with_reducible refine Xcc.out.mono ?_
  rintro e w2 ⟨rfl, b2⟩
  have g2 := Xg.out.below b2
  have hb2 := Xhb.out.trans (b2.mono Xhb.out.size)
  clear b2 Xg Xhb Xcc
  obtain ⟨q0, q1, q2, q3⟩ := g2.cells
  have Xg2 := hide g2
  have Xhb2 := hide hb2
  clear g2 hb2
  go_wp2_with fail
  with_reducible refine (Xct.out _ Xg2.out).mono ?_
  rintro e w3 ⟨ut, un, ur, rfl, hg3, b3⟩
  obtain ⟨a1, d1, a2, d2, a3, d3, eu1, eu2, eu3, -⟩ := hg3.slices
  simp only at eu1 eu2 eu3
  rw [Xhn1.out] at eu2
  rw [Xhr1.out] at eu3
  generalize TG.terms.length = n1 at eu1
  subst eu1 eu2 eu3
  have g3 := Xg2.out.below b3
  have hb3 := Xhb2.out.trans (b3.mono Xhb2.out.size)
  obtain ⟨w4, hw4⟩ : ∃ w4, w4 = w3.alloc (.cells #[.slice a1 n1 d1, .slice a2 1 d2, .slice a3 1 d3, .int .i64 TG.start] 25) := ⟨_, rfl⟩
  have b4 : Below w3.heap.size w3 w4 := by rw [hw4]; exact (Below.refl _ _).alloc (Nat.le_refl _) _
  have g4 := g3.below b4
  have k4 : Blk w4 w3.heap.size 25 #[.slice a1 n1 d1, .slice a2 1 d2, .slice a3 1 d3, .int .i64 TG.start] := by rw [hw4]; exact Blk.new _ _ _
  have hb4 := hb3.trans (b4.mono hb3.size)
  have c4 := Xcp.out _ g4
  clear q0 q1 q2 q3 b3 b4 hg3 Xg2 Xhb2 Xct
  have hbz := g3.blk.lt
  obtain ⟨q0, q1, q2, q3⟩ := g3.cells
  rw [hw4] at c4
  have Xg4 := hide g4
  have Xk4 := hide k4
  have Xhb4 := hide hb4
  have Xc4 := hide c4
  have Xg3 := hide g3
  have Xhb3 := hide hb3
  clear g4 k4 hb4 c4 g3 hb3
  go_wp2_with fail
  with_reducible refine Xc4.out.mono ?_
  rintro e w5 ⟨A5, n5, c5, rfl, hr5, b5⟩
  rw [← hw4] at b5
  have g5 := Xg4.out.below b5
  have k5 := Xk4.out.below b5 Xk4.out.lt
  have hb5 := Xhb4.out.trans (b5.mono Xhb4.out.size)
  obtain ⟨hn5, hc5, hm5, -⟩ := RdI.at_ hr5
  obtain rfl : n5 = 1 := hn5
  clear hw4 q0 q1 q2 q3 b5 hr5 Xg4 Xk4 Xhb4 Xc4 Xg3 Xhb3
  obtain ⟨q0, q1, q2, q3⟩ := g5.cells
  have x1 := (k5.cell 1).trans rfl
  have c6 := Xcr.out _ g5
  have Xg5 := hide g5
  have Xk5 := hide k5
  have Xhb5 := hide hb5
  have Xc6 := hide c6
  clear g5 k5 hb5 c6
  go_wp2_with fail
  with_reducible refine Xc6.out.mono ?_
  rintro e w6 ⟨A6, n6, c6, rfl, hr6, b6⟩
  have k6 := Xk5.out.below b6 Xk5.out.lt
  have hb6 := Xhb5.out.trans (b6.mono Xhb5.out.size)
  obtain ⟨hn6, hc6, hm6, -⟩ := RdI.at_ hr6
  obtain rfl : n6 = 2 := hn6
  have y1 := (k6.cell 1).trans rfl
  have y2 := (k6.cell 2).trans rfl
  clear q0 q1 q2 q3 b6 hr6 Xg5 Xk5 Xhb5 Xc6 x1
  have Xk6 := hide k6
  have Xhb6 := hide hb6
  clear k6 hb6
  go_wp2_with fail
  go_ret
  exact ⟨rfl, Xhb6.out⟩
end Go.Proofs.Ytejjaabkbkkjlaa

/- Items: the program computes at all. -/
import Derived.Test.YtlpokomfljmogaaGreatItem14
namespace Go.Proofs.YtlpokomfljmogaaGreat
set_option linter.unusedVariables false
set_option linter.unusedSimpArgs false
open Go.RowKit
attribute [local irreducible] wpStill wpOne wpPh

/-- the grammar that awake builds -/
def aw12 : GramD := ⟨[⟨#[65]⟩, ⟨#[66]⟩], [⟨#[115]⟩, ⟨#[116]⟩], [(3, [4, 1]), (4, [2])], 3⟩
theorem aw12_box (w : World) : GBox ((((((w.alloc (.cells #[.string ⟨#[65]⟩, .string ⟨#[66]⟩] 9)).alloc (.cells #[.string ⟨#[115]⟩, .string ⟨#[116]⟩] 9)).alloc (.cells #[.int .i64 4, .int .i64 1] 3)).alloc (.cells #[.int .i64 2] 3)).alloc (.cells #[.int .i64 3, .slice (some ⟨w.heap.size + 1 + 1, 0, none⟩) 2 2, .int .i64 4, .slice (some ⟨w.heap.size + 1 + 1 + 1, 0, none⟩) 1 1] 80)).alloc (.cells #[.slice (some ⟨w.heap.size, 0, none⟩) 2 2, .slice (some ⟨w.heap.size + 1, 0, none⟩) 2 2, .slice (some ⟨w.heap.size + 1 + 1 + 1 + 1, 0, none⟩) 2 2, .int .i64 3] 25)) (fun b => w.heap.size ≤ b ∧ b < w.heap.size + 5) (w.heap.size + 1 + 1 + 1 + 1 + 1) (some ⟨w.heap.size, 0, none⟩) 2 (some ⟨w.heap.size + 1, 0, none⟩) 2 (some ⟨w.heap.size + 1 + 1 + 1 + 1, 0, none⟩) 2 2 2 2 3 aw12 ∧ Below w.heap.size w ((((((w.alloc (.cells #[.string ⟨#[65]⟩, .string ⟨#[66]⟩] 9)).alloc (.cells #[.string ⟨#[115]⟩, .string ⟨#[116]⟩] 9)).alloc (.cells #[.int .i64 4, .int .i64 1] 3)).alloc (.cells #[.int .i64 2] 3)).alloc (.cells #[.int .i64 3, .slice (some ⟨w.heap.size + 1 + 1, 0, none⟩) 2 2, .int .i64 4, .slice (some ⟨w.heap.size + 1 + 1 + 1, 0, none⟩) 1 1] 80)).alloc (.cells #[.slice (some ⟨w.heap.size, 0, none⟩) 2 2, .slice (some ⟨w.heap.size + 1, 0, none⟩) 2 2, .slice (some ⟨w.heap.size + 1 + 1 + 1 + 1, 0, none⟩) 2 2, .int .i64 3] 25)) := by
  obtain ⟨w1, e1⟩ : ∃ q, q = w.alloc (.cells #[.string ⟨#[65]⟩, .string ⟨#[66]⟩] 9) := ⟨_, rfl⟩
  obtain ⟨w2, e2⟩ : ∃ q, q = w1.alloc (.cells #[.string ⟨#[115]⟩, .string ⟨#[116]⟩] 9) := ⟨_, rfl⟩
  obtain ⟨w3, e3⟩ : ∃ q, q = w2.alloc (.cells #[.int .i64 4, .int .i64 1] 3) := ⟨_, rfl⟩
  obtain ⟨w4, e4⟩ : ∃ q, q = w3.alloc (.cells #[.int .i64 2] 3) := ⟨_, rfl⟩
  obtain ⟨w5, e5⟩ : ∃ q, q = w4.alloc (.cells #[.int .i64 3, .slice (some ⟨w.heap.size + 1 + 1, 0, none⟩) 2 2, .int .i64 4, .slice (some ⟨w.heap.size + 1 + 1 + 1, 0, none⟩) 1 1] 80) := ⟨_, rfl⟩
  obtain ⟨w6, e6⟩ : ∃ q, q = w5.alloc (.cells #[.slice (some ⟨w.heap.size, 0, none⟩) 2 2, .slice (some ⟨w.heap.size + 1, 0, none⟩) 2 2, .slice (some ⟨w.heap.size + 1 + 1 + 1 + 1, 0, none⟩) 2 2, .int .i64 3] 25) := ⟨_, rfl⟩
  rw [← e1, ← e2, ← e3, ← e4, ← e5, ← e6]
  have z1 : w1.heap.size = w.heap.size + 1 := by rw [e1]; simp
  have b1 : Below w.heap.size w w1 := by rw [e1]; exact (Below.refl _ _).alloc (Nat.le_refl _) _
  have k1 : Blk w1 (w.heap.size) 9 #[.string ⟨#[65]⟩, .string ⟨#[66]⟩] := by
    have h := Blk.new w 9 #[.string ⟨#[65]⟩, .string ⟨#[66]⟩]
    rw [← e1] at h; exact h
  have z2 : w2.heap.size = w.heap.size + 2 := by rw [e2]; simp; omega
  have b2 : Below w1.heap.size w1 w2 := by rw [e2]; exact (Below.refl _ _).alloc (Nat.le_refl _) _
  have k2 : Blk w2 (w.heap.size + 1) 9 #[.string ⟨#[115]⟩, .string ⟨#[116]⟩] := by
    have h := Blk.new w1 9 #[.string ⟨#[115]⟩, .string ⟨#[116]⟩]
    rw [← e2, z1] at h; exact h
  have z3 : w3.heap.size = w.heap.size + 3 := by rw [e3]; simp; omega
  have b3 : Below w2.heap.size w2 w3 := by rw [e3]; exact (Below.refl _ _).alloc (Nat.le_refl _) _
  have k3 : Blk w3 (w.heap.size + 1 + 1) 3 #[.int .i64 4, .int .i64 1] := by
    have h := Blk.new w2 3 #[.int .i64 4, .int .i64 1]
    rw [← e3, z2] at h; exact h
  have z4 : w4.heap.size = w.heap.size + 4 := by rw [e4]; simp; omega
  have b4 : Below w3.heap.size w3 w4 := by rw [e4]; exact (Below.refl _ _).alloc (Nat.le_refl _) _
  have k4 : Blk w4 (w.heap.size + 1 + 1 + 1) 3 #[.int .i64 2] := by
    have h := Blk.new w3 3 #[.int .i64 2]
    rw [← e4, z3] at h; exact h
  have z5 : w5.heap.size = w.heap.size + 5 := by rw [e5]; simp; omega
  have b5 : Below w4.heap.size w4 w5 := by rw [e5]; exact (Below.refl _ _).alloc (Nat.le_refl _) _
  have k5 : Blk w5 (w.heap.size + 1 + 1 + 1 + 1) 80 #[.int .i64 3, .slice (some ⟨w.heap.size + 1 + 1, 0, none⟩) 2 2, .int .i64 4, .slice (some ⟨w.heap.size + 1 + 1 + 1, 0, none⟩) 1 1] := by
    have h := Blk.new w4 80 #[.int .i64 3, .slice (some ⟨w.heap.size + 1 + 1, 0, none⟩) 2 2, .int .i64 4, .slice (some ⟨w.heap.size + 1 + 1 + 1, 0, none⟩) 1 1]
    rw [← e5, z4] at h; exact h
  have z6 : w6.heap.size = w.heap.size + 6 := by rw [e6]; simp; omega
  have b6 : Below w5.heap.size w5 w6 := by rw [e6]; exact (Below.refl _ _).alloc (Nat.le_refl _) _
  have k6 : Blk w6 (w.heap.size + 1 + 1 + 1 + 1 + 1) 25 #[.slice (some ⟨w.heap.size, 0, none⟩) 2 2, .slice (some ⟨w.heap.size + 1, 0, none⟩) 2 2, .slice (some ⟨w.heap.size + 1 + 1 + 1 + 1, 0, none⟩) 2 2, .int .i64 3] := by
    have h := Blk.new w5 25 #[.slice (some ⟨w.heap.size, 0, none⟩) 2 2, .slice (some ⟨w.heap.size + 1, 0, none⟩) 2 2, .slice (some ⟨w.heap.size + 1 + 1 + 1 + 1, 0, none⟩) 2 2, .int .i64 3]
    rw [← e6, z5] at h; exact h
  have bb6 : Below w6.heap.size w6 w6 := Below.refl _ _
  have bb5 : Below w5.heap.size w5 w6 := b6.trans (bb6.mono b6.size)
  have bb4 : Below w4.heap.size w4 w6 := b5.trans (bb5.mono b5.size)
  have bb3 : Below w3.heap.size w3 w6 := b4.trans (bb4.mono b4.size)
  have bb2 : Below w2.heap.size w2 w6 := b3.trans (bb3.mono b3.size)
  have bb1 : Below w1.heap.size w1 w6 := b2.trans (bb2.mono b2.size)
  have b0 : Below w.heap.size w w6 := b1.trans (bb1.mono b1.size)
  have y1 := k1.below bb1 k1.lt
  have y2 := k2.below bb2 k2.lt
  have y3 := k3.below bb3 k3.lt
  have y4 := k4.below bb4 k4.lt
  have y5 := k5.below bb5 k5.lt
  have y6 := k6.below bb6 k6.lt
  refine ⟨⟨⟨?_, ?_, ?_, ?_, ?_, ?_, ?_, ?_⟩, y6, rfl, rfl, rfl, by omega, by omega, by omega, by omega, by omega, by omega, by omega, by omega, by omega⟩, b0⟩
  · exact Rd.of_blk (us := aw12.terms.map Value.string) y1 (by omega) rfl (by decide)
  · exact Rd.of_blk (us := aw12.nons.map Value.string) y2 (by omega) rfl (by decide)
  · refine RdR.of_blk [((3, [4, 1]), .slice (some ⟨w.heap.size + 1 + 1, 0, none⟩) 2 2), ((4, [2]), .slice (some ⟨w.heap.size + 1 + 1 + 1, 0, none⟩) 1 1)] y5 (by omega) ?_ (by unfold maxLen; simp)
    intro p hp
    simp only [List.mem_cons, List.not_mem_nil, or_false] at hp
    rcases hp with rfl | rfl
    · exact Rd.of_blk (us := [Value.int .i64 4, Value.int .i64 1]) y3 (by omega) rfl (by decide)
    · exact Rd.of_blk (us := [Value.int .i64 2]) y4 (by omega) rfl (by decide)
  · intro b hb; rw [z6]; omega
  · decide
  · exact ⟨by decide, by decide⟩
  · exact ⟨by decide, by decide⟩
  · decide
theorem aw12_check : checkOf aw12 3 = 0 := by decide +kernel
theorem aw12_may : mayB aw12 3 = true := decide_eq_true aw12_check
def aw12L : List It := [(0, 0), (1, 0), (2, 0)]
theorem aw12_b0 : behindI aw12 3 (0, 0) = (4, true) := by decide +kernel
theorem aw12_b1 : behindI aw12 3 (1, 0) = (2, true) := by decide +kernel
theorem aw12_b2 : behindI aw12 3 (2, 0) = (3, true) := by decide +kernel
theorem aw12_o2 : ofOf aw12 2 = [] := by decide +kernel
theorem aw12_o3 : ofOf aw12 3 = [0] := by decide +kernel
theorem aw12_o4 : ofOf aw12 4 = [1] := by decide +kernel
theorem aw12_r2 : rightI aw12 3 (2, 1) = true := by decide +kernel
theorem aw12_is : IsCl aw12 3 [(2, 0)] aw12L := by
  have h2 : Cl aw12 3 [(2, 0)] (2, 0) := Cl.base _ (by simp) (behind_right aw12_b2).1
  have h0 : Cl aw12 3 [(2, 0)] (0, 0) := Cl.next _ 3 0 h2 aw12_b2 (by rw [aw12_o3]; simp)
  have h1 : Cl aw12 3 [(2, 0)] (1, 0) := Cl.next _ 4 1 h0 aw12_b0 (by rw [aw12_o4]; simp)
  refine ⟨by unfold StrictI aw12L; decide, fun z => ⟨fun hz => ?_, fun hz => ?_⟩⟩
  · unfold aw12L at hz
    simp only [List.mem_cons, List.not_mem_nil, or_false] at hz
    rcases hz with rfl | rfl | rfl
    · exact h0
    · exact h1
    · exact h2
  · induction hz with
    | base x hx _ =>
      obtain rfl : x = (2, 0) := by simpa using hx
      simp [aw12L]
    | next y s k _ hb hk ih =>
      unfold aw12L at ih
      simp only [List.mem_cons, List.not_mem_nil, or_false] at ih
      rcases ih with rfl | rfl | rfl
      · rw [aw12_b0] at hb
        injection hb with hb _
        subst hb
        rw [aw12_o4] at hk
        obtain rfl : k = 1 := by simpa using hk
        simp [aw12L]
      · rw [aw12_b1] at hb
        injection hb with hb _
        subst hb
        rw [aw12_o2] at hk
        cases hk
      · rw [aw12_b2] at hb
        injection hb with hb _
        subst hb
        rw [aw12_o3] at hk
        obtain rfl : k = 0 := by simpa using hk
        simp [aw12L]
theorem aw12_step : (canonI (stepsI aw12 3 aw12L 4)).length = 1 := by decide +kernel
theorem aw12_kern : (canonI (kernsI aw12 3 aw12L)).length = 1 := by decide +kernel
theorem aw12_short : ShortG aw12 3 := (KnI.of_check aw12_check).short
theorem MayClose.yes {w w' : World} {G : GramD} {st : Int} {l : List It} {e : Ending} (h : MayClose true w G st l e w') : ClosePost w G st l e w' := by
  unfold MayClose at h
  rwa [if_pos rfl] at h
set_option maxRecDepth 100000 in
set_option maxHeartbeats 4000000 in
theorem law12_awake (w : World) : Calls Tryz.prog 13 #[] w (Quiet w (.bool true)) := by
  obtain ⟨g, hb⟩ := aw12_box w
  have gd := g.below ((Below.refl _ _).drew)
  have hbd := hb.drew
  have cb := item_Begin gd.gram 3
  rw [aw12_may, if_pos rfl, show [((aw12.rules.length : Int), (0 : Int))] = [((2, 0) : It)] from rfl] at cb
  obtain ⟨q0, q1, q2, q3⟩ := g.cells
  clear g hb
  have Xcb := hide cb
  have Xgd := hide gd
  have Xhbd := hide hbd
  clear cb gd hbd
  go_enter Tryz.func13, Tryz.ntmps13
  go_wp2_with fail
  refine wp_region_held_drew (S := (fun V => V.cell? ⟨w.heap.size + 1 + 1 + 1 + 1 + 1, 0, none⟩ = some (.slice (some ⟨w.heap.size, 0, none⟩) 2 2) ∧ V.cell? ⟨w.heap.size + 1 + 1 + 1 + 1 + 1, 1, none⟩ = some (.slice (some ⟨w.heap.size + 1, 0, none⟩) 2 2) ∧ V.cell? ⟨w.heap.size + 1 + 1 + 1 + 1 + 1, 2, none⟩ = some (.slice (some ⟨w.heap.size + 1 + 1 + 1 + 1, 0, none⟩) 2 2) ∧ V.cell? ⟨w.heap.size + 1 + 1 + 1 + 1 + 1, 3, none⟩ = some (.int .i64 3))) (by kernel_rfl) ?_ (fun hHeld => ?_)
  · exact ⟨q0, q1, q2, q3⟩
  clear q0 q1 q2 q3
  refine wpAnyH_take (i := 0) (oi := ?_) (v := ?_) ?_ (by kernel_rfl) (by kernel_rfl) (by kernel_rfl) ?_ (Or.inl ⟨?_, ?_⟩) (by assumption) ?_
  rotate_left 2
  · (try simp only [List.getElem?_toArray, List.getElem?_cons_succ, List.getElem?_cons_zero]); rfl
  · exact fun _ _ _ h => h
  · rfl
  · (intro wS hwS; (try dsimp only at hwS); go_simp; all_goals with_reducible rfl)
  try simp only [Act.put, List.setIfInBounds_toArray, List.set_cons_zero, List.set_cons_succ]
  refine wpAnyH_take (i := 1) (oi := ?_) (v := ?_) ?_ (by kernel_rfl) (by kernel_rfl) (by kernel_rfl) ?_ (Or.inl ⟨?_, ?_⟩) (by assumption) ?_
  rotate_left 2
  · (try simp only [List.getElem?_toArray, List.getElem?_cons_succ, List.getElem?_cons_zero]); rfl
  · exact fun _ _ _ h => h
  · rfl
  · (intro wS hwS; (try dsimp only at hwS); go_simp; all_goals with_reducible rfl)
  try simp only [Act.put, List.setIfInBounds_toArray, List.set_cons_zero, List.set_cons_succ]
  refine wpAnyH_ready (rs := [2]) (by kernel_rfl) (by simp) ?_
  refine AllReadyH.cons (o := ?_) ?_ (fun K hK => ?_) AllReadyH.nil
  rotate_left 1
  · (try simp only [List.getElem?_toArray, List.getElem?_cons_succ, List.getElem?_cons_zero]); rfl
  go_simp
  go_at_call 17
  refine Xcb.out.mono ?_
  rintro e w2 ⟨A2, n2, c2, rfl, hr2, b2⟩
  have g2 := Xgd.out.below b2
  have hb2 := Xhbd.out.trans (b2.mono Xhbd.out.size)
  refine hK.out _ _ ?_ (fun hHeld => ?_)
  · exact g2.cells
  clear hK K
  try simp only [Act.put, List.setIfInBounds_toArray, List.set_cons_zero, List.set_cons_succ]
  have hr2' := hr2.mono (fun b hb => (hb.2 : b < w2.heap.size))
  have cc := item_Close g2.gram g2.gram.lt 3 hr2' (fun x hx => by
    obtain rfl : x = (2, 0) := by simpa using hx
    exact wf_small (by omega) (by omega))
  rw [aw12_may] at cc
  clear Xcb Xgd Xhbd b2 hr2 hr2'
  have Xcc := hide cc
  have Xg2 := hide g2
  have Xhb2 := hide hb2
  clear cc g2 hb2
  refine wpAnyH_ready (rs := [3]) (by kernel_rfl) (by simp) ?_
  refine AllReadyH.cons (o := ?_) ?_ (fun K hK => ?_) AllReadyH.nil
  rotate_left 1
  · (try simp only [List.getElem?_toArray, List.getElem?_cons_succ, List.getElem?_cons_zero]); rfl
  go_simp
  go_at_call 18
  refine Xcc.out.mono ?_
  rintro e w3 hp
  obtain ⟨o, hcl, A3, n3, c3, rfl, hr3, b3⟩ := MayClose.yes hp
  have ho : o = aw12L := strict_unique hcl.strict aw12_is.strict (fun z => by rw [hcl.mem, aw12_is.mem])
  subst ho
  have g3 := Xg2.out.below b3
  have hb3 := Xhb2.out.trans (b3.mono Xhb2.out.size)
  obtain ⟨hn3, -⟩ := RdIt.at_ hr3
  obtain rfl : n3 = 3 := hn3
  have hr3 := hr3.mono (fun b hb => (hb.2 : b < w3.heap.size))
  refine hK.out _ _ ?_ (fun hHeld => ?_)
  · exact g3.cells
  clear hK K
  try simp only [Act.put, List.setIfInBounds_toArray, List.set_cons_zero, List.set_cons_succ]
  clear Xcc Xg2 Xhb2 b3 hcl hp
  have cbh := item_Behind g3.gram 3 (1, 0)
  rw [aw12_may, if_pos rfl, aw12_b1] at cbh
  obtain ⟨q0, q1, q2, q3⟩ := g3.cells
  have Xg3 := hide g3
  have Xhb3 := hide hb3
  have Xhr3 := hide hr3
  have Xcbh := hide cbh
  clear g3 hb3 hr3 cbh
  refine wpAnyH_take (i := 4) (oi := ?_) (v := ?_) ?_ (by kernel_rfl) (by kernel_rfl) (by kernel_rfl) ?_ (Or.inl ⟨?_, ?_⟩) (by assumption) ?_
  rotate_left 2
  · (try simp only [List.getElem?_toArray, List.getElem?_cons_succ, List.getElem?_cons_zero]); rfl
  · exact fun _ _ _ h => h
  · rfl
  · (intro wS hwS; (try dsimp only at hwS); go_simp; all_goals with_reducible rfl)
  try simp only [Act.put, List.setIfInBounds_toArray, List.set_cons_zero, List.set_cons_succ]
  refine wpAnyH_done (by kernel_rfl) ?_ _
  clear hHeld
  go_wp2_with fail
  refine Xcbh.out.mono ?_
  rintro e w4 ⟨rfl, b4⟩
  have g4 := Xg3.out.below b4
  have hb4 := Xhb3.out.trans (b4.mono Xhb3.out.size)
  have hr4 := (Xhr3.out.below b4 (fun b hb => hb)).mono (fun b hb => (Nat.lt_of_lt_of_le hb b4.size : b < w4.heap.size))
  clear q0 q1 q2 q3 b4 Xg3 Xhb3 Xhr3 Xcbh
  have cr := item_Right g4.gram 3 (2, 1)
  rw [aw12_may, aw12_r2] at cr
  obtain ⟨q0, q1, q2, q3⟩ := g4.cells
  have Xg4 := hide g4
  have Xhb4 := hide hb4
  have Xhr4 := hide hr4
  have Xcr := hide cr
  clear g4 hb4 hr4 cr
  go_wp2_with fail
  with_reducible refine Xcr.out.mono ?_
  rintro e w5 ⟨rfl, b5⟩
  have g5 := Xg4.out.below b5
  have hb5 := Xhb4.out.trans (b5.mono Xhb4.out.size)
  have hr5 := (Xhr4.out.below b5 (fun b hb => hb)).mono (fun b hb => (Nat.lt_of_lt_of_le hb b5.size : b < w5.heap.size))
  clear q0 q1 q2 q3 b5 Xg4 Xhb4 Xhr4 Xcr
  have cs := item_Step g5.gram g5.gram.lt 3 hr5 (fun _ => aw12_short) (by decide) 4
  rw [aw12_may, if_pos rfl] at cs
  obtain ⟨q0, q1, q2, q3⟩ := g5.cells
  have Xg5 := hide g5
  have Xhb5 := hide hb5
  have Xhr5 := hide hr5
  have Xcs := hide cs
  clear g5 hb5 hr5 cs
  go_wp2_with fail
  refine Xcs.out.mono ?_
  rintro e w6 ⟨A6, n6, c6, rfl, hr6, b6⟩
  obtain ⟨hn6, -⟩ := RdIt.at_ hr6
  rw [aw12_step] at hn6
  subst hn6
  have g6 := Xg5.out.below b6
  have hb6 := Xhb5.out.trans (b6.mono Xhb5.out.size)
  have hr7 := (Xhr5.out.below b6 (fun b hb => hb)).mono (fun b hb => (Nat.lt_of_lt_of_le hb b6.size : b < w6.heap.size))
  clear q0 q1 q2 q3 b6 hr6 Xg5 Xhb5 Xhr5 Xcs
  have ck := item_Kernel g6.gram g6.gram.lt 3 hr7 (by decide)
  rw [aw12_may, if_pos rfl] at ck
  obtain ⟨q0, q1, q2, q3⟩ := g6.cells
  have Xg6 := hide g6
  have Xhb6 := hide hb6
  have Xhr7 := hide hr7
  have Xck := hide ck
  clear g6 hb6 hr7 ck
  go_wp2_with fail
  refine Xck.out.mono ?_
  rintro e w7 ⟨A7, n7, c7, rfl, hr8, b7⟩
  obtain ⟨hn7, -⟩ := RdIt.at_ hr8
  rw [aw12_kern] at hn7
  subst hn7
  have hb7 := Xhb6.out.trans (b7.mono Xhb6.out.size)
  clear q0 q1 q2 q3 b7 hr8 Xg6 Xhb6 Xhr7 Xck
  have Xhb7 := hide hb7
  clear hb7
  go_wp2_with fail
  go_ret
  exact ⟨rfl, Xhb7.out⟩
end Go.Proofs.YtlpokomfljmogaaGreat

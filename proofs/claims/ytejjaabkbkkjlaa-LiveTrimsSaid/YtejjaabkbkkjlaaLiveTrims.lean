/- The law LiveTrims: the walk. -/
import Derived.Test.YtejjaabkbkkjlaaLiveAwake
import Derived.Test.YtejjaabkbkkjlaaLivePlain3
namespace Go.Proofs.Ytejjaabkbkkjlaa
set_option linter.unusedVariables false
open Go.RowKit
attribute [local irreducible] wpStill wpOne wpPh

theorem dead_live {G : GramD} {st : Int} (hz : checkOf G st = 0) (h : Live G st) : deadOf G st = (0, 0) := by
  have hk := Kn.of_check hz
  refine dead_none hz fun j hj => ?_
  unfold deadB
  have h1 : hasI (G.terms.length + G.nons.length + 1) (rchB G st) ((j : Int) + 1) = true := by
    have := (rchL_mem hk).2 (h.r ((j : Int) + 1) (by omega) (by omega))
    exact mem_below.1 this
  rw [h1]
  cases hn : isNon G ((j : Int) + 1) with
  | false => rfl
  | true => rw [hasI_prd hk (h.p _ hn)]; rfl
theorem same_any (G : GramD) (st : Int) : sameOf G G st st = true := by unfold sameOf; simp

set_option maxRecDepth 100000 in
set_option maxHeartbeats 8000000 in
theorem walk_LiveTrims (C : Array Value) (G : GramD) (w : World) (hg : GramCells w C.toList G) :
    Calls Try.prog 10 #[.agg C] w (Quiet w (.bool true)) := by
  obtain ⟨vt, vn, vr, hC, hg, -⟩ := hg
  obtain rfl : C = #[vt, vn, vr, .int .i64 G.start] := Array.toList_inj.1 hC
  clear hC
  generalize G.start = st at *
  obtain ⟨A1, c1, A2, c2, A3, c3, rfl, rfl, rfl, -⟩ := hg.slices
  obtain ⟨w1, hw1⟩ : ∃ w1, w1 = w.alloc (.cells #[.slice A1 G.terms.length c1, .slice A2 G.nons.length c2, .slice A3 G.rules.length c3, .int .i64 st] 25) := ⟨_, rfl⟩
  have g1 := GBox.new hg st
  have b1 : Below w.heap.size w w1 := by rw [hw1]; exact (Below.refl _ w).alloc (Nat.le_refl _) _
  rw [← hw1] at g1
  have hm := law_much g1.gram st
  have cT := fun wr (g : GBox wr (· < w.heap.size) w.heap.size A1 c1 A2 c2 A3 c3 G.terms.length G.nons.length G.rules.length st G) => live_trim g.gram st
  have hok := @trim_trims G st
  have hno := @trim_no G st
  generalize trimOf G st = tt at *
  obtain ⟨K, ok⟩ := tt
  simp only at hok hno
  obtain ⟨q0, q1, q2, q3⟩ := g1.cells
  generalize G.terms.length = T at *
  generalize G.nons.length = N at *
  generalize G.rules.length = R at *
  generalize hF : (fun b => b < w.heap.size) = F at *
  rw [hw1] at q0 q1 q2 q3 hm
  clear hg
  have Xhm := hide hm
  have XcT := hide cT
  have Xb1 := hide b1
  have Xg1 := hide g1
  have XhF := hide hF
  have Xhok := hide hok
  have Xhno := hide hno
  clear hm cT b1 g1 hF hok hno
  go_enter Try.func10, Try.ntmps10
  go_wp2_with fail
  with_reducible refine Xhm.out.mono ?_
  rintro e w2 ⟨r, hr, rfl, b2⟩
  rw [← hw1] at b2
  have g2 := Xg1.out.below b2
  have hb2 := Xb1.out.trans (b2.mono Xb1.out.size)
  clear q0 q1 q2 q3 hw1 Xhm Xg1 Xb1 b2 hr
  by_cases hbig : 200 < r
  · have Xhb2 := hide hb2
    have Xg2 := hide g2
    clear hb2 g2
    go_wp2_with fail
    with_reducible refine (law09_awake _).mono ?_
    rintro e w3 ⟨rfl, b3⟩
    go_wp2_with fail
    go_ret
    exact ⟨rfl, Xhb2.out.trans (b3.mono Xhb2.out.size)⟩
  · obtain ⟨q0, q1, q2, q3⟩ := g2.cells
    have Xhb2 := hide hb2
    have Xg2 := hide g2
    clear hb2 g2
    go_wp2_with fail
    with_reducible refine (XcT.out _ Xg2.out).mono ?_
    rintro e w5 ⟨ut, un, ur, rfl, hg5, b5⟩
    simp only at hg5
    obtain ⟨a1, d1, a2, d2, a3, d3, rfl, rfl, rfl, -⟩ := hg5.slices
    have hb5 := Xhb2.out.trans (b5.mono Xhb2.out.size)
    have x6 := GBox.new hg5 K.start
    obtain ⟨w6, hw6⟩ : ∃ w6, w6 = w5.alloc (.cells #[.slice a1 K.terms.length d1, .slice a2 K.nons.length d2, .slice a3 K.rules.length d3, .int .i64 K.start] 25) := ⟨_, rfl⟩
    have b6 : Below w5.heap.size w5 w6 := by rw [hw6]; exact (Below.refl _ _).alloc (Nat.le_refl _) _
    rw [← hw6] at x6
    have hb6 := hb5.trans (b6.mono hb5.size)
    cases ok with
    | false =>
      have hK := Xhno.out rfl
      have cS := ref_same x6.gram (noGram_is w6 (fun _ => False) (fun k hk => hk.elim)) K.start 0
      rw [show sameOf K noGram K.start 0 = true by rw [hK]; exact same_any noGram 0, hw6] at cS
      clear q0 q1 q2 q3 b5 Xg2 Xhb2 XcT
      obtain ⟨p0, p1, p2, p3⟩ := x6.cells
      rw [hw6] at p0 p1 p2 p3
      generalize K.terms.length = n1 at *
      generalize K.nons.length = n2 at *
      generalize K.rules.length = n3 at *
      generalize K.start = su at *
      clear hK
      have Xhg5 := hide hg5
      have Xx6 := hide x6
      have Xhb6 := hide hb6
      have Xb6 := hide b6
      have XcS := hide cS
      have Xhb5 := hide hb5
      clear hg5 x6 hb6 b6 cS hb5
      go_wp2_with fail
      with_reducible refine XcS.out.mono ?_
      rintro e w7 ⟨rfl, b7⟩
      rw [← hw6] at b7
      have hb2 := Xhb6.out.trans (b7.mono Xhb6.out.size)
      clear b7
      have Xhb2 := hide hb2
      clear hb2
      go_wp2_with fail
      with_reducible refine (law09_awake _).mono ?_
      rintro e w3 ⟨rfl, b3⟩
      go_wp2_with fail
      go_ret
      exact ⟨rfl, Xhb2.out.trans (b3.mono Xhb2.out.size)⟩
    | true =>
      obtain ⟨hz, hl⟩ := Xhok.out rfl
      have cC := live_check x6.gram K.start
      rw [dead_live hz hl] at cC
      simp only at cC
      have cG := fun wr (g : GBox wr (fun k => w2.heap.size ≤ k ∧ k < w5.heap.size) w5.heap.size a1 d1 a2 d2 a3 d3 K.terms.length K.nons.length K.rules.length K.start K) => gram_check g.gram K.start
      rw [hz] at cG
      have cT6 := fun wr (g : GBox wr (fun k => w2.heap.size ≤ k ∧ k < w5.heap.size) w5.heap.size a1 d1 a2 d2 a3 d3 K.terms.length K.nons.length K.rules.length K.start K) => live_trim g.gram K.start
      rw [trim_live hz hl] at cT6
      have cS := fun wr (F' : Nat → Prop) (v1 v2 v3 : Value) (g : GBox wr (fun k => w2.heap.size ≤ k ∧ k < w5.heap.size) w5.heap.size a1 d1 a2 d2 a3 d3 K.terms.length K.nons.length K.rules.length K.start K) (h : IsGram wr F' v1 v2 v3 K) => ref_same g.gram h K.start K.start
      rw [same_any] at cS
      have hKe : (⟨K.terms, K.nons, K.rules, K.start⟩ : GramD) = K := rfl
      clear q0 q1 q2 q3 b5 Xg2 Xhb2 XcT
      obtain ⟨p0, p1, p2, p3⟩ := x6.cells
      rw [hw6] at p0 p1 p2 p3 cC
      generalize hn1 : K.terms.length = n1 at *
      generalize hn2 : K.nons.length = n2 at *
      generalize hn3 : K.rules.length = n3 at *
      generalize hsu : K.start = su at *
      have Xhg5 := hide hg5
      have Xx6 := hide x6
      have Xhb6 := hide hb6
      have Xb6 := hide b6
      have XcC := hide cC
      have XcG := hide cG
      have XcT6 := hide cT6
      have XcS := hide cS
      have Xhb5 := hide hb5
      have Xhz := hide hz
      have Xhl := hide hl
      have XhKe := hide hKe
      have Xhsu := hide hsu
      have Xhn1 := hide hn1
      have Xhn2 := hide hn2
      have Xhn3 := hide hn3
      clear hg5 x6 hb6 b6 cC cG cT6 cS hb5 hz hl hKe hsu hn1 hn2 hn3
      go_wp2_with fail
      with_reducible refine XcC.out.mono ?_
      rintro e w7 ⟨rfl, b7⟩
      rw [← hw6] at b7
      have x7 := Xx6.out.below b7
      have hb7 := Xhb6.out.trans (b7.mono Xhb6.out.size)
      clear b7 p0 p1 p2 p3 hw6 Xx6 Xhb6 XcC
      obtain ⟨p0, p1, p2, p3⟩ := x7.cells
      have Xx7 := hide x7
      have Xhb7 := hide hb7
      clear x7 hb7
      go_wp2_with fail
      with_reducible refine (XcT6.out _ Xx7.out).mono ?_
      rintro e w8 ⟨vt, vn, vr, rfl, hg8, b8⟩
      simp only at hg8
      obtain ⟨i1, j1, i2, j2, i3, j3, rfl, rfl, rfl, -⟩ := hg8.slices
      simp only [Xhn1.out, Xhn2.out, Xhn3.out] at hg8 ⊢
      have hg8' : IsGram w8 (fun k => w7.heap.size ≤ k ∧ k < w8.heap.size) (.slice i1 n1 j1) (.slice i2 n2 j2) (.slice i3 n3 j3) K := by
        have h := hg8
        rwa [← Xhsu.out] at h
      have x8 := Xx7.out.below b8
      have hb8 := Xhb7.out.trans (b8.mono Xhb7.out.size)
      obtain ⟨w9, hw9⟩ : ∃ w9, w9 = w8.alloc (.cells #[.slice i1 n1 j1, .slice i2 n2 j2, .slice i3 n3 j3, .int .i64 su] 25) := ⟨_, rfl⟩
      have b9 : Below w8.heap.size w8 w9 := by rw [hw9]; exact (Below.refl _ _).alloc (Nat.le_refl _) _
      have k9 : Blk w9 w8.heap.size 25 #[.slice i1 n1 j1, .slice i2 n2 j2, .slice i3 n3 j3, .int .i64 su] := by rw [hw9]; exact Blk.new _ _ _
      have x9 := x8.below b9
      have hg9 := hg8'.below b9
      have hb9 := hb8.trans (b9.mono hb8.size)
      have c9 := XcG.out _ x9
      rw [hw9] at c9
      have hbz := x8.blk.lt
      clear p0 p1 p2 p3 b8 b9 hg8 hg8' XcG XcT6 Xx7 Xhb7
      obtain ⟨p0, p1, p2, p3⟩ := x8.cells
      have Xx8 := hide x8
      have Xhb8 := hide hb8
      have Xk9 := hide k9
      have Xx9 := hide x9
      have Xhg9 := hide hg9
      have Xhb9 := hide hb9
      have Xc9 := hide c9
      clear x8 hb8 k9 x9 hg9 hb9 c9
      go_wp2_with fail
      with_reducible refine Xc9.out.mono ?_
      rintro e w10 ⟨rfl, b10⟩
      rw [← hw9] at b10
      have k10 := Xk9.out.below b10 Xk9.out.lt
      have x10 := Xx9.out.below b10
      have hg10 := Xhg9.out.below b10
      have hb10 := Xhb9.out.trans (b10.mono Xhb9.out.size)
      have c10 := XcS.out _ _ _ _ _ x10 hg10
      clear p0 p1 p2 p3 b10 hw9 hbz Xx8 Xhb8 Xk9 Xx9 Xhg9 Xhb9 Xc9 XcS
      obtain ⟨p0, p1, p2, p3⟩ := x10.cells
      have y0 := (k10.cell 0).trans rfl
      have y1 := (k10.cell 1).trans rfl
      have y2 := (k10.cell 2).trans rfl
      have y3 := (k10.cell 3).trans rfl
      have Xx10 := hide x10
      have Xhg10 := hide hg10
      have Xhb10 := hide hb10
      have Xk10 := hide k10
      have Xc10 := hide c10
      clear x10 hg10 hb10 k10 c10
      go_wp2_with fail
      with_reducible refine Xc10.out.mono ?_
      rintro e w11 ⟨rfl, b11⟩
      have hb2 := Xhb10.out.trans (b11.mono Xhb10.out.size)
      clear b11
      have Xhb2 := hide hb2
      clear hb2
      go_wp2_with fail
      with_reducible refine (law09_awake _).mono ?_
      rintro e w3 ⟨rfl, b3⟩
      go_wp2_with fail
      go_ret
      exact ⟨rfl, Xhb2.out.trans (b3.mono Xhb2.out.size)⟩
end Go.Proofs.Ytejjaabkbkkjlaa

/- The law LiveStays: the walk. -/
import Derived.Test.YtejjaabkbkkjlaaLiveAwake
import Derived.Test.YtejjaabkbkkjlaaLivePlain2
namespace Go.Proofs.Ytejjaabkbkkjlaa
set_option linter.unusedVariables false
open Go.RowKit
attribute [local irreducible] wpStill wpOne wpPh

theorem dead_zero {G : GramD} {st : Int} (h : (deadOf G st).1 = 0) : checkOf G st = 0 := by
  by_cases hz : checkOf G st = 0
  · exact hz
  · unfold deadOf at h
    rw [if_neg hz] at h
    exact h
theorem same_start (G : GramD) (st : Int) : sameOf G ⟨G.terms, G.nons, G.rules, st⟩ st st = true := by unfold sameOf; simp

set_option maxRecDepth 100000 in
set_option maxHeartbeats 8000000 in
theorem walk_LiveStays (C : Array Value) (G : GramD) (w : World) (hg : GramCells w C.toList G) :
    Calls Try.prog 11 #[.agg C] w (Quiet w (.bool true)) := by
  obtain ⟨vt, vn, vr, hC, hg, -⟩ := hg
  obtain rfl : C = #[vt, vn, vr, .int .i64 G.start] := Array.toList_inj.1 hC
  clear hC
  generalize G.start = st at *
  obtain ⟨A1, c1, A2, c2, A3, c3, rfl, rfl, rfl, -⟩ := hg.slices
  obtain ⟨w1, hw1⟩ : ∃ w1, w1 = w.alloc (.cells #[.slice A1 G.terms.length c1, .slice A2 G.nons.length c2, .slice A3 G.rules.length c3, .int .i64 st] 25) := ⟨_, rfl⟩
  have g1 := GBox.new hg st
  have b1 : Below w.heap.size w w1 := by rw [hw1]; exact (Below.refl _ w).alloc (Nat.le_refl _) _
  rw [← hw1] at g1
  have hm := law_much g1.gram st
  have cC := fun wr (g : GBox wr (· < w.heap.size) w.heap.size A1 c1 A2 c2 A3 c3 G.terms.length G.nons.length G.rules.length st G) => live_check g.gram st
  have cT := fun wr (g : GBox wr (· < w.heap.size) w.heap.size A1 c1 A2 c2 A3 c3 G.terms.length G.nons.length G.rules.length st G) => live_trim g.gram st
  have htl : (deadOf G st).1 = 0 → trimOf G st = (⟨G.terms, G.nons, G.rules, st⟩, true) := fun h => trim_live' (dead_zero h) h
  have cS := fun wr (F F' : Nat → Prop) (v1 v2 v3 u1 u2 u3 : Value) (h : IsGram wr F v1 v2 v3 G) (g : IsGram wr F' u1 u2 u3 ⟨G.terms, G.nons, G.rules, st⟩) => ref_same h g st st
  rw [same_start] at cS
  generalize deadOf G st = dd at *
  generalize trimOf G st = tt at *
  obtain ⟨de, ds⟩ := dd
  simp only at cC htl
  obtain ⟨q0, q1, q2, q3⟩ := g1.cells
  generalize hT : G.terms.length = T at *
  generalize hN : G.nons.length = N at *
  generalize hR : G.rules.length = R at *
  generalize hF : (fun b => b < w.heap.size) = F at *
  rw [hw1] at q0 q1 q2 q3 hm
  clear hg
  have Xhm := hide hm
  have XcC := hide cC
  have XcT := hide cT
  have Xb1 := hide b1
  have Xg1 := hide g1
  have XhF := hide hF
  have Xhtl := hide htl
  have XcS := hide cS
  have XhT := hide hT
  have XhN := hide hN
  have XhR := hide hR
  clear hm cC cT b1 g1 hF htl cS hT hN hR
  go_enter Try.func11, Try.ntmps11
  go_wp2_with fail
  with_reducible refine Xhm.out.mono ?_
  rintro e w2 ⟨r, hr, rfl, b2⟩
  rw [← hw1] at b2
  have g2 := Xg1.out.below b2
  have hb2 := Xb1.out.trans (b2.mono Xb1.out.size)
  clear q0 q1 q2 q3 hw1 Xhm Xg1 Xb1 b2 hr
  by_cases hbig : 200 < r
  · have Xhb2 := hide hb2
    have Xg2 := hide g2
    clear hb2 g2
    go_wp2_with fail
    with_reducible refine (law09_awake _).mono ?_
    rintro e w3 ⟨rfl, b3⟩
    go_wp2_with fail
    go_ret
    exact ⟨rfl, Xhb2.out.trans (b3.mono Xhb2.out.size)⟩
  · obtain ⟨q0, q1, q2, q3⟩ := g2.cells
    have Xhb2 := hide hb2
    have Xg2 := hide g2
    clear hb2 g2
    go_wp2_with fail
    with_reducible refine (XcC.out _ Xg2.out).mono ?_
    rintro e w3 ⟨rfl, b3⟩
    have g3 := Xg2.out.below b3
    have hb3 := Xhb2.out.trans (b3.mono Xhb2.out.size)
    clear q0 q1 q2 q3 b3 Xg2 Xhb2 XcC
    by_cases hd : de = 0
    · subst hd
      have ht := Xhtl.out rfl
      subst ht
      obtain ⟨q0, q1, q2, q3⟩ := g3.cells
      have Xhb3 := hide hb3
      have Xg3 := hide g3
      clear hb3 g3
      go_wp2_with fail
      with_reducible refine (XcT.out _ Xg3.out).mono ?_
      rintro e w5 ⟨ut, un, ur, rfl, hg5, b5⟩
      simp only at hg5
      obtain ⟨a1, d1, a2, d2, a3, d3, rfl, rfl, rfl, -⟩ := hg5.slices
      simp only [XhT.out, XhN.out, XhR.out] at hg5 ⊢
      have g5 := Xg3.out.below b5
      have hb5 := Xhb3.out.trans (b5.mono Xhb3.out.size)
      have hbz := g5.blk.lt
      have b6 : Below w5.heap.size w5 (w5.alloc (.cells #[.slice a1 T d1, .slice a2 N d2, .slice a3 R d3, .int .i64 st] 25)) := (Below.refl _ _).alloc (Nat.le_refl _) _
      have cs := XcS.out _ _ _ _ _ _ _ _ _ (g5.below b6).gram (hg5.below b6)
      obtain ⟨q0, q1, q2, q3⟩ := g5.cells
      have hb6 := hb5.trans (b6.mono hb5.size)
      clear b5
      have Xg5 := hide g5
      have Xhb5 := hide hb5
      have Xcs := hide cs
      have Xhb6 := hide hb6
      have Xb6 := hide b6
      have Xhg5 := hide hg5
      clear g5 hb5 cs hb6 b6 hg5
      go_wp2_with fail
      with_reducible refine Xcs.out.mono ?_
      rintro e w7 ⟨rfl, b7⟩
      have hb2 := Xhb6.out.trans (b7.mono Xhb6.out.size)
      clear b7
      have Xhb2 := hide hb2
      clear hb2
      go_wp2_with fail
      with_reducible refine (law09_awake _).mono ?_
      rintro e w3 ⟨rfl, b3⟩
      go_wp2_with fail
      go_ret
      exact ⟨rfl, Xhb2.out.trans (b3.mono Xhb2.out.size)⟩
    · have hdn : (de != 0) = true := by simpa using hd
      have hb2 := hb3
      have Xhb2 := hide hb2
      have Xhb3 := hide hb3
      have Xg3 := hide g3
      clear hb2 hb3 g3
      go_wp2_with fail
      with_reducible refine (law09_awake _).mono ?_
      rintro e w3 ⟨rfl, b3⟩
      go_wp2_with fail
      go_ret
      exact ⟨rfl, Xhb2.out.trans (b3.mono Xhb2.out.size)⟩
end Go.Proofs.Ytejjaabkbkkjlaa

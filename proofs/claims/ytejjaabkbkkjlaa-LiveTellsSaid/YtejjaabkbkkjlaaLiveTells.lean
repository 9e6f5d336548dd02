/- The law LiveTells: the walk. -/
import Derived.Test.YtejjaabkbkkjlaaLiveAwake
import Derived.Test.YtejjaabkbkkjlaaLeast1
namespace Go.Proofs.Ytejjaabkbkkjlaa
set_option linter.unusedVariables false
open Go.RowKit
attribute [local irreducible] wpStill wpOne wpPh

theorem sameOf_it (G : GramD) (st : Int) : sameOf G G st st = true := by unfold sameOf; simp
theorem ref_same9 {w : World} {F G : Nat → Prop} {v u : Value} {xs ys : List Int} (h : RdI w F v xs) (g : RdI w G u ys) :
    Calls Try.prog 55 #[v, u] w (Quiet w (.bool (decide (xs = ys)))) := by
  have hI := ref_ints3 h g
  have XhI := hide hI
  clear hI
  go_enter Try.func55, Try.ntmps55
  go_wp2_with fail
  with_reducible refine XhI.out.mono ?_
  rintro e w2 ⟨rfl, b2⟩
  go_wp2_with fail
  go_ret
  exact ⟨rfl, b2⟩

/-- three boxed grammars -/
structure Three (w wr : World) (F : Nat → Prop) (A1 : Option Addr) (c1 : Nat) (A2 : Option Addr) (c2 : Nat) (A3 : Option Addr) (c3 T N R : Nat) (st : Int) (G : GramD)
    (Fh : Nat → Prop) (hb : Nat) (a1 : Option Addr) (d1 : Nat) (a2 : Option Addr) (d2 : Nat) (a3 : Option Addr) (d3 : Nat) (Fx : Nat → Prop) (xb : Nat) (e1 : Option Addr) (f1 : Nat) (e2 : Option Addr) (f2 : Nat) (e3 : Option Addr) (f3 n1 n2 n3 : Nat) (su : Int) (K : GramD) : Prop where
  g : GBox wr F w.heap.size A1 c1 A2 c2 A3 c3 T N R st G
  h : GBox wr Fh hb a1 d1 a2 d2 a3 d3 n1 n2 n3 su K
  x : GBox wr Fx xb e1 f1 e2 f2 e3 f3 n1 n2 n3 su K
  b : Below w.heap.size w wr
section
variable {w wr wr' : World} {F : Nat → Prop} {A1 : Option Addr} {c1 : Nat} {A2 : Option Addr} {c2 : Nat} {A3 : Option Addr} {c3 T N R : Nat} {st : Int} {G : GramD}
    {Fh : Nat → Prop} {hb : Nat} {a1 : Option Addr} {d1 : Nat} {a2 : Option Addr} {d2 : Nat} {a3 : Option Addr} {d3 : Nat} {Fx : Nat → Prop} {xb : Nat} {e1 : Option Addr} {f1 : Nat} {e2 : Option Addr} {f2 : Nat} {e3 : Option Addr} {f3 n1 n2 n3 : Nat} {su : Int} {K : GramD}
theorem Three.below (h : Three w wr F A1 c1 A2 c2 A3 c3 T N R st G Fh hb a1 d1 a2 d2 a3 d3 Fx xb e1 f1 e2 f2 e3 f3 n1 n2 n3 su K) (b : Below wr.heap.size wr wr') : Three w wr' F A1 c1 A2 c2 A3 c3 T N R st G Fh hb a1 d1 a2 d2 a3 d3 Fx xb e1 f1 e2 f2 e3 f3 n1 n2 n3 su K :=
  ⟨h.g.below b, h.h.below b, h.x.below b, h.b.trans (b.mono h.b.size)⟩
theorem Three.cells (h : Three w wr F A1 c1 A2 c2 A3 c3 T N R st G Fh hb a1 d1 a2 d2 a3 d3 Fx xb e1 f1 e2 f2 e3 f3 n1 n2 n3 su K) : (wr.cell? ⟨w.heap.size, 0, none⟩ = some (.slice A1 T c1) ∧ wr.cell? ⟨w.heap.size, 1, none⟩ = some (.slice A2 N c2) ∧ wr.cell? ⟨w.heap.size, 2, none⟩ = some (.slice A3 R c3) ∧ wr.cell? ⟨w.heap.size, 3, none⟩ = some (.int .i64 st)) ∧
    (wr.cell? ⟨hb, 0, none⟩ = some (.slice a1 n1 d1) ∧ wr.cell? ⟨hb, 1, none⟩ = some (.slice a2 n2 d2) ∧ wr.cell? ⟨hb, 2, none⟩ = some (.slice a3 n3 d3) ∧ wr.cell? ⟨hb, 3, none⟩ = some (.int .i64 su)) ∧
    (wr.cell? ⟨xb, 0, none⟩ = some (.slice e1 n1 f1) ∧ wr.cell? ⟨xb, 1, none⟩ = some (.slice e2 n2 f2) ∧ wr.cell? ⟨xb, 2, none⟩ = some (.slice e3 n3 f3) ∧ wr.cell? ⟨xb, 3, none⟩ = some (.int .i64 su)) := ⟨h.g.cells, h.h.cells, h.x.cells⟩
end

/-- the value that Trim hands back, boxed -/
theorem box_of {w : World} {F : Nat → Prop} {a1 a2 a3 : Option Addr} {d1 d2 d3 : Nat} {K : GramD} {n1 n2 n3 : Nat} (h1 : K.terms.length = n1) (h2 : K.nons.length = n2) (h3 : K.rules.length = n3) (h : IsGram w F (.slice a1 n1 d1) (.slice a2 n2 d2) (.slice a3 n3 d3) K) (su : Int) :
    GBox (w.alloc (.cells #[.slice a1 n1 d1, .slice a2 n2 d2, .slice a3 n3 d3, .int .i64 su] 25)) F w.heap.size a1 d1 a2 d2 a3 d3 n1 n2 n3 su K := by
  subst h1 h2 h3
  exact GBox.new h su

set_option maxRecDepth 100000 in
set_option maxHeartbeats 8000000 in
theorem walk_LiveTells (C : Array Value) (G : GramD) (w : World) (hg : GramCells w C.toList G) :
    Calls Try.prog 9 #[.agg C] w (Quiet w (.bool true)) := by
  obtain ⟨vt, vn, vr, hC, hg, -⟩ := hg
  obtain rfl : C = #[vt, vn, vr, .int .i64 G.start] := Array.toList_inj.1 hC
  clear hC
  generalize G.start = st at *
  obtain ⟨A1, c1, A2, c2, A3, c3, rfl, rfl, rfl, -⟩ := hg.slices
  obtain ⟨w1, hw1⟩ : ∃ w1, w1 = w.alloc (.cells #[.slice A1 G.terms.length c1, .slice A2 G.nons.length c2, .slice A3 G.rules.length c3, .int .i64 st] 25) := ⟨_, rfl⟩
  have g1 := GBox.new hg st
  have b1 : Below w.heap.size w w1 := by rw [hw1]; exact (Below.refl _ w).alloc (Nat.le_refl _) _
  rw [← hw1] at g1
  have hm := law_much g1.gram st
  have cC := fun wr (g : GBox wr (· < w.heap.size) w.heap.size A1 c1 A2 c2 A3 c3 G.terms.length G.nons.length G.rules.length st G) => live_check g.gram st
  have cC2 := fun wr (g : GBox wr (· < w.heap.size) w.heap.size A1 c1 A2 c2 A3 c3 G.terms.length G.nons.length G.rules.length st G) => ref_check9 g.gram st
  have cT := fun wr (g : GBox wr (· < w.heap.size) w.heap.size A1 c1 A2 c2 A3 c3 G.terms.length G.nons.length G.rules.length st G) => live_trim g.gram st
  have cT2 := fun wr (g : GBox wr (· < w.heap.size) w.heap.size A1 c1 A2 c2 A3 c3 G.terms.length G.nons.length G.rules.length st G) => ref_trim g.gram st
  have cP := fun wr (g : GBox wr (· < w.heap.size) w.heap.size A1 c1 A2 c2 A3 c3 G.terms.length G.nons.length G.rules.length st G) => live_productives g.gram st
  have cP2 := fun wr (g : GBox wr (· < w.heap.size) w.heap.size A1 c1 A2 c2 A3 c3 G.terms.length G.nons.length G.rules.length st G) => ref_productives g.gram st
  have cR := fun wr (g : GBox wr (· < w.heap.size) w.heap.size A1 c1 A2 c2 A3 c3 G.terms.length G.nons.length G.rules.length st G) => live_reacheds g.gram st
  have cR2 := fun wr (g : GBox wr (· < w.heap.size) w.heap.size A1 c1 A2 c2 A3 c3 G.terms.length G.nons.length G.rules.length st G) => ref_reacheds g.gram st
  generalize deadOf G st = dd at *
  generalize trimOf G st = tt at *
  generalize productiveOf G st = pp at *
  generalize reachedOf G st = rr at *
  obtain ⟨TG, ok⟩ := tt
  obtain ⟨de, ds⟩ := dd
  simp only at cC cC2
  obtain ⟨q0, q1, q2, q3⟩ := g1.cells
  generalize G.terms.length = T at *
  generalize G.nons.length = N at *
  generalize G.rules.length = R at *
  generalize hF : (fun b => b < w.heap.size) = F at *
  rw [hw1] at q0 q1 q2 q3 hm
  clear hg
  have Xhm := hide hm
  have XcC := hide cC
  have XcC2 := hide cC2
  have XcT := hide cT
  have XcT2 := hide cT2
  have XcP := hide cP
  have XcP2 := hide cP2
  have XcR := hide cR
  have XcR2 := hide cR2
  have Xb1 := hide b1
  have Xg1 := hide g1
  have XhF := hide hF
  clear hm cC cC2 cT cT2 cP cP2 cR cR2 b1 g1 hF
  go_enter Try.func9, Try.ntmps9
  go_wp2_with fail
  with_reducible refine Xhm.out.mono ?_
  rintro e w2 ⟨r, hr, rfl, b2⟩
  rw [← hw1] at b2
  have g2 := Xg1.out.below b2
  have hb2 := Xb1.out.trans (b2.mono Xb1.out.size)
  clear q0 q1 q2 q3 hw1 Xhm Xg1 Xb1 b2 hr
  by_cases hbig : 200 < r
  · have Xhb2 := hide hb2
    have Xg2 := hide g2
    clear hb2 g2
    go_wp2_with fail
    with_reducible refine (law09_awake _).mono ?_
    rintro e w3 ⟨rfl, b3⟩
    go_wp2_with fail
    go_ret
    exact ⟨rfl, Xhb2.out.trans (b3.mono Xhb2.out.size)⟩
  · obtain ⟨q0, q1, q2, q3⟩ := g2.cells
    have Xhb2 := hide hb2
    have Xg2 := hide g2
    clear hb2 g2
    go_wp2_with fail
    with_reducible refine (XcC.out _ Xg2.out).mono ?_
    rintro e w3 ⟨rfl, b3⟩
    have g3 := Xg2.out.below b3
    have hb3 := Xhb2.out.trans (b3.mono Xhb2.out.size)
    clear q0 q1 q2 q3 b3 Xg2 Xhb2 XcC
    obtain ⟨q0, q1, q2, q3⟩ := g3.cells
    have Xhb3 := hide hb3
    have Xg3 := hide g3
    clear hb3 g3
    go_wp2_with fail
    with_reducible refine (XcC2.out _ Xg3.out).mono ?_
    rintro e w4 ⟨rfl, b4⟩
    have g4 := Xg3.out.below b4
    have hb4 := Xhb3.out.trans (b4.mono Xhb3.out.size)
    clear q0 q1 q2 q3 b4 Xg3 Xhb3 XcC2
    obtain ⟨q0, q1, q2, q3⟩ := g4.cells
    have Xhb4 := hide hb4
    have Xg4 := hide g4
    clear hb4 g4
    go_wp2_with fail
    with_reducible refine (XcT.out _ Xg4.out).mono ?_
    rintro e w5 ⟨ut, un, ur, rfl, hg5, b5⟩
    simp only at hg5
    obtain ⟨a1, d1, a2, d2, a3, d3, rfl, rfl, rfl, -⟩ := hg5.slices
    generalize hn1 : TG.terms.length = n1 at *
    generalize hn2 : TG.nons.length = n2 at *
    generalize hn3 : TG.rules.length = n3 at *
    have x6 := box_of hn1 hn2 hn3 hg5 TG.start
    have g5 := Xg4.out.below b5
    have hb5 := Xhb4.out.trans (b5.mono Xhb4.out.size)
    have hbz := g5.blk.lt
    obtain ⟨w6, hw6⟩ : ∃ w6, w6 = w5.alloc (.cells #[.slice a1 n1 d1, .slice a2 n2 d2, .slice a3 n3 d3, .int .i64 TG.start] 25) := ⟨_, rfl⟩
    have b6 : Below w5.heap.size w5 w6 := by rw [hw6]; exact (Below.refl _ _).alloc (Nat.le_refl _) _
    rw [← hw6] at x6
    have g6 := g5.below b6
    have hb6 := hb5.trans (b6.mono hb5.size)
    have c6 := XcT2.out _ g6
    clear q0 q1 q2 q3 b5 b6 hg5 Xg4 Xhb4 XcT XcT2
    obtain ⟨q0, q1, q2, q3⟩ := g5.cells
    rw [hw6] at c6
    have Xg5 := hide g5
    have Xhb5 := hide hb5
    have Xx6 := hide x6
    have Xg6 := hide g6
    have Xhb6 := hide hb6
    have Xc6 := hide c6
    have Xhn1 := hide hn1
    have Xhn2 := hide hn2
    have Xhn3 := hide hn3
    clear g5 hb5 x6 g6 hb6 c6 hn1 hn2 hn3
    go_wp2_with fail
    with_reducible refine Xc6.out.mono ?_
    rintro e w7 ⟨ut, un, ur, rfl, hg7, b7⟩
    simp only at hg7
    rw [← hw6] at b7
    obtain ⟨e1, f1, e2, f2, e3, f3, rfl, rfl, rfl, -⟩ := hg7.slices
    rw [Xhn1.out, Xhn2.out, Xhn3.out] at hg7 ⊢
    have x8 := box_of Xhn1.out Xhn2.out Xhn3.out hg7 TG.start
    have g7 := Xg6.out.below b7
    have y7 := Xx6.out.below b7
    have hb7 := Xhb6.out.trans (b7.mono Xhb6.out.size)
    obtain ⟨w8, hw8⟩ : ∃ w8, w8 = w7.alloc (.cells #[.slice e1 n1 f1, .slice e2 n2 f2, .slice e3 n3 f3, .int .i64 TG.start] 25) := ⟨_, rfl⟩
    have b8 : Below w7.heap.size w7 w8 := by rw [hw8]; exact (Below.refl _ _).alloc (Nat.le_refl _) _
    rw [← hw8] at x8
    have t8 : Three w w8 F A1 c1 A2 c2 A3 c3 T N R st G _ w5.heap.size a1 d1 a2 d2 a3 d3 _ w7.heap.size e1 f1 e2 f2 e3 f3 n1 n2 n3 TG.start TG := ⟨g7.below b8, y7.below b8, x8, hb7.trans (b8.mono hb7.size)⟩
    have td := t8.below ((Below.refl _ w8).drew)
    obtain ⟨kg, kh, kx⟩ := td.cells
    have hbz7 := g7.blk.lt
    have hbz8 := y7.blk.lt
    clear q0 q1 q2 q3 b7 b8 hg7 Xg6 Xhb6 Xc6 hw6 Xx6 Xg5 Xhb5 hbz g7 y7 hb7 x8 t8
    generalize w5.heap.size = hb at *
    go_upto_region 7 with fail
    rw [← hw8]
    generalize w7.heap.size = xb at *
    clear hw8 hbz7 hbz8
    obtain ⟨q0, q1, q2, q3⟩ := kg
    obtain ⟨h0, h1, h2, h3⟩ := kh
    obtain ⟨x0, x1, x2, x3⟩ := kx
    have Xtd := hide td
    clear td
    go_region_held3 (fun w' => (w'.cell? ⟨w.heap.size, 0, none⟩ = some (.slice A1 T c1) ∧ w'.cell? ⟨w.heap.size, 1, none⟩ = some (.slice A2 N c2) ∧ w'.cell? ⟨w.heap.size, 2, none⟩ = some (.slice A3 R c3) ∧ w'.cell? ⟨w.heap.size, 3, none⟩ = some (.int .i64 st)) ∧ (w'.cell? ⟨hb, 0, none⟩ = some (.slice a1 n1 d1) ∧ w'.cell? ⟨hb, 1, none⟩ = some (.slice a2 n2 d2) ∧ w'.cell? ⟨hb, 2, none⟩ = some (.slice a3 n3 d3) ∧ w'.cell? ⟨hb, 3, none⟩ = some (.int .i64 TG.start)) ∧ (w'.cell? ⟨xb, 0, none⟩ = some (.slice e1 n1 f1) ∧ w'.cell? ⟨xb, 1, none⟩ = some (.slice e2 n2 f2) ∧ w'.cell? ⟨xb, 2, none⟩ = some (.slice e3 n3 f3) ∧ w'.cell? ⟨xb, 3, none⟩ = some (.int .i64 TG.start)))
      (first | assumption | exact Xtd.out.cells | go_keep)
      (first
        | (go_at_call 56; (with_reducible refine (XcP.out _ Xtd.out.g).mono ?_); rintro e wa ⟨Aa, na, ca, rfl, hra, ba⟩; have ta := Xtd.out.below ba; have ka := ta.cells)
        | (go_at_call 57; (with_reducible refine (XcP2.out _ ta.g).mono ?_); rintro e wb ⟨Ab, nb, cb, rfl, hrb, bb⟩; have tb := ta.below bb; have kb := tb.cells; have hI1 := ref_same9 (hra.below bb (fun k hk => hk.2)) hrb; rw [decide_eq_true rfl] at hI1)
        | (go_at_call 55; (with_reducible refine hI1.mono ?_); rintro e wc ⟨rfl, bc⟩; have tc := tb.below bc; have kc := tc.cells)
        | (go_at_call 58; (with_reducible refine (XcR.out _ tc.g).mono ?_); rintro e wd ⟨Ad, nd, cd, rfl, hrd, bd⟩; have te := tc.below bd; have ke := te.cells)
        | (go_at_call 59; (with_reducible refine (XcR2.out _ te.g).mono ?_); rintro e wf ⟨Af, nf, cf, rfl, hrf, bf⟩; have tf := te.below bf; have kf := tf.cells; have hI2 := ref_same9 (hrd.below bf (fun k hk => hk.2)) hrf; rw [decide_eq_true rfl] at hI2)
        | (go_at_call 55; (with_reducible refine hI2.mono ?_); rintro e wi ⟨rfl, bi⟩; have ti := tf.below bi; have ki := ti.cells; have cS := ref_same ti.h.gram ti.x.gram TG.start TG.start; rw [sameOf_it] at cS)
        | (go_at_call 39; (with_reducible refine cS.mono ?_); rintro e wj ⟨rfl, bj⟩; have tj := ti.below bj; have kj := tj.cells)
        | (go_at_call 50; (with_reducible refine (law09_awake _).mono ?_); rintro e wl ⟨rfl, bl⟩; have tl := tj.below bl; have kl := tl.cells))
    go_wp2_with fail
    go_ret
    exact ⟨rfl, tl.b⟩
end Go.Proofs.Ytejjaabkbkkjlaa

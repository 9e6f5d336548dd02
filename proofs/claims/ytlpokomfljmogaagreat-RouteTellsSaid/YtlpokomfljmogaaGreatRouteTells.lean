/- The statement RouteTells: the walk. -/
import Derived.Test.YtlpokomfljmogaaGreatRoute5
namespace Go.Proofs.YtlpokomfljmogaaGreat
set_option linter.unusedVariables false
set_option linter.unusedSimpArgs false
open Go.RowKit
attribute [local irreducible] wpStill wpOne wpPh
structure RtSt (w wr : World) (a a' : Option Addr) (S : List FoundD) (L : List (List Int)) (gz : Nat) (cs : Array Value) : Prop where
 rt : RtIs wr a S L
 rr : RRtIs wr a' S L
 le : Below w.heap.size w wr
 k : Blk wr gz 63 cs
theorem RtSt.below {w wr wq : World} {a a' : Option Addr} {S : List FoundD} {L : List (List Int)} {gz : Nat} {cs : Array Value} (h : RtSt w wr a a' S L gz cs) (b : Below wr.heap.size wr wq) : RtSt w wq a a' S L gz cs :=
 ⟨h.rt.below b, h.rr.below b, h.le.trans (b.mono h.le.size), h.k.below b h.k.lt⟩
theorem OutRd.flat {w w' : World} {p : Bool × List Int} {e : Ending} (h : OutRd w p e w') : ∃ A n c, e = .returned (.tuple #[.slice A n c, .bool p.1]) ∧ RdI w' (fun k => k < w'.heap.size) (.slice A n c) p.2 ∧ Below w.heap.size w w' := h
set_option maxRecDepth 100000 in
set_option maxHeartbeats 8000000 in
theorem walk_RouteTells (C : Array Value) (G : GramD) (C' : Array Value) (x : Int × Int) (w : World) (hg : GramCells w C.toList G) (hc : ClashCells C'.toList x) :
  Calls Tryz.prog 8 #[.agg C, .agg C'] w (Quiet w (.bool true)) := by
 obtain ⟨cst, ctm⟩ := x
 obtain ⟨j1, j2, j3, j4, hC'⟩ := hc
 obtain rfl : C' = #[.int .i64 cst, .int .i64 ctm, j1, j2, j3, j4] := Array.toList_inj.1 hC'
 clear hC'
 obtain ⟨vt, vn, vr, hC, hg, -⟩ := hg
 obtain rfl : C = #[vt, vn, vr, .int .i64 G.start] := Array.toList_inj.1 hC
 clear hC
 generalize G.start = st at *
 obtain ⟨A1, c1, A2, c2, A3, c3, rfl, rfl, rfl, -⟩ := hg.slices
 obtain ⟨w0, hw0⟩ : ∃ w1, w1 = w.alloc (.cells #[.slice A1 G.terms.length c1, .slice A2 G.nons.length c2, .slice A3 G.rules.length c3, .int .i64 st] 25) := ⟨_, rfl⟩
 have g0 := GBox.new hg st
 have b0 : Below w.heap.size w w0 := by rw [hw0]; exact (Below.refl _ w).alloc (Nat.le_refl _) _
 rw [← hw0] at g0
 obtain ⟨w1, hw1⟩ : ∃ q, q = w0.alloc (.cells #[.int .i64 cst, .int .i64 ctm, j1, j2, j3, j4] 63) := ⟨_, rfl⟩
 have al : Below w0.heap.size w0 w1 := by rw [hw1]; exact (Below.refl _ _).alloc (Nat.le_refl _) _
 have k1 : Blk w1 w0.heap.size 63 #[.int .i64 cst, .int .i64 ctm, j1, j2, j3, j4] := by rw [hw1]; exact Blk.new _ _ _
 have g1 := g0.below al
 have b1 := b0.trans (al.mono b0.size)
 have hz0 : w0.heap.size = w.heap.size + 1 := by rw [hw0]; simp
 rw [hz0] at k1
 clear g0 b0 al hz0
 have hm := law_much g1.gram st
 have rb := fun wr (g : GBox wr (· < w.heap.size) w.heap.size A1 c1 A2 c2 A3 c3 G.terms.length G.nons.length G.rules.length st G) => ref16_Of g.gram st
 have ro := fun wr (g : GBox wr (· < w.heap.size) w.heap.size A1 c1 A2 c2 A3 c3 G.terms.length G.nons.length G.rules.length st G) => route_Of g.gram st
 obtain ⟨q0, q1, q2, q3⟩ := g1.cells
 generalize G.terms.length = T at *
 generalize G.nons.length = N at *
 generalize G.rules.length = R at *
 obtain ⟨F, hF⟩ : ∃ F : Nat → Prop, F = fun b => b < w.heap.size := ⟨_, rfl⟩
 rw [← hF] at g1 rb ro
 rw [hw1, hw0] at q0 q1 q2 q3 hm
 clear hg hF
 generalize checkOf G st = ck at *
 have Xhm := hide hm
 have Xrb := hide rb
 have Xro := hide ro
 have Xg1 := hide g1
 have Xb1 := hide b1
 have Xk1 := hide k1
 clear hm rb ro g1 b1 k1
 go_enter Tryz.func8, Tryz.ntmps8
 go_wp2_with fail
 refine Xhm.out.mono ?_
 rintro e w2 ⟨r, hr, rfl, b2⟩
 rw [← hw0, ← hw1] at b2
 have g2 := Xg1.out.below b2
 have bb2 := Xb1.out.trans (b2.mono Xb1.out.size)
 have k2 := Xk1.out.below b2 Xk1.out.lt
 clear q0 q1 q2 q3 hw1 hw0 Xhm Xg1 Xb1 Xk1 b2 hr
 by_cases hbig : 60 < r
 ·have Xbb2 := hide bb2
  have Xg2 := hide g2
  have Xk2 := hide k2
  clear bb2 g2 k2
  go_wp2_with fail
  refine (law16_awake _).mono ?_
  rintro e w3 ⟨rfl, b3⟩
  have bb3 := Xbb2.out.trans (b3.mono Xbb2.out.size)
  clear b3
  have Xbb3 := hide bb3
  clear bb3
  go_wp2_with fail
  go_ret
  exact ⟨rfl, Xbb3.out⟩
 ·have c2' := Xro.out _ g2
  obtain ⟨q0, q1, q2, q3⟩ := g2.cells
  have Xbb2 := hide bb2
  have Xg2 := hide g2
  have Xc2' := hide c2'
  have Xk2 := hide k2
  clear bb2 g2 c2' k2
  go_wp2_with fail
  refine Xc2'.out.mono ?_
  rintro e w3 hp
  obtain ⟨b3, a, ev, D, S, L, rfl, hai, rt3, hor⟩ := hp.flat
  have g3 := Xg2.out.below b3
  have bb3 := Xbb2.out.trans (b3.mono Xbb2.out.size)
  have k3 := Xk2.out.below b3 Xk2.out.lt
  clear q0 q1 q2 q3 hp Xc2' Xg2 Xbb2 b3 Xk2
  have c3' := Xrb.out _ g3
  obtain ⟨q0, q1, q2, q3⟩ := g3.cells
  have Xbb3 := hide bb3
  have Xg3 := hide g3
  have Xc3' := hide c3'
  have Xrt3 := hide rt3
  have Xhai := hide hai
  have Xhor := hide hor
  have Xk3 := hide k3
  clear bb3 g3 c3' rt3 hai hor k3
  go_wp2_with fail
  refine Xc3'.out.mono ?_
  rintro e w4 hp
  obtain ⟨b4, a', ev', D', S', L', rfl, hai', rr4, hor'⟩ := hp.flat
  obtain ⟨rfl, rfl⟩ := Xhai.out.unique hai'
  obtain ⟨S2, h1, h2⟩ : ∃ S2, RtIs w4 a S2 L ∧ RRtIs w4 a' S2 L := by
   have rt4 := Xrt3.out.below b4
   rcases Xhor.out with ⟨h, rfl, rfl⟩ | ⟨h, hw, hf⟩
   ·rcases hor' with ⟨-, rfl, -⟩ | ⟨h', -⟩
    ·exact ⟨[], .inl ⟨rfl, rfl⟩, .inl ⟨rfl, rfl⟩⟩
    ·exact absurd h' h
   ·rcases hor' with ⟨h', -⟩ | ⟨-, hw', hf'⟩
    ·exact absurd h h'
    ·obtain rfl := fixed_unique hw.1 hw'.1
     subst h
     obtain rfl := hf.unique hai'.dw hf'
     exact ⟨S, rt4, rr4⟩
  have p4 : RtSt w w4 a a' S2 L (w.heap.size + 1) #[.int .i64 cst, .int .i64 ctm, j1, j2, j3, j4] := ⟨h1, h2, Xbb3.out.trans (b4.mono Xbb3.out.size), Xk3.out.below b4 Xk3.out.lt⟩
  have hee : (ev != ev) = false := by simp
  obtain ⟨n, hn⟩ : ∃ n, n = L.length := ⟨_, rfl⟩
  have hn2 : n ≤ 2000 := by
   rcases h1 with ⟨-, h⟩ | ⟨_, _, -, ⟨_, _, _, m, _, -, h, h', -⟩, -⟩
   ·rw [hn, h]; decide
   ·omega
  have c1 := route_Len p4.rt
  have c2 := fun wr => fun (h : RtSt w wr a a' S2 L (w.heap.size + 1) #[.int .i64 cst, .int .i64 ctm, j1, j2, j3, j4]) => ref16_Len h.rr
  rw [← hn] at c1
  simp only [← hn] at c2
  clear h1 h2 q0 q1 q2 q3 hp Xc3' Xg3 Xbb3 b4 Xrt3 hai' hor' rr4 Xhai Xhor Xk3
  have Xp4 := hide p4
  have Xhn := hide hn
  have Xc1 := hide c1
  have Xc2 := hide c2
  clear p4 hn c1 c2
  go_wp2_with fail
  refine Xc1.out.mono ?_
  rintro e w' ⟨rfl, rfl⟩
  clear Xc1
  go_wp2_with fail
  refine (Xc2.out _ Xp4.out).mono ?_
  rintro e w' ⟨rfl, rfl⟩
  go_wp2_with fail
  go_loopw [9] (fun ix wr => ∃ k : Nat, k ≤ n + 2 ∧ ix = .int .i64 ((k : Int) - 1) ∧ RtSt w wr a a' S2 L (w.heap.size + 1) #[.int .i64 cst, .int .i64 ctm, j1, j2, j3, j4]) (fun ix _ => n + 2 - (intOf ix + 1).toNat)
  case atStart => exact ⟨0, Nat.zero_le _, rfl, Xp4.out⟩
  case round =>
   clear Xp4
   obtain ⟨k, hk, rfl, p⟩ := hrel
   have cl := Xc2.out _ p
   have Xp := hide p
   have Xcl := hide cl
   clear p cl
   go_wp2_with fail
   refine Xcl.out.mono ?_
   rintro e w' ⟨rfl, rfl⟩
   clear Xcl
   by_cases hlt : k ≤ n + 1
   ·have hlt' : (k : Int) - 1 ≤ (n : Int) := by omega
    obtain ⟨i, hi⟩ : ∃ i : Int, i = (k : Int) - 1 := ⟨_, rfl⟩
    rw [← hi] at hlt' ⊢
    have cw := route_Way Xp.out.rt i
    obtain ⟨y, hy⟩ : ∃ y, y = wayR L i := ⟨_, rfl⟩
    rw [← hy] at cw
    have Xcw := hide cw
    have Xhi := hide hi
    have Xhy := hide hy
    clear cw hi hy
    go_wp2_with fail
    refine Xcw.out.mono ?_
    rintro e w5 ho
    obtain ⟨A5, n5, c5, rfl, -, r5, b5⟩ := ho.flat
    have p5 := Xp.out.below b5
    have cw := ref16_Way p5.rr i
    rw [← Xhy.out] at cw
    clear ho Xp Xcw b5
    have Xp5 := hide p5
    have Xcw := hide cw
    have Xr5 := hide r5
    clear p5 cw r5
    go_wp2_with fail
    refine Xcw.out.mono ?_
    rintro e w6 ⟨rfl, ho⟩
    obtain ⟨A6, n6, c6, rfl, r6, -⟩ := ho.flat
    have ct := route_Text Xp5.out.rt i
    obtain ⟨z, hz⟩ : ∃ z, z = textR L S2 i := ⟨_, rfl⟩
    rw [← hz] at ct
    clear ho Xcw
    have Xct := hide ct
    have Xr6 := hide r6
    have Xhz := hide hz
    clear ct r6 hz
    go_wp2_with fail
    refine Xct.out.mono ?_
    rintro e w7 ho
    obtain ⟨A7, n7, c7, rfl, -, r7, b7⟩ := ho.flat
    have p7 := Xp5.out.below b7
    have r5 := (Xr5.out.below b7 (fun b hb => hb)).mono (F' := fun b => b < w7.heap.size) (fun b hb => Nat.lt_of_lt_of_le hb b7.size)
    have r6 := (Xr6.out.below b7 (fun b hb => hb)).mono (F' := fun b => b < w7.heap.size) (fun b hb => Nat.lt_of_lt_of_le hb b7.size)
    have ct := ref16_Text p7.rr i
    rw [← Xhz.out] at ct
    clear ho Xp5 Xct b7 Xr5 Xr6
    have Xp7 := hide p7
    have Xr5 := hide r5
    have Xr6 := hide r6
    have Xr7 := hide r7
    have Xct := hide ct
    clear p7 r5 r6 r7 ct
    go_wp2_with fail
    refine Xct.out.mono ?_
    rintro e w8 ho
    obtain ⟨A8, n8, c8, rfl, r8, b8⟩ := ho.flat
    have p8 := Xp7.out.below b8
    have r5 := (Xr5.out.below b8 (fun b hb => hb)).mono (F' := fun b => b < w8.heap.size) (fun b hb => Nat.lt_of_lt_of_le hb b8.size)
    have r6 := (Xr6.out.below b8 (fun b hb => hb)).mono (F' := fun b => b < w8.heap.size) (fun b hb => Nat.lt_of_lt_of_le hb b8.size)
    have r7 := (Xr7.out.below b8 (fun b hb => hb)).mono (F' := fun b => b < w8.heap.size) (fun b hb => Nat.lt_of_lt_of_le hb b8.size)
    have i1 := ref_ints3 r5 r6
    have i2 : ∀ w9, Below w8.heap.size w8 w9 → _ := fun w9 b9 => ref_ints3 (r7.below b9 (fun b hb => hb)) (r8.below b9 (fun b hb => hb))
    rw [decide_eq_true rfl] at i1
    simp only [decide_true] at i2
    have e1 : (y.1 != y.1) = false := by simp
    have e2 : (z.1 != z.1) = false := by simp
    clear ho Xp7 Xct b8 Xr5 Xr6 Xr7 r5 r6 r7 r8
    generalize y.1 = y1 at *
    generalize z.1 = z1 at *
    clear Xhy Xhz
    have Xp8 := hide p8
    have Xi1 := hide i1
    have Xi2 := hide i2
    clear p8 i1 i2
    go_wp2_with fail
    refine Xi1.out.mono ?_
    rintro e w9 ⟨rfl, b9⟩
    have p9 := Xp8.out.below b9
    have i3 := Xi2.out _ b9
    clear b9 Xi1 Xi2 Xp8
    have Xp9 := hide p9
    have Xi3 := hide i3
    clear p9 i3
    go_wp2_with fail
    refine Xi3.out.mono ?_
    rintro e w10 ⟨rfl, b10⟩
    have p10 := Xp9.out.below b10
    have hi := Xhi.out
    clear b10 Xi3 Xp9 Xhi
    have Xp10 := hide p10
    clear p10
    have hwr : IntKind.i64.wrap (i + 1) = i + 1 := by rw [IntKind.wrap_i64]; omega
    go_wp2_with fail
    go_roundw
    case rel => exact ⟨k + 1, by omega, int_eq (by omega), Xp10.out⟩
    case measure => simp [intOf]; omega
   ·have hlt' : ¬ (k : Int) - 1 ≤ (n : Int) := by omega
    have cw := route_Witness Xp.out.rt cst ctm j1 j2 j3 j4
    have d0 := (Xp.out.k.cell 0).trans rfl
    have d1 := (Xp.out.k.cell 1).trans rfl
    have d2 := (Xp.out.k.cell 2).trans rfl
    have d3 := (Xp.out.k.cell 3).trans rfl
    have d4 := (Xp.out.k.cell 4).trans rfl
    have d5 := (Xp.out.k.cell 5).trans rfl
    obtain ⟨z, hz⟩ : ∃ z, z = witR L S2 cst ctm := ⟨_, rfl⟩
    rw [← hz] at cw
    have Xcw := hide cw
    have Xhz := hide hz
    clear cw hz
    go_wp2_with fail
    refine Xcw.out.mono ?_
    rintro e w5 ho
    obtain ⟨A5, n5, c5, rfl, -, r5, b5⟩ := ho.flat
    have p5 := Xp.out.below b5
    have cw := ref16_Witness p5.rr cst ctm j1 j2 j3 j4
    rw [← Xhz.out] at cw
    clear ho Xp Xcw b5 d0 d1 d2 d3 d4 d5
    have d0 := (p5.k.cell 0).trans rfl
    have d1 := (p5.k.cell 1).trans rfl
    have d2 := (p5.k.cell 2).trans rfl
    have d3 := (p5.k.cell 3).trans rfl
    have d4 := (p5.k.cell 4).trans rfl
    have d5 := (p5.k.cell 5).trans rfl
    have Xp5 := hide p5
    have Xcw := hide cw
    have Xr5 := hide r5
    clear p5 cw r5
    go_wp2_with fail
    refine Xcw.out.mono ?_
    rintro e w6 ho
    obtain ⟨A6, n6, c6, rfl, r6, b6⟩ := ho.flat
    have bb6 := Xp5.out.le.trans (b6.mono Xp5.out.le.size)
    have i1 := ref_ints3 (Xr5.out.below b6 (fun b hb => hb)) r6
    rw [decide_eq_true rfl] at i1
    have e1 : (z.1 == z.1) = true := by simp
    clear ho Xp5 Xcw b6 Xr5 r6 d0 d1 d2 d3 d4 d5
    generalize z.1 = z1 at *
    clear Xhz
    have Xbb6 := hide bb6
    have Xi1 := hide i1
    clear bb6 i1
    go_wp2_with fail
    refine Xi1.out.mono ?_
    rintro e w7 ⟨rfl, b7⟩
    have bb7 := Xbb6.out.trans (b7.mono Xbb6.out.size)
    clear b7 Xi1 Xbb6
    have Xbb7 := hide bb7
    clear bb7
    go_wp2_with fail
    refine (law16_awake _).mono ?_
    rintro e w8 ⟨rfl, b8⟩
    have bb8 := Xbb7.out.trans (b8.mono Xbb7.out.size)
    clear b8
    have Xbb8 := hide bb8
    clear bb8
    go_wp2_with fail
    go_ret
    exact ⟨rfl, Xbb8.out⟩
end Go.Proofs.YtlpokomfljmogaaGreat

/- Any calls that make nodes: the walk of the statement ArenaDoes. -/
import Derived.Test.YtacankgalkffmaaGreatArPlay
import Derived.Test.YtacankgalkffmaaGreatArAw
import Derived.Test.YtacankgalkffmaaGreatArena15
namespace Go.Proofs.YtacankgalkffmaaGreat
set_option linter.unusedVariables false
set_option linter.unusedSimpArgs false
open Go.RowKit
attribute [local irreducible] wpStill wpOne wpPh
section
variable {B bt bx : Nat} {w wr W : World} {L : List Nd} {F : Nat → Prop} {vt vn vr : Value} {G : GramD}
theorem Two2.nodeA (h : Two2 B w wr bt bx L L) (hG : GoodL L 60) (i : Int) : Calls Tryz.prog 7 #[.pointer (some ⟨bt, 0, none⟩), .int .i64 i] wr (NodePost wr L i) := by
 obtain ⟨S, T, h1, -⟩ := h
 exact arena_Node h1 (fun x hx => by have := hG.kids x hx; omega) i
theorem Two2.nodeX (h : Two2 B w wr bt bx L L) (i : Int) : Calls Tryz.prog 8 #[.pointer (some ⟨bx, 0, none⟩), .int .i64 i] wr (RNodePost wr (fun _ => True) L i) := by
 obtain ⟨S, T, -, h2, -⟩ := h
 exact (ref19_Node h2 i).mono fun e W ⟨a, z, b, c⟩ => ⟨a, z, b, Rd.mono c fun _ _ => trivial⟩
theorem Two2.showA (h : Two2 B w wr bt bx L L) (hG : GoodL L 60) (hg : IsGram wr F vt vn vr G) (hN : ∀ s, (nameOf G s).toList.length ≤ 10000) (st i : Int) : Calls Tryz.prog 10 #[.pointer (some ⟨bt, 0, none⟩), GV vt vn vr st, .int .i64 i] wr (Quiet wr (.string (showT G L i))) := by
 obtain ⟨S, T, h1, -⟩ := h
 exact arena_Show h1 hG.tr (by have := hG.len; omega) hg hN st i
theorem Two2.showX (h : Two2 B w wr bt bx L L) (hG : GoodL L 60) (hg : IsGram wr F vt vn vr G) (hN : ∀ s, (nameOf G s).toList.length ≤ 10000) (hs : G.terms.length + G.nons.length ≤ 65536) (st i : Int) : Calls Tryz.prog 11 #[.pointer (some ⟨bx, 0, none⟩), GV vt vn vr st, .int .i64 i] wr (Quiet wr (.string (showT G L i))) := by
 obtain ⟨S, T, -, h2, -⟩ := h
 exact ref19_Show hG.tr (by have := hG.len; omega) hN hs st _ i wr (Nat.lt_succ_self _) h2 hg
theorem Two2.chkA (h : Two2 B w wr bt bx L L) (hG : GoodL L 60) (hg : IsGram wr F vt vn vr G) (hF : ∀ b, F b → b < wr.heap.size) (st i : Int) : Calls Tryz.prog 12 #[.pointer (some ⟨bt, 0, none⟩), GV vt vn vr st, .int .i64 i] wr (Quiet wr (.bool (chkO G st L i))) := by
 obtain ⟨S, T, h1, -⟩ := h
 exact arena_Check h1 hG.tr (by have := hG.len; omega) hg hF st i
theorem Two2.chkX (h : Two2 B w wr bt bx L L) (hG : GoodL L 60) (hg : IsGram wr F vt vn vr G) (st i : Int) : Calls Tryz.prog 13 #[.pointer (some ⟨bx, 0, none⟩), GV vt vn vr st, .int .i64 i] wr (Quiet wr (.bool (chkO G st L i))) := by
 obtain ⟨S, T, -, h2, -⟩ := h
 exact ref19_Check hG.tr h2 hg st i
theorem Two2.twin (h : Two2 B w wr bt bx L L) (hG : GoodL L 60) : Calls Tryz.prog 14 #[.pointer (some ⟨bt, 0, none⟩)] wr (TwinPost wr L) := by
 obtain ⟨S, T, h1, -⟩ := h
 exact arena_Twin h1 (by have := hG.len; omega) (fun x hx => by have := hG.kids x hx; omega)
def IntsAny (w : World) (xs : List Int) (e : Ending) (w' : World) : Prop := Below w.heap.size w w' ∧ ∃ z, e = .returned z ∧ RdI w' (fun _ => True) z xs
theorem IntsPost.any {xs : List Int} {e : Ending} (h : IntsPost w xs e W) : IntsAny w xs e W := by
 obtain ⟨b, A, c, he, own⟩ := h
 exact ⟨b, _, he, (Rd.of_own own).mono fun _ _ => trivial⟩
theorem IntsRd.any {xs : List Int} {e : Ending} (h : IntsRd w xs e W) : IntsAny w xs e W := by
 obtain ⟨b, A, c, he, own⟩ := h
 exact ⟨b, _, he, Rd.mono own fun _ _ => trivial⟩
theorem Two2.rootsA (h : Two2 B w wr bt bx L L) (hG : GoodL L 60) : Calls Tryz.prog 20 #[.pointer (some ⟨bt, 0, none⟩)] wr (IntsAny wr (rootsL L)) := by
 obtain ⟨S, T, h1, -⟩ := h
 exact (arena_Roots h1 (by have := hG.len; omega)).mono fun e W h => h.any
theorem Two2.rootsX (h : Two2 B w wr bt bx L L) (hG : GoodL L 60) : Calls Tryz.prog 21 #[.pointer (some ⟨bx, 0, none⟩)] wr (IntsAny wr (rootsL L)) := by
 obtain ⟨S, T, -, h2, -⟩ := h
 exact (ref19_Roots h2 (by have := hG.len; omega)).mono fun e W h => h.any
theorem Two2.leavesA (h : Two2 B w wr bt bx L L) (hG : GoodL L 60) (i : Int) : Calls Tryz.prog 18 #[.pointer (some ⟨bt, 0, none⟩), .int .i64 i] wr (IntsAny wr (numsO L i)) := by
 obtain ⟨S, T, h1, -⟩ := h
 exact (arena_Leaves h1 hG.tr (by have := hG.len; omega) i).mono fun e W h => h.any
theorem Two2.leavesX (h : Two2 B w wr bt bx L L) (hG : GoodL L 60) (i : Int) : Calls Tryz.prog 19 #[.pointer (some ⟨bx, 0, none⟩), .int .i64 i] wr (IntsAny wr (numsO L i)) := by
 obtain ⟨S, T, -, h2, -⟩ := h
 exact (ref19_Leaves hG.tr (by have := hG.len; omega) h2 i).mono fun e W h => h.any
theorem Two2.yieldA (h : Two2 B w wr bt bx L L) (hG : GoodL L 60) (i : Int) : Calls Tryz.prog 22 #[.pointer (some ⟨bt, 0, none⟩), .int .i64 i] wr (IntsAny wr (symsO L i)) := by
 obtain ⟨S, T, h1, -⟩ := h
 exact (arena_Yield h1 hG.tr (by have := hG.len; omega) i).mono fun e W h => h.any
theorem Two2.yieldX (h : Two2 B w wr bt bx L L) (hG : GoodL L 60) (i : Int) : Calls Tryz.prog 23 #[.pointer (some ⟨bx, 0, none⟩), .int .i64 i] wr (IntsAny wr (symsO L i)) := by
 obtain ⟨S, T, -, h2, -⟩ := h
 exact (ref19_Yield hG.tr (by have := hG.len; omega) h2 i).mono fun e W h => h.any
theorem numsO_leaf {L : List Nd} (h : Tr L) (s n i : Int) (hi : i ≠ (L.length : Int)) : numsO (leafL L s n) i = numsO L i := by
 rcases e : inN L.length i with _ | _
 ·have e2 : inN (leafL L s n).length i = false := by
   rcases e3 : inN (leafL L s n).length i with _ | _
   ·rfl
   ·obtain ⟨h0, h1⟩ := inN_iff.1 e3
    unfold leafL at h1
    rw [List.length_append, List.length_singleton] at h1
    have := inN_iff.2 (show 0 ≤ i ∧ i < (L.length : Int) from ⟨h0, by omega⟩)
    rw [e] at this
    cases this
  unfold numsO plcI
  rw [e, e2]
  rfl
 ·exact numsO_app h _ e fun j x hx => ⟨x, by unfold leafL; rw [List.getElem?_append_left (List.getElem?_eq_some_iff.1 hx).1]; exact hx, rfl, rfl, rfl⟩
end
def NodeV (w : World) (s l r : Int) (ib : Bool) (ks : List Int) (e : Ending) (w' : World) : Prop := Below w.heap.size w w' ∧ ∃ A n c, e = .returned (.tuple #[.agg #[.int .i64 s, .int .i64 l, .int .i64 r, .slice A n c], .bool ib]) ∧ RdI w' (fun _ => True) (.slice A n c) ks
theorem two_nodes {B bt bx : Nat} {w : World} {L : List Nd} (hG : GoodL L 60) (i : Int) : ∃ s l r ib ks, (∀ wr, Two2 B w wr bt bx L L → Calls Tryz.prog 7 #[.pointer (some ⟨bt, 0, none⟩), .int .i64 i] wr (NodeV wr s l r ib ks)) ∧ (∀ wr, Two2 B w wr bt bx L L → Calls Tryz.prog 8 #[.pointer (some ⟨bx, 0, none⟩), .int .i64 i] wr (NodeV wr s l r ib ks)) :=
 ⟨_, _, _, _, _, fun wr h => (h.nodeA hG i).mono fun e W ⟨a, z, b, c⟩ => by
  obtain ⟨A, n, c', rfl, -⟩ := id c
  exact ⟨a, A, n, c', b, Rd.mono c fun _ _ => trivial⟩, fun wr h => (h.nodeX i).mono fun e W ⟨a, z, b, c⟩ => by
  obtain ⟨A, n, c', rfl, -⟩ := id c
  exact ⟨a, A, n, c', b, c⟩⟩
theorem RdOp.mono {w : World} {F F' : Nat → Prop} {v : Value} {l : List OpD} (h : RdOp w F v l) (hF : ∀ b, F b → F' b) : RdOp w F' v l := by
 obtain ⟨A, c, hv, h1, h2, hr⟩ := h
 refine ⟨A, c, hv, h1, h2, fun hn => ?_⟩
 obtain ⟨b, off, hA, hb, hc⟩ := hr hn
 refine ⟨b, off, hA, hF b hb, fun i x hx => ?_⟩
 obtain ⟨cs, hl, ⟨z, he, hz⟩, hu⟩ := hc i x hx
 exact ⟨cs, hl, ⟨z, he, Rd.mono hz hF⟩, hu⟩
theorem RdI.b {w W : World} {F : Nat → Prop} {z : Value} {xs : List Int} (h : RdI w F z xs) (b : Below w.heap.size w W) : RdI W F z xs := Rd.touch h (Touch.of_size b (fun _ => False)) fun _ _ c => c
set_option maxRecDepth 100000 in
set_option maxHeartbeats 40000000 in
theorem walk_ArenaDoes (v : Value) (ops : List OpD) (C : Array Value) (G : GramD) (i : Int) (w : World) (hv : RdOp w (· < w.heap.size) v ops ∧ ops.length * 48 ≤ 140737488351232) (hg : GramCells w C.toList G) (hi : (Lit.int .i64 i).wf = true) :
  Calls Tryz.prog 3 #[v, .agg C, .int .i64 i] w (Quiet w (.bool true)) := by
 obtain ⟨hv, -⟩ := hv
 obtain ⟨vt, vn, vr, hC, hg, -⟩ := hg
 obtain rfl : C = #[vt, vn, vr, .int .i64 G.start] := Array.toList_inj.1 hC
 clear hC hi
 generalize G.start = st at *
 obtain ⟨A1, c1, A2, c2, A3, c3, rfl, rfl, rfl, -⟩ := hg.slices
 obtain ⟨A, c, rfl, hnc, hcm⟩ := hv.shape
 obtain ⟨w1, hw1⟩ : ∃ q, w.alloc (.cells #[.slice A1 G.terms.length c1, .slice A2 G.nons.length c2, .slice A3 G.rules.length c3, .int .i64 st] 26) = q := ⟨_, rfl⟩
 have g1 := GBox.new hg st
 rw [hw1] at g1
 have b1 : Below w.heap.size w w1 := by rw [← hw1]; exact (Below.refl _ w).alloc (Nat.le_refl _) _
 have hm := law_muchS g1.gram st
 have hgs : G.terms.length ≤ G.terms.length + G.nons.length + G.rules.length := by omega
 obtain ⟨q0, q1, q2, q3⟩ := g1.cells
 clear hg hgs
 have Xhm := hide hm
 have Xg1 := hide g1
 have Xb1 := hide b1
 have Xhv := hide hv
 clear hm g1 b1 hv
 go_enter Tryz.func3, Tryz.ntmps3
 go_wp2_with fail
 with_reducible refine Xhm.out.mono ?_
 rintro e w2 ⟨r, hr, hs1, hs2, rfl, b2⟩
 have g2 := Xg1.out.below b2
 have bb2 := Xb1.out.trans (b2.mono Xb1.out.size)
 clear q0 q1 q2 q3 hw1 Xhm Xg1 Xb1 b2
 by_cases hbig : 60 < r
 ·clear hr hs1 hs2
  have Xbb2 := hide bb2
  have Xg2 := hide g2
  clear bb2 g2
  go_wp2_with fail
  with_reducible refine (law19_awake _).mono ?_
  rintro e w3 ⟨rfl, b3⟩
  go_wp2_with fail
  go_ret
  exact ⟨rfl, Xbb2.out.trans (b3.mono Xbb2.out.size)⟩
 ·have hN := names_short hr (by omega) hs1 hs2
  have hsm : G.terms.length + G.nons.length ≤ 65536 := by omega
  have zb2 := bb2.size
  have hv2 := RdOp.mono (F' := (· < w2.heap.size)) (RdOp.touch Xhv.out (Touch.of_below bb2) (fun b hb c => by omega)) (fun b hb => by omega)
  have cP := law19_Play hv2
  clear hr hs1 hs2 Xhv hv2
  obtain ⟨T, hT⟩ : ∃ T, T = G.terms.length := ⟨_, rfl⟩
  obtain ⟨N, hNn⟩ : ∃ N, N = G.nons.length := ⟨_, rfl⟩
  obtain ⟨R, hR⟩ : ∃ R, R = G.rules.length := ⟨_, rfl⟩
  rw [← hT, ← hNn, ← hR] at g2 ⊢
  have XcP := hide cP
  have Xg2 := hide g2
  have Xbb2 := hide bb2
  have XhN := hide hN
  have Xhsm := hide hsm
  have XhT := hide hT
  have XhNn := hide hNn
  have XhR := hide hR
  clear cP g2 bb2 hN hsm hT hNn hR
  go_wp2_with fail
  with_reducible refine XcP.out.mono ?_
  rintro e w3 ⟨bt, bx, L, rfl, h3, hG⟩
  have g3 := Xg2.out.below h3.bel
  have bb3 := Xbb2.out.trans (h3.bel.mono zb2)
  clear Xg2 Xbb2 XcP
  obtain ⟨sy1, lf1, ru1, ib, ks, cNA, cNX⟩ := two_nodes (B := w2.heap.size) (w := w2) (bt := bt) (bx := bx) hG i
  have c4 := cNA w3 h3
  have zz3 := h3.sz
  have Xc4 := hide c4
  have XcNX := hide cNX
  have Xg3 := hide g3
  have Xh3 := hide h3
  have XhG := hide hG
  have Xbb3 := hide bb3
  clear c4 cNX g3 h3 hG bb3
  clear cNA
  go_wp2_with fail
  with_reducible refine Xc4.out.mono ?_
  rintro e w4 ⟨b4, A4, n4, k4, rfl, rd4⟩
  obtain ⟨w5, hw5⟩ : ∃ q, w4.alloc (.cells #[.int .i64 sy1, .int .i64 lf1, .int .i64 ru1, .slice A4 n4 k4] 35) = q := ⟨_, rfl⟩
  obtain ⟨B4, hB4⟩ : ∃ q, w4.heap.size = q := ⟨_, rfl⟩
  have b5 : Below w4.heap.size w4 w5 := by rw [← hw5]; exact (Below.refl _ _).alloc (Nat.le_refl _) _
  have k5 : Blk w5 B4 35 #[.int .i64 sy1, .int .i64 lf1, .int .i64 ru1, .slice A4 n4 k4] := by rw [← hw5, ← hB4]; exact Blk.new _ _ _
  have h5 := (Xh3.out.below b4).below b5
  have g5 := (Xg3.out.below b4).below b5
  have bb5 := (Xbb3.out.trans (b4.mono Xbb3.out.size)).trans (b5.mono (Xbb3.out.trans (b4.mono Xbb3.out.size)).size)
  have c6 := XcNX.out w5 h5
  have rd5 := rd4.b b5
  have lt5 := k5.lt
  have z5 := b5.size
  clear Xc4 XcNX Xh3 Xg3 Xbb3 b4 b5 rd4
  have Xc6 := hide c6
  have Xk5 := hide k5
  have Xh5 := hide h5
  have Xg5 := hide g5
  have Xbb5 := hide bb5
  have Xrd5 := hide rd5
  clear c6 k5 h5 g5 bb5 rd5
  go_wp2_with fail
  with_reducible refine Xc6.out.mono ?_
  rintro e w6 ⟨b6, A6, n6, k6, rfl, rd6⟩
  obtain ⟨w7, hw7⟩ : ∃ q, w6.alloc (.cells #[.int .i64 sy1, .int .i64 lf1, .int .i64 ru1, .slice A6 n6 k6] 35) = q := ⟨_, rfl⟩
  obtain ⟨B6, hB6⟩ : ∃ q, w6.heap.size = q := ⟨_, rfl⟩
  have b7 : Below w6.heap.size w6 w7 := by rw [← hw7]; exact (Below.refl _ _).alloc (Nat.le_refl _) _
  have m7 : Blk w7 B6 35 #[.int .i64 sy1, .int .i64 lf1, .int .i64 ru1, .slice A6 n6 k6] := by rw [← hw7, ← hB6]; exact Blk.new _ _ _
  have z6 := b6.size
  have k7 := (Xk5.out.below b6 (by omega)).below b7 (by omega)
  have h7 := (Xh5.out.below b6).below b7
  have g7 := (Xg5.out.below b6).below b7
  have bb6 := Xbb5.out.trans (b6.mono Xbb5.out.size)
  have bb7 := bb6.trans (b7.mono bb6.size)
  have rd7 := (Xrd5.out.b b6).b b7
  have re7 := rd6.b b7
  obtain ⟨Ax, cx, hrow, hrc, hrm⟩ := h7.row
  obtain ⟨ll, hll⟩ : ∃ ll, ll = L.length := ⟨_, rfl⟩
  rw [← hll] at hrow hrc
  have cell : ∀ W, Below w7.heap.size w7 W → (W.cell? ⟨w.heap.size, 0, none⟩ = some (.slice A1 T c1) ∧ W.cell? ⟨w.heap.size, 1, none⟩ = some (.slice A2 N c2) ∧ W.cell? ⟨w.heap.size, 2, none⟩ = some (.slice A3 R c3) ∧ W.cell? ⟨w.heap.size, 3, none⟩ = some (.int .i64 st)) ∧ (W.cell? ⟨B4, 0, none⟩ = some (.int .i64 sy1) ∧ W.cell? ⟨B4, 1, none⟩ = some (.int .i64 lf1) ∧ W.cell? ⟨B4, 2, none⟩ = some (.int .i64 ru1) ∧ W.cell? ⟨B4, 3, none⟩ = some (.slice A4 n4 k4)) ∧ (W.cell? ⟨B6, 0, none⟩ = some (.int .i64 sy1) ∧ W.cell? ⟨B6, 1, none⟩ = some (.int .i64 lf1) ∧ W.cell? ⟨B6, 2, none⟩ = some (.int .i64 ru1) ∧ W.cell? ⟨B6, 3, none⟩ = some (.slice A6 n6 k6)) := fun W b =>
   ⟨(g7.below b).cells, ⟨(k7.below b k7.lt).cell 0, (k7.below b k7.lt).cell 1, (k7.below b k7.lt).cell 2, (k7.below b k7.lt).cell 3⟩, ⟨(m7.below b m7.lt).cell 0, (m7.below b m7.lt).cell 1, (m7.below b m7.lt).cell 2, (m7.below b m7.lt).cell 3⟩⟩
  have cell2 : ∀ W, Below w7.heap.size w7 W → W.cell? ⟨w.heap.size, 0, none⟩ = some (.slice A1 T c1) ∧ W.cell? ⟨w.heap.size, 1, none⟩ = some (.slice A2 N c2) ∧ W.cell? ⟨w.heap.size, 2, none⟩ = some (.slice A3 R c3) ∧ W.cell? ⟨w.heap.size, 3, none⟩ = some (.int .i64 st) ∧ W.cell? ⟨bx, 0, none⟩ = some (.slice Ax ll cx) := fun W b => by
   obtain ⟨a1, a2, a3, a4⟩ := (g7.below b).cells
   exact ⟨a1, a2, a3, a4, upA_cell b hrow⟩
  have cS : ∀ W, Below w7.heap.size w7 W → Calls Tryz.prog 9 #[.agg #[.int .i64 sy1, .int .i64 lf1, .int .i64 ru1, .slice A4 n4 k4], .agg #[.int .i64 sy1, .int .i64 lf1, .int .i64 ru1, .slice A6 n6 k6]] W (Quiet W (.bool true)) := fun W b => ref19_Same sy1 lf1 ru1 (rd7.b b) (re7.b b)
  have hNN := XhN.out
  have hss := Xhsm.out
  have hGG := XhG.out
  have gram : ∀ W, Below w7.heap.size w7 W → IsGram W (fun x => x < w.heap.size) (.slice A1 T c1) (.slice A2 N c2) (.slice A3 R c3) G := fun W b => (g7.below b).gram
  have cSA : ∀ W, Below w7.heap.size w7 W → Calls Tryz.prog 10 #[.pointer (some ⟨bt, 0, none⟩), GV (.slice A1 T c1) (.slice A2 N c2) (.slice A3 R c3) st, .int .i64 i] W (Quiet W (.string (showT G L i))) := fun W b => (h7.below b).showA hGG (gram W b) hNN st i
  have cSX : ∀ W, Below w7.heap.size w7 W → Calls Tryz.prog 11 #[.pointer (some ⟨bx, 0, none⟩), GV (.slice A1 T c1) (.slice A2 N c2) (.slice A3 R c3) st, .int .i64 i] W (Quiet W (.string (showT G L i))) := fun W b => (h7.below b).showX hGG (gram W b) hNN hss st i
  have cCA : ∀ W, Below w7.heap.size w7 W → Calls Tryz.prog 12 #[.pointer (some ⟨bt, 0, none⟩), GV (.slice A1 T c1) (.slice A2 N c2) (.slice A3 R c3) st, .int .i64 i] W (Quiet W (.bool (chkO G st L i))) := fun W b => (h7.below b).chkA hGG (gram W b) (fun x hx => by have := b.size; have := bb7.size; omega) st i
  have cCX : ∀ W, Below w7.heap.size w7 W → Calls Tryz.prog 13 #[.pointer (some ⟨bx, 0, none⟩), GV (.slice A1 T c1) (.slice A2 N c2) (.slice A3 R c3) st, .int .i64 i] W (Quiet W (.bool (chkO G st L i))) := fun W b => (h7.below b).chkX hGG (gram W b) st i
  have cUS : ∀ (bu : Nat) (U : Nat → Prop) W, Below w7.heap.size w7 W → Ar W bu U L → Calls Tryz.prog 10 #[.pointer (some ⟨bu, 0, none⟩), GV (.slice A1 T c1) (.slice A2 N c2) (.slice A3 R c3) st, .int .i64 i] W (Quiet W (.string (showT G L i))) := fun bu U W b hu => arena_Show hu hGG.tr (by have := hGG.len; omega) (gram W b) hNN st i
  obtain ⟨sh, hsh⟩ : ∃ q, q = showT G L i := ⟨_, rfl⟩
  rw [← hsh] at cSA cSX cUS
  obtain ⟨ck, hck⟩ : ∃ q, q = chkO G st L i := ⟨_, rfl⟩
  rw [← hck] at cCA cCX
  have n1 : (ib != ib) = false := by simp
  have n3 : (ck != ck) = false := by simp
  have hB0 := (Below.refl w7.heap.size w7).drew
  have S0 := cell _ hB0
  clear Xc6 Xk5 Xh5 Xg5 Xbb5 b6 b7 k7 m7 bb6 rd7 re7 rd6 Xrd5 lt5 z5 z6 hsh hck g7 gram hrow hNN hss
  have Xcell := hide cell
  have Xcell2 := hide cell2
  have XcS := hide cS
  have XcSA := hide cSA
  have XcSX := hide cSX
  have XcCA := hide cCA
  have XcCX := hide cCX
  have XcUS := hide cUS
  have Xh7 := hide h7
  have Xbb7 := hide bb7
  have Xhll := hide hll
  have XhGG := hide hGG
  clear cell cell2 cS cSA cSX cCA cCX cUS h7 bb7 hll hGG
  go_wp2_with fail
  go_region_held3 (fun W => (W.cell? ⟨w.heap.size, 0, none⟩ = some (.slice A1 T c1) ∧ W.cell? ⟨w.heap.size, 1, none⟩ = some (.slice A2 N c2) ∧ W.cell? ⟨w.heap.size, 2, none⟩ = some (.slice A3 R c3) ∧ W.cell? ⟨w.heap.size, 3, none⟩ = some (.int .i64 st)) ∧ (W.cell? ⟨B4, 0, none⟩ = some (.int .i64 sy1) ∧ W.cell? ⟨B4, 1, none⟩ = some (.int .i64 lf1) ∧ W.cell? ⟨B4, 2, none⟩ = some (.int .i64 ru1) ∧ W.cell? ⟨B4, 3, none⟩ = some (.slice A4 n4 k4)) ∧ (W.cell? ⟨B6, 0, none⟩ = some (.int .i64 sy1) ∧ W.cell? ⟨B6, 1, none⟩ = some (.int .i64 lf1) ∧ W.cell? ⟨B6, 2, none⟩ = some (.int .i64 ru1) ∧ W.cell? ⟨B6, 3, none⟩ = some (.slice A6 n6 k6)))
   (first | assumption | go_keep)
   (first
    | (go_at_call 9; (with_reducible refine (XcS.out _ hB0).mono ?_); rintro e wa ⟨rfl, ba⟩; have hBa := hB0.trans (ba.mono hB0.size); have ka := Xcell.out _ hBa)
    | (go_at_call 10; (with_reducible refine (XcSA.out _ hBa).mono ?_); rintro e wb ⟨rfl, ba2⟩; have hBb := hBa.trans (ba2.mono hBa.size); have kb := Xcell.out _ hBb)
    | (go_at_call 11; (with_reducible refine (XcSX.out _ hBb).mono ?_); rintro e wc ⟨rfl, ba3⟩; have hBc := hBb.trans (ba3.mono hBb.size); have kc := Xcell.out _ hBc)
    | (go_at_call 12; (with_reducible refine (XcCA.out _ hBc).mono ?_); rintro e wd ⟨rfl, ba4⟩; have hBd := hBc.trans (ba4.mono hBc.size); have kd := Xcell.out _ hBd)
    | (go_at_call 13; (with_reducible refine (XcCX.out _ hBd).mono ?_); rintro e we ⟨rfl, ba5⟩; have hBe := hBd.trans (ba5.mono hBd.size); have ke := Xcell.out _ hBe))
  have cT := (Xh7.out.below hBe).twin XhGG.out
  clear ba ba2 ba3 ba4 ba5 hB0 hBa hBb hBc hBd ka kb kc kd ke S0 n1 n3 XcSA XcCA XcCX XcS Xcell
  have XcT := hide cT
  clear cT
  go_wp2_with fail
  with_reducible refine XcT.out.mono ?_
  rintro e w8 ⟨b8, bu, rfl, hu⟩
  have hB8 := (hBe.trans (b8.mono hBe.size)).drew
  have hud := hu.below (((Below.refl _ _).drew) : Below w8.heap.size w8 w8.drew)
  have cU1 := XcUS.out bu _ w8.drew hB8 hud
  have S0 := Xcell2.out _ hB8
  have z8 := hBe.size
  have hGG := XhGG.out
  have hL2 : numsO L (L.length : Int) = [] := by
   unfold numsO plcI
   have : inN L.length (L.length : Int) = false := by
    rcases e : inN L.length (L.length : Int) with _ | _
    ·rfl
    ·have := inN_iff.1 e; omega
   rw [this]; rfl
  have n4 : ((ll : Int) != (ll : Int)) = false := by simp
  clear XcT b8 hu XcUS XhT XhNn XhR
  have XcU1 := hide cU1
  have XhGG := hide hGG
  have Xhud := hide hud
  have XhL2 := hide hL2
  clear cU1 hGG hud hL2
  go_wp2_with fail
  refine wp_region_held_drew (S := (fun W => W.cell? ⟨w.heap.size, 0, none⟩ = some (.slice A1 T c1) ∧ W.cell? ⟨w.heap.size, 1, none⟩ = some (.slice A2 N c2) ∧ W.cell? ⟨w.heap.size, 2, none⟩ = some (.slice A3 R c3) ∧ W.cell? ⟨w.heap.size, 3, none⟩ = some (.int .i64 st) ∧ W.cell? ⟨bx, 0, none⟩ = some (.slice Ax ll cx))) (by kernel_rfl) ?_ (fun hHeld => ?_)
  ·exact S0
  refine tk (i := 0) (oi := ?_) (v := ?_) ?_ (by kernel_rfl) ?_ (Or.inl ⟨?_, ?_⟩) (by assumption) ?_; rotate_left 2; (focus ((try simp only [gT, gs, gz]); try rfl)); exact fun _ _ _ h => h; rfl; (focus (intro wS hwS; (try dsimp only at hwS); go_simp; all_goals with_reducible rfl)); try simp only [Act.put, sT, s0, s1]
  refine tk (i := 1) (oi := ?_) (v := ?_) ?_ (by kernel_rfl) ?_ (Or.inl ⟨?_, ?_⟩) (by assumption) ?_; rotate_left 2; (focus ((try simp only [gT, gs, gz]); try rfl)); exact fun _ _ _ h => h; rfl; (focus (intro wS hwS; (try dsimp only at hwS); go_simp; all_goals with_reducible rfl)); try simp only [Act.put, sT, s0, s1]
  refine tk (i := 2) (oi := ?_) (v := ?_) ?_ (by kernel_rfl) ?_ (Or.inl ⟨?_, ?_⟩) (by assumption) ?_; rotate_left 2; (focus ((try simp only [gT, gs, gz]); try rfl)); exact fun _ _ _ h => h; rfl; (focus (intro wS hwS; (try dsimp only at hwS); go_simp; all_goals with_reducible rfl)); try simp only [Act.put, sT, s0, s1]
  refine tk (i := 4) (oi := ?_) (v := ?_) ?_ (by kernel_rfl) ?_ (Or.inl ⟨?_, ?_⟩) (by assumption) ?_; rotate_left 2; (focus ((try simp only [gT, gs, gz]); try rfl)); exact fun _ _ _ h => h; rfl; (focus (intro wS hwS; (try dsimp only at hwS); go_simp; all_goals with_reducible rfl)); try simp only [Act.put, sT, s0, s1]
  refine tk (i := 5) (oi := ?_) (v := ?_) ?_ (by kernel_rfl) ?_ (Or.inl ⟨?_, ?_⟩) (by assumption) ?_; rotate_left 2; (focus ((try simp only [gT, gs, gz]); try rfl)); exact fun _ _ _ h => h; rfl; (focus (intro wS hwS; (try dsimp only at hwS); go_simp; all_goals with_reducible rfl)); try simp only [Act.put, sT, s0, s1]
  refine tk (i := 6) (oi := ?_) (v := ?_) ?_ (by kernel_rfl) ?_ (Or.inl ⟨?_, ?_⟩) (by assumption) ?_; rotate_left 2; (focus ((try simp only [gT, gs, gz]); try rfl)); exact fun _ _ _ h => h; rfl; (focus (intro wS hwS; (try dsimp only at hwS); go_simp; all_goals with_reducible rfl)); try simp only [Act.put, sT, s0, s1]
  refine wpAnyH_ready (rs := [3]) (by kernel_rfl) (by simp) ?_
  refine AllReadyH.cons (o := ?_) ?_ (fun K hK => ?_) AllReadyH.nil; rotate_left 1; (focus ((try simp only [gT, gs, gz]); try rfl))
  go_simp
  go_at_call 10
  with_reducible refine XcU1.out.mono ?_
  rintro e wa ⟨rfl, ba⟩
  have hBa := hB8.trans (ba.mono hB8.size)
  have hua := Xhud.out.below ba
  have cX := XcSX.out wa hBa
  clear XcU1 Xhud XcSX ba
  refine hK.out _ _ ?_ (fun hHeld => ?_)
  ·exact Xcell2.out _ hBa
  clear hK K
  try simp only [Act.put, sT, s0, s1]
  refine wpAnyH_ready (rs := [7]) (by kernel_rfl) (by simp) ?_
  refine AllReadyH.cons (o := ?_) ?_ (fun K hK => ?_) AllReadyH.nil; rotate_left 1; (focus ((try simp only [gT, gs, gz]); try rfl))
  go_simp
  go_at_call 11
  with_reducible refine cX.mono ?_
  rintro e wb ⟨rfl, bb⟩
  have hBb := hBa.trans (bb.mono hBa.size)
  have hub := hua.below bb
  have hUlt := hub.lt
  have cL := arena_Leaf hub (by have := XhGG.out.len; omega) 1 2
  rw [← Xhll.out] at cL
  clear cX hua bb
  have XcL := hide cL
  have Xhub := hide hub
  clear cL hub
  refine hK.out _ _ ?_ (fun hHeld => ?_)
  ·exact Xcell2.out _ hBb
  clear hK K
  try simp only [Act.put, sT, s0, s1]
  refine tk (i := 8) (oi := ?_) (v := ?_) ?_ (by kernel_rfl) ?_ (Or.inl ⟨?_, ?_⟩) (by assumption) ?_; rotate_left 2; (focus ((try simp only [gT, gs, gz]); try rfl)); exact fun _ _ _ h => h; kernel_rfl; (focus (intro wS hwS; (try dsimp only at hwS); go_simp; all_goals with_reducible rfl)); try simp only [Act.put, sT, s0, s1]
  refine tk (i := 9) (oi := ?_) (v := ?_) ?_ (by kernel_rfl) ?_ (Or.inl ⟨?_, ?_⟩) (by assumption) ?_; rotate_left 2; (focus ((try simp only [gT, gs, gz]); try rfl)); exact fun _ _ _ h => h; kernel_rfl; (focus (intro wS hwS; (try dsimp only at hwS); go_simp; all_goals with_reducible rfl)); try simp only [Act.put, sT, s0, s1]
  refine tk (i := 10) (oi := ?_) (v := ?_) ?_ (by kernel_rfl) ?_ (Or.inl ⟨?_, ?_⟩) (by assumption) ?_; rotate_left 2; (focus ((try simp only [gT, gs, gz]); try rfl)); exact fun _ _ _ h => h; kernel_rfl; (focus (intro wS hwS; (try dsimp only at hwS); go_simp; all_goals with_reducible rfl)); try simp only [Act.put, sT, s0, s1]
  refine tk (i := 12) (oi := ?_) (v := ?_) ?_ (by kernel_rfl) ?_ (Or.inl ⟨?_, ?_⟩) (by assumption) ?_; rotate_left 2; (focus ((try simp only [gT, gs, gz]); try rfl)); exact fun _ _ _ h => h; kernel_rfl; (focus (intro wS hwS; (try dsimp only at hwS); go_simp; all_goals with_reducible rfl)); try simp only [Act.put, sT, s0, s1]
  refine tk (i := 13) (oi := ?_) (v := ?_) ?_ (by kernel_rfl) ?_ (Or.inl ⟨?_, ?_⟩) (by assumption) ?_; rotate_left 2; (focus ((try simp only [gT, gs, gz]); try rfl)); exact fun _ _ _ h => h; kernel_rfl; (focus (intro wS hwS; (try dsimp only at hwS); go_simp; all_goals with_reducible rfl)); try simp only [Act.put, sT, s0, s1]
  refine tk (i := 14) (oi := ?_) (v := ?_) ?_ (by kernel_rfl) ?_ (Or.inl ⟨?_, ?_⟩) (by assumption) ?_; rotate_left 2; (focus ((try simp only [gT, gs, gz]); try rfl)); exact fun _ _ _ h => h; kernel_rfl; (focus (intro wS hwS; (try dsimp only at hwS); go_simp; all_goals with_reducible rfl)); try simp only [Act.put, sT, s0, s1]
  refine tk (i := 15) (oi := ?_) (v := ?_) ?_ (by kernel_rfl) ?_ (Or.inl ⟨?_, ?_⟩) (by assumption) ?_; rotate_left 2; (focus ((try simp only [gT, gs, gz]); try rfl)); exact fun _ _ _ h => h; kernel_rfl; (focus (intro wS hwS; (try dsimp only at hwS); go_simp; all_goals with_reducible rfl)); try simp only [Act.put, sT, s0, s1]
  refine tk (i := 16) (oi := ?_) (v := ?_) ?_ (by kernel_rfl) ?_ (Or.inl ⟨?_, ?_⟩) (by assumption) ?_; rotate_left 2; (focus ((try simp only [gT, gs, gz]); try rfl)); exact fun _ _ _ h => h; kernel_rfl; (focus (intro wS hwS; (try dsimp only at hwS); go_simp; all_goals with_reducible rfl)); try simp only [Act.put, sT, s0, s1]
  refine wpAnyH_ready (rs := [11]) (by kernel_rfl) (by simp) ?_
  refine AllReadyH.cons (o := ?_) ?_ (fun K hK => ?_) AllReadyH.nil; rotate_left 1; (focus ((try simp only [gT, gs, gz]); try rfl))
  go_simp
  go_at_call 15
  with_reducible refine XcL.out.mono ?_
  rintro e wc ⟨rfl, huc, tc⟩
  have hBc : Below w7.heap.size w7 wc := tc.toBelow (fun k e => by have := e.1; omega) hBb hBb.size
  have cN := (Xh7.out.below hBc).len
  rw [← Xhll.out] at cN
  clear XcL Xhub tc
  have XcN := hide cN
  have Xhuc := hide huc
  clear cN huc
  refine hK.out _ _ ?_ (fun hHeld => ?_)
  ·exact Xcell2.out _ hBc
  clear hK K
  try simp only [Act.put, sT, s0, s1]
  refine tk (i := 17) (oi := ?_) (v := ?_) ?_ (by kernel_rfl) ?_ (Or.inl ⟨?_, ?_⟩) (by assumption) ?_; rotate_left 2; (focus ((try simp only [gT, gs, gz]); try rfl)); exact fun _ _ _ h => h; kernel_rfl; (focus (intro wS hwS; (try dsimp only at hwS); go_simp; all_goals with_reducible rfl)); try simp only [Act.put, sT, s0, s1]
  refine tk (i := 18) (oi := ?_) (v := ?_) ?_ (by kernel_rfl) ?_ (Or.inl ⟨?_, ?_⟩) (by assumption) ?_; rotate_left 2; (focus ((try simp only [gT, gs, gz]); try rfl)); exact fun _ _ _ h => h; kernel_rfl; (focus (intro wS hwS; (try dsimp only at hwS); go_simp; all_goals with_reducible rfl)); try simp only [Act.put, sT, s0, s1]
  refine tk (i := 19) (oi := ?_) (v := ?_) ?_ (by kernel_rfl) ?_ (Or.inl ⟨?_, ?_⟩) (by assumption) ?_; rotate_left 2; (focus ((try simp only [gT, gs, gz]); try rfl)); exact fun _ _ _ h => h; kernel_rfl; (focus (intro wS hwS; (try dsimp only at hwS); go_simp; all_goals with_reducible rfl)); try simp only [Act.put, sT, s0, s1]
  refine tk (i := 20) (oi := ?_) (v := ?_) ?_ (by kernel_rfl) ?_ (Or.inl ⟨?_, ?_⟩) (by assumption) ?_; rotate_left 2; (focus ((try simp only [gT, gs, gz]); try rfl)); exact fun _ _ _ h => h; kernel_rfl; (focus (intro wS hwS; (try dsimp only at hwS); go_simp; all_goals with_reducible rfl)); try simp only [Act.put, sT, s0, s1]
  refine tk (i := 22) (oi := ?_) (v := ?_) ?_ (by kernel_rfl) ?_ (Or.inl ⟨?_, ?_⟩) (by assumption) ?_; rotate_left 2; (focus ((try simp only [gT, gs, gz]); try rfl)); exact fun _ _ _ h => h; kernel_rfl; (focus (intro wS hwS; (try dsimp only at hwS); go_simp; all_goals with_reducible rfl)); try simp only [Act.put, sT, s0, s1]
  refine tk (i := 23) (oi := ?_) (v := ?_) ?_ (by kernel_rfl) ?_ (Or.inl ⟨?_, ?_⟩) (by assumption) ?_; rotate_left 2; (focus ((try simp only [gT, gs, gz]); try rfl)); exact fun _ _ _ h => h; kernel_rfl; (focus (intro wS hwS; (try dsimp only at hwS); go_simp; all_goals with_reducible rfl)); try simp only [Act.put, sT, s0, s1]
  refine tk (i := 24) (oi := ?_) (v := ?_) ?_ (by kernel_rfl) ?_ (Or.inl ⟨?_, ?_⟩) (by assumption) ?_; rotate_left 2; (focus ((try simp only [gT, gs, gz]); try rfl)); exact fun _ _ _ h => h; kernel_rfl; (focus (intro wS hwS; (try dsimp only at hwS); go_simp; all_goals with_reducible rfl)); try simp only [Act.put, sT, s0, s1]
  refine tk (i := 25) (oi := ?_) (v := ?_) ?_ (by kernel_rfl) ?_ (Or.inl ⟨?_, ?_⟩) (by assumption) ?_; rotate_left 2; (focus ((try simp only [gT, gs, gz]); try rfl)); exact fun _ _ _ h => h; kernel_rfl; (focus (intro wS hwS; (try dsimp only at hwS); go_simp; all_goals with_reducible rfl)); try simp only [Act.put, sT, s0, s1]
  refine tk (i := 26) (oi := ?_) (v := ?_) ?_ (by kernel_rfl) ?_ (Or.inl ⟨?_, ?_⟩) (by assumption) ?_; rotate_left 2; (focus ((try simp only [gT, gs, gz]); try rfl)); exact fun _ _ _ h => h; kernel_rfl; (focus (intro wS hwS; (try dsimp only at hwS); go_simp; all_goals with_reducible rfl)); try simp only [Act.put, sT, s0, s1]
  refine wpAnyH_ready (rs := [21]) (by kernel_rfl) (by simp) ?_
  refine AllReadyH.cons (o := ?_) ?_ (fun K hK => ?_) AllReadyH.nil; rotate_left 1; (focus ((try simp only [gT, gs, gz]); try rfl))
  go_simp
  go_at_call 16
  with_reducible refine XcN.out.mono ?_
  rintro e wd ⟨rfl, rfl⟩
  clear XcN
  have cV := (arena_Leaves Xhuc.out (XhGG.out.tr.leaf 1 2) (by have := XhGG.out.len; unfold leafL; rw [List.length_append, List.length_singleton]; omega) i).mono fun e W h => h.any
  have XcV := hide cV
  clear cV
  refine hK.out _ _ ?_ (fun hHeld => ?_)
  ·exact Xcell2.out _ hBc
  clear hK K
  try simp only [Act.put, sT, s0, s1]
  refine tk (i := 27) (oi := ?_) (v := ?_) ?_ (by kernel_rfl) ?_ (Or.inl ⟨?_, ?_⟩) (by assumption) ?_; rotate_left 2; (focus ((try simp only [gT, gs, gz]); try rfl)); exact fun _ _ _ h => h; kernel_rfl; (focus (intro wS hwS; (try dsimp only at hwS); go_simp; all_goals with_reducible rfl)); try simp only [Act.put, sT, s0, s1]
  refine tk (i := 28) (oi := ?_) (v := ?_) ?_ (by kernel_rfl) ?_ (Or.inl ⟨?_, ?_⟩) (by assumption) ?_; rotate_left 2; (focus ((try simp only [gT, gs, gz]); try rfl)); exact fun _ _ _ h => h; kernel_rfl; (focus (intro wS hwS; (try dsimp only at hwS); go_simp; all_goals with_reducible rfl)); try simp only [Act.put, sT, s0, s1]
  refine tk (i := 29) (oi := ?_) (v := ?_) ?_ (by kernel_rfl) ?_ (Or.inl ⟨?_, ?_⟩) (by assumption) ?_; rotate_left 2; (focus ((try simp only [gT, gs, gz]); try rfl)); exact fun _ _ _ h => h; kernel_rfl; (focus (intro wS hwS; (try dsimp only at hwS); go_simp; all_goals with_reducible rfl)); try simp only [Act.put, sT, s0, s1]
  refine tk (i := 30) (oi := ?_) (v := ?_) ?_ (by kernel_rfl) ?_ (Or.inl ⟨?_, ?_⟩) (by assumption) ?_; rotate_left 2; (focus ((try simp only [gT, gs, gz]); try rfl)); exact fun _ _ _ h => h; kernel_rfl; (focus (intro wS hwS; (try dsimp only at hwS); go_simp; all_goals with_reducible rfl)); try simp only [Act.put, sT, s0, s1]
  refine tk (i := 31) (oi := ?_) (v := ?_) ?_ (by kernel_rfl) ?_ (Or.inl ⟨?_, ?_⟩) (by assumption) ?_; rotate_left 2; (focus ((try simp only [gT, gs, gz]); try rfl)); exact fun _ _ _ h => h; kernel_rfl; (focus (intro wS hwS; (try dsimp only at hwS); go_simp; all_goals with_reducible rfl)); try simp only [Act.put, sT, s0, s1]
  refine tk (i := 33) (oi := ?_) (v := ?_) ?_ (by kernel_rfl) ?_ (Or.inl ⟨?_, ?_⟩) (by assumption) ?_; rotate_left 2; (focus ((try simp only [gT, gs, gz]); try rfl)); exact fun _ _ _ h => h; kernel_rfl; (focus (intro wS hwS; (try dsimp only at hwS); go_simp; all_goals with_reducible rfl)); try simp only [Act.put, sT, s0, s1]
  refine tk (i := 34) (oi := ?_) (v := ?_) ?_ (by kernel_rfl) ?_ (Or.inl ⟨?_, ?_⟩) (by assumption) ?_; rotate_left 2; (focus ((try simp only [gT, gs, gz]); try rfl)); exact fun _ _ _ h => h; kernel_rfl; (focus (intro wS hwS; (try dsimp only at hwS); go_simp; all_goals with_reducible rfl)); try simp only [Act.put, sT, s0, s1]
  refine wpAnyH_ready (rs := [32]) (by kernel_rfl) (by simp) ?_
  refine AllReadyH.cons (o := ?_) ?_ (fun K hK => ?_) AllReadyH.nil; rotate_left 1; (focus ((try simp only [gT, gs, gz]); try rfl))
  go_simp
  go_at_call 18
  with_reducible refine XcV.out.mono ?_
  rintro e we2 ⟨be, ze, rfl, re⟩
  have hBe2 := hBc.trans (be.mono hBc.size)
  have cW := (Xh7.out.below hBe2).leavesX XhGG.out i
  clear XcV be
  have XcW := hide cW
  have Xre := hide re
  clear cW re
  refine hK.out _ _ ?_ (fun hHeld => ?_)
  ·exact Xcell2.out _ hBe2
  clear hK K
  try simp only [Act.put, sT, s0, s1]
  refine wpAnyH_ready (rs := [35]) (by kernel_rfl) (by simp) ?_
  refine AllReadyH.cons (o := ?_) ?_ (fun K hK => ?_) AllReadyH.nil; rotate_left 1; (focus ((try simp only [gT, gs, gz]); try rfl))
  go_simp
  go_at_call 19
  with_reducible refine XcW.out.mono ?_
  rintro e wf ⟨bf, zf, rfl, rf⟩
  have hBf := hBe2.trans (bf.mono hBe2.size)
  have cI := ref_ints3A (Xre.out.b bf) rf
  clear XcW Xre rf bf
  obtain ⟨q, hq⟩ : ∃ q, q = decide (numsO (leafL L 1 2) i = numsO L i) := ⟨_, rfl⟩
  rw [← hq] at cI
  have XcI := hide cI
  have Xhq := hide hq
  clear cI hq
  refine hK.out _ _ ?_ (fun hHeld => ?_)
  ·exact Xcell2.out _ hBf
  clear hK K
  try simp only [Act.put, sT, s0, s1]
  refine wpAnyH_ready (rs := [36]) (by kernel_rfl) (by simp) ?_
  refine AllReadyH.cons (o := ?_) ?_ (fun K hK => ?_) AllReadyH.nil; rotate_left 1; (focus ((try simp only [gT, gs, gz]); try rfl))
  go_simp
  go_at_call 17
  with_reducible refine XcI.out.mono ?_
  rintro e wg ⟨rfl, bg⟩
  have hBg := hBf.trans (bg.mono hBf.size)
  clear XcI bg
  refine hK.out _ _ ?_ (fun hHeld => ?_)
  ·exact Xcell2.out _ hBg
  clear hK K
  try simp only [Act.put, sT, s0, s1]
  refine tk (i := 37) (oi := ?_) (v := ?_) ?_ (by kernel_rfl) ?_ (Or.inl ⟨?_, ?_⟩) (by assumption) ?_; rotate_left 2; (focus ((try simp only [gT, gs, gz]); try rfl)); exact fun _ _ _ h => h; kernel_rfl; (focus (intro wS hwS; (try dsimp only at hwS); go_simp; all_goals with_reducible rfl)); try simp only [Act.put, sT, s0, s1]
  refine tk (i := 38) (oi := ?_) (v := ?_) ?_ (by kernel_rfl) ?_ (Or.inl ⟨?_, ?_⟩) (by assumption) ?_; rotate_left 2; (focus ((try simp only [gT, gs, gz]); try rfl)); exact fun _ _ _ h => h; kernel_rfl; (focus (intro wS hwS; (try dsimp only at hwS); go_simp; all_goals with_reducible rfl)); try simp only [Act.put, sT, s0, s1]
  cases q with
  | true =>
   refine tk (i := 39) (oi := ?_) (v := undef) ?_ (by kernel_rfl) ?_ (Or.inr ⟨?_, rfl⟩) (by assumption) ?_; rotate_left 1; (focus ((try simp only [gT, gs, gz]); try rfl)); exact fun _ _ _ h => h; kernel_rfl; try simp only [Act.put, sT, s0, s1]
   refine tk (i := 40) (oi := ?_) (v := undef) ?_ (by kernel_rfl) ?_ (Or.inr ⟨?_, rfl⟩) (by assumption) ?_; rotate_left 1; (focus ((try simp only [gT, gs, gz]); try rfl)); exact fun _ _ _ h => h; kernel_rfl; try simp only [Act.put, sT, s0, s1]
   refine tk (i := 41) (oi := ?_) (v := undef) ?_ (by kernel_rfl) ?_ (Or.inr ⟨?_, rfl⟩) (by assumption) ?_; rotate_left 1; (focus ((try simp only [gT, gs, gz]); try rfl)); exact fun _ _ _ h => h; kernel_rfl; try simp only [Act.put, sT, s0, s1]
   refine tk (i := 42) (oi := ?_) (v := undef) ?_ (by kernel_rfl) ?_ (Or.inr ⟨?_, rfl⟩) (by assumption) ?_; rotate_left 1; (focus ((try simp only [gT, gs, gz]); try rfl)); exact fun _ _ _ h => h; kernel_rfl; try simp only [Act.put, sT, s0, s1]
   refine tk (i := 43) (oi := ?_) (v := undef) ?_ (by kernel_rfl) ?_ (Or.inr ⟨?_, rfl⟩) (by assumption) ?_; rotate_left 1; (focus ((try simp only [gT, gs, gz]); try rfl)); exact fun _ _ _ h => h; kernel_rfl; try simp only [Act.put, sT, s0, s1]
   refine tk (i := 44) (oi := ?_) (v := undef) ?_ (by kernel_rfl) ?_ (Or.inr ⟨?_, rfl⟩) (by assumption) ?_; rotate_left 1; (focus ((try simp only [gT, gs, gz]); try rfl)); exact fun _ _ _ h => h; kernel_rfl; try simp only [Act.put, sT, s0, s1]
   refine tk (i := 45) (oi := ?_) (v := undef) ?_ (by kernel_rfl) ?_ (Or.inr ⟨?_, rfl⟩) (by assumption) ?_; rotate_left 1; (focus ((try simp only [gT, gs, gz]); try rfl)); exact fun _ _ _ h => h; kernel_rfl; try simp only [Act.put, sT, s0, s1]
   refine tk (i := 46) (oi := ?_) (v := ?_) ?_ (by kernel_rfl) ?_ (Or.inl ⟨?_, ?_⟩) (by assumption) ?_; rotate_left 2; (focus ((try simp only [gT, gs, gz]); try rfl)); exact fun _ _ _ h => h; kernel_rfl; (focus (intro wS hwS; (try dsimp only at hwS); go_simp; all_goals with_reducible rfl)); try simp only [Act.put, sT, s0, s1]
   refine tk (i := 47) (oi := ?_) (v := ?_) ?_ (by kernel_rfl) ?_ (Or.inl ⟨?_, ?_⟩) (by assumption) ?_; rotate_left 2; (focus ((try simp only [gT, gs, gz]); try rfl)); exact fun _ _ _ h => h; kernel_rfl; (focus (intro wS hwS; (try dsimp only at hwS); go_simp; all_goals with_reducible rfl)); try simp only [Act.put, sT, s0, s1]
   refine wpAnyH_done (by kernel_rfl) ?_ _
   have XhBg := hide hBg
   clear hBg
   have cA1 := (Xh7.out.below XhBg.out).rootsA XhGG.out
   have XcA1 := hide cA1
   clear cA1
   go_wp2_with fail
   with_reducible refine XcA1.out.mono ?_
   rintro e wa1 ⟨ba1, za1, rfl, ra1⟩
   have ha1 := XhBg.out.trans (ba1.mono XhBg.out.size)
   have cB1 := (Xh7.out.below ha1).rootsX XhGG.out
   clear XcA1 ba1
   have XcB1 := hide cB1
   have Xra1 := hide ra1
   clear cB1 ra1
   go_wp2_with fail
   with_reducible refine XcB1.out.mono ?_
   rintro e wb1 ⟨bb1, zb1, rfl, rb1⟩
   have hb1 := ha1.trans (bb1.mono ha1.size)
   have cC1 := ref_ints3A (Xra1.out.b bb1) rb1
   rw [decide_eq_true rfl] at cC1
   clear XcB1 Xra1 bb1 rb1 ha1
   have XcC1 := hide cC1
   clear cC1
   go_wp2_with fail
   with_reducible refine XcC1.out.mono ?_
   rintro e wc1 ⟨rfl, bc1⟩
   have hc1 := hb1.trans (bc1.mono hb1.size)
   clear XcC1 bc1 hb1
   have Xhc1 := hide hc1
   clear hc1
   have cA2 := (Xh7.out.below Xhc1.out).leavesA XhGG.out i
   have XcA2 := hide cA2
   clear cA2
   go_wp2_with fail
   with_reducible refine XcA2.out.mono ?_
   rintro e wa2 ⟨ba2, za2, rfl, ra2⟩
   have ha2 := Xhc1.out.trans (ba2.mono Xhc1.out.size)
   have cB2 := (Xh7.out.below ha2).leavesX XhGG.out i
   clear XcA2 ba2
   have XcB2 := hide cB2
   have Xra2 := hide ra2
   clear cB2 ra2
   go_wp2_with fail
   with_reducible refine XcB2.out.mono ?_
   rintro e wb2 ⟨bb2, zb2, rfl, rb2⟩
   have hb2 := ha2.trans (bb2.mono ha2.size)
   have cC2 := ref_ints3A (Xra2.out.b bb2) rb2
   rw [decide_eq_true rfl] at cC2
   clear XcB2 Xra2 bb2 rb2 ha2
   have XcC2 := hide cC2
   clear cC2
   go_wp2_with fail
   with_reducible refine XcC2.out.mono ?_
   rintro e wc2 ⟨rfl, bc2⟩
   have hc2 := hb2.trans (bc2.mono hb2.size)
   clear XcC2 bc2 hb2
   have Xhc2 := hide hc2
   clear hc2
   have cA3 := (Xh7.out.below Xhc2.out).yieldA XhGG.out i
   have XcA3 := hide cA3
   clear cA3
   go_wp2_with fail
   with_reducible refine XcA3.out.mono ?_
   rintro e wa3 ⟨ba3, za3, rfl, ra3⟩
   have ha3 := Xhc2.out.trans (ba3.mono Xhc2.out.size)
   have cB3 := (Xh7.out.below ha3).yieldX XhGG.out i
   clear XcA3 ba3
   have XcB3 := hide cB3
   have Xra3 := hide ra3
   clear cB3 ra3
   go_wp2_with fail
   with_reducible refine XcB3.out.mono ?_
   rintro e wb3 ⟨bb3, zb3, rfl, rb3⟩
   have hb3 := ha3.trans (bb3.mono ha3.size)
   have cC3 := ref_ints3A (Xra3.out.b bb3) rb3
   rw [decide_eq_true rfl] at cC3
   clear XcB3 Xra3 bb3 rb3 ha3
   have XcC3 := hide cC3
   clear cC3
   go_wp2_with fail
   with_reducible refine XcC3.out.mono ?_
   rintro e wc3 ⟨rfl, bc3⟩
   have hc3 := hb3.trans (bc3.mono hb3.size)
   clear XcC3 bc3 hb3
   have Xhc3 := hide hc3
   clear hc3
   have cZ := law19_awake wc3
   have XcZ := hide cZ
   clear cZ
   go_wp2_with fail
   with_reducible refine XcZ.out.mono ?_
   rintro e wz ⟨rfl, bz⟩
   have bbz := Xbb7.out.trans ((Xhc3.out.trans (bz.mono Xhc3.out.size)).mono Xbb7.out.size)
   clear XcZ bz
   have Xbbz := hide bbz
   clear bbz
   go_wp2_with fail
   go_ret
   exact ⟨rfl, Xbbz.out⟩
  | false =>
   have hi2 : i = (ll : Int) := by
    rw [Xhll.out]
    refine Classical.byContradiction fun c => ?_
    have := Xhq.out
    rw [numsO_leaf XhGG.out.tr 1 2 i c, decide_eq_true rfl] at this
    cases this
   subst hi2
   refine tk (i := 39) (oi := ?_) (v := ?_) ?_ (by kernel_rfl) ?_ (Or.inl ⟨?_, ?_⟩) (by assumption) ?_; rotate_left 2; (focus ((try simp only [gT, gs, gz]); try rfl)); exact fun _ _ _ h => h; kernel_rfl; (focus (intro wS hwS; (try dsimp only at hwS); go_simp; all_goals with_reducible rfl)); try simp only [Act.put, sT, s0, s1]
   refine tk (i := 40) (oi := ?_) (v := ?_) ?_ (by kernel_rfl) ?_ (Or.inl ⟨?_, ?_⟩) (by assumption) ?_; rotate_left 2; (focus ((try simp only [gT, gs, gz]); try rfl)); exact fun _ _ _ h => h; kernel_rfl; (focus (intro wS hwS; (try dsimp only at hwS); go_simp; all_goals with_reducible rfl)); try simp only [Act.put, sT, s0, s1]
   refine tk (i := 41) (oi := ?_) (v := ?_) ?_ (by kernel_rfl) ?_ (Or.inl ⟨?_, ?_⟩) (by assumption) ?_; rotate_left 2; (focus ((try simp only [gT, gs, gz]); try rfl)); exact fun _ _ _ h => h; kernel_rfl; (focus (intro wS hwS; (try dsimp only at hwS); go_simp; all_goals with_reducible rfl)); try simp only [Act.put, sT, s0, s1]
   refine tk (i := 42) (oi := ?_) (v := ?_) ?_ (by kernel_rfl) ?_ (Or.inl ⟨?_, ?_⟩) (by assumption) ?_; rotate_left 2; (focus ((try simp only [gT, gs, gz]); try rfl)); exact fun _ _ _ h => h; kernel_rfl; (focus (intro wS hwS; (try dsimp only at hwS); go_simp; all_goals with_reducible rfl)); try simp only [Act.put, sT, s0, s1]
   refine tk (i := 43) (oi := ?_) (v := ?_) ?_ (by kernel_rfl) ?_ (Or.inl ⟨?_, ?_⟩) (by assumption) ?_; rotate_left 2; (focus ((try simp only [gT, gs, gz]); try rfl)); exact fun _ _ _ h => h; kernel_rfl; (focus (intro wS hwS; (try dsimp only at hwS); go_simp; all_goals with_reducible rfl)); try simp only [Act.put, sT, s0, s1]
   refine tk (i := 44) (oi := ?_) (v := ?_) ?_ (by kernel_rfl) ?_ (Or.inl ⟨?_, ?_⟩) (by assumption) ?_; rotate_left 2; (focus ((try simp only [gT, gs, gz]); try rfl)); exact fun _ _ _ h => h; kernel_rfl; (focus (intro wS hwS; (try dsimp only at hwS); go_simp; all_goals with_reducible rfl)); try simp only [Act.put, sT, s0, s1]
   refine tk (i := 45) (oi := ?_) (v := ?_) ?_ (by kernel_rfl) ?_ (Or.inl ⟨?_, ?_⟩) (by assumption) ?_; rotate_left 2; (focus ((try simp only [gT, gs, gz]); try rfl)); exact fun _ _ _ h => h; kernel_rfl; (focus (intro wS hwS; (try dsimp only at hwS); go_simp; all_goals with_reducible rfl)); try simp only [Act.put, sT, s0, s1]
   refine tk (i := 46) (oi := ?_) (v := ?_) ?_ (by kernel_rfl) ?_ (Or.inl ⟨?_, ?_⟩) (by assumption) ?_; rotate_left 2; (focus ((try simp only [gT, gs, gz]); try rfl)); exact fun _ _ _ h => h; kernel_rfl; (focus (intro wS hwS; (try dsimp only at hwS); go_simp; all_goals with_reducible rfl)); try simp only [Act.put, sT, s0, s1]
   refine tk (i := 47) (oi := ?_) (v := ?_) ?_ (by kernel_rfl) ?_ (Or.inl ⟨?_, ?_⟩) (by assumption) ?_; rotate_left 2; (focus ((try simp only [gT, gs, gz]); try rfl)); exact fun _ _ _ h => h; kernel_rfl; (focus (intro wS hwS; (try dsimp only at hwS); go_simp; all_goals with_reducible rfl)); try simp only [Act.put, sT, s0, s1]
   refine wpAnyH_done (by kernel_rfl) ?_ _
   have XhBg := hide hBg
   clear hBg
   have cA1 := (Xh7.out.below XhBg.out).rootsA XhGG.out
   have XcA1 := hide cA1
   clear cA1
   go_wp2_with fail
   with_reducible refine XcA1.out.mono ?_
   rintro e wa1 ⟨ba1, za1, rfl, ra1⟩
   have ha1 := XhBg.out.trans (ba1.mono XhBg.out.size)
   have cB1 := (Xh7.out.below ha1).rootsX XhGG.out
   clear XcA1 ba1
   have XcB1 := hide cB1
   have Xra1 := hide ra1
   clear cB1 ra1
   go_wp2_with fail
   with_reducible refine XcB1.out.mono ?_
   rintro e wb1 ⟨bb1, zb1, rfl, rb1⟩
   have hb1 := ha1.trans (bb1.mono ha1.size)
   have cC1 := ref_ints3A (Xra1.out.b bb1) rb1
   rw [decide_eq_true rfl] at cC1
   clear XcB1 Xra1 bb1 rb1 ha1
   have XcC1 := hide cC1
   clear cC1
   go_wp2_with fail
   with_reducible refine XcC1.out.mono ?_
   rintro e wc1 ⟨rfl, bc1⟩
   have hc1 := hb1.trans (bc1.mono hb1.size)
   clear XcC1 bc1 hb1
   have Xhc1 := hide hc1
   clear hc1
   have cA2 := (Xh7.out.below Xhc1.out).leavesA XhGG.out (ll : Int)
   have XcA2 := hide cA2
   clear cA2
   go_wp2_with fail
   with_reducible refine XcA2.out.mono ?_
   rintro e wa2 ⟨ba2, za2, rfl, ra2⟩
   have ha2 := Xhc1.out.trans (ba2.mono Xhc1.out.size)
   have cB2 := (Xh7.out.below ha2).leavesX XhGG.out (ll : Int)
   clear XcA2 ba2
   have XcB2 := hide cB2
   have Xra2 := hide ra2
   clear cB2 ra2
   go_wp2_with fail
   with_reducible refine XcB2.out.mono ?_
   rintro e wb2 ⟨bb2, zb2, rfl, rb2⟩
   have hb2 := ha2.trans (bb2.mono ha2.size)
   have cC2 := ref_ints3A (Xra2.out.b bb2) rb2
   rw [decide_eq_true rfl] at cC2
   clear XcB2 Xra2 bb2 rb2 ha2
   have XcC2 := hide cC2
   clear cC2
   go_wp2_with fail
   with_reducible refine XcC2.out.mono ?_
   rintro e wc2 ⟨rfl, bc2⟩
   have hc2 := hb2.trans (bc2.mono hb2.size)
   clear XcC2 bc2 hb2
   have Xhc2 := hide hc2
   clear hc2
   have cA3 := (Xh7.out.below Xhc2.out).yieldA XhGG.out (ll : Int)
   have XcA3 := hide cA3
   clear cA3
   go_wp2_with fail
   with_reducible refine XcA3.out.mono ?_
   rintro e wa3 ⟨ba3, za3, rfl, ra3⟩
   have ha3 := Xhc2.out.trans (ba3.mono Xhc2.out.size)
   have cB3 := (Xh7.out.below ha3).yieldX XhGG.out (ll : Int)
   clear XcA3 ba3
   have XcB3 := hide cB3
   have Xra3 := hide ra3
   clear cB3 ra3
   go_wp2_with fail
   with_reducible refine XcB3.out.mono ?_
   rintro e wb3 ⟨bb3, zb3, rfl, rb3⟩
   have hb3 := ha3.trans (bb3.mono ha3.size)
   have cC3 := ref_ints3A (Xra3.out.b bb3) rb3
   rw [decide_eq_true rfl] at cC3
   clear XcB3 Xra3 bb3 rb3 ha3
   have XcC3 := hide cC3
   clear cC3
   go_wp2_with fail
   with_reducible refine XcC3.out.mono ?_
   rintro e wc3 ⟨rfl, bc3⟩
   have hc3 := hb3.trans (bc3.mono hb3.size)
   clear XcC3 bc3 hb3
   have Xhc3 := hide hc3
   clear hc3
   have cZ := law19_awake wc3
   have XcZ := hide cZ
   clear cZ
   go_wp2_with fail
   with_reducible refine XcZ.out.mono ?_
   rintro e wz ⟨rfl, bz⟩
   have bbz := Xbb7.out.trans ((Xhc3.out.trans (bz.mono Xhc3.out.size)).mono Xbb7.out.size)
   clear XcZ bz
   have Xbbz := hide bbz
   clear bbz
   go_wp2_with fail
   go_ret
   exact ⟨rfl, Xbbz.out⟩
end Go.Proofs.YtacankgalkffmaaGreat

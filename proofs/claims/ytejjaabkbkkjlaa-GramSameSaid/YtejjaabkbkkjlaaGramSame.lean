/- The law GramSame: the walk. -/
import Derived.Test.YtejjaabkbkkjlaaGramAwake
import Derived.Test.YtejjaabkbkkjlaaGramMuch
import Derived.Test.YtejjaabkbkkjlaaOpenGram
namespace Go.Proofs.Ytejjaabkbkkjlaa
set_option linter.unusedVariables false
open Go.RowKit

/-- two boxed grammars -/
structure TwoBox (w : World) (F F' : Nat → Prop) (B B' : Nat) (A1 : Option Addr) (c1 : Nat) (A2 : Option Addr) (c2 : Nat) (A3 : Option Addr) (c3 T N R : Nat) (st : Int) (G : GramD)
    (A1' : Option Addr) (c1' : Nat) (A2' : Option Addr) (c2' : Nat) (A3' : Option Addr) (c3' T' N' R' : Nat) (st' : Int) (K : GramD) : Prop where
  g : GBox w F B A1 c1 A2 c2 A3 c3 T N R st G
  k : GBox w F' B' A1' c1' A2' c2' A3' c3' T' N' R' st' K
theorem sameOf_self (G : GramD) (st : Int) : sameOf G G st st = true := by unfold sameOf; simp

set_option maxRecDepth 100000 in
set_option maxHeartbeats 4000000 in
theorem walk_GramSame (C : Array Value) (G : GramD) (D : Array Value) (K : GramD) (w : World) (hg : GramCells w C.toList G) (hk : GramCells w D.toList K) :
    Calls Try.prog 5 #[.agg C, .agg D] w (Quiet w (.bool true)) := by
  obtain ⟨vt, vn, vr, hC, hg, -⟩ := hg
  obtain ⟨ut, un, ur, hD, hk, -⟩ := hk
  obtain rfl : C = #[vt, vn, vr, .int .i64 G.start] := Array.toList_inj.1 hC
  obtain rfl : D = #[ut, un, ur, .int .i64 K.start] := Array.toList_inj.1 hD
  clear hC hD
  generalize G.start = st at *
  generalize K.start = st' at *
  obtain ⟨A1, c1, A2, c2, A3, c3, rfl, rfl, rfl, -⟩ := hg.slices
  obtain ⟨A1', c1', A2', c2', A3', c3', rfl, rfl, rfl, -⟩ := hk.slices
  obtain ⟨w1, hw1⟩ : ∃ w1, w1 = w.alloc (.cells #[.slice A1 G.terms.length c1, .slice A2 G.nons.length c2, .slice A3 G.rules.length c3, .int .i64 st] 25) := ⟨_, rfl⟩
  obtain ⟨w2, hw2⟩ : ∃ w2, w2 = w1.alloc (.cells #[.slice A1' K.terms.length c1', .slice A2' K.nons.length c2', .slice A3' K.rules.length c3', .int .i64 st'] 25) := ⟨_, rfl⟩
  have g1 := GBox.new hg st
  have b1 : Below w.heap.size w w1 := by rw [hw1]; exact (Below.refl _ w).alloc (Nat.le_refl _) _
  have z1 : w1.heap.size = w.heap.size + 1 := by rw [hw1]; simp
  rw [← hw1] at g1
  have k1 := GBox.new (hk.below b1) st'
  have b2 : Below w1.heap.size w1 w2 := by rw [hw2]; exact (Below.refl _ w1).alloc (Nat.le_refl _) _
  rw [← hw2] at k1
  have g2 := g1.below b2
  have hb2 := b1.trans (b2.mono b1.size)
  rw [z1] at k1
  generalize hT : G.terms.length = T at *
  generalize hN : G.nons.length = N at *
  generalize hR : G.rules.length = R at *
  generalize hT' : K.terms.length = T' at *
  generalize hN' : K.nons.length = N' at *
  generalize hR' : K.rules.length = R' at *
  generalize hF : (fun x => x < w.heap.size) = F at *
  have two : TwoBox w2 F F w.heap.size (w.heap.size + 1) A1 c1 A2 c2 A3 c3 T N R st G A1' c1' A2' c2' A3' c3' T' N' R' st' K := ⟨g2, k1⟩
  have cell : ∀ wr, TwoBox wr F F w.heap.size (w.heap.size + 1) A1 c1 A2 c2 A3 c3 T N R st G A1' c1' A2' c2' A3' c3' T' N' R' st' K → wr.cell? ⟨w.heap.size, 0, none⟩ = some (.slice A1 T c1) ∧ wr.cell? ⟨w.heap.size, 1, none⟩ = some (.slice A2 N c2) ∧ wr.cell? ⟨w.heap.size, 2, none⟩ = some (.slice A3 R c3) ∧ wr.cell? ⟨w.heap.size, 3, none⟩ = some (.int .i64 st) ∧ wr.cell? ⟨w.heap.size + 1, 0, none⟩ = some (.slice A1' T' c1') ∧ wr.cell? ⟨w.heap.size + 1, 1, none⟩ = some (.slice A2' N' c2') ∧ wr.cell? ⟨w.heap.size + 1, 2, none⟩ = some (.slice A3' R' c3') ∧ wr.cell? ⟨w.heap.size + 1, 3, none⟩ = some (.int .i64 st') := fun wr h => by
    obtain ⟨a, b, c, d⟩ := h.g.cells
    obtain ⟨a', b', c', d'⟩ := h.k.cells
    exact ⟨a, b, c, d, a', b', c', d'⟩
  have next : ∀ wr wr', TwoBox wr F F w.heap.size (w.heap.size + 1) A1 c1 A2 c2 A3 c3 T N R st G A1' c1' A2' c2' A3' c3' T' N' R' st' K → Below wr.heap.size wr wr' → TwoBox wr' F F w.heap.size (w.heap.size + 1) A1 c1 A2 c2 A3 c3 T N R st G A1' c1' A2' c2' A3' c3' T' N' R' st' K := fun wr wr' h b => ⟨h.g.below b, h.k.below b⟩
  have cM1 : ∀ wr, TwoBox wr F F w.heap.size (w.heap.size + 1) A1 c1 A2 c2 A3 c3 T N R st G A1' c1' A2' c2' A3' c3' T' N' R' st' K → Calls Try.prog 16 #[GV (.slice A1 T c1) (.slice A2 N c2) (.slice A3 R c3) st] wr (MuchPost (G.terms.length + G.nons.length + G.rules.length) wr) := fun wr h => law_much h.g.gram st
  have cM2 : ∀ wr, TwoBox wr F F w.heap.size (w.heap.size + 1) A1 c1 A2 c2 A3 c3 T N R st G A1' c1' A2' c2' A3' c3' T' N' R' st' K → Calls Try.prog 16 #[GV (.slice A1' T' c1') (.slice A2' N' c2') (.slice A3' R' c3') st'] wr (MuchPost (K.terms.length + K.nons.length + K.rules.length) wr) := fun wr h => law_much h.k.gram st'
  have cA : ∀ wr, Calls Try.prog 17 #[] wr (Quiet wr (.bool true)) := law06_awake
  have cS : ∀ wr, TwoBox wr F F w.heap.size (w.heap.size + 1) A1 c1 A2 c2 A3 c3 T N R st G A1' c1' A2' c2' A3' c3' T' N' R' st' K → Calls Try.prog 38 #[GV (.slice A1 T c1) (.slice A2 N c2) (.slice A3 R c3) st, GV (.slice A1' T' c1') (.slice A2' N' c2') (.slice A3' R' c3') st'] wr (Quiet wr (.bool (sameOf G K st st'))) := fun wr h => gram_same h.g.gram h.k.gram st st'
  have cS2 : ∀ wr, TwoBox wr F F w.heap.size (w.heap.size + 1) A1 c1 A2 c2 A3 c3 T N R st G A1' c1' A2' c2' A3' c3' T' N' R' st' K → Calls Try.prog 38 #[GV (.slice A1 T c1) (.slice A2 N c2) (.slice A3 R c3) st, GV (.slice A1 T c1) (.slice A2 N c2) (.slice A3 R c3) st] wr (Quiet wr (.bool true)) := fun wr h => by
    have := gram_same h.g.gram h.g.gram st st
    rw [sameOf_self] at this; exact this
  have cR : ∀ wr, TwoBox wr F F w.heap.size (w.heap.size + 1) A1 c1 A2 c2 A3 c3 T N R st G A1' c1' A2' c2' A3' c3' T' N' R' st' K → Calls Try.prog 39 #[GV (.slice A1 T c1) (.slice A2 N c2) (.slice A3 R c3) st, GV (.slice A1' T' c1') (.slice A2' N' c2') (.slice A3' R' c3') st'] wr (Quiet wr (.bool (sameOf G K st st'))) := fun wr h => ref_same h.g.gram h.k.gram st st'
  generalize sameOf G K st st' = q at *
  generalize hP : TwoBox = P at *
  have hcl := cell w2 two
  have hm := cM1 w2 two
  rw [hw2, hw1] at hcl hm
  obtain ⟨q0, q1, q2, q3, q4, q5, q6, q7⟩ := hcl
  clear hg hk g1 g2 k1 b1 b2 z1
  have XhT := hide hT
  have XhN := hide hN
  have XhR := hide hR
  have XhT' := hide hT'
  have XhN' := hide hN'
  have XhR' := hide hR'
  have XhF := hide hF
  have XhP := hide hP
  have Xcell := hide cell
  have Xnext := hide next
  have XcM1 := hide cM1
  have XcM2 := hide cM2
  have XcA := hide cA
  have XcS := hide cS
  have XcS2 := hide cS2
  have XcR := hide cR
  have Xhm := hide hm
  have Xtwo := hide two
  have Xhb2 := hide hb2
  clear hT hN hR hT' hN' hR' hF hP cell next cM1 cM2 cA cS cS2 cR hm two hb2
  go_enter Try.func5, Try.ntmps5
  go_wp2_with fail
  refine Xhm.out.mono ?_
  rintro e w3 ⟨r, -, rfl, b3⟩
  rw [← hw1, ← hw2] at b3
  have t3 := Xnext.out _ _ Xtwo.out b3
  have hb3 := Xhb2.out.trans (b3.mono Xhb2.out.size)
  clear hw1 hw2 q0 q1 q2 q3 q4 q5 q6 q7 Xhm Xtwo Xhb2
  obtain ⟨q0, q1, q2, q3, q4, q5, q6, q7⟩ := Xcell.out _ t3
  by_cases hr : 600 < r
  · go_wp2_with fail
    refine (XcA.out _).mono ?_
    rintro e w4 ⟨rfl, b4⟩
    go_wp2_with fail
    go_ret
    exact ⟨rfl, hb3.trans (b4.mono hb3.size)⟩
  · go_wp2_with fail
    refine (XcM2.out _ t3).mono ?_
    rintro e w4 ⟨r', -, rfl, b4⟩
    have t4 := Xnext.out _ _ t3 b4
    have hb4 := hb3.trans (b4.mono hb3.size)
    clear q0 q1 q2 q3 q4 q5 q6 q7 t3 hb3 b4
    obtain ⟨q0, q1, q2, q3, q4, q5, q6, q7⟩ := Xcell.out _ t4
    by_cases hr' : 600 < r'
    · go_wp2_with fail
      refine (XcA.out _).mono ?_
      rintro e w5 ⟨rfl, b5⟩
      go_wp2_with fail
      go_ret
      exact ⟨rfl, hb4.trans (b5.mono hb4.size)⟩
    · have t4d : P w4.drew F F w.heap.size (w.heap.size + 1) A1 c1 A2 c2 A3 c3 T N R st G A1' c1' A2' c2' A3' c3' T' N' R' st' K := Xnext.out _ _ t4 (below_drewN (Below.refl _ _) 1)
      have hb4d : Below w.heap.size w w4.drew := below_drewN hb4 1
      go_wp2_with fail
      go_region_held3 (fun w' => w'.cell? ⟨w.heap.size, 0, none⟩ = some (.slice A1 T c1) ∧ w'.cell? ⟨w.heap.size, 1, none⟩ = some (.slice A2 N c2) ∧ w'.cell? ⟨w.heap.size, 2, none⟩ = some (.slice A3 R c3) ∧ w'.cell? ⟨w.heap.size, 3, none⟩ = some (.int .i64 st) ∧ w'.cell? ⟨w.heap.size + 1, 0, none⟩ = some (.slice A1' T' c1') ∧ w'.cell? ⟨w.heap.size + 1, 1, none⟩ = some (.slice A2' N' c2') ∧ w'.cell? ⟨w.heap.size + 1, 2, none⟩ = some (.slice A3' R' c3') ∧ w'.cell? ⟨w.heap.size + 1, 3, none⟩ = some (.int .i64 st'))
        (first | go_keep | assumption)
        (first
          | (go_at_call 38; (with_reducible refine (XcS.out _ (by assumption)).mono ?_); rintro e w5 ⟨rfl, b5⟩; have t5 := Xnext.out _ _ t4d b5; have hb5 := hb4d.trans (b5.mono hb4d.size); have k5 := Xcell.out _ t5; clear t4d)
          | (go_at_call 39; (with_reducible refine (XcR.out _ (by assumption)).mono ?_); rintro e w6 ⟨rfl, b6⟩; have t6 := Xnext.out _ _ t5 b6; have hb6 := hb5.trans (b6.mono hb5.size); have k6 := Xcell.out _ t6; clear t5)
          | (go_at_call 38; (with_reducible refine (XcS2.out _ (by assumption)).mono ?_); rintro e w7 ⟨rfl, b7⟩; have t7 := Xnext.out _ _ t6 b7; have hb7 := hb6.trans (b7.mono hb6.size); have k7 := Xcell.out _ t7; clear t6)
          | (go_at_call 17; (with_reducible refine (XcA.out _).mono ?_); rintro e w8 ⟨rfl, b8⟩; have t8 := Xnext.out _ _ t7 b8; have hb8 := hb7.trans (b8.mono hb7.size); have k8 := Xcell.out _ t8; clear t7))
      go_wp2_with fail
      go_ret
      exact ⟨rfl, hb8⟩
end Go.Proofs.Ytejjaabkbkkjlaa

/- The law GramChecks: the walk. -/
import Derived.Test.YtejjaabkbkkjlaaGramAwake
import Derived.Test.YtejjaabkbkkjlaaGramMuch
import Derived.Test.YtejjaabkbkkjlaaOpenGram
namespace Go.Proofs.Ytejjaabkbkkjlaa
set_option linter.unusedVariables false
open Go.RowKit

/-- a boxed grammar, two boxed rules that are the same -/
structure ChkCtx (w : World) (F : Nat → Prop) (B : Nat) (A1 : Option Addr) (c1 : Nat) (A2 : Option Addr) (c2 : Nat) (A3 : Option Addr) (c3 T N R : Nat) (st : Int) (G : GramD) (B1 B2 : Nat) (l : Int) (xs : List Int) (A4 : Option Addr) (c4 : Nat) (A5 : Option Addr) (c5 n : Nat) (z1 z2 : Nat) : Prop where
  g : GBox w F B A1 c1 A2 c2 A3 c3 T N R st G
  r1 : Blk w B1 30 #[.int .i64 l, .slice A4 n c4]
  r2 : Blk w B2 30 #[.int .i64 l, .slice A5 n c5]
  x1 : RdI w (fun b => b < z1) (.slice A4 n c4) xs
  x2 : RdI w (fun b => b < z2) (.slice A5 n c5) xs
  l1 : z1 ≤ w.heap.size
  l2 : z2 ≤ w.heap.size
theorem ChkCtx.below {w w' : World} {F : Nat → Prop} {B : Nat} {A1 : Option Addr} {c1 : Nat} {A2 : Option Addr} {c2 : Nat} {A3 : Option Addr} {c3 T N R : Nat} {st : Int} {G : GramD} {B1 B2 : Nat} {l : Int} {xs : List Int} {A4 : Option Addr} {c4 : Nat} {A5 : Option Addr} {c5 n z1 z2 : Nat}
    (h : ChkCtx w F B A1 c1 A2 c2 A3 c3 T N R st G B1 B2 l xs A4 c4 A5 c5 n z1 z2) (b : Below w.heap.size w w') : ChkCtx w' F B A1 c1 A2 c2 A3 c3 T N R st G B1 B2 l xs A4 c4 A5 c5 n z1 z2 :=
  ⟨h.g.below b, h.r1.below b h.r1.lt, h.r2.below b h.r2.lt, h.x1.below b (fun k hk => Nat.lt_of_lt_of_le hk h.l1), h.x2.below b (fun k hk => Nat.lt_of_lt_of_le hk h.l2), Nat.le_trans h.l1 b.size, Nat.le_trans h.l2 b.size⟩

set_option maxRecDepth 100000 in
set_option maxHeartbeats 16000000 in
theorem walk_GramChecks (C : Array Value) (G : GramD) (s i : Int) (nm : ByteArray) (w : World) (hg : GramCells w C.toList G) (hs : (Lit.int .i64 s).wf = true) (hi : (Lit.int .i64 i).wf = true) (hnm : nm.size ≤ maxLen) :
    Calls Try.prog 3 #[.agg C, .int .i64 s, .int .i64 i, .string nm] w (Quiet w (.bool true)) := by
  obtain ⟨vt, vn, vr, hC, hg, -⟩ := hg
  obtain rfl : C = #[vt, vn, vr, .int .i64 G.start] := Array.toList_inj.1 hC
  clear hC hs hi
  unfold maxLen at hnm
  generalize G.start = st at *
  obtain ⟨A1, c1, A2, c2, A3, c3, rfl, rfl, rfl, -⟩ := hg.slices
  obtain ⟨w1, hw1⟩ : ∃ w1, w1 = w.alloc (.cells #[.slice A1 G.terms.length c1, .slice A2 G.nons.length c2, .slice A3 G.rules.length c3, .int .i64 st] 25) := ⟨_, rfl⟩
  have g1 := GBox.new hg st
  have b1 : Below w.heap.size w w1 := by rw [hw1]; exact (Below.refl _ w).alloc (Nat.le_refl _) _
  rw [← hw1] at g1
  have cA : ∀ wr, Calls Try.prog 17 #[] wr (Quiet wr (.bool true)) := law06_awake
  have hm := law_much g1.gram st
  obtain ⟨q0, q1, q2, q3⟩ := g1.cells
  generalize hT : G.terms.length = T at *
  generalize hN : G.nons.length = N at *
  generalize hR : G.rules.length = R at *
  generalize hF : (fun x => x < w.heap.size) = F at *
  rw [hw1] at hm q0 q1 q2 q3
  clear hg
  have XhT := hide hT
  have XhN := hide hN
  have XhR := hide hR
  have XhF := hide hF
  have XcA := hide cA
  have Xhm := hide hm
  have Xg1 := hide g1
  have Xb1 := hide b1
  clear hT hN hR hF cA hm g1 b1
  go_enter Try.func3, Try.ntmps3
  go_wp2_with fail
  refine Xhm.out.mono ?_
  rintro e w2 ⟨r, hr, rfl, b2⟩
  rw [← hw1] at b2
  have g2 := Xg1.out.below b2
  have hb2 := Xb1.out.trans (b2.mono Xb1.out.size)
  clear hw1 q0 q1 q2 q3 Xhm Xg1 Xb1 b2
  obtain ⟨q0, q1, q2, q3⟩ := g2.cells
  by_cases hbig : 900 < r
  · have Xg2 := hide g2
    have Xhb2 := hide hb2
    clear g2 hb2
    go_wp2_with fail
    refine (XcA.out _).mono ?_
    rintro e w4 ⟨rfl, b4⟩
    go_wp2_with fail
    go_ret
    exact ⟨rfl, Xhb2.out.trans (b4.mono Xhb2.out.size)⟩
  · by_cases hlong : 1000 < nm.size
    · have hlong' : (1000 : Int) < (nm.size : Int) := by omega
      have Xg2 := hide g2
      have Xhb2 := hide hb2
      clear g2 hb2
      go_wp2_with fail
      refine (XcA.out _).mono ?_
      rintro e w4 ⟨rfl, b4⟩
      go_wp2_with fail
      go_ret
      exact ⟨rfl, Xhb2.out.trans (b4.mono Xhb2.out.size)⟩
    · have hlong' : ¬ (1000 : Int) < (nm.size : Int) := by omega
      have hTN : T + N ≤ 65536 := by omega
      obtain ⟨⟨⟨l, xs⟩, ok⟩, hro⟩ : ∃ q, q = ruleOf G st i := ⟨_, rfl⟩
      have c1' := gram_rule g2.gram st i
      rw [← hro] at c1'
      have Xc1' := hide c1'
      have Xg2 := hide g2
      have Xhb2 := hide hb2
      clear c1' g2 hb2
      clear hr
      go_wp2_with fail
      refine Xc1'.out.mono ?_
      rintro e w3 ⟨A4, n, c4, rfl, hx, b3⟩
      have hxn : n = xs.length := hx.at_.1
      have g3 := Xg2.out.below b3
      have hb3 := Xhb2.out.trans (b3.mono Xhb2.out.size)
      clear q0 q1 q2 q3 Xg2 Xhb2 b3 Xc1'
      obtain ⟨w4, hw4⟩ : ∃ w4, w4 = w3.alloc (.cells #[.int .i64 l, .slice A4 n c4] 30) := ⟨_, rfl⟩
      have b4 : Below w3.heap.size w3 w4 := by rw [hw4]; exact (Below.refl _ _).alloc (Nat.le_refl _) _
      have k4 : Blk w4 w3.heap.size 30 #[.int .i64 l, .slice A4 n c4] := by rw [hw4]; exact Blk.new _ _ _
      have g4 := g3.below b4
      have hb4 := hb3.trans (b4.mono hb3.size)
      have hx4 := hx.below b4 (fun b e => e)
      have hz4 := b4.size
      obtain ⟨q0, q1, q2, q3⟩ := g4.cells
      have c2' := ref_rule g4.gram st i
      rw [← hro] at c2'
      rw [hw4] at c2' q0 q1 q2 q3
      clear hx g3 hb3 b4
      have Xhxn := hide hxn
      have Xc2' := hide c2'
      have Xk4 := hide k4
      have Xg4 := hide g4
      have Xhb4 := hide hb4
      have Xhx4 := hide hx4
      have Xhro := hide hro
      clear hxn c2' k4 g4 hb4 hx4 hro
      go_wp2_with fail
      refine Xc2'.out.mono ?_
      rintro e w5 ⟨A5, n5, c5, rfl, hx, b5⟩
      rw [← hw4] at b5
      have hxn5 : n5 = xs.length := hx.at_.1
      obtain rfl : n5 = n := by rw [hxn5, Xhxn.out]
      clear hxn5 hw4 q0 q1 q2 q3 Xc2'
      obtain ⟨w6, hw6⟩ : ∃ w6, w6 = w5.alloc (.cells #[.int .i64 l, .slice A5 n5 c5] 30) := ⟨_, rfl⟩
      have b6 : Below w5.heap.size w5 w6 := by rw [hw6]; exact (Below.refl _ _).alloc (Nat.le_refl _) _
      have b46 := b5.trans (b6.mono b5.size)
      have k6 : Blk w6 w5.heap.size 30 #[.int .i64 l, .slice A5 n5 c5] := by rw [hw6]; exact Blk.new _ _ _
      have ctx : ChkCtx w6 F w.heap.size A1 c1 A2 c2 A3 c3 T N R st G w3.heap.size w5.heap.size l xs A4 c4 A5 c5 n5 w3.heap.size w5.heap.size :=
        ⟨Xg4.out.below b46, Xk4.out.below b46 Xk4.out.lt, k6, Xhx4.out.below b46 (fun k hk => Nat.lt_of_lt_of_le hk hz4), hx.below b6 (fun k hk => hk), Nat.le_trans hz4 b46.size, b6.size⟩
      have hb6 := Xhb4.out.trans (b46.mono Xhb4.out.size)
      have hb6d : Below w.heap.size w w6.drew := below_drewN hb6 1
      have next : ∀ wr wr', ChkCtx wr F w.heap.size A1 c1 A2 c2 A3 c3 T N R st G w3.heap.size w5.heap.size l xs A4 c4 A5 c5 n5 w3.heap.size w5.heap.size → Below wr.heap.size wr wr' → ChkCtx wr' F w.heap.size A1 c1 A2 c2 A3 c3 T N R st G w3.heap.size w5.heap.size l xs A4 c4 A5 c5 n5 w3.heap.size w5.heap.size := fun wr wr' h b => h.below b
      have cell : ∀ wr, ChkCtx wr F w.heap.size A1 c1 A2 c2 A3 c3 T N R st G w3.heap.size w5.heap.size l xs A4 c4 A5 c5 n5 w3.heap.size w5.heap.size → wr.cell? ⟨w.heap.size, 0, none⟩ = some (.slice A1 T c1) ∧ wr.cell? ⟨w.heap.size, 1, none⟩ = some (.slice A2 N c2) ∧ wr.cell? ⟨w.heap.size, 2, none⟩ = some (.slice A3 R c3) ∧ wr.cell? ⟨w.heap.size, 3, none⟩ = some (.int .i64 st) ∧ wr.cell? ⟨w3.heap.size, 0, none⟩ = some (.int .i64 l) ∧ wr.cell? ⟨w3.heap.size, 1, none⟩ = some (.slice A4 n5 c4) ∧ wr.cell? ⟨w5.heap.size, 0, none⟩ = some (.int .i64 l) ∧ wr.cell? ⟨w5.heap.size, 1, none⟩ = some (.slice A5 n5 c5) := fun wr h => by
        obtain ⟨a, b, c, d⟩ := h.g.cells
        exact ⟨a, b, c, d, (h.r1.cell 0).trans rfl, (h.r1.cell 1).trans rfl, (h.r2.cell 0).trans rfl, (h.r2.cell 1).trans rfl⟩
      have cC : ∀ wr, ChkCtx wr F w.heap.size A1 c1 A2 c2 A3 c3 T N R st G w3.heap.size w5.heap.size l xs A4 c4 A5 c5 n5 w3.heap.size w5.heap.size → Calls Try.prog 20 #[GV (.slice A1 T c1) (.slice A2 N c2) (.slice A3 R c3) st] wr (Quiet wr (.int .i64 (checkOf G st))) := fun wr h => gram_check h.g.gram st
      have cC' : ∀ wr, ChkCtx wr F w.heap.size A1 c1 A2 c2 A3 c3 T N R st G w3.heap.size w5.heap.size l xs A4 c4 A5 c5 n5 w3.heap.size w5.heap.size → Calls Try.prog 21 #[GV (.slice A1 T c1) (.slice A2 N c2) (.slice A3 R c3) st] wr (Quiet wr (.int .i64 (checkOf G st))) := fun wr h => ref_check h.g.gram st
      have cP : ∀ wr, ChkCtx wr F w.heap.size A1 c1 A2 c2 A3 c3 T N R st G w3.heap.size w5.heap.size l xs A4 c4 A5 c5 n5 w3.heap.size w5.heap.size → Calls Try.prog 22 #[GV (.slice A1 T c1) (.slice A2 N c2) (.slice A3 R c3) st] wr (Quiet wr (.int .i64 (topOf G))) := fun wr h => gram_top h.g.gram st
      have cP' : ∀ wr, ChkCtx wr F w.heap.size A1 c1 A2 c2 A3 c3 T N R st G w3.heap.size w5.heap.size l xs A4 c4 A5 c5 n5 w3.heap.size w5.heap.size → Calls Try.prog 23 #[GV (.slice A1 T c1) (.slice A2 N c2) (.slice A3 R c3) st] wr (Quiet wr (.int .i64 (topOf G))) := fun wr h => ref_top h.g.gram st
      have cT : ∀ wr, ChkCtx wr F w.heap.size A1 c1 A2 c2 A3 c3 T N R st G w3.heap.size w5.heap.size l xs A4 c4 A5 c5 n5 w3.heap.size w5.heap.size → Calls Try.prog 24 #[GV (.slice A1 T c1) (.slice A2 N c2) (.slice A3 R c3) st, .int .i64 s] wr (Quiet wr (.bool (isTerm G s))) := fun wr h => gram_term h.g.gram st s
      have cT' : ∀ wr, ChkCtx wr F w.heap.size A1 c1 A2 c2 A3 c3 T N R st G w3.heap.size w5.heap.size l xs A4 c4 A5 c5 n5 w3.heap.size w5.heap.size → Calls Try.prog 25 #[GV (.slice A1 T c1) (.slice A2 N c2) (.slice A3 R c3) st, .int .i64 s] wr (Quiet wr (.bool (isTerm G s))) := fun wr h => ref_term h.g.gram st s
      have cN : ∀ wr, ChkCtx wr F w.heap.size A1 c1 A2 c2 A3 c3 T N R st G w3.heap.size w5.heap.size l xs A4 c4 A5 c5 n5 w3.heap.size w5.heap.size → Calls Try.prog 26 #[GV (.slice A1 T c1) (.slice A2 N c2) (.slice A3 R c3) st, .int .i64 s] wr (Quiet wr (.bool (isNon G s))) := fun wr h => gram_non h.g.gram st s
      have cN' : ∀ wr, ChkCtx wr F w.heap.size A1 c1 A2 c2 A3 c3 T N R st G w3.heap.size w5.heap.size l xs A4 c4 A5 c5 n5 w3.heap.size w5.heap.size → Calls Try.prog 27 #[GV (.slice A1 T c1) (.slice A2 N c2) (.slice A3 R c3) st, .int .i64 s] wr (Quiet wr (.bool (isNon G s))) := fun wr h => ref_non h.g.gram st s
      have cS : ∀ wr, ChkCtx wr F w.heap.size A1 c1 A2 c2 A3 c3 T N R st G w3.heap.size w5.heap.size l xs A4 c4 A5 c5 n5 w3.heap.size w5.heap.size → Calls Try.prog 28 #[.agg #[.int .i64 l, .slice A4 n5 c4], .agg #[.int .i64 l, .slice A5 n5 c5]] wr (Quiet wr (.bool true)) := fun wr h => by
        have := ref_same_rule (l := l) (m := l) h.x1 h.x2 (fun b e => Nat.lt_of_lt_of_le e h.l1) (fun b e => Nat.lt_of_lt_of_le e h.l2)
        rw [decide_eq_true rfl] at this; exact this
      have cE : ∀ wr, ChkCtx wr F w.heap.size A1 c1 A2 c2 A3 c3 T N R st G w3.heap.size w5.heap.size l xs A4 c4 A5 c5 n5 w3.heap.size w5.heap.size → Calls Try.prog 29 #[GV (.slice A1 T c1) (.slice A2 N c2) (.slice A3 R c3) st, .int .i64 s] wr (Quiet wr (.string (nameOf G s))) := fun wr h => gram_name h.g.gram st s
      have cE' : ∀ wr, ChkCtx wr F w.heap.size A1 c1 A2 c2 A3 c3 T N R st G w3.heap.size w5.heap.size l xs A4 c4 A5 c5 n5 w3.heap.size w5.heap.size → Calls Try.prog 30 #[GV (.slice A1 T c1) (.slice A2 N c2) (.slice A3 R c3) st, .int .i64 s] wr (Quiet wr (.string (nameOf G s))) := fun wr h => ref_name h.g.gram st s (by rw [XhT.out, XhN.out]; exact hTN)
      have cI : ∀ wr, ChkCtx wr F w.heap.size A1 c1 A2 c2 A3 c3 T N R st G w3.heap.size w5.heap.size l xs A4 c4 A5 c5 n5 w3.heap.size w5.heap.size → Calls Try.prog 31 #[GV (.slice A1 T c1) (.slice A2 N c2) (.slice A3 R c3) st, .string nm] wr (Quiet wr (.int .i64 (findOf G nm))) := fun wr h => gram_find h.g.gram st nm
      have cI' : ∀ wr, ChkCtx wr F w.heap.size A1 c1 A2 c2 A3 c3 T N R st G w3.heap.size w5.heap.size l xs A4 c4 A5 c5 n5 w3.heap.size w5.heap.size → Calls Try.prog 32 #[GV (.slice A1 T c1) (.slice A2 N c2) (.slice A3 R c3) st, .string nm] wr (Quiet wr (.int .i64 (findOf G nm))) := fun wr h => ref_find h.g.gram st (by rw [XhT.out, XhN.out]; exact hTN) nm
      have cO : ∀ wr, ChkCtx wr F w.heap.size A1 c1 A2 c2 A3 c3 T N R st G w3.heap.size w5.heap.size l xs A4 c4 A5 c5 n5 w3.heap.size w5.heap.size → Calls Try.prog 34 #[GV (.slice A1 T c1) (.slice A2 N c2) (.slice A3 R c3) st, .int .i64 s] wr (OwnPost wr 3 ((ofOf G s).map I64) (ofOf G s).length) := fun wr h => gram_of h.g.gram st s
      have cO' : ∀ wr, ChkCtx wr F w.heap.size A1 c1 A2 c2 A3 c3 T N R st G w3.heap.size w5.heap.size l xs A4 c4 A5 c5 n5 w3.heap.size w5.heap.size → Calls Try.prog 35 #[GV (.slice A1 T c1) (.slice A2 N c2) (.slice A3 R c3) st, .int .i64 s] wr (OwnPost wr 3 ((ofOf G s).map I64) (ofOf G s).length) := fun wr h => ref_of h.g.gram st s
      have cD : ∀ wr, ChkCtx wr F w.heap.size A1 c1 A2 c2 A3 c3 T N R st G w3.heap.size w5.heap.size l xs A4 c4 A5 c5 n5 w3.heap.size w5.heap.size → Calls Try.prog 36 #[GV (.slice A1 T c1) (.slice A2 N c2) (.slice A3 R c3) st] wr (Quiet wr (.bool (sortedL (firstsOf G G.nons.length)))) := fun wr h => gram_ordered h.g.gram st
      have cD' : ∀ wr, ChkCtx wr F w.heap.size A1 c1 A2 c2 A3 c3 T N R st G w3.heap.size w5.heap.size l xs A4 c4 A5 c5 n5 w3.heap.size w5.heap.size → Calls Try.prog 37 #[GV (.slice A1 T c1) (.slice A2 N c2) (.slice A3 R c3) st] wr (Quiet wr (.bool (sortedL (firstsOf G G.nons.length)))) := fun wr h => ref_ordered h.g.gram st
      have hself : ∀ (wr : World) (v u : Value) (ls : List Int) (E E' : Nat → Prop), RdI wr E v ls → RdI wr E' u ls → Calls Try.prog 33 #[v, u] wr (Quiet wr (.bool true)) := fun wr v u ls E E' h h' => by
        have := ref_ints h h'
        rw [decide_eq_true rfl] at this; exact this
      generalize checkOf G st = ck at *
      generalize topOf G = tp at *
      generalize isTerm G s = it at *
      generalize isNon G s = ino at *
      generalize nameOf G s = nme at *
      generalize findOf G nm = fnd at *
      generalize ofOf G s = ls at *
      generalize sortedL (firstsOf G G.nons.length) = od at *
      generalize hP : ChkCtx = P at *
      obtain ⟨q0, q1, q2, q3, q4, q5, q6, q7⟩ := cell _ ctx
      have drew : ∀ wr, P wr F w.heap.size A1 c1 A2 c2 A3 c3 T N R st G w3.heap.size w5.heap.size l xs A4 c4 A5 c5 n5 w3.heap.size w5.heap.size → P wr.drew F w.heap.size A1 c1 A2 c2 A3 c3 T N R st G w3.heap.size w5.heap.size l xs A4 c4 A5 c5 n5 w3.heap.size w5.heap.size := fun wr h => next wr _ h (below_drewN (Below.refl _ _) 1)
      have ctxd := drew _ ctx
      rw [hw6] at q0 q1 q2 q3 q4 q5 q6 q7 hb6d ctxd
      clear hx b5 b6 b46 k6 ctx hb6
      have XhP := hide hP
      have XcC := hide cC
      have XcC' := hide cC'
      have XcP := hide cP
      have XcP' := hide cP'
      have XcT := hide cT
      have XcT' := hide cT'
      have XcN := hide cN
      have XcN' := hide cN'
      have XcS := hide cS
      have XcE := hide cE
      have XcE' := hide cE'
      have XcI := hide cI
      have XcI' := hide cI'
      have XcO := hide cO
      have XcO' := hide cO'
      have XcD := hide cD
      have XcD' := hide cD'
      have Xhself := hide hself
      have Xnext := hide next
      have Xcell := hide cell
      have Xdrew := hide drew
      have Xhw6 := hide hw6
      clear hP cC cC' cP cP' cT cT' cN cN' cS cE cE' cI cI' cO cO' cD cD' hself next cell drew hw6
      clear Xg4 Xk4 Xhx4 Xhb4 Xhro Xhxn
      go_wp2_with fail
      go_region_held3 (fun w' => w'.cell? ⟨w.heap.size, 0, none⟩ = some (.slice A1 T c1) ∧ w'.cell? ⟨w.heap.size, 1, none⟩ = some (.slice A2 N c2) ∧ w'.cell? ⟨w.heap.size, 2, none⟩ = some (.slice A3 R c3) ∧ w'.cell? ⟨w.heap.size, 3, none⟩ = some (.int .i64 st) ∧ w'.cell? ⟨w3.heap.size, 0, none⟩ = some (.int .i64 l) ∧ w'.cell? ⟨w3.heap.size, 1, none⟩ = some (.slice A4 n5 c4) ∧ w'.cell? ⟨w5.heap.size, 0, none⟩ = some (.int .i64 l) ∧ w'.cell? ⟨w5.heap.size, 1, none⟩ = some (.slice A5 n5 c5))
        (first | go_keep | assumption)
        (first
          | (go_at_call 20; (with_reducible refine (XcC.out _ (by assumption)).mono ?_); rintro e w7 ⟨rfl, b7⟩; have t7 := Xnext.out _ _ ctxd b7; have hb7 := hb6d.trans (b7.mono hb6d.size); have k7 := Xcell.out _ t7; clear ctxd)
          | (go_at_call 21; (with_reducible refine (XcC'.out _ (by assumption)).mono ?_); rintro e w8 ⟨rfl, b8⟩; have t8 := Xnext.out _ _ t7 b8; have hb8 := hb7.trans (b8.mono hb7.size); have k8 := Xcell.out _ t8; clear t7)
          | (go_at_call 22; (with_reducible refine (XcP.out _ (by assumption)).mono ?_); rintro e w9 ⟨rfl, b9⟩; have t9 := Xnext.out _ _ t8 b9; have hb9 := hb8.trans (b9.mono hb8.size); have k9 := Xcell.out _ t9; clear t8)
          | (go_at_call 23; (with_reducible refine (XcP'.out _ (by assumption)).mono ?_); rintro e w10 ⟨rfl, b10⟩; have t10 := Xnext.out _ _ t9 b10; have hb10 := hb9.trans (b10.mono hb9.size); have k10 := Xcell.out _ t10; clear t9)
          | (go_at_call 24; (with_reducible refine (XcT.out _ (by assumption)).mono ?_); rintro e w11 ⟨rfl, b11⟩; have t11 := Xnext.out _ _ t10 b11; have hb11 := hb10.trans (b11.mono hb10.size); have k11 := Xcell.out _ t11; clear t10)
          | (go_at_call 25; (with_reducible refine (XcT'.out _ (by assumption)).mono ?_); rintro e w12 ⟨rfl, b12⟩; have t12 := Xnext.out _ _ t11 b12; have hb12 := hb11.trans (b12.mono hb11.size); have k12 := Xcell.out _ t12; clear t11)
          | (go_at_call 26; (with_reducible refine (XcN.out _ (by assumption)).mono ?_); rintro e w13 ⟨rfl, b13⟩; have t13 := Xnext.out _ _ t12 b13; have hb13 := hb12.trans (b13.mono hb12.size); have k13 := Xcell.out _ t13; clear t12)
          | (go_at_call 27; (with_reducible refine (XcN'.out _ (by assumption)).mono ?_); rintro e w14 ⟨rfl, b14⟩; have t14 := Xnext.out _ _ t13 b14; have hb14 := hb13.trans (b14.mono hb13.size); have k14 := Xcell.out _ t14; clear t13)
          | (go_at_call 28; (with_reducible refine (XcS.out _ (by assumption)).mono ?_); rintro e w15 ⟨rfl, b15⟩; have t15 := Xnext.out _ _ t14 b15; have hb15 := hb14.trans (b15.mono hb14.size); have k15 := Xcell.out _ t15; clear t14))
      have t15d := Xdrew.out _ t15
      have hb15d : Below w.heap.size w w15.drew := below_drewN hb15 1
      clear t15 hb15
      go_wp2_with fail
      go_region_held3 (fun w' => w'.cell? ⟨w.heap.size, 0, none⟩ = some (.slice A1 T c1) ∧ w'.cell? ⟨w.heap.size, 1, none⟩ = some (.slice A2 N c2) ∧ w'.cell? ⟨w.heap.size, 2, none⟩ = some (.slice A3 R c3) ∧ w'.cell? ⟨w.heap.size, 3, none⟩ = some (.int .i64 st) ∧ w'.cell? ⟨w3.heap.size, 0, none⟩ = some (.int .i64 l) ∧ w'.cell? ⟨w3.heap.size, 1, none⟩ = some (.slice A4 n5 c4) ∧ w'.cell? ⟨w5.heap.size, 0, none⟩ = some (.int .i64 l) ∧ w'.cell? ⟨w5.heap.size, 1, none⟩ = some (.slice A5 n5 c5))
        (first | go_keep | assumption)
        (first
          | (go_at_call 29; (with_reducible refine (XcE.out _ (by assumption)).mono ?_); rintro e w16 ⟨rfl, b16⟩; have t16 := Xnext.out _ _ t15d b16; have hb16 := hb15d.trans (b16.mono hb15d.size); have k16 := Xcell.out _ t16; clear t15d)
          | (go_at_call 30; (with_reducible refine (XcE'.out _ (by assumption)).mono ?_); rintro e w17 ⟨rfl, b17⟩; have t17 := Xnext.out _ _ t16 b17; have hb17 := hb16.trans (b17.mono hb16.size); have k17 := Xcell.out _ t17; clear t16)
          | (go_at_call 31; (with_reducible refine (XcI.out _ (by assumption)).mono ?_); rintro e w18 ⟨rfl, b18⟩; have t18 := Xnext.out _ _ t17 b18; have hb18 := hb17.trans (b18.mono hb17.size); have k18 := Xcell.out _ t18; clear t17)
          | (go_at_call 32; (with_reducible refine (XcI'.out _ (by assumption)).mono ?_); rintro e w19 ⟨rfl, b19⟩; have t19 := Xnext.out _ _ t18 b19; have hb19 := hb18.trans (b19.mono hb18.size); have k19 := Xcell.out _ t19; clear t18)
          | (go_at_call 34; (with_reducible refine (XcO.out _ (by assumption)).mono ?_); rintro e w20 ⟨A20, cc20, rfl, ho20, b20⟩; have t20 := Xnext.out _ _ t19 b20; have hb20 := hb19.trans (b20.mono hb19.size); have k20 := Xcell.out _ t20; have rd20 := Rd.of_own ho20; have lt20 := fun k hk => (ho20.lt k hk).2; clear t19)
          | (go_at_call 35; (with_reducible refine (XcO'.out _ (by assumption)).mono ?_); rintro e w21 ⟨A21, cc21, rfl, ho21, b21⟩; have t21 := Xnext.out _ _ t20 b21; have hb21 := hb20.trans (b21.mono hb20.size); have k21 := Xcell.out _ t21; have rd21 := Rd.of_own ho21; have lt21 := fun k hk => (ho21.lt k hk).2; have rr21 := rd20.below b21 lt20; clear t20)
          | (go_at_call 33; (with_reducible refine (Xhself.out _ _ _ _ _ _ rr21 rd21).mono ?_); rintro e w22 ⟨rfl, b22⟩; have t22 := Xnext.out _ _ t21 b22; have hb22 := hb21.trans (b22.mono hb21.size); have k22 := Xcell.out _ t22; clear t21)
          | (go_at_call 36; (with_reducible refine (XcD.out _ (by assumption)).mono ?_); rintro e w23 ⟨rfl, b23⟩; have t23 := Xnext.out _ _ t22 b23; have hb23 := hb22.trans (b23.mono hb22.size); have k23 := Xcell.out _ t23; clear t22)
          | (go_at_call 37; (with_reducible refine (XcD'.out _ (by assumption)).mono ?_); rintro e w24 ⟨rfl, b24⟩; have t24 := Xnext.out _ _ t23 b24; have hb24 := hb23.trans (b24.mono hb23.size); have k24 := Xcell.out _ t24; clear t23)
          | (go_at_call 17; (with_reducible refine (XcA.out _).mono ?_); rintro e w25 ⟨rfl, b25⟩; have t25 := Xnext.out _ _ t24 b25; have hb25 := hb24.trans (b25.mono hb24.size); have k25 := Xcell.out _ t25; clear t24))
      go_wp2_with fail
      go_ret
      exact ⟨rfl, hb25⟩
end Go.Proofs.Ytejjaabkbkkjlaa

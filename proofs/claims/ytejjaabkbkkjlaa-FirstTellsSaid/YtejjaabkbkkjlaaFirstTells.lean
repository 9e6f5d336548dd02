/- The law FirstTells: the walk. -/
import Derived.Test.YtejjaabkbkkjlaaFirstAwake
namespace Go.Proofs.Ytejjaabkbkkjlaa
set_option linter.unusedVariables false
open Go.RowKit
attribute [local irreducible] wpStill wpOne wpPh

/-- what both sets answer, in each later world -/
structure Ans11 (w : World) (a b : Option Addr) (E : Int → Bool) (Fi Fo : Int → List Int) (L : List Int → List Int) (al : List Int → Bool) : Prop where
  e1 : ∀ wr, Below w.heap.size w wr → ∀ k, Calls Try.prog 64 #[.pointer a, .int .i64 k] wr (Quiet wr (.bool (E k)))
  e2 : ∀ wr, Below w.heap.size w wr → ∀ k, Calls Try.prog 65 #[.pointer b, .int .i64 k] wr (Quiet wr (.bool (E k)))
  f1 : ∀ wr, Below w.heap.size w wr → ∀ k, Calls Try.prog 66 #[.pointer a, .int .i64 k] wr (IntsPost wr (Fi k))
  f2 : ∀ wr, Below w.heap.size w wr → ∀ k, Calls Try.prog 67 #[.pointer b, .int .i64 k] wr (IntsPost wr (Fi k))
  g1 : ∀ wr, Below w.heap.size w wr → ∀ k, Calls Try.prog 68 #[.pointer a, .int .i64 k] wr (IntsPost wr (Fo k))
  g2 : ∀ wr, Below w.heap.size w wr → ∀ k, Calls Try.prog 69 #[.pointer b, .int .i64 k] wr (IntsPost wr (Fo k))
  l1 : ∀ wr, Below w.heap.size w wr → ∀ (F : Nat → Prop) (v : Value) (l : List Int), RdI wr F v l → (∀ k, F k → k < wr.heap.size) → Calls Try.prog 70 #[.pointer a, v] wr (TwoPost wr (L l) (al l))
  l2 : ∀ wr, Below w.heap.size w wr → ∀ (F : Nat → Prop) (v : Value) (l : List Int), RdI wr F v l → (∀ k, F k → k < wr.heap.size) → Calls Try.prog 71 #[.pointer b, v] wr (TwoPost wr (L l) (al l))
theorem Ans11.below {w w' : World} {a b : Option Addr} {E : Int → Bool} {Fi Fo : Int → List Int} {L : List Int → List Int} {al : List Int → Bool} (h : Ans11 w a b E Fi Fo L al) (hb : Below w.heap.size w w') : Ans11 w' a b E Fi Fo L al :=
  have t : ∀ wr, Below w'.heap.size w' wr → Below w.heap.size w wr := fun wr hr => hb.trans (hr.mono hb.size)
  ⟨fun wr hr => h.e1 wr (t wr hr), fun wr hr => h.e2 wr (t wr hr), fun wr hr => h.f1 wr (t wr hr), fun wr hr => h.f2 wr (t wr hr), fun wr hr => h.g1 wr (t wr hr), fun wr hr => h.g2 wr (t wr hr), fun wr hr => h.l1 wr (t wr hr), fun wr hr => h.l2 wr (t wr hr)⟩
theorem two_nil {w w' : World} (hb : Below w.heap.size w w') : TwoPost w [] false (.returned (.tuple #[.slice none 0 0, .bool false])) w' := ⟨none, 0, 0, rfl, Rd.nil _ _ _, hb⟩
theorem ans11 {w w3 w4 : World} {G : GramD} {st : Int} {a b : Option Addr} (h3 : FirstPost w G st (.returned (.pointer a)) w3) (h4 : RFirstPost w3 G st (.returned (.pointer b)) w4) : (a = none ↔ b = none) ∧ ∃ E Fi Fo L al, Ans11 w4 a b E Fi Fo L al := by
  rcases h3 with ⟨hz, e3, b3⟩ | ⟨hz, q, e3, f3, hT, hP, hN, -, b3⟩
  · injection e3 with e3
    injection e3 with e3
    subst e3
    rcases h4 with ⟨-, e4, b4⟩ | ⟨hz', -⟩
    · injection e4 with e4
      injection e4 with e4
      subst e4
      refine ⟨Iff.rfl, fun _ => false, fun _ => [], fun _ => [], fun _ => [], fun _ => false, ⟨fun wr _ k => first_empty_nil k wr, fun wr _ k => ref11_empty_nil k wr, fun wr _ k => first_first_nil k wr, fun wr _ k => ref11_first_nil k wr, fun wr _ k => first_follow_nil k wr, fun wr _ k => ref11_follow_nil k wr,
        fun wr _ F v l _ _ => (first_line_nil v wr).mono fun e w' ⟨h1, h2⟩ => ?_, fun wr _ F v l _ _ => (ref11_line_nil v wr).mono fun e w' ⟨h1, h2⟩ => ?_⟩⟩
      · rw [h1]; exact two_nil h2
      · rw [h1]; exact two_nil h2
    · exact absurd hz' hz
  · injection e3 with e3
    injection e3 with e3
    subst e3
    rcases h4 with ⟨hz', -⟩ | ⟨-, p, e4, f4, -, b4⟩
    · exact absurd hz hz'
    · injection e4 with e4
      injection e4 with e4
      subst e4
      have f3' := f3.below b4
      have hn := f4.nG.1
      have ht := f4.nG.2
      have hm := f4.mT
      refine ⟨by simp, hasI (topN G) (empB G), famL (topN G) (G.terms.length + 1) (begB G), folL G.terms.length (topOf G) (topN G) (behB G st), lineL (G.terms.length + 1) (hasI (topN G) (empB G)) (famI (topN G) (begB G)), fun l => l.all (hasI (topN G) (empB G)), ⟨fun wr hb k => ?_, fun wr hb k => ?_, fun wr hb k => ?_, fun wr hb k => ?_, fun wr hb k => ?_, fun wr hb k => ?_, fun wr hb F v l hv hF => ?_, fun wr hb F v l hv hF => ?_⟩⟩
      · have := first_empty (f3'.below hb) k
        rwa [hN] at this
      · have := ref11_empty (f4.below hb) k
        rwa [hn] at this
      · have := first_first (f3'.below hb) k
        rwa [hN, hT] at this
      · have := ref11_first (f4.below hb) k
        rwa [hn, hm, ht] at this
      · have := first_follow (f3'.below hb) k
        rwa [hN, hT, hP] at this
      · have := ref11_follow (f4.below hb) k
        rwa [hn, ht] at this
      · have := first_Line (f3'.below hb) hv hF
        rwa [hN, hT] at this
      · have := ref11_Line (f4.below hb) hv hF
        rwa [hn, hm, ht] at this

/-- what the walk carries -/
structure TSt11 (w wr : World) (F : Nat → Prop) (A1 : Option Addr) (c1 : Nat) (A2 : Option Addr) (c2 : Nat) (A3 : Option Addr) (c3 T N R : Nat) (st : Int) (G : GramD) (a b : Option Addr) (E : Int → Bool) (Fi Fo : Int → List Int) (L : List Int → List Int) (al : List Int → Bool) (v : Value) (l : List Int) : Prop where
  g : GBox wr F w.heap.size A1 c1 A2 c2 A3 c3 T N R st G
  le : Below w.heap.size w wr
  a : Ans11 wr a b E Fi Fo L al
  v : RdI wr F v l
theorem TSt11.below {w wr wr' : World} {F : Nat → Prop} {A1 : Option Addr} {c1 : Nat} {A2 : Option Addr} {c2 : Nat} {A3 : Option Addr} {c3 T N R : Nat} {st : Int} {G : GramD} {a b : Option Addr} {E : Int → Bool} {Fi Fo : Int → List Int} {L : List Int → List Int} {al : List Int → Bool} {v : Value} {l : List Int}
    (h : TSt11 w wr F A1 c1 A2 c2 A3 c3 T N R st G a b E Fi Fo L al v l) (hb : Below wr.heap.size wr wr') : TSt11 w wr' F A1 c1 A2 c2 A3 c3 T N R st G a b E Fi Fo L al v l :=
  ⟨h.g.below hb, h.le.trans (hb.mono h.le.size), h.a.below hb, h.v.below hb h.g.gram.lt⟩

set_option maxRecDepth 100000 in
set_option maxHeartbeats 8000000 in
theorem walk_FirstTells (C : Array Value) (G : GramD) (v : Value) (l : List Int) (w : World) (hg : GramCells w C.toList G) (hv : RdL w (· < w.heap.size) 1 (fun cs n => cs = [.int .i64 n] ∧ (Lit.int .i64 n).wf = true) v l ∧ l.length * 8 ≤ 140737488351232) :
    Calls Try.prog 13 #[.agg C, v] w (Quiet w (.bool true)) := by
  obtain ⟨vt, vn, vr, hC, hg, -⟩ := hg
  obtain rfl : C = #[vt, vn, vr, .int .i64 G.start] := Array.toList_inj.1 hC
  clear hC
  obtain ⟨hv, -⟩ := rdl_ints hv.1
  obtain ⟨Av, nv, cv, rfl, -⟩ := id hv
  obtain ⟨hnv, hnc, hcm, -⟩ := RdI.at_ hv
  unfold maxLen at hcm
  generalize G.start = st at *
  obtain ⟨A1, c1, A2, c2, A3, c3, rfl, rfl, rfl, -⟩ := hg.slices
  obtain ⟨w1, hw1⟩ : ∃ w1, w1 = w.alloc (.cells #[.slice A1 G.terms.length c1, .slice A2 G.nons.length c2, .slice A3 G.rules.length c3, .int .i64 st] 25) := ⟨_, rfl⟩
  have g1 := GBox.new hg st
  have b1 : Below w.heap.size w w1 := by rw [hw1]; exact (Below.refl _ w).alloc (Nat.le_refl _) _
  rw [← hw1] at g1
  have hm := law_much g1.gram st
  have htop : topOf G = G.terms.length + G.nons.length := rfl
  have hcT := fun wr (g : GBox wr (· < w.heap.size) w.heap.size A1 c1 A2 c2 A3 c3 G.terms.length G.nons.length G.rules.length st G) => ref_top g.gram st
  rw [htop] at hcT
  obtain ⟨q0, q1, q2, q3⟩ := g1.cells
  have cL := fun wr (g : GBox wr (· < w.heap.size) w.heap.size A1 c1 A2 c2 A3 c3 G.terms.length G.nons.length G.rules.length st G) => first_Of g.gram st
  have cR := fun wr (g : GBox wr (· < w.heap.size) w.heap.size A1 c1 A2 c2 A3 c3 G.terms.length G.nons.length G.rules.length st G) => ref11_Of g.gram st
  generalize hT : G.terms.length = T at *
  generalize hN : G.nons.length = N at *
  generalize hR : G.rules.length = R at *
  generalize hF : (fun b => b < w.heap.size) = F at *
  have hvl := hv.below (B := w.heap.size) b1 (fun k hk => by rw [← hF] at hk; exact hk)
  have hF1 : ∀ k, F k → k < w.heap.size := fun k hk => by rw [← hF] at hk; exact hk
  rw [hw1] at q0 q1 q2 q3 hm
  clear hg hT hN hR htop hv
  have Xhm := hide hm
  have XhcT := hide hcT
  have XcL := hide cL
  have XcR := hide cR
  have XhF1 := hide hF1
  have Xhvl := hide hvl
  have Xhnv := hide hnv
  have Xb1 := hide b1
  have Xg1 := hide g1
  have XhF := hide hF
  clear hm hcT cL cR hF1 hvl hnv b1 g1 hF
  go_enter Try.func13, Try.ntmps13
  go_wp2_with fail
  refine Xhm.out.mono ?_
  rintro e w2 ⟨r, hr, rfl, b2⟩
  rw [← hw1] at b2
  have g2 := Xg1.out.below b2
  have hb2 := Xb1.out.trans (b2.mono Xb1.out.size)
  have hv2 := Xhvl.out.below b2 (fun k hk => Nat.lt_of_lt_of_le (XhF1.out k hk) Xb1.out.size)
  clear q0 q1 q2 q3 hw1 Xhm Xg1 Xb1 Xhvl b2
  by_cases hbig : 200 < r
  · have Xhb2 := hide hb2
    have Xg2 := hide g2
    have Xhv2 := hide hv2
    clear hb2 g2 hv2
    go_wp2_with fail
    with_reducible refine (law11_awake _).mono ?_
    rintro e w3 ⟨rfl, b3⟩
    go_wp2_with fail
    go_ret
    exact ⟨rfl, Xhb2.out.trans (b3.mono Xhb2.out.size)⟩
  · by_cases hlong : (50 : Int) < (nv : Int)
    · have Xhb2 := hide hb2
      have Xg2 := hide g2
      have Xhv2 := hide hv2
      clear hb2 g2 hv2
      go_wp2_with fail
      with_reducible refine (law11_awake _).mono ?_
      rintro e w3 ⟨rfl, b3⟩
      go_wp2_with fail
      go_ret
      exact ⟨rfl, Xhb2.out.trans (b3.mono Xhb2.out.size)⟩
    · have hTN : T + N ≤ 200 := by omega
      clear hr
      obtain ⟨q0, q1, q2, q3⟩ := g2.cells
      have g2d : GBox w2.drew F w.heap.size A1 c1 A2 c2 A3 c3 T N R st G := g2.drewN 1
      have hb2d : Below w.heap.size w w2.drew := below_drewN hb2 1
      have hv2d : RdI w2.drew F (.slice Av nv cv) l := hv2
      clear hb2
      have Xhb2d := hide hb2d
      have Xhv2d := hide hv2d
      have Xhv2 := hide hv2
      clear hb2d hv2d hv2
      go_wp2_with fail
      go_region_held3 (fun w' => w'.cell? ⟨w.heap.size, 0, none⟩ = some (.slice A1 T c1) ∧ w'.cell? ⟨w.heap.size, 1, none⟩ = some (.slice A2 N c2) ∧ w'.cell? ⟨w.heap.size, 2, none⟩ = some (.slice A3 R c3) ∧ w'.cell? ⟨w.heap.size, 3, none⟩ = some (.int .i64 st))
        (first | go_keep | assumption)
        (first
          | (go_at_call 62; (with_reducible refine (XcL.out _ g2d).mono ?_); rintro e w3 h3; have hb3 : Below w2.drew.heap.size w2.drew w3 := (by rcases h3 with ⟨-, -, h⟩ | ⟨-, q, -, -, -, -, -, -, h⟩ <;> exact h); have g3 := g2d.below hb3; have k3 := g3.cells; obtain ⟨a3, rfl⟩ : ∃ a, e = .returned (.pointer a) := (by rcases h3 with ⟨-, h, -⟩ | ⟨-, q, h, -⟩ <;> exact ⟨_, h⟩))
          | (go_at_call 63; (with_reducible refine (XcR.out _ g3).mono ?_); rintro e w4 h4; have hb4 : Below w3.heap.size w3 w4 := (by rcases h4 with ⟨-, -, h⟩ | ⟨-, q, -, -, -, h⟩ <;> exact h); have g4 := g3.below hb4; have k4 := g4.cells; obtain ⟨a4, rfl⟩ : ∃ a, e = .returned (.pointer a) := (by rcases h4 with ⟨-, h, -⟩ | ⟨-, q, h, -⟩ <;> exact ⟨_, h⟩)))
      obtain ⟨hn, E, Fi, Fo, L, al, ans⟩ := ans11 h3 h4
      have hb3' : Below w.heap.size w w3 := Xhb2d.out.trans (hb3.mono Xhb2d.out.size)
      have hv3 := Xhv2d.out.below hb3 g2d.gram.lt
      have hv4 := hv3.below hb4 g3.gram.lt
      have ctx : TSt11 w w4 F A1 c1 A2 c2 A3 c3 T N R st G a3 a4 E Fi Fo L al (.slice Av nv cv) l := ⟨g4, hb3'.trans (hb4.mono hb3'.size), ans, hv4⟩
      clear h3 h4 hb3 hb4 g2d g3 g4 k3 k4 ans hv3 hv4 hb3' Xhb2d Xhv2d Xhv2 g2 XcL XcR
      have Xctx := hide ctx
      clear ctx
      rcases a3 with _ | p3
      · rcases a4 with _ | p4
        · clear hn
          go_wp2_with fail
          go_loopw [7] (fun i wr => ∃ k : Nat, k ≤ T + N + 3 ∧ i = .int .i64 ((k : Int) - 1) ∧ TSt11 w wr F A1 c1 A2 c2 A3 c3 T N R st G none none E Fi Fo L al (.slice Av nv cv) l) (fun i _ => T + N + 3 - (intOf i + 1).toNat)
          case atStart => exact ⟨0, Nat.zero_le _, rfl, Xctx.out⟩
          case round =>
            clear Xctx
            obtain ⟨k, hk, rfl, t⟩ := hrel
            obtain ⟨q0, q1, q2, q3⟩ := t.g.cells
            have ct := XhcT.out _ t.g
            have Xt := hide t
            have Xct := hide ct
            clear t ct
            go_wp2_with fail
            with_reducible refine Xct.out.mono ?_
            rintro e w5 ⟨rfl, b5⟩
            have t5 := Xt.out.below b5
            clear q0 q1 q2 q3 Xt Xct b5
            by_cases hlt : k < T + N + 3
            · have hlt' : (k : Int) - 1 ≤ (T : Int) + (N : Int) + 1 := by omega
              obtain ⟨s, hs⟩ : ∃ s : Int, s = (k : Int) - 1 := ⟨_, rfl⟩
              rw [← hs] at hlt' ⊢
              have c1 := t5.a.e1 w5 (Below.refl _ _) s
              obtain ⟨ek, hE⟩ : ∃ ek, ek = E s := ⟨_, rfl⟩
              rw [← hE] at c1
              have Xt5 := hide t5
              have Xc1 := hide c1
              have XhE := hide hE
              have Xhs := hide hs
              clear t5 c1 hE hs
              go_wp2_with fail
              with_reducible refine Xc1.out.mono ?_
              rintro e w6 ⟨rfl, b6⟩
              have t6 := Xt5.out.below b6
              have c2 := t6.a.e2 w6 (Below.refl _ _) s
              rw [← XhE.out] at c2
              clear b6 Xt5 Xc1
              have Xt6 := hide t6
              have Xc2 := hide c2
              clear t6 c2
              go_wp2_with fail
              with_reducible refine Xc2.out.mono ?_
              rintro e w7 ⟨rfl, b7⟩
              have t7 := Xt6.out.below b7
              have c3 := t7.a.f1 w7 (Below.refl _ _) s
              have hee : (ek != ek) = false := by simp
              clear b7 Xt6 Xc2
              have Xt7 := hide t7
              have Xc3 := hide c3
              clear t7 c3
              go_wp2_with fail
              refine Xc3.out.mono ?_
              rintro e w8 ⟨A8, n8, c8, rfl, hr8, b8⟩
              have t8 := Xt7.out.below b8
              have c4 := t8.a.f2 w8 (Below.refl _ _) s
              clear b8 Xt7 Xc3
              have Xt8 := hide t8
              have Xc4 := hide c4
              have Xhr8 := hide hr8
              clear t8 c4 hr8
              go_wp2_with fail
              refine Xc4.out.mono ?_
              rintro e w9 ⟨A9, n9, c9, rfl, hr9, b9⟩
              have t9 := Xt8.out.below b9
              have hI := ref_ints3 (Xhr8.out.below b9 (fun k hk => hk.2)) hr9
              rw [decide_eq_true rfl] at hI
              clear b9 Xt8 Xc4 hr9 Xhr8
              have Xt9 := hide t9
              have XhI := hide hI
              clear t9 hI
              go_wp2_with fail
              with_reducible refine XhI.out.mono ?_
              rintro e w10 ⟨rfl, b10⟩
              have t10 := Xt9.out.below b10
              have c5 := t10.a.g1 w10 (Below.refl _ _) s
              clear b10 Xt9 XhI
              have Xt10 := hide t10
              have Xc5 := hide c5
              clear t10 c5
              go_wp2_with fail
              refine Xc5.out.mono ?_
              rintro e w11 ⟨A11, n11, c11, rfl, hr11, b11⟩
              have t11 := Xt10.out.below b11
              have c6 := t11.a.g2 w11 (Below.refl _ _) s
              clear b11 Xt10 Xc5
              have Xt11 := hide t11
              have Xc6 := hide c6
              have Xhr11 := hide hr11
              clear t11 c6 hr11
              go_wp2_with fail
              refine Xc6.out.mono ?_
              rintro e w12 ⟨A12, n12, c12, rfl, hr12, b12⟩
              have t12 := Xt11.out.below b12
              have hI := ref_ints3 (Xhr11.out.below b12 (fun k hk => hk.2)) hr12
              rw [decide_eq_true rfl] at hI
              clear b12 Xt11 Xc6 hr12 Xhr11
              have Xt12 := hide t12
              have XhI := hide hI
              clear t12 hI
              go_wp2_with fail
              with_reducible refine XhI.out.mono ?_
              rintro e w13 ⟨rfl, b13⟩
              have t13 := Xt12.out.below b13
              clear b13 Xt12 XhI
              have hs := Xhs.out
              have Xt13 := hide t13
              clear t13
              go_wp2_with fail
              go_roundw
              case rel => exact ⟨k + 1, by omega, int_eq (by omega), Xt13.out⟩
              case measure => simp [intOf]; omega
            · have hlt' : ¬ (k : Int) - 1 ≤ (T : Int) + (N : Int) + 1 := by omega
              have c1 := t5.a.l1 w5 (Below.refl _ _) F _ l t5.v t5.g.gram.lt
              obtain ⟨q, hal⟩ : ∃ q, q = al l := ⟨_, rfl⟩
              rw [← hal] at c1
              have Xt5 := hide t5
              have Xc1 := hide c1
              have Xhal := hide hal
              clear t5 c1 hal
              go_wp2_with fail
              refine Xc1.out.mono ?_
              rintro e w6 ⟨A6, n6, c6, rfl, hr6, b6⟩
              have t6 := Xt5.out.below b6
              have c2 := t6.a.l2 w6 (Below.refl _ _) F _ l t6.v t6.g.gram.lt
              rw [← Xhal.out] at c2
              clear b6 Xt5 Xc1
              have Xt6 := hide t6
              have Xc2 := hide c2
              have Xhr6 := hide hr6
              clear t6 c2 hr6
              go_wp2_with fail
              refine Xc2.out.mono ?_
              rintro e w7 ⟨A7, n7, c7, rfl, hr7, b7⟩
              have t7 := Xt6.out.below b7
              have hI := ref_ints3 (Xhr6.out.below b7 (fun k hk => hk.2)) hr7
              rw [decide_eq_true rfl] at hI
              have hqq : (q == q) = true := by simp
              clear b7 Xt6 Xc2 hr7 Xhr6
              have Xt7 := hide t7
              have XhI := hide hI
              clear t7 hI
              go_wp2_with fail
              with_reducible refine XhI.out.mono ?_
              rintro e w8 ⟨rfl, b8⟩
              have t8 := Xt7.out.below b8
              have hb2 := t8.le
              clear b8 Xt7 XhI t8
              have Xhb2 := hide hb2
              clear hb2
              go_wp2_with fail
              with_reducible refine (law11_awake _).mono ?_
              rintro e w3 ⟨rfl, b3⟩
              go_wp2_with fail
              go_ret
              exact ⟨rfl, Xhb2.out.trans (b3.mono Xhb2.out.size)⟩
        · simp at hn
      · rcases a4 with _ | p4
        · simp at hn
        · clear hn
          go_wp2_with fail
          go_loopw [7] (fun i wr => ∃ k : Nat, k ≤ T + N + 3 ∧ i = .int .i64 ((k : Int) - 1) ∧ TSt11 w wr F A1 c1 A2 c2 A3 c3 T N R st G (some p3) (some p4) E Fi Fo L al (.slice Av nv cv) l) (fun i _ => T + N + 3 - (intOf i + 1).toNat)
          case atStart => exact ⟨0, Nat.zero_le _, rfl, Xctx.out⟩
          case round =>
            clear Xctx
            obtain ⟨k, hk, rfl, t⟩ := hrel
            obtain ⟨q0, q1, q2, q3⟩ := t.g.cells
            have ct := XhcT.out _ t.g
            have Xt := hide t
            have Xct := hide ct
            clear t ct
            go_wp2_with fail
            with_reducible refine Xct.out.mono ?_
            rintro e w5 ⟨rfl, b5⟩
            have t5 := Xt.out.below b5
            clear q0 q1 q2 q3 Xt Xct b5
            by_cases hlt : k < T + N + 3
            · have hlt' : (k : Int) - 1 ≤ (T : Int) + (N : Int) + 1 := by omega
              obtain ⟨s, hs⟩ : ∃ s : Int, s = (k : Int) - 1 := ⟨_, rfl⟩
              rw [← hs] at hlt' ⊢
              have c1 := t5.a.e1 w5 (Below.refl _ _) s
              obtain ⟨ek, hE⟩ : ∃ ek, ek = E s := ⟨_, rfl⟩
              rw [← hE] at c1
              have Xt5 := hide t5
              have Xc1 := hide c1
              have XhE := hide hE
              have Xhs := hide hs
              clear t5 c1 hE hs
              go_wp2_with fail
              with_reducible refine Xc1.out.mono ?_
              rintro e w6 ⟨rfl, b6⟩
              have t6 := Xt5.out.below b6
              have c2 := t6.a.e2 w6 (Below.refl _ _) s
              rw [← XhE.out] at c2
              clear b6 Xt5 Xc1
              have Xt6 := hide t6
              have Xc2 := hide c2
              clear t6 c2
              go_wp2_with fail
              with_reducible refine Xc2.out.mono ?_
              rintro e w7 ⟨rfl, b7⟩
              have t7 := Xt6.out.below b7
              have c3 := t7.a.f1 w7 (Below.refl _ _) s
              have hee : (ek != ek) = false := by simp
              clear b7 Xt6 Xc2
              have Xt7 := hide t7
              have Xc3 := hide c3
              clear t7 c3
              go_wp2_with fail
              refine Xc3.out.mono ?_
              rintro e w8 ⟨A8, n8, c8, rfl, hr8, b8⟩
              have t8 := Xt7.out.below b8
              have c4 := t8.a.f2 w8 (Below.refl _ _) s
              clear b8 Xt7 Xc3
              have Xt8 := hide t8
              have Xc4 := hide c4
              have Xhr8 := hide hr8
              clear t8 c4 hr8
              go_wp2_with fail
              refine Xc4.out.mono ?_
              rintro e w9 ⟨A9, n9, c9, rfl, hr9, b9⟩
              have t9 := Xt8.out.below b9
              have hI := ref_ints3 (Xhr8.out.below b9 (fun k hk => hk.2)) hr9
              rw [decide_eq_true rfl] at hI
              clear b9 Xt8 Xc4 hr9 Xhr8
              have Xt9 := hide t9
              have XhI := hide hI
              clear t9 hI
              go_wp2_with fail
              with_reducible refine XhI.out.mono ?_
              rintro e w10 ⟨rfl, b10⟩
              have t10 := Xt9.out.below b10
              have c5 := t10.a.g1 w10 (Below.refl _ _) s
              clear b10 Xt9 XhI
              have Xt10 := hide t10
              have Xc5 := hide c5
              clear t10 c5
              go_wp2_with fail
              refine Xc5.out.mono ?_
              rintro e w11 ⟨A11, n11, c11, rfl, hr11, b11⟩
              have t11 := Xt10.out.below b11
              have c6 := t11.a.g2 w11 (Below.refl _ _) s
              clear b11 Xt10 Xc5
              have Xt11 := hide t11
              have Xc6 := hide c6
              have Xhr11 := hide hr11
              clear t11 c6 hr11
              go_wp2_with fail
              refine Xc6.out.mono ?_
              rintro e w12 ⟨A12, n12, c12, rfl, hr12, b12⟩
              have t12 := Xt11.out.below b12
              have hI := ref_ints3 (Xhr11.out.below b12 (fun k hk => hk.2)) hr12
              rw [decide_eq_true rfl] at hI
              clear b12 Xt11 Xc6 hr12 Xhr11
              have Xt12 := hide t12
              have XhI := hide hI
              clear t12 hI
              go_wp2_with fail
              with_reducible refine XhI.out.mono ?_
              rintro e w13 ⟨rfl, b13⟩
              have t13 := Xt12.out.below b13
              clear b13 Xt12 XhI
              have hs := Xhs.out
              have Xt13 := hide t13
              clear t13
              go_wp2_with fail
              go_roundw
              case rel => exact ⟨k + 1, by omega, int_eq (by omega), Xt13.out⟩
              case measure => simp [intOf]; omega
            · have hlt' : ¬ (k : Int) - 1 ≤ (T : Int) + (N : Int) + 1 := by omega
              have c1 := t5.a.l1 w5 (Below.refl _ _) F _ l t5.v t5.g.gram.lt
              obtain ⟨q, hal⟩ : ∃ q, q = al l := ⟨_, rfl⟩
              rw [← hal] at c1
              have Xt5 := hide t5
              have Xc1 := hide c1
              have Xhal := hide hal
              clear t5 c1 hal
              go_wp2_with fail
              refine Xc1.out.mono ?_
              rintro e w6 ⟨A6, n6, c6, rfl, hr6, b6⟩
              have t6 := Xt5.out.below b6
              have c2 := t6.a.l2 w6 (Below.refl _ _) F _ l t6.v t6.g.gram.lt
              rw [← Xhal.out] at c2
              clear b6 Xt5 Xc1
              have Xt6 := hide t6
              have Xc2 := hide c2
              have Xhr6 := hide hr6
              clear t6 c2 hr6
              go_wp2_with fail
              refine Xc2.out.mono ?_
              rintro e w7 ⟨A7, n7, c7, rfl, hr7, b7⟩
              have t7 := Xt6.out.below b7
              have hI := ref_ints3 (Xhr6.out.below b7 (fun k hk => hk.2)) hr7
              rw [decide_eq_true rfl] at hI
              have hqq : (q == q) = true := by simp
              clear b7 Xt6 Xc2 hr7 Xhr6
              have Xt7 := hide t7
              have XhI := hide hI
              clear t7 hI
              go_wp2_with fail
              with_reducible refine XhI.out.mono ?_
              rintro e w8 ⟨rfl, b8⟩
              have t8 := Xt7.out.below b8
              have hb2 := t8.le
              clear b8 Xt7 XhI t8
              have Xhb2 := hide hb2
              clear hb2
              go_wp2_with fail
              with_reducible refine (law11_awake _).mono ?_
              rintro e w3 ⟨rfl, b3⟩
              go_wp2_with fail
              go_ret
              exact ⟨rfl, Xhb2.out.trans (b3.mono Xhb2.out.size)⟩
end Go.Proofs.Ytejjaabkbkkjlaa

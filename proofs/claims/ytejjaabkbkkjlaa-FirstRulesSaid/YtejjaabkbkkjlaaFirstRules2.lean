/- The law FirstRules: the walk. -/
import Derived.Test.YtejjaabkbkkjlaaFirstRules1
import Derived.Deep.Cut
import Derived.Deep.CutRange
namespace Go.Proofs.Ytejjaabkbkkjlaa
set_option linter.unusedVariables false
set_option linter.unusedSimpArgs false
open Go.RowKit
attribute [local irreducible] wpStill wpOne wpPh

/-- what the walk carries -/
structure FrSt (w wr : World) (F : Nat → Prop) (A1 : Option Addr) (c1 : Nat) (A2 : Option Addr) (c2 : Nat) (A3 : Option Addr) (c3 T N R : Nat) (st : Int) (G : GramD) (q : FD) : Prop where
  g : GBox wr F w.heap.size A1 c1 A2 c2 A3 c3 T N R st G
  f : FSets wr q (empB G) (begB G) (behB G st)
  le : Below w.heap.size w wr
section
variable {w wr wr' : World} {F : Nat → Prop} {A1 : Option Addr} {c1 : Nat} {A2 : Option Addr} {c2 : Nat} {A3 : Option Addr} {c3 T N R : Nat} {st : Int} {G : GramD} {q : FD}
theorem FrSt.below (h : FrSt w wr F A1 c1 A2 c2 A3 c3 T N R st G q) (hb : Below wr.heap.size wr wr') : FrSt w wr' F A1 c1 A2 c2 A3 c3 T N R st G q :=
  ⟨h.g.below hb, h.f.below hb, h.le.trans (hb.mono h.le.size)⟩
end
/-- what the sets' readers answer -/
structure FrAns (q : FD) (G : GramD) (st : Int) : Prop where
  T : q.T = G.terms.length
  p : q.p = topOf G
  n : q.n = topN G
theorem FrAns.line {q : FD} {G : GramD} {st : Int} (h : FrAns q G st) {wr : World} (f : FSets wr q (empB G) (begB G) (behB G st)) {F : Nat → Prop} {v : Value} {l : List Int} (hl : RdI wr F v l) (hF : ∀ k, F k → k < wr.heap.size) :
    Calls Try.prog 70 #[PtrV q.s, v] wr (TwoPost wr (lineG G l) (l.all (hasI (topN G) (empB G)))) := by
  have := first_Line f hl hF
  rw [h.T, h.n] at this
  exact this
theorem FrAns.first {q : FD} {G : GramD} {st : Int} (h : FrAns q G st) {wr : World} (f : FSets wr q (empB G) (begB G) (behB G st)) (x : Int) : Calls Try.prog 66 #[PtrV q.s, .int .i64 x] wr (IntsPost wr (firstG G x)) := by
  have := first_first f x
  rw [h.T, h.n] at this
  exact this
theorem FrAns.follow {q : FD} {G : GramD} {st : Int} (h : FrAns q G st) {wr : World} (f : FSets wr q (empB G) (begB G) (behB G st)) (x : Int) : Calls Try.prog 68 #[PtrV q.s, .int .i64 x] wr (IntsPost wr (followG G st x)) := by
  have := first_follow f x
  rw [h.T, h.p, h.n] at this
  exact this
theorem FrAns.empty {q : FD} {G : GramD} {st : Int} (h : FrAns q G st) {wr : World} (f : FSets wr q (empB G) (begB G) (behB G st)) (x : Int) : Calls Try.prog 64 #[PtrV q.s, .int .i64 x] wr (Quiet wr (.bool (hasI (topN G) (empB G) x))) := by
  have := first_empty f x
  rw [h.n] at this
  exact this

set_option maxRecDepth 100000 in
set_option maxHeartbeats 8000000 in
theorem walk_FirstRules (C : Array Value) (G : GramD) (w : World) (hg : GramCells w C.toList G) :
    Calls Try.prog 14 #[.agg C] w (Quiet w (.bool true)) := by
  obtain ⟨vt, vn, vr, hC, hg, -⟩ := hg
  obtain rfl : C = #[vt, vn, vr, .int .i64 G.start] := Array.toList_inj.1 hC
  clear hC
  generalize G.start = st at *
  obtain ⟨A1, c1, A2, c2, A3, c3, rfl, rfl, rfl, -⟩ := hg.slices
  obtain ⟨w1, hw1⟩ : ∃ w1, w1 = w.alloc (.cells #[.slice A1 G.terms.length c1, .slice A2 G.nons.length c2, .slice A3 G.rules.length c3, .int .i64 st] 25) := ⟨_, rfl⟩
  have g1 := GBox.new hg st
  have b1 : Below w.heap.size w w1 := by rw [hw1]; exact (Below.refl _ w).alloc (Nat.le_refl _) _
  rw [← hw1] at g1
  have hm := law_much g1.gram st
  have cC := fun wr (g : GBox wr (· < w.heap.size) w.heap.size A1 c1 A2 c2 A3 c3 G.terms.length G.nons.length G.rules.length st G) => ref_check g.gram st
  have cF := fun wr (g : GBox wr (· < w.heap.size) w.heap.size A1 c1 A2 c2 A3 c3 G.terms.length G.nons.length G.rules.length st G) => first_Of g.gram st
  have cN := fun wr (g : GBox wr (· < w.heap.size) w.heap.size A1 c1 A2 c2 A3 c3 G.terms.length G.nons.length G.rules.length st G) s => ref_non g.gram st s
  have hkn : checkOf G st = 0 → Kn G st := Kn.of_check
  obtain ⟨q0, q1, q2, q3⟩ := g1.cells
  generalize hT : G.terms.length = T at *
  generalize hN : G.nons.length = N at *
  generalize hR : G.rules.length = R at *
  obtain ⟨F, hF⟩ : ∃ F : Nat → Prop, F = fun b => b < w.heap.size := ⟨_, rfl⟩
  have hF1 : ∀ k, F k → k < w.heap.size := fun k hk => by rw [hF] at hk; exact hk
  rw [← hF] at g1
  rw [← hF] at cC cF cN
  rw [hw1] at q0 q1 q2 q3 hm
  clear hg hF
  generalize hcz : checkOf G st = cz at *
  have Xhm := hide hm
  have XcC := hide cC
  have XcF := hide cF
  have XcN := hide cN
  have XhF1 := hide hF1
  have Xb1 := hide b1
  have Xg1 := hide g1
  have Xhkn := hide hkn
  have XhT := hide hT
  have XhN := hide hN
  have XhR := hide hR
  have Xhcz := hide hcz
  clear hm cC cF cN hF1 b1 g1 hkn hT hN hR hcz
  go_enter Try.func14, Try.ntmps14
  go_wp2_with fail
  refine Xhm.out.mono ?_
  rintro e w2 ⟨r, hr, rfl, b2⟩
  rw [← hw1] at b2
  have g2 := Xg1.out.below b2
  have hb2 := Xb1.out.trans (b2.mono Xb1.out.size)
  clear q0 q1 q2 q3 hw1 Xhm Xg1 Xb1 b2 hr
  by_cases hbig : 200 < r
  · have Xhb2 := hide hb2
    have Xg2 := hide g2
    clear hb2 g2
    go_wp2_with fail
    with_reducible refine (law11_awake _).mono ?_
    rintro e w3 ⟨rfl, b3⟩
    go_wp2_with fail
    go_ret
    exact ⟨rfl, Xhb2.out.trans (b3.mono Xhb2.out.size)⟩
  obtain ⟨q0, q1, q2, q3⟩ := g2.cells
  have cc := XcC.out _ g2
  have Xhb2 := hide hb2
  have Xg2 := hide g2
  have Xcc := hide cc
  clear hb2 g2 cc
  go_wp2_with fail
  with_reducible refine Xcc.out.mono ?_
  rintro e w3 ⟨rfl, b3⟩
  have g3 := Xg2.out.below b3
  have hb3 := Xhb2.out.trans (b3.mono Xhb2.out.size)
  clear q0 q1 q2 q3 b3 Xg2 Xhb2 Xcc
  by_cases hz : cz = 0
  case neg =>
    have hz' : (cz != 0) = true := by simpa using hz
    have hb2 := hb3
    clear hb3
    have Xhb2 := hide hb2
    have Xg3 := hide g3
    clear hb2 g3
    go_wp2_with fail
    with_reducible refine (law11_awake _).mono ?_
    rintro e w3 ⟨rfl, b3⟩
    go_wp2_with fail
    go_ret
    exact ⟨rfl, Xhb2.out.trans (b3.mono Xhb2.out.size)⟩
  subst hz
  have hk := Xhkn.out (by first | rfl | trivial)
  obtain ⟨q0, q1, q2, q3⟩ := g3.cells
  have cf := XcF.out _ g3
  have Xhb3 := hide hb3
  have Xg3 := hide g3
  have Xcf := hide cf
  have Xhk := hide hk
  clear hb3 g3 cf hk
  go_wp2_with fail
  with_reducible refine Xcf.out.mono ?_
  rintro e w4 hp
  rcases hp with ⟨h0, -, -⟩ | ⟨-, q, rfl, f4, hqT, hqP, hqN, -, b4⟩
  · exact absurd Xhcz.out h0
  have ans : FrAns q G st := ⟨hqT, hqP, hqN⟩
  have t4 : FrSt w w4 F A1 c1 A2 c2 A3 c3 T N R st G q := ⟨Xg3.out.below b4, f4, Xhb3.out.trans (b4.mono Xhb3.out.size)⟩
  clear f4 hqT hqP hqN b4 q0 q1 q2 q3 Xcf Xg3 Xhb3 XcF XcC
  have Xans := hide ans
  have Xt4 := hide t4
  clear ans t4
  go_wp2_with fail
  go_loopw [4] (fun i wr => ∃ j : Nat, j ≤ R ∧ i = .int .i64 j ∧ FrSt w wr F A1 c1 A2 c2 A3 c3 T N R st G q) (fun i _ => R - (intOf i).toNat)
  case atStart => exact ⟨0, Nat.zero_le _, rfl, Xt4.out⟩
  case round =>
    clear Xt4
    obtain ⟨j, hj, rfl, t⟩ := hrel
    obtain ⟨q0, q1, q2, q3⟩ := t.g.cells
    have r0 := t.g.rs
    have r1 := t.g.rc
    have r2 := t.g.c3m
    by_cases hlt : j < R
    · obtain ⟨bb, off, l, x, A, nx, c, rfl, hbl, hx, h0, h1, hr, hnx, hnc, hcm⟩ := t.g.rule hlt
      have hj' : (j : Int) < (R : Int) := by omega
      have hrm := List.mem_of_getElem? hx
      obtain ⟨wa, hwa⟩ : ∃ wa, wa = wr.alloc (.cells #[.int .i64 l, .slice A nx c] 30) := ⟨_, rfl⟩
      have ba : Below wr.heap.size wr wa := by rw [hwa]; exact (Below.refl _ _).alloc (Nat.le_refl _) _
      have ka : Blk wa wr.heap.size 30 #[.int .i64 l, .slice A nx c] := by rw [hwa]; exact Blk.new _ _ _
      have ta := t.below ba
      have hra := hr.below ba t.g.gram.lt
      have cl := Xans.out.line ta.f hra ta.g.gram.lt
      have a0 := (ka.cell 0).trans rfl
      have a1 := (ka.cell 1).trans rfl
      have hw1 := rules_first Xhk.out hrm
      have hw2 := rules_empty Xhk.out hrm
      simp only at hw1 hw2
      obtain ⟨al, hal⟩ : ∃ al, al = x.all (hasI (topN G) (empB G)) := ⟨_, rfl⟩
      rw [← hal] at hw2 cl
      rw [hwa] at cl a0 a1
      clear hr hnx ba
      have Xcl := hide cl
      have Xka := hide ka
      have Xta := hide ta
      have Xhra := hide hra
      have Xhx := hide hx
      have Xt := hide t
      have Xhal := hide hal
      have Xhw1 := hide hw1
      have Xhw2 := hide hw2
      have Xhrm := hide hrm
      clear cl ka ta hra hx t hal hw1 hw2 hrm
      go_wp2_with fail
      refine Xcl.out.mono ?_
      rintro ee w5 ⟨A5, n5, c5, rfl, hr5, b5⟩
      rw [← hwa] at b5
      have t5 := Xta.out.below b5
      have k5 := Xka.out.below b5 Xka.out.lt
      have hra5 := Xhra.out.below b5 Xta.out.g.gram.lt
      clear hwa a0 a1 h0 h1 q0 q1 q2 q3 b5 Xcl Xka Xta Xhra Xt
      have Xt5 := hide t5
      have Xk5 := hide k5
      have Xhra5 := hide hra5
      have Xhr5 := hide hr5
      clear t5 k5 hra5 hr5
      go_upto_region 9 with fail
      go_cut [57] from 22 to 110 (fun v wx => v = .bool false ∧ FrSt w wx F A1 c1 A2 c2 (some ⟨bb, off, none⟩) c3 T N R st G q ∧ Blk wx wr.heap.size 30 #[.int .i64 l, .slice A nx c] ∧ RdI wx F (.slice A nx c) x)
      case first =>
        have d0 := (Xk5.out.cell 0).trans rfl
        have c6 := Xans.out.first Xt5.out.f l
        have Xc6 := hide c6
        clear c6
        go_wp2_with fail
        refine Xc6.out.mono ?_
        rintro ee w6 ⟨A6, n6, c6, rfl, hr6, b6⟩
        have t6 := Xt5.out.below b6
        have k6 := Xk5.out.below b6 Xk5.out.lt
        have hra6 := Xhra5.out.below b6 Xt5.out.g.gram.lt
        have hI := law11_within (Xhr5.out.below b6 (fun k hk => hk.2)) hr6
        rw [Xhw1.out] at hI
        clear d0 b6 hr6 Xc6 Xt5 Xk5 Xhra5 Xhr5
        have Xt6 := hide t6
        have Xk6 := hide k6
        have Xhra6 := hide hra6
        have XhI := hide hI
        clear t6 k6 hra6 hI
        go_wp2_with fail
        with_reducible refine XhI.out.mono ?_
        rintro ee w7 ⟨rfl, b7⟩
        have t7 := Xt6.out.below b7
        have k7 := Xk6.out.below b7 Xk6.out.lt
        have hra7 := Xhra6.out.below b7 Xt6.out.g.gram.lt
        have d0 := (k7.cell 0).trans rfl
        clear b7 XhI Xt6 Xk6 Xhra6
        cases al with
        | false =>
          have Xt7 := hide t7
          have Xk7 := hide k7
          have Xhra7 := hide hra7
          clear t7 k7 hra7
          go_wp2_with fail
          go_meet
          exact ⟨rfl, Xt7.out, Xk7.out, Xhra7.out⟩
        | true =>
          have c8 := Xans.out.empty t7.f l
          rw [Xhw2.out (by first | rfl | trivial)] at c8
          have Xt7 := hide t7
          have Xk7 := hide k7
          have Xhra7 := hide hra7
          have Xc8 := hide c8
          clear t7 k7 hra7 c8
          go_wp2_with fail
          with_reducible refine Xc8.out.mono ?_
          rintro ee w8 ⟨rfl, b8⟩
          have t8 := Xt7.out.below b8
          have k8 := Xk7.out.below b8 Xk7.out.lt
          have hra8 := Xhra7.out.below b8 Xt7.out.g.gram.lt
          clear d0 b8 Xc8 Xt7 Xk7 Xhra7
          have Xt8 := hide t8
          have Xk8 := hide k8
          have Xhra8 := hide hra8
          clear t8 k8 hra8
          go_wp2_with fail
          go_meet
          exact ⟨rfl, Xt8.out, Xk8.out, Xhra8.out⟩
      case rest =>
        obtain ⟨rfl, t9, k9, hra9⟩ := hcut
        clear Xt5 Xk5 Xhra5 Xhr5
        obtain ⟨wo, rfl⟩ : ∃ wo : World, wo = wr := ⟨_, rfl⟩
        have Xt9 := hide t9
        have Xk9 := hide k9
        have Xhra9 := hide hra9
        clear t9 k9 hra9
        go_wp2_with fail
        go_loopw [8] (fun i wr2 => ∃ k : Nat, k ≤ nx ∧ i = .int .i64 k ∧ FrSt w wr2 F A1 c1 A2 c2 (some ⟨bb, off, none⟩) c3 T N R st G q ∧ Blk wr2 wo.heap.size 30 #[.int .i64 l, .slice A nx c] ∧ RdI wr2 F (.slice A nx c) x) (fun i _ => nx - (intOf i).toNat)
        case atStart => exact ⟨0, Nat.zero_le _, rfl, Xt9.out, Xk9.out, Xhra9.out⟩
        case round =>
          clear Xt9 Xk9 Xhra9
          obtain ⟨k, hk', rfl, t, kb, hrx⟩ := hrel
          have d1 := (kb.cell 1).trans rfl
          obtain ⟨hnx2, -, -, hcell⟩ := RdI.at_ hrx
          by_cases hkx : k < nx
          · have hkx' : (k : Int) < (nx : Int) := by omega
            obtain ⟨b2, o2, rfl, hFb, hc1⟩ := hcell (by omega)
            obtain ⟨y, hy⟩ : ∃ y, x[k]? = some y := ⟨_, List.getElem?_eq_getElem (by rw [← hnx2]; exact hkx)⟩
            have hcy := hc1 k y hy
            obtain ⟨q0, q1, q2, q3⟩ := t.g.cells
            have td := t.below ((Below.refl _ wr).drew)
            have cn := XcN.out _ td.g y
            obtain ⟨nb, hnb⟩ : ∃ nb, nb = isNon G y := ⟨_, rfl⟩
            rw [← hnb] at cn
            clear hcell hc1 hnx2
            have Xt := hide t
            have Xtd := hide td
            have Xkb := hide kb
            have Xhrx := hide hrx
            have Xcn := hide cn
            have Xhy := hide hy
            have Xhnb := hide hnb
            clear t td kb hrx cn hy hnb
            go_wp2_with fail
            refine region_tail 6 (by kernel_rfl) (by kernel_rfl) ?_
            simp only [List.take_succ_cons, List.take_zero, List.drop_succ_cons, List.drop_zero]
            repeat still_step
            refine wpStill_nil ?_
            go_wp2_with fail
            with_reducible refine Xcn.out.mono ?_
            rintro ee w10 ⟨rfl, b10⟩
            have t10 := Xtd.out.below b10
            have k10 := (Xkb.out.drew).below b10 Xkb.out.lt
            have hrx10 := (Xhrx.out.drew).below b10 Xt.out.g.gram.lt
            clear d1 q0 q1 q2 q3 hcy b10 Xt Xtd Xkb Xhrx Xcn
            cases nb with
            | false =>
              have Xt10 := hide t10
              have Xk10 := hide k10
              have Xhrx10 := hide hrx10
              clear t10 k10 hrx10
              go_wp2_with fail
              go_roundw
              case rel => exact ⟨k + 1, by omega, by go_num, Xt10.out, Xk10.out, Xhrx10.out⟩
              case measure => simp [intOf]; omega
            | true =>
              have d1 := (k10.cell 1).trans rfl
              obtain ⟨hnx2, hnc2, hcm2, -⟩ := RdI.at_ hrx10
              unfold maxLen at hcm2
              have hnk : (k : Int) + 1 ≤ (nx : Int) := by omega
              have hw63 : IntKind.i64.wrap ((k : Int) + 1) = (k : Int) + 1 := by rw [IntKind.wrap_i64]; omega
              have htn : ((k : Int) + 1).toNat = k + 1 := by omega
              have h0k : (0 : Int) ≤ (k : Int) + 1 := by omega
              have hrt := RdI.tail hrx10 (k := k + 1) (by omega)
              obtain ⟨A', hA'⟩ : ∃ A' : Option Addr, (if c = k + 1 then (some ⟨b2, o2, none⟩ : Option Addr) else some ⟨b2, o2 + (k + 1), none⟩) = A' := ⟨_, rfl⟩
              rw [hA'] at hrt
              have cl := Xans.out.line t10.f hrt t10.g.gram.lt
              obtain ⟨al2, hal2⟩ : ∃ al2, al2 = (x.drop (k + 1)).all (hasI (topN G) (empB G)) := ⟨_, rfl⟩
              have hn1 := rules_next Xhk.out Xhrm.out Xhy.out Xhnb.out.symm
              have hn2 := rules_last Xhk.out Xhrm.out Xhy.out Xhnb.out.symm
              simp only at hn1 hn2
              rw [← hal2] at cl hn2
              clear hnx2 hrt
              have Xt10 := hide t10
              have Xk10 := hide k10
              have Xhrx10 := hide hrx10
              have Xcl := hide cl
              have Xhal2 := hide hal2
              have Xhn1 := hide hn1
              have Xhn2 := hide hn2
              clear t10 k10 hrx10 cl hal2 hn1 hn2
              go_wp2_with fail
              refine Xcl.out.mono ?_
              rintro ee w11 ⟨A11, n11, c11, rfl, hr11, b11⟩
              have t11 := Xt10.out.below b11
              have k11 := Xk10.out.below b11 Xk10.out.lt
              have hrx11 := Xhrx10.out.below b11 Xt10.out.g.gram.lt
              clear d1 hnk hw63 htn h0k hA' b11 Xcl Xt10 Xk10 Xhrx10
              have Xt11 := hide t11
              have Xk11 := hide k11
              have Xhrx11 := hide hrx11
              have Xhr11 := hide hr11
              clear t11 k11 hrx11 hr11
              go_upto_region 16 with fail
              obtain ⟨hnx2, hnc2, hcm2, hcell2⟩ := RdI.at_ Xhrx11.out
              obtain ⟨b3, o3, e3, -, hc3⟩ := hcell2 (by omega)
              injection e3 with e3
              injection e3 with e31 e32 _
              subst e31 e32
              have hcy := hc3 k y Xhy.out
              have d0 := (Xk11.out.cell 0).trans rfl
              have d1 := (Xk11.out.cell 1).trans rfl
              have td := Xt11.out.below ((Below.refl _ w11).drew)
              have c1f := Xans.out.follow td.f y
              have hcy2 : ∀ wq, RdI wq F (.slice (some ⟨b2, o2, none⟩) nx c) x → wq.cell? ⟨b2, o2 + k, none⟩ = some (.int .i64 y) := fun wq h => by
                obtain ⟨-, -, -, h4⟩ := RdI.at_ h
                obtain ⟨b5, o5, e5, -, h5⟩ := h4 (by omega)
                injection e5 with e5
                injection e5 with e51 e52 _
                subst e51 e52
                exact h5 k y Xhy.out
              clear hnx2 hc3 hcell2 hnc2 hcm2 Xt11
              have k11 := Xk11.out.drew
              have x11 := Xhrx11.out.drew
              have r11 := Xhr11.out.drew
              clear Xk11 Xhrx11 Xhr11
              have Xtd := hide td
              have Xc1f := hide c1f
              have Xhcy2 := hide hcy2
              have Xk11 := hide k11
              have Xx11 := hide x11
              have Xr11 := hide r11
              clear td c1f hcy2 k11 x11 r11
              refine wp_region_held_drew (S := (fun w' => w'.cell? ⟨wo.heap.size, 0, none⟩ = some (.int .i64 l) ∧ w'.cell? ⟨wo.heap.size, 1, none⟩ = some (.slice (some ⟨b2, o2, none⟩) nx c) ∧ w'.cell? ⟨b2, o2 + k, none⟩ = some (.int .i64 y))) (by kernel_rfl) ?_ (fun hHeld => ?_)
              · exact ⟨d0, d1, hcy⟩
              clear d0 d1 hcy
              refine wpAnyH_take (i := 0) (oi := ?_) (v := ?_) ?_ (by kernel_rfl) (by kernel_rfl) (by kernel_rfl) ?_ (Or.inl ⟨?_, ?_⟩) (by assumption) ?_
              rotate_left 2
              · (try simp only [List.getElem?_toArray, List.getElem?_cons_succ, List.getElem?_cons_zero]); rfl
              · exact fun _ _ _ h => h
              · rfl
              · (intro wS hwS; (try dsimp only at hwS); go_simp; all_goals with_reducible rfl)
              try simp only [Act.put, List.setIfInBounds_toArray, List.set_cons_zero, List.set_cons_succ]
              refine wpAnyH_take (i := 1) (oi := ?_) (v := ?_) ?_ (by kernel_rfl) (by kernel_rfl) (by kernel_rfl) ?_ (Or.inl ⟨?_, ?_⟩) (by assumption) ?_
              rotate_left 2
              · (try simp only [List.getElem?_toArray, List.getElem?_cons_succ, List.getElem?_cons_zero]); rfl
              · exact fun _ _ _ h => h
              · rfl
              · (intro wS hwS; (try dsimp only at hwS); go_simp; all_goals with_reducible rfl)
              try simp only [Act.put, List.setIfInBounds_toArray, List.set_cons_zero, List.set_cons_succ]
              refine wpAnyH_take (i := 2) (oi := ?_) (v := ?_) ?_ (by kernel_rfl) (by kernel_rfl) (by kernel_rfl) ?_ (Or.inl ⟨?_, ?_⟩) (by assumption) ?_
              rotate_left 2
              · (try simp only [List.getElem?_toArray, List.getElem?_cons_succ, List.getElem?_cons_zero]); rfl
              · exact fun _ _ _ h => h
              · rfl
              · (intro wS hwS; (try dsimp only at hwS); go_simp; all_goals with_reducible rfl)
              try simp only [Act.put, List.setIfInBounds_toArray, List.set_cons_zero, List.set_cons_succ]
              refine wpAnyH_take (i := 3) (oi := ?_) (v := ?_) ?_ (by kernel_rfl) (by kernel_rfl) (by kernel_rfl) ?_ (Or.inl ⟨?_, ?_⟩) (by assumption) ?_
              rotate_left 2
              · (try simp only [List.getElem?_toArray, List.getElem?_cons_succ, List.getElem?_cons_zero]); rfl
              · exact fun _ _ _ h => h
              · rfl
              · (intro wS hwS; (try dsimp only at hwS); go_simp; all_goals with_reducible rfl)
              try simp only [Act.put, List.setIfInBounds_toArray, List.set_cons_zero, List.set_cons_succ]
              refine wpAnyH_take (i := 4) (oi := ?_) (v := ?_) ?_ (by kernel_rfl) (by kernel_rfl) (by kernel_rfl) ?_ (Or.inl ⟨?_, ?_⟩) (by assumption) ?_
              rotate_left 2
              · (try simp only [List.getElem?_toArray, List.getElem?_cons_succ, List.getElem?_cons_zero]); rfl
              · exact fun _ _ _ h => h
              · rfl
              · (intro wS hwS; (try dsimp only at hwS); go_simp; all_goals with_reducible rfl)
              try simp only [Act.put, List.setIfInBounds_toArray, List.set_cons_zero, List.set_cons_succ]
              refine wpAnyH_take (i := 5) (oi := ?_) (v := ?_) ?_ (by kernel_rfl) (by kernel_rfl) (by kernel_rfl) ?_ (Or.inl ⟨?_, ?_⟩) (by assumption) ?_
              rotate_left 2
              · (try simp only [List.getElem?_toArray, List.getElem?_cons_succ, List.getElem?_cons_zero]); rfl
              · exact fun _ _ _ h => h
              · rfl
              · (intro wS hwS; (try dsimp only at hwS); go_simp; all_goals with_reducible rfl)
              try simp only [Act.put, List.setIfInBounds_toArray, List.set_cons_zero, List.set_cons_succ]
              refine wpAnyH_take (i := 6) (oi := ?_) (v := ?_) ?_ (by kernel_rfl) (by kernel_rfl) (by kernel_rfl) ?_ (Or.inl ⟨?_, ?_⟩) (by assumption) ?_
              rotate_left 2
              · (try simp only [List.getElem?_toArray, List.getElem?_cons_succ, List.getElem?_cons_zero]); rfl
              · exact fun _ _ _ h => h
              · rfl
              · (intro wS hwS; (try dsimp only at hwS); go_simp; all_goals with_reducible rfl)
              try simp only [Act.put, List.setIfInBounds_toArray, List.set_cons_zero, List.set_cons_succ]
              refine wpAnyH_ready (rs := [7]) (by kernel_rfl) (by simp) ?_
              refine AllReadyH.cons (o := ?_) ?_ (fun K hK => ?_) AllReadyH.nil
              rotate_left 1
              · (try simp only [List.getElem?_toArray, List.getElem?_cons_succ, List.getElem?_cons_zero]); rfl
              go_simp
              go_at_call 68
              refine Xc1f.out.mono ?_
              rintro ee wA ⟨AA, nA, cA, rfl, hrA, bA⟩
              have tA := Xtd.out.below bA
              have kA := Xk11.out.below bA Xk11.out.lt
              have xA := Xx11.out.below bA Xtd.out.g.gram.lt
              have hIA := law11_within (Xr11.out.below bA (fun k hk => hk.2)) hrA
              rw [Xhn1.out] at hIA
              clear bA hrA Xtd Xk11 Xx11 Xr11 Xc1f
              refine hK.out _ _ ?_ (fun hHeld => ?_)
              · exact ⟨(kA.cell 0).trans rfl, (kA.cell 1).trans rfl, Xhcy2.out _ xA⟩
              clear hK K
              try simp only [Act.put, List.setIfInBounds_toArray, List.set_cons_zero, List.set_cons_succ]
              have XtA := hide tA
              have XkA := hide kA
              have XxA := hide xA
              clear tA kA xA
              refine wpAnyH_ready (rs := [8]) (by kernel_rfl) (by simp) ?_
              refine AllReadyH.cons (o := ?_) ?_ (fun K hK => ?_) AllReadyH.nil
              rotate_left 1
              · (try simp only [List.getElem?_toArray, List.getElem?_cons_succ, List.getElem?_cons_zero]); rfl
              go_simp
              go_at_call 72
              with_reducible refine hIA.mono ?_
              rintro ee wB ⟨rfl, bB⟩
              have tB := XtA.out.below bB
              have kB := XkA.out.below bB XkA.out.lt
              have xB := XxA.out.below bB XtA.out.g.gram.lt
              clear bB XtA XkA XxA hIA
              refine hK.out _ _ ?_ (fun hHeld => ?_)
              · exact ⟨(kB.cell 0).trans rfl, (kB.cell 1).trans rfl, Xhcy2.out _ xB⟩
              clear hK K
              try simp only [Act.put, List.setIfInBounds_toArray, List.set_cons_zero, List.set_cons_succ]
              cases al2 with
              | false =>
                have XtB := hide tB
                have XkB := hide kB
                have XxB := hide xB
                clear tB kB xB
                refine wpAnyH_take (i := 9) (oi := ?_) (v := ?_) ?_ (by kernel_rfl) (by kernel_rfl) (by kernel_rfl) ?_ (Or.inl ⟨?_, ?_⟩) (by assumption) ?_
                rotate_left 2
                · (try simp only [List.getElem?_toArray, List.getElem?_cons_succ, List.getElem?_cons_zero]); rfl
                · exact fun _ _ _ h => h
                · rfl
                · (intro wS hwS; (try dsimp only at hwS); go_simp; all_goals with_reducible rfl)
                try simp only [Act.put, List.setIfInBounds_toArray, List.set_cons_zero, List.set_cons_succ]
                refine wpAnyH_take (i := 10) (oi := ?_) (v := ?_) ?_ (by kernel_rfl) (by kernel_rfl) (by kernel_rfl) ?_ (Or.inl ⟨?_, ?_⟩) (by assumption) ?_
                rotate_left 2
                · (try simp only [List.getElem?_toArray, List.getElem?_cons_succ, List.getElem?_cons_zero]); rfl
                · exact fun _ _ _ h => h
                · rfl
                · (intro wS hwS; (try dsimp only at hwS); go_simp; all_goals with_reducible rfl)
                try simp only [Act.put, List.setIfInBounds_toArray, List.set_cons_zero, List.set_cons_succ]
                refine wpAnyH_take (i := 11) (oi := ?_) (v := ?_) ?_ (by kernel_rfl) (by kernel_rfl) (by kernel_rfl) ?_ (Or.inl ⟨?_, ?_⟩) (by assumption) ?_
                rotate_left 2
                · (try simp only [List.getElem?_toArray, List.getElem?_cons_succ, List.getElem?_cons_zero]); rfl
                · exact fun _ _ _ h => h
                · rfl
                · (intro wS hwS; (try dsimp only at hwS); go_simp; all_goals with_reducible rfl)
                try simp only [Act.put, List.setIfInBounds_toArray, List.set_cons_zero, List.set_cons_succ]
                refine wpAnyH_take (i := 12) (oi := ?_) (v := ?_) ?_ (by kernel_rfl) (by kernel_rfl) (by kernel_rfl) ?_ (Or.inl ⟨?_, ?_⟩) (by assumption) ?_
                rotate_left 2
                · (try simp only [List.getElem?_toArray, List.getElem?_cons_succ, List.getElem?_cons_zero]); rfl
                · exact fun _ _ _ h => h
                · rfl
                · (intro wS hwS; (try dsimp only at hwS); go_simp; all_goals with_reducible rfl)
                try simp only [Act.put, List.setIfInBounds_toArray, List.set_cons_zero, List.set_cons_succ]
                refine wpAnyH_take (i := 13) (oi := ?_) (v := undef) ?_ (by kernel_rfl) (by kernel_rfl) (by kernel_rfl) ?_ (Or.inr ⟨?_, rfl⟩) (by assumption) ?_
                rotate_left 1
                · (try simp only [List.getElem?_toArray, List.getElem?_cons_succ, List.getElem?_cons_zero]); rfl
                · exact fun _ _ _ h => h
                · rfl
                try simp only [Act.put, List.setIfInBounds_toArray, List.set_cons_zero, List.set_cons_succ]
                refine wpAnyH_take (i := 14) (oi := ?_) (v := undef) ?_ (by kernel_rfl) (by kernel_rfl) (by kernel_rfl) ?_ (Or.inr ⟨?_, rfl⟩) (by assumption) ?_
                rotate_left 1
                · (try simp only [List.getElem?_toArray, List.getElem?_cons_succ, List.getElem?_cons_zero]); rfl
                · exact fun _ _ _ h => h
                · rfl
                try simp only [Act.put, List.setIfInBounds_toArray, List.set_cons_zero, List.set_cons_succ]
                refine wpAnyH_take (i := 15) (oi := ?_) (v := undef) ?_ (by kernel_rfl) (by kernel_rfl) (by kernel_rfl) ?_ (Or.inr ⟨?_, rfl⟩) (by assumption) ?_
                rotate_left 1
                · (try simp only [List.getElem?_toArray, List.getElem?_cons_succ, List.getElem?_cons_zero]); rfl
                · exact fun _ _ _ h => h
                · rfl
                try simp only [Act.put, List.setIfInBounds_toArray, List.set_cons_zero, List.set_cons_succ]
                refine wpAnyH_take (i := 16) (oi := ?_) (v := undef) ?_ (by kernel_rfl) (by kernel_rfl) (by kernel_rfl) ?_ (Or.inr ⟨?_, rfl⟩) (by assumption) ?_
                rotate_left 1
                · (try simp only [List.getElem?_toArray, List.getElem?_cons_succ, List.getElem?_cons_zero]); rfl
                · exact fun _ _ _ h => h
                · rfl
                try simp only [Act.put, List.setIfInBounds_toArray, List.set_cons_zero, List.set_cons_succ]
                refine wpAnyH_take (i := 17) (oi := ?_) (v := undef) ?_ (by kernel_rfl) (by kernel_rfl) (by kernel_rfl) ?_ (Or.inr ⟨?_, rfl⟩) (by assumption) ?_
                rotate_left 1
                · (try simp only [List.getElem?_toArray, List.getElem?_cons_succ, List.getElem?_cons_zero]); rfl
                · exact fun _ _ _ h => h
                · rfl
                try simp only [Act.put, List.setIfInBounds_toArray, List.set_cons_zero, List.set_cons_succ]
                refine wpAnyH_take (i := 18) (oi := ?_) (v := undef) ?_ (by kernel_rfl) (by kernel_rfl) (by kernel_rfl) ?_ (Or.inr ⟨?_, rfl⟩) (by assumption) ?_
                rotate_left 1
                · (try simp only [List.getElem?_toArray, List.getElem?_cons_succ, List.getElem?_cons_zero]); rfl
                · exact fun _ _ _ h => h
                · rfl
                try simp only [Act.put, List.setIfInBounds_toArray, List.set_cons_zero, List.set_cons_succ]
                refine wpAnyH_take (i := 19) (oi := ?_) (v := undef) ?_ (by kernel_rfl) (by kernel_rfl) (by kernel_rfl) ?_ (Or.inr ⟨?_, rfl⟩) (by assumption) ?_
                rotate_left 1
                · (try simp only [List.getElem?_toArray, List.getElem?_cons_succ, List.getElem?_cons_zero]); rfl
                · exact fun _ _ _ h => h
                · rfl
                try simp only [Act.put, List.setIfInBounds_toArray, List.set_cons_zero, List.set_cons_succ]
                refine wpAnyH_take (i := 20) (oi := ?_) (v := undef) ?_ (by kernel_rfl) (by kernel_rfl) (by kernel_rfl) ?_ (Or.inr ⟨?_, rfl⟩) (by assumption) ?_
                rotate_left 1
                · (try simp only [List.getElem?_toArray, List.getElem?_cons_succ, List.getElem?_cons_zero]); rfl
                · exact fun _ _ _ h => h
                · rfl
                try simp only [Act.put, List.setIfInBounds_toArray, List.set_cons_zero, List.set_cons_succ]
                refine wpAnyH_take (i := 21) (oi := ?_) (v := undef) ?_ (by kernel_rfl) (by kernel_rfl) (by kernel_rfl) ?_ (Or.inr ⟨?_, rfl⟩) (by assumption) ?_
                rotate_left 1
                · (try simp only [List.getElem?_toArray, List.getElem?_cons_succ, List.getElem?_cons_zero]); rfl
                · exact fun _ _ _ h => h
                · rfl
                try simp only [Act.put, List.setIfInBounds_toArray, List.set_cons_zero, List.set_cons_succ]
                refine wpAnyH_take (i := 22) (oi := ?_) (v := undef) ?_ (by kernel_rfl) (by kernel_rfl) (by kernel_rfl) ?_ (Or.inr ⟨?_, rfl⟩) (by assumption) ?_
                rotate_left 1
                · (try simp only [List.getElem?_toArray, List.getElem?_cons_succ, List.getElem?_cons_zero]); rfl
                · exact fun _ _ _ h => h
                · rfl
                try simp only [Act.put, List.setIfInBounds_toArray, List.set_cons_zero, List.set_cons_succ]
                refine wpAnyH_take (i := 23) (oi := ?_) (v := undef) ?_ (by kernel_rfl) (by kernel_rfl) (by kernel_rfl) ?_ (Or.inr ⟨?_, rfl⟩) (by assumption) ?_
                rotate_left 1
                · (try simp only [List.getElem?_toArray, List.getElem?_cons_succ, List.getElem?_cons_zero]); rfl
                · exact fun _ _ _ h => h
                · rfl
                try simp only [Act.put, List.setIfInBounds_toArray, List.set_cons_zero, List.set_cons_succ]
                refine wpAnyH_take (i := 24) (oi := ?_) (v := undef) ?_ (by kernel_rfl) (by kernel_rfl) (by kernel_rfl) ?_ (Or.inr ⟨?_, rfl⟩) (by assumption) ?_
                rotate_left 1
                · (try simp only [List.getElem?_toArray, List.getElem?_cons_succ, List.getElem?_cons_zero]); rfl
                · exact fun _ _ _ h => h
                · rfl
                try simp only [Act.put, List.setIfInBounds_toArray, List.set_cons_zero, List.set_cons_succ]
                refine wpAnyH_take (i := 25) (oi := ?_) (v := undef) ?_ (by kernel_rfl) (by kernel_rfl) (by kernel_rfl) ?_ (Or.inr ⟨?_, rfl⟩) (by assumption) ?_
                rotate_left 1
                · (try simp only [List.getElem?_toArray, List.getElem?_cons_succ, List.getElem?_cons_zero]); rfl
                · exact fun _ _ _ h => h
                · rfl
                try simp only [Act.put, List.setIfInBounds_toArray, List.set_cons_zero, List.set_cons_succ]
                refine wpAnyH_take (i := 26) (oi := ?_) (v := ?_) ?_ (by kernel_rfl) (by kernel_rfl) (by kernel_rfl) ?_ (Or.inl ⟨?_, ?_⟩) (by assumption) ?_
                rotate_left 2
                · (try simp only [List.getElem?_toArray, List.getElem?_cons_succ, List.getElem?_cons_zero]); rfl
                · exact fun _ _ _ h => h
                · rfl
                · (intro wS hwS; (try dsimp only at hwS); go_simp; all_goals with_reducible rfl)
                try simp only [Act.put, List.setIfInBounds_toArray, List.set_cons_zero, List.set_cons_succ]
                refine wpAnyH_take (i := 27) (oi := ?_) (v := ?_) ?_ (by kernel_rfl) (by kernel_rfl) (by kernel_rfl) ?_ (Or.inl ⟨?_, ?_⟩) (by assumption) ?_
                rotate_left 2
                · (try simp only [List.getElem?_toArray, List.getElem?_cons_succ, List.getElem?_cons_zero]); rfl
                · exact fun _ _ _ h => h
                · rfl
                · (intro wS hwS; (try dsimp only at hwS); go_simp; all_goals with_reducible rfl)
                try simp only [Act.put, List.setIfInBounds_toArray, List.set_cons_zero, List.set_cons_succ]
                refine wpAnyH_done (by kernel_rfl) ?_ _
                go_wp2_with fail
                go_roundw
                case rel => exact ⟨k + 1, by omega, by go_num, XtB.out, XkB.out, XxB.out⟩
                case measure => simp [intOf]; omega
              | true =>
                have hn2t := Xhn2.out (by first | rfl | trivial)
                have cCf := Xans.out.follow tB.f l
                have XtB := hide tB
                have XkB := hide kB
                have XxB := hide xB
                have XcCf := hide cCf
                have Xhn2t := hide hn2t
                clear tB kB xB cCf hn2t
                refine wpAnyH_take (i := 9) (oi := ?_) (v := ?_) ?_ (by kernel_rfl) (by kernel_rfl) (by kernel_rfl) ?_ (Or.inl ⟨?_, ?_⟩) (by assumption) ?_
                rotate_left 2
                · (try simp only [List.getElem?_toArray, List.getElem?_cons_succ, List.getElem?_cons_zero]); rfl
                · exact fun _ _ _ h => h
                · rfl
                · (intro wS hwS; (try dsimp only at hwS); go_simp; all_goals with_reducible rfl)
                try simp only [Act.put, List.setIfInBounds_toArray, List.set_cons_zero, List.set_cons_succ]
                refine wpAnyH_take (i := 10) (oi := ?_) (v := ?_) ?_ (by kernel_rfl) (by kernel_rfl) (by kernel_rfl) ?_ (Or.inl ⟨?_, ?_⟩) (by assumption) ?_
                rotate_left 2
                · (try simp only [List.getElem?_toArray, List.getElem?_cons_succ, List.getElem?_cons_zero]); rfl
                · exact fun _ _ _ h => h
                · rfl
                · (intro wS hwS; (try dsimp only at hwS); go_simp; all_goals with_reducible rfl)
                try simp only [Act.put, List.setIfInBounds_toArray, List.set_cons_zero, List.set_cons_succ]
                refine wpAnyH_take (i := 11) (oi := ?_) (v := ?_) ?_ (by kernel_rfl) (by kernel_rfl) (by kernel_rfl) ?_ (Or.inl ⟨?_, ?_⟩) (by assumption) ?_
                rotate_left 2
                · (try simp only [List.getElem?_toArray, List.getElem?_cons_succ, List.getElem?_cons_zero]); rfl
                · exact fun _ _ _ h => h
                · rfl
                · (intro wS hwS; (try dsimp only at hwS); go_simp; all_goals with_reducible rfl)
                try simp only [Act.put, List.setIfInBounds_toArray, List.set_cons_zero, List.set_cons_succ]
                refine wpAnyH_take (i := 12) (oi := ?_) (v := ?_) ?_ (by kernel_rfl) (by kernel_rfl) (by kernel_rfl) ?_ (Or.inl ⟨?_, ?_⟩) (by assumption) ?_
                rotate_left 2
                · (try simp only [List.getElem?_toArray, List.getElem?_cons_succ, List.getElem?_cons_zero]); rfl
                · exact fun _ _ _ h => h
                · rfl
                · (intro wS hwS; (try dsimp only at hwS); go_simp; all_goals with_reducible rfl)
                try simp only [Act.put, List.setIfInBounds_toArray, List.set_cons_zero, List.set_cons_succ]
                refine wpAnyH_take (i := 13) (oi := ?_) (v := ?_) ?_ (by kernel_rfl) (by kernel_rfl) (by kernel_rfl) ?_ (Or.inl ⟨?_, ?_⟩) (by assumption) ?_
                rotate_left 2
                · (try simp only [List.getElem?_toArray, List.getElem?_cons_succ, List.getElem?_cons_zero]); rfl
                · exact fun _ _ _ h => h
                · rfl
                · (intro wS hwS; (try dsimp only at hwS); go_simp; all_goals with_reducible rfl)
                try simp only [Act.put, List.setIfInBounds_toArray, List.set_cons_zero, List.set_cons_succ]
                refine wpAnyH_take (i := 14) (oi := ?_) (v := ?_) ?_ (by kernel_rfl) (by kernel_rfl) (by kernel_rfl) ?_ (Or.inl ⟨?_, ?_⟩) (by assumption) ?_
                rotate_left 2
                · (try simp only [List.getElem?_toArray, List.getElem?_cons_succ, List.getElem?_cons_zero]); rfl
                · exact fun _ _ _ h => h
                · rfl
                · (intro wS hwS; (try dsimp only at hwS); go_simp; all_goals with_reducible rfl)
                try simp only [Act.put, List.setIfInBounds_toArray, List.set_cons_zero, List.set_cons_succ]
                refine wpAnyH_take (i := 15) (oi := ?_) (v := ?_) ?_ (by kernel_rfl) (by kernel_rfl) (by kernel_rfl) ?_ (Or.inl ⟨?_, ?_⟩) (by assumption) ?_
                rotate_left 2
                · (try simp only [List.getElem?_toArray, List.getElem?_cons_succ, List.getElem?_cons_zero]); rfl
                · exact fun _ _ _ h => h
                · rfl
                · (intro wS hwS; (try dsimp only at hwS); go_simp; all_goals with_reducible rfl)
                try simp only [Act.put, List.setIfInBounds_toArray, List.set_cons_zero, List.set_cons_succ]
                refine wpAnyH_take (i := 17) (oi := ?_) (v := ?_) ?_ (by kernel_rfl) (by kernel_rfl) (by kernel_rfl) ?_ (Or.inl ⟨?_, ?_⟩) (by assumption) ?_
                rotate_left 2
                · (try simp only [List.getElem?_toArray, List.getElem?_cons_succ, List.getElem?_cons_zero]); rfl
                · exact fun _ _ _ h => h
                · rfl
                · (intro wS hwS; (try dsimp only at hwS); go_simp; all_goals with_reducible rfl)
                try simp only [Act.put, List.setIfInBounds_toArray, List.set_cons_zero, List.set_cons_succ]
                refine wpAnyH_take (i := 18) (oi := ?_) (v := ?_) ?_ (by kernel_rfl) (by kernel_rfl) (by kernel_rfl) ?_ (Or.inl ⟨?_, ?_⟩) (by assumption) ?_
                rotate_left 2
                · (try simp only [List.getElem?_toArray, List.getElem?_cons_succ, List.getElem?_cons_zero]); rfl
                · exact fun _ _ _ h => h
                · rfl
                · (intro wS hwS; (try dsimp only at hwS); go_simp; all_goals with_reducible rfl)
                try simp only [Act.put, List.setIfInBounds_toArray, List.set_cons_zero, List.set_cons_succ]
                refine wpAnyH_take (i := 19) (oi := ?_) (v := ?_) ?_ (by kernel_rfl) (by kernel_rfl) (by kernel_rfl) ?_ (Or.inl ⟨?_, ?_⟩) (by assumption) ?_
                rotate_left 2
                · (try simp only [List.getElem?_toArray, List.getElem?_cons_succ, List.getElem?_cons_zero]); rfl
                · exact fun _ _ _ h => h
                · rfl
                · (intro wS hwS; (try dsimp only at hwS); go_simp; all_goals with_reducible rfl)
                try simp only [Act.put, List.setIfInBounds_toArray, List.set_cons_zero, List.set_cons_succ]
                refine wpAnyH_take (i := 20) (oi := ?_) (v := ?_) ?_ (by kernel_rfl) (by kernel_rfl) (by kernel_rfl) ?_ (Or.inl ⟨?_, ?_⟩) (by assumption) ?_
                rotate_left 2
                · (try simp only [List.getElem?_toArray, List.getElem?_cons_succ, List.getElem?_cons_zero]); rfl
                · exact fun _ _ _ h => h
                · rfl
                · (intro wS hwS; (try dsimp only at hwS); go_simp; all_goals with_reducible rfl)
                try simp only [Act.put, List.setIfInBounds_toArray, List.set_cons_zero, List.set_cons_succ]
                refine wpAnyH_take (i := 21) (oi := ?_) (v := ?_) ?_ (by kernel_rfl) (by kernel_rfl) (by kernel_rfl) ?_ (Or.inl ⟨?_, ?_⟩) (by assumption) ?_
                rotate_left 2
                · (try simp only [List.getElem?_toArray, List.getElem?_cons_succ, List.getElem?_cons_zero]); rfl
                · exact fun _ _ _ h => h
                · rfl
                · (intro wS hwS; (try dsimp only at hwS); go_simp; all_goals with_reducible rfl)
                try simp only [Act.put, List.setIfInBounds_toArray, List.set_cons_zero, List.set_cons_succ]
                refine wpAnyH_take (i := 22) (oi := ?_) (v := ?_) ?_ (by kernel_rfl) (by kernel_rfl) (by kernel_rfl) ?_ (Or.inl ⟨?_, ?_⟩) (by assumption) ?_
                rotate_left 2
                · (try simp only [List.getElem?_toArray, List.getElem?_cons_succ, List.getElem?_cons_zero]); rfl
                · exact fun _ _ _ h => h
                · rfl
                · (intro wS hwS; (try dsimp only at hwS); go_simp; all_goals with_reducible rfl)
                try simp only [Act.put, List.setIfInBounds_toArray, List.set_cons_zero, List.set_cons_succ]
                refine wpAnyH_ready (rs := [16]) (by kernel_rfl) (by simp) ?_
                refine AllReadyH.cons (o := ?_) ?_ (fun K hK => ?_) AllReadyH.nil
                rotate_left 1
                · (try simp only [List.getElem?_toArray, List.getElem?_cons_succ, List.getElem?_cons_zero]); rfl
                go_simp
                go_at_call 68
                refine XcCf.out.mono ?_
                rintro ee wC ⟨AC, nC, cC, rfl, hrC, bC⟩
                have tC := XtB.out.below bC
                have kC := XkB.out.below bC XkB.out.lt
                have xC := XxB.out.below bC XtB.out.g.gram.lt
                have cDf := Xans.out.follow tC.f y
                clear bC XtB XkB XxB XcCf
                refine hK.out _ _ ?_ (fun hHeld => ?_)
                · exact ⟨(kC.cell 0).trans rfl, (kC.cell 1).trans rfl, Xhcy2.out _ xC⟩
                clear hK K
                try simp only [Act.put, List.setIfInBounds_toArray, List.set_cons_zero, List.set_cons_succ]
                have XtC := hide tC
                have XkC := hide kC
                have XxC := hide xC
                have XcDf := hide cDf
                have XhrC := hide hrC
                clear tC kC xC cDf hrC
                refine wpAnyH_ready (rs := [23]) (by kernel_rfl) (by simp) ?_
                refine AllReadyH.cons (o := ?_) ?_ (fun K hK => ?_) AllReadyH.nil
                rotate_left 1
                · (try simp only [List.getElem?_toArray, List.getElem?_cons_succ, List.getElem?_cons_zero]); rfl
                go_simp
                go_at_call 68
                refine XcDf.out.mono ?_
                rintro ee wD ⟨AD, nD, cD, rfl, hrD, bD⟩
                have tD := XtC.out.below bD
                have kD := XkC.out.below bD XkC.out.lt
                have xD := XxC.out.below bD XtC.out.g.gram.lt
                have hID := law11_within (XhrC.out.below bD (fun k hk => hk.2)) hrD
                rw [Xhn2t.out] at hID
                clear bD XtC XkC XxC XcDf XhrC hrD
                refine hK.out _ _ ?_ (fun hHeld => ?_)
                · exact ⟨(kD.cell 0).trans rfl, (kD.cell 1).trans rfl, Xhcy2.out _ xD⟩
                clear hK K
                try simp only [Act.put, List.setIfInBounds_toArray, List.set_cons_zero, List.set_cons_succ]
                have XtD := hide tD
                have XkD := hide kD
                have XxD := hide xD
                clear tD kD xD
                refine wpAnyH_ready (rs := [24]) (by kernel_rfl) (by simp) ?_
                refine AllReadyH.cons (o := ?_) ?_ (fun K hK => ?_) AllReadyH.nil
                rotate_left 1
                · (try simp only [List.getElem?_toArray, List.getElem?_cons_succ, List.getElem?_cons_zero]); rfl
                go_simp
                go_at_call 72
                with_reducible refine hID.mono ?_
                rintro ee wE ⟨rfl, bE⟩
                have tE := XtD.out.below bE
                have kE := XkD.out.below bE XkD.out.lt
                have xE := XxD.out.below bE XtD.out.g.gram.lt
                clear bE XtD XkD XxD hID
                refine hK.out _ _ ?_ (fun hHeld => ?_)
                · exact ⟨(kE.cell 0).trans rfl, (kE.cell 1).trans rfl, Xhcy2.out _ xE⟩
                clear hK K
                try simp only [Act.put, List.setIfInBounds_toArray, List.set_cons_zero, List.set_cons_succ]
                have XtE := hide tE
                have XkE := hide kE
                have XxE := hide xE
                clear tE kE xE
                refine wpAnyH_take (i := 25) (oi := ?_) (v := ?_) ?_ (by kernel_rfl) (by kernel_rfl) (by kernel_rfl) ?_ (Or.inl ⟨?_, ?_⟩) (by assumption) ?_
                rotate_left 2
                · (try simp only [List.getElem?_toArray, List.getElem?_cons_succ, List.getElem?_cons_zero]); rfl
                · exact fun _ _ _ h => h
                · rfl
                · (intro wS hwS; (try dsimp only at hwS); go_simp; all_goals with_reducible rfl)
                try simp only [Act.put, List.setIfInBounds_toArray, List.set_cons_zero, List.set_cons_succ]
                refine wpAnyH_take (i := 26) (oi := ?_) (v := ?_) ?_ (by kernel_rfl) (by kernel_rfl) (by kernel_rfl) ?_ (Or.inl ⟨?_, ?_⟩) (by assumption) ?_
                rotate_left 2
                · (try simp only [List.getElem?_toArray, List.getElem?_cons_succ, List.getElem?_cons_zero]); rfl
                · exact fun _ _ _ h => h
                · rfl
                · (intro wS hwS; (try dsimp only at hwS); go_simp; all_goals with_reducible rfl)
                try simp only [Act.put, List.setIfInBounds_toArray, List.set_cons_zero, List.set_cons_succ]
                refine wpAnyH_take (i := 27) (oi := ?_) (v := ?_) ?_ (by kernel_rfl) (by kernel_rfl) (by kernel_rfl) ?_ (Or.inl ⟨?_, ?_⟩) (by assumption) ?_
                rotate_left 2
                · (try simp only [List.getElem?_toArray, List.getElem?_cons_succ, List.getElem?_cons_zero]); rfl
                · exact fun _ _ _ h => h
                · rfl
                · (intro wS hwS; (try dsimp only at hwS); go_simp; all_goals with_reducible rfl)
                try simp only [Act.put, List.setIfInBounds_toArray, List.set_cons_zero, List.set_cons_succ]
                refine wpAnyH_done (by kernel_rfl) ?_ _
                go_wp2_with fail
                go_roundw
                case rel => exact ⟨k + 1, by omega, by go_num, XtE.out, XkE.out, XxE.out⟩
                case measure => simp [intOf]; omega
          · have hkx' : ¬ (k : Int) < (nx : Int) := by omega
            clear hcell hnx2
            have Xt := hide t
            have Xkb := hide kb
            have Xhrx := hide hrx
            clear t kb hrx
            go_wp2_with fail
            go_roundw
            case rel => exact ⟨j + 1, by omega, by go_num, Xt.out⟩
            case measure => simp [intOf]; omega
    · have hj' : ¬ (j : Int) < (R : Int) := by omega
      obtain ⟨wa, hwa⟩ : ∃ wa, wa = wr.alloc (.cells #[.int .i64 0] 3) := ⟨_, rfl⟩
      have ba : Below wr.heap.size wr wa := by rw [hwa]; exact (Below.refl _ _).alloc (Nat.le_refl _) _
      have hra : RdI wa (fun b => b = wr.heap.size) (.slice (some ⟨wr.heap.size, 0, none⟩) 1 1) [0] := by rw [hwa]; exact Rd.one' (w := wr) (e := 3) [I64 0] 1 rfl
      have hz := wr.heap.size
      have hza : wr.heap.size < wa.heap.size := by rw [hwa]; simp
      have ta := t.below ba
      have cf := Xans.out.follow ta.f st
      have hs0 := rules_start Xhk.out
      have q3a := ta.g.cells.2.2.2
      rw [hwa] at cf q3a
      clear ba hz
      have Xt := hide t
      have Xta := hide ta
      have Xhra := hide hra
      have Xcf := hide cf
      have Xhs0 := hide hs0
      have Xhza := hide hza
      clear t ta hra cf hs0 hza
      go_wp2_with fail
      refine Xcf.out.mono ?_
      rintro ee w5 ⟨A5, n5, c5, rfl, hr5, b5⟩
      rw [← hwa] at b5
      have t5 := Xta.out.below b5
      have hI := law11_within (Xhra.out.below b5 (fun k hk => by rw [hk]; exact Xhza.out)) hr5
      rw [Xhs0.out] at hI
      clear hwa q3a q0 q1 q2 q3 b5 hr5 Xcf Xta Xhra Xt
      have Xt5 := hide t5
      have XhI := hide hI
      clear t5 hI
      go_wp2_with fail
      with_reducible refine XhI.out.mono ?_
      rintro ee w6 ⟨rfl, b6⟩
      have hb2 := (Xt5.out.below b6).le
      clear b6 XhI Xt5
      have Xhb2 := hide hb2
      clear hb2
      go_wp2_with fail
      with_reducible refine (law11_awake _).mono ?_
      rintro e w3 ⟨rfl, b3⟩
      go_wp2_with fail
      go_ret
      exact ⟨rfl, Xhb2.out.trans (b3.mono Xhb2.out.size)⟩
end Go.Proofs.Ytejjaabkbkkjlaa

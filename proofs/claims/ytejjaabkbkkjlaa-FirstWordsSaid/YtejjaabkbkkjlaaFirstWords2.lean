/- The law FirstWords: the walk. -/
import Derived.Test.YtejjaabkbkkjlaaFirstWords1
import Derived.Test.YtejjaabkbkkjlaaLeast9
import Derived.Deep.Cut
import Derived.Deep.CutRange
namespace Go.Proofs.Ytejjaabkbkkjlaa
set_option linter.unusedVariables false
set_option linter.unusedSimpArgs false
open Go.RowKit
attribute [local irreducible] wpStill wpOne wpPh

/-- the first one of a list, as a list -/
theorem RdI.headOf {w : World} {F : Nat → Prop} {bb off n c : Nat} {d : Int} {r : List Int} (h : RdI w F (.slice (some ⟨bb, off, none⟩) n c) (d :: r)) : RdI w F (.slice (some ⟨bb, off, none⟩) 1 c) [d] := by
  obtain ⟨hn, hnc, hcm, hcell⟩ := RdI.at_ h
  simp at hn
  refine ⟨_, _, _, rfl, by omega, hcm, by simp, fun hn0 => ?_⟩
  obtain ⟨b, o, e, hF, hc⟩ := hcell (by omega)
  refine ⟨b, o, e, hF, fun j u hu => ?_⟩
  cases j with
  | zero => simp at hu; subst hu; exact hc 0 d rfl
  | succ j => simp at hu
/-- what the walk carries -/
structure FwSt (w wr : World) (F : Nat → Prop) (A1 : Option Addr) (c1 : Nat) (A2 : Option Addr) (c2 : Nat) (A3 : Option Addr) (c3 T N R : Nat) (st : Int) (G : GramD) (q : FD) (F1 : Nat → Prop) (bz gl gi gm : Nat) (S : List FoundD) : Prop where
  g : GBox wr F w.heap.size A1 c1 A2 c2 A3 c3 T N R st G
  f : FSets wr q (empB G) (begB G) (behB G st)
  ws : RefWords wr F1 bz gl gi gm S
  le : Below w.heap.size w wr
section
variable {w wr wr' : World} {F : Nat → Prop} {A1 : Option Addr} {c1 : Nat} {A2 : Option Addr} {c2 : Nat} {A3 : Option Addr} {c3 T N R : Nat} {st : Int} {G : GramD} {q : FD} {F1 : Nat → Prop} {bz gl gi gm : Nat} {S : List FoundD}
theorem FwSt.below (h : FwSt w wr F A1 c1 A2 c2 A3 c3 T N R st G q F1 bz gl gi gm S) (hb : Below wr.heap.size wr wr') : FwSt w wr' F A1 c1 A2 c2 A3 c3 T N R st G q F1 bz gl gi gm S :=
  ⟨h.g.below hb, h.f.below hb, h.ws.below hb, h.le.trans (hb.mono h.le.size)⟩
end
theorem fw_empty {q : FD} {G : GramD} {st : Int} (hqN : q.n = topN G) {wr : World} (f : FSets wr q (empB G) (begB G) (behB G st)) (x : Int) : Calls Try.prog 64 #[PtrV q.s, .int .i64 x] wr (Quiet wr (.bool (hasI (topN G) (empB G) x))) := by
  have := first_empty f x
  rw [hqN] at this
  exact this
theorem fw_first {q : FD} {G : GramD} {st : Int} (hqN : q.n = topN G) (hqT : q.T = G.terms.length) {wr : World} (f : FSets wr q (empB G) (begB G) (behB G st)) (x : Int) : Calls Try.prog 66 #[PtrV q.s, .int .i64 x] wr (IntsPost wr (firstG G x)) := by
  have := first_first f x
  rw [hqT, hqN] at this
  exact this

set_option maxRecDepth 100000 in
set_option maxHeartbeats 8000000 in
theorem walk_FirstWords (C : Array Value) (G : GramD) (w : World) (hg : GramCells w C.toList G) :
    Calls Try.prog 15 #[.agg C] w (Quiet w (.bool true)) := by
  obtain ⟨vt, vn, vr, hC, hg, -⟩ := hg
  obtain rfl : C = #[vt, vn, vr, .int .i64 G.start] := Array.toList_inj.1 hC
  clear hC
  generalize G.start = st at *
  obtain ⟨A1, c1, A2, c2, A3, c3, rfl, rfl, rfl, -⟩ := hg.slices
  obtain ⟨w1, hw1⟩ : ∃ w1, w1 = w.alloc (.cells #[.slice A1 G.terms.length c1, .slice A2 G.nons.length c2, .slice A3 G.rules.length c3, .int .i64 st] 25) := ⟨_, rfl⟩
  have g1 := GBox.new hg st
  have b1 : Below w.heap.size w w1 := by rw [hw1]; exact (Below.refl _ w).alloc (Nat.le_refl _) _
  rw [← hw1] at g1
  have hm := law_much g1.gram st
  have htop : topOf G = G.terms.length + G.nons.length := rfl
  have hcT := fun wr (g : GBox wr (· < w.heap.size) w.heap.size A1 c1 A2 c2 A3 c3 G.terms.length G.nons.length G.rules.length st G) => ref_top g.gram st
  rw [htop] at hcT
  have cC := fun wr (g : GBox wr (· < w.heap.size) w.heap.size A1 c1 A2 c2 A3 c3 G.terms.length G.nons.length G.rules.length st G) => ref_check g.gram st
  have cF := fun wr (g : GBox wr (· < w.heap.size) w.heap.size A1 c1 A2 c2 A3 c3 G.terms.length G.nons.length G.rules.length st G) => first_Of g.gram st
  have cR := fun wr (g : GBox wr (· < w.heap.size) w.heap.size A1 c1 A2 c2 A3 c3 G.terms.length G.nons.length G.rules.length st G) => ref_least g.gram st
  have hkn : checkOf G st = 0 → Kn G st := Kn.of_check
  have htopN : topN G = G.terms.length + G.nons.length + 1 := rfl
  have hpl : Kn G st → ∀ S, GoodS G.terms.length S → Fixed G.rules (startW G.terms.length G.nons.length) S → (∀ s : Int, 1 ≤ s → hasI (topN G) (empB G) s = ((lookW S s).is && !(lookW S s).long && decide ((lookW S s).l.length = 0))) ∧ (∀ (s d : Int) (r : List Int), 1 ≤ s → s < topN G → (lookW S s).is = true → (lookW S s).long = false → (lookW S s).l = d :: r → within11 [d] (firstG G s) = true) ∧ (∀ s : Int, joinOf S [s] = lookW S s) ∧ (∀ (l : List Int) k, (jTo S (l.take k)).2.length ≤ 4096) :=
    fun hk S hg hf => ⟨fun s h => words_empty hk hg hf h, fun s d r h1 h2 h3 h4 h5 => words_first hk hg hf h1 h2 h3 h4 h5, join_one11 hg, fun l k => (jTo_good hg _).1⟩
  obtain ⟨q0, q1, q2, q3⟩ := g1.cells
  generalize hT : G.terms.length = T at *
  generalize hN : G.nons.length = N at *
  generalize hR : G.rules.length = R at *
  obtain ⟨F, hF⟩ : ∃ F : Nat → Prop, F = fun b => b < w.heap.size := ⟨_, rfl⟩
  have hF1 : ∀ k, F k → k < w.heap.size := fun k hk => by rw [hF] at hk; exact hk
  rw [← hF] at g1
  rw [← hF] at cC cF cR hcT
  rw [hw1] at q0 q1 q2 q3 hm
  clear hg hF htop
  generalize hcz : checkOf G st = cz at *
  have Xhm := hide hm
  have XcC := hide cC
  have XcF := hide cF
  have XcR := hide cR
  have XhcT := hide hcT
  have XhF1 := hide hF1
  have Xb1 := hide b1
  have Xg1 := hide g1
  have Xhkn := hide hkn
  have Xhpl := hide hpl
  have XhT := hide hT
  have XhN := hide hN
  have XhR := hide hR
  have Xhcz := hide hcz
  have XhtopN := hide htopN
  clear hm cC cF cR hcT hF1 b1 g1 hkn hpl hT hN hR hcz htopN
  go_enter Try.func15, Try.ntmps15
  go_wp2_with fail
  refine Xhm.out.mono ?_
  rintro e w2 ⟨r, hr, rfl, b2⟩
  rw [← hw1] at b2
  have g2 := Xg1.out.below b2
  have hb2 := Xb1.out.trans (b2.mono Xb1.out.size)
  clear q0 q1 q2 q3 hw1 Xhm Xg1 Xb1 b2
  by_cases hbig : 200 < r
  · have Xhb2 := hide hb2
    have Xg2 := hide g2
    clear hb2 g2
    go_wp2_with fail
    with_reducible refine (law11_awake _).mono ?_
    rintro e w3 ⟨rfl, b3⟩
    go_wp2_with fail
    go_ret
    exact ⟨rfl, Xhb2.out.trans (b3.mono Xhb2.out.size)⟩
  have hTN : T + N ≤ 200 := by omega
  clear hr
  obtain ⟨q0, q1, q2, q3⟩ := g2.cells
  have cc := XcC.out _ g2
  have Xhb2 := hide hb2
  have Xg2 := hide g2
  have Xcc := hide cc
  clear hb2 g2 cc
  go_wp2_with fail
  with_reducible refine Xcc.out.mono ?_
  rintro e w3 ⟨rfl, b3⟩
  have g3 := Xg2.out.below b3
  have hb3 := Xhb2.out.trans (b3.mono Xhb2.out.size)
  clear q0 q1 q2 q3 b3 Xg2 Xhb2 Xcc
  by_cases hz : cz = 0
  case neg =>
    have hz' : (cz != 0) = true := by simpa using hz
    have hb2 := hb3
    clear hb3
    have Xhb2 := hide hb2
    have Xg3 := hide g3
    clear hb2 g3
    go_wp2_with fail
    with_reducible refine (law11_awake _).mono ?_
    rintro e w3 ⟨rfl, b3⟩
    go_wp2_with fail
    go_ret
    exact ⟨rfl, Xhb2.out.trans (b3.mono Xhb2.out.size)⟩
  subst hz
  have hk := Xhkn.out (by first | rfl | trivial)
  have hpk := Xhpl.out hk
  obtain ⟨q0, q1, q2, q3⟩ := g3.cells
  have g3d : GBox w3.drew F w.heap.size A1 c1 A2 c2 A3 c3 T N R st G := g3.drewN 1
  have hb3d : Below w.heap.size w w3.drew := below_drewN hb3 1
  have cf := XcF.out _ g3d
  clear hb3 g3 hk Xhpl Xhkn
  have Xhb3d := hide hb3d
  have Xg3d := hide g3d
  have Xcf := hide cf
  have Xhpk := hide hpk
  clear hb3d g3d cf hpk
  go_wp2_with fail
  refine wp_region_held_drew (S := (fun w' => w'.cell? ⟨w.heap.size, 0, none⟩ = some (.slice A1 T c1) ∧ w'.cell? ⟨w.heap.size, 1, none⟩ = some (.slice A2 N c2) ∧ w'.cell? ⟨w.heap.size, 2, none⟩ = some (.slice A3 R c3) ∧ w'.cell? ⟨w.heap.size, 3, none⟩ = some (.int .i64 st))) (by kernel_rfl) ?_ (fun hHeld => ?_)
  · exact ⟨q0, q1, q2, q3⟩
  clear q0 q1 q2 q3
  refine wpAnyH_take (i := 0) (oi := ?_) (v := ?_) ?_ (by kernel_rfl) (by kernel_rfl) (by kernel_rfl) ?_ (Or.inl ⟨?_, ?_⟩) (by assumption) ?_
  rotate_left 2
  · (try simp only [List.getElem?_toArray, List.getElem?_cons_succ, List.getElem?_cons_zero]); rfl
  · exact fun _ _ _ h => h
  · rfl
  · (intro wS hwS; (try dsimp only at hwS); go_simp; all_goals with_reducible rfl)
  try simp only [Act.put, List.setIfInBounds_toArray, List.set_cons_zero, List.set_cons_succ]
  refine wpAnyH_take (i := 2) (oi := ?_) (v := ?_) ?_ (by kernel_rfl) (by kernel_rfl) (by kernel_rfl) ?_ (Or.inl ⟨?_, ?_⟩) (by assumption) ?_
  rotate_left 2
  · (try simp only [List.getElem?_toArray, List.getElem?_cons_succ, List.getElem?_cons_zero]); rfl
  · exact fun _ _ _ h => h
  · rfl
  · (intro wS hwS; (try dsimp only at hwS); go_simp; all_goals with_reducible rfl)
  try simp only [Act.put, List.setIfInBounds_toArray, List.set_cons_zero, List.set_cons_succ]
  refine wpAnyH_ready (rs := [1]) (by kernel_rfl) (by simp) ?_
  refine AllReadyH.cons (o := ?_) ?_ (fun K hK => ?_) AllReadyH.nil
  rotate_left 1
  · (try simp only [List.getElem?_toArray, List.getElem?_cons_succ, List.getElem?_cons_zero]); rfl
  go_simp
  go_at_call 62
  with_reducible refine Xcf.out.mono ?_
  rintro e w4 hp
  rcases hp with ⟨h0, -, -⟩ | ⟨-, q, rfl, f4, hqT, hqP, hqN, -, b4⟩
  · exact absurd Xhcz.out h0
  have g4 := Xg3d.out.below b4
  have hb4 := Xhb3d.out.trans (b4.mono Xhb3d.out.size)
  have cr := XcR.out _ g4
  clear b4 Xcf Xg3d Xhb3d XcF XcC hqP
  refine hK.out _ _ ?_ (fun hHeld => ?_)
  · exact g4.cells
  clear hK K
  try simp only [Act.put, List.setIfInBounds_toArray, List.set_cons_zero, List.set_cons_succ]
  have Xg4 := hide g4
  have Xhb4 := hide hb4
  have Xf4 := hide f4
  have Xcr := hide cr
  have XhqT := hide hqT
  have XhqN := hide hqN
  clear g4 hb4 f4 cr hqT hqN
  refine wpAnyH_ready (rs := [3]) (by kernel_rfl) (by simp) ?_
  refine AllReadyH.cons (o := ?_) ?_ (fun K hK => ?_) AllReadyH.nil
  rotate_left 1
  · (try simp only [List.getElem?_toArray, List.getElem?_cons_succ, List.getElem?_cons_zero]); rfl
  go_simp
  go_at_call 42
  with_reducible refine Xcr.out.mono ?_
  rintro e w5 ⟨b5, hp⟩
  rcases hp with ⟨h0, -⟩ | ⟨-, S, bz, gl, gi, gm, rfl, hfix, ws, -, -, -, -, hgood, hSl⟩
  · exact absurd Xhcz.out h0
  have g5 := Xg4.out.below b5
  obtain ⟨F1, hF1⟩ : ∃ F1 : Nat → Prop, F1 = (fun q => w4.heap.size ≤ q ∧ q < w5.heap.size ∧ q ≠ gl ∧ q ≠ gi ∧ q ≠ gm) := ⟨_, rfl⟩
  rw [← hF1] at ws
  have t5 : FwSt w w5 F A1 c1 A2 c2 A3 c3 T N R st G q F1 bz gl gi gm S := ⟨g5, Xf4.out.below b5, ws, Xhb4.out.trans (b5.mono Xhb4.out.size)⟩
  rw [XhT.out] at hgood
  rw [XhT.out, XhN.out] at hfix
  obtain ⟨pE, pW, pJ, pT⟩ := Xhpk.out S hgood hfix
  clear hgood hfix ws hSl hF1 b5 Xcr XcR Xg4 Xhb4 Xf4 Xhpk
  refine hK.out _ _ ?_ (fun hHeld => ?_)
  · exact g5.cells
  clear hK K
  try simp only [Act.put, List.setIfInBounds_toArray, List.set_cons_zero, List.set_cons_succ]
  clear g5
  have Xt5 := hide t5
  have XpE := hide pE
  have XpW := hide pW
  have XpJ := hide pJ
  have XpT := hide pT
  clear t5 pE pW pJ pT
  refine wpAnyH_take (i := 4) (oi := ?_) (v := ?_) ?_ (by kernel_rfl) (by kernel_rfl) (by kernel_rfl) ?_ (Or.inl ⟨?_, ?_⟩) (by assumption) ?_
  rotate_left 2
  · (try simp only [List.getElem?_toArray, List.getElem?_cons_succ, List.getElem?_cons_zero]); rfl
  · exact fun _ _ _ h => h
  · rfl
  · (intro wS hwS; (try dsimp only at hwS); go_simp; all_goals with_reducible rfl)
  try simp only [Act.put, List.setIfInBounds_toArray, List.set_cons_zero, List.set_cons_succ]
  refine wpAnyH_take (i := 5) (oi := ?_) (v := ?_) ?_ (by kernel_rfl) (by kernel_rfl) (by kernel_rfl) ?_ (Or.inl ⟨?_, ?_⟩) (by assumption) ?_
  rotate_left 2
  · (try simp only [List.getElem?_toArray, List.getElem?_cons_succ, List.getElem?_cons_zero]); rfl
  · exact fun _ _ _ h => h
  · rfl
  · (intro wS hwS; (try dsimp only at hwS); go_simp; all_goals with_reducible rfl)
  try simp only [Act.put, List.setIfInBounds_toArray, List.set_cons_zero, List.set_cons_succ]
  refine wpAnyH_done (by kernel_rfl) ?_ _
  go_wp2_with fail
  go_loopw [5] (fun i wr => ∃ k : Nat, 1 ≤ k ∧ k ≤ T + N + 1 ∧ i = .int .i64 k ∧ FwSt w wr F A1 c1 A2 c2 A3 c3 T N R st G q F1 bz gl gi gm S) (fun i _ => (T + N + 1) - (intOf i).toNat)
  case atStart => exact ⟨1, Nat.le_refl _, by omega, by go_num, Xt5.out⟩
  case round =>
    clear Xt5
    obtain ⟨k, hk0, hk, rfl, t⟩ := hrel
    obtain ⟨q0, q1, q2, q3⟩ := t.g.cells
    have cT := XhcT.out _ t.g
    have Xt := hide t
    have XcT := hide cT
    clear t cT
    go_wp2_with fail
    with_reducible refine XcT.out.mono ?_
    rintro e w5 ⟨rfl, b5⟩
    have t5 := Xt.out.below b5
    clear Xt b5 q0 q1 q2 q3 XcT
    by_cases hlt : k ≤ T + N
    · have hlt' : (k : Int) ≤ (T : Int) + (N : Int) := by omega
      obtain ⟨wa, hwa⟩ : ∃ wa, wa = w5.alloc (.cells #[.int .i64 k] 3) := ⟨_, rfl⟩
      have ba : Below w5.heap.size w5 wa := by rw [hwa]; exact (Below.refl _ _).alloc (Nat.le_refl _) _
      have hra : RdI wa (fun b => b = w5.heap.size) (.slice (some ⟨w5.heap.size, 0, none⟩) 1 1) [(k : Int)] := by rw [hwa]; exact Rd.one' (w := w5) (e := 3) [I64 k] 1 rfl
      have ta := t5.below ba
      have cL := ref_line ta.ws hra (fun k hk => by rw [hk, hwa]; simp) (fun i => XpT.out _ i)
      rw [XpJ.out] at cL
      have hE := XpE.out (k : Int) (by omega)
      obtain ⟨x, hx⟩ : ∃ x, x = lookW S (k : Int) := ⟨_, rfl⟩
      rw [← hx] at cL hE
      have hW : ∀ (d : Int) (r : List Int), x.is = true → x.long = false → x.l = d :: r → within11 [d] (firstG G k) = true := fun d r h1 h2 h3 => by
        rw [hx] at h1 h2 h3
        exact XpW.out _ d r (by omega) (by rw [XhtopN.out]; omega) h1 h2 h3
      have hk0 := wa.heap.size
      rw [hwa] at cL
      obtain ⟨ok, hok⟩ : ∃ o, o = (x.is && !x.long) := ⟨_, rfl⟩
      clear hra ba t5 hk0
      have Xta := hide ta
      have XcL := hide cL
      have Xhx := hide hx
      have XhE := hide hE
      have XhW := hide hW
      have Xhok := hide hok
      clear ta cL hx hE hW hok
      go_wp2_with fail
      refine XcL.out.mono ?_
      rintro ee w6 ⟨A6, n6, c6, he6, hr6, b6⟩
      rw [← Xhok.out] at he6
      subst he6
      rw [← hwa] at b6
      have t6 := (Xta.out.below b6).below ((Below.refl _ w6).drew)
      have hr6 : RdI w6.drew _ _ _ := hr6.drew
      obtain ⟨hn6, hnc6, hcm6, hcell6⟩ := RdI.at_ hr6
      unfold maxLen at hcm6
      have cE := fw_empty XhqN.out t6.f (k : Int)
      rw [XhE.out, ← Xhok.out, ← hn6] at cE
      clear hwa b6 Xta XcL XhE
      cases ok with
      | false =>
        simp only [Bool.false_and] at cE
        have Xt6 := hide t6
        have XcE := hide cE
        have Xhr6 := hide hr6
        have Xhn6 := hide hn6
        clear t6 cE hr6 hn6
        clear hcell6
        go_wp2_with fail
        refine wp_region_held_drew (S := (fun _ => True)) (by kernel_rfl) ?_ (fun hHeld => ?_)
        · exact trivial
        refine wpAnyH_take (i := 0) (oi := ?_) (v := ?_) ?_ (by kernel_rfl) (by kernel_rfl) (by kernel_rfl) ?_ (Or.inl ⟨?_, ?_⟩) (by assumption) ?_
        rotate_left 2
        · (try simp only [List.getElem?_toArray, List.getElem?_cons_succ, List.getElem?_cons_zero]); rfl
        · exact fun _ _ _ h => h
        · rfl
        · (intro wS hwS; (try dsimp only at hwS); go_simp; all_goals with_reducible rfl)
        try simp only [Act.put, List.setIfInBounds_toArray, List.set_cons_zero, List.set_cons_succ]
        refine wpAnyH_take (i := 1) (oi := ?_) (v := ?_) ?_ (by kernel_rfl) (by kernel_rfl) (by kernel_rfl) ?_ (Or.inl ⟨?_, ?_⟩) (by assumption) ?_
        rotate_left 2
        · (try simp only [List.getElem?_toArray, List.getElem?_cons_succ, List.getElem?_cons_zero]); rfl
        · exact fun _ _ _ h => h
        · rfl
        · (intro wS hwS; (try dsimp only at hwS); go_simp; all_goals with_reducible rfl)
        try simp only [Act.put, List.setIfInBounds_toArray, List.set_cons_zero, List.set_cons_succ]
        refine wpAnyH_take (i := 3) (oi := ?_) (v := ?_) ?_ (by kernel_rfl) (by kernel_rfl) (by kernel_rfl) ?_ (Or.inl ⟨?_, ?_⟩) (by assumption) ?_
        rotate_left 2
        · (try simp only [List.getElem?_toArray, List.getElem?_cons_succ, List.getElem?_cons_zero]); rfl
        · exact fun _ _ _ h => h
        · rfl
        · (intro wS hwS; (try dsimp only at hwS); go_simp; all_goals with_reducible rfl)
        try simp only [Act.put, List.setIfInBounds_toArray, List.set_cons_zero, List.set_cons_succ]
        refine wpAnyH_ready (rs := [2]) (by kernel_rfl) (by simp) ?_
        refine AllReadyH.cons (o := ?_) ?_ (fun K hK => ?_) AllReadyH.nil
        rotate_left 1
        · (try simp only [List.getElem?_toArray, List.getElem?_cons_succ, List.getElem?_cons_zero]); rfl
        go_simp
        go_at_call 64
        with_reducible refine XcE.out.mono ?_
        rintro ee w7 ⟨rfl, b7⟩
        have t7 := Xt6.out.below b7
        have hr7 := Xhr6.out.below b7 (fun k hk => hk.2)
        have hz7 := b7.size
        clear b7 Xt6 Xhr6 XcE
        refine hK.out _ _ ?_ (fun hHeld => ?_)
        · exact trivial
        clear hK K
        try simp only [Act.put, List.setIfInBounds_toArray, List.set_cons_zero, List.set_cons_succ]
        have Xt7 := hide t7
        have Xhr7 := hide hr7
        clear t7 hr7
        refine wpAnyH_take (i := 4) (oi := ?_) (v := ?_) ?_ (by kernel_rfl) (by kernel_rfl) (by kernel_rfl) ?_ (Or.inl ⟨?_, ?_⟩) (by assumption) ?_
        rotate_left 2
        · (try simp only [List.getElem?_toArray, List.getElem?_cons_succ, List.getElem?_cons_zero]); rfl
        · exact fun _ _ _ h => h
        · rfl
        · (intro wS hwS; (try dsimp only at hwS); go_simp; all_goals with_reducible rfl)
        try simp only [Act.put, List.setIfInBounds_toArray, List.set_cons_zero, List.set_cons_succ]
        refine wpAnyH_take (i := 5) (oi := ?_) (v := undef) ?_ (by kernel_rfl) (by kernel_rfl) (by kernel_rfl) ?_ (Or.inr ⟨?_, rfl⟩) (by assumption) ?_
        rotate_left 1
        · (try simp only [List.getElem?_toArray, List.getElem?_cons_succ, List.getElem?_cons_zero]); rfl
        · exact fun _ _ _ h => h
        · rfl
        try simp only [Act.put, List.setIfInBounds_toArray, List.set_cons_zero, List.set_cons_succ]
        refine wpAnyH_take (i := 6) (oi := ?_) (v := undef) ?_ (by kernel_rfl) (by kernel_rfl) (by kernel_rfl) ?_ (Or.inr ⟨?_, rfl⟩) (by assumption) ?_
        rotate_left 1
        · (try simp only [List.getElem?_toArray, List.getElem?_cons_succ, List.getElem?_cons_zero]); rfl
        · exact fun _ _ _ h => h
        · rfl
        try simp only [Act.put, List.setIfInBounds_toArray, List.set_cons_zero, List.set_cons_succ]
        refine wpAnyH_take (i := 7) (oi := ?_) (v := undef) ?_ (by kernel_rfl) (by kernel_rfl) (by kernel_rfl) ?_ (Or.inr ⟨?_, rfl⟩) (by assumption) ?_
        rotate_left 1
        · (try simp only [List.getElem?_toArray, List.getElem?_cons_succ, List.getElem?_cons_zero]); rfl
        · exact fun _ _ _ h => h
        · rfl
        try simp only [Act.put, List.setIfInBounds_toArray, List.set_cons_zero, List.set_cons_succ]
        refine wpAnyH_take (i := 8) (oi := ?_) (v := ?_) ?_ (by kernel_rfl) (by kernel_rfl) (by kernel_rfl) ?_ (Or.inl ⟨?_, ?_⟩) (by assumption) ?_
        rotate_left 2
        · (try simp only [List.getElem?_toArray, List.getElem?_cons_succ, List.getElem?_cons_zero]); rfl
        · exact fun _ _ _ h => h
        · rfl
        · (intro wS hwS; (try dsimp only at hwS); go_simp; all_goals with_reducible rfl)
        try simp only [Act.put, List.setIfInBounds_toArray, List.set_cons_zero, List.set_cons_succ]
        refine wpAnyH_take (i := 9) (oi := ?_) (v := ?_) ?_ (by kernel_rfl) (by kernel_rfl) (by kernel_rfl) ?_ (Or.inl ⟨?_, ?_⟩) (by assumption) ?_
        rotate_left 2
        · (try simp only [List.getElem?_toArray, List.getElem?_cons_succ, List.getElem?_cons_zero]); rfl
        · exact fun _ _ _ h => h
        · rfl
        · (intro wS hwS; (try dsimp only at hwS); go_simp; all_goals with_reducible rfl)
        try simp only [Act.put, List.setIfInBounds_toArray, List.set_cons_zero, List.set_cons_succ]
        refine wpAnyH_take (i := 10) (oi := ?_) (v := ?_) ?_ (by kernel_rfl) (by kernel_rfl) (by kernel_rfl) ?_ (Or.inl ⟨?_, ?_⟩) (by assumption) ?_
        rotate_left 2
        · (try simp only [List.getElem?_toArray, List.getElem?_cons_succ, List.getElem?_cons_zero]); rfl
        · exact fun _ _ _ h => h
        · rfl
        · (intro wS hwS; (try dsimp only at hwS); go_simp; all_goals with_reducible rfl)
        try simp only [Act.put, List.setIfInBounds_toArray, List.set_cons_zero, List.set_cons_succ]
        refine wpAnyH_take (i := 11) (oi := ?_) (v := ?_) ?_ (by kernel_rfl) (by kernel_rfl) (by kernel_rfl) ?_ (Or.inl ⟨?_, ?_⟩) (by assumption) ?_
        rotate_left 2
        · (try simp only [List.getElem?_toArray, List.getElem?_cons_succ, List.getElem?_cons_zero]); rfl
        · exact fun _ _ _ h => h
        · rfl
        · (intro wS hwS; (try dsimp only at hwS); go_simp; all_goals with_reducible rfl)
        try simp only [Act.put, List.setIfInBounds_toArray, List.set_cons_zero, List.set_cons_succ]
        refine wpAnyH_take (i := 12) (oi := ?_) (v := ?_) ?_ (by kernel_rfl) (by kernel_rfl) (by kernel_rfl) ?_ (Or.inl ⟨?_, ?_⟩) (by assumption) ?_
        rotate_left 2
        · (try simp only [List.getElem?_toArray, List.getElem?_cons_succ, List.getElem?_cons_zero]); rfl
        · exact fun _ _ _ h => h
        · rfl
        · (intro wS hwS; (try dsimp only at hwS); go_simp; all_goals with_reducible rfl)
        try simp only [Act.put, List.setIfInBounds_toArray, List.set_cons_zero, List.set_cons_succ]
        refine wpAnyH_take (i := 13) (oi := ?_) (v := undef) ?_ (by kernel_rfl) (by kernel_rfl) (by kernel_rfl) ?_ (Or.inr ⟨?_, rfl⟩) (by assumption) ?_
        rotate_left 1
        · (try simp only [List.getElem?_toArray, List.getElem?_cons_succ, List.getElem?_cons_zero]); rfl
        · exact fun _ _ _ h => h
        · rfl
        try simp only [Act.put, List.setIfInBounds_toArray, List.set_cons_zero, List.set_cons_succ]
        refine wpAnyH_take (i := 14) (oi := ?_) (v := undef) ?_ (by kernel_rfl) (by kernel_rfl) (by kernel_rfl) ?_ (Or.inr ⟨?_, rfl⟩) (by assumption) ?_
        rotate_left 1
        · (try simp only [List.getElem?_toArray, List.getElem?_cons_succ, List.getElem?_cons_zero]); rfl
        · exact fun _ _ _ h => h
        · rfl
        try simp only [Act.put, List.setIfInBounds_toArray, List.set_cons_zero, List.set_cons_succ]
        refine wpAnyH_take (i := 15) (oi := ?_) (v := undef) ?_ (by kernel_rfl) (by kernel_rfl) (by kernel_rfl) ?_ (Or.inr ⟨?_, rfl⟩) (by assumption) ?_
        rotate_left 1
        · (try simp only [List.getElem?_toArray, List.getElem?_cons_succ, List.getElem?_cons_zero]); rfl
        · exact fun _ _ _ h => h
        · rfl
        try simp only [Act.put, List.setIfInBounds_toArray, List.set_cons_zero, List.set_cons_succ]
        refine wpAnyH_take (i := 16) (oi := ?_) (v := ?_) ?_ (by kernel_rfl) (by kernel_rfl) (by kernel_rfl) ?_ (Or.inl ⟨?_, ?_⟩) (by assumption) ?_
        rotate_left 2
        · (try simp only [List.getElem?_toArray, List.getElem?_cons_succ, List.getElem?_cons_zero]); rfl
        · exact fun _ _ _ h => h
        · rfl
        · (intro wS hwS; (try dsimp only at hwS); go_simp; all_goals with_reducible rfl)
        try simp only [Act.put, List.setIfInBounds_toArray, List.set_cons_zero, List.set_cons_succ]
        refine wpAnyH_take (i := 17) (oi := ?_) (v := ?_) ?_ (by kernel_rfl) (by kernel_rfl) (by kernel_rfl) ?_ (Or.inl ⟨?_, ?_⟩) (by assumption) ?_
        rotate_left 2
        · (try simp only [List.getElem?_toArray, List.getElem?_cons_succ, List.getElem?_cons_zero]); rfl
        · exact fun _ _ _ h => h
        · rfl
        · (intro wS hwS; (try dsimp only at hwS); go_simp; all_goals with_reducible rfl)
        try simp only [Act.put, List.setIfInBounds_toArray, List.set_cons_zero, List.set_cons_succ]
        refine wpAnyH_take (i := 18) (oi := ?_) (v := undef) ?_ (by kernel_rfl) (by kernel_rfl) (by kernel_rfl) ?_ (Or.inr ⟨?_, rfl⟩) (by assumption) ?_
        rotate_left 1
        · (try simp only [List.getElem?_toArray, List.getElem?_cons_succ, List.getElem?_cons_zero]); rfl
        · exact fun _ _ _ h => h
        · rfl
        try simp only [Act.put, List.setIfInBounds_toArray, List.set_cons_zero, List.set_cons_succ]
        refine wpAnyH_take (i := 19) (oi := ?_) (v := undef) ?_ (by kernel_rfl) (by kernel_rfl) (by kernel_rfl) ?_ (Or.inr ⟨?_, rfl⟩) (by assumption) ?_
        rotate_left 1
        · (try simp only [List.getElem?_toArray, List.getElem?_cons_succ, List.getElem?_cons_zero]); rfl
        · exact fun _ _ _ h => h
        · rfl
        try simp only [Act.put, List.setIfInBounds_toArray, List.set_cons_zero, List.set_cons_succ]
        refine wpAnyH_take (i := 20) (oi := ?_) (v := undef) ?_ (by kernel_rfl) (by kernel_rfl) (by kernel_rfl) ?_ (Or.inr ⟨?_, rfl⟩) (by assumption) ?_
        rotate_left 1
        · (try simp only [List.getElem?_toArray, List.getElem?_cons_succ, List.getElem?_cons_zero]); rfl
        · exact fun _ _ _ h => h
        · rfl
        try simp only [Act.put, List.setIfInBounds_toArray, List.set_cons_zero, List.set_cons_succ]
        refine wpAnyH_take (i := 21) (oi := ?_) (v := undef) ?_ (by kernel_rfl) (by kernel_rfl) (by kernel_rfl) ?_ (Or.inr ⟨?_, rfl⟩) (by assumption) ?_
        rotate_left 1
        · (try simp only [List.getElem?_toArray, List.getElem?_cons_succ, List.getElem?_cons_zero]); rfl
        · exact fun _ _ _ h => h
        · rfl
        try simp only [Act.put, List.setIfInBounds_toArray, List.set_cons_zero, List.set_cons_succ]
        refine wpAnyH_take (i := 22) (oi := ?_) (v := undef) ?_ (by kernel_rfl) (by kernel_rfl) (by kernel_rfl) ?_ (Or.inr ⟨?_, rfl⟩) (by assumption) ?_
        rotate_left 1
        · (try simp only [List.getElem?_toArray, List.getElem?_cons_succ, List.getElem?_cons_zero]); rfl
        · exact fun _ _ _ h => h
        · rfl
        try simp only [Act.put, List.setIfInBounds_toArray, List.set_cons_zero, List.set_cons_succ]
        refine wpAnyH_take (i := 23) (oi := ?_) (v := undef) ?_ (by kernel_rfl) (by kernel_rfl) (by kernel_rfl) ?_ (Or.inr ⟨?_, rfl⟩) (by assumption) ?_
        rotate_left 1
        · (try simp only [List.getElem?_toArray, List.getElem?_cons_succ, List.getElem?_cons_zero]); rfl
        · exact fun _ _ _ h => h
        · rfl
        try simp only [Act.put, List.setIfInBounds_toArray, List.set_cons_zero, List.set_cons_succ]
        refine wpAnyH_take (i := 24) (oi := ?_) (v := undef) ?_ (by kernel_rfl) (by kernel_rfl) (by kernel_rfl) ?_ (Or.inr ⟨?_, rfl⟩) (by assumption) ?_
        rotate_left 1
        · (try simp only [List.getElem?_toArray, List.getElem?_cons_succ, List.getElem?_cons_zero]); rfl
        · exact fun _ _ _ h => h
        · rfl
        try simp only [Act.put, List.setIfInBounds_toArray, List.set_cons_zero, List.set_cons_succ]
        refine wpAnyH_take (i := 25) (oi := ?_) (v := ?_) ?_ (by kernel_rfl) (by kernel_rfl) (by kernel_rfl) ?_ (Or.inl ⟨?_, ?_⟩) (by assumption) ?_
        rotate_left 2
        · (try simp only [List.getElem?_toArray, List.getElem?_cons_succ, List.getElem?_cons_zero]); rfl
        · exact fun _ _ _ h => h
        · rfl
        · (intro wS hwS; (try dsimp only at hwS); go_simp; all_goals with_reducible rfl)
        try simp only [Act.put, List.setIfInBounds_toArray, List.set_cons_zero, List.set_cons_succ]
        refine wpAnyH_take (i := 26) (oi := ?_) (v := ?_) ?_ (by kernel_rfl) (by kernel_rfl) (by kernel_rfl) ?_ (Or.inl ⟨?_, ?_⟩) (by assumption) ?_
        rotate_left 2
        · (try simp only [List.getElem?_toArray, List.getElem?_cons_succ, List.getElem?_cons_zero]); rfl
        · exact fun _ _ _ h => h
        · rfl
        · (intro wS hwS; (try dsimp only at hwS); go_simp; all_goals with_reducible rfl)
        try simp only [Act.put, List.setIfInBounds_toArray, List.set_cons_zero, List.set_cons_succ]
        refine wpAnyH_done (by kernel_rfl) ?_ _
        go_wp2_with fail
        go_roundw
        case rel => exact ⟨k + 1, by omega, by omega, by go_num, Xt7.out⟩
        case measure => simp [intOf]; omega
      | true =>
        simp only [Bool.true_and] at cE
        obtain ⟨hi, hl⟩ : x.is = true ∧ x.long = false := by have := Xhok.out; simpa using this.symm
        have hWk := fun d r => XhW.out d r hi hl
        clear XhW hi hl
        cases hxl : x.l with
        | nil =>
          have hn0 : n6 = 0 := by rw [hn6, hxl]; rfl
          subst hn0
          rw [decide_eq_true rfl] at cE
          have Xt6 := hide t6
          have XcE := hide cE
          have Xhr6 := hide hr6
          have Xhn6 := hide hn6
          have XhWk := hide hWk
          have Xhxl := hide hxl
          clear t6 cE hr6 hn6 hWk hxl
          clear hcell6
          go_wp2_with fail
          refine wp_region_held_drew (S := (fun _ => True)) (by kernel_rfl) ?_ (fun hHeld => ?_)
          · exact trivial
          refine wpAnyH_take (i := 0) (oi := ?_) (v := ?_) ?_ (by kernel_rfl) (by kernel_rfl) (by kernel_rfl) ?_ (Or.inl ⟨?_, ?_⟩) (by assumption) ?_
          rotate_left 2
          · (try simp only [List.getElem?_toArray, List.getElem?_cons_succ, List.getElem?_cons_zero]); rfl
          · exact fun _ _ _ h => h
          · rfl
          · (intro wS hwS; (try dsimp only at hwS); go_simp; all_goals with_reducible rfl)
          try simp only [Act.put, List.setIfInBounds_toArray, List.set_cons_zero, List.set_cons_succ]
          refine wpAnyH_take (i := 1) (oi := ?_) (v := ?_) ?_ (by kernel_rfl) (by kernel_rfl) (by kernel_rfl) ?_ (Or.inl ⟨?_, ?_⟩) (by assumption) ?_
          rotate_left 2
          · (try simp only [List.getElem?_toArray, List.getElem?_cons_succ, List.getElem?_cons_zero]); rfl
          · exact fun _ _ _ h => h
          · rfl
          · (intro wS hwS; (try dsimp only at hwS); go_simp; all_goals with_reducible rfl)
          try simp only [Act.put, List.setIfInBounds_toArray, List.set_cons_zero, List.set_cons_succ]
          refine wpAnyH_take (i := 3) (oi := ?_) (v := ?_) ?_ (by kernel_rfl) (by kernel_rfl) (by kernel_rfl) ?_ (Or.inl ⟨?_, ?_⟩) (by assumption) ?_
          rotate_left 2
          · (try simp only [List.getElem?_toArray, List.getElem?_cons_succ, List.getElem?_cons_zero]); rfl
          · exact fun _ _ _ h => h
          · rfl
          · (intro wS hwS; (try dsimp only at hwS); go_simp; all_goals with_reducible rfl)
          try simp only [Act.put, List.setIfInBounds_toArray, List.set_cons_zero, List.set_cons_succ]
          refine wpAnyH_ready (rs := [2]) (by kernel_rfl) (by simp) ?_
          refine AllReadyH.cons (o := ?_) ?_ (fun K hK => ?_) AllReadyH.nil
          rotate_left 1
          · (try simp only [List.getElem?_toArray, List.getElem?_cons_succ, List.getElem?_cons_zero]); rfl
          go_simp
          go_at_call 64
          with_reducible refine XcE.out.mono ?_
          rintro ee w7 ⟨rfl, b7⟩
          have t7 := Xt6.out.below b7
          have hr7 := Xhr6.out.below b7 (fun k hk => hk.2)
          have hz7 := b7.size
          clear b7 Xt6 Xhr6 XcE
          refine hK.out _ _ ?_ (fun hHeld => ?_)
          · exact trivial
          clear hK K
          try simp only [Act.put, List.setIfInBounds_toArray, List.set_cons_zero, List.set_cons_succ]
          have Xt7 := hide t7
          have Xhr7 := hide hr7
          clear t7 hr7
          refine wpAnyH_take (i := 4) (oi := ?_) (v := ?_) ?_ (by kernel_rfl) (by kernel_rfl) (by kernel_rfl) ?_ (Or.inl ⟨?_, ?_⟩) (by assumption) ?_
          rotate_left 2
          · (try simp only [List.getElem?_toArray, List.getElem?_cons_succ, List.getElem?_cons_zero]); rfl
          · exact fun _ _ _ h => h
          · rfl
          · (intro wS hwS; (try dsimp only at hwS); go_simp; all_goals with_reducible rfl)
          try simp only [Act.put, List.setIfInBounds_toArray, List.set_cons_zero, List.set_cons_succ]
          refine wpAnyH_take (i := 5) (oi := ?_) (v := ?_) ?_ (by kernel_rfl) (by kernel_rfl) (by kernel_rfl) ?_ (Or.inl ⟨?_, ?_⟩) (by assumption) ?_
          rotate_left 2
          · (try simp only [List.getElem?_toArray, List.getElem?_cons_succ, List.getElem?_cons_zero]); rfl
          · exact fun _ _ _ h => h
          · rfl
          · (intro wS hwS; (try dsimp only at hwS); go_simp; all_goals with_reducible rfl)
          try simp only [Act.put, List.setIfInBounds_toArray, List.set_cons_zero, List.set_cons_succ]
          refine wpAnyH_take (i := 6) (oi := ?_) (v := ?_) ?_ (by kernel_rfl) (by kernel_rfl) (by kernel_rfl) ?_ (Or.inl ⟨?_, ?_⟩) (by assumption) ?_
          rotate_left 2
          · (try simp only [List.getElem?_toArray, List.getElem?_cons_succ, List.getElem?_cons_zero]); rfl
          · exact fun _ _ _ h => h
          · rfl
          · (intro wS hwS; (try dsimp only at hwS); go_simp; all_goals with_reducible rfl)
          try simp only [Act.put, List.setIfInBounds_toArray, List.set_cons_zero, List.set_cons_succ]
          refine wpAnyH_take (i := 7) (oi := ?_) (v := ?_) ?_ (by kernel_rfl) (by kernel_rfl) (by kernel_rfl) ?_ (Or.inl ⟨?_, ?_⟩) (by assumption) ?_
          rotate_left 2
          · (try simp only [List.getElem?_toArray, List.getElem?_cons_succ, List.getElem?_cons_zero]); rfl
          · exact fun _ _ _ h => h
          · rfl
          · (intro wS hwS; (try dsimp only at hwS); go_simp; all_goals with_reducible rfl)
          try simp only [Act.put, List.setIfInBounds_toArray, List.set_cons_zero, List.set_cons_succ]
          refine wpAnyH_take (i := 8) (oi := ?_) (v := ?_) ?_ (by kernel_rfl) (by kernel_rfl) (by kernel_rfl) ?_ (Or.inl ⟨?_, ?_⟩) (by assumption) ?_
          rotate_left 2
          · (try simp only [List.getElem?_toArray, List.getElem?_cons_succ, List.getElem?_cons_zero]); rfl
          · exact fun _ _ _ h => h
          · rfl
          · (intro wS hwS; (try dsimp only at hwS); go_simp; all_goals with_reducible rfl)
          try simp only [Act.put, List.setIfInBounds_toArray, List.set_cons_zero, List.set_cons_succ]
          refine wpAnyH_take (i := 9) (oi := ?_) (v := ?_) ?_ (by kernel_rfl) (by kernel_rfl) (by kernel_rfl) ?_ (Or.inl ⟨?_, ?_⟩) (by assumption) ?_
          rotate_left 2
          · (try simp only [List.getElem?_toArray, List.getElem?_cons_succ, List.getElem?_cons_zero]); rfl
          · exact fun _ _ _ h => h
          · rfl
          · (intro wS hwS; (try dsimp only at hwS); go_simp; all_goals with_reducible rfl)
          try simp only [Act.put, List.setIfInBounds_toArray, List.set_cons_zero, List.set_cons_succ]
          refine wpAnyH_take (i := 10) (oi := ?_) (v := ?_) ?_ (by kernel_rfl) (by kernel_rfl) (by kernel_rfl) ?_ (Or.inl ⟨?_, ?_⟩) (by assumption) ?_
          rotate_left 2
          · (try simp only [List.getElem?_toArray, List.getElem?_cons_succ, List.getElem?_cons_zero]); rfl
          · exact fun _ _ _ h => h
          · rfl
          · (intro wS hwS; (try dsimp only at hwS); go_simp; all_goals with_reducible rfl)
          try simp only [Act.put, List.setIfInBounds_toArray, List.set_cons_zero, List.set_cons_succ]
          refine wpAnyH_take (i := 11) (oi := ?_) (v := ?_) ?_ (by kernel_rfl) (by kernel_rfl) (by kernel_rfl) ?_ (Or.inl ⟨?_, ?_⟩) (by assumption) ?_
          rotate_left 2
          · (try simp only [List.getElem?_toArray, List.getElem?_cons_succ, List.getElem?_cons_zero]); rfl
          · exact fun _ _ _ h => h
          · rfl
          · (intro wS hwS; (try dsimp only at hwS); go_simp; all_goals with_reducible rfl)
          try simp only [Act.put, List.setIfInBounds_toArray, List.set_cons_zero, List.set_cons_succ]
          refine wpAnyH_take (i := 12) (oi := ?_) (v := ?_) ?_ (by kernel_rfl) (by kernel_rfl) (by kernel_rfl) ?_ (Or.inl ⟨?_, ?_⟩) (by assumption) ?_
          rotate_left 2
          · (try simp only [List.getElem?_toArray, List.getElem?_cons_succ, List.getElem?_cons_zero]); rfl
          · exact fun _ _ _ h => h
          · rfl
          · (intro wS hwS; (try dsimp only at hwS); go_simp; all_goals with_reducible rfl)
          try simp only [Act.put, List.setIfInBounds_toArray, List.set_cons_zero, List.set_cons_succ]
          refine wpAnyH_take (i := 13) (oi := ?_) (v := ?_) ?_ (by kernel_rfl) (by kernel_rfl) (by kernel_rfl) ?_ (Or.inl ⟨?_, ?_⟩) (by assumption) ?_
          rotate_left 2
          · (try simp only [List.getElem?_toArray, List.getElem?_cons_succ, List.getElem?_cons_zero]); rfl
          · exact fun _ _ _ h => h
          · rfl
          · (intro wS hwS; (try dsimp only at hwS); go_simp; all_goals with_reducible rfl)
          try simp only [Act.put, List.setIfInBounds_toArray, List.set_cons_zero, List.set_cons_succ]
          refine wpAnyH_take (i := 14) (oi := ?_) (v := ?_) ?_ (by kernel_rfl) (by kernel_rfl) (by kernel_rfl) ?_ (Or.inl ⟨?_, ?_⟩) (by assumption) ?_
          rotate_left 2
          · (try simp only [List.getElem?_toArray, List.getElem?_cons_succ, List.getElem?_cons_zero]); rfl
          · exact fun _ _ _ h => h
          · rfl
          · (intro wS hwS; (try dsimp only at hwS); go_simp; all_goals with_reducible rfl)
          try simp only [Act.put, List.setIfInBounds_toArray, List.set_cons_zero, List.set_cons_succ]
          refine wpAnyH_take (i := 15) (oi := ?_) (v := ?_) ?_ (by kernel_rfl) (by kernel_rfl) (by kernel_rfl) ?_ (Or.inl ⟨?_, ?_⟩) (by assumption) ?_
          rotate_left 2
          · (try simp only [List.getElem?_toArray, List.getElem?_cons_succ, List.getElem?_cons_zero]); rfl
          · exact fun _ _ _ h => h
          · rfl
          · (intro wS hwS; (try dsimp only at hwS); go_simp; all_goals with_reducible rfl)
          try simp only [Act.put, List.setIfInBounds_toArray, List.set_cons_zero, List.set_cons_succ]
          refine wpAnyH_take (i := 16) (oi := ?_) (v := ?_) ?_ (by kernel_rfl) (by kernel_rfl) (by kernel_rfl) ?_ (Or.inl ⟨?_, ?_⟩) (by assumption) ?_
          rotate_left 2
          · (try simp only [List.getElem?_toArray, List.getElem?_cons_succ, List.getElem?_cons_zero]); rfl
          · exact fun _ _ _ h => h
          · rfl
          · (intro wS hwS; (try dsimp only at hwS); go_simp; all_goals with_reducible rfl)
          try simp only [Act.put, List.setIfInBounds_toArray, List.set_cons_zero, List.set_cons_succ]
          refine wpAnyH_take (i := 17) (oi := ?_) (v := ?_) ?_ (by kernel_rfl) (by kernel_rfl) (by kernel_rfl) ?_ (Or.inl ⟨?_, ?_⟩) (by assumption) ?_
          rotate_left 2
          · (try simp only [List.getElem?_toArray, List.getElem?_cons_succ, List.getElem?_cons_zero]); rfl
          · exact fun _ _ _ h => h
          · rfl
          · (intro wS hwS; (try dsimp only at hwS); go_simp; all_goals with_reducible rfl)
          try simp only [Act.put, List.setIfInBounds_toArray, List.set_cons_zero, List.set_cons_succ]
          refine wpAnyH_take (i := 18) (oi := ?_) (v := undef) ?_ (by kernel_rfl) (by kernel_rfl) (by kernel_rfl) ?_ (Or.inr ⟨?_, rfl⟩) (by assumption) ?_
          rotate_left 1
          · (try simp only [List.getElem?_toArray, List.getElem?_cons_succ, List.getElem?_cons_zero]); rfl
          · exact fun _ _ _ h => h
          · rfl
          try simp only [Act.put, List.setIfInBounds_toArray, List.set_cons_zero, List.set_cons_succ]
          refine wpAnyH_take (i := 19) (oi := ?_) (v := undef) ?_ (by kernel_rfl) (by kernel_rfl) (by kernel_rfl) ?_ (Or.inr ⟨?_, rfl⟩) (by assumption) ?_
          rotate_left 1
          · (try simp only [List.getElem?_toArray, List.getElem?_cons_succ, List.getElem?_cons_zero]); rfl
          · exact fun _ _ _ h => h
          · rfl
          try simp only [Act.put, List.setIfInBounds_toArray, List.set_cons_zero, List.set_cons_succ]
          refine wpAnyH_take (i := 20) (oi := ?_) (v := undef) ?_ (by kernel_rfl) (by kernel_rfl) (by kernel_rfl) ?_ (Or.inr ⟨?_, rfl⟩) (by assumption) ?_
          rotate_left 1
          · (try simp only [List.getElem?_toArray, List.getElem?_cons_succ, List.getElem?_cons_zero]); rfl
          · exact fun _ _ _ h => h
          · rfl
          try simp only [Act.put, List.setIfInBounds_toArray, List.set_cons_zero, List.set_cons_succ]
          refine wpAnyH_take (i := 21) (oi := ?_) (v := undef) ?_ (by kernel_rfl) (by kernel_rfl) (by kernel_rfl) ?_ (Or.inr ⟨?_, rfl⟩) (by assumption) ?_
          rotate_left 1
          · (try simp only [List.getElem?_toArray, List.getElem?_cons_succ, List.getElem?_cons_zero]); rfl
          · exact fun _ _ _ h => h
          · rfl
          try simp only [Act.put, List.setIfInBounds_toArray, List.set_cons_zero, List.set_cons_succ]
          refine wpAnyH_take (i := 22) (oi := ?_) (v := undef) ?_ (by kernel_rfl) (by kernel_rfl) (by kernel_rfl) ?_ (Or.inr ⟨?_, rfl⟩) (by assumption) ?_
          rotate_left 1
          · (try simp only [List.getElem?_toArray, List.getElem?_cons_succ, List.getElem?_cons_zero]); rfl
          · exact fun _ _ _ h => h
          · rfl
          try simp only [Act.put, List.setIfInBounds_toArray, List.set_cons_zero, List.set_cons_succ]
          refine wpAnyH_take (i := 23) (oi := ?_) (v := undef) ?_ (by kernel_rfl) (by kernel_rfl) (by kernel_rfl) ?_ (Or.inr ⟨?_, rfl⟩) (by assumption) ?_
          rotate_left 1
          · (try simp only [List.getElem?_toArray, List.getElem?_cons_succ, List.getElem?_cons_zero]); rfl
          · exact fun _ _ _ h => h
          · rfl
          try simp only [Act.put, List.setIfInBounds_toArray, List.set_cons_zero, List.set_cons_succ]
          refine wpAnyH_take (i := 24) (oi := ?_) (v := undef) ?_ (by kernel_rfl) (by kernel_rfl) (by kernel_rfl) ?_ (Or.inr ⟨?_, rfl⟩) (by assumption) ?_
          rotate_left 1
          · (try simp only [List.getElem?_toArray, List.getElem?_cons_succ, List.getElem?_cons_zero]); rfl
          · exact fun _ _ _ h => h
          · rfl
          try simp only [Act.put, List.setIfInBounds_toArray, List.set_cons_zero, List.set_cons_succ]
          refine wpAnyH_take (i := 25) (oi := ?_) (v := ?_) ?_ (by kernel_rfl) (by kernel_rfl) (by kernel_rfl) ?_ (Or.inl ⟨?_, ?_⟩) (by assumption) ?_
          rotate_left 2
          · (try simp only [List.getElem?_toArray, List.getElem?_cons_succ, List.getElem?_cons_zero]); rfl
          · exact fun _ _ _ h => h
          · rfl
          · (intro wS hwS; (try dsimp only at hwS); go_simp; all_goals with_reducible rfl)
          try simp only [Act.put, List.setIfInBounds_toArray, List.set_cons_zero, List.set_cons_succ]
          refine wpAnyH_take (i := 26) (oi := ?_) (v := ?_) ?_ (by kernel_rfl) (by kernel_rfl) (by kernel_rfl) ?_ (Or.inl ⟨?_, ?_⟩) (by assumption) ?_
          rotate_left 2
          · (try simp only [List.getElem?_toArray, List.getElem?_cons_succ, List.getElem?_cons_zero]); rfl
          · exact fun _ _ _ h => h
          · rfl
          · (intro wS hwS; (try dsimp only at hwS); go_simp; all_goals with_reducible rfl)
          try simp only [Act.put, List.setIfInBounds_toArray, List.set_cons_zero, List.set_cons_succ]
          refine wpAnyH_done (by kernel_rfl) ?_ _
          go_wp2_with fail
          go_roundw
          case rel => exact ⟨k + 1, by omega, by omega, by go_num, Xt7.out⟩
          case measure => simp [intOf]; omega
        | cons d r =>
          have hWd := hWk d r hxl
          have hn1 : 1 ≤ n6 := by rw [hn6, hxl]; simp
          have hn1' : (1 : Int) ≤ (n6 : Int) := by omega
          have hc1' : (1 : Int) ≤ (c6 : Int) := by omega
          have hne : (((n6 : Int)) == 0) = false := by simp; omega
          obtain ⟨bb, off, rfl, -, -⟩ := hcell6 (by omega)
          rw [hxl] at hr6
          rw [decide_eq_false (by omega)] at cE
          have hn6p : (0 : Int) < (n6 : Int) := by omega
          have hn6q : 0 < n6 := by omega
          have Xt6 := hide t6
          have XcE := hide cE
          have Xhr6 := hide hr6
          have Xhn6 := hide hn6
          have XhWk := hide hWk
          have Xhxl := hide hxl
          have XhWd := hide hWd
          clear t6 cE hr6 hn6 hWk hxl hWd
          clear hcell6
          go_wp2_with fail
          refine wp_region_held_drew (S := (fun _ => True)) (by kernel_rfl) ?_ (fun hHeld => ?_)
          · exact trivial
          refine wpAnyH_take (i := 0) (oi := ?_) (v := ?_) ?_ (by kernel_rfl) (by kernel_rfl) (by kernel_rfl) ?_ (Or.inl ⟨?_, ?_⟩) (by assumption) ?_
          rotate_left 2
          · (try simp only [List.getElem?_toArray, List.getElem?_cons_succ, List.getElem?_cons_zero]); rfl
          · exact fun _ _ _ h => h
          · rfl
          · (intro wS hwS; (try dsimp only at hwS); go_simp; all_goals with_reducible rfl)
          try simp only [Act.put, List.setIfInBounds_toArray, List.set_cons_zero, List.set_cons_succ]
          refine wpAnyH_take (i := 1) (oi := ?_) (v := ?_) ?_ (by kernel_rfl) (by kernel_rfl) (by kernel_rfl) ?_ (Or.inl ⟨?_, ?_⟩) (by assumption) ?_
          rotate_left 2
          · (try simp only [List.getElem?_toArray, List.getElem?_cons_succ, List.getElem?_cons_zero]); rfl
          · exact fun _ _ _ h => h
          · rfl
          · (intro wS hwS; (try dsimp only at hwS); go_simp; all_goals with_reducible rfl)
          try simp only [Act.put, List.setIfInBounds_toArray, List.set_cons_zero, List.set_cons_succ]
          refine wpAnyH_take (i := 3) (oi := ?_) (v := ?_) ?_ (by kernel_rfl) (by kernel_rfl) (by kernel_rfl) ?_ (Or.inl ⟨?_, ?_⟩) (by assumption) ?_
          rotate_left 2
          · (try simp only [List.getElem?_toArray, List.getElem?_cons_succ, List.getElem?_cons_zero]); rfl
          · exact fun _ _ _ h => h
          · rfl
          · (intro wS hwS; (try dsimp only at hwS); go_simp; all_goals with_reducible rfl)
          try simp only [Act.put, List.setIfInBounds_toArray, List.set_cons_zero, List.set_cons_succ]
          refine wpAnyH_ready (rs := [2]) (by kernel_rfl) (by simp) ?_
          refine AllReadyH.cons (o := ?_) ?_ (fun K hK => ?_) AllReadyH.nil
          rotate_left 1
          · (try simp only [List.getElem?_toArray, List.getElem?_cons_succ, List.getElem?_cons_zero]); rfl
          go_simp
          go_at_call 64
          with_reducible refine XcE.out.mono ?_
          rintro ee w7 ⟨rfl, b7⟩
          have t7 := Xt6.out.below b7
          have hr7 := Xhr6.out.below b7 (fun k hk => hk.2)
          have hz7 := b7.size
          clear b7 Xt6 Xhr6 XcE
          refine hK.out _ _ ?_ (fun hHeld => ?_)
          · exact trivial
          clear hK K
          try simp only [Act.put, List.setIfInBounds_toArray, List.set_cons_zero, List.set_cons_succ]
          have cG := fw_first XhqN.out XhqT.out t7.f (k : Int)
          have hr8 := RdI.headOf hr7
          clear hr7
          have Xt7 := hide t7
          have Xhr8 := hide hr8
          have XcG := hide cG
          clear t7 hr8 cG
          refine wpAnyH_take (i := 4) (oi := ?_) (v := ?_) ?_ (by kernel_rfl) (by kernel_rfl) (by kernel_rfl) ?_ (Or.inl ⟨?_, ?_⟩) (by assumption) ?_
          rotate_left 2
          · (try simp only [List.getElem?_toArray, List.getElem?_cons_succ, List.getElem?_cons_zero]); rfl
          · exact fun _ _ _ h => h
          · rfl
          · (intro wS hwS; (try dsimp only at hwS); go_simp; all_goals with_reducible rfl)
          try simp only [Act.put, List.setIfInBounds_toArray, List.set_cons_zero, List.set_cons_succ]
          refine wpAnyH_take (i := 5) (oi := ?_) (v := ?_) ?_ (by kernel_rfl) (by kernel_rfl) (by kernel_rfl) ?_ (Or.inl ⟨?_, ?_⟩) (by assumption) ?_
          rotate_left 2
          · (try simp only [List.getElem?_toArray, List.getElem?_cons_succ, List.getElem?_cons_zero]); rfl
          · exact fun _ _ _ h => h
          · rfl
          · (intro wS hwS; (try dsimp only at hwS); go_simp; all_goals with_reducible rfl)
          try simp only [Act.put, List.setIfInBounds_toArray, List.set_cons_zero, List.set_cons_succ]
          refine wpAnyH_take (i := 6) (oi := ?_) (v := ?_) ?_ (by kernel_rfl) (by kernel_rfl) (by kernel_rfl) ?_ (Or.inl ⟨?_, ?_⟩) (by assumption) ?_
          rotate_left 2
          · (try simp only [List.getElem?_toArray, List.getElem?_cons_succ, List.getElem?_cons_zero]); rfl
          · exact fun _ _ _ h => h
          · rfl
          · (intro wS hwS; (try dsimp only at hwS); go_simp; all_goals with_reducible rfl)
          try simp only [Act.put, List.setIfInBounds_toArray, List.set_cons_zero, List.set_cons_succ]
          refine wpAnyH_take (i := 7) (oi := ?_) (v := ?_) ?_ (by kernel_rfl) (by kernel_rfl) (by kernel_rfl) ?_ (Or.inl ⟨?_, ?_⟩) (by assumption) ?_
          rotate_left 2
          · (try simp only [List.getElem?_toArray, List.getElem?_cons_succ, List.getElem?_cons_zero]); rfl
          · exact fun _ _ _ h => h
          · rfl
          · (intro wS hwS; (try dsimp only at hwS); go_simp; all_goals with_reducible rfl)
          try simp only [Act.put, List.setIfInBounds_toArray, List.set_cons_zero, List.set_cons_succ]
          refine wpAnyH_take (i := 8) (oi := ?_) (v := ?_) ?_ (by kernel_rfl) (by kernel_rfl) (by kernel_rfl) ?_ (Or.inl ⟨?_, ?_⟩) (by assumption) ?_
          rotate_left 2
          · (try simp only [List.getElem?_toArray, List.getElem?_cons_succ, List.getElem?_cons_zero]); rfl
          · exact fun _ _ _ h => h
          · rfl
          · (intro wS hwS; (try dsimp only at hwS); go_simp; all_goals with_reducible rfl)
          try simp only [Act.put, List.setIfInBounds_toArray, List.set_cons_zero, List.set_cons_succ]
          refine wpAnyH_take (i := 9) (oi := ?_) (v := ?_) ?_ (by kernel_rfl) (by kernel_rfl) (by kernel_rfl) ?_ (Or.inl ⟨?_, ?_⟩) (by assumption) ?_
          rotate_left 2
          · (try simp only [List.getElem?_toArray, List.getElem?_cons_succ, List.getElem?_cons_zero]); rfl
          · exact fun _ _ _ h => h
          · rfl
          · (intro wS hwS; (try dsimp only at hwS); go_simp; all_goals with_reducible rfl)
          try simp only [Act.put, List.setIfInBounds_toArray, List.set_cons_zero, List.set_cons_succ]
          refine wpAnyH_take (i := 10) (oi := ?_) (v := ?_) ?_ (by kernel_rfl) (by kernel_rfl) (by kernel_rfl) ?_ (Or.inl ⟨?_, ?_⟩) (by assumption) ?_
          rotate_left 2
          · (try simp only [List.getElem?_toArray, List.getElem?_cons_succ, List.getElem?_cons_zero]); rfl
          · exact fun _ _ _ h => h
          · rfl
          · (intro wS hwS; (try dsimp only at hwS); go_simp; all_goals with_reducible rfl)
          try simp only [Act.put, List.setIfInBounds_toArray, List.set_cons_zero, List.set_cons_succ]
          refine wpAnyH_take (i := 11) (oi := ?_) (v := ?_) ?_ (by kernel_rfl) (by kernel_rfl) (by kernel_rfl) ?_ (Or.inl ⟨?_, ?_⟩) (by assumption) ?_
          rotate_left 2
          · (try simp only [List.getElem?_toArray, List.getElem?_cons_succ, List.getElem?_cons_zero]); rfl
          · exact fun _ _ _ h => h
          · rfl
          · (intro wS hwS; (try dsimp only at hwS); go_simp; all_goals with_reducible rfl)
          try simp only [Act.put, List.setIfInBounds_toArray, List.set_cons_zero, List.set_cons_succ]
          refine wpAnyH_take (i := 12) (oi := ?_) (v := ?_) ?_ (by kernel_rfl) (by kernel_rfl) (by kernel_rfl) ?_ (Or.inl ⟨?_, ?_⟩) (by assumption) ?_
          rotate_left 2
          · (try simp only [List.getElem?_toArray, List.getElem?_cons_succ, List.getElem?_cons_zero]); rfl
          · exact fun _ _ _ h => h
          · rfl
          · (intro wS hwS; (try dsimp only at hwS); go_simp; all_goals with_reducible rfl)
          try simp only [Act.put, List.setIfInBounds_toArray, List.set_cons_zero, List.set_cons_succ]
          refine wpAnyH_take (i := 13) (oi := ?_) (v := ?_) ?_ (by kernel_rfl) (by kernel_rfl) (by kernel_rfl) ?_ (Or.inl ⟨?_, ?_⟩) (by assumption) ?_
          rotate_left 2
          · (try simp only [List.getElem?_toArray, List.getElem?_cons_succ, List.getElem?_cons_zero]); rfl
          · exact fun _ _ _ h => h
          · rfl
          · (intro wS hwS; (try dsimp only at hwS); go_simp; all_goals with_reducible rfl)
          try simp only [Act.put, List.setIfInBounds_toArray, List.set_cons_zero, List.set_cons_succ]
          refine wpAnyH_take (i := 14) (oi := ?_) (v := ?_) ?_ (by kernel_rfl) (by kernel_rfl) (by kernel_rfl) ?_ (Or.inl ⟨?_, ?_⟩) (by assumption) ?_
          rotate_left 2
          · (try simp only [List.getElem?_toArray, List.getElem?_cons_succ, List.getElem?_cons_zero]); rfl
          · exact fun _ _ _ h => h
          · rfl
          · (intro wS hwS; (try dsimp only at hwS); go_simp; all_goals with_reducible rfl)
          try simp only [Act.put, List.setIfInBounds_toArray, List.set_cons_zero, List.set_cons_succ]
          refine wpAnyH_take (i := 15) (oi := ?_) (v := ?_) ?_ (by kernel_rfl) (by kernel_rfl) (by kernel_rfl) ?_ (Or.inl ⟨?_, ?_⟩) (by assumption) ?_
          rotate_left 2
          · (try simp only [List.getElem?_toArray, List.getElem?_cons_succ, List.getElem?_cons_zero]); rfl
          · exact fun _ _ _ h => h
          · rfl
          · (intro wS hwS; (try dsimp only at hwS); go_simp; all_goals with_reducible rfl)
          try simp only [Act.put, List.setIfInBounds_toArray, List.set_cons_zero, List.set_cons_succ]
          refine wpAnyH_take (i := 16) (oi := ?_) (v := ?_) ?_ (by kernel_rfl) (by kernel_rfl) (by kernel_rfl) ?_ (Or.inl ⟨?_, ?_⟩) (by assumption) ?_
          rotate_left 2
          · (try simp only [List.getElem?_toArray, List.getElem?_cons_succ, List.getElem?_cons_zero]); rfl
          · exact fun _ _ _ h => h
          · rfl
          · (intro wS hwS; (try dsimp only at hwS); go_simp; all_goals with_reducible rfl)
          try simp only [Act.put, List.setIfInBounds_toArray, List.set_cons_zero, List.set_cons_succ]
          refine wpAnyH_take (i := 17) (oi := ?_) (v := ?_) ?_ (by kernel_rfl) (by kernel_rfl) (by kernel_rfl) ?_ (Or.inl ⟨?_, ?_⟩) (by assumption) ?_
          rotate_left 2
          · (try simp only [List.getElem?_toArray, List.getElem?_cons_succ, List.getElem?_cons_zero]); rfl
          · exact fun _ _ _ h => h
          · rfl
          · (intro wS hwS; (try dsimp only at hwS); go_simp; all_goals with_reducible rfl)
          try simp only [Act.put, List.setIfInBounds_toArray, List.set_cons_zero, List.set_cons_succ]
          refine wpAnyH_take (i := 18) (oi := ?_) (v := ?_) ?_ (by kernel_rfl) (by kernel_rfl) (by kernel_rfl) ?_ (Or.inl ⟨?_, ?_⟩) (by assumption) ?_
          rotate_left 2
          · (try simp only [List.getElem?_toArray, List.getElem?_cons_succ, List.getElem?_cons_zero]); rfl
          · exact fun _ _ _ h => h
          · rfl
          · (intro wS hwS; (try dsimp only at hwS); go_simp; all_goals with_reducible rfl)
          try simp only [Act.put, List.setIfInBounds_toArray, List.set_cons_zero, List.set_cons_succ]
          refine wpAnyH_take (i := 19) (oi := ?_) (v := ?_) ?_ (by kernel_rfl) (by kernel_rfl) (by kernel_rfl) ?_ (Or.inl ⟨?_, ?_⟩) (by assumption) ?_
          rotate_left 2
          · (try simp only [List.getElem?_toArray, List.getElem?_cons_succ, List.getElem?_cons_zero]); rfl
          · exact fun _ _ _ h => h
          · rfl
          · (intro wS hwS; (try dsimp only at hwS); go_simp; all_goals with_reducible rfl)
          try simp only [Act.put, List.setIfInBounds_toArray, List.set_cons_zero, List.set_cons_succ]
          refine wpAnyH_take (i := 20) (oi := ?_) (v := ?_) ?_ (by kernel_rfl) (by kernel_rfl) (by kernel_rfl) ?_ (Or.inl ⟨?_, ?_⟩) (by assumption) ?_
          rotate_left 2
          · (try simp only [List.getElem?_toArray, List.getElem?_cons_succ, List.getElem?_cons_zero]); rfl
          · exact fun _ _ _ h => h
          · rfl
          · (intro wS hwS; (try dsimp only at hwS); go_simp; all_goals with_reducible rfl)
          try simp only [Act.put, List.setIfInBounds_toArray, List.set_cons_zero, List.set_cons_succ]
          refine wpAnyH_take (i := 21) (oi := ?_) (v := ?_) ?_ (by kernel_rfl) (by kernel_rfl) (by kernel_rfl) ?_ (Or.inl ⟨?_, ?_⟩) (by assumption) ?_
          rotate_left 2
          · (try simp only [List.getElem?_toArray, List.getElem?_cons_succ, List.getElem?_cons_zero]); rfl
          · exact fun _ _ _ h => h
          · rfl
          · (intro wS hwS; (try dsimp only at hwS); go_simp; all_goals with_reducible rfl)
          try simp only [Act.put, List.setIfInBounds_toArray, List.set_cons_zero, List.set_cons_succ]
          refine wpAnyH_ready (rs := [22]) (by kernel_rfl) (by simp) ?_
          refine AllReadyH.cons (o := ?_) ?_ (fun K hK => ?_) AllReadyH.nil
          rotate_left 1
          · (try simp only [List.getElem?_toArray, List.getElem?_cons_succ, List.getElem?_cons_zero]); rfl
          go_simp
          go_at_call 66
          refine XcG.out.mono ?_
          rintro ee w8 ⟨A8, n8, c8, rfl, hrG, b8⟩
          have t8 := Xt7.out.below b8
          have hI := law11_within (Xhr8.out.below b8 (fun k hk => Nat.lt_of_lt_of_le hk.2 hz7)) hrG
          rw [XhWd.out] at hI
          clear b8 hrG Xt7 Xhr8 XcG
          refine hK.out _ _ ?_ (fun hHeld => ?_)
          · exact trivial
          clear hK K
          try simp only [Act.put, List.setIfInBounds_toArray, List.set_cons_zero, List.set_cons_succ]
          have Xt8 := hide t8
          clear t8
          refine wpAnyH_ready (rs := [23]) (by kernel_rfl) (by simp) ?_
          refine AllReadyH.cons (o := ?_) ?_ (fun K hK => ?_) AllReadyH.nil
          rotate_left 1
          · (try simp only [List.getElem?_toArray, List.getElem?_cons_succ, List.getElem?_cons_zero]); rfl
          go_simp
          go_at_call 72
          with_reducible refine hI.mono ?_
          rintro ee w9 ⟨rfl, b9⟩
          have t7 := Xt8.out.below b9
          clear b9 Xt8 hI
          refine hK.out _ _ ?_ (fun hHeld => ?_)
          · exact trivial
          clear hK K
          try simp only [Act.put, List.setIfInBounds_toArray, List.set_cons_zero, List.set_cons_succ]
          have Xt7 := hide t7
          clear t7
          refine wpAnyH_take (i := 24) (oi := ?_) (v := ?_) ?_ (by kernel_rfl) (by kernel_rfl) (by kernel_rfl) ?_ (Or.inl ⟨?_, ?_⟩) (by assumption) ?_
          rotate_left 2
          · (try simp only [List.getElem?_toArray, List.getElem?_cons_succ, List.getElem?_cons_zero]); rfl
          · exact fun _ _ _ h => h
          · rfl
          · (intro wS hwS; (try dsimp only at hwS); go_simp; all_goals with_reducible rfl)
          try simp only [Act.put, List.setIfInBounds_toArray, List.set_cons_zero, List.set_cons_succ]
          refine wpAnyH_take (i := 25) (oi := ?_) (v := ?_) ?_ (by kernel_rfl) (by kernel_rfl) (by kernel_rfl) ?_ (Or.inl ⟨?_, ?_⟩) (by assumption) ?_
          rotate_left 2
          · (try simp only [List.getElem?_toArray, List.getElem?_cons_succ, List.getElem?_cons_zero]); rfl
          · exact fun _ _ _ h => h
          · rfl
          · (intro wS hwS; (try dsimp only at hwS); go_simp; all_goals with_reducible rfl)
          try simp only [Act.put, List.setIfInBounds_toArray, List.set_cons_zero, List.set_cons_succ]
          refine wpAnyH_take (i := 26) (oi := ?_) (v := ?_) ?_ (by kernel_rfl) (by kernel_rfl) (by kernel_rfl) ?_ (Or.inl ⟨?_, ?_⟩) (by assumption) ?_
          rotate_left 2
          · (try simp only [List.getElem?_toArray, List.getElem?_cons_succ, List.getElem?_cons_zero]); rfl
          · exact fun _ _ _ h => h
          · rfl
          · (intro wS hwS; (try dsimp only at hwS); go_simp; all_goals with_reducible rfl)
          try simp only [Act.put, List.setIfInBounds_toArray, List.set_cons_zero, List.set_cons_succ]
          refine wpAnyH_done (by kernel_rfl) ?_ _
          go_wp2_with fail
          go_roundw
          case rel => exact ⟨k + 1, by omega, by omega, by go_num, Xt7.out⟩
          case measure => simp [intOf]; omega
    · have hlt' : ¬ (k : Int) ≤ (T : Int) + (N : Int) := by omega
      have hb2 := t5.le
      clear t5
      have Xhb2 := hide hb2
      clear hb2
      go_wp2_with fail
      with_reducible refine (law11_awake _).mono ?_
      rintro e w3 ⟨rfl, b3⟩
      go_wp2_with fail
      go_ret
      exact ⟨rfl, Xhb2.out.trans (b3.mono Xhb2.out.size)⟩
end Go.Proofs.Ytejjaabkbkkjlaa

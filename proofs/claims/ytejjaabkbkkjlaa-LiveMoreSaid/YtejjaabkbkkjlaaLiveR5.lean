/- conchref09: Check. -/
import Derived.Test.YtejjaabkbkkjlaaLiveR4
namespace Go.Proofs.Ytejjaabkbkkjlaa
set_option linter.unusedVariables false
open Go.RowKit
attribute [local irreducible] wpStill wpOne wpPh

/-- a boxed grammar and two lists -/
structure GTwoL (w wr : World) (F : Nat → Prop) (A1 : Option Addr) (c1 : Nat) (A2 : Option Addr) (c2 : Nat) (A3 : Option Addr) (c3 T N R : Nat) (st : Int) (G : GramD) (z : Nat) (vp : Value) (lp : List Int) (vr : Value) (lr : List Int) : Prop where
  g : GBox wr F w.heap.size A1 c1 A2 c2 A3 c3 T N R st G
  p : RdI wr (fun k => k < z) vp lp
  r : RdI wr (fun k => k < z) vr lr
  b : Below w.heap.size w wr
  hz : z ≤ wr.heap.size
theorem GTwoL.below {w wr wr' : World} {F : Nat → Prop} {A1 : Option Addr} {c1 : Nat} {A2 : Option Addr} {c2 : Nat} {A3 : Option Addr} {c3 T N R : Nat} {st : Int} {G : GramD} {z : Nat} {vp : Value} {lp : List Int} {vr : Value} {lr : List Int}
    (h : GTwoL w wr F A1 c1 A2 c2 A3 c3 T N R st G z vp lp vr lr) (hb : Below wr.heap.size wr wr') : GTwoL w wr' F A1 c1 A2 c2 A3 c3 T N R st G z vp lp vr lr :=
  ⟨h.g.below hb, h.p.below hb (fun k hk => Nat.lt_of_lt_of_le hk h.hz), h.r.below hb (fun k hk => Nat.lt_of_lt_of_le hk h.hz), h.b.trans (hb.mono h.b.size), Nat.le_trans h.hz hb.size⟩

set_option maxRecDepth 100000 in
set_option maxHeartbeats 4000000 in
theorem ref_check9 {w : World} {F : Nat → Prop} {vt vn vr : Value} {G : GramD} (h : IsGram w F vt vn vr G) (st : Int) :
    Calls Try.prog 52 #[GV vt vn vr st] w (Quiet w (.tuple #[.int .i64 (deadOf G st).1, .int .i64 (deadOf G st).2])) := by
  obtain ⟨A1, c1, A2, c2, A3, c3, rfl, rfl, rfl, -⟩ := h.slices
  obtain ⟨w1, hw1⟩ : ∃ w1, w1 = w.alloc (.cells #[.slice A1 G.terms.length c1, .slice A2 G.nons.length c2, .slice A3 G.rules.length c3, .int .i64 st] 25) := ⟨_, rfl⟩
  have g1 := GBox.new h st
  have b1 : Below w.heap.size w w1 := by rw [hw1]; exact (Below.refl _ w).alloc (Nat.le_refl _) _
  rw [← hw1] at g1
  have cc := ref_check g1.gram st
  obtain ⟨q0, q1, q2, q3⟩ := g1.cells
  by_cases hz : checkOf G st = 0
  · rw [hz] at cc
    have hk := Kn.of_check hz
    have cp : ∀ wr, GBox wr F w.heap.size A1 c1 A2 c2 A3 c3 G.terms.length G.nons.length G.rules.length st G → Calls Try.prog 57 #[GV (.slice A1 G.terms.length c1) (.slice A2 G.nons.length c2) (.slice A3 G.rules.length c3) st] wr (IntsPost wr (prdL G)) := fun wr g => by
      have := ref_productives g.gram st
      rwa [show productiveOf G st = prdL G from if_pos hz] at this
    have cr : ∀ wr, GBox wr F w.heap.size A1 c1 A2 c2 A3 c3 G.terms.length G.nons.length G.rules.length st G → Calls Try.prog 59 #[GV (.slice A1 G.terms.length c1) (.slice A2 G.nons.length c2) (.slice A3 G.rules.length c3) st] wr (IntsPost wr (rchL G st)) := fun wr g => by
      have := ref_reacheds g.gram st
      rwa [show reachedOf G st = rchL G st from if_pos hz] at this
    have ct := fun wr (g : GBox wr F w.heap.size A1 c1 A2 c2 A3 c3 G.terms.length G.nons.length G.rules.length st G) => ref_top g.gram st
    rw [show topOf G = G.terms.length + G.nons.length from rfl] at ct
    have hds := fun (i : Nat) => dead_some (G := G) hz (i := i)
    have hdn := dead_none (G := G) hz
    have hdb : ∀ s, deadB G st s = (!(decide (s ∈ rchL G st)) || (isNon G s && !(decide (s ∈ prdL G)))) := fun s => by
      unfold deadB
      have e1 : decide (s ∈ rchL G st) = hasI (G.terms.length + G.nons.length + 1) (rchB G st) s := by
        rw [Bool.eq_iff_iff, decide_eq_true_eq]; exact mem_below
      have e2 : decide (s ∈ prdL G) = hasI (G.terms.length + G.nons.length + 1) (prdB G) s := by
        rw [Bool.eq_iff_iff, decide_eq_true_eq]; exact mem_below
      rw [e1, e2]
    have t0 := hk.t
    have t1 := hk.n
    generalize hT : G.terms.length = T at *
    generalize hN : G.nons.length = N at *
    generalize hR : G.rules.length = R at *
    generalize prdL G = pl at *
    generalize rchL G st = rl at *
    rw [hw1] at cc q0 q1 q2 q3
    clear h
    have Xcc := hide cc
    have Xcp := hide cp
    have Xcr := hide cr
    have Xct := hide ct
    have Xhds := hide hds
    have Xhdn := hide hdn
    have Xhdb := hide hdb
    have Xg1 := hide g1
    have Xb1 := hide b1
    have XhT := hide hT
    have XhN := hide hN
    have XhR := hide hR
    have Xhz := hide hz
    have Xhk := hide hk
    clear cc cp cr ct hds hdn hdb g1 b1 hT hN hR hz hk
    go_enter Try.func52, Try.ntmps52
    go_wp2_with fail
    with_reducible refine Xcc.out.mono ?_
    rintro e w2 ⟨rfl, b2⟩
    rw [← hw1] at b2
    have g2 := Xg1.out.below b2
    have hb2 := Xb1.out.trans (b2.mono Xb1.out.size)
    clear hw1 q0 q1 q2 q3 Xcc Xg1 Xb1 b2
    obtain ⟨q0, q1, q2, q3⟩ := g2.cells
    have g2d : GBox w2.drew F w.heap.size A1 c1 A2 c2 A3 c3 T N R st G := g2.drewN 1
    have hb2d : Below w.heap.size w w2.drew := below_drewN hb2 1
    clear hb2
    have Xhb2d := hide hb2d
    clear hb2d
    go_wp2_with fail
    go_region_held3 (fun w' => w'.cell? ⟨w.heap.size, 0, none⟩ = some (.slice A1 T c1) ∧ w'.cell? ⟨w.heap.size, 1, none⟩ = some (.slice A2 N c2) ∧ w'.cell? ⟨w.heap.size, 2, none⟩ = some (.slice A3 R c3) ∧ w'.cell? ⟨w.heap.size, 3, none⟩ = some (.int .i64 st))
      (first | go_keep | assumption)
      (first
        | (go_at_call 57; (with_reducible refine (Xcp.out _ g2d).mono ?_); rintro e w3 ⟨Ap, np, cp', rfl, hrp, b3⟩; have g3 := g2d.below b3; have k3 := g3.cells)
        | (go_at_call 59; (with_reducible refine (Xcr.out _ g3).mono ?_); rintro e w4 ⟨Ar, nr, cr', rfl, hrr, b4⟩; have g4 := g3.below b4; have k4 := g4.cells))
    have hb3 : Below w.heap.size w w3 := Xhb2d.out.trans (b3.mono Xhb2d.out.size)
    have t4 : GTwoL w w4 F A1 c1 A2 c2 A3 c3 T N R st G w4.heap.size (.slice Ap np cp') pl (.slice Ar nr cr') rl :=
      ⟨g4, (hrp.below b4 (fun k hk => hk.2)).mono (fun k hk => Nat.lt_of_lt_of_le hk.2 b4.size), hrr.mono (fun k hk => hk.2), hb3.trans (b4.mono hb3.size), Nat.le_refl _⟩
    generalize w4.heap.size = z at t4
    clear g2 g2d g3 g4 hrp hrr b3 b4 hb3 k3 k4 Xhb2d Xcp Xcr
    obtain ⟨q0, q1, q2, q3⟩ := t4.g.cells
    have Xt4 := hide t4
    clear t4
    go_wp2_with fail
    clear q0 q1 q2 q3
    go_loopw [7] (fun i wr => ∃ k : Nat, k ≤ T + N ∧ i = .int .i64 ((k : Int) + 1) ∧ (∀ j : Nat, j < k → deadB G st ((j : Int) + 1) = false) ∧ GTwoL w wr F A1 c1 A2 c2 A3 c3 T N R st G z (.slice Ap np cp') pl (.slice Ar nr cr') rl) (fun i _ => (T + N + 1) - (intOf i).toNat)
    case atStart => exact ⟨0, Nat.zero_le _, rfl, fun j hj => absurd hj (by omega), Xt4.out⟩
    case round =>
      clear Xt4
      obtain ⟨k, hk, rfl, hb, t⟩ := hrel
      have c0 := Xct.out _ t.g
      obtain ⟨q0, q1, q2, q3⟩ := t.g.cells
      have Xt := hide t
      have Xc0 := hide c0
      clear t c0
      go_wp2_with fail
      with_reducible refine Xc0.out.mono ?_
      rintro e w5 ⟨rfl, b5⟩
      have t := Xt.out.below b5
      clear Xt b5 q0 q1 q2 q3 Xc0
      by_cases hlt : k < T + N
      · have hlt' : (k : Int) + 1 ≤ (T : Int) + (N : Int) := by omega
        have ch := ref_has t.r ((k : Int) + 1)
        have hdk := Xhdb.out ((k : Int) + 1)
        have hfd := Xhds.out k hlt
        obtain ⟨q0, q1, q2, q3⟩ := t.g.cells
        have finb : deadB G st ((k : Int) + 1) = false → ∀ j : Nat, j < k + 1 → deadB G st ((j : Int) + 1) = false := fun h j hj => by
          by_cases e : j = k
          · subst e; exact h
          · exact hb j (by omega)
        by_cases h1 : (k : Int) + 1 ∈ rl
        · rw [decide_eq_true h1] at ch hdk
          have cn := ref_non t.g.gram st ((k : Int) + 1)
          cases h2 : isNon G ((k : Int) + 1) with
          | false =>
            rw [h2] at cn hdk
            have finb := finb (by rw [hdk]; rfl)
            have Xt := hide t
            have Xhb := hide hb
            have Xch := hide ch
            have Xhdk := hide hdk
            have Xhfd := hide hfd
            have Xh1 := hide h1
            have Xfinb := hide finb
            have Xcn := hide cn
            have Xh2 := hide h2
            clear t hb ch hdk hfd h1 finb cn h2
            go_wp2_with fail
            with_reducible refine Xch.out.mono ?_
            rintro e w6 ⟨rfl, rfl⟩
            go_wp2_with fail
            with_reducible refine Xcn.out.mono ?_
            rintro e w7 ⟨rfl, b7⟩
            have t7 := Xt.out.below b7
            clear b7 q0 q1 q2 q3
            have Xt7 := hide t7
            clear t7
            go_wp2_with fail
            go_roundw
            case rel => exact ⟨k + 1, by omega, by go_num, Xfinb.out, Xt7.out⟩
            case measure => simp [intOf]; omega
          | true =>
            rw [h2] at cn hdk
            by_cases h3 : (k : Int) + 1 ∈ pl
            · rw [decide_eq_true h3] at hdk
              have finb := finb (by rw [hdk]; rfl)
              have Xt := hide t
              have Xhb := hide hb
              have Xch := hide ch
              have Xhdk := hide hdk
              have Xhfd := hide hfd
              have Xh1 := hide h1
              have Xfinb := hide finb
              have Xcn := hide cn
              have Xh2 := hide h2
              have Xh3 := hide h3
              clear t hb ch hdk hfd h1 finb cn h2 h3
              go_wp2_with fail
              with_reducible refine Xch.out.mono ?_
              rintro e w6 ⟨rfl, rfl⟩
              go_wp2_with fail
              with_reducible refine Xcn.out.mono ?_
              rintro e w7 ⟨rfl, b7⟩
              have t7 := Xt.out.below b7
              have ch2 := ref_has t7.p ((k : Int) + 1)
              rw [decide_eq_true Xh3.out] at ch2
              clear b7 q0 q1 q2 q3
              have Xt7 := hide t7
              have Xch2 := hide ch2
              clear t7 ch2
              go_wp2_with fail
              with_reducible refine Xch2.out.mono ?_
              rintro e w8 ⟨rfl, rfl⟩
              go_wp2_with fail
              go_roundw
              case rel => exact ⟨k + 1, by omega, by go_num, Xfinb.out, Xt7.out⟩
              case measure => simp [intOf]; omega
            · rw [decide_eq_false h3] at hdk
              have hfin := hfd (by rw [hdk]; rfl) hb
              have Xt := hide t
              have Xhb := hide hb
              have Xch := hide ch
              have Xhdk := hide hdk
              have Xhfd := hide hfd
              have Xh1 := hide h1
              have Xfinb := hide finb
              have Xcn := hide cn
              have Xh2 := hide h2
              have Xh3 := hide h3
              have Xhfin := hide hfin
              clear t hb ch hdk hfd h1 finb cn h2 h3 hfin
              go_wp2_with fail
              with_reducible refine Xch.out.mono ?_
              rintro e w6 ⟨rfl, rfl⟩
              go_wp2_with fail
              with_reducible refine Xcn.out.mono ?_
              rintro e w7 ⟨rfl, b7⟩
              have t7 := Xt.out.below b7
              have ch2 := ref_has t7.p ((k : Int) + 1)
              rw [decide_eq_false Xh3.out] at ch2
              clear b7 q0 q1 q2 q3
              have Xt7 := hide t7
              have Xch2 := hide ch2
              clear t7 ch2
              go_wp2_with fail
              with_reducible refine Xch2.out.mono ?_
              rintro e w8 ⟨rfl, rfl⟩
              go_wp2_with fail
              go_ret2
              rw [Xhfin.out]
              exact ⟨rfl, Xt7.out.b⟩
        · rw [decide_eq_false h1] at ch hdk
          have hfin := hfd (by rw [hdk]; rfl) hb
          have Xt := hide t
          have Xhb := hide hb
          have Xch := hide ch
          have Xhdk := hide hdk
          have Xhfd := hide hfd
          have Xh1 := hide h1
          have Xhfin := hide hfin
          have Xfinb := hide finb
          clear t hb ch hdk hfd h1 hfin finb
          go_wp2_with fail
          with_reducible refine Xch.out.mono ?_
          rintro e w6 ⟨rfl, rfl⟩
          go_wp2_with fail
          go_ret2
          rw [Xhfin.out]
          exact ⟨rfl, Xt.out.b⟩
      · have hlt' : ¬ (k : Int) + 1 ≤ (T : Int) + (N : Int) := by omega
        have hfin := Xhdn.out (fun j hj => hb j (by omega))
        have Xt := hide t
        have Xhb := hide hb
        have Xhfin := hide hfin
        clear t hb hfin
        go_wp2_with fail
        go_ret2
        rw [Xhfin.out]
        exact ⟨rfl, Xt.out.b⟩
  · have hdd : deadOf G st = (checkOf G st, 0) := by unfold deadOf; rw [if_neg hz]
    rw [hdd]
    simp only
    have hcn : (checkOf G st != 0) = true := by simpa using hz
    generalize checkOf G st = ck at *
    generalize hT : G.terms.length = T at *
    generalize hN : G.nons.length = N at *
    generalize hR : G.rules.length = R at *
    rw [hw1] at cc q0 q1 q2 q3
    clear h
    have Xcc := hide cc
    have Xg1 := hide g1
    have Xb1 := hide b1
    have XhT := hide hT
    have XhN := hide hN
    have XhR := hide hR
    have Xhz := hide hz
    have Xhdd := hide hdd
    clear cc g1 b1 hT hN hR hz hdd
    go_enter Try.func52, Try.ntmps52
    go_wp2_with fail
    with_reducible refine Xcc.out.mono ?_
    rintro e w2 ⟨rfl, b2⟩
    rw [← hw1] at b2
    have hb2 := Xb1.out.trans (b2.mono Xb1.out.size)
    clear hw1 q0 q1 q2 q3 Xcc Xg1 b2
    have Xhb2 := hide hb2
    clear hb2
    go_wp2_with fail
    go_ret2
    exact ⟨rfl, Xhb2.out⟩
end Go.Proofs.Ytejjaabkbkkjlaa

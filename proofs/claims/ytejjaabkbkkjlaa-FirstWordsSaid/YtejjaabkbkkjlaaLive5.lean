/- live.Productive, live.Reached, live.Check. -/
import Derived.Test.YtejjaabkbkkjlaaLive4
namespace Go.Proofs.Ytejjaabkbkkjlaa
set_option linter.unusedVariables false
open Go.RowKit
attribute [local irreducible] wpStill wpOne wpPh

def IntsPost (w : World) (l : List Int) (e : Ending) (w' : World) : Prop := ∃ A n c, e = .returned (.slice A n c) ∧ RdI w' (fun k => w.heap.size ≤ k ∧ k < w'.heap.size) (.slice A n c) l ∧ Below w.heap.size w w'
theorem IntsPost.of_own {w w0 w' : World} {l : List Nat} {A : Option Addr} {c : Nat} (h : w'.ownsRow w0.heap.size 3 1 (.slice A l.length c) l.length (l.map J64)) (hb : Below w.heap.size w w0) (hb' : Below w0.heap.size w0 w') : IntsPost w (l.map (fun n : Nat => (n : Int))) (.returned (.slice A l.length c)) w' := by
  refine ⟨A, _, c, rfl, ?_, hb.trans (hb'.mono hb.size)⟩
  have := (Rd.of_own h).mono (F' := fun k => w.heap.size ≤ k ∧ k < w'.heap.size) (fun k hk => ⟨Nat.le_trans hb.size (h.lt k hk).1, (h.lt k hk).2⟩)
  rw [show l.map J64 = (l.map (fun n : Nat => (n : Int))).map (Value.int .i64) by rw [List.map_map]; rfl] at this
  exact this

noncomputable def productiveOf (G : GramD) (st : Int) : List Int := if checkOf G st = 0 then prdL G else []
noncomputable def reachedOf (G : GramD) (st : Int) : List Int := if checkOf G st = 0 then rchL G st else []

set_option maxRecDepth 100000 in
theorem live_productives {w : World} {F : Nat → Prop} {vt vn vr : Value} {G : GramD} (h : IsGram w F vt vn vr G) (st : Int) :
    Calls Try.prog 56 #[GV vt vn vr st] w (IntsPost w (productiveOf G st)) := by
  obtain ⟨A1, c1, A2, c2, A3, c3, rfl, rfl, rfl, -⟩ := h.slices
  obtain ⟨w1, hw1⟩ : ∃ w1, w1 = w.alloc (.cells #[.slice A1 G.terms.length c1, .slice A2 G.nons.length c2, .slice A3 G.rules.length c3, .int .i64 st] 25) := ⟨_, rfl⟩
  have g1 := GBox.new h st
  have b1 : Below w.heap.size w w1 := by rw [hw1]; exact (Below.refl _ w).alloc (Nat.le_refl _) _
  rw [← hw1] at g1
  have cc := gram_check g1.gram st
  have hdef : productiveOf G st = if checkOf G st = 0 then prdL G else [] := rfl
  have hl : prdL G = (below (prdB G) (G.terms.length + G.nons.length + 1)).map (fun n : Nat => (n : Int)) := rfl
  have cp := fun hz wr (g : GBox wr F w.heap.size A1 c1 A2 c2 A3 c3 G.terms.length G.nons.length G.rules.length st G) => live_productive g.gram st st (Kn.of_check hz)
  generalize hT : G.terms.length = T at *
  generalize hN : G.nons.length = N at *
  generalize hR : G.rules.length = R at *
  obtain ⟨q0, q1, q2, q3⟩ := g1.cells
  rw [hw1] at cc q0 q1 q2 q3
  clear h
  by_cases hz : checkOf G st = 0
  · rw [hz] at cc
    rw [if_pos hz] at hdef
    rw [hdef, hl]
    have cp2 := cp hz
    have Xcc := hide cc
    have Xcp := hide cp
    have Xcp2 := hide cp2
    have Xg1 := hide g1
    have Xb1 := hide b1
    have XhT := hide hT
    have XhN := hide hN
    have XhR := hide hR
    have Xhz := hide hz
    have Xhdef := hide hdef
    have Xhl := hide hl
    clear cc cp cp2 g1 b1 hT hN hR hz hdef hl
    go_enter Try.func56, Try.ntmps56
    go_wp2_with fail
    with_reducible refine Xcc.out.mono ?_
    rintro e w2 ⟨rfl, b2⟩
    rw [← hw1] at b2
    have g2 := Xg1.out.below b2
    have hb2 := Xb1.out.trans (b2.mono Xb1.out.size)
    clear hw1 q0 q1 q2 q3 Xcc Xg1 Xb1 b2
    obtain ⟨q0, q1, q2, q3⟩ := g2.cells
    have Xhb2 := hide hb2
    have Xg2 := hide g2
    clear hb2 g2
    go_wp2_with fail
    with_reducible refine (Xcp2.out _ Xg2.out).mono ?_
    rintro e w3 ⟨b, S, rfl, hs3, hS3, b3⟩
    have hb3 := Xhb2.out.trans (b3.mono Xhb2.out.size)
    have Xhb3 := hide hb3
    have Xhs3 := hide hs3
    clear hb3 hs3
    clear Xcp q0 q1 q2 q3 b3
    go_wp2_with fail
    with_reducible refine (set_list Xhs3.out).mono ?_
    rintro e w4 ⟨A4, c4, rfl, ho4, b4⟩
    have fin := IntsPost.of_own ho4 Xhb3.out b4
    clear ho4
    have Xfin := hide fin
    clear fin
    go_wp2_with fail
    go_ret
    exact Xfin.out
  · rw [if_neg hz] at hdef
    rw [hdef]
    have hcn : (checkOf G st != 0) = true := by simpa using hz
    generalize checkOf G st = ck at *
    have Xcc := hide cc
    have Xcp := hide cp
    have Xg1 := hide g1
    have Xb1 := hide b1
    have XhT := hide hT
    have XhN := hide hN
    have XhR := hide hR
    have Xhz := hide hz
    have Xhdef := hide hdef
    have Xhl := hide hl
    clear cc cp g1 b1 hT hN hR hz hdef hl
    go_enter Try.func56, Try.ntmps56
    go_wp2_with fail
    with_reducible refine Xcc.out.mono ?_
    rintro e w2 ⟨rfl, b2⟩
    rw [← hw1] at b2
    have hb2 := Xb1.out.trans (b2.mono Xb1.out.size)
    clear hw1 q0 q1 q2 q3 Xcc Xg1 b2
    have Xhb2 := hide hb2
    clear hb2
    go_wp2_with fail
    go_ret
    exact ⟨none, 0, 0, rfl, Rd.nil _ _ _, Xhb2.out⟩
set_option maxRecDepth 100000 in
theorem live_reacheds {w : World} {F : Nat → Prop} {vt vn vr : Value} {G : GramD} (h : IsGram w F vt vn vr G) (st : Int) :
    Calls Try.prog 58 #[GV vt vn vr st] w (IntsPost w (reachedOf G st)) := by
  obtain ⟨A1, c1, A2, c2, A3, c3, rfl, rfl, rfl, -⟩ := h.slices
  obtain ⟨w1, hw1⟩ : ∃ w1, w1 = w.alloc (.cells #[.slice A1 G.terms.length c1, .slice A2 G.nons.length c2, .slice A3 G.rules.length c3, .int .i64 st] 25) := ⟨_, rfl⟩
  have g1 := GBox.new h st
  have b1 : Below w.heap.size w w1 := by rw [hw1]; exact (Below.refl _ w).alloc (Nat.le_refl _) _
  rw [← hw1] at g1
  have cc := gram_check g1.gram st
  have hdef : reachedOf G st = if checkOf G st = 0 then rchL G st else [] := rfl
  have hl : rchL G st = (below (rchB G st) (G.terms.length + G.nons.length + 1)).map (fun n : Nat => (n : Int)) := rfl
  have cp := fun hz wr (g : GBox wr F w.heap.size A1 c1 A2 c2 A3 c3 G.terms.length G.nons.length G.rules.length st G) => live_reached g.gram st (Kn.of_check hz)
  generalize hT : G.terms.length = T at *
  generalize hN : G.nons.length = N at *
  generalize hR : G.rules.length = R at *
  obtain ⟨q0, q1, q2, q3⟩ := g1.cells
  rw [hw1] at cc q0 q1 q2 q3
  clear h
  by_cases hz : checkOf G st = 0
  · rw [hz] at cc
    rw [if_pos hz] at hdef
    rw [hdef, hl]
    have cp2 := cp hz
    have Xcc := hide cc
    have Xcp := hide cp
    have Xcp2 := hide cp2
    have Xg1 := hide g1
    have Xb1 := hide b1
    have XhT := hide hT
    have XhN := hide hN
    have XhR := hide hR
    have Xhz := hide hz
    have Xhdef := hide hdef
    have Xhl := hide hl
    clear cc cp cp2 g1 b1 hT hN hR hz hdef hl
    go_enter Try.func58, Try.ntmps58
    go_wp2_with fail
    with_reducible refine Xcc.out.mono ?_
    rintro e w2 ⟨rfl, b2⟩
    rw [← hw1] at b2
    have g2 := Xg1.out.below b2
    have hb2 := Xb1.out.trans (b2.mono Xb1.out.size)
    clear hw1 q0 q1 q2 q3 Xcc Xg1 Xb1 b2
    obtain ⟨q0, q1, q2, q3⟩ := g2.cells
    have Xhb2 := hide hb2
    have Xg2 := hide g2
    clear hb2 g2
    go_wp2_with fail
    with_reducible refine (Xcp2.out _ Xg2.out).mono ?_
    rintro e w3 ⟨b, S, rfl, hs3, hS3, b3⟩
    have hb3 := Xhb2.out.trans (b3.mono Xhb2.out.size)
    have Xhb3 := hide hb3
    have Xhs3 := hide hs3
    clear hb3 hs3
    clear Xcp q0 q1 q2 q3 b3
    go_wp2_with fail
    with_reducible refine (set_list Xhs3.out).mono ?_
    rintro e w4 ⟨A4, c4, rfl, ho4, b4⟩
    have fin := IntsPost.of_own ho4 Xhb3.out b4
    clear ho4
    have Xfin := hide fin
    clear fin
    go_wp2_with fail
    go_ret
    exact Xfin.out
  · rw [if_neg hz] at hdef
    rw [hdef]
    have hcn : (checkOf G st != 0) = true := by simpa using hz
    generalize checkOf G st = ck at *
    have Xcc := hide cc
    have Xcp := hide cp
    have Xg1 := hide g1
    have Xb1 := hide b1
    have XhT := hide hT
    have XhN := hide hN
    have XhR := hide hR
    have Xhz := hide hz
    have Xhdef := hide hdef
    have Xhl := hide hl
    clear cc cp g1 b1 hT hN hR hz hdef hl
    go_enter Try.func58, Try.ntmps58
    go_wp2_with fail
    with_reducible refine Xcc.out.mono ?_
    rintro e w2 ⟨rfl, b2⟩
    rw [← hw1] at b2
    have hb2 := Xb1.out.trans (b2.mono Xb1.out.size)
    clear hw1 q0 q1 q2 q3 Xcc Xg1 b2
    have Xhb2 := hide hb2
    clear hb2
    go_wp2_with fail
    go_ret
    exact ⟨none, 0, 0, rfl, Rd.nil _ _ _, Xhb2.out⟩

/-- is a symbol of no use? -/
noncomputable def deadB (G : GramD) (st s : Int) : Bool := !hasI (G.terms.length + G.nons.length + 1) (rchB G st) s || (isNon G s && !hasI (G.terms.length + G.nons.length + 1) (prdB G) s)
noncomputable def deadOf (G : GramD) (st : Int) : Int × Int :=
  if checkOf G st = 0 then (match (List.range (G.terms.length + G.nons.length)).find? (fun (i : Nat) => deadB G st ((i : Int) + 1)) with | some i => (11, (i : Int) + 1) | none => (0, 0)) else (checkOf G st, 0)
theorem dead_some {G : GramD} {st : Int} (hz : checkOf G st = 0) {i : Nat} (hi : i < G.terms.length + G.nons.length) (h : deadB G st ((i : Int) + 1) = true) (hb : ∀ j : Nat, j < i → deadB G st ((j : Int) + 1) = false) : deadOf G st = (11, (i : Int) + 1) := by
  unfold deadOf
  rw [if_pos hz]
  have : (List.range (G.terms.length + G.nons.length)).find? (fun (i : Nat) => deadB G st ((i : Int) + 1)) = some i := by
    rw [List.find?_range_eq_some]
    exact ⟨h, by simpa using hi, fun j hj => by rw [hb j hj]; rfl⟩
  rw [this]
theorem dead_none {G : GramD} {st : Int} (hz : checkOf G st = 0) (hb : ∀ j : Nat, j < G.terms.length + G.nons.length → deadB G st ((j : Int) + 1) = false) : deadOf G st = (0, 0) := by
  unfold deadOf
  rw [if_pos hz]
  have : (List.range (G.terms.length + G.nons.length)).find? (fun (i : Nat) => deadB G st ((i : Int) + 1)) = none := by
    rw [List.find?_eq_none]
    intro j hj
    rw [hb j (List.mem_range.1 hj)]
    simp
  rw [this]

/-- a boxed grammar and two sets -/
structure GTwo (w wr : World) (F : Nat → Prop) (A1 : Option Addr) (c1 : Nat) (A2 : Option Addr) (c2 : Nat) (A3 : Option Addr) (c3 T N R : Nat) (st : Int) (G : GramD) (b : Nat) (S : Nat → Prop) (b' : Nat) (S' : Nat → Prop) (n : Nat) (f f' : Nat → Bool) : Prop where
  g : GBox wr F w.heap.size A1 c1 A2 c2 A3 c3 T N R st G
  s : IsSet wr b S n f
  s' : IsSet wr b' S' n f'
  b : Below w.heap.size w wr
theorem GTwo.below {w wr wr' : World} {F : Nat → Prop} {A1 : Option Addr} {c1 : Nat} {A2 : Option Addr} {c2 : Nat} {A3 : Option Addr} {c3 T N R : Nat} {st : Int} {G : GramD} {b : Nat} {S : Nat → Prop} {b' : Nat} {S' : Nat → Prop} {n : Nat} {f f' : Nat → Bool}
    (h : GTwo w wr F A1 c1 A2 c2 A3 c3 T N R st G b S b' S' n f f') (hb : Below wr.heap.size wr wr') : GTwo w wr' F A1 c1 A2 c2 A3 c3 T N R st G b S b' S' n f f' :=
  ⟨h.g.below hb, h.s.keep hb, h.s'.keep hb, h.b.trans (hb.mono h.b.size)⟩

set_option maxRecDepth 100000 in
set_option maxHeartbeats 4000000 in
theorem live_check {w : World} {F : Nat → Prop} {vt vn vr : Value} {G : GramD} (h : IsGram w F vt vn vr G) (st : Int) :
    Calls Try.prog 51 #[GV vt vn vr st] w (Quiet w (.tuple #[.int .i64 (deadOf G st).1, .int .i64 (deadOf G st).2])) := by
  obtain ⟨A1, c1, A2, c2, A3, c3, rfl, rfl, rfl, -⟩ := h.slices
  obtain ⟨w1, hw1⟩ : ∃ w1, w1 = w.alloc (.cells #[.slice A1 G.terms.length c1, .slice A2 G.nons.length c2, .slice A3 G.rules.length c3, .int .i64 st] 25) := ⟨_, rfl⟩
  have g1 := GBox.new h st
  have b1 : Below w.heap.size w w1 := by rw [hw1]; exact (Below.refl _ w).alloc (Nat.le_refl _) _
  rw [← hw1] at g1
  have cc := gram_check g1.gram st
  obtain ⟨q0, q1, q2, q3⟩ := g1.cells
  by_cases hz : checkOf G st = 0
  · rw [hz] at cc
    have hk := Kn.of_check hz
    have cp := fun wr (g : GBox wr F w.heap.size A1 c1 A2 c2 A3 c3 G.terms.length G.nons.length G.rules.length st G) => live_productive g.gram st st hk
    have cr := fun wr (g : GBox wr F w.heap.size A1 c1 A2 c2 A3 c3 G.terms.length G.nons.length G.rules.length st G) => live_reached g.gram st hk
    have ct := fun wr (g : GBox wr F w.heap.size A1 c1 A2 c2 A3 c3 G.terms.length G.nons.length G.rules.length st G) => gram_top g.gram st
    rw [show topOf G = G.terms.length + G.nons.length from rfl] at ct
    have hds := fun (i : Nat) => dead_some (G := G) hz (i := i)
    have hdn := dead_none (G := G) hz
    have hdb : ∀ s, deadB G st s = (!hasI (G.terms.length + G.nons.length + 1) (rchB G st) s || (isNon G s && !hasI (G.terms.length + G.nons.length + 1) (prdB G) s)) := fun s => rfl
    have t0 := hk.t
    have t1 := hk.n
    generalize hT : G.terms.length = T at *
    generalize hN : G.nons.length = N at *
    generalize hR : G.rules.length = R at *
    generalize hn : T + N + 1 = n at *
    rw [hw1] at cc q0 q1 q2 q3
    clear h
    have Xcc := hide cc
    have Xcp := hide cp
    have Xcr := hide cr
    have Xct := hide ct
    have Xhds := hide hds
    have Xhdn := hide hdn
    have Xhdb := hide hdb
    have Xg1 := hide g1
    have Xb1 := hide b1
    have XhT := hide hT
    have XhN := hide hN
    have XhR := hide hR
    have Xhn := hide hn
    have Xhz := hide hz
    have Xhk := hide hk
    clear cc cp cr ct hds hdn hdb g1 b1 hT hN hR hn hz hk
    go_enter Try.func51, Try.ntmps51
    go_wp2_with fail
    with_reducible refine Xcc.out.mono ?_
    rintro e w2 ⟨rfl, b2⟩
    rw [← hw1] at b2
    have g2 := Xg1.out.below b2
    have hb2 := Xb1.out.trans (b2.mono Xb1.out.size)
    clear hw1 q0 q1 q2 q3 Xcc Xg1 Xb1 b2
    obtain ⟨q0, q1, q2, q3⟩ := g2.cells
    have g2d : GBox w2.drew F w.heap.size A1 c1 A2 c2 A3 c3 T N R st G := g2.drewN 1
    have hb2d : Below w.heap.size w w2.drew := below_drewN hb2 1
    clear hb2
    have Xhb2d := hide hb2d
    clear hb2d
    go_wp2_with fail
    go_region_held3 (fun w' => w'.cell? ⟨w.heap.size, 0, none⟩ = some (.slice A1 T c1) ∧ w'.cell? ⟨w.heap.size, 1, none⟩ = some (.slice A2 N c2) ∧ w'.cell? ⟨w.heap.size, 2, none⟩ = some (.slice A3 R c3) ∧ w'.cell? ⟨w.heap.size, 3, none⟩ = some (.int .i64 st))
      (first | go_keep | assumption)
      (first
        | (go_at_call 103; (with_reducible refine (Xcp.out _ g2d).mono ?_); rintro e w3 ⟨bp, Sp, rfl, hsp, hSp, b3⟩; have g3 := g2d.below b3; have k3 := g3.cells)
        | (go_at_call 104; (with_reducible refine (Xcr.out _ g3).mono ?_); rintro e w4 ⟨br, Sr, rfl, hsr, hSr, b4⟩; have g4 := g3.below b4; have k4 := g4.cells))
    have hb3 : Below w.heap.size w w3 := Xhb2d.out.trans (b3.mono Xhb2d.out.size)
    have t4 : GTwo w w4 F A1 c1 A2 c2 A3 c3 T N R st G bp Sp br Sr n (prdB G) (rchB G st) := ⟨g4, hsp.keep b4, hsr, hb3.trans (b4.mono hb3.size)⟩
    clear g2 g2d g3 g4 hsp hsr hSp hSr b3 b4 hb3 k3 k4 Xhb2d Xcp Xcr
    obtain ⟨q0, q1, q2, q3⟩ := t4.g.cells
    have Xt4 := hide t4
    clear t4
    go_wp2_with fail
    with_reducible refine (Xct.out _ Xt4.out.g).mono ?_
    rintro e w5 ⟨rfl, b5⟩
    have t5 := Xt4.out.below b5
    clear Xt4 b5 q0 q1 q2 q3 Xct
    have Xt5 := hide t5
    clear t5
    go_wp2_with fail
    go_loopw [20] (fun i wr => ∃ k : Nat, k ≤ T + N ∧ i = .int .i64 k ∧ (∀ j : Nat, j < k → deadB G st ((j : Int) + 1) = false) ∧ GTwo w wr F A1 c1 A2 c2 A3 c3 T N R st G bp Sp br Sr n (prdB G) (rchB G st)) (fun i _ => (T + N) - (intOf i).toNat)
    case atStart => exact ⟨0, Nat.zero_le _, rfl, fun j hj => absurd hj (by omega), Xt5.out⟩
    case round =>
      clear Xt5
      obtain ⟨k, hk, rfl, hb, t⟩ := hrel
      by_cases hlt : k < T + N
      · have hlt' : (k : Int) < (T : Int) + (N : Int) := by omega
        have ch := set_has t.s' ((k : Int) + 1)
        have hdk := Xhdb.out ((k : Int) + 1)
        have hfd := Xhds.out k hlt
        obtain ⟨q0, q1, q2, q3⟩ := t.g.cells
        have finb : deadB G st ((k : Int) + 1) = false → ∀ j : Nat, j < k + 1 → deadB G st ((j : Int) + 1) = false := fun h j hj => by
          by_cases e : j = k
          · subst e; exact h
          · exact hb j (by omega)
        cases h1 : hasI n (rchB G st) ((k : Int) + 1) with
        | false =>
          rw [h1] at ch
          have hfin := hfd (by rw [hdk, h1]; rfl) hb
          rw [hfin]
          have Xt := hide t
          have Xhb := hide hb
          have Xch := hide ch
          have Xhdk := hide hdk
          have Xhfd := hide hfd
          have Xh1 := hide h1
          have Xhfin := hide hfin
          have Xfinb := hide finb
          clear t hb ch hdk hfd h1 hfin finb
          go_wp2_with fail
          with_reducible refine Xch.out.mono ?_
          rintro e w6 ⟨rfl, rfl⟩
          go_wp2_with fail
          go_ret2
          exact ⟨rfl, Xt.out.b⟩
        | true =>
          rw [h1] at ch
          have cn := gram_non t.g.gram st ((k : Int) + 1)
          cases h2 : isNon G ((k : Int) + 1) with
          | false =>
            rw [h2] at cn
            have finb := finb (by rw [hdk, h1, h2]; rfl)
            have Xt := hide t
            have Xhb := hide hb
            have Xch := hide ch
            have Xhdk := hide hdk
            have Xhfd := hide hfd
            have Xh1 := hide h1
            have Xfinb := hide finb
            have Xcn := hide cn
            have Xh2 := hide h2
            clear t hb ch hdk hfd h1 finb cn h2
            go_wp2_with fail
            with_reducible refine Xch.out.mono ?_
            rintro e w6 ⟨rfl, rfl⟩
            go_wp2_with fail
            with_reducible refine Xcn.out.mono ?_
            rintro e w7 ⟨rfl, b7⟩
            have t7 := Xt.out.below b7
            clear b7 q0 q1 q2 q3
            have Xt7 := hide t7
            clear t7
            go_wp2_with fail
            go_roundw
            case rel => exact ⟨k + 1, by omega, by go_num, Xfinb.out, Xt7.out⟩
            case measure => simp [intOf]; omega
          | true =>
            rw [h2] at cn
            cases h3 : hasI n (prdB G) ((k : Int) + 1) with
            | true =>
              have finb := finb (by rw [hdk, h1, h2, h3]; rfl)
              have Xt := hide t
              have Xhb := hide hb
              have Xch := hide ch
              have Xhdk := hide hdk
              have Xhfd := hide hfd
              have Xh1 := hide h1
              have Xfinb := hide finb
              have Xcn := hide cn
              have Xh2 := hide h2
              have Xh3 := hide h3
              clear t hb ch hdk hfd h1 finb cn h2 h3
              go_wp2_with fail
              with_reducible refine Xch.out.mono ?_
              rintro e w6 ⟨rfl, rfl⟩
              go_wp2_with fail
              with_reducible refine Xcn.out.mono ?_
              rintro e w7 ⟨rfl, b7⟩
              have t7 := Xt.out.below b7
              have ch2 := set_has t7.s ((k : Int) + 1)
              rw [Xh3.out] at ch2
              clear b7 q0 q1 q2 q3
              have Xt7 := hide t7
              have Xch2 := hide ch2
              clear t7 ch2
              go_wp2_with fail
              with_reducible refine Xch2.out.mono ?_
              rintro e w8 ⟨rfl, rfl⟩
              go_wp2_with fail
              go_roundw
              case rel => exact ⟨k + 1, by omega, by go_num, Xfinb.out, Xt7.out⟩
              case measure => simp [intOf]; omega
            | false =>
              have hfin := hfd (by rw [hdk, h1, h2, h3]; rfl) hb
              rw [hfin]
              have Xt := hide t
              have Xhb := hide hb
              have Xch := hide ch
              have Xhdk := hide hdk
              have Xhfd := hide hfd
              have Xh1 := hide h1
              have Xfinb := hide finb
              have Xcn := hide cn
              have Xh2 := hide h2
              have Xh3 := hide h3
              have Xhfin := hide hfin
              clear t hb ch hdk hfd h1 finb cn h2 h3 hfin
              go_wp2_with fail
              with_reducible refine Xch.out.mono ?_
              rintro e w6 ⟨rfl, rfl⟩
              go_wp2_with fail
              with_reducible refine Xcn.out.mono ?_
              rintro e w7 ⟨rfl, b7⟩
              have t7 := Xt.out.below b7
              have ch2 := set_has t7.s ((k : Int) + 1)
              rw [Xh3.out] at ch2
              clear b7 q0 q1 q2 q3
              have Xt7 := hide t7
              have Xch2 := hide ch2
              clear t7 ch2
              go_wp2_with fail
              with_reducible refine Xch2.out.mono ?_
              rintro e w8 ⟨rfl, rfl⟩
              go_wp2_with fail
              go_ret2
              exact ⟨rfl, Xt7.out.b⟩
      · have hlt' : ¬ (k : Int) < (T : Int) + (N : Int) := by omega
        have hfin := Xhdn.out (fun j hj => hb j (by omega))
        have Xt := hide t
        have Xhb := hide hb
        have Xhfin := hide hfin
        clear t hb hfin
        go_wp2_with fail
        go_ret2
        rw [Xhfin.out]
        exact ⟨rfl, Xt.out.b⟩
  · have hdd : deadOf G st = (checkOf G st, 0) := by unfold deadOf; rw [if_neg hz]
    rw [hdd]
    simp only
    have hcn : (checkOf G st != 0) = true := by simpa using hz
    generalize checkOf G st = ck at *
    generalize hT : G.terms.length = T at *
    generalize hN : G.nons.length = N at *
    generalize hR : G.rules.length = R at *
    rw [hw1] at cc q0 q1 q2 q3
    clear h
    have Xcc := hide cc
    have Xg1 := hide g1
    have Xb1 := hide b1
    have XhT := hide hT
    have XhN := hide hN
    have XhR := hide hR
    have Xhz := hide hz
    have Xhdd := hide hdd
    clear cc g1 b1 hT hN hR hz hdd
    go_enter Try.func51, Try.ntmps51
    go_wp2_with fail
    with_reducible refine Xcc.out.mono ?_
    rintro e w2 ⟨rfl, b2⟩
    rw [← hw1] at b2
    have hb2 := Xb1.out.trans (b2.mono Xb1.out.size)
    clear hw1 q0 q1 q2 q3 Xcc Xg1 b2
    have Xhb2 := hide hb2
    clear hb2
    go_wp2_with fail
    go_ret2
    exact ⟨rfl, Xhb2.out⟩
end Go.Proofs.Ytejjaabkbkkjlaa

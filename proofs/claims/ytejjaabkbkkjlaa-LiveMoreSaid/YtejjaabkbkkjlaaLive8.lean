/- live.Trim. -/
import Derived.Test.YtejjaabkbkkjlaaLive7
namespace Go.Proofs.Ytejjaabkbkkjlaa
set_option linter.unusedVariables false
open Go.RowKit
attribute [local irreducible] wpStill wpOne wpPh

def noGram : GramD := ⟨[], [], [], 0⟩
/-- the rules all of whose nonterminals are productive -/
noncomputable def fineG (G : GramD) (st : Int) : GramD := ⟨G.terms, G.nons, G.rules.filter (fun r => fineB G (hasI (G.terms.length + G.nons.length + 1) (prdB G)) r.2), st⟩
noncomputable def trimOf (G : GramD) (st : Int) : GramD × Bool :=
  if checkOf G st = 0 then (if hasI (G.terms.length + G.nons.length + 1) (prdB G) st = true then (onlyG (fineG G st) st (rchL (fineG G st) st), true) else (noGram, false)) else (noGram, false)
theorem Kn.fine {G : GramD} {st : Int} (h : Kn G st) : Kn (fineG G st) st :=
  ⟨h.t, h.n, Nat.le_trans (List.length_filter_le _ _) h.r, h.st, fun r hr => h.k r (List.mem_filter.1 hr).1⟩
theorem noGram_is (w : World) (F : Nat → Prop) (hF : ∀ k, F k → k < w.heap.size) : IsGram w F (.slice none 0 0) (.slice none 0 0) (.slice none 0 0) noGram :=
  ⟨Rd.nil _ _ _, Rd.nil _ _ _, ⟨none, 0, rfl, Nat.le_refl _, by decide, fun h => absurd h (by decide)⟩, hF, by decide, ⟨fun s hs => absurd hs (by simp [noGram]), fun s hs => absurd hs (by simp [noGram])⟩, ⟨fun s hs => absurd hs (by simp [noGram]), fun s hs => absurd hs (by simp [noGram])⟩, fun r hr => absurd hr (by simp [noGram])⟩

def TrimPost (w : World) (p : GramD × Bool) (e : Ending) (w' : World) : Prop := ∃ vt vn vr, e = .returned (.tuple #[GV vt vn vr p.1.start, .bool p.2]) ∧ IsGram w' (fun k => w.heap.size ≤ k ∧ k < w'.heap.size) vt vn vr p.1 ∧ Below w.heap.size w w'

structure TSt (w wr : World) (F : Nat → Prop) (A1 : Option Addr) (c1 : Nat) (A2 : Option Addr) (c2 : Nat) (A3 : Option Addr) (c3 T N R : Nat) (st : Int) (G : GramD) (b : Nat) (S : Nat → Prop) (n : Nat) (f : Nat → Bool) (hb base : Nat) (Ah : Option Addr) (ch : Nat) (rvs : List ((Int × List Int) × Value)) : Prop where
  t : GSet w wr F w.heap.size A1 c1 A2 c2 A3 c3 T N R st G b S n f
  zero : Blk wr (w.heap.size + 1) 25 #[.slice none 0 0, .slice none 0 0, .slice none 0 0, .int .i64 0]
  h : Blk wr hb 25 #[.slice A1 T c1, .slice A2 N c2, .slice Ah rvs.length ch, .int .i64 st]
  o : wr.ownsRow base 30 2 (.slice Ah rvs.length ch) rvs.length (flatR rvs)
  q : ∀ p ∈ rvs, RdI wr F p.2 p.1.2
  hF : ∀ k, F k → k < w.heap.size
  hS : ∀ k, S k → w.heap.size + 1 < k ∧ k < hb
  hz : w.heap.size + 1 < hb ∧ hb < base ∧ base ≤ wr.heap.size
section
variable {w wr wr' w2 : World} {F : Nat → Prop} {A1 : Option Addr} {c1 : Nat} {A2 : Option Addr} {c2 : Nat} {A3 : Option Addr} {c3 T N R : Nat} {st : Int} {G : GramD} {b : Nat} {S : Nat → Prop} {n : Nat} {f : Nat → Bool} {hb base : Nat} {Ah : Option Addr} {ch : Nat} {rvs : List ((Int × List Int) × Value)}
theorem TSt.below (h : TSt w wr F A1 c1 A2 c2 A3 c3 T N R st G b S n f hb base Ah ch rvs) (hw : Below wr.heap.size wr wr') : TSt w wr' F A1 c1 A2 c2 A3 c3 T N R st G b S n f hb base Ah ch rvs :=
  ⟨h.t.below hw, h.zero.below hw h.zero.lt, h.h.below hw h.h.lt, own_below' h.o hw, fun p hp => (h.q p hp).below hw (fun k hk => by have h1 := h.hF k hk; have h2 := h.hz; omega), h.hF, h.hS, ⟨h.hz.1, h.hz.2.1, Nat.le_trans h.hz.2.2 hw.size⟩⟩
theorem TSt.push {l : Int} {x : List Int} {v : Value} {A' : Option Addr} {c' : Nat} (h : TSt w wr F A1 c1 A2 c2 A3 c3 T N R st G b S n f hb base Ah ch rvs) (hg : wr.grownBy w2 (Value.slice Ah rvs.length ch).ownBlock) (ho : w2.ownsRow base 30 2 (.slice A' (rvs.length + 1) c') (rvs.length + 1) (flatR rvs ++ [.int .i64 l, v])) (hv : RdI wr F v x) :
    (w2.cell? ⟨hb, 2, none⟩ = some (.slice Ah rvs.length ch) ∧ w2.frozen? ⟨hb, 2, none⟩ = false) ∧ TSt w (w2.setCell ⟨hb, 2, none⟩ (.slice A' (rvs.length + 1) c')) F A1 c1 A2 c2 A3 c3 T N R st G b S n f hb base A' c' (rvs ++ [((l, x), v)]) := by
  have hz := h.hz
  have t2 : Touch (fun k => base ≤ k) wr w2 := (Touch.refl _ wr).grown hg (fun k hk _ => (h.o.lt k hk).1)
  have ht : Touch (fun k => k = hb ∨ base ≤ k) wr (w2.setCell ⟨hb, 2, none⟩ (.slice A' (rvs.length + 1) c')) := (t2.mono (fun k _ hk => .inr hk)).setCell (fun _ => .inl rfl) _
  have k2 := h.h.touch t2 (by omega)
  refine ⟨⟨(k2.cell 2).trans rfl, k2.frozen 2⟩, ⟨h.t.g.touch ht (fun k hk hk' => by have := h.hF k hk; omega) (by omega), h.t.s.touch ht (fun k hk hk' => by have := h.hS k hk; omega), h.t.b.trans (ht.below (fun k hk _ hk' => by omega) h.t.b.size)⟩, h.zero.touch ht (by omega), ?_, ?_, fun p hp => ?_, h.hF, h.hS, ⟨h.hz.1, h.hz.2.1, Nat.le_trans h.hz.2.2 ht.size⟩⟩
  · rw [List.length_append]
    exact k2.put 2 _
  · rw [List.length_append]
    unfold flatR
    rw [List.flatMap_append]
    exact own_far ho (fun e => by have := (ho.lt _ e).1; simp at this; omega) _
  · rcases List.mem_append.1 hp with hp | hp
    · exact (h.q p hp).touch ht (fun k hk hk' => by have := h.hF k hk; omega)
    · simp only [List.mem_singleton] at hp
      subst hp
      exact hv.touch ht (fun k hk hk' => by have := h.hF k hk; omega)
theorem TSt.gram {H : GramD} (h : TSt w wr F A1 c1 A2 c2 A3 c3 T N R st G b S n f hb base Ah ch rvs) (hT : H.terms = G.terms) (hN : H.nons = G.nons) (hR : H.rules = rvs.map (·.1)) (hsub : ∀ r ∈ H.rules, r ∈ G.rules) (hlen : rvs.length ≤ 4398046511103) :
    IsGram wr (fun k => k < wr.heap.size) (.slice A1 T c1) (.slice A2 N c2) (.slice Ah rvs.length ch) H := by
  have g := h.t.g.gram
  have hz := h.hz
  refine ⟨by rw [hT]; exact Rd.mono g.terms (fun k hk => g.lt k hk), by rw [hN]; exact Rd.mono g.nons (fun k hk => g.lt k hk), by rw [hR]; exact RdR.of_rd rvs ((Rd.of_own h.o).mono fun k hk => (h.o.lt k hk).2) (fun p hp => (h.q p hp).mono fun k hk => g.lt k hk), fun k hk => hk, ?_, by rw [hT, hN]; exact g.sizes, by rw [hT, hN]; exact g.reach, fun r hr => g.wfs r (hsub r hr)⟩
  rw [hT, hN, hR, List.length_map]
  exact ⟨g.small.1, g.small.2.1, hlen⟩
end

def fsq (G : GramD) (p : Int → Bool) (q : Nat) : List (Int × List Int) := (G.rules.take q).filter (fun r => fineB G p r.2)
theorem fsq_yes {G : GramD} {p : Int → Bool} {q : Nat} {r : Int × List Int} (hx : G.rules[q]? = some r) (h : fineB G p r.2 = true) : fsq G p (q + 1) = fsq G p q ++ [r] := by
  unfold fsq
  rw [List.take_add_one, hx]
  simp [List.filter_append, h]
theorem fsq_no {G : GramD} {p : Int → Bool} {q : Nat} {r : Int × List Int} (hx : G.rules[q]? = some r) (h : fineB G p r.2 = false) : fsq G p (q + 1) = fsq G p q := by
  unfold fsq
  rw [List.take_add_one, hx]
  simp [List.filter_append, h]
theorem fsq_len (G : GramD) (p : Int → Bool) (q : Nat) : (fsq G p q).length ≤ q := by
  unfold fsq
  exact Nat.le_trans (List.length_filter_le _ _) (by simp; omega)
theorem rchB_zero {G : GramD} {st : Int} (h : Kn G st) : rchB G st 0 = false := by
  cases e : rchB G st 0 with
  | false => rfl
  | true => have := h.rch (toB_iff.1 e); omega

set_option maxRecDepth 100000 in
set_option maxHeartbeats 8000000 in
theorem live_trim {w : World} {F : Nat → Prop} {vt vn vr : Value} {G : GramD} (h : IsGram w F vt vn vr G) (st : Int) :
    Calls Try.prog 53 #[GV vt vn vr st] w (TrimPost w (trimOf G st)) := by
  obtain ⟨A1, c1, A2, c2, A3, c3, rfl, rfl, rfl, -⟩ := h.slices
  obtain ⟨w1, hw1⟩ : ∃ w1, w1 = w.alloc (.cells #[.slice A1 G.terms.length c1, .slice A2 G.nons.length c2, .slice A3 G.rules.length c3, .int .i64 st] 25) := ⟨_, rfl⟩
  have g1 := GBox.new h st
  have b1 : Below w.heap.size w w1 := by rw [hw1]; exact (Below.refl _ w).alloc (Nat.le_refl _) _
  have z1 : w1.heap.size = w.heap.size + 1 := by rw [hw1]; simp
  rw [← hw1] at g1
  obtain ⟨w2, hw2⟩ : ∃ w2, w2 = w1.alloc (.cells #[.slice none 0 0, .slice none 0 0, .slice none 0 0, .int .i64 0] 25) := ⟨_, rfl⟩
  have b2 : Below w1.heap.size w1 w2 := by rw [hw2]; exact (Below.refl _ _).alloc (Nat.le_refl _) _
  have k2 : Blk w2 (w.heap.size + 1) 25 #[.slice none 0 0, .slice none 0 0, .slice none 0 0, .int .i64 0] := by rw [hw2, ← z1]; exact Blk.new _ _ _
  have z2 : w2.heap.size = w.heap.size + 2 := by rw [hw2]; simp; omega
  have g2 := g1.below b2
  have hb2 : Below w.heap.size w w2 := b1.trans (b2.mono b1.size)
  have cc := gram_check g2.gram st
  have hF := h.lt
  have htr : trimOf G st = if checkOf G st = 0 then (if hasI (G.terms.length + G.nons.length + 1) (prdB G) st = true then (onlyG (fineG G st) st (rchL (fineG G st) st), true) else (noGram, false)) else (noGram, false) := rfl
  obtain ⟨q0, q1, q2, q3⟩ := g2.cells
  rw [hw2, hw1] at cc q0 q1 q2 q3
  clear h g1 b1 b2
  by_cases hz : checkOf G st = 0
  · rw [if_pos hz] at htr
    rw [hz] at cc
    have hk := Kn.of_check hz
    have cp := fun wr (g : GBox wr F w.heap.size A1 c1 A2 c2 A3 c3 G.terms.length G.nons.length G.rules.length st G) => live_productive g.gram st st hk
    have hkf := hk.fine
    have hfin : ∀ q, q = G.rules.length → (fineG G st).rules = fsq G (hasI (G.terms.length + G.nons.length + 1) (prdB G)) q := fun q e => by
      subst e; unfold fineG fsq; rw [List.take_length]
    have hsub : ∀ r ∈ (fineG G st).rules, r ∈ G.rules := fun r hr => (List.mem_filter.1 hr).1
    have cr := fun W (v1 v2 v3 : Value) (F2 : Nat → Prop) (h : IsGram W F2 v1 v2 v3 (fineG G st)) => live_reached h st hkf
    have co := fun W (v1 v2 v3 : Value) (F2 : Nat → Prop) (h : IsGram W F2 v1 v2 v3 (fineG G st)) (b : Nat) (S : Nat → Prop) hs => live_only (b := b) (S := S) (f := rchB (fineG G st) st) h st hkf hs (rchB_zero hkf)
    have hfT : (fineG G st).terms = G.terms := rfl
    have hfN : (fineG G st).nons = G.nons := rfl
    have hrl : rchL (fineG G st) st = (below (rchB (fineG G st) st) (G.terms.length + G.nons.length + 1)).map (fun n : Nat => (n : Int)) := rfl
    have t2 := hk.r
    rw [hfT, hfN] at cr co
    generalize hT : G.terms.length = T at *
    generalize hN : G.nons.length = N at *
    generalize hR : G.rules.length = R at *
    generalize hn : T + N + 1 = n at *
    by_cases hst : hasI n (prdB G) st = true
    · rw [if_pos hst, hrl] at htr
      rw [htr]
      have Xcc := hide cc
      have Xcp := hide cp
      have Xg2 := hide g2
      have Xk2 := hide k2
      have Xhb2 := hide hb2
      have XhF := hide hF
      have XhT := hide hT
      have XhN := hide hN
      have XhR := hide hR
      have Xhn := hide hn
      have Xhz := hide hz
      have Xhk := hide hk
      have Xhkf := hide hkf
      have Xhfin := hide hfin
      have Xhsub := hide hsub
      have Xcr := hide cr
      have Xco := hide co
      have XhfT := hide hfT
      have XhfN := hide hfN
      have Xhst := hide hst
      have Xz1 := hide z1
      have Xz2 := hide z2
      have Xhrl := hide hrl
      clear cc cp g2 k2 hb2 hF hT hN hR hn hz hk hkf hfin hsub cr co hfT hfN hst z1 z2 hrl
      clear htr
      go_enter Try.func53, Try.ntmps53
      go_wp2_with fail
      with_reducible refine Xcc.out.mono ?_
      rintro e w3 ⟨rfl, b3⟩
      rw [← hw1, ← hw2] at b3
      have g3 := Xg2.out.below b3
      have k3 := Xk2.out.below b3 Xk2.out.lt
      have hb3 := Xhb2.out.trans (b3.mono Xhb2.out.size)
      have z3 : w.heap.size + 2 ≤ w3.heap.size := by have := b3.size; have := Xz2.out; omega
      clear hw1 hw2 q0 q1 q2 q3 Xcc Xg2 Xk2 Xhb2 b3
      obtain ⟨q0, q1, q2, q3⟩ := g3.cells
      have Xg3 := hide g3
      have Xk3 := hide k3
      have Xhb3 := hide hb3
      clear g3 k3 hb3
      go_wp2_with fail
      with_reducible refine (Xcp.out _ Xg3.out).mono ?_
      rintro e w4 ⟨b, S, rfl, hs4, hS4, b4⟩
      have g4 := Xg3.out.below b4
      have k4 := Xk3.out.below b4 Xk3.out.lt
      have hb4 := Xhb3.out.trans (b4.mono Xhb3.out.size)
      have z4 : w.heap.size + 2 ≤ w4.heap.size := by have := b4.size; omega
      have hSl := hs4.lt
      have hS : ∀ k, S k → w.heap.size + 1 < k ∧ k < w4.heap.size := fun k hk => ⟨by have := hS4 k hk; omega, hSl k hk⟩
      have ch := set_has hs4 st
      rw [Xhst.out] at ch
      clear q0 q1 q2 q3 Xcp b4 hS4 hSl
      obtain ⟨q0, q1, q2, q3⟩ := g4.cells
      have kh : Blk (w4.alloc (.cells #[.slice A1 T c1, .slice A2 N c2, .slice none 0 0, .int .i64 st] 25)) w4.heap.size 25 #[.slice A1 T c1, .slice A2 N c2, .slice none 0 0, .int .i64 st] := Blk.new _ _ _
      have bh : Below w4.heap.size w4 (w4.alloc (.cells #[.slice A1 T c1, .slice A2 N c2, .slice none 0 0, .int .i64 st] 25)) := (Below.refl _ _).alloc (Nat.le_refl _) _
      have t5 : TSt w (w4.alloc (.cells #[.slice A1 T c1, .slice A2 N c2, .slice none 0 0, .int .i64 st] 25)) F A1 c1 A2 c2 A3 c3 T N R st G b S n (prdB G) w4.heap.size (w4.heap.size + 1) none 0 [] :=
        ⟨⟨g4.below bh, hs4.keep bh, hb4.trans (bh.mono hb4.size)⟩, k4.below bh k4.lt, kh, World.ownsRow_nil _ _ _ _, fun p hp => absurd hp (by simp), XhF.out, hS, ⟨by omega, by omega, by simp⟩⟩
      have r0 := g4.rs
      have r1 := g4.rc
      have r2 := g4.c3m
      have hbz4 := g4.blk.lt
      clear kh bh z3 z4
      have Xg4 := hide g4
      have Xk4 := hide k4
      have Xhb4 := hide hb4
      have Xhs4 := hide hs4
      have XhS := hide hS
      have Xt5 := hide t5
      have Xch := hide ch
      clear g4 k4 hb4 hs4 hS t5 ch
      go_wp2_with fail
      with_reducible refine Xch.out.mono ?_
      rintro e w5 ⟨rfl, rfl⟩
      go_wp2_with fail
      generalize hhb : w4.heap.size = hb at *
      generalize hb + 1 = base at *
      clear q0 q1 q2 q3 Xg3 Xk3 Xhb3
      go_loopw [30] (fun i wr => ∃ (q : Nat) (Ah : Option Addr) (ch : Nat) (rvs : List ((Int × List Int) × Value)), q ≤ R ∧ i = .int .i64 q ∧ TSt w wr F A1 c1 A2 c2 A3 c3 T N R st G b S n (prdB G) hb base Ah ch rvs ∧ rvs.map (·.1) = fsq G (hasI n (prdB G)) q) (fun i _ => R - (intOf i).toNat)
      case atStart => exact ⟨0, none, 0, [], Nat.zero_le _, rfl, Xt5.out, rfl⟩
      case round =>
        clear Xt5 Xg4 Xk4 Xhb4 Xhs4 XhS Xch hhb
        obtain ⟨q, Ah, ch, rvs, hq, rfl, t, hrv⟩ := hrel
        have hrl : rvs.length ≤ q := by
          have := congrArg List.length hrv
          have h2 := fsq_len G (hasI n (prdB G)) q
          rw [List.length_map] at this
          omega
        by_cases hqR : q < R
        · obtain ⟨bb, off, l0, xs, Ax, nx, cx, rfl, hbl, hx, h0, h1, hr, hnx, hnc, hcm⟩ := t.t.g.rule hqR
          have hq' : (q : Int) < (R : Int) := by omega
          obtain ⟨wa, hwa⟩ : ∃ wa, wa = wr.alloc (.cells #[.int .i64 l0, .slice Ax nx cx] 30) := ⟨_, rfl⟩
          have ba : Below wr.heap.size wr wa := by rw [hwa]; exact (Below.refl _ _).alloc (Nat.le_refl _) _
          have ka : Blk wa wr.heap.size 30 #[.int .i64 l0, .slice Ax nx cx] := by rw [hwa]; exact Blk.new _ _ _
          have ta := t.below ba
          have hra := hr.below ba t.t.g.gram.lt
          have cf := live_fine ta.t.g.gram st ta.t.s l0 hra ta.t.g.gram.lt
          obtain ⟨s0, s1, s2, s3⟩ := t.t.g.cells
          have hbz := t.t.g.blk.lt
          rw [hwa] at cf
          clear hnx
          cases hf : fineB G (hasI n (prdB G)) xs with
          | false =>
            rw [hf] at cf
            have hrv2 : rvs.map (·.1) = fsq G (hasI n (prdB G)) (q + 1) := by rw [fsq_no hx hf]; exact hrv
            have Xt := hide t
            have Xta := hide ta
            have Xka := hide ka
            have Xhra := hide hra
            have Xhr := hide hr
            have Xhx := hide hx
            have Xhrv := hide hrv
            have Xhrv2 := hide hrv2
            have Xcf := hide cf
            have Xhf := hide hf
            clear t ta ka hra hr hx hrv hrv2 cf hf
            go_wp2_with fail
            with_reducible refine Xcf.out.mono ?_
            rintro e w6 ⟨rfl, b6⟩
            rw [← hwa] at b6
            have t6 := Xta.out.below b6
            clear hwa h0 h1 b6 s0 s1 s2 s3
            have Xt6 := hide t6
            clear t6
            go_wp2_with fail
            go_roundw
            case rel => exact ⟨q + 1, Ah, ch, rvs, by omega, by go_num, Xt6.out, Xhrv2.out⟩
            case measure => simp [intOf]; omega
          | true =>
            rw [hf] at cf
            have hrv2 : (rvs ++ [((l0, xs), Value.slice Ax nx cx)]).map (·.1) = fsq G (hasI n (prdB G)) (q + 1) := by rw [fsq_yes hx hf, List.map_append, hrv]; rfl
            have Xt := hide t
            have Xta := hide ta
            have Xka := hide ka
            have Xhra := hide hra
            have Xhr := hide hr
            have Xhx := hide hx
            have Xhrv := hide hrv
            have Xhrv2 := hide hrv2
            have Xcf := hide cf
            have Xhf := hide hf
            clear t ta ka hra hr hx hrv hrv2 cf hf
            go_wp2_with fail
            with_reducible refine Xcf.out.mono ?_
            rintro e w6 ⟨rfl, b6⟩
            rw [← hwa] at b6
            have t6 := Xta.out.below b6
            have k6 := Xka.out.below b6 Xka.out.lt
            have hra6 := (show RdI wa F _ xs from Xhra.out).below b6 Xta.out.t.g.gram.lt
            clear hwa h0 h1 b6 s0 s1 s2 s3 Xta Xka Xhra Xcf
            have b7 : Below w6.heap.size w6 (w6.alloc (.cells #[.int .i64 l0, .slice Ax nx cx] 30)) := (Below.refl _ _).alloc (Nat.le_refl _) _
            have t7 := t6.below b7
            have hr7 := t7.o
            have r7 : Rd (w6.alloc (.cells #[.int .i64 l0, .slice Ax nx cx] 30)) (fun _ => True) (.slice (some ⟨w6.heap.size, 0, none⟩) 1 1) 2 [.int .i64 l0, .slice Ax nx cx] := Rd.one (w := w6) (e := 30) [.int .i64 l0, .slice Ax nx cx] 2 rfl
            have hra7 := hra6.below b7 t6.t.g.gram.lt
            have e0 := (k6.cell 0).trans rfl
            have e1 := (k6.cell 1).trans rfl
            have v2 := (t6.h.cell 2).trans rfl
            have hz7 := t7.hz.2.2
            have hgb := t6.h.lt
            have fin := fun (A' : Option Addr) (c' : Nat) (w2 : World) hg ho => t7.push (l := l0) (x := xs) (w2 := w2) (A' := A') (c' := c') hg ho hra7
            have hlen : (rvs ++ [((l0, xs), Value.slice Ax nx cx)]).length = rvs.length + 1 := by simp
            have Xfin := hide fin
            have Xt6 := hide t6
            have Xt7 := hide t7
            have Xk6 := hide k6
            have Xhra6 := hide hra6
            have Xhra7 := hide hra7
            have Xb7 := hide b7
            have Xhlen := hide hlen
            clear fin t6 t7 k6 hra6 hra7 b7 hlen
            go_wp2_with (at_builtin; refine wp_append _ rfl (.tmp 39) (.tmp 41) _ rfl Try.elemRule base _ rvs.length (flatR rvs) rfl hr7 _ _ [.int .i64 l0, .slice Ax nx cx] 1 rfl rfl r7 (by simp [Value.oneCell']) (by unfold maxLen; omega) (by omega) hz7 ?_)
            intro A8 c8 w8 h8 g8 _
            obtain ⟨⟨x1, x2⟩, t8⟩ := Xfin.out A8 c8 w8 g8 h8
            clear Xfin h8 g8 e0 e1 v2 hr7 r7
            have Xt8 := hide t8
            clear t8
            go_wp2_with fail
            go_roundw
            case rel => exact ⟨q + 1, A8, c8, _, by omega, by go_num, Xt8.out, Xhrv2.out⟩
            case measure => simp [intOf]; omega
        · have hqe : q = R := by omega
          have hH : (fineG G st).rules = rvs.map (·.1) := by rw [hrv]; exact Xhfin.out q hqe
          have hlt' : ¬ (q : Int) < (R : Int) := by omega
          subst hqe
          have tg := fun wr (t : TSt w wr F A1 c1 A2 c2 A3 c3 T N q st G b S n (prdB G) hb base Ah ch rvs) => t.gram (H := fineG G st) XhfT.out XhfN.out hH Xhsub.out (by omega)
          have td := t.below ((Below.refl _ wr).drew)
          have c9 := Xcr.out _ _ _ _ _ (tg _ td)
          have v0 := (t.h.cell 0).trans rfl
          have v1 := (t.h.cell 1).trans rfl
          have v2 := (t.h.cell 2).trans rfl
          have v3 := (t.h.cell 3).trans rfl
          have Xt := hide t
          have Xtd := hide td
          have Xtg := hide tg
          have XhH := hide hH
          have Xhrv := hide hrv
          clear t td tg hH hrv
          have hbz := Xt.out.t.g.blk.lt
          go_wp2_with fail
          refine region_late (fun w' => w'.cell? ⟨hb, 0, none⟩ = some (.slice A1 T c1) ∧ w'.cell? ⟨hb, 1, none⟩ = some (.slice A2 N c2) ∧ w'.cell? ⟨hb, 2, none⟩ = some (.slice Ah rvs.length ch) ∧ w'.cell? ⟨hb, 3, none⟩ = some (.int .i64 st)) 2 3 (by kernel_rfl) (by kernel_rfl) ⟨v0, v1, v2, v3⟩ ?_
          simp only [List.take_succ_cons, List.take_zero, List.drop_succ_cons, List.drop_zero]
          refine wpHeld_cons ?_ (by rfl) (fun wS hwS => ?_) ?_
          rotate_left
          · (try dsimp only at hwS)
            go_simp
            all_goals with_reducible rfl
          simp only [Act.put, List.setIfInBounds_toArray, List.set_cons_zero, List.set_cons_succ]
          refine wpHeld_cons ?_ (by rfl) (fun wS hwS => ?_) ?_
          rotate_left
          · (try dsimp only at hwS)
            go_simp
            all_goals with_reducible rfl
          simp only [Act.put, List.setIfInBounds_toArray, List.set_cons_zero, List.set_cons_succ]
          refine wpHeld_nil ?_
          refine wpMid_cons ?_
          go_wp2_with fail
          with_reducible refine c9.mono ?_
          rintro e w9 ⟨b9, S9, rfl, hs9, hS9, b9'⟩
          have t9 := Xtd.out.below b9'
          have hz9 := t9.hz
          have co9 := Xco.out _ _ _ _ _ (Xtg.out _ t9) b9 S9 hs9
          have x0 := (t9.h.cell 0).trans rfl
          have x1 := (t9.h.cell 1).trans rfl
          have x2 := (t9.h.cell 2).trans rfl
          have x3 := (t9.h.cell 3).trans rfl
          clear v0 v1 v2 v3 c9 hs9 hS9 b9' Xtd Xt
          have Xt9 := hide t9
          have Xco9 := hide co9
          clear t9 co9
          go_wp2_with fail
          refine ⟨⟨x0, x1, x2, x3⟩, wpMid_nil ?_⟩
          go_wp2_with fail
          with_reducible refine Xco9.out.mono ?_
          rintro e w10 ⟨ut, un, ur, rfl, hg10, b10⟩
          obtain ⟨a1, d1, a2, d2, a3, d3, eu1, eu2, eu3, -⟩ := hg10.slices
          have t10 := Xt9.out.below b10
          have k10 := t10.zero
          have f0 := k10.frozen 0
          have f1 := k10.frozen 1
          have f2 := k10.frozen 2
          have f3 := k10.frozen 3
          have y0 := (k10.cell 0).trans rfl
          have y1 := (k10.cell 1).trans rfl
          have y2 := (k10.cell 2).trans rfl
          have y3 := (k10.cell 3).trans rfl
          have hb10 := t10.t.b
          generalize hOG : (onlyG (fineG G st) st ((below (rchB (fineG G st) st) n).map (fun n : Nat => (n : Int)))) = OG at *
          clear x0 x1 x2 x3 Xco9 b10 t10
          generalize OG.terms.length = n1 at eu1
          generalize OG.nons.length = n2 at eu2
          generalize OG.rules.length = n3 at eu3
          subst eu1 eu2 eu3
          have Xhg10 := hide hg10
          have Xk10 := hide k10
          have Xhb10 := hide hb10
          have XhOG := hide hOG
          clear hg10 k10 hb10 hOG
          go_wp2_with fail
          refine NoPanic.normal ?_
          go_wp2_with fail
          have kF : Blk ((((w10.setCell ⟨w.heap.size + 1, 0, none⟩ (.slice a1 n1 d1)).setCell ⟨w.heap.size + 1, 1, none⟩ (.slice a2 n2 d2)).setCell ⟨w.heap.size + 1, 2, none⟩ (.slice a3 n3 d3)).setCell ⟨w.heap.size + 1, 3, none⟩ (.int .i64 OG.start)) (w.heap.size + 1) 25 #[(.slice a1 n1 d1), (.slice a2 n2 d2), (.slice a3 n3 d3), .int .i64 OG.start] := (((Xk10.out.put 0 _).put 1 _).put 2 _).put 3 _
          have tF : Touch (fun k => k = w.heap.size + 1) w10 ((((w10.setCell ⟨w.heap.size + 1, 0, none⟩ (.slice a1 n1 d1)).setCell ⟨w.heap.size + 1, 1, none⟩ (.slice a2 n2 d2)).setCell ⟨w.heap.size + 1, 2, none⟩ (.slice a3 n3 d3)).setCell ⟨w.heap.size + 1, 3, none⟩ (.int .i64 OG.start)) := ((((Touch.refl (fun k => k = w.heap.size + 1) w10).setCell (fun _ => rfl) _).setCell (fun _ => rfl) _).setCell (fun _ => rfl) _).setCell (fun _ => rfl) _
          generalize ((((w10.setCell ⟨w.heap.size + 1, 0, none⟩ (.slice a1 n1 d1)).setCell ⟨w.heap.size + 1, 1, none⟩ (.slice a2 n2 d2)).setCell ⟨w.heap.size + 1, 2, none⟩ (.slice a3 n3 d3)).setCell ⟨w.heap.size + 1, 3, none⟩ (.int .i64 OG.start)) = wF at *
          have fin : TrimPost w (OG, true) (.returned (.tuple #[GV (.slice a1 n1 d1) (.slice a2 n2 d2) (.slice a3 n3 d3) OG.start, .bool true])) wF := by
            have gF := Xhg10.out.touch tF (fun k hk e => by have := hk.1; omega)
            exact ⟨_, _, _, rfl, gF.mono (fun k hk => ⟨by omega, by have := tF.size; omega⟩) (fun k hk => hk.2), Xhb10.out.trans (tF.below (fun k hk _ e => by omega) Xhb10.out.size)⟩
          have c0 := (kF.cell 0).trans rfl
          have c1' := (kF.cell 1).trans rfl
          have c2' := (kF.cell 2).trans rfl
          have c3' := (kF.cell 3).trans rfl
          clear f0 f1 f2 f3 y0 y1 y2 y3
          have Xfin := hide fin
          have XkF := hide kF
          have XtF := hide tF
          clear fin kF tF
          refine bodyPost_ret (v := .tuple #[.agg #[(.slice a1 n1 d1), (.slice a2 n2 d2), (.slice a3 n3 d3), .int .i64 OG.start], .bool true]) (by simp [results, Try.results53, go_sem, c0, c1', c2', c3']) rfl ?_
          rw [XhOG.out]
          exact Xfin.out
    · have hst' : hasI n (prdB G) st = false := by
        cases e : hasI n (prdB G) st with
        | false => rfl
        | true => exact absurd e hst
      rw [if_neg hst] at htr
      rw [htr]
      have Xcc := hide cc
      have Xcp := hide cp
      have Xg2 := hide g2
      have Xk2 := hide k2
      have Xhb2 := hide hb2
      have XhF := hide hF
      have XhT := hide hT
      have XhN := hide hN
      have XhR := hide hR
      have Xhn := hide hn
      have Xhz := hide hz
      have Xhk := hide hk
      have Xhkf := hide hkf
      have Xhfin := hide hfin
      have Xhsub := hide hsub
      have Xcr := hide cr
      have Xco := hide co
      have XhfT := hide hfT
      have XhfN := hide hfN
      have Xhst := hide hst
      have Xz1 := hide z1
      have Xz2 := hide z2
      have Xhrl := hide hrl
      have Xhst' := hide hst'
      clear cc cp g2 k2 hb2 hF hT hN hR hn hz hk hkf hfin hsub cr co hfT hfN hst z1 z2 hrl hst'
      clear htr
      go_enter Try.func53, Try.ntmps53
      go_wp2_with fail
      with_reducible refine Xcc.out.mono ?_
      rintro e w3 ⟨rfl, b3⟩
      rw [← hw1, ← hw2] at b3
      have g3 := Xg2.out.below b3
      have k3 := Xk2.out.below b3 Xk2.out.lt
      have hb3 := Xhb2.out.trans (b3.mono Xhb2.out.size)
      clear hw1 hw2 q0 q1 q2 q3 Xcc Xg2 Xk2 Xhb2 b3
      obtain ⟨q0, q1, q2, q3⟩ := g3.cells
      have Xg3 := hide g3
      have Xk3 := hide k3
      have Xhb3 := hide hb3
      clear g3 k3 hb3
      go_wp2_with fail
      with_reducible refine (Xcp.out _ Xg3.out).mono ?_
      rintro e w4 ⟨b, S, rfl, hs4, hS4, b4⟩
      have g4 := Xg3.out.below b4
      have k2 := Xk3.out.below b4 Xk3.out.lt
      have hb2 := Xhb3.out.trans (b4.mono Xhb3.out.size)
      have ch := set_has hs4 st
      rw [Xhst'.out] at ch
      clear q0 q1 q2 q3 Xcp b4 hS4
      obtain ⟨q0, q1, q2, q3⟩ := g4.cells
      have f0 := k2.frozen 0
      have f1 := k2.frozen 1
      have f2 := k2.frozen 2
      have f3 := k2.frozen 3
      have y0 := (k2.cell 0).trans rfl
      have y1 := (k2.cell 1).trans rfl
      have y2 := (k2.cell 2).trans rfl
      have y3 := (k2.cell 3).trans rfl
      have Xg4 := hide g4
      have Xk2 := hide k2
      have Xhb2 := hide hb2
      have Xhs4 := hide hs4
      have Xch := hide ch
      clear g4 k2 hb2 hs4 ch
      go_wp2_with fail
      with_reducible refine Xch.out.mono ?_
      rintro e w5 ⟨rfl, rfl⟩
      go_wp2_with fail
      clear f0 f1 f2 f3 y0 y1 y2 y3 q0 q1 q2 q3
      have kF : Blk ((((w4.setCell ⟨w.heap.size + 1, 0, none⟩ (.slice none 0 0)).setCell ⟨w.heap.size + 1, 1, none⟩ (.slice none 0 0)).setCell ⟨w.heap.size + 1, 2, none⟩ (.slice none 0 0)).setCell ⟨w.heap.size + 1, 3, none⟩ (.int .i64 0)) (w.heap.size + 1) 25 #[.slice none 0 0, .slice none 0 0, .slice none 0 0, .int .i64 0] := (((Xk2.out.put 0 _).put 1 _).put 2 _).put 3 _
      have bF : Below w.heap.size w ((((w4.setCell ⟨w.heap.size + 1, 0, none⟩ (.slice none 0 0)).setCell ⟨w.heap.size + 1, 1, none⟩ (.slice none 0 0)).setCell ⟨w.heap.size + 1, 2, none⟩ (.slice none 0 0)).setCell ⟨w.heap.size + 1, 3, none⟩ (.int .i64 0)) := (((Xhb2.out.setCell (by simp) _).setCell (by simp) _).setCell (by simp) _).setCell (by simp) _
      generalize ((((w4.setCell ⟨w.heap.size + 1, 0, none⟩ (.slice none 0 0)).setCell ⟨w.heap.size + 1, 1, none⟩ (.slice none 0 0)).setCell ⟨w.heap.size + 1, 2, none⟩ (.slice none 0 0)).setCell ⟨w.heap.size + 1, 3, none⟩ (.int .i64 0)) = wF at *
      have fin : TrimPost w (noGram, false) (.returned (.tuple #[GV (.slice none 0 0) (.slice none 0 0) (.slice none 0 0) 0, .bool false])) wF := ⟨_, _, _, rfl, noGram_is _ _ (fun k hk => hk.2), bF⟩
      have y0 := (kF.cell 0).trans rfl
      have y1 := (kF.cell 1).trans rfl
      have y2 := (kF.cell 2).trans rfl
      have y3 := (kF.cell 3).trans rfl
      have Xfin := hide fin
      have XkF := hide kF
      have XbF := hide bF
      clear fin kF bF
      refine bodyPost_ret (v := .tuple #[.agg #[.slice none 0 0, .slice none 0 0, .slice none 0 0, .int .i64 0], .bool false]) (by simp [results, Try.results53, go_sem, y0, y1, y2, y3]) rfl ?_
      exact Xfin.out
  · rw [if_neg hz] at htr
    rw [htr]
    have hcn : (checkOf G st != 0) = true := by simpa using hz
    generalize checkOf G st = ck at *
    generalize hT : G.terms.length = T at *
    generalize hN : G.nons.length = N at *
    generalize hR : G.rules.length = R at *
    have Xcc := hide cc
    have Xg2 := hide g2
    have Xk2 := hide k2
    have Xhb2 := hide hb2
    have XhF := hide hF
    have XhT := hide hT
    have XhN := hide hN
    have XhR := hide hR
    have Xhz := hide hz
    have Xz1 := hide z1
    have Xz2 := hide z2
    clear cc g2 k2 hb2 hF hT hN hR hz z1 z2
    clear htr
    go_enter Try.func53, Try.ntmps53
    go_wp2_with fail
    with_reducible refine Xcc.out.mono ?_
    rintro e w3 ⟨rfl, b3⟩
    rw [← hw1, ← hw2] at b3
    have k2 := Xk2.out.below b3 Xk2.out.lt
    have hb2 := Xhb2.out.trans (b3.mono Xhb2.out.size)
    clear hw1 hw2 q0 q1 q2 q3 Xcc Xg2 Xk2 Xhb2 b3
    have f0 := k2.frozen 0
    have f1 := k2.frozen 1
    have f2 := k2.frozen 2
    have f3 := k2.frozen 3
    have y0 := (k2.cell 0).trans rfl
    have y1 := (k2.cell 1).trans rfl
    have y2 := (k2.cell 2).trans rfl
    have y3 := (k2.cell 3).trans rfl
    have Xk2 := hide k2
    have Xhb2 := hide hb2
    clear k2 hb2
    go_wp2_with fail
    clear f0 f1 f2 f3 y0 y1 y2 y3
    have kF : Blk ((((w3.setCell ⟨w.heap.size + 1, 0, none⟩ (.slice none 0 0)).setCell ⟨w.heap.size + 1, 1, none⟩ (.slice none 0 0)).setCell ⟨w.heap.size + 1, 2, none⟩ (.slice none 0 0)).setCell ⟨w.heap.size + 1, 3, none⟩ (.int .i64 0)) (w.heap.size + 1) 25 #[.slice none 0 0, .slice none 0 0, .slice none 0 0, .int .i64 0] := (((Xk2.out.put 0 _).put 1 _).put 2 _).put 3 _
    have bF : Below w.heap.size w ((((w3.setCell ⟨w.heap.size + 1, 0, none⟩ (.slice none 0 0)).setCell ⟨w.heap.size + 1, 1, none⟩ (.slice none 0 0)).setCell ⟨w.heap.size + 1, 2, none⟩ (.slice none 0 0)).setCell ⟨w.heap.size + 1, 3, none⟩ (.int .i64 0)) := (((Xhb2.out.setCell (by simp) _).setCell (by simp) _).setCell (by simp) _).setCell (by simp) _
    generalize ((((w3.setCell ⟨w.heap.size + 1, 0, none⟩ (.slice none 0 0)).setCell ⟨w.heap.size + 1, 1, none⟩ (.slice none 0 0)).setCell ⟨w.heap.size + 1, 2, none⟩ (.slice none 0 0)).setCell ⟨w.heap.size + 1, 3, none⟩ (.int .i64 0)) = wF at *
    have fin : TrimPost w (noGram, false) (.returned (.tuple #[GV (.slice none 0 0) (.slice none 0 0) (.slice none 0 0) 0, .bool false])) wF := ⟨_, _, _, rfl, noGram_is _ _ (fun k hk => hk.2), bF⟩
    have y0 := (kF.cell 0).trans rfl
    have y1 := (kF.cell 1).trans rfl
    have y2 := (kF.cell 2).trans rfl
    have y3 := (kF.cell 3).trans rfl
    have Xfin := hide fin
    have XkF := hide kF
    have XbF := hide bF
    clear fin kF bF
    refine bodyPost_ret (v := .tuple #[.agg #[.slice none 0 0, .slice none 0 0, .slice none 0 0, .int .i64 0], .bool false]) (by simp [results, Try.results53, go_sem, y0, y1, y2, y3]) rfl ?_
    exact Xfin.out
end Go.Proofs.Ytejjaabkbkkjlaa

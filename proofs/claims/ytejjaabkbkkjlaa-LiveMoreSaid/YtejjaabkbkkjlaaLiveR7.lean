/- conchref09: Trim. -/
import Derived.Test.YtejjaabkbkkjlaaLiveR6
namespace Go.Proofs.Ytejjaabkbkkjlaa
set_option linter.unusedVariables false
open Go.RowKit
attribute [local irreducible] wpStill wpOne wpPh

structure TStL (w wr : World) (F : Nat → Prop) (A1 : Option Addr) (c1 : Nat) (A2 : Option Addr) (c2 : Nat) (A3 : Option Addr) (c3 T N R : Nat) (st : Int) (G : GramD) (vp : Value) (lp : List Int) (hb base : Nat) (Ah : Option Addr) (ch : Nat) (rvs : List ((Int × List Int) × Value)) : Prop where
  t : GBox wr F w.heap.size A1 c1 A2 c2 A3 c3 T N R st G
  b : Below w.heap.size w wr
  p : RdI wr (fun k => w.heap.size + 1 < k ∧ k < hb) vp lp
  zero : Blk wr (w.heap.size + 1) 25 #[.slice none 0 0, .slice none 0 0, .slice none 0 0, .int .i64 0]
  h : Blk wr hb 25 #[.slice A1 T c1, .slice A2 N c2, .slice Ah rvs.length ch, .int .i64 st]
  o : wr.ownsRow base 30 2 (.slice Ah rvs.length ch) rvs.length (flatR rvs)
  q : ∀ p ∈ rvs, RdI wr F p.2 p.1.2
  hF : ∀ k, F k → k < w.heap.size
  hz : w.heap.size + 1 < hb ∧ hb < base ∧ base ≤ wr.heap.size
section
variable {w wr wr' w2 : World} {F : Nat → Prop} {A1 : Option Addr} {c1 : Nat} {A2 : Option Addr} {c2 : Nat} {A3 : Option Addr} {c3 T N R : Nat} {st : Int} {G : GramD} {vp : Value} {lp : List Int} {hb base : Nat} {Ah : Option Addr} {ch : Nat} {rvs : List ((Int × List Int) × Value)}
theorem TStL.below (h : TStL w wr F A1 c1 A2 c2 A3 c3 T N R st G vp lp hb base Ah ch rvs) (hw : Below wr.heap.size wr wr') : TStL w wr' F A1 c1 A2 c2 A3 c3 T N R st G vp lp hb base Ah ch rvs :=
  ⟨h.t.below hw, h.b.trans (hw.mono h.b.size), h.p.below hw (fun k hk => by have := h.hz; omega), h.zero.below hw h.zero.lt, h.h.below hw h.h.lt, own_below' h.o hw, fun p hp => (h.q p hp).below hw (fun k hk => by have h1 := h.hF k hk; have h2 := h.hz; omega), h.hF, ⟨h.hz.1, h.hz.2.1, Nat.le_trans h.hz.2.2 hw.size⟩⟩
theorem TStL.push {l : Int} {x : List Int} {v : Value} {A' : Option Addr} {c' : Nat} (h : TStL w wr F A1 c1 A2 c2 A3 c3 T N R st G vp lp hb base Ah ch rvs) (hg : wr.grownBy w2 (Value.slice Ah rvs.length ch).ownBlock) (ho : w2.ownsRow base 30 2 (.slice A' (rvs.length + 1) c') (rvs.length + 1) (flatR rvs ++ [.int .i64 l, v])) (hv : RdI wr F v x) :
    (w2.cell? ⟨hb, 2, none⟩ = some (.slice Ah rvs.length ch) ∧ w2.frozen? ⟨hb, 2, none⟩ = false) ∧ TStL w (w2.setCell ⟨hb, 2, none⟩ (.slice A' (rvs.length + 1) c')) F A1 c1 A2 c2 A3 c3 T N R st G vp lp hb base A' c' (rvs ++ [((l, x), v)]) := by
  have hz := h.hz
  have t2 : Touch (fun k => base ≤ k) wr w2 := (Touch.refl _ wr).grown hg (fun k hk _ => (h.o.lt k hk).1)
  have ht : Touch (fun k => k = hb ∨ base ≤ k) wr (w2.setCell ⟨hb, 2, none⟩ (.slice A' (rvs.length + 1) c')) := (t2.mono (fun k _ hk => .inr hk)).setCell (fun _ => .inl rfl) _
  have k2 := h.h.touch t2 (by omega)
  refine ⟨⟨(k2.cell 2).trans rfl, k2.frozen 2⟩, h.t.touch ht (fun k hk hk' => by have := h.hF k hk; omega) (by omega), h.b.trans (ht.below (fun k hk _ hk' => by omega) h.b.size), h.p.touch ht (fun k hk hk' => by omega), h.zero.touch ht (by omega), ?_, ?_, fun p hp => ?_, h.hF, ⟨h.hz.1, h.hz.2.1, Nat.le_trans h.hz.2.2 ht.size⟩⟩
  · rw [List.length_append]
    exact k2.put 2 _
  · rw [List.length_append]
    unfold flatR
    rw [List.flatMap_append]
    exact own_far ho (fun e => by have := (ho.lt _ e).1; simp at this; omega) _
  · rcases List.mem_append.1 hp with hp | hp
    · exact (h.q p hp).touch ht (fun k hk hk' => by have := h.hF k hk; omega)
    · simp only [List.mem_singleton] at hp
      subst hp
      exact hv.touch ht (fun k hk hk' => by have := h.hF k hk; omega)
theorem TStL.gram {H : GramD} (h : TStL w wr F A1 c1 A2 c2 A3 c3 T N R st G vp lp hb base Ah ch rvs) (hT : H.terms = G.terms) (hN : H.nons = G.nons) (hR : H.rules = rvs.map (·.1)) (hsub : ∀ r ∈ H.rules, r ∈ G.rules) (hlen : rvs.length ≤ 4398046511103) :
    IsGram wr (fun k => k < wr.heap.size) (.slice A1 T c1) (.slice A2 N c2) (.slice Ah rvs.length ch) H := by
  have g := h.t.gram
  have hz := h.hz
  refine ⟨by rw [hT]; exact Rd.mono g.terms (fun k hk => g.lt k hk), by rw [hN]; exact Rd.mono g.nons (fun k hk => g.lt k hk), by rw [hR]; exact RdR.of_rd rvs ((Rd.of_own h.o).mono fun k hk => (h.o.lt k hk).2) (fun p hp => (h.q p hp).mono fun k hk => g.lt k hk), fun k hk => hk, ?_, by rw [hT, hN]; exact g.sizes, by rw [hT, hN]; exact g.reach, fun r hr => g.wfs r (hsub r hr)⟩
  rw [hT, hN, hR, List.length_map]
  exact ⟨g.small.1, g.small.2.1, hlen⟩
end


set_option maxRecDepth 100000 in
set_option maxHeartbeats 8000000 in
theorem ref_trim {w : World} {F : Nat → Prop} {vt vn vr : Value} {G : GramD} (h : IsGram w F vt vn vr G) (st : Int) :
    Calls Try.prog 54 #[GV vt vn vr st] w (TrimPost w (trimOf G st)) := by
  obtain ⟨A1, c1, A2, c2, A3, c3, rfl, rfl, rfl, -⟩ := h.slices
  obtain ⟨w1, hw1⟩ : ∃ w1, w1 = w.alloc (.cells #[.slice A1 G.terms.length c1, .slice A2 G.nons.length c2, .slice A3 G.rules.length c3, .int .i64 st] 25) := ⟨_, rfl⟩
  have g1 := GBox.new h st
  have b1 : Below w.heap.size w w1 := by rw [hw1]; exact (Below.refl _ w).alloc (Nat.le_refl _) _
  have z1 : w1.heap.size = w.heap.size + 1 := by rw [hw1]; simp
  rw [← hw1] at g1
  obtain ⟨w2, hw2⟩ : ∃ w2, w2 = w1.alloc (.cells #[.slice none 0 0, .slice none 0 0, .slice none 0 0, .int .i64 0] 25) := ⟨_, rfl⟩
  have b2 : Below w1.heap.size w1 w2 := by rw [hw2]; exact (Below.refl _ _).alloc (Nat.le_refl _) _
  have k2 : Blk w2 (w.heap.size + 1) 25 #[.slice none 0 0, .slice none 0 0, .slice none 0 0, .int .i64 0] := by rw [hw2, ← z1]; exact Blk.new _ _ _
  have z2 : w2.heap.size = w.heap.size + 2 := by rw [hw2]; simp; omega
  have g2 := g1.below b2
  have hb2 : Below w.heap.size w w2 := b1.trans (b2.mono b1.size)
  have cp := ref_productives g2.gram st
  have cc := fun wr (g : GBox wr F w.heap.size A1 c1 A2 c2 A3 c3 G.terms.length G.nons.length G.rules.length st G) => ref_check g.gram st
  have hF := h.lt
  have hpd : productiveOf G st = if checkOf G st = 0 then prdL G else [] := rfl
  have hdec : ∀ s, decide (s ∈ prdL G) = hasI (G.terms.length + G.nons.length + 1) (prdB G) s := fun s => by rw [Bool.eq_iff_iff, decide_eq_true_eq]; exact mem_below
  have htr : trimOf G st = if checkOf G st = 0 then (if hasI (G.terms.length + G.nons.length + 1) (prdB G) st = true then (onlyG (fineG G st) st (rchL (fineG G st) st), true) else (noGram, false)) else (noGram, false) := rfl
  obtain ⟨q0, q1, q2, q3⟩ := g2.cells
  rw [hw2, hw1] at cp q0 q1 q2 q3
  clear h g1 b1 b2
  by_cases hz : checkOf G st = 0
  · rw [if_pos hz] at htr hpd
    rw [hz] at cc
    rw [hpd] at cp
    have hk := Kn.of_check hz
    have hkf := hk.fine
    have hfe : ∀ xs, fineB G (memB (prdL G)) xs = fineB G (hasI (G.terms.length + G.nons.length + 1) (prdB G)) xs := fun xs => by
      unfold fineB memB
      congr 1
      funext x
      rw [hdec]
    have hcl : ∀ r ∈ G.rules, fineB G (memB (prdL G)) r.2 = true → r.1 ∈ prdL G := fun r hr hf => by
      have h1 : PrdG G r.1 := prd_sound (p := memB (prdL G)) (fun s hs => by
        have h2 : s ∈ prdL G := of_decide_eq_true hs
        have h3 := mem_below.1 h2
        unfold hasI at h3
        simp only [Bool.and_eq_true, decide_eq_true_eq] at h3
        have h4 := toB_iff.1 h3.2
        rwa [show ((s.toNat : Nat) : Int) = s by omega] at h4) hr hf
      have h2 := hk.prd h1
      rw [isNon_iff] at h2
      refine mem_below.2 ?_
      unfold hasI
      simp only [Bool.and_eq_true, decide_eq_true_eq]
      exact ⟨⟨by omega, by omega⟩, toB_iff.2 (by rw [show ((r.1.toNat : Nat) : Int) = r.1 by omega]; exact h1)⟩
    have hfin : ∀ q, q = G.rules.length → (fineG G st).rules = fsq G (hasI (G.terms.length + G.nons.length + 1) (prdB G)) q := fun q e => by
      subst e; unfold fineG fsq; rw [List.take_length]
    have hsub : ∀ r ∈ (fineG G st).rules, r ∈ G.rules := fun r hr => (List.mem_filter.1 hr).1
    have cr := fun W (v1 v2 v3 : Value) (F2 : Nat → Prop) (h : IsGram W F2 v1 v2 v3 (fineG G st)) => ref_from h st hkf
    have hlr : ∀ x ∈ rchL (fineG G st) st, 1 ≤ x ∧ x ≤ ((fineG G st).terms.length : Int) + (fineG G st).nons.length := fun x hx => by
      have h3 := mem_below.1 hx
      unfold hasI at h3
      simp only [Bool.and_eq_true, decide_eq_true_eq] at h3
      have h4 := toB_iff.1 h3.2
      rw [show ((x.toNat : Nat) : Int) = x by omega] at h4
      exact hkf.rch h4
    have hll : (rchL (fineG G st) st).length ≤ 241 := by
      unfold rchL
      rw [List.length_map]
      have h1 := below_le (rchB (fineG G st) st) ((fineG G st).terms.length + (fineG G st).nons.length + 1)
      have h2 := hkf.t
      have h3 := hkf.n
      omega
    have co := fun W (v1 v2 v3 : Value) (F2 : Nat → Prop) (h : IsGram W F2 v1 v2 v3 (fineG G st)) (F1 : Nat → Prop) (lv : Value) (hl : RdI W F1 lv (rchL (fineG G st) st)) hF1 => ref_only h st hkf hl hF1 hlr hll
    have hfT : (fineG G st).terms = G.terms := rfl
    have hfN : (fineG G st).nons = G.nons := rfl
    have t2 := hk.r
    generalize hT : G.terms.length = T at *
    generalize hN : G.nons.length = N at *
    generalize hR : G.rules.length = R at *
    generalize hn : T + N + 1 = n at *
    by_cases hst : hasI n (prdB G) st = true
    · rw [if_pos hst] at htr
      rw [htr]
      have hst' : decide (st ∈ prdL G) = true := (hdec st).trans hst
      generalize prdL G = pl at *
      generalize hOG : (onlyG (fineG G st) st (rchL (fineG G st) st)) = OG at *
      generalize rchL (fineG G st) st = rl at *
      have Xcc := hide cc
      have Xcp := hide cp
      have Xg2 := hide g2
      have Xk2 := hide k2
      have Xhb2 := hide hb2
      have XhF := hide hF
      have XhT := hide hT
      have XhN := hide hN
      have XhR := hide hR
      have Xhn := hide hn
      have Xhz := hide hz
      have Xhk := hide hk
      have Xhkf := hide hkf
      have Xhfin := hide hfin
      have Xhsub := hide hsub
      have Xcr := hide cr
      have Xco := hide co
      have XhfT := hide hfT
      have XhfN := hide hfN
      have Xhst := hide hst
      have Xhst' := hide hst'
      have Xz1 := hide z1
      have Xz2 := hide z2
      have Xhfe := hide hfe
      have Xhcl := hide hcl
      have Xhlr := hide hlr
      have Xhll := hide hll
      have Xhpd := hide hpd
      have Xhdec := hide hdec
      have XhOG := hide hOG
      clear cc cp g2 k2 hb2 hF hT hN hR hn hz hk hkf hfin hsub cr co hfT hfN hst hst' z1 z2 hfe hcl hlr hll hpd hdec hOG
      clear htr
      go_enter Try.func54, Try.ntmps54
      go_wp2_with fail
      with_reducible refine Xcp.out.mono ?_
      rintro e w3 ⟨Ap, np, cp', rfl, hrp, b3⟩
      rw [← hw1, ← hw2] at b3 hrp
      have g3 := Xg2.out.below b3
      have k3 := Xk2.out.below b3 Xk2.out.lt
      have hb3 := Xhb2.out.trans (b3.mono Xhb2.out.size)
      have z3 : w.heap.size + 2 ≤ w3.heap.size := by have := b3.size; have := Xz2.out; omega
      have hrp3 := hrp.mono (F' := fun k => w.heap.size + 1 < k ∧ k < w3.heap.size) (fun k hk => ⟨by have h1 := hk.1; have h2 := Xz2.out; omega, hk.2⟩)
      clear hw1 hw2 q0 q1 q2 q3 Xcp Xg2 Xk2 Xhb2 b3 hrp
      obtain ⟨q0, q1, q2, q3⟩ := g3.cells
      have Xg3 := hide g3
      have Xk3 := hide k3
      have Xhb3 := hide hb3
      have Xhrp3 := hide hrp3
      clear g3 k3 hb3 hrp3
      go_wp2_with fail
      with_reducible refine (Xcc.out _ Xg3.out).mono ?_
      rintro e w4 ⟨rfl, b4⟩
      have g4 := Xg3.out.below b4
      have k4 := Xk3.out.below b4 Xk3.out.lt
      have hb4 := Xhb3.out.trans (b4.mono Xhb3.out.size)
      have z4 : w.heap.size + 2 ≤ w4.heap.size := by have := b4.size; omega
      have hrp4 := ((show RdI w3 _ (.slice Ap np cp') pl from Xhrp3.out).below b4 (fun k hk => hk.2)).mono (F' := fun k => w.heap.size + 1 < k ∧ k < w4.heap.size) (fun k hk => ⟨hk.1, Nat.lt_of_lt_of_le hk.2 b4.size⟩)
      have ch := ref_has hrp4 st
      rw [Xhst'.out] at ch
      clear q0 q1 q2 q3 Xcc b4
      obtain ⟨q0, q1, q2, q3⟩ := g4.cells
      have kh : Blk (w4.alloc (.cells #[.slice A1 T c1, .slice A2 N c2, .slice none 0 0, .int .i64 st] 25)) w4.heap.size 25 #[.slice A1 T c1, .slice A2 N c2, .slice none 0 0, .int .i64 st] := Blk.new _ _ _
      have bh : Below w4.heap.size w4 (w4.alloc (.cells #[.slice A1 T c1, .slice A2 N c2, .slice none 0 0, .int .i64 st] 25)) := (Below.refl _ _).alloc (Nat.le_refl _) _
      have t5 : TStL w (w4.alloc (.cells #[.slice A1 T c1, .slice A2 N c2, .slice none 0 0, .int .i64 st] 25)) F A1 c1 A2 c2 A3 c3 T N R st G (.slice Ap np cp') pl w4.heap.size (w4.heap.size + 1) none 0 [] :=
        ⟨g4.below bh, hb4.trans (bh.mono hb4.size), hrp4.below bh (fun k hk => hk.2), k4.below bh k4.lt, kh, World.ownsRow_nil _ _ _ _, fun p hp => absurd hp (by simp), XhF.out, ⟨by omega, by omega, by simp⟩⟩
      have r0 := g4.rs
      have r1 := g4.rc
      have r2 := g4.c3m
      have hbz4 := g4.blk.lt
      clear kh bh z3 z4
      have Xg4 := hide g4
      have Xk4 := hide k4
      have Xhb4 := hide hb4
      have Xhrp4 := hide hrp4
      have Xt5 := hide t5
      have Xch := hide ch
      clear g4 k4 hb4 hrp4 t5 ch
      go_wp2_with fail
      with_reducible refine Xch.out.mono ?_
      rintro e w5 ⟨rfl, rfl⟩
      go_wp2_with fail
      generalize hhb : w4.heap.size = hb at *
      generalize hb + 1 = base at *
      clear q0 q1 q2 q3 Xg3 Xk3 Xhb3 Xhrp3
      go_loopw [6] (fun i wr => ∃ (q : Nat) (Ah : Option Addr) (ch : Nat) (rvs : List ((Int × List Int) × Value)), q ≤ R ∧ i = .int .i64 q ∧ TStL w wr F A1 c1 A2 c2 A3 c3 T N R st G (.slice Ap np cp') pl hb base Ah ch rvs ∧ rvs.map (·.1) = fsq G (hasI n (prdB G)) q) (fun i _ => R - (intOf i).toNat)
      case atStart => exact ⟨0, none, 0, [], Nat.zero_le _, rfl, Xt5.out, rfl⟩
      case round =>
        clear Xt5 Xg4 Xk4 Xhb4 Xhrp4 Xch hhb
        obtain ⟨q, Ah, ch, rvs, hq, rfl, t, hrv⟩ := hrel
        obtain ⟨q0, q1, q2, q3⟩ := t.t.cells
        have hrl : rvs.length ≤ q := by
          have := congrArg List.length hrv
          have h2 := fsq_len G (hasI n (prdB G)) q
          rw [List.length_map] at this
          omega
        by_cases hqR : q < R
        · obtain ⟨bb, off, l0, xs, Ax, nx, cx, rfl, hbl, hx, h0, h1, hr, hnx, hnc, hcm⟩ := t.t.rule hqR
          have hq' : (q : Int) < (R : Int) := by omega
          have td := t.below ((Below.refl _ wr).drew)
          have hrd := (show RdI wr.drew F (.slice Ax nx cx) xs from hr)
          have cf := ref_fine td.t.gram st td.p (fun k hk => by have := td.hz; omega) l0 hrd td.t.gram.lt
          have hfq := Xhfe.out xs
          clear hnx
          cases hf : fineB G (memB pl) xs with
          | false =>
            rw [hf] at cf hfq
            have hrv2 : rvs.map (·.1) = fsq G (hasI n (prdB G)) (q + 1) := by rw [fsq_no hx hfq.symm]; exact hrv
            have Xt := hide t
            have Xtd := hide td
            have Xhrd := hide hrd
            have Xhr := hide hr
            have Xhx := hide hx
            have Xhrv := hide hrv
            have Xhrv2 := hide hrv2
            have Xcf := hide cf
            have Xhf := hide hf
            have Xhfq := hide hfq
            clear t td hrd hr hx hrv hrv2 cf hf hfq
            go_wp2_with fail
            refine region_phases [7, 8] (by kernel_rfl) (by kernel_rfl) ?_
            refine wpPh_cons _ _ ?_
            simp only [List.take_succ_cons, List.take_zero, List.drop_succ_cons, List.drop_zero]
            iterate 7 still_step
            refine wpStill_nil ?_
            refine wpOne_list ?_
            go_wp2_with fail
            with_reducible refine Xcf.out.mono ?_
            rintro e w6 ⟨rfl, b6⟩
            have t6 := Xtd.out.below b6
            clear h0 h1 b6 q0 q1 q2 q3
            have Xt6 := hide t6
            clear t6
            go_wp2_with fail
            refine wpPh_cons _ _ ?_
            simp only [List.take_succ_cons, List.take_zero, List.drop_succ_cons, List.drop_zero]
            iterate 8 still_step
            refine wpStill_nil ?_
            refine wpOne_list ?_
            go_wp2_with fail
            go_wp2_with fail
            refine wpPh_nil ?_
            go_wp2_with fail
            go_roundw
            case rel => exact ⟨q + 1, Ah, ch, rvs, by omega, by go_num, Xt6.out, Xhrv2.out⟩
            case measure => simp [intOf]; omega
          | true =>
            have hin := Xhcl.out _ (List.mem_of_getElem? hx) hf
            rw [hf] at cf hfq
            have hrv2 : (rvs ++ [((l0, xs), Value.slice Ax nx cx)]).map (·.1) = fsq G (hasI n (prdB G)) (q + 1) := by rw [fsq_yes hx hfq.symm, List.map_append, hrv]; rfl
            have Xt := hide t
            have Xtd := hide td
            have Xhrd := hide hrd
            have Xhr := hide hr
            have Xhx := hide hx
            have Xhrv := hide hrv
            have Xhrv2 := hide hrv2
            have Xcf := hide cf
            have Xhf := hide hf
            have Xhfq := hide hfq
            have Xhin := hide hin
            clear t td hrd hr hx hrv hrv2 cf hf hfq hin
            go_wp2_with fail
            refine region_phases [7, 8] (by kernel_rfl) (by kernel_rfl) ?_
            refine wpPh_cons _ _ ?_
            simp only [List.take_succ_cons, List.take_zero, List.drop_succ_cons, List.drop_zero]
            iterate 7 still_step
            refine wpStill_nil ?_
            refine wpOne_list ?_
            go_wp2_with fail
            with_reducible refine Xcf.out.mono ?_
            rintro e w6 ⟨rfl, b6⟩
            have t6 := Xtd.out.below b6
            have h06 : w6.cell? ⟨bb, off + q * 2, none⟩ = some (.int .i64 l0) := (b6.cell (p := ⟨bb, off + q * 2, none⟩) hbl).trans h0
            have h16 : w6.cell? ⟨bb, off + q * 2 + 1, none⟩ = some (.slice Ax nx cx) := (b6.cell (p := ⟨bb, off + q * 2 + 1, none⟩) hbl).trans h1
            have hbl6 : bb < w6.heap.size := Nat.lt_of_lt_of_le hbl b6.size
            have hra6 := (show RdI wr.drew F _ xs from Xhrd.out).below b6 Xtd.out.t.gram.lt
            have c6 := ref_has t6.p l0
            rw [decide_eq_true Xhin.out] at c6
            clear h0 h1 b6 q0 q1 q2 q3 Xtd Xt Xhrd Xhr Xcf
            obtain ⟨q0, q1, q2, q3⟩ := t6.t.cells
            have v2 := (t6.h.cell 2).trans rfl
            have t6d := t6.below ((Below.refl _ w6).drew)
            have b7 : Below w6.heap.size w6 (w6.drew.alloc (.cells #[.int .i64 l0, .slice Ax nx cx] 30)) := ((Below.refl _ w6).drew).alloc (Nat.le_refl _) _
            have t7 := t6.below b7
            have hr7 := t7.o
            have r7 : Rd (w6.drew.alloc (.cells #[.int .i64 l0, .slice Ax nx cx] 30)) (fun _ => True) (.slice (some ⟨w6.heap.size, 0, none⟩) 1 1) 2 [.int .i64 l0, .slice Ax nx cx] := Rd.one (w := w6.drew) (e := 30) [.int .i64 l0, .slice Ax nx cx] 2 rfl
            have hra7 := hra6.below b7 t6.t.gram.lt
            have q27 := t7.t.cells.2.2.1
            have v27 := (t7.h.cell 2).trans rfl
            have h07 : (w6.drew.alloc (.cells #[.int .i64 l0, .slice Ax nx cx] 30)).cell? ⟨bb, off + q * 2, none⟩ = some (.int .i64 l0) := (b7.cell (p := ⟨bb, off + q * 2, none⟩) hbl6).trans h06
            have h17 : (w6.drew.alloc (.cells #[.int .i64 l0, .slice Ax nx cx] 30)).cell? ⟨bb, off + q * 2 + 1, none⟩ = some (.slice Ax nx cx) := (b7.cell (p := ⟨bb, off + q * 2 + 1, none⟩) hbl6).trans h16
            have hz7 := t7.hz.2.2
            have fin := fun (A' : Option Addr) (c' : Nat) (w2 : World) hg ho => t7.push (l := l0) (x := xs) (w2 := w2) (A' := A') (c' := c') hg ho hra7
            have hlen : (rvs ++ [((l0, xs), Value.slice Ax nx cx)]).length = rvs.length + 1 := by simp
            have Xfin := hide fin
            have Xt6 := hide t6
            have Xt7 := hide t7
            have Xhra6 := hide hra6
            have Xhra7 := hide hra7
            have Xb7 := hide b7
            have Xhlen := hide hlen
            have Xc6 := hide c6
            have Xt6d := hide t6d
            clear fin t6 t7 hra6 hra7 b7 hlen c6 t6d
            go_wp2_with fail
            refine wpPh_cons _ _ ?_
            simp only [List.take_succ_cons, List.take_zero, List.drop_succ_cons, List.drop_zero]
            iterate 8 still_step
            refine wpStill_nil ?_
            refine wpOne_list ?_
            go_wp2_with fail
            with_reducible refine Xc6.out.mono ?_
            rintro e w' ⟨rfl, rfl⟩
            go_wp2_with fail
            refine wpPh_nil ?_
            go_wp2_with fail
            refine region_late (fun w' => w'.cell? ⟨w.heap.size, 2, none⟩ = some (.slice (some ⟨bb, off, none⟩) R c3) ∧ w'.cell? ⟨hb, 2, none⟩ = some (.slice Ah rvs.length ch) ∧ w'.cell? ⟨bb, off + q * 2, none⟩ = some (.int .i64 l0) ∧ w'.cell? ⟨bb, off + q * 2 + 1, none⟩ = some (.slice Ax nx cx)) 7 8 (by kernel_rfl) (by kernel_rfl) ⟨q2, v2, h06, h16⟩ ?_
            simp only [List.take_succ_cons, List.take_zero, List.drop_succ_cons, List.drop_zero]
            refine wpHeld_cons ?_ (by rfl) (fun wS hwS => ?_) ?_
            rotate_left
            · (try dsimp only at hwS)
              go_simp
              all_goals with_reducible rfl
            simp only [Act.put, List.setIfInBounds_toArray, List.set_cons_zero, List.set_cons_succ]
            refine wpHeld_cons ?_ (by rfl) (fun wS hwS => ?_) ?_
            rotate_left
            · (try dsimp only at hwS)
              go_simp
              all_goals with_reducible rfl
            simp only [Act.put, List.setIfInBounds_toArray, List.set_cons_zero, List.set_cons_succ]
            refine wpHeld_cons ?_ (by rfl) (fun wS hwS => ?_) ?_
            rotate_left
            · (try dsimp only at hwS)
              go_simp
              all_goals with_reducible rfl
            simp only [Act.put, List.setIfInBounds_toArray, List.set_cons_zero, List.set_cons_succ]
            refine wpHeld_cons ?_ (by rfl) (fun wS hwS => ?_) ?_
            rotate_left
            · (try dsimp only at hwS)
              go_simp
              all_goals with_reducible rfl
            simp only [Act.put, List.setIfInBounds_toArray, List.set_cons_zero, List.set_cons_succ]
            refine wpHeld_cons ?_ (by rfl) (fun wS hwS => ?_) ?_
            rotate_left
            · (try dsimp only at hwS)
              go_simp
              all_goals with_reducible rfl
            simp only [Act.put, List.setIfInBounds_toArray, List.set_cons_zero, List.set_cons_succ]
            refine wpHeld_cons ?_ (by rfl) (fun wS hwS => ?_) ?_
            rotate_left
            · (try dsimp only at hwS)
              go_simp
              all_goals with_reducible rfl
            simp only [Act.put, List.setIfInBounds_toArray, List.set_cons_zero, List.set_cons_succ]
            refine wpHeld_cons ?_ (by rfl) (fun wS hwS => ?_) ?_
            rotate_left
            · (try dsimp only at hwS)
              go_simp
              all_goals with_reducible rfl
            simp only [Act.put, List.setIfInBounds_toArray, List.set_cons_zero, List.set_cons_succ]
            refine wpHeld_nil ?_
            refine wpMid_cons ?_
            go_wp2_with fail
            refine ⟨⟨q27, v27, h07, h17⟩, wpMid_nil ?_⟩
            go_wp2_with (at_builtin; refine wp_append _ rfl (.tmp 54) (.tmp 60) _ rfl Try.elemRule base _ rvs.length (flatR rvs) rfl hr7 _ _ [.int .i64 l0, .slice Ax nx cx] 1 rfl rfl r7 (by simp [Value.oneCell']) (by unfold maxLen; omega) (by omega) hz7 ?_)
            intro A8 c8 w8 h8 g8 _
            obtain ⟨⟨x1, x2⟩, t8⟩ := Xfin.out A8 c8 w8 g8 h8
            clear Xfin h8 g8 hr7 r7 q0 q1 q2 q3 v2 q27 v27 h07 h17 h06 h16
            have Xt8 := hide t8
            clear t8
            go_wp2_with fail
            refine NoPanic.normal ?_
            go_wp2_with fail
            go_roundw
            case rel => exact ⟨q + 1, A8, c8, _, by omega, by go_num, Xt8.out, Xhrv2.out⟩
            case measure => simp [intOf]; omega
        · have hqe : q = R := by omega
          have hH : (fineG G st).rules = rvs.map (·.1) := by rw [hrv]; exact Xhfin.out q hqe
          have hlt' : ¬ (q : Int) < (R : Int) := by omega
          subst hqe
          have tg := fun wr (t : TStL w wr F A1 c1 A2 c2 A3 c3 T N q st G (.slice Ap np cp') pl hb base Ah ch rvs) => t.gram (H := fineG G st) XhfT.out XhfN.out hH Xhsub.out (by omega)
          have c9 := Xcr.out _ _ _ _ _ (tg _ t)
          have v0 := (t.h.cell 0).trans rfl
          have v1 := (t.h.cell 1).trans rfl
          have v2 := (t.h.cell 2).trans rfl
          have v3 := (t.h.cell 3).trans rfl
          have Xt := hide t
          have Xtg := hide tg
          have XhH := hide hH
          have Xhrv := hide hrv
          have Xc9 := hide c9
          clear t tg hH hrv c9
          go_wp2_with fail
          with_reducible refine Xc9.out.mono ?_
          rintro e w9 ⟨A9, n9, c9, rfl, hr9, b9⟩
          have t9 := Xt.out.below b9
          have hz9 := t9.hz
          have co9 := Xco.out _ _ _ _ _ (Xtg.out _ t9) _ _ hr9 (fun k hk => hk.2)
          have x0 := (t9.h.cell 0).trans rfl
          have x1 := (t9.h.cell 1).trans rfl
          have x2 := (t9.h.cell 2).trans rfl
          have x3 := (t9.h.cell 3).trans rfl
          clear v0 v1 v2 v3 Xc9 hr9 b9 Xt q0 q1 q2 q3
          have Xt9 := hide t9
          have Xco9 := hide co9
          clear t9 co9
          go_wp2_with fail
          with_reducible refine Xco9.out.mono ?_
          rintro e w10 ⟨ut, un, ur, rfl, hg10, b10⟩
          obtain ⟨a1, d1, a2, d2, a3, d3, eu1, eu2, eu3, -⟩ := hg10.slices
          have t10 := Xt9.out.below b10
          have k10 := t10.zero
          have f0 := k10.frozen 0
          have f1 := k10.frozen 1
          have f2 := k10.frozen 2
          have f3 := k10.frozen 3
          have y0 := (k10.cell 0).trans rfl
          have y1 := (k10.cell 1).trans rfl
          have y2 := (k10.cell 2).trans rfl
          have y3 := (k10.cell 3).trans rfl
          have hb10 := t10.b
          clear x0 x1 x2 x3 Xco9 b10 t10
          generalize OG.terms.length = n1 at eu1
          generalize OG.nons.length = n2 at eu2
          generalize OG.rules.length = n3 at eu3
          subst eu1 eu2 eu3
          have Xhg10 := hide hg10
          have Xk10 := hide k10
          have Xhb10 := hide hb10
          clear hg10 k10 hb10
          go_wp2_with fail
          have kF : Blk ((((w10.setCell ⟨w.heap.size + 1, 0, none⟩ (.slice a1 n1 d1)).setCell ⟨w.heap.size + 1, 1, none⟩ (.slice a2 n2 d2)).setCell ⟨w.heap.size + 1, 2, none⟩ (.slice a3 n3 d3)).setCell ⟨w.heap.size + 1, 3, none⟩ (.int .i64 OG.start)) (w.heap.size + 1) 25 #[(.slice a1 n1 d1), (.slice a2 n2 d2), (.slice a3 n3 d3), .int .i64 OG.start] := (((Xk10.out.put 0 _).put 1 _).put 2 _).put 3 _
          have tF : Touch (fun k => k = w.heap.size + 1) w10 ((((w10.setCell ⟨w.heap.size + 1, 0, none⟩ (.slice a1 n1 d1)).setCell ⟨w.heap.size + 1, 1, none⟩ (.slice a2 n2 d2)).setCell ⟨w.heap.size + 1, 2, none⟩ (.slice a3 n3 d3)).setCell ⟨w.heap.size + 1, 3, none⟩ (.int .i64 OG.start)) := ((((Touch.refl (fun k => k = w.heap.size + 1) w10).setCell (fun _ => rfl) _).setCell (fun _ => rfl) _).setCell (fun _ => rfl) _).setCell (fun _ => rfl) _
          generalize ((((w10.setCell ⟨w.heap.size + 1, 0, none⟩ (.slice a1 n1 d1)).setCell ⟨w.heap.size + 1, 1, none⟩ (.slice a2 n2 d2)).setCell ⟨w.heap.size + 1, 2, none⟩ (.slice a3 n3 d3)).setCell ⟨w.heap.size + 1, 3, none⟩ (.int .i64 OG.start)) = wF at *
          have fin : TrimPost w (OG, true) (.returned (.tuple #[GV (.slice a1 n1 d1) (.slice a2 n2 d2) (.slice a3 n3 d3) OG.start, .bool true])) wF := by
            have gF := Xhg10.out.touch tF (fun k hk e => by have := hk.1; omega)
            exact ⟨_, _, _, rfl, gF.mono (fun k hk => ⟨by omega, by have := tF.size; omega⟩) (fun k hk => hk.2), Xhb10.out.trans (tF.below (fun k hk _ e => by omega) Xhb10.out.size)⟩
          have c0 := (kF.cell 0).trans rfl
          have c1' := (kF.cell 1).trans rfl
          have c2' := (kF.cell 2).trans rfl
          have c3' := (kF.cell 3).trans rfl
          clear f0 f1 f2 f3 y0 y1 y2 y3
          have Xfin := hide fin
          have XkF := hide kF
          have XtF := hide tF
          clear fin kF tF
          refine bodyPost_ret (v := .tuple #[.agg #[(.slice a1 n1 d1), (.slice a2 n2 d2), (.slice a3 n3 d3), .int .i64 OG.start], .bool true]) (by simp [results, Try.results54, go_sem, c0, c1', c2', c3']) rfl ?_
          exact Xfin.out
    · have hst' : decide (st ∈ prdL G) = false := by
        rw [hdec]
        cases e : hasI n (prdB G) st with
        | false => rfl
        | true => exact absurd e hst
      rw [if_neg hst] at htr
      rw [htr]
      generalize prdL G = pl at *
      have Xcc := hide cc
      have Xcp := hide cp
      have Xg2 := hide g2
      have Xk2 := hide k2
      have Xhb2 := hide hb2
      have XhF := hide hF
      have XhT := hide hT
      have XhN := hide hN
      have XhR := hide hR
      have Xhn := hide hn
      have Xhz := hide hz
      have Xhk := hide hk
      have Xhkf := hide hkf
      have Xhfin := hide hfin
      have Xhsub := hide hsub
      have Xcr := hide cr
      have Xco := hide co
      have XhfT := hide hfT
      have XhfN := hide hfN
      have Xhst := hide hst
      have Xz1 := hide z1
      have Xz2 := hide z2
      have Xhst' := hide hst'
      have Xhlr := hide hlr
      have Xhll := hide hll
      have Xhfe := hide hfe
      have Xhcl := hide hcl
      have Xhdec := hide hdec
      have Xhpd := hide hpd
      clear cc cp g2 k2 hb2 hF hT hN hR hn hz hk hkf hfin hsub cr co hfT hfN hst z1 z2 hst' hlr hll hfe hcl hdec hpd
      clear htr
      go_enter Try.func54, Try.ntmps54
      go_wp2_with fail
      with_reducible refine Xcp.out.mono ?_
      rintro e w3 ⟨Ap, np, cp', rfl, hrp, b3⟩
      rw [← hw1, ← hw2] at b3 hrp
      have g3 := Xg2.out.below b3
      have k3 := Xk2.out.below b3 Xk2.out.lt
      have hb3 := Xhb2.out.trans (b3.mono Xhb2.out.size)
      clear hw1 hw2 q0 q1 q2 q3 Xcp Xg2 Xk2 Xhb2 b3
      obtain ⟨q0, q1, q2, q3⟩ := g3.cells
      have Xg3 := hide g3
      have Xk3 := hide k3
      have Xhb3 := hide hb3
      have Xhrp := hide hrp
      clear g3 k3 hb3 hrp
      go_wp2_with fail
      with_reducible refine (Xcc.out _ Xg3.out).mono ?_
      rintro e w4 ⟨rfl, b4⟩
      have g4 := Xg3.out.below b4
      have k2 := Xk3.out.below b4 Xk3.out.lt
      have hb2 := Xhb3.out.trans (b4.mono Xhb3.out.size)
      have hrp4 := (show RdI w3 _ (.slice Ap np cp') pl from Xhrp.out).below b4 (fun k hk => hk.2)
      have ch := ref_has hrp4 st
      rw [Xhst'.out] at ch
      clear q0 q1 q2 q3 Xcc b4
      obtain ⟨q0, q1, q2, q3⟩ := g4.cells
      have f0 := k2.frozen 0
      have f1 := k2.frozen 1
      have f2 := k2.frozen 2
      have f3 := k2.frozen 3
      have y0 := (k2.cell 0).trans rfl
      have y1 := (k2.cell 1).trans rfl
      have y2 := (k2.cell 2).trans rfl
      have y3 := (k2.cell 3).trans rfl
      have Xg4 := hide g4
      have Xk2 := hide k2
      have Xhb2 := hide hb2
      have Xhrp4 := hide hrp4
      have Xch := hide ch
      clear g4 k2 hb2 hrp4 ch
      go_wp2_with fail
      with_reducible refine Xch.out.mono ?_
      rintro e w5 ⟨rfl, rfl⟩
      go_wp2_with fail
      clear f0 f1 f2 f3 y0 y1 y2 y3 q0 q1 q2 q3
      have kF : Blk ((((w4.setCell ⟨w.heap.size + 1, 0, none⟩ (.slice none 0 0)).setCell ⟨w.heap.size + 1, 1, none⟩ (.slice none 0 0)).setCell ⟨w.heap.size + 1, 2, none⟩ (.slice none 0 0)).setCell ⟨w.heap.size + 1, 3, none⟩ (.int .i64 0)) (w.heap.size + 1) 25 #[.slice none 0 0, .slice none 0 0, .slice none 0 0, .int .i64 0] := (((Xk2.out.put 0 _).put 1 _).put 2 _).put 3 _
      have bF : Below w.heap.size w ((((w4.setCell ⟨w.heap.size + 1, 0, none⟩ (.slice none 0 0)).setCell ⟨w.heap.size + 1, 1, none⟩ (.slice none 0 0)).setCell ⟨w.heap.size + 1, 2, none⟩ (.slice none 0 0)).setCell ⟨w.heap.size + 1, 3, none⟩ (.int .i64 0)) := (((Xhb2.out.setCell (by simp) _).setCell (by simp) _).setCell (by simp) _).setCell (by simp) _
      generalize ((((w4.setCell ⟨w.heap.size + 1, 0, none⟩ (.slice none 0 0)).setCell ⟨w.heap.size + 1, 1, none⟩ (.slice none 0 0)).setCell ⟨w.heap.size + 1, 2, none⟩ (.slice none 0 0)).setCell ⟨w.heap.size + 1, 3, none⟩ (.int .i64 0)) = wF at *
      have fin : TrimPost w (noGram, false) (.returned (.tuple #[GV (.slice none 0 0) (.slice none 0 0) (.slice none 0 0) 0, .bool false])) wF := ⟨_, _, _, rfl, noGram_is _ _ (fun k hk => hk.2), bF⟩
      have y0 := (kF.cell 0).trans rfl
      have y1 := (kF.cell 1).trans rfl
      have y2 := (kF.cell 2).trans rfl
      have y3 := (kF.cell 3).trans rfl
      have Xfin := hide fin
      have XkF := hide kF
      have XbF := hide bF
      clear fin kF bF
      refine bodyPost_ret (v := .tuple #[.agg #[.slice none 0 0, .slice none 0 0, .slice none 0 0, .int .i64 0], .bool false]) (by simp [results, Try.results54, go_sem, y0, y1, y2, y3]) rfl ?_
      exact Xfin.out
  · rw [if_neg hz] at htr hpd
    rw [htr]
    rw [hpd] at cp
    have hcn : (checkOf G st != 0) = true := by simpa using hz
    generalize checkOf G st = ck at *
    generalize hT : G.terms.length = T at *
    generalize hN : G.nons.length = N at *
    generalize hR : G.rules.length = R at *
    have Xcc := hide cc
    have Xcp := hide cp
    have Xg2 := hide g2
    have Xk2 := hide k2
    have Xhb2 := hide hb2
    have XhF := hide hF
    have XhT := hide hT
    have XhN := hide hN
    have XhR := hide hR
    have Xhz := hide hz
    have Xz1 := hide z1
    have Xz2 := hide z2
    have Xhdec := hide hdec
    have Xhpd := hide hpd
    clear cc cp g2 k2 hb2 hF hT hN hR hz z1 z2 hdec hpd
    clear htr
    go_enter Try.func54, Try.ntmps54
    go_wp2_with fail
    with_reducible refine Xcp.out.mono ?_
    rintro e w3 ⟨Ap, np, cp', rfl, hrp, b3⟩
    rw [← hw1, ← hw2] at b3
    have g3 := Xg2.out.below b3
    have k3 := Xk2.out.below b3 Xk2.out.lt
    have hb3 := Xhb2.out.trans (b3.mono Xhb2.out.size)
    clear hw1 hw2 q0 q1 q2 q3 Xcp Xg2 Xk2 Xhb2 b3 hrp
    obtain ⟨q0, q1, q2, q3⟩ := g3.cells
    have Xg3 := hide g3
    have Xk3 := hide k3
    have Xhb3 := hide hb3
    clear g3 k3 hb3
    go_wp2_with fail
    with_reducible refine (Xcc.out _ Xg3.out).mono ?_
    rintro e w4 ⟨rfl, b4⟩
    have k2 := Xk3.out.below b4 Xk3.out.lt
    have hb2 := Xhb3.out.trans (b4.mono Xhb3.out.size)
    clear q0 q1 q2 q3 Xcc b4 Xk3 Xhb3 Xg3
    have f0 := k2.frozen 0
    have f1 := k2.frozen 1
    have f2 := k2.frozen 2
    have f3 := k2.frozen 3
    have y0 := (k2.cell 0).trans rfl
    have y1 := (k2.cell 1).trans rfl
    have y2 := (k2.cell 2).trans rfl
    have y3 := (k2.cell 3).trans rfl
    have Xk2 := hide k2
    have Xhb2 := hide hb2
    clear k2 hb2
    go_wp2_with fail
    clear f0 f1 f2 f3 y0 y1 y2 y3
    have kF : Blk ((((w4.setCell ⟨w.heap.size + 1, 0, none⟩ (.slice none 0 0)).setCell ⟨w.heap.size + 1, 1, none⟩ (.slice none 0 0)).setCell ⟨w.heap.size + 1, 2, none⟩ (.slice none 0 0)).setCell ⟨w.heap.size + 1, 3, none⟩ (.int .i64 0)) (w.heap.size + 1) 25 #[.slice none 0 0, .slice none 0 0, .slice none 0 0, .int .i64 0] := (((Xk2.out.put 0 _).put 1 _).put 2 _).put 3 _
    have bF : Below w.heap.size w ((((w4.setCell ⟨w.heap.size + 1, 0, none⟩ (.slice none 0 0)).setCell ⟨w.heap.size + 1, 1, none⟩ (.slice none 0 0)).setCell ⟨w.heap.size + 1, 2, none⟩ (.slice none 0 0)).setCell ⟨w.heap.size + 1, 3, none⟩ (.int .i64 0)) := (((Xhb2.out.setCell (by simp) _).setCell (by simp) _).setCell (by simp) _).setCell (by simp) _
    generalize ((((w4.setCell ⟨w.heap.size + 1, 0, none⟩ (.slice none 0 0)).setCell ⟨w.heap.size + 1, 1, none⟩ (.slice none 0 0)).setCell ⟨w.heap.size + 1, 2, none⟩ (.slice none 0 0)).setCell ⟨w.heap.size + 1, 3, none⟩ (.int .i64 0)) = wF at *
    have fin : TrimPost w (noGram, false) (.returned (.tuple #[GV (.slice none 0 0) (.slice none 0 0) (.slice none 0 0) 0, .bool false])) wF := ⟨_, _, _, rfl, noGram_is _ _ (fun k hk => hk.2), bF⟩
    have y0 := (kF.cell 0).trans rfl
    have y1 := (kF.cell 1).trans rfl
    have y2 := (kF.cell 2).trans rfl
    have y3 := (kF.cell 3).trans rfl
    have Xfin := hide fin
    have XkF := hide kF
    have XbF := hide bF
    clear fin kF bF
    refine bodyPost_ret (v := .tuple #[.agg #[.slice none 0 0, .slice none 0 0, .slice none 0 0, .int .i64 0], .bool false]) (by simp [results, Try.results54, go_sem, y0, y1, y2, y3]) rfl ?_
    exact Xfin.out
end Go.Proofs.Ytejjaabkbkkjlaa

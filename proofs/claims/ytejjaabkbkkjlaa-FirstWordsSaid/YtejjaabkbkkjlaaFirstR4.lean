/- conchref11.Of. -/
import Derived.Test.YtejjaabkbkkjlaaFirstR3
import Derived.Deep.Cut
import Derived.Deep.CutRange
namespace Go.Proofs.Ytejjaabkbkkjlaa
set_option linter.unusedVariables false
open Go.RowKit
attribute [local irreducible] wpStill wpOne wpPh

theorem RSets.make {w7 : World} {T p gi gb cb gh ch z N R : Nat} {psb psh : Nat → Nat} {A1 : Option Addr} {c1 : Nat} {A2 : Option Addr} {c2 : Nat} {A3 : Option Addr} {c3 : Nat} {st : Int} {F : Nat → Prop} {G : GramD} (hg : IsGram w7 F (.slice A1 T c1) (.slice A2 N c2) (.slice A3 R c3) G)
    (hcan : BSet w7 gi (p + 1) noBits) (f1 : BFam w7 gb (p + 1) (T + 1) psb (fun _ => noBits)) (f2 : BFam w7 gh (p + 1) (T + 1) psh (fun _ => noBits)) (hcap : (p + 1 ≤ cb ∧ cb ≤ 9223372036854775807) ∧ p + 1 ≤ ch ∧ ch ≤ 9223372036854775807) (hc1 : T ≤ c1 ∧ c1 ≤ 9223372036854775807)
    (hnG : p + 1 = topN G ∧ T = G.terms.length) (hp : p + 1 ≤ 4096) (hlo : ∀ k, F k → k < z) (hz : z ≤ gi ∧ z ≤ gb ∧ z ≤ gh ∧ ∀ i, i < p + 1 → z ≤ psb i ∧ z ≤ psh i) (hzw : z ≤ w7.heap.size)
    (hne : (gi ≠ gb ∧ gi ≠ gh) ∧ ∀ i, i < p + 1 → psb i ≠ gi ∧ psb i ≠ gh ∧ psh i ≠ gi ∧ psh i ≠ gb ∧ ∀ j, j < p + 1 → psb i ≠ psh j) :
    RSets (w7.alloc (.cells #[.slice A1 T c1, .slice A2 N c2, .slice A3 R c3, .int .i64 st, RowV gi (p + 1), .slice (some ⟨gb, 0, none⟩) (p + 1) cb, .slice (some ⟨gh, 0, none⟩) (p + 1) ch] 117))
      ⟨w7.heap.size, gi, gb, cb, gh, ch, p + 1, T + 1, z, psb, psh, A1, T, c1, A2, N, c2, A3, R, c3, st, F⟩ G noBits (fun _ => noBits) (fun _ => noBits) := by
  have b8 : Below w7.heap.size w7 (w7.alloc (.cells #[.slice A1 T c1, .slice A2 N c2, .slice A3 R c3, .int .i64 st, RowV gi (p + 1), .slice (some ⟨gb, 0, none⟩) (p + 1) cb, .slice (some ⟨gh, 0, none⟩) (p + 1) ch] 117)) := (Below.refl _ _).alloc (Nat.le_refl _) _
  have hT : T < p + 1 := by rw [hnG.1, hnG.2]; unfold topN; omega
  exact ⟨Blk.new _ _ _, hg.below b8, hcan.below b8, f1.below b8, f2.below b8, ⟨hcap, hc1⟩, rfl, hnG, ⟨hp, by simp only; omega, hT⟩, hlo, ⟨hzw, hz⟩, ⟨hcan.lt, f1.lt, f2.lt, fun i hi => ⟨(f1.set i hi).lt, (f2.set i hi).lt⟩⟩, hne⟩

/-- the grammar, boxed, and the sets -/
structure ROfSt (w wr : World) (F : Nat → Prop) (A1 : Option Addr) (c1 : Nat) (A2 : Option Addr) (c2 : Nat) (A3 : Option Addr) (c3 T N R : Nat) (st : Int) (G : GramD) (q : RD) (e : Nat → Bool) (bg bh : Nat → Nat → Bool) : Prop where
  g : GBox wr F w.heap.size A1 c1 A2 c2 A3 c3 T N R st G
  f : RSets wr q G e bg bh
  z : w.heap.size < q.z
  b : Below w.heap.size w wr
section
variable {w wr wr' : World} {F : Nat → Prop} {A1 : Option Addr} {c1 : Nat} {A2 : Option Addr} {c2 : Nat} {A3 : Option Addr} {c3 T N R : Nat} {st : Int} {G : GramD} {q : RD} {e e' : Nat → Bool} {bg bh bg' bh' : Nat → Nat → Bool} {S : Nat → Prop}
theorem ROfSt.below (h : ROfSt w wr F A1 c1 A2 c2 A3 c3 T N R st G q e bg bh) (b : Below wr.heap.size wr wr') : ROfSt w wr' F A1 c1 A2 c2 A3 c3 T N R st G q e bg bh :=
  ⟨h.g.below b, h.f.below b, h.z, h.b.trans (b.mono h.b.size)⟩
theorem ROfSt.set (h : ROfSt w wr F A1 c1 A2 c2 A3 c3 T N R st G q e bg bh) (hF : ∀ k, F k → k < w.heap.size) (hf : RSets wr' q G e' bg' bh') (ht : Touch S wr wr') (hS : ∀ k, S k → q.z ≤ k) : ROfSt w wr' F A1 c1 A2 c2 A3 c3 T N R st G q e' bg' bh' := by
  have := h.z
  exact ⟨h.g.touch ht (fun k hk hk' => by have := hF k hk; have := hS k hk'; omega) (fun hk' => by have := hS _ hk'; omega), hf, h.z, h.b.trans (ht.below (fun k hk _ hk' => by have := hS k hk'; omega) h.b.size)⟩
end
def RFirstPost (w : World) (G : GramD) (st : Int) (e : Ending) (w' : World) : Prop :=
  (checkOf G st ≠ 0 ∧ e = .returned (.pointer none) ∧ Below w.heap.size w w') ∨
  (checkOf G st = 0 ∧ ∃ q : RD, e = .returned (PtrV q.s) ∧ RSets w' q G (empB G) (begB G) (behB G st) ∧ w.heap.size ≤ q.z ∧ Below w.heap.size w w')
/-- what stands behind region 4 -/
def RMade (w w4 : World) (F : Nat → Prop) (T p : Nat) (G : GramD) (v : Value) (wx : World) : Prop := ∃ q : RD, v = PtrV q.s ∧ RSets wx q G noBits (fun _ => noBits) (fun _ => noBits) ∧ q.T = T ∧ q.n = p + 1 ∧ w.heap.size < q.z ∧ Below w4.heap.size w4 wx

theorem can_step {n : Nat} {e : Nat → Bool} {li : Nat} (hli : li < n) (al : Bool) (t : Nat) : (if al then putSet n e (li : Int) else e) t = if t = li then (e li || al) else e t := by
  cases al with
  | true =>
    simp only [if_true, Bool.or_true]
    unfold putSet
    by_cases h : t = li
    · subst h
      have : (t : Int) < n := by omega
      simp [this]
    · have : ¬ (t : Int) = li := by omega
      simp [h, this]
  | false =>
    simp only [Bool.false_eq_true, if_false, Bool.or_false]
    by_cases h : t = li
    · subst h; simp
    · simp [h]
theorem putAns_nat {n : Nat} {e : Nat → Bool} {li : Nat} (hli : li < n) : putAns n e (li : Int) = !e li := by
  unfold putAns
  have h1 : (li : Int) < n := by omega
  rw [decide_eq_true (show (0 : Int) ≤ (li : Int) by omega), decide_eq_true h1]
  simp
set_option maxRecDepth 100000 in
set_option maxHeartbeats 8000000 in
theorem ref11_Of {w : World} {F : Nat → Prop} {vt vn vr : Value} {G : GramD} (h : IsGram w F vt vn vr G) (st : Int) :
    Calls Try.prog 63 #[GV vt vn vr st] w (RFirstPost w G st) := by
  obtain ⟨A1, c1, A2, c2, A3, c3, rfl, rfl, rfl, -⟩ := h.slices
  obtain ⟨w1, hw1⟩ : ∃ w1, w1 = w.alloc (.cells #[.slice A1 G.terms.length c1, .slice A2 G.nons.length c2, .slice A3 G.rules.length c3, .int .i64 st] 25) := ⟨_, rfl⟩
  have g1 := GBox.new h st
  have b1 : Below w.heap.size w w1 := by rw [hw1]; exact (Below.refl _ w).alloc (Nat.le_refl _) _
  rw [← hw1] at g1
  have cc := ref_check g1.gram st
  have hF := h.lt
  have hkn : checkOf G st = 0 → Kn G st := Kn.of_check
  have hno : ∀ w', checkOf G st ≠ 0 → Below w.heap.size w w' → RFirstPost w G st (.returned (.pointer none)) w' := fun w' h1 h2 => .inl ⟨h1, rfl, h2⟩
  have hyes : ∀ w' (q : RD), checkOf G st = 0 → RSets w' q G (empB G) (begB G) (behB G st) → w.heap.size ≤ q.z → Below w.heap.size w w' → RFirstPost w G st (.returned (PtrV q.s)) w' := fun w' q h1 h2 h3 h4 => .inr ⟨h1, q, rfl, h2, h3, h4⟩
  have ct := fun wr (g : GBox wr F w.heap.size A1 c1 A2 c2 A3 c3 G.terms.length G.nons.length G.rules.length st G) => ref_top g.gram st
  rw [show topOf G = G.terms.length + G.nons.length from rfl] at ct
  generalize hT : G.terms.length = T at *
  generalize hN : G.nons.length = N at *
  generalize hR : G.rules.length = R at *
  obtain ⟨q0, q1, q2, q3⟩ := g1.cells
  rw [hw1] at cc q0 q1 q2 q3
  generalize hcz : checkOf G st = cz at *
  clear h
  have XhF := hide hF
  have Xcc := hide cc
  have Xg1 := hide g1
  have Xb1 := hide b1
  have Xhkn := hide hkn
  have Xhno := hide hno
  have Xhyes := hide hyes
  have Xct := hide ct
  have XhT := hide hT
  have XhN := hide hN
  have XhR := hide hR
  have Xhcz := hide hcz
  clear hF cc g1 b1 hkn hno hyes ct hT hN hR hcz
  go_enter Try.func63, Try.ntmps63
  go_wp2_with fail
  with_reducible refine Xcc.out.mono ?_
  rintro ee w2 ⟨rfl, b2⟩
  rw [← hw1] at b2
  have g2 := Xg1.out.below b2
  have hb2 := Xb1.out.trans (b2.mono Xb1.out.size)
  clear q0 q1 q2 q3 hw1 Xg1 Xb1 b2 Xcc
  by_cases hz : cz = 0
  case neg =>
    have fin := Xhno.out w2 hz hb2
    have hz' : (cz != 0) = true := by simpa using hz
    clear hb2
    have Xfin := hide fin
    have Xg2 := hide g2
    clear fin g2
    go_wp2_with fail
    go_ret
    exact Xfin.out
  case pos =>
    subst hz
    have hk := Xhkn.out (by first | rfl | trivial)
    have k1 := hk.t
    have k2 := hk.n
    rw [XhT.out] at k1
    rw [XhN.out] at k2
    obtain ⟨q0, q1, q2, q3⟩ := g2.cells
    have c2t := Xct.out _ g2
    have Xg2 := hide g2
    have Xhb2 := hide hb2
    have Xhk := hide hk
    have Xc2t := hide c2t
    clear g2 hb2 hk c2t
    go_wp2_with fail
    with_reducible refine Xc2t.out.mono ?_
    rintro ee w4 ⟨rfl, b4⟩
    have g4 := Xg2.out.below b4
    have hb4 := Xhb2.out.trans (b4.mono Xhb2.out.size)
    obtain ⟨p, hp⟩ : ∃ p : Nat, p = T + N := ⟨_, rfl⟩
    rw [← hp]
    have hwp : IntKind.i64.wrap ((p : Int) + 1) = (p : Int) + 1 := by rw [IntKind.wrap_i64]; omega
    have hwT : IntKind.i64.wrap ((T : Int) + 1) = (T : Int) + 1 := by rw [IntKind.wrap_i64]; omega
    have hzz := g4.blk.lt
    have hnG : p + 1 = topN G ∧ T = G.terms.length := ⟨by unfold topN; rw [XhT.out, XhN.out, hp], XhT.out.symm⟩
    have hpp : p + 1 ≤ 4096 := by omega
    have cr := fun wr => ref11_rows wr (p + 1) (T + 1) (by omega) (by omega)
    push_cast at cr
    have hmk := fun wr => make_bools (p + 1) (by omega) wr
    push_cast at hmk
    have hBnew := fun wr => BSet.new wr (p + 1)
    generalize hmc : madeCells #[.bool false] (p + 1) = mc at hmk hBnew
    clear q0 q1 q2 q3 Xg2 Xhb2 Xc2t b4 Xct Xhno
    have Xhp := hide hp
    have XhnG := hide hnG
    have Xhpp := hide hpp
    have Xcr := hide cr
    have Xg4 := hide g4
    have Xhb4 := hide hb4
    have Xhmc := hide hmc
    have XhBnew := hide hBnew
    clear hp hnG hpp cr g4 hb4 hmc hBnew
    go_upto_region 4 with fail
    obtain ⟨q0, q1, q2, q3⟩ := Xg4.out.cells
    go_cut [4] from 19 to 35 (fun v wx => RMade w w4 F T p G v wx)
    case first =>
      go_region_held3 (fun w' => w'.cell? ⟨w.heap.size, 0, none⟩ = some (.slice A1 T c1) ∧ w'.cell? ⟨w.heap.size, 1, none⟩ = some (.slice A2 N c2) ∧ w'.cell? ⟨w.heap.size, 2, none⟩ = some (.slice A3 R c3) ∧ w'.cell? ⟨w.heap.size, 3, none⟩ = some (.int .i64 st))
        (first | assumption | go_keep)
        (first
          | (go_at_call 119; (with_reducible refine (Xcr.out w4.drew).mono ?_); rintro ee w5 ⟨gb, cb, psb, rfl, c51, c52, l5, m5, f5, b5⟩; have bb5 := (Below.refl _ w4).drew.trans (b5.mono (Nat.le_refl _)); have k5 := (Xg4.out.below bb5).cells)
          | (go_at_call 119; (with_reducible refine (Xcr.out (w4.alloc (.cells mc 4)).drew).mono ?_); rintro ee w5 ⟨gb, cb, psb, rfl, c51, c52, l5, m5, f5, b5⟩; have ba5 := ((Below.refl _ w4).alloc (Nat.le_refl _) (.cells mc 4)).drew; have bb5 := ba5.trans (b5.mono ba5.size); have kc5 := ((XhBnew.out w4).below ((Below.refl _ _).drew)).below b5; have k5 := (Xg4.out.below bb5).cells)
          | (go_at_call 119; (with_reducible refine (Xcr.out w5).mono ?_); rintro ee w6 ⟨gh, ch, psh, rfl, c61, c62, l6, m6, f6, b6⟩; have bb6 := bb5.trans (b6.mono bb5.size); have k6 := (Xg4.out.below bb6).cells)
          | (go_at_call 119; (with_reducible refine (Xcr.out (w5.alloc (.cells mc 4))).mono ?_); rintro ee w6 ⟨gh, ch, psh, rfl, c61, c62, l6, m6, f6, b6⟩; have ba6 := (Below.refl _ w5).alloc (Nat.le_refl _) (.cells mc 4); have bc6 := ba6.trans (b6.mono ba6.size); have bb6 := bb5.trans (bc6.mono bb5.size); have kc6 := (XhBnew.out w5).below b6; have k6 := (Xg4.out.below bb6).cells))
      · have RM := RSets.make (w7 := w6) (st := st) (z := w4.heap.size) (Xg4.out.below bb6).gram (kc5.below b6) (f5.below b6) f6 ⟨⟨c51, c52⟩, c61, c62⟩ ⟨Xg4.out.tc, Xg4.out.c1m⟩ XhnG.out Xhpp.out (fun k hk => by have := XhF.out k hk; omega)
          ⟨Nat.le_refl _, by simp at l5; omega, by have := bb5.size; omega, fun i hi => ⟨by have := m5 i hi; simp at this; omega, by have := m6 i hi; have := bb5.size; omega⟩⟩ bb6.size
          ⟨⟨by simp at l5; omega, by have := kc5.lt; omega⟩, fun i hi => ⟨by have := m5 i hi; simp at this; omega, by have := (f5.set i hi).lt; omega, by have := m6 i hi; have := kc5.lt; omega, by have := m6 i hi; have := f5.lt; omega, fun j hj => by have := m6 j hj; have := (f5.set i hi).lt; omega⟩⟩
        have bx := bb6.trans (((Below.refl _ w6).alloc (Nat.le_refl _) (.cells #[.slice A1 T c1, .slice A2 N c2, .slice A3 R c3, .int .i64 st, RowV w4.heap.size (p + 1), .slice (some ⟨gb, 0, none⟩) (p + 1) cb, .slice (some ⟨gh, 0, none⟩) (p + 1) ch] 117)).mono bb6.size)
        have XRM := hide RM
        have Xbx := hide bx
        clear RM bx
        go_wp2_with fail
        go_meet
        exact ⟨_, rfl, XRM.out, rfl, rfl, hzz, Xbx.out⟩
      · have RM := RSets.make (w7 := w6) (st := st) (z := w4.heap.size) (Xg4.out.below bb6).gram kc6 (f5.below bc6) f6 ⟨⟨c51, c52⟩, c61, c62⟩ ⟨Xg4.out.tc, Xg4.out.c1m⟩ XhnG.out Xhpp.out (fun k hk => by have := XhF.out k hk; omega)
          ⟨bb5.size, l5, by simp at l6; have := bb5.size; omega, fun i hi => ⟨m5 i hi, by have := m6 i hi; simp at this; have := bb5.size; omega⟩⟩ bb6.size
          ⟨⟨by have := f5.lt; omega, by simp at l6; omega⟩, fun i hi => ⟨by have := (f5.set i hi).lt; omega, by have := (f5.set i hi).lt; simp at l6; omega, by have := m6 i hi; simp at this; omega, by have := m6 i hi; simp at this; have := f5.lt; omega, fun j hj => by have := m6 j hj; simp at this; have := (f5.set i hi).lt; omega⟩⟩
        have bx := bb6.trans (((Below.refl _ w6).alloc (Nat.le_refl _) (.cells #[.slice A1 T c1, .slice A2 N c2, .slice A3 R c3, .int .i64 st, RowV w5.heap.size (p + 1), .slice (some ⟨gb, 0, none⟩) (p + 1) cb, .slice (some ⟨gh, 0, none⟩) (p + 1) ch] 117)).mono bb6.size)
        have XRM := hide RM
        have Xbx := hide bx
        clear RM bx
        go_wp2_with fail
        go_meet
        exact ⟨_, rfl, XRM.out, rfl, rfl, hzz, Xbx.out⟩
      · have bm := (Below.refl _ w6).alloc (Nat.le_refl _) (.cells mc 4)
        have bb7 := bb6.trans (bm.mono bb6.size)
        have RM := RSets.make (w7 := w6.alloc (.cells mc 4)) (st := st) (z := w4.heap.size) (Xg4.out.below bb7).gram (XhBnew.out w6) ((f5.below b6).below bm) (f6.below bm) ⟨⟨c51, c52⟩, c61, c62⟩ ⟨Xg4.out.tc, Xg4.out.c1m⟩ XhnG.out Xhpp.out (fun k hk => by have := XhF.out k hk; omega)
          ⟨bb6.size, l5, by have := bb5.size; omega, fun i hi => ⟨m5 i hi, by have := m6 i hi; have := bb5.size; omega⟩⟩ bb7.size
          ⟨⟨by have := f5.lt; have := b6.size; omega, by have := f6.lt; omega⟩, fun i hi => ⟨by have := (f5.set i hi).lt; have := b6.size; omega, by have := (f5.set i hi).lt; omega, by have := (f6.set i hi).lt; omega, by have := m6 i hi; have := f5.lt; omega, fun j hj => by have := m6 j hj; have := (f5.set i hi).lt; omega⟩⟩
        have bx := bb7.trans (((Below.refl _ (w6.alloc (.cells mc 4))).alloc (Nat.le_refl _) (.cells #[.slice A1 T c1, .slice A2 N c2, .slice A3 R c3, .int .i64 st, RowV w6.heap.size (p + 1), .slice (some ⟨gb, 0, none⟩) (p + 1) cb, .slice (some ⟨gh, 0, none⟩) (p + 1) ch] 117)).mono bb7.size)
        rw [World.size_alloc] at RM
        have XRM := hide RM
        have Xbx := hide bx
        clear RM bx
        go_wp2_with fail
        go_meet
        exact ⟨_, rfl, XRM.out, rfl, rfl, hzz, Xbx.out⟩
    case rest =>
      obtain ⟨q, rfl, f8, hqT, hqn, hqz, b8⟩ := hcut
      have t8 : ROfSt w wc F A1 c1 A2 c2 A3 c3 T N R st G q noBits (fun _ => noBits) (fun _ => noBits) := ⟨Xg4.out.below b8, f8, hqz, Xhb4.out.trans (b8.mono Xhb4.out.size)⟩
      have hqnG : q.n = topN G := by rw [hqn]; exact XhnG.out.1
      have hqm : q.m = T + 1 := by rw [f8.mT, hqT]
      have hn16 : q.n ≤ 4096 := f8.sz.1
      clear f8 b8 q0 q1 q2 q3 Xhb4 Xg4 Xcr Xhmc XhBnew hmk hwp hwT hqz hzz
      have Xt8 := hide t8
      have XhqT := hide hqT
      have Xhqn := hide hqn
      have XhqnG := hide hqnG
      have Xhqm := hide hqm
      have Xhn16 := hide hn16
      clear t8 hqT hqn hqnG hqm hn16
      go_wp2_with fail
      go_loopw [5] (fun i wr => ∃ k : Nat, k ≤ T + 1 ∧ i = .int .i64 k ∧ ROfSt w wr F A1 c1 A2 c2 A3 c3 T N R st G q noBits (startB k) (fun _ => noBits)) (fun i _ => T + 1 - (intOf i).toNat)
      case atStart => exact ⟨0, Nat.zero_le _, rfl, by rw [startB_zero]; exact Xt8.out⟩
      case round =>
        clear Xt8
        obtain ⟨k, hk, rfl, t⟩ := hrel
        obtain ⟨q0, q1, q2, q3⟩ := t.g.cells
        have tc1 := t.g.tc
        have tc2 := t.g.c1m
        by_cases hlt : k < T + 1
        · have hlt' : (k : Int) ≤ (T : Int) := by omega
          have hkn : k < q.n := by have := Xhp.out; have := Xhqn.out; omega
          have hkn2 : (k : Int) < (q.n : Int) := by omega
          have hkm : (k : Int) < (q.m : Int) := by have := Xhqm.out; omega
          have s5 := t.f.cells.2.2.1
          have hpk := t.f.bgn.cell k hkn
          obtain ⟨⟨⟨d1, d2⟩, d3, d4⟩, -⟩ := t.f.cap
          have hrow := t.f.bgn.set k hkn
          have hkm' : k < q.m := by omega
          have hce := hrow.cell hkm'
          have hfr := hrow.frozen k
          have hset := hrow.put hkm' true (g := putSet (T + 1) (startB k k) (k : Int)) (fun t => by have := can_step (n := T + 1) (e := startB k k) (li := k) (by omega) true t; simpa using this)
          have hts : Touch (fun j => j = q.psb k) wr (wr.setCell ⟨q.psb k, k, none⟩ (.bool true)) := (Touch.refl (fun j => j = q.psb k) wr).setCell (p := ⟨q.psb k, k, none⟩) (fun _ => rfl) _
          have f9 := t.f.putB hkn hset hts
          have t10 := t.set XhF.out f9 hts (fun j hj => by have := (t.f.zs.2.2.2.2 k hkn).1; omega)
          rw [startB_put (by omega)] at t10
          have hm4 : (q.m : Int) ≤ 4096 := by have := t.f.sz.2.1; omega
          clear hrow hset hts f9
          obtain ⟨w9, hw9⟩ : ∃ w9, w9 = wr.setCell ⟨q.psb k, k, none⟩ (.bool true) := ⟨_, rfl⟩
          rw [← hw9] at t10
          have Xt := hide t
          have Xt10 := hide t10
          have Xhw9 := hide hw9
          clear t t10 hw9
          go_wp2_with fail
          rw [← Xhw9.out]
          go_roundw
          case rel => exact ⟨k + 1, by omega, by go_num, Xt10.out⟩
          case measure => simp [intOf]; omega
        · have hlt' : ¬ (k : Int) ≤ (T : Int) := by omega
          obtain rfl : k = T + 1 := by omega
          have t11 := t
          clear hk hlt t
          have hsd := startB_sound G
          rw [XhT.out] at hsd
          have hbs : ∀ t, t ≤ T → startB (T + 1) t t = true := startB_base
          obtain ⟨n0, hn0⟩ : ∃ n0, n0 = measB (topN G) (T + 1) noBits (startB (T + 1)) + 1 := ⟨_, rfl⟩
          have Xt11 := hide t11
          have Xhsd := hide hsd
          have Xhbs := hide hbs
          have Xhn0 := hide hn0
          clear t11 hsd hbs hn0
          go_wp2_with fail
          clear q0 q1 q2 q3 tc1 tc2
          go_loopg [6] n0 (fun κ more wr => ∃ (e : Nat → Bool) (bg : Nat → Nat → Bool) (m : Bool), more = .bool m ∧ ROfSt w wr F A1 c1 A2 c2 A3 c3 T N R st G q e bg (fun _ => noBits) ∧ SoundB G e bg ∧ (∀ t, t ≤ T → bg t t = true) ∧ (m = false → ∀ r ∈ G.rules, closedB G e bg r) ∧ (m = true → measB (topN G) (T + 1) e bg + 1 ≤ κ))
          case atStart => exact ⟨noBits, startB (T + 1), true, rfl, Xt11.out, Xhsd.out, Xhbs.out, fun h => (by cases h), fun _ => Nat.le_of_eq Xhn0.out.symm⟩
          case round =>
            clear Xt11 Xhsd Xhbs Xhn0
            obtain ⟨e, bg, m, rfl, t, hsd, hbs, hm1, hm2⟩ := hrel
            cases m with
            | false =>
              have hcl := hm1 rfl
              clear hm1 hm2
              have hee : e = empB G := emp_set Xhk.out hsd hcl (by have := t.f.can.high; rw [XhqnG.out] at this; exact this)
              have hbb : ∀ i, i < q.n → begB G i = bg i := fun i hi => (beg_set (by rw [XhT.out]; exact hbs) hsd hcl (by rw [← XhqnG.out]; exact hi)).symm
              have t2 : ROfSt w wr F A1 c1 A2 c2 A3 c3 T N R st G q (empB G) (begB G) (fun _ => noBits) := ⟨t.g, (hee ▸ t.f).extB hbb, t.z, t.b⟩
              obtain ⟨hs0, hs1⟩ : 0 ≤ st ∧ st < topN G := by have := Xhk.out.st; rw [isNon_iff] at this; unfold topN; omega
              obtain ⟨si, rfl⟩ := Int.eq_ofNat_of_zero_le hs0
              have hsi : si < q.n := by have := XhqnG.out; omega
              have hsi2 : (si : Int) < (q.n : Int) := by omega
              have t2d := t2.below ((Below.refl _ wr).drew)
              have s6 := t2.f.cells.2.2.2
              have hp4 := t2.f.bhd.cell si hsi
              have g3 := t2.g.cells.2.2.2
              have hm0 : 0 < q.m := by have := Xhqm.out; omega
              have hm02 : (0 : Int) < (q.m : Int) := by omega
              have hm4 : (q.m : Int) ≤ 4096 := by have := t2.f.sz.2.1; omega
              have hce := t2.f.bhd.set si hsi |>.cell hm0
              have hcd := t2d.f.bhd.set si hsi |>.cell hm0
              have hfr := t2d.f.bhd.set si hsi |>.frozen 0
              have hst := startH_sound Xhk.out
              rw [Int.toNat_natCast] at hst
              obtain ⟨hst1, hst2⟩ := hst
              obtain ⟨n1, hn1⟩ : ∃ n1, n1 = unsetF (startH si) (T + 1) (topN G) + 1 := ⟨_, rfl⟩
              have hset := (t2d.f.bhd.set si hsi).put hm0 true (g := putSet (T + 1) noBits ((0 : Nat) : Int)) (fun t => by have := can_step (n := T + 1) (e := noBits) (li := 0) (by omega) true t; simpa using this)
              have hts : Touch (fun j => j = q.psh si) wr.drew (wr.drew.setCell ⟨q.psh si, 0, none⟩ (.bool true)) := (Touch.refl (fun j => j = q.psh si) wr.drew).setCell (p := ⟨q.psh si, 0, none⟩) (fun _ => rfl) _
              have f9 := t2d.f.putH hsi hset hts
              have tcc := t2d.set XhF.out f9 hts (fun j hj => by have := (t2d.f.zs.2.2.2.2 si hsi).2; omega)
              rw [show setF (fun _ => noBits) si (putSet (T + 1) noBits ((0 : Nat) : Int)) = startH si from startH_put] at tcc
              obtain ⟨⟨-, d1, d2⟩, -⟩ := t2.f.cap
              clear hs0 hs1 t hsd hcl hbs hee hbb hset hts f9
              have Xt2 := hide t2
              have Xt2d := hide t2d
              have Xhst1 := hide hst1
              have Xhst2 := hide hst2
              have Xhn1 := hide hn1
              have Xtcc := hide tcc
              clear t2 t2d hst1 hst2 hn1 tcc
              go_wp2_with fail
              refine region_tail 9 (by kernel_rfl) (by kernel_rfl) ?_
              simp only [List.take_succ_cons, List.take_zero, List.drop_succ_cons, List.drop_zero]
              repeat still_step
              refine wpStill_nil ?_
              go_wp2_with fail
              clear s6 hp4 g3 hce hcd hfr d1 d2 Xt2 Xt2d
              go_loopg [11] n1 (fun κ more wr => ∃ (bh : Nat → Nat → Bool) (m : Bool), more = .bool m ∧ ROfSt w wr F A1 c1 A2 c2 A3 c3 T N R (si : Int) G q (empB G) (begB G) bh ∧ SoundH G (si : Int) bh ∧ famI (topN G) bh (si : Int) 0 = true ∧ (m = false → ∀ r ∈ G.rules, closedH G bh r) ∧ (m = true → unsetF bh (T + 1) (topN G) + 1 ≤ κ))
              case atStart => exact ⟨startH si, true, rfl, Xtcc.out, Xhst1.out, Xhst2.out, fun h => (by cases h), fun _ => Nat.le_of_eq Xhn1.out.symm⟩
              case round =>
                clear Xtcc Xhst1 Xhst2 Xhn1
                obtain ⟨bh, m, rfl, t, hsd, hbs, hm1, hm2⟩ := hrel
                cases m with
                | false =>
                  have hcl := hm1 rfl
                  have hbb : ∀ i, i < q.n → behB G (si : Int) i = bh i := fun i hi => (beh_set hbs hsd hcl (by rw [← XhqnG.out]; exact hi)).symm
                  have fin := Xhyes.out wr q (by first | rfl | trivial) (t.f.extH hbb) (by have := t.z; omega) t.b
                  clear hm1 hm2 hcl hbb
                  have Xt := hide t
                  have Xhsd := hide hsd
                  have Xhbs := hide hbs
                  have Xfin := hide fin
                  clear t hsd hbs fin
                  go_wp2_with fail
                  go_ret
                  exact Xfin.out
                | true =>
                  have hκ := hm2 rfl
                  clear hm1 hm2
                  have bp := HPass.begin (M := T + 1) hsd hbs
                  clear hbs
                  have Xhsd := hide hsd
                  have Xhκ := hide hκ
                  have Xt := hide t
                  have Xbp := hide bp
                  clear hsd hκ t bp
                  go_wp2_with fail
                  go_loopw [11, 12] (fun more i wr => ∃ (j : Nat) (bh' : Nat → Nat → Bool) (m : Bool), j ≤ R ∧ i = .int .i64 j ∧ more = .bool m ∧ ROfSt w wr F A1 c1 A2 c2 A3 c3 T N R (si : Int) G q (empB G) (begB G) bh' ∧ HPass G (si : Int) (T + 1) bh j bh' m) (fun _ i _ => R - (intOf i).toNat)
                  case atStart => exact ⟨0, bh, false, Nat.zero_le _, rfl, rfl, Xt.out, Xbp.out⟩
                  case round =>
                    clear Xt Xhsd Xbp
                    obtain ⟨j, bh', m, hj, rfl, rfl, t, bp⟩ := hrel
                    obtain ⟨q0, q1, q2, q3⟩ := t.g.cells
                    have r0 := t.g.rs
                    have r1 := t.g.rc
                    have r2 := t.g.c3m
                    by_cases hlt : j < R
                    · obtain ⟨bb, off, l, x, A, nx, c, rfl, hbl, hx, h0, h1, hr, hnx, hnc, hcm⟩ := t.g.rule hlt
                      have hj' : (j : Int) < (R : Int) := by omega
                      have hll := Xhk.out.left (List.mem_of_getElem? hx)
                      simp only at hll
                      rw [← XhqnG.out] at hll
                      have hz := t.z
                      have hxr : ∀ y ∈ x, 1 ≤ y ∧ y < q.n := fun y hy => by have := (Xhk.out.k _ (List.mem_of_getElem? hx)).2 y hy; rw [XhqnG.out]; unfold topN; omega
                      have cl := ref11_behind t.f hr (fun k hk => by have := XhF.out k hk; omega) hll hxr
                      clear hll hnx hz hxr
                      have Xcl := hide cl
                      have Xhx := hide hx
                      have Xt := hide t
                      have Xbp := hide bp
                      have Xhr := hide hr
                      clear cl hx t bp hr
                      go_wp2_with fail
                      with_reducible refine Xcl.out.mono ?_
                      rintro ee wb ⟨bh2, m2, rfl, fb2, hst, tb⟩
                      have tb2 := Xt.out.set XhF.out fb2 tb (fun k hk => by obtain ⟨i, hi, rfl⟩ := hk; exact (Xt.out.f.zs.2.2.2.2 i hi).2)
                      rw [XhqnG.out, Xhqm.out] at hst
                      have bs := Xbp.out.step Xhk.out Xhx.out hst
                      clear h0 h1 tb hst fb2 Xcl Xt Xhr q0 q1 q2 q3
                      cases m2
                      all_goals
                        simp only [Bool.or_true, Bool.or_false] at bs
                        have Xbs := hide bs
                        have Xtb2 := hide tb2
                        clear bs tb2
                        go_wp2_with fail
                        go_roundw
                        case rel => exact ⟨j + 1, _, _, by omega, by go_num, rfl, Xtb2.out, Xbs.out⟩
                        case measure => simp [intOf]; omega
                    · obtain rfl : j = R := by omega
                      have hlt' : ¬ (j : Int) < (j : Int) := by omega
                      clear hj hlt
                      cases m with
                      | false =>
                        have hcl := bp.closed XhR.out.symm
                        have hsd2 := bp.sound
                        have hbs2 := bp.start
                        have Xt := hide t
                        have Xhcl := hide hcl
                        have Xhsd2 := hide hsd2
                        have Xhbs2 := hide hbs2
                        have Xbp := hide bp
                        clear t hcl hsd2 hbs2 bp
                        go_wp2_with fail
                        go_roundg 0
                        case measure => have := Xhκ.out; omega
                        case rel => exact ⟨bh', false, rfl, Xt.out, Xhsd2.out, Xhbs2.out, fun _ => Xhcl.out, fun h => (by cases h)⟩
                      | true =>
                        have hu := bp.grow rfl
                        have hsd2 := bp.sound
                        have hbs2 := bp.start
                        have hm : unsetF bh' (T + 1) (topN G) + 1 < gk := by have := Xhκ.out; omega
                        have Xt := hide t
                        have Xhsd2 := hide hsd2
                        have Xhbs2 := hide hbs2
                        have Xbp := hide bp
                        have Xhu := hide hu
                        have Xhm := hide hm
                        clear t hsd2 hbs2 bp hu hm
                        go_wp2_with fail
                        go_roundg (unsetF bh' (T + 1) (topN G) + 1)
                        case measure => exact Xhm.out
                        case rel => exact ⟨bh', true, rfl, Xt.out, Xhsd2.out, Xhbs2.out, fun h => (by cases h), fun _ => Nat.le_refl _⟩
            | true =>
              have hκ := hm2 rfl
              clear hm1 hm2
              have bp := BPass.start (M := T + 1) hsd (by rw [XhT.out]; exact hbs)
              clear hbs
              have Xhsd := hide hsd
              have Xhκ := hide hκ
              have Xt := hide t
              have Xbp := hide bp
              clear hsd hκ t bp
              go_wp2_with fail
              go_loopw [6, 7] (fun more i wr => ∃ (j : Nat) (e' : Nat → Bool) (bg' : Nat → Nat → Bool) (m : Bool), j ≤ R ∧ i = .int .i64 j ∧ more = .bool m ∧ ROfSt w wr F A1 c1 A2 c2 A3 c3 T N R st G q e' bg' (fun _ => noBits) ∧ BPass G (T + 1) e bg j e' bg' m) (fun _ i _ => R - (intOf i).toNat)
              case atStart => exact ⟨0, e, bg, false, Nat.zero_le _, rfl, rfl, Xt.out, Xbp.out⟩
              case round =>
                clear Xt Xhsd Xbp
                obtain ⟨j, e', bg', m, hj, rfl, rfl, t, bp⟩ := hrel
                obtain ⟨q0, q1, q2, q3⟩ := t.g.cells
                have r0 := t.g.rs
                have r1 := t.g.rc
                have r2 := t.g.c3m
                by_cases hlt : j < R
                · obtain ⟨bb, off, l, x, A, nx, c, rfl, hbl, hx, h0, h1, hr, hnx, hnc, hcm⟩ := t.g.rule hlt
                  have hj' : (j : Int) < (R : Int) := by omega
                  have hll := Xhk.out.left (List.mem_of_getElem? hx)
                  simp only at hll
                  obtain ⟨li, rfl⟩ := Int.eq_ofNat_of_zero_le hll.1
                  have hli : li < q.n := by have := XhqnG.out; omega
                  have hli2 : (li : Int) < (q.n : Int) := by omega
                  have cb := ref11_begins t.f hr t.g.gram.lt
                  obtain ⟨g, hg⟩ : ∃ g, g = lineB (hasI q.n e') (famI q.n bg') x := ⟨_, rfl⟩
                  obtain ⟨f, hf⟩ : ∃ f, f = joinL (bg' li) (hasI q.n e') (famI q.n bg') x := ⟨_, rfl⟩
                  have hfg : f = fun t => bg' li t || g t := by rw [hf, hg]; rfl
                  obtain ⟨m1, hm1⟩ : ∃ m1, m1 = moreB q.m (bg' li) f := ⟨_, rfl⟩
                  obtain ⟨al, hal⟩ : ∃ al, al = x.all (hasI q.n e') := ⟨_, rfl⟩
                  rw [← hg, ← hal] at cb
                  have bs := bp.step Xhk.out hx (by have := t.f.hiB; rw [XhqnG.out, Xhqm.out] at this; exact this)
                  simp only [Int.toNat_natCast] at bs
                  have e2 : stepB G e' bg' ((li : Int), x) = setF bg' li f := by rw [hf, XhqnG.out]; rfl
                  have e1 : stepE G e' ((li : Int), x) = if al then putSet q.n e' (li : Int) else e' := by rw [hal, XhqnG.out]; rfl
                  rw [e1, e2, ← XhqnG.out, ← hal, ← hf, ← Xhqm.out, ← hm1, putAns_nat hli] at bs
                  rw [Xhqm.out] at bs
                  have hbl2 := t.g.gram.lt
                  obtain ⟨wz, hwz⟩ : ∃ wz, wz = wr := ⟨_, rfl⟩
                  clear hll hnx e1 e2
                  have Xcb := hide cb
                  have Xhf := hide hf
                  have Xhm1 := hide hm1
                  have Xhal := hide hal
                  have Xhg := hide hg
                  have Xhfg := hide hfg
                  have Xbs := hide bs
                  have Xhx := hide hx
                  have Xt := hide t
                  have Xbp := hide bp
                  have Xhwz := hide hwz
                  have Xhr := hide hr
                  clear cb hf hm1 hal hg hfg bs hx t bp hwz hr
                  go_wp2_with fail
                  refine Xcb.out.mono ?_
                  rintro ee w5 ⟨b, rfl, hs5, hbge, b5⟩
                  have t5 := Xt.out.below b5
                  have h05 := (b5.cell (p := ⟨bb, off + j * 2, none⟩) hbl).trans h0
                  obtain ⟨q0', q1', q2', q3'⟩ := t5.g.cells
                  have s5 := t5.f.cells.2.2.1
                  have s4 := t5.f.cells.2.1
                  have hpl := t5.f.bgn.cell li hli
                  obtain ⟨⟨⟨d1, d2⟩, d3, d4⟩, -⟩ := t5.f.cap
                  have cp := ref11_put (t5.f.bgn.set li hli) hs5 t5.f.sz.2.1 (fun e => by have := (t5.f.hi.2.2.2 li hli).1; have := Xt.out.f.blk.lt; omega)
                  rw [← Xhfg.out] at cp
                  unfold RowPutPost at cp
                  rw [← Xhm1.out] at cp
                  clear q0 q1 q2 q3 h0 h1 Xcb hbge hs5 b5
                  have Xt5 := hide t5
                  have Xcp := hide cp
                  clear t5 cp
                  go_wp2_with fail
                  refine Xcp.out.mono ?_
                  rintro ee w6 ⟨rfl, hs6, t6⟩
                  have f6 := Xt5.out.f.putB hli hs6 t6
                  have t66 := Xt5.out.set XhF.out f6 t6 (fun j hj => by have := (Xt5.out.f.zs.2.2.2.2 li hli).1; omega)
                  have t6d := t66.below ((Below.refl _ w6).drew)
                  have s46 := t66.f.cells.2.1
                  have hce := t66.f.can.cell hli
                  have hcd := t6d.f.can.cell hli
                  have hfr := t6d.f.can.frozen li
                  have hset := t6d.f.can.put hli (e' li || al) (can_step hli al)
                  have hts : Touch (fun j => j = q.gi) w6.drew (w6.drew.setCell ⟨q.gi, li, none⟩ (.bool (e' li || al))) := (Touch.refl (fun j => j = q.gi) w6.drew).setCell (p := ⟨q.gi, li, none⟩) (fun _ => rfl) _
                  have f7 := t6d.f.putE hset hts
                  have t7 := t6d.set XhF.out f7 hts (fun j hj => by have := t6d.f.zs.2.1; omega)
                  have bs2 := Xbs.out
                  have hn4 : (q.n : Int) ≤ 9223372036854775807 := by have := Xhn16.out; omega
                  clear h05 q0' q1' q2' q3' s5 s4 hpl d1 d2 d3 d4 hs6 t6 f6 hset hts f7 Xcp Xt5 Xbs
                  cases hel : e' li
                  all_goals
                    rw [hel] at hce hcd t7 bs2
                    cases al
                    all_goals
                      simp only [Bool.false_eq_true, if_false, if_true, Bool.or_false, Bool.or_true] at t7
                      cases m1
                      all_goals
                        simp only [Bool.false_eq_true, if_false, if_true, Bool.and_false, Bool.and_true, Bool.not_true, Bool.not_false, Bool.or_false, Bool.or_true] at bs2
                        have Xt66 := hide t66
                        have Xt6d := hide t6d
                        have Xt7 := hide t7
                        have Xbs2 := hide bs2
                        have Xhel := hide hel
                        clear t66 t6d t7 bs2 hel
                        go_wp2_with fail
                        refine region_tail 16 (by kernel_rfl) (by kernel_rfl) ?_
                        simp only [List.take_succ_cons, List.take_zero, List.drop_succ_cons, List.drop_zero]
                        repeat still_step
                        refine wpStill_nil ?_
                        go_wp2_with fail
                        go_roundw
                        case rel => exact ⟨j + 1, _, _, _, by omega, by go_num, rfl, Xt7.out, Xbs2.out⟩
                        case measure => simp [intOf]; omega
                · obtain rfl : j = R := by omega
                  have hlt' : ¬ (j : Int) < (j : Int) := by omega
                  clear hj hlt
                  cases m with
                  | false =>
                    have hcl := bp.closed XhR.out.symm
                    have hsd2 := bp.sound
                    have hbs2 := bp.base
                    rw [XhT.out] at hbs2
                    have Xt := hide t
                    have Xhcl := hide hcl
                    have Xhsd2 := hide hsd2
                    have Xhbs2 := hide hbs2
                    have Xbp := hide bp
                    clear t hcl hsd2 hbs2 bp
                    go_wp2_with fail
                    go_roundg 0
                    case measure => have := Xhκ.out; omega
                    case rel => exact ⟨e', bg', false, rfl, Xt.out, Xhsd2.out, Xhbs2.out, fun _ => Xhcl.out, fun h => (by cases h)⟩
                  | true =>
                    have hu := bp.grow rfl
                    have hsd2 := bp.sound
                    have hbs2 := bp.base
                    rw [XhT.out] at hbs2
                    have hm : measB (topN G) (T + 1) e' bg' + 1 < gk := by have := Xhκ.out; omega
                    have Xt := hide t
                    have Xhsd2 := hide hsd2
                    have Xhbs2 := hide hbs2
                    have Xbp := hide bp
                    have Xhu := hide hu
                    have Xhm := hide hm
                    clear t hsd2 hbs2 bp hu hm
                    go_wp2_with fail
                    go_roundg (measB (topN G) (T + 1) e' bg' + 1)
                    case measure => exact Xhm.out
                    case rel => exact ⟨e', bg', true, rfl, Xt.out, Xhsd2.out, Xhbs2.out, fun h => (by cases h), fun _ => Nat.le_refl _⟩
end Go.Proofs.Ytejjaabkbkkjlaa

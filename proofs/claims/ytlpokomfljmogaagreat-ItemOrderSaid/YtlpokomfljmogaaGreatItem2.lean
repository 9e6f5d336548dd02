/- Items: right, behind. -/
import Derived.Test.YtlpokomfljmogaaGreatItem1
import Derived.Test.YtlpokomfljmogaaGreatG8
namespace Go.Proofs.YtlpokomfljmogaaGreat
set_option linter.unusedVariables false
open Go.RowKit
attribute [local irreducible] wpStill wpOne wpPh

abbrev ItV (x : It) : Value := .agg #[.int .i64 x.1, .int .i64 x.2]
/-- the grammar and the item, each in a box -/
theorem two_boxes {w : World} {F : Nat → Prop} {A1 : Option Addr} {c1 : Nat} {A2 : Option Addr} {c2 : Nat} {A3 : Option Addr} {c3 T N R : Nat} {G : GramD} (h : IsGram w F (.slice A1 T c1) (.slice A2 N c2) (.slice A3 R c3) G) (st a d : Int) :
    ∃ w2, w2 = (w.alloc (.cells #[.slice A1 T c1, .slice A2 N c2, .slice A3 R c3, .int .i64 st] 25)).alloc (.cells #[.int .i64 a, .int .i64 d] 34) ∧ GBox w2 F w.heap.size A1 c1 A2 c2 A3 c3 T N R st G ∧ Blk w2 (w.heap.size + 1) 34 #[.int .i64 a, .int .i64 d] ∧ Below w.heap.size w w2 := by
  have g1 := GBox.new h st
  obtain ⟨w1, hw1⟩ : ∃ w1, w1 = w.alloc (.cells #[.slice A1 T c1, .slice A2 N c2, .slice A3 R c3, .int .i64 st] 25) := ⟨_, rfl⟩
  have hs : w1.heap.size = w.heap.size + 1 := by rw [hw1]; simp
  rw [← hw1] at g1
  have b1 : Below w.heap.size w w1 := by rw [hw1]; exact (Below.refl _ w).alloc (Nat.le_refl _) _
  have b2 : Below w1.heap.size w1 (w1.alloc (.cells #[.int .i64 a, .int .i64 d] 34)) := (Below.refl _ _).alloc (Nat.le_refl _) _
  refine ⟨_, rfl, ?_, ?_, ?_⟩
  · rw [← hw1]; exact g1.below b2
  · rw [← hw1, ← hs]; exact Blk.new _ _ _
  · rw [← hw1]; exact b1.trans (b2.mono b1.size)

set_option maxRecDepth 100000 in
set_option maxHeartbeats 2000000 in
theorem item_right {w : World} {F : Nat → Prop} {vt vn vr : Value} {G : GramD} (h : IsGram w F vt vn vr G) (st : Int) (x : It) :
    Calls Tryz.prog 60 #[GV vt vn vr st, ItV x] w (Quiet w (.bool (rightI G st x))) := by
  have n1 : (ruleOf G st x.1).2 = (ruleOf G st x.1).2 := rfl
  have n2 := n1
  obtain ⟨A1, c1, A2, c2, A3, c3, rfl, rfl, rfl, -⟩ := h.slices
  obtain ⟨a, d⟩ := x
  obtain ⟨w2, hw2, g2, k2, hb2⟩ := two_boxes h st a d
  have hc := gram_rule g2.gram st a
  obtain ⟨q0, q1, q2, q3⟩ := g2.cells
  have d0 := (k2.cell 0).trans rfl
  have d1 := (k2.cell 1).trans rfl
  have hv : rightI G st (a, d) = ((ruleOf G st a).2 && (decide (0 ≤ d) && decide (d ≤ (ruleOf G st a).1.2.length))) := rfl
  generalize ruleOf G st a = r at *
  obtain ⟨⟨l, xs⟩, ok⟩ := r
  (try simp only at hv n1 n2)
  rw [hw2] at hc q0 q1 q2 q3 d0 d1
  generalize G.terms.length = T at *
  generalize G.nons.length = N at *
  generalize G.rules.length = R at *
  have Xg2 := hide g2
  have Xk2 := hide k2
  have Xhb2 := hide hb2
  have Xhc := hide hc
  have Xhv := hide hv
  have Xh := hide h
  have Xn1 := hide n1
  have Xn2 := hide n2
  clear g2 k2 hb2 hc hv h n1 n2
  go_enter Tryz.func60, Tryz.ntmps60
  go_wp2_with fail
  refine Xhc.out.mono ?_
  rintro e w3 ⟨A, n, c, rfl, hrd, b3⟩
  rw [← hw2] at b3
  have hb3 := Xhb2.out.trans (b3.mono Xhb2.out.size)
  have k3 := Xk2.out.below b3 Xk2.out.lt
  clear hw2 q0 q1 q2 q3 d0 d1 Xhc
  obtain ⟨hn, hnc, hcm, -⟩ := RdI.at_ hrd
  obtain ⟨w4, hw4⟩ : ∃ w4, w4 = w3.alloc (.cells #[.int .i64 l, .slice A n c] 80) := ⟨_, rfl⟩
  have b4 : Below w3.heap.size w3 w4 := by rw [hw4]; exact (Below.refl _ _).alloc (Nat.le_refl _) _
  have k4 := k3.below b4 k3.lt
  have hb4 := hb3.trans (b4.mono hb3.size)
  have d0 := (k4.cell 0).trans rfl
  have d1 := (k4.cell 1).trans rfl
  have hrd4 := hrd.below b4 (fun b hb => hb)
  rw [← hn] at Xhv
  rw [hw4] at d0 d1
  clear hnc hcm hn b3 b4 k3 k4 hb3 Xk2 Xhb2 Xg2
  have Xhrd := hide hrd
  have Xhrd4 := hide hrd4
  have Xhb4 := hide hb4
  clear hrd hrd4 hb4
  cases ok with
  | false =>
    go_wp2_with fail
    go_ret
    rw [← hw4]
    exact ⟨ret_bool (by rw [Xhv.out]; rfl), Xhb4.out⟩
  | true =>
    by_cases h0 : (0 : Int) ≤ d
    · by_cases h1 : d ≤ (n : Int)
      · go_wp2_with fail
        go_ret
        rw [← hw4]
        exact ⟨ret_bool (by rw [Xhv.out, decide_eq_true h0, decide_eq_true h1]; rfl), Xhb4.out⟩
      · go_wp2_with fail
        go_ret
        rw [← hw4]
        exact ⟨ret_bool (by rw [Xhv.out, decide_eq_true h0, decide_eq_false (by omega)]; rfl), Xhb4.out⟩
    · go_wp2_with fail
      go_ret
      rw [← hw4]
      exact ⟨ret_bool (by rw [Xhv.out, decide_eq_false (by omega)]; rfl), Xhb4.out⟩
set_option maxRecDepth 100000 in
set_option maxHeartbeats 2000000 in
theorem ref12_right {w : World} {F : Nat → Prop} {vt vn vr : Value} {G : GramD} (h : IsGram w F vt vn vr G) (st : Int) (x : It) :
    Calls Tryz.prog 22 #[GV vt vn vr st, ItV x] w (Quiet w (.bool (rightI G st x))) := by
  have n1 : (ruleOf G st x.1).2 = (ruleOf G st x.1).2 := rfl
  have n2 := n1
  obtain ⟨A1, c1, A2, c2, A3, c3, rfl, rfl, rfl, -⟩ := h.slices
  obtain ⟨a, d⟩ := x
  obtain ⟨w2, hw2, g2, k2, hb2⟩ := two_boxes h st a d
  have hc := ref_rule g2.gram st a
  obtain ⟨q0, q1, q2, q3⟩ := g2.cells
  have d0 := (k2.cell 0).trans rfl
  have d1 := (k2.cell 1).trans rfl
  have hv : rightI G st (a, d) = ((ruleOf G st a).2 && (decide (0 ≤ d) && decide (d ≤ (ruleOf G st a).1.2.length))) := rfl
  generalize ruleOf G st a = r at *
  obtain ⟨⟨l, xs⟩, ok⟩ := r
  (try simp only at hv n1 n2)
  rw [hw2] at hc q0 q1 q2 q3 d0 d1
  generalize G.terms.length = T at *
  generalize G.nons.length = N at *
  generalize G.rules.length = R at *
  have Xg2 := hide g2
  have Xk2 := hide k2
  have Xhb2 := hide hb2
  have Xhc := hide hc
  have Xhv := hide hv
  have Xh := hide h
  have Xn1 := hide n1
  have Xn2 := hide n2
  clear g2 k2 hb2 hc hv h n1 n2
  go_enter Tryz.func22, Tryz.ntmps22
  go_wp2_with fail
  refine Xhc.out.mono ?_
  rintro e w3 ⟨A, n, c, rfl, hrd, b3⟩
  rw [← hw2] at b3
  have hb3 := Xhb2.out.trans (b3.mono Xhb2.out.size)
  have k3 := Xk2.out.below b3 Xk2.out.lt
  clear hw2 q0 q1 q2 q3 d0 d1 Xhc
  obtain ⟨hn, hnc, hcm, -⟩ := RdI.at_ hrd
  obtain ⟨w4, hw4⟩ : ∃ w4, w4 = w3.alloc (.cells #[.int .i64 l, .slice A n c] 80) := ⟨_, rfl⟩
  have b4 : Below w3.heap.size w3 w4 := by rw [hw4]; exact (Below.refl _ _).alloc (Nat.le_refl _) _
  have k4 := k3.below b4 k3.lt
  have hb4 := hb3.trans (b4.mono hb3.size)
  have d0 := (k4.cell 0).trans rfl
  have d1 := (k4.cell 1).trans rfl
  have hrd4 := hrd.below b4 (fun b hb => hb)
  rw [← hn] at Xhv
  rw [hw4] at d0 d1
  clear hnc hcm hn b3 b4 k3 k4 hb3 Xk2 Xhb2 Xg2
  have Xhrd := hide hrd
  have Xhrd4 := hide hrd4
  have Xhb4 := hide hb4
  clear hrd hrd4 hb4
  cases ok with
  | false =>
    go_wp2_with fail
    go_ret
    rw [← hw4]
    exact ⟨ret_bool (by rw [Xhv.out]; rfl), Xhb4.out⟩
  | true =>
    by_cases h0 : (0 : Int) ≤ d
    · by_cases h1 : d ≤ (n : Int)
      · go_wp2_with fail
        go_ret
        rw [← hw4]
        exact ⟨ret_bool (by rw [Xhv.out, decide_eq_true h0, decide_eq_true h1]; rfl), Xhb4.out⟩
      · go_wp2_with fail
        go_ret
        rw [← hw4]
        exact ⟨ret_bool (by rw [Xhv.out, decide_eq_true h0, decide_eq_false (by omega)]; rfl), Xhb4.out⟩
    · go_wp2_with fail
      go_ret
      rw [← hw4]
      exact ⟨ret_bool (by rw [Xhv.out, decide_eq_false (by omega)]; rfl), Xhb4.out⟩

def BehindPost (w : World) (r : Int × Bool) (e : Ending) (w' : World) : Prop := e = .returned (.tuple #[.int .i64 r.1, .bool r.2]) ∧ Below w.heap.size w w'
theorem behind_no {G : GramD} {st a d : Int} (h : (ruleOf G st a).2 = false ∨ d < 0 ∨ ((ruleOf G st a).1.2.length : Int) ≤ d) : behindI G st (a, d) = (0, false) := by
  unfold behindI rightI
  rw [if_neg]
  rintro ⟨h1, h2⟩
  simp only [Bool.and_eq_true, decide_eq_true_eq] at h1 h2
  rcases h with h | h | h
  · rw [h] at h1; exact absurd h1.1 (by simp)
  · omega
  · omega
theorem behind_yes {G : GramD} {st a : Int} {k : Nat} {s : Int} (h : (ruleOf G st a).2 = true) (hs : (ruleOf G st a).1.2[k]? = some s) : behindI G st (a, (k : Int)) = (s, true) := by
  have hk := (List.getElem?_eq_some_iff.1 hs).1
  unfold behindI rightI
  rw [if_pos, Int.toNat_natCast, hs]; rfl
  simp only [h, Bool.true_and, Bool.and_eq_true, decide_eq_true_eq]
  omega
set_option maxRecDepth 100000 in
set_option maxHeartbeats 2000000 in
theorem item_behind {w : World} {F : Nat → Prop} {vt vn vr : Value} {G : GramD} (h : IsGram w F vt vn vr G) (st : Int) (x : It) :
    Calls Tryz.prog 59 #[GV vt vn vr st, ItV x] w (BehindPost w (behindI G st x)) := by
  have n1 : ∀ a d, ((ruleOf G st a).2 = false ∨ d < 0 ∨ ((ruleOf G st a).1.2.length : Int) ≤ d) → behindI G st (a, d) = (0, false) := fun a d => behind_no
  have n2 : ∀ (a d : Int) (k : Nat) (s : Int), d = k → (ruleOf G st a).2 = true → (ruleOf G st a).1.2[k]? = some s → behindI G st (a, d) = (s, true) := fun a d k s e h1 h2 => by rw [e]; exact behind_yes h1 h2
  have n1 := n1 x.1 x.2
  have n2 := n2 x.1 x.2
  obtain ⟨A1, c1, A2, c2, A3, c3, rfl, rfl, rfl, -⟩ := h.slices
  obtain ⟨a, d⟩ := x
  obtain ⟨w2, hw2, g2, k2, hb2⟩ := two_boxes h st a d
  have hc := gram_rule g2.gram st a
  obtain ⟨q0, q1, q2, q3⟩ := g2.cells
  have d0 := (k2.cell 0).trans rfl
  have d1 := (k2.cell 1).trans rfl
  have hv : rightI G st (a, d) = ((ruleOf G st a).2 && (decide (0 ≤ d) && decide (d ≤ (ruleOf G st a).1.2.length))) := rfl
  generalize ruleOf G st a = r at *
  obtain ⟨⟨l, xs⟩, ok⟩ := r
  (try simp only at hv n1 n2)
  rw [hw2] at hc q0 q1 q2 q3 d0 d1
  generalize G.terms.length = T at *
  generalize G.nons.length = N at *
  generalize G.rules.length = R at *
  have Xg2 := hide g2
  have Xk2 := hide k2
  have Xhb2 := hide hb2
  have Xhc := hide hc
  have Xhv := hide hv
  have Xh := hide h
  have Xn1 := hide n1
  have Xn2 := hide n2
  clear g2 k2 hb2 hc hv h n1 n2
  go_enter Tryz.func59, Tryz.ntmps59
  go_wp2_with fail
  refine Xhc.out.mono ?_
  rintro e w3 ⟨A, n, c, rfl, hrd, b3⟩
  rw [← hw2] at b3
  have hb3 := Xhb2.out.trans (b3.mono Xhb2.out.size)
  have k3 := Xk2.out.below b3 Xk2.out.lt
  clear hw2 q0 q1 q2 q3 d0 d1 Xhc
  obtain ⟨hn, hnc, hcm, -⟩ := RdI.at_ hrd
  obtain ⟨w4, hw4⟩ : ∃ w4, w4 = w3.alloc (.cells #[.int .i64 l, .slice A n c] 80) := ⟨_, rfl⟩
  have b4 : Below w3.heap.size w3 w4 := by rw [hw4]; exact (Below.refl _ _).alloc (Nat.le_refl _) _
  have k4 := k3.below b4 k3.lt
  have hb4 := hb3.trans (b4.mono hb3.size)
  have d0 := (k4.cell 0).trans rfl
  have d1 := (k4.cell 1).trans rfl
  have hrd4 := hrd.below b4 (fun b hb => hb)
  rw [← hn] at Xhv
  rw [hw4] at d0 d1
  clear Xhv
  clear hnc hcm b3 b4 k3 k4 hb3 Xk2 Xhb2 Xg2
  have Xhrd := hide hrd
  have Xhb4 := hide hb4
  have Xhn := hide hn
  clear hrd hb4 hn
  cases ok with
  | false =>
    have hf := Xn1.out (.inl rfl)
    have Xhf := hide hf
    clear hf
    go_wp2_with fail
    go_ret2
    rw [← hw4]
    exact ⟨by rw [Xhf.out]; rfl, Xhb4.out⟩
  | true =>
    by_cases h0 : d < 0
    · have hf := Xn1.out (.inr (.inl h0))
      have Xhf := hide hf
      clear hf
      go_wp2_with fail
      go_ret2
      rw [← hw4]
      exact ⟨by rw [Xhf.out]; rfl, Xhb4.out⟩
    · by_cases h1 : (n : Int) ≤ d
      · have hf := Xn1.out (.inr (.inr (by rw [← Xhn.out]; exact h1)))
        have Xhf := hide hf
        clear hf
        go_wp2_with fail
        go_ret2
        rw [← hw4]
        exact ⟨by rw [Xhf.out]; rfl, Xhb4.out⟩
      · obtain ⟨k, rfl⟩ := Int.eq_ofNat_of_zero_le (by omega : 0 ≤ d)
        have hk : k < n := by omega
        obtain ⟨-, -, -, hcell⟩ := RdI.at_ hrd4
        obtain ⟨b, off, rfl, -, hcc⟩ := hcell (by omega)
        obtain ⟨s, hs⟩ : ∃ s, xs[k]? = some s := ⟨_, List.getElem?_eq_getElem (by rw [← Xhn.out]; exact hk)⟩
        have hcs := hcc k s hs
        rw [hw4] at hcs
        have hf := Xn2.out k s rfl rfl hs
        clear hrd4 hcell hcc
        have Xhf := hide hf
        have Xhs := hide hs
        clear hf hs
        go_wp2_with fail
        go_ret2
        rw [← hw4]
        exact ⟨by rw [Xhf.out]; rfl, Xhb4.out⟩
set_option maxRecDepth 100000 in
set_option maxHeartbeats 2000000 in
theorem ref12_behind {w : World} {F : Nat → Prop} {vt vn vr : Value} {G : GramD} (h : IsGram w F vt vn vr G) (st : Int) (x : It) :
    Calls Tryz.prog 21 #[GV vt vn vr st, ItV x] w (BehindPost w (behindI G st x)) := by
  obtain ⟨A1, c1, A2, c2, A3, c3, rfl, rfl, rfl, -⟩ := h.slices
  obtain ⟨a, d⟩ := x
  obtain ⟨w2, hw2, g2, k2, hb2⟩ := two_boxes h st a d
  have hc := ref_rule g2.gram st a
  obtain ⟨q0, q1, q2, q3⟩ := g2.cells
  have d0 := (k2.cell 0).trans rfl
  have d1 := (k2.cell 1).trans rfl
  have cr : ∀ wr, GBox wr F w.heap.size A1 c1 A2 c2 A3 c3 G.terms.length G.nons.length G.rules.length st G → Calls Tryz.prog 22 #[GV (.slice A1 G.terms.length c1) (.slice A2 G.nons.length c2) (.slice A3 G.rules.length c3) st, .agg #[.int .i64 a, .int .i64 d]] wr (Quiet wr (.bool (rightI G st (a, d)))) := fun wr g => ref12_right g.gram st (a, d)
  have n0 : rightI G st (a, d) = false → behindI G st (a, d) = (0, false) := fun e => by unfold behindI; rw [if_neg (by rw [e]; simp)]
  have n1 : ((ruleOf G st a).1.2.length : Int) ≤ d → behindI G st (a, d) = (0, false) := fun e => behind_no (.inr (.inr e))
  have n2 : ∀ (k : Nat) (s : Int), d = k → (ruleOf G st a).2 = true → (ruleOf G st a).1.2[k]? = some s → behindI G st (a, d) = (s, true) := fun k s e h1 h2 => by rw [e]; exact behind_yes h1 h2
  have n3 : rightI G st (a, d) = true → (ruleOf G st a).2 = true ∧ 0 ≤ d := fun e => by
    unfold rightI at e
    simp only [Bool.and_eq_true, decide_eq_true_eq] at e
    exact ⟨e.1, e.2.1⟩
  generalize ruleOf G st a = r at *
  obtain ⟨⟨l, xs⟩, ok⟩ := r
  generalize rightI G st (a, d) = rt at *
  rw [hw2] at hc q0 q1 q2 q3 d0 d1
  generalize G.terms.length = T at *
  generalize G.nons.length = N at *
  generalize G.rules.length = R at *
  simp only at n1 n2 n3
  have Xg2 := hide g2
  have Xk2 := hide k2
  have Xhb2 := hide hb2
  have Xhc := hide hc
  have Xh := hide h
  have Xn0 := hide n0
  have Xn1 := hide n1
  have Xn2 := hide n2
  have Xn3 := hide n3
  have Xcr := hide cr
  clear g2 k2 hb2 hc h n0 n1 n2 n3 cr
  go_enter Tryz.func21, Tryz.ntmps21
  go_wp2_with fail
  refine Xhc.out.mono ?_
  rintro e w3 ⟨A, n, c, rfl, hrd, b3⟩
  rw [← hw2] at b3
  have hb3 := Xhb2.out.trans (b3.mono Xhb2.out.size)
  have k3 := Xk2.out.below b3 Xk2.out.lt
  have g3 := Xg2.out.below b3
  clear hw2 q0 q1 q2 q3 d0 d1 Xhc Xg2 Xk2 Xhb2
  obtain ⟨hn, hnc, hcm, -⟩ := RdI.at_ hrd
  obtain ⟨w4, hw4⟩ : ∃ w4, w4 = w3.alloc (.cells #[.int .i64 l, .slice A n c] 80) := ⟨_, rfl⟩
  have b4 : Below w3.heap.size w3 w4 := by rw [hw4]; exact (Below.refl _ _).alloc (Nat.le_refl _) _
  have k4 := k3.below b4 k3.lt
  have g4 := g3.below b4
  have r4 : Blk w4 w3.heap.size 80 #[.int .i64 l, .slice A n c] := by rw [hw4]; exact Blk.new _ _ _
  have hb4 := hb3.trans (b4.mono hb3.size)
  have d0 := (k4.cell 0).trans rfl
  have d1 := (k4.cell 1).trans rfl
  have hrd4 := hrd.below b4 (fun b hb => hb)
  obtain ⟨q0, q1, q2, q3⟩ := g4.cells
  have hc4 := Xcr.out _ g4
  rw [hw4] at d0 d1 q0 q1 q2 q3 hc4
  clear Xcr b3 k3 g3 hb3 g4
  have Xk4 := hide k4
  have Xr4 := hide r4
  have Xhb4 := hide hb4
  have Xhrd4 := hide hrd4
  have Xhc4 := hide hc4
  have Xhn := hide hn
  have Xhrd := hide hrd
  clear k4 r4 hb4 hrd4 hc4 hn hrd
  go_wp2_with fail
  with_reducible refine Xhc4.out.mono ?_
  rintro e w5 ⟨rfl, b5⟩
  rw [← hw4] at b5
  have k5 := Xk4.out.below b5 Xk4.out.lt
  have r5 := Xr4.out.below b5 Xr4.out.lt
  have hb5 := Xhb4.out.trans (b5.mono Xhb4.out.size)
  have hrd5 := Xhrd4.out.below b5 (fun b hb => Nat.lt_of_lt_of_le hb b4.size)
  have d0 := (k5.cell 0).trans rfl
  have d1 := (k5.cell 1).trans rfl
  have e0 := (r5.cell 0).trans rfl
  have e1 := (r5.cell 1).trans rfl
  clear hw4 b4 b5 k5 r5 Xk4 Xr4 Xhb4 Xhrd4 Xhc4 Xhrd q0 q1 q2 q3
  have Xhb5 := hide hb5
  clear hb5
  cases rt with
  | false =>
    have hf := Xn0.out rfl
    have Xhf := hide hf
    have Xhrd5 := hide hrd5
    clear hf hrd5
    go_wp2_with fail
    go_ret2
    exact ⟨by rw [Xhf.out]; rfl, Xhb5.out⟩
  | true =>
    obtain ⟨h1, h0⟩ := Xn3.out rfl
    by_cases h2 : (n : Int) ≤ d
    · have hf := Xn1.out (by rw [← Xhn.out]; exact h2)
      have Xhf := hide hf
      have Xhrd5 := hide hrd5
      have Xh1 := hide h1
      clear hf hrd5 h1
      go_wp2_with fail
      go_ret2
      exact ⟨by rw [Xhf.out]; rfl, Xhb5.out⟩
    · obtain ⟨k, rfl⟩ := Int.eq_ofNat_of_zero_le h0
      have hk : k < n := by omega
      obtain ⟨-, -, -, hcell⟩ := RdI.at_ hrd5
      obtain ⟨b, off, rfl, -, hcc⟩ := hcell (by omega)
      obtain ⟨s, hs⟩ : ∃ s, xs[k]? = some s := ⟨_, List.getElem?_eq_getElem (by rw [← Xhn.out]; exact hk)⟩
      have hcs := hcc k s hs
      have hf := Xn2.out k s rfl h1 hs
      clear hrd5 hcell hcc
      have Xhf := hide hf
      have Xhs := hide hs
      have Xh1 := hide h1
      clear hf hs h1
      go_wp2_with fail
      go_ret2
      exact ⟨by rw [Xhf.out]; rfl, Xhb5.out⟩

/-! ### whether a grammar may be -/
def mayB (G : GramD) (st : Int) : Bool := decide (checkOf G st = 0)
set_option maxRecDepth 100000 in
set_option maxHeartbeats 2000000 in
theorem item_may {w : World} {F : Nat → Prop} {vt vn vr : Value} {G : GramD} (h : IsGram w F vt vn vr G) (st : Int) :
    Calls Tryz.prog 58 #[GV vt vn vr st] w (Quiet w (.bool (mayB G st))) := by
  obtain ⟨A1, c1, A2, c2, A3, c3, rfl, rfl, rfl, -⟩ := h.slices
  obtain ⟨w1, hw1⟩ : ∃ w1, w1 = w.alloc (.cells #[.slice A1 G.terms.length c1, .slice A2 G.nons.length c2, .slice A3 G.rules.length c3, .int .i64 st] 25) := ⟨_, rfl⟩
  have g1 := GBox.new h st
  have b1 : Below w.heap.size w w1 := by rw [hw1]; exact (Below.refl _ w).alloc (Nat.le_refl _) _
  rw [← hw1] at g1
  have hc := gram_check g1.gram st
  have hm : mayB G st = decide (checkOf G st = 0) := rfl
  obtain ⟨q0, q1, q2, q3⟩ := g1.cells
  generalize checkOf G st = cz at *
  generalize G.terms.length = T at *
  generalize G.nons.length = N at *
  generalize G.rules.length = R at *
  rw [hw1] at hc q0 q1 q2 q3
  have Xhc := hide hc
  have Xb1 := hide b1
  have Xg1 := hide g1
  have Xh := hide h
  have Xhm := hide hm
  clear hc b1 g1 h hm
  go_enter Tryz.func58, Tryz.ntmps58
  go_wp2_with fail
  with_reducible refine Xhc.out.mono ?_
  rintro e w2 ⟨rfl, b2⟩
  rw [← hw1] at b2
  clear hw1 q0 q1 q2 q3
  have hb2 := Xb1.out.trans (b2.mono Xb1.out.size)
  by_cases hz : cz = 0
  · subst hz
    go_wp2_with fail
    go_ret
    exact ⟨ret_bool (by rw [Xhm.out]; rfl), hb2⟩
  · have hz' : (cz == 0) = false := by simpa using hz
    go_wp2_with fail
    go_ret
    exact ⟨ret_bool (by rw [Xhm.out, decide_eq_false hz]), hb2⟩
end Go.Proofs.YtlpokomfljmogaaGreat

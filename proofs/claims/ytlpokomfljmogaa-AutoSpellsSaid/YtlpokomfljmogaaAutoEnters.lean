/- What the laws of the automaton ask: does a symbol stand ahead of each dot; is an item among some. -/
import Derived.Test.YtlpokomfljmogaaAuto21
import Derived.Test.YtlpokomfljmogaaAuto1
import Derived.Test.YtlpokomfljmogaaG8
namespace Go.Proofs.Ytlpokomfljmogaa
set_option linter.unusedVariables false
set_option linter.unusedSimpArgs false
open Go.RowKit
attribute [local irreducible] wpStill wpOne wpPh

set_option maxRecDepth 100000 in
set_option maxHeartbeats 2000000 in
theorem ref_rule2 {w : World} {F : Nat → Prop} {vt vn vr : Value} {G : GramD} (h : IsGram w F vt vn vr G) (st i : Int) :
    Calls Try.prog 17 #[GV vt vn vr st, .int .i64 i] w (RuleP w F (ruleOf G st i)) := by
  have hF := h.lt
  have hsm := h.small
  obtain ⟨A1, c1, A2, c2, A3, c3, rfl, rfl, rfl, l1, l2, l3, m1, m2, m3⟩ := h.slices
  obtain ⟨-, -, -, hcell⟩ := ERule.at_ h.rules
  obtain ⟨n, en⟩ : ∃ n, n = G.rules.length := ⟨_, rfl⟩
  have f1 : (i < 0 ∨ (n : Int) < i) → ruleOf G st i = ((0, []), false) := fun e => by unfold ruleOf; rw [← en, if_pos e]
  have f2 : i = (n : Int) → ruleOf G st i = ((0, [st]), true) := fun e => by unfold ruleOf; rw [← en, if_neg (by omega), if_pos e]
  have f3 : ∀ (k : Nat) (l : Int) (x : List Int), i = (k : Int) → k < n → G.rules[k]? = some (l, x) → ruleOf G st i = ((l, x), true) := fun k l x e e' hx => by
    unfold ruleOf; rw [← en, if_neg (by omega), if_neg (by omega), show i.toNat = k by omega, hx]; rfl
  rw [← en] at hsm hcell l3 ⊢
  obtain ⟨s1, s2, s3⟩ := hsm
  have HN := hide en
  have HC := hide hcell
  have HF := hide hF
  have F1 := hide f1
  have F2 := hide f2
  have F3 := hide f3
  clear en hcell hF h f1 f2 f3
  by_cases h0 : i < 0
  · go_enter Try.func17, Try.ntmps17
    go_wp2_with fail
    refine bodyPost_ret (v := .tuple #[.agg #[.int .i64 0, .slice none 0 0], .bool false]) (by simp [results, Try.results17, go_sem]) rfl ?_
    exact RuleP.mk rfl (F1.out (.inl h0)) (Rd.nil _ _ _) (((Below.refl _ w).alloc (Nat.le_refl _) _).alloc (by simp) _)
  · by_cases h1 : (n : Int) < i
    · go_enter Try.func17, Try.ntmps17
      go_wp2_with fail
      refine bodyPost_ret (v := .tuple #[.agg #[.int .i64 0, .slice none 0 0], .bool false]) (by simp [results, Try.results17, go_sem]) rfl ?_
      exact RuleP.mk rfl (F1.out (.inr h1)) (Rd.nil _ _ _) (((Below.refl _ w).alloc (Nat.le_refl _) _).alloc (by simp) _)
    · by_cases h2 : i = (n : Int)
      · subst h2
        have r1 : Rd (((w.alloc (.cells #[.slice A1 G.terms.length c1, .slice A2 G.nons.length c2, .slice A3 n c3, .int .i64 st] 36)).alloc (.cells #[.int .i64 0, .slice (some ⟨w.heap.size + 2, 0, none⟩) 1 1] 47)).alloc (.cells #[.int .i64 st] 3)) (fun b => b = w.heap.size + 2) (.slice (some ⟨w.heap.size + 2, 0, none⟩) 1 1) 1 [.int .i64 st] := by
          have := Rd.one' (w := ((w.alloc (.cells #[.slice A1 G.terms.length c1, .slice A2 G.nons.length c2, .slice A3 n c3, .int .i64 st] 36)).alloc (.cells #[.int .i64 0, .slice (some ⟨w.heap.size + 2, 0, none⟩) 1 1] 47))) (e := 3) [.int .i64 st] 1 rfl
          simpa using this
        go_enter Try.func17, Try.ntmps17
        go_wp2_with fail
        refine bodyPost_ret (v := .tuple #[.agg #[.int .i64 0, .slice (some ⟨w.heap.size + 2, 0, none⟩) 1 1], .bool true]) (by simp [results, Try.results17, go_sem]) rfl ?_
        exact RuleP.mk rfl (F2.out (by first | rfl | trivial)) (r1.mono (fun b hb => .inr (by simp; omega))) ((((Below.refl _ w).alloc (Nat.le_refl _) _).alloc (by simp) _).alloc (by simp; omega) _)
      · obtain ⟨k, rfl⟩ := Int.eq_ofNat_of_zero_le (by omega : 0 ≤ i)
        have hlt : k < n := by omega
        obtain ⟨b, off, rfl, hb, hc⟩ := HC.out (by omega)
        obtain ⟨l0, x, vx, hx, hx0, hx1, hxr⟩ := RdR.get (n := n) HF.out hb (Below.refl _ w) hc (k := k) (by rw [← HN.out]; omega)
        obtain ⟨A5, n5, c5, rfl, _⟩ := id hxr
        have hbw := HF.out b hb
        have hx0' := fun o => cell_a hx0 o
        have hx1' := fun o => cell_a hx1 o
        have hfin := F3.out k l0 x rfl hlt hx
        have HFIN := hide hfin
        have HXR := hide hxr
        have hki : ((k : Int) == (n : Int)) = false := by simpa using (by omega : ¬ (k : Int) = (n : Int))
        clear hc hx hxr hfin h2
        go_enter Try.func17, Try.ntmps17
        go_wp2_with fail
        refine bodyPost_ret (v := .tuple #[.agg #[.int .i64 l0, .slice A5 n5 c5], .bool true]) (by simp [results, Try.results17, go_sem]) rfl ?_
        have B2 : Below w.heap.size w ((w.alloc (.cells #[.slice A1 G.terms.length c1, .slice A2 G.nons.length c2, .slice (some ⟨b, off, none⟩) n c3, .int .i64 st] 36)).alloc (.cells #[.int .i64 l0, .slice A5 n5 c5] 47)) := ((Below.refl _ w).alloc (Nat.le_refl _) _).alloc (by simp) _
        exact RuleP.mk rfl HFIN.out ((HXR.out.below B2 HF.out).mono (fun b hb => .inl hb)) B2

/-- a symbol stands ahead of each item's dot -/
def EnterI (G : GramD) (st : Int) (l : List It) (s : Int) : Prop := ∀ x ∈ l, ∃ lhs xs, ∃ k : Nat, ruleOf G st x.1 = ((lhs, xs), true) ∧ x.2 = (k : Int) + 1 ∧ xs[k]? = some s
set_option maxRecDepth 100000 in
set_option maxHeartbeats 4000000 in
theorem law13_enters {w : World} {F F' : Nat → Prop} {A1 A2 A3 : Option Addr} {T c1 N c2 R c3 : Nat} {G : GramD} (h : IsGram w F (.slice A1 T c1) (.slice A2 N c2) (.slice A3 R c3) G) (st : Int) {A0 : Option Addr} {n0 c0 : Nat} {l0 : List It} (hl : RdIt w F' (.slice A0 n0 c0) l0) (hF' : ∀ b, F' b → b < w.heap.size) (s : Int) (he : EnterI G st l0 s) :
    Calls Try.prog 15 #[GV (.slice A1 T c1) (.slice A2 N c2) (.slice A3 R c3) st, .slice A0 n0 c0, .int .i64 s] w (Quiet w (.bool true)) := by
  obtain ⟨w1, hw1⟩ : ∃ w1, w1 = w.alloc (.cells #[.slice A1 T c1, .slice A2 N c2, .slice A3 R c3, .int .i64 st] 36) := ⟨_, rfl⟩
  have b1 : Below w.heap.size w w1 := by rw [hw1]; exact (Below.refl _ w).alloc (Nat.le_refl _) _
  have k1 : Blk w1 w.heap.size 36 #[.slice A1 T c1, .slice A2 N c2, .slice A3 R c3, .int .i64 st] := by rw [hw1]; exact Blk.new _ _ _
  have g1 := h.below b1
  have l1 := hl.below b1 hF'
  have hFw : ∀ b, F' b → b < w1.heap.size := fun b hb => Nat.lt_of_lt_of_le (hF' b hb) b1.size
  obtain ⟨hn0, hnc0, hcm0, -⟩ := RdIt.at_ hl
  unfold maxLen at hcm0
  have cr := fun wr (g : IsGram wr F (.slice A1 T c1) (.slice A2 N c2) (.slice A3 R c3) G) => fun i => ref_rule2 g st i
  clear h hl hF'
  have hle := b1
  rw [hw1] at g1 k1 l1 hle hFw
  have Xb1 := hide b1
  have Xk1 := hide k1
  have Xg1 := hide g1
  have Xl1 := hide l1
  have XhFw := hide hFw
  have Xcr := hide cr
  have Xhn0 := hide hn0
  have Xhe := hide he
  have Xhle := hide hle
  clear b1 k1 g1 l1 hFw cr hn0 he hle
  clear hw1
  go_enter Try.func15, Try.ntmps15
  go_wp2_with fail
  go_loopw [7] (fun i wr => ∃ j : Nat, j ≤ n0 ∧ i = .int .i64 j ∧ IsGram wr F (.slice A1 T c1) (.slice A2 N c2) (.slice A3 R c3) G ∧ Blk wr w.heap.size 36 #[.slice A1 T c1, .slice A2 N c2, .slice A3 R c3, .int .i64 st] ∧ RdIt wr (fun b => b < wr.heap.size) (.slice A0 n0 c0) l0 ∧ Below w.heap.size w wr) (fun i _ => n0 - (intOf i).toNat)
  case atStart => exact ⟨0, Nat.zero_le _, rfl, Xg1.out, Xk1.out, Xl1.out.mono XhFw.out, Xhle.out⟩
  case round =>
    clear Xg1 Xk1 Xl1 Xb1 XhFw Xhle
    obtain ⟨j, hj, rfl, g, kg, rl, le⟩ := hrel
    by_cases hlt : j < n0
    · have hlt' : (j : Int) < (n0 : Int) := by omega
      obtain ⟨-, -, -, hcell0⟩ := RdIt.at_ rl
      obtain ⟨b0, o0, rfl, hb0, hcc0⟩ := hcell0 (by omega)
      obtain ⟨⟨x0, x1⟩, hx⟩ : ∃ x, l0[j]? = some x := ⟨_, List.getElem?_eq_getElem (by rw [← Xhn0.out]; exact hlt)⟩
      obtain ⟨p0, p1⟩ := hcc0 j _ hx
      simp only at p0 p1
      obtain ⟨l, xs, k, hr, hd, hs⟩ := Xhe.out _ (List.mem_of_getElem? hx)
      simp only at hr hd
      subst hd
      have q0 := (kg.cell 0).trans rfl
      have q1 := (kg.cell 1).trans rfl
      have q2 := (kg.cell 2).trans rfl
      have q3 := (kg.cell 3).trans rfl
      have cr' := fun wr (g : IsGram wr F (.slice A1 T c1) (.slice A2 N c2) (.slice A3 R c3) G) => Xcr.out wr g x0
      rw [hr] at cr'
      clear hcell0 hcc0 hr
      have Xcr := hide cr'
      clear cr'
      have Xhx := hide hx
      have Xhs := hide hs
      clear hx hs
      have Xg := hide g
      have Xkg := hide kg
      have Xrl := hide rl
      have Xle := hide le
      clear g kg rl le
      go_wp2_with fail
      refine wp_region_held_drew (S := (fun W => W.cell? ⟨w.heap.size, 0, none⟩ = some (.slice A1 T c1) ∧ W.cell? ⟨w.heap.size, 1, none⟩ = some (.slice A2 N c2) ∧ W.cell? ⟨w.heap.size, 2, none⟩ = some (.slice A3 R c3) ∧ W.cell? ⟨w.heap.size, 3, none⟩ = some (.int .i64 st) ∧ W.cell? ⟨b0, o0 + j * 2, none⟩ = some (.int .i64 x0) ∧ W.cell? ⟨b0, o0 + j * 2 + 1, none⟩ = some (.int .i64 ((k : Int) + 1)))) (by kernel_rfl) ?_ (fun hHeld => ?_)
      · exact ⟨q0, q1, q2, q3, p0, p1⟩
      have gg := Xg.out.below (Below.refl _ _).drew
      have kgd := Xkg.out.below (Below.refl _ _).drew Xkg.out.lt
      have rld : RdIt wr.drew (fun b => b < wr.drew.heap.size) (.slice (some ⟨b0, o0, none⟩) n0 c0) l0 := Xrl.out.below (Below.refl _ _).drew (fun b hb => hb)
      have bd := Xle.out.drew
      clear Xg Xkg Xrl Xle q0 q1 q2 q3 p0 p1
      generalize wr.drew = wd at *
      obtain ⟨-, -, -, -, p0, p1⟩ := id hHeld
      have hS : ∀ W, Below wd.heap.size wd W → W.cell? ⟨w.heap.size, 0, none⟩ = some (.slice A1 T c1) ∧ W.cell? ⟨w.heap.size, 1, none⟩ = some (.slice A2 N c2) ∧ W.cell? ⟨w.heap.size, 2, none⟩ = some (.slice A3 R c3) ∧ W.cell? ⟨w.heap.size, 3, none⟩ = some (.int .i64 st) ∧ W.cell? ⟨b0, o0 + j * 2, none⟩ = some (.int .i64 x0) ∧ W.cell? ⟨b0, o0 + j * 2 + 1, none⟩ = some (.int .i64 ((k : Int) + 1)) := fun W hb => by
        have kk := kgd.below hb kgd.lt
        exact ⟨(kk.cell 0).trans rfl, (kk.cell 1).trans rfl, (kk.cell 2).trans rfl, (kk.cell 3).trans rfl, (hb.cell (World.block_lt_of_cell? _ _ p0)).trans p0, (hb.cell (World.block_lt_of_cell? _ _ p1)).trans p1⟩
      clear p0 p1
      have Xkgd := hide kgd
      have Xrld := hide rld
      have Xbd := hide bd
      clear kgd rld bd
      have XhS := hide hS
      have Xgg := hide gg
      clear hS gg
      refine wpAnyH_take (i := 0) (oi := ?_) (v := ?_) ?_ (by kernel_rfl) (by kernel_rfl) (by kernel_rfl) ?_ (Or.inl ⟨?_, ?_⟩) (by assumption) ?_
      rotate_left 2
      · (try simp only [List.getElem?_toArray, List.getElem?_cons_succ, List.getElem?_cons_zero]); rfl
      · exact fun _ _ _ h => h
      · rfl
      · (intro wS hwS; (try dsimp only at hwS); go_simp; all_goals with_reducible rfl)
      try simp only [Act.put, List.setIfInBounds_toArray, List.set_cons_zero, List.set_cons_succ]
      refine wpAnyH_take (i := 1) (oi := ?_) (v := ?_) ?_ (by kernel_rfl) (by kernel_rfl) (by kernel_rfl) ?_ (Or.inl ⟨?_, ?_⟩) (by assumption) ?_
      rotate_left 2
      · (try simp only [List.getElem?_toArray, List.getElem?_cons_succ, List.getElem?_cons_zero]); rfl
      · exact fun _ _ _ h => h
      · rfl
      · (intro wS hwS; (try dsimp only at hwS); go_simp; all_goals with_reducible rfl)
      try simp only [Act.put, List.setIfInBounds_toArray, List.set_cons_zero, List.set_cons_succ]
      refine wpAnyH_take (i := 2) (oi := ?_) (v := ?_) ?_ (by kernel_rfl) (by kernel_rfl) (by kernel_rfl) ?_ (Or.inl ⟨?_, ?_⟩) (by assumption) ?_
      rotate_left 2
      · (try simp only [List.getElem?_toArray, List.getElem?_cons_succ, List.getElem?_cons_zero]); rfl
      · exact fun _ _ _ h => h
      · rfl
      · (intro wS hwS; (try dsimp only at hwS); go_simp; all_goals with_reducible rfl)
      try simp only [Act.put, List.setIfInBounds_toArray, List.set_cons_zero, List.set_cons_succ]
      refine wpAnyH_take (i := 3) (oi := ?_) (v := ?_) ?_ (by kernel_rfl) (by kernel_rfl) (by kernel_rfl) ?_ (Or.inl ⟨?_, ?_⟩) (by assumption) ?_
      rotate_left 2
      · (try simp only [List.getElem?_toArray, List.getElem?_cons_succ, List.getElem?_cons_zero]); rfl
      · exact fun _ _ _ h => h
      · rfl
      · (intro wS hwS; (try dsimp only at hwS); go_simp; all_goals with_reducible rfl)
      try simp only [Act.put, List.setIfInBounds_toArray, List.set_cons_zero, List.set_cons_succ]
      refine wpAnyH_take (i := 4) (oi := ?_) (v := ?_) ?_ (by kernel_rfl) (by kernel_rfl) (by kernel_rfl) ?_ (Or.inl ⟨?_, ?_⟩) (by assumption) ?_
      rotate_left 2
      · (try simp only [List.getElem?_toArray, List.getElem?_cons_succ, List.getElem?_cons_zero]); rfl
      · exact fun _ _ _ h => h
      · rfl
      · (intro wS hwS; (try dsimp only at hwS); go_simp; all_goals with_reducible rfl)
      try simp only [Act.put, List.setIfInBounds_toArray, List.set_cons_zero, List.set_cons_succ]
      refine wpAnyH_take (i := 5) (oi := ?_) (v := ?_) ?_ (by kernel_rfl) (by kernel_rfl) (by kernel_rfl) ?_ (Or.inl ⟨?_, ?_⟩) (by assumption) ?_
      rotate_left 2
      · (try simp only [List.getElem?_toArray, List.getElem?_cons_succ, List.getElem?_cons_zero]); rfl
      · exact fun _ _ _ h => h
      · rfl
      · (intro wS hwS; (try dsimp only at hwS); go_simp; all_goals with_reducible rfl)
      try simp only [Act.put, List.setIfInBounds_toArray, List.set_cons_zero, List.set_cons_succ]
      refine wpAnyH_ready (rs := [6, 10]) (by kernel_rfl) (by simp) ?_
      refine AllReadyH.cons (o := ?_) ?_ (fun K hK => ?_) ?_
      rotate_left 1
      · (try simp only [List.getElem?_toArray, List.getElem?_cons_succ, List.getElem?_cons_zero]); rfl
      · go_simp
        go_at_call 17
        refine (Xcr.out _ Xgg.out).mono ?_
        rintro e w3 ⟨A, n, c, rfl, hrd, b3⟩
        obtain ⟨hn, hnc, hcm, -⟩ := RdI.at_ hrd
        unfold maxLen at hcm
        replace hn : n = xs.length := hn
        replace hrd : RdI w3 (fun b => F b ∨ (wd.heap.size ≤ b ∧ b < w3.heap.size)) (.slice A n c) xs := hrd
        have Xhrd := hide hrd
        have Xhn := hide hn
        clear hrd hn
        refine hK.out _ _ ?_ (fun hHeld => ?_)
        · exact XhS.out _ b3
        clear hK K
        try simp only [Act.put, List.setIfInBounds_toArray, List.set_cons_zero, List.set_cons_succ]
        refine wpAnyH_take (i := 7) (oi := ?_) (v := ?_) ?_ (by kernel_rfl) (by kernel_rfl) (by kernel_rfl) ?_ (Or.inl ⟨?_, ?_⟩) (by assumption) ?_
        rotate_left 2
        · (try simp only [List.getElem?_toArray, List.getElem?_cons_succ, List.getElem?_cons_zero]); rfl
        · exact fun _ _ _ h => h
        · rfl
        · (intro wS hwS; (try dsimp only at hwS); go_simp; all_goals with_reducible rfl)
        try simp only [Act.put, List.setIfInBounds_toArray, List.set_cons_zero, List.set_cons_succ]
        refine wpAnyH_take (i := 8) (oi := ?_) (v := ?_) ?_ (by kernel_rfl) (by kernel_rfl) (by kernel_rfl) ?_ (Or.inl ⟨?_, ?_⟩) (by assumption) ?_
        rotate_left 2
        · (try simp only [List.getElem?_toArray, List.getElem?_cons_succ, List.getElem?_cons_zero]); rfl
        · exact fun _ _ _ h => h
        · rfl
        · (intro wS hwS; (try dsimp only at hwS); go_simp; all_goals with_reducible rfl)
        try simp only [Act.put, List.setIfInBounds_toArray, List.set_cons_zero, List.set_cons_succ]
        refine wpAnyH_take (i := 9) (oi := ?_) (v := ?_) ?_ (by kernel_rfl) (by kernel_rfl) (by kernel_rfl) ?_ (Or.inl ⟨?_, ?_⟩) (by assumption) ?_
        rotate_left 2
        · (try simp only [List.getElem?_toArray, List.getElem?_cons_succ, List.getElem?_cons_zero]); rfl
        · exact fun _ _ _ h => h
        · rfl
        · (intro wS hwS; (try dsimp only at hwS); go_simp; all_goals with_reducible rfl)
        try simp only [Act.put, List.setIfInBounds_toArray, List.set_cons_zero, List.set_cons_succ]
        have Xb3 := hide b3
        clear b3
        refine wpAnyH_ready (rs := [10]) (by kernel_rfl) (by simp) ?_
        refine AllReadyH.cons (o := ?_) ?_ (fun K hK => ?_) AllReadyH.nil
        rotate_left 1
        · (try simp only [List.getElem?_toArray, List.getElem?_cons_succ, List.getElem?_cons_zero]); rfl
        go_simp
        have b4 : Below wd.heap.size wd (w3.alloc (.cells #[.int .i64 0, .slice none 0 0] 47)) := Xb3.out.alloc Xb3.out.size _
        have k4 : Blk (w3.alloc (.cells #[.int .i64 0, .slice none 0 0] 47)) w3.heap.size 47 #[.int .i64 0, .slice none 0 0] := Blk.new _ _ _
        have hK2 : wd.heap.size ≤ w3.heap.size := Xb3.out.size
        have hFl : ∀ b, F b ∨ (wd.heap.size ≤ b ∧ b < w3.heap.size) → b < w3.heap.size := fun b hb => hb.elim (fun hb => Nat.lt_of_lt_of_le (Xgg.out.lt b hb) Xb3.out.size) (fun hb => hb.2)
        have hrd4 := Xhrd.out.below (Below.refl _ w3 |>.alloc (Nat.le_refl _) (.cells #[.int .i64 0, .slice none 0 0] 47)) hFl
        have hrl : ∀ b, F b ∨ (wd.heap.size ≤ b ∧ b < w3.heap.size) → ¬ b = w3.heap.size := fun b hb => by have := hFl b hb; omega
        clear hFl Xhrd
        refine hK.out _ _ ?_ (fun hHeld => ?_)
        · exact XhS.out _ b4
        clear hK K
        try simp only [Act.put, List.setIfInBounds_toArray, List.set_cons_zero, List.set_cons_succ]
        generalize w3.heap.size = Kb at *
        generalize w3.alloc (.cells #[.int .i64 0, .slice none 0 0] 47) = w4 at *
        have f0 := (k4.cell 0).trans rfl
        have f1 := (k4.cell 1).trans rfl
        have z0 := k4.frozen 0
        have z1 := k4.frozen 1
        have k5 := (k4.put 0 (.int .i64 l)).put 1 (.slice A n c)
        have tt := touch_two w4 (Kb) (.int .i64 l) (.slice A n c)
        have b5 : Below wd.heap.size wd ((w4.setCell ⟨Kb, 0, none⟩ (.int .i64 l)).setCell ⟨Kb, 1, none⟩ (.slice A n c)) := b4.trans (tt.below (fun i hi _ e => by omega) b4.size)
        have hrd5 := hrd4.touch tt hrl
        have Xb4 := hide b4
        have Xk4 := hide k4
        have Xhrd4 := hide hrd4
        have XhK2 := hide hK2
        have Xhrl := hide hrl
        have Xk5 := hide k5
        have Xtt := hide tt
        have Xb5 := hide b5
        have Xhrd5 := hide hrd5
        clear b4 k4 hrd4 hK2 hrl k5 tt b5 hrd5
        refine wpAnyH_ready (rs := [11]) (by kernel_rfl) (by simp) ?_
        refine AllReadyH.cons (o := ?_) ?_ (fun K hK => ?_) AllReadyH.nil
        rotate_left 1
        · (try simp only [List.getElem?_toArray, List.getElem?_cons_succ, List.getElem?_cons_zero]); rfl
        go_simp
        refine hK.out _ _ ?_ (fun hHeld => ?_)
        · exact XhS.out _ Xb5.out
        clear hK K
        try simp only [Act.put, List.setIfInBounds_toArray, List.set_cons_zero, List.set_cons_succ]
        generalize (w4.setCell ⟨Kb, 0, none⟩ (.int .i64 l)).setCell ⟨Kb, 1, none⟩ (.slice A n c) = w5 at *
        refine wpAnyH_take (i := 12) (oi := ?_) (v := ?_) ?_ (by kernel_rfl) (by kernel_rfl) (by kernel_rfl) ?_ (Or.inl ⟨?_, ?_⟩) (by assumption) ?_
        rotate_left 2
        · (try simp only [List.getElem?_toArray, List.getElem?_cons_succ, List.getElem?_cons_zero]); rfl
        · exact fun _ _ _ h => h
        · rfl
        · (intro wS hwS; (try dsimp only at hwS); go_simp; all_goals with_reducible rfl)
        try simp only [Act.put, List.setIfInBounds_toArray, List.set_cons_zero, List.set_cons_succ]
        refine wpAnyH_done (by kernel_rfl) ?_ _
        obtain ⟨q0, q1, q2, q3, p0, p1⟩ := id hHeld
        have d3 := (Xk5.out.cell 0).trans rfl
        have d4 := (Xk5.out.cell 1).trans rfl
        have hk : k < n := by have := (List.getElem?_eq_some_iff.1 Xhs.out).1; have := Xhn.out; omega
        have hk' : (k : Int) < (n : Int) := by omega
        obtain ⟨-, -, -, hcell⟩ := RdI.at_ Xhrd5.out
        obtain ⟨b, off, rfl, -, hcc⟩ := hcell (by omega)
        have hcs := hcc k s Xhs.out
        have g5 := Xgg.out.below Xb5.out
        have kg5 := Xkgd.out.below Xb5.out Xkgd.out.lt
        have l5 := (Rd.below Xrld.out Xb5.out (fun b hb => hb)).mono (fun b hb' => Nat.lt_of_lt_of_le hb' Xb5.out.size)
        have w5b := Xbd.out.trans (Xb5.out.mono Xbd.out.size)
        have hd1 : decide ((k : Int) + 1 < 1) = false := decide_eq_false (by omega)
        have hd2 : decide ((k : Int) + 1 > (n : Int)) = false := decide_eq_false (by omega)
        have hw1 : IntKind.i64.wrap ((k : Int) + 1 - 1) = (k : Int) := by rw [IntKind.wrap_i64]; omega
        have hw2 : IntKind.i64.wrap (k : Int) = (k : Int) := by rw [IntKind.wrap_i64]; omega
        clear hcell hcc Xb5
        have Xg5 := hide g5
        have Xkg5 := hide kg5
        have Xl5 := hide l5
        have Xw5b := hide w5b
        clear g5 kg5 l5 w5b
        have dr := (Below.refl w5.heap.size w5).drew
        have Xdr := hide dr
        clear dr
        go_wp2_with fail
        refine region_reads (by kernel_rfl) (by kernel_rfl) ?_
        repeat still_step
        refine wpStill_nil ?_
        go_wp2_with fail
        go_roundw
        case rel => exact ⟨j + 1, by omega, by go_num, Xg5.out.below Xdr.out, Xkg5.out.below Xdr.out Xkg5.out.lt, Xl5.out.below Xdr.out (fun b hb => hb), Xw5b.out.drew⟩
        case measure => simp [intOf]; omega
      · refine AllReadyH.cons (o := ?_) ?_ (fun K hK => ?_) ?_
        rotate_left 1
        · (try simp only [List.getElem?_toArray, List.getElem?_cons_succ, List.getElem?_cons_zero]); rfl
        · go_simp
          have b4 : Below wd.heap.size wd (wd.alloc (.cells #[.int .i64 0, .slice none 0 0] 47)) := (Below.refl _ wd).alloc (Nat.le_refl _) _
          have k4 : Blk (wd.alloc (.cells #[.int .i64 0, .slice none 0 0] 47)) wd.heap.size 47 #[.int .i64 0, .slice none 0 0] := Blk.new _ _ _
          have t4 := Xgg.out.below b4
          refine hK.out _ _ ?_ (fun hHeld => ?_)
          · exact XhS.out _ b4
          clear hK K
          try simp only [Act.put, List.setIfInBounds_toArray, List.set_cons_zero, List.set_cons_succ]
          have hK2 : wd.heap.size ≤ wd.heap.size := Nat.le_refl _
          generalize wd.alloc (.cells #[.int .i64 0, .slice none 0 0] 47) = wa at *
          have Xb4 := hide b4
          have Xk4 := hide k4
          have Xt4 := hide t4
          clear b4 k4 t4
          refine wpAnyH_ready (rs := [6]) (by kernel_rfl) (by simp) ?_
          refine AllReadyH.cons (o := ?_) ?_ (fun K hK => ?_) AllReadyH.nil
          rotate_left 1
          · (try simp only [List.getElem?_toArray, List.getElem?_cons_succ, List.getElem?_cons_zero]); rfl
          go_simp
          go_at_call 17
          refine (Xcr.out _ Xt4.out).mono ?_
          rintro e w4 ⟨A, n, c, rfl, hrd4, b5⟩
          obtain ⟨hn, hnc, hcm, -⟩ := RdI.at_ hrd4
          unfold maxLen at hcm
          have k4 := Xk4.out.below b5 Xk4.out.lt
          have hwa : wd.heap.size < wa.heap.size := Xk4.out.lt
          have hrl : ∀ b, F b ∨ (wa.heap.size ≤ b ∧ b < w4.heap.size) → ¬ b = wd.heap.size := fun b hb => hb.elim (fun hb e => by have := Xgg.out.lt b hb; omega) (fun hb => by omega)
          have b4 := Xb4.out.trans (b5.mono Xb4.out.size)
          clear b5 Xb4 Xk4 Xt4 hwa
          replace hn : n = xs.length := hn
          replace hrd4 : RdI w4 (fun b => F b ∨ (wa.heap.size ≤ b ∧ b < w4.heap.size)) (.slice A n c) xs := hrd4
          have Xhn := hide hn
          clear hn
          refine hK.out _ _ ?_ (fun hHeld => ?_)
          · exact XhS.out _ b4
          clear hK K
          try simp only [Act.put, List.setIfInBounds_toArray, List.set_cons_zero, List.set_cons_succ]
          refine wpAnyH_take (i := 7) (oi := ?_) (v := ?_) ?_ (by kernel_rfl) (by kernel_rfl) (by kernel_rfl) ?_ (Or.inl ⟨?_, ?_⟩) (by assumption) ?_
          rotate_left 2
          · (try simp only [List.getElem?_toArray, List.getElem?_cons_succ, List.getElem?_cons_zero]); rfl
          · exact fun _ _ _ h => h
          · rfl
          · (intro wS hwS; (try dsimp only at hwS); go_simp; all_goals with_reducible rfl)
          try simp only [Act.put, List.setIfInBounds_toArray, List.set_cons_zero, List.set_cons_succ]
          refine wpAnyH_take (i := 8) (oi := ?_) (v := ?_) ?_ (by kernel_rfl) (by kernel_rfl) (by kernel_rfl) ?_ (Or.inl ⟨?_, ?_⟩) (by assumption) ?_
          rotate_left 2
          · (try simp only [List.getElem?_toArray, List.getElem?_cons_succ, List.getElem?_cons_zero]); rfl
          · exact fun _ _ _ h => h
          · rfl
          · (intro wS hwS; (try dsimp only at hwS); go_simp; all_goals with_reducible rfl)
          try simp only [Act.put, List.setIfInBounds_toArray, List.set_cons_zero, List.set_cons_succ]
          refine wpAnyH_take (i := 9) (oi := ?_) (v := ?_) ?_ (by kernel_rfl) (by kernel_rfl) (by kernel_rfl) ?_ (Or.inl ⟨?_, ?_⟩) (by assumption) ?_
          rotate_left 2
          · (try simp only [List.getElem?_toArray, List.getElem?_cons_succ, List.getElem?_cons_zero]); rfl
          · exact fun _ _ _ h => h
          · rfl
          · (intro wS hwS; (try dsimp only at hwS); go_simp; all_goals with_reducible rfl)
          try simp only [Act.put, List.setIfInBounds_toArray, List.set_cons_zero, List.set_cons_succ]
          have f0 := (k4.cell 0).trans rfl
          have f1 := (k4.cell 1).trans rfl
          have z0 := k4.frozen 0
          have z1 := k4.frozen 1
          have k5 := (k4.put 0 (.int .i64 l)).put 1 (.slice A n c)
          have tt := touch_two w4 (wd.heap.size) (.int .i64 l) (.slice A n c)
          have b5 : Below wd.heap.size wd ((w4.setCell ⟨wd.heap.size, 0, none⟩ (.int .i64 l)).setCell ⟨wd.heap.size, 1, none⟩ (.slice A n c)) := b4.trans (tt.below (fun i hi _ e => by omega) b4.size)
          have hrd5 := hrd4.touch tt hrl
          have Xb4 := hide b4
          have Xk4 := hide k4
          have Xhrd4 := hide hrd4
          have XhK2 := hide hK2
          have Xhrl := hide hrl
          have Xk5 := hide k5
          have Xtt := hide tt
          have Xb5 := hide b5
          have Xhrd5 := hide hrd5
          clear b4 k4 hrd4 hK2 hrl k5 tt b5 hrd5
          refine wpAnyH_ready (rs := [11]) (by kernel_rfl) (by simp) ?_
          refine AllReadyH.cons (o := ?_) ?_ (fun K hK => ?_) AllReadyH.nil
          rotate_left 1
          · (try simp only [List.getElem?_toArray, List.getElem?_cons_succ, List.getElem?_cons_zero]); rfl
          go_simp
          refine hK.out _ _ ?_ (fun hHeld => ?_)
          · exact XhS.out _ Xb5.out
          clear hK K
          try simp only [Act.put, List.setIfInBounds_toArray, List.set_cons_zero, List.set_cons_succ]
          generalize (w4.setCell ⟨wd.heap.size, 0, none⟩ (.int .i64 l)).setCell ⟨wd.heap.size, 1, none⟩ (.slice A n c) = w5 at *
          refine wpAnyH_take (i := 12) (oi := ?_) (v := ?_) ?_ (by kernel_rfl) (by kernel_rfl) (by kernel_rfl) ?_ (Or.inl ⟨?_, ?_⟩) (by assumption) ?_
          rotate_left 2
          · (try simp only [List.getElem?_toArray, List.getElem?_cons_succ, List.getElem?_cons_zero]); rfl
          · exact fun _ _ _ h => h
          · rfl
          · (intro wS hwS; (try dsimp only at hwS); go_simp; all_goals with_reducible rfl)
          try simp only [Act.put, List.setIfInBounds_toArray, List.set_cons_zero, List.set_cons_succ]
          refine wpAnyH_done (by kernel_rfl) ?_ _
          obtain ⟨q0, q1, q2, q3, p0, p1⟩ := id hHeld
          have d3 := (Xk5.out.cell 0).trans rfl
          have d4 := (Xk5.out.cell 1).trans rfl
          have hk : k < n := by have := (List.getElem?_eq_some_iff.1 Xhs.out).1; have := Xhn.out; omega
          have hk' : (k : Int) < (n : Int) := by omega
          obtain ⟨-, -, -, hcell⟩ := RdI.at_ Xhrd5.out
          obtain ⟨b, off, rfl, -, hcc⟩ := hcell (by omega)
          have hcs := hcc k s Xhs.out
          have g5 := Xgg.out.below Xb5.out
          have kg5 := Xkgd.out.below Xb5.out Xkgd.out.lt
          have l5 := (Rd.below Xrld.out Xb5.out (fun b hb => hb)).mono (fun b hb' => Nat.lt_of_lt_of_le hb' Xb5.out.size)
          have w5b := Xbd.out.trans (Xb5.out.mono Xbd.out.size)
          have hd1 : decide ((k : Int) + 1 < 1) = false := decide_eq_false (by omega)
          have hd2 : decide ((k : Int) + 1 > (n : Int)) = false := decide_eq_false (by omega)
          have hw1 : IntKind.i64.wrap ((k : Int) + 1 - 1) = (k : Int) := by rw [IntKind.wrap_i64]; omega
          have hw2 : IntKind.i64.wrap (k : Int) = (k : Int) := by rw [IntKind.wrap_i64]; omega
          clear hcell hcc Xb5
          have Xg5 := hide g5
          have Xkg5 := hide kg5
          have Xl5 := hide l5
          have Xw5b := hide w5b
          clear g5 kg5 l5 w5b
          have dr := (Below.refl w5.heap.size w5).drew
          have Xdr := hide dr
          clear dr
          go_wp2_with fail
          refine region_reads (by kernel_rfl) (by kernel_rfl) ?_
          repeat still_step
          refine wpStill_nil ?_
          go_wp2_with fail
          go_roundw
          case rel => exact ⟨j + 1, by omega, by go_num, Xg5.out.below Xdr.out, Xkg5.out.below Xdr.out Xkg5.out.lt, Xl5.out.below Xdr.out (fun b hb => hb), Xw5b.out.drew⟩
          case measure => simp [intOf]; omega
        · exact AllReadyH.nil
    · have hlt' : ¬ (j : Int) < (n0 : Int) := by omega
      have Xg := hide g
      have Xkg := hide kg
      have Xrl := hide rl
      have Xle := hide le
      clear g kg rl le
      go_wp2_with fail
      go_ret
      exact ⟨rfl, Xle.out⟩
set_option maxRecDepth 100000 in
set_option maxHeartbeats 4000000 in
theorem law13_holds {w : World} {F : Nat → Prop} {A0 : Option Addr} {n0 c0 : Nat} {l0 : List It} (hl : RdIt w F (.slice A0 n0 c0) l0) (hF : ∀ b, F b → b < w.heap.size) (x : It) (hx : x ∈ l0) :
    Calls Try.prog 18 #[.slice A0 n0 c0, ItV x] w (Quiet w (.bool true)) := by
  obtain ⟨x0, x1⟩ := x
  obtain ⟨w1, hw1⟩ : ∃ w1, w1 = w.alloc (.cells #[.int .i64 x0, .int .i64 x1] 51) := ⟨_, rfl⟩
  have b1 : Below w.heap.size w w1 := by rw [hw1]; exact (Below.refl _ w).alloc (Nat.le_refl _) _
  have k1 : Blk w1 w.heap.size 51 #[.int .i64 x0, .int .i64 x1] := by rw [hw1]; exact Blk.new _ _ _
  have l1 := (hl.below b1 hF).mono (F' := fun b => b < w1.heap.size) (fun b hb => Nat.lt_of_lt_of_le (hF b hb) b1.size)
  obtain ⟨hn0, hnc0, hcm0, -⟩ := RdIt.at_ hl
  unfold maxLen at hcm0
  clear hl hF
  rw [hw1] at b1 k1 l1
  have Xb1 := hide b1
  have Xk1 := hide k1
  have Xl1 := hide l1
  have Xhn0 := hide hn0
  have Xhx := hide hx
  clear b1 k1 l1 hn0 hx
  clear hw1
  go_enter Try.func18, Try.ntmps18
  go_wp2_with fail
  go_loopw [5] (fun i wr => ∃ j : Nat, j ≤ n0 ∧ i = .int .i64 j ∧ (∀ (q : Nat) y, q < j → l0[q]? = some y → y ≠ ((x0, x1) : It)) ∧ Blk wr w.heap.size 51 #[.int .i64 x0, .int .i64 x1] ∧ RdIt wr (fun b => b < wr.heap.size) (.slice A0 n0 c0) l0 ∧ Below w.heap.size w wr) (fun i _ => n0 - (intOf i).toNat)
  case atStart => exact ⟨0, Nat.zero_le _, rfl, fun q y h => absurd h (by omega), Xk1.out, Xl1.out, Xb1.out⟩
  case round =>
    clear Xk1 Xl1 Xb1
    obtain ⟨j, hj, rfl, hq, kg, rl, le⟩ := hrel
    by_cases hlt : j < n0
    · have hlt' : (j : Int) < (n0 : Int) := by omega
      obtain ⟨-, -, -, hcell0⟩ := RdIt.at_ rl
      obtain ⟨b0, o0, rfl, hb0, hcc0⟩ := hcell0 (by omega)
      obtain ⟨⟨y0, y1⟩, hy⟩ : ∃ y, l0[j]? = some y := ⟨_, List.getElem?_eq_getElem (by rw [← Xhn0.out]; exact hlt)⟩
      obtain ⟨p0, p1⟩ := hcc0 j _ hy
      simp only at p0 p1
      have d0 := (kg.cell 0).trans rfl
      have d1 := (kg.cell 1).trans rfl
      have heq := eql_item y0 y1 x0 x1
      have hgd := fun op p q => guard_item op p q (y0, y1) (x0, x1)
      have hres := le.drew
      have dr := (Below.refl wr.heap.size wr).drew
      have kg2 := kg.below dr kg.lt
      have rl2 : RdIt wr.drew (fun b => b < wr.drew.heap.size) (.slice (some ⟨b0, o0, none⟩) n0 c0) l0 := rl.below dr (fun b hb => hb)
      by_cases he : ((y0, y1) : It) = (x0, x1)
      · rw [decide_eq_true he] at heq
        clear hcell0 hcc0 kg rl le dr
        have Xhe := hide he
        have Xhy := hide hy
        have Xhq := hide hq
        have Xhres := hide hres
        have Xkg2 := hide kg2
        have Xrl2 := hide rl2
        clear he hy hq hres kg2 rl2
        go_wp2_with fail
        refine region_reads (by kernel_rfl) (by kernel_rfl) ?_
        repeat still_step
        refine wpStill_nil ?_
        go_wp2_with fail
        go_ret
        exact ⟨rfl, Xhres.out⟩
      · rw [decide_eq_false he] at heq
        have hq2 : ∀ (q : Nat) y, q < j + 1 → l0[q]? = some y → y ≠ ((x0, x1) : It) := fun q y h1 h2 => by
          by_cases e : q = j
          · subst e; rw [hy] at h2; injection h2 with h2; rw [← h2]; exact he
          · exact hq q y (by omega) h2
        clear hcell0 hcc0 kg rl le dr
        have Xhe := hide he
        have Xhy := hide hy
        have Xhq := hide hq
        have Xhres := hide hres
        have Xkg2 := hide kg2
        have Xrl2 := hide rl2
        have Xhq2 := hide hq2
        clear he hy hq hres kg2 rl2 hq2
        go_wp2_with fail
        refine region_reads (by kernel_rfl) (by kernel_rfl) ?_
        repeat still_step
        refine wpStill_nil ?_
        go_wp2_with fail
        go_roundw
        case rel => exact ⟨j + 1, by omega, by go_num, Xhq2.out, Xkg2.out, Xrl2.out, Xhres.out⟩
        case measure => simp [intOf]; omega
    · exfalso
      obtain ⟨q, hqn, e⟩ := List.getElem_of_mem Xhx.out
      exact hq q _ (by have := Xhn0.out; omega) (List.getElem?_eq_getElem hqn) e
end Go.Proofs.Ytlpokomfljmogaa

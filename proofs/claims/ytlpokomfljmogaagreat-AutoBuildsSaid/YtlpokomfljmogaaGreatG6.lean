/- The reference: unlike, known. -/
import Derived.Test.YtlpokomfljmogaaGreatG5
import Derived.Test.YtlpokomfljmogaaGreatRegion
namespace Go.Proofs.YtlpokomfljmogaaGreat
set_option linter.unusedVariables false

section
open Go.RowKit

/-- a boxed grammar -/
structure GBox (w : World) (F : Nat → Prop) (B : Nat) (A1 : Option Addr) (c1 : Nat) (A2 : Option Addr) (c2 : Nat) (A3 : Option Addr) (c3 T N R : Nat) (st : Int) (G : GramD) : Prop where
  gram : IsGram w F (.slice A1 T c1) (.slice A2 N c2) (.slice A3 R c3) G
  blk : Blk w B 25 #[.slice A1 T c1, .slice A2 N c2, .slice A3 R c3, .int .i64 st]
  t : T = G.terms.length
  n : N = G.nons.length
  r : R = G.rules.length
  tc : T ≤ c1
  nc : N ≤ c2
  rc : R ≤ c3
  c1m : c1 ≤ 9223372036854775807
  c2m : c2 ≤ 9223372036854775807
  c3m : c3 ≤ 9223372036854775807
  ts : T ≤ 8796093022207
  ns : N ≤ 8796093022207
  rs : R ≤ 4398046511103
section
variable {w w' : World} {F : Nat → Prop} {B : Nat} {A1 A2 A3 : Option Addr} {c1 c2 c3 T N R : Nat} {st : Int} {G : GramD}
theorem GBox.below (h : GBox w F B A1 c1 A2 c2 A3 c3 T N R st G) (hb : Below w.heap.size w w') : GBox w' F B A1 c1 A2 c2 A3 c3 T N R st G :=
  ⟨h.gram.below hb, h.blk.below hb h.blk.lt, h.t, h.n, h.r, h.tc, h.nc, h.rc, h.c1m, h.c2m, h.c3m, h.ts, h.ns, h.rs⟩
theorem GBox.drewN (h : GBox w F B A1 c1 A2 c2 A3 c3 T N R st G) (q : Nat) : GBox (w.drewN q) F B A1 c1 A2 c2 A3 c3 T N R st G :=
  h.below (below_drewN (Below.refl _ _) q)
theorem GBox.cells (h : GBox w F B A1 c1 A2 c2 A3 c3 T N R st G) : w.cell? ⟨B, 0, none⟩ = some (.slice A1 T c1) ∧ w.cell? ⟨B, 1, none⟩ = some (.slice A2 N c2) ∧ w.cell? ⟨B, 2, none⟩ = some (.slice A3 R c3) ∧ w.cell? ⟨B, 3, none⟩ = some (.int .i64 st) :=
  ⟨(h.blk.cell 0).trans rfl, (h.blk.cell 1).trans rfl, (h.blk.cell 2).trans rfl, (h.blk.cell 3).trans rfl⟩
/-- a rule, where it lies -/
theorem GBox.rule (h : GBox w F B A1 c1 A2 c2 A3 c3 T N R st G) {k : Nat} (hk : k < R) : ∃ (b off : Nat) (l : Int) (x : List Int) (A : Option Addr) (n c : Nat), A3 = some ⟨b, off, none⟩ ∧ b < w.heap.size ∧ G.rules[k]? = some (l, x) ∧ w.cell? ⟨b, off + k * 2, none⟩ = some (.int .i64 l) ∧ w.cell? ⟨b, off + k * 2 + 1, none⟩ = some (.slice A n c) ∧ RdI w F (.slice A n c) x ∧ n = x.length ∧ n ≤ c ∧ c ≤ 9223372036854775807 := by
  obtain ⟨-, -, -, hcell⟩ := ERule.at_ h.gram.rules
  obtain ⟨b, off, hA, hb, hc⟩ := hcell (by omega)
  obtain ⟨l, x, v, hx, h0, h1, hr⟩ := RdR.get (n := R) h.gram.lt hb (Below.refl _ w) hc (k := k) (by rw [← h.r]; exact hk)
  obtain ⟨A, n, c, rfl, _⟩ := id hr
  obtain ⟨hn, hnc, hcm, -⟩ := RdI.at_ hr
  exact ⟨b, off, l, x, A, n, c, hA, h.gram.lt b hb, hx, h0, h1, hr, hn, hnc, hcm⟩
theorem GBox.new (h : IsGram w F (.slice A1 T c1) (.slice A2 N c2) (.slice A3 R c3) G) (st : Int) : GBox (w.alloc (.cells #[.slice A1 T c1, .slice A2 N c2, .slice A3 R c3, .int .i64 st] 25)) F w.heap.size A1 c1 A2 c2 A3 c3 T N R st G := by
  have hb : Below w.heap.size w (w.alloc (.cells #[.slice A1 T c1, .slice A2 N c2, .slice A3 R c3, .int .i64 st] 25)) := (Below.refl _ w).alloc (Nat.le_refl _) _
  obtain ⟨a1, d1, a2, d2, a3, d3, e1, e2, e3, l1, l2, l3, m1, m2, m3⟩ := h.slices
  injection e1 with e1 f1 g1
  injection e2 with e2 f2 g2
  injection e3 with e3 f3 g3
  obtain ⟨s1, s2, s3⟩ := h.small
  exact ⟨h.below hb, Blk.new w _ _, f1, f2, f3, by omega, by omega, by omega, by omega, by omega, by omega, by omega, by omega, by omega⟩
end

theorem unlikeOf_false {rs : List (Int × List Int)} {k i : Nat} {r : Int × List Int} (hi : i < k) (hk : rs[k]? = some r) (hir : rs[i]? = some r) : unlikeOf rs = false := by
  have hl := (List.getElem?_eq_some_iff.1 hk).1
  refine unlikeUpto_mono (k := k + 1) (by omega) ?_
  rw [unlikeUpto_succ hk]
  have : (rs.take k).any (fun x => decide (x = r)) = true := by
    rw [List.any_eq_true]
    exact ⟨r, List.mem_of_getElem? (i := i) (by rw [List.getElem?_take_of_lt hi]; exact hir), by simp⟩
  rw [this]; simp
theorem unlikeUpto_next {rs : List (Int × List Int)} {k : Nat} {r : Int × List Int} (h : unlikeUpto rs k = true) (hk : rs[k]? = some r) (hd : ∀ j : Nat, j < k → rs[j]? ≠ some r) : unlikeUpto rs (k + 1) = true := by
  rw [unlikeUpto_succ hk, h]
  have : (rs.take k).any (fun x => decide (x = r)) = false := by
    rw [List.any_eq_false]
    intro x hx
    obtain ⟨j, hj, e⟩ := List.getElem_of_mem hx
    rw [List.length_take] at hj
    rw [List.getElem_take] at e
    have := hd j (by omega)
    rw [List.getElem?_eq_getElem (by omega), e] at this
    simpa using this
  rw [this]; rfl

set_option maxRecDepth 100000 in
set_option maxHeartbeats 4000000 in
theorem ref_unlike {w : World} {F : Nat → Prop} {vt vn vr : Value} {G : GramD} (h : IsGram w F vt vn vr G) (st : Int) :
    Calls Tryz.prog 56 #[GV vt vn vr st] w (Quiet w (.bool (unlikeOf G.rules))) := by
  obtain ⟨A1, c1, A2, c2, A3, c3, rfl, rfl, rfl, -⟩ := h.slices
  have g := GBox.new h st
  have hb0 : Below w.heap.size w (w.alloc (.cells #[.slice A1 G.terms.length c1, .slice A2 G.nons.length c2, .slice A3 G.rules.length c3, .int .i64 st] 25)) := (Below.refl _ w).alloc (Nat.le_refl _) _
  obtain ⟨w1, hw1⟩ : ∃ w1, w1 = w.alloc (.cells #[.slice A1 G.terms.length c1, .slice A2 G.nons.length c2, .slice A3 G.rules.length c3, .int .i64 st] 25) := ⟨_, rfl⟩
  rw [← hw1] at g hb0
  generalize G.terms.length = T at *
  generalize G.nons.length = N at *
  generalize hR : G.rules.length = R at *
  have r0 := g.rs
  have r1 := g.rc
  have r2 := g.c3m
  have XhR := hide hR
  clear hR
  go_enter Tryz.func56, Tryz.ntmps56
  go_wp2_with fail
  rw [← hw1]
  clear hw1
  go_loopw [3] (fun i wr => ∃ k : Nat, k ≤ R ∧ i = .int .i64 k ∧ unlikeUpto G.rules k = true ∧ GBox wr F w.heap.size A1 c1 A2 c2 A3 c3 T N R st G ∧ Below w.heap.size w wr) (fun i _ => R - (intOf i).toNat)
  case atStart => exact ⟨0, Nat.zero_le _, rfl, rfl, g, hb0⟩
  case round =>
    clear g hb0
    obtain ⟨i, hi, rfl, hu, g, hb⟩ := hrel
    obtain ⟨q0, q1, q2, q3⟩ := g.cells
    obtain ⟨wo, rfl⟩ : ∃ wo : World, wo = wr := ⟨_, rfl⟩
    have Xhu := hide hu
    clear hu
    by_cases hlt : i < R
    · go_wp2_with fail
      clear q0 q1 q2 q3
      go_loopw [4] (fun j wr => ∃ k : Nat, k ≤ i ∧ j = .int .i64 k ∧ (∀ j : Nat, j < k → G.rules[j]? ≠ G.rules[i]?) ∧ GBox wr F w.heap.size A1 c1 A2 c2 A3 c3 T N R st G ∧ Below w.heap.size w wr) (fun j _ => i - (intOf j).toNat)
      case atStart => exact ⟨0, Nat.zero_le _, rfl, fun j hj => absurd hj (by omega), g, hb⟩
      case round =>
        clear g hb
        obtain ⟨k, hk, rfl, hd, g, hb⟩ := hrel
        obtain ⟨q0, q1, q2, q3⟩ := g.cells
        obtain ⟨b, off, l, x, A, n, c, rfl, hbl, hx, h0, h1, hr, -⟩ := g.rule hlt
        have Xhd := hide hd
        clear hd
        by_cases hki : k < i
        · obtain ⟨b', off', l', x', A', n', c', e, -, hx', h0', h1', hr', -⟩ := g.rule (k := k) (by omega)
          injection e with e
          injection e with e1 e2
          subst e1 e2
          have hs := fun q => ref_same_rule (l := l) (m := l') (hr.drewN q) (hr'.drewN q) g.gram.lt g.gram.lt
          have hlt' : (i : Int) < (R : Int) := by omega
          have hkR : (k : Int) < (R : Int) := by omega
          have hki' : (k : Int) < (i : Int) := by omega
          by_cases he : (l, x) = (l', x')
          · rw [decide_eq_true he] at hs
            have Xhs := hide hs
            have Xhe := hide he
            have Xhx := hide hx
            have Xhx' := hide hx'
            have Xhr := hide hr
            have Xhr' := hide hr'
            clear hs he hx hx' hr hr'
            go_wp2_with fail
            refine region_tail 10 (by kernel_rfl) (by kernel_rfl) ?_
            simp only [List.take_succ_cons, List.take_zero, List.drop_succ_cons, List.drop_zero]
            repeat still_step
            refine wpStill_nil ?_
            go_wp2_with fail
            refine (Xhs.out _).mono ?_
            rintro e w5 ⟨rfl, b5⟩
            go_wp2_with fail
            go_ret
            exact ⟨ret_bool (unlikeOf_false hki Xhx.out (by rw [Xhe.out]; exact Xhx'.out)).symm, (below_drewN hb 1).trans (b5.mono hb.size)⟩
          · rw [decide_eq_false he] at hs
            have Xhs := hide hs
            have Xhe := hide he
            have Xhx := hide hx
            have Xhx' := hide hx'
            have Xhr := hide hr
            have Xhr' := hide hr'
            clear hs he hx hx' hr hr'
            go_wp2_with fail
            refine region_tail 10 (by kernel_rfl) (by kernel_rfl) ?_
            simp only [List.take_succ_cons, List.take_zero, List.drop_succ_cons, List.drop_zero]
            repeat still_step
            refine wpStill_nil ?_
            go_wp2_with fail
            refine (Xhs.out _).mono ?_
            rintro e w5 ⟨rfl, b5⟩
            go_wp2_with fail
            go_roundw
            case rel =>
              refine ⟨k + 1, by omega, by go_num, fun j hj => ?_, (g.drewN 1).below b5, (below_drewN hb 1).trans (b5.mono hb.size)⟩
              by_cases hjk : j = k
              · subst hjk; rw [Xhx.out, Xhx'.out]; intro e; injection e with e; exact Xhe.out e.symm
              · exact Xhd.out j (by omega)
            case measure => simp [intOf]; omega
        · have hki : k = i := by omega
          subst hki
          have Xhx := hide hx
          have Xh0 := hide h0
          have Xh1 := hide h1
          have Xhr := hide hr
          clear hx h0 h1 hr
          go_wp2_with fail
          go_roundw
          case rel => exact ⟨k + 1, by omega, by go_num, unlikeUpto_next Xhu.out Xhx.out (fun j hj => by rw [← Xhx.out]; exact Xhd.out j hj), g, hb⟩
          case measure => simp [intOf]; omega
    · have hik : i = R := by omega
      go_wp2_with fail
      go_ret
      exact ⟨ret_bool (by rw [← Xhu.out, hik, ← XhR.out]; rfl), hb⟩
end

section
open Go.RowKit
attribute [local irreducible] wpStill wpOne wpPh

def allKnown (G : GramD) (st : Int) : Bool := isNon G st && G.rules.all (fun r => knownOf G r)
theorem allKnown_no {G : GramD} {st : Int} {k : Nat} {r : Int × List Int} (hk : G.rules[k]? = some r) (h : knownOf G r = false) : allKnown G st = false := by
  unfold allKnown
  have : G.rules.all (fun r => knownOf G r) = false := by
    rw [List.all_eq_false]
    exact ⟨r, List.mem_of_getElem? hk, by simp [h]⟩
  rw [this]; simp
theorem knownOf_no {G : GramD} {l : Int} {xs : List Int} {j : Nat} {s : Int} (hj : xs[j]? = some s) (ht : isTerm G s = false) (hn : isNon G s = false) : knownOf G (l, xs) = false := by
  unfold knownOf
  have : xs.all (fun s => isTerm G s || isNon G s) = false := by
    rw [List.all_eq_false]
    exact ⟨s, List.mem_of_getElem? hj, by simp [ht, hn]⟩
  simp only [this]; simp
theorem knownOf_yes {G : GramD} {l : Int} {xs : List Int} (hl : isNon G l = true) (h : ∀ (j : Nat) (s : Int), xs[j]? = some s → (isTerm G s || isNon G s) = true) : knownOf G (l, xs) = true := by
  unfold knownOf
  rw [Bool.and_eq_true]
  refine ⟨hl, ?_⟩
  show xs.all (fun s => isTerm G s || isNon G s) = true
  rw [List.all_eq_true]
  intro s hs
  obtain ⟨j, hj, e⟩ := List.getElem_of_mem hs
  exact h j s (by rw [List.getElem?_eq_getElem hj, e])

set_option maxRecDepth 100000 in
set_option maxHeartbeats 4000000 in
theorem ref_known {w : World} {F : Nat → Prop} {vt vn vr : Value} {G : GramD} (h : IsGram w F vt vn vr G) (st : Int) :
    Calls Tryz.prog 55 #[GV vt vn vr st] w (Quiet w (.bool (allKnown G st))) := by
  obtain ⟨A1, c1, A2, c2, A3, c3, rfl, rfl, rfl, -⟩ := h.slices
  have g := GBox.new h st
  have hb0 : Below w.heap.size w (w.alloc (.cells #[.slice A1 G.terms.length c1, .slice A2 G.nons.length c2, .slice A3 G.rules.length c3, .int .i64 st] 25)) := (Below.refl _ w).alloc (Nat.le_refl _) _
  obtain ⟨w1, hw1⟩ : ∃ w1, w1 = w.alloc (.cells #[.slice A1 G.terms.length c1, .slice A2 G.nons.length c2, .slice A3 G.rules.length c3, .int .i64 st] 25) := ⟨_, rfl⟩
  rw [← hw1] at g hb0
  generalize hT : G.terms.length = T at *
  generalize hN : G.nons.length = N at *
  generalize hR : G.rules.length = R at *
  have r0 := g.rs
  have r1 := g.rc
  have r2 := g.c3m
  have t0 := g.ts
  have n0 := g.ns
  have n1 := g.nc
  have n2 := g.c2m
  have cn : ∀ (s : Int) (wr : World), GBox wr F w.heap.size A1 c1 A2 c2 A3 c3 T N R st G → Calls Tryz.prog 98 #[GV (.slice A1 T c1) (.slice A2 N c2) (.slice A3 R c3) st, .int .i64 s] wr (Quiet wr (.bool (isNon G s))) := fun s wr g => ref_non g.gram st s
  have ct : ∀ (s : Int) (wr : World), GBox wr F w.heap.size A1 c1 A2 c2 A3 c3 T N R st G → Calls Tryz.prog 103 #[GV (.slice A1 T c1) (.slice A2 N c2) (.slice A3 R c3) st, .int .i64 s] wr (Quiet wr (.bool (isTerm G s))) := fun s wr g => ref_term g.gram st s
  have hN0 : N = 0 → allKnown G st = false := fun e => by
    unfold allKnown
    have : ¬ isNon G st = true := by rw [isNon_iff]; omega
    rw [Bool.not_eq_true] at this
    rw [this]; rfl
  have hst : isNon G st = false → allKnown G st = false := fun e => by unfold allKnown; rw [e]; rfl
  have hyes : isNon G st = true → (∀ (k : Nat) (r : Int × List Int), k < R → G.rules[k]? = some r → knownOf G r = true) → allKnown G st = true := fun e hh => by
    unfold allKnown
    rw [e, Bool.true_and, List.all_eq_true]
    intro r hr
    obtain ⟨j, hj, e⟩ := List.getElem_of_mem hr
    exact hh j r (by omega) (by rw [List.getElem?_eq_getElem hj, e])
  obtain ⟨q0, q1, q2, q3⟩ := g.cells
  have XhR := hide hR
  have XhT := hide hT
  have XhN := hide hN
  have Xcn := hide cn
  have Xct := hide ct
  have XhN0 := hide hN0
  have Xhst := hide hst
  have Xhyes := hide hyes
  clear hR hT hN cn ct hN0 hst hyes
  rw [hw1] at q0 q1 q2 q3
  go_enter Tryz.func55, Tryz.ntmps55
  by_cases hn0 : N = 0
  · subst hn0
    go_wp2_with fail
    go_ret
    exact ⟨ret_bool (XhN0.out (by trivial)).symm, by rw [hw1] at hb0; exact hb0⟩
  · have hn0' : ((N : Int) == 0) = false := by simpa using (by omega : ¬ (N : Int) = 0)
    go_wp2_with fail
    rw [← hw1] at *
    clear hw1 q0 q1 q2 q3
    refine (Xcn.out _ _ g).mono ?_
    rintro e w2 ⟨rfl, b2⟩
    have g2 := g.below b2
    have hb2 := hb0.trans (b2.mono hb0.size)
    clear g hb0 b2
    have h1 := Xhst.out
    have h2 := Xhyes.out
    clear Xhst Xhyes
    generalize isNon G st = q at *
    cases q with
    | false =>
      have h3 := h1 rfl
      have Xh1 := hide h1
      have Xh2 := hide h2
      have Xh3 := hide h3
      clear h1 h2 h3
      go_wp2_with fail
      go_ret
      exact ⟨ret_bool Xh3.out.symm, hb2⟩
    | true =>
      have h3 := h2 rfl
      obtain ⟨q0, q1, q2, q3⟩ := g2.cells
      have Xh1 := hide h1
      have Xh2 := hide h2
      have Xh3 := hide h3
      clear h1 h2 h3
      go_wp2_with fail
      clear q0 q1 q2 q3
      go_loopw [3] (fun i wr => ∃ k : Nat, k ≤ R ∧ i = .int .i64 k ∧ (∀ (j : Nat) (r : Int × List Int), j < k → G.rules[j]? = some r → knownOf G r = true) ∧ GBox wr F w.heap.size A1 c1 A2 c2 A3 c3 T N R st G ∧ Below w.heap.size w wr) (fun i _ => R - (intOf i).toNat)
      case atStart => exact ⟨0, Nat.zero_le _, rfl, fun j r hj => absurd hj (by omega), g2, hb2⟩
      case round =>
        clear g2 hb2
        obtain ⟨i, hi, rfl, hu, g, hb⟩ := hrel
        obtain ⟨q0, q1, q2, q3⟩ := g.cells
        obtain ⟨wo, rfl⟩ : ∃ wo : World, wo = wr := ⟨_, rfl⟩
        have Xhu := hide hu
        clear hu
        by_cases hlt : i < R
        · obtain ⟨b, off, l, x, A, n, c, rfl, hbl, hx, h0, h1, hr, hnx, hnc, hcm⟩ := g.rule hlt
          have hlt' : (i : Int) < (R : Int) := by omega
          have hcn := Xcn.out l (wo.drewN 1) (g.drewN 1)
          have Xhcn := hide hcn
          have Xhnx := hide hnx
          have Xhr := hide hr
          have Xhx := hide hx
          clear hcn hnx hr hx
          have hqn : ∀ q : Bool, isNon G l = q → isNon G l = q := fun _ e => e
          cases hq : isNon G l with
          | false =>
            rw [hq] at Xhcn
            have hfin := allKnown_no (st := st) Xhx.out (by show (isNon G l && _) = false; rw [hq]; rfl)
            have Xhfin := hide hfin
            have Xhq := hide hq
            have Xhqn := hide hqn
            clear hfin hq hqn
            go_wp2_with fail
            refine region_tail 7 (by kernel_rfl) (by kernel_rfl) ?_
            simp only [List.take_succ_cons, List.take_zero, List.drop_succ_cons, List.drop_zero]
            repeat still_step
            refine wpStill_nil ?_
            go_wp2_with fail
            refine (Xhcn.out).mono ?_
            rintro e w5 ⟨rfl, b5⟩
            go_wp2_with fail
            go_ret
            exact ⟨ret_bool Xhfin.out.symm, (below_drewN hb 1).trans (b5.mono hb.size)⟩
          | true =>
            rw [hq] at Xhcn
            have Xhq := hide hq
            have Xhqn := hide hqn
            clear hq hqn
            go_wp2_with fail
            refine region_tail 7 (by kernel_rfl) (by kernel_rfl) ?_
            simp only [List.take_succ_cons, List.take_zero, List.drop_succ_cons, List.drop_zero]
            repeat still_step
            refine wpStill_nil ?_
            go_wp2_with fail
            refine (Xhcn.out).mono ?_
            rintro e w5 ⟨rfl, b5⟩
            have g5 := (g.drewN 1).below b5
            have hb5 := (below_drewN hb 1).trans (b5.mono hb.size)
            have g0 := g
            clear g hb q0 q1 q2 q3 h0
            go_wp2_with fail
            have hr5 := (Xhr.out.drewN 1).below b5 g0.gram.lt
            have h15 := (b5.cell (p := ⟨b, off + i * 2 + 1, none⟩) hbl).trans h1
            clear g0 h1 b5
            go_loopw [4] (fun j wr => ∃ k : Nat, k ≤ n ∧ j = .int .i64 k ∧ (∀ (j : Nat) (s : Int), j < k → x[j]? = some s → (isTerm G s || isNon G s) = true) ∧ GBox wr F w.heap.size A1 c1 A2 c2 (some ⟨b, off, none⟩) c3 T N R st G ∧ wr.cell? ⟨b, off + i * 2 + 1, none⟩ = some (.slice A n c) ∧ RdI wr F (.slice A n c) x ∧ Below w.heap.size w wr) (fun j _ => n - (intOf j).toNat)
            case atStart => exact ⟨0, Nat.zero_le _, rfl, fun j s hj => absurd hj (by omega), g5, h15, hr5, hb5⟩
            case round =>
              clear g5 hb5 h15 hr5 Xhr
              obtain ⟨k, hk, rfl, hd, g, h1, hr, hb⟩ := hrel
              obtain ⟨q0, q1, q2, q3⟩ := g.cells
              have hbl' := World.block_lt_of_cell? wr _ h1
              have Xhd := hide hd
              clear hd
              by_cases hkn : k < n
              · obtain ⟨-, -, -, hcc⟩ := RdI.at_ hr
                obtain ⟨bb, oo, rfl, hFb, hcc⟩ := hcc (by omega)
                obtain ⟨s, hs⟩ : ∃ s, x[k]? = some s := ⟨_, List.getElem?_eq_getElem (by rw [← Xhnx.out]; exact hkn)⟩
                have h2 := hcc k s hs
                have hkn' : (k : Int) < (n : Int) := by omega
                have hct := Xct.out s
                have hcn := Xcn.out s
                have hbad := knownOf_no (G := G) (l := l) hs
                have hbad2 := allKnown_no (st := st) Xhx.out
                have hfin : isTerm G s = false → isNon G s = false → allKnown G st = false := fun e1 e2 => hbad2 (hbad e1 e2)
                have Xhs := hide hs
                have Xhr := hide hr
                have Xhfin := hide hfin
                have Xhct := hide hct
                have Xhcn := hide hcn
                clear hs hr hfin hct hcn
                clear hcc hbad hbad2
                have hct1 := Xhct.out wr.drew (g.drewN 1)
                obtain ⟨wq, hwq⟩ : ∃ wq, wq = wr.drew := ⟨_, rfl⟩
                have gq : GBox wq F w.heap.size A1 c1 A2 c2 (some ⟨b, off, none⟩) c3 T N R st G := by rw [hwq]; exact g.drewN 1
                have h1q : wq.cell? ⟨b, off + i * 2 + 1, none⟩ = some (.slice (some ⟨bb, oo, none⟩) n c) := by rw [hwq]; exact h1
                have h2q : wq.cell? ⟨bb, oo + k, none⟩ = some (.int .i64 s) := by rw [hwq]; exact h2
                have hbq : Below w.heap.size w wq := by rw [hwq]; exact below_drewN hb 1
                have hrq : RdI wq F (.slice (some ⟨bb, oo, none⟩) n c) x := by rw [hwq]; exact Xhr.out
                have hl1 := World.block_lt_of_cell? wq _ h1q
                have hl2 := World.block_lt_of_cell? wq _ h2q
                have keep : ∀ w6, Below wq.heap.size wq w6 → GBox w6 F w.heap.size A1 c1 A2 c2 (some ⟨b, off, none⟩) c3 T N R st G ∧ (w6.cell? ⟨w.heap.size, 0, none⟩ = some (.slice A1 T c1) ∧ w6.cell? ⟨w.heap.size, 1, none⟩ = some (.slice A2 N c2) ∧ w6.cell? ⟨w.heap.size, 2, none⟩ = some (.slice (some ⟨b, off, none⟩) R c3) ∧ w6.cell? ⟨w.heap.size, 3, none⟩ = some (.int .i64 st) ∧ w6.cell? ⟨b, off + i * 2 + 1, none⟩ = some (.slice (some ⟨bb, oo, none⟩) n c) ∧ w6.cell? ⟨bb, oo + k, none⟩ = some (.int .i64 s)) ∧ RdI w6 F (.slice (some ⟨bb, oo, none⟩) n c) x ∧ Below w.heap.size w w6 := fun w6 b6 => by
                  have g6 := gq.below b6
                  obtain ⟨p0, p1, p2, p3⟩ := g6.cells
                  exact ⟨g6, ⟨p0, p1, p2, p3, (b6.cell (p := ⟨b, off + i * 2 + 1, none⟩) hl1).trans h1q, (b6.cell (p := ⟨bb, oo + k, none⟩) hl2).trans h2q⟩, hrq.below b6 gq.gram.lt, hbq.trans (b6.mono hbq.size)⟩
                rw [hwq] at keep
                have Xkeep := hide keep
                clear keep
                clear hwq gq h1q h2q hbq hrq hl1 hl2
                cases hqt : isTerm G s with
                | true =>
                  rw [hqt] at hct1
                  have Xhct1 := hide hct1
                  have Xhqt := hide hqt
                  clear hct1 hqt
                  go_wp2_with fail
                  refine region_phases [10, 12] (by kernel_rfl) (by kernel_rfl) ?_
                  refine wpPh_cons _ _ ?_
                  simp only [List.take_succ_cons, List.take_zero, List.drop_succ_cons, List.drop_zero]
                  iterate 10 still_step
                  refine wpStill_nil ?_
                  refine wpOne_list ?_
                  go_wp2_with fail
                  refine Xhct1.out.mono ?_
                  rintro e w6 ⟨rfl, b6⟩
                  obtain ⟨g6, kk, hr6, hb6⟩ := Xkeep.out _ b6
                  obtain ⟨k0, k1, k2, k3, k4, k5⟩ := kk
                  go_wp2_with fail
                  refine wpPh_cons _ _ ?_
                  simp only [List.take_succ_cons, List.take_zero, List.drop_succ_cons, List.drop_zero]
                  iterate 12 still_step
                  refine wpStill_nil ?_
                  refine wpOne_list ?_
                  go_wp2_with fail
                  refine wpPh_nil ?_
                  go_wp2_with fail
                  go_roundw
                  case rel => exact ⟨k + 1, by omega, by go_num, fun j s' hj hs' => by
                    by_cases e : j = k
                    · subst e; rw [Xhs.out] at hs'; injection hs' with hs'; rw [← hs', Xhqt.out]; rfl
                    · exact Xhd.out j s' (by omega) hs', g6, k4, hr6, hb6⟩
                  case measure => simp [intOf]; omega
                | false =>
                  rw [hqt] at hct1
                  have Xhct1 := hide hct1
                  have Xhqt := hide hqt
                  clear hct1 hqt
                  go_wp2_with fail
                  refine region_phases [10, 12] (by kernel_rfl) (by kernel_rfl) ?_
                  refine wpPh_cons _ _ ?_
                  simp only [List.take_succ_cons, List.take_zero, List.drop_succ_cons, List.drop_zero]
                  iterate 10 still_step
                  refine wpStill_nil ?_
                  refine wpOne_list ?_
                  go_wp2_with fail
                  refine Xhct1.out.mono ?_
                  rintro e w6 ⟨rfl, b6⟩
                  obtain ⟨g6, kk, hr6, hb6⟩ := Xkeep.out _ b6
                  obtain ⟨k0, k1, k2, k3, k4, k5⟩ := kk
                  have hcn1 := Xhcn.out w6 g6
                  cases hqn : isNon G s with
                  | true =>
                    rw [hqn] at hcn1
                    have Xhcn1 := hide hcn1
                    have Xhqn := hide hqn
                    clear hcn1 hqn
                    go_wp2_with fail
                    refine wpPh_cons _ _ ?_
                    simp only [List.take_succ_cons, List.take_zero, List.drop_succ_cons, List.drop_zero]
                    iterate 12 still_step
                    refine wpStill_nil ?_
                    refine wpOne_list ?_
                    go_wp2_with fail
                    refine Xhcn1.out.mono ?_
                    rintro e w7 ⟨rfl, b7⟩
                    have b67 := b6.trans (b7.mono b6.size)
                    obtain ⟨g7, kk, hr7, hb7⟩ := Xkeep.out _ b67
                    obtain ⟨k0, k1, k2, k3, k4, k5⟩ := kk
                    go_wp2_with fail
                    refine wpPh_nil ?_
                    go_wp2_with fail
                    go_roundw
                    case rel => exact ⟨k + 1, by omega, by go_num, fun j s' hj hs' => by
                      by_cases e : j = k
                      · subst e; rw [Xhs.out] at hs'; injection hs' with hs'; rw [← hs', Xhqn.out]; simp
                      · exact Xhd.out j s' (by omega) hs', g7, k4, hr7, hb7⟩
                    case measure => simp [intOf]; omega
                  | false =>
                    rw [hqn] at hcn1
                    have Xhcn1 := hide hcn1
                    have Xhqn := hide hqn
                    clear hcn1 hqn
                    go_wp2_with fail
                    refine wpPh_cons _ _ ?_
                    simp only [List.take_succ_cons, List.take_zero, List.drop_succ_cons, List.drop_zero]
                    iterate 12 still_step
                    refine wpStill_nil ?_
                    refine wpOne_list ?_
                    go_wp2_with fail
                    refine Xhcn1.out.mono ?_
                    rintro e w7 ⟨rfl, b7⟩
                    have b67 := b6.trans (b7.mono b6.size)
                    obtain ⟨g7, kk, hr7, hb7⟩ := Xkeep.out _ b67
                    go_wp2_with fail
                    refine wpPh_nil ?_
                    go_wp2_with fail
                    go_ret
                    exact ⟨ret_bool (Xhfin.out Xhqt.out Xhqn.out).symm, hb7⟩
              · have hkn2 : k = n := by omega
                go_wp2_with fail
                go_roundw
                case rel =>
                  refine ⟨i + 1, by omega, by go_num, fun j r hj hj' => ?_, g, hb⟩
                  by_cases e : j = i
                  · subst e
                    rw [Xhx.out] at hj'
                    injection hj' with hj'
                    rw [← hj']
                    exact knownOf_yes Xhq.out (fun j s hs => Xhd.out j s (by have := (List.getElem?_eq_some_iff.1 hs).1; rw [hkn2, Xhnx.out]; exact this) hs)
                  · exact Xhu.out j r (by omega) hj'
                case measure => simp [intOf]; omega
        · have e : i = R := by omega
          go_wp2_with fail
          go_ret
          exact ⟨ret_bool (Xh3.out (fun j r hj hr => Xhu.out j r (by omega) hr)).symm, hb⟩
end
end Go.Proofs.YtlpokomfljmogaaGreat

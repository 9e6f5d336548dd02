/- The reference's unlike. -/
import Derived.Test.YtejjaabkbkkjlaaGram24
namespace Go.Proofs.Ytejjaabkbkkjlaa
set_option linter.unusedVariables false
open Go.RowKit

/-- a boxed grammar -/
structure GBox (w : World) (F : Nat → Prop) (B : Nat) (A1 : Option Addr) (c1 : Nat) (A2 : Option Addr) (c2 : Nat) (A3 : Option Addr) (c3 T N R : Nat) (st : Int) (G : GramD) : Prop where
  gram : IsGram w F (.slice A1 T c1) (.slice A2 N c2) (.slice A3 R c3) G
  blk : Blk w B 25 #[.slice A1 T c1, .slice A2 N c2, .slice A3 R c3, .int .i64 st]
  t : T = G.terms.length
  n : N = G.nons.length
  r : R = G.rules.length
  tc : T ≤ c1
  nc : N ≤ c2
  rc : R ≤ c3
  c1m : c1 ≤ 9223372036854775807
  c2m : c2 ≤ 9223372036854775807
  c3m : c3 ≤ 9223372036854775807
  ts : T ≤ 8796093022207
  ns : N ≤ 8796093022207
  rs : R ≤ 4398046511103
section
variable {w w' : World} {F : Nat → Prop} {B : Nat} {A1 A2 A3 : Option Addr} {c1 c2 c3 T N R : Nat} {st : Int} {G : GramD}
theorem GBox.below (h : GBox w F B A1 c1 A2 c2 A3 c3 T N R st G) (hb : Below w.heap.size w w') : GBox w' F B A1 c1 A2 c2 A3 c3 T N R st G :=
  ⟨h.gram.below hb, h.blk.below hb h.blk.lt, h.t, h.n, h.r, h.tc, h.nc, h.rc, h.c1m, h.c2m, h.c3m, h.ts, h.ns, h.rs⟩
theorem GBox.drewN (h : GBox w F B A1 c1 A2 c2 A3 c3 T N R st G) (q : Nat) : GBox (w.drewN q) F B A1 c1 A2 c2 A3 c3 T N R st G :=
  h.below (below_drewN (Below.refl _ _) q)
theorem GBox.cells (h : GBox w F B A1 c1 A2 c2 A3 c3 T N R st G) : w.cell? ⟨B, 0, none⟩ = some (.slice A1 T c1) ∧ w.cell? ⟨B, 1, none⟩ = some (.slice A2 N c2) ∧ w.cell? ⟨B, 2, none⟩ = some (.slice A3 R c3) ∧ w.cell? ⟨B, 3, none⟩ = some (.int .i64 st) :=
  ⟨(h.blk.cell 0).trans rfl, (h.blk.cell 1).trans rfl, (h.blk.cell 2).trans rfl, (h.blk.cell 3).trans rfl⟩
/-- a rule, where it lies -/
theorem GBox.rule (h : GBox w F B A1 c1 A2 c2 A3 c3 T N R st G) {k : Nat} (hk : k < R) : ∃ (b off : Nat) (l : Int) (x : List Int) (A : Option Addr) (n c : Nat), A3 = some ⟨b, off, none⟩ ∧ b < w.heap.size ∧ G.rules[k]? = some (l, x) ∧ w.cell? ⟨b, off + k * 2, none⟩ = some (.int .i64 l) ∧ w.cell? ⟨b, off + k * 2 + 1, none⟩ = some (.slice A n c) ∧ RdI w F (.slice A n c) x ∧ n = x.length ∧ n ≤ c ∧ c ≤ 9223372036854775807 := by
  obtain ⟨-, -, -, hcell⟩ := ERule.at_ h.gram.rules
  obtain ⟨b, off, hA, hb, hc⟩ := hcell (by omega)
  obtain ⟨l, x, v, hx, h0, h1, hr⟩ := RdR.get (n := R) h.gram.lt hb (Below.refl _ w) hc (k := k) (by rw [← h.r]; exact hk)
  obtain ⟨A, n, c, rfl, _⟩ := id hr
  obtain ⟨hn, hnc, hcm, -⟩ := RdI.at_ hr
  exact ⟨b, off, l, x, A, n, c, hA, h.gram.lt b hb, hx, h0, h1, hr, hn, hnc, hcm⟩
theorem GBox.new (h : IsGram w F (.slice A1 T c1) (.slice A2 N c2) (.slice A3 R c3) G) (st : Int) : GBox (w.alloc (.cells #[.slice A1 T c1, .slice A2 N c2, .slice A3 R c3, .int .i64 st] 25)) F w.heap.size A1 c1 A2 c2 A3 c3 T N R st G := by
  have hb : Below w.heap.size w (w.alloc (.cells #[.slice A1 T c1, .slice A2 N c2, .slice A3 R c3, .int .i64 st] 25)) := (Below.refl _ w).alloc (Nat.le_refl _) _
  obtain ⟨a1, d1, a2, d2, a3, d3, e1, e2, e3, l1, l2, l3, m1, m2, m3⟩ := h.slices
  injection e1 with e1 f1 g1
  injection e2 with e2 f2 g2
  injection e3 with e3 f3 g3
  obtain ⟨s1, s2, s3⟩ := h.small
  exact ⟨h.below hb, Blk.new w _ _, f1, f2, f3, by omega, by omega, by omega, by omega, by omega, by omega, by omega, by omega, by omega⟩
end

theorem unlikeOf_false {rs : List (Int × List Int)} {k i : Nat} {r : Int × List Int} (hi : i < k) (hk : rs[k]? = some r) (hir : rs[i]? = some r) : unlikeOf rs = false := by
  have hl := (List.getElem?_eq_some_iff.1 hk).1
  refine unlikeUpto_mono (k := k + 1) (by omega) ?_
  rw [unlikeUpto_succ hk]
  have : (rs.take k).any (fun x => decide (x = r)) = true := by
    rw [List.any_eq_true]
    exact ⟨r, List.mem_of_getElem? (i := i) (by rw [List.getElem?_take_of_lt hi]; exact hir), by simp⟩
  rw [this]; simp
theorem unlikeUpto_next {rs : List (Int × List Int)} {k : Nat} {r : Int × List Int} (h : unlikeUpto rs k = true) (hk : rs[k]? = some r) (hd : ∀ j : Nat, j < k → rs[j]? ≠ some r) : unlikeUpto rs (k + 1) = true := by
  rw [unlikeUpto_succ hk, h]
  have : (rs.take k).any (fun x => decide (x = r)) = false := by
    rw [List.any_eq_false]
    intro x hx
    obtain ⟨j, hj, e⟩ := List.getElem_of_mem hx
    rw [List.length_take] at hj
    rw [List.getElem_take] at e
    have := hd j (by omega)
    rw [List.getElem?_eq_getElem (by omega), e] at this
    simpa using this
  rw [this]; rfl

set_option maxRecDepth 100000 in
set_option maxHeartbeats 4000000 in
theorem ref_unlike {w : World} {F : Nat → Prop} {vt vn vr : Value} {G : GramD} (h : IsGram w F vt vn vr G) (st : Int) :
    Calls Try.prog 89 #[GV vt vn vr st] w (Quiet w (.bool (unlikeOf G.rules))) := by
  obtain ⟨A1, c1, A2, c2, A3, c3, rfl, rfl, rfl, -⟩ := h.slices
  have g := GBox.new h st
  have hb0 : Below w.heap.size w (w.alloc (.cells #[.slice A1 G.terms.length c1, .slice A2 G.nons.length c2, .slice A3 G.rules.length c3, .int .i64 st] 25)) := (Below.refl _ w).alloc (Nat.le_refl _) _
  obtain ⟨w1, hw1⟩ : ∃ w1, w1 = w.alloc (.cells #[.slice A1 G.terms.length c1, .slice A2 G.nons.length c2, .slice A3 G.rules.length c3, .int .i64 st] 25) := ⟨_, rfl⟩
  rw [← hw1] at g hb0
  generalize G.terms.length = T at *
  generalize G.nons.length = N at *
  generalize hR : G.rules.length = R at *
  have r0 := g.rs
  have r1 := g.rc
  have r2 := g.c3m
  have XhR := hide hR
  clear hR
  go_enter Try.func89, Try.ntmps89
  go_wp2_with fail
  rw [← hw1]
  clear hw1
  go_loopw [3] (fun i wr => ∃ k : Nat, k ≤ R ∧ i = .int .i64 k ∧ unlikeUpto G.rules k = true ∧ GBox wr F w.heap.size A1 c1 A2 c2 A3 c3 T N R st G ∧ Below w.heap.size w wr) (fun i _ => R - (intOf i).toNat)
  case atStart => exact ⟨0, Nat.zero_le _, rfl, rfl, g, hb0⟩
  case round =>
    clear g hb0
    obtain ⟨i, hi, rfl, hu, g, hb⟩ := hrel
    obtain ⟨q0, q1, q2, q3⟩ := g.cells
    obtain ⟨wo, rfl⟩ : ∃ wo : World, wo = wr := ⟨_, rfl⟩
    have Xhu := hide hu
    clear hu
    by_cases hlt : i < R
    · go_wp2_with fail
      clear q0 q1 q2 q3
      go_loopw [4] (fun j wr => ∃ k : Nat, k ≤ i ∧ j = .int .i64 k ∧ (∀ j : Nat, j < k → G.rules[j]? ≠ G.rules[i]?) ∧ GBox wr F w.heap.size A1 c1 A2 c2 A3 c3 T N R st G ∧ Below w.heap.size w wr) (fun j _ => i - (intOf j).toNat)
      case atStart => exact ⟨0, Nat.zero_le _, rfl, fun j hj => absurd hj (by omega), g, hb⟩
      case round =>
        clear g hb
        obtain ⟨k, hk, rfl, hd, g, hb⟩ := hrel
        obtain ⟨q0, q1, q2, q3⟩ := g.cells
        obtain ⟨b, off, l, x, A, n, c, rfl, hbl, hx, h0, h1, hr, -⟩ := g.rule hlt
        have Xhd := hide hd
        clear hd
        by_cases hki : k < i
        · obtain ⟨b', off', l', x', A', n', c', e, -, hx', h0', h1', hr', -⟩ := g.rule (k := k) (by omega)
          injection e with e
          injection e with e1 e2
          subst e1 e2
          have hs := fun q => ref_same_rule (l := l) (m := l') (hr.drewN q) (hr'.drewN q) g.gram.lt g.gram.lt
          have hlt' : (i : Int) < (R : Int) := by omega
          have hkR : (k : Int) < (R : Int) := by omega
          have hki' : (k : Int) < (i : Int) := by omega
          by_cases he : (l, x) = (l', x')
          · rw [decide_eq_true he] at hs
            have Xhs := hide hs
            have Xhe := hide he
            have Xhx := hide hx
            have Xhx' := hide hx'
            have Xhr := hide hr
            have Xhr' := hide hr'
            clear hs he hx hx' hr hr'
            go_wp2_with fail
            refine region_tail 10 (by kernel_rfl) (by kernel_rfl) ?_
            simp only [List.take_succ_cons, List.take_zero, List.drop_succ_cons, List.drop_zero]
            repeat still_step
            refine wpStill_nil ?_
            go_wp2_with fail
            refine (Xhs.out _).mono ?_
            rintro e w5 ⟨rfl, b5⟩
            go_wp2_with fail
            go_ret
            exact ⟨ret_bool (unlikeOf_false hki Xhx.out (by rw [Xhe.out]; exact Xhx'.out)).symm, (below_drewN hb 1).trans (b5.mono hb.size)⟩
          · rw [decide_eq_false he] at hs
            have Xhs := hide hs
            have Xhe := hide he
            have Xhx := hide hx
            have Xhx' := hide hx'
            have Xhr := hide hr
            have Xhr' := hide hr'
            clear hs he hx hx' hr hr'
            go_wp2_with fail
            refine region_tail 10 (by kernel_rfl) (by kernel_rfl) ?_
            simp only [List.take_succ_cons, List.take_zero, List.drop_succ_cons, List.drop_zero]
            repeat still_step
            refine wpStill_nil ?_
            go_wp2_with fail
            refine (Xhs.out _).mono ?_
            rintro e w5 ⟨rfl, b5⟩
            go_wp2_with fail
            go_roundw
            case rel =>
              refine ⟨k + 1, by omega, by go_num, fun j hj => ?_, (g.drewN 1).below b5, (below_drewN hb 1).trans (b5.mono hb.size)⟩
              by_cases hjk : j = k
              · subst hjk; rw [Xhx.out, Xhx'.out]; intro e; injection e with e; exact Xhe.out e.symm
              · exact Xhd.out j (by omega)
            case measure => simp [intOf]; omega
        · have hki : k = i := by omega
          subst hki
          have Xhx := hide hx
          have Xh0 := hide h0
          have Xh1 := hide h1
          have Xhr := hide hr
          clear hx h0 h1 hr
          go_wp2_with fail
          go_roundw
          case rel => exact ⟨k + 1, by omega, by go_num, unlikeUpto_next Xhu.out Xhx.out (fun j hj => by rw [← Xhx.out]; exact Xhd.out j hj), g, hb⟩
          case measure => simp [intOf]; omega
    · have hik : i = R := by omega
      go_wp2_with fail
      go_ret
      exact ⟨ret_bool (by rw [← Xhu.out, hik, ← XhR.out]; rfl), hb⟩
end Go.Proofs.Ytejjaabkbkkjlaa

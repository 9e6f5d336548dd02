/- The reference's Same. -/
import Derived.Test.YtejjaabkbkkjlaaGram6
namespace Go.Proofs.Ytejjaabkbkkjlaa
set_option linter.unusedVariables false
open Go.RowKit

theorem below_drewN {B : Nat} {a b : World} (h : Below B a b) (n : Nat) : Below B a (b.drewN n) := ⟨h.os, h.tape, h.output, h.size, h.block⟩

set_option maxRecDepth 100000 in
set_option maxHeartbeats 4000000 in
theorem ref_same {w : World} {F F' : Nat → Prop} {vt vn vr ut un ur : Value} {G K : GramD} (h : IsGram w F vt vn vr G) (g : IsGram w F' ut un ur K) (st su : Int) :
    Calls Try.prog 39 #[GV vt vn vr st, GV ut un ur su] w (Quiet w (.bool (sameOf G K st su))) := by
  have h2 := (h.blk (.cells #[vt, vn, vr, .int .i64 st] 25)).blk (.cells #[ut, un, ur, .int .i64 su] 25)
  have g2 := (g.blk (.cells #[vt, vn, vr, .int .i64 st] 25)).blk (.cells #[ut, un, ur, .int .i64 su] 25)
  obtain ⟨w2, hw2⟩ : ∃ w2, w2 = (w.alloc (.cells #[vt, vn, vr, .int .i64 st] 25)).alloc (.cells #[ut, un, ur, .int .i64 su] 25) := ⟨_, rfl⟩
  have B0 : Below w.heap.size w w2 := by rw [hw2]; exact ((Below.refl _ w).alloc (Nat.le_refl _) _).alloc (by simp) _
  have z0 : w2.heap.size = w.heap.size + 2 := by rw [hw2]; simp
  have k1 : Blk w2 w.heap.size 25 #[vt, vn, vr, .int .i64 st] := by rw [hw2]; exact (Blk.new w _ _).alloc _
  have k2 : Blk w2 (w.heap.size + 1) 25 #[ut, un, ur, .int .i64 su] := by
    rw [hw2]
    have := Blk.new (w.alloc (.cells #[vt, vn, vr, .int .i64 st] 25)) 25 #[ut, un, ur, .int .i64 su]
    simpa using this
  rw [← hw2] at h2 g2
  have cT : ∀ wr, Below w2.heap.size w2 wr → Calls Try.prog 97 #[vt, ut] wr (Quiet wr (.bool (decide (G.terms = K.terms)))) := fun wr hb => ref_same_strs (h2.below hb).terms (g2.below hb).terms
  have cN : ∀ wr, Below w2.heap.size w2 wr → Calls Try.prog 97 #[vn, un] wr (Quiet wr (.bool (decide (G.nons = K.nons)))) := fun wr hb => ref_same_strs (h2.below hb).nons (g2.below hb).nons
  have cl1 : ∀ wr, Below w2.heap.size w2 wr → ∀ i v, (#[vt, vn, vr, Value.int .i64 st] : Array Value)[i]? = some v → wr.cell? ⟨w.heap.size, i, none⟩ = some v := fun wr hb i v e => ((k1.below hb (by omega)).cell i).trans e
  have cl2 : ∀ wr, Below w2.heap.size w2 wr → ∀ i v, (#[ut, un, ur, Value.int .i64 su] : Array Value)[i]? = some v → wr.cell? ⟨w.heap.size + 1, i, none⟩ = some v := fun wr hb i v e => ((k2.below hb (by omega)).cell i).trans e
  have hr := h2.rules
  have gr := g2.rules
  have hF := h2.lt
  have hG := g2.lt
  obtain ⟨A1, c1, A2, c2, A3, c3, rfl, rfl, rfl, _, _, hnc, _, _, hcm⟩ := h.slices
  obtain ⟨B1, d1, B2, d2, B3, d3, rfl, rfl, rfl, _, _, hmd, _, _, hdm⟩ := g.slices
  obtain ⟨_, _, _, hcell⟩ := ERule.at_ hr
  obtain ⟨_, _, _, hcell'⟩ := ERule.at_ gr
  have hso : sameOf G K st su = (decide (G.terms = K.terms) && (decide (G.nons = K.nons) && (decide (st = su) && decide (G.rules = K.rules)))) := rfl
  generalize hq1 : decide (G.terms = K.terms) = q1 at *
  generalize hq2 : decide (G.nons = K.nons) = q2 at *
  have hss : decide (st = su) = (st == su) := by by_cases e : st = su <;> simp [e]
  rw [hss] at hso
  generalize hq4 : (st == su) = q4 at *
  obtain ⟨n, en⟩ : ∃ n, n = G.rules.length := ⟨_, rfl⟩
  obtain ⟨m, em⟩ : ∃ m, m = K.rules.length := ⟨_, rfl⟩
  rw [← en] at cl1 hnc hcell ⊢
  rw [← em] at cl2 hmd hcell' ⊢
  rw [← en] at hw2
  rw [← em] at hw2
  have HN := hide en
  have HM := hide em
  have HSO := hide hso
  have CT := hide cT
  have CN := hide cN
  have C1 := hide cl1
  have C2 := hide cl2
  have HB0 := hide B0
  have HC := hide hcell
  have HD := hide hcell'
  have HF := hide hF
  have HG := hide hG
  have HZ := hide z0
  clear hq1 hq2 hss hso cT cN cl1 cl2 k1 k2 h2 g2 h g B0 hr gr en em hcell hcell' hF hG z0
  go_enter Try.func39, Try.ntmps39
  rw [hw2] at CT
  go_wp2_with fail
  refine (CT.out _ (Below.refl _ _)).mono ?_
  rintro e w3 ⟨rfl, b3⟩
  rw [← hw2] at b3
  rw [← hw2] at CT
  clear hw2
  have z3 := b3.size
  have zz := HZ.out
  have m1 := C1.out w3 b3 1 _ rfl
  have m2 := C2.out w3 b3 1 _ rfl
  have m3 := C1.out w3 b3 3 _ rfl
  have m4 := C2.out w3 b3 3 _ rfl
  have m5 := C1.out w3 b3 2 _ rfl
  have m6 := C2.out w3 b3 2 _ rfl
  cases q1 with
  | false =>
    go_wp2_with fail
    go_ret
    exact ⟨ret_bool (by rw [HSO.out]; rfl), HB0.out.trans (b3.mono (by omega))⟩
  | true =>
    go_wp2_with fail
    refine (CN.out _ b3).mono ?_
    rintro e w4 ⟨rfl, b4⟩
    have b4' := b3.trans (b4.mono b3.size)
    have m3 := C1.out w4 b4' 3 _ rfl
    have m4 := C2.out w4 b4' 3 _ rfl
    have m5 := C1.out w4 b4' 2 _ rfl
    have m6 := C2.out w4 b4' 2 _ rfl
    cases q2 with
    | false =>
      go_wp2_with fail
      go_ret
      exact ⟨ret_bool (by rw [HSO.out]; rfl), HB0.out.trans (b4'.mono (by omega))⟩
    | true =>
      cases q4 with
      | false =>
        have hq5 : (st != su) = true := by simp [bne, hq4]
        go_wp2_with fail
        go_ret
        exact ⟨ret_bool (by rw [HSO.out]; rfl), HB0.out.trans (b4'.mono (by omega))⟩
      | true =>
        have hq5 : (st != su) = false := by simp [bne, hq4]
        by_cases hnm : n = m
        · subst hnm
          go_wp2_with fail
          clear m1 m2 m3 m4 m5 m6
          go_loopw [5] (fun i wr => ∃ k : Nat, k ≤ n ∧ i = .int .i64 k ∧ Below w2.heap.size w2 wr ∧ ∀ j : Nat, j < k → G.rules[j]? = K.rules[j]?) (fun i _ => n - (intOf i).toNat)
          case atStart => exact ⟨0, Nat.zero_le _, rfl, b4', fun j hj => absurd hj (by omega)⟩
          case round =>
            obtain ⟨k, hk, rfl, hw, hbefore⟩ := hrel
            have HBE := hide hbefore
            have HW := hide hw
            have m5 := C1.out wr hw 2 _ rfl
            have m6 := C2.out wr hw 2 _ rfl
            clear hbefore
            by_cases hlt : k < n
            · obtain ⟨b, off, rfl, hb, hc⟩ := HC.out (by omega)
              obtain ⟨b', off', rfl, hb', hc'⟩ := HD.out (by omega)
              obtain ⟨l, x, vx, hx, hx0, hx1, hxr⟩ := RdR.get (n := n) HF.out hb hw hc (k := k) (by rw [← HN.out]; omega)
              obtain ⟨l', y, vy, hy, hy0, hy1, hyr⟩ := RdR.get (n := n) HG.out hb' hw hc' (k := k) (by rw [← HM.out]; omega)
              have HX := hide hx
              have HY := hide hy
              have hwz := hw.size
              have hs : ∀ q, Calls Try.prog 28 #[.agg #[.int .i64 l, vx], .agg #[.int .i64 l', vy]] (wr.drewN q) (Quiet (wr.drewN q) (.bool (decide ((l, x) = (l', y))))) := fun q =>
                ref_same_rule (l := l) (m := l') (hxr.drewN q) (hyr.drewN q) (fun b e => Nat.lt_of_lt_of_le (HF.out b e) hwz) (fun b e => Nat.lt_of_lt_of_le (HG.out b e) hwz)
              have HS := hide hs
              have hlt1 : ((k : Int) < (n : Int)) := by omega
              clear HC HD hc hx hc' hy hs hxr hyr hw HF HG
              by_cases he : (l, x) = (l', y)
              · have HE := hide he
                have hd : decide ((l, x) = (l', y)) = true := by simpa using he
                rw [hd] at HS
                clear he hd
                go_wp2_with fail
                refine region_tail 10 (by kernel_rfl) (by kernel_rfl) ?_
                simp only [List.take_succ_cons, List.take_zero, List.drop_succ_cons, List.drop_zero]
                repeat still_step
                refine wpStill_nil ?_
                go_wp2_with fail
                refine (HS.out _).mono ?_
                rintro e w5 ⟨rfl, b5⟩
                go_wp2_with fail
                go_roundw
                case rel =>
                  refine ⟨k + 1, by omega, by go_num, ?_, fun j hj => ?_⟩
                  · exact (below_drewN HW.out 1).trans (b5.mono HW.out.size)
                  by_cases hjk : j = k
                  · subst hjk; rw [HX.out, HY.out, HE.out]
                  · exact HBE.out j (by omega)
                case measure => simp [intOf]; omega
              · have HE := hide he
                have hd : decide ((l, x) = (l', y)) = false := by simpa using he
                rw [hd] at HS
                clear he hd
                go_wp2_with fail
                refine region_tail 10 (by kernel_rfl) (by kernel_rfl) ?_
                simp only [List.take_succ_cons, List.take_zero, List.drop_succ_cons, List.drop_zero]
                repeat still_step
                refine wpStill_nil ?_
                go_wp2_with fail
                refine (HS.out _).mono ?_
                rintro e w5 ⟨rfl, b5⟩
                go_wp2_with fail
                go_ret
                refine ⟨ret_bool ?_, HB0.out.trans (((below_drewN HW.out 1).trans (b5.mono HW.out.size)).mono (by omega))⟩
                rw [HSO.out]
                symm
                simp only [Bool.true_and, decide_eq_false_iff_not]
                intro ee
                rw [ee] at HX
                rw [HX.out] at HY
                have := HY.out
                injection this with this
                exact HE.out this
            · go_wp2_with fail
              go_ret
              refine ⟨ret_bool ?_, HB0.out.trans (HW.out.mono (by omega))⟩
              rw [HSO.out]
              symm
              simp only [Bool.true_and, decide_eq_true_eq]
              apply List.ext_getElem?
              intro j
              by_cases hj : j < n
              · exact HBE.out j (by omega)
              · rw [List.getElem?_eq_none (by rw [← HN.out]; omega), List.getElem?_eq_none (by rw [← HM.out]; omega)]
        · have hne : ((n : Int) == (m : Int)) = false := by simpa using (by omega : ¬ (n : Int) = (m : Int))
          go_wp2_with fail
          go_ret
          refine ⟨ret_bool ?_, HB0.out.trans (b4'.mono (by omega))⟩
          rw [HSO.out]
          symm
          simp only [Bool.true_and, decide_eq_false_iff_not]
          intro ee
          exact hnm (by rw [HN.out, HM.out, ee])
end Go.Proofs.Ytejjaabkbkkjlaa

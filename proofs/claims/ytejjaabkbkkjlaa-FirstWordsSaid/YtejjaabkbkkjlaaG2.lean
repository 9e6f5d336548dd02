/- Same, Name, Of, Rule. -/
import Derived.Test.YtejjaabkbkkjlaaG1
namespace Go.Proofs.Ytejjaabkbkkjlaa
set_option linter.unusedVariables false

section
open Go.RowKit

theorem below_drewN {B : Nat} {a b : World} (h : Below B a b) (n : Nat) : Below B a (b.drewN n) := ⟨h.os, h.tape, h.output, h.size, h.block⟩

set_option maxRecDepth 100000 in
set_option maxHeartbeats 4000000 in
theorem ref_same {w : World} {F F' : Nat → Prop} {vt vn vr ut un ur : Value} {G K : GramD} (h : IsGram w F vt vn vr G) (g : IsGram w F' ut un ur K) (st su : Int) :
    Calls Try.prog 39 #[GV vt vn vr st, GV ut un ur su] w (Quiet w (.bool (sameOf G K st su))) := by
  have h2 := (h.blk (.cells #[vt, vn, vr, .int .i64 st] 25)).blk (.cells #[ut, un, ur, .int .i64 su] 25)
  have g2 := (g.blk (.cells #[vt, vn, vr, .int .i64 st] 25)).blk (.cells #[ut, un, ur, .int .i64 su] 25)
  obtain ⟨w2, hw2⟩ : ∃ w2, w2 = (w.alloc (.cells #[vt, vn, vr, .int .i64 st] 25)).alloc (.cells #[ut, un, ur, .int .i64 su] 25) := ⟨_, rfl⟩
  have B0 : Below w.heap.size w w2 := by rw [hw2]; exact ((Below.refl _ w).alloc (Nat.le_refl _) _).alloc (by simp) _
  have z0 : w2.heap.size = w.heap.size + 2 := by rw [hw2]; simp
  have k1 : Blk w2 w.heap.size 25 #[vt, vn, vr, .int .i64 st] := by rw [hw2]; exact (Blk.new w _ _).alloc _
  have k2 : Blk w2 (w.heap.size + 1) 25 #[ut, un, ur, .int .i64 su] := by
    rw [hw2]
    have := Blk.new (w.alloc (.cells #[vt, vn, vr, .int .i64 st] 25)) 25 #[ut, un, ur, .int .i64 su]
    simpa using this
  rw [← hw2] at h2 g2
  have cT : ∀ wr, Below w2.heap.size w2 wr → Calls Try.prog 97 #[vt, ut] wr (Quiet wr (.bool (decide (G.terms = K.terms)))) := fun wr hb => ref_same_strs (h2.below hb).terms (g2.below hb).terms
  have cN : ∀ wr, Below w2.heap.size w2 wr → Calls Try.prog 97 #[vn, un] wr (Quiet wr (.bool (decide (G.nons = K.nons)))) := fun wr hb => ref_same_strs (h2.below hb).nons (g2.below hb).nons
  have cl1 : ∀ wr, Below w2.heap.size w2 wr → ∀ i v, (#[vt, vn, vr, Value.int .i64 st] : Array Value)[i]? = some v → wr.cell? ⟨w.heap.size, i, none⟩ = some v := fun wr hb i v e => ((k1.below hb (by omega)).cell i).trans e
  have cl2 : ∀ wr, Below w2.heap.size w2 wr → ∀ i v, (#[ut, un, ur, Value.int .i64 su] : Array Value)[i]? = some v → wr.cell? ⟨w.heap.size + 1, i, none⟩ = some v := fun wr hb i v e => ((k2.below hb (by omega)).cell i).trans e
  have hr := h2.rules
  have gr := g2.rules
  have hF := h2.lt
  have hG := g2.lt
  obtain ⟨A1, c1, A2, c2, A3, c3, rfl, rfl, rfl, _, _, hnc, _, _, hcm⟩ := h.slices
  obtain ⟨B1, d1, B2, d2, B3, d3, rfl, rfl, rfl, _, _, hmd, _, _, hdm⟩ := g.slices
  obtain ⟨_, _, _, hcell⟩ := ERule.at_ hr
  obtain ⟨_, _, _, hcell'⟩ := ERule.at_ gr
  have hso : sameOf G K st su = (decide (G.terms = K.terms) && (decide (G.nons = K.nons) && (decide (st = su) && decide (G.rules = K.rules)))) := rfl
  generalize hq1 : decide (G.terms = K.terms) = q1 at *
  generalize hq2 : decide (G.nons = K.nons) = q2 at *
  have hss : decide (st = su) = (st == su) := by by_cases e : st = su <;> simp [e]
  rw [hss] at hso
  generalize hq4 : (st == su) = q4 at *
  obtain ⟨n, en⟩ : ∃ n, n = G.rules.length := ⟨_, rfl⟩
  obtain ⟨m, em⟩ : ∃ m, m = K.rules.length := ⟨_, rfl⟩
  rw [← en] at cl1 hnc hcell ⊢
  rw [← em] at cl2 hmd hcell' ⊢
  rw [← en] at hw2
  rw [← em] at hw2
  have HN := hide en
  have HM := hide em
  have HSO := hide hso
  have CT := hide cT
  have CN := hide cN
  have C1 := hide cl1
  have C2 := hide cl2
  have HB0 := hide B0
  have HC := hide hcell
  have HD := hide hcell'
  have HF := hide hF
  have HG := hide hG
  have HZ := hide z0
  clear hq1 hq2 hss hso cT cN cl1 cl2 k1 k2 h2 g2 h g B0 hr gr en em hcell hcell' hF hG z0
  go_enter Try.func39, Try.ntmps39
  rw [hw2] at CT
  go_wp2_with fail
  refine (CT.out _ (Below.refl _ _)).mono ?_
  rintro e w3 ⟨rfl, b3⟩
  rw [← hw2] at b3
  rw [← hw2] at CT
  clear hw2
  have z3 := b3.size
  have zz := HZ.out
  have m1 := C1.out w3 b3 1 _ rfl
  have m2 := C2.out w3 b3 1 _ rfl
  have m3 := C1.out w3 b3 3 _ rfl
  have m4 := C2.out w3 b3 3 _ rfl
  have m5 := C1.out w3 b3 2 _ rfl
  have m6 := C2.out w3 b3 2 _ rfl
  cases q1 with
  | false =>
    go_wp2_with fail
    go_ret
    exact ⟨ret_bool (by rw [HSO.out]; rfl), HB0.out.trans (b3.mono (by omega))⟩
  | true =>
    go_wp2_with fail
    refine (CN.out _ b3).mono ?_
    rintro e w4 ⟨rfl, b4⟩
    have b4' := b3.trans (b4.mono b3.size)
    have m3 := C1.out w4 b4' 3 _ rfl
    have m4 := C2.out w4 b4' 3 _ rfl
    have m5 := C1.out w4 b4' 2 _ rfl
    have m6 := C2.out w4 b4' 2 _ rfl
    cases q2 with
    | false =>
      go_wp2_with fail
      go_ret
      exact ⟨ret_bool (by rw [HSO.out]; rfl), HB0.out.trans (b4'.mono (by omega))⟩
    | true =>
      cases q4 with
      | false =>
        have hq5 : (st != su) = true := by simp [bne, hq4]
        go_wp2_with fail
        go_ret
        exact ⟨ret_bool (by rw [HSO.out]; rfl), HB0.out.trans (b4'.mono (by omega))⟩
      | true =>
        have hq5 : (st != su) = false := by simp [bne, hq4]
        by_cases hnm : n = m
        · subst hnm
          go_wp2_with fail
          clear m1 m2 m3 m4 m5 m6
          go_loopw [5] (fun i wr => ∃ k : Nat, k ≤ n ∧ i = .int .i64 k ∧ Below w2.heap.size w2 wr ∧ ∀ j : Nat, j < k → G.rules[j]? = K.rules[j]?) (fun i _ => n - (intOf i).toNat)
          case atStart => exact ⟨0, Nat.zero_le _, rfl, b4', fun j hj => absurd hj (by omega)⟩
          case round =>
            obtain ⟨k, hk, rfl, hw, hbefore⟩ := hrel
            have HBE := hide hbefore
            have HW := hide hw
            have m5 := C1.out wr hw 2 _ rfl
            have m6 := C2.out wr hw 2 _ rfl
            clear hbefore
            by_cases hlt : k < n
            · obtain ⟨b, off, rfl, hb, hc⟩ := HC.out (by omega)
              obtain ⟨b', off', rfl, hb', hc'⟩ := HD.out (by omega)
              obtain ⟨l, x, vx, hx, hx0, hx1, hxr⟩ := RdR.get (n := n) HF.out hb hw hc (k := k) (by rw [← HN.out]; omega)
              obtain ⟨l', y, vy, hy, hy0, hy1, hyr⟩ := RdR.get (n := n) HG.out hb' hw hc' (k := k) (by rw [← HM.out]; omega)
              have HX := hide hx
              have HY := hide hy
              have hwz := hw.size
              have hs : ∀ q, Calls Try.prog 28 #[.agg #[.int .i64 l, vx], .agg #[.int .i64 l', vy]] (wr.drewN q) (Quiet (wr.drewN q) (.bool (decide ((l, x) = (l', y))))) := fun q =>
                ref_same_rule (l := l) (m := l') (hxr.drewN q) (hyr.drewN q) (fun b e => Nat.lt_of_lt_of_le (HF.out b e) hwz) (fun b e => Nat.lt_of_lt_of_le (HG.out b e) hwz)
              have HS := hide hs
              have hlt1 : ((k : Int) < (n : Int)) := by omega
              clear HC HD hc hx hc' hy hs hxr hyr hw HF HG
              by_cases he : (l, x) = (l', y)
              · have HE := hide he
                have hd : decide ((l, x) = (l', y)) = true := by simpa using he
                rw [hd] at HS
                clear he hd
                go_wp2_with fail
                refine region_tail 10 (by kernel_rfl) (by kernel_rfl) ?_
                simp only [List.take_succ_cons, List.take_zero, List.drop_succ_cons, List.drop_zero]
                repeat still_step
                refine wpStill_nil ?_
                go_wp2_with fail
                refine (HS.out _).mono ?_
                rintro e w5 ⟨rfl, b5⟩
                go_wp2_with fail
                go_roundw
                case rel =>
                  refine ⟨k + 1, by omega, by go_num, ?_, fun j hj => ?_⟩
                  · exact (below_drewN HW.out 1).trans (b5.mono HW.out.size)
                  by_cases hjk : j = k
                  · subst hjk; rw [HX.out, HY.out, HE.out]
                  · exact HBE.out j (by omega)
                case measure => simp [intOf]; omega
              · have HE := hide he
                have hd : decide ((l, x) = (l', y)) = false := by simpa using he
                rw [hd] at HS
                clear he hd
                go_wp2_with fail
                refine region_tail 10 (by kernel_rfl) (by kernel_rfl) ?_
                simp only [List.take_succ_cons, List.take_zero, List.drop_succ_cons, List.drop_zero]
                repeat still_step
                refine wpStill_nil ?_
                go_wp2_with fail
                refine (HS.out _).mono ?_
                rintro e w5 ⟨rfl, b5⟩
                go_wp2_with fail
                go_ret
                refine ⟨ret_bool ?_, HB0.out.trans (((below_drewN HW.out 1).trans (b5.mono HW.out.size)).mono (by omega))⟩
                rw [HSO.out]
                symm
                simp only [Bool.true_and, decide_eq_false_iff_not]
                intro ee
                rw [ee] at HX
                rw [HX.out] at HY
                have := HY.out
                injection this with this
                exact HE.out this
            · go_wp2_with fail
              go_ret
              refine ⟨ret_bool ?_, HB0.out.trans (HW.out.mono (by omega))⟩
              rw [HSO.out]
              symm
              simp only [Bool.true_and, decide_eq_true_eq]
              apply List.ext_getElem?
              intro j
              by_cases hj : j < n
              · exact HBE.out j (by omega)
              · rw [List.getElem?_eq_none (by rw [← HN.out]; omega), List.getElem?_eq_none (by rw [← HM.out]; omega)]
        · have hne : ((n : Int) == (m : Int)) = false := by simpa using (by omega : ¬ (n : Int) = (m : Int))
          go_wp2_with fail
          go_ret
          refine ⟨ret_bool ?_, HB0.out.trans (b4'.mono (by omega))⟩
          rw [HSO.out]
          symm
          simp only [Bool.true_and, decide_eq_false_iff_not]
          intro ee
          exact hnm (by rw [HN.out, HM.out, ee])
end

section
open Go.RowKit

def nameOf (G : GramD) (s : Int) : ByteArray := if s = 0 then ⟨#[36]⟩ else if 1 ≤ s ∧ s ≤ (topOf G : Int) then ((G.terms ++ G.nons)[(s - 1).toNat]?).getD ⟨#[]⟩ else ⟨#[]⟩

theorem isNon_iff {G : GramD} {s : Int} : isNon G s = true ↔ (G.terms.length : Int) < s ∧ s ≤ (G.terms.length : Int) + G.nons.length := by
  unfold isNon
  rw [Bool.and_eq_true, decide_eq_true_eq, decide_eq_true_eq]
  unfold topOf
  omega
theorem isTerm_iff {G : GramD} {s : Int} : isTerm G s = true ↔ 1 ≤ s ∧ s ≤ (G.terms.length : Int) := by
  unfold isTerm
  rw [Bool.and_eq_true, decide_eq_true_eq, decide_eq_true_eq]
theorem ret_str {a b : ByteArray} (h : a = b) : Ending.returned (.string a) = .returned (.string b) := by rw [h]

set_option maxHeartbeats 2000000 in
theorem gram_name {w : World} {F : Nat → Prop} {vt vn vr : Value} {G : GramD} (h : IsGram w F vt vn vr G) (st s : Int) :
    Calls Try.prog 29 #[GV vt vn vr st, .int .i64 s] w (Quiet w (.string (nameOf G s))) := by
  have h1 := h.blk (.cells #[vt, vn, vr, .int .i64 st] 25)
  have B1 : Below w.heap.size w (w.alloc (.cells #[vt, vn, vr, .int .i64 st] 25)) := (Below.refl _ w).alloc (Nat.le_refl _) _
  have k1 : Blk (w.alloc (.cells #[vt, vn, vr, .int .i64 st] 25)) w.heap.size 25 #[vt, vn, vr, .int .i64 st] := Blk.new w _ _
  have ct := gram_term h1 st s
  have cn : ∀ wr, Below (w.heap.size + 1) (w.alloc (.cells #[vt, vn, vr, .int .i64 st] 25)) wr → Calls Try.prog 26 #[GV vt vn vr st, .int .i64 s] wr (Quiet wr (.bool (isNon G s))) := fun wr hb => gram_non (h1.below (hb.mono (by simp))) st s
  have cl : ∀ wr, Below (w.heap.size + 1) (w.alloc (.cells #[vt, vn, vr, .int .i64 st] 25)) wr → ∀ i v, (#[vt, vn, vr, Value.int .i64 st] : Array Value)[i]? = some v → wr.cell? ⟨w.heap.size, i, none⟩ = some v := fun wr hb i v e => ((k1.below hb (by omega)).cell i).trans e
  have te : ∀ wr, Below (w.heap.size + 1) (w.alloc (.cells #[vt, vn, vr, .int .i64 st] 25)) wr → RdS wr F vt G.terms ∧ RdS wr F vn G.nons := fun wr hb => ⟨(h1.below (hb.mono (by simp))).terms, (h1.below (hb.mono (by simp))).nons⟩
  have hsm := h.small
  obtain ⟨A1, c1, A2, c2, A3, c3, rfl, rfl, rfl, l1, l2, _, m1, m2, _⟩ := h.slices
  have f1 : s = 0 → nameOf G s = ⟨#[36]⟩ := fun e => by simp [nameOf, e]
  have f2 : isTerm G s = true → ∃ k : Nat, s = (k : Int) + 1 ∧ k < G.terms.length ∧ ∀ x, G.terms[k]? = some x → nameOf G s = x := fun e => by
    simp [isTerm] at e
    refine ⟨(s - 1).toNat, by omega, by omega, fun x hx => ?_⟩
    unfold nameOf topOf
    rw [if_neg (by omega), if_pos (by omega), List.getElem?_append_left (by omega), hx]; rfl
  have f3 : isNon G s = true → ∃ k : Nat, s = (G.terms.length : Int) + k + 1 ∧ k < G.nons.length ∧ ∀ x, G.nons[k]? = some x → nameOf G s = x := fun e => by
    have e := isNon_iff.1 e
    refine ⟨(s - 1 - G.terms.length).toNat, by omega, by omega, fun x hx => ?_⟩
    unfold nameOf topOf
    rw [if_neg (by omega), if_pos (by omega), List.getElem?_append_right (by omega)]
    rw [show (s - 1).toNat - G.terms.length = (s - 1 - G.terms.length).toNat by omega, hx]; rfl
  have f4 : s ≠ 0 → isTerm G s = false → isNon G s = false → nameOf G s = ⟨#[]⟩ := fun e0 e1 e2 => by
    unfold nameOf
    rw [if_neg e0, if_neg]
    have n1 : ¬ isTerm G s = true := by simp [e1]
    have n2 : ¬ isNon G s = true := by simp [e2]
    rw [isTerm_iff] at n1
    rw [isNon_iff] at n2
    unfold topOf
    omega
  obtain ⟨T, hT⟩ : ∃ T, T = G.terms.length := ⟨_, rfl⟩
  obtain ⟨N, hN⟩ : ∃ N, N = G.nons.length := ⟨_, rfl⟩
  rw [← hT] at hsm f2 f3 l1 te ct cn cl B1 ⊢
  rw [← hN] at hsm f3 l2 te ct cn cl B1 ⊢
  generalize hit : isTerm G s = it at *
  generalize hin : isNon G s = ino at *
  have HT := hide hT
  have HN := hide hN
  have F1 := hide f1
  have F2 := hide f2
  have F3 := hide f3
  have F4 := hide f4
  have CT := hide ct
  have CN := hide cn
  have CL := hide cl
  have TE := hide te
  have HB := hide B1
  obtain ⟨s1, s2, s3⟩ := hsm
  clear hT hN f1 f2 f3 f4 ct cn cl te B1 k1 h1 h hit hin
  by_cases h0 : s = 0
  · have hz : (s == 0) = true := by simpa using h0
    have H0 := hide h0
    clear h0
    go_enter Try.func29, Try.ntmps29
    go_wp2_with fail
    go_ret
    exact ⟨ret_str (F1.out H0.out).symm, HB.out⟩
  · have hz : (s == 0) = false := by simpa using h0
    have H0 := hide h0
    clear h0
    go_enter Try.func29, Try.ntmps29
    go_wp2_with fail
    refine CT.out.mono ?_
    rintro e w2 ⟨rfl, b2⟩
    have b2' : Below (w.heap.size + 1) (w.alloc (.cells #[.slice A1 T c1, .slice A2 N c2, .slice A3 G.rules.length c3, .int .i64 st] 25)) w2 := by simpa using b2
    have q0 := CL.out w2 b2' 0 _ rfl
    have q1 := CL.out w2 b2' 1 _ rfl
    have q2 := CL.out w2 b2' 2 _ rfl
    have q3 := CL.out w2 b2' 3 _ rfl
    cases it with
    | true =>
      obtain ⟨k, hk, hkT, hx⟩ := F2.out rfl
      obtain ⟨-, -, -, hcell⟩ := (TE.out w2 b2').1.at_
      obtain ⟨b, off, rfl, _, hc⟩ := hcell (by omega)
      obtain ⟨x, hxx⟩ : ∃ x, G.terms[k]? = some x := ⟨_, List.getElem?_eq_getElem (by rw [← HT.out]; omega)⟩
      have hcx := hc k x hxx
      have HX := hide (hx x hxx)
      have e1 : (s - 1 : Int) = (k : Int) := by omega
      clear hc hxx hx hcell
      subst hk
      go_wp2_with fail
      go_ret
      exact ⟨ret_str HX.out.symm, HB.out.trans (b2'.mono (by omega))⟩
    | false =>
      go_wp2_with fail
      refine (CN.out _ b2').mono ?_
      rintro e w3 ⟨rfl, b3⟩
      have b3' := b2'.trans (b3.mono (by simpa using b2'.size))
      have q0 := CL.out w3 b3' 0 _ rfl
      have q1 := CL.out w3 b3' 1 _ rfl
      have q2 := CL.out w3 b3' 2 _ rfl
      have q3 := CL.out w3 b3' 3 _ rfl
      cases ino with
      | true =>
        obtain ⟨k, hk, hkT, hx⟩ := F3.out rfl
        obtain ⟨-, -, -, hcell⟩ := (TE.out w3 b3').2.at_
        obtain ⟨b, off, rfl, _, hc⟩ := hcell (by omega)
        obtain ⟨x, hxx⟩ : ∃ x, G.nons[k]? = some x := ⟨_, List.getElem?_eq_getElem (by rw [← HN.out]; omega)⟩
        have hcx := hc k x hxx
        have HX := hide (hx x hxx)
        clear hc hxx hx hcell
        subst hk
        go_wp2_with fail
        go_ret
        exact ⟨ret_str HX.out.symm, HB.out.trans (b3'.mono (by omega))⟩
      | false =>
        go_wp2_with fail
        go_ret
        exact ⟨ret_str (F4.out H0.out (by first | rfl | trivial) (by first | rfl | trivial)).symm, HB.out.trans (b3'.mono (by omega))⟩

set_option maxHeartbeats 2000000 in
theorem ref_name {w : World} {F : Nat → Prop} {vt vn vr : Value} {G : GramD} (h : IsGram w F vt vn vr G) (st s : Int) (hsml : G.terms.length + G.nons.length ≤ 65536) :
    Calls Try.prog 30 #[GV vt vn vr st, .int .i64 s] w (Quiet w (.string (nameOf G s))) := by
  have h1 := h.blk (.cells #[vt, vn, vr, .int .i64 st] 25)
  have B1 : Below w.heap.size w (w.alloc (.cells #[vt, vn, vr, .int .i64 st] 25)) := (Below.refl _ w).alloc (Nat.le_refl _) _
  have k1 : Blk (w.alloc (.cells #[vt, vn, vr, .int .i64 st] 25)) w.heap.size 25 #[vt, vn, vr, .int .i64 st] := Blk.new w _ _
  have ct := ref_top h1 st
  have cn : ∀ wr, Below (w.heap.size + 1) (w.alloc (.cells #[vt, vn, vr, .int .i64 st] 25)) wr → Calls Try.prog 87 #[GV vt vn vr st] wr (OwnPost wr 9 ((G.terms ++ G.nons).map Value.string) (topOf G)) := fun wr hb => ref_names (h1.below (hb.mono (by simp))) st hsml
  have cl : ∀ wr, Below (w.heap.size + 1) (w.alloc (.cells #[vt, vn, vr, .int .i64 st] 25)) wr → ∀ i v, (#[vt, vn, vr, Value.int .i64 st] : Array Value)[i]? = some v → wr.cell? ⟨w.heap.size, i, none⟩ = some v := fun wr hb i v e => ((k1.below hb (by omega)).cell i).trans e
  have hsm := h.small
  obtain ⟨A1, c1, A2, c2, A3, c3, rfl, rfl, rfl, l1, l2, _, m1, m2, _⟩ := h.slices
  have f1 : s = 0 → nameOf G s = ⟨#[36]⟩ := fun e => by simp [nameOf, e]
  have f2 : 1 ≤ s → s ≤ (topOf G : Int) → ∃ k : Nat, s = (k : Int) + 1 ∧ k < topOf G ∧ ∃ x, (G.terms ++ G.nons)[k]? = some x ∧ nameOf G s = x := fun e e' => by
    have hlt : (s - 1).toNat < (G.terms ++ G.nons).length := by rw [List.length_append]; unfold topOf at e'; omega
    refine ⟨(s - 1).toNat, by omega, by omega, _, List.getElem?_eq_getElem hlt, ?_⟩
    unfold nameOf
    rw [if_neg (by omega), if_pos (by omega), List.getElem?_eq_getElem hlt]; rfl
  have f4 : s ≠ 0 → (s < 1 ∨ (topOf G : Int) < s) → nameOf G s = ⟨#[]⟩ := fun e0 e1 => by
    unfold nameOf
    rw [if_neg e0, if_neg (by omega)]
  have htop : topOf G ≤ 65536 := hsml
  generalize hP : topOf G = P at *
  have F1 := hide f1
  have F2 := hide f2
  have F4 := hide f4
  have CT := hide ct
  have CN := hide cn
  have CL := hide cl
  have HB := hide B1
  clear hsm f1 f2 f4 ct cn cl B1 k1 h1 h hP hsml l1 l2 m1 m2
  by_cases h0 : s = 0
  · have hz : (s == 0) = true := by simpa using h0
    have H0 := hide h0
    clear h0
    go_enter Try.func30, Try.ntmps30
    go_wp2_with fail
    go_ret
    exact ⟨ret_str (F1.out H0.out).symm, HB.out⟩
  · have hz : (s == 0) = false := by simpa using h0
    have H0 := hide h0
    clear h0
    by_cases hs1 : s < 1
    · go_enter Try.func30, Try.ntmps30
      go_wp2_with fail
      go_ret
      exact ⟨ret_str (F4.out H0.out (.inl hs1)).symm, HB.out⟩
    · by_cases hs2 : (P : Int) < s
      · go_enter Try.func30, Try.ntmps30
        go_wp2_with fail
        refine CT.out.mono ?_
        rintro e w2 ⟨rfl, b2⟩
        go_wp2_with fail
        go_ret
        exact ⟨ret_str (F4.out H0.out (.inr hs2)).symm, HB.out.trans (b2.mono (by simp))⟩
      · obtain ⟨k, hk, hkP, x, hx, hnm⟩ := F2.out (by omega) (by omega)
        have HX := hide hx
        have HNM := hide hnm
        clear hx hnm
        go_enter Try.func30, Try.ntmps30
        go_wp2_with fail
        refine CT.out.mono ?_
        rintro e w2 ⟨rfl, b2⟩
        have b2' : Below (w.heap.size + 1) (w.alloc (.cells #[.slice A1 G.terms.length c1, .slice A2 G.nons.length c2, .slice A3 G.rules.length c3, .int .i64 st] 25)) w2 := by simpa using b2
        have q0 := CL.out w2 b2' 0 _ rfl
        have q1 := CL.out w2 b2' 1 _ rfl
        have q2 := CL.out w2 b2' 2 _ rfl
        have q3 := CL.out w2 b2' 3 _ rfl
        go_wp2_with fail
        refine (CN.out _ b2').mono ?_
        rintro e w3 ⟨A, c, rfl, hown, b3⟩
        have b3' := b2'.trans (b3.mono (by simpa using b2'.size))
        obtain ⟨-, -, -, hcell⟩ := RdS.at_ (xs := G.terms ++ G.nons) (Rd.of_own hown)
        obtain ⟨b, off, rfl, _, hc⟩ := hcell (by omega)
        have hcx := hc k x HX.out
        clear hc hcell hown
        have e1 : (s - 1 : Int) = (k : Int) := by omega
        subst hk
        go_wp2_with fail
        go_ret
        exact ⟨ret_str HNM.out.symm, HB.out.trans (b3'.mono (by omega))⟩
end

section
open Go.RowKit

def ofUpto (rs : List (Int × List Int)) (s : Int) (k : Nat) : List Int := ((List.range k).filter (fun (i : Nat) => decide ((rs[i]?).map (·.1) = some s))).map (fun (i : Nat) => (i : Int))
def ofOf (G : GramD) (s : Int) : List Int := ofUpto G.rules s G.rules.length
theorem ofUpto_yes {rs : List (Int × List Int)} {s : Int} {k : Nat} {x : List Int} (h : rs[k]? = some (s, x)) : ofUpto rs s (k + 1) = ofUpto rs s k ++ [(k : Int)] := by
  unfold ofUpto
  rw [List.range_succ, List.filter_append, List.map_append]
  simp [h]
theorem ofUpto_no {rs : List (Int × List Int)} {s l : Int} {k : Nat} {x : List Int} (h : rs[k]? = some (l, x)) (hne : l ≠ s) : ofUpto rs s (k + 1) = ofUpto rs s k := by
  unfold ofUpto
  rw [List.range_succ, List.filter_append, List.map_append]
  simp [h, hne]
theorem ofUpto_len {rs : List (Int × List Int)} {s : Int} {k : Nat} : (ofUpto rs s k).length ≤ k := by
  unfold ofUpto
  rw [List.length_map]
  exact Nat.le_trans (List.length_filter_le _ _) (by simp)

abbrev I64 (x : Int) : Value := .int .i64 x

set_option maxRecDepth 100000 in
set_option maxHeartbeats 2000000 in
theorem gram_of {w : World} {F : Nat → Prop} {vt vn vr : Value} {G : GramD} (h : IsGram w F vt vn vr G) (st s : Int) :
    Calls Try.prog 34 #[GV vt vn vr st, .int .i64 s] w (OwnPost w 3 ((ofOf G s).map I64) (ofOf G s).length) := by
  have h1 := h.blk (.cells #[vt, vn, vr, .int .i64 st] 25)
  have B1 : Below w.heap.size w (w.alloc (.cells #[vt, vn, vr, .int .i64 st] 25)) := (Below.refl _ w).alloc (Nat.le_refl _) _
  have hF := h.lt
  have hsm := h.small
  obtain ⟨A1, c1, A2, c2, A3, c3, rfl, rfl, rfl, l1, l2, l3, m1, m2, m3⟩ := h.slices
  obtain ⟨-, -, -, hcell⟩ := ERule.at_ h.rules
  have hend : ofUpto G.rules s G.rules.length = ofOf G s := rfl
  obtain ⟨n, en⟩ : ∃ n, n = G.rules.length := ⟨_, rfl⟩
  rw [← en] at hsm hcell B1 l3 hend ⊢
  obtain ⟨s1, s2, s3⟩ := hsm
  have HN := hide en
  have HC := hide hcell
  have HF := hide hF
  have HB := hide B1
  have HE := hide hend
  clear en hcell hF B1 h1 h hend
  go_enter Try.func34, Try.ntmps34
  go_wp2
  go_loopw [5, 11] (fun o i wr => ∃ (k : Nat) (A : Option Addr) (c : Nat), k ≤ n ∧ i = .int .i64 k ∧ o = .slice A (ofUpto G.rules s k).length c ∧ wr.ownsRow w.heap.size 3 1 (.slice A (ofUpto G.rules s k).length c) (ofUpto G.rules s k).length ((ofUpto G.rules s k).map I64) ∧ Below w.heap.size w wr) (fun _ i _ => n - (intOf i).toNat)
  case atStart => exact ⟨0, none, 0, Nat.zero_le _, rfl, rfl, World.ownsRow_nil _ _ _ _, HB.out⟩
  case round =>
    obtain ⟨k, A, c, hk, rfl, rfl, hown, hw⟩ := hrel
    have hlk := ofUpto_len (rs := G.rules) (s := s) (k := k)
    have HW := hide hw
    have hwz := hw.size
    by_cases hlt : k < n
    · obtain ⟨b, off, rfl, hb, hc⟩ := HC.out (by omega)
      obtain ⟨l0, x, vx, hx, hx0, hx1, hxr⟩ := RdR.get (n := n) HF.out hb hw hc (k := k) (by rw [← HN.out]; omega)
      obtain ⟨A5, n5, c5, rfl, _⟩ := id hxr
      have HX := hide hx
      clear hc hx hxr hw
      by_cases he : l0 = s
      · subst he
        have hnx := ofUpto_yes HX.out
        obtain ⟨l, hl⟩ : ∃ l, l = ofUpto G.rules l0 k := ⟨_, rfl⟩
        rw [← hl] at hnx hown hlk ⊢
        have HNX := hide hnx
        have HO := hide hown
        clear hl hnx
        obtain ⟨w1, hw1⟩ : ∃ w1, w1 = wr.alloc (.cells #[.int .i64 l0, .slice A5 n5 c5] 30) := ⟨_, rfl⟩
        have ho1 : w1.ownsRow w.heap.size 3 1 (.slice A l.length c) l.length (l.map I64) := by rw [hw1]; exact hown.alloc _
        have HB1 : Below w.heap.size w w1 := by rw [hw1]; exact HW.out.alloc hwz _
        have hz1 := HB1.size
        have HH := hide HB1
        rw [hw1] at ho1 HH hz1
        clear hown HB1 hw1 w1
        have r1 : Rd ((wr.alloc (.cells #[.int .i64 l0, .slice A5 n5 c5] 30)).alloc (.cells #[I64 k] 3)) (fun _ => True) (.slice (some ⟨wr.heap.size + 1, 0, none⟩) 1 1) 1 [I64 k] := by
          have := Rd.one (w := wr.alloc (.cells #[.int .i64 l0, .slice A5 n5 c5] 30)) (e := 3) [I64 k] 1 rfl
          simpa using this
        go_wp2_with (at_builtin; refine wp_append _ rfl (.tmp 20) (.tmp 22) _ rfl Try.elemInt w.heap.size _ l.length (l.map I64) rfl (ho1.alloc _) _ _ [I64 k] 1 rfl rfl r1 (by simp [Value.oneCell']) (by unfold maxLen; omega) (by omega) (by simp; omega) ?_)
        intro A' c' w2 hown2 hg2 _
        have ho2 : w2.ownsRow w.heap.size 3 1 (.slice A' (l.length + 1) c') (l.length + 1) (l.map I64 ++ [I64 k]) := hown2
        clear hown2
        go_wp2
        go_roundw
        case rel =>
          refine ⟨k + 1, A', c', by omega, by go_num, ?_, ?_, ?_⟩
          · rw [HNX.out]; simp
          · rw [HNX.out]; simpa using ho2
          · exact ((HH.out.alloc hz1 _).grown hg2 (by simp; omega) (fun q hq => (ho1.lt q hq).1))
        case measure => simp [intOf]; omega
      · have hb' : (l0 == s) = false := by simpa using he
        have hnx := ofUpto_no HX.out he
        have HNX := hide hnx
        clear he hnx
        go_wp2
        go_roundw
        case rel => exact ⟨k + 1, A, c, by omega, by go_num, by rw [HNX.out], by rw [HNX.out]; exact hown.alloc _, HW.out.alloc hwz _⟩
        case measure => simp [intOf]; omega
    · have hkn : k = n := by omega
      subst hkn
      rw [HE.out] at hown
      have hlen := HE
      rw [HE.out]
      clear hlk
      go_wp2
      go_ret
      exact ⟨A, c, rfl, hown, HW.out⟩
end

section
open Go.RowKit

set_option maxRecDepth 100000 in
set_option maxHeartbeats 2000000 in
theorem ref_of {w : World} {F : Nat → Prop} {vt vn vr : Value} {G : GramD} (h : IsGram w F vt vn vr G) (st s : Int) :
    Calls Try.prog 35 #[GV vt vn vr st, .int .i64 s] w (OwnPost w 3 ((ofOf G s).map I64) (ofOf G s).length) := by
  have h1 := h.blk (.cells #[vt, vn, vr, .int .i64 st] 25)
  have B1 : Below w.heap.size w (w.alloc (.cells #[vt, vn, vr, .int .i64 st] 25)) := (Below.refl _ w).alloc (Nat.le_refl _) _
  have hF := h.lt
  have k1 : Blk (w.alloc (.cells #[vt, vn, vr, .int .i64 st] 25)) w.heap.size 25 #[vt, vn, vr, .int .i64 st] := Blk.new w _ _
  have hsm := h.small
  obtain ⟨A1, c1, A2, c2, A3, c3, rfl, rfl, rfl, l1, l2, l3, m1, m2, m3⟩ := h.slices
  obtain ⟨-, -, -, hcell⟩ := ERule.at_ h.rules
  have hend : ofUpto G.rules s G.rules.length = ofOf G s := rfl
  obtain ⟨n, en⟩ : ∃ n, n = G.rules.length := ⟨_, rfl⟩
  rw [← en] at hsm hcell B1 l3 hend k1 ⊢
  obtain ⟨s1, s2, s3⟩ := hsm
  have HN := hide en
  have HC := hide hcell
  have HF := hide hF
  have HB := hide B1
  have K1 := hide k1
  have HE := hide hend
  clear en hcell hF B1 h1 h hend k1
  go_enter Try.func35, Try.ntmps35
  go_wp2
  go_loopw [5, 6] (fun o i wr => ∃ (k : Nat) (A : Option Addr) (c : Nat), k ≤ n ∧ i = .int .i64 k ∧ o = .slice A (ofUpto G.rules s k).length c ∧ wr.ownsRow w.heap.size 3 1 (.slice A (ofUpto G.rules s k).length c) (ofUpto G.rules s k).length ((ofUpto G.rules s k).map I64) ∧ Below w.heap.size w wr ∧ Blk wr w.heap.size 25 #[.slice A1 G.terms.length c1, .slice A2 G.nons.length c2, .slice A3 n c3, .int .i64 st]) (fun _ i _ => n - (intOf i).toNat)
  case atStart => exact ⟨0, none, 0, Nat.zero_le _, rfl, rfl, World.ownsRow_nil _ _ _ _, HB.out, K1.out⟩
  case round =>
    obtain ⟨k, A, c, hk, rfl, rfl, hown, hw, hbl⟩ := hrel
    have q2 : wr.cell? ⟨w.heap.size, 2, none⟩ = some (.slice A3 n c3) := (hbl.cell 2).trans rfl
    have hbz := hbl.lt
    have HBL := hide hbl
    have hno := hbl.ne_own hown (by decide)
    have HNO := hide hno
    clear hbl hno
    have hlk := ofUpto_len (rs := G.rules) (s := s) (k := k)
    have HW := hide hw
    have hwz := hw.size
    by_cases hlt : k < n
    · obtain ⟨b, off, rfl, hb, hc⟩ := HC.out (by omega)
      obtain ⟨l0, x, vx, hx, hx0, hx1, hxr⟩ := RdR.get (n := n) HF.out hb hw hc (k := k) (by rw [← HN.out]; omega)
      obtain ⟨A5, n5, c5, rfl, _⟩ := id hxr
      have HX := hide hx
      clear hc hx hxr hw
      by_cases he : l0 = s
      · subst he
        have hnx := ofUpto_yes HX.out
        obtain ⟨l, hl⟩ : ∃ l, l = ofUpto G.rules l0 k := ⟨_, rfl⟩
        rw [← hl] at hnx hown hlk HNO ⊢
        have HNX := hide hnx
        have HO := hide hown
        clear hl hnx
        have r1 := Rd.one (w := wr) (e := 3) [I64 k] 1 rfl
        clear hown
        go_wp2_with (at_builtin; refine wp_append _ rfl (.tmp 22) (.tmp 24) _ rfl Try.elemInt w.heap.size _ l.length (l.map I64) rfl (HO.out.alloc _) _ _ [I64 k] 1 rfl rfl r1 (by simp [Value.oneCell']) (by unfold maxLen; omega) (by omega) (by simp; omega) ?_)
        intro A' c' w2 hown2 hg2 _
        have ho2 : w2.ownsRow w.heap.size 3 1 (.slice A' (l.length + 1) c') (l.length + 1) (l.map I64 ++ [I64 k]) := hown2
        clear hown2
        go_wp2
        go_roundw
        case rel =>
          refine ⟨k + 1, A', c', by omega, by go_num, ?_, ?_, ?_⟩
          · rw [HNX.out]; simp
          · rw [HNX.out]; simpa using ho2
          · exact ⟨((HW.out.alloc hwz _).grown hg2 (by simp; omega) (fun q hq => (HO.out.lt q hq).1)), (HBL.out.alloc _).grown hg2 (fun e => HNO.out e.symm)⟩
        case measure => simp [intOf]; omega
      · have hb' : (l0 == s) = false := by simpa using he
        have hnx := ofUpto_no HX.out he
        have HNX := hide hnx
        clear he hnx
        go_wp2
        go_roundw
        case rel => exact ⟨k + 1, A, c, by omega, by go_num, by rw [HNX.out], by rw [HNX.out]; exact hown, HW.out, HBL.out⟩
        case measure => simp [intOf]; omega
    · have hkn : k = n := by omega
      subst hkn
      rw [HE.out] at hown
      have hlen := HE
      rw [HE.out]
      clear hlk
      go_wp2
      go_ret
      exact ⟨A, c, rfl, hown, HW.out⟩
end

section
open Go.RowKit

theorem Rd.one' {w : World} {e : TypeId} (us : List Value) (size : Nat) (hl : us.length = size) : Rd (w.alloc (.cells us.toArray e)) (fun b => b = w.heap.size) (.slice (some ⟨w.heap.size, 0, none⟩) 1 1) size us :=
  ⟨_, 1, 1, rfl, Nat.le_refl _, by decide, by simpa using hl, fun _ => ⟨_, 0, rfl, rfl, fun j u hu => by
    rw [(Blk.new w e us.toArray).cell]; simpa using hu⟩⟩

def ruleOf (G : GramD) (st i : Int) : (Int × List Int) × Bool := if i < 0 ∨ (G.rules.length : Int) < i then ((0, []), false) else if i = (G.rules.length : Int) then ((0, [st]), true) else ((G.rules[i.toNat]?).getD (0, []), true)

def RulePost (w : World) (r : (Int × List Int) × Bool) (e : Ending) (w' : World) : Prop :=
  ∃ A n c, e = .returned (.tuple #[.agg #[.int .i64 r.1.1, .slice A n c], .bool r.2]) ∧ RdI w' (fun b => b < w'.heap.size) (.slice A n c) r.1.2 ∧ Below w.heap.size w w'

theorem RulePost.mk {w w' : World} {r : (Int × List Int) × Bool} {l : Int} {A : Option Addr} {n c : Nat} {xs : List Int} {ok : Bool} {e : Ending} (he : e = .returned (.tuple #[.agg #[.int .i64 l, .slice A n c], .bool ok])) (hr : r = ((l, xs), ok)) (h : RdI w' (fun b => b < w'.heap.size) (.slice A n c) xs) (hb : Below w.heap.size w w') : RulePost w r e w' := by
  subst hr he
  exact ⟨A, n, c, rfl, h, hb⟩

set_option maxRecDepth 100000 in
set_option maxHeartbeats 2000000 in
theorem gram_rule {w : World} {F : Nat → Prop} {vt vn vr : Value} {G : GramD} (h : IsGram w F vt vn vr G) (st i : Int) :
    Calls Try.prog 18 #[GV vt vn vr st, .int .i64 i] w (RulePost w (ruleOf G st i)) := by
  have hF := h.lt
  have hsm := h.small
  obtain ⟨A1, c1, A2, c2, A3, c3, rfl, rfl, rfl, l1, l2, l3, m1, m2, m3⟩ := h.slices
  obtain ⟨-, -, -, hcell⟩ := ERule.at_ h.rules
  obtain ⟨n, en⟩ : ∃ n, n = G.rules.length := ⟨_, rfl⟩
  have f1 : (i < 0 ∨ (n : Int) < i) → ruleOf G st i = ((0, []), false) := fun e => by unfold ruleOf; rw [← en, if_pos e]
  have f2 : i = (n : Int) → ruleOf G st i = ((0, [st]), true) := fun e => by unfold ruleOf; rw [← en, if_neg (by omega), if_pos e]
  have f3 : ∀ (k : Nat) (l : Int) (x : List Int), i = (k : Int) → k < n → G.rules[k]? = some (l, x) → ruleOf G st i = ((l, x), true) := fun k l x e e' hx => by
    unfold ruleOf; rw [← en, if_neg (by omega), if_neg (by omega), show i.toNat = k by omega, hx]; rfl
  rw [← en] at hsm hcell l3 ⊢
  obtain ⟨s1, s2, s3⟩ := hsm
  have HN := hide en
  have HC := hide hcell
  have HF := hide hF
  have F1 := hide f1
  have F2 := hide f2
  have F3 := hide f3
  clear en hcell hF h f1 f2 f3
  by_cases h0 : i < 0
  · go_enter Try.func18, Try.ntmps18
    go_wp2_with fail
    refine bodyPost_ret (v := .tuple #[.agg #[.int .i64 0, .slice none 0 0], .bool false]) (by simp [results, Try.results18, go_sem]) rfl ?_
    exact RulePost.mk rfl (F1.out (.inl h0)) (Rd.nil _ _ _) (((Below.refl _ w).alloc (Nat.le_refl _) _).alloc (by simp) _)
  · by_cases h1 : (n : Int) < i
    · go_enter Try.func18, Try.ntmps18
      go_wp2_with fail
      refine bodyPost_ret (v := .tuple #[.agg #[.int .i64 0, .slice none 0 0], .bool false]) (by simp [results, Try.results18, go_sem]) rfl ?_
      exact RulePost.mk rfl (F1.out (.inr h1)) (Rd.nil _ _ _) (((Below.refl _ w).alloc (Nat.le_refl _) _).alloc (by simp) _)
    · by_cases h2 : i = (n : Int)
      · subst h2
        have r1 : Rd (((w.alloc (.cells #[.slice A1 G.terms.length c1, .slice A2 G.nons.length c2, .slice A3 n c3, .int .i64 st] 25)).alloc (.cells #[.int .i64 0, .slice (some ⟨w.heap.size + 2, 0, none⟩) 1 1] 30)).alloc (.cells #[.int .i64 st] 3)) (fun b => b = w.heap.size + 2) (.slice (some ⟨w.heap.size + 2, 0, none⟩) 1 1) 1 [.int .i64 st] := by
          have := Rd.one' (w := ((w.alloc (.cells #[.slice A1 G.terms.length c1, .slice A2 G.nons.length c2, .slice A3 n c3, .int .i64 st] 25)).alloc (.cells #[.int .i64 0, .slice (some ⟨w.heap.size + 2, 0, none⟩) 1 1] 30))) (e := 3) [.int .i64 st] 1 rfl
          simpa using this
        go_enter Try.func18, Try.ntmps18
        go_wp2_with fail
        refine bodyPost_ret (v := .tuple #[.agg #[.int .i64 0, .slice (some ⟨w.heap.size + 2, 0, none⟩) 1 1], .bool true]) (by simp [results, Try.results18, go_sem]) rfl ?_
        exact RulePost.mk rfl (F2.out (by first | rfl | trivial)) (r1.mono (fun b hb => by simp; omega)) ((((Below.refl _ w).alloc (Nat.le_refl _) _).alloc (by simp) _).alloc (by simp; omega) _)
      · obtain ⟨k, rfl⟩ := Int.eq_ofNat_of_zero_le (by omega : 0 ≤ i)
        have hlt : k < n := by omega
        obtain ⟨b, off, rfl, hb, hc⟩ := HC.out (by omega)
        obtain ⟨l0, x, vx, hx, hx0, hx1, hxr⟩ := RdR.get (n := n) HF.out hb (Below.refl _ w) hc (k := k) (by rw [← HN.out]; omega)
        obtain ⟨A5, n5, c5, rfl, _⟩ := id hxr
        have hbw := HF.out b hb
        have hx0' := fun o => cell_a hx0 o
        have hx1' := fun o => cell_a hx1 o
        have hfin := F3.out k l0 x rfl hlt hx
        have HFIN := hide hfin
        have HXR := hide hxr
        have hki : ((k : Int) == (n : Int)) = false := by simpa using (by omega : ¬ (k : Int) = (n : Int))
        clear hc hx hxr hfin h2
        go_enter Try.func18, Try.ntmps18
        go_wp2_with fail
        refine bodyPost_ret (v := .tuple #[.agg #[.int .i64 l0, .slice A5 n5 c5], .bool true]) (by simp [results, Try.results18, go_sem]) rfl ?_
        have B2 : Below w.heap.size w ((w.alloc (.cells #[.slice A1 G.terms.length c1, .slice A2 G.nons.length c2, .slice (some ⟨b, off, none⟩) n c3, .int .i64 st] 25)).alloc (.cells #[.int .i64 l0, .slice A5 n5 c5] 30)) := ((Below.refl _ w).alloc (Nat.le_refl _) _).alloc (by simp) _
        exact RulePost.mk rfl HFIN.out ((HXR.out.below B2 HF.out).mono (fun b hb => Nat.lt_of_lt_of_le (HF.out b hb) B2.size)) B2

set_option maxRecDepth 100000 in
set_option maxHeartbeats 2000000 in
theorem ref_rule {w : World} {F : Nat → Prop} {vt vn vr : Value} {G : GramD} (h : IsGram w F vt vn vr G) (st i : Int) :
    Calls Try.prog 19 #[GV vt vn vr st, .int .i64 i] w (RulePost w (ruleOf G st i)) := by
  have hF := h.lt
  have hsm := h.small
  obtain ⟨A1, c1, A2, c2, A3, c3, rfl, rfl, rfl, l1, l2, l3, m1, m2, m3⟩ := h.slices
  obtain ⟨-, -, -, hcell⟩ := ERule.at_ h.rules
  obtain ⟨n, en⟩ : ∃ n, n = G.rules.length := ⟨_, rfl⟩
  have f1 : (i < 0 ∨ (n : Int) < i) → ruleOf G st i = ((0, []), false) := fun e => by unfold ruleOf; rw [← en, if_pos e]
  have f2 : i = (n : Int) → ruleOf G st i = ((0, [st]), true) := fun e => by unfold ruleOf; rw [← en, if_neg (by omega), if_pos e]
  have f3 : ∀ (k : Nat) (l : Int) (x : List Int), i = (k : Int) → k < n → G.rules[k]? = some (l, x) → ruleOf G st i = ((l, x), true) := fun k l x e e' hx => by
    unfold ruleOf; rw [← en, if_neg (by omega), if_neg (by omega), show i.toNat = k by omega, hx]; rfl
  rw [← en] at hsm hcell l3 ⊢
  obtain ⟨s1, s2, s3⟩ := hsm
  have HN := hide en
  have HC := hide hcell
  have HF := hide hF
  have F1 := hide f1
  have F2 := hide f2
  have F3 := hide f3
  clear en hcell hF h f1 f2 f3
  by_cases h0 : i < 0
  · go_enter Try.func19, Try.ntmps19
    go_wp2_with fail
    refine bodyPost_ret (v := .tuple #[.agg #[.int .i64 0, .slice none 0 0], .bool false]) (by simp [results, Try.results19, go_sem]) rfl ?_
    exact RulePost.mk rfl (F1.out (.inl h0)) (Rd.nil _ _ _) (((Below.refl _ w).alloc (Nat.le_refl _) _).alloc (by simp) _)
  · by_cases h1 : (n : Int) < i
    · go_enter Try.func19, Try.ntmps19
      go_wp2_with fail
      refine bodyPost_ret (v := .tuple #[.agg #[.int .i64 0, .slice none 0 0], .bool false]) (by simp [results, Try.results19, go_sem]) rfl ?_
      exact RulePost.mk rfl (F1.out (.inr h1)) (Rd.nil _ _ _) (((Below.refl _ w).alloc (Nat.le_refl _) _).alloc (by simp) _)
    · by_cases h2 : i = (n : Int)
      · subst h2
        have r1 : Rd (((w.alloc (.cells #[.slice A1 G.terms.length c1, .slice A2 G.nons.length c2, .slice A3 n c3, .int .i64 st] 25)).alloc (.cells #[.int .i64 0, .slice (some ⟨w.heap.size + 2, 0, none⟩) 1 1] 30)).alloc (.cells #[.int .i64 st] 3)) (fun b => b = w.heap.size + 2) (.slice (some ⟨w.heap.size + 2, 0, none⟩) 1 1) 1 [.int .i64 st] := by
          have := Rd.one' (w := ((w.alloc (.cells #[.slice A1 G.terms.length c1, .slice A2 G.nons.length c2, .slice A3 n c3, .int .i64 st] 25)).alloc (.cells #[.int .i64 0, .slice (some ⟨w.heap.size + 2, 0, none⟩) 1 1] 30))) (e := 3) [.int .i64 st] 1 rfl
          simpa using this
        go_enter Try.func19, Try.ntmps19
        go_wp2_with fail
        refine bodyPost_ret (v := .tuple #[.agg #[.int .i64 0, .slice (some ⟨w.heap.size + 2, 0, none⟩) 1 1], .bool true]) (by simp [results, Try.results19, go_sem]) rfl ?_
        exact RulePost.mk rfl (F2.out (by first | rfl | trivial)) (r1.mono (fun b hb => by simp; omega)) ((((Below.refl _ w).alloc (Nat.le_refl _) _).alloc (by simp) _).alloc (by simp; omega) _)
      · obtain ⟨k, rfl⟩ := Int.eq_ofNat_of_zero_le (by omega : 0 ≤ i)
        have hlt : k < n := by omega
        obtain ⟨b, off, rfl, hb, hc⟩ := HC.out (by omega)
        obtain ⟨l0, x, vx, hx, hx0, hx1, hxr⟩ := RdR.get (n := n) HF.out hb (Below.refl _ w) hc (k := k) (by rw [← HN.out]; omega)
        obtain ⟨A5, n5, c5, rfl, _⟩ := id hxr
        have hbw := HF.out b hb
        have hx0' := fun o => cell_a hx0 o
        have hx1' := fun o => cell_a hx1 o
        have hfin := F3.out k l0 x rfl hlt hx
        have HFIN := hide hfin
        have HXR := hide hxr
        have hki : ((k : Int) == (n : Int)) = false := by simpa using (by omega : ¬ (k : Int) = (n : Int))
        clear hc hx hxr hfin h2
        go_enter Try.func19, Try.ntmps19
        go_wp2_with fail
        refine bodyPost_ret (v := .tuple #[.agg #[.int .i64 l0, .slice A5 n5 c5], .bool true]) (by simp [results, Try.results19, go_sem]) rfl ?_
        have B2 : Below w.heap.size w ((w.alloc (.cells #[.slice A1 G.terms.length c1, .slice A2 G.nons.length c2, .slice (some ⟨b, off, none⟩) n c3, .int .i64 st] 25)).alloc (.cells #[.int .i64 l0, .slice A5 n5 c5] 30)) := ((Below.refl _ w).alloc (Nat.le_refl _) _).alloc (by simp) _
        exact RulePost.mk rfl HFIN.out ((HXR.out.below B2 HF.out).mono (fun b hb => Nat.lt_of_lt_of_le (HF.out b hb) B2.size)) B2
end
end Go.Proofs.Ytejjaabkbkkjlaa

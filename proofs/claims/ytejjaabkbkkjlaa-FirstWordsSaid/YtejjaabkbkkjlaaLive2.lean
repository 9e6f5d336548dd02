/- live.productive. -/
import Derived.Test.YtejjaabkbkkjlaaLive1
namespace Go.Proofs.Ytejjaabkbkkjlaa
set_option linter.unusedVariables false
open Go.RowKit
attribute [local irreducible] wpStill wpOne wpPh

theorem GSet.put {w wr wr' : World} {F : Nat → Prop} {A1 : Option Addr} {c1 : Nat} {A2 : Option Addr} {c2 : Nat} {A3 : Option Addr} {c3 T N R : Nat} {st : Int} {G : GramD} {b : Nat} {S : Nat → Prop} {n : Nat} {f f' : Nat → Bool}
    (h : GSet w wr F w.heap.size A1 c1 A2 c2 A3 c3 T N R st G b S n f) (hF : ∀ k, F k → k < w.heap.size) (hS : ∀ k, S k → w.heap.size < k) (hs : IsSet wr' b S n f') (ht : Touch S wr wr') : GSet w wr' F w.heap.size A1 c1 A2 c2 A3 c3 T N R st G b S n f' :=
  ⟨h.g.touch ht (fun k hk hk' => by have := hF k hk; have := hS k hk'; omega) (fun hk' => by have := hS _ hk'; omega), hs,
    h.b.trans (ht.below (fun k hk _ hk' => by have := hS k hk'; omega) h.b.size)⟩

def SetPost (w : World) (n : Nat) (f : Nat → Bool) (e : Ending) (w' : World) : Prop := ∃ b S, e = .returned (.pointer (some ⟨b, 0, none⟩)) ∧ IsSet w' b S n f ∧ (∀ k, S k → w.heap.size ≤ k) ∧ Below w.heap.size w w'

set_option maxRecDepth 100000 in
set_option maxHeartbeats 4000000 in
theorem live_productive {w : World} {F : Nat → Prop} {vt vn vr : Value} {G : GramD} (h : IsGram w F vt vn vr G) (st st' : Int) (hk : Kn G st') :
    Calls Try.prog 103 #[GV vt vn vr st] w (SetPost w (G.terms.length + G.nons.length + 1) (prdB G)) := by
  obtain ⟨A1, c1, A2, c2, A3, c3, rfl, rfl, rfl, -⟩ := h.slices
  obtain ⟨w1, hw1⟩ : ∃ w1, w1 = w.alloc (.cells #[.slice A1 G.terms.length c1, .slice A2 G.nons.length c2, .slice A3 G.rules.length c3, .int .i64 st] 25) := ⟨_, rfl⟩
  have g1 := GBox.new h st
  have b1 : Below w.heap.size w w1 := by rw [hw1]; exact (Below.refl _ w).alloc (Nat.le_refl _) _
  have z1 : w1.heap.size = w.heap.size + 1 := by rw [hw1]; simp
  rw [← hw1] at g1
  have ct := gram_top g1.gram st
  rw [show topOf G = G.terms.length + G.nons.length from rfl] at ct
  have hF := h.lt
  have t0 := hk.t
  have t1 := hk.n
  have hset := fun (f : Nat → Bool) hs hc hhi => prd_set hk (f := f) hs hc hhi
  generalize hT : G.terms.length = T at *
  generalize hN : G.nons.length = N at *
  generalize hR : G.rules.length = R at *
  obtain ⟨q0, q1, q2, q3⟩ := g1.cells
  rw [hw1] at ct q0 q1 q2 q3
  clear h
  have Xhk := hide hk
  have XhF := hide hF
  have Xct := hide ct
  have Xg1 := hide g1
  have Xb1 := hide b1
  have Xhset := hide hset
  have XhT := hide hT
  have XhN := hide hN
  have XhR := hide hR
  have Xz1 := hide z1
  clear hk hF ct g1 b1 hset hT hN hR z1
  go_enter Try.func103, Try.ntmps103
  go_wp2_with fail
  with_reducible refine Xct.out.mono ?_
  rintro e w2 ⟨rfl, b2⟩
  rw [← hw1] at b2
  have g2 := Xg1.out.below b2
  have hb2 := Xb1.out.trans (b2.mono Xb1.out.size)
  have z2 : w.heap.size < w2.heap.size := by have := b2.size; have := Xz1.out; omega
  clear hw1 q0 q1 q2 q3 Xct Xg1 Xb1 b2 Xz1
  go_wp2_with fail
  refine (set_new _ w2).mono ?_
  rintro e w3 ⟨rfl, hs3, b3⟩
  rw [show (min (max ((T : Int) + (N : Int) + 1) 0) 4096).toNat = T + N + 1 by omega] at hs3
  have t3 : GSet w w3 F w.heap.size A1 c1 A2 c2 A3 c3 T N R st G (w2.heap.size + 1) (New (fun _ => False) w2 w3) (T + N + 1) noBits := ⟨g2.below b3, hs3, hb2.trans (b3.mono hb2.size)⟩
  have hS : ∀ k, New (fun _ => False) w2 w3 k → w.heap.size < k := fun k hk => by
    rcases hk with hk | hk
    · exact hk.elim
    · omega
  generalize New (fun _ => False) w2 w3 = S at *
  generalize w2.heap.size + 1 = b at *
  clear g2 hb2 hs3 b3 z2
  generalize hn : T + N + 1 = n at *
  have hnone : ∀ s, hasI n noBits s = true → PrdG G s := fun s h => by unfold hasI noBits at h; simp at h
  have Xt3 := hide t3
  have XhS := hide hS
  have Xhnone := hide hnone
  have Xhn := hide hn
  clear t3 hS hnone hn
  go_wp2_with fail
  go_loopg [4] (unset noBits n + 1) (fun κ more wr => ∃ (f : Nat → Bool) (m : Bool), more = .bool m ∧ GSet w wr F w.heap.size A1 c1 A2 c2 A3 c3 T N R st G b S n f ∧ (∀ s, hasI n f s = true → PrdG G s) ∧ (m = false → ∀ r ∈ G.rules, fineB G (hasI n f) r.2 = true → hasI n f r.1 = true) ∧ (m = true → unset f n + 1 ≤ κ))
  case atStart => exact ⟨noBits, true, rfl, Xt3.out, Xhnone.out, fun h => (by cases h), fun _ => Nat.le_refl _⟩
  case round =>
    clear Xt3 Xhnone
    obtain ⟨f, m, rfl, t, hsd, hm1, hm2⟩ := hrel
    cases m with
    | false =>
      have hcl := hm1 rfl
      have hf : ∀ j, f j = prdB G j := Xhset.out f (by first | exact hsd | (rw [Xhn.out]; exact hsd)) (by first | exact hcl | (rw [Xhn.out]; exact hcl)) (by first | exact t.s.high | (rw [Xhn.out]; exact t.s.high))
      have fin : SetPost w n (prdB G) (.returned (.pointer (some ⟨b, 0, none⟩))) wr := ⟨b, S, rfl, t.s.ext hf, fun k hk => Nat.le_of_lt (XhS.out k hk), t.b⟩
      clear hm1 hm2
      have Xfin := hide fin
      have Xt := hide t
      have Xhsd := hide hsd
      have Xhcl := hide hcl
      have Xhf := hide hf
      clear fin t hsd hcl hf
      go_wp2_with fail
      go_ret
      exact Xfin.out
    | true =>
      have hκ := hm2 rfl
      clear hm1 hm2
      obtain ⟨q0, q1, q2, q3⟩ := t.g.cells
      have r0 := t.g.rs
      have r1 := t.g.rc
      have r2 := t.g.c3m
      obtain ⟨wo, rfl⟩ : ∃ wo : World, wo = wr := ⟨_, rfl⟩
      have Xhsd := hide hsd
      have Xhκ := hide hκ
      have Xt := hide t
      clear hsd hκ t
      go_wp2_with fail
      clear q0 q1 q2 q3
      go_loopw [4, 15] (fun more i wr => ∃ (q : Nat) (f' : Nat → Bool) (m : Bool), q ≤ R ∧ i = .int .i64 q ∧ more = .bool m ∧ GSet w wr F w.heap.size A1 c1 A2 c2 A3 c3 T N R st G b S n f' ∧ (∀ s, hasI n f' s = true → PrdG G s) ∧ (m = false → f' = f ∧ ∀ (j : Nat) (r : Int × List Int), j < q → G.rules[j]? = some r → fineB G (hasI n f) r.2 = true → hasI n f r.1 = true) ∧ (m = true → unset f' n < unset f n)) (fun _ i _ => R - (intOf i).toNat)
      case atStart => exact ⟨0, f, false, Nat.zero_le _, rfl, rfl, Xt.out, Xhsd.out, fun _ => ⟨rfl, fun j r hj => absurd hj (by omega)⟩, fun h => (by cases h)⟩
      case round =>
        clear Xt Xhsd
        obtain ⟨q, f', m, hq, rfl, rfl, t, hsd, hm1, hm2⟩ := hrel
        by_cases hlt : q < R
        · obtain ⟨bb, off, l, x, A, nx, c, rfl, hbl, hx, h0, h1, hr, hnx, hnc, hcm⟩ := t.g.rule hlt
          have hq' : (q : Int) < (R : Int) := by omega
          obtain ⟨wa, hwa⟩ : ∃ wa, wa = wr.alloc (.cells #[.int .i64 l, .slice A nx c] 30) := ⟨_, rfl⟩
          have ba : Below wr.heap.size wr wa := by rw [hwa]; exact (Below.refl _ _).alloc (Nat.le_refl _) _
          have ka : Blk wa wr.heap.size 30 #[.int .i64 l, .slice A nx c] := by rw [hwa]; exact Blk.new _ _ _
          have ta := t.below ba
          have hra := hr.below ba t.g.gram.lt
          have cf := live_fine ta.g.gram st ta.s l hra ta.g.gram.lt
          have hno : ∀ (r : Int × List Int), G.rules[q]? = some r → r = (l, x) := fun r h => by rw [hx] at h; injection h with h; exact h.symm
          have hkl := Xhk.out.k _ (List.mem_of_getElem? hx)
          simp only [isNon_iff, XhT.out, XhN.out] at hkl
          obtain ⟨hkl, -⟩ := hkl
          have hput : putAns n f' l = true ↔ hasI n f' l = false := by
            rw [putAns_iff]
            exact ⟨fun h => h.2, fun h => ⟨⟨by omega, by have := Xhn.out; omega⟩, h⟩⟩
          obtain ⟨s0, s1, s2, s3⟩ := t.g.cells
          have hbz := t.g.blk.lt
          rw [hwa] at cf
          clear hnx
          cases hf : fineB G (hasI n f') x with
          | false =>
            rw [hf] at cf
            have Xcf := hide cf
            have Xta := hide ta
            have Xka := hide ka
            have Xhra := hide hra
            have Xhr := hide hr
            have Xhx := hide hx
            have Xhkl := hide hkl
            have Xhput := hide hput
            have Xhsd := hide hsd
            have Xhf := hide hf
            have Xhm1 := hide hm1
            have Xhm2 := hide hm2
            have Xhno := hide hno
            clear cf ta ka hra hr hx hkl hput hsd hf hm1 hm2 hno
            clear t
            go_wp2_with fail
            with_reducible refine Xcf.out.mono ?_
            rintro e w5 ⟨rfl, b5⟩
            rw [← hwa] at b5
            have t5 := Xta.out.below b5
            clear hwa Xcf s0 s1 s2 s3 h0 h1 b5
            have fin : m = false → f' = f ∧ ∀ (j : Nat) (r : Int × List Int), j < q + 1 → G.rules[j]? = some r → fineB G (hasI n f) r.2 = true → hasI n f r.1 = true := fun e => by
              obtain ⟨e1, e2⟩ := Xhm1.out e
              refine ⟨e1, fun j r hj hjr hfr => ?_⟩
              by_cases ej : j = q
              · subst ej
                rw [Xhno.out r hjr, ← e1, Xhf.out] at hfr
                cases hfr
              · exact e2 j r (by omega) hjr hfr
            have Xt5 := hide t5
            have Xfin := hide fin
            clear t5 fin
            go_wp2_with fail
            go_roundw
            case rel => exact ⟨q + 1, f', m, by omega, by go_num, rfl, Xt5.out, Xhsd.out, Xfin.out, Xhm2.out⟩
            case measure => simp [intOf]; omega
          | true =>
            rw [hf] at cf
            have hprd := prd_sound hsd (List.mem_of_getElem? hx) hf
            simp only at hprd
            cases hp : putAns n f' l with
            | false =>
              have hin : hasI n f' l = true := by
                cases hh : hasI n f' l with
                | true => rfl
                | false => rw [hput.2 hh] at hp; cases hp
              have Xcf := hide cf
              have Xta := hide ta
              have Xka := hide ka
              have Xhra := hide hra
              have Xhr := hide hr
              have Xhx := hide hx
              have Xhkl := hide hkl
              have Xhput := hide hput
              have Xhsd := hide hsd
              have Xhf := hide hf
              have Xhm1 := hide hm1
              have Xhm2 := hide hm2
              have Xhno := hide hno
              have Xhprd := hide hprd
              have Xhin := hide hin
              have Xhp := hide hp
              clear cf ta ka hra hr hx hkl hput hsd hf hm1 hm2 hno hprd hin hp
              clear t
              go_wp2_with fail
              with_reducible refine Xcf.out.mono ?_
              rintro e w5 ⟨rfl, b5⟩
              rw [← hwa] at b5
              have t5 := Xta.out.below b5
              have k5 := Xka.out.below b5 Xka.out.lt
              have p0 := (k5.cell 0).trans rfl
              have cp := set_put_no t5.s l Xhp.out
              clear hwa Xcf s0 s1 s2 s3 h0 h1 b5
              have fin : m = false → f' = f ∧ ∀ (j : Nat) (r : Int × List Int), j < q + 1 → G.rules[j]? = some r → fineB G (hasI n f) r.2 = true → hasI n f r.1 = true := fun e => by
                obtain ⟨e1, e2⟩ := Xhm1.out e
                refine ⟨e1, fun j r hj hjr hfr => ?_⟩
                by_cases ej : j = q
                · subst ej
                  rw [Xhno.out r hjr, ← e1]
                  exact Xhin.out
                · exact e2 j r (by omega) hjr hfr
              have Xt5 := hide t5
              have Xfin := hide fin
              have Xk5 := hide k5
              have Xcp := hide cp
              clear t5 fin k5 cp
              go_wp2_with fail
              with_reducible refine Xcp.out.mono ?_
              rintro e w6 ⟨rfl, rfl⟩
              go_wp2_with fail
              go_roundw
              case rel => exact ⟨q + 1, f', m, by omega, by go_num, rfl, Xt5.out, Xhsd.out, Xfin.out, Xhm2.out⟩
              case measure => simp [intOf]; omega
            | true =>
              have hun := unset_put hp
              have hsd2 : ∀ s, hasI n (putSet n f' l) s = true → PrdG G s := fun s hs => by
                rw [putSet_has] at hs
                simp only [Bool.or_eq_true, Bool.and_eq_true, decide_eq_true_eq] at hs
                rcases hs with hs | hs
                · exact hsd s hs
                · rw [hs.2]; exact hprd
              have hle : unset f' n ≤ unset f n := by
                cases m with
                | false => rw [(hm1 rfl).1]; exact Nat.le_refl _
                | true => exact Nat.le_of_lt (hm2 rfl)
              have hlt2 : unset (putSet n f' l) n < unset f n := by omega
              have Xcf := hide cf
              have Xta := hide ta
              have Xka := hide ka
              have Xhra := hide hra
              have Xhr := hide hr
              have Xhx := hide hx
              have Xhkl := hide hkl
              have Xhput := hide hput
              have Xhsd := hide hsd
              have Xhf := hide hf
              have Xhm1 := hide hm1
              have Xhm2 := hide hm2
              have Xhno := hide hno
              have Xhprd := hide hprd
              have Xhp := hide hp
              have Xhun := hide hun
              have Xhsd2 := hide hsd2
              have Xhlt2 := hide hlt2
              have Xhle := hide hle
              clear cf ta ka hra hr hx hkl hput hsd hf hm1 hm2 hno hprd hp hun hsd2 hlt2 hle
              clear t
              go_wp2_with fail
              with_reducible refine Xcf.out.mono ?_
              rintro e w5 ⟨rfl, b5⟩
              rw [← hwa] at b5
              have t5 := Xta.out.below b5
              have k5 := Xka.out.below b5 Xka.out.lt
              have p0 := (k5.cell 0).trans rfl
              have cp := set_put_yes t5.s l Xhp.out
              clear hwa Xcf s0 s1 s2 s3 h0 h1 b5
              have Xt5 := hide t5
              have Xk5 := hide k5
              have Xcp := hide cp
              clear t5 k5 cp
              go_wp2_with fail
              with_reducible refine Xcp.out.mono ?_
              rintro e w6 ⟨rfl, hs6, ht6⟩
              have t6 := Xt5.out.put XhF.out XhS.out hs6 ht6
              have Xt6 := hide t6
              have Xhs6 := hide hs6
              have Xht6 := hide ht6
              clear t6 hs6 ht6
              go_wp2_with fail
              go_roundw
              case rel => exact ⟨q + 1, putSet n f' l, true, by omega, by go_num, rfl, Xt6.out, Xhsd2.out, fun h => (by cases h), fun _ => Xhlt2.out⟩
              case measure => simp [intOf]; omega
        · have hqR : q = R := by omega
          have hlt' : ¬ (q : Int) < (R : Int) := by omega
          subst hqR
          cases m with
          | false =>
            obtain ⟨e1, e2⟩ := hm1 rfl
            subst e1
            have hcl : ∀ r ∈ G.rules, fineB G (hasI n f') r.2 = true → hasI n f' r.1 = true := fun r hr => by
              obtain ⟨j, hj, e⟩ := List.getElem_of_mem hr
              exact e2 j r (by rw [XhR.out] at hj; exact hj) (by rw [List.getElem?_eq_getElem hj, e])
            clear hm1 hm2 e2
            have Xhcl := hide hcl
            have Xt := hide t
            have Xhsd := hide hsd
            clear hcl t hsd
            go_wp2_with fail
            go_roundg 0
            case measure => have := Xhκ.out; omega
            case rel => exact ⟨f', false, rfl, Xt.out, Xhsd.out, fun _ => Xhcl.out, fun h => (by cases h)⟩
          | true =>
            have hu := hm2 rfl
            clear hm1 hm2
            have hm : unset f' n + 1 < gk := by have := Xhκ.out; omega
            have Xt := hide t
            have Xhsd := hide hsd
            have Xhu := hide hu
            have Xhm := hide hm
            clear t hsd hu hm
            go_wp2_with fail
            go_roundg (unset f' n + 1)
            case measure => exact Xhm.out
            case rel => exact ⟨f', true, rfl, Xt.out, Xhsd.out, fun h => (by cases h), fun _ => Nat.le_refl _⟩
end Go.Proofs.Ytejjaabkbkkjlaa

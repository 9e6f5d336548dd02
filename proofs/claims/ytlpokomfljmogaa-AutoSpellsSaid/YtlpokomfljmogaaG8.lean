/- Check. -/
import Derived.Test.YtlpokomfljmogaaG6
import Derived.Test.YtlpokomfljmogaaG7
namespace Go.Proofs.Ytlpokomfljmogaa
set_option linter.unusedVariables false

section
open Go.RowKit

def namesOf (G : GramD) : List ByteArray := G.terms ++ G.nons
def haveUpto (G : GramD) (k : Nat) : Bool := (List.range k).all (fun i => decide ((ofOf G ((G.terms.length : Int) + 1 + i)).length ≠ 0))
def checkOf (G : GramD) (st : Int) : Int := if manyOf G = true then 7 else if formOf G = false then 10 else if ¬ (namesOf G).Nodup then 8 else if allKnown G st = false then 1 else if unlikeOf G.rules = false then 8 else if haveUpto G G.nons.length = false then 9 else 0
theorem haveUpto_succ (G : GramD) (k : Nat) : haveUpto G (k + 1) = (haveUpto G k && decide ((ofOf G ((G.terms.length : Int) + 1 + k)).length ≠ 0)) := by unfold haveUpto; rw [List.range_succ, List.all_append]; simp
theorem haveUpto_no {G : GramD} {k n : Nat} (hk : k < n) (h : (ofOf G ((G.terms.length : Int) + 1 + k)).length = 0) : haveUpto G n = false := by
  unfold haveUpto
  rw [List.all_eq_false]
  exact ⟨k, List.mem_range.2 hk, by simp [h]⟩
theorem manyOf_no {G : GramD} (h : manyOf G = false) : G.terms.length ≤ 120 ∧ G.nons.length ≤ 120 ∧ G.rules.length ≤ 300 ∧ shortOf G = true := by
  unfold manyOf at h
  rw [Bool.or_eq_false_iff, Bool.or_eq_false_iff, Bool.or_eq_false_iff, decide_eq_false_iff_not, decide_eq_false_iff_not, decide_eq_false_iff_not] at h
  refine ⟨by omega, by omega, by omega, by simpa using h.1⟩

end

section
open Go.RowKit

set_option maxRecDepth 100000 in
set_option maxHeartbeats 4000000 in
theorem gram_check {w : World} {F : Nat → Prop} {vt vn vr : Value} {G : GramD} (h : IsGram w F vt vn vr G) (st : Int) :
    Calls Try.prog 23 #[GV vt vn vr st] w (Quiet w (.int .i64 (checkOf G st))) := by
  obtain ⟨A1, c1, A2, c2, A3, c3, rfl, rfl, rfl, -⟩ := h.slices
  have g := GBox.new h st
  have hb0 : Below w.heap.size w (w.alloc (.cells #[.slice A1 G.terms.length c1, .slice A2 G.nons.length c2, .slice A3 G.rules.length c3, .int .i64 st] 36)) := (Below.refl _ w).alloc (Nat.le_refl _) _
  obtain ⟨w1, hw1⟩ : ∃ w1, w1 = w.alloc (.cells #[.slice A1 G.terms.length c1, .slice A2 G.nons.length c2, .slice A3 G.rules.length c3, .int .i64 st] 36) := ⟨_, rfl⟩
  rw [← hw1] at g hb0
  have hck : checkOf G st = if manyOf G = true then 7 else if formOf G = false then 10 else if ¬ (namesOf G).Nodup then 8 else if allKnown G st = false then 1 else if unlikeOf G.rules = false then 8 else if haveUpto G G.nons.length = false then 9 else 0 := rfl
  have hmn : manyOf G = (!shortOf G || (decide (120 < G.terms.length) || (decide (120 < G.nons.length) || decide (300 < G.rules.length)))) := rfl
  have hfo : formOf G = (G.terms.all (fun s => plainB s || quotedB s) && G.nons.all plainB) := rfl
  have hko : allKnown G st = (isNon G st && G.rules.all (fun r => knownOf G r)) := rfl
  have hhs := haveUpto_succ G
  have hhn : ∀ (k n : Nat), k < n → (ofOf G ((G.terms.length : Int) + 1 + k)).length = 0 → haveUpto G n = false := fun k n => haveUpto_no
  have htop : topOf G = G.terms.length + G.nons.length := rfl
  generalize hT : G.terms.length = T at *
  generalize hN : G.nons.length = N at *
  generalize hR : G.rules.length = R at *
  have t0 := g.ts
  have t1 := g.tc
  have t2 := g.c1m
  have n0 := g.ns
  have n1 := g.nc
  have n2 := g.c2m
  have r0 := g.rs
  have r1 := g.rc
  have r2 := g.c3m
  have cS : ∀ (wr : World), GBox wr F w.heap.size A1 c1 A2 c2 A3 c3 T N R st G → Calls Try.prog 34 #[.slice A3 R c3, .func (.func 33) #[] #[]] wr (Quiet wr (.bool (shortOf G))) := fun wr g => all_rules g.gram.rules g.gram.lt Try.enters_short short_clo
  have cF1 : ∀ (wr : World), GBox wr F w.heap.size A1 c1 A2 c2 A3 c3 T N R st G → Calls Try.prog 35 #[.slice A1 T c1, .func (.func 36) #[] #[]] wr (Quiet wr (.bool (G.terms.all (fun s => plainB s || quotedB s)))) := fun wr g => all_strs g.gram.terms g.gram.lt Try.enters_form form_clo g.gram.sizes.1
  have cF2 : ∀ (wr : World), GBox wr F w.heap.size A1 c1 A2 c2 A3 c3 T N R st G → Calls Try.prog 35 #[.slice A2 N c2, .func (.func 37) #[] #[]] wr (Quiet wr (.bool (G.nons.all plainB))) := fun wr g => all_strs g.gram.nons g.gram.lt Try.enters_plain plain_clo g.gram.sizes.2
  have cO1 : ∀ (wr : World), T + N ≤ 65536 → GBox wr F w.heap.size A1 c1 A2 c2 A3 c3 T N R st G → Calls Try.prog 39 #[GV (.slice A1 T c1) (.slice A2 N c2) (.slice A3 R c3) st] wr (Quiet wr (.bool (decide (namesOf G).Nodup))) := fun wr hb g => gram_once g.gram st (by rw [hT, hN]; exact hb)
  have cN : ∀ (wr : World), GBox wr F w.heap.size A1 c1 A2 c2 A3 c3 T N R st G → Calls Try.prog 40 #[GV (.slice A1 T c1) (.slice A2 N c2) (.slice A3 R c3) st, .int .i64 st] wr (Quiet wr (.bool (isNon G st))) := fun wr g => gram_non g.gram st st
  have cK : ∀ (wr : World), GBox wr F w.heap.size A1 c1 A2 c2 A3 c3 T N R st G → Calls Try.prog 34 #[.slice A3 R c3, .func (.func 41) #[] #[.pointer (some ⟨w.heap.size, 0, none⟩)]] wr (Quiet wr (.bool (G.rules.all (fun r => knownOf G r)))) := fun wr g => all_rules g.gram.rules g.gram.lt Try.enters_known3 (known3_clo g.gram g.blk g.gram.lt)
  have cU : ∀ (wr : World), GBox wr F w.heap.size A1 c1 A2 c2 A3 c3 T N R st G → Calls Try.prog 43 #[.slice A3 R c3, .func (.func 44) #[] #[]] wr (Quiet wr (.bool (unlikeOf G.rules))) := fun wr g => gram_unlike g.gram.rules g.gram.lt
  have cT : ∀ (wr : World), GBox wr F w.heap.size A1 c1 A2 c2 A3 c3 T N R st G → Calls Try.prog 28 #[GV (.slice A1 T c1) (.slice A2 N c2) (.slice A3 R c3) st] wr (Quiet wr (.int .i64 ((T + N : Nat) : Int))) := fun wr g => by
    have := gram_top g.gram st
    rw [htop] at this; exact this
  have cO : ∀ (wr : World) (s : Int), GBox wr F w.heap.size A1 c1 A2 c2 A3 c3 T N R st G → Calls Try.prog 45 #[GV (.slice A1 T c1) (.slice A2 N c2) (.slice A3 R c3) st, .int .i64 s] wr (OwnPost wr 3 ((ofOf G s).map I64) (ofOf G s).length) := fun wr s g => gram_of g.gram st s
  have hmf : ∀ (fn : Fn) (first cap : Array Value) (w : World), (Instr.makeFunc fn first cap).run Try.prog w = .ok (.func fn first cap) w := fun _ _ _ _ => rfl
  obtain ⟨q0, q1, q2, q3⟩ := g.cells
  have hcs := cS w1 g
  have ei : ∀ (q1 q2 : Bool), (q1 && q2) = false → q1 = false ∨ q2 = false := fun q1 q2 h => by cases q1 <;> simp_all
  clear h
  by_cases hbig : 120 < T ∨ 120 < N ∨ 300 < R
  · have hmany : manyOf G = true := by
      rw [hmn]
      rcases hbig with e | e | e
      · rw [decide_eq_true e]; simp
      · rw [decide_eq_true e]; simp
      · rw [decide_eq_true e]; simp
    rw [hmany] at hck
    have hfin : checkOf G st = 7 := by rw [hck, if_pos rfl]
    rw [hw1] at q0 q1 q2 q3 hb0
    have XhR := hide hR
    have XhT := hide hT
    have XhN := hide hN
    have Xhck := hide hck
    have Xhmn := hide hmn
    have Xhfo := hide hfo
    have Xhko := hide hko
    have Xhhs := hide hhs
    have Xhhn := hide hhn
    have Xhtop := hide htop
    have XcS := hide cS
    have XcF1 := hide cF1
    have XcF2 := hide cF2
    have XcO1 := hide cO1
    have XcN := hide cN
    have XcK := hide cK
    have XcU := hide cU
    have XcT := hide cT
    have XcO := hide cO
    have Xhcs := hide hcs
    have Xhmany := hide hmany
    have Xhfin := hide hfin
    have Xg := hide g
    clear hR hT hN hck hmn hfo hko hhs hhn htop cS cF1 cF2 cO1 cN cK cU cT cO hcs hmany hfin g
    clear hw1 ei
    by_cases e1 : 120 < T
    · have e1' : (120 : Int) < (T : Int) := by omega
      clear hbig
      go_enter Try.func23, Try.ntmps23
      go_wp2_with fail
      go_ret
      exact ⟨ret_int Xhfin.out.symm, hb0⟩
    · have e1' : ¬ (120 : Int) < (T : Int) := by omega
      by_cases e2 : 120 < N
      · have e2' : (120 : Int) < (N : Int) := by omega
        clear hbig
        go_enter Try.func23, Try.ntmps23
        go_wp2_with fail
        go_ret
        exact ⟨ret_int Xhfin.out.symm, hb0⟩
      · have e2' : ¬ (120 : Int) < (N : Int) := by omega
        have e3 : 300 < R := by omega
        have e3' : (300 : Int) < (R : Int) := by omega
        clear hbig
        go_enter Try.func23, Try.ntmps23
        go_wp2_with fail
        go_ret
        exact ⟨ret_int Xhfin.out.symm, hb0⟩
  · have hT' : T ≤ 120 := by omega
    have hN' : N ≤ 120 := by omega
    have hR' : R ≤ 300 := by omega
    have e1' : ¬ (120 : Int) < (T : Int) := by omega
    have e2' : ¬ (120 : Int) < (N : Int) := by omega
    have e3' : ¬ (300 : Int) < (R : Int) := by omega
    rw [decide_eq_false (show ¬ 120 < T by omega), decide_eq_false (show ¬ 120 < N by omega), decide_eq_false (show ¬ 300 < R by omega)] at hmn
    rw [hw1] at hcs q0 q1 q2 q3
    generalize shortOf G = qs at *
    cases qs with
    | false =>
      have hfin : checkOf G st = 7 := by rw [hck, hmn]; rfl
      have XhR := hide hR
      have XhT := hide hT
      have XhN := hide hN
      have Xhck := hide hck
      have Xhmn := hide hmn
      have Xhfo := hide hfo
      have Xhko := hide hko
      have Xhhs := hide hhs
      have Xhhn := hide hhn
      have Xhtop := hide htop
      have XcS := hide cS
      have XcF1 := hide cF1
      have XcF2 := hide cF2
      have XcO1 := hide cO1
      have XcN := hide cN
      have XcK := hide cK
      have XcU := hide cU
      have XcT := hide cT
      have XcO := hide cO
      have Xhcs := hide hcs
      have Xhfin := hide hfin
      have Xg := hide g
      clear hR hT hN hck hmn hfo hko hhs hhn htop cS cF1 cF2 cO1 cN cK cU cT cO hcs hfin g
      clear ei hbig
      go_enter Try.func23, Try.ntmps23
      go_wp2_with fail
      refine Xhcs.out.mono ?_
      rintro e w2 ⟨rfl, b2⟩
      rw [← hw1] at b2
      clear hw1 q0 q1 q2 q3
      go_wp2_with fail
      go_ret
      exact ⟨ret_int Xhfin.out.symm, hb0.trans (b2.mono hb0.size)⟩
    | true =>
      have hmany : manyOf G = false := by rw [hmn]; rfl
      rw [hmany, if_neg (by decide)] at hck
      have XhR := hide hR
      have XhT := hide hT
      have XhN := hide hN
      have Xhck := hide hck
      have Xhmn := hide hmn
      have Xhfo := hide hfo
      have Xhko := hide hko
      have Xhhs := hide hhs
      have Xhhn := hide hhn
      have Xhtop := hide htop
      have XcS := hide cS
      have XcF1 := hide cF1
      have XcF2 := hide cF2
      have XcO1 := hide cO1
      have XcN := hide cN
      have XcK := hide cK
      have XcU := hide cU
      have XcT := hide cT
      have XcO := hide cO
      have Xhcs := hide hcs
      have Xhmany := hide hmany
      clear hR hT hN hck hmn hfo hko hhs hhn htop cS cF1 cF2 cO1 cN cK cU cT cO hcs hmany
      clear ei hbig
      go_enter Try.func23, Try.ntmps23
      go_wp2_with fail
      refine Xhcs.out.mono ?_
      rintro e w2 ⟨rfl, b2⟩
      rw [← hw1] at b2
      clear hw1 q0 q1 q2 q3
      have g2 := g.below b2
      have hb2 := hb0.trans (b2.mono hb0.size)
      clear g hb0 b2
      obtain ⟨q0, q1, q2, q3⟩ := g2.cells
      go_wp2_with fail
      refine (XcF1.out _ g2).mono ?_
      rintro e w3 ⟨rfl, b3⟩
      have g3 := g2.below b3
      have hb3 := hb2.trans (b3.mono hb2.size)
      clear g2 hb2 b3 q0 q1 q2 q3
      obtain ⟨q0, q1, q2, q3⟩ := g3.cells
      have hfo := Xhfo.out
      clear XcF1 Xhfo
      generalize G.terms.all (fun s => plainB s || quotedB s) = qa at *
      cases qa with
      | false =>
        have Xhfo := hide hfo
        clear hfo
        go_wp2_with fail
        go_ret
        exact ⟨ret_int (by rw [Xhck.out, Xhfo.out]; rfl), hb3⟩
      | true =>
        rw [Bool.true_and] at hfo
        have Xhfo := hide hfo
        clear hfo
        go_wp2_with fail
        refine (XcF2.out _ g3).mono ?_
        rintro e w4 ⟨rfl, b4⟩
        have g4 := g3.below b4
        have hb4 := hb3.trans (b4.mono hb3.size)
        clear g3 hb3 b4 q0 q1 q2 q3
        obtain ⟨q0, q1, q2, q3⟩ := g4.cells
        have hfo := Xhfo.out
        clear XcF2 Xhfo
        generalize G.nons.all plainB = qa at *
        cases qa with
        | false =>
          have Xhfo := hide hfo
          clear hfo
          go_wp2_with fail
          go_ret
          exact ⟨ret_int (by rw [Xhck.out, Xhfo.out]; rfl), hb4⟩
        | true =>
          have Xhfo := hide hfo
          clear hfo
          go_wp2_with fail
          refine (XcO1.out _ (by omega) g4).mono ?_
          rintro e w5 ⟨rfl, b5⟩
          have g5 := g4.below b5
          have hb5 := hb4.trans (b5.mono hb4.size)
          clear g4 hb4 b5 q0 q1 q2 q3
          obtain ⟨q0, q1, q2, q3⟩ := g5.cells
          by_cases hnd : (namesOf G).Nodup
          · rw [decide_eq_true hnd]
            have Xhnd := hide hnd
            clear hnd
            go_wp2_with fail
            refine (XcN.out _ g5).mono ?_
            rintro e w6 ⟨rfl, b6⟩
            have g6 := g5.below b6
            have hb6 := hb5.trans (b6.mono hb5.size)
            clear g5 hb5 b6 q0 q1 q2 q3
            obtain ⟨q0, q1, q2, q3⟩ := g6.cells
            have hko := Xhko.out
            clear XcN Xhko
            generalize isNon G st = qa at *
            cases qa with
            | false =>
              have Xhko := hide hko
              clear hko
              go_wp2_with fail
              go_ret
              exact ⟨ret_int (by rw [Xhck.out, Xhfo.out, if_neg (by decide), if_neg (fun e => e Xhnd.out), Xhko.out]; rfl), hb6⟩
            | true =>
              rw [Bool.true_and] at hko
              have Xhko := hide hko
              clear hko
              go_wp2_with fail
              refine (XcK.out _ g6).mono ?_
              rintro e w7 ⟨rfl, b7⟩
              have g7 := g6.below b7
              have hb7 := hb6.trans (b7.mono hb6.size)
              clear g6 hb6 b7 q0 q1 q2 q3
              obtain ⟨q0, q1, q2, q3⟩ := g7.cells
              have hko := Xhko.out
              clear XcK Xhko
              generalize G.rules.all (fun r => knownOf G r) = qa at *
              cases qa with
              | false =>
                have Xhko := hide hko
                clear hko
                go_wp2_with fail
                go_ret
                exact ⟨ret_int (by rw [Xhck.out, Xhfo.out, if_neg (by decide), if_neg (fun e => e Xhnd.out), Xhko.out]; rfl), hb7⟩
              | true =>
                have Xhko := hide hko
                clear hko
                go_wp2_with fail
                refine (XcU.out _ g7).mono ?_
                rintro e w8 ⟨rfl, b8⟩
                have g8 := g7.below b8
                have hb8 := hb7.trans (b8.mono hb7.size)
                clear g7 hb7 b8 q0 q1 q2 q3
                obtain ⟨q0, q1, q2, q3⟩ := g8.cells
                have hck := Xhck.out
                clear XcU Xhck
                rw [Xhfo.out, if_neg (by decide), if_neg (fun e => e Xhnd.out), Xhko.out, if_neg (by decide)] at hck
                generalize unlikeOf G.rules = qa at *
                cases qa with
                | false =>
                  have Xhck := hide hck
                  clear hck
                  go_wp2_with fail
                  go_ret
                  exact ⟨ret_int (by rw [Xhck.out]; rfl), hb8⟩
                | true =>
                  rw [if_neg (by decide)] at hck
                  have Xhck := hide hck
                  clear hck
                  go_wp2_with fail
                  clear q0 q1 q2 q3
                  go_loopw [4] (fun i wr => ∃ k : Nat, k ≤ N ∧ i = .int .i64 ((T : Int) + 1 + k) ∧ haveUpto G k = true ∧ GBox wr F w.heap.size A1 c1 A2 c2 A3 c3 T N R st G ∧ Below w.heap.size w wr) (fun i _ => (T + 1 + N) - (intOf i).toNat)
                  case atStart => exact ⟨0, Nat.zero_le _, by go_num, rfl, g8, hb8⟩
                  case round =>
                    clear g8 hb8
                    obtain ⟨k, hk, rfl, hu, g, hb⟩ := hrel
                    obtain ⟨q0, q1, q2, q3⟩ := g.cells
                    by_cases hlt : k < N
                    · have hlt' : (T : Int) + 1 + (k : Int) ≤ ((T + N : Nat) : Int) := by omega
                      have hof := fun wr => XcO.out wr ((T : Int) + 1 + (k : Int))
                      have hsk := Xhhs.out k
                      have hsn := Xhhn.out k N hlt
                      generalize ofOf G ((T : Int) + 1 + (k : Int)) = l at *
                      rw [hu, Bool.true_and] at hsk
                      by_cases hl : l.length = 0
                      · have hfin := hsn hl
                        have hl' : ((l.length : Int) == 0) = true := by rw [beq_iff_eq]; omega
                        have Xhof := hide hof
                        have Xhsk := hide hsk
                        have Xhsn := hide hsn
                        have Xhl := hide hl
                        have Xhfin := hide hfin
                        have Xhu := hide hu
                        clear hof hsk hsn hl hfin hu
                        go_wp2_with fail
                        refine (XcT.out _ g).mono ?_
                        rintro e w9 ⟨rfl, b9⟩
                        have g9 := g.below b9
                        have hb9 := hb.trans (b9.mono hb.size)
                        clear q0 q1 q2 q3
                        obtain ⟨q0, q1, q2, q3⟩ := g9.cells
                        go_wp2_with fail
                        refine (Xhof.out _ g9).mono ?_
                        rintro e w8 ⟨Ao, co, rfl, hown, b8⟩
                        have Xhown := hide hown
                        clear hown
                        go_wp2_with fail
                        go_ret
                        exact ⟨ret_int (by rw [Xhck.out, Xhfin.out]; rfl), hb9.trans (b8.mono hb9.size)⟩
                      · have hl' : ((l.length : Int) == 0) = false := by rw [beq_eq_false_iff_ne]; omega
                        rw [decide_eq_true (show l.length ≠ 0 from hl)] at hsk
                        have Xhof := hide hof
                        have Xhsk := hide hsk
                        have Xhsn := hide hsn
                        have Xhl := hide hl
                        have Xhu := hide hu
                        clear hof hsk hsn hl hu
                        go_wp2_with fail
                        refine (XcT.out _ g).mono ?_
                        rintro e w9 ⟨rfl, b9⟩
                        have g9 := g.below b9
                        have hb9 := hb.trans (b9.mono hb.size)
                        clear q0 q1 q2 q3
                        obtain ⟨q0, q1, q2, q3⟩ := g9.cells
                        go_wp2_with fail
                        refine (Xhof.out _ g9).mono ?_
                        rintro e w8 ⟨Ao, co, rfl, hown, b8⟩
                        have Xhown := hide hown
                        clear hown
                        go_wp2_with fail
                        go_roundw
                        case rel => exact ⟨k + 1, by omega, by go_num, Xhsk.out, g9.below b8, hb9.trans (b8.mono hb9.size)⟩
                        case measure => simp [intOf]; omega
                    · have hkn : k = N := by omega
                      have hlt' : ¬ (T : Int) + 1 + (k : Int) ≤ ((T + N : Nat) : Int) := by omega
                      have Xhu := hide hu
                      clear hu
                      go_wp2_with fail
                      refine (XcT.out _ g).mono ?_
                      rintro e w9 ⟨rfl, b9⟩
                      go_wp2_with fail
                      go_ret
                      exact ⟨ret_int (by rw [Xhck.out, ← hkn, Xhu.out]; rfl), hb.trans (b9.mono hb.size)⟩
          · rw [decide_eq_false hnd]
            have Xhnd := hide hnd
            clear hnd
            go_wp2_with fail
            go_ret
            exact ⟨ret_int (by rw [Xhck.out, Xhfo.out, if_neg (by decide), if_pos Xhnd.out]), hb5⟩
end
end Go.Proofs.Ytlpokomfljmogaa

/- The law GramNames: the walk. -/
import Derived.Test.YtejjaabkbkkjlaaGramAwake
import Derived.Test.YtejjaabkbkkjlaaGramMuch
import Derived.Test.YtejjaabkbkkjlaaOpenGram
import Derived.Test.YtejjaabkbkkjlaaGramNames
namespace Go.Proofs.Ytejjaabkbkkjlaa
set_option linter.unusedVariables false
open Go.RowKit

theorem touch_two (W : World) (z : Nat) (u v : Value) : Touch (fun k => k = z) W ((W.setCell ⟨z, 0, none⟩ u).setCell ⟨z, 1, none⟩ v) :=
  ((Touch.refl (fun k => k = z) W).setCell (p := ⟨z, 0, none⟩) (fun _ => rfl) u).setCell (p := ⟨z, 1, none⟩) (fun _ => rfl) v

set_option maxRecDepth 100000 in
set_option maxHeartbeats 16000000 in
theorem walk_GramNames (C : Array Value) (G : GramD) (w : World) (hg : GramCells w C.toList G) :
    Calls Try.prog 4 #[.agg C] w (Quiet w (.bool true)) := by
  obtain ⟨vt, vn, vr, hC, hg, -⟩ := hg
  obtain rfl : C = #[vt, vn, vr, .int .i64 G.start] := Array.toList_inj.1 hC
  clear hC
  generalize G.start = st at *
  obtain ⟨A1, c1, A2, c2, A3, c3, rfl, rfl, rfl, -⟩ := hg.slices
  obtain ⟨w1, hw1⟩ : ∃ w1, w1 = w.alloc (.cells #[.slice A1 G.terms.length c1, .slice A2 G.nons.length c2, .slice A3 G.rules.length c3, .int .i64 st] 25) := ⟨_, rfl⟩
  have g1 := GBox.new hg st
  have b1 : Below w.heap.size w w1 := by rw [hw1]; exact (Below.refl _ w).alloc (Nat.le_refl _) _
  rw [← hw1] at g1
  have cA : ∀ wr, Calls Try.prog 17 #[] wr (Quiet wr (.bool true)) := law06_awake
  have hm := law_much g1.gram st
  obtain ⟨q0, q1, q2, q3⟩ := g1.cells
  have htop : topOf G = G.terms.length + G.nons.length := rfl
  have plain : checkOf G st = 0 → (∀ k : Nat, 1 ≤ k → k ≤ topOf G → findOf G (nameOf G k) = k ∧ isTerm G k = (!isNon G k) ∧ isNon G k = decide (0 < (ofOf G k).length)) ∧ (∀ (s i : Int), i ∈ ofOf G s → ∃ x, ruleOf G st i = ((s, x), true)) ∧ countUpto G (topOf G + 1) = G.rules.length := fun h =>
    ⟨fun k h1 h2 => ⟨find_name (checkOf_zero h).2.2.1 h1 h2, term_non h1 h2, non_rules h h1 h2⟩, fun s i hi => rule_of hi, count_all h⟩
  have hcs := countUpto_succ G
  have hcl : ∀ n, countUpto G n ≤ n * G.rules.length := fun n => countUpto_le
  have hll : ∀ s : Int, (ofOf G s).length ≤ G.rules.length := fun s => ofUpto_len
  generalize hT : G.terms.length = T at *
  generalize hN : G.nons.length = N at *
  generalize hR : G.rules.length = R at *
  generalize hF : (fun x => x < w.heap.size) = F at *
  have cC : ∀ wr, GBox wr F w.heap.size A1 c1 A2 c2 A3 c3 T N R st G → Calls Try.prog 20 #[GV (.slice A1 T c1) (.slice A2 N c2) (.slice A3 R c3) st] wr (Quiet wr (.int .i64 (checkOf G st))) := fun wr h => gram_check h.gram st
  have cP : ∀ wr, GBox wr F w.heap.size A1 c1 A2 c2 A3 c3 T N R st G → Calls Try.prog 22 #[GV (.slice A1 T c1) (.slice A2 N c2) (.slice A3 R c3) st] wr (Quiet wr (.int .i64 ((T + N : Nat) : Int))) := fun wr h => by
    have := gram_top h.gram st
    rw [htop] at this; exact this
  rw [hw1] at hm q0 q1 q2 q3
  clear hg
  have XhT := hide hT
  have XhN := hide hN
  have XhR := hide hR
  have XhF := hide hF
  have XcA := hide cA
  have Xhm := hide hm
  have Xg1 := hide g1
  have Xb1 := hide b1
  have Xhtop := hide htop
  have Xplain := hide plain
  have Xhcs := hide hcs
  have Xhcl := hide hcl
  have Xhll := hide hll
  have XcC := hide cC
  have XcP := hide cP
  clear hT hN hR hF cA hm g1 b1 htop plain hcs hcl hll cC cP
  go_enter Try.func4, Try.ntmps4
  go_wp2_with fail
  refine Xhm.out.mono ?_
  rintro e w2 ⟨r, hr, rfl, b2⟩
  rw [← hw1] at b2
  have g2 := Xg1.out.below b2
  have hb2 := Xb1.out.trans (b2.mono Xb1.out.size)
  clear hw1 q0 q1 q2 q3 Xhm Xg1 Xb1 b2
  obtain ⟨q0, q1, q2, q3⟩ := g2.cells
  by_cases hbig : 600 < r
  · have Xg2 := hide g2
    have Xhb2 := hide hb2
    clear g2 hb2
    go_wp2_with fail
    refine (XcA.out _).mono ?_
    rintro e w4 ⟨rfl, b4⟩
    go_wp2_with fail
    go_ret
    exact ⟨rfl, Xhb2.out.trans (b4.mono Xhb2.out.size)⟩
  · have hTN : T + N + R ≤ 600 := by omega
    clear hr
    go_wp2_with fail
    refine (XcC.out _ g2).mono ?_
    rintro e w3 ⟨rfl, b3⟩
    have g3 := g2.below b3
    have hb3 := hb2.trans (b3.mono hb2.size)
    clear q0 q1 q2 q3 g2 hb2 b3
    by_cases hc : checkOf G st = 0
    · obtain ⟨hp1, hp2, hp3⟩ := Xplain.out hc
      have hc' : (checkOf G st != 0) = false := by rw [hc]; rfl
      rw [Xhtop.out] at hp1 hp3
      have Xhc := hide hc
      have Xhp1 := hide hp1
      have Xhp2 := hide hp2
      have Xhp3 := hide hp3
      clear hc hp1 hp2 hp3
      go_wp2_with fail
      go_loopw [3] (fun i wr => ∃ k : Nat, 1 ≤ k ∧ k ≤ T + N + 1 ∧ i = .int .i64 k ∧ GBox wr F w.heap.size A1 c1 A2 c2 A3 c3 T N R st G ∧ Below w.heap.size w wr) (fun i _ => (T + N + 1) - (intOf i).toNat)
      case atStart => exact ⟨1, by omega, by omega, rfl, g3, hb3⟩
      case round =>
        clear g3 hb3
        obtain ⟨k, hk1, hk, rfl, g, hb⟩ := hrel
        obtain ⟨q0, q1, q2, q3⟩ := g.cells
        by_cases hlt : k ≤ T + N
        · obtain ⟨e1, e2, e3⟩ := Xhp1.out k hk1 hlt
          have n1 : ∀ wr, GBox wr F w.heap.size A1 c1 A2 c2 A3 c3 T N R st G → Calls Try.prog 29 #[GV (.slice A1 T c1) (.slice A2 N c2) (.slice A3 R c3) st, .int .i64 k] wr (Quiet wr (.string (nameOf G k))) := fun wr h => gram_name h.gram st k
          have n2 : ∀ wr, GBox wr F w.heap.size A1 c1 A2 c2 A3 c3 T N R st G → Calls Try.prog 31 #[GV (.slice A1 T c1) (.slice A2 N c2) (.slice A3 R c3) st, .string (nameOf G k)] wr (Quiet wr (.int .i64 k)) := fun wr h => by
            have := gram_find h.gram st (nameOf G k)
            rw [e1] at this; exact this
          have n3 : ∀ wr, GBox wr F w.heap.size A1 c1 A2 c2 A3 c3 T N R st G → Calls Try.prog 24 #[GV (.slice A1 T c1) (.slice A2 N c2) (.slice A3 R c3) st, .int .i64 k] wr (Quiet wr (.bool (!isNon G k))) := fun wr h => by
            have := gram_term h.gram st k
            rw [e2] at this; exact this
          have n4 : ∀ wr, GBox wr F w.heap.size A1 c1 A2 c2 A3 c3 T N R st G → Calls Try.prog 26 #[GV (.slice A1 T c1) (.slice A2 N c2) (.slice A3 R c3) st, .int .i64 k] wr (Quiet wr (.bool (isNon G k))) := fun wr h => gram_non h.gram st k
          have n5 : ∀ wr, GBox wr F w.heap.size A1 c1 A2 c2 A3 c3 T N R st G → Calls Try.prog 34 #[GV (.slice A1 T c1) (.slice A2 N c2) (.slice A3 R c3) st, .int .i64 k] wr (OwnPost wr 3 ((ofOf G k).map I64) (ofOf G k).length) := fun wr h => gram_of h.gram st k
          have hlt' : (k : Int) ≤ (T : Int) + (N : Int) := by omega
          have hlt2 : (k : Int) ≤ ((T + N : Nat) : Int) := by omega
          generalize isNon G k = ino at *
          generalize nameOf G k = nme at *
          generalize ofOf G k = ls at *
          generalize ls.length = nl at *
          cases ino with
          | true =>
            have hl : (0 : Int) < (nl : Int) := by have := of_decide_eq_true e3.symm; omega
            have hl2 : 0 < nl := of_decide_eq_true e3.symm
            have Xe1 := hide e1
            have Xe2 := hide e2
            have Xe3 := hide e3
            have Xn1 := hide n1
            have Xn2 := hide n2
            have Xn3 := hide n3
            have Xn4 := hide n4
            have Xn5 := hide n5
            clear e1 e2 e3 n1 n2 n3 n4 n5
            go_wp2_with fail
            refine (XcP.out _ g).mono ?_
            rintro e w3 ⟨rfl, b3⟩
            have g3 := g.below b3
            have hb3 := hb.trans (b3.mono hb.size)
            clear q0 q1 q2 q3 g hb b3
            obtain ⟨q0, q1, q2, q3⟩ := g3.cells
            have g3d : GBox w3.drew F w.heap.size A1 c1 A2 c2 A3 c3 T N R st G := g3.drewN 1
            have hb3d : Below w.heap.size w w3.drew := below_drewN hb3 1
            go_wp2_with fail
            go_region_held3 (fun w' => w'.cell? ⟨w.heap.size, 0, none⟩ = some (.slice A1 T c1) ∧ w'.cell? ⟨w.heap.size, 1, none⟩ = some (.slice A2 N c2) ∧ w'.cell? ⟨w.heap.size, 2, none⟩ = some (.slice A3 R c3) ∧ w'.cell? ⟨w.heap.size, 3, none⟩ = some (.int .i64 st))
              (first | go_keep | assumption)
              (first
                | (go_at_call 29; (with_reducible refine (Xn1.out _ (by assumption)).mono ?_); rintro e w4 ⟨rfl, b4⟩; have g4 := g3d.below b4; have hb4 := hb3d.trans (b4.mono hb3d.size); have k4 := g4.cells; clear g3d)
                | (go_at_call 31; (with_reducible refine (Xn2.out _ (by assumption)).mono ?_); rintro e w5 ⟨rfl, b5⟩; have g5 := g4.below b5; have hb5 := hb4.trans (b5.mono hb4.size); have k5 := g5.cells; clear g4)
                | (go_at_call 24; (with_reducible refine (Xn3.out _ (by assumption)).mono ?_); rintro e w6 ⟨rfl, b6⟩; have g6 := g5.below b6; have hb6 := hb5.trans (b6.mono hb5.size); have k6 := g6.cells; clear g5)
                | (go_at_call 26; (with_reducible refine (Xn4.out _ g6).mono ?_); rintro e w7 ⟨rfl, b7⟩; have g7 := g6.below b7; have hb7 := hb6.trans (b7.mono hb6.size); have k7 := g7.cells)
                | (go_at_call 26; (with_reducible refine (Xn4.out _ g7).mono ?_); rintro e w8 ⟨rfl, b8⟩; have g8 := g7.below b8; have hb8 := hb7.trans (b8.mono hb7.size); have k8 := g8.cells)
                | (go_at_call 34; (with_reducible refine (Xn5.out _ (by assumption)).mono ?_); rintro e w9 ⟨A9, c9, rfl, ho9, b9⟩; have g9 := g8.below b9; have hb9 := hb8.trans (b9.mono hb8.size); have k9 := g9.cells))
            go_wp2_with fail
            go_roundw
            case rel => exact ⟨k + 1, by omega, by omega, by go_num, g9, hb9⟩
            case measure => simp [intOf]; omega
          | false =>
            obtain rfl : nl = 0 := by have := of_decide_eq_false e3.symm; omega
            have Xe1 := hide e1
            have Xe2 := hide e2
            have Xe3 := hide e3
            have Xn1 := hide n1
            have Xn2 := hide n2
            have Xn3 := hide n3
            have Xn4 := hide n4
            have Xn5 := hide n5
            clear e1 e2 e3 n1 n2 n3 n4 n5
            go_wp2_with fail
            refine (XcP.out _ g).mono ?_
            rintro e w3 ⟨rfl, b3⟩
            have g3 := g.below b3
            have hb3 := hb.trans (b3.mono hb.size)
            clear q0 q1 q2 q3 g hb b3
            obtain ⟨q0, q1, q2, q3⟩ := g3.cells
            have g3d : GBox w3.drew F w.heap.size A1 c1 A2 c2 A3 c3 T N R st G := g3.drewN 1
            have hb3d : Below w.heap.size w w3.drew := below_drewN hb3 1
            go_wp2_with fail
            go_region_held3 (fun w' => w'.cell? ⟨w.heap.size, 0, none⟩ = some (.slice A1 T c1) ∧ w'.cell? ⟨w.heap.size, 1, none⟩ = some (.slice A2 N c2) ∧ w'.cell? ⟨w.heap.size, 2, none⟩ = some (.slice A3 R c3) ∧ w'.cell? ⟨w.heap.size, 3, none⟩ = some (.int .i64 st))
              (first | go_keep | assumption)
              (first
                | (go_at_call 29; (with_reducible refine (Xn1.out _ (by assumption)).mono ?_); rintro e w4 ⟨rfl, b4⟩; have g4 := g3d.below b4; have hb4 := hb3d.trans (b4.mono hb3d.size); have k4 := g4.cells; clear g3d)
                | (go_at_call 31; (with_reducible refine (Xn2.out _ (by assumption)).mono ?_); rintro e w5 ⟨rfl, b5⟩; have g5 := g4.below b5; have hb5 := hb4.trans (b5.mono hb4.size); have k5 := g5.cells; clear g4)
                | (go_at_call 24; (with_reducible refine (Xn3.out _ (by assumption)).mono ?_); rintro e w6 ⟨rfl, b6⟩; have g6 := g5.below b6; have hb6 := hb5.trans (b6.mono hb5.size); have k6 := g6.cells; clear g5)
                | (go_at_call 26; (with_reducible refine (Xn4.out _ g6).mono ?_); rintro e w7 ⟨rfl, b7⟩; have g7 := g6.below b7; have hb7 := hb6.trans (b7.mono hb6.size); have k7 := g7.cells)
                | (go_at_call 26; (with_reducible refine (Xn4.out _ g7).mono ?_); rintro e w8 ⟨rfl, b8⟩; have g8 := g7.below b8; have hb8 := hb7.trans (b8.mono hb7.size); have k8 := g8.cells)
                | (go_at_call 34; (with_reducible refine (Xn5.out _ (by assumption)).mono ?_); rintro e w9 ⟨A9, c9, rfl, ho9, b9⟩; have g9 := g8.below b9; have hb9 := hb8.trans (b9.mono hb8.size); have k9 := g9.cells))
            go_wp2_with fail
            go_roundw
            case rel => exact ⟨k + 1, by omega, by omega, by go_num, g9, hb9⟩
            case measure => simp [intOf]; omega
        · have hlt' : ¬ (k : Int) ≤ (T : Int) + (N : Int) := by omega
          have hlt2 : ¬ (k : Int) ≤ ((T + N : Nat) : Int) := by omega
          go_wp2_with fail
          refine (XcP.out _ g).mono ?_
          rintro e w3 ⟨rfl, b3⟩
          have g3 := g.below b3
          have hb3 := hb.trans (b3.mono hb.size)
          clear q0 q1 q2 q3 g hb b3
          go_wp2_with fail
          go_loopw [4, 5] (fun n i wr => ∃ k : Nat, k ≤ T + N + 1 ∧ i = .int .i64 k ∧ n = .int .i64 (countUpto G k : Nat) ∧ GBox wr F w.heap.size A1 c1 A2 c2 A3 c3 T N R st G ∧ Below w.heap.size w wr) (fun _ i _ => (T + N + 1) - (intOf i).toNat)
          case atStart => exact ⟨0, by omega, rfl, rfl, g3, hb3⟩
          case round =>
            clear g3 hb3
            obtain ⟨s, hs, rfl, rfl, g, hb⟩ := hrel
            obtain ⟨q0, q1, q2, q3⟩ := g.cells
            have hcl := Xhcl.out s
            have hll := Xhll.out s
            have hcs := Xhcs.out s
            have hcb : countUpto G s ≤ 360600 := Nat.le_trans hcl (Nat.le_trans (Nat.mul_le_mul (show s ≤ 601 by omega) (show R ≤ 600 by omega)) (by decide))
            clear hcl
            by_cases hls : s ≤ T + N
            · have hls' : (s : Int) ≤ (T : Int) + (N : Int) := by omega
              have hls2 : (s : Int) ≤ ((T + N : Nat) : Int) := by omega
              have n5 : ∀ wr, GBox wr F w.heap.size A1 c1 A2 c2 A3 c3 T N R st G → Calls Try.prog 34 #[GV (.slice A1 T c1) (.slice A2 N c2) (.slice A3 R c3) st, .int .i64 s] wr (OwnPost wr 3 ((ofOf G s).map I64) (ofOf G s).length) := fun wr h => gram_of h.gram st s
              have hp2 := Xhp2.out s
              generalize ofOf G (s : Int) = ls at *
              have Xn5 := hide n5
              have Xhp2 := hide hp2
              have Xhcs := hide hcs
              clear n5 hp2 hcs
              go_wp2_with fail
              refine (XcP.out _ g).mono ?_
              rintro e w3 ⟨rfl, b3⟩
              have g3 := g.below b3
              have hb3 := hb.trans (b3.mono hb.size)
              clear q0 q1 q2 q3 g hb b3
              obtain ⟨q0, q1, q2, q3⟩ := g3.cells
              go_wp2_with fail
              refine (Xn5.out _ g3).mono ?_
              rintro e w4 ⟨A9, c9, rfl, ho9, b4⟩
              have hrd := Rd.of_own ho9
              have hlt9 := fun k hk => (ho9.lt k hk).2
              have hz9 : A9 = A9 := rfl
              have g4 := g3.below b4
              have hb4 := hb3.trans (b4.mono hb3.size)
              have hnc9 := (RdI.at_ hrd).2.1
              have hcm9 := (RdI.at_ hrd).2.2.1
              unfold maxLen at hcm9
              have hrd0 : RdI w4 (fun b => b < w4.heap.size) (.slice A9 ls.length c9) ls := hrd.mono hlt9
              generalize hz4 : w4.heap.size = z4 at hrd0
              have hz4' : z4 ≤ w4.heap.size := by omega
              clear q0 q1 q2 q3 g3 hb3 b4 hrd hlt9 hz9 ho9 hz4
              go_wp2_with fail
              go_loopw [7] (fun i wr => ∃ j : Nat, j ≤ ls.length ∧ i = .int .i64 j ∧ GBox wr F w.heap.size A1 c1 A2 c2 A3 c3 T N R st G ∧ RdI wr (fun b => b < z4) (.slice A9 ls.length c9) ls ∧ z4 ≤ wr.heap.size ∧ Below w.heap.size w wr) (fun i _ => ls.length - (intOf i).toNat)
              case atStart => exact ⟨0, by omega, rfl, g4, hrd0, hz4', hb4⟩
              case round =>
                clear g4 hb4 hrd0 hz4'
                obtain ⟨j, hj, rfl, g, hrd, hz, hb⟩ := hrel
                obtain ⟨q0, q1, q2, q3⟩ := g.cells
                by_cases hlj : j < ls.length
                · obtain ⟨-, -, -, hcell⟩ := RdI.at_ hrd
                  obtain ⟨b, off, rfl, hbl, hcc⟩ := hcell (by omega)
                  obtain ⟨i, hi⟩ : ∃ i, ls[j]? = some i := ⟨_, List.getElem?_eq_getElem hlj⟩
                  have hci := hcc j i hi
                  obtain ⟨x, hx⟩ := Xhp2.out i (List.mem_of_getElem? hi)
                  have hru : ∀ W, GBox W F w.heap.size A1 c1 A2 c2 A3 c3 T N R st G → Calls Try.prog 18 #[GV (.slice A1 T c1) (.slice A2 N c2) (.slice A3 R c3) st, .int .i64 i] W (RulePost W ((s, x), true)) := fun W h => by
                    have := gram_rule h.gram st i
                    rw [hx] at this; exact this
                  have hlj' : (j : Int) < (ls.length : Int) := by omega
                  have gd : GBox wr.drew F w.heap.size A1 c1 A2 c2 A3 c3 T N R st G := g.drewN 1
                  have ga : ∀ o, GBox (wr.alloc o).drew F w.heap.size A1 c1 A2 c2 A3 c3 T N R st G := fun o => g.below (((Below.refl _ _).alloc (Nat.le_refl _) _).drew)
                  have hss : ((s : Int) != (s : Int)) = false := by simp
                  have hbl2 : b < wr.heap.size := World.block_lt_of_cell? wr _ hci
                  have kb : ∀ (t : TypeId) (cs : Array Value) (W : World), Below (wr.alloc (.cells cs t)).drew.heap.size (wr.alloc (.cells cs t)).drew W → Blk W wr.heap.size t cs := fun t cs W h => ((Blk.new wr t cs).drew).below h (by simp)
                  have keep : ∀ W, Below wr.heap.size wr W → GBox W F w.heap.size A1 c1 A2 c2 (A3) c3 T N R st G ∧ RdI W (fun b => b < z4) (.slice (some ⟨b, off, none⟩) ls.length c9) ls ∧ z4 ≤ W.heap.size ∧ Below w.heap.size w W ∧ W.cell? ⟨b, off + j, none⟩ = some (.int .i64 i) := fun W h => ⟨g.below h, hrd.below h (fun k hk => Nat.lt_of_lt_of_le hk hz), Nat.le_trans hz h.size, hb.trans (h.mono hb.size), (h.cell (p := ⟨b, off + j, none⟩) hbl2).trans hci⟩
                  have kset : ∀ W u v, wr.heap.size < W.heap.size → GBox W F w.heap.size A1 c1 A2 c2 A3 c3 T N R st G ∧ RdI W (fun b => b < z4) (.slice (some ⟨b, off, none⟩) ls.length c9) ls ∧ z4 ≤ W.heap.size ∧ Below w.heap.size w W ∧ W.cell? ⟨b, off + j, none⟩ = some (.int .i64 i) → GBox ((W.setCell ⟨wr.heap.size, 0, none⟩ u).setCell ⟨wr.heap.size, 1, none⟩ v) F w.heap.size A1 c1 A2 c2 A3 c3 T N R st G ∧ RdI ((W.setCell ⟨wr.heap.size, 0, none⟩ u).setCell ⟨wr.heap.size, 1, none⟩ v) (fun b => b < z4) (.slice (some ⟨b, off, none⟩) ls.length c9) ls ∧ z4 ≤ ((W.setCell ⟨wr.heap.size, 0, none⟩ u).setCell ⟨wr.heap.size, 1, none⟩ v).heap.size ∧ Below w.heap.size w ((W.setCell ⟨wr.heap.size, 0, none⟩ u).setCell ⟨wr.heap.size, 1, none⟩ v) ∧ ((W.setCell ⟨wr.heap.size, 0, none⟩ u).setCell ⟨wr.heap.size, 1, none⟩ v).cell? ⟨b, off + j, none⟩ = some (.int .i64 i) := fun W u v hw h => by
                    obtain ⟨h1, h2, h3, h4, h5⟩ := h
                    have t := touch_two W wr.heap.size u v
                    have hwz := hb.size
                    have hbz := g.blk.lt
                    have hFz : ∀ k, F k → ¬ k = wr.heap.size := fun k hk e => by
                      have e2 := congrFun XhF.out k
                      rw [← e2] at hk
                      omega
                    exact ⟨h1.touch t hFz (fun e => by omega), h2.touch t (fun k hk e => by omega), Nat.le_trans h3 t.size, h4.trans (t.below (fun k hk _ e => by omega) h4.size), t.cell h5 (fun e => by have : b = wr.heap.size := e; omega)⟩
                  have drb : ∀ o W, Below (wr.alloc o).drew.heap.size (wr.alloc o).drew W → Below wr.heap.size wr W := fun o W h => (((Below.refl _ wr).alloc (Nat.le_refl _) o).drew).trans (h.mono (by simp))
                  have drc : ∀ W, Below wr.drew.heap.size wr.drew W → Below wr.heap.size wr W := fun W h => ((Below.refl _ wr).drew).trans h
                  have Xhi := hide hi
                  have Xhx := hide hx
                  have Xhru := hide hru
                  have Xhrd := hide hrd
                  have Xgd := hide gd
                  have Xga := hide ga
                  have Xkb := hide kb
                  have Xkeep := hide keep
                  have Xdrb := hide drb
                  have Xdrc := hide drc
                  have Xkset := hide kset
                  clear hi hx hru hrd gd ga kb keep drb drc kset
                  clear hcell hcc
                  go_wp2_with fail
                  go_region_held3 (fun w' => w'.cell? ⟨w.heap.size, 0, none⟩ = some (.slice A1 T c1) ∧ w'.cell? ⟨w.heap.size, 1, none⟩ = some (.slice A2 N c2) ∧ w'.cell? ⟨w.heap.size, 2, none⟩ = some (.slice A3 R c3) ∧ w'.cell? ⟨w.heap.size, 3, none⟩ = some (.int .i64 st) ∧ w'.cell? ⟨b, off + j, none⟩ = some (.int .i64 i))
                    (first | go_keep | assumption | exact s6 _ _)
                    (first
                      | (go_at_call 18; (with_reducible refine (Xhru.out _ Xgd.out).mono ?_); rintro e w5 ⟨A6, n6, c6, rfl, hx6, b5⟩; obtain ⟨g5, rd5, z5, hb5, ci5⟩ := Xkeep.out _ (Xdrc.out _ b5); have k5 := g5.cells; have s5 := And.intro k5.1 (And.intro k5.2.1 (And.intro k5.2.2.1 (And.intro k5.2.2.2 ci5))))
                      | (go_at_call 18; (with_reducible refine (Xhru.out _ (Xga.out _)).mono ?_); rintro e w5 ⟨A6, n6, c6, rfl, hx6, b5⟩; have kk := Xkb.out _ _ _ b5; have d0 := kk.cell 0; have d1 := kk.cell 1; have f0 := kk.frozen 0; have f1 := kk.frozen 1; have hw5 : wr.heap.size < w5.heap.size := kk.lt; have all5 := Xkeep.out _ (Xdrb.out _ _ b5); have all6 := fun u v => Xkset.out _ u v hw5 all5; have s6 := fun u v => And.intro (all6 u v).1.cells.1 (And.intro (all6 u v).1.cells.2.1 (And.intro (all6 u v).1.cells.2.2.1 (And.intro (all6 u v).1.cells.2.2.2 (all6 u v).2.2.2.2))); obtain ⟨g5, rd5, z5, hb5, ci5⟩ := all5; have k5 := g5.cells; have s5 := And.intro k5.1 (And.intro k5.2.1 (And.intro k5.2.2.1 (And.intro k5.2.2.2 ci5)))))
                  · obtain ⟨w6, hw6⟩ : ∃ w6, w6 = w5.alloc (.cells #[.int .i64 s, .slice A6 n6 c6] 30) := ⟨_, rfl⟩
                    have b6 : Below w5.heap.size w5 w6 := by rw [hw6]; exact (Below.refl _ _).alloc (Nat.le_refl _) _
                    have g6 := g5.below b6
                    have hb6 := hb5.trans (b6.mono hb5.size)
                    have hrd6 := rd5.below b6 (fun k hk => Nat.lt_of_lt_of_le hk z5)
                    have hz6 : z4 ≤ w6.heap.size := Nat.le_trans z5 b6.size
                    rw [hw6] at g6 hb6 hrd6 hz6
                    have Xg6 := hide g6
                    have Xhb6 := hide hb6
                    have Xhrd6 := hide hrd6
                    have Xhx6 := hide hx6
                    have Xrd5 := hide rd5
                    have Xg5 := hide g5
                    have Xhb5 := hide hb5
                    clear g6 hb6 hrd6 hx6 rd5 g5 hb5
                    clear hw6 b6 q0 q1 q2 q3 k5 s5 ci5
                    go_wp2_with fail
                    go_roundw
                    case rel => exact ⟨j + 1, by omega, by go_num, Xg6.out, Xhrd6.out, hz6, Xhb6.out⟩
                    case measure => simp [intOf]; omega
                  · have a6 := all6 (.int .i64 s) (.slice A6 n6 c6)
                    have cs : ((w5.setCell ⟨wr.heap.size, 0, none⟩ (.int .i64 s)).setCell ⟨wr.heap.size, 1, none⟩ (.slice A6 n6 c6)).cell? ⟨wr.heap.size, 0, none⟩ = some (.int .i64 s) := (((kk.put 0 _).put 1 _).cell 0).trans rfl
                    have Xa6 := hide a6
                    have Xhx6 := hide hx6
                    have Xrd5 := hide rd5
                    have Xg5 := hide g5
                    have Xhb5 := hide hb5
                    clear a6 hx6 rd5 g5 hb5
                    clear all6 s6 kk d0 d1 f0 f1 q0 q1 q2 q3 k5 s5 ci5
                    go_wp2_with fail
                    go_roundw
                    case rel => exact ⟨j + 1, by omega, by go_num, Xa6.out.1, Xa6.out.2.1, Xa6.out.2.2.1, Xa6.out.2.2.2.1⟩
                    case measure => simp [intOf]; omega
                · go_wp2_with fail
                  go_roundw
                  case rel => exact ⟨s + 1, by omega, by go_num, by rw [Xhcs.out]; go_num, g, hb⟩
                  case measure => simp [intOf]; omega
            · have hls' : ¬ (s : Int) ≤ (T : Int) + (N : Int) := by omega
              have hls2 : ¬ (s : Int) ≤ ((T + N : Nat) : Int) := by omega
              have hsN : s = T + N + 1 := by omega
              have hcr := Xhp3.out
              rw [← hsN] at hcr
              have heq : ((countUpto G s : Int) == (R : Int)) = true := by rw [beq_iff_eq]; omega
              generalize countUpto G s = cs at *
              have Xhcr := hide hcr
              have Xhcs := hide hcs
              clear hcr hcs
              clear hsN
              go_wp2_with fail
              refine (XcP.out _ g).mono ?_
              rintro e w3 ⟨rfl, b3⟩
              have g3 := g.below b3
              have hb3 := hb.trans (b3.mono hb.size)
              clear q0 q1 q2 q3 g hb b3
              obtain ⟨q0, q1, q2, q3⟩ := g3.cells
              go_wp2_with fail
              refine (XcA.out _).mono ?_
              rintro e w4 ⟨rfl, b4⟩
              go_wp2_with fail
              go_ret
              exact ⟨rfl, hb3.trans (b4.mono hb3.size)⟩
    · have hc' : (checkOf G st != 0) = true := by simpa using hc
      have Xhc := hide hc
      have Xg3 := hide g3
      have Xhb3 := hide hb3
      clear hc g3 hb3
      go_wp2_with fail
      refine (XcA.out _).mono ?_
      rintro e w4 ⟨rfl, b4⟩
      go_wp2_with fail
      go_ret
      exact ⟨rfl, Xhb3.out.trans (b4.mono Xhb3.out.size)⟩
end Go.Proofs.Ytejjaabkbkkjlaa

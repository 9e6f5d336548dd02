/- The law LeastRules: the walk. -/
import Derived.Test.YtejjaabkbkkjlaaLeastRules
namespace Go.Proofs.Ytejjaabkbkkjlaa
set_option linter.unusedVariables false
open Go.RowKit
attribute [local irreducible] wpStill wpOne wpPh

structure RuCtx (w wr : World) (F F1 : Nat → Prop) (A1 : Option Addr) (c1 : Nat) (A2 : Option Addr) (c2 : Nat) (A3 : Option Addr) (c3 T N R : Nat) (st : Int) (G : GramD) (bz gz : Nat) (S : List FoundD) : Prop where
  g : GBox wr F w.heap.size A1 c1 A2 c2 A3 c3 T N R st G
  b : Below w.heap.size w wr
  s : IsWords wr F1 bz gz S
theorem RuCtx.below {w wr wr' : World} {F F1 : Nat → Prop} {A1 : Option Addr} {c1 : Nat} {A2 : Option Addr} {c2 : Nat} {A3 : Option Addr} {c3 T N R : Nat} {st : Int} {G : GramD} {bz gz : Nat} {S : List FoundD}
    (h : RuCtx w wr F F1 A1 c1 A2 c2 A3 c3 T N R st G bz gz S) (b : Below wr.heap.size wr wr') : RuCtx w wr' F F1 A1 c1 A2 c2 A3 c3 T N R st G bz gz S :=
  ⟨h.g.below b, h.b.trans (b.mono h.b.size), h.s.below b⟩

set_option maxRecDepth 100000 in
set_option maxHeartbeats 8000000 in
theorem walk_LeastRules (C : Array Value) (G : GramD) (w : World) (hg : GramCells w C.toList G) :
    Calls Try.prog 7 #[.agg C] w (Quiet w (.bool true)) := by
  obtain ⟨vt, vn, vr, hC, hg, -⟩ := hg
  obtain rfl : C = #[vt, vn, vr, .int .i64 G.start] := Array.toList_inj.1 hC
  clear hC
  generalize G.start = st at *
  obtain ⟨A1, c1, A2, c2, A3, c3, rfl, rfl, rfl, -⟩ := hg.slices
  obtain ⟨w1, hw1⟩ : ∃ w1, w1 = w.alloc (.cells #[.slice A1 G.terms.length c1, .slice A2 G.nons.length c2, .slice A3 G.rules.length c3, .int .i64 st] 25) := ⟨_, rfl⟩
  have g1 := GBox.new hg st
  have b1 : Below w.heap.size w w1 := by rw [hw1]; exact (Below.refl _ w).alloc (Nat.le_refl _) _
  rw [← hw1] at g1
  have hm := law_much g1.gram st
  have htop : topOf G = G.terms.length + G.nons.length := rfl
  have hcT := fun wr (g : GBox wr (· < w.heap.size) w.heap.size A1 c1 A2 c2 A3 c3 G.terms.length G.nons.length G.rules.length st G) => ref_top g.gram st
  rw [htop] at hcT
  have cC := fun wr (g : GBox wr (· < w.heap.size) w.heap.size A1 c1 A2 c2 A3 c3 G.terms.length G.nons.length G.rules.length st G) => ref_check g.gram st
  obtain ⟨q0, q1, q2, q3⟩ := g1.cells
  have cL := fun wr (g : GBox wr (· < w.heap.size) w.heap.size A1 c1 A2 c2 A3 c3 G.terms.length G.nons.length G.rules.length st G) => least_of g.gram st
  have cO := fun wr (g : GBox wr (· < w.heap.size) w.heap.size A1 c1 A2 c2 A3 c3 G.terms.length G.nons.length G.rules.length st G) (s : Int) => ref_of g.gram st s
  have plain : checkOf G st = 0 → ∀ S, Fixed G.rules (startW G.terms.length G.nons.length) S → (∀ r ∈ G.rules, betterB (joinOf S r.2) (lookW S r.1) = false) ∧ (∀ s : Int, (G.terms.length : Int) < s → (lookW S s).is = true → ∃ r ∈ G.rules, r.1 = s ∧ joinOf S r.2 = lookW S s) := fun hz S hS => by
    obtain ⟨hmany, -, -, hkn, -, -⟩ := checkOf_zero hz
    refine fixed_rules (fun r hr => ?_) hS
    unfold allKnown at hkn
    rw [Bool.and_eq_true, List.all_eq_true] at hkn
    have := hkn.2 r hr
    unfold knownOf at this
    rw [Bool.and_eq_true, isNon_iff] at this
    omega
  generalize hT : G.terms.length = T at *
  generalize hN : G.nons.length = N at *
  generalize hR : G.rules.length = R at *
  generalize hF : (fun b => b < w.heap.size) = F at *
  rw [hw1] at q0 q1 q2 q3 hm
  clear hg htop
  have Xhm := hide hm
  have XhcT := hide hcT
  have XcC := hide cC
  have XcL := hide cL
  have XcO := hide cO
  have Xplain := hide plain
  have Xb1 := hide b1
  have Xg1 := hide g1
  have XhF := hide hF
  have XhR := hide hR
  have XhT := hide hT
  have XhN := hide hN
  clear hm hcT cC cL cO plain b1 g1 hF hR hT hN
  go_enter Try.func7, Try.ntmps7
  go_wp2_with fail
  refine Xhm.out.mono ?_
  rintro e w2 ⟨r, hr, rfl, b2⟩
  rw [← hw1] at b2
  have g2 := Xg1.out.below b2
  have hb2 := Xb1.out.trans (b2.mono Xb1.out.size)
  clear q0 q1 q2 q3 hw1 Xhm Xg1 Xb1 b2
  by_cases hbig : 200 < r
  · have Xhb2 := hide hb2
    have Xg2 := hide g2
    clear hb2 g2
    go_wp2_with fail
    refine (law10_awake _).mono ?_
    rintro e w3 ⟨rfl, b3⟩
    go_wp2_with fail
    go_ret
    exact ⟨rfl, Xhb2.out.trans (b3.mono Xhb2.out.size)⟩
  · have hTN : T + N ≤ 200 := by omega
    clear hr
    obtain ⟨q0, q1, q2, q3⟩ := g2.cells
    have Xhb2 := hide hb2
    have Xg2 := hide g2
    clear hb2 g2
    go_wp2_with fail
    refine (XcC.out _ Xg2.out).mono ?_
    rintro e w3 ⟨rfl, b3⟩
    have g3 := Xg2.out.below b3
    have hb3 := Xhb2.out.trans (b3.mono Xhb2.out.size)
    clear q0 q1 q2 q3 Xg2 Xhb2 b3
    by_cases hz : checkOf G st = 0
    · have hpl := Xplain.out hz
      rw [hz]
      obtain ⟨q0, q1, q2, q3⟩ := g3.cells
      have Xhz := hide hz
      have Xhpl := hide hpl
      have Xg3 := hide g3
      have Xhb3 := hide hb3
      clear hz hpl g3 hb3
      go_wp2_with fail
      refine (XcL.out _ Xg3.out).mono ?_
      rintro e w4 ⟨b4, h4⟩
      rcases h4 with ⟨h4, -⟩ | ⟨-, S, bz, gz, rfl, hfix, ws, -, -, hgood, -⟩
      · exact absurd Xhz.out h4
      have hpS := Xhpl.out S (by rw [← XhT.out, ← XhN.out]; exact hfix)
      have ctx : ∃ F1, RuCtx w w4 F F1 A1 c1 A2 c2 A3 c3 T N R st G bz gz S := ⟨_, Xg3.out.below b4, Xhb3.out.trans (b4.mono Xhb3.out.size), ws⟩
      obtain ⟨F1, ctx⟩ := ctx
      have hT4 : ∀ (l : List Int) k, (jTo S (l.take k)).2.length ≤ 4096 := fun l k => (jTo_good hgood _).1
      have hone : ∀ s : Int, joinOf S [s] = lookW S s := fun s => join_one S _ hgood s
      clear q0 q1 q2 q3 Xg3 Xhb3 b4 hfix ws hgood
      obtain ⟨q0, q1, q2, q3⟩ := ctx.g.cells
      have Xctx := hide ctx
      have XhpS := hide hpS
      have XhT4 := hide hT4
      have Xhone := hide hone
      clear ctx hpS hT4 hone
      go_wp2_with fail
      go_loopw [4] (fun i wr => ∃ k : Nat, T + 1 ≤ k ∧ k ≤ T + N + 1 ∧ i = .int .i64 k ∧ RuCtx w wr F F1 A1 c1 A2 c2 A3 c3 T N R st G bz gz S) (fun i _ => (T + N + 1) - (intOf i).toNat)
      case atStart => exact ⟨T + 1, Nat.le_refl _, by omega, by go_num, Xctx.out⟩
      case round =>
        clear Xctx q0 q1 q2 q3
        obtain ⟨k, hk0, hk, rfl, t⟩ := hrel
        obtain ⟨q0, q1, q2, q3⟩ := t.g.cells
        have Xt := hide t
        clear t
        go_wp2_with fail
        refine (XhcT.out _ Xt.out.g).mono ?_
        rintro e w5 ⟨rfl, b5⟩
        have t5 := Xt.out.below b5
        clear Xt b5 q0 q1 q2 q3
        by_cases hlt : k ≤ T + N
        · have hlt' : (k : Int) ≤ (T : Int) + (N : Int) := by omega
          have hW := least_word (k : Int) t5.s (fun i => XhT4.out _ i)
          rw [Xhone.out] at hW
          have hend := metUpto_end (S := S) (G := G) (s := k) (XhpS.out.2 k (by omega))
          obtain ⟨x, hx⟩ : ∃ x, x = lookW S (k : Int) := ⟨_, rfl⟩
          have hno := XhpS.out.1
          rw [← hx] at hW hend
          obtain ⟨ox, hox⟩ : ∃ o, o = (x.is && !x.long) := ⟨_, rfl⟩
          have XhW := hide hW
          have Xt5 := hide t5
          have Xhx := hide hx
          have Xhend := hide hend
          have Xhno := hide hno
          have Xhox := hide hox
          clear hW t5 hx hend hno hox
          go_wp2_with fail
          refine XhW.out.mono ?_
          rintro e w6 ⟨A6, n6, c6, he6, hr6, b6⟩
          rw [← Xhox.out] at he6
          subst he6
          have t6 := Xt5.out.below b6
          obtain ⟨hn6, hnc6, hcm6, -⟩ := RdI.at_ hr6
          obtain ⟨q0, q1, q2, q3⟩ := t6.g.cells
          clear XhW Xt5 b6
          have Xhr6 := hide hr6
          have Xt6 := hide t6
          have Xhn6 := hide hn6
          clear hr6 t6 hn6
          go_wp2_with fail
          refine (XcO.out _ Xt6.out.g k).mono ?_
          rintro e w7 ⟨A7, c7, rfl, ho7, b7⟩
          have t7 := Xt6.out.below b7
          have hr7 := Xhr6.out.below b7 (fun k hk => hk.2)
          have hrd : RdI w7 (fun b => b < w7.heap.size) (.slice A7 (ofOf G k).length c7) (ofOf G k) := (Rd.of_own ho7).mono (fun k hk => (ho7.lt k hk).2)
          have hr7' : RdI w7 (fun b => b < w7.heap.size) (.slice A6 n6 c6) x.l := hr7.mono (fun k hk => Nat.lt_of_lt_of_le hk.2 b7.size)
          have hmem : ∀ i ∈ ofOf G (k : Int), ∃ (n : Nat) (r : List Int), i = n ∧ G.rules[n]? = some ((k : Int), r) := fun i hi => of_mem.1 hi
          obtain ⟨ls, hls⟩ : ∃ ls, ls = ofOf G (k : Int) := ⟨_, rfl⟩
          have hll : (ofOf G (k : Int)).length = ls.length := by rw [hls]
          rw [← hls] at hrd hmem Xhend
          rw [hll]
          obtain ⟨hn7, hnc7, hcm7, -⟩ := RdI.at_ hrd
          unfold maxLen at hcm6 hcm7
          obtain ⟨z7, hz7⟩ : ∃ z7, z7 = w7.heap.size := ⟨_, rfl⟩
          have hz7' : z7 ≤ w7.heap.size := by omega
          rw [← hz7] at hrd hr7'
          clear Xt6 Xhr6 b7 hr7 ho7 hz7 q0 q1 q2 q3 hn7
          go_wp2_with fail
          go_loopw [8, 9] (fun met i wr => ∃ j : Nat, j ≤ ls.length ∧ i = .int .i64 j ∧ met = .bool (metUpto S G ls x j) ∧ RuCtx w wr F F1 A1 c1 A2 c2 A3 c3 T N R st G bz gz S ∧ RdI wr (fun b => b < z7) (.slice A7 ls.length c7) ls ∧ RdI wr (fun b => b < z7) (.slice A6 n6 c6) x.l ∧ z7 ≤ wr.heap.size) (fun _ i _ => ls.length - (intOf i).toNat)
          case atStart => exact ⟨0, Nat.zero_le _, rfl, rfl, t7, hrd, hr7', hz7'⟩
          case round =>
            clear t7 hrd hr7' hz7'
            obtain ⟨j, hj, rfl, rfl, t, hrd, hr, hz⟩ := hrel
            by_cases hlj : j < ls.length
            · obtain ⟨-, -, -, hcell⟩ := RdI.at_ hrd
              obtain ⟨b, off, rfl, hbl, hcc⟩ := hcell (by omega)
              obtain ⟨i, hi⟩ : ∃ i, ls[j]? = some i := ⟨_, List.getElem?_eq_getElem hlj⟩
              have hci := hcc j i hi
              have hnext := metUpto_succ (S := S) (G := G) (x := x) hi
              obtain ⟨n, rx, rfl, hrx⟩ := hmem i (List.mem_of_getElem? hi)
              rw [rightOf_nat hrx] at hnext
              have hnb := Xhno.out _ (List.mem_of_getElem? hrx)
              simp only at hnb
              rw [← Xhx.out] at hnb
              have hnR : n < R := by have := (List.getElem?_eq_some_iff.1 hrx).1; rw [XhR.out] at this; exact this
              obtain ⟨q0, q1, q2, q3⟩ := t.g.cells
              obtain ⟨rb, roff, l0, r0, Ar, nr, cr, rfl, hbl3, hx3, h0, h1, hrr, hnr, hnrc, hcrm⟩ := t.g.rule hnR
              rw [hrx] at hx3
              injection hx3 with hx3
              injection hx3 with e1 e2
              subst e1 e2
              have td := t.below ((Below.refl _ _).drew)
              have hL := least_line td.s (show RdI wr.drew F (.slice Ar nr cr) rx from hrr) td.g.gram.lt (fun i => XhT4.out _ i)
              obtain ⟨y, hy⟩ : ∃ y, y = joinOf S rx := ⟨_, rfl⟩
              rw [← hy] at hL hnb hnext
              have r0 := t.g.rs
              have r1 := t.g.rc
              have r2 := t.g.c3m
              have hnR' : (n : Int) < (R : Int) := by omega
              have hlj' : (j : Int) < (ls.length : Int) := by omega
              generalize hmj : metUpto S G ls x j = mj at *
              have Xt := hide t
              have Xtd := hide td
              have Xhrd := hide hrd
              have Xhr := hide hr
              have XhL := hide hL
              have Xhy := hide hy
              have Xhnb := hide hnb
              have Xhnext := hide hnext
              have Xhrx := hide hrx
              have Xhi := hide hi
              have Xhrr := hide hrr
              have Xhnr := hide hnr
              have Xhmem := hide hmem
              clear t td hrd hr hL hy hnb hnext hrx hi hrr hnr hmem
              clear hcell hcc
              have keep : ∀ W, Below wr.drew.heap.size wr.drew W → (W.cell? ⟨w.heap.size, 2, none⟩ = some (.slice (some ⟨rb, roff, none⟩) R c3) ∧ W.cell? ⟨b, off + j, none⟩ = some (.int .i64 n) ∧ W.cell? ⟨rb, roff + n * 2 + 1, none⟩ = some (.slice Ar nr cr)) := fun W h =>
                ⟨(Xtd.out.below h).g.cells.2.2.1, (h.cell (p := ⟨b, off + j, none⟩) (Nat.lt_of_lt_of_le hbl hz)).trans hci, (h.cell (p := ⟨rb, roff + n * 2 + 1, none⟩) hbl3).trans h1⟩
              have Xkeep := hide keep
              clear keep
              go_wp2_with fail
              go_region_held3 (fun w' => w'.cell? ⟨w.heap.size, 2, none⟩ = some (.slice (some ⟨rb, roff, none⟩) R c3) ∧ w'.cell? ⟨b, off + j, none⟩ = some (.int .i64 n) ∧ w'.cell? ⟨rb, roff + n * 2 + 1, none⟩ = some (.slice Ar nr cr))
                (first | go_keep | assumption)
                ((go_at_call 48; (with_reducible refine XhL.out.mono ?_); rintro e w9 ⟨A9, n9, c9, rfl, hr9, b9⟩; have k9 := Xkeep.out _ b9))
              have t9 := Xtd.out.below b9
              have hrd9 := (show RdI wr.drew _ _ _ from Xhrd.out).below b9 (fun k hk => Nat.lt_of_lt_of_le hk hz)
              have hrx9 := (show RdI wr.drew _ _ _ from Xhr.out).below b9 (fun k hk => Nat.lt_of_lt_of_le hk hz)
              have hz9 : z7 ≤ w9.heap.size := Nat.le_trans hz b9.size
              have hr9' : RdI w9 (fun b => b < w9.heap.size) (.slice A9 n9 c9) y.l := hr9.mono (fun k hk => hk.2)
              obtain ⟨hny, hnyc, hcy, -⟩ := RdI.at_ hr9
              unfold maxLen at hcy
              have hnx := Xhn6.out
              have ctx9 : ∀ W, Below w9.heap.size w9 W → RuCtx w W F F1 A1 c1 A2 c2 (some ⟨rb, roff, none⟩) c3 T N R st G bz gz S ∧ RdI W (fun b => b < z7) (.slice (some ⟨b, off, none⟩) ls.length c7) ls ∧ RdI W (fun b => b < z7) (.slice A6 n6 c6) x.l ∧ z7 ≤ W.heap.size := fun W h =>
                ⟨t9.below h, hrd9.below h (fun k hk => Nat.lt_of_lt_of_le hk hz9), hrx9.below h (fun k hk => Nat.lt_of_lt_of_le hk hz9), Nat.le_trans hz9 h.size⟩
              clear q0 q1 q2 q3 k9 XhL Xkeep hci h0 h1 b9 r0 r1 r2 t9 hrd9 hr9
              cases hok : okW y with
              | false =>
                have hn : metUpto S G ls x (j + 1) = mj := by rw [Xhnext.out, hok]; simp
                have hiy : (y.is && !y.long) = false := hok
                rw [hiy]
                have hc9 := ctx9 w9 (Below.refl _ _)
                have Xhn := hide hn
                have Xhc9 := hide hc9
                have Xhok := hide hok
                have Xhiy := hide hiy
                have Xhny := hide hny
                have Xhnx := hide hnx
                have Xhrx9 := hide hrx9
                have Xhr9' := hide hr9'
                have Xctx9 := hide ctx9
                clear hn hc9 hok hiy hny hnx hrx9 hr9' ctx9
                cases mj with
                | true =>
                  go_wp2_with fail
                  go_roundw
                  case rel => exact ⟨j + 1, by omega, by go_num, by rw [Xhn.out], Xhc9.out⟩
                  case measure => simp [intOf]; omega
                | false =>
                  go_wp2_with fail
                  go_roundw
                  case rel => exact ⟨j + 1, by omega, by go_num, by rw [Xhn.out], Xhc9.out⟩
                  case measure => simp [intOf]; omega
              | true =>
                obtain ⟨hxk, hnl, hnb2⟩ := rule_not_less Xhnb.out hok
                have hn : metUpto S G ls x (j + 1) = (mj || decide (x.l = y.l)) := by rw [Xhnext.out, hok, hxk]; simp
                have hiy : (y.is && !y.long) = true := hok
                have hix : ox = true := Xhox.out.trans hxk
                subst hix
                rw [hiy]
                have hnl' : ¬ ((n9 : Int) < (n6 : Int)) := by omega
                by_cases heq : n9 = n6
                · subst heq
                  have hbf := law_before hr9' hrx9 (by omega)
                  rw [hnb2 (by omega)] at hbf
                  have Xhn := hide hn
                  have Xhok := hide hok
                  have Xhiy := hide hiy
                  have Xhny := hide hny
                  have Xhnx := hide hnx
                  have Xhrx9 := hide hrx9
                  have Xhr9' := hide hr9'
                  have Xctx9 := hide ctx9
                  have Xhbf := hide hbf
                  have Xhnb2 := hide hnb2
                  have Xhnl := hide hnl
                  have Xhxk := hide hxk
                  clear hn hok hiy hny hnx hrx9 hr9' ctx9 hbf hnb2 hnl hxk
                  go_wp2_with fail
                  with_reducible refine Xhbf.out.mono ?_
                  rintro e wA ⟨rfl, bA⟩
                  have hcA := Xctx9.out wA bA
                  have hI := ref_ints3 hcA.2.2.1 (Xhr9'.out.below bA (fun k hk => hk))
                  have hcB : ∀ W, Below wA.heap.size wA W → _ := fun W h => Xctx9.out W (bA.trans (h.mono bA.size))
                  clear Xctx9 bA Xhbf Xhr9' Xhrx9
                  generalize decide (x.l = y.l) = dq at *
                  have XhcA := hide hcA
                  have XhI := hide hI
                  have XhcB := hide hcB
                  clear hcA hI hcB
                  cases mj with
                  | true =>
                    go_wp2_with fail
                    go_roundw
                    case rel => exact ⟨j + 1, by omega, by go_num, by rw [Xhn.out]; rfl, XhcA.out⟩
                    case measure => simp [intOf]; omega
                  | false =>
                    go_wp2_with fail
                    with_reducible refine XhI.out.mono ?_
                    rintro e wB ⟨rfl, bB⟩
                    have hcC := XhcB.out wB bB
                    clear XhcB bB
                    have XhcC := hide hcC
                    clear hcC
                    go_wp2_with fail
                    go_roundw
                    case rel => exact ⟨j + 1, by omega, by go_num, by rw [Xhn.out]; rfl, XhcC.out⟩
                    case measure => simp [intOf]; omega
                · have heq' : ¬ ((n9 : Int) = (n6 : Int)) := by omega
                  have hcA := ctx9 w9 (Below.refl _ _)
                  have hI := ref_ints3 hrx9 hr9'
                  have hcB := ctx9
                  have Xhn := hide hn
                  have Xhok := hide hok
                  have Xhiy := hide hiy
                  have Xhny := hide hny
                  have Xhnx := hide hnx
                  have Xhrx9 := hide hrx9
                  have Xhr9' := hide hr9'
                  have Xctx9 := hide ctx9
                  have Xhnb2 := hide hnb2
                  have Xhnl := hide hnl
                  have Xhxk := hide hxk
                  clear hn hok hiy hny hnx hrx9 hr9' ctx9 hnb2 hnl hxk
                  generalize decide (x.l = y.l) = dq at *
                  have XhcA := hide hcA
                  have XhI := hide hI
                  have XhcB := hide hcB
                  clear hcA hI hcB
                  cases mj with
                  | true =>
                    go_wp2_with fail
                    go_roundw
                    case rel => exact ⟨j + 1, by omega, by go_num, by rw [Xhn.out]; rfl, XhcA.out⟩
                    case measure => simp [intOf]; omega
                  | false =>
                    go_wp2_with fail
                    with_reducible refine XhI.out.mono ?_
                    rintro e wB ⟨rfl, bB⟩
                    have hcC := XhcB.out wB bB
                    clear XhcB bB
                    have XhcC := hide hcC
                    clear hcC
                    go_wp2_with fail
                    go_roundw
                    case rel => exact ⟨j + 1, by omega, by go_num, by rw [Xhn.out]; rfl, XhcC.out⟩
                    case measure => simp [intOf]; omega
            · have hje : j = ls.length := by omega
              subst hje
              rw [Xhend.out, show okW x = ox from Xhox.out.symm]
              have Xt := hide t
              have Xhrd := hide hrd
              have Xhr := hide hr
              clear t hrd hr
              clear Xhend
              go_wp2_with fail
              go_roundw
              case rel => exact ⟨k + 1, by omega, by omega, by go_num, Xt.out⟩
              case measure => simp [intOf]; omega
        · have hlt' : ¬ (k : Int) ≤ (T : Int) + (N : Int) := by omega
          have Xt5 := hide t5
          clear t5
          go_wp2_with fail
          refine (law10_awake _).mono ?_
          rintro e w10 ⟨rfl, b10⟩
          go_wp2_with fail
          go_ret
          exact ⟨rfl, (Xt5.out.below b10).b⟩
    · have hcn : (checkOf G st != 0) = true := by simpa using hz
      generalize checkOf G st = ck at *
      have hb2 := hb3
      have Xhb2 := hide hb2
      have Xhb3 := hide hb3
      have Xg3 := hide g3
      have Xhz := hide hz
      clear hb2 hb3 g3 hz
      go_wp2_with fail
      refine (law10_awake _).mono ?_
      rintro e w3 ⟨rfl, b3⟩
      go_wp2_with fail
      go_ret
      exact ⟨rfl, Xhb2.out.trans (b3.mono Xhb2.out.size)⟩
end Go.Proofs.Ytejjaabkbkkjlaa

/- conchref09: Productive. -/
import Derived.Test.YtejjaabkbkkjlaaLiveR2
namespace Go.Proofs.Ytejjaabkbkkjlaa
set_option linter.unusedVariables false
open Go.RowKit
attribute [local irreducible] wpStill wpOne wpPh

theorem SSt.rd {w wr : World} {F : Nat → Prop} {A1 : Option Addr} {c1 : Nat} {A2 : Option Addr} {c2 : Nat} {A3 : Option Addr} {c3 T N R : Nat} {st : Int} {G : GramD} {F1 : Nat → Prop} {vl : Value} {l : List Int} {A : Option Addr} {m c : Nat} {o : List Int} (h : SSt w wr F A1 c1 A2 c2 A3 c3 T N R st G F1 vl l A m c o) : RdI wr (fun k => k < wr.heap.size) (.slice A m c) o :=
  (Rd.of_own h.o).mono (fun k hk => (h.o.lt k hk).2)
theorem IntsPost.later {w w0 w' : World} {l : List Int} {e : Ending} (h : IntsPost w0 l e w') (hb : Below w.heap.size w w0) : IntsPost w l e w' := by
  obtain ⟨A, n, c, e1, e2, e3⟩ := h
  exact ⟨A, n, c, e1, e2.mono fun k hk => ⟨Nat.le_trans hb.size hk.1, hk.2⟩, hb.trans (e3.mono hb.size)⟩

set_option maxRecDepth 100000 in
set_option maxHeartbeats 8000000 in
theorem ref_productives {w : World} {F : Nat → Prop} {vt vn vr : Value} {G : GramD} (h : IsGram w F vt vn vr G) (st : Int) :
    Calls Try.prog 57 #[GV vt vn vr st] w (IntsPost w (productiveOf G st)) := by
  obtain ⟨A1, c1, A2, c2, A3, c3, rfl, rfl, rfl, -⟩ := h.slices
  obtain ⟨w1, hw1⟩ : ∃ w1, w1 = w.alloc (.cells #[.slice A1 G.terms.length c1, .slice A2 G.nons.length c2, .slice A3 G.rules.length c3, .int .i64 st] 25) := ⟨_, rfl⟩
  have g1 := GBox.new h st
  have b1 : Below w.heap.size w w1 := by rw [hw1]; exact (Below.refl _ w).alloc (Nat.le_refl _) _
  rw [← hw1] at g1
  have cc := ref_check g1.gram st
  have hdef : productiveOf G st = if checkOf G st = 0 then prdL G else [] := rfl
  have hF := h.lt
  obtain ⟨q0, q1, q2, q3⟩ := g1.cells
  rw [hw1] at cc q0 q1 q2 q3
  by_cases hz : checkOf G st = 0
  · rw [hz] at cc
    rw [if_pos hz] at hdef
    rw [hdef]
    have hk := Kn.of_check hz
    have t0 := hk.t
    have t1 := hk.n
    have hpl := fun (l : List Int) hs hc => prdL_of hk (l := l) hs hc
    have csort := fun wr (g : GBox wr F w.heap.size A1 c1 A2 c2 A3 c3 G.terms.length G.nons.length G.rules.length st G) (F1 : Nat → Prop) (vl : Value) (l : List Int) (hl : RdI wr F1 vl l) hF1 => ref_sort g.gram st hl hF1 t0 t1
    generalize hT : G.terms.length = T at *
    generalize hN : G.nons.length = N at *
    generalize hR : G.rules.length = R at *
    obtain ⟨n, hn⟩ : ∃ n, n = T + N + 1 := ⟨_, rfl⟩
    have hu0 : unset (memF []) n ≤ n := by unfold unset; exact Nat.le_trans (List.length_filter_le _ _) (by simp)
    have hn2 : n ≤ 241 := by omega
    clear h
    have Xcc := hide cc
    have Xg1 := hide g1
    have Xb1 := hide b1
    have XhT := hide hT
    have XhN := hide hN
    have XhR := hide hR
    have Xhz := hide hz
    have Xhdef := hide hdef
    have Xhk := hide hk
    have XhF := hide hF
    have Xhpl := hide hpl
    have Xcsort := hide csort
    have Xhn := hide hn
    have Xhu0 := hide hu0
    clear cc g1 b1 hT hN hR hz hdef hk hF hpl csort hn hu0
    go_enter Try.func57, Try.ntmps57
    go_wp2_with fail
    with_reducible refine Xcc.out.mono ?_
    rintro e w2 ⟨rfl, b2⟩
    rw [← hw1] at b2
    have g2 := Xg1.out.below b2
    have hb2 := Xb1.out.trans (b2.mono Xb1.out.size)
    have s2 : SSt w w2 F A1 c1 A2 c2 A3 c3 T N R st G (fun _ => False) (.slice none 0 0) [] none 0 0 [] := ⟨g2, Rd.nil _ _ _, World.ownsRow_nil _ _ _ _, hb2, XhF.out, fun k hk => hk.elim⟩
    clear hw1 q0 q1 q2 q3 Xcc Xg1 Xb1 b2 g2 hb2
    have Xs2 := hide s2
    clear s2
    go_wp2_with fail
    go_loopg [3, 4] (2 * unset (memF []) n + 1) (fun κ v nv wr => ∃ (l : List Int) (A : Option Addr) (m c : Nat) (nn : Int), v = .slice A m c ∧ nv = .int .i64 nn ∧ SSt w wr F A1 c1 A2 c2 A3 c3 T N R st G (fun _ => False) (.slice none 0 0) [] A m c l ∧ (∀ s ∈ l, PrdG G s) ∧ (nn = (m : Int) → ∀ r ∈ G.rules, fineB G (memB l) r.2 = true → r.1 ∈ l) ∧ (nn ≠ (m : Int) → 2 * unset (memF l) n + 1 ≤ κ) ∧ m + unset (memF l) n ≤ n)
    case atStart => exact ⟨[], none, 0, 0, -1, rfl, rfl, Xs2.out, fun s hs => absurd hs (by simp), fun h => (by cases h), fun _ => Nat.le_refl _, by have := Xhu0.out; omega⟩
    case round =>
      clear Xs2
      obtain ⟨l, A, m, c, nn, rfl, rfl, s, hsd, hm1, hm2, hmu⟩ := hrel
      by_cases hnm : nn = (m : Int)
      · subst hnm
        have hcl := hm1 rfl
        have hl := Xhpl.out l hsd hcl
        have cs := Xcsort.out wr s.g _ _ _ s.rd (fun k hk => hk)
        rw [hl] at cs
        obtain ⟨q0, q1, q2, q3⟩ := s.g.cells
        clear hm1 hm2
        have hbw := s.b
        have Xs := hide s
        have Xhsd := hide hsd
        have Xhcl := hide hcl
        have Xhl := hide hl
        have Xcs := hide cs
        have Xhmu := hide hmu
        have Xhbw := hide hbw
        clear s hsd hcl hl cs hmu hbw
        go_wp2_with fail
        with_reducible refine Xcs.out.mono ?_
        intro e w5 h5
        have fin := h5.later Xhbw.out
        obtain ⟨A5, n5, c5, rfl, -, -⟩ := h5
        generalize prdL G = pl at *
        have Xfin := hide fin
        clear fin
        go_wp2_with fail
        go_ret
        exact Xfin.out
      · have hκ := hm2 hnm
        have hnm' : (nn != (m : Int)) = true := by simpa using hnm
        obtain ⟨q0, q1, q2, q3⟩ := s.g.cells
        clear hm1 hm2
        have hmn : m ≤ n := by omega
        have Xs := hide s
        have Xhsd := hide hsd
        have Xhκ := hide hκ
        have Xhmu := hide hmu
        clear s hsd hκ hmu
        go_wp2_with fail
        clear q0 q1 q2 q3
        go_loopw [3, 5] (fun v i wr => ∃ (q : Nat) (l' : List Int) (A : Option Addr) (m' c : Nat), q ≤ R ∧ i = .int .i64 q ∧ v = .slice A m' c ∧ SSt w wr F A1 c1 A2 c2 A3 c3 T N R st G (fun _ => False) (.slice none 0 0) [] A m' c l' ∧ (∀ s ∈ l', PrdG G s) ∧ m ≤ m' ∧ (m' = m → l' = l ∧ ∀ (j : Nat) (r : Int × List Int), j < q → G.rules[j]? = some r → fineB G (memB l) r.2 = true → r.1 ∈ l) ∧ (m < m' → unset (memF l') n < unset (memF l) n) ∧ m' + unset (memF l') n ≤ n) (fun _ i _ => R - (intOf i).toNat)
        case atStart => exact ⟨0, l, A, m, c, Nat.zero_le _, rfl, rfl, Xs.out, Xhsd.out, Nat.le_refl _, fun _ => ⟨rfl, fun j r hj => absurd hj (by omega)⟩, fun h => absurd h (by omega), Xhmu.out⟩
        case round =>
          clear Xs Xhsd Xhmu
          obtain ⟨q, l', A, m', c, hq, rfl, rfl, s, hsd, hmm, hm1, hm2, hmu⟩ := hrel
          have r0 := s.g.rs
          have r1 := s.g.rc
          have r2 := s.g.c3m
          obtain ⟨q0, q1, q2, q3⟩ := s.g.cells
          by_cases hqR : q < R
          · obtain ⟨bb, off, l0, x, Ax, nx, cx, rfl, hbl, hx, h0, h1, hr, hnx, hnc, hcm⟩ := s.g.rule hqR
            have hq' : (q : Int) < (R : Int) := by omega
            have sd := s.below ((Below.refl _ wr).drew)
            have hrd := (show RdI wr.drew F (.slice Ax nx cx) x from hr)
            have ch := ref_has sd.rd l0
            have cf := ref_fine sd.g.gram st sd.rd (fun k hk => hk) l0 hrd sd.g.gram.lt
            have hno : ∀ (r : Int × List Int), G.rules[q]? = some r → r = (l0, x) := fun r h => by rw [hx] at h; injection h with h; exact h.symm
            have hkl := (Xhk.out.k _ (List.mem_of_getElem? hx)).1
            simp only [isNon_iff, XhT.out, XhN.out] at hkl
            clear hnx
            by_cases hin : l0 ∈ l'
            · rw [decide_eq_true hin] at ch
              have hm1' : m' = m → l' = l ∧ ∀ (j : Nat) (r : Int × List Int), j < q + 1 → G.rules[j]? = some r → fineB G (memB l) r.2 = true → r.1 ∈ l := fun e => by
                obtain ⟨e1, e2⟩ := hm1 e
                refine ⟨e1, fun j r hj hjr hfr => ?_⟩
                by_cases ej : j = q
                · subst ej; rw [hno r hjr, ← e1]; exact hin
                · exact e2 j r (by omega) hjr hfr
              have Xs := hide s
              have Xsd := hide sd
              have Xhrd := hide hrd
              have Xch := hide ch
              have Xcf := hide cf
              have Xhno := hide hno
              have Xhkl := hide hkl
              have Xhin := hide hin
              have Xhm1 := hide hm1
              have Xhm2 := hide hm2
              have Xhmu := hide hmu
              have Xhsd := hide hsd
              have Xhx := hide hx
              have Xhr := hide hr
              have Xhm1' := hide hm1'
              clear s sd hrd ch cf hno hkl hin hm1 hm2 hmu hsd hx hr hm1'
              go_wp2_with fail
              refine region_phases [7, 9] (by kernel_rfl) (by kernel_rfl) ?_
              refine wpPh_cons _ _ ?_
              simp only [List.take_succ_cons, List.take_zero, List.drop_succ_cons, List.drop_zero]
              iterate 7 still_step
              refine wpStill_nil ?_
              refine wpOne_list ?_
              go_wp2_with fail
              with_reducible refine Xch.out.mono ?_
              rintro e w6 ⟨rfl, rfl⟩
              go_wp2_with fail
              refine wpPh_cons _ _ ?_
              simp only [List.take_succ_cons, List.take_zero, List.drop_succ_cons, List.drop_zero]
              iterate 9 still_step
              refine wpStill_nil ?_
              refine wpOne_list ?_
              go_wp2_with fail
              go_wp2_with fail
              refine wpPh_nil ?_
              go_wp2_with fail
              go_roundw
              case rel => exact ⟨q + 1, l', A, m', c, by omega, by go_num, rfl, Xsd.out, Xhsd.out, hmm, Xhm1'.out, Xhm2.out, Xhmu.out⟩
              case measure => simp [intOf]; omega
            · rw [decide_eq_false hin] at ch
              cases hf : fineB G (memB l') x with
              | false =>
                rw [hf] at cf
                have hm1' : m' = m → l' = l ∧ ∀ (j : Nat) (r : Int × List Int), j < q + 1 → G.rules[j]? = some r → fineB G (memB l) r.2 = true → r.1 ∈ l := fun e => by
                  obtain ⟨e1, e2⟩ := hm1 e
                  refine ⟨e1, fun j r hj hjr hfr => ?_⟩
                  by_cases ej : j = q
                  · subst ej; rw [hno r hjr, ← e1, hf] at hfr; cases hfr
                  · exact e2 j r (by omega) hjr hfr
                have Xs := hide s
                have Xsd := hide sd
                have Xhrd := hide hrd
                have Xch := hide ch
                have Xcf := hide cf
                have Xhno := hide hno
                have Xhkl := hide hkl
                have Xhin := hide hin
                have Xhm1 := hide hm1
                have Xhm2 := hide hm2
                have Xhmu := hide hmu
                have Xhsd := hide hsd
                have Xhx := hide hx
                have Xhr := hide hr
                have Xhm1' := hide hm1'
                have Xhf := hide hf
                clear s sd hrd ch cf hno hkl hin hm1 hm2 hmu hsd hx hr hm1' hf
                go_wp2_with fail
                refine region_phases [7, 9] (by kernel_rfl) (by kernel_rfl) ?_
                refine wpPh_cons _ _ ?_
                simp only [List.take_succ_cons, List.take_zero, List.drop_succ_cons, List.drop_zero]
                iterate 7 still_step
                refine wpStill_nil ?_
                refine wpOne_list ?_
                go_wp2_with fail
                with_reducible refine Xch.out.mono ?_
                rintro e w6 ⟨rfl, rfl⟩
                go_wp2_with fail
                refine wpPh_cons _ _ ?_
                simp only [List.take_succ_cons, List.take_zero, List.drop_succ_cons, List.drop_zero]
                iterate 9 still_step
                refine wpStill_nil ?_
                refine wpOne_list ?_
                go_wp2_with fail
                with_reducible refine Xcf.out.mono ?_
                rintro e w7 ⟨rfl, b7⟩
                have s7 := Xsd.out.below b7
                clear b7 q0 q1 q2 q3 h0 h1
                have Xs7 := hide s7
                clear s7
                go_wp2_with fail
                refine wpPh_nil ?_
                go_wp2_with fail
                go_roundw
                case rel => exact ⟨q + 1, l', A, m', c, by omega, by go_num, rfl, Xs7.out, Xhsd.out, hmm, Xhm1'.out, Xhm2.out, Xhmu.out⟩
                case measure => simp [intOf]; omega
              | true =>
                rw [hf] at cf
                have hun := unset_mem (n := n) (by omega) (by have := Xhn.out; omega) hin
                have hsd2 : ∀ s ∈ l' ++ [l0], PrdG G s := fun s hs => by
                  rcases List.mem_append.1 hs with hs | hs
                  · exact hsd s hs
                  · rw [List.mem_singleton.1 hs]
                    exact prd_sound (p := memB l') (fun s hs => hsd s (of_decide_eq_true hs)) (List.mem_of_getElem? hx) hf
                have hle : unset (memF l') n ≤ unset (memF l) n := by
                  rcases Nat.eq_or_lt_of_le hmm with e | e
                  · rw [(hm1 e.symm).1]; exact Nat.le_refl _
                  · exact Nat.le_of_lt (hm2 e)
                have hm2' : unset (memF (l' ++ [l0])) n < unset (memF l) n := by omega
                have hmu' : m' + 1 + unset (memF (l' ++ [l0])) n ≤ n := by omega
                have hmb : m' ≤ 241 := by omega
                have Xs := hide s
                have Xsd := hide sd
                have Xhrd := hide hrd
                have Xch := hide ch
                have Xcf := hide cf
                have Xhno := hide hno
                have Xhkl := hide hkl
                have Xhin := hide hin
                have Xhm1 := hide hm1
                have Xhm2 := hide hm2
                have Xhmu := hide hmu
                have Xhsd := hide hsd
                have Xhx := hide hx
                have Xhr := hide hr
                have Xhf := hide hf
                have Xhun := hide hun
                have Xhsd2 := hide hsd2
                have Xhle := hide hle
                have Xhm2' := hide hm2'
                have Xhmu' := hide hmu'
                clear s sd hrd ch cf hno hkl hin hm1 hm2 hmu hsd hx hr hf hun hsd2 hle hm2' hmu'
                go_wp2_with fail
                refine region_phases [7, 9] (by kernel_rfl) (by kernel_rfl) ?_
                refine wpPh_cons _ _ ?_
                simp only [List.take_succ_cons, List.take_zero, List.drop_succ_cons, List.drop_zero]
                iterate 7 still_step
                refine wpStill_nil ?_
                refine wpOne_list ?_
                go_wp2_with fail
                with_reducible refine Xch.out.mono ?_
                rintro e w6 ⟨rfl, rfl⟩
                go_wp2_with fail
                refine wpPh_cons _ _ ?_
                simp only [List.take_succ_cons, List.take_zero, List.drop_succ_cons, List.drop_zero]
                iterate 9 still_step
                refine wpStill_nil ?_
                refine wpOne_list ?_
                go_wp2_with fail
                with_reducible refine Xcf.out.mono ?_
                rintro e w7 ⟨rfl, b7⟩
                have s7 := Xsd.out.below b7
                have h07 : w7.cell? ⟨bb, off + q * 2, none⟩ = some (.int .i64 l0) := (b7.cell (p := ⟨bb, off + q * 2, none⟩) hbl).trans h0
                clear q0 q1 q2 q3 h0 h1 b7
                obtain ⟨q0, q1, q2, q3⟩ := s7.g.cells
                have s8 := s7.below ((Below.refl _ w7).alloc (Nat.le_refl _) (.cells #[I64 l0] 3))
                have ho8 := s8.o
                have r8 : Rd (w7.alloc (.cells #[I64 l0] 3)) (fun _ => True) (.slice (some ⟨w7.heap.size, 0, none⟩) 1 1) 1 [I64 l0] := Rd.one (w := w7) (e := 3) [I64 l0] 1 rfl
                have hz8 : w.heap.size + 1 ≤ (w7.alloc (.cells #[I64 l0] 3)).heap.size := by have := s7.g.blk.lt; simp; omega
                have Xs7 := hide s7
                have Xs8 := hide s8
                clear s7 s8
                go_wp2_with fail
                refine wpPh_nil ?_
                go_wp2_with (at_builtin; refine wp_append _ rfl (.tmp 41) (.tmp 48) _ rfl Try.elemInt (w.heap.size + 1) _ m' (l'.map I64) rfl ho8 _ _ [I64 l0] 1 rfl rfl r8 (by simp [Value.oneCell']) (by unfold maxLen; omega) (by omega) hz8 ?_)
                intro A9 c9 w9 h9 g9 _
                have s9 := Xs8.out.push g9 h9
                clear ho8 r8 h9 g9 Xs8 Xs7
                have Xs9 := hide s9
                clear s9
                go_wp2_with fail
                go_roundw
                case rel => exact ⟨q + 1, l' ++ [l0], A9, m' + 1, c9, by omega, by go_num, rfl, Xs9.out, Xhsd2.out, by omega, fun h => absurd h (by omega), fun _ => Xhm2'.out, Xhmu'.out⟩
                case measure => simp [intOf]; omega
          · have hqR : q = R := by omega
            have hlt' : ¬ (q : Int) < (R : Int) := by omega
            subst hqR
            by_cases hme : m' = m
            · obtain ⟨e1, e2⟩ := hm1 hme
              subst e1
              have hcl : ∀ r ∈ G.rules, fineB G (memB l') r.2 = true → r.1 ∈ l' := fun r hr => by
                obtain ⟨j, hj, e⟩ := List.getElem_of_mem hr
                exact e2 j r (by rw [XhR.out] at hj; exact hj) (by rw [List.getElem?_eq_getElem hj, e])
              clear hm1 hm2 e2
              subst hme
              have Xhcl := hide hcl
              have Xs := hide s
              have Xhsd := hide hsd
              have Xhmu := hide hmu
              clear hcl s hsd hmu
              go_wp2_with fail
              go_roundg 0
              case measure => have := Xhκ.out; omega
              case rel => exact ⟨l', A, m', c, _, rfl, rfl, Xs.out, Xhsd.out, fun _ => Xhcl.out, fun h => absurd rfl h, Xhmu.out⟩
            · have hu := hm2 (by omega)
              clear hm1 hm2
              have hm : 2 * unset (memF l') n + 1 < gk := by have := Xhκ.out; omega
              have hne : ¬ ((m : Int) = (m' : Int)) := by omega
              have Xs := hide s
              have Xhsd := hide hsd
              have Xhu := hide hu
              have Xhm := hide hm
              have Xhmu := hide hmu
              have Xhne := hide hne
              clear s hsd hu hm hmu hne
              go_wp2_with fail
              go_roundg (2 * unset (memF l') n + 1)
              case measure => exact Xhm.out
              case rel => exact ⟨l', A, m', c, _, rfl, rfl, Xs.out, Xhsd.out, fun h => absurd h Xhne.out, fun _ => Nat.le_refl _, Xhmu.out⟩
  · rw [if_neg hz] at hdef
    rw [hdef]
    have hcn : (checkOf G st != 0) = true := by simpa using hz
    generalize checkOf G st = ck at *
    generalize hT : G.terms.length = T at *
    generalize hN : G.nons.length = N at *
    generalize hR : G.rules.length = R at *
    clear h
    have Xcc := hide cc
    have Xg1 := hide g1
    have Xb1 := hide b1
    have XhT := hide hT
    have XhN := hide hN
    have XhR := hide hR
    have Xhz := hide hz
    have Xhdef := hide hdef
    have XhF := hide hF
    clear cc g1 b1 hT hN hR hz hdef hF
    go_enter Try.func57, Try.ntmps57
    go_wp2_with fail
    with_reducible refine Xcc.out.mono ?_
    rintro e w2 ⟨rfl, b2⟩
    rw [← hw1] at b2
    have hb2 := Xb1.out.trans (b2.mono Xb1.out.size)
    clear hw1 q0 q1 q2 q3 Xcc Xg1 b2
    have Xhb2 := hide hb2
    clear hb2
    go_wp2_with fail
    go_ret
    exact ⟨none, 0, 0, rfl, Rd.nil _ _ _, Xhb2.out⟩
end Go.Proofs.Ytejjaabkbkkjlaa

/- conchref09: from, Reached. -/
import Derived.Test.YtejjaabkbkkjlaaLiveR3
namespace Go.Proofs.Ytejjaabkbkkjlaa
set_option linter.unusedVariables false
open Go.RowKit
attribute [local irreducible] wpStill wpOne wpPh

set_option maxRecDepth 100000 in
set_option maxHeartbeats 8000000 in
theorem ref_from {w : World} {F : Nat → Prop} {vt vn vr : Value} {G : GramD} (h : IsGram w F vt vn vr G) (st : Int) (hk : Kn G st) :
    Calls Try.prog 110 #[GV vt vn vr st] w (IntsPost w (rchL G st)) := by
  obtain ⟨A1, c1, A2, c2, A3, c3, rfl, rfl, rfl, -⟩ := h.slices
  obtain ⟨w1, hw1⟩ : ∃ w1, w1 = w.alloc (.cells #[.slice A1 G.terms.length c1, .slice A2 G.nons.length c2, .slice A3 G.rules.length c3, .int .i64 st] 25) := ⟨_, rfl⟩
  have g1 := GBox.new h st
  have b1 : Below w.heap.size w w1 := by rw [hw1]; exact (Below.refl _ w).alloc (Nat.le_refl _) _
  have z1 : w1.heap.size = w.heap.size + 1 := by rw [hw1]; simp
  rw [← hw1] at g1
  have hF := h.lt
  have t0 := hk.t
  have t1 := hk.n
  have hpl := fun (l : List Int) hs h0 hc => rchL_of hk (l := l) hs h0 hc
  have hkst := hk.st
  rw [isNon_iff] at hkst
  have csort := fun wr (g : GBox wr F w.heap.size A1 c1 A2 c2 A3 c3 G.terms.length G.nons.length G.rules.length st G) (F1 : Nat → Prop) (vl : Value) (l : List Int) (hl : RdI wr F1 vl l) hF1 => ref_sort g.gram st hl hF1 t0 t1
  generalize hT : G.terms.length = T at *
  generalize hN : G.nons.length = N at *
  generalize hR : G.rules.length = R at *
  obtain ⟨n, hn⟩ : ∃ n, n = T + N + 1 := ⟨_, rfl⟩
  have hu0 : 1 + unset (memF [st]) n ≤ n := by
    have h1 := unset_mem (l := []) (x := st) (n := n) (by omega) (by omega) (by simp)
    have h2 : unset (memF []) n ≤ n := by unfold unset; exact Nat.le_trans (List.length_filter_le _ _) (by simp)
    rw [List.nil_append] at h1
    omega
  have hn2 : n ≤ 241 := by omega
  obtain ⟨q0, q1, q2, q3⟩ := g1.cells
  have b2 : Below w1.heap.size w1 (w1.alloc (.cells #[I64 st] 3)) := (Below.refl _ _).alloc (Nat.le_refl _) _
  have s2 : SSt w (w1.alloc (.cells #[I64 st] 3)) F A1 c1 A2 c2 A3 c3 T N R st G (fun _ => False) (.slice none 0 0) [] (some ⟨w1.heap.size, 0, none⟩) 1 1 [st] :=
    ⟨g1.below b2, Rd.nil _ _ _, ⟨rfl, .inr ⟨w1.heap.size, 1, #[I64 st], rfl, by omega, Blk.new w1 _ _, Nat.le_refl _, by decide, rfl, rfl⟩⟩, b1.trans (b2.mono b1.size), hF, fun k hk => hk.elim⟩
  rw [z1] at s2
  rw [hw1] at s2 q0 q1 q2 q3
  clear h b2 g1 b1 z1 hw1
  have XhT := hide hT
  have XhN := hide hN
  have XhR := hide hR
  have Xhk := hide hk
  have XhF := hide hF
  have Xhpl := hide hpl
  have Xcsort := hide csort
  have Xhn := hide hn
  have Xhu0 := hide hu0
  have Xs2 := hide s2
  clear hT hN hR hk hF hpl csort hn hu0 s2
  go_enter Try.func110, Try.ntmps110
  go_wp2_with fail
  clear q0 q1 q2 q3
  go_loopg [3, 4] (2 * unset (memF [st]) n + 1) (fun κ v nv wr => ∃ (l : List Int) (A : Option Addr) (m c : Nat) (nn : Int), v = .slice A m c ∧ nv = .int .i64 nn ∧ SSt w wr F A1 c1 A2 c2 A3 c3 T N R st G (fun _ => False) (.slice none 0 0) [] A m c l ∧ (∀ s ∈ l, Rch G.rules st s) ∧ st ∈ l ∧ (nn = (m : Int) → ∀ r ∈ G.rules, r.1 ∈ l → ∀ x ∈ r.2, x ∈ l) ∧ (nn ≠ (m : Int) → 2 * unset (memF l) n + 1 ≤ κ) ∧ m + unset (memF l) n ≤ n)
  case atStart => exact ⟨[st], _, 1, 1, 0, rfl, rfl, Xs2.out, fun s hs => by rw [List.mem_singleton.1 hs]; exact Rch.start, by simp, fun h => (by cases h), fun _ => Nat.le_refl _, Xhu0.out⟩
  case round =>
    clear Xs2 Xhu0
    obtain ⟨l, A, m, c, nn, rfl, rfl, s, hsd, hst, hm1, hm2, hmu⟩ := hrel
    by_cases hnm : nn = (m : Int)
    · subst hnm
      have hcl := hm1 rfl
      have hl := Xhpl.out l hsd hst hcl
      have cs := Xcsort.out wr s.g _ _ _ s.rd (fun k hk => hk)
      rw [hl] at cs
      obtain ⟨q0, q1, q2, q3⟩ := s.g.cells
      clear hm1 hm2
      have hbw := s.b
      have Xs := hide s
      have Xhsd := hide hsd
      have Xhcl := hide hcl
      have Xhl := hide hl
      have Xcs := hide cs
      have Xhmu := hide hmu
      have Xhbw := hide hbw
      have Xhst := hide hst
      clear s hsd hcl hl cs hmu hbw hst
      go_wp2_with fail
      with_reducible refine Xcs.out.mono ?_
      intro e w5 h5
      have fin := h5.later Xhbw.out
      obtain ⟨A5, n5, c5, rfl, -, -⟩ := h5
      generalize rchL G st = pl at *
      have Xfin := hide fin
      clear fin
      go_wp2_with fail
      go_ret
      exact Xfin.out
    · have hκ := hm2 hnm
      have hnm' : (nn != (m : Int)) = true := by simpa using hnm
      obtain ⟨q0, q1, q2, q3⟩ := s.g.cells
      clear hm1 hm2
      have hmn : m ≤ n := by omega
      have Xs := hide s
      have Xhsd := hide hsd
      have Xhκ := hide hκ
      have Xhmu := hide hmu
      have Xhst := hide hst
      clear s hsd hκ hmu hst
      go_wp2_with fail
      clear q0 q1 q2 q3
      go_loopw [3, 5] (fun v i wr => ∃ (q : Nat) (l' : List Int) (A : Option Addr) (m' c : Nat), q ≤ R ∧ i = .int .i64 q ∧ v = .slice A m' c ∧ SSt w wr F A1 c1 A2 c2 A3 c3 T N R st G (fun _ => False) (.slice none 0 0) [] A m' c l' ∧ (∀ s ∈ l', Rch G.rules st s) ∧ st ∈ l' ∧ m ≤ m' ∧ (m' = m → l' = l ∧ ∀ (j : Nat) (r : Int × List Int), j < q → G.rules[j]? = some r → r.1 ∈ l → ∀ x ∈ r.2, x ∈ l) ∧ (m < m' → unset (memF l') n < unset (memF l) n) ∧ m' + unset (memF l') n ≤ n) (fun _ i _ => R - (intOf i).toNat)
      case atStart => exact ⟨0, l, A, m, c, Nat.zero_le _, rfl, rfl, Xs.out, Xhsd.out, Xhst.out, Nat.le_refl _, fun _ => ⟨rfl, fun j r hj => absurd hj (by omega)⟩, fun h => absurd h (by omega), Xhmu.out⟩
      case round =>
        clear Xs Xhsd Xhmu Xhst
        obtain ⟨q, l', A, m', c, hq, rfl, rfl, s, hsd, hst, hmm, hm1, hm2, hmu⟩ := hrel
        have r0 := s.g.rs
        have r1 := s.g.rc
        have r2 := s.g.c3m
        obtain ⟨q0, q1, q2, q3⟩ := s.g.cells
        by_cases hqR : q < R
        · obtain ⟨bb, off, l0, xs, Ax, nx, cx, rfl, hbl, hx, h0, h1, hr, hnx, hnc, hcm⟩ := s.g.rule hqR
          have hq' : (q : Int) < (R : Int) := by omega
          have hno : ∀ (r : Int × List Int), G.rules[q]? = some r → r = (l0, xs) := fun r h => by rw [hx] at h; injection h with h; exact h.symm
          have hkl := (Xhk.out.k _ (List.mem_of_getElem? hx)).2
          simp only [XhT.out, XhN.out] at hkl
          have hFb : bb < w.heap.size := by
            obtain ⟨-, -, -, hcell⟩ := ERule.at_ s.g.gram.rules
            obtain ⟨b2, o2, e2, hb2, -⟩ := hcell (by omega)
            injection e2 with e2
            injection e2 with e3 e4
            rw [e3]
            exact XhF.out _ hb2
          have Xs := hide s
          have Xhsd := hide hsd
          have Xhm1 := hide hm1
          have Xhm2 := hide hm2
          have Xhmu := hide hmu
          have Xhst := hide hst
          have Xhno := hide hno
          have Xhkl := hide hkl
          have Xhnx := hide hnx
          have Xhr := hide hr
          have Xhx := hide hx
          clear s hsd hm1 hm2 hmu hst hno hkl hnx hr hx
          go_wp2_with fail
          clear q0 q1 q2 q3
          go_loopw [3, 6] (fun v i wr => ∃ (p : Nat) (l' : List Int) (A : Option Addr) (m' c : Nat), p ≤ nx ∧ i = .int .i64 p ∧ v = .slice A m' c ∧ SSt w wr F A1 c1 A2 c2 (some ⟨bb, off, none⟩) c3 T N R st G (fun _ => False) (.slice none 0 0) [] A m' c l' ∧ (∀ s ∈ l', Rch G.rules st s) ∧ st ∈ l' ∧ m ≤ m' ∧ (m' = m → l' = l ∧ (∀ (j : Nat) (r : Int × List Int), j < q → G.rules[j]? = some r → r.1 ∈ l → ∀ x ∈ r.2, x ∈ l) ∧ ∀ (j : Nat) (x : Int), j < p → xs[j]? = some x → x ∈ l) ∧ (m < m' → unset (memF l') n < unset (memF l) n) ∧ m' + unset (memF l') n ≤ n ∧ wr.cell? ⟨bb, off + q * 2, none⟩ = some (.int .i64 l0) ∧ wr.cell? ⟨bb, off + q * 2 + 1, none⟩ = some (.slice Ax nx cx) ∧ RdI wr F (.slice Ax nx cx) xs) (fun _ i _ => nx - (intOf i).toNat)
          case atStart => exact ⟨0, l', A, m', c, Nat.zero_le _, rfl, rfl, Xs.out, Xhsd.out, Xhst.out, hmm, fun e => ⟨(Xhm1.out e).1, (Xhm1.out e).2, fun j x hj => absurd hj (by omega)⟩, Xhm2.out, Xhmu.out, h0, h1, Xhr.out⟩
          case round =>
            clear Xs Xhsd Xhmu Xhst Xhm1 Xhm2 hmm Xhr h0 h1
            obtain ⟨p, l', A, m', c, hp, rfl, rfl, s, hsd, hst, hmm, hm1, hm2, hmu, h0, h1, hr⟩ := hrel
            obtain ⟨q0, q1, q2, q3⟩ := s.g.cells
            by_cases hpx : p < nx
            · have hpx' : (p : Int) < (nx : Int) := by omega
              obtain ⟨-, -, -, hcell⟩ := RdI.at_ hr
              obtain ⟨xb, xoff, rfl, hxb, hcc⟩ := hcell (by omega)
              obtain ⟨x, hxp⟩ : ∃ x, xs[p]? = some x := ⟨_, List.getElem?_eq_getElem (by rw [← Xhnx.out]; exact hpx)⟩
              have hcx := hcc p x hxp
              have hxm := List.mem_of_getElem? hxp
              have hrng := Xhkl.out x hxm
              have ch := ref_has s.rd l0
              have ch2 := ref_has s.rd x
              clear hcell hcc
              by_cases hin : l0 ∈ l'
              · rw [decide_eq_true hin] at ch
                by_cases hix : x ∈ l'
                · rw [decide_eq_true hix] at ch2
                  have hm1' : m' = m → l' = l ∧ (∀ (j : Nat) (r : Int × List Int), j < q → G.rules[j]? = some r → r.1 ∈ l → ∀ x ∈ r.2, x ∈ l) ∧ ∀ (j : Nat) (x : Int), j < p + 1 → xs[j]? = some x → x ∈ l := fun e => by
                    obtain ⟨e1, e2, e3⟩ := hm1 e
                    refine ⟨e1, e2, fun j y hj hy => ?_⟩
                    by_cases ej : j = p
                    · subst ej; rw [hxp] at hy; injection hy with hy; subst hy; rw [← e1]; exact hix
                    · exact e3 j y (by omega) hy
                  have Xs := hide s
                  have Xhsd := hide hsd
                  have Xhst := hide hst
                  have Xhm1 := hide hm1
                  have Xhm2 := hide hm2
                  have Xhmu := hide hmu
                  have Xhr := hide hr
                  have Xhxp := hide hxp
                  have Xhin := hide hin
                  have Xhix := hide hix
                  have Xch := hide ch
                  have Xch2 := hide ch2
                  have Xhm1' := hide hm1'
                  have Xhxm := hide hxm
                  clear s hsd hst hm1 hm2 hmu hr hxp hin hix ch ch2 hm1' hxm
                  go_wp2_with fail
                  with_reducible refine Xch.out.mono ?_
                  rintro e w6 ⟨rfl, rfl⟩
                  go_wp2_with fail
                  with_reducible refine Xch2.out.mono ?_
                  rintro e w6 ⟨rfl, rfl⟩
                  go_wp2_with fail
                  go_roundw
                  case rel => exact ⟨p + 1, l', A, m', c, by omega, by go_num, rfl, Xs.out, Xhsd.out, Xhst.out, hmm, Xhm1'.out, Xhm2.out, Xhmu.out, h0, h1, Xhr.out⟩
                  case measure => simp [intOf]; omega
                · rw [decide_eq_false hix] at ch2
                  have hun := unset_mem (n := n) (by omega) (by have := Xhn.out; omega) hix
                  have hsd2 : ∀ s ∈ l' ++ [x], Rch G.rules st s := fun s hs => by
                    rcases List.mem_append.1 hs with hs | hs
                    · exact hsd s hs
                    · rw [List.mem_singleton.1 hs]
                      exact Rch.step _ x (List.mem_of_getElem? Xhx.out) (hsd l0 hin) hxm
                  have hle : unset (memF l') n ≤ unset (memF l) n := by
                    rcases Nat.eq_or_lt_of_le hmm with e | e
                    · rw [(hm1 e.symm).1]; exact Nat.le_refl _
                    · exact Nat.le_of_lt (hm2 e)
                  have hm2' : unset (memF (l' ++ [x])) n < unset (memF l) n := by omega
                  have hmu' : m' + 1 + unset (memF (l' ++ [x])) n ≤ n := by omega
                  have hmb : m' ≤ 241 := by omega
                  have hst2 : st ∈ l' ++ [x] := by simp [hst]
                  have s8 := s.below ((Below.refl _ wr).alloc (Nat.le_refl _) (.cells #[I64 x] 3))
                  have ho8 := s8.o
                  have r8 : Rd (wr.alloc (.cells #[I64 x] 3)) (fun _ => True) (.slice (some ⟨wr.heap.size, 0, none⟩) 1 1) 1 [I64 x] := Rd.one (w := wr) (e := 3) [I64 x] 1 rfl
                  have hz8 : w.heap.size + 1 ≤ (wr.alloc (.cells #[I64 x] 3)).heap.size := by have := s.g.blk.lt; simp; omega
                  have hsz := s.b.size
                  have Xs := hide s
                  have Xhsd := hide hsd
                  have Xhst := hide hst
                  have Xhm1 := hide hm1
                  have Xhm2 := hide hm2
                  have Xhmu := hide hmu
                  have Xhr := hide hr
                  have Xhxp := hide hxp
                  have Xhin := hide hin
                  have Xhix := hide hix
                  have Xch := hide ch
                  have Xch2 := hide ch2
                  have Xhxm := hide hxm
                  have Xhun := hide hun
                  have Xhsd2 := hide hsd2
                  have Xhle := hide hle
                  have Xhm2' := hide hm2'
                  have Xhmu' := hide hmu'
                  have Xhst2 := hide hst2
                  have Xs8 := hide s8
                  clear s hsd hst hm1 hm2 hmu hr hxp hin hix ch ch2 hxm hun hsd2 hle hm2' hmu' hst2 s8
                  go_wp2_with fail
                  with_reducible refine Xch.out.mono ?_
                  rintro e w6 ⟨rfl, rfl⟩
                  go_wp2_with fail
                  with_reducible refine Xch2.out.mono ?_
                  rintro e w6 ⟨rfl, rfl⟩
                  go_wp2_with (at_builtin; refine wp_append _ rfl (.tmp 56) (.tmp 66) _ rfl Try.elemInt (w.heap.size + 1) _ m' (l'.map I64) rfl ho8 _ _ [I64 x] 1 rfl rfl r8 (by simp [Value.oneCell']) (by unfold maxLen; omega) (by omega) hz8 ?_)
                  intro A9 c9 w9 h9 g9 _
                  have s9 := Xs8.out.push g9 h9
                  have t9 : Touch (fun k => w.heap.size + 1 ≤ k) wr w9 := ((Touch.refl (fun k => w.heap.size + 1 ≤ k) wr).alloc _).grown g9 (fun k hk _ => (ho8.lt k hk).1)
                  have h09 := t9.cell h0 (by simp; omega)
                  have h19 := t9.cell h1 (by simp; omega)
                  have hr9 := (show RdI wr F _ xs from Xhr.out).touch t9 (fun k hk hk' => by have := XhF.out k hk; omega)
                  clear ho8 r8 h9 g9 Xs8 Xs h0 h1 hcx q0 q1 q2 q3 Xhr t9
                  have Xs9 := hide s9
                  have Xhr9 := hide hr9
                  clear s9 hr9
                  go_wp2_with fail
                  go_roundw
                  case rel => exact ⟨p + 1, l' ++ [x], A9, m' + 1, c9, by omega, by go_num, rfl, Xs9.out, Xhsd2.out, Xhst2.out, by omega, fun h => absurd h (by omega), fun _ => Xhm2'.out, Xhmu'.out, h09, h19, Xhr9.out⟩
                  case measure => simp [intOf]; omega
              · rw [decide_eq_false hin] at ch
                have hfin : m' = m → l' = l ∧ ∀ (j : Nat) (r : Int × List Int), j < q + 1 → G.rules[j]? = some r → r.1 ∈ l → ∀ x ∈ r.2, x ∈ l := fun e => by
                  obtain ⟨e1, e2, -⟩ := hm1 e
                  refine ⟨e1, fun j r hj hjr hrl => ?_⟩
                  by_cases ej : j = q
                  · subst ej; rw [Xhno.out r hjr, ← e1] at hrl; exact absurd hrl hin
                  · exact e2 j r (by omega) hjr hrl
                have Xs := hide s
                have Xhsd := hide hsd
                have Xhst := hide hst
                have Xhm1 := hide hm1
                have Xhm2 := hide hm2
                have Xhmu := hide hmu
                have Xhr := hide hr
                have Xhxp := hide hxp
                have Xhin := hide hin
                have Xch := hide ch
                have Xch2 := hide ch2
                have Xhfin := hide hfin
                have Xhxm := hide hxm
                clear s hsd hst hm1 hm2 hmu hr hxp hin ch ch2 hfin hxm
                go_wp2_with fail
                with_reducible refine Xch.out.mono ?_
                rintro e w6 ⟨rfl, rfl⟩
                go_wp2_with fail
                go_roundw
                case rel => exact ⟨q + 1, l', A, m', c, by omega, by go_num, rfl, Xs.out, Xhsd.out, Xhst.out, hmm, Xhfin.out, Xhm2.out, Xhmu.out⟩
                case measure => simp [intOf]; omega
            · have hpn : p = nx := by omega
              have hpx' : ¬ (p : Int) < (nx : Int) := by omega
              have hfin : m' = m → l' = l ∧ ∀ (j : Nat) (r : Int × List Int), j < q + 1 → G.rules[j]? = some r → r.1 ∈ l → ∀ x ∈ r.2, x ∈ l := fun e => by
                obtain ⟨e1, e2, e3⟩ := hm1 e
                refine ⟨e1, fun j r hj hjr hrl x hxr => ?_⟩
                by_cases ej : j = q
                · subst ej
                  rw [Xhno.out r hjr] at hxr
                  obtain ⟨k, hk, e⟩ := List.getElem_of_mem hxr
                  exact e3 k x (by have := Xhnx.out; simp only at hk; omega) (by rw [List.getElem?_eq_getElem hk, e])
                · exact e2 j r (by omega) hjr hrl x hxr
              have Xs := hide s
              have Xhsd := hide hsd
              have Xhst := hide hst
              have Xhm1 := hide hm1
              have Xhm2 := hide hm2
              have Xhmu := hide hmu
              have Xhr := hide hr
              have Xhfin := hide hfin
              have Xhpn := hide hpn
              clear s hsd hst hm1 hm2 hmu hr hfin hpn
              go_wp2_with fail
              go_roundw
              case rel => exact ⟨q + 1, l', A, m', c, by omega, by go_num, rfl, Xs.out, Xhsd.out, Xhst.out, hmm, Xhfin.out, Xhm2.out, Xhmu.out⟩
              case measure => simp [intOf]; omega
        · have hqR : q = R := by omega
          have hlt' : ¬ (q : Int) < (R : Int) := by omega
          subst hqR
          by_cases hme : m' = m
          · obtain ⟨e1, e2⟩ := hm1 hme
            subst e1
            have hcl : ∀ r ∈ G.rules, r.1 ∈ l' → ∀ x ∈ r.2, x ∈ l' := fun r hr => by
              obtain ⟨j, hj, e⟩ := List.getElem_of_mem hr
              exact e2 j r (by rw [XhR.out] at hj; exact hj) (by rw [List.getElem?_eq_getElem hj, e])
            clear hm1 hm2 e2
            subst hme
            have Xhcl := hide hcl
            have Xs := hide s
            have Xhsd := hide hsd
            have Xhmu := hide hmu
            have Xhst := hide hst
            clear hcl s hsd hmu hst
            go_wp2_with fail
            go_roundg 0
            case measure => have := Xhκ.out; omega
            case rel => exact ⟨l', A, m', c, _, rfl, rfl, Xs.out, Xhsd.out, Xhst.out, fun _ => Xhcl.out, fun h => absurd rfl h, Xhmu.out⟩
          · have hu := hm2 (by omega)
            clear hm1 hm2
            have hm : 2 * unset (memF l') n + 1 < gk := by have := Xhκ.out; omega
            have hne : ¬ ((m : Int) = (m' : Int)) := by omega
            have Xs := hide s
            have Xhsd := hide hsd
            have Xhu := hide hu
            have Xhm := hide hm
            have Xhmu := hide hmu
            have Xhne := hide hne
            have Xhst := hide hst
            clear s hsd hu hm hmu hne hst
            go_wp2_with fail
            go_roundg (2 * unset (memF l') n + 1)
            case measure => exact Xhm.out
            case rel => exact ⟨l', A, m', c, _, rfl, rfl, Xs.out, Xhsd.out, Xhst.out, fun h => absurd h Xhne.out, fun _ => Nat.le_refl _, Xhmu.out⟩

set_option maxRecDepth 100000 in
theorem ref_reacheds {w : World} {F : Nat → Prop} {vt vn vr : Value} {G : GramD} (h : IsGram w F vt vn vr G) (st : Int) :
    Calls Try.prog 59 #[GV vt vn vr st] w (IntsPost w (reachedOf G st)) := by
  obtain ⟨A1, c1, A2, c2, A3, c3, rfl, rfl, rfl, -⟩ := h.slices
  obtain ⟨w1, hw1⟩ : ∃ w1, w1 = w.alloc (.cells #[.slice A1 G.terms.length c1, .slice A2 G.nons.length c2, .slice A3 G.rules.length c3, .int .i64 st] 25) := ⟨_, rfl⟩
  have g1 := GBox.new h st
  have b1 : Below w.heap.size w w1 := by rw [hw1]; exact (Below.refl _ w).alloc (Nat.le_refl _) _
  rw [← hw1] at g1
  have cc := ref_check g1.gram st
  have hdef : reachedOf G st = if checkOf G st = 0 then rchL G st else [] := rfl
  obtain ⟨q0, q1, q2, q3⟩ := g1.cells
  rw [hw1] at cc q0 q1 q2 q3
  by_cases hz : checkOf G st = 0
  · rw [hz] at cc
    rw [if_pos hz] at hdef
    rw [hdef]
    have cf := fun wr (g : GBox wr F w.heap.size A1 c1 A2 c2 A3 c3 G.terms.length G.nons.length G.rules.length st G) => ref_from g.gram st (Kn.of_check hz)
    generalize G.terms.length = T at *
    generalize G.nons.length = N at *
    generalize G.rules.length = R at *
    generalize rchL G st = pl at *
    clear h
    have Xcc := hide cc
    have Xg1 := hide g1
    have Xb1 := hide b1
    have Xhz := hide hz
    have Xhdef := hide hdef
    have Xcf := hide cf
    clear cc g1 b1 hz hdef cf
    go_enter Try.func59, Try.ntmps59
    go_wp2_with fail
    with_reducible refine Xcc.out.mono ?_
    rintro e w2 ⟨rfl, b2⟩
    rw [← hw1] at b2
    have g2 := Xg1.out.below b2
    have hb2 := Xb1.out.trans (b2.mono Xb1.out.size)
    clear hw1 q0 q1 q2 q3 Xcc Xg1 b2
    obtain ⟨q0, q1, q2, q3⟩ := g2.cells
    have Xg2 := hide g2
    have Xhb2 := hide hb2
    clear g2 hb2
    go_wp2_with fail
    with_reducible refine (Xcf.out _ Xg2.out).mono ?_
    intro e w3 h3
    have fin := h3.later Xhb2.out
    obtain ⟨A5, n5, c5, rfl, -, -⟩ := h3
    have Xfin := hide fin
    clear fin
    go_wp2_with fail
    go_ret
    exact Xfin.out
  · rw [if_neg hz] at hdef
    rw [hdef]
    have hcn : (checkOf G st != 0) = true := by simpa using hz
    generalize checkOf G st = ck at *
    generalize G.terms.length = T at *
    generalize G.nons.length = N at *
    generalize G.rules.length = R at *
    clear h
    have Xcc := hide cc
    have Xg1 := hide g1
    have Xb1 := hide b1
    have Xhz := hide hz
    have Xhdef := hide hdef
    clear cc g1 b1 hz hdef
    go_enter Try.func59, Try.ntmps59
    go_wp2_with fail
    with_reducible refine Xcc.out.mono ?_
    rintro e w2 ⟨rfl, b2⟩
    rw [← hw1] at b2
    have hb2 := Xb1.out.trans (b2.mono Xb1.out.size)
    clear hw1 q0 q1 q2 q3 Xcc Xg1 b2
    have Xhb2 := hide hb2
    clear hb2
    go_wp2_with fail
    go_ret
    exact ⟨none, 0, 0, rfl, Rd.nil _ _ _, Xhb2.out⟩
end Go.Proofs.Ytejjaabkbkkjlaa

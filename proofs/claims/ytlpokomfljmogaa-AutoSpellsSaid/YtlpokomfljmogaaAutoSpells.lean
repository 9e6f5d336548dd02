/- The statement AutoSpells: the walk. -/
import Derived.Test.YtlpokomfljmogaaAutoEntered
namespace Go.Proofs.Ytlpokomfljmogaa
set_option linter.unusedVariables false
set_option linter.unusedSimpArgs false
open Go.RowKit
attribute [local irreducible] wpStill wpOne wpPh

theorem wayTo_sorted {t : List It} (hs : t.Pairwise (fun a b : It => a.1 < b.1)) {s to : Int} (h : ((s, to) : It) ∈ t) : wayTo t s = to := by
  obtain ⟨i, hi, e⟩ := List.getElem_of_mem h
  refine wayTo_yes (i := i) (x := (s, to)) (by rw [List.getElem?_eq_getElem hi, e]) rfl fun j y hj hy => ?_
  obtain ⟨hj', e'⟩ := List.getElem?_eq_some_iff.1 hy
  have := (List.pairwise_iff_getElem.1 hs) j i hj' hi hj
  rw [e, e'] at this
  simp only at this
  omega
/-- from a state that has a rule's item in its closure its right side leads on -/
theorem spell {G : GramD} {st : Int} {L T : List (List It)} (hb : BldF G st L.length L T) (hK : KnA G st) {r : Int} {lhs : Int} {xs : List Int} (hr : ruleOf G st r = ((lhs, xs), true)) :
    ∀ (ys pre : List Int) (j : Nat) (k : List It), xs = pre ++ ys → L[j]? = some k → Cl G st k (r, (pre.length : Int)) → (pre ≠ [] → ((r, (pre.length : Int)) : It) ∈ k) →
      ∃ (to : Nat) (k' : List It), walkF (stD L T) j ys = to ∧ L[to]? = some k' ∧ (xs ≠ [] → ((r, (xs.length : Int)) : It) ∈ k')
  | [], pre, j, k, hx, hk, _, hin => by
    rw [List.append_nil] at hx
    subst hx
    exact ⟨j, k, rfl, hk, hin⟩
  | s :: ys, pre, j, k, hx, hk, hc, _ => by
    have hxs : xs[pre.length]? = some s := by rw [hx]; simp
    have hbh : behindI G st (r, (pre.length : Int)) = (s, true) := behind_yes (by rw [hr]) (by rw [hr]; exact hxs)
    obtain ⟨s1, s2⟩ := hK.sym r pre.length s (by rw [hr]; exact hxs)
    have hin : ((r, ((pre ++ [s]).length : Int)) : It) ∈ nxI G st k s := ((nx_is G st k s).2 _).2 ⟨_, hc, hbh, by simp⟩
    have hne : nxI G st k s ≠ [] := fun e => by rw [e] at hin; cases hin
    have hjT : j < T.length := by rw [hb.len]; exact (List.getElem?_eq_some_iff.1 hk).1
    obtain ⟨to, hto⟩ := hb.has j T[j] k (List.getElem?_eq_getElem hjT) hk s s1 s2 hne
    obtain ⟨-, -, -, h0, hL⟩ := hb.mem j T[j] k (List.getElem?_eq_getElem hjT) hk s to hto
    obtain ⟨t, rfl⟩ := Int.eq_ofNat_of_zero_le h0
    rw [Int.toNat_natCast] at hL
    have hd : (stD L T)[j]? = some (k, T[j]) := by rw [stD_get, hk, List.getElem?_eq_getElem hjT]; rfl
    have hg : gotoD (stD L T) j s = t := by
      rw [gotoD_in hd]
      exact wayTo_sorted (hb.sort _ (List.getElem_mem hjT)) hto
    have hcl : Cl G st (nxI G st k s) (r, ((pre ++ [s]).length : Int)) := .base _ hin (nx_right hin)
    obtain ⟨to', k', e1, e2, e3⟩ := spell hb hK hr ys (pre ++ [s]) t (nxI G st k s) (by rw [hx]; simp) hL hcl (fun _ => hin)
    refine ⟨to', k', ?_, e2, e3⟩
    show (if gotoD (stD L T) j s < 0 ∨ ((stD L T).length : Int) ≤ gotoD (stD L T) j s then -1 else walkF (stD L T) (gotoD (stD L T) j s) ys) = _
    have := (List.getElem?_eq_some_iff.1 hL).1
    rw [hg, if_neg (by rw [stD_len]; omega)]
    exact e1
structure SpellF (G : GramD) (st : Int) (D : List (List It × List It)) : Prop where
  kn : KnA G st
  go : ∀ (a : Nat) d r lhs xs, D[a]? = some d → Cl G st d.1 (r, 0) → ruleOf G st r = ((lhs, xs), true) → xs ≠ [] → ∃ (to : Nat) (d' : List It × List It), walkD D a xs = to ∧ D[to]? = some d' ∧ ((r, (xs.length : Int)) : It) ∈ d'.1
theorem AutoIs.spellF {G : GramD} {st : Int} {D : List (List It × List It)} (h : AutoIs G st (checkOf G st) 0 D) : SpellF G st D := by
  obtain ⟨h0, L, T, hb, rfl⟩ := h.bld
  have hK := KnA.of_check h0
  refine ⟨hK, fun a d r lhs xs hd hc hr hx => ?_⟩
  obtain ⟨e1, e2⟩ := hb.at_ hd
  obtain ⟨to, k', h1, h2, h3⟩ := spell hb hK hr xs [] a d.1 rfl e1 hc (fun h => absurd rfl h)
  have ha := (List.getElem?_eq_some_iff.1 hd).1
  refine ⟨to, (k', (T[to]?).getD []), ?_, by rw [stD_get, h2]; rfl, h3 hx⟩
  unfold walkD
  rw [if_neg (by omega)]
  exact h1
set_option maxRecDepth 100000 in
set_option maxHeartbeats 4000000 in
theorem walk_AutoSpells (C : Array Value) (G : GramD) (w : World) (hg : GramCells w C.toList G) :
    Calls Try.prog 5 #[.agg C] w (Quiet w (.bool true)) := by
  obtain ⟨vt, vn, vr, hC, hg, -⟩ := hg
  obtain rfl : C = #[vt, vn, vr, .int .i64 G.start] := Array.toList_inj.1 hC
  clear hC
  generalize G.start = st at *
  obtain ⟨A1, c1, A2, c2, A3, c3, rfl, rfl, rfl, -⟩ := hg.slices
  obtain ⟨w1, hw1⟩ : ∃ w1, w1 = w.alloc (.cells #[.slice A1 G.terms.length c1, .slice A2 G.nons.length c2, .slice A3 G.rules.length c3, .int .i64 st] 36) := ⟨_, rfl⟩
  have g1 := GBox.new hg st
  have b1 : Below w.heap.size w w1 := by rw [hw1]; exact (Below.refl _ w).alloc (Nat.le_refl _) _
  rw [← hw1] at g1
  have hm := law_much g1.gram st
  have cb := fun wr (g : GBox wr (· < w.heap.size) w.heap.size A1 c1 A2 c2 A3 c3 G.terms.length G.nons.length G.rules.length st G) => auto_build g.gram g.gram.lt st
  obtain ⟨q0, q1, q2, q3⟩ := g1.cells
  generalize G.terms.length = T at *
  generalize G.nons.length = N at *
  generalize G.rules.length = R at *
  obtain ⟨F, hF⟩ : ∃ F : Nat → Prop, F = fun b => b < w.heap.size := ⟨_, rfl⟩
  rw [← hF] at g1 cb
  rw [hw1] at q0 q1 q2 q3 hm
  clear hg hF
  have hsp : ∀ ev D, AutoIs G st (checkOf G st) ev D → ev = 0 → SpellF G st D := by
    rintro _ D h rfl
    exact h.spellF
  generalize checkOf G st = ck at *
  have Xhm := hide hm
  have Xcb := hide cb
  have Xg1 := hide g1
  have Xb1 := hide b1
  have Xhsp := hide hsp
  clear hm cb g1 b1 hsp
  go_enter Try.func5, Try.ntmps5
  go_wp2_with fail
  refine Xhm.out.mono ?_
  rintro e w2 ⟨r, hr, rfl, b2⟩
  rw [← hw1] at b2
  have g2 := Xg1.out.below b2
  have bb2 := Xb1.out.trans (b2.mono Xb1.out.size)
  clear q0 q1 q2 q3 hw1 Xhm Xg1 Xb1 b2 hr
  by_cases hbig : 60 < r
  · have Xbb2 := hide bb2
    have Xg2 := hide g2
    clear bb2 g2
    go_wp2_with fail
    refine (law13_awake _).mono ?_
    rintro e w3 ⟨rfl, b3⟩
    have bb3 := Xbb2.out.trans (b3.mono Xbb2.out.size)
    clear b3
    have Xbb3 := hide bb3
    clear bb3
    go_wp2_with fail
    go_ret
    exact ⟨rfl, Xbb3.out⟩
  · have c2' := Xcb.out _ g2
    obtain ⟨q0, q1, q2, q3⟩ := g2.cells
    have Xbb2 := hide bb2
    have Xg2 := hide g2
    have Xc2' := hide c2'
    clear bb2 g2 c2'
    go_wp2_with fail
    refine Xc2'.out.mono ?_
    rintro e w3 hp
    obtain ⟨b3, AD, nD, cD, ev, D, rfl, rd3, hai⟩ := hp.flat
    have g3 := Xg2.out.below b3
    have bb3 := Xbb2.out.trans (b3.mono Xbb2.out.size)
    have rd3 := rd3.mono (F' := fun b => b < w3.heap.size) (fun b hb => hb.2)
    clear q0 q1 q2 q3 hp Xc2' Xg2 Xbb2 b3
    by_cases hev : ev = 0
    · subst hev
      have hf := Xhsp.out _ _ hai rfl
      obtain ⟨hn, hnc, hcm, -⟩ := rd3.at_
      unfold maxLen at hcm
      have t : EntS w F A1 c1 A2 c2 A3 c3 T N R st G AD nD cD D w3 := ⟨g3.gram, g3.blk, rd3, bb3⟩
      clear g3 rd3 bb3 hai Xhsp
      have Xt := hide t
      have Xhn := hide hn
      have Xhf := hide hf
      clear t hn hf
      go_wp2_with fail
      go_loopw [5] (fun i wr => ∃ a : Nat, a ≤ nD ∧ i = .int .i64 a ∧ EntS w F A1 c1 A2 c2 A3 c3 T N R st G AD nD cD D wr) (fun i _ => nD - (intOf i).toNat)
      case atStart => exact ⟨0, Nat.zero_le _, rfl, Xt.out⟩
      case round =>
        clear Xt
        obtain ⟨a, ha, rfl, t⟩ := hrel
        by_cases hlta : a < nD
        · have hlta' : (a : Int) < (nD : Int) := by omega
          have XhnD := Xhn
          clear Xhn
          obtain ⟨da, hda⟩ : ∃ x, D[a]? = some x := ⟨_, List.getElem?_eq_getElem (by rw [← XhnD.out]; exact hlta)⟩
          obtain ⟨-, -, -, hcell⟩ := t.rd.at_
          obtain ⟨bS, oS, rfl, -, hcs⟩ := hcell (by omega)
          obtain ⟨y1, y2, u1, u2, s1, s2⟩ := hcs a da hda
          obtain ⟨A4, n4, c4, rfl, -⟩ := id s1
          obtain ⟨hn4, hnc4, hcm4, -⟩ := RdIt.at_ s1
          unfold maxLen at hcm4
          have dr := (Below.refl wr.heap.size wr).drew
          have td := t.next dr
          have cc := ref12_Close td.g st (s1.below dr (fun b hb => hb) |>.mono (fun b hb => Nat.lt_of_lt_of_le hb dr.size)) Xhf.out.kn.short Xhf.out.kn.r
          obtain ⟨q0, q1, q2, q3⟩ := t.cells
          clear hcell hcs s1 s2 dr
          have Xt := hide t
          have Xhda := hide hda
          have Xcc := hide cc
          have Xhn4 := hide hn4
          have Xtd := hide td
          clear t hda cc hn4 td
          go_wp2_with fail
          refine region_tail 6 (by kernel_rfl) (by kernel_rfl) ?_
          simp only [List.take_succ_cons, List.take_zero, List.drop_succ_cons, List.drop_zero]
          repeat still_step
          refine wpStill_nil ?_
          go_wp2_with fail
          with_reducible refine Xcc.out.mono ?_
          rintro e w4 ⟨cl, hcl, A0, n0, c0, rfl, rc, b4⟩
          obtain ⟨hn0, hnc0, hcm0, -⟩ := RdIt.at_ rc
          unfold maxLen at hcm0
          have rc := rc.mono (F' := fun b => b < w4.heap.size) (fun b hb => hb.2)
          have t4 := Xtd.out.next b4
          clear b4 Xcc Xtd Xt q0 q1 q2 q3 u1 u2
          have Xt4 := hide t4
          have Xrc := hide rc
          have Xhn0 := hide hn0
          have Xhcl := hide hcl
          clear t4 rc hn0 hcl
          go_wp2_with fail
          go_loopw [7] (fun i wr => ∃ k : Nat, k ≤ n0 ∧ i = .int .i64 k ∧ EntS w F A1 c1 A2 c2 A3 c3 T N R st G (some ⟨bS, oS, none⟩) nD cD D wr ∧ RdIt wr (fun b => b < wr.heap.size) (.slice A0 n0 c0) cl) (fun i _ => n0 - (intOf i).toNat)
          case atStart => exact ⟨0, Nat.zero_le _, rfl, Xt4.out, Xrc.out⟩
          case round =>
            clear Xt4 Xrc
            obtain ⟨k, hk, rfl, t, rc⟩ := hrel
            by_cases hltk : k < n0
            · have hltk' : (k : Int) < (n0 : Int) := by omega
              obtain ⟨-, -, -, hcell0⟩ := RdIt.at_ rc
              obtain ⟨b0, o0, rfl, -, hcc0⟩ := hcell0 (by omega)
              obtain ⟨⟨x0, x1⟩, hx⟩ : ∃ x, cl[k]? = some x := ⟨_, List.getElem?_eq_getElem (by rw [← Xhn0.out]; exact hltk)⟩
              obtain ⟨p0, p1⟩ := hcc0 k _ hx
              simp only at p0 p1
              have sp : ∀ lhs xs ok, ruleOf G st x0 = ((lhs, xs), ok) → ok = true → x1 = 0 → xs ≠ [] → ∃ (to : Nat) (d' : List It × List It), walkD D a xs = to ∧ D[to]? = some d' ∧ ((x0, (xs.length : Int)) : It) ∈ d'.1 := by
                rintro lhs xs ok h rfl rfl h2
                exact Xhf.out.go a da x0 lhs xs Xhda.out ((Xhcl.out.mem _).1 (List.mem_of_getElem? hx)) h h2
              have cr := fun wr (g : IsGram wr F (.slice A1 T c1) (.slice A2 N c2) (.slice A3 R c3) G) => ref_rule2 g st x0
              obtain ⟨⟨⟨l, xs⟩, ok⟩, hru⟩ : ∃ q, q = ruleOf G st x0 := ⟨_, rfl⟩
              rw [← hru] at cr
              have sp := sp l xs ok hru.symm
              obtain ⟨q0, q1, q2, q3⟩ := t.cells
              clear hcell0 hcc0 hru
              have Xt := hide t
              have Xrc := hide rc
              have Xhx := hide hx
              have Xsp := hide sp
              have Xcr := hide cr
              clear t rc hx sp cr
              go_wp2_with fail
              refine wp_region_held_drew (S := (fun W => W.cell? ⟨w.heap.size, 0, none⟩ = some (.slice A1 T c1) ∧ W.cell? ⟨w.heap.size, 1, none⟩ = some (.slice A2 N c2) ∧ W.cell? ⟨w.heap.size, 2, none⟩ = some (.slice A3 R c3) ∧ W.cell? ⟨w.heap.size, 3, none⟩ = some (.int .i64 st) ∧ W.cell? ⟨b0, o0 + k * 2, none⟩ = some (.int .i64 x0) ∧ W.cell? ⟨b0, o0 + k * 2 + 1, none⟩ = some (.int .i64 x1))) (by kernel_rfl) ?_ (fun hHeld => ?_)
              · exact ⟨q0, q1, q2, q3, p0, p1⟩
              have dr := (Below.refl wr.heap.size wr).drew
              have td := Xt.out.next dr
              have rcd : RdIt wr.drew (fun b => b < wr.drew.heap.size) (.slice (some ⟨b0, o0, none⟩) n0 c0) cl := Xrc.out.below dr (fun b hb => hb)
              have gg := td.g
              have kgd := td.k
              clear Xt Xrc q0 q1 q2 q3 p0 p1 dr
              generalize wr.drew = wd at *
              obtain ⟨-, -, -, -, p0, p1⟩ := id hHeld
              have hS : ∀ W, Below wd.heap.size wd W → W.cell? ⟨w.heap.size, 0, none⟩ = some (.slice A1 T c1) ∧ W.cell? ⟨w.heap.size, 1, none⟩ = some (.slice A2 N c2) ∧ W.cell? ⟨w.heap.size, 2, none⟩ = some (.slice A3 R c3) ∧ W.cell? ⟨w.heap.size, 3, none⟩ = some (.int .i64 st) ∧ W.cell? ⟨b0, o0 + k * 2, none⟩ = some (.int .i64 x0) ∧ W.cell? ⟨b0, o0 + k * 2 + 1, none⟩ = some (.int .i64 x1) := fun W hb => by
                have kk := kgd.below hb kgd.lt
                exact ⟨(kk.cell 0).trans rfl, (kk.cell 1).trans rfl, (kk.cell 2).trans rfl, (kk.cell 3).trans rfl, (hb.cell (World.block_lt_of_cell? _ _ p0)).trans p0, (hb.cell (World.block_lt_of_cell? _ _ p1)).trans p1⟩
              clear p0 p1
              have Xkgd := hide kgd
              have Xrcd := hide rcd
              have Xtd := hide td
              clear kgd rcd td
              have XhS := hide hS
              have Xgg := hide gg
              clear hS gg
              refine wpAnyH_take (i := 0) (oi := ?_) (v := ?_) ?_ (by kernel_rfl) (by kernel_rfl) (by kernel_rfl) ?_ (Or.inl ⟨?_, ?_⟩) (by assumption) ?_
              rotate_left 2
              · (try simp only [List.getElem?_toArray, List.getElem?_cons_succ, List.getElem?_cons_zero]); rfl
              · exact fun _ _ _ h => h
              · rfl
              · (intro wS hwS; (try dsimp only at hwS); go_simp; all_goals with_reducible rfl)
              try simp only [Act.put, List.setIfInBounds_toArray, List.set_cons_zero, List.set_cons_succ]
              refine wpAnyH_take (i := 1) (oi := ?_) (v := ?_) ?_ (by kernel_rfl) (by kernel_rfl) (by kernel_rfl) ?_ (Or.inl ⟨?_, ?_⟩) (by assumption) ?_
              rotate_left 2
              · (try simp only [List.getElem?_toArray, List.getElem?_cons_succ, List.getElem?_cons_zero]); rfl
              · exact fun _ _ _ h => h
              · rfl
              · (intro wS hwS; (try dsimp only at hwS); go_simp; all_goals with_reducible rfl)
              try simp only [Act.put, List.setIfInBounds_toArray, List.set_cons_zero, List.set_cons_succ]
              refine wpAnyH_take (i := 2) (oi := ?_) (v := ?_) ?_ (by kernel_rfl) (by kernel_rfl) (by kernel_rfl) ?_ (Or.inl ⟨?_, ?_⟩) (by assumption) ?_
              rotate_left 2
              · (try simp only [List.getElem?_toArray, List.getElem?_cons_succ, List.getElem?_cons_zero]); rfl
              · exact fun _ _ _ h => h
              · rfl
              · (intro wS hwS; (try dsimp only at hwS); go_simp; all_goals with_reducible rfl)
              try simp only [Act.put, List.setIfInBounds_toArray, List.set_cons_zero, List.set_cons_succ]
              refine wpAnyH_take (i := 3) (oi := ?_) (v := ?_) ?_ (by kernel_rfl) (by kernel_rfl) (by kernel_rfl) ?_ (Or.inl ⟨?_, ?_⟩) (by assumption) ?_
              rotate_left 2
              · (try simp only [List.getElem?_toArray, List.getElem?_cons_succ, List.getElem?_cons_zero]); rfl
              · exact fun _ _ _ h => h
              · rfl
              · (intro wS hwS; (try dsimp only at hwS); go_simp; all_goals with_reducible rfl)
              try simp only [Act.put, List.setIfInBounds_toArray, List.set_cons_zero, List.set_cons_succ]
              refine wpAnyH_take (i := 4) (oi := ?_) (v := ?_) ?_ (by kernel_rfl) (by kernel_rfl) (by kernel_rfl) ?_ (Or.inl ⟨?_, ?_⟩) (by assumption) ?_
              rotate_left 2
              · (try simp only [List.getElem?_toArray, List.getElem?_cons_succ, List.getElem?_cons_zero]); rfl
              · exact fun _ _ _ h => h
              · rfl
              · (intro wS hwS; (try dsimp only at hwS); go_simp; all_goals with_reducible rfl)
              try simp only [Act.put, List.setIfInBounds_toArray, List.set_cons_zero, List.set_cons_succ]
              refine wpAnyH_take (i := 5) (oi := ?_) (v := ?_) ?_ (by kernel_rfl) (by kernel_rfl) (by kernel_rfl) ?_ (Or.inl ⟨?_, ?_⟩) (by assumption) ?_
              rotate_left 2
              · (try simp only [List.getElem?_toArray, List.getElem?_cons_succ, List.getElem?_cons_zero]); rfl
              · exact fun _ _ _ h => h
              · rfl
              · (intro wS hwS; (try dsimp only at hwS); go_simp; all_goals with_reducible rfl)
              try simp only [Act.put, List.setIfInBounds_toArray, List.set_cons_zero, List.set_cons_succ]
              refine wpAnyH_ready (rs := [6, 10]) (by kernel_rfl) (by simp) ?_
              refine AllReadyH.cons (o := ?_) ?_ (fun K hK => ?_) ?_
              rotate_left 1
              · (try simp only [List.getElem?_toArray, List.getElem?_cons_succ, List.getElem?_cons_zero]); rfl
              · go_simp
                go_at_call 17
                refine (Xcr.out _ Xgg.out).mono ?_
                rintro e w3 ⟨A, n, c, rfl, hrd, b3⟩
                obtain ⟨hn, hnc, hcm, -⟩ := RdI.at_ hrd
                unfold maxLen at hcm
                replace hn : n = xs.length := hn
                replace hrd : RdI w3 (fun b => F b ∨ (wd.heap.size ≤ b ∧ b < w3.heap.size)) (.slice A n c) xs := hrd
                have Xhrd := hide hrd
                have Xhn := hide hn
                clear hrd hn
                refine hK.out _ _ ?_ (fun hHeld => ?_)
                · exact XhS.out _ b3
                clear hK K
                try simp only [Act.put, List.setIfInBounds_toArray, List.set_cons_zero, List.set_cons_succ]
                refine wpAnyH_take (i := 7) (oi := ?_) (v := ?_) ?_ (by kernel_rfl) (by kernel_rfl) (by kernel_rfl) ?_ (Or.inl ⟨?_, ?_⟩) (by assumption) ?_
                rotate_left 2
                · (try simp only [List.getElem?_toArray, List.getElem?_cons_succ, List.getElem?_cons_zero]); rfl
                · exact fun _ _ _ h => h
                · rfl
                · (intro wS hwS; (try dsimp only at hwS); go_simp; all_goals with_reducible rfl)
                try simp only [Act.put, List.setIfInBounds_toArray, List.set_cons_zero, List.set_cons_succ]
                refine wpAnyH_take (i := 8) (oi := ?_) (v := ?_) ?_ (by kernel_rfl) (by kernel_rfl) (by kernel_rfl) ?_ (Or.inl ⟨?_, ?_⟩) (by assumption) ?_
                rotate_left 2
                · (try simp only [List.getElem?_toArray, List.getElem?_cons_succ, List.getElem?_cons_zero]); rfl
                · exact fun _ _ _ h => h
                · rfl
                · (intro wS hwS; (try dsimp only at hwS); go_simp; all_goals with_reducible rfl)
                try simp only [Act.put, List.setIfInBounds_toArray, List.set_cons_zero, List.set_cons_succ]
                refine wpAnyH_take (i := 9) (oi := ?_) (v := ?_) ?_ (by kernel_rfl) (by kernel_rfl) (by kernel_rfl) ?_ (Or.inl ⟨?_, ?_⟩) (by assumption) ?_
                rotate_left 2
                · (try simp only [List.getElem?_toArray, List.getElem?_cons_succ, List.getElem?_cons_zero]); rfl
                · exact fun _ _ _ h => h
                · rfl
                · (intro wS hwS; (try dsimp only at hwS); go_simp; all_goals with_reducible rfl)
                try simp only [Act.put, List.setIfInBounds_toArray, List.set_cons_zero, List.set_cons_succ]
                have Xb3 := hide b3
                clear b3
                refine wpAnyH_ready (rs := [10]) (by kernel_rfl) (by simp) ?_
                refine AllReadyH.cons (o := ?_) ?_ (fun K hK => ?_) AllReadyH.nil
                rotate_left 1
                · (try simp only [List.getElem?_toArray, List.getElem?_cons_succ, List.getElem?_cons_zero]); rfl
                go_simp
                have b4 : Below wd.heap.size wd (w3.alloc (.cells #[.int .i64 0, .slice none 0 0] 47)) := Xb3.out.alloc Xb3.out.size _
                have k4 : Blk (w3.alloc (.cells #[.int .i64 0, .slice none 0 0] 47)) w3.heap.size 47 #[.int .i64 0, .slice none 0 0] := Blk.new _ _ _
                have hK2 : wd.heap.size ≤ w3.heap.size := Xb3.out.size
                have hFl : ∀ b, F b ∨ (wd.heap.size ≤ b ∧ b < w3.heap.size) → b < w3.heap.size := fun b hb => hb.elim (fun hb => Nat.lt_of_lt_of_le (Xgg.out.lt b hb) Xb3.out.size) (fun hb => hb.2)
                have hrd4 := Xhrd.out.below (Below.refl _ w3 |>.alloc (Nat.le_refl _) (.cells #[.int .i64 0, .slice none 0 0] 47)) hFl
                have hrl : ∀ b, F b ∨ (wd.heap.size ≤ b ∧ b < w3.heap.size) → ¬ b = w3.heap.size := fun b hb => by have := hFl b hb; omega
                have hlt4 : ∀ b, F b ∨ (wd.heap.size ≤ b ∧ b < w3.heap.size) → b < (w3.alloc (.cells #[.int .i64 0, .slice none 0 0] 47)).heap.size := fun b hb => by have := hFl b hb; simp; omega
                clear hFl Xhrd
                refine hK.out _ _ ?_ (fun hHeld => ?_)
                · exact XhS.out _ b4
                clear hK K
                try simp only [Act.put, List.setIfInBounds_toArray, List.set_cons_zero, List.set_cons_succ]
                generalize w3.heap.size = Kb at *
                generalize w3.alloc (.cells #[.int .i64 0, .slice none 0 0] 47) = w4 at *
                have f0 := (k4.cell 0).trans rfl
                have f1 := (k4.cell 1).trans rfl
                have z0 := k4.frozen 0
                have z1 := k4.frozen 1
                have k5 := (k4.put 0 (.int .i64 l)).put 1 (.slice A n c)
                have tt := touch_two w4 (Kb) (.int .i64 l) (.slice A n c)
                have b5 : Below wd.heap.size wd ((w4.setCell ⟨Kb, 0, none⟩ (.int .i64 l)).setCell ⟨Kb, 1, none⟩ (.slice A n c)) := b4.trans (tt.below (fun i hi _ e => by omega) b4.size)
                have hrd5 := (hrd4.touch tt hrl).mono (F' := fun b => b < ((w4.setCell ⟨Kb, 0, none⟩ (.int .i64 l)).setCell ⟨Kb, 1, none⟩ (.slice A n c)).heap.size) (fun b hb => by have := hlt4 b hb; simpa using this)
                clear hlt4
                have Xb4 := hide b4
                have Xk4 := hide k4
                have Xhrd4 := hide hrd4
                have XhK2 := hide hK2
                have Xhrl := hide hrl
                have Xk5 := hide k5
                have Xtt := hide tt
                have Xb5 := hide b5
                have Xhrd5 := hide hrd5
                clear b4 k4 hrd4 hK2 hrl k5 tt b5 hrd5
                refine wpAnyH_ready (rs := [11]) (by kernel_rfl) (by simp) ?_
                refine AllReadyH.cons (o := ?_) ?_ (fun K hK => ?_) AllReadyH.nil
                rotate_left 1
                · (try simp only [List.getElem?_toArray, List.getElem?_cons_succ, List.getElem?_cons_zero]); rfl
                go_simp
                refine hK.out _ _ ?_ (fun hHeld => ?_)
                · exact XhS.out _ Xb5.out
                clear hK K
                try simp only [Act.put, List.setIfInBounds_toArray, List.set_cons_zero, List.set_cons_succ]
                generalize (w4.setCell ⟨Kb, 0, none⟩ (.int .i64 l)).setCell ⟨Kb, 1, none⟩ (.slice A n c) = w5 at *
                refine wpAnyH_take (i := 12) (oi := ?_) (v := ?_) ?_ (by kernel_rfl) (by kernel_rfl) (by kernel_rfl) ?_ (Or.inl ⟨?_, ?_⟩) (by assumption) ?_
                rotate_left 2
                · (try simp only [List.getElem?_toArray, List.getElem?_cons_succ, List.getElem?_cons_zero]); rfl
                · exact fun _ _ _ h => h
                · rfl
                · (intro wS hwS; (try dsimp only at hwS); go_simp; all_goals with_reducible rfl)
                try simp only [Act.put, List.setIfInBounds_toArray, List.set_cons_zero, List.set_cons_succ]
                refine wpAnyH_done (by kernel_rfl) ?_ _
                obtain ⟨q0, q1, q2, q3, p0, p1⟩ := id hHeld
                have d3 := (Xk5.out.cell 0).trans rfl
                have d4 := (Xk5.out.cell 1).trans rfl
                have t5 := Xtd.out.next Xb5.out
                have rc5 := (Rd.below Xrcd.out Xb5.out (fun b hb => hb)).mono (F' := fun b => b < w5.heap.size) (fun b hb' => Nat.lt_of_lt_of_le hb' Xb5.out.size)
                have hrw := Xhrd5.out
                have Xt5 := hide t5
                have Xrc5 := hide rc5
                have Xhrw := hide hrw
                clear t5 rc5 hrw
                cases ok with
                | false =>
                  go_wp2_with fail
                  go_roundw
                  case rel => exact ⟨k + 1, by omega, by go_num, Xt5.out, Xrc5.out⟩
                  case measure => simp [intOf]; omega
                | true =>
                  by_cases hx1 : x1 = 0
                  · subst hx1
                    by_cases hnn : n = 0
                    · have hnz : ((n : Int) == 0) = true := by simp; omega
                      go_wp2_with fail
                      go_roundw
                      case rel => exact ⟨k + 1, by omega, by go_num, Xt5.out, Xrc5.out⟩
                      case measure => simp [intOf]; omega
                    · have hnz : ((n : Int) == 0) = false := by simp; omega
                      obtain ⟨to, d', hw, hd', hmem⟩ := Xsp.out rfl rfl (fun e => hnn (by rw [Xhn.out, e]; rfl))
                      have hto : to < nD := by rw [XhnD.out]; exact (List.getElem?_eq_some_iff.1 hd').1
                      have cw := auto_Walk Xt5.out.rd (fun b hb => hb) Xhrw.out (fun b hb => hb) (a : Int)
                      rw [hw] at cw
                      have hd1 : decide ((to : Int) < 0) = false := decide_eq_false (by omega)
                      have hd2 : decide ((to : Int) ≥ (nD : Int)) = false := decide_eq_false (by omega)
                      rw [← Xhn.out] at hmem
                      have hk5 := Xk5.out
                      clear hw
                      have Xcw := hide cw
                      have Xhd' := hide hd'
                      have Xhmem := hide hmem
                      have Xhk5 := hide hk5
                      clear cw hd' hmem hk5
                      go_wp2_with fail
                      with_reducible refine Xcw.out.mono ?_
                      rintro e w6 ⟨rfl, b6⟩
                      have t6 := Xt5.out.next b6
                      have k6 := Xhk5.out.below b6 Xhk5.out.lt
                      have rc6 := (Rd.below Xrc5.out b6 (fun b hb => hb)).mono (F' := fun b => b < w6.heap.size) (fun b hb' => Nat.lt_of_lt_of_le hb' b6.size)
                      have dr := (Below.refl w6.heap.size w6).drew
                      have p0' := (b6.cell (World.block_lt_of_cell? _ _ p0)).trans p0
                      clear Xt5 Xcw b6 Xhk5 Xrc5 d3 d4 p0 p1 q0 q1 q2 q3
                      have d3 := (k6.cell 0).trans rfl
                      have d4 := (k6.cell 1).trans rfl
                      obtain ⟨-, -, -, hcellD⟩ := t6.rd.at_
                      obtain ⟨bT, oT, eA, -, hcs⟩ := hcellD (by omega)
                      cases eA
                      obtain ⟨z1, z2, v1, v2, r1, r2⟩ := hcs to d' Xhd'.out
                      obtain ⟨A4, n4, c4, rfl, -⟩ := id r1
                      obtain ⟨-, hnc4, hcm4, -⟩ := RdIt.at_ r1
                      unfold maxLen at hcm4
                      have ch := law13_holds (r1.below dr (fun b hb => hb)) (fun b hb => Nat.lt_of_lt_of_le hb dr.size) (x0, (n : Int)) Xhmem.out
                      clear hcellD hcs r1 r2
                      have Xt6 := hide t6
                      have Xrc6 := hide rc6
                      have Xch := hide ch
                      have Xk6 := hide k6
                      have Xdr := hide dr
                      clear t6 rc6 ch k6 dr
                      go_wp2_with fail
                      refine region_tail 23 (by kernel_rfl) (by kernel_rfl) ?_
                      simp only [List.take_succ_cons, List.take_zero, List.drop_succ_cons, List.drop_zero]
                      repeat still_step
                      refine wpStill_nil ?_
                      go_wp2_with fail
                      with_reducible refine Xch.out.mono ?_
                      rintro e w7 ⟨rfl, b7⟩
                      have bb7 := Xdr.out.trans (b7.mono Xdr.out.size)
                      have t7 := Xt6.out.next bb7
                      have rc7 := (Rd.below Xrc6.out bb7 (fun b hb => hb)).mono (F' := fun b => b < w7.heap.size) (fun b hb' => Nat.lt_of_lt_of_le hb' bb7.size)
                      clear b7 bb7 Xch Xt6 Xrc6 v1 v2 d3 d4 p0'
                      have Xt7 := hide t7
                      have Xrc7 := hide rc7
                      clear t7 rc7
                      go_wp2_with fail
                      go_roundw
                      case rel => exact ⟨k + 1, by omega, by go_num, Xt7.out, Xrc7.out⟩
                      case measure => simp [intOf]; omega
                  · have hxn : (x1 != 0) = true := by simpa using hx1
                    go_wp2_with fail
                    go_roundw
                    case rel => exact ⟨k + 1, by omega, by go_num, Xt5.out, Xrc5.out⟩
                    case measure => simp [intOf]; omega
              · refine AllReadyH.cons (o := ?_) ?_ (fun K hK => ?_) ?_
                rotate_left 1
                · (try simp only [List.getElem?_toArray, List.getElem?_cons_succ, List.getElem?_cons_zero]); rfl
                · go_simp
                  have b4 : Below wd.heap.size wd (wd.alloc (.cells #[.int .i64 0, .slice none 0 0] 47)) := (Below.refl _ wd).alloc (Nat.le_refl _) _
                  have k4 : Blk (wd.alloc (.cells #[.int .i64 0, .slice none 0 0] 47)) wd.heap.size 47 #[.int .i64 0, .slice none 0 0] := Blk.new _ _ _
                  have t4 := Xgg.out.below b4
                  refine hK.out _ _ ?_ (fun hHeld => ?_)
                  · exact XhS.out _ b4
                  clear hK K
                  try simp only [Act.put, List.setIfInBounds_toArray, List.set_cons_zero, List.set_cons_succ]
                  have hK2 : wd.heap.size ≤ wd.heap.size := Nat.le_refl _
                  generalize wd.alloc (.cells #[.int .i64 0, .slice none 0 0] 47) = wa at *
                  have Xb4 := hide b4
                  have Xk4 := hide k4
                  have Xt4 := hide t4
                  clear b4 k4 t4
                  refine wpAnyH_ready (rs := [6]) (by kernel_rfl) (by simp) ?_
                  refine AllReadyH.cons (o := ?_) ?_ (fun K hK => ?_) AllReadyH.nil
                  rotate_left 1
                  · (try simp only [List.getElem?_toArray, List.getElem?_cons_succ, List.getElem?_cons_zero]); rfl
                  go_simp
                  go_at_call 17
                  refine (Xcr.out _ Xt4.out).mono ?_
                  rintro e w4 ⟨A, n, c, rfl, hrd4, b5⟩
                  obtain ⟨hn, hnc, hcm, -⟩ := RdI.at_ hrd4
                  unfold maxLen at hcm
                  have k4 := Xk4.out.below b5 Xk4.out.lt
                  have hwa : wd.heap.size < wa.heap.size := Xk4.out.lt
                  have hrl : ∀ b, F b ∨ (wa.heap.size ≤ b ∧ b < w4.heap.size) → ¬ b = wd.heap.size := fun b hb => hb.elim (fun hb e => by have := Xgg.out.lt b hb; omega) (fun hb => by omega)
                  have hlt4 : ∀ b, F b ∨ (wa.heap.size ≤ b ∧ b < w4.heap.size) → b < w4.heap.size := fun b hb => hb.elim (fun hb => by have := Xgg.out.lt b hb; have := b5.size; omega) (fun hb => hb.2)
                  have b4 := Xb4.out.trans (b5.mono Xb4.out.size)
                  clear b5 Xb4 Xk4 Xt4 hwa
                  replace hn : n = xs.length := hn
                  replace hrd4 : RdI w4 (fun b => F b ∨ (wa.heap.size ≤ b ∧ b < w4.heap.size)) (.slice A n c) xs := hrd4
                  have Xhn := hide hn
                  clear hn
                  refine hK.out _ _ ?_ (fun hHeld => ?_)
                  · exact XhS.out _ b4
                  clear hK K
                  try simp only [Act.put, List.setIfInBounds_toArray, List.set_cons_zero, List.set_cons_succ]
                  refine wpAnyH_take (i := 7) (oi := ?_) (v := ?_) ?_ (by kernel_rfl) (by kernel_rfl) (by kernel_rfl) ?_ (Or.inl ⟨?_, ?_⟩) (by assumption) ?_
                  rotate_left 2
                  · (try simp only [List.getElem?_toArray, List.getElem?_cons_succ, List.getElem?_cons_zero]); rfl
                  · exact fun _ _ _ h => h
                  · rfl
                  · (intro wS hwS; (try dsimp only at hwS); go_simp; all_goals with_reducible rfl)
                  try simp only [Act.put, List.setIfInBounds_toArray, List.set_cons_zero, List.set_cons_succ]
                  refine wpAnyH_take (i := 8) (oi := ?_) (v := ?_) ?_ (by kernel_rfl) (by kernel_rfl) (by kernel_rfl) ?_ (Or.inl ⟨?_, ?_⟩) (by assumption) ?_
                  rotate_left 2
                  · (try simp only [List.getElem?_toArray, List.getElem?_cons_succ, List.getElem?_cons_zero]); rfl
                  · exact fun _ _ _ h => h
                  · rfl
                  · (intro wS hwS; (try dsimp only at hwS); go_simp; all_goals with_reducible rfl)
                  try simp only [Act.put, List.setIfInBounds_toArray, List.set_cons_zero, List.set_cons_succ]
                  refine wpAnyH_take (i := 9) (oi := ?_) (v := ?_) ?_ (by kernel_rfl) (by kernel_rfl) (by kernel_rfl) ?_ (Or.inl ⟨?_, ?_⟩) (by assumption) ?_
                  rotate_left 2
                  · (try simp only [List.getElem?_toArray, List.getElem?_cons_succ, List.getElem?_cons_zero]); rfl
                  · exact fun _ _ _ h => h
                  · rfl
                  · (intro wS hwS; (try dsimp only at hwS); go_simp; all_goals with_reducible rfl)
                  try simp only [Act.put, List.setIfInBounds_toArray, List.set_cons_zero, List.set_cons_succ]
                  have f0 := (k4.cell 0).trans rfl
                  have f1 := (k4.cell 1).trans rfl
                  have z0 := k4.frozen 0
                  have z1 := k4.frozen 1
                  have k5 := (k4.put 0 (.int .i64 l)).put 1 (.slice A n c)
                  have tt := touch_two w4 (wd.heap.size) (.int .i64 l) (.slice A n c)
                  have b5 : Below wd.heap.size wd ((w4.setCell ⟨wd.heap.size, 0, none⟩ (.int .i64 l)).setCell ⟨wd.heap.size, 1, none⟩ (.slice A n c)) := b4.trans (tt.below (fun i hi _ e => by omega) b4.size)
                  have hrd5 := (hrd4.touch tt hrl).mono (F' := fun b => b < ((w4.setCell ⟨wd.heap.size, 0, none⟩ (.int .i64 l)).setCell ⟨wd.heap.size, 1, none⟩ (.slice A n c)).heap.size) (fun b hb => by have := hlt4 b hb; simpa using this)
                  clear hlt4
                  have Xb4 := hide b4
                  have Xk4 := hide k4
                  have Xhrd4 := hide hrd4
                  have XhK2 := hide hK2
                  have Xhrl := hide hrl
                  have Xk5 := hide k5
                  have Xtt := hide tt
                  have Xb5 := hide b5
                  have Xhrd5 := hide hrd5
                  clear b4 k4 hrd4 hK2 hrl k5 tt b5 hrd5
                  refine wpAnyH_ready (rs := [11]) (by kernel_rfl) (by simp) ?_
                  refine AllReadyH.cons (o := ?_) ?_ (fun K hK => ?_) AllReadyH.nil
                  rotate_left 1
                  · (try simp only [List.getElem?_toArray, List.getElem?_cons_succ, List.getElem?_cons_zero]); rfl
                  go_simp
                  refine hK.out _ _ ?_ (fun hHeld => ?_)
                  · exact XhS.out _ Xb5.out
                  clear hK K
                  try simp only [Act.put, List.setIfInBounds_toArray, List.set_cons_zero, List.set_cons_succ]
                  generalize (w4.setCell ⟨wd.heap.size, 0, none⟩ (.int .i64 l)).setCell ⟨wd.heap.size, 1, none⟩ (.slice A n c) = w5 at *
                  refine wpAnyH_take (i := 12) (oi := ?_) (v := ?_) ?_ (by kernel_rfl) (by kernel_rfl) (by kernel_rfl) ?_ (Or.inl ⟨?_, ?_⟩) (by assumption) ?_
                  rotate_left 2
                  · (try simp only [List.getElem?_toArray, List.getElem?_cons_succ, List.getElem?_cons_zero]); rfl
                  · exact fun _ _ _ h => h
                  · rfl
                  · (intro wS hwS; (try dsimp only at hwS); go_simp; all_goals with_reducible rfl)
                  try simp only [Act.put, List.setIfInBounds_toArray, List.set_cons_zero, List.set_cons_succ]
                  refine wpAnyH_done (by kernel_rfl) ?_ _
                  obtain ⟨q0, q1, q2, q3, p0, p1⟩ := id hHeld
                  have d3 := (Xk5.out.cell 0).trans rfl
                  have d4 := (Xk5.out.cell 1).trans rfl
                  have t5 := Xtd.out.next Xb5.out
                  have rc5 := (Rd.below Xrcd.out Xb5.out (fun b hb => hb)).mono (F' := fun b => b < w5.heap.size) (fun b hb' => Nat.lt_of_lt_of_le hb' Xb5.out.size)
                  have hrw := Xhrd5.out
                  have Xt5 := hide t5
                  have Xrc5 := hide rc5
                  have Xhrw := hide hrw
                  clear t5 rc5 hrw
                  cases ok with
                  | false =>
                    go_wp2_with fail
                    go_roundw
                    case rel => exact ⟨k + 1, by omega, by go_num, Xt5.out, Xrc5.out⟩
                    case measure => simp [intOf]; omega
                  | true =>
                    by_cases hx1 : x1 = 0
                    · subst hx1
                      by_cases hnn : n = 0
                      · have hnz : ((n : Int) == 0) = true := by simp; omega
                        go_wp2_with fail
                        go_roundw
                        case rel => exact ⟨k + 1, by omega, by go_num, Xt5.out, Xrc5.out⟩
                        case measure => simp [intOf]; omega
                      · have hnz : ((n : Int) == 0) = false := by simp; omega
                        obtain ⟨to, d', hw, hd', hmem⟩ := Xsp.out rfl rfl (fun e => hnn (by rw [Xhn.out, e]; rfl))
                        have hto : to < nD := by rw [XhnD.out]; exact (List.getElem?_eq_some_iff.1 hd').1
                        have cw := auto_Walk Xt5.out.rd (fun b hb => hb) Xhrw.out (fun b hb => hb) (a : Int)
                        rw [hw] at cw
                        have hd1 : decide ((to : Int) < 0) = false := decide_eq_false (by omega)
                        have hd2 : decide ((to : Int) ≥ (nD : Int)) = false := decide_eq_false (by omega)
                        rw [← Xhn.out] at hmem
                        have hk5 := Xk5.out
                        clear hw
                        have Xcw := hide cw
                        have Xhd' := hide hd'
                        have Xhmem := hide hmem
                        have Xhk5 := hide hk5
                        clear cw hd' hmem hk5
                        go_wp2_with fail
                        with_reducible refine Xcw.out.mono ?_
                        rintro e w6 ⟨rfl, b6⟩
                        have t6 := Xt5.out.next b6
                        have k6 := Xhk5.out.below b6 Xhk5.out.lt
                        have rc6 := (Rd.below Xrc5.out b6 (fun b hb => hb)).mono (F' := fun b => b < w6.heap.size) (fun b hb' => Nat.lt_of_lt_of_le hb' b6.size)
                        have dr := (Below.refl w6.heap.size w6).drew
                        have p0' := (b6.cell (World.block_lt_of_cell? _ _ p0)).trans p0
                        clear Xt5 Xcw b6 Xhk5 Xrc5 d3 d4 p0 p1 q0 q1 q2 q3
                        have d3 := (k6.cell 0).trans rfl
                        have d4 := (k6.cell 1).trans rfl
                        obtain ⟨-, -, -, hcellD⟩ := t6.rd.at_
                        obtain ⟨bT, oT, eA, -, hcs⟩ := hcellD (by omega)
                        cases eA
                        obtain ⟨z1, z2, v1, v2, r1, r2⟩ := hcs to d' Xhd'.out
                        obtain ⟨A4, n4, c4, rfl, -⟩ := id r1
                        obtain ⟨-, hnc4, hcm4, -⟩ := RdIt.at_ r1
                        unfold maxLen at hcm4
                        have ch := law13_holds (r1.below dr (fun b hb => hb)) (fun b hb => Nat.lt_of_lt_of_le hb dr.size) (x0, (n : Int)) Xhmem.out
                        clear hcellD hcs r1 r2
                        have Xt6 := hide t6
                        have Xrc6 := hide rc6
                        have Xch := hide ch
                        have Xk6 := hide k6
                        have Xdr := hide dr
                        clear t6 rc6 ch k6 dr
                        go_wp2_with fail
                        refine region_tail 23 (by kernel_rfl) (by kernel_rfl) ?_
                        simp only [List.take_succ_cons, List.take_zero, List.drop_succ_cons, List.drop_zero]
                        repeat still_step
                        refine wpStill_nil ?_
                        go_wp2_with fail
                        with_reducible refine Xch.out.mono ?_
                        rintro e w7 ⟨rfl, b7⟩
                        have bb7 := Xdr.out.trans (b7.mono Xdr.out.size)
                        have t7 := Xt6.out.next bb7
                        have rc7 := (Rd.below Xrc6.out bb7 (fun b hb => hb)).mono (F' := fun b => b < w7.heap.size) (fun b hb' => Nat.lt_of_lt_of_le hb' bb7.size)
                        clear b7 bb7 Xch Xt6 Xrc6 v1 v2 d3 d4 p0'
                        have Xt7 := hide t7
                        have Xrc7 := hide rc7
                        clear t7 rc7
                        go_wp2_with fail
                        go_roundw
                        case rel => exact ⟨k + 1, by omega, by go_num, Xt7.out, Xrc7.out⟩
                        case measure => simp [intOf]; omega
                    · have hxn : (x1 != 0) = true := by simpa using hx1
                      go_wp2_with fail
                      go_roundw
                      case rel => exact ⟨k + 1, by omega, by go_num, Xt5.out, Xrc5.out⟩
                      case measure => simp [intOf]; omega
                · exact AllReadyH.nil
            · have hltk' : ¬ (k : Int) < (n0 : Int) := by omega
              have Xt := hide t
              have Xrc := hide rc
              clear t rc
              go_wp2_with fail
              go_roundw
              case rel => exact ⟨a + 1, by omega, by go_num, Xt.out⟩
              case measure => simp [intOf]; omega
        · have hlta' : ¬ (a : Int) < (nD : Int) := by omega
          have Xt := hide t
          clear t
          go_wp2_with fail
          have t := Xt.out
          refine (law13_awake _).mono ?_
          rintro e w9 ⟨rfl, b9⟩
          have bb9 := t.le.trans (b9.mono t.le.size)
          clear b9
          have Xbb9 := hide bb9
          clear bb9
          go_wp2_with fail
          go_ret
          exact ⟨rfl, Xbb9.out⟩
    · have hee : (ev != 0) = true := by simpa using hev
      clear g3 rd3 hai hev Xhsp
      have Xbb3 := hide bb3
      clear bb3
      go_wp2_with fail
      refine (law13_awake _).mono ?_
      rintro e w9 ⟨rfl, b9⟩
      have bb9 := Xbb3.out.trans (b9.mono Xbb3.out.size)
      clear b9
      have Xbb9 := hide bb9
      clear bb9
      go_wp2_with fail
      go_ret
      exact ⟨rfl, Xbb9.out⟩
end Go.Proofs.Ytlpokomfljmogaa

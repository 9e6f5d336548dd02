/- The law ItemTells: the walk. -/
import Derived.Test.YtlpokomfljmogaaGreatItemCloses
namespace Go.Proofs.YtlpokomfljmogaaGreat
set_option linter.unusedVariables false
set_option linter.unusedSimpArgs false
open Go.RowKit
attribute [local irreducible] wpStill wpOne wpPh

theorem MayClose.no {w w' : World} {G : GramD} {st : Int} {l : List It} {e : Ending} (h : MayClose false w G st l e w') : ItPost w [] e w' := by
  unfold MayClose at h
  rwa [if_neg (by simp)] at h
set_option maxRecDepth 100000 in
set_option maxHeartbeats 8000000 in
theorem walk_ItemTells (C : Array Value) (G : GramD) (v : Value) (l : List It) (s : Int) (w : World) (hg : GramCells w C.toList G) (hv : RdL w (· < w.heap.size) 2 (fun cs x => ItemWf cs x) v l ∧ l.length * 16 ≤ 140737488351232) (hs : (Lit.int .i64 s).wf = true) :
    Calls Tryz.prog 3 #[.agg C, v, .int .i64 s] w (Quiet w (.bool true)) := by
  obtain ⟨vt, vn, vr, hC, hg, -⟩ := hg
  obtain rfl : C = #[vt, vn, vr, .int .i64 G.start] := Array.toList_inj.1 hC
  clear hC hs
  obtain ⟨hv, hwf⟩ := rdl_items hv.1
  obtain ⟨Av, nv, cv, rfl, -⟩ := id hv
  obtain ⟨hnv, hnc, hcm, -⟩ := RdIt.at_ hv
  unfold maxLen at hcm
  generalize G.start = st at *
  obtain ⟨A1, c1, A2, c2, A3, c3, rfl, rfl, rfl, -⟩ := hg.slices
  obtain ⟨w1, hw1⟩ : ∃ w1, w1 = w.alloc (.cells #[.slice A1 G.terms.length c1, .slice A2 G.nons.length c2, .slice A3 G.rules.length c3, .int .i64 st] 25) := ⟨_, rfl⟩
  have g1 := GBox.new hg st
  have b1 : Below w.heap.size w w1 := by rw [hw1]; exact (Below.refl _ w).alloc (Nat.le_refl _) _
  rw [← hw1] at g1
  have t1 : LSt w w1 (· < w.heap.size) A1 c1 A2 c2 A3 c3 G.terms.length G.nons.length G.rules.length st G := ⟨g1, b1⟩
  have rv1 := RdIt.up hv b1
  have hm := law_much g1.gram st
  have cC := fun wr (g : GBox wr (· < w.heap.size) w.heap.size A1 c1 A2 c2 A3 c3 G.terms.length G.nons.length G.rules.length st G) => ref_check g.gram st
  have cl := fun wr (g : GBox wr (· < w.heap.size) w.heap.size A1 c1 A2 c2 A3 c3 G.terms.length G.nons.length G.rules.length st G) (hl : RdIt wr (fun b => b < wr.heap.size) (.slice Av nv cv) l) => item_Close g.gram g.gram.lt st hl hwf
  have cs := fun wr (g : GBox wr (· < w.heap.size) w.heap.size A1 c1 A2 c2 A3 c3 G.terms.length G.nons.length G.rules.length st G) (hl : RdIt wr (fun b => b < wr.heap.size) (.slice Av nv cv) l) (hsh : mayB G st = true → ShortG G st) (hlen : l.length ≤ 1000000) => item_Step g.gram g.gram.lt st hl hsh hlen s
  have ck := fun wr (g : GBox wr (· < w.heap.size) w.heap.size A1 c1 A2 c2 A3 c3 G.terms.length G.nons.length G.rules.length st G) (hl : RdIt wr (fun b => b < wr.heap.size) (.slice Av nv cv) l) (hlen : l.length ≤ 1000000) => item_Kernel g.gram g.gram.lt st hl hlen
  have cg := fun wr (g : GBox wr (· < w.heap.size) w.heap.size A1 c1 A2 c2 A3 c3 G.terms.length G.nons.length G.rules.length st G) => item_Begin g.gram st
  have rl := fun wr (g : GBox wr (· < w.heap.size) w.heap.size A1 c1 A2 c2 A3 c3 G.terms.length G.nons.length G.rules.length st G) (hl : RdIt wr (fun b => b < wr.heap.size) (.slice Av nv cv) l) (hsh : ShortG G st) (hrl : G.rules.length ≤ 300) => ref12_Close g.gram st hl hsh hrl
  have rs := fun wr (g : GBox wr (· < w.heap.size) w.heap.size A1 c1 A2 c2 A3 c3 G.terms.length G.nons.length G.rules.length st G) (hl : RdIt wr (fun b => b < wr.heap.size) (.slice Av nv cv) l) (hsh : ShortG G st) (hlen : l.length ≤ 1000000) => ref12_Step g.gram st hl hsh hlen s
  have rk := fun wr (g : GBox wr (· < w.heap.size) w.heap.size A1 c1 A2 c2 A3 c3 G.terms.length G.nons.length G.rules.length st G) (hl : RdIt wr (fun b => b < wr.heap.size) (.slice Av nv cv) l) (hlen : l.length ≤ 1000000) => ref12_Kernel g.gram st hl hlen
  have rg := fun wr (g : GBox wr (· < w.heap.size) w.heap.size A1 c1 A2 c2 A3 c3 G.terms.length G.nons.length G.rules.length st G) => ref12_Begin g.gram st
  have cb := fun wr (g : GBox wr (· < w.heap.size) w.heap.size A1 c1 A2 c2 A3 c3 G.terms.length G.nons.length G.rules.length st G) x => item_Behind g.gram st x
  have rb := fun wr (g : GBox wr (· < w.heap.size) w.heap.size A1 c1 A2 c2 A3 c3 G.terms.length G.nons.length G.rules.length st G) x => ref12_behind g.gram st x
  have cr := fun wr (g : GBox wr (· < w.heap.size) w.heap.size A1 c1 A2 c2 A3 c3 G.terms.length G.nons.length G.rules.length st G) x => item_Right g.gram st x
  have rr := fun wr (g : GBox wr (· < w.heap.size) w.heap.size A1 c1 A2 c2 A3 c3 G.terms.length G.nons.length G.rules.length st G) x => ref12_right g.gram st x
  have hrl3 : checkOf G st = 0 → G.rules.length ≤ 300 := fun h => (KnI.of_check h).r
  have hkn : checkOf G st = 0 → KnI G st := KnI.of_check
  have hmy : checkOf G st = 0 → mayB G st = true := fun h => decide_eq_true h
  have hmn : checkOf G st ≠ 0 → mayB G st = false := fun h => decide_eq_false h
  obtain ⟨q0, q1, q2, q3⟩ := g1.cells
  generalize G.terms.length = T at *
  generalize G.nons.length = N at *
  generalize hR : G.rules.length = R at *
  obtain ⟨F, hF⟩ : ∃ F : Nat → Prop, F = fun b => b < w.heap.size := ⟨_, rfl⟩
  rw [← hF] at t1
  rw [← hF] at cC cl cs ck cg rl rs rk rg cb rb cr rr
  rw [hw1] at q0 q1 q2 q3 hm
  clear hg hF g1 b1 hv
  generalize hcz : checkOf G st = cz at *
  have Xhm := hide hm
  have XcC := hide cC
  have Xcl := hide cl
  have Xcs := hide cs
  have Xck := hide ck
  have Xcg := hide cg
  have Xrl := hide rl
  have Xrs := hide rs
  have Xrk := hide rk
  have Xrg := hide rg
  have Xcb := hide cb
  have Xrb := hide rb
  have Xcr := hide cr
  have Xrr := hide rr
  have Xhrl3 := hide hrl3
  have Xhmn := hide hmn
  have Xt1 := hide t1
  have Xrv1 := hide rv1
  have Xhkn := hide hkn
  have Xhmy := hide hmy
  have Xhcz := hide hcz
  have Xhwf := hide hwf
  have Xhnv := hide hnv
  have XhR := hide hR
  clear hm cC cl cs ck cg rl rs rk rg cb rb cr rr hrl3 hmn t1 rv1 hkn hmy hcz hwf hnv hR
  go_enter Tryz.func3, Tryz.ntmps3
  go_wp2_with fail
  refine Xhm.out.mono ?_
  rintro e w2 ⟨r, hr, rfl, b2⟩
  rw [← hw1] at b2
  have t2 := Xt1.out.below b2
  have rv2 := RdIt.up Xrv1.out b2
  clear q0 q1 q2 q3 hw1 Xhm Xt1 Xrv1 b2 hr
  obtain ⟨q0, q1, q2, q3⟩ := t2.g.cells
  have hb2 := t2.le
  by_cases hbig : 100 < r
  · have Xhb2 := hide hb2
    have Xt2 := hide t2
    have Xrv2 := hide rv2
    clear hb2 t2 rv2
    go_wp2_with fail
    with_reducible refine (law12_awake _).mono ?_
    rintro e w3 ⟨rfl, b3⟩
    go_wp2_with fail
    go_ret
    exact ⟨rfl, Xhb2.out.trans (b3.mono Xhb2.out.size)⟩
  by_cases hlong : (40 : Int) < (nv : Int)
  · have Xhb2 := hide hb2
    have Xt2 := hide t2
    have Xrv2 := hide rv2
    clear hb2 t2 rv2
    go_wp2_with fail
    with_reducible refine (law12_awake _).mono ?_
    rintro e w3 ⟨rfl, b3⟩
    go_wp2_with fail
    go_ret
    exact ⟨rfl, Xhb2.out.trans (b3.mono Xhb2.out.size)⟩
  have hll : l.length ≤ 1000000 := by have := Xhnv.out; omega
  have cc := XcC.out _ t2.g
  clear hb2
  have Xt2 := hide t2
  have Xrv2 := hide rv2
  have Xcc := hide cc
  have Xhll := hide hll
  clear t2 rv2 cc hll
  go_wp2_with fail
  with_reducible refine Xcc.out.mono ?_
  rintro e w3 ⟨rfl, b3⟩
  have t3 := Xt2.out.below b3
  have rv3 := RdIt.up Xrv2.out b3
  clear q0 q1 q2 q3 b3 Xt2 Xrv2 Xcc XcC
  by_cases hz : cz = 0
  case neg =>
    have hz' : (cz != 0) = true := by simpa using hz
    have hm := Xhmn.out hz
    have Xt3 := hide t3
    have Xrv3 := hide rv3
    have Xhm := hide hm
    have Xhz := hide hz
    clear t3 rv3 hm hz
    go_wp2_with fail
    go_loopw [7] (fun i wr => ∃ k : Nat, k ≤ nv ∧ i = .int .i64 k ∧ LSt w wr F A1 c1 A2 c2 A3 c3 T N R st G ∧ RdIt wr (fun b => b < wr.heap.size) (.slice Av nv cv) l) (fun i _ => nv - (intOf i).toNat)
    case atStart => exact ⟨0, Nat.zero_le _, rfl, Xt3.out, Xrv3.out⟩
    case round =>
      clear Xt3 Xrv3
      obtain ⟨k, hk, rfl, t, rv⟩ := hrel
      by_cases hlt : k < nv
      · skip
        have hlt' : (k : Int) < (nv : Int) := by omega
        obtain ⟨-, -, -, hcell⟩ := RdIt.at_ rv
        obtain ⟨b, off, hAv, hbl, hcc⟩ := hcell (by omega)
        obtain ⟨⟨x0, x1⟩, hx⟩ : ∃ x, l[k]? = some x := ⟨_, List.getElem?_eq_getElem (by rw [← Xhnv.out]; exact hlt)⟩
        obtain ⟨p0, p1⟩ := hcc k _ hx
        simp only at p0 p1
        obtain ⟨q0, q1, q2, q3⟩ := t.g.cells
        have t4 := t.below ((Below.refl _ wr).drew)
        have rv4 := RdIt.up rv ((Below.refl _ wr).drew)
        have hbk : b < wr.drew.heap.size := hbl
        clear t rv hcell hcc
        subst hAv
        have cb4 := Xcb.out _ t4.g (x0, x1)
        rw [Xhm.out, if_neg (by simp)] at cb4
        have Xt4 := hide t4
        have Xrv4 := hide rv4
        have Xcb4 := hide cb4
        have Xhx := hide hx
        have Xhbl := hide hbl
        clear t4 rv4 cb4 hx hbl
        go_wp2_with fail
        refine wp_region_held_drew (S := (fun V => V.cell? ⟨w.heap.size, 0, none⟩ = some (.slice A1 T c1) ∧ V.cell? ⟨w.heap.size, 1, none⟩ = some (.slice A2 N c2) ∧ V.cell? ⟨w.heap.size, 2, none⟩ = some (.slice A3 R c3) ∧ V.cell? ⟨w.heap.size, 3, none⟩ = some (.int .i64 st) ∧ V.cell? ⟨b, off + k * 2, none⟩ = some (.int .i64 x0) ∧ V.cell? ⟨b, off + k * 2 + 1, none⟩ = some (.int .i64 x1))) (by kernel_rfl) ?_ (fun hHeld => ?_)
        · exact ⟨q0, q1, q2, q3, p0, p1⟩
        clear q0 q1 q2 q3
        refine wpAnyH_take (i := 0) (oi := ?_) (v := ?_) ?_ (by kernel_rfl) (by kernel_rfl) (by kernel_rfl) ?_ (Or.inl ⟨?_, ?_⟩) (by assumption) ?_
        rotate_left 2
        · (try simp only [List.getElem?_toArray, List.getElem?_cons_succ, List.getElem?_cons_zero]); rfl
        · exact fun _ _ _ h => h
        · rfl
        · (intro wS hwS; (try dsimp only at hwS); go_simp; all_goals with_reducible rfl)
        try simp only [Act.put, List.setIfInBounds_toArray, List.set_cons_zero, List.set_cons_succ]
        refine wpAnyH_take (i := 1) (oi := ?_) (v := ?_) ?_ (by kernel_rfl) (by kernel_rfl) (by kernel_rfl) ?_ (Or.inl ⟨?_, ?_⟩) (by assumption) ?_
        rotate_left 2
        · (try simp only [List.getElem?_toArray, List.getElem?_cons_succ, List.getElem?_cons_zero]); rfl
        · exact fun _ _ _ h => h
        · rfl
        · (intro wS hwS; (try dsimp only at hwS); go_simp; all_goals with_reducible rfl)
        try simp only [Act.put, List.setIfInBounds_toArray, List.set_cons_zero, List.set_cons_succ]
        refine wpAnyH_take (i := 2) (oi := ?_) (v := ?_) ?_ (by kernel_rfl) (by kernel_rfl) (by kernel_rfl) ?_ (Or.inl ⟨?_, ?_⟩) (by assumption) ?_
        rotate_left 2
        · (try simp only [List.getElem?_toArray, List.getElem?_cons_succ, List.getElem?_cons_zero]); rfl
        · exact fun _ _ _ h => h
        · rfl
        · (intro wS hwS; (try dsimp only at hwS); go_simp; all_goals with_reducible rfl)
        try simp only [Act.put, List.setIfInBounds_toArray, List.set_cons_zero, List.set_cons_succ]
        refine wpAnyH_take (i := 3) (oi := ?_) (v := ?_) ?_ (by kernel_rfl) (by kernel_rfl) (by kernel_rfl) ?_ (Or.inl ⟨?_, ?_⟩) (by assumption) ?_
        rotate_left 2
        · (try simp only [List.getElem?_toArray, List.getElem?_cons_succ, List.getElem?_cons_zero]); rfl
        · exact fun _ _ _ h => h
        · rfl
        · (intro wS hwS; (try dsimp only at hwS); go_simp; all_goals with_reducible rfl)
        try simp only [Act.put, List.setIfInBounds_toArray, List.set_cons_zero, List.set_cons_succ]
        refine wpAnyH_take (i := 4) (oi := ?_) (v := ?_) ?_ (by kernel_rfl) (by kernel_rfl) (by kernel_rfl) ?_ (Or.inl ⟨?_, ?_⟩) (by assumption) ?_
        rotate_left 2
        · (try simp only [List.getElem?_toArray, List.getElem?_cons_succ, List.getElem?_cons_zero]); rfl
        · exact fun _ _ _ h => h
        · rfl
        · (intro wS hwS; (try dsimp only at hwS); go_simp; all_goals with_reducible rfl)
        try simp only [Act.put, List.setIfInBounds_toArray, List.set_cons_zero, List.set_cons_succ]
        refine wpAnyH_ready (rs := [5]) (by kernel_rfl) (by simp) ?_
        refine AllReadyH.cons (o := ?_) ?_ (fun K hK => ?_) AllReadyH.nil
        rotate_left 1
        · (try simp only [List.getElem?_toArray, List.getElem?_cons_succ, List.getElem?_cons_zero]); rfl
        go_simp
        go_at_call 15
        refine (Xcb4.out).mono ?_
        rintro e w5 ⟨rfl, b5⟩
        have t5 := Xt4.out.below b5
        have rv5 := RdIt.up Xrv4.out b5
        have hbk5 : b < w5.heap.size := Nat.lt_of_lt_of_le hbk b5.size
        have p0 := (b5.cell (p := ⟨b, off + k * 2, none⟩) hbk).trans p0
        have p1 := (b5.cell (p := ⟨b, off + k * 2 + 1, none⟩) hbk).trans p1
        refine hK.out _ _ ?_ (fun hHeld => ?_)
        · exact ⟨t5.g.cells.1, t5.g.cells.2.1, t5.g.cells.2.2.1, t5.g.cells.2.2.2, p0, p1⟩
        clear hK K
        try simp only [Act.put, List.setIfInBounds_toArray, List.set_cons_zero, List.set_cons_succ]
        clear Xt4 Xrv4 b5
        have Xt5 := hide t5
        have Xrv5 := hide rv5
        clear t5 rv5
        clear Xcb4
        refine wpAnyH_take (i := 6) (oi := ?_) (v := ?_) ?_ (by kernel_rfl) (by kernel_rfl) (by kernel_rfl) ?_ (Or.inl ⟨?_, ?_⟩) (by assumption) ?_
        rotate_left 2
        · (try simp only [List.getElem?_toArray, List.getElem?_cons_succ, List.getElem?_cons_zero]); rfl
        · exact fun _ _ _ h => h
        · rfl
        · (intro wS hwS; (try dsimp only at hwS); go_simp; all_goals with_reducible rfl)
        try simp only [Act.put, List.setIfInBounds_toArray, List.set_cons_zero, List.set_cons_succ]
        refine wpAnyH_take (i := 7) (oi := ?_) (v := ?_) ?_ (by kernel_rfl) (by kernel_rfl) (by kernel_rfl) ?_ (Or.inl ⟨?_, ?_⟩) (by assumption) ?_
        rotate_left 2
        · (try simp only [List.getElem?_toArray, List.getElem?_cons_succ, List.getElem?_cons_zero]); rfl
        · exact fun _ _ _ h => h
        · rfl
        · (intro wS hwS; (try dsimp only at hwS); go_simp; all_goals with_reducible rfl)
        try simp only [Act.put, List.setIfInBounds_toArray, List.set_cons_zero, List.set_cons_succ]
        refine wpAnyH_take (i := 8) (oi := ?_) (v := ?_) ?_ (by kernel_rfl) (by kernel_rfl) (by kernel_rfl) ?_ (Or.inl ⟨?_, ?_⟩) (by assumption) ?_
        rotate_left 2
        · (try simp only [List.getElem?_toArray, List.getElem?_cons_succ, List.getElem?_cons_zero]); rfl
        · exact fun _ _ _ h => h
        · rfl
        · (intro wS hwS; (try dsimp only at hwS); go_simp; all_goals with_reducible rfl)
        try simp only [Act.put, List.setIfInBounds_toArray, List.set_cons_zero, List.set_cons_succ]
        refine wpAnyH_take (i := 9) (oi := ?_) (v := ?_) ?_ (by kernel_rfl) (by kernel_rfl) (by kernel_rfl) ?_ (Or.inl ⟨?_, ?_⟩) (by assumption) ?_
        rotate_left 2
        · (try simp only [List.getElem?_toArray, List.getElem?_cons_succ, List.getElem?_cons_zero]); rfl
        · exact fun _ _ _ h => h
        · rfl
        · (intro wS hwS; (try dsimp only at hwS); go_simp; all_goals with_reducible rfl)
        try simp only [Act.put, List.setIfInBounds_toArray, List.set_cons_zero, List.set_cons_succ]
        refine wpAnyH_take (i := 10) (oi := ?_) (v := ?_) ?_ (by kernel_rfl) (by kernel_rfl) (by kernel_rfl) ?_ (Or.inl ⟨?_, ?_⟩) (by assumption) ?_
        rotate_left 2
        · (try simp only [List.getElem?_toArray, List.getElem?_cons_succ, List.getElem?_cons_zero]); rfl
        · exact fun _ _ _ h => h
        · rfl
        · (intro wS hwS; (try dsimp only at hwS); go_simp; all_goals with_reducible rfl)
        try simp only [Act.put, List.setIfInBounds_toArray, List.set_cons_zero, List.set_cons_succ]
        refine wpAnyH_done (by kernel_rfl) ?_ _
        have hh := hHeld
        clear hHeld
        obtain ⟨q0, q1, q2, q3, p0, p1⟩ := hh
        have t6 := Xt5.out.below ((Below.refl _ w5).drew)
        have rv6 := RdIt.up Xrv5.out ((Below.refl _ w5).drew)
        have hbk6 : b < w5.drew.heap.size := hbk5
        clear Xt5 Xrv5
        have cr6 := Xcr.out _ t6.g (x0, x1)
        rw [Xhm.out, Bool.false_and] at cr6
        have Xt6 := hide t6
        have Xrv6 := hide rv6
        have Xcr6 := hide cr6
        clear t6 rv6 cr6
        go_wp2_with fail
        refine wp_region_held_drew (S := (fun V => V.cell? ⟨w.heap.size, 0, none⟩ = some (.slice A1 T c1) ∧ V.cell? ⟨w.heap.size, 1, none⟩ = some (.slice A2 N c2) ∧ V.cell? ⟨w.heap.size, 2, none⟩ = some (.slice A3 R c3) ∧ V.cell? ⟨w.heap.size, 3, none⟩ = some (.int .i64 st) ∧ V.cell? ⟨b, off + k * 2, none⟩ = some (.int .i64 x0) ∧ V.cell? ⟨b, off + k * 2 + 1, none⟩ = some (.int .i64 x1))) (by kernel_rfl) ?_ (fun hHeld => ?_)
        · exact ⟨q0, q1, q2, q3, p0, p1⟩
        clear q0 q1 q2 q3
        refine wpAnyH_take (i := 0) (oi := ?_) (v := ?_) ?_ (by kernel_rfl) (by kernel_rfl) (by kernel_rfl) ?_ (Or.inl ⟨?_, ?_⟩) (by assumption) ?_
        rotate_left 2
        · (try simp only [List.getElem?_toArray, List.getElem?_cons_succ, List.getElem?_cons_zero]); rfl
        · exact fun _ _ _ h => h
        · rfl
        · (intro wS hwS; (try dsimp only at hwS); go_simp; all_goals with_reducible rfl)
        try simp only [Act.put, List.setIfInBounds_toArray, List.set_cons_zero, List.set_cons_succ]
        refine wpAnyH_take (i := 1) (oi := ?_) (v := ?_) ?_ (by kernel_rfl) (by kernel_rfl) (by kernel_rfl) ?_ (Or.inl ⟨?_, ?_⟩) (by assumption) ?_
        rotate_left 2
        · (try simp only [List.getElem?_toArray, List.getElem?_cons_succ, List.getElem?_cons_zero]); rfl
        · exact fun _ _ _ h => h
        · rfl
        · (intro wS hwS; (try dsimp only at hwS); go_simp; all_goals with_reducible rfl)
        try simp only [Act.put, List.setIfInBounds_toArray, List.set_cons_zero, List.set_cons_succ]
        refine wpAnyH_take (i := 2) (oi := ?_) (v := ?_) ?_ (by kernel_rfl) (by kernel_rfl) (by kernel_rfl) ?_ (Or.inl ⟨?_, ?_⟩) (by assumption) ?_
        rotate_left 2
        · (try simp only [List.getElem?_toArray, List.getElem?_cons_succ, List.getElem?_cons_zero]); rfl
        · exact fun _ _ _ h => h
        · rfl
        · (intro wS hwS; (try dsimp only at hwS); go_simp; all_goals with_reducible rfl)
        try simp only [Act.put, List.setIfInBounds_toArray, List.set_cons_zero, List.set_cons_succ]
        refine wpAnyH_take (i := 3) (oi := ?_) (v := ?_) ?_ (by kernel_rfl) (by kernel_rfl) (by kernel_rfl) ?_ (Or.inl ⟨?_, ?_⟩) (by assumption) ?_
        rotate_left 2
        · (try simp only [List.getElem?_toArray, List.getElem?_cons_succ, List.getElem?_cons_zero]); rfl
        · exact fun _ _ _ h => h
        · rfl
        · (intro wS hwS; (try dsimp only at hwS); go_simp; all_goals with_reducible rfl)
        try simp only [Act.put, List.setIfInBounds_toArray, List.set_cons_zero, List.set_cons_succ]
        refine wpAnyH_take (i := 4) (oi := ?_) (v := ?_) ?_ (by kernel_rfl) (by kernel_rfl) (by kernel_rfl) ?_ (Or.inl ⟨?_, ?_⟩) (by assumption) ?_
        rotate_left 2
        · (try simp only [List.getElem?_toArray, List.getElem?_cons_succ, List.getElem?_cons_zero]); rfl
        · exact fun _ _ _ h => h
        · rfl
        · (intro wS hwS; (try dsimp only at hwS); go_simp; all_goals with_reducible rfl)
        try simp only [Act.put, List.setIfInBounds_toArray, List.set_cons_zero, List.set_cons_succ]
        refine wpAnyH_take (i := 5) (oi := ?_) (v := ?_) ?_ (by kernel_rfl) (by kernel_rfl) (by kernel_rfl) ?_ (Or.inl ⟨?_, ?_⟩) (by assumption) ?_
        rotate_left 2
        · (try simp only [List.getElem?_toArray, List.getElem?_cons_succ, List.getElem?_cons_zero]); rfl
        · exact fun _ _ _ h => h
        · rfl
        · (intro wS hwS; (try dsimp only at hwS); go_simp; all_goals with_reducible rfl)
        try simp only [Act.put, List.setIfInBounds_toArray, List.set_cons_zero, List.set_cons_succ]
        refine wpAnyH_take (i := 6) (oi := ?_) (v := ?_) ?_ (by kernel_rfl) (by kernel_rfl) (by kernel_rfl) ?_ (Or.inl ⟨?_, ?_⟩) (by assumption) ?_
        rotate_left 2
        · (try simp only [List.getElem?_toArray, List.getElem?_cons_succ, List.getElem?_cons_zero]); rfl
        · exact fun _ _ _ h => h
        · rfl
        · (intro wS hwS; (try dsimp only at hwS); go_simp; all_goals with_reducible rfl)
        try simp only [Act.put, List.setIfInBounds_toArray, List.set_cons_zero, List.set_cons_succ]
        refine wpAnyH_take (i := 7) (oi := ?_) (v := ?_) ?_ (by kernel_rfl) (by kernel_rfl) (by kernel_rfl) ?_ (Or.inl ⟨?_, ?_⟩) (by assumption) ?_
        rotate_left 2
        · (try simp only [List.getElem?_toArray, List.getElem?_cons_succ, List.getElem?_cons_zero]); rfl
        · exact fun _ _ _ h => h
        · rfl
        · (intro wS hwS; (try dsimp only at hwS); go_simp; all_goals with_reducible rfl)
        try simp only [Act.put, List.setIfInBounds_toArray, List.set_cons_zero, List.set_cons_succ]
        refine wpAnyH_take (i := 8) (oi := ?_) (v := ?_) ?_ (by kernel_rfl) (by kernel_rfl) (by kernel_rfl) ?_ (Or.inl ⟨?_, ?_⟩) (by assumption) ?_
        rotate_left 2
        · (try simp only [List.getElem?_toArray, List.getElem?_cons_succ, List.getElem?_cons_zero]); rfl
        · exact fun _ _ _ h => h
        · rfl
        · (intro wS hwS; (try dsimp only at hwS); go_simp; all_goals with_reducible rfl)
        try simp only [Act.put, List.setIfInBounds_toArray, List.set_cons_zero, List.set_cons_succ]
        refine wpAnyH_take (i := 9) (oi := ?_) (v := ?_) ?_ (by kernel_rfl) (by kernel_rfl) (by kernel_rfl) ?_ (Or.inl ⟨?_, ?_⟩) (by assumption) ?_
        rotate_left 2
        · (try simp only [List.getElem?_toArray, List.getElem?_cons_succ, List.getElem?_cons_zero]); rfl
        · exact fun _ _ _ h => h
        · rfl
        · (intro wS hwS; (try dsimp only at hwS); go_simp; all_goals with_reducible rfl)
        try simp only [Act.put, List.setIfInBounds_toArray, List.set_cons_zero, List.set_cons_succ]
        refine wpAnyH_take (i := 10) (oi := ?_) (v := ?_) ?_ (by kernel_rfl) (by kernel_rfl) (by kernel_rfl) ?_ (Or.inl ⟨?_, ?_⟩) (by assumption) ?_
        rotate_left 2
        · (try simp only [List.getElem?_toArray, List.getElem?_cons_succ, List.getElem?_cons_zero]); rfl
        · exact fun _ _ _ h => h
        · rfl
        · (intro wS hwS; (try dsimp only at hwS); go_simp; all_goals with_reducible rfl)
        try simp only [Act.put, List.setIfInBounds_toArray, List.set_cons_zero, List.set_cons_succ]
        refine wpAnyH_ready (rs := [11]) (by kernel_rfl) (by simp) ?_
        refine AllReadyH.cons (o := ?_) ?_ (fun K hK => ?_) AllReadyH.nil
        rotate_left 1
        · (try simp only [List.getElem?_toArray, List.getElem?_cons_succ, List.getElem?_cons_zero]); rfl
        go_simp
        go_at_call 16
        refine (Xcr6.out).mono ?_
        rintro e w7 ⟨rfl, b7⟩
        have t7 := Xt6.out.below b7
        have rv7 := RdIt.up Xrv6.out b7
        have hbk7 : b < w7.heap.size := Nat.lt_of_lt_of_le hbk6 b7.size
        have p0 := (b7.cell (p := ⟨b, off + k * 2, none⟩) hbk6).trans p0
        have p1 := (b7.cell (p := ⟨b, off + k * 2 + 1, none⟩) hbk6).trans p1
        refine hK.out _ _ ?_ (fun hHeld => ?_)
        · exact ⟨t7.g.cells.1, t7.g.cells.2.1, t7.g.cells.2.2.1, t7.g.cells.2.2.2, p0, p1⟩
        clear hK K
        try simp only [Act.put, List.setIfInBounds_toArray, List.set_cons_zero, List.set_cons_succ]
        clear Xt6 Xrv6 b7
        have Xt7 := hide t7
        have Xrv7 := hide rv7
        clear t7 rv7
        clear Xcr6
        refine wpAnyH_take (i := 12) (oi := ?_) (v := ?_) ?_ (by kernel_rfl) (by kernel_rfl) (by kernel_rfl) ?_ (Or.inl ⟨?_, ?_⟩) (by assumption) ?_
        rotate_left 2
        · (try simp only [List.getElem?_toArray, List.getElem?_cons_succ, List.getElem?_cons_zero]); rfl
        · exact fun _ _ _ h => h
        · rfl
        · (intro wS hwS; (try dsimp only at hwS); go_simp; all_goals with_reducible rfl)
        try simp only [Act.put, List.setIfInBounds_toArray, List.set_cons_zero, List.set_cons_succ]
        refine wpAnyH_done (by kernel_rfl) ?_ _
        clear hHeld p0 p1
        go_wp2_with fail
        go_roundw
        case rel => exact ⟨k + 1, by omega, by go_num, Xt7.out, Xrv7.out⟩
        case measure => simp [intOf]; omega
      · have hlt' : ¬ (k : Int) < (nv : Int) := by omega
        have t4 := t.below ((Below.refl _ wr).drew)
        have rv4 := RdIt.up rv ((Below.refl _ wr).drew)
        obtain ⟨q0, q1, q2, q3⟩ := t.g.cells
        have cg4 := Xcg.out _ t4.g
        rw [Xhm.out, if_neg (by simp)] at cg4
        clear t rv
        have hw0 : IntKind.i64.wrap 0 = 0 := by decide
        have Xt4 := hide t4
        have Xrv4 := hide rv4
        have Xcg4 := hide cg4
        clear t4 rv4 cg4
        go_wp2_with fail
        refine wp_region_held_drew (S := (fun V => V.cell? ⟨w.heap.size, 0, none⟩ = some (.slice A1 T c1) ∧ V.cell? ⟨w.heap.size, 1, none⟩ = some (.slice A2 N c2) ∧ V.cell? ⟨w.heap.size, 2, none⟩ = some (.slice A3 R c3) ∧ V.cell? ⟨w.heap.size, 3, none⟩ = some (.int .i64 st))) (by kernel_rfl) ?_ (fun hHeld => ?_)
        · exact ⟨q0, q1, q2, q3⟩
        clear q0 q1 q2 q3
        refine wpAnyH_take (i := 0) (oi := ?_) (v := ?_) ?_ (by kernel_rfl) (by kernel_rfl) (by kernel_rfl) ?_ (Or.inl ⟨?_, ?_⟩) (by assumption) ?_
        rotate_left 2
        · (try simp only [List.getElem?_toArray, List.getElem?_cons_succ, List.getElem?_cons_zero]); rfl
        · exact fun _ _ _ h => h
        · rfl
        · (intro wS hwS; (try dsimp only at hwS); go_simp; all_goals with_reducible rfl)
        try simp only [Act.put, List.setIfInBounds_toArray, List.set_cons_zero, List.set_cons_succ]
        refine wpAnyH_take (i := 3) (oi := ?_) (v := ?_) ?_ (by kernel_rfl) (by kernel_rfl) (by kernel_rfl) ?_ (Or.inl ⟨?_, ?_⟩) (by assumption) ?_
        rotate_left 2
        · (try simp only [List.getElem?_toArray, List.getElem?_cons_succ, List.getElem?_cons_zero]); rfl
        · exact fun _ _ _ h => h
        · rfl
        · (intro wS hwS; (try dsimp only at hwS); go_simp; all_goals with_reducible rfl)
        try simp only [Act.put, List.setIfInBounds_toArray, List.set_cons_zero, List.set_cons_succ]
        refine wpAnyH_take (i := 4) (oi := ?_) (v := ?_) ?_ (by kernel_rfl) (by kernel_rfl) (by kernel_rfl) ?_ (Or.inl ⟨?_, ?_⟩) (by assumption) ?_
        rotate_left 2
        · (try simp only [List.getElem?_toArray, List.getElem?_cons_succ, List.getElem?_cons_zero]); rfl
        · exact fun _ _ _ h => h
        · rfl
        · (intro wS hwS; (try dsimp only at hwS); go_simp; all_goals with_reducible rfl)
        try simp only [Act.put, List.setIfInBounds_toArray, List.set_cons_zero, List.set_cons_succ]
        refine wpAnyH_take (i := 8) (oi := ?_) (v := ?_) ?_ (by kernel_rfl) (by kernel_rfl) (by kernel_rfl) ?_ (Or.inl ⟨?_, ?_⟩) (by assumption) ?_
        rotate_left 2
        · (try simp only [List.getElem?_toArray, List.getElem?_cons_succ, List.getElem?_cons_zero]); rfl
        · exact fun _ _ _ h => h
        · rfl
        · (intro wS hwS; (try dsimp only at hwS); go_simp; all_goals with_reducible rfl)
        try simp only [Act.put, List.setIfInBounds_toArray, List.set_cons_zero, List.set_cons_succ]
        refine wpAnyH_take (i := 9) (oi := ?_) (v := ?_) ?_ (by kernel_rfl) (by kernel_rfl) (by kernel_rfl) ?_ (Or.inl ⟨?_, ?_⟩) (by assumption) ?_
        rotate_left 2
        · (try simp only [List.getElem?_toArray, List.getElem?_cons_succ, List.getElem?_cons_zero]); rfl
        · exact fun _ _ _ h => h
        · rfl
        · (intro wS hwS; (try dsimp only at hwS); go_simp; all_goals with_reducible rfl)
        try simp only [Act.put, List.setIfInBounds_toArray, List.set_cons_zero, List.set_cons_succ]
        refine wpAnyH_take (i := 10) (oi := ?_) (v := ?_) ?_ (by kernel_rfl) (by kernel_rfl) (by kernel_rfl) ?_ (Or.inl ⟨?_, ?_⟩) (by assumption) ?_
        rotate_left 2
        · (try simp only [List.getElem?_toArray, List.getElem?_cons_succ, List.getElem?_cons_zero]); rfl
        · exact fun _ _ _ h => h
        · rfl
        · (intro wS hwS; (try dsimp only at hwS); go_simp; all_goals with_reducible rfl)
        try simp only [Act.put, List.setIfInBounds_toArray, List.set_cons_zero, List.set_cons_succ]
        refine wpAnyH_take (i := 14) (oi := ?_) (v := ?_) ?_ (by kernel_rfl) (by kernel_rfl) (by kernel_rfl) ?_ (Or.inl ⟨?_, ?_⟩) (by assumption) ?_
        rotate_left 2
        · (try simp only [List.getElem?_toArray, List.getElem?_cons_succ, List.getElem?_cons_zero]); rfl
        · exact fun _ _ _ h => h
        · rfl
        · (intro wS hwS; (try dsimp only at hwS); go_simp; all_goals with_reducible rfl)
        try simp only [Act.put, List.setIfInBounds_toArray, List.set_cons_zero, List.set_cons_succ]
        refine wpAnyH_take (i := 15) (oi := ?_) (v := ?_) ?_ (by kernel_rfl) (by kernel_rfl) (by kernel_rfl) ?_ (Or.inl ⟨?_, ?_⟩) (by assumption) ?_
        rotate_left 2
        · (try simp only [List.getElem?_toArray, List.getElem?_cons_succ, List.getElem?_cons_zero]); rfl
        · exact fun _ _ _ h => h
        · rfl
        · (intro wS hwS; (try dsimp only at hwS); go_simp; all_goals with_reducible rfl)
        try simp only [Act.put, List.setIfInBounds_toArray, List.set_cons_zero, List.set_cons_succ]
        refine wpAnyH_ready (rs := [1]) (by kernel_rfl) (by simp) ?_
        refine AllReadyH.cons (o := ?_) ?_ (fun K hK => ?_) AllReadyH.nil
        rotate_left 1
        · (try simp only [List.getElem?_toArray, List.getElem?_cons_succ, List.getElem?_cons_zero]); rfl
        go_simp
        go_at_call 17
        refine (Xcg4.out).mono ?_
        rintro e w5 hp
        obtain ⟨A5, d5, rfl, l5, b5⟩ := ItPost.rd hp
        have t5 := Xt4.out.below b5
        have rv5 := RdIt.up Xrv4.out b5
        refine hK.out _ _ ?_ (fun hHeld => ?_)
        · exact t5.g.cells
        clear hK K
        try simp only [Act.put, List.setIfInBounds_toArray, List.set_cons_zero, List.set_cons_succ]
        clear hp Xt4 Xrv4
        have cl5 := Xcl.out _ t5.g rv5
        rw [Xhm.out] at cl5
        have Xt5 := hide t5
        have Xrv5 := hide rv5
        have Xcl5 := hide cl5
        clear t5 rv5 cl5
        clear l5 b5 Xcg4
        refine wpAnyH_take (i := 2) (oi := ?_) (v := ?_) ?_ (by kernel_rfl) (by kernel_rfl) (by kernel_rfl) ?_ (Or.inl ⟨?_, ?_⟩) (by assumption) ?_
        rotate_left 2
        · (try simp only [List.getElem?_toArray, List.getElem?_cons_succ, List.getElem?_cons_zero]); rfl
        · exact fun _ _ _ h => h
        · rfl
        · (intro wS hwS; (try dsimp only at hwS); go_simp; all_goals with_reducible rfl)
        try simp only [Act.put, List.setIfInBounds_toArray, List.set_cons_zero, List.set_cons_succ]
        refine wpAnyH_ready (rs := [5]) (by kernel_rfl) (by simp) ?_
        refine AllReadyH.cons (o := ?_) ?_ (fun K hK => ?_) AllReadyH.nil
        rotate_left 1
        · (try simp only [List.getElem?_toArray, List.getElem?_cons_succ, List.getElem?_cons_zero]); rfl
        go_simp
        go_at_call 18
        refine Xcl5.out.mono ?_
        rintro e w6 hp
        obtain ⟨A6, d6, rfl, l6, b6⟩ := ItPost.rd (MayClose.no hp)
        have t6 := Xt5.out.below b6
        have rv6 := RdIt.up Xrv5.out b6
        refine hK.out _ _ ?_ (fun hHeld => ?_)
        · exact t6.g.cells
        clear hK K
        try simp only [Act.put, List.setIfInBounds_toArray, List.set_cons_zero, List.set_cons_succ]
        clear hp Xt5 Xrv5 Xcl5 l6 b6
        have cs6 := Xcs.out _ t6.g rv6 (fun e => by rw [Xhm.out] at e; cases e) Xhll.out
        rw [Xhm.out, if_neg (by simp)] at cs6
        have Xt6 := hide t6
        have Xrv6 := hide rv6
        have Xcs6 := hide cs6
        clear t6 rv6 cs6
        refine wpAnyH_take (i := 6) (oi := ?_) (v := ?_) ?_ (by kernel_rfl) (by kernel_rfl) (by kernel_rfl) ?_ (Or.inl ⟨?_, ?_⟩) (by assumption) ?_
        rotate_left 2
        · (try simp only [List.getElem?_toArray, List.getElem?_cons_succ, List.getElem?_cons_zero]); rfl
        · exact fun _ _ _ h => h
        · rfl
        · (intro wS hwS; (try dsimp only at hwS); go_simp; all_goals with_reducible rfl)
        try simp only [Act.put, List.setIfInBounds_toArray, List.set_cons_zero, List.set_cons_succ]
        refine wpAnyH_take (i := 7) (oi := ?_) (v := ?_) ?_ (by kernel_rfl) (by kernel_rfl) (by kernel_rfl) ?_ (Or.inl ⟨?_, ?_⟩) (by assumption) ?_
        rotate_left 2
        · (try simp only [List.getElem?_toArray, List.getElem?_cons_succ, List.getElem?_cons_zero]); rfl
        · exact fun _ _ _ h => h
        · rfl
        · (intro wS hwS; (try dsimp only at hwS); go_simp; all_goals with_reducible rfl)
        try simp only [Act.put, List.setIfInBounds_toArray, List.set_cons_zero, List.set_cons_succ]
        refine wpAnyH_ready (rs := [11]) (by kernel_rfl) (by simp) ?_
        refine AllReadyH.cons (o := ?_) ?_ (fun K hK => ?_) AllReadyH.nil
        rotate_left 1
        · (try simp only [List.getElem?_toArray, List.getElem?_cons_succ, List.getElem?_cons_zero]); rfl
        go_simp
        go_at_call 19
        refine (Xcs6.out).mono ?_
        rintro e w7 hp
        obtain ⟨A7, d7, rfl, l7, b7⟩ := ItPost.rd hp
        have t7 := Xt6.out.below b7
        have rv7 := RdIt.up Xrv6.out b7
        refine hK.out _ _ ?_ (fun hHeld => ?_)
        · exact t7.g.cells
        clear hK K
        try simp only [Act.put, List.setIfInBounds_toArray, List.set_cons_zero, List.set_cons_succ]
        clear hp Xt6 Xrv6
        have ck7 := Xck.out _ t7.g rv7 Xhll.out
        rw [Xhm.out, if_neg (by simp)] at ck7
        have Xt7 := hide t7
        have Xrv7 := hide rv7
        have Xck7 := hide ck7
        clear t7 rv7 ck7
        clear l7 b7 Xcs6
        refine wpAnyH_take (i := 12) (oi := ?_) (v := ?_) ?_ (by kernel_rfl) (by kernel_rfl) (by kernel_rfl) ?_ (Or.inl ⟨?_, ?_⟩) (by assumption) ?_
        rotate_left 2
        · (try simp only [List.getElem?_toArray, List.getElem?_cons_succ, List.getElem?_cons_zero]); rfl
        · exact fun _ _ _ h => h
        · rfl
        · (intro wS hwS; (try dsimp only at hwS); go_simp; all_goals with_reducible rfl)
        try simp only [Act.put, List.setIfInBounds_toArray, List.set_cons_zero, List.set_cons_succ]
        refine wpAnyH_take (i := 13) (oi := ?_) (v := ?_) ?_ (by kernel_rfl) (by kernel_rfl) (by kernel_rfl) ?_ (Or.inl ⟨?_, ?_⟩) (by assumption) ?_
        rotate_left 2
        · (try simp only [List.getElem?_toArray, List.getElem?_cons_succ, List.getElem?_cons_zero]); rfl
        · exact fun _ _ _ h => h
        · rfl
        · (intro wS hwS; (try dsimp only at hwS); go_simp; all_goals with_reducible rfl)
        try simp only [Act.put, List.setIfInBounds_toArray, List.set_cons_zero, List.set_cons_succ]
        refine wpAnyH_ready (rs := [16]) (by kernel_rfl) (by simp) ?_
        refine AllReadyH.cons (o := ?_) ?_ (fun K hK => ?_) AllReadyH.nil
        rotate_left 1
        · (try simp only [List.getElem?_toArray, List.getElem?_cons_succ, List.getElem?_cons_zero]); rfl
        go_simp
        go_at_call 20
        refine (Xck7.out).mono ?_
        rintro e w8 hp
        obtain ⟨A8, d8, rfl, l8, b8⟩ := ItPost.rd hp
        have t8 := Xt7.out.below b8
        have rv8 := RdIt.up Xrv7.out b8
        refine hK.out _ _ ?_ (fun hHeld => ?_)
        · exact t8.g.cells
        clear hK K
        try simp only [Act.put, List.setIfInBounds_toArray, List.set_cons_zero, List.set_cons_succ]
        clear hp Xt7 Xrv7
        clear l8 b8 Xck7 rv8
        have Xt8 := hide t8
        clear t8
        refine wpAnyH_take (i := 17) (oi := ?_) (v := ?_) ?_ (by kernel_rfl) (by kernel_rfl) (by kernel_rfl) ?_ (Or.inl ⟨?_, ?_⟩) (by assumption) ?_
        rotate_left 2
        · (try simp only [List.getElem?_toArray, List.getElem?_cons_succ, List.getElem?_cons_zero]); rfl
        · exact fun _ _ _ h => h
        · rfl
        · (intro wS hwS; (try dsimp only at hwS); go_simp; all_goals with_reducible rfl)
        try simp only [Act.put, List.setIfInBounds_toArray, List.set_cons_zero, List.set_cons_succ]
        refine wpAnyH_take (i := 18) (oi := ?_) (v := ?_) ?_ (by kernel_rfl) (by kernel_rfl) (by kernel_rfl) ?_ (Or.inl ⟨?_, ?_⟩) (by assumption) ?_
        rotate_left 2
        · (try simp only [List.getElem?_toArray, List.getElem?_cons_succ, List.getElem?_cons_zero]); rfl
        · exact fun _ _ _ h => h
        · rfl
        · (intro wS hwS; (try dsimp only at hwS); go_simp; all_goals with_reducible rfl)
        try simp only [Act.put, List.setIfInBounds_toArray, List.set_cons_zero, List.set_cons_succ]
        refine wpAnyH_take (i := 19) (oi := ?_) (v := ?_) ?_ (by kernel_rfl) (by kernel_rfl) (by kernel_rfl) ?_ (Or.inl ⟨?_, ?_⟩) (by assumption) ?_
        rotate_left 2
        · (try simp only [List.getElem?_toArray, List.getElem?_cons_succ, List.getElem?_cons_zero]); rfl
        · exact fun _ _ _ h => h
        · rfl
        · (intro wS hwS; (try dsimp only at hwS); go_simp; all_goals with_reducible rfl)
        try simp only [Act.put, List.setIfInBounds_toArray, List.set_cons_zero, List.set_cons_succ]
        refine wpAnyH_take (i := 20) (oi := ?_) (v := ?_) ?_ (by kernel_rfl) (by kernel_rfl) (by kernel_rfl) ?_ (Or.inl ⟨?_, ?_⟩) (by assumption) ?_
        rotate_left 2
        · (try simp only [List.getElem?_toArray, List.getElem?_cons_succ, List.getElem?_cons_zero]); rfl
        · exact fun _ _ _ h => h
        · rfl
        · (intro wS hwS; (try dsimp only at hwS); go_simp; all_goals with_reducible rfl)
        try simp only [Act.put, List.setIfInBounds_toArray, List.set_cons_zero, List.set_cons_succ]
        refine wpAnyH_ready (rs := [21]) (by kernel_rfl) (by simp) ?_
        refine AllReadyH.cons (o := ?_) ?_ (fun K hK => ?_) AllReadyH.nil
        rotate_left 1
        · (try simp only [List.getElem?_toArray, List.getElem?_cons_succ, List.getElem?_cons_zero]); rfl
        go_simp
        go_at_call 13
        with_reducible refine (law12_awake _).mono ?_
        rintro e wz ⟨rfl, bz⟩
        have tz := Xt8.out.below bz
        refine hK.out _ _ ?_ (fun hHeld => ?_)
        · exact tz.g.cells
        clear hK K
        try simp only [Act.put, List.setIfInBounds_toArray, List.set_cons_zero, List.set_cons_succ]
        have hle := tz.le
        clear bz Xt8 tz
        have Xhle := hide hle
        clear hle
        refine wpAnyH_take (i := 22) (oi := ?_) (v := ?_) ?_ (by kernel_rfl) (by kernel_rfl) (by kernel_rfl) ?_ (Or.inl ⟨?_, ?_⟩) (by assumption) ?_
        rotate_left 2
        · (try simp only [List.getElem?_toArray, List.getElem?_cons_succ, List.getElem?_cons_zero]); rfl
        · exact fun _ _ _ h => h
        · rfl
        · (intro wS hwS; (try dsimp only at hwS); go_simp; all_goals with_reducible rfl)
        try simp only [Act.put, List.setIfInBounds_toArray, List.set_cons_zero, List.set_cons_succ]
        refine wpAnyH_take (i := 23) (oi := ?_) (v := ?_) ?_ (by kernel_rfl) (by kernel_rfl) (by kernel_rfl) ?_ (Or.inl ⟨?_, ?_⟩) (by assumption) ?_
        rotate_left 2
        · (try simp only [List.getElem?_toArray, List.getElem?_cons_succ, List.getElem?_cons_zero]); rfl
        · exact fun _ _ _ h => h
        · rfl
        · (intro wS hwS; (try dsimp only at hwS); go_simp; all_goals with_reducible rfl)
        try simp only [Act.put, List.setIfInBounds_toArray, List.set_cons_zero, List.set_cons_succ]
        refine wpAnyH_done (by kernel_rfl) ?_ _
        go_wp2_with fail
        go_ret
        exact ⟨rfl, Xhle.out⟩
  subst hz
  have hk := Xhkn.out (by first | rfl | trivial)
  have hm := Xhmy.out (by first | rfl | trivial)
  have hr3 := Xhrl3.out (by first | rfl | trivial)
  have Xt3 := hide t3
  have Xrv3 := hide rv3
  have Xhk := hide hk
  have Xhm := hide hm
  have Xhr3 := hide hr3
  clear t3 rv3 hk hm hr3
  go_wp2_with fail
  go_loopw [10] (fun i wr => ∃ k : Nat, k ≤ nv ∧ i = .int .i64 k ∧ LSt w wr F A1 c1 A2 c2 A3 c3 T N R st G ∧ RdIt wr (fun b => b < wr.heap.size) (.slice Av nv cv) l) (fun i _ => nv - (intOf i).toNat)
  case atStart => exact ⟨0, Nat.zero_le _, rfl, Xt3.out, Xrv3.out⟩
  case round =>
    clear Xt3 Xrv3
    obtain ⟨k, hk', rfl, t, rv⟩ := hrel
    by_cases hlt : k < nv
    · skip
      have hlt' : (k : Int) < (nv : Int) := by omega
      obtain ⟨-, -, -, hcell⟩ := RdIt.at_ rv
      obtain ⟨b, off, hAv, hbl, hcc⟩ := hcell (by omega)
      obtain ⟨⟨x0, x1⟩, hx⟩ : ∃ x, l[k]? = some x := ⟨_, List.getElem?_eq_getElem (by rw [← Xhnv.out]; exact hlt)⟩
      obtain ⟨p0, p1⟩ := hcc k _ hx
      simp only at p0 p1
      obtain ⟨q0, q1, q2, q3⟩ := t.g.cells
      have t4 := t.below ((Below.refl _ wr).drew)
      have rv4 := RdIt.up rv ((Below.refl _ wr).drew)
      have hbk : b < wr.drew.heap.size := hbl
      clear t rv hcell hcc
      subst hAv
      obtain ⟨⟨y, ok⟩, hy⟩ : ∃ r, r = behindI G st (x0, x1) := ⟨_, rfl⟩
      have cb4 := Xcb.out _ t4.g (x0, x1)
      rw [Xhm.out, if_pos rfl, ← hy] at cb4
      obtain ⟨rt, hrt⟩ : ∃ r, r = rightI G st (x0, x1) := ⟨_, rfl⟩
      have Xt4 := hide t4
      have Xrv4 := hide rv4
      have Xcb4 := hide cb4
      have Xhx := hide hx
      have Xhbl := hide hbl
      have Xhy := hide hy
      have Xhrt := hide hrt
      clear t4 rv4 cb4 hx hbl hy hrt
      go_wp2_with fail
      refine wp_region_held_drew (S := (fun V => V.cell? ⟨w.heap.size, 0, none⟩ = some (.slice A1 T c1) ∧ V.cell? ⟨w.heap.size, 1, none⟩ = some (.slice A2 N c2) ∧ V.cell? ⟨w.heap.size, 2, none⟩ = some (.slice A3 R c3) ∧ V.cell? ⟨w.heap.size, 3, none⟩ = some (.int .i64 st) ∧ V.cell? ⟨b, off + k * 2, none⟩ = some (.int .i64 x0) ∧ V.cell? ⟨b, off + k * 2 + 1, none⟩ = some (.int .i64 x1))) (by kernel_rfl) ?_ (fun hHeld => ?_)
      · exact ⟨q0, q1, q2, q3, p0, p1⟩
      clear q0 q1 q2 q3
      refine wpAnyH_take (i := 0) (oi := ?_) (v := ?_) ?_ (by kernel_rfl) (by kernel_rfl) (by kernel_rfl) ?_ (Or.inl ⟨?_, ?_⟩) (by assumption) ?_
      rotate_left 2
      · (try simp only [List.getElem?_toArray, List.getElem?_cons_succ, List.getElem?_cons_zero]); rfl
      · exact fun _ _ _ h => h
      · rfl
      · (intro wS hwS; (try dsimp only at hwS); go_simp; all_goals with_reducible rfl)
      try simp only [Act.put, List.setIfInBounds_toArray, List.set_cons_zero, List.set_cons_succ]
      refine wpAnyH_take (i := 1) (oi := ?_) (v := ?_) ?_ (by kernel_rfl) (by kernel_rfl) (by kernel_rfl) ?_ (Or.inl ⟨?_, ?_⟩) (by assumption) ?_
      rotate_left 2
      · (try simp only [List.getElem?_toArray, List.getElem?_cons_succ, List.getElem?_cons_zero]); rfl
      · exact fun _ _ _ h => h
      · rfl
      · (intro wS hwS; (try dsimp only at hwS); go_simp; all_goals with_reducible rfl)
      try simp only [Act.put, List.setIfInBounds_toArray, List.set_cons_zero, List.set_cons_succ]
      refine wpAnyH_take (i := 2) (oi := ?_) (v := ?_) ?_ (by kernel_rfl) (by kernel_rfl) (by kernel_rfl) ?_ (Or.inl ⟨?_, ?_⟩) (by assumption) ?_
      rotate_left 2
      · (try simp only [List.getElem?_toArray, List.getElem?_cons_succ, List.getElem?_cons_zero]); rfl
      · exact fun _ _ _ h => h
      · rfl
      · (intro wS hwS; (try dsimp only at hwS); go_simp; all_goals with_reducible rfl)
      try simp only [Act.put, List.setIfInBounds_toArray, List.set_cons_zero, List.set_cons_succ]
      refine wpAnyH_take (i := 3) (oi := ?_) (v := ?_) ?_ (by kernel_rfl) (by kernel_rfl) (by kernel_rfl) ?_ (Or.inl ⟨?_, ?_⟩) (by assumption) ?_
      rotate_left 2
      · (try simp only [List.getElem?_toArray, List.getElem?_cons_succ, List.getElem?_cons_zero]); rfl
      · exact fun _ _ _ h => h
      · rfl
      · (intro wS hwS; (try dsimp only at hwS); go_simp; all_goals with_reducible rfl)
      try simp only [Act.put, List.setIfInBounds_toArray, List.set_cons_zero, List.set_cons_succ]
      refine wpAnyH_take (i := 4) (oi := ?_) (v := ?_) ?_ (by kernel_rfl) (by kernel_rfl) (by kernel_rfl) ?_ (Or.inl ⟨?_, ?_⟩) (by assumption) ?_
      rotate_left 2
      · (try simp only [List.getElem?_toArray, List.getElem?_cons_succ, List.getElem?_cons_zero]); rfl
      · exact fun _ _ _ h => h
      · rfl
      · (intro wS hwS; (try dsimp only at hwS); go_simp; all_goals with_reducible rfl)
      try simp only [Act.put, List.setIfInBounds_toArray, List.set_cons_zero, List.set_cons_succ]
      refine wpAnyH_ready (rs := [5]) (by kernel_rfl) (by simp) ?_
      refine AllReadyH.cons (o := ?_) ?_ (fun K hK => ?_) AllReadyH.nil
      rotate_left 1
      · (try simp only [List.getElem?_toArray, List.getElem?_cons_succ, List.getElem?_cons_zero]); rfl
      go_simp
      go_at_call 15
      refine (Xcb4.out).mono ?_
      rintro e w5 ⟨rfl, b5⟩
      have t5 := Xt4.out.below b5
      have rv5 := RdIt.up Xrv4.out b5
      have hbk5 : b < w5.heap.size := Nat.lt_of_lt_of_le hbk b5.size
      have p0 := (b5.cell (p := ⟨b, off + k * 2, none⟩) hbk).trans p0
      have p1 := (b5.cell (p := ⟨b, off + k * 2 + 1, none⟩) hbk).trans p1
      refine hK.out _ _ ?_ (fun hHeld => ?_)
      · exact ⟨t5.g.cells.1, t5.g.cells.2.1, t5.g.cells.2.2.1, t5.g.cells.2.2.2, p0, p1⟩
      clear hK K
      try simp only [Act.put, List.setIfInBounds_toArray, List.set_cons_zero, List.set_cons_succ]
      clear Xt4 Xrv4 b5
      have Xt5 := hide t5
      have Xrv5 := hide rv5
      clear t5 rv5
      clear Xcb4
      refine wpAnyH_take (i := 6) (oi := ?_) (v := ?_) ?_ (by kernel_rfl) (by kernel_rfl) (by kernel_rfl) ?_ (Or.inl ⟨?_, ?_⟩) (by assumption) ?_
      rotate_left 2
      · (try simp only [List.getElem?_toArray, List.getElem?_cons_succ, List.getElem?_cons_zero]); rfl
      · exact fun _ _ _ h => h
      · rfl
      · (intro wS hwS; (try dsimp only at hwS); go_simp; all_goals with_reducible rfl)
      try simp only [Act.put, List.setIfInBounds_toArray, List.set_cons_zero, List.set_cons_succ]
      refine wpAnyH_take (i := 7) (oi := ?_) (v := ?_) ?_ (by kernel_rfl) (by kernel_rfl) (by kernel_rfl) ?_ (Or.inl ⟨?_, ?_⟩) (by assumption) ?_
      rotate_left 2
      · (try simp only [List.getElem?_toArray, List.getElem?_cons_succ, List.getElem?_cons_zero]); rfl
      · exact fun _ _ _ h => h
      · rfl
      · (intro wS hwS; (try dsimp only at hwS); go_simp; all_goals with_reducible rfl)
      try simp only [Act.put, List.setIfInBounds_toArray, List.set_cons_zero, List.set_cons_succ]
      refine wpAnyH_take (i := 8) (oi := ?_) (v := ?_) ?_ (by kernel_rfl) (by kernel_rfl) (by kernel_rfl) ?_ (Or.inl ⟨?_, ?_⟩) (by assumption) ?_
      rotate_left 2
      · (try simp only [List.getElem?_toArray, List.getElem?_cons_succ, List.getElem?_cons_zero]); rfl
      · exact fun _ _ _ h => h
      · rfl
      · (intro wS hwS; (try dsimp only at hwS); go_simp; all_goals with_reducible rfl)
      try simp only [Act.put, List.setIfInBounds_toArray, List.set_cons_zero, List.set_cons_succ]
      refine wpAnyH_take (i := 9) (oi := ?_) (v := ?_) ?_ (by kernel_rfl) (by kernel_rfl) (by kernel_rfl) ?_ (Or.inl ⟨?_, ?_⟩) (by assumption) ?_
      rotate_left 2
      · (try simp only [List.getElem?_toArray, List.getElem?_cons_succ, List.getElem?_cons_zero]); rfl
      · exact fun _ _ _ h => h
      · rfl
      · (intro wS hwS; (try dsimp only at hwS); go_simp; all_goals with_reducible rfl)
      try simp only [Act.put, List.setIfInBounds_toArray, List.set_cons_zero, List.set_cons_succ]
      refine wpAnyH_take (i := 10) (oi := ?_) (v := ?_) ?_ (by kernel_rfl) (by kernel_rfl) (by kernel_rfl) ?_ (Or.inl ⟨?_, ?_⟩) (by assumption) ?_
      rotate_left 2
      · (try simp only [List.getElem?_toArray, List.getElem?_cons_succ, List.getElem?_cons_zero]); rfl
      · exact fun _ _ _ h => h
      · rfl
      · (intro wS hwS; (try dsimp only at hwS); go_simp; all_goals with_reducible rfl)
      try simp only [Act.put, List.setIfInBounds_toArray, List.set_cons_zero, List.set_cons_succ]
      refine wpAnyH_done (by kernel_rfl) ?_ _
      have hh := hHeld
      clear hHeld
      obtain ⟨q0, q1, q2, q3, p0, p1⟩ := hh
      have t6 := Xt5.out.below ((Below.refl _ w5).drew)
      have rv6 := RdIt.up Xrv5.out ((Below.refl _ w5).drew)
      have hbk6 : b < w5.drew.heap.size := hbk5
      clear Xt5 Xrv5
      have cr6 := Xrb.out _ t6.g (x0, x1)
      rw [← Xhy.out] at cr6
      have Xt6 := hide t6
      have Xrv6 := hide rv6
      have Xcr6 := hide cr6
      clear t6 rv6 cr6
      go_wp2_with fail
      refine wp_region_held_drew (S := (fun V => V.cell? ⟨w.heap.size, 0, none⟩ = some (.slice A1 T c1) ∧ V.cell? ⟨w.heap.size, 1, none⟩ = some (.slice A2 N c2) ∧ V.cell? ⟨w.heap.size, 2, none⟩ = some (.slice A3 R c3) ∧ V.cell? ⟨w.heap.size, 3, none⟩ = some (.int .i64 st) ∧ V.cell? ⟨b, off + k * 2, none⟩ = some (.int .i64 x0) ∧ V.cell? ⟨b, off + k * 2 + 1, none⟩ = some (.int .i64 x1))) (by kernel_rfl) ?_ (fun hHeld => ?_)
      · exact ⟨q0, q1, q2, q3, p0, p1⟩
      clear q0 q1 q2 q3
      refine wpAnyH_take (i := 0) (oi := ?_) (v := ?_) ?_ (by kernel_rfl) (by kernel_rfl) (by kernel_rfl) ?_ (Or.inl ⟨?_, ?_⟩) (by assumption) ?_
      rotate_left 2
      · (try simp only [List.getElem?_toArray, List.getElem?_cons_succ, List.getElem?_cons_zero]); rfl
      · exact fun _ _ _ h => h
      · rfl
      · (intro wS hwS; (try dsimp only at hwS); go_simp; all_goals with_reducible rfl)
      try simp only [Act.put, List.setIfInBounds_toArray, List.set_cons_zero, List.set_cons_succ]
      refine wpAnyH_take (i := 1) (oi := ?_) (v := ?_) ?_ (by kernel_rfl) (by kernel_rfl) (by kernel_rfl) ?_ (Or.inl ⟨?_, ?_⟩) (by assumption) ?_
      rotate_left 2
      · (try simp only [List.getElem?_toArray, List.getElem?_cons_succ, List.getElem?_cons_zero]); rfl
      · exact fun _ _ _ h => h
      · rfl
      · (intro wS hwS; (try dsimp only at hwS); go_simp; all_goals with_reducible rfl)
      try simp only [Act.put, List.setIfInBounds_toArray, List.set_cons_zero, List.set_cons_succ]
      refine wpAnyH_take (i := 2) (oi := ?_) (v := ?_) ?_ (by kernel_rfl) (by kernel_rfl) (by kernel_rfl) ?_ (Or.inl ⟨?_, ?_⟩) (by assumption) ?_
      rotate_left 2
      · (try simp only [List.getElem?_toArray, List.getElem?_cons_succ, List.getElem?_cons_zero]); rfl
      · exact fun _ _ _ h => h
      · rfl
      · (intro wS hwS; (try dsimp only at hwS); go_simp; all_goals with_reducible rfl)
      try simp only [Act.put, List.setIfInBounds_toArray, List.set_cons_zero, List.set_cons_succ]
      refine wpAnyH_take (i := 3) (oi := ?_) (v := ?_) ?_ (by kernel_rfl) (by kernel_rfl) (by kernel_rfl) ?_ (Or.inl ⟨?_, ?_⟩) (by assumption) ?_
      rotate_left 2
      · (try simp only [List.getElem?_toArray, List.getElem?_cons_succ, List.getElem?_cons_zero]); rfl
      · exact fun _ _ _ h => h
      · rfl
      · (intro wS hwS; (try dsimp only at hwS); go_simp; all_goals with_reducible rfl)
      try simp only [Act.put, List.setIfInBounds_toArray, List.set_cons_zero, List.set_cons_succ]
      refine wpAnyH_take (i := 4) (oi := ?_) (v := ?_) ?_ (by kernel_rfl) (by kernel_rfl) (by kernel_rfl) ?_ (Or.inl ⟨?_, ?_⟩) (by assumption) ?_
      rotate_left 2
      · (try simp only [List.getElem?_toArray, List.getElem?_cons_succ, List.getElem?_cons_zero]); rfl
      · exact fun _ _ _ h => h
      · rfl
      · (intro wS hwS; (try dsimp only at hwS); go_simp; all_goals with_reducible rfl)
      try simp only [Act.put, List.setIfInBounds_toArray, List.set_cons_zero, List.set_cons_succ]
      refine wpAnyH_ready (rs := [5]) (by kernel_rfl) (by simp) ?_
      refine AllReadyH.cons (o := ?_) ?_ (fun K hK => ?_) AllReadyH.nil
      rotate_left 1
      · (try simp only [List.getElem?_toArray, List.getElem?_cons_succ, List.getElem?_cons_zero]); rfl
      go_simp
      go_at_call 21
      refine (Xcr6.out).mono ?_
      rintro e w7 ⟨rfl, b7⟩
      have t7 := Xt6.out.below b7
      have rv7 := RdIt.up Xrv6.out b7
      have hbk7 : b < w7.heap.size := Nat.lt_of_lt_of_le hbk6 b7.size
      have p0 := (b7.cell (p := ⟨b, off + k * 2, none⟩) hbk6).trans p0
      have p1 := (b7.cell (p := ⟨b, off + k * 2 + 1, none⟩) hbk6).trans p1
      refine hK.out _ _ ?_ (fun hHeld => ?_)
      · exact ⟨t7.g.cells.1, t7.g.cells.2.1, t7.g.cells.2.2.1, t7.g.cells.2.2.2, p0, p1⟩
      clear hK K
      try simp only [Act.put, List.setIfInBounds_toArray, List.set_cons_zero, List.set_cons_succ]
      clear Xt6 Xrv6 b7
      have Xt7 := hide t7
      have Xrv7 := hide rv7
      clear t7 rv7
      clear Xcr6
      refine wpAnyH_take (i := 6) (oi := ?_) (v := ?_) ?_ (by kernel_rfl) (by kernel_rfl) (by kernel_rfl) ?_ (Or.inl ⟨?_, ?_⟩) (by assumption) ?_
      rotate_left 2
      · (try simp only [List.getElem?_toArray, List.getElem?_cons_succ, List.getElem?_cons_zero]); rfl
      · exact fun _ _ _ h => h
      · rfl
      · (intro wS hwS; (try dsimp only at hwS); go_simp; all_goals with_reducible rfl)
      try simp only [Act.put, List.setIfInBounds_toArray, List.set_cons_zero, List.set_cons_succ]
      refine wpAnyH_take (i := 7) (oi := ?_) (v := ?_) ?_ (by kernel_rfl) (by kernel_rfl) (by kernel_rfl) ?_ (Or.inl ⟨?_, ?_⟩) (by assumption) ?_
      rotate_left 2
      · (try simp only [List.getElem?_toArray, List.getElem?_cons_succ, List.getElem?_cons_zero]); rfl
      · exact fun _ _ _ h => h
      · rfl
      · (intro wS hwS; (try dsimp only at hwS); go_simp; all_goals with_reducible rfl)
      try simp only [Act.put, List.setIfInBounds_toArray, List.set_cons_zero, List.set_cons_succ]
      refine wpAnyH_take (i := 8) (oi := ?_) (v := ?_) ?_ (by kernel_rfl) (by kernel_rfl) (by kernel_rfl) ?_ (Or.inl ⟨?_, ?_⟩) (by assumption) ?_
      rotate_left 2
      · (try simp only [List.getElem?_toArray, List.getElem?_cons_succ, List.getElem?_cons_zero]); rfl
      · exact fun _ _ _ h => h
      · rfl
      · (intro wS hwS; (try dsimp only at hwS); go_simp; all_goals with_reducible rfl)
      try simp only [Act.put, List.setIfInBounds_toArray, List.set_cons_zero, List.set_cons_succ]
      refine wpAnyH_take (i := 9) (oi := ?_) (v := ?_) ?_ (by kernel_rfl) (by kernel_rfl) (by kernel_rfl) ?_ (Or.inl ⟨?_, ?_⟩) (by assumption) ?_
      rotate_left 2
      · (try simp only [List.getElem?_toArray, List.getElem?_cons_succ, List.getElem?_cons_zero]); rfl
      · exact fun _ _ _ h => h
      · rfl
      · (intro wS hwS; (try dsimp only at hwS); go_simp; all_goals with_reducible rfl)
      try simp only [Act.put, List.setIfInBounds_toArray, List.set_cons_zero, List.set_cons_succ]
      refine wpAnyH_take (i := 10) (oi := ?_) (v := ?_) ?_ (by kernel_rfl) (by kernel_rfl) (by kernel_rfl) ?_ (Or.inl ⟨?_, ?_⟩) (by assumption) ?_
      rotate_left 2
      · (try simp only [List.getElem?_toArray, List.getElem?_cons_succ, List.getElem?_cons_zero]); rfl
      · exact fun _ _ _ h => h
      · rfl
      · (intro wS hwS; (try dsimp only at hwS); go_simp; all_goals with_reducible rfl)
      try simp only [Act.put, List.setIfInBounds_toArray, List.set_cons_zero, List.set_cons_succ]
      refine wpAnyH_done (by kernel_rfl) ?_ _
      have hh := hHeld
      clear hHeld
      obtain ⟨q0, q1, q2, q3, p0, p1⟩ := hh
      have t8 := Xt7.out.below ((Below.refl _ w7).drew)
      have rv8 := RdIt.up Xrv7.out ((Below.refl _ w7).drew)
      have hbk8 : b < w7.drew.heap.size := hbk7
      clear Xt7 Xrv7
      have cr8 := Xcr.out _ t8.g (x0, x1)
      rw [Xhm.out, Bool.true_and, ← Xhrt.out] at cr8
      have hyy : (y != y) = false := by simp
      have hoo : (ok != ok) = false := by simp
      have Xt8 := hide t8
      have Xrv8 := hide rv8
      have Xcr8 := hide cr8
      clear t8 rv8 cr8
      go_wp2_with fail
      refine wp_region_held_drew (S := (fun V => V.cell? ⟨w.heap.size, 0, none⟩ = some (.slice A1 T c1) ∧ V.cell? ⟨w.heap.size, 1, none⟩ = some (.slice A2 N c2) ∧ V.cell? ⟨w.heap.size, 2, none⟩ = some (.slice A3 R c3) ∧ V.cell? ⟨w.heap.size, 3, none⟩ = some (.int .i64 st) ∧ V.cell? ⟨b, off + k * 2, none⟩ = some (.int .i64 x0) ∧ V.cell? ⟨b, off + k * 2 + 1, none⟩ = some (.int .i64 x1))) (by kernel_rfl) ?_ (fun hHeld => ?_)
      · exact ⟨q0, q1, q2, q3, p0, p1⟩
      clear q0 q1 q2 q3
      refine wpAnyH_take (i := 0) (oi := ?_) (v := ?_) ?_ (by kernel_rfl) (by kernel_rfl) (by kernel_rfl) ?_ (Or.inl ⟨?_, ?_⟩) (by assumption) ?_
      rotate_left 2
      · (try simp only [List.getElem?_toArray, List.getElem?_cons_succ, List.getElem?_cons_zero]); rfl
      · exact fun _ _ _ h => h
      · rfl
      · (intro wS hwS; (try dsimp only at hwS); go_simp; all_goals with_reducible rfl)
      try simp only [Act.put, List.setIfInBounds_toArray, List.set_cons_zero, List.set_cons_succ]
      refine wpAnyH_take (i := 1) (oi := ?_) (v := ?_) ?_ (by kernel_rfl) (by kernel_rfl) (by kernel_rfl) ?_ (Or.inl ⟨?_, ?_⟩) (by assumption) ?_
      rotate_left 2
      · (try simp only [List.getElem?_toArray, List.getElem?_cons_succ, List.getElem?_cons_zero]); rfl
      · exact fun _ _ _ h => h
      · rfl
      · (intro wS hwS; (try dsimp only at hwS); go_simp; all_goals with_reducible rfl)
      try simp only [Act.put, List.setIfInBounds_toArray, List.set_cons_zero, List.set_cons_succ]
      refine wpAnyH_take (i := 2) (oi := ?_) (v := ?_) ?_ (by kernel_rfl) (by kernel_rfl) (by kernel_rfl) ?_ (Or.inl ⟨?_, ?_⟩) (by assumption) ?_
      rotate_left 2
      · (try simp only [List.getElem?_toArray, List.getElem?_cons_succ, List.getElem?_cons_zero]); rfl
      · exact fun _ _ _ h => h
      · rfl
      · (intro wS hwS; (try dsimp only at hwS); go_simp; all_goals with_reducible rfl)
      try simp only [Act.put, List.setIfInBounds_toArray, List.set_cons_zero, List.set_cons_succ]
      refine wpAnyH_take (i := 3) (oi := ?_) (v := ?_) ?_ (by kernel_rfl) (by kernel_rfl) (by kernel_rfl) ?_ (Or.inl ⟨?_, ?_⟩) (by assumption) ?_
      rotate_left 2
      · (try simp only [List.getElem?_toArray, List.getElem?_cons_succ, List.getElem?_cons_zero]); rfl
      · exact fun _ _ _ h => h
      · rfl
      · (intro wS hwS; (try dsimp only at hwS); go_simp; all_goals with_reducible rfl)
      try simp only [Act.put, List.setIfInBounds_toArray, List.set_cons_zero, List.set_cons_succ]
      refine wpAnyH_take (i := 4) (oi := ?_) (v := ?_) ?_ (by kernel_rfl) (by kernel_rfl) (by kernel_rfl) ?_ (Or.inl ⟨?_, ?_⟩) (by assumption) ?_
      rotate_left 2
      · (try simp only [List.getElem?_toArray, List.getElem?_cons_succ, List.getElem?_cons_zero]); rfl
      · exact fun _ _ _ h => h
      · rfl
      · (intro wS hwS; (try dsimp only at hwS); go_simp; all_goals with_reducible rfl)
      try simp only [Act.put, List.setIfInBounds_toArray, List.set_cons_zero, List.set_cons_succ]
      refine wpAnyH_take (i := 5) (oi := ?_) (v := ?_) ?_ (by kernel_rfl) (by kernel_rfl) (by kernel_rfl) ?_ (Or.inl ⟨?_, ?_⟩) (by assumption) ?_
      rotate_left 2
      · (try simp only [List.getElem?_toArray, List.getElem?_cons_succ, List.getElem?_cons_zero]); rfl
      · exact fun _ _ _ h => h
      · rfl
      · (intro wS hwS; (try dsimp only at hwS); go_simp; all_goals with_reducible rfl)
      try simp only [Act.put, List.setIfInBounds_toArray, List.set_cons_zero, List.set_cons_succ]
      refine wpAnyH_take (i := 6) (oi := ?_) (v := ?_) ?_ (by kernel_rfl) (by kernel_rfl) (by kernel_rfl) ?_ (Or.inl ⟨?_, ?_⟩) (by assumption) ?_
      rotate_left 2
      · (try simp only [List.getElem?_toArray, List.getElem?_cons_succ, List.getElem?_cons_zero]); rfl
      · exact fun _ _ _ h => h
      · rfl
      · (intro wS hwS; (try dsimp only at hwS); go_simp; all_goals with_reducible rfl)
      try simp only [Act.put, List.setIfInBounds_toArray, List.set_cons_zero, List.set_cons_succ]
      refine wpAnyH_take (i := 7) (oi := ?_) (v := ?_) ?_ (by kernel_rfl) (by kernel_rfl) (by kernel_rfl) ?_ (Or.inl ⟨?_, ?_⟩) (by assumption) ?_
      rotate_left 2
      · (try simp only [List.getElem?_toArray, List.getElem?_cons_succ, List.getElem?_cons_zero]); rfl
      · exact fun _ _ _ h => h
      · rfl
      · (intro wS hwS; (try dsimp only at hwS); go_simp; all_goals with_reducible rfl)
      try simp only [Act.put, List.setIfInBounds_toArray, List.set_cons_zero, List.set_cons_succ]
      refine wpAnyH_take (i := 8) (oi := ?_) (v := ?_) ?_ (by kernel_rfl) (by kernel_rfl) (by kernel_rfl) ?_ (Or.inl ⟨?_, ?_⟩) (by assumption) ?_
      rotate_left 2
      · (try simp only [List.getElem?_toArray, List.getElem?_cons_succ, List.getElem?_cons_zero]); rfl
      · exact fun _ _ _ h => h
      · rfl
      · (intro wS hwS; (try dsimp only at hwS); go_simp; all_goals with_reducible rfl)
      try simp only [Act.put, List.setIfInBounds_toArray, List.set_cons_zero, List.set_cons_succ]
      refine wpAnyH_take (i := 9) (oi := ?_) (v := ?_) ?_ (by kernel_rfl) (by kernel_rfl) (by kernel_rfl) ?_ (Or.inl ⟨?_, ?_⟩) (by assumption) ?_
      rotate_left 2
      · (try simp only [List.getElem?_toArray, List.getElem?_cons_succ, List.getElem?_cons_zero]); rfl
      · exact fun _ _ _ h => h
      · rfl
      · (intro wS hwS; (try dsimp only at hwS); go_simp; all_goals with_reducible rfl)
      try simp only [Act.put, List.setIfInBounds_toArray, List.set_cons_zero, List.set_cons_succ]
      refine wpAnyH_take (i := 10) (oi := ?_) (v := ?_) ?_ (by kernel_rfl) (by kernel_rfl) (by kernel_rfl) ?_ (Or.inl ⟨?_, ?_⟩) (by assumption) ?_
      rotate_left 2
      · (try simp only [List.getElem?_toArray, List.getElem?_cons_succ, List.getElem?_cons_zero]); rfl
      · exact fun _ _ _ h => h
      · rfl
      · (intro wS hwS; (try dsimp only at hwS); go_simp; all_goals with_reducible rfl)
      try simp only [Act.put, List.setIfInBounds_toArray, List.set_cons_zero, List.set_cons_succ]
      refine wpAnyH_take (i := 11) (oi := ?_) (v := ?_) ?_ (by kernel_rfl) (by kernel_rfl) (by kernel_rfl) ?_ (Or.inl ⟨?_, ?_⟩) (by assumption) ?_
      rotate_left 2
      · (try simp only [List.getElem?_toArray, List.getElem?_cons_succ, List.getElem?_cons_zero]); rfl
      · exact fun _ _ _ h => h
      · rfl
      · (intro wS hwS; (try dsimp only at hwS); go_simp; all_goals with_reducible rfl)
      try simp only [Act.put, List.setIfInBounds_toArray, List.set_cons_zero, List.set_cons_succ]
      refine wpAnyH_take (i := 12) (oi := ?_) (v := ?_) ?_ (by kernel_rfl) (by kernel_rfl) (by kernel_rfl) ?_ (Or.inl ⟨?_, ?_⟩) (by assumption) ?_
      rotate_left 2
      · (try simp only [List.getElem?_toArray, List.getElem?_cons_succ, List.getElem?_cons_zero]); rfl
      · exact fun _ _ _ h => h
      · rfl
      · (intro wS hwS; (try dsimp only at hwS); go_simp; all_goals with_reducible rfl)
      try simp only [Act.put, List.setIfInBounds_toArray, List.set_cons_zero, List.set_cons_succ]
      refine wpAnyH_take (i := 13) (oi := ?_) (v := ?_) ?_ (by kernel_rfl) (by kernel_rfl) (by kernel_rfl) ?_ (Or.inl ⟨?_, ?_⟩) (by assumption) ?_
      rotate_left 2
      · (try simp only [List.getElem?_toArray, List.getElem?_cons_succ, List.getElem?_cons_zero]); rfl
      · exact fun _ _ _ h => h
      · rfl
      · (intro wS hwS; (try dsimp only at hwS); go_simp; all_goals with_reducible rfl)
      try simp only [Act.put, List.setIfInBounds_toArray, List.set_cons_zero, List.set_cons_succ]
      refine wpAnyH_take (i := 15) (oi := ?_) (v := ?_) ?_ (by kernel_rfl) (by kernel_rfl) (by kernel_rfl) ?_ (Or.inl ⟨?_, ?_⟩) (by assumption) ?_
      rotate_left 2
      · (try simp only [List.getElem?_toArray, List.getElem?_cons_succ, List.getElem?_cons_zero]); rfl
      · exact fun _ _ _ h => h
      · rfl
      · (intro wS hwS; (try dsimp only at hwS); go_simp; all_goals with_reducible rfl)
      try simp only [Act.put, List.setIfInBounds_toArray, List.set_cons_zero, List.set_cons_succ]
      refine wpAnyH_take (i := 16) (oi := ?_) (v := ?_) ?_ (by kernel_rfl) (by kernel_rfl) (by kernel_rfl) ?_ (Or.inl ⟨?_, ?_⟩) (by assumption) ?_
      rotate_left 2
      · (try simp only [List.getElem?_toArray, List.getElem?_cons_succ, List.getElem?_cons_zero]); rfl
      · exact fun _ _ _ h => h
      · rfl
      · (intro wS hwS; (try dsimp only at hwS); go_simp; all_goals with_reducible rfl)
      try simp only [Act.put, List.setIfInBounds_toArray, List.set_cons_zero, List.set_cons_succ]
      refine wpAnyH_take (i := 17) (oi := ?_) (v := ?_) ?_ (by kernel_rfl) (by kernel_rfl) (by kernel_rfl) ?_ (Or.inl ⟨?_, ?_⟩) (by assumption) ?_
      rotate_left 2
      · (try simp only [List.getElem?_toArray, List.getElem?_cons_succ, List.getElem?_cons_zero]); rfl
      · exact fun _ _ _ h => h
      · rfl
      · (intro wS hwS; (try dsimp only at hwS); go_simp; all_goals with_reducible rfl)
      try simp only [Act.put, List.setIfInBounds_toArray, List.set_cons_zero, List.set_cons_succ]
      refine wpAnyH_take (i := 18) (oi := ?_) (v := ?_) ?_ (by kernel_rfl) (by kernel_rfl) (by kernel_rfl) ?_ (Or.inl ⟨?_, ?_⟩) (by assumption) ?_
      rotate_left 2
      · (try simp only [List.getElem?_toArray, List.getElem?_cons_succ, List.getElem?_cons_zero]); rfl
      · exact fun _ _ _ h => h
      · rfl
      · (intro wS hwS; (try dsimp only at hwS); go_simp; all_goals with_reducible rfl)
      try simp only [Act.put, List.setIfInBounds_toArray, List.set_cons_zero, List.set_cons_succ]
      refine wpAnyH_take (i := 19) (oi := ?_) (v := ?_) ?_ (by kernel_rfl) (by kernel_rfl) (by kernel_rfl) ?_ (Or.inl ⟨?_, ?_⟩) (by assumption) ?_
      rotate_left 2
      · (try simp only [List.getElem?_toArray, List.getElem?_cons_succ, List.getElem?_cons_zero]); rfl
      · exact fun _ _ _ h => h
      · rfl
      · (intro wS hwS; (try dsimp only at hwS); go_simp; all_goals with_reducible rfl)
      try simp only [Act.put, List.setIfInBounds_toArray, List.set_cons_zero, List.set_cons_succ]
      refine wpAnyH_ready (rs := [14]) (by kernel_rfl) (by simp) ?_
      refine AllReadyH.cons (o := ?_) ?_ (fun K hK => ?_) AllReadyH.nil
      rotate_left 1
      · (try simp only [List.getElem?_toArray, List.getElem?_cons_succ, List.getElem?_cons_zero]); rfl
      go_simp
      go_at_call 16
      refine (Xcr8.out).mono ?_
      rintro e w9 ⟨rfl, b9⟩
      have t9 := Xt8.out.below b9
      have rv9 := RdIt.up Xrv8.out b9
      have hbk9 : b < w9.heap.size := Nat.lt_of_lt_of_le hbk8 b9.size
      have p0 := (b9.cell (p := ⟨b, off + k * 2, none⟩) hbk8).trans p0
      have p1 := (b9.cell (p := ⟨b, off + k * 2 + 1, none⟩) hbk8).trans p1
      refine hK.out _ _ ?_ (fun hHeld => ?_)
      · exact ⟨t9.g.cells.1, t9.g.cells.2.1, t9.g.cells.2.2.1, t9.g.cells.2.2.2, p0, p1⟩
      clear hK K
      try simp only [Act.put, List.setIfInBounds_toArray, List.set_cons_zero, List.set_cons_succ]
      clear Xt8 Xrv8 b9
      have cr9 := Xrr.out _ t9.g (x0, x1)
      rw [← Xhrt.out] at cr9
      have Xt9 := hide t9
      have Xrv9 := hide rv9
      have Xcr9 := hide cr9
      clear t9 rv9 cr9
      clear Xcr8
      refine wpAnyH_ready (rs := [20]) (by kernel_rfl) (by simp) ?_
      refine AllReadyH.cons (o := ?_) ?_ (fun K hK => ?_) AllReadyH.nil
      rotate_left 1
      · (try simp only [List.getElem?_toArray, List.getElem?_cons_succ, List.getElem?_cons_zero]); rfl
      go_simp
      go_at_call 22
      refine (Xcr9.out).mono ?_
      rintro e w10 ⟨rfl, b10⟩
      have t10 := Xt9.out.below b10
      have rv10 := RdIt.up Xrv9.out b10
      have hbk10 : b < w10.heap.size := Nat.lt_of_lt_of_le hbk9 b10.size
      have p0 := (b10.cell (p := ⟨b, off + k * 2, none⟩) hbk9).trans p0
      have p1 := (b10.cell (p := ⟨b, off + k * 2 + 1, none⟩) hbk9).trans p1
      refine hK.out _ _ ?_ (fun hHeld => ?_)
      · exact ⟨t10.g.cells.1, t10.g.cells.2.1, t10.g.cells.2.2.1, t10.g.cells.2.2.2, p0, p1⟩
      clear hK K
      try simp only [Act.put, List.setIfInBounds_toArray, List.set_cons_zero, List.set_cons_succ]
      clear Xt9 Xrv9 b10
      have Xt10 := hide t10
      have Xrv10 := hide rv10
      clear t10 rv10
      clear Xcr9
      have hrr : (rt != rt) = false := by simp
      refine wpAnyH_take (i := 21) (oi := ?_) (v := ?_) ?_ (by kernel_rfl) (by kernel_rfl) (by kernel_rfl) ?_ (Or.inl ⟨?_, ?_⟩) (by assumption) ?_
      rotate_left 2
      · (try simp only [List.getElem?_toArray, List.getElem?_cons_succ, List.getElem?_cons_zero]); rfl
      · exact fun _ _ _ h => h
      · rfl
      · (intro wS hwS; (try dsimp only at hwS); go_simp; all_goals with_reducible rfl)
      try simp only [Act.put, List.setIfInBounds_toArray, List.set_cons_zero, List.set_cons_succ]
      refine wpAnyH_take (i := 22) (oi := ?_) (v := ?_) ?_ (by kernel_rfl) (by kernel_rfl) (by kernel_rfl) ?_ (Or.inl ⟨?_, ?_⟩) (by assumption) ?_
      rotate_left 2
      · (try simp only [List.getElem?_toArray, List.getElem?_cons_succ, List.getElem?_cons_zero]); rfl
      · exact fun _ _ _ h => h
      · rfl
      · (intro wS hwS; (try dsimp only at hwS); go_simp; all_goals with_reducible rfl)
      try simp only [Act.put, List.setIfInBounds_toArray, List.set_cons_zero, List.set_cons_succ]
      refine wpAnyH_done (by kernel_rfl) ?_ _
      clear hHeld p0 p1
      go_wp2_with fail
      go_roundw
      case rel => exact ⟨k + 1, by omega, by go_num, Xt10.out, Xrv10.out⟩
      case measure => simp [intOf]; omega
    · have hlt' : ¬ (k : Int) < (nv : Int) := by omega
      have t4 := t.below ((Below.refl _ wr).drew)
      have rv4 := RdIt.up rv ((Below.refl _ wr).drew)
      obtain ⟨q0, q1, q2, q3⟩ := t.g.cells
      have cg4 := Xcg.out _ t4.g
      rw [Xhm.out, if_pos rfl] at cg4
      clear t rv
      have Xt4 := hide t4
      have Xrv4 := hide rv4
      have Xcg4 := hide cg4
      clear t4 rv4 cg4
      go_wp2_with fail
      refine wp_region_held_drew (S := (fun V => V.cell? ⟨w.heap.size, 0, none⟩ = some (.slice A1 T c1) ∧ V.cell? ⟨w.heap.size, 1, none⟩ = some (.slice A2 N c2) ∧ V.cell? ⟨w.heap.size, 2, none⟩ = some (.slice A3 R c3) ∧ V.cell? ⟨w.heap.size, 3, none⟩ = some (.int .i64 st))) (by kernel_rfl) ?_ (fun hHeld => ?_)
      · exact ⟨q0, q1, q2, q3⟩
      clear q0 q1 q2 q3
      refine wpAnyH_take (i := 0) (oi := ?_) (v := ?_) ?_ (by kernel_rfl) (by kernel_rfl) (by kernel_rfl) ?_ (Or.inl ⟨?_, ?_⟩) (by assumption) ?_
      rotate_left 2
      · (try simp only [List.getElem?_toArray, List.getElem?_cons_succ, List.getElem?_cons_zero]); rfl
      · exact fun _ _ _ h => h
      · rfl
      · (intro wS hwS; (try dsimp only at hwS); go_simp; all_goals with_reducible rfl)
      try simp only [Act.put, List.setIfInBounds_toArray, List.set_cons_zero, List.set_cons_succ]
      refine wpAnyH_take (i := 2) (oi := ?_) (v := ?_) ?_ (by kernel_rfl) (by kernel_rfl) (by kernel_rfl) ?_ (Or.inl ⟨?_, ?_⟩) (by assumption) ?_
      rotate_left 2
      · (try simp only [List.getElem?_toArray, List.getElem?_cons_succ, List.getElem?_cons_zero]); rfl
      · exact fun _ _ _ h => h
      · rfl
      · (intro wS hwS; (try dsimp only at hwS); go_simp; all_goals with_reducible rfl)
      try simp only [Act.put, List.setIfInBounds_toArray, List.set_cons_zero, List.set_cons_succ]
      refine wpAnyH_ready (rs := [1]) (by kernel_rfl) (by simp) ?_
      refine AllReadyH.cons (o := ?_) ?_ (fun K hK => ?_) AllReadyH.nil
      rotate_left 1
      · (try simp only [List.getElem?_toArray, List.getElem?_cons_succ, List.getElem?_cons_zero]); rfl
      go_simp
      go_at_call 17
      refine (Xcg4.out).mono ?_
      rintro e w5 hp
      obtain ⟨A5, d5, rfl, l5, b5⟩ := ItPost.rd hp
      have t5 := Xt4.out.below b5
      have rv5 := RdIt.up Xrv4.out b5
      refine hK.out _ _ ?_ (fun hHeld => ?_)
      · exact t5.g.cells
      clear hK K
      try simp only [Act.put, List.setIfInBounds_toArray, List.set_cons_zero, List.set_cons_succ]
      clear hp Xt4 Xrv4
      have rg5 := Xrg.out _ t5.g
      have l5 : RdIt w5 (fun b => b < w5.heap.size) (.slice A5 1 d5) [((R : Int), (0 : Int))] := l5
      have Xt5 := hide t5
      have Xrv5 := hide rv5
      have Xrg5 := hide rg5
      have Xl5 := hide l5
      clear t5 rv5 rg5 l5
      clear b5 Xcg4
      refine wpAnyH_ready (rs := [3]) (by kernel_rfl) (by simp) ?_
      refine AllReadyH.cons (o := ?_) ?_ (fun K hK => ?_) AllReadyH.nil
      rotate_left 1
      · (try simp only [List.getElem?_toArray, List.getElem?_cons_succ, List.getElem?_cons_zero]); rfl
      go_simp
      go_at_call 24
      refine (Xrg5.out).mono ?_
      rintro e w6 hp
      obtain ⟨A6, d6, rfl, l6, b6⟩ := ItPost.rd hp
      have t6 := Xt5.out.below b6
      have rv6 := RdIt.up Xrv5.out b6
      refine hK.out _ _ ?_ (fun hHeld => ?_)
      · exact t6.g.cells
      clear hK K
      try simp only [Act.put, List.setIfInBounds_toArray, List.set_cons_zero, List.set_cons_succ]
      clear hp Xt5 Xrv5
      have l6 : RdIt w6 (fun b => b < w6.heap.size) (.slice A6 1 d6) [((R : Int), (0 : Int))] := l6
      have cS := ref12_Same (RdIt.up Xl5.out b6) l6
      rw [decide_eq_true rfl] at cS
      have Xt6 := hide t6
      have Xrv6 := hide rv6
      have XcS := hide cS
      clear t6 rv6 cS
      clear l6 b6 Xl5 Xrg5
      refine wpAnyH_ready (rs := [4]) (by kernel_rfl) (by simp) ?_
      refine AllReadyH.cons (o := ?_) ?_ (fun K hK => ?_) AllReadyH.nil
      rotate_left 1
      · (try simp only [List.getElem?_toArray, List.getElem?_cons_succ, List.getElem?_cons_zero]); rfl
      go_simp
      go_at_call 23
      with_reducible refine XcS.out.mono ?_
      rintro e w7 ⟨rfl, b7⟩
      have t7 := Xt6.out.below b7
      have rv7 := RdIt.up Xrv6.out b7
      refine hK.out _ _ ?_ (fun hHeld => ?_)
      · exact t7.g.cells
      clear hK K
      try simp only [Act.put, List.setIfInBounds_toArray, List.set_cons_zero, List.set_cons_succ]
      clear Xt6 Xrv6 XcS b7
      have cl7 := Xcl.out _ t7.g rv7
      rw [Xhm.out] at cl7
      have Xt7 := hide t7
      have Xrv7 := hide rv7
      have Xcl7 := hide cl7
      clear t7 rv7 cl7
      refine wpAnyH_take (i := 5) (oi := ?_) (v := ?_) ?_ (by kernel_rfl) (by kernel_rfl) (by kernel_rfl) ?_ (Or.inl ⟨?_, ?_⟩) (by assumption) ?_
      rotate_left 2
      · (try simp only [List.getElem?_toArray, List.getElem?_cons_succ, List.getElem?_cons_zero]); rfl
      · exact fun _ _ _ h => h
      · rfl
      · (intro wS hwS; (try dsimp only at hwS); go_simp; all_goals with_reducible rfl)
      try simp only [Act.put, List.setIfInBounds_toArray, List.set_cons_zero, List.set_cons_succ]
      refine wpAnyH_take (i := 6) (oi := ?_) (v := ?_) ?_ (by kernel_rfl) (by kernel_rfl) (by kernel_rfl) ?_ (Or.inl ⟨?_, ?_⟩) (by assumption) ?_
      rotate_left 2
      · (try simp only [List.getElem?_toArray, List.getElem?_cons_succ, List.getElem?_cons_zero]); rfl
      · exact fun _ _ _ h => h
      · rfl
      · (intro wS hwS; (try dsimp only at hwS); go_simp; all_goals with_reducible rfl)
      try simp only [Act.put, List.setIfInBounds_toArray, List.set_cons_zero, List.set_cons_succ]
      refine wpAnyH_take (i := 7) (oi := ?_) (v := ?_) ?_ (by kernel_rfl) (by kernel_rfl) (by kernel_rfl) ?_ (Or.inl ⟨?_, ?_⟩) (by assumption) ?_
      rotate_left 2
      · (try simp only [List.getElem?_toArray, List.getElem?_cons_succ, List.getElem?_cons_zero]); rfl
      · exact fun _ _ _ h => h
      · rfl
      · (intro wS hwS; (try dsimp only at hwS); go_simp; all_goals with_reducible rfl)
      try simp only [Act.put, List.setIfInBounds_toArray, List.set_cons_zero, List.set_cons_succ]
      refine wpAnyH_take (i := 9) (oi := ?_) (v := ?_) ?_ (by kernel_rfl) (by kernel_rfl) (by kernel_rfl) ?_ (Or.inl ⟨?_, ?_⟩) (by assumption) ?_
      rotate_left 2
      · (try simp only [List.getElem?_toArray, List.getElem?_cons_succ, List.getElem?_cons_zero]); rfl
      · exact fun _ _ _ h => h
      · rfl
      · (intro wS hwS; (try dsimp only at hwS); go_simp; all_goals with_reducible rfl)
      try simp only [Act.put, List.setIfInBounds_toArray, List.set_cons_zero, List.set_cons_succ]
      refine wpAnyH_take (i := 10) (oi := ?_) (v := ?_) ?_ (by kernel_rfl) (by kernel_rfl) (by kernel_rfl) ?_ (Or.inl ⟨?_, ?_⟩) (by assumption) ?_
      rotate_left 2
      · (try simp only [List.getElem?_toArray, List.getElem?_cons_succ, List.getElem?_cons_zero]); rfl
      · exact fun _ _ _ h => h
      · rfl
      · (intro wS hwS; (try dsimp only at hwS); go_simp; all_goals with_reducible rfl)
      try simp only [Act.put, List.setIfInBounds_toArray, List.set_cons_zero, List.set_cons_succ]
      refine wpAnyH_ready (rs := [8]) (by kernel_rfl) (by simp) ?_
      refine AllReadyH.cons (o := ?_) ?_ (fun K hK => ?_) AllReadyH.nil
      rotate_left 1
      · (try simp only [List.getElem?_toArray, List.getElem?_cons_succ, List.getElem?_cons_zero]); rfl
      go_simp
      go_at_call 18
      refine Xcl7.out.mono ?_
      rintro e w8 hp
      obtain ⟨o, hcl, hp⟩ := MayClose.yes hp
      obtain ⟨A8, d8, rfl, l8, b8⟩ := hp.rd
      have t8 := Xt7.out.below b8
      have rv8 := RdIt.up Xrv7.out b8
      refine hK.out _ _ ?_ (fun hHeld => ?_)
      · exact t8.g.cells
      clear hK K
      try simp only [Act.put, List.setIfInBounds_toArray, List.set_cons_zero, List.set_cons_succ]
      clear hp Xt7 Xrv7 Xcl7 b8
      have rl8 := Xrl.out _ t8.g rv8 Xhk.out.short Xhr3.out
      have Xt8 := hide t8
      have Xrv8 := hide rv8
      have Xrl8 := hide rl8
      have Xhcl := hide hcl
      have Xl8 := hide l8
      clear t8 rv8 rl8 hcl l8
      refine wpAnyH_ready (rs := [11]) (by kernel_rfl) (by simp) ?_
      refine AllReadyH.cons (o := ?_) ?_ (fun K hK => ?_) AllReadyH.nil
      rotate_left 1
      · (try simp only [List.getElem?_toArray, List.getElem?_cons_succ, List.getElem?_cons_zero]); rfl
      go_simp
      go_at_call 25
      refine Xrl8.out.mono ?_
      rintro e w9 ⟨o9, hcl9, hp⟩
      obtain ⟨A9, d9, rfl, l9, b9⟩ := hp.rd
      have eo : o9 = o := hcl9.unique Xhcl.out (fun z => Iff.rfl)
      subst eo
      have t9 := Xt8.out.below b9
      have rv9 := RdIt.up Xrv8.out b9
      refine hK.out _ _ ?_ (fun hHeld => ?_)
      · exact t9.g.cells
      clear hK K
      try simp only [Act.put, List.setIfInBounds_toArray, List.set_cons_zero, List.set_cons_succ]
      have cS := ref12_Same (RdIt.up Xl8.out b9) l9
      rw [decide_eq_true rfl] at cS
      clear hp hcl9 Xt8 Xrv8 Xrl8 Xhcl l9 b9 Xl8
      have Xt9 := hide t9
      have Xrv9 := hide rv9
      have XcS := hide cS
      clear t9 rv9 cS
      refine wpAnyH_ready (rs := [12]) (by kernel_rfl) (by simp) ?_
      refine AllReadyH.cons (o := ?_) ?_ (fun K hK => ?_) AllReadyH.nil
      rotate_left 1
      · (try simp only [List.getElem?_toArray, List.getElem?_cons_succ, List.getElem?_cons_zero]); rfl
      go_simp
      go_at_call 23
      with_reducible refine XcS.out.mono ?_
      rintro e w10 ⟨rfl, b10⟩
      have t10 := Xt9.out.below b10
      have rv10 := RdIt.up Xrv9.out b10
      refine hK.out _ _ ?_ (fun hHeld => ?_)
      · exact t10.g.cells
      clear hK K
      try simp only [Act.put, List.setIfInBounds_toArray, List.set_cons_zero, List.set_cons_succ]
      clear Xt9 Xrv9 XcS b10
      have cs10 := Xcs.out _ t10.g rv10 (fun _ => Xhk.out.short) Xhll.out
      rw [Xhm.out, if_pos rfl] at cs10
      have Xt10 := hide t10
      have Xrv10 := hide rv10
      have Xcs10 := hide cs10
      clear t10 rv10 cs10
      refine wpAnyH_take (i := 13) (oi := ?_) (v := ?_) ?_ (by kernel_rfl) (by kernel_rfl) (by kernel_rfl) ?_ (Or.inl ⟨?_, ?_⟩) (by assumption) ?_
      rotate_left 2
      · (try simp only [List.getElem?_toArray, List.getElem?_cons_succ, List.getElem?_cons_zero]); rfl
      · exact fun _ _ _ h => h
      · rfl
      · (intro wS hwS; (try dsimp only at hwS); go_simp; all_goals with_reducible rfl)
      try simp only [Act.put, List.setIfInBounds_toArray, List.set_cons_zero, List.set_cons_succ]
      refine wpAnyH_take (i := 14) (oi := ?_) (v := ?_) ?_ (by kernel_rfl) (by kernel_rfl) (by kernel_rfl) ?_ (Or.inl ⟨?_, ?_⟩) (by assumption) ?_
      rotate_left 2
      · (try simp only [List.getElem?_toArray, List.getElem?_cons_succ, List.getElem?_cons_zero]); rfl
      · exact fun _ _ _ h => h
      · rfl
      · (intro wS hwS; (try dsimp only at hwS); go_simp; all_goals with_reducible rfl)
      try simp only [Act.put, List.setIfInBounds_toArray, List.set_cons_zero, List.set_cons_succ]
      refine wpAnyH_take (i := 15) (oi := ?_) (v := ?_) ?_ (by kernel_rfl) (by kernel_rfl) (by kernel_rfl) ?_ (Or.inl ⟨?_, ?_⟩) (by assumption) ?_
      rotate_left 2
      · (try simp only [List.getElem?_toArray, List.getElem?_cons_succ, List.getElem?_cons_zero]); rfl
      · exact fun _ _ _ h => h
      · rfl
      · (intro wS hwS; (try dsimp only at hwS); go_simp; all_goals with_reducible rfl)
      try simp only [Act.put, List.setIfInBounds_toArray, List.set_cons_zero, List.set_cons_succ]
      refine wpAnyH_take (i := 16) (oi := ?_) (v := ?_) ?_ (by kernel_rfl) (by kernel_rfl) (by kernel_rfl) ?_ (Or.inl ⟨?_, ?_⟩) (by assumption) ?_
      rotate_left 2
      · (try simp only [List.getElem?_toArray, List.getElem?_cons_succ, List.getElem?_cons_zero]); rfl
      · exact fun _ _ _ h => h
      · rfl
      · (intro wS hwS; (try dsimp only at hwS); go_simp; all_goals with_reducible rfl)
      try simp only [Act.put, List.setIfInBounds_toArray, List.set_cons_zero, List.set_cons_succ]
      refine wpAnyH_take (i := 17) (oi := ?_) (v := ?_) ?_ (by kernel_rfl) (by kernel_rfl) (by kernel_rfl) ?_ (Or.inl ⟨?_, ?_⟩) (by assumption) ?_
      rotate_left 2
      · (try simp only [List.getElem?_toArray, List.getElem?_cons_succ, List.getElem?_cons_zero]); rfl
      · exact fun _ _ _ h => h
      · rfl
      · (intro wS hwS; (try dsimp only at hwS); go_simp; all_goals with_reducible rfl)
      try simp only [Act.put, List.setIfInBounds_toArray, List.set_cons_zero, List.set_cons_succ]
      refine wpAnyH_take (i := 19) (oi := ?_) (v := ?_) ?_ (by kernel_rfl) (by kernel_rfl) (by kernel_rfl) ?_ (Or.inl ⟨?_, ?_⟩) (by assumption) ?_
      rotate_left 2
      · (try simp only [List.getElem?_toArray, List.getElem?_cons_succ, List.getElem?_cons_zero]); rfl
      · exact fun _ _ _ h => h
      · rfl
      · (intro wS hwS; (try dsimp only at hwS); go_simp; all_goals with_reducible rfl)
      try simp only [Act.put, List.setIfInBounds_toArray, List.set_cons_zero, List.set_cons_succ]
      refine wpAnyH_take (i := 20) (oi := ?_) (v := ?_) ?_ (by kernel_rfl) (by kernel_rfl) (by kernel_rfl) ?_ (Or.inl ⟨?_, ?_⟩) (by assumption) ?_
      rotate_left 2
      · (try simp only [List.getElem?_toArray, List.getElem?_cons_succ, List.getElem?_cons_zero]); rfl
      · exact fun _ _ _ h => h
      · rfl
      · (intro wS hwS; (try dsimp only at hwS); go_simp; all_goals with_reducible rfl)
      try simp only [Act.put, List.setIfInBounds_toArray, List.set_cons_zero, List.set_cons_succ]
      refine wpAnyH_take (i := 21) (oi := ?_) (v := ?_) ?_ (by kernel_rfl) (by kernel_rfl) (by kernel_rfl) ?_ (Or.inl ⟨?_, ?_⟩) (by assumption) ?_
      rotate_left 2
      · (try simp only [List.getElem?_toArray, List.getElem?_cons_succ, List.getElem?_cons_zero]); rfl
      · exact fun _ _ _ h => h
      · rfl
      · (intro wS hwS; (try dsimp only at hwS); go_simp; all_goals with_reducible rfl)
      try simp only [Act.put, List.setIfInBounds_toArray, List.set_cons_zero, List.set_cons_succ]
      refine wpAnyH_ready (rs := [18]) (by kernel_rfl) (by simp) ?_
      refine AllReadyH.cons (o := ?_) ?_ (fun K hK => ?_) AllReadyH.nil
      rotate_left 1
      · (try simp only [List.getElem?_toArray, List.getElem?_cons_succ, List.getElem?_cons_zero]); rfl
      go_simp
      go_at_call 19
      refine (Xcs10.out).mono ?_
      rintro e w11 hp
      obtain ⟨A11, d11, rfl, l11, b11⟩ := ItPost.rd hp
      have t11 := Xt10.out.below b11
      have rv11 := RdIt.up Xrv10.out b11
      refine hK.out _ _ ?_ (fun hHeld => ?_)
      · exact t11.g.cells
      clear hK K
      try simp only [Act.put, List.setIfInBounds_toArray, List.set_cons_zero, List.set_cons_succ]
      clear hp Xt10 Xrv10
      have rs11 := Xrs.out _ t11.g rv11 Xhk.out.short Xhll.out
      clear Xcs10 b11
      have Xt11 := hide t11
      have Xrv11 := hide rv11
      have Xrs11 := hide rs11
      have Xl11 := hide l11
      clear t11 rv11 rs11 l11
      refine wpAnyH_ready (rs := [22]) (by kernel_rfl) (by simp) ?_
      refine AllReadyH.cons (o := ?_) ?_ (fun K hK => ?_) AllReadyH.nil
      rotate_left 1
      · (try simp only [List.getElem?_toArray, List.getElem?_cons_succ, List.getElem?_cons_zero]); rfl
      go_simp
      go_at_call 26
      refine (Xrs11.out).mono ?_
      rintro e w12 hp
      obtain ⟨A12, d12, rfl, l12, b12⟩ := ItPost.rd hp
      have t12 := Xt11.out.below b12
      have rv12 := RdIt.up Xrv11.out b12
      refine hK.out _ _ ?_ (fun hHeld => ?_)
      · exact t12.g.cells
      clear hK K
      try simp only [Act.put, List.setIfInBounds_toArray, List.set_cons_zero, List.set_cons_succ]
      clear hp Xt11 Xrv11
      have cS := ref12_Same (RdIt.up Xl11.out b12) l12
      rw [decide_eq_true rfl] at cS
      clear Xrs11 b12 l12 Xl11
      have Xt12 := hide t12
      have Xrv12 := hide rv12
      have XcS := hide cS
      clear t12 rv12 cS
      refine wpAnyH_ready (rs := [23]) (by kernel_rfl) (by simp) ?_
      refine AllReadyH.cons (o := ?_) ?_ (fun K hK => ?_) AllReadyH.nil
      rotate_left 1
      · (try simp only [List.getElem?_toArray, List.getElem?_cons_succ, List.getElem?_cons_zero]); rfl
      go_simp
      go_at_call 23
      with_reducible refine XcS.out.mono ?_
      rintro e w13 ⟨rfl, b13⟩
      have t13 := Xt12.out.below b13
      have rv13 := RdIt.up Xrv12.out b13
      refine hK.out _ _ ?_ (fun hHeld => ?_)
      · exact t13.g.cells
      clear hK K
      try simp only [Act.put, List.setIfInBounds_toArray, List.set_cons_zero, List.set_cons_succ]
      clear Xt12 Xrv12 XcS b13
      have ck13 := Xck.out _ t13.g rv13 Xhll.out
      rw [Xhm.out, if_pos rfl] at ck13
      have Xt13 := hide t13
      have Xrv13 := hide rv13
      have Xck13 := hide ck13
      clear t13 rv13 ck13
      refine wpAnyH_take (i := 24) (oi := ?_) (v := ?_) ?_ (by kernel_rfl) (by kernel_rfl) (by kernel_rfl) ?_ (Or.inl ⟨?_, ?_⟩) (by assumption) ?_
      rotate_left 2
      · (try simp only [List.getElem?_toArray, List.getElem?_cons_succ, List.getElem?_cons_zero]); rfl
      · exact fun _ _ _ h => h
      · rfl
      · (intro wS hwS; (try dsimp only at hwS); go_simp; all_goals with_reducible rfl)
      try simp only [Act.put, List.setIfInBounds_toArray, List.set_cons_zero, List.set_cons_succ]
      refine wpAnyH_take (i := 25) (oi := ?_) (v := ?_) ?_ (by kernel_rfl) (by kernel_rfl) (by kernel_rfl) ?_ (Or.inl ⟨?_, ?_⟩) (by assumption) ?_
      rotate_left 2
      · (try simp only [List.getElem?_toArray, List.getElem?_cons_succ, List.getElem?_cons_zero]); rfl
      · exact fun _ _ _ h => h
      · rfl
      · (intro wS hwS; (try dsimp only at hwS); go_simp; all_goals with_reducible rfl)
      try simp only [Act.put, List.setIfInBounds_toArray, List.set_cons_zero, List.set_cons_succ]
      refine wpAnyH_take (i := 26) (oi := ?_) (v := ?_) ?_ (by kernel_rfl) (by kernel_rfl) (by kernel_rfl) ?_ (Or.inl ⟨?_, ?_⟩) (by assumption) ?_
      rotate_left 2
      · (try simp only [List.getElem?_toArray, List.getElem?_cons_succ, List.getElem?_cons_zero]); rfl
      · exact fun _ _ _ h => h
      · rfl
      · (intro wS hwS; (try dsimp only at hwS); go_simp; all_goals with_reducible rfl)
      try simp only [Act.put, List.setIfInBounds_toArray, List.set_cons_zero, List.set_cons_succ]
      refine wpAnyH_take (i := 27) (oi := ?_) (v := ?_) ?_ (by kernel_rfl) (by kernel_rfl) (by kernel_rfl) ?_ (Or.inl ⟨?_, ?_⟩) (by assumption) ?_
      rotate_left 2
      · (try simp only [List.getElem?_toArray, List.getElem?_cons_succ, List.getElem?_cons_zero]); rfl
      · exact fun _ _ _ h => h
      · rfl
      · (intro wS hwS; (try dsimp only at hwS); go_simp; all_goals with_reducible rfl)
      try simp only [Act.put, List.setIfInBounds_toArray, List.set_cons_zero, List.set_cons_succ]
      refine wpAnyH_take (i := 29) (oi := ?_) (v := ?_) ?_ (by kernel_rfl) (by kernel_rfl) (by kernel_rfl) ?_ (Or.inl ⟨?_, ?_⟩) (by assumption) ?_
      rotate_left 2
      · (try simp only [List.getElem?_toArray, List.getElem?_cons_succ, List.getElem?_cons_zero]); rfl
      · exact fun _ _ _ h => h
      · rfl
      · (intro wS hwS; (try dsimp only at hwS); go_simp; all_goals with_reducible rfl)
      try simp only [Act.put, List.setIfInBounds_toArray, List.set_cons_zero, List.set_cons_succ]
      refine wpAnyH_take (i := 30) (oi := ?_) (v := ?_) ?_ (by kernel_rfl) (by kernel_rfl) (by kernel_rfl) ?_ (Or.inl ⟨?_, ?_⟩) (by assumption) ?_
      rotate_left 2
      · (try simp only [List.getElem?_toArray, List.getElem?_cons_succ, List.getElem?_cons_zero]); rfl
      · exact fun _ _ _ h => h
      · rfl
      · (intro wS hwS; (try dsimp only at hwS); go_simp; all_goals with_reducible rfl)
      try simp only [Act.put, List.setIfInBounds_toArray, List.set_cons_zero, List.set_cons_succ]
      refine wpAnyH_ready (rs := [28]) (by kernel_rfl) (by simp) ?_
      refine AllReadyH.cons (o := ?_) ?_ (fun K hK => ?_) AllReadyH.nil
      rotate_left 1
      · (try simp only [List.getElem?_toArray, List.getElem?_cons_succ, List.getElem?_cons_zero]); rfl
      go_simp
      go_at_call 20
      refine (Xck13.out).mono ?_
      rintro e w14 hp
      obtain ⟨A14, d14, rfl, l14, b14⟩ := ItPost.rd hp
      have t14 := Xt13.out.below b14
      have rv14 := RdIt.up Xrv13.out b14
      refine hK.out _ _ ?_ (fun hHeld => ?_)
      · exact t14.g.cells
      clear hK K
      try simp only [Act.put, List.setIfInBounds_toArray, List.set_cons_zero, List.set_cons_succ]
      clear hp Xt13 Xrv13
      have rk14 := Xrk.out _ t14.g rv14 Xhll.out
      clear Xck13 b14
      have Xt14 := hide t14
      have Xrv14 := hide rv14
      have Xrk14 := hide rk14
      have Xl14 := hide l14
      clear t14 rv14 rk14 l14
      refine wpAnyH_ready (rs := [31]) (by kernel_rfl) (by simp) ?_
      refine AllReadyH.cons (o := ?_) ?_ (fun K hK => ?_) AllReadyH.nil
      rotate_left 1
      · (try simp only [List.getElem?_toArray, List.getElem?_cons_succ, List.getElem?_cons_zero]); rfl
      go_simp
      go_at_call 27
      refine (Xrk14.out).mono ?_
      rintro e w15 hp
      obtain ⟨A15, d15, rfl, l15, b15⟩ := ItPost.rd hp
      have t15 := Xt14.out.below b15
      have rv15 := RdIt.up Xrv14.out b15
      refine hK.out _ _ ?_ (fun hHeld => ?_)
      · exact t15.g.cells
      clear hK K
      try simp only [Act.put, List.setIfInBounds_toArray, List.set_cons_zero, List.set_cons_succ]
      clear hp Xt14 Xrv14
      have cS := ref12_Same (RdIt.up Xl14.out b15) l15
      rw [decide_eq_true rfl] at cS
      clear Xrk14 b15 l15 Xl14
      have Xt15 := hide t15
      have Xrv15 := hide rv15
      have XcS := hide cS
      clear t15 rv15 cS
      refine wpAnyH_ready (rs := [32]) (by kernel_rfl) (by simp) ?_
      refine AllReadyH.cons (o := ?_) ?_ (fun K hK => ?_) AllReadyH.nil
      rotate_left 1
      · (try simp only [List.getElem?_toArray, List.getElem?_cons_succ, List.getElem?_cons_zero]); rfl
      go_simp
      go_at_call 23
      with_reducible refine XcS.out.mono ?_
      rintro e w16 ⟨rfl, b16⟩
      have t16 := Xt15.out.below b16
      have rv16 := RdIt.up Xrv15.out b16
      refine hK.out _ _ ?_ (fun hHeld => ?_)
      · exact t16.g.cells
      clear hK K
      try simp only [Act.put, List.setIfInBounds_toArray, List.set_cons_zero, List.set_cons_succ]
      clear Xt15 Xrv15 XcS b16
      clear rv16
      have Xt16 := hide t16
      clear t16
      refine wpAnyH_take (i := 33) (oi := ?_) (v := ?_) ?_ (by kernel_rfl) (by kernel_rfl) (by kernel_rfl) ?_ (Or.inl ⟨?_, ?_⟩) (by assumption) ?_
      rotate_left 2
      · (try simp only [List.getElem?_toArray, List.getElem?_cons_succ, List.getElem?_cons_zero]); rfl
      · exact fun _ _ _ h => h
      · rfl
      · (intro wS hwS; (try dsimp only at hwS); go_simp; all_goals with_reducible rfl)
      try simp only [Act.put, List.setIfInBounds_toArray, List.set_cons_zero, List.set_cons_succ]
      refine wpAnyH_take (i := 34) (oi := ?_) (v := ?_) ?_ (by kernel_rfl) (by kernel_rfl) (by kernel_rfl) ?_ (Or.inl ⟨?_, ?_⟩) (by assumption) ?_
      rotate_left 2
      · (try simp only [List.getElem?_toArray, List.getElem?_cons_succ, List.getElem?_cons_zero]); rfl
      · exact fun _ _ _ h => h
      · rfl
      · (intro wS hwS; (try dsimp only at hwS); go_simp; all_goals with_reducible rfl)
      try simp only [Act.put, List.setIfInBounds_toArray, List.set_cons_zero, List.set_cons_succ]
      refine wpAnyH_ready (rs := [35]) (by kernel_rfl) (by simp) ?_
      refine AllReadyH.cons (o := ?_) ?_ (fun K hK => ?_) AllReadyH.nil
      rotate_left 1
      · (try simp only [List.getElem?_toArray, List.getElem?_cons_succ, List.getElem?_cons_zero]); rfl
      go_simp
      go_at_call 13
      with_reducible refine (law12_awake _).mono ?_
      rintro e wz ⟨rfl, bz⟩
      have tz := Xt16.out.below bz
      refine hK.out _ _ ?_ (fun hHeld => ?_)
      · exact tz.g.cells
      clear hK K
      try simp only [Act.put, List.setIfInBounds_toArray, List.set_cons_zero, List.set_cons_succ]
      have hle := tz.le
      clear bz Xt16 tz
      have Xhle := hide hle
      clear hle
      refine wpAnyH_take (i := 36) (oi := ?_) (v := ?_) ?_ (by kernel_rfl) (by kernel_rfl) (by kernel_rfl) ?_ (Or.inl ⟨?_, ?_⟩) (by assumption) ?_
      rotate_left 2
      · (try simp only [List.getElem?_toArray, List.getElem?_cons_succ, List.getElem?_cons_zero]); rfl
      · exact fun _ _ _ h => h
      · rfl
      · (intro wS hwS; (try dsimp only at hwS); go_simp; all_goals with_reducible rfl)
      try simp only [Act.put, List.setIfInBounds_toArray, List.set_cons_zero, List.set_cons_succ]
      refine wpAnyH_take (i := 37) (oi := ?_) (v := ?_) ?_ (by kernel_rfl) (by kernel_rfl) (by kernel_rfl) ?_ (Or.inl ⟨?_, ?_⟩) (by assumption) ?_
      rotate_left 2
      · (try simp only [List.getElem?_toArray, List.getElem?_cons_succ, List.getElem?_cons_zero]); rfl
      · exact fun _ _ _ h => h
      · rfl
      · (intro wS hwS; (try dsimp only at hwS); go_simp; all_goals with_reducible rfl)
      try simp only [Act.put, List.setIfInBounds_toArray, List.set_cons_zero, List.set_cons_succ]
      refine wpAnyH_done (by kernel_rfl) ?_ _
      go_wp2_with fail
      go_ret
      exact ⟨rfl, Xhle.out⟩
end Go.Proofs.YtlpokomfljmogaaGreat

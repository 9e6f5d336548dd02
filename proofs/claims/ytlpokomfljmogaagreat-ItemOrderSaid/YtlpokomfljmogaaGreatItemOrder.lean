/- The law ItemOrder: the walk. -/
import Derived.Test.YtlpokomfljmogaaGreatItemCloses
namespace Go.Proofs.YtlpokomfljmogaaGreat
set_option linter.unusedVariables false
set_option linter.unusedSimpArgs false
open Go.RowKit
attribute [local irreducible] wpStill wpOne wpPh

set_option maxRecDepth 100000 in
set_option maxHeartbeats 8000000 in
theorem walk_ItemOrder (C : Array Value) (G : GramD) (v : Value) (l : List It) (C2 : Array Value) (x : It) (s : Int) (w : World) (hg : GramCells w C.toList G) (hv : RdL w (· < w.heap.size) 2 (fun cs x => ItemWf cs x) v l ∧ l.length * 16 ≤ 140737488351232) (hx2 : ItemWf C2.toList x) (hs : (Lit.int .u8 s).wf = true) :
    Calls Tryz.prog 5 #[.agg C, v, .agg C2, .int .u8 s] w (Quiet w (.bool true)) := by
  obtain ⟨vt, vn, vr, hC, hg, -⟩ := hg
  obtain rfl : C = #[vt, vn, vr, .int .i64 G.start] := Array.toList_inj.1 hC
  clear hC
  obtain ⟨x0, x1⟩ := x
  obtain ⟨hC2, hwx⟩ : C2 = #[.int .i64 x0, .int .i64 x1] ∧ WfI (x0, x1) := by
    obtain ⟨d0, d1, e, ⟨e0, f0⟩, e1, f1⟩ := hx2
    injection e0 with e0 _
    injection e1 with e1 _
    subst e0 e1
    exact ⟨Array.toList_inj.1 e, wf_i64_iff f0, wf_i64_iff f1⟩
  subst hC2
  have hs8 : 0 ≤ s ∧ s ≤ 255 := by
    simp [Lit.wf, IntKind.min, IntKind.max, IntKind.signed, IntKind.bits] at hs
    omega
  clear hs hx2
  obtain ⟨hv, hwf⟩ := rdl_items hv.1
  obtain ⟨Av, nv, cv, rfl, -⟩ := id hv
  obtain ⟨hnv, hnc, hcm, -⟩ := RdIt.at_ hv
  unfold maxLen at hcm
  generalize G.start = st at *
  obtain ⟨A1, c1, A2, c2, A3, c3, rfl, rfl, rfl, -⟩ := hg.slices
  obtain ⟨w1, hw1, g1, k1, b1⟩ := two_boxes hg st x0 x1
  have t1 : LSt w w1 (· < w.heap.size) A1 c1 A2 c2 A3 c3 G.terms.length G.nons.length G.rules.length st G := ⟨g1, b1⟩
  have rv1 := RdIt.up hv b1
  have hm := law_much g1.gram st
  have cC := fun wr (g : GBox wr (· < w.heap.size) w.heap.size A1 c1 A2 c2 A3 c3 G.terms.length G.nons.length G.rules.length st G) => ref_check g.gram st
  have cl := fun wr (g : GBox wr (· < w.heap.size) w.heap.size A1 c1 A2 c2 A3 c3 G.terms.length G.nons.length G.rules.length st G) (v : Value) (l : List It) (hl : RdIt wr (fun b => b < wr.heap.size) v l) (hwf : ∀ x ∈ l, WfI x) => item_Close g.gram g.gram.lt st hl hwf
  have hkn : checkOf G st = 0 → KnI G st := KnI.of_check
  have hmy : checkOf G st = 0 → mayB G st = true := fun h => decide_eq_true h
  obtain ⟨q0, q1, q2, q3⟩ := g1.cells
  generalize G.terms.length = T at *
  generalize G.nons.length = N at *
  generalize G.rules.length = R at *
  obtain ⟨F, hF⟩ : ∃ F : Nat → Prop, F = fun b => b < w.heap.size := ⟨_, rfl⟩
  rw [← hF] at t1
  rw [← hF] at cC cl
  rw [hw1] at q0 q1 q2 q3 hm
  clear hg hF g1 b1 hv
  generalize hcz : checkOf G st = cz at *
  have Xhm := hide hm
  have XcC := hide cC
  have Xcl := hide cl
  have Xk1 := hide k1
  have Xhwx := hide hwx
  have Xt1 := hide t1
  have Xrv1 := hide rv1
  have Xhkn := hide hkn
  have Xhmy := hide hmy
  have Xhcz := hide hcz
  have Xhwf := hide hwf
  have Xhnv := hide hnv
  clear hm cC cl k1 hwx t1 rv1 hkn hmy hcz hwf hnv
  go_enter Tryz.func5, Tryz.ntmps5
  go_wp2_with fail
  refine Xhm.out.mono ?_
  rintro e w2 ⟨r, hr, rfl, b2⟩
  rw [← hw1] at b2
  have t2 := Xt1.out.below b2
  have rv2 := RdIt.up Xrv1.out b2
  have k2 := Xk1.out.below b2 Xk1.out.lt
  clear q0 q1 q2 q3 hw1 Xhm Xt1 Xrv1 Xk1 b2 hr
  obtain ⟨q0, q1, q2, q3⟩ := t2.g.cells
  have hb2 := t2.le
  by_cases hbig : 100 < r
  · have Xhb2 := hide hb2
    have Xt2 := hide t2
    have Xrv2 := hide rv2
    have Xk2 := hide k2
    clear hb2 t2 rv2 k2
    go_wp2_with fail
    with_reducible refine (law12_awake _).mono ?_
    rintro e w3 ⟨rfl, b3⟩
    go_wp2_with fail
    go_ret
    exact ⟨rfl, Xhb2.out.trans (b3.mono Xhb2.out.size)⟩
  by_cases hlong : (40 : Int) < (nv : Int)
  · have Xhb2 := hide hb2
    have Xt2 := hide t2
    have Xrv2 := hide rv2
    have Xk2 := hide k2
    clear hb2 t2 rv2 k2
    go_wp2_with fail
    with_reducible refine (law12_awake _).mono ?_
    rintro e w3 ⟨rfl, b3⟩
    go_wp2_with fail
    go_ret
    exact ⟨rfl, Xhb2.out.trans (b3.mono Xhb2.out.size)⟩
  by_cases hnil : nv = 0
  · have hnil' : ((nv : Int) == 0) = true := by simp; exact hnil
    have Xhb2 := hide hb2
    have Xt2 := hide t2
    have Xrv2 := hide rv2
    have Xk2 := hide k2
    have Xhnil := hide hnil
    clear hb2 t2 rv2 k2 hnil
    go_wp2_with fail
    with_reducible refine (law12_awake _).mono ?_
    rintro e w3 ⟨rfl, b3⟩
    go_wp2_with fail
    go_ret
    exact ⟨rfl, Xhb2.out.trans (b3.mono Xhb2.out.size)⟩
  have hnil' : ((nv : Int) == 0) = false := by simp; exact hnil
  have cc := XcC.out _ t2.g
  clear hb2
  have Xt2 := hide t2
  have Xrv2 := hide rv2
  have Xcc := hide cc
  have Xk2 := hide k2
  clear t2 rv2 cc k2
  go_wp2_with fail
  with_reducible refine Xcc.out.mono ?_
  rintro e w3 ⟨rfl, b3⟩
  have t3 := Xt2.out.below b3
  have rv3 := RdIt.up Xrv2.out b3
  have k3 := Xk2.out.below b3 Xk2.out.lt
  clear q0 q1 q2 q3 b3 Xt2 Xrv2 Xk2 Xcc XcC
  by_cases hz : cz = 0
  case neg =>
    have hz' : (cz != 0) = true := by simpa using hz
    have hb2 := t3.le
    have Xhb2 := hide hb2
    have Xt3 := hide t3
    have Xrv3 := hide rv3
    have Xk3 := hide k3
    clear hb2 t3 rv3 k3
    go_wp2_with fail
    with_reducible refine (law12_awake _).mono ?_
    rintro e w3 ⟨rfl, b3⟩
    go_wp2_with fail
    go_ret
    exact ⟨rfl, Xhb2.out.trans (b3.mono Xhb2.out.size)⟩
  subst hz
  have hk := Xhkn.out (by first | rfl | trivial)
  have hm := Xhmy.out (by first | rfl | trivial)
  obtain ⟨q, hq, hqn⟩ : ∃ q : Nat, s.tmod (nv : Int) = (q : Int) ∧ q < nv := by
    refine ⟨(s.tmod (nv : Int)).toNat, ?_, ?_⟩
    · rw [Int.toNat_of_nonneg (Int.tmod_nonneg _ hs8.1)]
    · have := Int.tmod_lt_of_pos s (show (0 : Int) < (nv : Int) by omega)
      have h0 := Int.tmod_nonneg (nv : Int) hs8.1
      omega
  have hne0 : (nv : Int) ≠ 0 := by omega
  have c3l := Xcl.out _ t3.g _ _ rv3 Xhwf.out
  rw [hm] at c3l
  obtain ⟨q0, q1, q2, q3⟩ := t3.g.cells
  obtain ⟨hs0, hs1⟩ := hs8
  clear Xhkn Xhmy
  have Xt3 := hide t3
  have Xrv3 := hide rv3
  have Xk3 := hide k3
  have Xc3l := hide c3l
  have Xhk := hide hk
  have Xhm := hide hm
  clear t3 rv3 k3 c3l hk hm
  go_wp2_with fail
  refine Xc3l.out.mono ?_
  rintro e w4 hp
  obtain ⟨o, hcl, hp⟩ := MayClose.yes hp
  obtain ⟨A4, d4, rfl, ro4, b4⟩ := hp.rd
  have t4 := (Xt3.out.below b4).below ((Below.refl _ w4).drew)
  have rv4 := RdIt.up (RdIt.up Xrv3.out b4) ((Below.refl _ w4).drew)
  have k4 := (Xk3.out.below b4 Xk3.out.lt).drew
  have ra4 := RdIt.up ro4 ((Below.refl _ w4).drew)
  clear q0 q1 q2 q3 b4 ro4 hp Xt3 Xrv3 Xk3 Xc3l
  obtain ⟨-, -, -, hcell⟩ := RdIt.at_ rv4
  obtain ⟨b, off, rfl, -, -⟩ := hcell (by omega)
  have hck : ¬ cv = q := by omega
  have hqc : (q : Int) ≤ (cv : Int) := by omega
  have hqn' : (q : Int) ≤ (nv : Int) := by omega
  have hq0 : (0 : Int) ≤ (q : Int) := by omega
  have r1 : ∀ W, Below w4.drew.heap.size w4.drew W → RdIt W (fun b => b < w4.drew.heap.size) (.slice (some ⟨b, off + q * 2, none⟩) (nv - q) (cv - q)) (l.drop q) := fun W hW => by
    have := RdIt.rest (Rd.below rv4 hW (fun b hb => hb)) (k := q) (by omega)
    rw [if_neg hck] at this
    exact this
  have r2 : ∀ W, Below w4.drew.heap.size w4.drew W → RdIt W (fun b => b < w4.drew.heap.size) (.slice (some ⟨b, off, none⟩) q cv) (l.take q) := fun W hW => RdIt.first (Rd.below rv4 hW (fun b hb => hb)) (by omega)
  have lk1 : (itCells (l.drop q)).length = (nv - q) * 2 := by rw [itCells_length, List.length_drop, ← Xhnv.out]
  have lk2 : (itCells (l.take q)).length = q * 2 := by rw [itCells_length, List.length_take]; have := Xhnv.out; congr 1; omega
  have en : nv - q + q = nv := by omega
  obtain ⟨q0, q1, q2, q3⟩ := t4.g.cells
  clear hcell
  have Xt4 := hide t4
  have Xrv4 := hide rv4
  have Xk4 := hide k4
  have Xra4 := hide ra4
  have Xr1 := hide r1
  have Xr2 := hide r2
  have Xlk1 := hide lk1
  have Xlk2 := hide lk2
  have Xhcl := hide hcl
  have Xen := hide en
  clear t4 rv4 k4 ra4 r1 r2 lk1 lk2 hcl en
  go_wp2_with fail
  refine wp_region_held_drew (S := (fun V => V.cell? ⟨w.heap.size, 0, none⟩ = some (.slice A1 T c1) ∧ V.cell? ⟨w.heap.size, 1, none⟩ = some (.slice A2 N c2) ∧ V.cell? ⟨w.heap.size, 2, none⟩ = some (.slice A3 R c3) ∧ V.cell? ⟨w.heap.size, 3, none⟩ = some (.int .i64 st))) (by kernel_rfl) ?_ (fun hHeld => ?_)
  · exact ⟨q0, q1, q2, q3⟩
  generalize w4.drew = wd at *
  clear q0 q1 q2 q3
  refine wpAnyH_take (i := 0) (oi := ?_) (v := ?_) ?_ (by kernel_rfl) (by kernel_rfl) (by kernel_rfl) ?_ (Or.inl ⟨?_, ?_⟩) (by assumption) ?_
  rotate_left 2
  · (try simp only [List.getElem?_toArray, List.getElem?_cons_succ, List.getElem?_cons_zero]); rfl
  · exact fun _ _ _ h => h
  · rfl
  · (intro wS hwS; (try dsimp only at hwS); go_simp; all_goals with_reducible rfl)
  try simp only [Act.put, List.setIfInBounds_toArray, List.set_cons_zero, List.set_cons_succ]
  refine wpAnyH_take (i := 2) (oi := ?_) (v := ?_) ?_ (by kernel_rfl) (by kernel_rfl) (by kernel_rfl) ?_ (Or.inl ⟨?_, ?_⟩) (by assumption) ?_
  rotate_left 2
  · (try simp only [List.getElem?_toArray, List.getElem?_cons_succ, List.getElem?_cons_zero]); rfl
  · exact fun _ _ _ h => h
  · rfl
  · (intro wS hwS; (try dsimp only at hwS); go_simp; all_goals with_reducible rfl)
  try simp only [Act.put, List.setIfInBounds_toArray, List.set_cons_zero, List.set_cons_succ]
  refine wpAnyH_take (i := 3) (oi := ?_) (v := ?_) ?_ (by kernel_rfl) (by kernel_rfl) (by kernel_rfl) ?_ (Or.inl ⟨?_, ?_⟩) (by assumption) ?_
  rotate_left 2
  · (try simp only [List.getElem?_toArray, List.getElem?_cons_succ, List.getElem?_cons_zero]); rfl
  · exact fun _ _ _ h => h
  · rfl
  · (intro wS hwS; (try dsimp only at hwS); go_simp; all_goals with_reducible rfl)
  try simp only [Act.put, List.setIfInBounds_toArray, List.set_cons_zero, List.set_cons_succ]
  refine wpAnyH_take (i := 4) (oi := ?_) (v := ?_) ?_ (by kernel_rfl) (by kernel_rfl) (by kernel_rfl) ?_ (Or.inl ⟨?_, ?_⟩) (by assumption) ?_
  rotate_left 2
  · (try simp only [List.getElem?_toArray, List.getElem?_cons_succ, List.getElem?_cons_zero]); rfl
  · exact fun _ _ _ h => h
  · rfl
  · (intro wS hwS; (try dsimp only at hwS); go_simp; all_goals with_reducible rfl)
  try simp only [Act.put, List.setIfInBounds_toArray, List.set_cons_zero, List.set_cons_succ]
  refine wpAnyH_take (i := 6) (oi := ?_) (v := ?_) ?_ (by kernel_rfl) (by kernel_rfl) (by kernel_rfl) ?_ (Or.inl ⟨?_, ?_⟩) (by assumption) ?_
  rotate_left 2
  · (try simp only [List.getElem?_toArray, List.getElem?_cons_succ, List.getElem?_cons_zero]); rfl
  · exact fun _ _ _ h => h
  · rfl
  · (intro wS hwS; (try dsimp only at hwS); go_simp; all_goals with_reducible rfl)
  try simp only [Act.put, List.setIfInBounds_toArray, List.set_cons_zero, List.set_cons_succ]
  refine wpAnyH_take (i := 7) (oi := ?_) (v := ?_) ?_ (by kernel_rfl) (by kernel_rfl) (by kernel_rfl) ?_ (Or.inl ⟨?_, ?_⟩) (by assumption) ?_
  rotate_left 2
  · (try simp only [List.getElem?_toArray, List.getElem?_cons_succ, List.getElem?_cons_zero]); rfl
  · exact fun _ _ _ h => h
  · rfl
  · (intro wS hwS; (try dsimp only at hwS); go_simp; all_goals with_reducible rfl)
  try simp only [Act.put, List.setIfInBounds_toArray, List.set_cons_zero, List.set_cons_succ]
  refine wpAnyH_take (i := 8) (oi := ?_) (v := ?_) ?_ (by kernel_rfl) (by kernel_rfl) (by kernel_rfl) ?_ (Or.inl ⟨?_, ?_⟩) (by assumption) ?_
  rotate_left 2
  · (try simp only [List.getElem?_toArray, List.getElem?_cons_succ, List.getElem?_cons_zero]); rfl
  · exact fun _ _ _ h => h
  · rfl
  · (intro wS hwS; (try dsimp only at hwS); go_simp; all_goals with_reducible rfl)
  try simp only [Act.put, List.setIfInBounds_toArray, List.set_cons_zero, List.set_cons_succ]
  refine wpAnyH_ready (rs := [1]) (by kernel_rfl) (by simp) ?_
  refine AllReadyH.cons (o := ?_) ?_ (fun K hK => ?_) ?_
  rotate_left 1
  · (try simp only [List.getElem?_toArray, List.getElem?_cons_succ, List.getElem?_cons_zero]); rfl
  rotate_left 1
  · exact AllReadyH.nil
  go_simp
  have B1 : Below wd.heap.size wd (wd.alloc (.cells #[] 34)) := (Below.refl _ wd).alloc (Nat.le_refl _) _
  have o1 := own_empty wd 34 2
  refine hK.out _ _ ?_ (fun hHeld => ?_)
  · exact (Xt4.out.below B1).g.cells
  clear hK K
  try simp only [Act.put, List.setIfInBounds_toArray, List.set_cons_zero, List.set_cons_succ]
  refine wpAnyH_ready (rs := [5]) (by kernel_rfl) (by simp) ?_
  refine AllReadyH.cons (o := ?_) ?_ (fun K hK => ?_) ?_
  rotate_left 1
  · (try simp only [List.getElem?_toArray, List.getElem?_cons_succ, List.getElem?_cons_zero]); rfl
  rotate_left 1
  · exact AllReadyH.nil
  refine step_append _ rfl (.tmp 44) (.tmp 47) _ rfl Tryz.elemItem wd.heap.size _ 0 [] rfl o1 (fun b => b < wd.heap.size) _ _ (nv - q) rfl Xlk1.out (Xr1.out _ B1) (itCells_one _) (by unfold maxLen; omega) (by omega) B1.size ?_
  intro A6 c6 w6 own6 hg6 hb6
  rw [Nat.zero_add] at own6 ⊢
  have B6 := B1.grown hg6 B1.size (fun z hz => (World.ownsRow.lt o1 z hz).1)
  refine hK.out _ _ ?_ (fun hHeld => ?_)
  · exact (Xt4.out.below B6).g.cells
  clear hK K
  try simp only [Act.put, List.setIfInBounds_toArray, List.set_cons_zero, List.set_cons_succ]
  refine wpAnyH_ready (rs := [9]) (by kernel_rfl) (by simp) ?_
  refine AllReadyH.cons (o := ?_) ?_ (fun K hK => ?_) ?_
  rotate_left 1
  · (try simp only [List.getElem?_toArray, List.getElem?_cons_succ, List.getElem?_cons_zero]); rfl
  rotate_left 1
  · exact AllReadyH.nil
  refine step_append _ rfl (.tmp 48) (.tmp 51) _ rfl Tryz.elemItem wd.heap.size _ (nv - q) _ rfl own6 (fun b => b < wd.heap.size) _ _ q rfl Xlk2.out (Xr2.out _ B6) (itCells_one _) (by unfold maxLen; omega) (by omega) B6.size ?_
  intro A7 c7 w7 own7 hg7 hb7
  rw [Xen.out] at own7 ⊢
  have B7 := B6.grown hg7 B6.size (fun z hz => (World.ownsRow.lt own6 z hz).1)
  have t7 := Xt4.out.below B7
  refine hK.out _ _ ?_ (fun hHeld => ?_)
  · exact t7.g.cells
  clear hK K
  try simp only [Act.put, List.setIfInBounds_toArray, List.set_cons_zero, List.set_cons_succ]
  have rv7 := RdIt.up Xrv4.out B7
  have k7 := Xk4.out.below B7 Xk4.out.lt
  have ra7 := RdIt.up Xra4.out B7
  have hcells : ([] ++ itCells (l.drop q)) ++ itCells (l.take q) = itCells (l.drop q ++ l.take q) := by rw [itCells_append]; simp
  rw [hcells] at own7
  have rb7 : RdIt w7 (fun b => b < w7.heap.size) (.slice A7 nv c7) (l.drop q ++ l.take q) := (Rd.of_own own7).mono (fun z hz => (World.ownsRow.lt own7 z hz).2)
  have hsame : ∀ z, z ∈ l.drop q ++ l.take q ↔ z ∈ l := fun z => by
    rw [List.mem_append, or_comm, ← List.mem_append, List.take_append_drop]
  have c7l := Xcl.out _ t7.g _ _ rb7 (fun z hz => Xhwf.out z ((hsame z).1 hz))
  rw [Xhm.out] at c7l
  clear own6 own7 hg6 hg7 hb6 hb7 B1 B6 B7 o1 rb7 hcells Xt4 Xrv4 Xk4 Xra4 Xr1 Xr2
  have Xt7 := hide t7
  have Xrv7 := hide rv7
  have Xk7 := hide k7
  have Xra7 := hide ra7
  have Xc7l := hide c7l
  have Xhsame := hide hsame
  clear t7 rv7 k7 ra7 c7l hsame
  refine wpAnyH_ready (rs := [10]) (by kernel_rfl) (by simp) ?_
  refine AllReadyH.cons (o := ?_) ?_ (fun K hK => ?_) AllReadyH.nil
  rotate_left 1
  · (try simp only [List.getElem?_toArray, List.getElem?_cons_succ, List.getElem?_cons_zero]); rfl
  go_simp
  go_at_call 18
  refine Xc7l.out.mono ?_
  rintro e w8 hp
  obtain ⟨o8, hcl8, hp⟩ := MayClose.yes hp
  obtain ⟨A8, d8, rfl, rb8, b8⟩ := hp.rd
  have eo : o = o8 := (hcl8.unique Xhcl.out (fun z => Cl.same Xhsame.out)).symm
  subst eo
  have t8 := Xt7.out.below b8
  refine hK.out _ _ ?_ (fun hHeld => ?_)
  · exact t8.g.cells
  clear hK K
  try simp only [Act.put, List.setIfInBounds_toArray, List.set_cons_zero, List.set_cons_succ]
  have td := t8.below ((Below.refl _ w8).drew)
  have rvd := RdIt.up (RdIt.up Xrv7.out b8) ((Below.refl _ w8).drew)
  have kd := (Xk7.out.below b8 Xk7.out.lt).drew
  have rad := RdIt.up (RdIt.up Xra7.out b8) ((Below.refl _ w8).drew)
  have rbd := RdIt.up rb8 ((Below.refl _ w8).drew)
  have d0 := (kd.cell 0).trans rfl
  have d1 := (kd.cell 1).trans rfl
  clear hp hcl8 b8 rb8 t8 Xt7 Xrv7 Xk7 Xra7 Xc7l
  have r3 : ∀ W, Below w8.drew.heap.size w8.drew W → RdIt W (fun b => b < w8.drew.heap.size) (.slice (some ⟨b, off, none⟩) nv cv) l := fun W hW => Rd.below rvd hW (fun b hb => hb)
  have lk3 : (itCells l).length = nv * 2 := by rw [itCells_length, ← Xhnv.out]
  have kx : ∀ W, Below w8.drew.heap.size w8.drew W → W.cell? ⟨w.heap.size, 0, none⟩ = some (.slice A1 T c1) ∧ W.cell? ⟨w.heap.size, 1, none⟩ = some (.slice A2 N c2) ∧ W.cell? ⟨w.heap.size, 2, none⟩ = some (.slice A3 R c3) ∧ W.cell? ⟨w.heap.size, 3, none⟩ = some (.int .i64 st) ∧ W.cell? ⟨w.heap.size + 1, 0, none⟩ = some (.int .i64 x0) ∧ W.cell? ⟨w.heap.size + 1, 1, none⟩ = some (.int .i64 x1) := fun W hW =>
    ⟨(td.below hW).g.cells.1, (td.below hW).g.cells.2.1, (td.below hW).g.cells.2.2.1, (td.below hW).g.cells.2.2.2, (hW.cell (p := ⟨w.heap.size + 1, 0, none⟩) kd.lt).trans d0, (hW.cell (p := ⟨w.heap.size + 1, 1, none⟩) kd.lt).trans d1⟩
  have kx0 := kx _ (Below.refl _ _)
  clear d0 d1 rvd
  have Xtd := hide td
  have Xkd := hide kd
  have Xrad := hide rad
  have Xrbd := hide rbd
  have Xr3 := hide r3
  have Xlk3 := hide lk3
  have Xkx := hide kx
  have Xkx0 := hide kx0
  clear td kd rad rbd r3 lk3 kx kx0
  refine wpAnyH_take (i := 11) (oi := ?_) (v := ?_) ?_ (by kernel_rfl) (by kernel_rfl) (by kernel_rfl) ?_ (Or.inl ⟨?_, ?_⟩) (by assumption) ?_
  rotate_left 2
  · (try simp only [List.getElem?_toArray, List.getElem?_cons_succ, List.getElem?_cons_zero]); rfl
  · exact fun _ _ _ h => h
  · rfl
  · (intro wS hwS; (try dsimp only at hwS); go_simp; all_goals with_reducible rfl)
  try simp only [Act.put, List.setIfInBounds_toArray, List.set_cons_zero, List.set_cons_succ]
  refine wpAnyH_done (by kernel_rfl) ?_ _
  clear hHeld
  go_wp2_with fail
  refine wp_region_held_drew (S := (fun V => V.cell? ⟨w.heap.size, 0, none⟩ = some (.slice A1 T c1) ∧ V.cell? ⟨w.heap.size, 1, none⟩ = some (.slice A2 N c2) ∧ V.cell? ⟨w.heap.size, 2, none⟩ = some (.slice A3 R c3) ∧ V.cell? ⟨w.heap.size, 3, none⟩ = some (.int .i64 st) ∧ V.cell? ⟨w.heap.size + 1, 0, none⟩ = some (.int .i64 x0) ∧ V.cell? ⟨w.heap.size + 1, 1, none⟩ = some (.int .i64 x1))) (by kernel_rfl) ?_ (fun hHeld => ?_)
  · exact Xkx0.out
  generalize w8.drew = wd at *
  refine wpAnyH_take (i := 0) (oi := ?_) (v := ?_) ?_ (by kernel_rfl) (by kernel_rfl) (by kernel_rfl) ?_ (Or.inl ⟨?_, ?_⟩) (by assumption) ?_
  rotate_left 2
  · (try simp only [List.getElem?_toArray, List.getElem?_cons_succ, List.getElem?_cons_zero]); rfl
  · exact fun _ _ _ h => h
  · rfl
  · (intro wS hwS; (try dsimp only at hwS); go_simp; all_goals with_reducible rfl)
  try simp only [Act.put, List.setIfInBounds_toArray, List.set_cons_zero, List.set_cons_succ]
  refine wpAnyH_take (i := 2) (oi := ?_) (v := ?_) ?_ (by kernel_rfl) (by kernel_rfl) (by kernel_rfl) ?_ (Or.inl ⟨?_, ?_⟩) (by assumption) ?_
  rotate_left 2
  · (try simp only [List.getElem?_toArray, List.getElem?_cons_succ, List.getElem?_cons_zero]); rfl
  · exact fun _ _ _ h => h
  · rfl
  · (intro wS hwS; (try dsimp only at hwS); go_simp; all_goals with_reducible rfl)
  try simp only [Act.put, List.setIfInBounds_toArray, List.set_cons_zero, List.set_cons_succ]
  refine wpAnyH_take (i := 4) (oi := ?_) (v := ?_) ?_ (by kernel_rfl) (by kernel_rfl) (by kernel_rfl) ?_ (Or.inl ⟨?_, ?_⟩) (by assumption) ?_
  rotate_left 2
  · (try simp only [List.getElem?_toArray, List.getElem?_cons_succ, List.getElem?_cons_zero]); rfl
  · exact fun _ _ _ h => h
  · rfl
  · (intro wS hwS; (try dsimp only at hwS); go_simp; all_goals with_reducible rfl)
  try simp only [Act.put, List.setIfInBounds_toArray, List.set_cons_zero, List.set_cons_succ]
  refine wpAnyH_ready (rs := [1, 5]) (by kernel_rfl) (by simp) ?_
  refine AllReadyH.cons (o := ?_) ?_ (fun K hK => ?_) ?_
  rotate_left 1
  · (try simp only [List.getElem?_toArray, List.getElem?_cons_succ, List.getElem?_cons_zero]); rfl
  · go_simp
    have B1 : Below wd.heap.size wd (wd.alloc (.cells #[] 34)) := (Below.refl _ wd).alloc (Nat.le_refl _) _
    have o1 := own_empty wd 34 2
    refine hK.out _ _ ?_ (fun hHeld => ?_)
    · exact Xkx.out _ B1
    clear hK K
    try simp only [Act.put, List.setIfInBounds_toArray, List.set_cons_zero, List.set_cons_succ]
    refine wpAnyH_ready (rs := [3, 5]) (by kernel_rfl) (by simp) ?_
    refine AllReadyH.cons (o := ?_) ?_ (fun K hK => ?_) ?_
    rotate_left 1
    · (try simp only [List.getElem?_toArray, List.getElem?_cons_succ, List.getElem?_cons_zero]); rfl
    · skip
      refine step_append _ rfl (.tmp 55) (.tmp 56) _ rfl Tryz.elemItem wd.heap.size _ 0 [] rfl o1 (fun b => b < wd.heap.size) _ _ nv rfl Xlk3.out (Xr3.out _ B1) (itCells_one _) (by unfold maxLen; omega) (by omega) (B1).size ?_
      intro A9 c9 w9 own9 hg9 hb9
      rw [Nat.zero_add] at own9 ⊢
      have hg9 : World.grownBy _ w9 (some (wd.heap.size)) := hg9
      have B9 := (B1).grown hg9 (B1).size (fun z hz => (World.ownsRow.lt o1 z hz).1)
      refine hK.out _ _ ?_ (fun hHeld => ?_)
      · exact Xkx.out _ B9
      clear hK K
      try simp only [Act.put, List.setIfInBounds_toArray, List.set_cons_zero, List.set_cons_succ]
      refine wpAnyH_ready (rs := [5]) (by kernel_rfl) (by simp) ?_
      refine AllReadyH.cons (o := ?_) ?_ (fun K hK => ?_) ?_
      rotate_left 1
      · (try simp only [List.getElem?_toArray, List.getElem?_cons_succ, List.getElem?_cons_zero]); rfl
      rotate_left 1
      · exact AllReadyH.nil
      go_simp
      have B5 : Below wd.heap.size wd (w9.alloc (.cells #[.int .i64 x0, .int .i64 x1] 34)) := B9.alloc B9.size _
      have o5 := own_alloc own9 (.cells #[.int .i64 x0, .int .i64 x1] 34)
      refine hK.out _ _ ?_ (fun hHeld => ?_)
      · exact Xkx.out _ B5
      clear hK K
      try simp only [Act.put, List.setIfInBounds_toArray, List.set_cons_zero, List.set_cons_succ]
      refine wpAnyH_ready (rs := [6]) (by kernel_rfl) (by simp) ?_
      refine AllReadyH.cons (o := ?_) ?_ (fun K hK => ?_) ?_
      rotate_left 1
      · (try simp only [List.getElem?_toArray, List.getElem?_cons_succ, List.getElem?_cons_zero]); rfl
      rotate_left 1
      · exact AllReadyH.nil
      refine step_append _ rfl (.tmp 57) (.tmp 59) _ rfl Tryz.elemItem wd.heap.size _ nv _ rfl o5 _ _ [I64 x0, I64 x1] 1 rfl rfl (RdIt.one (x0, x1)) (itCells_one [(x0, x1)]) (by unfold maxLen; omega) (by omega) (B5).size ?_
      intro A10 c10 w10 own10 hg10 hb10
      have B10 := (B5).grown hg10 (B5).size (fun z hz => (World.ownsRow.lt o5 z hz).1)
      refine hK.out _ _ ?_ (fun hHeld => ?_)
      · exact Xkx.out _ B10
      clear hK K
      try simp only [Act.put, List.setIfInBounds_toArray, List.set_cons_zero, List.set_cons_succ]
      have t10 := Xtd.out.below B10
      have ra10 := RdIt.up Xrad.out B10
      have rb10 := RdIt.up Xrbd.out B10
      have hcells : ([] ++ itCells l) ++ [I64 x0, I64 x1] = itCells (l ++ [(x0, x1)]) := by rw [itCells_append]; simp [itCells]
      rw [hcells] at own10
      have rc10 : RdIt w10 (fun b => b < w10.heap.size) (.slice A10 (nv + 1) c10) (l ++ [(x0, x1)]) := (Rd.of_own own10).mono (fun z hz => (World.ownsRow.lt own10 z hz).2)
      have c10l := Xcl.out _ t10.g _ _ rc10 (fun z hz => by
        rcases List.mem_append.1 hz with hz | hz
        · exact Xhwf.out z hz
        · rw [List.mem_singleton.1 hz]; exact Xhwx.out)
      rw [Xhm.out] at c10l
      clear own10 hg10 hb10 B10 rc10
      have Xt10 := hide t10
      have Xra10 := hide ra10
      have Xrb10 := hide rb10
      have Xc10l := hide c10l
      clear t10 ra10 rb10 c10l
      refine wpAnyH_ready (rs := [7]) (by kernel_rfl) (by simp) ?_
      refine AllReadyH.cons (o := ?_) ?_ (fun K hK => ?_) AllReadyH.nil
      rotate_left 1
      · (try simp only [List.getElem?_toArray, List.getElem?_cons_succ, List.getElem?_cons_zero]); rfl
      go_simp
      go_at_call 18
      refine Xc10l.out.mono ?_
      rintro e w11 hp
      obtain ⟨o2, hcl2, hp⟩ := MayClose.yes hp
      obtain ⟨A11, d11, rfl, rc11, b11⟩ := hp.rd
      have t11 := Xt10.out.below b11
      have ra11 := RdIt.up Xra10.out b11
      have rb11 := RdIt.up Xrb10.out b11
      have hsub : ∀ z ∈ o, z ∈ o2 := fun z hz => (hcl2.mem z).2 (Cl.mono (fun y hy hr => Cl.base y (List.mem_append_left _ hy) hr) ((Xhcl.out.mem z).1 hz))
      have kk := hHeld
      have hal2 : o2.length ≤ 400000 := hcl2.len Xhk.out
      refine hK.out _ _ ?_ (fun hHeld => ?_)
      · exact ⟨t11.g.cells.1, t11.g.cells.2.1, t11.g.cells.2.2.1, t11.g.cells.2.2.2, (b11.cell (p := ⟨w.heap.size + 1, 0, none⟩) (World.block_lt_of_cell? _ _ kk.2.2.2.2.1)).trans kk.2.2.2.2.1, (b11.cell (p := ⟨w.heap.size + 1, 1, none⟩) (World.block_lt_of_cell? _ _ kk.2.2.2.2.2)).trans kk.2.2.2.2.2⟩
      clear hK K
      try simp only [Act.put, List.setIfInBounds_toArray, List.set_cons_zero, List.set_cons_succ]
      clear hp kk b11 Xt10 Xra10 Xrb10 Xc10l hcl2
      have hal : o.length ≤ 400000 := Xhcl.out.len Xhk.out
      have Xt11 := hide t11
      have Xra11 := hide ra11
      have Xrb11 := hide rb11
      have Xrc11 := hide rc11
      have Xhsub := hide hsub
      clear t11 ra11 rb11 rc11 hsub
      refine wpAnyH_take (i := 8) (oi := ?_) (v := ?_) ?_ (by kernel_rfl) (by kernel_rfl) (by kernel_rfl) ?_ (Or.inl ⟨?_, ?_⟩) (by assumption) ?_
      rotate_left 2
      · (try simp only [List.getElem?_toArray, List.getElem?_cons_succ, List.getElem?_cons_zero]); rfl
      · exact fun _ _ _ h => h
      · rfl
      · (intro wS hwS; (try dsimp only at hwS); go_simp; all_goals with_reducible rfl)
      try simp only [Act.put, List.setIfInBounds_toArray, List.set_cons_zero, List.set_cons_succ]
      refine wpAnyH_done (by kernel_rfl) ?_ _
      clear hHeld
      go_wp2_with fail
      go_loopw [13] (fun i wr => ∃ k : Nat, k ≤ o.length ∧ i = .int .i64 k ∧ LSt w wr F A1 c1 A2 c2 A3 c3 T N R st G ∧ RdIt wr (fun b => b < wr.heap.size) (.slice A4 o.length d4) o ∧ RdIt wr (fun b => b < wr.heap.size) (.slice A8 o.length d8) o ∧ RdIt wr (fun b => b < wr.heap.size) (.slice A11 o2.length d11) o2) (fun i _ => o.length - (intOf i).toNat)
      case atStart => exact ⟨0, Nat.zero_le _, rfl, Xt11.out, Xra11.out, Xrb11.out, Xrc11.out⟩
      case round =>
        clear Xt11 Xra11 Xrb11 Xrc11
        obtain ⟨k, hk', rfl, t, ra, rb, rc⟩ := hrel
        by_cases hlt : k < o.length
        · have hlt' : (k : Int) < (o.length : Int) := by omega
          obtain ⟨⟨y0, y1⟩, hy⟩ : ∃ x, o[k]? = some x := ⟨_, List.getElem?_eq_getElem hlt⟩
          have hin := Xhsub.out _ (List.mem_of_getElem? hy)
          have Xt := hide t
          have Xra := hide ra
          have Xrb := hide rb
          have Xrc := hide rc
          have Xhy := hide hy
          have Xhin := hide hin
          clear t ra rb rc hy hin
          go_wp2_with fail
          go_loopw [14, 15] (fun th i wr => ∃ j : Nat, j ≤ o2.length ∧ i = .int .i64 j ∧ th = .bool (decide (((y0, y1) : It) ∈ o2.take j)) ∧ LSt w wr F A1 c1 A2 c2 A3 c3 T N R st G ∧ RdIt wr (fun b => b < wr.heap.size) (.slice A4 o.length d4) o ∧ RdIt wr (fun b => b < wr.heap.size) (.slice A8 o.length d8) o ∧ RdIt wr (fun b => b < wr.heap.size) (.slice A11 o2.length d11) o2) (fun _ i _ => o2.length - (intOf i).toNat)
          case atStart => exact ⟨0, Nat.zero_le _, rfl, by simp, Xt.out, Xra.out, Xrb.out, Xrc.out⟩
          case round =>
            clear Xt Xra Xrb Xrc
            obtain ⟨j, hj, rfl, rfl, t, ra, rb, rc⟩ := hrel
            obtain ⟨th, hth⟩ : ∃ th, th = decide (((y0, y1) : It) ∈ o2.take j) := ⟨_, rfl⟩
            rw [← hth]
            by_cases hlj : j < o2.length
            · have hlj' : (j : Int) < (o2.length : Int) := by omega
              obtain ⟨⟨z0, z1⟩, hz⟩ : ∃ x, o2[j]? = some x := ⟨_, List.getElem?_eq_getElem hlj⟩
              have hnext : decide (((y0, y1) : It) ∈ o2.take (j + 1)) = (th || decide (((y0, y1) : It) = (z0, z1))) := by
                rw [hth, take_snoc hz, Bool.eq_iff_iff]
                simp [List.mem_append]
              obtain ⟨-, -, -, hca⟩ := RdIt.at_ ra
              obtain ⟨ba, oa, e1, -, hca⟩ := hca (by omega)
              obtain ⟨-, -, -, hcc⟩ := RdIt.at_ rc
              obtain ⟨bc, oc, e2, -, hcc⟩ := hcc (by omega)
              obtain ⟨p0, p1⟩ := hca k _ Xhy.out
              obtain ⟨r0, r1⟩ := hcc j _ hz
              simp only at p0 p1 r0 r1
              have heq := eql_item y0 y1 z0 z1
              have hgd := fun op p q => guard_item op p q (y0, y1) (z0, z1)
              have td := t.below ((Below.refl _ wr).drew)
              have rad := RdIt.up ra ((Below.refl _ wr).drew)
              have rbd := RdIt.up rb ((Below.refl _ wr).drew)
              have rcd := RdIt.up rc ((Below.refl _ wr).drew)
              generalize decide (((y0, y1) : It) = (z0, z1)) = eq at *
              clear t ra rb rc hca hcc
              subst e1 e2
              have Xtd := hide td
              have Xrad := hide rad
              have Xrbd := hide rbd
              have Xrcd := hide rcd
              have Xhth := hide hth
              have Xhz := hide hz
              have Xhnext := hide hnext
              clear td rad rbd rcd hth hz hnext
              cases th with
              | true =>
                go_wp2_with fail
                refine wp_region_held_drew (S := (fun V => True)) (by kernel_rfl) ?_ (fun hHeld => ?_)
                · exact trivial
                refine wpAnyH_take (i := 0) (oi := ?_) (v := ?_) ?_ (by kernel_rfl) (by kernel_rfl) (by kernel_rfl) ?_ (Or.inl ⟨?_, ?_⟩) (by assumption) ?_
                rotate_left 2
                · (try simp only [List.getElem?_toArray, List.getElem?_cons_succ, List.getElem?_cons_zero]); rfl
                · exact fun _ _ _ h => h
                · rfl
                · (intro wS hwS; (try dsimp only at hwS); go_simp; all_goals with_reducible rfl)
                try simp only [Act.put, List.setIfInBounds_toArray, List.set_cons_zero, List.set_cons_succ]
                refine wpAnyH_take (i := 1) (oi := ?_) (v := ?_) ?_ (by kernel_rfl) (by kernel_rfl) (by kernel_rfl) ?_ (Or.inl ⟨?_, ?_⟩) (by assumption) ?_
                rotate_left 2
                · (try simp only [List.getElem?_toArray, List.getElem?_cons_succ, List.getElem?_cons_zero]); rfl
                · exact fun _ _ _ h => h
                · rfl
                · (intro wS hwS; (try dsimp only at hwS); go_simp; all_goals with_reducible rfl)
                try simp only [Act.put, List.setIfInBounds_toArray, List.set_cons_zero, List.set_cons_succ]
                refine wpAnyH_take (i := 2) (oi := ?_) (v := undef) ?_ (by kernel_rfl) (by kernel_rfl) (by kernel_rfl) ?_ (Or.inr ⟨?_, rfl⟩) (by assumption) ?_
                rotate_left 1
                · (try simp only [List.getElem?_toArray, List.getElem?_cons_succ, List.getElem?_cons_zero]); rfl
                · exact fun _ _ _ h => h
                · rfl
                try simp only [Act.put, List.setIfInBounds_toArray, List.set_cons_zero, List.set_cons_succ]
                refine wpAnyH_take (i := 3) (oi := ?_) (v := undef) ?_ (by kernel_rfl) (by kernel_rfl) (by kernel_rfl) ?_ (Or.inr ⟨?_, rfl⟩) (by assumption) ?_
                rotate_left 1
                · (try simp only [List.getElem?_toArray, List.getElem?_cons_succ, List.getElem?_cons_zero]); rfl
                · exact fun _ _ _ h => h
                · rfl
                try simp only [Act.put, List.setIfInBounds_toArray, List.set_cons_zero, List.set_cons_succ]
                refine wpAnyH_take (i := 4) (oi := ?_) (v := undef) ?_ (by kernel_rfl) (by kernel_rfl) (by kernel_rfl) ?_ (Or.inr ⟨?_, rfl⟩) (by assumption) ?_
                rotate_left 1
                · (try simp only [List.getElem?_toArray, List.getElem?_cons_succ, List.getElem?_cons_zero]); rfl
                · exact fun _ _ _ h => h
                · rfl
                try simp only [Act.put, List.setIfInBounds_toArray, List.set_cons_zero, List.set_cons_succ]
                refine wpAnyH_take (i := 5) (oi := ?_) (v := undef) ?_ (by kernel_rfl) (by kernel_rfl) (by kernel_rfl) ?_ (Or.inr ⟨?_, rfl⟩) (by assumption) ?_
                rotate_left 1
                · (try simp only [List.getElem?_toArray, List.getElem?_cons_succ, List.getElem?_cons_zero]); rfl
                · exact fun _ _ _ h => h
                · rfl
                try simp only [Act.put, List.setIfInBounds_toArray, List.set_cons_zero, List.set_cons_succ]
                refine wpAnyH_take (i := 6) (oi := ?_) (v := undef) ?_ (by kernel_rfl) (by kernel_rfl) (by kernel_rfl) ?_ (Or.inr ⟨?_, rfl⟩) (by assumption) ?_
                rotate_left 1
                · (try simp only [List.getElem?_toArray, List.getElem?_cons_succ, List.getElem?_cons_zero]); rfl
                · exact fun _ _ _ h => h
                · rfl
                try simp only [Act.put, List.setIfInBounds_toArray, List.set_cons_zero, List.set_cons_succ]
                refine wpAnyH_take (i := 7) (oi := ?_) (v := undef) ?_ (by kernel_rfl) (by kernel_rfl) (by kernel_rfl) ?_ (Or.inr ⟨?_, rfl⟩) (by assumption) ?_
                rotate_left 1
                · (try simp only [List.getElem?_toArray, List.getElem?_cons_succ, List.getElem?_cons_zero]); rfl
                · exact fun _ _ _ h => h
                · rfl
                try simp only [Act.put, List.setIfInBounds_toArray, List.set_cons_zero, List.set_cons_succ]
                refine wpAnyH_take (i := 8) (oi := ?_) (v := undef) ?_ (by kernel_rfl) (by kernel_rfl) (by kernel_rfl) ?_ (Or.inr ⟨?_, rfl⟩) (by assumption) ?_
                rotate_left 1
                · (try simp only [List.getElem?_toArray, List.getElem?_cons_succ, List.getElem?_cons_zero]); rfl
                · exact fun _ _ _ h => h
                · rfl
                try simp only [Act.put, List.setIfInBounds_toArray, List.set_cons_zero, List.set_cons_succ]
                refine wpAnyH_take (i := 9) (oi := ?_) (v := undef) ?_ (by kernel_rfl) (by kernel_rfl) (by kernel_rfl) ?_ (Or.inr ⟨?_, rfl⟩) (by assumption) ?_
                rotate_left 1
                · (try simp only [List.getElem?_toArray, List.getElem?_cons_succ, List.getElem?_cons_zero]); rfl
                · exact fun _ _ _ h => h
                · rfl
                try simp only [Act.put, List.setIfInBounds_toArray, List.set_cons_zero, List.set_cons_succ]
                refine wpAnyH_take (i := 10) (oi := ?_) (v := undef) ?_ (by kernel_rfl) (by kernel_rfl) (by kernel_rfl) ?_ (Or.inr ⟨?_, rfl⟩) (by assumption) ?_
                rotate_left 1
                · (try simp only [List.getElem?_toArray, List.getElem?_cons_succ, List.getElem?_cons_zero]); rfl
                · exact fun _ _ _ h => h
                · rfl
                try simp only [Act.put, List.setIfInBounds_toArray, List.set_cons_zero, List.set_cons_succ]
                refine wpAnyH_take (i := 11) (oi := ?_) (v := ?_) ?_ (by kernel_rfl) (by kernel_rfl) (by kernel_rfl) ?_ (Or.inl ⟨?_, ?_⟩) (by assumption) ?_
                rotate_left 2
                · (try simp only [List.getElem?_toArray, List.getElem?_cons_succ, List.getElem?_cons_zero]); rfl
                · exact fun _ _ _ h => h
                · rfl
                · (intro wS hwS; (try dsimp only at hwS); go_simp; all_goals with_reducible rfl)
                try simp only [Act.put, List.setIfInBounds_toArray, List.set_cons_zero, List.set_cons_succ]
                refine wpAnyH_take (i := 12) (oi := ?_) (v := ?_) ?_ (by kernel_rfl) (by kernel_rfl) (by kernel_rfl) ?_ (Or.inl ⟨?_, ?_⟩) (by assumption) ?_
                rotate_left 2
                · (try simp only [List.getElem?_toArray, List.getElem?_cons_succ, List.getElem?_cons_zero]); rfl
                · exact fun _ _ _ h => h
                · rfl
                · (intro wS hwS; (try dsimp only at hwS); go_simp; all_goals with_reducible rfl)
                try simp only [Act.put, List.setIfInBounds_toArray, List.set_cons_zero, List.set_cons_succ]
                refine wpAnyH_done (by kernel_rfl) ?_ _
                clear hHeld heq hgd p0 p1 r0 r1
                go_wp2_with fail
                go_roundw
                case rel => exact ⟨j + 1, by omega, by go_num, by rw [Xhnext.out]; rfl, Xtd.out, Xrad.out, Xrbd.out, Xrcd.out⟩
                case measure => simp [intOf]; omega
              | false =>
                go_wp2_with fail
                refine wp_region_held_drew (S := (fun V => V.cell? ⟨ba, oa + k * 2, none⟩ = some (.int .i64 y0) ∧ V.cell? ⟨ba, oa + k * 2 + 1, none⟩ = some (.int .i64 y1) ∧ V.cell? ⟨bc, oc + j * 2, none⟩ = some (.int .i64 z0) ∧ V.cell? ⟨bc, oc + j * 2 + 1, none⟩ = some (.int .i64 z1))) (by kernel_rfl) ?_ (fun hHeld => ?_)
                · exact ⟨p0, p1, r0, r1⟩
                refine wpAnyH_take (i := 0) (oi := ?_) (v := ?_) ?_ (by kernel_rfl) (by kernel_rfl) (by kernel_rfl) ?_ (Or.inl ⟨?_, ?_⟩) (by assumption) ?_
                rotate_left 2
                · (try simp only [List.getElem?_toArray, List.getElem?_cons_succ, List.getElem?_cons_zero]); rfl
                · exact fun _ _ _ h => h
                · rfl
                · (intro wS hwS; (try dsimp only at hwS); go_simp; all_goals with_reducible rfl)
                try simp only [Act.put, List.setIfInBounds_toArray, List.set_cons_zero, List.set_cons_succ]
                refine wpAnyH_take (i := 1) (oi := ?_) (v := ?_) ?_ (by kernel_rfl) (by kernel_rfl) (by kernel_rfl) ?_ (Or.inl ⟨?_, ?_⟩) (by assumption) ?_
                rotate_left 2
                · (try simp only [List.getElem?_toArray, List.getElem?_cons_succ, List.getElem?_cons_zero]); rfl
                · exact fun _ _ _ h => h
                · rfl
                · (intro wS hwS; (try dsimp only at hwS); go_simp; all_goals with_reducible rfl)
                try simp only [Act.put, List.setIfInBounds_toArray, List.set_cons_zero, List.set_cons_succ]
                refine wpAnyH_take (i := 2) (oi := ?_) (v := ?_) ?_ (by kernel_rfl) (by kernel_rfl) (by kernel_rfl) ?_ (Or.inl ⟨?_, ?_⟩) (by assumption) ?_
                rotate_left 2
                · (try simp only [List.getElem?_toArray, List.getElem?_cons_succ, List.getElem?_cons_zero]); rfl
                · exact fun _ _ _ h => h
                · rfl
                · (intro wS hwS; (try dsimp only at hwS); go_simp; all_goals with_reducible rfl)
                try simp only [Act.put, List.setIfInBounds_toArray, List.set_cons_zero, List.set_cons_succ]
                refine wpAnyH_take (i := 3) (oi := ?_) (v := ?_) ?_ (by kernel_rfl) (by kernel_rfl) (by kernel_rfl) ?_ (Or.inl ⟨?_, ?_⟩) (by assumption) ?_
                rotate_left 2
                · (try simp only [List.getElem?_toArray, List.getElem?_cons_succ, List.getElem?_cons_zero]); rfl
                · exact fun _ _ _ h => h
                · rfl
                · (intro wS hwS; (try dsimp only at hwS); go_simp; all_goals with_reducible rfl)
                try simp only [Act.put, List.setIfInBounds_toArray, List.set_cons_zero, List.set_cons_succ]
                refine wpAnyH_take (i := 4) (oi := ?_) (v := ?_) ?_ (by kernel_rfl) (by kernel_rfl) (by kernel_rfl) ?_ (Or.inl ⟨?_, ?_⟩) (by assumption) ?_
                rotate_left 2
                · (try simp only [List.getElem?_toArray, List.getElem?_cons_succ, List.getElem?_cons_zero]); rfl
                · exact fun _ _ _ h => h
                · rfl
                · (intro wS hwS; (try dsimp only at hwS); go_simp; all_goals with_reducible rfl)
                try simp only [Act.put, List.setIfInBounds_toArray, List.set_cons_zero, List.set_cons_succ]
                refine wpAnyH_take (i := 5) (oi := ?_) (v := ?_) ?_ (by kernel_rfl) (by kernel_rfl) (by kernel_rfl) ?_ (Or.inl ⟨?_, ?_⟩) (by assumption) ?_
                rotate_left 2
                · (try simp only [List.getElem?_toArray, List.getElem?_cons_succ, List.getElem?_cons_zero]); rfl
                · exact fun _ _ _ h => h
                · rfl
                · (intro wS hwS; (try dsimp only at hwS); go_simp; all_goals with_reducible rfl)
                try simp only [Act.put, List.setIfInBounds_toArray, List.set_cons_zero, List.set_cons_succ]
                refine wpAnyH_take (i := 6) (oi := ?_) (v := ?_) ?_ (by kernel_rfl) (by kernel_rfl) (by kernel_rfl) ?_ (Or.inl ⟨?_, ?_⟩) (by assumption) ?_
                rotate_left 2
                · (try simp only [List.getElem?_toArray, List.getElem?_cons_succ, List.getElem?_cons_zero]); rfl
                · exact fun _ _ _ h => h
                · rfl
                · (intro wS hwS; (try dsimp only at hwS); go_simp; all_goals with_reducible rfl)
                try simp only [Act.put, List.setIfInBounds_toArray, List.set_cons_zero, List.set_cons_succ]
                refine wpAnyH_take (i := 7) (oi := ?_) (v := ?_) ?_ (by kernel_rfl) (by kernel_rfl) (by kernel_rfl) ?_ (Or.inl ⟨?_, ?_⟩) (by assumption) ?_
                rotate_left 2
                · (try simp only [List.getElem?_toArray, List.getElem?_cons_succ, List.getElem?_cons_zero]); rfl
                · exact fun _ _ _ h => h
                · rfl
                · (intro wS hwS; (try dsimp only at hwS); go_simp; all_goals with_reducible rfl)
                try simp only [Act.put, List.setIfInBounds_toArray, List.set_cons_zero, List.set_cons_succ]
                refine wpAnyH_take (i := 8) (oi := ?_) (v := ?_) ?_ (by kernel_rfl) (by kernel_rfl) (by kernel_rfl) ?_ (Or.inl ⟨?_, ?_⟩) (by assumption) ?_
                rotate_left 2
                · (try simp only [List.getElem?_toArray, List.getElem?_cons_succ, List.getElem?_cons_zero]); rfl
                · exact fun _ _ _ h => h
                · rfl
                · (intro wS hwS; (try dsimp only at hwS); go_simp; all_goals with_reducible rfl)
                try simp only [Act.put, List.setIfInBounds_toArray, List.set_cons_zero, List.set_cons_succ]
                refine wpAnyH_take (i := 9) (oi := ?_) (v := ?_) ?_ (by kernel_rfl) (by kernel_rfl) (by kernel_rfl) ?_ (Or.inl ⟨?_, ?_⟩) (by assumption) ?_
                rotate_left 2
                · (try simp only [List.getElem?_toArray, List.getElem?_cons_succ, List.getElem?_cons_zero]); rfl
                · exact fun _ _ _ h => h
                · rfl
                · (intro wS hwS; (try dsimp only at hwS); go_simp; all_goals with_reducible rfl)
                try simp only [Act.put, List.setIfInBounds_toArray, List.set_cons_zero, List.set_cons_succ]
                refine wpAnyH_take (i := 10) (oi := ?_) (v := ?_) ?_ (by kernel_rfl) (by kernel_rfl) (by kernel_rfl) ?_ (Or.inl ⟨?_, ?_⟩) (by assumption) ?_
                rotate_left 2
                · (try simp only [List.getElem?_toArray, List.getElem?_cons_succ, List.getElem?_cons_zero]); rfl
                · exact fun _ _ _ h => h
                · rfl
                · (intro wS hwS; (try dsimp only at hwS); go_simp; all_goals with_reducible rfl)
                try simp only [Act.put, List.setIfInBounds_toArray, List.set_cons_zero, List.set_cons_succ]
                refine wpAnyH_take (i := 11) (oi := ?_) (v := ?_) ?_ (by kernel_rfl) (by kernel_rfl) (by kernel_rfl) ?_ (Or.inl ⟨?_, ?_⟩) (by assumption) ?_
                rotate_left 2
                · (try simp only [List.getElem?_toArray, List.getElem?_cons_succ, List.getElem?_cons_zero]); rfl
                · exact fun _ _ _ h => h
                · rfl
                · (intro wS hwS; (try dsimp only at hwS); go_simp; all_goals with_reducible rfl)
                try simp only [Act.put, List.setIfInBounds_toArray, List.set_cons_zero, List.set_cons_succ]
                refine wpAnyH_take (i := 12) (oi := ?_) (v := ?_) ?_ (by kernel_rfl) (by kernel_rfl) (by kernel_rfl) ?_ (Or.inl ⟨?_, ?_⟩) (by assumption) ?_
                rotate_left 2
                · (try simp only [List.getElem?_toArray, List.getElem?_cons_succ, List.getElem?_cons_zero]); rfl
                · exact fun _ _ _ h => h
                · rfl
                · (intro wS hwS; (try dsimp only at hwS); go_simp; all_goals with_reducible rfl)
                try simp only [Act.put, List.setIfInBounds_toArray, List.set_cons_zero, List.set_cons_succ]
                refine wpAnyH_done (by kernel_rfl) ?_ _
                clear hHeld heq hgd p0 p1 r0 r1
                go_wp2_with fail
                go_roundw
                case rel => exact ⟨j + 1, by omega, by go_num, by rw [Xhnext.out]; rfl, Xtd.out, Xrad.out, Xrbd.out, Xrcd.out⟩
                case measure => simp [intOf]; omega
            · have hlj' : ¬ (j : Int) < (o2.length : Int) := by omega
              have htt : th = true := by rw [hth, List.take_of_length_le (by omega)]; exact decide_eq_true Xhin.out
              subst htt
              have Xt := hide t
              have Xra := hide ra
              have Xrb := hide rb
              have Xrc := hide rc
              have Xhth := hide hth
              clear t ra rb rc hth
              go_wp2_with fail
              go_roundw
              case rel => exact ⟨k + 1, by omega, by go_num, Xt.out, Xra.out, Xrb.out, Xrc.out⟩
              case measure => simp [intOf]; omega
        · have hlt' : ¬ (k : Int) < (o.length : Int) := by omega
          have cS := ref12_Same ra rb
          rw [decide_eq_true rfl] at cS
          have Xt := hide t
          have XcS := hide cS
          clear t cS
          clear ra rb rc
          go_wp2_with fail
          with_reducible refine XcS.out.mono ?_
          rintro e w12 ⟨rfl, b12⟩
          have hb2 := (Xt.out.below b12).le
          clear b12 Xt XcS
          have Xhb2 := hide hb2
          clear hb2
          go_wp2_with fail
          with_reducible refine (law12_awake _).mono ?_
          rintro e w3 ⟨rfl, b3⟩
          go_wp2_with fail
          go_ret
          exact ⟨rfl, Xhb2.out.trans (b3.mono Xhb2.out.size)⟩
    · refine AllReadyH.cons (o := ?_) ?_ (fun K hK => ?_) ?_
      rotate_left 1
      · (try simp only [List.getElem?_toArray, List.getElem?_cons_succ, List.getElem?_cons_zero]); rfl
      · go_simp
        have B2 : Below wd.heap.size wd ((wd.alloc (.cells #[] 34)).alloc (.cells #[.int .i64 x0, .int .i64 x1] 34)) := B1.alloc B1.size _
        have o2 := own_alloc o1 (.cells #[.int .i64 x0, .int .i64 x1] 34)
        have k2 : Blk ((wd.alloc (.cells #[] 34)).alloc (.cells #[.int .i64 x0, .int .i64 x1] 34)) (wd.heap.size + 1) 34 #[.int .i64 x0, .int .i64 x1] := by have := Blk.new (wd.alloc (.cells #[] 34)) 34 #[.int .i64 x0, .int .i64 x1]; simpa using this
        refine hK.out _ _ ?_ (fun hHeld => ?_)
        · exact Xkx.out _ B2
        clear hK K
        try simp only [Act.put, List.setIfInBounds_toArray, List.set_cons_zero, List.set_cons_succ]
        refine wpAnyH_ready (rs := [3]) (by kernel_rfl) (by simp) ?_
        refine AllReadyH.cons (o := ?_) ?_ (fun K hK => ?_) ?_
        rotate_left 1
        · (try simp only [List.getElem?_toArray, List.getElem?_cons_succ, List.getElem?_cons_zero]); rfl
        rotate_left 1
        · exact AllReadyH.nil
        refine step_append _ rfl (.tmp 55) (.tmp 56) _ rfl Tryz.elemItem wd.heap.size _ 0 [] rfl o2 (fun b => b < wd.heap.size) _ _ nv rfl Xlk3.out (Xr3.out _ B2) (itCells_one _) (by unfold maxLen; omega) (by omega) (B2).size ?_
        intro A9 c9 w9 own9 hg9 hb9
        rw [Nat.zero_add] at own9 ⊢
        have hg9 : World.grownBy _ w9 (some (wd.heap.size)) := hg9
        have B9 := (B2).grown hg9 (B2).size (fun z hz => (World.ownsRow.lt o2 z hz).1)
        have k9 := k2.grown hg9 (by simp)
        refine hK.out _ _ ?_ (fun hHeld => ?_)
        · exact Xkx.out _ B9
        clear hK K
        try simp only [Act.put, List.setIfInBounds_toArray, List.set_cons_zero, List.set_cons_succ]
        refine wpAnyH_ready (rs := [6]) (by kernel_rfl) (by simp) ?_
        refine AllReadyH.cons (o := ?_) ?_ (fun K hK => ?_) ?_
        rotate_left 1
        · (try simp only [List.getElem?_toArray, List.getElem?_cons_succ, List.getElem?_cons_zero]); rfl
        rotate_left 1
        · exact AllReadyH.nil
        refine step_append _ rfl (.tmp 57) (.tmp 59) _ rfl Tryz.elemItem wd.heap.size _ nv _ rfl own9 _ _ [I64 x0, I64 x1] 1 rfl rfl (Rd.of_blk (F := fun b => b = wd.heap.size + 1) (us := [I64 x0, I64 x1]) (n := 1) k9 rfl rfl (by decide)) (itCells_one [(x0, x1)]) (by unfold maxLen; omega) (by omega) (B9).size ?_
        intro A10 c10 w10 own10 hg10 hb10
        have B10 := (B9).grown hg10 (B9).size (fun z hz => (World.ownsRow.lt own9 z hz).1)
        refine hK.out _ _ ?_ (fun hHeld => ?_)
        · exact Xkx.out _ B10
        clear hK K
        try simp only [Act.put, List.setIfInBounds_toArray, List.set_cons_zero, List.set_cons_succ]
        have t10 := Xtd.out.below B10
        have ra10 := RdIt.up Xrad.out B10
        have rb10 := RdIt.up Xrbd.out B10
        have hcells : ([] ++ itCells l) ++ [I64 x0, I64 x1] = itCells (l ++ [(x0, x1)]) := by rw [itCells_append]; simp [itCells]
        rw [hcells] at own10
        have rc10 : RdIt w10 (fun b => b < w10.heap.size) (.slice A10 (nv + 1) c10) (l ++ [(x0, x1)]) := (Rd.of_own own10).mono (fun z hz => (World.ownsRow.lt own10 z hz).2)
        have c10l := Xcl.out _ t10.g _ _ rc10 (fun z hz => by
          rcases List.mem_append.1 hz with hz | hz
          · exact Xhwf.out z hz
          · rw [List.mem_singleton.1 hz]; exact Xhwx.out)
        rw [Xhm.out] at c10l
        clear own10 hg10 hb10 B10 rc10
        have Xt10 := hide t10
        have Xra10 := hide ra10
        have Xrb10 := hide rb10
        have Xc10l := hide c10l
        clear t10 ra10 rb10 c10l
        refine wpAnyH_ready (rs := [7]) (by kernel_rfl) (by simp) ?_
        refine AllReadyH.cons (o := ?_) ?_ (fun K hK => ?_) AllReadyH.nil
        rotate_left 1
        · (try simp only [List.getElem?_toArray, List.getElem?_cons_succ, List.getElem?_cons_zero]); rfl
        go_simp
        go_at_call 18
        refine Xc10l.out.mono ?_
        rintro e w11 hp
        obtain ⟨o2, hcl2, hp⟩ := MayClose.yes hp
        obtain ⟨A11, d11, rfl, rc11, b11⟩ := hp.rd
        have t11 := Xt10.out.below b11
        have ra11 := RdIt.up Xra10.out b11
        have rb11 := RdIt.up Xrb10.out b11
        have hsub : ∀ z ∈ o, z ∈ o2 := fun z hz => (hcl2.mem z).2 (Cl.mono (fun y hy hr => Cl.base y (List.mem_append_left _ hy) hr) ((Xhcl.out.mem z).1 hz))
        have kk := hHeld
        have hal2 : o2.length ≤ 400000 := hcl2.len Xhk.out
        refine hK.out _ _ ?_ (fun hHeld => ?_)
        · exact ⟨t11.g.cells.1, t11.g.cells.2.1, t11.g.cells.2.2.1, t11.g.cells.2.2.2, (b11.cell (p := ⟨w.heap.size + 1, 0, none⟩) (World.block_lt_of_cell? _ _ kk.2.2.2.2.1)).trans kk.2.2.2.2.1, (b11.cell (p := ⟨w.heap.size + 1, 1, none⟩) (World.block_lt_of_cell? _ _ kk.2.2.2.2.2)).trans kk.2.2.2.2.2⟩
        clear hK K
        try simp only [Act.put, List.setIfInBounds_toArray, List.set_cons_zero, List.set_cons_succ]
        clear hp kk b11 Xt10 Xra10 Xrb10 Xc10l hcl2
        have hal : o.length ≤ 400000 := Xhcl.out.len Xhk.out
        have Xt11 := hide t11
        have Xra11 := hide ra11
        have Xrb11 := hide rb11
        have Xrc11 := hide rc11
        have Xhsub := hide hsub
        clear t11 ra11 rb11 rc11 hsub
        refine wpAnyH_take (i := 8) (oi := ?_) (v := ?_) ?_ (by kernel_rfl) (by kernel_rfl) (by kernel_rfl) ?_ (Or.inl ⟨?_, ?_⟩) (by assumption) ?_
        rotate_left 2
        · (try simp only [List.getElem?_toArray, List.getElem?_cons_succ, List.getElem?_cons_zero]); rfl
        · exact fun _ _ _ h => h
        · rfl
        · (intro wS hwS; (try dsimp only at hwS); go_simp; all_goals with_reducible rfl)
        try simp only [Act.put, List.setIfInBounds_toArray, List.set_cons_zero, List.set_cons_succ]
        refine wpAnyH_done (by kernel_rfl) ?_ _
        clear hHeld
        go_wp2_with fail
        go_loopw [13] (fun i wr => ∃ k : Nat, k ≤ o.length ∧ i = .int .i64 k ∧ LSt w wr F A1 c1 A2 c2 A3 c3 T N R st G ∧ RdIt wr (fun b => b < wr.heap.size) (.slice A4 o.length d4) o ∧ RdIt wr (fun b => b < wr.heap.size) (.slice A8 o.length d8) o ∧ RdIt wr (fun b => b < wr.heap.size) (.slice A11 o2.length d11) o2) (fun i _ => o.length - (intOf i).toNat)
        case atStart => exact ⟨0, Nat.zero_le _, rfl, Xt11.out, Xra11.out, Xrb11.out, Xrc11.out⟩
        case round =>
          clear Xt11 Xra11 Xrb11 Xrc11
          obtain ⟨k, hk', rfl, t, ra, rb, rc⟩ := hrel
          by_cases hlt : k < o.length
          · have hlt' : (k : Int) < (o.length : Int) := by omega
            obtain ⟨⟨y0, y1⟩, hy⟩ : ∃ x, o[k]? = some x := ⟨_, List.getElem?_eq_getElem hlt⟩
            have hin := Xhsub.out _ (List.mem_of_getElem? hy)
            have Xt := hide t
            have Xra := hide ra
            have Xrb := hide rb
            have Xrc := hide rc
            have Xhy := hide hy
            have Xhin := hide hin
            clear t ra rb rc hy hin
            go_wp2_with fail
            go_loopw [14, 15] (fun th i wr => ∃ j : Nat, j ≤ o2.length ∧ i = .int .i64 j ∧ th = .bool (decide (((y0, y1) : It) ∈ o2.take j)) ∧ LSt w wr F A1 c1 A2 c2 A3 c3 T N R st G ∧ RdIt wr (fun b => b < wr.heap.size) (.slice A4 o.length d4) o ∧ RdIt wr (fun b => b < wr.heap.size) (.slice A8 o.length d8) o ∧ RdIt wr (fun b => b < wr.heap.size) (.slice A11 o2.length d11) o2) (fun _ i _ => o2.length - (intOf i).toNat)
            case atStart => exact ⟨0, Nat.zero_le _, rfl, by simp, Xt.out, Xra.out, Xrb.out, Xrc.out⟩
            case round =>
              clear Xt Xra Xrb Xrc
              obtain ⟨j, hj, rfl, rfl, t, ra, rb, rc⟩ := hrel
              obtain ⟨th, hth⟩ : ∃ th, th = decide (((y0, y1) : It) ∈ o2.take j) := ⟨_, rfl⟩
              rw [← hth]
              by_cases hlj : j < o2.length
              · have hlj' : (j : Int) < (o2.length : Int) := by omega
                obtain ⟨⟨z0, z1⟩, hz⟩ : ∃ x, o2[j]? = some x := ⟨_, List.getElem?_eq_getElem hlj⟩
                have hnext : decide (((y0, y1) : It) ∈ o2.take (j + 1)) = (th || decide (((y0, y1) : It) = (z0, z1))) := by
                  rw [hth, take_snoc hz, Bool.eq_iff_iff]
                  simp [List.mem_append]
                obtain ⟨-, -, -, hca⟩ := RdIt.at_ ra
                obtain ⟨ba, oa, e1, -, hca⟩ := hca (by omega)
                obtain ⟨-, -, -, hcc⟩ := RdIt.at_ rc
                obtain ⟨bc, oc, e2, -, hcc⟩ := hcc (by omega)
                obtain ⟨p0, p1⟩ := hca k _ Xhy.out
                obtain ⟨r0, r1⟩ := hcc j _ hz
                simp only at p0 p1 r0 r1
                have heq := eql_item y0 y1 z0 z1
                have hgd := fun op p q => guard_item op p q (y0, y1) (z0, z1)
                have td := t.below ((Below.refl _ wr).drew)
                have rad := RdIt.up ra ((Below.refl _ wr).drew)
                have rbd := RdIt.up rb ((Below.refl _ wr).drew)
                have rcd := RdIt.up rc ((Below.refl _ wr).drew)
                generalize decide (((y0, y1) : It) = (z0, z1)) = eq at *
                clear t ra rb rc hca hcc
                subst e1 e2
                have Xtd := hide td
                have Xrad := hide rad
                have Xrbd := hide rbd
                have Xrcd := hide rcd
                have Xhth := hide hth
                have Xhz := hide hz
                have Xhnext := hide hnext
                clear td rad rbd rcd hth hz hnext
                cases th with
                | true =>
                  go_wp2_with fail
                  refine wp_region_held_drew (S := (fun V => True)) (by kernel_rfl) ?_ (fun hHeld => ?_)
                  · exact trivial
                  refine wpAnyH_take (i := 0) (oi := ?_) (v := ?_) ?_ (by kernel_rfl) (by kernel_rfl) (by kernel_rfl) ?_ (Or.inl ⟨?_, ?_⟩) (by assumption) ?_
                  rotate_left 2
                  · (try simp only [List.getElem?_toArray, List.getElem?_cons_succ, List.getElem?_cons_zero]); rfl
                  · exact fun _ _ _ h => h
                  · rfl
                  · (intro wS hwS; (try dsimp only at hwS); go_simp; all_goals with_reducible rfl)
                  try simp only [Act.put, List.setIfInBounds_toArray, List.set_cons_zero, List.set_cons_succ]
                  refine wpAnyH_take (i := 1) (oi := ?_) (v := ?_) ?_ (by kernel_rfl) (by kernel_rfl) (by kernel_rfl) ?_ (Or.inl ⟨?_, ?_⟩) (by assumption) ?_
                  rotate_left 2
                  · (try simp only [List.getElem?_toArray, List.getElem?_cons_succ, List.getElem?_cons_zero]); rfl
                  · exact fun _ _ _ h => h
                  · rfl
                  · (intro wS hwS; (try dsimp only at hwS); go_simp; all_goals with_reducible rfl)
                  try simp only [Act.put, List.setIfInBounds_toArray, List.set_cons_zero, List.set_cons_succ]
                  refine wpAnyH_take (i := 2) (oi := ?_) (v := undef) ?_ (by kernel_rfl) (by kernel_rfl) (by kernel_rfl) ?_ (Or.inr ⟨?_, rfl⟩) (by assumption) ?_
                  rotate_left 1
                  · (try simp only [List.getElem?_toArray, List.getElem?_cons_succ, List.getElem?_cons_zero]); rfl
                  · exact fun _ _ _ h => h
                  · rfl
                  try simp only [Act.put, List.setIfInBounds_toArray, List.set_cons_zero, List.set_cons_succ]
                  refine wpAnyH_take (i := 3) (oi := ?_) (v := undef) ?_ (by kernel_rfl) (by kernel_rfl) (by kernel_rfl) ?_ (Or.inr ⟨?_, rfl⟩) (by assumption) ?_
                  rotate_left 1
                  · (try simp only [List.getElem?_toArray, List.getElem?_cons_succ, List.getElem?_cons_zero]); rfl
                  · exact fun _ _ _ h => h
                  · rfl
                  try simp only [Act.put, List.setIfInBounds_toArray, List.set_cons_zero, List.set_cons_succ]
                  refine wpAnyH_take (i := 4) (oi := ?_) (v := undef) ?_ (by kernel_rfl) (by kernel_rfl) (by kernel_rfl) ?_ (Or.inr ⟨?_, rfl⟩) (by assumption) ?_
                  rotate_left 1
                  · (try simp only [List.getElem?_toArray, List.getElem?_cons_succ, List.getElem?_cons_zero]); rfl
                  · exact fun _ _ _ h => h
                  · rfl
                  try simp only [Act.put, List.setIfInBounds_toArray, List.set_cons_zero, List.set_cons_succ]
                  refine wpAnyH_take (i := 5) (oi := ?_) (v := undef) ?_ (by kernel_rfl) (by kernel_rfl) (by kernel_rfl) ?_ (Or.inr ⟨?_, rfl⟩) (by assumption) ?_
                  rotate_left 1
                  · (try simp only [List.getElem?_toArray, List.getElem?_cons_succ, List.getElem?_cons_zero]); rfl
                  · exact fun _ _ _ h => h
                  · rfl
                  try simp only [Act.put, List.setIfInBounds_toArray, List.set_cons_zero, List.set_cons_succ]
                  refine wpAnyH_take (i := 6) (oi := ?_) (v := undef) ?_ (by kernel_rfl) (by kernel_rfl) (by kernel_rfl) ?_ (Or.inr ⟨?_, rfl⟩) (by assumption) ?_
                  rotate_left 1
                  · (try simp only [List.getElem?_toArray, List.getElem?_cons_succ, List.getElem?_cons_zero]); rfl
                  · exact fun _ _ _ h => h
                  · rfl
                  try simp only [Act.put, List.setIfInBounds_toArray, List.set_cons_zero, List.set_cons_succ]
                  refine wpAnyH_take (i := 7) (oi := ?_) (v := undef) ?_ (by kernel_rfl) (by kernel_rfl) (by kernel_rfl) ?_ (Or.inr ⟨?_, rfl⟩) (by assumption) ?_
                  rotate_left 1
                  · (try simp only [List.getElem?_toArray, List.getElem?_cons_succ, List.getElem?_cons_zero]); rfl
                  · exact fun _ _ _ h => h
                  · rfl
                  try simp only [Act.put, List.setIfInBounds_toArray, List.set_cons_zero, List.set_cons_succ]
                  refine wpAnyH_take (i := 8) (oi := ?_) (v := undef) ?_ (by kernel_rfl) (by kernel_rfl) (by kernel_rfl) ?_ (Or.inr ⟨?_, rfl⟩) (by assumption) ?_
                  rotate_left 1
                  · (try simp only [List.getElem?_toArray, List.getElem?_cons_succ, List.getElem?_cons_zero]); rfl
                  · exact fun _ _ _ h => h
                  · rfl
                  try simp only [Act.put, List.setIfInBounds_toArray, List.set_cons_zero, List.set_cons_succ]
                  refine wpAnyH_take (i := 9) (oi := ?_) (v := undef) ?_ (by kernel_rfl) (by kernel_rfl) (by kernel_rfl) ?_ (Or.inr ⟨?_, rfl⟩) (by assumption) ?_
                  rotate_left 1
                  · (try simp only [List.getElem?_toArray, List.getElem?_cons_succ, List.getElem?_cons_zero]); rfl
                  · exact fun _ _ _ h => h
                  · rfl
                  try simp only [Act.put, List.setIfInBounds_toArray, List.set_cons_zero, List.set_cons_succ]
                  refine wpAnyH_take (i := 10) (oi := ?_) (v := undef) ?_ (by kernel_rfl) (by kernel_rfl) (by kernel_rfl) ?_ (Or.inr ⟨?_, rfl⟩) (by assumption) ?_
                  rotate_left 1
                  · (try simp only [List.getElem?_toArray, List.getElem?_cons_succ, List.getElem?_cons_zero]); rfl
                  · exact fun _ _ _ h => h
                  · rfl
                  try simp only [Act.put, List.setIfInBounds_toArray, List.set_cons_zero, List.set_cons_succ]
                  refine wpAnyH_take (i := 11) (oi := ?_) (v := ?_) ?_ (by kernel_rfl) (by kernel_rfl) (by kernel_rfl) ?_ (Or.inl ⟨?_, ?_⟩) (by assumption) ?_
                  rotate_left 2
                  · (try simp only [List.getElem?_toArray, List.getElem?_cons_succ, List.getElem?_cons_zero]); rfl
                  · exact fun _ _ _ h => h
                  · rfl
                  · (intro wS hwS; (try dsimp only at hwS); go_simp; all_goals with_reducible rfl)
                  try simp only [Act.put, List.setIfInBounds_toArray, List.set_cons_zero, List.set_cons_succ]
                  refine wpAnyH_take (i := 12) (oi := ?_) (v := ?_) ?_ (by kernel_rfl) (by kernel_rfl) (by kernel_rfl) ?_ (Or.inl ⟨?_, ?_⟩) (by assumption) ?_
                  rotate_left 2
                  · (try simp only [List.getElem?_toArray, List.getElem?_cons_succ, List.getElem?_cons_zero]); rfl
                  · exact fun _ _ _ h => h
                  · rfl
                  · (intro wS hwS; (try dsimp only at hwS); go_simp; all_goals with_reducible rfl)
                  try simp only [Act.put, List.setIfInBounds_toArray, List.set_cons_zero, List.set_cons_succ]
                  refine wpAnyH_done (by kernel_rfl) ?_ _
                  clear hHeld heq hgd p0 p1 r0 r1
                  go_wp2_with fail
                  go_roundw
                  case rel => exact ⟨j + 1, by omega, by go_num, by rw [Xhnext.out]; rfl, Xtd.out, Xrad.out, Xrbd.out, Xrcd.out⟩
                  case measure => simp [intOf]; omega
                | false =>
                  go_wp2_with fail
                  refine wp_region_held_drew (S := (fun V => V.cell? ⟨ba, oa + k * 2, none⟩ = some (.int .i64 y0) ∧ V.cell? ⟨ba, oa + k * 2 + 1, none⟩ = some (.int .i64 y1) ∧ V.cell? ⟨bc, oc + j * 2, none⟩ = some (.int .i64 z0) ∧ V.cell? ⟨bc, oc + j * 2 + 1, none⟩ = some (.int .i64 z1))) (by kernel_rfl) ?_ (fun hHeld => ?_)
                  · exact ⟨p0, p1, r0, r1⟩
                  refine wpAnyH_take (i := 0) (oi := ?_) (v := ?_) ?_ (by kernel_rfl) (by kernel_rfl) (by kernel_rfl) ?_ (Or.inl ⟨?_, ?_⟩) (by assumption) ?_
                  rotate_left 2
                  · (try simp only [List.getElem?_toArray, List.getElem?_cons_succ, List.getElem?_cons_zero]); rfl
                  · exact fun _ _ _ h => h
                  · rfl
                  · (intro wS hwS; (try dsimp only at hwS); go_simp; all_goals with_reducible rfl)
                  try simp only [Act.put, List.setIfInBounds_toArray, List.set_cons_zero, List.set_cons_succ]
                  refine wpAnyH_take (i := 1) (oi := ?_) (v := ?_) ?_ (by kernel_rfl) (by kernel_rfl) (by kernel_rfl) ?_ (Or.inl ⟨?_, ?_⟩) (by assumption) ?_
                  rotate_left 2
                  · (try simp only [List.getElem?_toArray, List.getElem?_cons_succ, List.getElem?_cons_zero]); rfl
                  · exact fun _ _ _ h => h
                  · rfl
                  · (intro wS hwS; (try dsimp only at hwS); go_simp; all_goals with_reducible rfl)
                  try simp only [Act.put, List.setIfInBounds_toArray, List.set_cons_zero, List.set_cons_succ]
                  refine wpAnyH_take (i := 2) (oi := ?_) (v := ?_) ?_ (by kernel_rfl) (by kernel_rfl) (by kernel_rfl) ?_ (Or.inl ⟨?_, ?_⟩) (by assumption) ?_
                  rotate_left 2
                  · (try simp only [List.getElem?_toArray, List.getElem?_cons_succ, List.getElem?_cons_zero]); rfl
                  · exact fun _ _ _ h => h
                  · rfl
                  · (intro wS hwS; (try dsimp only at hwS); go_simp; all_goals with_reducible rfl)
                  try simp only [Act.put, List.setIfInBounds_toArray, List.set_cons_zero, List.set_cons_succ]
                  refine wpAnyH_take (i := 3) (oi := ?_) (v := ?_) ?_ (by kernel_rfl) (by kernel_rfl) (by kernel_rfl) ?_ (Or.inl ⟨?_, ?_⟩) (by assumption) ?_
                  rotate_left 2
                  · (try simp only [List.getElem?_toArray, List.getElem?_cons_succ, List.getElem?_cons_zero]); rfl
                  · exact fun _ _ _ h => h
                  · rfl
                  · (intro wS hwS; (try dsimp only at hwS); go_simp; all_goals with_reducible rfl)
                  try simp only [Act.put, List.setIfInBounds_toArray, List.set_cons_zero, List.set_cons_succ]
                  refine wpAnyH_take (i := 4) (oi := ?_) (v := ?_) ?_ (by kernel_rfl) (by kernel_rfl) (by kernel_rfl) ?_ (Or.inl ⟨?_, ?_⟩) (by assumption) ?_
                  rotate_left 2
                  · (try simp only [List.getElem?_toArray, List.getElem?_cons_succ, List.getElem?_cons_zero]); rfl
                  · exact fun _ _ _ h => h
                  · rfl
                  · (intro wS hwS; (try dsimp only at hwS); go_simp; all_goals with_reducible rfl)
                  try simp only [Act.put, List.setIfInBounds_toArray, List.set_cons_zero, List.set_cons_succ]
                  refine wpAnyH_take (i := 5) (oi := ?_) (v := ?_) ?_ (by kernel_rfl) (by kernel_rfl) (by kernel_rfl) ?_ (Or.inl ⟨?_, ?_⟩) (by assumption) ?_
                  rotate_left 2
                  · (try simp only [List.getElem?_toArray, List.getElem?_cons_succ, List.getElem?_cons_zero]); rfl
                  · exact fun _ _ _ h => h
                  · rfl
                  · (intro wS hwS; (try dsimp only at hwS); go_simp; all_goals with_reducible rfl)
                  try simp only [Act.put, List.setIfInBounds_toArray, List.set_cons_zero, List.set_cons_succ]
                  refine wpAnyH_take (i := 6) (oi := ?_) (v := ?_) ?_ (by kernel_rfl) (by kernel_rfl) (by kernel_rfl) ?_ (Or.inl ⟨?_, ?_⟩) (by assumption) ?_
                  rotate_left 2
                  · (try simp only [List.getElem?_toArray, List.getElem?_cons_succ, List.getElem?_cons_zero]); rfl
                  · exact fun _ _ _ h => h
                  · rfl
                  · (intro wS hwS; (try dsimp only at hwS); go_simp; all_goals with_reducible rfl)
                  try simp only [Act.put, List.setIfInBounds_toArray, List.set_cons_zero, List.set_cons_succ]
                  refine wpAnyH_take (i := 7) (oi := ?_) (v := ?_) ?_ (by kernel_rfl) (by kernel_rfl) (by kernel_rfl) ?_ (Or.inl ⟨?_, ?_⟩) (by assumption) ?_
                  rotate_left 2
                  · (try simp only [List.getElem?_toArray, List.getElem?_cons_succ, List.getElem?_cons_zero]); rfl
                  · exact fun _ _ _ h => h
                  · rfl
                  · (intro wS hwS; (try dsimp only at hwS); go_simp; all_goals with_reducible rfl)
                  try simp only [Act.put, List.setIfInBounds_toArray, List.set_cons_zero, List.set_cons_succ]
                  refine wpAnyH_take (i := 8) (oi := ?_) (v := ?_) ?_ (by kernel_rfl) (by kernel_rfl) (by kernel_rfl) ?_ (Or.inl ⟨?_, ?_⟩) (by assumption) ?_
                  rotate_left 2
                  · (try simp only [List.getElem?_toArray, List.getElem?_cons_succ, List.getElem?_cons_zero]); rfl
                  · exact fun _ _ _ h => h
                  · rfl
                  · (intro wS hwS; (try dsimp only at hwS); go_simp; all_goals with_reducible rfl)
                  try simp only [Act.put, List.setIfInBounds_toArray, List.set_cons_zero, List.set_cons_succ]
                  refine wpAnyH_take (i := 9) (oi := ?_) (v := ?_) ?_ (by kernel_rfl) (by kernel_rfl) (by kernel_rfl) ?_ (Or.inl ⟨?_, ?_⟩) (by assumption) ?_
                  rotate_left 2
                  · (try simp only [List.getElem?_toArray, List.getElem?_cons_succ, List.getElem?_cons_zero]); rfl
                  · exact fun _ _ _ h => h
                  · rfl
                  · (intro wS hwS; (try dsimp only at hwS); go_simp; all_goals with_reducible rfl)
                  try simp only [Act.put, List.setIfInBounds_toArray, List.set_cons_zero, List.set_cons_succ]
                  refine wpAnyH_take (i := 10) (oi := ?_) (v := ?_) ?_ (by kernel_rfl) (by kernel_rfl) (by kernel_rfl) ?_ (Or.inl ⟨?_, ?_⟩) (by assumption) ?_
                  rotate_left 2
                  · (try simp only [List.getElem?_toArray, List.getElem?_cons_succ, List.getElem?_cons_zero]); rfl
                  · exact fun _ _ _ h => h
                  · rfl
                  · (intro wS hwS; (try dsimp only at hwS); go_simp; all_goals with_reducible rfl)
                  try simp only [Act.put, List.setIfInBounds_toArray, List.set_cons_zero, List.set_cons_succ]
                  refine wpAnyH_take (i := 11) (oi := ?_) (v := ?_) ?_ (by kernel_rfl) (by kernel_rfl) (by kernel_rfl) ?_ (Or.inl ⟨?_, ?_⟩) (by assumption) ?_
                  rotate_left 2
                  · (try simp only [List.getElem?_toArray, List.getElem?_cons_succ, List.getElem?_cons_zero]); rfl
                  · exact fun _ _ _ h => h
                  · rfl
                  · (intro wS hwS; (try dsimp only at hwS); go_simp; all_goals with_reducible rfl)
                  try simp only [Act.put, List.setIfInBounds_toArray, List.set_cons_zero, List.set_cons_succ]
                  refine wpAnyH_take (i := 12) (oi := ?_) (v := ?_) ?_ (by kernel_rfl) (by kernel_rfl) (by kernel_rfl) ?_ (Or.inl ⟨?_, ?_⟩) (by assumption) ?_
                  rotate_left 2
                  · (try simp only [List.getElem?_toArray, List.getElem?_cons_succ, List.getElem?_cons_zero]); rfl
                  · exact fun _ _ _ h => h
                  · rfl
                  · (intro wS hwS; (try dsimp only at hwS); go_simp; all_goals with_reducible rfl)
                  try simp only [Act.put, List.setIfInBounds_toArray, List.set_cons_zero, List.set_cons_succ]
                  refine wpAnyH_done (by kernel_rfl) ?_ _
                  clear hHeld heq hgd p0 p1 r0 r1
                  go_wp2_with fail
                  go_roundw
                  case rel => exact ⟨j + 1, by omega, by go_num, by rw [Xhnext.out]; rfl, Xtd.out, Xrad.out, Xrbd.out, Xrcd.out⟩
                  case measure => simp [intOf]; omega
              · have hlj' : ¬ (j : Int) < (o2.length : Int) := by omega
                have htt : th = true := by rw [hth, List.take_of_length_le (by omega)]; exact decide_eq_true Xhin.out
                subst htt
                have Xt := hide t
                have Xra := hide ra
                have Xrb := hide rb
                have Xrc := hide rc
                have Xhth := hide hth
                clear t ra rb rc hth
                go_wp2_with fail
                go_roundw
                case rel => exact ⟨k + 1, by omega, by go_num, Xt.out, Xra.out, Xrb.out, Xrc.out⟩
                case measure => simp [intOf]; omega
          · have hlt' : ¬ (k : Int) < (o.length : Int) := by omega
            have cS := ref12_Same ra rb
            rw [decide_eq_true rfl] at cS
            have Xt := hide t
            have XcS := hide cS
            clear t cS
            clear ra rb rc
            go_wp2_with fail
            with_reducible refine XcS.out.mono ?_
            rintro e w12 ⟨rfl, b12⟩
            have hb2 := (Xt.out.below b12).le
            clear b12 Xt XcS
            have Xhb2 := hide hb2
            clear hb2
            go_wp2_with fail
            with_reducible refine (law12_awake _).mono ?_
            rintro e w3 ⟨rfl, b3⟩
            go_wp2_with fail
            go_ret
            exact ⟨rfl, Xhb2.out.trans (b3.mono Xhb2.out.size)⟩
      · exact AllReadyH.nil
  · refine AllReadyH.cons (o := ?_) ?_ (fun K hK => ?_) ?_
    rotate_left 1
    · (try simp only [List.getElem?_toArray, List.getElem?_cons_succ, List.getElem?_cons_zero]); rfl
    · go_simp
      have B1 : Below wd.heap.size wd (wd.alloc (.cells #[.int .i64 x0, .int .i64 x1] 34)) := (Below.refl _ wd).alloc (Nat.le_refl _) _
      have k1 : Blk (wd.alloc (.cells #[.int .i64 x0, .int .i64 x1] 34)) wd.heap.size 34 #[.int .i64 x0, .int .i64 x1] := Blk.new _ _ _
      refine hK.out _ _ ?_ (fun hHeld => ?_)
      · exact Xkx.out _ B1
      clear hK K
      try simp only [Act.put, List.setIfInBounds_toArray, List.set_cons_zero, List.set_cons_succ]
      refine wpAnyH_ready (rs := [1]) (by kernel_rfl) (by simp) ?_
      refine AllReadyH.cons (o := ?_) ?_ (fun K hK => ?_) ?_
      rotate_left 1
      · (try simp only [List.getElem?_toArray, List.getElem?_cons_succ, List.getElem?_cons_zero]); rfl
      rotate_left 1
      · exact AllReadyH.nil
      go_simp
      have B2 : Below wd.heap.size wd ((wd.alloc (.cells #[.int .i64 x0, .int .i64 x1] 34)).alloc (.cells #[] 34)) := B1.alloc B1.size _
      have o2 : World.ownsRow ((wd.alloc (.cells #[.int .i64 x0, .int .i64 x1] 34)).alloc (.cells #[] 34)) wd.heap.size 34 2 (.slice (some ⟨wd.heap.size + 1, 0, none⟩) 0 0) 0 [] := by
        have := own_empty (wd.alloc (.cells #[.int .i64 x0, .int .i64 x1] 34)) 34 2
        rw [World.size_alloc] at this
        exact ownsRow_base this (fun z hz => by simp [Value.ownBlock] at hz; omega)
      have k2 := k1.alloc (.cells #[] 34)
      refine hK.out _ _ ?_ (fun hHeld => ?_)
      · exact Xkx.out _ B2
      clear hK K
      try simp only [Act.put, List.setIfInBounds_toArray, List.set_cons_zero, List.set_cons_succ]
      refine wpAnyH_ready (rs := [3]) (by kernel_rfl) (by simp) ?_
      refine AllReadyH.cons (o := ?_) ?_ (fun K hK => ?_) ?_
      rotate_left 1
      · (try simp only [List.getElem?_toArray, List.getElem?_cons_succ, List.getElem?_cons_zero]); rfl
      rotate_left 1
      · exact AllReadyH.nil
      refine step_append _ rfl (.tmp 55) (.tmp 56) _ rfl Tryz.elemItem wd.heap.size _ 0 [] rfl o2 (fun b => b < wd.heap.size) _ _ nv rfl Xlk3.out (Xr3.out _ B2) (itCells_one _) (by unfold maxLen; omega) (by omega) (B2).size ?_
      intro A9 c9 w9 own9 hg9 hb9
      rw [Nat.zero_add] at own9 ⊢
      have hg9 : World.grownBy _ w9 (some (wd.heap.size+1)) := hg9
      have B9 := (B2).grown hg9 (B2).size (fun z hz => (World.ownsRow.lt o2 z hz).1)
      have k9 := k2.grown hg9 (by simp)
      refine hK.out _ _ ?_ (fun hHeld => ?_)
      · exact Xkx.out _ B9
      clear hK K
      try simp only [Act.put, List.setIfInBounds_toArray, List.set_cons_zero, List.set_cons_succ]
      refine wpAnyH_ready (rs := [6]) (by kernel_rfl) (by simp) ?_
      refine AllReadyH.cons (o := ?_) ?_ (fun K hK => ?_) ?_
      rotate_left 1
      · (try simp only [List.getElem?_toArray, List.getElem?_cons_succ, List.getElem?_cons_zero]); rfl
      rotate_left 1
      · exact AllReadyH.nil
      refine step_append _ rfl (.tmp 57) (.tmp 59) _ rfl Tryz.elemItem wd.heap.size _ nv _ rfl own9 _ _ [I64 x0, I64 x1] 1 rfl rfl (Rd.of_blk (F := fun b => b = wd.heap.size) (us := [I64 x0, I64 x1]) (n := 1) k9 rfl rfl (by decide)) (itCells_one [(x0, x1)]) (by unfold maxLen; omega) (by omega) (B9).size ?_
      intro A10 c10 w10 own10 hg10 hb10
      have B10 := (B9).grown hg10 (B9).size (fun z hz => (World.ownsRow.lt own9 z hz).1)
      refine hK.out _ _ ?_ (fun hHeld => ?_)
      · exact Xkx.out _ B10
      clear hK K
      try simp only [Act.put, List.setIfInBounds_toArray, List.set_cons_zero, List.set_cons_succ]
      have t10 := Xtd.out.below B10
      have ra10 := RdIt.up Xrad.out B10
      have rb10 := RdIt.up Xrbd.out B10
      have hcells : ([] ++ itCells l) ++ [I64 x0, I64 x1] = itCells (l ++ [(x0, x1)]) := by rw [itCells_append]; simp [itCells]
      rw [hcells] at own10
      have rc10 : RdIt w10 (fun b => b < w10.heap.size) (.slice A10 (nv + 1) c10) (l ++ [(x0, x1)]) := (Rd.of_own own10).mono (fun z hz => (World.ownsRow.lt own10 z hz).2)
      have c10l := Xcl.out _ t10.g _ _ rc10 (fun z hz => by
        rcases List.mem_append.1 hz with hz | hz
        · exact Xhwf.out z hz
        · rw [List.mem_singleton.1 hz]; exact Xhwx.out)
      rw [Xhm.out] at c10l
      clear own10 hg10 hb10 B10 rc10
      have Xt10 := hide t10
      have Xra10 := hide ra10
      have Xrb10 := hide rb10
      have Xc10l := hide c10l
      clear t10 ra10 rb10 c10l
      refine wpAnyH_ready (rs := [7]) (by kernel_rfl) (by simp) ?_
      refine AllReadyH.cons (o := ?_) ?_ (fun K hK => ?_) AllReadyH.nil
      rotate_left 1
      · (try simp only [List.getElem?_toArray, List.getElem?_cons_succ, List.getElem?_cons_zero]); rfl
      go_simp
      go_at_call 18
      refine Xc10l.out.mono ?_
      rintro e w11 hp
      obtain ⟨o2, hcl2, hp⟩ := MayClose.yes hp
      obtain ⟨A11, d11, rfl, rc11, b11⟩ := hp.rd
      have t11 := Xt10.out.below b11
      have ra11 := RdIt.up Xra10.out b11
      have rb11 := RdIt.up Xrb10.out b11
      have hsub : ∀ z ∈ o, z ∈ o2 := fun z hz => (hcl2.mem z).2 (Cl.mono (fun y hy hr => Cl.base y (List.mem_append_left _ hy) hr) ((Xhcl.out.mem z).1 hz))
      have kk := hHeld
      have hal2 : o2.length ≤ 400000 := hcl2.len Xhk.out
      refine hK.out _ _ ?_ (fun hHeld => ?_)
      · exact ⟨t11.g.cells.1, t11.g.cells.2.1, t11.g.cells.2.2.1, t11.g.cells.2.2.2, (b11.cell (p := ⟨w.heap.size + 1, 0, none⟩) (World.block_lt_of_cell? _ _ kk.2.2.2.2.1)).trans kk.2.2.2.2.1, (b11.cell (p := ⟨w.heap.size + 1, 1, none⟩) (World.block_lt_of_cell? _ _ kk.2.2.2.2.2)).trans kk.2.2.2.2.2⟩
      clear hK K
      try simp only [Act.put, List.setIfInBounds_toArray, List.set_cons_zero, List.set_cons_succ]
      clear hp kk b11 Xt10 Xra10 Xrb10 Xc10l hcl2
      have hal : o.length ≤ 400000 := Xhcl.out.len Xhk.out
      have Xt11 := hide t11
      have Xra11 := hide ra11
      have Xrb11 := hide rb11
      have Xrc11 := hide rc11
      have Xhsub := hide hsub
      clear t11 ra11 rb11 rc11 hsub
      refine wpAnyH_take (i := 8) (oi := ?_) (v := ?_) ?_ (by kernel_rfl) (by kernel_rfl) (by kernel_rfl) ?_ (Or.inl ⟨?_, ?_⟩) (by assumption) ?_
      rotate_left 2
      · (try simp only [List.getElem?_toArray, List.getElem?_cons_succ, List.getElem?_cons_zero]); rfl
      · exact fun _ _ _ h => h
      · rfl
      · (intro wS hwS; (try dsimp only at hwS); go_simp; all_goals with_reducible rfl)
      try simp only [Act.put, List.setIfInBounds_toArray, List.set_cons_zero, List.set_cons_succ]
      refine wpAnyH_done (by kernel_rfl) ?_ _
      clear hHeld
      go_wp2_with fail
      go_loopw [13] (fun i wr => ∃ k : Nat, k ≤ o.length ∧ i = .int .i64 k ∧ LSt w wr F A1 c1 A2 c2 A3 c3 T N R st G ∧ RdIt wr (fun b => b < wr.heap.size) (.slice A4 o.length d4) o ∧ RdIt wr (fun b => b < wr.heap.size) (.slice A8 o.length d8) o ∧ RdIt wr (fun b => b < wr.heap.size) (.slice A11 o2.length d11) o2) (fun i _ => o.length - (intOf i).toNat)
      case atStart => exact ⟨0, Nat.zero_le _, rfl, Xt11.out, Xra11.out, Xrb11.out, Xrc11.out⟩
      case round =>
        clear Xt11 Xra11 Xrb11 Xrc11
        obtain ⟨k, hk', rfl, t, ra, rb, rc⟩ := hrel
        by_cases hlt : k < o.length
        · have hlt' : (k : Int) < (o.length : Int) := by omega
          obtain ⟨⟨y0, y1⟩, hy⟩ : ∃ x, o[k]? = some x := ⟨_, List.getElem?_eq_getElem hlt⟩
          have hin := Xhsub.out _ (List.mem_of_getElem? hy)
          have Xt := hide t
          have Xra := hide ra
          have Xrb := hide rb
          have Xrc := hide rc
          have Xhy := hide hy
          have Xhin := hide hin
          clear t ra rb rc hy hin
          go_wp2_with fail
          go_loopw [14, 15] (fun th i wr => ∃ j : Nat, j ≤ o2.length ∧ i = .int .i64 j ∧ th = .bool (decide (((y0, y1) : It) ∈ o2.take j)) ∧ LSt w wr F A1 c1 A2 c2 A3 c3 T N R st G ∧ RdIt wr (fun b => b < wr.heap.size) (.slice A4 o.length d4) o ∧ RdIt wr (fun b => b < wr.heap.size) (.slice A8 o.length d8) o ∧ RdIt wr (fun b => b < wr.heap.size) (.slice A11 o2.length d11) o2) (fun _ i _ => o2.length - (intOf i).toNat)
          case atStart => exact ⟨0, Nat.zero_le _, rfl, by simp, Xt.out, Xra.out, Xrb.out, Xrc.out⟩
          case round =>
            clear Xt Xra Xrb Xrc
            obtain ⟨j, hj, rfl, rfl, t, ra, rb, rc⟩ := hrel
            obtain ⟨th, hth⟩ : ∃ th, th = decide (((y0, y1) : It) ∈ o2.take j) := ⟨_, rfl⟩
            rw [← hth]
            by_cases hlj : j < o2.length
            · have hlj' : (j : Int) < (o2.length : Int) := by omega
              obtain ⟨⟨z0, z1⟩, hz⟩ : ∃ x, o2[j]? = some x := ⟨_, List.getElem?_eq_getElem hlj⟩
              have hnext : decide (((y0, y1) : It) ∈ o2.take (j + 1)) = (th || decide (((y0, y1) : It) = (z0, z1))) := by
                rw [hth, take_snoc hz, Bool.eq_iff_iff]
                simp [List.mem_append]
              obtain ⟨-, -, -, hca⟩ := RdIt.at_ ra
              obtain ⟨ba, oa, e1, -, hca⟩ := hca (by omega)
              obtain ⟨-, -, -, hcc⟩ := RdIt.at_ rc
              obtain ⟨bc, oc, e2, -, hcc⟩ := hcc (by omega)
              obtain ⟨p0, p1⟩ := hca k _ Xhy.out
              obtain ⟨r0, r1⟩ := hcc j _ hz
              simp only at p0 p1 r0 r1
              have heq := eql_item y0 y1 z0 z1
              have hgd := fun op p q => guard_item op p q (y0, y1) (z0, z1)
              have td := t.below ((Below.refl _ wr).drew)
              have rad := RdIt.up ra ((Below.refl _ wr).drew)
              have rbd := RdIt.up rb ((Below.refl _ wr).drew)
              have rcd := RdIt.up rc ((Below.refl _ wr).drew)
              generalize decide (((y0, y1) : It) = (z0, z1)) = eq at *
              clear t ra rb rc hca hcc
              subst e1 e2
              have Xtd := hide td
              have Xrad := hide rad
              have Xrbd := hide rbd
              have Xrcd := hide rcd
              have Xhth := hide hth
              have Xhz := hide hz
              have Xhnext := hide hnext
              clear td rad rbd rcd hth hz hnext
              cases th with
              | true =>
                go_wp2_with fail
                refine wp_region_held_drew (S := (fun V => True)) (by kernel_rfl) ?_ (fun hHeld => ?_)
                · exact trivial
                refine wpAnyH_take (i := 0) (oi := ?_) (v := ?_) ?_ (by kernel_rfl) (by kernel_rfl) (by kernel_rfl) ?_ (Or.inl ⟨?_, ?_⟩) (by assumption) ?_
                rotate_left 2
                · (try simp only [List.getElem?_toArray, List.getElem?_cons_succ, List.getElem?_cons_zero]); rfl
                · exact fun _ _ _ h => h
                · rfl
                · (intro wS hwS; (try dsimp only at hwS); go_simp; all_goals with_reducible rfl)
                try simp only [Act.put, List.setIfInBounds_toArray, List.set_cons_zero, List.set_cons_succ]
                refine wpAnyH_take (i := 1) (oi := ?_) (v := ?_) ?_ (by kernel_rfl) (by kernel_rfl) (by kernel_rfl) ?_ (Or.inl ⟨?_, ?_⟩) (by assumption) ?_
                rotate_left 2
                · (try simp only [List.getElem?_toArray, List.getElem?_cons_succ, List.getElem?_cons_zero]); rfl
                · exact fun _ _ _ h => h
                · rfl
                · (intro wS hwS; (try dsimp only at hwS); go_simp; all_goals with_reducible rfl)
                try simp only [Act.put, List.setIfInBounds_toArray, List.set_cons_zero, List.set_cons_succ]
                refine wpAnyH_take (i := 2) (oi := ?_) (v := undef) ?_ (by kernel_rfl) (by kernel_rfl) (by kernel_rfl) ?_ (Or.inr ⟨?_, rfl⟩) (by assumption) ?_
                rotate_left 1
                · (try simp only [List.getElem?_toArray, List.getElem?_cons_succ, List.getElem?_cons_zero]); rfl
                · exact fun _ _ _ h => h
                · rfl
                try simp only [Act.put, List.setIfInBounds_toArray, List.set_cons_zero, List.set_cons_succ]
                refine wpAnyH_take (i := 3) (oi := ?_) (v := undef) ?_ (by kernel_rfl) (by kernel_rfl) (by kernel_rfl) ?_ (Or.inr ⟨?_, rfl⟩) (by assumption) ?_
                rotate_left 1
                · (try simp only [List.getElem?_toArray, List.getElem?_cons_succ, List.getElem?_cons_zero]); rfl
                · exact fun _ _ _ h => h
                · rfl
                try simp only [Act.put, List.setIfInBounds_toArray, List.set_cons_zero, List.set_cons_succ]
                refine wpAnyH_take (i := 4) (oi := ?_) (v := undef) ?_ (by kernel_rfl) (by kernel_rfl) (by kernel_rfl) ?_ (Or.inr ⟨?_, rfl⟩) (by assumption) ?_
                rotate_left 1
                · (try simp only [List.getElem?_toArray, List.getElem?_cons_succ, List.getElem?_cons_zero]); rfl
                · exact fun _ _ _ h => h
                · rfl
                try simp only [Act.put, List.setIfInBounds_toArray, List.set_cons_zero, List.set_cons_succ]
                refine wpAnyH_take (i := 5) (oi := ?_) (v := undef) ?_ (by kernel_rfl) (by kernel_rfl) (by kernel_rfl) ?_ (Or.inr ⟨?_, rfl⟩) (by assumption) ?_
                rotate_left 1
                · (try simp only [List.getElem?_toArray, List.getElem?_cons_succ, List.getElem?_cons_zero]); rfl
                · exact fun _ _ _ h => h
                · rfl
                try simp only [Act.put, List.setIfInBounds_toArray, List.set_cons_zero, List.set_cons_succ]
                refine wpAnyH_take (i := 6) (oi := ?_) (v := undef) ?_ (by kernel_rfl) (by kernel_rfl) (by kernel_rfl) ?_ (Or.inr ⟨?_, rfl⟩) (by assumption) ?_
                rotate_left 1
                · (try simp only [List.getElem?_toArray, List.getElem?_cons_succ, List.getElem?_cons_zero]); rfl
                · exact fun _ _ _ h => h
                · rfl
                try simp only [Act.put, List.setIfInBounds_toArray, List.set_cons_zero, List.set_cons_succ]
                refine wpAnyH_take (i := 7) (oi := ?_) (v := undef) ?_ (by kernel_rfl) (by kernel_rfl) (by kernel_rfl) ?_ (Or.inr ⟨?_, rfl⟩) (by assumption) ?_
                rotate_left 1
                · (try simp only [List.getElem?_toArray, List.getElem?_cons_succ, List.getElem?_cons_zero]); rfl
                · exact fun _ _ _ h => h
                · rfl
                try simp only [Act.put, List.setIfInBounds_toArray, List.set_cons_zero, List.set_cons_succ]
                refine wpAnyH_take (i := 8) (oi := ?_) (v := undef) ?_ (by kernel_rfl) (by kernel_rfl) (by kernel_rfl) ?_ (Or.inr ⟨?_, rfl⟩) (by assumption) ?_
                rotate_left 1
                · (try simp only [List.getElem?_toArray, List.getElem?_cons_succ, List.getElem?_cons_zero]); rfl
                · exact fun _ _ _ h => h
                · rfl
                try simp only [Act.put, List.setIfInBounds_toArray, List.set_cons_zero, List.set_cons_succ]
                refine wpAnyH_take (i := 9) (oi := ?_) (v := undef) ?_ (by kernel_rfl) (by kernel_rfl) (by kernel_rfl) ?_ (Or.inr ⟨?_, rfl⟩) (by assumption) ?_
                rotate_left 1
                · (try simp only [List.getElem?_toArray, List.getElem?_cons_succ, List.getElem?_cons_zero]); rfl
                · exact fun _ _ _ h => h
                · rfl
                try simp only [Act.put, List.setIfInBounds_toArray, List.set_cons_zero, List.set_cons_succ]
                refine wpAnyH_take (i := 10) (oi := ?_) (v := undef) ?_ (by kernel_rfl) (by kernel_rfl) (by kernel_rfl) ?_ (Or.inr ⟨?_, rfl⟩) (by assumption) ?_
                rotate_left 1
                · (try simp only [List.getElem?_toArray, List.getElem?_cons_succ, List.getElem?_cons_zero]); rfl
                · exact fun _ _ _ h => h
                · rfl
                try simp only [Act.put, List.setIfInBounds_toArray, List.set_cons_zero, List.set_cons_succ]
                refine wpAnyH_take (i := 11) (oi := ?_) (v := ?_) ?_ (by kernel_rfl) (by kernel_rfl) (by kernel_rfl) ?_ (Or.inl ⟨?_, ?_⟩) (by assumption) ?_
                rotate_left 2
                · (try simp only [List.getElem?_toArray, List.getElem?_cons_succ, List.getElem?_cons_zero]); rfl
                · exact fun _ _ _ h => h
                · rfl
                · (intro wS hwS; (try dsimp only at hwS); go_simp; all_goals with_reducible rfl)
                try simp only [Act.put, List.setIfInBounds_toArray, List.set_cons_zero, List.set_cons_succ]
                refine wpAnyH_take (i := 12) (oi := ?_) (v := ?_) ?_ (by kernel_rfl) (by kernel_rfl) (by kernel_rfl) ?_ (Or.inl ⟨?_, ?_⟩) (by assumption) ?_
                rotate_left 2
                · (try simp only [List.getElem?_toArray, List.getElem?_cons_succ, List.getElem?_cons_zero]); rfl
                · exact fun _ _ _ h => h
                · rfl
                · (intro wS hwS; (try dsimp only at hwS); go_simp; all_goals with_reducible rfl)
                try simp only [Act.put, List.setIfInBounds_toArray, List.set_cons_zero, List.set_cons_succ]
                refine wpAnyH_done (by kernel_rfl) ?_ _
                clear hHeld heq hgd p0 p1 r0 r1
                go_wp2_with fail
                go_roundw
                case rel => exact ⟨j + 1, by omega, by go_num, by rw [Xhnext.out]; rfl, Xtd.out, Xrad.out, Xrbd.out, Xrcd.out⟩
                case measure => simp [intOf]; omega
              | false =>
                go_wp2_with fail
                refine wp_region_held_drew (S := (fun V => V.cell? ⟨ba, oa + k * 2, none⟩ = some (.int .i64 y0) ∧ V.cell? ⟨ba, oa + k * 2 + 1, none⟩ = some (.int .i64 y1) ∧ V.cell? ⟨bc, oc + j * 2, none⟩ = some (.int .i64 z0) ∧ V.cell? ⟨bc, oc + j * 2 + 1, none⟩ = some (.int .i64 z1))) (by kernel_rfl) ?_ (fun hHeld => ?_)
                · exact ⟨p0, p1, r0, r1⟩
                refine wpAnyH_take (i := 0) (oi := ?_) (v := ?_) ?_ (by kernel_rfl) (by kernel_rfl) (by kernel_rfl) ?_ (Or.inl ⟨?_, ?_⟩) (by assumption) ?_
                rotate_left 2
                · (try simp only [List.getElem?_toArray, List.getElem?_cons_succ, List.getElem?_cons_zero]); rfl
                · exact fun _ _ _ h => h
                · rfl
                · (intro wS hwS; (try dsimp only at hwS); go_simp; all_goals with_reducible rfl)
                try simp only [Act.put, List.setIfInBounds_toArray, List.set_cons_zero, List.set_cons_succ]
                refine wpAnyH_take (i := 1) (oi := ?_) (v := ?_) ?_ (by kernel_rfl) (by kernel_rfl) (by kernel_rfl) ?_ (Or.inl ⟨?_, ?_⟩) (by assumption) ?_
                rotate_left 2
                · (try simp only [List.getElem?_toArray, List.getElem?_cons_succ, List.getElem?_cons_zero]); rfl
                · exact fun _ _ _ h => h
                · rfl
                · (intro wS hwS; (try dsimp only at hwS); go_simp; all_goals with_reducible rfl)
                try simp only [Act.put, List.setIfInBounds_toArray, List.set_cons_zero, List.set_cons_succ]
                refine wpAnyH_take (i := 2) (oi := ?_) (v := ?_) ?_ (by kernel_rfl) (by kernel_rfl) (by kernel_rfl) ?_ (Or.inl ⟨?_, ?_⟩) (by assumption) ?_
                rotate_left 2
                · (try simp only [List.getElem?_toArray, List.getElem?_cons_succ, List.getElem?_cons_zero]); rfl
                · exact fun _ _ _ h => h
                · rfl
                · (intro wS hwS; (try dsimp only at hwS); go_simp; all_goals with_reducible rfl)
                try simp only [Act.put, List.setIfInBounds_toArray, List.set_cons_zero, List.set_cons_succ]
                refine wpAnyH_take (i := 3) (oi := ?_) (v := ?_) ?_ (by kernel_rfl) (by kernel_rfl) (by kernel_rfl) ?_ (Or.inl ⟨?_, ?_⟩) (by assumption) ?_
                rotate_left 2
                · (try simp only [List.getElem?_toArray, List.getElem?_cons_succ, List.getElem?_cons_zero]); rfl
                · exact fun _ _ _ h => h
                · rfl
                · (intro wS hwS; (try dsimp only at hwS); go_simp; all_goals with_reducible rfl)
                try simp only [Act.put, List.setIfInBounds_toArray, List.set_cons_zero, List.set_cons_succ]
                refine wpAnyH_take (i := 4) (oi := ?_) (v := ?_) ?_ (by kernel_rfl) (by kernel_rfl) (by kernel_rfl) ?_ (Or.inl ⟨?_, ?_⟩) (by assumption) ?_
                rotate_left 2
                · (try simp only [List.getElem?_toArray, List.getElem?_cons_succ, List.getElem?_cons_zero]); rfl
                · exact fun _ _ _ h => h
                · rfl
                · (intro wS hwS; (try dsimp only at hwS); go_simp; all_goals with_reducible rfl)
                try simp only [Act.put, List.setIfInBounds_toArray, List.set_cons_zero, List.set_cons_succ]
                refine wpAnyH_take (i := 5) (oi := ?_) (v := ?_) ?_ (by kernel_rfl) (by kernel_rfl) (by kernel_rfl) ?_ (Or.inl ⟨?_, ?_⟩) (by assumption) ?_
                rotate_left 2
                · (try simp only [List.getElem?_toArray, List.getElem?_cons_succ, List.getElem?_cons_zero]); rfl
                · exact fun _ _ _ h => h
                · rfl
                · (intro wS hwS; (try dsimp only at hwS); go_simp; all_goals with_reducible rfl)
                try simp only [Act.put, List.setIfInBounds_toArray, List.set_cons_zero, List.set_cons_succ]
                refine wpAnyH_take (i := 6) (oi := ?_) (v := ?_) ?_ (by kernel_rfl) (by kernel_rfl) (by kernel_rfl) ?_ (Or.inl ⟨?_, ?_⟩) (by assumption) ?_
                rotate_left 2
                · (try simp only [List.getElem?_toArray, List.getElem?_cons_succ, List.getElem?_cons_zero]); rfl
                · exact fun _ _ _ h => h
                · rfl
                · (intro wS hwS; (try dsimp only at hwS); go_simp; all_goals with_reducible rfl)
                try simp only [Act.put, List.setIfInBounds_toArray, List.set_cons_zero, List.set_cons_succ]
                refine wpAnyH_take (i := 7) (oi := ?_) (v := ?_) ?_ (by kernel_rfl) (by kernel_rfl) (by kernel_rfl) ?_ (Or.inl ⟨?_, ?_⟩) (by assumption) ?_
                rotate_left 2
                · (try simp only [List.getElem?_toArray, List.getElem?_cons_succ, List.getElem?_cons_zero]); rfl
                · exact fun _ _ _ h => h
                · rfl
                · (intro wS hwS; (try dsimp only at hwS); go_simp; all_goals with_reducible rfl)
                try simp only [Act.put, List.setIfInBounds_toArray, List.set_cons_zero, List.set_cons_succ]
                refine wpAnyH_take (i := 8) (oi := ?_) (v := ?_) ?_ (by kernel_rfl) (by kernel_rfl) (by kernel_rfl) ?_ (Or.inl ⟨?_, ?_⟩) (by assumption) ?_
                rotate_left 2
                · (try simp only [List.getElem?_toArray, List.getElem?_cons_succ, List.getElem?_cons_zero]); rfl
                · exact fun _ _ _ h => h
                · rfl
                · (intro wS hwS; (try dsimp only at hwS); go_simp; all_goals with_reducible rfl)
                try simp only [Act.put, List.setIfInBounds_toArray, List.set_cons_zero, List.set_cons_succ]
                refine wpAnyH_take (i := 9) (oi := ?_) (v := ?_) ?_ (by kernel_rfl) (by kernel_rfl) (by kernel_rfl) ?_ (Or.inl ⟨?_, ?_⟩) (by assumption) ?_
                rotate_left 2
                · (try simp only [List.getElem?_toArray, List.getElem?_cons_succ, List.getElem?_cons_zero]); rfl
                · exact fun _ _ _ h => h
                · rfl
                · (intro wS hwS; (try dsimp only at hwS); go_simp; all_goals with_reducible rfl)
                try simp only [Act.put, List.setIfInBounds_toArray, List.set_cons_zero, List.set_cons_succ]
                refine wpAnyH_take (i := 10) (oi := ?_) (v := ?_) ?_ (by kernel_rfl) (by kernel_rfl) (by kernel_rfl) ?_ (Or.inl ⟨?_, ?_⟩) (by assumption) ?_
                rotate_left 2
                · (try simp only [List.getElem?_toArray, List.getElem?_cons_succ, List.getElem?_cons_zero]); rfl
                · exact fun _ _ _ h => h
                · rfl
                · (intro wS hwS; (try dsimp only at hwS); go_simp; all_goals with_reducible rfl)
                try simp only [Act.put, List.setIfInBounds_toArray, List.set_cons_zero, List.set_cons_succ]
                refine wpAnyH_take (i := 11) (oi := ?_) (v := ?_) ?_ (by kernel_rfl) (by kernel_rfl) (by kernel_rfl) ?_ (Or.inl ⟨?_, ?_⟩) (by assumption) ?_
                rotate_left 2
                · (try simp only [List.getElem?_toArray, List.getElem?_cons_succ, List.getElem?_cons_zero]); rfl
                · exact fun _ _ _ h => h
                · rfl
                · (intro wS hwS; (try dsimp only at hwS); go_simp; all_goals with_reducible rfl)
                try simp only [Act.put, List.setIfInBounds_toArray, List.set_cons_zero, List.set_cons_succ]
                refine wpAnyH_take (i := 12) (oi := ?_) (v := ?_) ?_ (by kernel_rfl) (by kernel_rfl) (by kernel_rfl) ?_ (Or.inl ⟨?_, ?_⟩) (by assumption) ?_
                rotate_left 2
                · (try simp only [List.getElem?_toArray, List.getElem?_cons_succ, List.getElem?_cons_zero]); rfl
                · exact fun _ _ _ h => h
                · rfl
                · (intro wS hwS; (try dsimp only at hwS); go_simp; all_goals with_reducible rfl)
                try simp only [Act.put, List.setIfInBounds_toArray, List.set_cons_zero, List.set_cons_succ]
                refine wpAnyH_done (by kernel_rfl) ?_ _
                clear hHeld heq hgd p0 p1 r0 r1
                go_wp2_with fail
                go_roundw
                case rel => exact ⟨j + 1, by omega, by go_num, by rw [Xhnext.out]; rfl, Xtd.out, Xrad.out, Xrbd.out, Xrcd.out⟩
                case measure => simp [intOf]; omega
            · have hlj' : ¬ (j : Int) < (o2.length : Int) := by omega
              have htt : th = true := by rw [hth, List.take_of_length_le (by omega)]; exact decide_eq_true Xhin.out
              subst htt
              have Xt := hide t
              have Xra := hide ra
              have Xrb := hide rb
              have Xrc := hide rc
              have Xhth := hide hth
              clear t ra rb rc hth
              go_wp2_with fail
              go_roundw
              case rel => exact ⟨k + 1, by omega, by go_num, Xt.out, Xra.out, Xrb.out, Xrc.out⟩
              case measure => simp [intOf]; omega
        · have hlt' : ¬ (k : Int) < (o.length : Int) := by omega
          have cS := ref12_Same ra rb
          rw [decide_eq_true rfl] at cS
          have Xt := hide t
          have XcS := hide cS
          clear t cS
          clear ra rb rc
          go_wp2_with fail
          with_reducible refine XcS.out.mono ?_
          rintro e w12 ⟨rfl, b12⟩
          have hb2 := (Xt.out.below b12).le
          clear b12 Xt XcS
          have Xhb2 := hide hb2
          clear hb2
          go_wp2_with fail
          with_reducible refine (law12_awake _).mono ?_
          rintro e w3 ⟨rfl, b3⟩
          go_wp2_with fail
          go_ret
          exact ⟨rfl, Xhb2.out.trans (b3.mono Xhb2.out.size)⟩
    · exact AllReadyH.nil
end Go.Proofs.YtlpokomfljmogaaGreat

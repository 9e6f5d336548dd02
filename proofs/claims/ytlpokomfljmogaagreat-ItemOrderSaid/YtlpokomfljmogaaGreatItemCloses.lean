/- The law ItemCloses: the walk. -/
import Derived.Test.YtlpokomfljmogaaGreatItem15
namespace Go.Proofs.YtlpokomfljmogaaGreat
set_option linter.unusedVariables false
set_option linter.unusedSimpArgs false
open Go.RowKit
attribute [local irreducible] wpStill wpOne wpPh

theorem right_bound {G : GramD} {st : Int} : ∀ {o : List It}, o.Nodup → (∀ z ∈ o, rightI G st z = true) → missI G st o + o.length ≤ (allIt G st).length
  | [], _, _ => by unfold missI; rw [List.length_nil, Nat.add_zero]; exact List.length_filter_le _ _
  | x :: o, h, hr => by
    obtain ⟨h1, h2⟩ := List.nodup_cons.1 h
    have ih := right_bound h2 (fun z hz => hr z (by simp [hz]))
    have := miss_lt (G := G) (st := st) (o := o) (o' := x :: o) (fun z hz => by simp [hz]) (hr x (by simp)) h1 (by simp)
    simp
    omega
theorem IsCl.len {G : GramD} {st : Int} {l o : List It} (h : IsCl G st l o) (hk : KnI G st) : o.length ≤ 400000 := by
  have h1 := right_bound h.strict.nodup (fun z hz => ((h.mem z).1 hz).right)
  have h2 := all_len hk.short hk.r
  omega
theorem wf_right {G : GramD} {st : Int} (hk : KnI G st) {x : It} (h : rightI G st x = true) : WfI x := by
  unfold rightI at h
  simp only [Bool.and_eq_true, decide_eq_true_eq] at h
  obtain ⟨h1, h2, h3⟩ := h
  have h4 := hk.short x.1
  have h5 := hk.r
  have h6 : 0 ≤ x.1 ∧ x.1 ≤ G.rules.length := by
    unfold ruleOf at h1
    split at h1
    · cases h1
    · omega
  exact ⟨⟨by omega, by omega⟩, by omega, by omega⟩
theorem RdIt.up {w w' : World} {v : Value} {l : List It} (h : RdIt w (fun b => b < w.heap.size) v l) (hb : Below w.heap.size w w') : RdIt w' (fun b => b < w'.heap.size) v l :=
  (Rd.below h hb (fun b hb => hb)).mono (fun b hb' => Nat.lt_of_lt_of_le hb' hb.size)
theorem ItPost.rd {w w' : World} {l : List It} {e : Ending} (h : ItPost w l e w') : ∃ A c, e = .returned (.slice A l.length c) ∧ RdIt w' (fun b => b < w'.heap.size) (.slice A l.length c) l ∧ Below w.heap.size w w' := by
  obtain ⟨A, n, c, rfl, hr, hb⟩ := h
  obtain ⟨hn, -⟩ := RdIt.at_ hr
  subst hn
  exact ⟨A, c, rfl, hr.mono (fun b hb => hb.2), hb⟩
/-- the grammar's box -/
structure LSt (w wr : World) (F : Nat → Prop) (A1 : Option Addr) (c1 : Nat) (A2 : Option Addr) (c2 : Nat) (A3 : Option Addr) (c3 T N R : Nat) (st : Int) (G : GramD) : Prop where
  g : GBox wr F w.heap.size A1 c1 A2 c2 A3 c3 T N R st G
  le : Below w.heap.size w wr
theorem LSt.below {w wr wr' : World} {F : Nat → Prop} {A1 : Option Addr} {c1 : Nat} {A2 : Option Addr} {c2 : Nat} {A3 : Option Addr} {c3 T N R : Nat} {st : Int} {G : GramD} (h : LSt w wr F A1 c1 A2 c2 A3 c3 T N R st G) (hb : Below wr.heap.size wr wr') : LSt w wr' F A1 c1 A2 c2 A3 c3 T N R st G :=
  ⟨h.g.below hb, h.le.trans (hb.mono h.le.size)⟩
set_option maxRecDepth 100000 in
set_option maxHeartbeats 8000000 in
theorem walk_ItemCloses (C : Array Value) (G : GramD) (v : Value) (l : List It) (s : Int) (w : World) (hg : GramCells w C.toList G) (hv : RdL w (· < w.heap.size) 2 (fun cs x => ItemWf cs x) v l ∧ l.length * 16 ≤ 140737488351232) (hs : (Lit.int .i64 s).wf = true) :
    Calls Tryz.prog 4 #[.agg C, v, .int .i64 s] w (Quiet w (.bool true)) := by
  obtain ⟨vt, vn, vr, hC, hg, -⟩ := hg
  obtain rfl : C = #[vt, vn, vr, .int .i64 G.start] := Array.toList_inj.1 hC
  clear hC hs
  obtain ⟨hv, hwf⟩ := rdl_items hv.1
  obtain ⟨Av, nv, cv, rfl, -⟩ := id hv
  obtain ⟨hnv, hnc, hcm, -⟩ := RdIt.at_ hv
  unfold maxLen at hcm
  generalize G.start = st at *
  obtain ⟨A1, c1, A2, c2, A3, c3, rfl, rfl, rfl, -⟩ := hg.slices
  obtain ⟨w1, hw1⟩ : ∃ w1, w1 = w.alloc (.cells #[.slice A1 G.terms.length c1, .slice A2 G.nons.length c2, .slice A3 G.rules.length c3, .int .i64 st] 25) := ⟨_, rfl⟩
  have g1 := GBox.new hg st
  have b1 : Below w.heap.size w w1 := by rw [hw1]; exact (Below.refl _ w).alloc (Nat.le_refl _) _
  rw [← hw1] at g1
  have t1 : LSt w w1 (· < w.heap.size) A1 c1 A2 c2 A3 c3 G.terms.length G.nons.length G.rules.length st G := ⟨g1, b1⟩
  have rv1 := RdIt.up hv b1
  have hm := law_much g1.gram st
  have cC := fun wr (g : GBox wr (· < w.heap.size) w.heap.size A1 c1 A2 c2 A3 c3 G.terms.length G.nons.length G.rules.length st G) => ref_check g.gram st
  have cl := fun wr (g : GBox wr (· < w.heap.size) w.heap.size A1 c1 A2 c2 A3 c3 G.terms.length G.nons.length G.rules.length st G) (v : Value) (l : List It) (hl : RdIt wr (fun b => b < wr.heap.size) v l) (hwf : ∀ x ∈ l, WfI x) => item_Close g.gram g.gram.lt st hl hwf
  have cs := fun wr (g : GBox wr (· < w.heap.size) w.heap.size A1 c1 A2 c2 A3 c3 G.terms.length G.nons.length G.rules.length st G) (v : Value) (l : List It) (hl : RdIt wr (fun b => b < wr.heap.size) v l) (hsh : ShortG G st) (hlen : l.length ≤ 1000000) => item_Step g.gram g.gram.lt st hl (fun _ => hsh) hlen s
  have ck := fun wr (g : GBox wr (· < w.heap.size) w.heap.size A1 c1 A2 c2 A3 c3 G.terms.length G.nons.length G.rules.length st G) (v : Value) (l : List It) (hl : RdIt wr (fun b => b < wr.heap.size) v l) (hlen : l.length ≤ 1000000) => item_Kernel g.gram g.gram.lt st hl hlen
  have hkn : checkOf G st = 0 → KnI G st := KnI.of_check
  have hmy : checkOf G st = 0 → mayB G st = true := fun h => decide_eq_true h
  obtain ⟨q0, q1, q2, q3⟩ := g1.cells
  generalize G.terms.length = T at *
  generalize G.nons.length = N at *
  generalize G.rules.length = R at *
  obtain ⟨F, hF⟩ : ∃ F : Nat → Prop, F = fun b => b < w.heap.size := ⟨_, rfl⟩
  rw [← hF] at t1
  rw [← hF] at cC cl cs ck
  rw [hw1] at q0 q1 q2 q3 hm
  clear hg hF g1 b1 hv
  generalize hcz : checkOf G st = cz at *
  have Xhm := hide hm
  have XcC := hide cC
  have Xcl := hide cl
  have Xcs := hide cs
  have Xck := hide ck
  have Xt1 := hide t1
  have Xrv1 := hide rv1
  have Xhkn := hide hkn
  have Xhmy := hide hmy
  have Xhcz := hide hcz
  have Xhwf := hide hwf
  have Xhnv := hide hnv
  clear hm cC cl cs ck t1 rv1 hkn hmy hcz hwf hnv
  go_enter Tryz.func4, Tryz.ntmps4
  go_wp2_with fail
  refine Xhm.out.mono ?_
  rintro e w2 ⟨r, hr, rfl, b2⟩
  rw [← hw1] at b2
  have t2 := Xt1.out.below b2
  have rv2 := RdIt.up Xrv1.out b2
  clear q0 q1 q2 q3 hw1 Xhm Xt1 Xrv1 b2 hr
  obtain ⟨q0, q1, q2, q3⟩ := t2.g.cells
  have hb2 := t2.le
  by_cases hbig : 100 < r
  · have Xhb2 := hide hb2
    have Xt2 := hide t2
    have Xrv2 := hide rv2
    clear hb2 t2 rv2
    go_wp2_with fail
    with_reducible refine (law12_awake _).mono ?_
    rintro e w3 ⟨rfl, b3⟩
    go_wp2_with fail
    go_ret
    exact ⟨rfl, Xhb2.out.trans (b3.mono Xhb2.out.size)⟩
  by_cases hlong : (40 : Int) < (nv : Int)
  · have Xhb2 := hide hb2
    have Xt2 := hide t2
    have Xrv2 := hide rv2
    clear hb2 t2 rv2
    go_wp2_with fail
    with_reducible refine (law12_awake _).mono ?_
    rintro e w3 ⟨rfl, b3⟩
    go_wp2_with fail
    go_ret
    exact ⟨rfl, Xhb2.out.trans (b3.mono Xhb2.out.size)⟩
  have cc := XcC.out _ t2.g
  clear hb2
  have Xt2 := hide t2
  have Xrv2 := hide rv2
  have Xcc := hide cc
  clear t2 rv2 cc
  go_wp2_with fail
  with_reducible refine Xcc.out.mono ?_
  rintro e w3 ⟨rfl, b3⟩
  have t3 := Xt2.out.below b3
  have rv3 := RdIt.up Xrv2.out b3
  clear q0 q1 q2 q3 b3 Xt2 Xrv2 Xcc XcC
  by_cases hz : cz = 0
  case neg =>
    have hz' : (cz != 0) = true := by simpa using hz
    have hb2 := t3.le
    have Xhb2 := hide hb2
    have Xt3 := hide t3
    have Xrv3 := hide rv3
    clear hb2 t3 rv3
    go_wp2_with fail
    with_reducible refine (law12_awake _).mono ?_
    rintro e w3 ⟨rfl, b3⟩
    go_wp2_with fail
    go_ret
    exact ⟨rfl, Xhb2.out.trans (b3.mono Xhb2.out.size)⟩
  subst hz
  have hk := Xhkn.out (by first | rfl | trivial)
  have hm := Xhmy.out (by first | rfl | trivial)
  have c3l := Xcl.out _ t3.g _ _ rv3 Xhwf.out
  rw [hm] at c3l
  obtain ⟨q0, q1, q2, q3⟩ := t3.g.cells
  clear Xhkn Xhmy
  have Xt3 := hide t3
  have Xrv3 := hide rv3
  have Xc3l := hide c3l
  have Xhk := hide hk
  have Xhm := hide hm
  clear t3 rv3 c3l hk hm
  go_wp2_with fail
  refine Xc3l.out.mono ?_
  rintro e w4 hp
  obtain ⟨o, hcl, hp⟩ := MayClose.yes hp
  obtain ⟨A4, c4, rfl, ro4, b4⟩ := hp.rd
  have t4 := Xt3.out.below b4
  have hol := hcl.len Xhk.out
  have hwo : ∀ x ∈ o, WfI x := fun x hx => wf_right Xhk.out ((hcl.mem x).1 hx).right
  clear q0 q1 q2 q3 b4 Xt3 Xrv3 Xc3l
  have c4s := Xcs.out _ t4.g _ _ ro4 Xhk.out.short (by omega)
  rw [Xhm.out, if_pos rfl] at c4s
  obtain ⟨q0, q1, q2, q3⟩ := t4.g.cells
  obtain ⟨kk, hkk⟩ : ∃ kk, kk = canonI (stepsI G st o s) := ⟨_, rfl⟩
  rw [← hkk] at c4s
  have hkl : kk.length ≤ 400000 := by rw [hkk]; have h1 := canon_len (stepsI G st o s); have h2 := steps_len G st o s; omega
  have hwk : ∀ x ∈ kk, WfI x := fun x hx => wf_right Xhk.out (steps_mem (mem_canon.1 (by rw [hkk] at hx; exact hx))).1
  have Xt4 := hide t4
  have Xro4 := hide ro4
  have Xc4s := hide c4s
  have Xhcl := hide hcl
  have Xhwo := hide hwo
  have Xhkk := hide hkk
  have Xhwk := hide hwk
  clear t4 ro4 c4s hcl hwo hkk hwk
  go_wp2_with fail
  refine Xc4s.out.mono ?_
  rintro e w5 hp
  obtain ⟨A5, c5, rfl, rk5, b5⟩ := hp.rd
  have t5 := (Xt4.out.below b5).below ((Below.refl _ _).drew)
  have ro5 := RdIt.up (RdIt.up Xro4.out b5) ((Below.refl _ _).drew)
  have rk5 := RdIt.up rk5 ((Below.refl _ _).drew)
  clear q0 q1 q2 q3 b5 hp Xt4 Xro4 Xc4s Xcs
  have c5l := Xcl.out _ t5.g _ _ ro5 Xhwo.out
  rw [Xhm.out] at c5l
  obtain ⟨q0, q1, q2, q3⟩ := t5.g.cells
  have Xt5 := hide t5
  have Xro5 := hide ro5
  have Xrk5 := hide rk5
  have Xc5l := hide c5l
  clear t5 ro5 rk5 c5l
  go_wp2_with fail
  refine wp_region_held_drew (S := (fun V => V.cell? ⟨w.heap.size, 0, none⟩ = some (.slice A1 T c1) ∧ V.cell? ⟨w.heap.size, 1, none⟩ = some (.slice A2 N c2) ∧ V.cell? ⟨w.heap.size, 2, none⟩ = some (.slice A3 R c3) ∧ V.cell? ⟨w.heap.size, 3, none⟩ = some (.int .i64 st))) (by kernel_rfl) ?_ (fun hHeld => ?_)
  · exact ⟨q0, q1, q2, q3⟩
  clear q0 q1 q2 q3
  refine wpAnyH_take (i := 0) (oi := ?_) (v := ?_) ?_ (by kernel_rfl) (by kernel_rfl) (by kernel_rfl) ?_ (Or.inl ⟨?_, ?_⟩) (by assumption) ?_
  rotate_left 2
  · (try simp only [List.getElem?_toArray, List.getElem?_cons_succ, List.getElem?_cons_zero]); rfl
  · exact fun _ _ _ h => h
  · rfl
  · (intro wS hwS; (try dsimp only at hwS); go_simp; all_goals with_reducible rfl)
  try simp only [Act.put, List.setIfInBounds_toArray, List.set_cons_zero, List.set_cons_succ]
  refine wpAnyH_take (i := 1) (oi := ?_) (v := ?_) ?_ (by kernel_rfl) (by kernel_rfl) (by kernel_rfl) ?_ (Or.inl ⟨?_, ?_⟩) (by assumption) ?_
  rotate_left 2
  · (try simp only [List.getElem?_toArray, List.getElem?_cons_succ, List.getElem?_cons_zero]); rfl
  · exact fun _ _ _ h => h
  · rfl
  · (intro wS hwS; (try dsimp only at hwS); go_simp; all_goals with_reducible rfl)
  try simp only [Act.put, List.setIfInBounds_toArray, List.set_cons_zero, List.set_cons_succ]
  refine wpAnyH_take (i := 3) (oi := ?_) (v := ?_) ?_ (by kernel_rfl) (by kernel_rfl) (by kernel_rfl) ?_ (Or.inl ⟨?_, ?_⟩) (by assumption) ?_
  rotate_left 2
  · (try simp only [List.getElem?_toArray, List.getElem?_cons_succ, List.getElem?_cons_zero]); rfl
  · exact fun _ _ _ h => h
  · rfl
  · (intro wS hwS; (try dsimp only at hwS); go_simp; all_goals with_reducible rfl)
  try simp only [Act.put, List.setIfInBounds_toArray, List.set_cons_zero, List.set_cons_succ]
  refine wpAnyH_ready (rs := [2]) (by kernel_rfl) (by simp) ?_
  refine AllReadyH.cons (o := ?_) ?_ (fun K hK => ?_) AllReadyH.nil
  rotate_left 1
  · (try simp only [List.getElem?_toArray, List.getElem?_cons_succ, List.getElem?_cons_zero]); rfl
  go_simp
  go_at_call 18
  refine Xc5l.out.mono ?_
  rintro e w6 hp
  obtain ⟨o2, hcl2, hp⟩ := MayClose.yes hp
  obtain ⟨A6, c6, rfl, ro6, b6⟩ := hp.rd
  have eo : o2 = o := hcl2.unique Xhcl.out (fun z => Cl.again Xhcl.out.mem)
  subst eo
  have t6 := Xt5.out.below b6
  have rc6 := RdIt.up Xro5.out b6
  have rk6 := RdIt.up Xrk5.out b6
  refine hK.out _ _ ?_ (fun hHeld => ?_)
  · exact t6.g.cells
  clear hK K
  try simp only [Act.put, List.setIfInBounds_toArray, List.set_cons_zero, List.set_cons_succ]
  have cS := ref12_Same ro6 rc6
  rw [decide_eq_true rfl] at cS
  clear b6 hcl2 hp Xt5 Xro5 Xrk5 Xc5l ro6 rc6
  have Xt6 := hide t6
  have Xrk6 := hide rk6
  have XcS := hide cS
  clear t6 rk6 cS
  refine wpAnyH_ready (rs := [4]) (by kernel_rfl) (by simp) ?_
  refine AllReadyH.cons (o := ?_) ?_ (fun K hK => ?_) AllReadyH.nil
  rotate_left 1
  · (try simp only [List.getElem?_toArray, List.getElem?_cons_succ, List.getElem?_cons_zero]); rfl
  go_simp
  go_at_call 23
  with_reducible refine XcS.out.mono ?_
  rintro e w7 ⟨rfl, b7⟩
  have t7 := Xt6.out.below b7
  have rk7 := RdIt.up Xrk6.out b7
  refine hK.out _ _ ?_ (fun hHeld => ?_)
  · exact t7.g.cells
  clear hK K
  try simp only [Act.put, List.setIfInBounds_toArray, List.set_cons_zero, List.set_cons_succ]
  have c7k := Xck.out _ t7.g _ _ rk7 (by omega)
  rw [Xhm.out, if_pos rfl, Xhkk.out, kern_steps, ← Xhkk.out] at c7k
  clear b7 Xt6 Xrk6 XcS
  have Xt7 := hide t7
  have Xrk7 := hide rk7
  have Xc7k := hide c7k
  clear t7 rk7 c7k
  refine wpAnyH_take (i := 5) (oi := ?_) (v := ?_) ?_ (by kernel_rfl) (by kernel_rfl) (by kernel_rfl) ?_ (Or.inl ⟨?_, ?_⟩) (by assumption) ?_
  rotate_left 2
  · (try simp only [List.getElem?_toArray, List.getElem?_cons_succ, List.getElem?_cons_zero]); rfl
  · exact fun _ _ _ h => h
  · rfl
  · (intro wS hwS; (try dsimp only at hwS); go_simp; all_goals with_reducible rfl)
  try simp only [Act.put, List.setIfInBounds_toArray, List.set_cons_zero, List.set_cons_succ]
  refine wpAnyH_take (i := 6) (oi := ?_) (v := ?_) ?_ (by kernel_rfl) (by kernel_rfl) (by kernel_rfl) ?_ (Or.inl ⟨?_, ?_⟩) (by assumption) ?_
  rotate_left 2
  · (try simp only [List.getElem?_toArray, List.getElem?_cons_succ, List.getElem?_cons_zero]); rfl
  · exact fun _ _ _ h => h
  · rfl
  · (intro wS hwS; (try dsimp only at hwS); go_simp; all_goals with_reducible rfl)
  try simp only [Act.put, List.setIfInBounds_toArray, List.set_cons_zero, List.set_cons_succ]
  refine wpAnyH_take (i := 7) (oi := ?_) (v := ?_) ?_ (by kernel_rfl) (by kernel_rfl) (by kernel_rfl) ?_ (Or.inl ⟨?_, ?_⟩) (by assumption) ?_
  rotate_left 2
  · (try simp only [List.getElem?_toArray, List.getElem?_cons_succ, List.getElem?_cons_zero]); rfl
  · exact fun _ _ _ h => h
  · rfl
  · (intro wS hwS; (try dsimp only at hwS); go_simp; all_goals with_reducible rfl)
  try simp only [Act.put, List.setIfInBounds_toArray, List.set_cons_zero, List.set_cons_succ]
  refine wpAnyH_take (i := 9) (oi := ?_) (v := ?_) ?_ (by kernel_rfl) (by kernel_rfl) (by kernel_rfl) ?_ (Or.inl ⟨?_, ?_⟩) (by assumption) ?_
  rotate_left 2
  · (try simp only [List.getElem?_toArray, List.getElem?_cons_succ, List.getElem?_cons_zero]); rfl
  · exact fun _ _ _ h => h
  · rfl
  · (intro wS hwS; (try dsimp only at hwS); go_simp; all_goals with_reducible rfl)
  try simp only [Act.put, List.setIfInBounds_toArray, List.set_cons_zero, List.set_cons_succ]
  refine wpAnyH_ready (rs := [8]) (by kernel_rfl) (by simp) ?_
  refine AllReadyH.cons (o := ?_) ?_ (fun K hK => ?_) AllReadyH.nil
  rotate_left 1
  · (try simp only [List.getElem?_toArray, List.getElem?_cons_succ, List.getElem?_cons_zero]); rfl
  go_simp
  go_at_call 20
  refine Xc7k.out.mono ?_
  rintro e w8 hp
  obtain ⟨A8, c8, rfl, rq8, b8⟩ := hp.rd
  have t8 := Xt7.out.below b8
  have rk8 := RdIt.up Xrk7.out b8
  refine hK.out _ _ ?_ (fun hHeld => ?_)
  · exact t8.g.cells
  clear hK K
  try simp only [Act.put, List.setIfInBounds_toArray, List.set_cons_zero, List.set_cons_succ]
  have cS := ref12_Same rq8 rk8
  rw [decide_eq_true rfl] at cS
  clear b8 hp Xt7 Xrk7 Xc7k rq8
  have Xt8 := hide t8
  have Xrk8 := hide rk8
  have XcS := hide cS
  clear t8 rk8 cS
  refine wpAnyH_ready (rs := [10]) (by kernel_rfl) (by simp) ?_
  refine AllReadyH.cons (o := ?_) ?_ (fun K hK => ?_) AllReadyH.nil
  rotate_left 1
  · (try simp only [List.getElem?_toArray, List.getElem?_cons_succ, List.getElem?_cons_zero]); rfl
  go_simp
  go_at_call 23
  with_reducible refine XcS.out.mono ?_
  rintro e w9 ⟨rfl, b9⟩
  have t9 := Xt8.out.below b9
  have rk9 := RdIt.up Xrk8.out b9
  refine hK.out _ _ ?_ (fun hHeld => ?_)
  · exact t9.g.cells
  clear hK K
  try simp only [Act.put, List.setIfInBounds_toArray, List.set_cons_zero, List.set_cons_succ]
  have c9l := Xcl.out _ t9.g _ _ rk9 Xhwk.out
  rw [Xhm.out] at c9l
  clear b9 Xt8 Xrk8 XcS
  have Xt9 := hide t9
  have Xrk9 := hide rk9
  have Xc9l := hide c9l
  clear t9 rk9 c9l
  refine wpAnyH_take (i := 11) (oi := ?_) (v := ?_) ?_ (by kernel_rfl) (by kernel_rfl) (by kernel_rfl) ?_ (Or.inl ⟨?_, ?_⟩) (by assumption) ?_
  rotate_left 2
  · (try simp only [List.getElem?_toArray, List.getElem?_cons_succ, List.getElem?_cons_zero]); rfl
  · exact fun _ _ _ h => h
  · rfl
  · (intro wS hwS; (try dsimp only at hwS); go_simp; all_goals with_reducible rfl)
  try simp only [Act.put, List.setIfInBounds_toArray, List.set_cons_zero, List.set_cons_succ]
  refine wpAnyH_take (i := 12) (oi := ?_) (v := ?_) ?_ (by kernel_rfl) (by kernel_rfl) (by kernel_rfl) ?_ (Or.inl ⟨?_, ?_⟩) (by assumption) ?_
  rotate_left 2
  · (try simp only [List.getElem?_toArray, List.getElem?_cons_succ, List.getElem?_cons_zero]); rfl
  · exact fun _ _ _ h => h
  · rfl
  · (intro wS hwS; (try dsimp only at hwS); go_simp; all_goals with_reducible rfl)
  try simp only [Act.put, List.setIfInBounds_toArray, List.set_cons_zero, List.set_cons_succ]
  refine wpAnyH_take (i := 13) (oi := ?_) (v := ?_) ?_ (by kernel_rfl) (by kernel_rfl) (by kernel_rfl) ?_ (Or.inl ⟨?_, ?_⟩) (by assumption) ?_
  rotate_left 2
  · (try simp only [List.getElem?_toArray, List.getElem?_cons_succ, List.getElem?_cons_zero]); rfl
  · exact fun _ _ _ h => h
  · rfl
  · (intro wS hwS; (try dsimp only at hwS); go_simp; all_goals with_reducible rfl)
  try simp only [Act.put, List.setIfInBounds_toArray, List.set_cons_zero, List.set_cons_succ]
  refine wpAnyH_take (i := 14) (oi := ?_) (v := ?_) ?_ (by kernel_rfl) (by kernel_rfl) (by kernel_rfl) ?_ (Or.inl ⟨?_, ?_⟩) (by assumption) ?_
  rotate_left 2
  · (try simp only [List.getElem?_toArray, List.getElem?_cons_succ, List.getElem?_cons_zero]); rfl
  · exact fun _ _ _ h => h
  · rfl
  · (intro wS hwS; (try dsimp only at hwS); go_simp; all_goals with_reducible rfl)
  try simp only [Act.put, List.setIfInBounds_toArray, List.set_cons_zero, List.set_cons_succ]
  refine wpAnyH_take (i := 15) (oi := ?_) (v := ?_) ?_ (by kernel_rfl) (by kernel_rfl) (by kernel_rfl) ?_ (Or.inl ⟨?_, ?_⟩) (by assumption) ?_
  rotate_left 2
  · (try simp only [List.getElem?_toArray, List.getElem?_cons_succ, List.getElem?_cons_zero]); rfl
  · exact fun _ _ _ h => h
  · rfl
  · (intro wS hwS; (try dsimp only at hwS); go_simp; all_goals with_reducible rfl)
  try simp only [Act.put, List.setIfInBounds_toArray, List.set_cons_zero, List.set_cons_succ]
  refine wpAnyH_take (i := 18) (oi := ?_) (v := ?_) ?_ (by kernel_rfl) (by kernel_rfl) (by kernel_rfl) ?_ (Or.inl ⟨?_, ?_⟩) (by assumption) ?_
  rotate_left 2
  · (try simp only [List.getElem?_toArray, List.getElem?_cons_succ, List.getElem?_cons_zero]); rfl
  · exact fun _ _ _ h => h
  · rfl
  · (intro wS hwS; (try dsimp only at hwS); go_simp; all_goals with_reducible rfl)
  try simp only [Act.put, List.setIfInBounds_toArray, List.set_cons_zero, List.set_cons_succ]
  refine wpAnyH_ready (rs := [16]) (by kernel_rfl) (by simp) ?_
  refine AllReadyH.cons (o := ?_) ?_ (fun K hK => ?_) AllReadyH.nil
  rotate_left 1
  · (try simp only [List.getElem?_toArray, List.getElem?_cons_succ, List.getElem?_cons_zero]); rfl
  go_simp
  go_at_call 18
  refine Xc9l.out.mono ?_
  rintro e w10 hp
  obtain ⟨o3, hcl3, hp⟩ := MayClose.yes hp
  obtain ⟨A10, c10, rfl, ro10, b10⟩ := hp.rd
  have t10 := Xt9.out.below b10
  have rk10 := RdIt.up Xrk9.out b10
  refine hK.out _ _ ?_ (fun hHeld => ?_)
  · exact t10.g.cells
  clear hK K
  try simp only [Act.put, List.setIfInBounds_toArray, List.set_cons_zero, List.set_cons_succ]
  have hl3 := hcl3.len Xhk.out
  have c10k := Xck.out _ t10.g _ _ ro10 (by omega)
  rw [Xhkk.out] at hcl3
  rw [Xhm.out, if_pos rfl, kern_closed hcl3, ← Xhkk.out] at c10k
  clear b10 hp hcl3 Xt9 Xrk9 Xc9l ro10
  have Xt10 := hide t10
  have Xrk10 := hide rk10
  have Xc10k := hide c10k
  clear t10 rk10 c10k
  refine wpAnyH_ready (rs := [17]) (by kernel_rfl) (by simp) ?_
  refine AllReadyH.cons (o := ?_) ?_ (fun K hK => ?_) AllReadyH.nil
  rotate_left 1
  · (try simp only [List.getElem?_toArray, List.getElem?_cons_succ, List.getElem?_cons_zero]); rfl
  go_simp
  go_at_call 20
  refine Xc10k.out.mono ?_
  rintro e w11 hp
  obtain ⟨A11, c11, rfl, rq11, b11⟩ := hp.rd
  have t11 := Xt10.out.below b11
  have rk11 := RdIt.up Xrk10.out b11
  refine hK.out _ _ ?_ (fun hHeld => ?_)
  · exact t11.g.cells
  clear hK K
  try simp only [Act.put, List.setIfInBounds_toArray, List.set_cons_zero, List.set_cons_succ]
  have cS := ref12_Same rq11 rk11
  rw [decide_eq_true rfl] at cS
  clear b11 hp Xt10 Xrk10 Xc10k rq11 rk11
  have Xt11 := hide t11
  have XcS := hide cS
  clear t11 cS
  refine wpAnyH_ready (rs := [19]) (by kernel_rfl) (by simp) ?_
  refine AllReadyH.cons (o := ?_) ?_ (fun K hK => ?_) AllReadyH.nil
  rotate_left 1
  · (try simp only [List.getElem?_toArray, List.getElem?_cons_succ, List.getElem?_cons_zero]); rfl
  go_simp
  go_at_call 23
  with_reducible refine XcS.out.mono ?_
  rintro e w12 ⟨rfl, b12⟩
  have t12 := Xt11.out.below b12
  refine hK.out _ _ ?_ (fun hHeld => ?_)
  · exact t12.g.cells
  clear hK K
  try simp only [Act.put, List.setIfInBounds_toArray, List.set_cons_zero, List.set_cons_succ]
  clear b12 Xt11 XcS
  have Xt12 := hide t12
  clear t12
  refine wpAnyH_take (i := 20) (oi := ?_) (v := ?_) ?_ (by kernel_rfl) (by kernel_rfl) (by kernel_rfl) ?_ (Or.inl ⟨?_, ?_⟩) (by assumption) ?_
  rotate_left 2
  · (try simp only [List.getElem?_toArray, List.getElem?_cons_succ, List.getElem?_cons_zero]); rfl
  · exact fun _ _ _ h => h
  · rfl
  · (intro wS hwS; (try dsimp only at hwS); go_simp; all_goals with_reducible rfl)
  try simp only [Act.put, List.setIfInBounds_toArray, List.set_cons_zero, List.set_cons_succ]
  refine wpAnyH_take (i := 21) (oi := ?_) (v := ?_) ?_ (by kernel_rfl) (by kernel_rfl) (by kernel_rfl) ?_ (Or.inl ⟨?_, ?_⟩) (by assumption) ?_
  rotate_left 2
  · (try simp only [List.getElem?_toArray, List.getElem?_cons_succ, List.getElem?_cons_zero]); rfl
  · exact fun _ _ _ h => h
  · rfl
  · (intro wS hwS; (try dsimp only at hwS); go_simp; all_goals with_reducible rfl)
  try simp only [Act.put, List.setIfInBounds_toArray, List.set_cons_zero, List.set_cons_succ]
  refine wpAnyH_ready (rs := [22]) (by kernel_rfl) (by simp) ?_
  refine AllReadyH.cons (o := ?_) ?_ (fun K hK => ?_) AllReadyH.nil
  rotate_left 1
  · (try simp only [List.getElem?_toArray, List.getElem?_cons_succ, List.getElem?_cons_zero]); rfl
  go_simp
  go_at_call 13
  with_reducible refine (law12_awake _).mono ?_
  rintro e w13 ⟨rfl, b13⟩
  have t13 := Xt12.out.below b13
  refine hK.out _ _ ?_ (fun hHeld => ?_)
  · exact t13.g.cells
  clear hK K
  try simp only [Act.put, List.setIfInBounds_toArray, List.set_cons_zero, List.set_cons_succ]
  have hle := t13.le
  clear b13 Xt12 t13
  have Xhle := hide hle
  clear hle
  refine wpAnyH_take (i := 23) (oi := ?_) (v := ?_) ?_ (by kernel_rfl) (by kernel_rfl) (by kernel_rfl) ?_ (Or.inl ⟨?_, ?_⟩) (by assumption) ?_
  rotate_left 2
  · (try simp only [List.getElem?_toArray, List.getElem?_cons_succ, List.getElem?_cons_zero]); rfl
  · exact fun _ _ _ h => h
  · rfl
  · (intro wS hwS; (try dsimp only at hwS); go_simp; all_goals with_reducible rfl)
  try simp only [Act.put, List.setIfInBounds_toArray, List.set_cons_zero, List.set_cons_succ]
  refine wpAnyH_take (i := 24) (oi := ?_) (v := ?_) ?_ (by kernel_rfl) (by kernel_rfl) (by kernel_rfl) ?_ (Or.inl ⟨?_, ?_⟩) (by assumption) ?_
  rotate_left 2
  · (try simp only [List.getElem?_toArray, List.getElem?_cons_succ, List.getElem?_cons_zero]); rfl
  · exact fun _ _ _ h => h
  · rfl
  · (intro wS hwS; (try dsimp only at hwS); go_simp; all_goals with_reducible rfl)
  try simp only [Act.put, List.setIfInBounds_toArray, List.set_cons_zero, List.set_cons_succ]
  refine wpAnyH_done (by kernel_rfl) ?_ _
  go_wp2_with fail
  go_ret
  exact ⟨rfl, Xhle.out⟩
end Go.Proofs.YtlpokomfljmogaaGreat

/- Items, the reference's: Step, Kernel. -/
import Derived.Test.YtlpokomfljmogaaGreatItem5
namespace Go.Proofs.YtlpokomfljmogaaGreat
set_option linter.unusedVariables false
set_option linter.unusedSimpArgs false
open Go.RowKit
attribute [local irreducible] wpStill wpOne wpPh

/-- what a walk over a list carries: the grammar's box, the list, what is there of the answer -/
structure ItSt (w wr : World) (F : Nat → Prop) (A1 : Option Addr) (c1 : Nat) (A2 : Option Addr) (c2 : Nat) (A3 : Option Addr) (c3 T N R : Nat) (st : Int) (G : GramD) (v : Value) (l : List It) (u : Value) (o : List It) : Prop where
  g : GBox wr F w.heap.size A1 c1 A2 c2 A3 c3 T N R st G
  le : Below w.heap.size w wr
  rv : RdIt wr (fun b => b < w.heap.size) v l
  ro : RdIt wr (fun b => w.heap.size ≤ b ∧ b < wr.heap.size) u o
  rn : o = [] → u = .slice none 0 0
section
variable {w wr wr' : World} {F : Nat → Prop} {A1 : Option Addr} {c1 : Nat} {A2 : Option Addr} {c2 : Nat} {A3 : Option Addr} {c3 T N R : Nat} {st : Int} {G : GramD} {v : Value} {l : List It} {u : Value} {o : List It}
theorem ItSt.below (h : ItSt w wr F A1 c1 A2 c2 A3 c3 T N R st G v l u o) (hb : Below wr.heap.size wr wr') : ItSt w wr' F A1 c1 A2 c2 A3 c3 T N R st G v l u o :=
  ⟨h.g.below hb, h.le.trans (hb.mono h.le.size), h.rv.below hb (fun k hk => Nat.lt_of_lt_of_le hk h.le.size), (h.ro.below hb (fun k hk => hk.2)).mono (fun k hk => ⟨hk.1, Nat.lt_of_lt_of_le hk.2 hb.size⟩), h.rn⟩
theorem ItSt.put {x : It} {e : Ending} (h : ItSt w wr F A1 c1 A2 c2 A3 c3 T N R st G v l u o) (hp : PutPost wr (fun b => w.heap.size ≤ b ∧ b < wr.heap.size) (putI x o) e wr') : ∃ A n c, e = .returned (.slice A n c) ∧ ItSt w wr' F A1 c1 A2 c2 A3 c3 T N R st G v l (.slice A n c) (putI x o) := by
  obtain ⟨A, n, c, rfl, hr, hb⟩ := hp
  have h2 := h.below hb
  exact ⟨A, n, c, rfl, h2.g, h2.le, h2.rv, hr.mono (fun k hk => hk.elim (fun hk => ⟨hk.1, Nat.lt_of_lt_of_le hk.2 hb.size⟩) (fun hk => ⟨Nat.le_trans h.le.size hk.1, hk.2⟩)), fun e => absurd e put_ne⟩
theorem ItSt.post (h : ItSt w wr F A1 c1 A2 c2 A3 c3 T N R st G v l u o) : ItPost w o (.returned u) wr := by
  obtain ⟨A, n, c, e, -⟩ := id h.ro
  have := h.ro
  rw [e] at this ⊢
  exact ⟨A, n, c, rfl, this, h.le⟩
end
set_option maxRecDepth 100000 in
set_option maxHeartbeats 4000000 in
theorem ref12_Step {w : World} {F : Nat → Prop} {vt vn vr : Value} {G : GramD} (h : IsGram w F vt vn vr G) (st : Int) {v : Value} {l : List It} (hl : RdIt w (fun b => b < w.heap.size) v l) (hsh : ShortG G st) (hlen : l.length ≤ 1000000) (s : Int) :
    Calls Tryz.prog 26 #[GV vt vn vr st, v, .int .i64 s] w (ItPost w (canonI (stepsI G st l s))) := by
  obtain ⟨A1, c1, A2, c2, A3, c3, rfl, rfl, rfl, -⟩ := h.slices
  obtain ⟨A, n, c, rfl, -⟩ := id hl
  obtain ⟨hn, hnc, hcm, -⟩ := RdIt.at_ hl
  unfold maxLen at hcm
  obtain ⟨w1, hw1⟩ : ∃ w1, w1 = w.alloc (.cells #[.slice A1 G.terms.length c1, .slice A2 G.nons.length c2, .slice A3 G.rules.length c3, .int .i64 st] 25) := ⟨_, rfl⟩
  have g1 := GBox.new h st
  have b1 : Below w.heap.size w w1 := by rw [hw1]; exact (Below.refl _ w).alloc (Nat.le_refl _) _
  rw [← hw1] at g1
  have t1 : ItSt w w1 F A1 c1 A2 c2 A3 c3 G.terms.length G.nons.length G.rules.length st G (.slice A n c) l (.slice none 0 0) (canonI (stepsI G st (l.take 0) s)) := ⟨g1, b1, hl.below b1 (fun k hk => hk), Rd.nil _ _ _, fun _ => rfl⟩
  have cB := fun wr (g : GBox wr F w.heap.size A1 c1 A2 c2 A3 c3 G.terms.length G.nons.length G.rules.length st G) x => ref12_behind g.gram st x
  generalize G.terms.length = T at *
  generalize G.nons.length = N at *
  generalize G.rules.length = R at *
  have hn2 := hn
  rw [← hn] at hlen
  clear g1 b1 h hl hn
  have Xt1 := hide t1
  have XcB := hide cB
  have Xhsh := hide hsh
  have Xhn2 := hide hn2
  clear t1 cB hsh hn2
  go_enter Tryz.func26, Tryz.ntmps26
  go_wp2_with fail
  rw [← hw1]
  go_loopw [7, 8] (fun u i wr => ∃ k : Nat, k ≤ n ∧ i = .int .i64 k ∧ ItSt w wr F A1 c1 A2 c2 A3 c3 T N R st G (.slice A n c) l u (canonI (stepsI G st (l.take k) s))) (fun _ i _ => n - (intOf i).toNat)
  case atStart => exact ⟨0, Nat.zero_le _, rfl, Xt1.out⟩
  case round =>
    clear Xt1
    obtain ⟨k, hk, rfl, t⟩ := hrel
    obtain ⟨Au, nu, cu, rfl, -⟩ := id t.ro
    by_cases hlt : k < n
    · have hlt' : (k : Int) < (n : Int) := by omega
      obtain ⟨q0, q1, q2, q3⟩ := t.g.cells
      obtain ⟨-, -, -, hcell⟩ := RdIt.at_ t.rv
      obtain ⟨b, off, rfl, hbl, hcc⟩ := hcell (by omega)
      obtain ⟨⟨x0, x1⟩, hx⟩ : ∃ x, l[k]? = some x := ⟨_, List.getElem?_eq_getElem (by rw [← Xhn2.out]; exact hlt)⟩
      obtain ⟨p0, p1⟩ := hcc k _ hx
      simp only at p0 p1
      have td := t.below ((Below.refl _ wr).drew)
      have cb := XcB.out _ td.g (x0, x1)
      obtain ⟨⟨y, ok⟩, hy⟩ : ∃ r, r = behindI G st (x0, x1) := ⟨_, rfl⟩
      rw [← hy] at cb
      clear hcell hcc
      have Xt := hide t
      have Xtd := hide td
      have Xcb := hide cb
      have Xhx := hide hx
      have Xhy := hide hy
      have Xhbl := hide hbl
      clear t td cb hx hy hbl
      go_wp2_with fail
      refine wp_region_held_drew (S := (fun W => W.cell? ⟨w.heap.size, 0, none⟩ = some (.slice A1 T c1) ∧ W.cell? ⟨w.heap.size, 1, none⟩ = some (.slice A2 N c2) ∧ W.cell? ⟨w.heap.size, 2, none⟩ = some (.slice A3 R c3) ∧ W.cell? ⟨w.heap.size, 3, none⟩ = some (.int .i64 st) ∧ W.cell? ⟨b, off + k * 2, none⟩ = some (.int .i64 x0) ∧ W.cell? ⟨b, off + k * 2 + 1, none⟩ = some (.int .i64 x1))) (by kernel_rfl) ?_ (fun hHeld => ?_)
      · exact ⟨q0, q1, q2, q3, p0, p1⟩
      refine wpAnyH_take (i := 0) (oi := ?_) (v := ?_) ?_ (by kernel_rfl) (by kernel_rfl) (by kernel_rfl) ?_ (Or.inl ⟨?_, ?_⟩) (by assumption) ?_
      rotate_left 2
      · (try simp only [List.getElem?_toArray, List.getElem?_cons_succ, List.getElem?_cons_zero]); rfl
      · exact fun _ _ _ h => h
      · rfl
      · (intro wS hwS; (try dsimp only at hwS); go_simp; all_goals with_reducible rfl)
      try simp only [Act.put, List.setIfInBounds_toArray, List.set_cons_zero, List.set_cons_succ]
      refine wpAnyH_take (i := 1) (oi := ?_) (v := ?_) ?_ (by kernel_rfl) (by kernel_rfl) (by kernel_rfl) ?_ (Or.inl ⟨?_, ?_⟩) (by assumption) ?_
      rotate_left 2
      · (try simp only [List.getElem?_toArray, List.getElem?_cons_succ, List.getElem?_cons_zero]); rfl
      · exact fun _ _ _ h => h
      · rfl
      · (intro wS hwS; (try dsimp only at hwS); go_simp; all_goals with_reducible rfl)
      try simp only [Act.put, List.setIfInBounds_toArray, List.set_cons_zero, List.set_cons_succ]
      refine wpAnyH_take (i := 2) (oi := ?_) (v := ?_) ?_ (by kernel_rfl) (by kernel_rfl) (by kernel_rfl) ?_ (Or.inl ⟨?_, ?_⟩) (by assumption) ?_
      rotate_left 2
      · (try simp only [List.getElem?_toArray, List.getElem?_cons_succ, List.getElem?_cons_zero]); rfl
      · exact fun _ _ _ h => h
      · rfl
      · (intro wS hwS; (try dsimp only at hwS); go_simp; all_goals with_reducible rfl)
      try simp only [Act.put, List.setIfInBounds_toArray, List.set_cons_zero, List.set_cons_succ]
      refine wpAnyH_take (i := 3) (oi := ?_) (v := ?_) ?_ (by kernel_rfl) (by kernel_rfl) (by kernel_rfl) ?_ (Or.inl ⟨?_, ?_⟩) (by assumption) ?_
      rotate_left 2
      · (try simp only [List.getElem?_toArray, List.getElem?_cons_succ, List.getElem?_cons_zero]); rfl
      · exact fun _ _ _ h => h
      · rfl
      · (intro wS hwS; (try dsimp only at hwS); go_simp; all_goals with_reducible rfl)
      try simp only [Act.put, List.setIfInBounds_toArray, List.set_cons_zero, List.set_cons_succ]
      refine wpAnyH_take (i := 4) (oi := ?_) (v := ?_) ?_ (by kernel_rfl) (by kernel_rfl) (by kernel_rfl) ?_ (Or.inl ⟨?_, ?_⟩) (by assumption) ?_
      rotate_left 2
      · (try simp only [List.getElem?_toArray, List.getElem?_cons_succ, List.getElem?_cons_zero]); rfl
      · exact fun _ _ _ h => h
      · rfl
      · (intro wS hwS; (try dsimp only at hwS); go_simp; all_goals with_reducible rfl)
      try simp only [Act.put, List.setIfInBounds_toArray, List.set_cons_zero, List.set_cons_succ]
      refine wpAnyH_ready (rs := [5]) (by kernel_rfl) (by simp) ?_
      refine AllReadyH.cons (o := ?_) ?_ (fun K hK => ?_) AllReadyH.nil
      rotate_left 1
      · (try simp only [List.getElem?_toArray, List.getElem?_cons_succ, List.getElem?_cons_zero]); rfl
      go_simp
      go_at_call 21
      with_reducible refine Xcb.out.mono ?_
      rintro e w5 ⟨rfl, b5⟩
      have t5 := Xtd.out.below b5
      have hbk : b < wr.drew.heap.size := Nat.lt_of_lt_of_le Xhbl.out Xt.out.le.size
      refine hK.out _ _ ?_ (fun hHeld => ?_)
      · exact ⟨t5.g.cells.1, t5.g.cells.2.1, t5.g.cells.2.2.1, t5.g.cells.2.2.2, (b5.cell (p := ⟨b, off + k * 2, none⟩) hbk).trans p0, (b5.cell (p := ⟨b, off + k * 2 + 1, none⟩) hbk).trans p1⟩
      clear hK K
      try simp only [Act.put, List.setIfInBounds_toArray, List.set_cons_zero, List.set_cons_succ]
      clear q0 q1 q2 q3 p0 p1 b5 Xt Xtd Xcb hbk
      refine wpAnyH_take (i := 6) (oi := ?_) (v := ?_) ?_ (by kernel_rfl) (by kernel_rfl) (by kernel_rfl) ?_ (Or.inl ⟨?_, ?_⟩) (by assumption) ?_
      rotate_left 2
      · (try simp only [List.getElem?_toArray, List.getElem?_cons_succ, List.getElem?_cons_zero]); rfl
      · exact fun _ _ _ h => h
      · rfl
      · (intro wS hwS; (try dsimp only at hwS); go_simp; all_goals with_reducible rfl)
      try simp only [Act.put, List.setIfInBounds_toArray, List.set_cons_zero, List.set_cons_succ]
      refine wpAnyH_take (i := 7) (oi := ?_) (v := ?_) ?_ (by kernel_rfl) (by kernel_rfl) (by kernel_rfl) ?_ (Or.inl ⟨?_, ?_⟩) (by assumption) ?_
      rotate_left 2
      · (try simp only [List.getElem?_toArray, List.getElem?_cons_succ, List.getElem?_cons_zero]); rfl
      · exact fun _ _ _ h => h
      · rfl
      · (intro wS hwS; (try dsimp only at hwS); go_simp; all_goals with_reducible rfl)
      try simp only [Act.put, List.setIfInBounds_toArray, List.set_cons_zero, List.set_cons_succ]
      refine wpAnyH_take (i := 8) (oi := ?_) (v := ?_) ?_ (by kernel_rfl) (by kernel_rfl) (by kernel_rfl) ?_ (Or.inl ⟨?_, ?_⟩) (by assumption) ?_
      rotate_left 2
      · (try simp only [List.getElem?_toArray, List.getElem?_cons_succ, List.getElem?_cons_zero]); rfl
      · exact fun _ _ _ h => h
      · rfl
      · (intro wS hwS; (try dsimp only at hwS); go_simp; all_goals with_reducible rfl)
      try simp only [Act.put, List.setIfInBounds_toArray, List.set_cons_zero, List.set_cons_succ]
      refine wpAnyH_take (i := 9) (oi := ?_) (v := ?_) ?_ (by kernel_rfl) (by kernel_rfl) (by kernel_rfl) ?_ (Or.inl ⟨?_, ?_⟩) (by assumption) ?_
      rotate_left 2
      · (try simp only [List.getElem?_toArray, List.getElem?_cons_succ, List.getElem?_cons_zero]); rfl
      · exact fun _ _ _ h => h
      · rfl
      · (intro wS hwS; (try dsimp only at hwS); go_simp; all_goals with_reducible rfl)
      try simp only [Act.put, List.setIfInBounds_toArray, List.set_cons_zero, List.set_cons_succ]
      refine wpAnyH_take (i := 10) (oi := ?_) (v := ?_) ?_ (by kernel_rfl) (by kernel_rfl) (by kernel_rfl) ?_ (Or.inl ⟨?_, ?_⟩) (by assumption) ?_
      rotate_left 2
      · (try simp only [List.getElem?_toArray, List.getElem?_cons_succ, List.getElem?_cons_zero]); rfl
      · exact fun _ _ _ h => h
      · rfl
      · (intro wS hwS; (try dsimp only at hwS); go_simp; all_goals with_reducible rfl)
      try simp only [Act.put, List.setIfInBounds_toArray, List.set_cons_zero, List.set_cons_succ]
      refine wpAnyH_done (by kernel_rfl) ?_ _
      obtain ⟨-, -, -, hcell⟩ := RdIt.at_ t5.rv
      obtain ⟨b2, off2, e2, -, hcc⟩ := hcell (by omega)
      injection e2 with e2
      injection e2 with e3 e4 _
      subst e3 e4
      obtain ⟨p0, p1⟩ := hcc k _ Xhx.out
      simp only at p0 p1
      clear hcell hcc
      cases ok with
      | false =>
        have hno := steps_no (G := G) (st := st) (s := s) Xhx.out (by rw [← Xhy.out]; simp)
        have Xt5 := hide t5
        have Xhno := hide hno
        clear t5 hno
        go_wp2_with fail
        go_roundw
        case rel => exact ⟨k + 1, by omega, by go_num, by rw [Xhno.out]; exact Xt5.out⟩
        case measure => simp [intOf]; omega
      | true =>
        by_cases hys : y = s
        · subst hys
          have hr := behind_right Xhy.out.symm
          have hyes := steps_yes (G := G) (st := st) Xhx.out Xhy.out.symm
          have hsl := Xhsh.out x0
          obtain ⟨hr1, hr2, -⟩ := hr
          unfold rightI at hr1
          simp only [Bool.and_eq_true, decide_eq_true_eq] at hr1 hr2
          have hw63 : IntKind.i64.wrap (x1 + 1) = x1 + 1 := by rw [IntKind.wrap_i64]; omega
          have td := t5.below ((Below.refl _ w5).drew)
          have cp := ref12_Put td.ro (fun q hq => hq.2) (x0, x1 + 1) (by have := canon_len (stepsI G st (l.take k) y); have := steps_len G st (l.take k) y; rw [List.length_take] at this; omega) td.rn
          simp only at hyes
          clear hr1 hr2 hsl
          have Xt5 := hide t5
          have Xhyes := hide hyes
          have Xtd := hide td
          have Xcp := hide cp
          clear t5 hyes td cp
          go_wp2_with fail
          refine region_tail 13 (by kernel_rfl) (by kernel_rfl) ?_
          simp only [List.take_succ_cons, List.take_zero, List.drop_succ_cons, List.drop_zero]
          repeat still_step
          refine wpStill_nil ?_
          go_wp2_with fail
          refine Xcp.out.mono ?_
          rintro e w6 hp
          obtain ⟨A6, n6, c6, rfl, t6⟩ := Xtd.out.put hp
          clear hp p0 p1 Xt5 Xtd Xcp hw63
          have Xt6 := hide t6
          clear t6
          go_wp2_with fail
          go_roundw
          case rel => exact ⟨k + 1, by omega, by go_num, by rw [Xhyes.out, canon_snoc]; exact Xt6.out⟩
          case measure => simp [intOf]; omega
        · have hys' : (y == s) = false := by simpa using hys
          have hno := steps_no (G := G) (st := st) (s := s) Xhx.out (by rw [← Xhy.out]; simpa using hys)
          have Xt5 := hide t5
          have Xhno := hide hno
          have Xhys := hide hys
          clear t5 hno hys
          go_wp2_with fail
          go_roundw
          case rel => exact ⟨k + 1, by omega, by go_num, by rw [Xhno.out]; exact Xt5.out⟩
          case measure => simp [intOf]; omega
    · have hlt' : ¬ (k : Int) < (n : Int) := by omega
      have hk' : l.take k = l := List.take_of_length_le (by have := Xhn2.out; omega)
      rw [hk'] at t
      have Xt := hide t
      have Xhk' := hide hk'
      clear t hk'
      go_wp2_with fail
      go_ret
      exact Xt.out.post
set_option maxRecDepth 100000 in
set_option maxHeartbeats 4000000 in
theorem ref12_Kernel {w : World} {F : Nat → Prop} {vt vn vr : Value} {G : GramD} (h : IsGram w F vt vn vr G) (st : Int) {v : Value} {l : List It} (hl : RdIt w (fun b => b < w.heap.size) v l) (hlen : l.length ≤ 1000000) :
    Calls Tryz.prog 27 #[GV vt vn vr st, v] w (ItPost w (canonI (kernsI G st l))) := by
  obtain ⟨A1, c1, A2, c2, A3, c3, rfl, rfl, rfl, -⟩ := h.slices
  obtain ⟨A, n, c, rfl, -⟩ := id hl
  obtain ⟨hn, hnc, hcm, -⟩ := RdIt.at_ hl
  unfold maxLen at hcm
  obtain ⟨w1, hw1⟩ : ∃ w1, w1 = w.alloc (.cells #[.slice A1 G.terms.length c1, .slice A2 G.nons.length c2, .slice A3 G.rules.length c3, .int .i64 st] 25) := ⟨_, rfl⟩
  have g1 := GBox.new h st
  have b1 : Below w.heap.size w w1 := by rw [hw1]; exact (Below.refl _ w).alloc (Nat.le_refl _) _
  rw [← hw1] at g1
  have t1 : ItSt w w1 F A1 c1 A2 c2 A3 c3 G.terms.length G.nons.length G.rules.length st G (.slice A n c) l (.slice none 0 0) (canonI (kernsI G st (l.take 0))) := ⟨g1, b1, hl.below b1 (fun k hk => hk), Rd.nil _ _ _, fun _ => rfl⟩
  have cB := fun wr (g : GBox wr F w.heap.size A1 c1 A2 c2 A3 c3 G.terms.length G.nons.length G.rules.length st G) x => ref12_right g.gram st x
  have hkd : ∀ x0 x1 : Int, kernI G st (x0, x1) = (rightI G st (x0, x1) && (decide (0 < x1) || decide (x0 = (G.rules.length : Int)))) := fun _ _ => rfl
  generalize G.terms.length = T at *
  generalize G.nons.length = N at *
  generalize G.rules.length = R at *
  have hn2 := hn
  rw [← hn] at hlen
  clear g1 b1 h hl hn
  have Xt1 := hide t1
  have XcB := hide cB
  have Xhn2 := hide hn2
  have Xhkd := hide hkd
  clear t1 cB hn2 hkd
  go_enter Tryz.func27, Tryz.ntmps27
  go_wp2_with fail
  rw [← hw1]
  go_loopw [5, 6] (fun u i wr => ∃ k : Nat, k ≤ n ∧ i = .int .i64 k ∧ ItSt w wr F A1 c1 A2 c2 A3 c3 T N R st G (.slice A n c) l u (canonI (kernsI G st (l.take k)))) (fun _ i _ => n - (intOf i).toNat)
  case atStart => exact ⟨0, Nat.zero_le _, rfl, Xt1.out⟩
  case round =>
    clear Xt1
    obtain ⟨k, hk, rfl, t⟩ := hrel
    obtain ⟨Au, nu, cu, rfl, -⟩ := id t.ro
    by_cases hlt : k < n
    · have hlt' : (k : Int) < (n : Int) := by omega
      obtain ⟨q0, q1, q2, q3⟩ := t.g.cells
      obtain ⟨-, -, -, hcell⟩ := RdIt.at_ t.rv
      obtain ⟨b, off, rfl, hbl, hcc⟩ := hcell (by omega)
      obtain ⟨⟨x0, x1⟩, hx⟩ : ∃ x, l[k]? = some x := ⟨_, List.getElem?_eq_getElem (by rw [← Xhn2.out]; exact hlt)⟩
      obtain ⟨p0, p1⟩ := hcc k _ hx
      simp only at p0 p1
      have td := t.below ((Below.refl _ wr).drew)
      have cb := XcB.out _ td.g (x0, x1)
      have hkx := Xhkd.out x0 x1
      obtain ⟨rt, hy⟩ : ∃ r, r = rightI G st (x0, x1) := ⟨_, rfl⟩
      rw [← hy] at cb hkx
      clear hcell hcc
      have Xt := hide t
      have Xtd := hide td
      have Xcb := hide cb
      have Xhx := hide hx
      have Xhy := hide hy
      have Xhbl := hide hbl
      have Xhkx := hide hkx
      clear t td cb hx hy hbl hkx
      go_wp2_with fail
      refine wp_region_held_drew (S := (fun W => W.cell? ⟨w.heap.size, 0, none⟩ = some (.slice A1 T c1) ∧ W.cell? ⟨w.heap.size, 1, none⟩ = some (.slice A2 N c2) ∧ W.cell? ⟨w.heap.size, 2, none⟩ = some (.slice A3 R c3) ∧ W.cell? ⟨w.heap.size, 3, none⟩ = some (.int .i64 st) ∧ W.cell? ⟨b, off + k * 2, none⟩ = some (.int .i64 x0) ∧ W.cell? ⟨b, off + k * 2 + 1, none⟩ = some (.int .i64 x1))) (by kernel_rfl) ?_ (fun hHeld => ?_)
      · exact ⟨q0, q1, q2, q3, p0, p1⟩
      refine wpAnyH_take (i := 0) (oi := ?_) (v := ?_) ?_ (by kernel_rfl) (by kernel_rfl) (by kernel_rfl) ?_ (Or.inl ⟨?_, ?_⟩) (by assumption) ?_
      rotate_left 2
      · (try simp only [List.getElem?_toArray, List.getElem?_cons_succ, List.getElem?_cons_zero]); rfl
      · exact fun _ _ _ h => h
      · rfl
      · (intro wS hwS; (try dsimp only at hwS); go_simp; all_goals with_reducible rfl)
      try simp only [Act.put, List.setIfInBounds_toArray, List.set_cons_zero, List.set_cons_succ]
      refine wpAnyH_take (i := 1) (oi := ?_) (v := ?_) ?_ (by kernel_rfl) (by kernel_rfl) (by kernel_rfl) ?_ (Or.inl ⟨?_, ?_⟩) (by assumption) ?_
      rotate_left 2
      · (try simp only [List.getElem?_toArray, List.getElem?_cons_succ, List.getElem?_cons_zero]); rfl
      · exact fun _ _ _ h => h
      · rfl
      · (intro wS hwS; (try dsimp only at hwS); go_simp; all_goals with_reducible rfl)
      try simp only [Act.put, List.setIfInBounds_toArray, List.set_cons_zero, List.set_cons_succ]
      refine wpAnyH_take (i := 2) (oi := ?_) (v := ?_) ?_ (by kernel_rfl) (by kernel_rfl) (by kernel_rfl) ?_ (Or.inl ⟨?_, ?_⟩) (by assumption) ?_
      rotate_left 2
      · (try simp only [List.getElem?_toArray, List.getElem?_cons_succ, List.getElem?_cons_zero]); rfl
      · exact fun _ _ _ h => h
      · rfl
      · (intro wS hwS; (try dsimp only at hwS); go_simp; all_goals with_reducible rfl)
      try simp only [Act.put, List.setIfInBounds_toArray, List.set_cons_zero, List.set_cons_succ]
      refine wpAnyH_take (i := 3) (oi := ?_) (v := ?_) ?_ (by kernel_rfl) (by kernel_rfl) (by kernel_rfl) ?_ (Or.inl ⟨?_, ?_⟩) (by assumption) ?_
      rotate_left 2
      · (try simp only [List.getElem?_toArray, List.getElem?_cons_succ, List.getElem?_cons_zero]); rfl
      · exact fun _ _ _ h => h
      · rfl
      · (intro wS hwS; (try dsimp only at hwS); go_simp; all_goals with_reducible rfl)
      try simp only [Act.put, List.setIfInBounds_toArray, List.set_cons_zero, List.set_cons_succ]
      refine wpAnyH_take (i := 4) (oi := ?_) (v := ?_) ?_ (by kernel_rfl) (by kernel_rfl) (by kernel_rfl) ?_ (Or.inl ⟨?_, ?_⟩) (by assumption) ?_
      rotate_left 2
      · (try simp only [List.getElem?_toArray, List.getElem?_cons_succ, List.getElem?_cons_zero]); rfl
      · exact fun _ _ _ h => h
      · rfl
      · (intro wS hwS; (try dsimp only at hwS); go_simp; all_goals with_reducible rfl)
      try simp only [Act.put, List.setIfInBounds_toArray, List.set_cons_zero, List.set_cons_succ]
      refine wpAnyH_ready (rs := [5]) (by kernel_rfl) (by simp) ?_
      refine AllReadyH.cons (o := ?_) ?_ (fun K hK => ?_) AllReadyH.nil
      rotate_left 1
      · (try simp only [List.getElem?_toArray, List.getElem?_cons_succ, List.getElem?_cons_zero]); rfl
      go_simp
      go_at_call 22
      with_reducible refine Xcb.out.mono ?_
      rintro e w5 ⟨rfl, b5⟩
      have t5 := Xtd.out.below b5
      have hbk : b < wr.drew.heap.size := Nat.lt_of_lt_of_le Xhbl.out Xt.out.le.size
      have p0 := (b5.cell (p := ⟨b, off + k * 2, none⟩) hbk).trans p0
      have p1 := (b5.cell (p := ⟨b, off + k * 2 + 1, none⟩) hbk).trans p1
      refine hK.out _ _ ?_ (fun hHeld => ?_)
      · exact ⟨t5.g.cells.1, t5.g.cells.2.1, t5.g.cells.2.2.1, t5.g.cells.2.2.2, p0, p1⟩
      clear hK K
      try simp only [Act.put, List.setIfInBounds_toArray, List.set_cons_zero, List.set_cons_succ]
      clear q0 q1 q2 q3 b5 Xt Xtd Xcb hbk
      have cp := ref12_Put t5.ro (fun q hq => hq.2) (x0, x1) (by have := canon_len (kernsI G st (l.take k)); have := kerns_len G st (l.take k); rw [List.length_take] at this; omega) t5.rn
      cases rt with
      | false =>
        have hno := kerns_no (G := G) (st := st) Xhx.out (by rw [Xhkx.out]; rfl)
        clear cp
        have Xt5 := hide t5
        have Xhno := hide hno
        clear t5 hno
        refine wpAnyH_take (i := 6) (oi := ?_) (v := ?_) ?_ (by kernel_rfl) (by kernel_rfl) (by kernel_rfl) ?_ (Or.inl ⟨?_, ?_⟩) (by assumption) ?_
        rotate_left 2
        · (try simp only [List.getElem?_toArray, List.getElem?_cons_succ, List.getElem?_cons_zero]); rfl
        · exact fun _ _ _ h => h
        · rfl
        · (intro wS hwS; (try dsimp only at hwS); go_simp; all_goals with_reducible rfl)
        try simp only [Act.put, List.setIfInBounds_toArray, List.set_cons_zero, List.set_cons_succ]
        refine wpAnyH_take (i := 7) (oi := ?_) (v := undef) ?_ (by kernel_rfl) (by kernel_rfl) (by kernel_rfl) ?_ (Or.inr ⟨?_, rfl⟩) (by assumption) ?_
        rotate_left 1
        · (try simp only [List.getElem?_toArray, List.getElem?_cons_succ, List.getElem?_cons_zero]); rfl
        · exact fun _ _ _ h => h
        · rfl
        try simp only [Act.put, List.setIfInBounds_toArray, List.set_cons_zero, List.set_cons_succ]
        refine wpAnyH_take (i := 8) (oi := ?_) (v := undef) ?_ (by kernel_rfl) (by kernel_rfl) (by kernel_rfl) ?_ (Or.inr ⟨?_, rfl⟩) (by assumption) ?_
        rotate_left 1
        · (try simp only [List.getElem?_toArray, List.getElem?_cons_succ, List.getElem?_cons_zero]); rfl
        · exact fun _ _ _ h => h
        · rfl
        try simp only [Act.put, List.setIfInBounds_toArray, List.set_cons_zero, List.set_cons_succ]
        refine wpAnyH_take (i := 9) (oi := ?_) (v := undef) ?_ (by kernel_rfl) (by kernel_rfl) (by kernel_rfl) ?_ (Or.inr ⟨?_, rfl⟩) (by assumption) ?_
        rotate_left 1
        · (try simp only [List.getElem?_toArray, List.getElem?_cons_succ, List.getElem?_cons_zero]); rfl
        · exact fun _ _ _ h => h
        · rfl
        try simp only [Act.put, List.setIfInBounds_toArray, List.set_cons_zero, List.set_cons_succ]
        refine wpAnyH_take (i := 10) (oi := ?_) (v := undef) ?_ (by kernel_rfl) (by kernel_rfl) (by kernel_rfl) ?_ (Or.inr ⟨?_, rfl⟩) (by assumption) ?_
        rotate_left 1
        · (try simp only [List.getElem?_toArray, List.getElem?_cons_succ, List.getElem?_cons_zero]); rfl
        · exact fun _ _ _ h => h
        · rfl
        try simp only [Act.put, List.setIfInBounds_toArray, List.set_cons_zero, List.set_cons_succ]
        refine wpAnyH_take (i := 11) (oi := ?_) (v := undef) ?_ (by kernel_rfl) (by kernel_rfl) (by kernel_rfl) ?_ (Or.inr ⟨?_, rfl⟩) (by assumption) ?_
        rotate_left 1
        · (try simp only [List.getElem?_toArray, List.getElem?_cons_succ, List.getElem?_cons_zero]); rfl
        · exact fun _ _ _ h => h
        · rfl
        try simp only [Act.put, List.setIfInBounds_toArray, List.set_cons_zero, List.set_cons_succ]
        refine wpAnyH_take (i := 12) (oi := ?_) (v := undef) ?_ (by kernel_rfl) (by kernel_rfl) (by kernel_rfl) ?_ (Or.inr ⟨?_, rfl⟩) (by assumption) ?_
        rotate_left 1
        · (try simp only [List.getElem?_toArray, List.getElem?_cons_succ, List.getElem?_cons_zero]); rfl
        · exact fun _ _ _ h => h
        · rfl
        try simp only [Act.put, List.setIfInBounds_toArray, List.set_cons_zero, List.set_cons_succ]
        refine wpAnyH_take (i := 13) (oi := ?_) (v := undef) ?_ (by kernel_rfl) (by kernel_rfl) (by kernel_rfl) ?_ (Or.inr ⟨?_, rfl⟩) (by assumption) ?_
        rotate_left 1
        · (try simp only [List.getElem?_toArray, List.getElem?_cons_succ, List.getElem?_cons_zero]); rfl
        · exact fun _ _ _ h => h
        · rfl
        try simp only [Act.put, List.setIfInBounds_toArray, List.set_cons_zero, List.set_cons_succ]
        refine wpAnyH_take (i := 14) (oi := ?_) (v := undef) ?_ (by kernel_rfl) (by kernel_rfl) (by kernel_rfl) ?_ (Or.inr ⟨?_, rfl⟩) (by assumption) ?_
        rotate_left 1
        · (try simp only [List.getElem?_toArray, List.getElem?_cons_succ, List.getElem?_cons_zero]); rfl
        · exact fun _ _ _ h => h
        · rfl
        try simp only [Act.put, List.setIfInBounds_toArray, List.set_cons_zero, List.set_cons_succ]
        refine wpAnyH_take (i := 15) (oi := ?_) (v := undef) ?_ (by kernel_rfl) (by kernel_rfl) (by kernel_rfl) ?_ (Or.inr ⟨?_, rfl⟩) (by assumption) ?_
        rotate_left 1
        · (try simp only [List.getElem?_toArray, List.getElem?_cons_succ, List.getElem?_cons_zero]); rfl
        · exact fun _ _ _ h => h
        · rfl
        try simp only [Act.put, List.setIfInBounds_toArray, List.set_cons_zero, List.set_cons_succ]
        refine wpAnyH_take (i := 16) (oi := ?_) (v := undef) ?_ (by kernel_rfl) (by kernel_rfl) (by kernel_rfl) ?_ (Or.inr ⟨?_, rfl⟩) (by assumption) ?_
        rotate_left 1
        · (try simp only [List.getElem?_toArray, List.getElem?_cons_succ, List.getElem?_cons_zero]); rfl
        · exact fun _ _ _ h => h
        · rfl
        try simp only [Act.put, List.setIfInBounds_toArray, List.set_cons_zero, List.set_cons_succ]
        refine wpAnyH_take (i := 17) (oi := ?_) (v := undef) ?_ (by kernel_rfl) (by kernel_rfl) (by kernel_rfl) ?_ (Or.inr ⟨?_, rfl⟩) (by assumption) ?_
        rotate_left 1
        · (try simp only [List.getElem?_toArray, List.getElem?_cons_succ, List.getElem?_cons_zero]); rfl
        · exact fun _ _ _ h => h
        · rfl
        try simp only [Act.put, List.setIfInBounds_toArray, List.set_cons_zero, List.set_cons_succ]
        refine wpAnyH_take (i := 18) (oi := ?_) (v := undef) ?_ (by kernel_rfl) (by kernel_rfl) (by kernel_rfl) ?_ (Or.inr ⟨?_, rfl⟩) (by assumption) ?_
        rotate_left 1
        · (try simp only [List.getElem?_toArray, List.getElem?_cons_succ, List.getElem?_cons_zero]); rfl
        · exact fun _ _ _ h => h
        · rfl
        try simp only [Act.put, List.setIfInBounds_toArray, List.set_cons_zero, List.set_cons_succ]
        refine wpAnyH_take (i := 19) (oi := ?_) (v := undef) ?_ (by kernel_rfl) (by kernel_rfl) (by kernel_rfl) ?_ (Or.inr ⟨?_, rfl⟩) (by assumption) ?_
        rotate_left 1
        · (try simp only [List.getElem?_toArray, List.getElem?_cons_succ, List.getElem?_cons_zero]); rfl
        · exact fun _ _ _ h => h
        · rfl
        try simp only [Act.put, List.setIfInBounds_toArray, List.set_cons_zero, List.set_cons_succ]
        refine wpAnyH_take (i := 20) (oi := ?_) (v := undef) ?_ (by kernel_rfl) (by kernel_rfl) (by kernel_rfl) ?_ (Or.inr ⟨?_, rfl⟩) (by assumption) ?_
        rotate_left 1
        · (try simp only [List.getElem?_toArray, List.getElem?_cons_succ, List.getElem?_cons_zero]); rfl
        · exact fun _ _ _ h => h
        · rfl
        try simp only [Act.put, List.setIfInBounds_toArray, List.set_cons_zero, List.set_cons_succ]
        refine wpAnyH_take (i := 21) (oi := ?_) (v := undef) ?_ (by kernel_rfl) (by kernel_rfl) (by kernel_rfl) ?_ (Or.inr ⟨?_, rfl⟩) (by assumption) ?_
        rotate_left 1
        · (try simp only [List.getElem?_toArray, List.getElem?_cons_succ, List.getElem?_cons_zero]); rfl
        · exact fun _ _ _ h => h
        · rfl
        try simp only [Act.put, List.setIfInBounds_toArray, List.set_cons_zero, List.set_cons_succ]
        refine wpAnyH_take (i := 22) (oi := ?_) (v := undef) ?_ (by kernel_rfl) (by kernel_rfl) (by kernel_rfl) ?_ (Or.inr ⟨?_, rfl⟩) (by assumption) ?_
        rotate_left 1
        · (try simp only [List.getElem?_toArray, List.getElem?_cons_succ, List.getElem?_cons_zero]); rfl
        · exact fun _ _ _ h => h
        · rfl
        try simp only [Act.put, List.setIfInBounds_toArray, List.set_cons_zero, List.set_cons_succ]
        refine wpAnyH_take (i := 23) (oi := ?_) (v := undef) ?_ (by kernel_rfl) (by kernel_rfl) (by kernel_rfl) ?_ (Or.inr ⟨?_, rfl⟩) (by assumption) ?_
        rotate_left 1
        · (try simp only [List.getElem?_toArray, List.getElem?_cons_succ, List.getElem?_cons_zero]); rfl
        · exact fun _ _ _ h => h
        · rfl
        try simp only [Act.put, List.setIfInBounds_toArray, List.set_cons_zero, List.set_cons_succ]
        refine wpAnyH_take (i := 24) (oi := ?_) (v := ?_) ?_ (by kernel_rfl) (by kernel_rfl) (by kernel_rfl) ?_ (Or.inl ⟨?_, ?_⟩) (by assumption) ?_
        rotate_left 2
        · (try simp only [List.getElem?_toArray, List.getElem?_cons_succ, List.getElem?_cons_zero]); rfl
        · exact fun _ _ _ h => h
        · rfl
        · (intro wS hwS; (try dsimp only at hwS); go_simp; all_goals with_reducible rfl)
        try simp only [Act.put, List.setIfInBounds_toArray, List.set_cons_zero, List.set_cons_succ]
        refine wpAnyH_done (by kernel_rfl) ?_ _
        go_wp2_with fail
        go_roundw
        case rel => exact ⟨k + 1, by omega, by go_num, by rw [Xhno.out]; exact Xt5.out⟩
        case measure => simp [intOf]; omega
      | true =>
        by_cases hp0 : 0 < x1
        · have hyes := kerns_yes (G := G) (st := st) Xhx.out (by rw [Xhkx.out, decide_eq_true hp0]; rfl)
          have Xt5 := hide t5
          have Xhyes := hide hyes
          have Xcp := hide cp
          clear t5 hyes cp
          refine wpAnyH_take (i := 6) (oi := ?_) (v := ?_) ?_ (by kernel_rfl) (by kernel_rfl) (by kernel_rfl) ?_ (Or.inl ⟨?_, ?_⟩) (by assumption) ?_
          rotate_left 2
          · (try simp only [List.getElem?_toArray, List.getElem?_cons_succ, List.getElem?_cons_zero]); rfl
          · exact fun _ _ _ h => h
          · rfl
          · (intro wS hwS; (try dsimp only at hwS); go_simp; all_goals with_reducible rfl)
          try simp only [Act.put, List.setIfInBounds_toArray, List.set_cons_zero, List.set_cons_succ]
          refine wpAnyH_take (i := 7) (oi := ?_) (v := ?_) ?_ (by kernel_rfl) (by kernel_rfl) (by kernel_rfl) ?_ (Or.inl ⟨?_, ?_⟩) (by assumption) ?_
          rotate_left 2
          · (try simp only [List.getElem?_toArray, List.getElem?_cons_succ, List.getElem?_cons_zero]); rfl
          · exact fun _ _ _ h => h
          · rfl
          · (intro wS hwS; (try dsimp only at hwS); go_simp; all_goals with_reducible rfl)
          try simp only [Act.put, List.setIfInBounds_toArray, List.set_cons_zero, List.set_cons_succ]
          refine wpAnyH_take (i := 8) (oi := ?_) (v := ?_) ?_ (by kernel_rfl) (by kernel_rfl) (by kernel_rfl) ?_ (Or.inl ⟨?_, ?_⟩) (by assumption) ?_
          rotate_left 2
          · (try simp only [List.getElem?_toArray, List.getElem?_cons_succ, List.getElem?_cons_zero]); rfl
          · exact fun _ _ _ h => h
          · rfl
          · (intro wS hwS; (try dsimp only at hwS); go_simp; all_goals with_reducible rfl)
          try simp only [Act.put, List.setIfInBounds_toArray, List.set_cons_zero, List.set_cons_succ]
          refine wpAnyH_take (i := 9) (oi := ?_) (v := ?_) ?_ (by kernel_rfl) (by kernel_rfl) (by kernel_rfl) ?_ (Or.inl ⟨?_, ?_⟩) (by assumption) ?_
          rotate_left 2
          · (try simp only [List.getElem?_toArray, List.getElem?_cons_succ, List.getElem?_cons_zero]); rfl
          · exact fun _ _ _ h => h
          · rfl
          · (intro wS hwS; (try dsimp only at hwS); go_simp; all_goals with_reducible rfl)
          try simp only [Act.put, List.setIfInBounds_toArray, List.set_cons_zero, List.set_cons_succ]
          refine wpAnyH_take (i := 10) (oi := ?_) (v := ?_) ?_ (by kernel_rfl) (by kernel_rfl) (by kernel_rfl) ?_ (Or.inl ⟨?_, ?_⟩) (by assumption) ?_
          rotate_left 2
          · (try simp only [List.getElem?_toArray, List.getElem?_cons_succ, List.getElem?_cons_zero]); rfl
          · exact fun _ _ _ h => h
          · rfl
          · (intro wS hwS; (try dsimp only at hwS); go_simp; all_goals with_reducible rfl)
          try simp only [Act.put, List.setIfInBounds_toArray, List.set_cons_zero, List.set_cons_succ]
          refine wpAnyH_take (i := 11) (oi := ?_) (v := ?_) ?_ (by kernel_rfl) (by kernel_rfl) (by kernel_rfl) ?_ (Or.inl ⟨?_, ?_⟩) (by assumption) ?_
          rotate_left 2
          · (try simp only [List.getElem?_toArray, List.getElem?_cons_succ, List.getElem?_cons_zero]); rfl
          · exact fun _ _ _ h => h
          · rfl
          · (intro wS hwS; (try dsimp only at hwS); go_simp; all_goals with_reducible rfl)
          try simp only [Act.put, List.setIfInBounds_toArray, List.set_cons_zero, List.set_cons_succ]
          refine wpAnyH_take (i := 12) (oi := ?_) (v := ?_) ?_ (by kernel_rfl) (by kernel_rfl) (by kernel_rfl) ?_ (Or.inl ⟨?_, ?_⟩) (by assumption) ?_
          rotate_left 2
          · (try simp only [List.getElem?_toArray, List.getElem?_cons_succ, List.getElem?_cons_zero]); rfl
          · exact fun _ _ _ h => h
          · rfl
          · (intro wS hwS; (try dsimp only at hwS); go_simp; all_goals with_reducible rfl)
          try simp only [Act.put, List.setIfInBounds_toArray, List.set_cons_zero, List.set_cons_succ]
          refine wpAnyH_take (i := 13) (oi := ?_) (v := ?_) ?_ (by kernel_rfl) (by kernel_rfl) (by kernel_rfl) ?_ (Or.inl ⟨?_, ?_⟩) (by assumption) ?_
          rotate_left 2
          · (try simp only [List.getElem?_toArray, List.getElem?_cons_succ, List.getElem?_cons_zero]); rfl
          · exact fun _ _ _ h => h
          · rfl
          · (intro wS hwS; (try dsimp only at hwS); go_simp; all_goals with_reducible rfl)
          try simp only [Act.put, List.setIfInBounds_toArray, List.set_cons_zero, List.set_cons_succ]
          refine wpAnyH_take (i := 14) (oi := ?_) (v := undef) ?_ (by kernel_rfl) (by kernel_rfl) (by kernel_rfl) ?_ (Or.inr ⟨?_, rfl⟩) (by assumption) ?_
          rotate_left 1
          · (try simp only [List.getElem?_toArray, List.getElem?_cons_succ, List.getElem?_cons_zero]); rfl
          · exact fun _ _ _ h => h
          · rfl
          try simp only [Act.put, List.setIfInBounds_toArray, List.set_cons_zero, List.set_cons_succ]
          refine wpAnyH_take (i := 15) (oi := ?_) (v := undef) ?_ (by kernel_rfl) (by kernel_rfl) (by kernel_rfl) ?_ (Or.inr ⟨?_, rfl⟩) (by assumption) ?_
          rotate_left 1
          · (try simp only [List.getElem?_toArray, List.getElem?_cons_succ, List.getElem?_cons_zero]); rfl
          · exact fun _ _ _ h => h
          · rfl
          try simp only [Act.put, List.setIfInBounds_toArray, List.set_cons_zero, List.set_cons_succ]
          refine wpAnyH_take (i := 16) (oi := ?_) (v := undef) ?_ (by kernel_rfl) (by kernel_rfl) (by kernel_rfl) ?_ (Or.inr ⟨?_, rfl⟩) (by assumption) ?_
          rotate_left 1
          · (try simp only [List.getElem?_toArray, List.getElem?_cons_succ, List.getElem?_cons_zero]); rfl
          · exact fun _ _ _ h => h
          · rfl
          try simp only [Act.put, List.setIfInBounds_toArray, List.set_cons_zero, List.set_cons_succ]
          refine wpAnyH_take (i := 17) (oi := ?_) (v := undef) ?_ (by kernel_rfl) (by kernel_rfl) (by kernel_rfl) ?_ (Or.inr ⟨?_, rfl⟩) (by assumption) ?_
          rotate_left 1
          · (try simp only [List.getElem?_toArray, List.getElem?_cons_succ, List.getElem?_cons_zero]); rfl
          · exact fun _ _ _ h => h
          · rfl
          try simp only [Act.put, List.setIfInBounds_toArray, List.set_cons_zero, List.set_cons_succ]
          refine wpAnyH_take (i := 18) (oi := ?_) (v := undef) ?_ (by kernel_rfl) (by kernel_rfl) (by kernel_rfl) ?_ (Or.inr ⟨?_, rfl⟩) (by assumption) ?_
          rotate_left 1
          · (try simp only [List.getElem?_toArray, List.getElem?_cons_succ, List.getElem?_cons_zero]); rfl
          · exact fun _ _ _ h => h
          · rfl
          try simp only [Act.put, List.setIfInBounds_toArray, List.set_cons_zero, List.set_cons_succ]
          refine wpAnyH_take (i := 19) (oi := ?_) (v := undef) ?_ (by kernel_rfl) (by kernel_rfl) (by kernel_rfl) ?_ (Or.inr ⟨?_, rfl⟩) (by assumption) ?_
          rotate_left 1
          · (try simp only [List.getElem?_toArray, List.getElem?_cons_succ, List.getElem?_cons_zero]); rfl
          · exact fun _ _ _ h => h
          · rfl
          try simp only [Act.put, List.setIfInBounds_toArray, List.set_cons_zero, List.set_cons_succ]
          refine wpAnyH_take (i := 20) (oi := ?_) (v := undef) ?_ (by kernel_rfl) (by kernel_rfl) (by kernel_rfl) ?_ (Or.inr ⟨?_, rfl⟩) (by assumption) ?_
          rotate_left 1
          · (try simp only [List.getElem?_toArray, List.getElem?_cons_succ, List.getElem?_cons_zero]); rfl
          · exact fun _ _ _ h => h
          · rfl
          try simp only [Act.put, List.setIfInBounds_toArray, List.set_cons_zero, List.set_cons_succ]
          refine wpAnyH_take (i := 21) (oi := ?_) (v := undef) ?_ (by kernel_rfl) (by kernel_rfl) (by kernel_rfl) ?_ (Or.inr ⟨?_, rfl⟩) (by assumption) ?_
          rotate_left 1
          · (try simp only [List.getElem?_toArray, List.getElem?_cons_succ, List.getElem?_cons_zero]); rfl
          · exact fun _ _ _ h => h
          · rfl
          try simp only [Act.put, List.setIfInBounds_toArray, List.set_cons_zero, List.set_cons_succ]
          refine wpAnyH_take (i := 22) (oi := ?_) (v := undef) ?_ (by kernel_rfl) (by kernel_rfl) (by kernel_rfl) ?_ (Or.inr ⟨?_, rfl⟩) (by assumption) ?_
          rotate_left 1
          · (try simp only [List.getElem?_toArray, List.getElem?_cons_succ, List.getElem?_cons_zero]); rfl
          · exact fun _ _ _ h => h
          · rfl
          try simp only [Act.put, List.setIfInBounds_toArray, List.set_cons_zero, List.set_cons_succ]
          refine wpAnyH_take (i := 23) (oi := ?_) (v := ?_) ?_ (by kernel_rfl) (by kernel_rfl) (by kernel_rfl) ?_ (Or.inl ⟨?_, ?_⟩) (by assumption) ?_
          rotate_left 2
          · (try simp only [List.getElem?_toArray, List.getElem?_cons_succ, List.getElem?_cons_zero]); rfl
          · exact fun _ _ _ h => h
          · rfl
          · (intro wS hwS; (try dsimp only at hwS); go_simp; all_goals with_reducible rfl)
          try simp only [Act.put, List.setIfInBounds_toArray, List.set_cons_zero, List.set_cons_succ]
          refine wpAnyH_take (i := 24) (oi := ?_) (v := ?_) ?_ (by kernel_rfl) (by kernel_rfl) (by kernel_rfl) ?_ (Or.inl ⟨?_, ?_⟩) (by assumption) ?_
          rotate_left 2
          · (try simp only [List.getElem?_toArray, List.getElem?_cons_succ, List.getElem?_cons_zero]); rfl
          · exact fun _ _ _ h => h
          · rfl
          · (intro wS hwS; (try dsimp only at hwS); go_simp; all_goals with_reducible rfl)
          try simp only [Act.put, List.setIfInBounds_toArray, List.set_cons_zero, List.set_cons_succ]
          refine wpAnyH_done (by kernel_rfl) ?_ _
          go_wp2_with fail
          refine Xcp.out.mono ?_
          rintro e w6 hp
          obtain ⟨A6, n6, c6, rfl, t6⟩ := Xt5.out.put hp
          clear hp p0 p1 Xt5 Xcp hHeld
          have Xt6 := hide t6
          clear t6
          go_wp2_with fail
          go_roundw
          case rel => exact ⟨k + 1, by omega, by go_num, by rw [Xhyes.out, canon_snoc]; exact Xt6.out⟩
          case measure => simp [intOf]; omega
        · by_cases hx0 : x0 = (R : Int)
          · have hyes := kerns_yes (G := G) (st := st) Xhx.out (by rw [Xhkx.out, decide_eq_true hx0]; simp)
            have hx0' : (x0 == (R : Int)) = true := by simpa using hx0
            have Xt5 := hide t5
            have Xhyes := hide hyes
            have Xcp := hide cp
            have Xhx0 := hide hx0
            clear t5 hyes cp hx0
            refine wpAnyH_take (i := 6) (oi := ?_) (v := ?_) ?_ (by kernel_rfl) (by kernel_rfl) (by kernel_rfl) ?_ (Or.inl ⟨?_, ?_⟩) (by assumption) ?_
            rotate_left 2
            · (try simp only [List.getElem?_toArray, List.getElem?_cons_succ, List.getElem?_cons_zero]); rfl
            · exact fun _ _ _ h => h
            · rfl
            · (intro wS hwS; (try dsimp only at hwS); go_simp; all_goals with_reducible rfl)
            try simp only [Act.put, List.setIfInBounds_toArray, List.set_cons_zero, List.set_cons_succ]
            refine wpAnyH_take (i := 7) (oi := ?_) (v := ?_) ?_ (by kernel_rfl) (by kernel_rfl) (by kernel_rfl) ?_ (Or.inl ⟨?_, ?_⟩) (by assumption) ?_
            rotate_left 2
            · (try simp only [List.getElem?_toArray, List.getElem?_cons_succ, List.getElem?_cons_zero]); rfl
            · exact fun _ _ _ h => h
            · rfl
            · (intro wS hwS; (try dsimp only at hwS); go_simp; all_goals with_reducible rfl)
            try simp only [Act.put, List.setIfInBounds_toArray, List.set_cons_zero, List.set_cons_succ]
            refine wpAnyH_take (i := 8) (oi := ?_) (v := ?_) ?_ (by kernel_rfl) (by kernel_rfl) (by kernel_rfl) ?_ (Or.inl ⟨?_, ?_⟩) (by assumption) ?_
            rotate_left 2
            · (try simp only [List.getElem?_toArray, List.getElem?_cons_succ, List.getElem?_cons_zero]); rfl
            · exact fun _ _ _ h => h
            · rfl
            · (intro wS hwS; (try dsimp only at hwS); go_simp; all_goals with_reducible rfl)
            try simp only [Act.put, List.setIfInBounds_toArray, List.set_cons_zero, List.set_cons_succ]
            refine wpAnyH_take (i := 9) (oi := ?_) (v := ?_) ?_ (by kernel_rfl) (by kernel_rfl) (by kernel_rfl) ?_ (Or.inl ⟨?_, ?_⟩) (by assumption) ?_
            rotate_left 2
            · (try simp only [List.getElem?_toArray, List.getElem?_cons_succ, List.getElem?_cons_zero]); rfl
            · exact fun _ _ _ h => h
            · rfl
            · (intro wS hwS; (try dsimp only at hwS); go_simp; all_goals with_reducible rfl)
            try simp only [Act.put, List.setIfInBounds_toArray, List.set_cons_zero, List.set_cons_succ]
            refine wpAnyH_take (i := 10) (oi := ?_) (v := ?_) ?_ (by kernel_rfl) (by kernel_rfl) (by kernel_rfl) ?_ (Or.inl ⟨?_, ?_⟩) (by assumption) ?_
            rotate_left 2
            · (try simp only [List.getElem?_toArray, List.getElem?_cons_succ, List.getElem?_cons_zero]); rfl
            · exact fun _ _ _ h => h
            · rfl
            · (intro wS hwS; (try dsimp only at hwS); go_simp; all_goals with_reducible rfl)
            try simp only [Act.put, List.setIfInBounds_toArray, List.set_cons_zero, List.set_cons_succ]
            refine wpAnyH_take (i := 11) (oi := ?_) (v := ?_) ?_ (by kernel_rfl) (by kernel_rfl) (by kernel_rfl) ?_ (Or.inl ⟨?_, ?_⟩) (by assumption) ?_
            rotate_left 2
            · (try simp only [List.getElem?_toArray, List.getElem?_cons_succ, List.getElem?_cons_zero]); rfl
            · exact fun _ _ _ h => h
            · rfl
            · (intro wS hwS; (try dsimp only at hwS); go_simp; all_goals with_reducible rfl)
            try simp only [Act.put, List.setIfInBounds_toArray, List.set_cons_zero, List.set_cons_succ]
            refine wpAnyH_take (i := 12) (oi := ?_) (v := ?_) ?_ (by kernel_rfl) (by kernel_rfl) (by kernel_rfl) ?_ (Or.inl ⟨?_, ?_⟩) (by assumption) ?_
            rotate_left 2
            · (try simp only [List.getElem?_toArray, List.getElem?_cons_succ, List.getElem?_cons_zero]); rfl
            · exact fun _ _ _ h => h
            · rfl
            · (intro wS hwS; (try dsimp only at hwS); go_simp; all_goals with_reducible rfl)
            try simp only [Act.put, List.setIfInBounds_toArray, List.set_cons_zero, List.set_cons_succ]
            refine wpAnyH_take (i := 13) (oi := ?_) (v := ?_) ?_ (by kernel_rfl) (by kernel_rfl) (by kernel_rfl) ?_ (Or.inl ⟨?_, ?_⟩) (by assumption) ?_
            rotate_left 2
            · (try simp only [List.getElem?_toArray, List.getElem?_cons_succ, List.getElem?_cons_zero]); rfl
            · exact fun _ _ _ h => h
            · rfl
            · (intro wS hwS; (try dsimp only at hwS); go_simp; all_goals with_reducible rfl)
            try simp only [Act.put, List.setIfInBounds_toArray, List.set_cons_zero, List.set_cons_succ]
            refine wpAnyH_take (i := 14) (oi := ?_) (v := ?_) ?_ (by kernel_rfl) (by kernel_rfl) (by kernel_rfl) ?_ (Or.inl ⟨?_, ?_⟩) (by assumption) ?_
            rotate_left 2
            · (try simp only [List.getElem?_toArray, List.getElem?_cons_succ, List.getElem?_cons_zero]); rfl
            · exact fun _ _ _ h => h
            · rfl
            · (intro wS hwS; (try dsimp only at hwS); go_simp; all_goals with_reducible rfl)
            try simp only [Act.put, List.setIfInBounds_toArray, List.set_cons_zero, List.set_cons_succ]
            refine wpAnyH_take (i := 15) (oi := ?_) (v := ?_) ?_ (by kernel_rfl) (by kernel_rfl) (by kernel_rfl) ?_ (Or.inl ⟨?_, ?_⟩) (by assumption) ?_
            rotate_left 2
            · (try simp only [List.getElem?_toArray, List.getElem?_cons_succ, List.getElem?_cons_zero]); rfl
            · exact fun _ _ _ h => h
            · rfl
            · (intro wS hwS; (try dsimp only at hwS); go_simp; all_goals with_reducible rfl)
            try simp only [Act.put, List.setIfInBounds_toArray, List.set_cons_zero, List.set_cons_succ]
            refine wpAnyH_take (i := 16) (oi := ?_) (v := ?_) ?_ (by kernel_rfl) (by kernel_rfl) (by kernel_rfl) ?_ (Or.inl ⟨?_, ?_⟩) (by assumption) ?_
            rotate_left 2
            · (try simp only [List.getElem?_toArray, List.getElem?_cons_succ, List.getElem?_cons_zero]); rfl
            · exact fun _ _ _ h => h
            · rfl
            · (intro wS hwS; (try dsimp only at hwS); go_simp; all_goals with_reducible rfl)
            try simp only [Act.put, List.setIfInBounds_toArray, List.set_cons_zero, List.set_cons_succ]
            refine wpAnyH_take (i := 17) (oi := ?_) (v := ?_) ?_ (by kernel_rfl) (by kernel_rfl) (by kernel_rfl) ?_ (Or.inl ⟨?_, ?_⟩) (by assumption) ?_
            rotate_left 2
            · (try simp only [List.getElem?_toArray, List.getElem?_cons_succ, List.getElem?_cons_zero]); rfl
            · exact fun _ _ _ h => h
            · rfl
            · (intro wS hwS; (try dsimp only at hwS); go_simp; all_goals with_reducible rfl)
            try simp only [Act.put, List.setIfInBounds_toArray, List.set_cons_zero, List.set_cons_succ]
            refine wpAnyH_take (i := 18) (oi := ?_) (v := ?_) ?_ (by kernel_rfl) (by kernel_rfl) (by kernel_rfl) ?_ (Or.inl ⟨?_, ?_⟩) (by assumption) ?_
            rotate_left 2
            · (try simp only [List.getElem?_toArray, List.getElem?_cons_succ, List.getElem?_cons_zero]); rfl
            · exact fun _ _ _ h => h
            · rfl
            · (intro wS hwS; (try dsimp only at hwS); go_simp; all_goals with_reducible rfl)
            try simp only [Act.put, List.setIfInBounds_toArray, List.set_cons_zero, List.set_cons_succ]
            refine wpAnyH_take (i := 19) (oi := ?_) (v := ?_) ?_ (by kernel_rfl) (by kernel_rfl) (by kernel_rfl) ?_ (Or.inl ⟨?_, ?_⟩) (by assumption) ?_
            rotate_left 2
            · (try simp only [List.getElem?_toArray, List.getElem?_cons_succ, List.getElem?_cons_zero]); rfl
            · exact fun _ _ _ h => h
            · rfl
            · (intro wS hwS; (try dsimp only at hwS); go_simp; all_goals with_reducible rfl)
            try simp only [Act.put, List.setIfInBounds_toArray, List.set_cons_zero, List.set_cons_succ]
            refine wpAnyH_take (i := 20) (oi := ?_) (v := ?_) ?_ (by kernel_rfl) (by kernel_rfl) (by kernel_rfl) ?_ (Or.inl ⟨?_, ?_⟩) (by assumption) ?_
            rotate_left 2
            · (try simp only [List.getElem?_toArray, List.getElem?_cons_succ, List.getElem?_cons_zero]); rfl
            · exact fun _ _ _ h => h
            · rfl
            · (intro wS hwS; (try dsimp only at hwS); go_simp; all_goals with_reducible rfl)
            try simp only [Act.put, List.setIfInBounds_toArray, List.set_cons_zero, List.set_cons_succ]
            refine wpAnyH_take (i := 21) (oi := ?_) (v := ?_) ?_ (by kernel_rfl) (by kernel_rfl) (by kernel_rfl) ?_ (Or.inl ⟨?_, ?_⟩) (by assumption) ?_
            rotate_left 2
            · (try simp only [List.getElem?_toArray, List.getElem?_cons_succ, List.getElem?_cons_zero]); rfl
            · exact fun _ _ _ h => h
            · rfl
            · (intro wS hwS; (try dsimp only at hwS); go_simp; all_goals with_reducible rfl)
            try simp only [Act.put, List.setIfInBounds_toArray, List.set_cons_zero, List.set_cons_succ]
            refine wpAnyH_take (i := 22) (oi := ?_) (v := ?_) ?_ (by kernel_rfl) (by kernel_rfl) (by kernel_rfl) ?_ (Or.inl ⟨?_, ?_⟩) (by assumption) ?_
            rotate_left 2
            · (try simp only [List.getElem?_toArray, List.getElem?_cons_succ, List.getElem?_cons_zero]); rfl
            · exact fun _ _ _ h => h
            · rfl
            · (intro wS hwS; (try dsimp only at hwS); go_simp; all_goals with_reducible rfl)
            try simp only [Act.put, List.setIfInBounds_toArray, List.set_cons_zero, List.set_cons_succ]
            refine wpAnyH_take (i := 23) (oi := ?_) (v := ?_) ?_ (by kernel_rfl) (by kernel_rfl) (by kernel_rfl) ?_ (Or.inl ⟨?_, ?_⟩) (by assumption) ?_
            rotate_left 2
            · (try simp only [List.getElem?_toArray, List.getElem?_cons_succ, List.getElem?_cons_zero]); rfl
            · exact fun _ _ _ h => h
            · rfl
            · (intro wS hwS; (try dsimp only at hwS); go_simp; all_goals with_reducible rfl)
            try simp only [Act.put, List.setIfInBounds_toArray, List.set_cons_zero, List.set_cons_succ]
            refine wpAnyH_take (i := 24) (oi := ?_) (v := ?_) ?_ (by kernel_rfl) (by kernel_rfl) (by kernel_rfl) ?_ (Or.inl ⟨?_, ?_⟩) (by assumption) ?_
            rotate_left 2
            · (try simp only [List.getElem?_toArray, List.getElem?_cons_succ, List.getElem?_cons_zero]); rfl
            · exact fun _ _ _ h => h
            · rfl
            · (intro wS hwS; (try dsimp only at hwS); go_simp; all_goals with_reducible rfl)
            try simp only [Act.put, List.setIfInBounds_toArray, List.set_cons_zero, List.set_cons_succ]
            refine wpAnyH_done (by kernel_rfl) ?_ _
            go_wp2_with fail
            refine Xcp.out.mono ?_
            rintro e w6 hp
            obtain ⟨A6, n6, c6, rfl, t6⟩ := Xt5.out.put hp
            clear hp p0 p1 Xt5 Xcp hHeld
            have Xt6 := hide t6
            clear t6
            go_wp2_with fail
            go_roundw
            case rel => exact ⟨k + 1, by omega, by go_num, by rw [Xhyes.out, canon_snoc]; exact Xt6.out⟩
            case measure => simp [intOf]; omega
          · have hno := kerns_no (G := G) (st := st) Xhx.out (by rw [Xhkx.out, decide_eq_false (by omega), decide_eq_false hx0]; rfl)
            have hx0' : (x0 == (R : Int)) = false := by simpa using hx0
            clear cp
            have Xt5 := hide t5
            have Xhno := hide hno
            have Xhx0 := hide hx0
            clear t5 hno hx0
            refine wpAnyH_take (i := 6) (oi := ?_) (v := ?_) ?_ (by kernel_rfl) (by kernel_rfl) (by kernel_rfl) ?_ (Or.inl ⟨?_, ?_⟩) (by assumption) ?_
            rotate_left 2
            · (try simp only [List.getElem?_toArray, List.getElem?_cons_succ, List.getElem?_cons_zero]); rfl
            · exact fun _ _ _ h => h
            · rfl
            · (intro wS hwS; (try dsimp only at hwS); go_simp; all_goals with_reducible rfl)
            try simp only [Act.put, List.setIfInBounds_toArray, List.set_cons_zero, List.set_cons_succ]
            refine wpAnyH_take (i := 7) (oi := ?_) (v := ?_) ?_ (by kernel_rfl) (by kernel_rfl) (by kernel_rfl) ?_ (Or.inl ⟨?_, ?_⟩) (by assumption) ?_
            rotate_left 2
            · (try simp only [List.getElem?_toArray, List.getElem?_cons_succ, List.getElem?_cons_zero]); rfl
            · exact fun _ _ _ h => h
            · rfl
            · (intro wS hwS; (try dsimp only at hwS); go_simp; all_goals with_reducible rfl)
            try simp only [Act.put, List.setIfInBounds_toArray, List.set_cons_zero, List.set_cons_succ]
            refine wpAnyH_take (i := 8) (oi := ?_) (v := ?_) ?_ (by kernel_rfl) (by kernel_rfl) (by kernel_rfl) ?_ (Or.inl ⟨?_, ?_⟩) (by assumption) ?_
            rotate_left 2
            · (try simp only [List.getElem?_toArray, List.getElem?_cons_succ, List.getElem?_cons_zero]); rfl
            · exact fun _ _ _ h => h
            · rfl
            · (intro wS hwS; (try dsimp only at hwS); go_simp; all_goals with_reducible rfl)
            try simp only [Act.put, List.setIfInBounds_toArray, List.set_cons_zero, List.set_cons_succ]
            refine wpAnyH_take (i := 9) (oi := ?_) (v := ?_) ?_ (by kernel_rfl) (by kernel_rfl) (by kernel_rfl) ?_ (Or.inl ⟨?_, ?_⟩) (by assumption) ?_
            rotate_left 2
            · (try simp only [List.getElem?_toArray, List.getElem?_cons_succ, List.getElem?_cons_zero]); rfl
            · exact fun _ _ _ h => h
            · rfl
            · (intro wS hwS; (try dsimp only at hwS); go_simp; all_goals with_reducible rfl)
            try simp only [Act.put, List.setIfInBounds_toArray, List.set_cons_zero, List.set_cons_succ]
            refine wpAnyH_take (i := 10) (oi := ?_) (v := ?_) ?_ (by kernel_rfl) (by kernel_rfl) (by kernel_rfl) ?_ (Or.inl ⟨?_, ?_⟩) (by assumption) ?_
            rotate_left 2
            · (try simp only [List.getElem?_toArray, List.getElem?_cons_succ, List.getElem?_cons_zero]); rfl
            · exact fun _ _ _ h => h
            · rfl
            · (intro wS hwS; (try dsimp only at hwS); go_simp; all_goals with_reducible rfl)
            try simp only [Act.put, List.setIfInBounds_toArray, List.set_cons_zero, List.set_cons_succ]
            refine wpAnyH_take (i := 11) (oi := ?_) (v := ?_) ?_ (by kernel_rfl) (by kernel_rfl) (by kernel_rfl) ?_ (Or.inl ⟨?_, ?_⟩) (by assumption) ?_
            rotate_left 2
            · (try simp only [List.getElem?_toArray, List.getElem?_cons_succ, List.getElem?_cons_zero]); rfl
            · exact fun _ _ _ h => h
            · rfl
            · (intro wS hwS; (try dsimp only at hwS); go_simp; all_goals with_reducible rfl)
            try simp only [Act.put, List.setIfInBounds_toArray, List.set_cons_zero, List.set_cons_succ]
            refine wpAnyH_take (i := 12) (oi := ?_) (v := ?_) ?_ (by kernel_rfl) (by kernel_rfl) (by kernel_rfl) ?_ (Or.inl ⟨?_, ?_⟩) (by assumption) ?_
            rotate_left 2
            · (try simp only [List.getElem?_toArray, List.getElem?_cons_succ, List.getElem?_cons_zero]); rfl
            · exact fun _ _ _ h => h
            · rfl
            · (intro wS hwS; (try dsimp only at hwS); go_simp; all_goals with_reducible rfl)
            try simp only [Act.put, List.setIfInBounds_toArray, List.set_cons_zero, List.set_cons_succ]
            refine wpAnyH_take (i := 13) (oi := ?_) (v := ?_) ?_ (by kernel_rfl) (by kernel_rfl) (by kernel_rfl) ?_ (Or.inl ⟨?_, ?_⟩) (by assumption) ?_
            rotate_left 2
            · (try simp only [List.getElem?_toArray, List.getElem?_cons_succ, List.getElem?_cons_zero]); rfl
            · exact fun _ _ _ h => h
            · rfl
            · (intro wS hwS; (try dsimp only at hwS); go_simp; all_goals with_reducible rfl)
            try simp only [Act.put, List.setIfInBounds_toArray, List.set_cons_zero, List.set_cons_succ]
            refine wpAnyH_take (i := 14) (oi := ?_) (v := ?_) ?_ (by kernel_rfl) (by kernel_rfl) (by kernel_rfl) ?_ (Or.inl ⟨?_, ?_⟩) (by assumption) ?_
            rotate_left 2
            · (try simp only [List.getElem?_toArray, List.getElem?_cons_succ, List.getElem?_cons_zero]); rfl
            · exact fun _ _ _ h => h
            · rfl
            · (intro wS hwS; (try dsimp only at hwS); go_simp; all_goals with_reducible rfl)
            try simp only [Act.put, List.setIfInBounds_toArray, List.set_cons_zero, List.set_cons_succ]
            refine wpAnyH_take (i := 15) (oi := ?_) (v := ?_) ?_ (by kernel_rfl) (by kernel_rfl) (by kernel_rfl) ?_ (Or.inl ⟨?_, ?_⟩) (by assumption) ?_
            rotate_left 2
            · (try simp only [List.getElem?_toArray, List.getElem?_cons_succ, List.getElem?_cons_zero]); rfl
            · exact fun _ _ _ h => h
            · rfl
            · (intro wS hwS; (try dsimp only at hwS); go_simp; all_goals with_reducible rfl)
            try simp only [Act.put, List.setIfInBounds_toArray, List.set_cons_zero, List.set_cons_succ]
            refine wpAnyH_take (i := 16) (oi := ?_) (v := ?_) ?_ (by kernel_rfl) (by kernel_rfl) (by kernel_rfl) ?_ (Or.inl ⟨?_, ?_⟩) (by assumption) ?_
            rotate_left 2
            · (try simp only [List.getElem?_toArray, List.getElem?_cons_succ, List.getElem?_cons_zero]); rfl
            · exact fun _ _ _ h => h
            · rfl
            · (intro wS hwS; (try dsimp only at hwS); go_simp; all_goals with_reducible rfl)
            try simp only [Act.put, List.setIfInBounds_toArray, List.set_cons_zero, List.set_cons_succ]
            refine wpAnyH_take (i := 17) (oi := ?_) (v := ?_) ?_ (by kernel_rfl) (by kernel_rfl) (by kernel_rfl) ?_ (Or.inl ⟨?_, ?_⟩) (by assumption) ?_
            rotate_left 2
            · (try simp only [List.getElem?_toArray, List.getElem?_cons_succ, List.getElem?_cons_zero]); rfl
            · exact fun _ _ _ h => h
            · rfl
            · (intro wS hwS; (try dsimp only at hwS); go_simp; all_goals with_reducible rfl)
            try simp only [Act.put, List.setIfInBounds_toArray, List.set_cons_zero, List.set_cons_succ]
            refine wpAnyH_take (i := 18) (oi := ?_) (v := ?_) ?_ (by kernel_rfl) (by kernel_rfl) (by kernel_rfl) ?_ (Or.inl ⟨?_, ?_⟩) (by assumption) ?_
            rotate_left 2
            · (try simp only [List.getElem?_toArray, List.getElem?_cons_succ, List.getElem?_cons_zero]); rfl
            · exact fun _ _ _ h => h
            · rfl
            · (intro wS hwS; (try dsimp only at hwS); go_simp; all_goals with_reducible rfl)
            try simp only [Act.put, List.setIfInBounds_toArray, List.set_cons_zero, List.set_cons_succ]
            refine wpAnyH_take (i := 19) (oi := ?_) (v := ?_) ?_ (by kernel_rfl) (by kernel_rfl) (by kernel_rfl) ?_ (Or.inl ⟨?_, ?_⟩) (by assumption) ?_
            rotate_left 2
            · (try simp only [List.getElem?_toArray, List.getElem?_cons_succ, List.getElem?_cons_zero]); rfl
            · exact fun _ _ _ h => h
            · rfl
            · (intro wS hwS; (try dsimp only at hwS); go_simp; all_goals with_reducible rfl)
            try simp only [Act.put, List.setIfInBounds_toArray, List.set_cons_zero, List.set_cons_succ]
            refine wpAnyH_take (i := 20) (oi := ?_) (v := ?_) ?_ (by kernel_rfl) (by kernel_rfl) (by kernel_rfl) ?_ (Or.inl ⟨?_, ?_⟩) (by assumption) ?_
            rotate_left 2
            · (try simp only [List.getElem?_toArray, List.getElem?_cons_succ, List.getElem?_cons_zero]); rfl
            · exact fun _ _ _ h => h
            · rfl
            · (intro wS hwS; (try dsimp only at hwS); go_simp; all_goals with_reducible rfl)
            try simp only [Act.put, List.setIfInBounds_toArray, List.set_cons_zero, List.set_cons_succ]
            refine wpAnyH_take (i := 21) (oi := ?_) (v := ?_) ?_ (by kernel_rfl) (by kernel_rfl) (by kernel_rfl) ?_ (Or.inl ⟨?_, ?_⟩) (by assumption) ?_
            rotate_left 2
            · (try simp only [List.getElem?_toArray, List.getElem?_cons_succ, List.getElem?_cons_zero]); rfl
            · exact fun _ _ _ h => h
            · rfl
            · (intro wS hwS; (try dsimp only at hwS); go_simp; all_goals with_reducible rfl)
            try simp only [Act.put, List.setIfInBounds_toArray, List.set_cons_zero, List.set_cons_succ]
            refine wpAnyH_take (i := 22) (oi := ?_) (v := ?_) ?_ (by kernel_rfl) (by kernel_rfl) (by kernel_rfl) ?_ (Or.inl ⟨?_, ?_⟩) (by assumption) ?_
            rotate_left 2
            · (try simp only [List.getElem?_toArray, List.getElem?_cons_succ, List.getElem?_cons_zero]); rfl
            · exact fun _ _ _ h => h
            · rfl
            · (intro wS hwS; (try dsimp only at hwS); go_simp; all_goals with_reducible rfl)
            try simp only [Act.put, List.setIfInBounds_toArray, List.set_cons_zero, List.set_cons_succ]
            refine wpAnyH_take (i := 23) (oi := ?_) (v := ?_) ?_ (by kernel_rfl) (by kernel_rfl) (by kernel_rfl) ?_ (Or.inl ⟨?_, ?_⟩) (by assumption) ?_
            rotate_left 2
            · (try simp only [List.getElem?_toArray, List.getElem?_cons_succ, List.getElem?_cons_zero]); rfl
            · exact fun _ _ _ h => h
            · rfl
            · (intro wS hwS; (try dsimp only at hwS); go_simp; all_goals with_reducible rfl)
            try simp only [Act.put, List.setIfInBounds_toArray, List.set_cons_zero, List.set_cons_succ]
            refine wpAnyH_take (i := 24) (oi := ?_) (v := ?_) ?_ (by kernel_rfl) (by kernel_rfl) (by kernel_rfl) ?_ (Or.inl ⟨?_, ?_⟩) (by assumption) ?_
            rotate_left 2
            · (try simp only [List.getElem?_toArray, List.getElem?_cons_succ, List.getElem?_cons_zero]); rfl
            · exact fun _ _ _ h => h
            · rfl
            · (intro wS hwS; (try dsimp only at hwS); go_simp; all_goals with_reducible rfl)
            try simp only [Act.put, List.setIfInBounds_toArray, List.set_cons_zero, List.set_cons_succ]
            refine wpAnyH_done (by kernel_rfl) ?_ _
            go_wp2_with fail
            go_roundw
            case rel => exact ⟨k + 1, by omega, by go_num, by rw [Xhno.out]; exact Xt5.out⟩
            case measure => simp [intOf]; omega
    · have hlt' : ¬ (k : Int) < (n : Int) := by omega
      have hk' : l.take k = l := List.take_of_length_le (by have := Xhn2.out; omega)
      rw [hk'] at t
      have Xt := hide t
      have Xhk' := hide hk'
      clear t hk'
      go_wp2_with fail
      go_ret
      exact Xt.out.post
end Go.Proofs.YtlpokomfljmogaaGreat

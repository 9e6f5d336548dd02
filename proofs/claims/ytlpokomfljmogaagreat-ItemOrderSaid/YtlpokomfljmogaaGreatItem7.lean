/- Items, the reference's: Close. -/
import Derived.Test.YtlpokomfljmogaaGreatItem6
namespace Go.Proofs.YtlpokomfljmogaaGreat
set_option linter.unusedVariables false
set_option linter.unusedSimpArgs false
open Go.RowKit
attribute [local irreducible] wpStill wpOne wpPh

/-- what is closed is handed back -/
def ClosePost (w : World) (G : GramD) (st : Int) (l : List It) (e : Ending) (w' : World) : Prop := ∃ o, IsCl G st l o ∧ ItPost w o e w'
set_option maxRecDepth 100000 in
set_option maxHeartbeats 8000000 in
theorem ref12_Close {w : World} {F : Nat → Prop} {vt vn vr : Value} {G : GramD} (h : IsGram w F vt vn vr G) (st : Int) {v : Value} {l : List It} (hl : RdIt w (fun b => b < w.heap.size) v l) (hsh : ShortG G st) (hrl : G.rules.length ≤ 300) :
    Calls Tryz.prog 25 #[GV vt vn vr st, v] w (ClosePost w G st l) := by
  obtain ⟨A1, c1, A2, c2, A3, c3, rfl, rfl, rfl, -⟩ := h.slices
  obtain ⟨A, n, c, rfl, -⟩ := id hl
  obtain ⟨hn, hnc, hcm, -⟩ := RdIt.at_ hl
  unfold maxLen at hcm
  have hall := all_len hsh hrl
  obtain ⟨w1, hw1⟩ : ∃ w1, w1 = w.alloc (.cells #[.slice A1 G.terms.length c1, .slice A2 G.nons.length c2, .slice A3 G.rules.length c3, .int .i64 st] 25) := ⟨_, rfl⟩
  have g1 := GBox.new h st
  have b1 : Below w.heap.size w w1 := by rw [hw1]; exact (Below.refl _ w).alloc (Nat.le_refl _) _
  rw [← hw1] at g1
  have t1 : ItSt w w1 F A1 c1 A2 c2 A3 c3 G.terms.length G.nons.length G.rules.length st G (.slice A n c) l (.slice none 0 0) [] := ⟨g1, b1, hl.below b1 (fun k hk => hk), Rd.nil _ _ _, fun _ => rfl⟩
  have cR := fun wr (g : GBox wr F w.heap.size A1 c1 A2 c2 A3 c3 G.terms.length G.nons.length G.rules.length st G) x => ref12_right g.gram st x
  have cB := fun wr (g : GBox wr F w.heap.size A1 c1 A2 c2 A3 c3 G.terms.length G.nons.length G.rules.length st G) x => ref12_behind g.gram st x
  have cO := fun wr (g : GBox wr F w.heap.size A1 c1 A2 c2 A3 c3 G.terms.length G.nons.length G.rules.length st G) s => ref_of g.gram st s
  obtain ⟨al, hal⟩ : ∃ al, al = (allIt G st).length := ⟨_, rfl⟩
  rw [← hal] at hall
  generalize G.terms.length = T at *
  generalize G.nons.length = N at *
  generalize G.rules.length = R at *
  have hn2 := hn
  clear g1 b1 h hl hn hsh hrl
  have Xt1 := hide t1
  have XcR := hide cR
  have XcB := hide cB
  have XcO := hide cO
  have Xhn2 := hide hn2
  have Xhal := hide hal
  clear t1 cR cB cO hn2 hal
  go_enter Tryz.func25, Tryz.ntmps25
  go_wp2_with fail
  rw [← hw1]
  go_loopw [5, 6] (fun u i wr => ∃ (k : Nat) (o : List It), k ≤ n ∧ i = .int .i64 k ∧ ItSt w wr F A1 c1 A2 c2 A3 c3 T N R st G (.slice A n c) l u o ∧ OkI G st l o ∧ ∀ (j : Nat) (x : It), j < k → l[j]? = some x → rightI G st x = true → x ∈ o) (fun _ i _ => n - (intOf i).toNat)
  case atStart => exact ⟨0, [], Nat.zero_le _, rfl, Xt1.out, OkI.nil, fun j x hj => absurd hj (by omega)⟩
  case round =>
    clear Xt1
    obtain ⟨k, o, hk, rfl, t, ok, hb⟩ := hrel
    obtain ⟨Au, nu, cu, rfl, -⟩ := id t.ro
    by_cases hlt : k < n
    · have hlt' : (k : Int) < (n : Int) := by omega
      obtain ⟨q0, q1, q2, q3⟩ := t.g.cells
      obtain ⟨-, -, -, hcell⟩ := RdIt.at_ t.rv
      obtain ⟨b, off, rfl, hbl, hcc⟩ := hcell (by omega)
      obtain ⟨⟨x0, x1⟩, hx⟩ : ∃ x, l[k]? = some x := ⟨_, List.getElem?_eq_getElem (by rw [← Xhn2.out]; exact hlt)⟩
      obtain ⟨p0, p1⟩ := hcc k _ hx
      simp only at p0 p1
      have td := t.below ((Below.refl _ wr).drew)
      have cb := XcR.out _ td.g (x0, x1)
      obtain ⟨rt, hy⟩ : ∃ r, r = rightI G st (x0, x1) := ⟨_, rfl⟩
      rw [← hy] at cb
      clear hcell hcc
      have Xt := hide t
      have Xtd := hide td
      have Xcb := hide cb
      have Xhx := hide hx
      have Xhy := hide hy
      have Xhbl := hide hbl
      have Xok := hide ok
      have Xhb := hide hb
      clear t td cb hx hy hbl ok hb
      go_wp2_with fail
      refine region_tail 5 (by kernel_rfl) (by kernel_rfl) ?_
      simp only [List.take_succ_cons, List.take_zero, List.drop_succ_cons, List.drop_zero]
      repeat still_step
      refine wpStill_nil ?_
      go_wp2_with fail
      with_reducible refine Xcb.out.mono ?_
      rintro e w5 ⟨rfl, b5⟩
      have t5 := Xtd.out.below b5
      clear q0 q1 q2 q3 p0 p1 b5 Xt Xtd Xcb
      cases rt with
      | false =>
        have hb2 : ∀ (j : Nat) (x : It), j < k + 1 → l[j]? = some x → rightI G st x = true → x ∈ o := fun j x hj hjx hr => by
          by_cases e : j = k
          · subst e; rw [Xhx.out] at hjx; injection hjx with hjx; rw [← hjx, ← Xhy.out] at hr; cases hr
          · exact Xhb.out j x (by omega) hjx hr
        have Xt5 := hide t5
        have Xhb2 := hide hb2
        clear t5 hb2
        go_wp2_with fail
        go_roundw
        case rel => exact ⟨k + 1, o, by omega, by go_num, Xt5.out, Xok.out, Xhb2.out⟩
        case measure => simp [intOf]; omega
      | true =>
        obtain ⟨-, -, -, hcell⟩ := RdIt.at_ t5.rv
        obtain ⟨b2, off2, e2, -, hcc⟩ := hcell (by omega)
        injection e2 with e2
        injection e2 with e3 e4 _
        subst e3 e4
        obtain ⟨p0, p1⟩ := hcc k _ Xhx.out
        simp only at p0 p1
        have hCl : Cl G st l (x0, x1) := Cl.base _ (List.mem_of_getElem? Xhx.out) Xhy.out.symm
        have hbo := Xok.out.bound
        have cp := ref12_Put t5.ro (fun q hq => hq.2) (x0, x1) (by have := Xhal.out; omega) t5.rn
        have hb2 : ∀ (j : Nat) (x : It), j < k + 1 → l[j]? = some x → rightI G st x = true → x ∈ putI (x0, x1) o := fun j x hj hjx hr => by
          by_cases e : j = k
          · subst e; rw [Xhx.out] at hjx; injection hjx with hjx; rw [← hjx]; exact mem_putI.2 (.inl rfl)
          · exact mem_putI.2 (.inr (Xhb.out j x (by omega) hjx hr))
        have ok2 := Xok.out.put hCl
        clear hcell hcc hCl hbo
        have Xt5 := hide t5
        have Xhb2 := hide hb2
        have Xok2 := hide ok2
        have Xcp := hide cp
        clear t5 hb2 ok2 cp
        go_wp2_with fail
        refine Xcp.out.mono ?_
        rintro e w6 hp
        obtain ⟨A6, n6, c6, rfl, t6⟩ := Xt5.out.put hp
        clear hp p0 p1 Xt5 Xcp
        have Xt6 := hide t6
        clear t6
        go_wp2_with fail
        go_roundw
        case rel => exact ⟨k + 1, _, by omega, by go_num, Xt6.out, Xok2.out, Xhb2.out⟩
        case measure => simp [intOf]; omega
    · have hlt' : ¬ (k : Int) < (n : Int) := by omega
      have hbase : ∀ z ∈ l, rightI G st z = true → z ∈ o := fun z hz hr => by
        obtain ⟨j, hj, e⟩ := List.getElem_of_mem hz
        exact hb j z (by have := Xhn2.out; omega) (by rw [List.getElem?_eq_getElem hj, e]) hr
      obtain ⟨n0, hn0⟩ : ∃ n0, n0 = missI G st o + 1 := ⟨_, rfl⟩
      have hm1 : (-1 : Int) ≠ o.length := by omega
      clear hb
      have Xt := hide t
      have Xok := hide ok
      have Xhbase := hide hbase
      have Xhn0 := hide hn0
      have Xhm1 := hide hm1
      clear t ok hbase hn0 hm1
      go_wp2_with fail
      go_loopg [5, 7] n0 (fun κ u m wr => ∃ (o : List It) (mi : Int), m = .int .i64 mi ∧ ItSt w wr F A1 c1 A2 c2 A3 c3 T N R st G (.slice A n c) l u o ∧ OkI G st l o ∧ (∀ z ∈ l, rightI G st z = true → z ∈ o) ∧ (mi = o.length → ∀ y ∈ o, DoneI G st o y) ∧ (mi ≠ o.length → missI G st o + 1 ≤ κ))
      case atStart => exact ⟨o, -1, rfl, Xt.out, Xok.out, Xhbase.out, fun e => absurd e Xhm1.out, fun _ => Nat.le_of_eq Xhn0.out.symm⟩
      case round =>
        clear Xt Xok Xhbase Xhm1 Xhn0 hlt hlt' hk
        obtain ⟨o, mi, rfl, t, ok, hbase, hd, hκ⟩ := hrel
        obtain ⟨Au, nu, cu, rfl, -⟩ := id t.ro
        obtain ⟨hnu, hnuc, hcum, -⟩ := RdIt.at_ t.ro
        unfold maxLen at hcum
        have hbo := ok.bound
        have hnub : nu ≤ 400000 := by have := Xhal.out; omega
        by_cases hmi : mi = (nu : Int)
        · have hmi' : (mi != (nu : Int)) = false := by simpa using hmi
          have fin := ok.is hbase (hd (by rw [hmi, hnu]))
          have Xt := hide t
          have Xok := hide ok
          have Xhbase := hide hbase
          have Xhd := hide hd
          have Xhκ := hide hκ
          have Xhnu := hide hnu
          have Xhmi := hide hmi
          have Xfin := hide fin
          have Xhbo := hide hbo
          clear t ok hbase hd hκ hnu hmi fin hbo
          go_wp2_with fail
          go_ret
          exact ⟨o, Xfin.out, Xt.out.post⟩
        · have hmi' : (mi != (nu : Int)) = true := by simpa using hmi
          have hκ := hκ (by rw [← hnu]; exact hmi)
          clear hd
          have Xt := hide t
          have Xok := hide ok
          have Xhbase := hide hbase
          have Xhκ := hide hκ
          have Xhnu := hide hnu
          have Xhmi := hide hmi
          have Xhbo := hide hbo
          clear t ok hbase hκ hnu hmi hbo
          go_wp2_with fail
          go_loopw [5, 8] (fun u i wr => ∃ k : Nat, k ≤ nu ∧ u = .slice Au nu cu ∧ i = .int .i64 k ∧ ItSt w wr F A1 c1 A2 c2 A3 c3 T N R st G (.slice A n c) l (.slice Au nu cu) o ∧ ∀ (j : Nat) (y : It), j < k → o[j]? = some y → DoneI G st o y) (fun _ i _ => nu - (intOf i).toNat)
          case atStart => exact ⟨0, Nat.zero_le _, rfl, rfl, Xt.out, fun j y hj => absurd hj (by omega)⟩
          case round =>
            clear Xt
            obtain ⟨k, hk, rfl, rfl, t, hd⟩ := hrel
            by_cases hlt : k < nu
            · have hlt' : (k : Int) < (nu : Int) := by omega
              obtain ⟨q0, q1, q2, q3⟩ := t.g.cells
              obtain ⟨-, -, -, hcell⟩ := RdIt.at_ t.ro
              obtain ⟨b, off, rfl, hbl, hcc⟩ := hcell (by omega)
              obtain ⟨⟨x0, x1⟩, hx⟩ : ∃ x, o[k]? = some x := ⟨_, List.getElem?_eq_getElem (by rw [← Xhnu.out]; exact hlt)⟩
              obtain ⟨p0, p1⟩ := hcc k _ hx
              simp only at p0 p1
              have td := t.below ((Below.refl _ wr).drew)
              have cb := XcB.out _ td.g (x0, x1)
              obtain ⟨⟨s, sok⟩, hy⟩ : ∃ r, r = behindI G st (x0, x1) := ⟨_, rfl⟩
              rw [← hy] at cb
              clear hcell hcc
              have Xt := hide t
              have Xtd := hide td
              have Xcb := hide cb
              have Xhx := hide hx
              have Xhy := hide hy
              have Xhbl := hide hbl
              have Xhd := hide hd
              clear t td cb hx hy hbl hd
              go_wp2_with fail
              refine wp_region_held_drew (S := (fun W => W.cell? ⟨w.heap.size, 0, none⟩ = some (.slice A1 T c1) ∧ W.cell? ⟨w.heap.size, 1, none⟩ = some (.slice A2 N c2) ∧ W.cell? ⟨w.heap.size, 2, none⟩ = some (.slice A3 R c3) ∧ W.cell? ⟨w.heap.size, 3, none⟩ = some (.int .i64 st) ∧ W.cell? ⟨b, off + k * 2, none⟩ = some (.int .i64 x0) ∧ W.cell? ⟨b, off + k * 2 + 1, none⟩ = some (.int .i64 x1))) (by kernel_rfl) ?_ (fun hHeld => ?_)
              · exact ⟨q0, q1, q2, q3, p0, p1⟩
              refine wpAnyH_take (i := 0) (oi := ?_) (v := ?_) ?_ (by kernel_rfl) (by kernel_rfl) (by kernel_rfl) ?_ (Or.inl ⟨?_, ?_⟩) (by assumption) ?_
              rotate_left 2
              · (try simp only [List.getElem?_toArray, List.getElem?_cons_succ, List.getElem?_cons_zero]); rfl
              · exact fun _ _ _ h => h
              · rfl
              · (intro wS hwS; (try dsimp only at hwS); go_simp; all_goals with_reducible rfl)
              try simp only [Act.put, List.setIfInBounds_toArray, List.set_cons_zero, List.set_cons_succ]
              refine wpAnyH_take (i := 1) (oi := ?_) (v := ?_) ?_ (by kernel_rfl) (by kernel_rfl) (by kernel_rfl) ?_ (Or.inl ⟨?_, ?_⟩) (by assumption) ?_
              rotate_left 2
              · (try simp only [List.getElem?_toArray, List.getElem?_cons_succ, List.getElem?_cons_zero]); rfl
              · exact fun _ _ _ h => h
              · rfl
              · (intro wS hwS; (try dsimp only at hwS); go_simp; all_goals with_reducible rfl)
              try simp only [Act.put, List.setIfInBounds_toArray, List.set_cons_zero, List.set_cons_succ]
              refine wpAnyH_take (i := 2) (oi := ?_) (v := ?_) ?_ (by kernel_rfl) (by kernel_rfl) (by kernel_rfl) ?_ (Or.inl ⟨?_, ?_⟩) (by assumption) ?_
              rotate_left 2
              · (try simp only [List.getElem?_toArray, List.getElem?_cons_succ, List.getElem?_cons_zero]); rfl
              · exact fun _ _ _ h => h
              · rfl
              · (intro wS hwS; (try dsimp only at hwS); go_simp; all_goals with_reducible rfl)
              try simp only [Act.put, List.setIfInBounds_toArray, List.set_cons_zero, List.set_cons_succ]
              refine wpAnyH_take (i := 3) (oi := ?_) (v := ?_) ?_ (by kernel_rfl) (by kernel_rfl) (by kernel_rfl) ?_ (Or.inl ⟨?_, ?_⟩) (by assumption) ?_
              rotate_left 2
              · (try simp only [List.getElem?_toArray, List.getElem?_cons_succ, List.getElem?_cons_zero]); rfl
              · exact fun _ _ _ h => h
              · rfl
              · (intro wS hwS; (try dsimp only at hwS); go_simp; all_goals with_reducible rfl)
              try simp only [Act.put, List.setIfInBounds_toArray, List.set_cons_zero, List.set_cons_succ]
              refine wpAnyH_take (i := 4) (oi := ?_) (v := ?_) ?_ (by kernel_rfl) (by kernel_rfl) (by kernel_rfl) ?_ (Or.inl ⟨?_, ?_⟩) (by assumption) ?_
              rotate_left 2
              · (try simp only [List.getElem?_toArray, List.getElem?_cons_succ, List.getElem?_cons_zero]); rfl
              · exact fun _ _ _ h => h
              · rfl
              · (intro wS hwS; (try dsimp only at hwS); go_simp; all_goals with_reducible rfl)
              try simp only [Act.put, List.setIfInBounds_toArray, List.set_cons_zero, List.set_cons_succ]
              refine wpAnyH_ready (rs := [5]) (by kernel_rfl) (by simp) ?_
              refine AllReadyH.cons (o := ?_) ?_ (fun K hK => ?_) AllReadyH.nil
              rotate_left 1
              · (try simp only [List.getElem?_toArray, List.getElem?_cons_succ, List.getElem?_cons_zero]); rfl
              go_simp
              go_at_call 21
              with_reducible refine Xcb.out.mono ?_
              rintro e w5 ⟨rfl, b5⟩
              have t5 := Xtd.out.below b5
              have hbk : b < wr.drew.heap.size := Xhbl.out.2
              refine hK.out _ _ ?_ (fun hHeld => ?_)
              · exact ⟨t5.g.cells.1, t5.g.cells.2.1, t5.g.cells.2.2.1, t5.g.cells.2.2.2, (b5.cell (p := ⟨b, off + k * 2, none⟩) hbk).trans p0, (b5.cell (p := ⟨b, off + k * 2 + 1, none⟩) hbk).trans p1⟩
              clear hK K
              try simp only [Act.put, List.setIfInBounds_toArray, List.set_cons_zero, List.set_cons_succ]
              clear q0 q1 q2 q3 p0 p1 b5 Xt Xtd Xcb hbk
              cases sok with
              | false =>
                have hd2 : ∀ (j : Nat) (y : It), j < k + 1 → o[j]? = some y → DoneI G st o y := fun j y hj hjy => by
                  by_cases e : j = k
                  · subst e; rw [Xhx.out] at hjy; injection hjy with hjy
                    intro s' q hs' _
                    rw [← hjy, ← Xhy.out] at hs'; cases hs'
                  · exact Xhd.out j y (by omega) hjy
                have Xt5 := hide t5
                have Xhd2 := hide hd2
                clear t5 hd2
                refine wpAnyH_take (i := 6) (oi := ?_) (v := ?_) ?_ (by kernel_rfl) (by kernel_rfl) (by kernel_rfl) ?_ (Or.inl ⟨?_, ?_⟩) (by assumption) ?_
                rotate_left 2
                · (try simp only [List.getElem?_toArray, List.getElem?_cons_succ, List.getElem?_cons_zero]); rfl
                · exact fun _ _ _ h => h
                · rfl
                · (intro wS hwS; (try dsimp only at hwS); go_simp; all_goals with_reducible rfl)
                try simp only [Act.put, List.setIfInBounds_toArray, List.set_cons_zero, List.set_cons_succ]
                refine wpAnyH_take (i := 7) (oi := ?_) (v := ?_) ?_ (by kernel_rfl) (by kernel_rfl) (by kernel_rfl) ?_ (Or.inl ⟨?_, ?_⟩) (by assumption) ?_
                rotate_left 2
                · (try simp only [List.getElem?_toArray, List.getElem?_cons_succ, List.getElem?_cons_zero]); rfl
                · exact fun _ _ _ h => h
                · rfl
                · (intro wS hwS; (try dsimp only at hwS); go_simp; all_goals with_reducible rfl)
                try simp only [Act.put, List.setIfInBounds_toArray, List.set_cons_zero, List.set_cons_succ]
                refine wpAnyH_take (i := 8) (oi := ?_) (v := ?_) ?_ (by kernel_rfl) (by kernel_rfl) (by kernel_rfl) ?_ (Or.inl ⟨?_, ?_⟩) (by assumption) ?_
                rotate_left 2
                · (try simp only [List.getElem?_toArray, List.getElem?_cons_succ, List.getElem?_cons_zero]); rfl
                · exact fun _ _ _ h => h
                · rfl
                · (intro wS hwS; (try dsimp only at hwS); go_simp; all_goals with_reducible rfl)
                try simp only [Act.put, List.setIfInBounds_toArray, List.set_cons_zero, List.set_cons_succ]
                refine wpAnyH_take (i := 9) (oi := ?_) (v := ?_) ?_ (by kernel_rfl) (by kernel_rfl) (by kernel_rfl) ?_ (Or.inl ⟨?_, ?_⟩) (by assumption) ?_
                rotate_left 2
                · (try simp only [List.getElem?_toArray, List.getElem?_cons_succ, List.getElem?_cons_zero]); rfl
                · exact fun _ _ _ h => h
                · rfl
                · (intro wS hwS; (try dsimp only at hwS); go_simp; all_goals with_reducible rfl)
                try simp only [Act.put, List.setIfInBounds_toArray, List.set_cons_zero, List.set_cons_succ]
                refine wpAnyH_take (i := 10) (oi := ?_) (v := ?_) ?_ (by kernel_rfl) (by kernel_rfl) (by kernel_rfl) ?_ (Or.inl ⟨?_, ?_⟩) (by assumption) ?_
                rotate_left 2
                · (try simp only [List.getElem?_toArray, List.getElem?_cons_succ, List.getElem?_cons_zero]); rfl
                · exact fun _ _ _ h => h
                · rfl
                · (intro wS hwS; (try dsimp only at hwS); go_simp; all_goals with_reducible rfl)
                try simp only [Act.put, List.setIfInBounds_toArray, List.set_cons_zero, List.set_cons_succ]
                refine wpAnyH_done (by kernel_rfl) ?_ _
                clear hHeld
                go_wp2_with fail
                go_roundw
                case rel => exact ⟨k + 1, by omega, rfl, by go_num, Xt5.out, Xhd2.out⟩
                case measure => simp [intOf]; omega
              | true =>
                have co := XcO.out _ t5.g s
                obtain ⟨q0, q1, q2, q3⟩ := t5.g.cells
                have Xt5 := hide t5
                have Xco := hide co
                clear t5 co
                refine wpAnyH_take (i := 6) (oi := ?_) (v := ?_) ?_ (by kernel_rfl) (by kernel_rfl) (by kernel_rfl) ?_ (Or.inl ⟨?_, ?_⟩) (by assumption) ?_
                rotate_left 2
                · (try simp only [List.getElem?_toArray, List.getElem?_cons_succ, List.getElem?_cons_zero]); rfl
                · exact fun _ _ _ h => h
                · rfl
                · (intro wS hwS; (try dsimp only at hwS); go_simp; all_goals with_reducible rfl)
                try simp only [Act.put, List.setIfInBounds_toArray, List.set_cons_zero, List.set_cons_succ]
                refine wpAnyH_take (i := 7) (oi := ?_) (v := ?_) ?_ (by kernel_rfl) (by kernel_rfl) (by kernel_rfl) ?_ (Or.inl ⟨?_, ?_⟩) (by assumption) ?_
                rotate_left 2
                · (try simp only [List.getElem?_toArray, List.getElem?_cons_succ, List.getElem?_cons_zero]); rfl
                · exact fun _ _ _ h => h
                · rfl
                · (intro wS hwS; (try dsimp only at hwS); go_simp; all_goals with_reducible rfl)
                try simp only [Act.put, List.setIfInBounds_toArray, List.set_cons_zero, List.set_cons_succ]
                refine wpAnyH_take (i := 8) (oi := ?_) (v := ?_) ?_ (by kernel_rfl) (by kernel_rfl) (by kernel_rfl) ?_ (Or.inl ⟨?_, ?_⟩) (by assumption) ?_
                rotate_left 2
                · (try simp only [List.getElem?_toArray, List.getElem?_cons_succ, List.getElem?_cons_zero]); rfl
                · exact fun _ _ _ h => h
                · rfl
                · (intro wS hwS; (try dsimp only at hwS); go_simp; all_goals with_reducible rfl)
                try simp only [Act.put, List.setIfInBounds_toArray, List.set_cons_zero, List.set_cons_succ]
                refine wpAnyH_take (i := 9) (oi := ?_) (v := ?_) ?_ (by kernel_rfl) (by kernel_rfl) (by kernel_rfl) ?_ (Or.inl ⟨?_, ?_⟩) (by assumption) ?_
                rotate_left 2
                · (try simp only [List.getElem?_toArray, List.getElem?_cons_succ, List.getElem?_cons_zero]); rfl
                · exact fun _ _ _ h => h
                · rfl
                · (intro wS hwS; (try dsimp only at hwS); go_simp; all_goals with_reducible rfl)
                try simp only [Act.put, List.setIfInBounds_toArray, List.set_cons_zero, List.set_cons_succ]
                refine wpAnyH_take (i := 10) (oi := ?_) (v := ?_) ?_ (by kernel_rfl) (by kernel_rfl) (by kernel_rfl) ?_ (Or.inl ⟨?_, ?_⟩) (by assumption) ?_
                rotate_left 2
                · (try simp only [List.getElem?_toArray, List.getElem?_cons_succ, List.getElem?_cons_zero]); rfl
                · exact fun _ _ _ h => h
                · rfl
                · (intro wS hwS; (try dsimp only at hwS); go_simp; all_goals with_reducible rfl)
                try simp only [Act.put, List.setIfInBounds_toArray, List.set_cons_zero, List.set_cons_succ]
                refine wpAnyH_done (by kernel_rfl) ?_ _
                clear hHeld
                go_wp2_with fail
                with_reducible refine Xco.out.mono ?_
                rintro e w6 ⟨Ar, cr, rfl, hown, b6⟩
                have t6 := Xt5.out.below b6
                obtain ⟨rs, hrs⟩ : ∃ rs, rs = ofOf G s := ⟨_, rfl⟩
                rw [← hrs] at hown
                have hrl : (ofOf G s).length = rs.length := by rw [hrs]
                rw [hrl]
                have hrd : RdI w6 (fun b => w.heap.size ≤ b ∧ b < w6.heap.size) (.slice Ar rs.length cr) rs := (Rd.of_own hown).mono (fun q hq => ⟨Nat.le_trans (Xt5.out.le.size) (hown.lt q hq).1, (hown.lt q hq).2⟩)
                obtain ⟨-, hrnc, hrcm, -⟩ := RdI.at_ hrd
                unfold maxLen at hrcm
                have hrm : ∀ r ∈ rs, r ∈ ofOf G s := fun r hr => by rw [← hrs]; exact hr
                clear q0 q1 q2 q3 b6 Xt5 Xco hown hrl
                have Xt6 := hide t6
                have Xhrd := hide hrd
                have Xhrs := hide hrs
                have Xhrm := hide hrm
                clear t6 hrd hrs hrm
                go_wp2_with fail
                go_loopw [12, 13] (fun mo i wr => ∃ (q : Nat), q ≤ rs.length ∧ i = .int .i64 q ∧ ItSt w wr F A1 c1 A2 c2 A3 c3 T N R st G (.slice A n c) l (.slice (some ⟨b, off, none⟩) nu cu) o ∧ ItSt w wr F A1 c1 A2 c2 A3 c3 T N R st G (.slice A n c) l mo (moreI (rs.take q) o) ∧ RdI wr (fun b => w.heap.size ≤ b ∧ b < wr.heap.size) (.slice Ar rs.length cr) rs) (fun _ i _ => rs.length - (intOf i).toNat)
                case atStart => exact ⟨0, Nat.zero_le _, rfl, Xt6.out, Xt6.out, Xhrd.out⟩
                case round =>
                  clear Xt6 Xhrd
                  obtain ⟨q, hq, rfl, t, tm, hrd⟩ := hrel
                  obtain ⟨Am, nm, cm, rfl, -⟩ := id tm.ro
                  obtain ⟨hnm, hnmc, hcmm, -⟩ := RdIt.at_ tm.ro
                  unfold maxLen at hcmm
                  have okm := Xok.out.more Xhy.out.symm (Xok.out.sound _ (List.mem_of_getElem? Xhx.out)) (rs.take q) (fun r hr => Xhrm.out r (List.mem_of_mem_take hr))
                  by_cases hlq : q < rs.length
                  · have hlq' : (q : Int) < (rs.length : Int) := by omega
                    obtain ⟨-, -, -, hcr⟩ := RdI.at_ hrd
                    obtain ⟨b2, o2, rfl, hb2, hc2⟩ := hcr (by omega)
                    obtain ⟨r, hr⟩ : ∃ r, rs[q]? = some r := ⟨_, List.getElem?_eq_getElem hlq⟩
                    have hcr2 := hc2 q r hr
                    have hbm := okm.bound
                    have cp := ref12_Put tm.ro (fun q hq => hq.2) (r, 0) (by have := Xhal.out; omega) tm.rn
                    have hnext : moreI (rs.take (q + 1)) o = putI (r, 0) (moreI (rs.take q) o) := by rw [List.take_add_one, hr]; exact more_snoc _ _ _
                    clear hc2 hcr hbm
                    have Xt := hide t
                    have Xtm := hide tm
                    have Xhrd := hide hrd
                    have Xhr := hide hr
                    have Xcp := hide cp
                    have Xhnext := hide hnext
                    have Xokm := hide okm
                    have Xhnm := hide hnm
                    clear t tm hrd hr cp hnext okm hnm
                    go_wp2_with fail
                    refine Xcp.out.mono ?_
                    rintro e w7 hp
                    have b7 : Below wr.heap.size wr w7 := by obtain ⟨_, _, _, -, -, hb⟩ := hp; exact hb
                    obtain ⟨A7, n7, c7, rfl, t7⟩ := Xtm.out.put hp
                    have t8 := Xt.out.below b7
                    have hrd8 := (Xhrd.out.below b7 (fun k hk => hk.2)).mono (fun k hk => (⟨hk.1, Nat.lt_of_lt_of_le hk.2 b7.size⟩ : w.heap.size ≤ k ∧ k < w7.heap.size))
                    clear hp hcr2 Xt Xtm Xhrd Xcp b7
                    have Xt7 := hide t7
                    have Xt8 := hide t8
                    have Xhrd8 := hide hrd8
                    clear t7 t8 hrd8
                    go_wp2_with fail
                    go_roundw
                    case rel => exact ⟨q + 1, by omega, by go_num, Xt8.out, by rw [Xhnext.out]; exact Xt7.out, Xhrd8.out⟩
                    case measure => simp [intOf]; omega
                  · have hlq' : ¬ (q : Int) < (rs.length : Int) := by omega
                    have hrt : rs.take q = rs := List.take_of_length_le (by omega)
                    rw [hrt] at tm okm hnm
                    by_cases hsame : nm = nu
                    · have hsame' : ((nm : Int) != (nu : Int)) = false := by simp; omega
                      have hml := (more_len rs Xok.out.strict).2 (by rw [← hnm, hsame, Xhnu.out])
                      have hd2 : ∀ (j : Nat) (y : It), j < k + 1 → o[j]? = some y → DoneI G st o y := fun j y hj hjy => by
                        by_cases e : j = k
                        · subst e; rw [Xhx.out] at hjy; injection hjy with hjy
                          intro s' r' hs' hr'
                          rw [← hjy, ← Xhy.out] at hs'
                          injection hs' with hs' _
                          subst hs'
                          exact hml.2 r' (by rw [Xhrs.out]; exact hr')
                        · exact Xhd.out j y (by omega) hjy
                      clear hml
                      have Xt := hide t
                      have Xtm := hide tm
                      have Xhrd := hide hrd
                      have Xokm := hide okm
                      have Xhnm := hide hnm
                      have Xhd2 := hide hd2
                      have Xhsame := hide hsame
                      have Xhrt := hide hrt
                      clear t tm hrd okm hnm hd2 hsame hrt
                      go_wp2_with fail
                      go_roundw
                      case rel => exact ⟨k + 1, by omega, rfl, by go_num, Xt.out, Xhd2.out⟩
                      case measure => simp [intOf]; omega
                    · have hsame' : ((nm : Int) != (nu : Int)) = true := by simp; omega
                      have hlt2 := more_miss_lt (st := st) Xok.out.strict Xhrm.out (by rw [← hnm, ← Xhnu.out]; exact hsame)
                      have hm : missI G st (moreI rs o) + 1 < gk := by have := Xhκ.out; omega
                      have hb2 : ∀ z ∈ l, rightI G st z = true → z ∈ moreI rs o := fun z hz hr => more_sub rs (Xhbase.out z hz hr)
                      have hne : (nu : Int) ≠ (moreI rs o).length := by rw [← hnm]; omega
                      clear hlt2
                      have Xt := hide t
                      have Xtm := hide tm
                      have Xhrd := hide hrd
                      have Xokm := hide okm
                      have Xhnm := hide hnm
                      have Xhm := hide hm
                      have Xhsame := hide hsame
                      have Xhrt := hide hrt
                      have Xhb2 := hide hb2
                      have Xhne := hide hne
                      clear t tm hrd okm hnm hm hsame hrt hb2 hne
                      go_wp2_with fail
                      go_roundg (missI G st (moreI rs o) + 1)
                      case measure => exact Xhm.out
                      case rel => exact ⟨moreI rs o, nu, rfl, Xtm.out, Xokm.out, Xhb2.out, fun e => absurd e Xhne.out, fun _ => Nat.le_refl _⟩
            · have hlt' : ¬ (k : Int) < (nu : Int) := by omega
              have hall2 : ∀ y ∈ o, DoneI G st o y := fun y hy => by
                obtain ⟨j, hj, e⟩ := List.getElem_of_mem hy
                exact hd j y (by have := Xhnu.out; omega) (by rw [List.getElem?_eq_getElem hj, e])
              have hgk : 0 < gk := by have := Xhκ.out; omega
              clear hd
              have Xt := hide t
              have Xhall2 := hide hall2
              have Xhgk := hide hgk
              clear t hall2 hgk
              go_wp2_with fail
              go_roundg 0
              case measure => exact Xhgk.out
              case rel => exact ⟨o, nu, rfl, Xt.out, Xok.out, Xhbase.out, fun _ => Xhall2.out, fun e => absurd (by rw [Xhnu.out]) e⟩
end Go.Proofs.YtlpokomfljmogaaGreat

/- The statement AutoEntered: the walk. -/
import Derived.Test.YtlpokomfljmogaaAutoEnters
import Derived.Test.YtlpokomfljmogaaAuto21
import Derived.Test.YtlpokomfljmogaaAuto18
import Derived.Test.YtlpokomfljmogaaG9
import Derived.Test.YtlpokomfljmogaaStOpen
namespace Go.Proofs.Ytlpokomfljmogaa
set_option linter.unusedVariables false
set_option linter.unusedSimpArgs false
open Go.RowKit
attribute [local irreducible] wpStill wpOne wpPh

/-- what Build answers: the error, the states -/
def AutoIs (G : GramD) (st ck ev : Int) (D : List (List It × List It)) : Prop :=
  (ck ≠ 0 ∧ ev = ck ∧ D = []) ∨ (ck = 0 ∧ Auto G st none ∧ ev = 7 ∧ D = []) ∨ (ck = 0 ∧ ∃ L T, Auto G st (some (L, T)) ∧ ev = 0 ∧ D = stD L T)
theorem AutoPost.flat {w w' : World} {G : GramD} {st ck : Int} {e : Ending} (h : AutoPost w G st ck e w') : Below w.heap.size w w' ∧ ∃ A n c ev D, e = .returned (.tuple #[.slice A n c, .int .i64 ev]) ∧ RdSt w' (fun b => w.heap.size ≤ b ∧ b < w'.heap.size) (.slice A n c) D ∧ AutoIs G st ck ev D := by
  obtain ⟨hb, ⟨hc, rfl⟩ | ⟨hc, ha, rfl⟩ | ⟨hc, L, T, A, n, c, ha, rfl, rd⟩⟩ := h
  · exact ⟨hb, none, 0, 0, ck, [], rfl, RdSt.nil _ _, .inl ⟨hc, rfl, rfl⟩⟩
  · exact ⟨hb, none, 0, 0, 7, [], rfl, RdSt.nil _ _, .inr (.inl ⟨hc, ha, rfl, rfl⟩)⟩
  · exact ⟨hb, A, n, c, 0, stD L T, rfl, rd, .inr (.inr ⟨hc, L, T, ha, rfl, rfl⟩)⟩
theorem AutoIs.bld {G : GramD} {st ck : Int} {D : List (List It × List It)} (h : AutoIs G st ck 0 D) : ck = 0 ∧ ∃ L T, BldF G st L.length L T ∧ D = stD L T := by
  rcases h with ⟨h1, h2, -⟩ | ⟨-, -, h2, -⟩ | ⟨h0, L, T, h1, -, h2⟩
  · exact absurd h2.symm h1
  · exact absurd h2 (by decide)
  · cases h1 with
    | ok _ _ hb => exact ⟨h0, L, T, hb.f, h2⟩
theorem AutoIs.nil {G : GramD} {st ck ev : Int} {D : List (List It × List It)} (h : AutoIs G st ck ev D) (he : ev ≠ 0) : D = [] := by
  rcases h with ⟨-, -, h⟩ | ⟨-, -, -, h⟩ | ⟨-, L, T, -, h, -⟩
  · exact h
  · exact h
  · exact absurd h he
/-- a state's items, its ways -/
theorem BldF.at_ {G : GramD} {st : Int} {L T : List (List It)} (h : BldF G st L.length L T) {k : Nat} {d : List It × List It} (hd : (stD L T)[k]? = some d) : L[k]? = some d.1 ∧ T[k]? = some d.2 := by
  rw [stD_get] at hd
  obtain ⟨q, hq, rfl⟩ := Option.map_eq_some_iff.1 hd
  refine ⟨hq, ?_⟩
  have hk : k < T.length := by rw [h.len]; exact (List.getElem?_eq_some_iff.1 hq).1
  simp only [List.getElem?_eq_getElem hk, Option.getD_some]
theorem enter_nx {G : GramD} {st s : Int} {k : List It} : EnterI G st (nxI G st k s) s := by
  intro x hx
  obtain ⟨y, -, hb, rfl⟩ := ((nx_is G st k s).2 x).1 hx
  obtain ⟨h1, h2, h3⟩ := behind_right hb
  unfold rightI at h1
  simp only [Bool.and_eq_true, decide_eq_true_eq] at h1
  refine ⟨(ruleOf G st y.1).1.1, (ruleOf G st y.1).1.2, y.2.toNat, ?_, ?_, h3⟩
  · rw [← h1.1]
  · simp only; omega
structure EntF (G : GramD) (st : Int) (D : List (List It × List It)) : Prop where
  mem : ∀ (k : Nat) d, D[k]? = some d → ∀ s to : Int, ((s, to) : It) ∈ d.2 → ∃ t : Nat, to = t ∧ t < D.length ∧ ∀ d', D[t]? = some d' → EnterI G st d'.1 s
  early : ∀ n : Nat, 0 < n → n < D.length → ∃ (k : Nat) (d : List It × List It) (s : Int), k < n ∧ D[k]? = some d ∧ ((s, (n : Int)) : It) ∈ d.2
  some_ : ∀ (k : Nat) d, D[k]? = some d → d.1 ≠ []
theorem AutoIs.entF {G : GramD} {st ck : Int} {D : List (List It × List It)} (h : AutoIs G st ck 0 D) : EntF G st D := by
  obtain ⟨-, L, T, hb, rfl⟩ := h.bld
  refine ⟨fun k d hd s to hm => ?_, fun n h0 h1 => ?_, fun k d hd => ?_⟩
  · obtain ⟨e1, e2⟩ := hb.at_ hd
    obtain ⟨-, -, -, h4, h5⟩ := hb.mem k d.2 d.1 e2 e1 s to hm
    refine ⟨to.toNat, by omega, by rw [stD_len]; exact (List.getElem?_eq_some_iff.1 h5).1, fun d' hd' => ?_⟩
    obtain ⟨e3, -⟩ := hb.at_ hd'
    rw [h5] at e3
    injection e3 with e3
    rw [← e3]
    exact enter_nx
  · rw [stD_len] at h1
    obtain ⟨j, t, s, a, b, c, d⟩ := hb.early n h0 h1
    have hjl : j < L.length := by omega
    refine ⟨j, (L[j], t), s, a, ?_, d⟩
    rw [stD_get, List.getElem?_eq_getElem hjl, c]
    rfl
  · obtain ⟨e1, -⟩ := hb.at_ hd
    rcases hb.kind d.1 (List.mem_of_getElem? e1) with h | ⟨q, s, -, h⟩
    · rw [h]; simp
    · exact h
/-- what is known in each later world -/
structure EntS (w : World) (F : Nat → Prop) (A1 : Option Addr) (c1 : Nat) (A2 : Option Addr) (c2 : Nat) (A3 : Option Addr) (c3 T N R : Nat) (st : Int) (G : GramD) (A : Option Addr) (n c : Nat) (D : List (List It × List It)) (wr : World) : Prop where
  g : IsGram wr F (.slice A1 T c1) (.slice A2 N c2) (.slice A3 R c3) G
  k : Blk wr w.heap.size 36 #[.slice A1 T c1, .slice A2 N c2, .slice A3 R c3, .int .i64 st]
  rd : RdSt wr (fun b => b < wr.heap.size) (.slice A n c) D
  le : Below w.heap.size w wr
section
variable {w : World} {F : Nat → Prop} {A1 : Option Addr} {c1 : Nat} {A2 : Option Addr} {c2 : Nat} {A3 : Option Addr} {c3 T N R : Nat} {st : Int} {G : GramD} {A : Option Addr} {n c : Nat} {D : List (List It × List It)} {wr wq : World}
theorem EntS.next (h : EntS w F A1 c1 A2 c2 A3 c3 T N R st G A n c D wr) (b : Below wr.heap.size wr wq) : EntS w F A1 c1 A2 c2 A3 c3 T N R st G A n c D wq :=
  ⟨h.g.below b, h.k.below b h.k.lt, (h.rd.below b (fun b hb => hb)).mono (fun z hz => Nat.lt_of_lt_of_le hz b.size), h.le.trans (b.mono h.le.size)⟩
theorem EntS.cells (h : EntS w F A1 c1 A2 c2 A3 c3 T N R st G A n c D wr) : wr.cell? ⟨w.heap.size, 0, none⟩ = some (.slice A1 T c1) ∧ wr.cell? ⟨w.heap.size, 1, none⟩ = some (.slice A2 N c2) ∧ wr.cell? ⟨w.heap.size, 2, none⟩ = some (.slice A3 R c3) ∧ wr.cell? ⟨w.heap.size, 3, none⟩ = some (.int .i64 st) :=
  ⟨(h.k.cell 0).trans rfl, (h.k.cell 1).trans rfl, (h.k.cell 2).trans rfl, (h.k.cell 3).trans rfl⟩
end
set_option maxRecDepth 100000 in
set_option maxHeartbeats 4000000 in
theorem walk_AutoEntered (C : Array Value) (G : GramD) (w : World) (hg : GramCells w C.toList G) :
    Calls Try.prog 4 #[.agg C] w (Quiet w (.bool true)) := by
  obtain ⟨vt, vn, vr, hC, hg, -⟩ := hg
  obtain rfl : C = #[vt, vn, vr, .int .i64 G.start] := Array.toList_inj.1 hC
  clear hC
  generalize G.start = st at *
  obtain ⟨A1, c1, A2, c2, A3, c3, rfl, rfl, rfl, -⟩ := hg.slices
  obtain ⟨w1, hw1⟩ : ∃ w1, w1 = w.alloc (.cells #[.slice A1 G.terms.length c1, .slice A2 G.nons.length c2, .slice A3 G.rules.length c3, .int .i64 st] 36) := ⟨_, rfl⟩
  have g1 := GBox.new hg st
  have b1 : Below w.heap.size w w1 := by rw [hw1]; exact (Below.refl _ w).alloc (Nat.le_refl _) _
  rw [← hw1] at g1
  have hm := law_much g1.gram st
  have cb := fun wr (g : GBox wr (· < w.heap.size) w.heap.size A1 c1 A2 c2 A3 c3 G.terms.length G.nons.length G.rules.length st G) => auto_build g.gram g.gram.lt st
  obtain ⟨q0, q1, q2, q3⟩ := g1.cells
  generalize G.terms.length = T at *
  generalize G.nons.length = N at *
  generalize G.rules.length = R at *
  obtain ⟨F, hF⟩ : ∃ F : Nat → Prop, F = fun b => b < w.heap.size := ⟨_, rfl⟩
  rw [← hF] at g1 cb
  rw [hw1] at q0 q1 q2 q3 hm
  clear hg hF
  generalize checkOf G st = ck at *
  have Xhm := hide hm
  have Xcb := hide cb
  have Xg1 := hide g1
  have Xb1 := hide b1
  clear hm cb g1 b1
  go_enter Try.func4, Try.ntmps4
  go_wp2_with fail
  refine Xhm.out.mono ?_
  rintro e w2 ⟨r, hr, rfl, b2⟩
  rw [← hw1] at b2
  have g2 := Xg1.out.below b2
  have bb2 := Xb1.out.trans (b2.mono Xb1.out.size)
  clear q0 q1 q2 q3 hw1 Xhm Xg1 Xb1 b2 hr
  by_cases hbig : 60 < r
  · have Xbb2 := hide bb2
    have Xg2 := hide g2
    clear bb2 g2
    go_wp2_with fail
    refine (law13_awake _).mono ?_
    rintro e w3 ⟨rfl, b3⟩
    have bb3 := Xbb2.out.trans (b3.mono Xbb2.out.size)
    clear b3
    have Xbb3 := hide bb3
    clear bb3
    go_wp2_with fail
    go_ret
    exact ⟨rfl, Xbb3.out⟩
  · have c2' := Xcb.out _ g2
    obtain ⟨q0, q1, q2, q3⟩ := g2.cells
    have Xbb2 := hide bb2
    have Xg2 := hide g2
    have Xc2' := hide c2'
    clear bb2 g2 c2'
    go_wp2_with fail
    refine Xc2'.out.mono ?_
    rintro e w3 hp
    obtain ⟨b3, A, n, c, ev, D, rfl, rd3, hai⟩ := hp.flat
    have g3 := Xg2.out.below b3
    have bb3 := Xbb2.out.trans (b3.mono Xbb2.out.size)
    have rd3 := rd3.mono (F' := fun b => b < w3.heap.size) (fun b hb => hb.2)
    clear q0 q1 q2 q3 hp Xc2' Xg2 Xbb2 b3
    by_cases hev : ev = 0
    · subst hev
      have hf := hai.entF
      obtain ⟨hn, hnc, hcm, -⟩ := rd3.at_
      unfold maxLen at hcm
      have t : EntS w F A1 c1 A2 c2 A3 c3 T N R st G A n c D w3 := ⟨g3.gram, g3.blk, rd3, bb3⟩
      clear g3 rd3 bb3 hai
      have Xt := hide t
      have Xhn := hide hn
      have Xhf := hide hf
      clear t hn hf
      go_wp2_with fail
      go_loopw [5] (fun i wr => ∃ a : Nat, a ≤ n ∧ i = .int .i64 a ∧ EntS w F A1 c1 A2 c2 A3 c3 T N R st G A n c D wr) (fun i _ => n - (intOf i).toNat)
      case atStart => exact ⟨0, Nat.zero_le _, rfl, Xt.out⟩
      case round =>
        clear Xt
        obtain ⟨a, ha, rfl, t⟩ := hrel
        by_cases hlta : a < n
        · have hlta' : (a : Int) < (n : Int) := by omega
          obtain ⟨da, hda⟩ : ∃ x, D[a]? = some x := ⟨_, List.getElem?_eq_getElem (by rw [← Xhn.out]; exact hlta)⟩
          have E0 : a = 0 → decide ((a : Int) = 0) = true := fun h => decide_eq_true (by omega)
          have hb0 : ((a : Int) == 0) = decide ((a : Int) = 0) := by rw [Bool.eq_iff_iff]; simp
          generalize decide ((a : Int) = 0) = e0 at *
          have Xt := hide t
          have Xhda := hide hda
          have XE0 := hide E0
          clear t hda E0
          go_wp2_with fail
          go_loopw [6, 7] (fun e i wr => ∃ (e1 : Bool) (k : Nat), k ≤ n ∧ i = .int .i64 k ∧ e = .bool e1 ∧ ((a = 0 → e1 = true) ∧ ∀ (k' : Nat) d y, k' < k → k' < a → D[k']? = some d → y ∈ d.2 → y.2 = (a : Int) → e1 = true) ∧ EntS w F A1 c1 A2 c2 A3 c3 T N R st G A n c D wr) (fun _ i _ => n - (intOf i).toNat)
          case atStart => exact ⟨e0, 0, Nat.zero_le _, rfl, rfl, ⟨XE0.out, fun k' d y h => absurd h (by omega)⟩, Xt.out⟩
          case round =>
            clear Xt
            obtain ⟨e1, k, hk, rfl, rfl, E1, t⟩ := hrel
            by_cases hltk : k < n
            · have hltk' : (k : Int) < (n : Int) := by omega
              obtain ⟨dk, hdk⟩ : ∃ x, D[k]? = some x := ⟨_, List.getElem?_eq_getElem (by rw [← Xhn.out]; exact hltk)⟩
              have Xt := hide t
              have Xhdk := hide hdk
              have XE1 := hide E1
              clear t hdk E1
              go_wp2_with fail
              go_loopw [6, 8] (fun e i wr => ∃ (e2 : Bool) (j : Nat), j ≤ dk.2.length ∧ i = .int .i64 j ∧ e = .bool e2 ∧ ((e1 = true → e2 = true) ∧ ∀ (q : Nat) y, q < j → k < a → dk.2[q]? = some y → y.2 = (a : Int) → e2 = true) ∧ EntS w F A1 c1 A2 c2 A3 c3 T N R st G A n c D wr) (fun _ i _ => dk.2.length - (intOf i).toNat)
              case atStart => exact ⟨e1, 0, Nat.zero_le _, rfl, rfl, ⟨id, fun q y h => absurd h (by omega)⟩, Xt.out⟩
              case round =>
                clear Xt
                obtain ⟨e2, j, hj, rfl, rfl, E2, t⟩ := hrel
                obtain ⟨-, -, -, hcell⟩ := t.rd.at_
                obtain ⟨bS, oS, rfl, -, hcs⟩ := hcell (by omega)
                obtain ⟨z1, z2, v1, v2, r1, r2⟩ := hcs k dk Xhdk.out
                obtain ⟨y1, y2, u1, u2, s1, s2⟩ := hcs a da Xhda.out
                obtain ⟨A5, n5, c5, rfl, -⟩ := id r2
                obtain ⟨hn5, hnc5, hcm5, hcell5⟩ := RdIt.at_ r2
                unfold maxLen at hcm5
                clear hcell hcs r1
                by_cases hltj : j < dk.2.length
                · have hltj' : (j : Int) < (n5 : Int) := by omega
                  have hltj2 : j < n5 := by omega
                  obtain ⟨b5, o5, rfl, -, hcc5⟩ := hcell5 (by omega)
                  obtain ⟨⟨s, to⟩, hy⟩ : ∃ y, dk.2[j]? = some y := ⟨_, List.getElem?_eq_getElem hltj⟩
                  obtain ⟨p0, p1⟩ := hcc5 j _ hy
                  simp only at p0 p1
                  obtain ⟨tt, rfl, htn, hent⟩ := Xhf.out.mem k dk Xhdk.out s to (List.mem_of_getElem? hy)
                  rw [← Xhn.out] at htn
                  have hd1 : decide ((tt : Int) < 0) = false := decide_eq_false (by omega)
                  have hd2 : decide ((tt : Int) ≥ (n : Int)) = false := decide_eq_false (by omega)
                  obtain ⟨A4, n4, c4, rfl, -⟩ := id s1
                  obtain ⟨-, hnc4, hcm4, -⟩ := RdIt.at_ s1
                  unfold maxLen at hcm4
                  have bW : Below wr.heap.size wr (wr.alloc (.cells #[.int .i64 s, .int .i64 (tt : Int)] 42)) := (Below.refl _ _).alloc (Nat.le_refl _) _
                  have kW : Blk (wr.alloc (.cells #[.int .i64 s, .int .i64 (tt : Int)] 42)) wr.heap.size 42 #[.int .i64 s, .int .i64 (tt : Int)] := Blk.new _ _ _
                  have tW := t.next bW
                  clear hcell5 hcc5 r2
                  by_cases hta : tt = a
                  · have hta' := hta.symm
                    subst hta'
                    have hent := hent da Xhda.out
                    have ce : ∀ wq, Below wr.heap.size wr wq → Calls Try.prog 15 #[GV (.slice A1 T c1) (.slice A2 N c2) (.slice A3 R c3) st, .slice A4 n4 c4, .int .i64 s] wq (Quiet wq (.bool true)) := fun wq b => law13_enters (t.g.below b) st (s1.below b (fun z hz => hz)) (fun z hz => Nat.lt_of_lt_of_le hz b.size) s hent
                    have cW := ce _ bW.drew
                    obtain ⟨q0, q1, q2, q3⟩ := t.cells
                    have E3 : ∀ e : Bool, (e2 = true → e = true) → (k < a → e = true) → (e1 = true → e = true) ∧ ∀ (q : Nat) y, q < j + 1 → k < a → dk.2[q]? = some y → y.2 = (a : Int) → e = true := fun e h1 h2 => ⟨fun h => h1 (E2.1 h), fun q y _ hk _ _ => h2 hk⟩
                    clear E2 hent ce s1 s2
                    have Xt := hide t
                    have XtW := hide tW
                    have Xhy := hide hy
                    have XcW := hide cW
                    have XE3 := hide E3
                    have Xhn5 := hide hn5
                    have XbW := hide bW
                    have XkW := hide kW
                    clear t tW hy cW E3 hn5 bW kW
                    cases e2 with
                    | true =>
                      go_wp2_with fail
                      have u1W := (XbW.out.cell (World.block_lt_of_cell? _ _ u1)).trans u1
                      clear q0 q1 q2 q3 u1 u2 v1 v2 p0 p1
                      generalize wr.alloc (.cells #[.int .i64 s, .int .i64 (a : Int)] 42) = W at *
                      obtain ⟨q0, q1, q2, q3⟩ := XtW.out.cells
                      have f0 := (XkW.out.cell 0).trans rfl
                      refine region_tail 8 (by kernel_rfl) (by kernel_rfl) ?_
                      simp only [List.take_succ_cons, List.take_zero, List.drop_succ_cons, List.drop_zero]
                      repeat still_step
                      refine wpStill_nil ?_
                      go_wp2_with fail
                      with_reducible refine XcW.out.mono ?_
                      rintro e w7 ⟨rfl, b7⟩
                      have t7 := XtW.out.next (((Below.refl _ _).drew).trans (b7.mono (Nat.le_refl _)))
                      clear b7 XcW XtW q0 q1 q2 q3
                      have Xt7 := hide t7
                      clear t7
                      go_wp2_with fail
                      go_roundw
                      case rel => exact ⟨true, j + 1, by omega, by go_num, rfl, XE3.out _ (fun _ => rfl) (fun _ => rfl), Xt7.out⟩
                      case measure => simp [intOf]; omega
                    | false =>
                      go_wp2_with fail
                      have u1W := (XbW.out.cell (World.block_lt_of_cell? _ _ u1)).trans u1
                      clear q0 q1 q2 q3 u1 u2 v1 v2 p0 p1
                      generalize wr.alloc (.cells #[.int .i64 s, .int .i64 (a : Int)] 42) = W at *
                      obtain ⟨q0, q1, q2, q3⟩ := XtW.out.cells
                      have f0 := (XkW.out.cell 0).trans rfl
                      refine region_tail 8 (by kernel_rfl) (by kernel_rfl) ?_
                      simp only [List.take_succ_cons, List.take_zero, List.drop_succ_cons, List.drop_zero]
                      repeat still_step
                      refine wpStill_nil ?_
                      go_wp2_with fail
                      with_reducible refine XcW.out.mono ?_
                      rintro e w7 ⟨rfl, b7⟩
                      have t7 := XtW.out.next (((Below.refl _ _).drew).trans (b7.mono (Nat.le_refl _)))
                      clear b7 XcW XtW q0 q1 q2 q3
                      have Xt7 := hide t7
                      clear t7
                      go_wp2_with fail
                      go_roundw
                      case rel => exact ⟨(decide (k < a)), j + 1, by omega, by go_num, rfl, XE3.out _ (fun h => (by cases h)) (fun h => decide_eq_true h), Xt7.out⟩
                      case measure => simp [intOf]; omega
                  · have hne : ((tt : Int) != (a : Int)) = true := by simp; omega
                    have E3 : (e1 = true → e2 = true) ∧ ∀ (q : Nat) y, q < j + 1 → k < a → dk.2[q]? = some y → y.2 = (a : Int) → e2 = true := ⟨E2.1, fun q y h1 h2 h3 h4 => by
                      by_cases e : q = j
                      · subst e
                        rw [hy] at h3
                        injection h3 with h3
                        subst h3
                        simp only at h4
                        exact absurd (by omega) hta
                      · exact E2.2 q y (by omega) h2 h3 h4⟩
                    clear E2 hent s1 s2
                    have Xt := hide t
                    have XtW := hide tW
                    have Xhy := hide hy
                    have XE3 := hide E3
                    have Xhn5 := hide hn5
                    have XbW := hide bW
                    have XkW := hide kW
                    have Xhta := hide hta
                    clear t tW hy E3 hn5 bW kW hta
                    go_wp2_with fail
                    go_roundw
                    case rel => exact ⟨e2, j + 1, by omega, by go_num, rfl, XE3.out, XtW.out⟩
                    case measure => simp [intOf]; omega
                · have hltj' : ¬ (j : Int) < (n5 : Int) := by omega
                  have E3 : (a = 0 → e2 = true) ∧ ∀ (k' : Nat) d y, k' < k + 1 → k' < a → D[k']? = some d → y ∈ d.2 → y.2 = (a : Int) → e2 = true := ⟨fun h => E2.1 (XE1.out.1 h), fun k' d y h1 h2 h3 h4 h5 => by
                    by_cases e : k' = k
                    · subst e
                      rw [Xhdk.out] at h3
                      injection h3 with h3
                      subst h3
                      obtain ⟨q, hq, e⟩ := List.getElem_of_mem h4
                      exact E2.2 q y (by omega) h2 (by rw [List.getElem?_eq_getElem hq, e]) h5
                    · exact E2.1 (XE1.out.2 k' d y (by omega) h2 h3 h4 h5)⟩
                  clear E2 hcell5 r2 s1 s2
                  have Xt := hide t
                  have XE3 := hide E3
                  have Xhn5 := hide hn5
                  clear t E3 hn5
                  go_wp2_with fail
                  go_roundw
                  case rel => exact ⟨e2, k + 1, by omega, by go_num, rfl, XE3.out, Xt.out⟩
                  case measure => simp [intOf]; omega
            · have hltk' : ¬ (k : Int) < (n : Int) := by omega
              have he1 : e1 = true := by
                by_cases h0 : a = 0
                · exact E1.1 h0
                · obtain ⟨k', d, s, h1, h2, h3⟩ := Xhf.out.early a (by omega) (by rw [← Xhn.out]; exact hlta)
                  exact E1.2 k' d _ (by omega) h1 h2 h3 rfl
              subst he1
              obtain ⟨-, -, -, hcell⟩ := t.rd.at_
              obtain ⟨bS, oS, rfl, -, hcs⟩ := hcell (by omega)
              obtain ⟨y1, y2, u1, u2, s1, s2⟩ := hcs a da Xhda.out
              obtain ⟨A4, n4, c4, rfl, -⟩ := id s1
              obtain ⟨hn4, hnc4, hcm4, -⟩ := RdIt.at_ s1
              unfold maxLen at hcm4
              have hz : ((n4 : Int) == 0) = false := by
                have h1 := Xhf.out.some_ a da Xhda.out
                have h2 : da.1.length ≠ 0 := fun e => h1 (List.eq_nil_of_length_eq_zero e)
                simp
                omega
              clear hcell hcs s1 s2 E1
              have Xt := hide t
              have Xhn4 := hide hn4
              clear t hn4
              go_wp2_with fail
              go_roundw
              case rel => exact ⟨a + 1, by omega, by go_num, Xt.out⟩
              case measure => simp [intOf]; omega
        · have hlta' : ¬ (a : Int) < (n : Int) := by omega
          have Xt := hide t
          clear t
          go_wp2_with fail
          have t := Xt.out
          refine (law13_awake _).mono ?_
          rintro e w9 ⟨rfl, b9⟩
          have bb9 := t.le.trans (b9.mono t.le.size)
          clear b9
          have Xbb9 := hide bb9
          clear bb9
          go_wp2_with fail
          go_ret
          exact ⟨rfl, Xbb9.out⟩
    · have hD := hai.nil hev
      subst hD
      obtain rfl : n = 0 := rd3.at_.1
      have hee : (ev != 0) = true := by simpa using hev
      clear g3 rd3 hai hev
      have Xbb3 := hide bb3
      clear bb3
      go_wp2_with fail
      refine (law13_awake _).mono ?_
      rintro e w9 ⟨rfl, b9⟩
      have bb9 := Xbb3.out.trans (b9.mono Xbb3.out.size)
      clear b9
      have Xbb9 := hide bb9
      clear bb9
      go_wp2_with fail
      go_ret
      exact ⟨rfl, Xbb9.out⟩
end Go.Proofs.Ytlpokomfljmogaa

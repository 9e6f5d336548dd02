/- The statement AutoBuilds: the walk. -/
import Derived.Test.YtlpokomfljmogaaGreatAuto21
import Derived.Test.YtlpokomfljmogaaGreatAuto16
import Derived.Test.YtlpokomfljmogaaGreatAuto18
import Derived.Test.YtlpokomfljmogaaGreatG9
namespace Go.Proofs.YtlpokomfljmogaaGreat
set_option linter.unusedVariables false
set_option linter.unusedSimpArgs false
open Go.RowKit
attribute [local irreducible] wpStill wpOne wpPh

/-- what Build answers: the error, the states -/
def AutoIs (G : GramD) (st ck ev : Int) (D : List (List It × List It)) : Prop :=
  (ck ≠ 0 ∧ ev = ck ∧ D = []) ∨ (ck = 0 ∧ Auto G st none ∧ ev = 7 ∧ D = []) ∨ (ck = 0 ∧ ∃ L T, Auto G st (some (L, T)) ∧ ev = 0 ∧ D = stD L T)
theorem AutoIs.unique {G : GramD} {st ck ev ev' : Int} {D D' : List (List It × List It)} (h : AutoIs G st ck ev D) (h' : AutoIs G st ck ev' D') : ev = ev' ∧ D = D' := by
  rcases h with ⟨h1, rfl, rfl⟩ | ⟨h1, h2, rfl, rfl⟩ | ⟨h1, L, T, h2, rfl, rfl⟩
  · rcases h' with ⟨-, rfl, rfl⟩ | ⟨h3, -⟩ | ⟨h3, -⟩
    · exact ⟨rfl, rfl⟩
    · exact absurd h3 h1
    · exact absurd h3 h1
  · rcases h' with ⟨h3, -⟩ | ⟨-, -, rfl, rfl⟩ | ⟨-, L, T, h3, -⟩
    · exact absurd h1 h3
    · exact ⟨rfl, rfl⟩
    · have := h2.unique h3; cases this
  · rcases h' with ⟨h3, -⟩ | ⟨-, h3, -⟩ | ⟨-, L', T', h3, rfl, rfl⟩
    · exact absurd h1 h3
    · have := h2.unique h3; cases this
    · have := h2.unique h3
      injection this with this
      injection this with e1 e2
      subst e1 e2
      exact ⟨rfl, rfl⟩
theorem AutoPost.flat {w w' : World} {G : GramD} {st ck : Int} {e : Ending} (h : AutoPost w G st ck e w') : Below w.heap.size w w' ∧ ∃ A n c ev D, e = .returned (.tuple #[.slice A n c, .int .i64 ev]) ∧ RdSt w' (fun b => w.heap.size ≤ b ∧ b < w'.heap.size) (.slice A n c) D ∧ AutoIs G st ck ev D := by
  obtain ⟨hb, ⟨hc, rfl⟩ | ⟨hc, ha, rfl⟩ | ⟨hc, L, T, A, n, c, ha, rfl, rd⟩⟩ := h
  · exact ⟨hb, none, 0, 0, ck, [], rfl, RdSt.nil _ _, .inl ⟨hc, rfl, rfl⟩⟩
  · exact ⟨hb, none, 0, 0, 7, [], rfl, RdSt.nil _ _, .inr (.inl ⟨hc, ha, rfl, rfl⟩)⟩
  · exact ⟨hb, A, n, c, 0, stD L T, rfl, rd, .inr (.inr ⟨hc, L, T, ha, rfl, rfl⟩)⟩
set_option maxRecDepth 100000 in
set_option maxHeartbeats 4000000 in
theorem walk_AutoBuilds (C : Array Value) (G : GramD) (w : World) (hg : GramCells w C.toList G) :
    Calls Tryz.prog 6 #[.agg C] w (Quiet w (.bool true)) := by
  obtain ⟨vt, vn, vr, hC, hg, -⟩ := hg
  obtain rfl : C = #[vt, vn, vr, .int .i64 G.start] := Array.toList_inj.1 hC
  clear hC
  generalize G.start = st at *
  obtain ⟨A1, c1, A2, c2, A3, c3, rfl, rfl, rfl, -⟩ := hg.slices
  obtain ⟨w1, hw1⟩ : ∃ w1, w1 = w.alloc (.cells #[.slice A1 G.terms.length c1, .slice A2 G.nons.length c2, .slice A3 G.rules.length c3, .int .i64 st] 25) := ⟨_, rfl⟩
  have g1 := GBox.new hg st
  have b1 : Below w.heap.size w w1 := by rw [hw1]; exact (Below.refl _ w).alloc (Nat.le_refl _) _
  rw [← hw1] at g1
  have hm := law_much g1.gram st
  have cb := fun wr (g : GBox wr (· < w.heap.size) w.heap.size A1 c1 A2 c2 A3 c3 G.terms.length G.nons.length G.rules.length st G) => auto_build g.gram g.gram.lt st
  have rb := fun wr (g : GBox wr (· < w.heap.size) w.heap.size A1 c1 A2 c2 A3 c3 G.terms.length G.nons.length G.rules.length st G) => ref13_Build g.gram g.gram.lt st
  obtain ⟨q0, q1, q2, q3⟩ := g1.cells
  generalize G.terms.length = T at *
  generalize G.nons.length = N at *
  generalize G.rules.length = R at *
  obtain ⟨F, hF⟩ : ∃ F : Nat → Prop, F = fun b => b < w.heap.size := ⟨_, rfl⟩
  rw [← hF] at g1 cb rb
  rw [hw1] at q0 q1 q2 q3 hm
  clear hg hF
  generalize checkOf G st = ck at *
  have Xhm := hide hm
  have Xcb := hide cb
  have Xrb := hide rb
  have Xg1 := hide g1
  have Xb1 := hide b1
  clear hm cb rb g1 b1
  go_enter Tryz.func6, Tryz.ntmps6
  go_wp2_with fail
  refine Xhm.out.mono ?_
  rintro e w2 ⟨r, hr, rfl, b2⟩
  rw [← hw1] at b2
  have g2 := Xg1.out.below b2
  have bb2 := Xb1.out.trans (b2.mono Xb1.out.size)
  clear q0 q1 q2 q3 hw1 Xhm Xg1 Xb1 b2 hr
  by_cases hbig : 60 < r
  · have Xbb2 := hide bb2
    have Xg2 := hide g2
    clear bb2 g2
    go_wp2_with fail
    refine (law13_awake _).mono ?_
    rintro e w3 ⟨rfl, b3⟩
    have bb3 := Xbb2.out.trans (b3.mono Xbb2.out.size)
    clear b3
    have Xbb3 := hide bb3
    clear bb3
    go_wp2_with fail
    go_ret
    exact ⟨rfl, Xbb3.out⟩
  · have c2' := Xcb.out _ g2
    obtain ⟨q0, q1, q2, q3⟩ := g2.cells
    have Xbb2 := hide bb2
    have Xg2 := hide g2
    have Xc2' := hide c2'
    clear bb2 g2 c2'
    go_wp2_with fail
    refine Xc2'.out.mono ?_
    rintro e w3 hp
    obtain ⟨b3, Aa, na, ca, ev, D, rfl, rd3, hai⟩ := hp.flat
    have g3 := Xg2.out.below b3
    have bb3 := Xbb2.out.trans (b3.mono Xbb2.out.size)
    have rd3 := rd3.mono (F' := fun b => b < w3.heap.size) (fun b hb => hb.2)
    clear q0 q1 q2 q3 hp Xc2' Xg2 Xbb2 b3
    have c3' := Xrb.out _ g3
    obtain ⟨q0, q1, q2, q3⟩ := g3.cells
    have Xbb3 := hide bb3
    have Xg3 := hide g3
    have Xc3' := hide c3'
    have Xrd3 := hide rd3
    have Xhai := hide hai
    clear bb3 g3 c3' rd3 hai
    go_wp2_with fail
    refine Xc3'.out.mono ?_
    rintro e w4 hp
    obtain ⟨b4, Ab, nb, cb', ev', D', rfl, rd4, hai'⟩ := hp.flat
    have bb4 := Xbb3.out.trans (b4.mono Xbb3.out.size)
    have rd4 := rd4.mono (F' := fun b => b < w4.heap.size) (fun b hb => hb.2)
    have rd3 := (Xrd3.out.below b4 (fun b hb => hb)).mono (F' := fun b => b < w4.heap.size) (fun b hb => Nat.lt_of_lt_of_le hb b4.size)
    obtain ⟨rfl, rfl⟩ := Xhai.out.unique hai'
    clear q0 q1 q2 q3 hp Xc3' Xg3 Xbb3 b4 Xrd3
    have cs := ref13_Same rd3 (fun b hb => hb) rd4 (fun b hb => hb)
    rw [decide_eq_true rfl] at cs
    have hee : (ev == ev) = true := by simp
    clear hai' rd3 rd4
    have Xbb4 := hide bb4
    have Xcs := hide cs
    clear bb4 cs
    go_wp2_with fail
    with_reducible refine Xcs.out.mono ?_
    rintro e w5 ⟨rfl, b5⟩
    have bb5 := Xbb4.out.trans (b5.mono Xbb4.out.size)
    clear b5 Xcs Xbb4
    have Xbb5 := hide bb5
    clear bb5
    go_wp2_with fail
    refine (law13_awake _).mono ?_
    rintro e w6 ⟨rfl, b6⟩
    have bb6 := Xbb5.out.trans (b6.mono Xbb5.out.size)
    clear b6
    have Xbb6 := hide bb6
    clear bb6
    go_wp2_with fail
    go_ret
    exact ⟨rfl, Xbb6.out⟩
end Go.Proofs.YtlpokomfljmogaaGreat

/- The law LeastTells: the walk. -/
import Derived.Test.YtejjaabkbkkjlaaLeastAwake
namespace Go.Proofs.Ytejjaabkbkkjlaa
set_option linter.unusedVariables false
open Go.RowKit
attribute [local irreducible] wpStill wpOne wpPh

theorem least_line_nil (v : Value) (w : World) : Calls Try.prog 48 #[.pointer none, v] w fun e w' => e = .returned (.tuple #[.slice none 0 0, .bool false]) ∧ w = w' := by
  go_enter Try.func48, Try.ntmps48
  go_wp2_with fail
  go_ret2
  exact ⟨rfl, by first | rfl | trivial⟩
theorem least_word_nil (s : Int) (w : World) : Calls Try.prog 43 #[.pointer none, .int .i64 s] w fun e w' => e = .returned (.tuple #[.slice none 0 0, .bool false]) ∧ Below w.heap.size w w' := by
  have hb : Below w.heap.size w (w.alloc (.cells #[.int .i64 s] 3)) := (Below.refl _ w).alloc (Nat.le_refl _) _
  have Xhb := hide hb
  clear hb
  go_enter Try.func43, Try.ntmps43
  go_wp2_with fail
  refine (least_line_nil _ _).mono ?_
  rintro e w1 ⟨rfl, rfl⟩
  go_wp2_with fail
  go_ret2
  exact ⟨rfl, Xhb.out⟩
theorem LinePost.none {w w' : World} (hb : Below w.heap.size w w') : LinePost w noFound (.returned (.tuple #[.slice none 0 0, .bool false])) w' := ⟨.none, 0, 0, rfl, Rd.nil _ _ _, hb⟩

/-- what the program's words and the reference's answer -/
structure Ans (wx : World) (a a' : Option Addr) (Y : List Int → FoundD) (lf : Int → Int) : Prop where
  word : ∀ wr, Below wx.heap.size wx wr → ∀ s : Int, Calls Try.prog 43 #[.pointer a, .int .i64 s] wr (LinePost wr (Y [s]))
  line : ∀ wr, Below wx.heap.size wx wr → ∀ (v : Value) (l : List Int) (F : Nat → Prop), RdI wr F v l → (∀ k, F k → k < wr.heap.size) → Calls Try.prog 48 #[.pointer a, v] wr (LinePost wr (Y l))
  rline : ∀ wr, Below wx.heap.size wx wr → ∀ (v : Value) (l : List Int) (F : Nat → Prop), RdI wr F v l → (∀ k, F k → k < wr.heap.size) → Calls Try.prog 44 #[.pointer a', v] wr (LinePost wr (Y l))
  len : ∀ wr, Below wx.heap.size wx wr → ∀ s : Int, Calls Try.prog 45 #[.pointer a, .int .i64 s] wr fun e w' => e = .returned (.int .i64 (lf s)) ∧ wr = w'
  rlen : ∀ wr, Below wx.heap.size wx wr → ∀ s : Int, Calls Try.prog 46 #[.pointer a', .int .i64 s] wr fun e w' => e = .returned (.int .i64 (lf s)) ∧ wr = w'
theorem Ans.below {wx wy : World} {a a' : Option Addr} {Y : List Int → FoundD} {lf : Int → Int} (h : Ans wx a a' Y lf) (b : Below wx.heap.size wx wy) : Ans wy a a' Y lf :=
  ⟨fun wr hw => h.word wr (b.trans (hw.mono b.size)), fun wr hw => h.line wr (b.trans (hw.mono b.size)), fun wr hw => h.rline wr (b.trans (hw.mono b.size)), fun wr hw => h.len wr (b.trans (hw.mono b.size)), fun wr hw => h.rlen wr (b.trans (hw.mono b.size))⟩
theorem Ans.nil (wx : World) : Ans wx none none (fun _ => noFound) (fun _ => -1) :=
  ⟨fun wr _ s => (least_word_nil s wr).mono (by rintro e w' ⟨rfl, hb⟩; exact LinePost.none hb), fun wr _ v l F _ _ => (least_line_nil v wr).mono (by rintro e w' ⟨rfl, rfl⟩; exact LinePost.none (Below.refl _ _)), fun wr _ v l F _ _ => (ref_line_nil v wr).mono (by rintro e w' ⟨rfl, rfl⟩; exact LinePost.none (Below.refl _ _)), fun wr _ s => least_length_nil s wr, fun wr _ s => ref_length_nil s wr⟩
theorem Ans.words {wx : World} {F1 F2 : Nat → Prop} {b g b' gl gi gm T : Nat} {S : List FoundD} (h : IsWords wx F1 b g S) (r : RefWords wx F2 b' gl gi gm S) (hg : GoodS T S) : Ans wx (some ⟨b, 0, none⟩) (some ⟨b', 0, none⟩) (joinOf S) (lengthOf S) :=
  ⟨fun wr hw s => least_word s (h.below hw) (fun k => (jTo_good hg _).1), fun wr hw v l F hv hF => least_line (h.below hw) hv hF (fun k => (jTo_good hg _).1), fun wr hw v l F hv hF => ref_line (r.below hw) hv hF (fun k => (jTo_good hg _).1), fun wr hw s => least_length (h.below hw) s, fun wr hw s => ref_length (r.below hw) s⟩
/-- both sides' words of a grammar -/
theorem ans_of {w1 w2 w3 wx : World} {G : GramD} {st : Int} {e e' : Ending} (h : LeastPost G st w1 e w2) (h' : RefLeastPost G st w3 e' wx) (hb : Below w2.heap.size w2 wx) :
    ∃ (a a' : Option Addr) (Y : List Int → FoundD) (lf : Int → Int), e = .returned (.pointer a) ∧ e' = .returned (.pointer a') ∧ a.isNone = a'.isNone ∧ Ans wx a a' Y lf := by
  rcases h.2 with ⟨hz, rfl⟩ | ⟨hz, S, b, g, rfl, hfix, ws, -, -, hgood, -⟩
  · rcases h'.2 with ⟨-, rfl⟩ | ⟨hz', -⟩
    · exact ⟨_, _, _, _, rfl, rfl, rfl, Ans.nil wx⟩
    · exact absurd hz' hz
  · rcases h'.2 with ⟨hz', -⟩ | ⟨-, S', b', gl, gi, gm, rfl, hfix', rs, -⟩
    · exact absurd hz hz'
    · obtain rfl := fixed_unique hfix hfix'
      exact ⟨_, _, _, _, rfl, rfl, rfl, Ans.words (ws.below hb) rs hgood⟩
theorem ans_two {w1 w2 w3 wx : World} {G : GramD} {st : Int} {a a' : Option Addr} (h : LeastPost G st w1 (.returned (.pointer a)) w2) (h' : RefLeastPost G st w3 (.returned (.pointer a')) wx) (hb : Below w2.heap.size w2 wx) :
    a.isNone = a'.isNone ∧ ∃ (Y : List Int → FoundD) (lf : Int → Int), Ans wx a a' Y lf := by
  obtain ⟨b, b', Y, lf, h1, h2, h3, h4⟩ := ans_of h h' hb
  injection h1 with h1
  injection h1 with h1
  injection h2 with h2
  injection h2 with h2
  subst h1 h2
  exact ⟨h3, Y, lf, h4⟩
structure TCtx (w wr : World) (F : Nat → Prop) (A1 : Option Addr) (c1 : Nat) (A2 : Option Addr) (c2 : Nat) (A3 : Option Addr) (c3 T N R : Nat) (st : Int) (G : GramD) (a a' : Option Addr) (Y : List Int → FoundD) (lf : Int → Int) (v : Value) (l : List Int) : Prop where
  g : GBox wr F w.heap.size A1 c1 A2 c2 A3 c3 T N R st G
  b : Below w.heap.size w wr
  a : Ans wr a a' Y lf
  v : RdI wr F v l
theorem TCtx.below {w wr wr' : World} {F : Nat → Prop} {A1 : Option Addr} {c1 : Nat} {A2 : Option Addr} {c2 : Nat} {A3 : Option Addr} {c3 T N R : Nat} {st : Int} {G : GramD} {a a' : Option Addr} {Y : List Int → FoundD} {lf : Int → Int} {v : Value} {l : List Int}
    (h : TCtx w wr F A1 c1 A2 c2 A3 c3 T N R st G a a' Y lf v l) (b : Below wr.heap.size wr wr') : TCtx w wr' F A1 c1 A2 c2 A3 c3 T N R st G a a' Y lf v l :=
  ⟨h.g.below b, h.b.trans (b.mono h.b.size), h.a.below b, h.v.below b h.g.gram.lt⟩

set_option maxRecDepth 100000 in
set_option maxHeartbeats 8000000 in
theorem walk_LeastTells (C : Array Value) (G : GramD) (v : Value) (l : List Int) (w : World) (hg : GramCells w C.toList G) (hv : RdL w (· < w.heap.size) 1 (fun cs n => cs = [.int .i64 n] ∧ (Lit.int .i64 n).wf = true) v l ∧ l.length * 8 ≤ 140737488351232) :
    Calls Try.prog 6 #[.agg C, v] w (Quiet w (.bool true)) := by
  obtain ⟨vt, vn, vr, hC, hg, -⟩ := hg
  obtain rfl : C = #[vt, vn, vr, .int .i64 G.start] := Array.toList_inj.1 hC
  clear hC
  obtain ⟨hv, -⟩ := rdl_ints hv.1
  obtain ⟨Av, nv, cv, rfl, -⟩ := id hv
  obtain ⟨hnv, hnc, hcm, -⟩ := RdI.at_ hv
  unfold maxLen at hcm
  generalize G.start = st at *
  obtain ⟨A1, c1, A2, c2, A3, c3, rfl, rfl, rfl, -⟩ := hg.slices
  obtain ⟨w1, hw1⟩ : ∃ w1, w1 = w.alloc (.cells #[.slice A1 G.terms.length c1, .slice A2 G.nons.length c2, .slice A3 G.rules.length c3, .int .i64 st] 25) := ⟨_, rfl⟩
  have g1 := GBox.new hg st
  have b1 : Below w.heap.size w w1 := by rw [hw1]; exact (Below.refl _ w).alloc (Nat.le_refl _) _
  rw [← hw1] at g1
  have hm := law_much g1.gram st
  have htop : topOf G = G.terms.length + G.nons.length := rfl
  have hcT := fun wr (g : GBox wr (· < w.heap.size) w.heap.size A1 c1 A2 c2 A3 c3 G.terms.length G.nons.length G.rules.length st G) => ref_top g.gram st
  rw [htop] at hcT
  obtain ⟨q0, q1, q2, q3⟩ := g1.cells
  have cL := fun wr (g : GBox wr (· < w.heap.size) w.heap.size A1 c1 A2 c2 A3 c3 G.terms.length G.nons.length G.rules.length st G) => least_of g.gram st
  have cR := fun wr (g : GBox wr (· < w.heap.size) w.heap.size A1 c1 A2 c2 A3 c3 G.terms.length G.nons.length G.rules.length st G) => ref_least g.gram st
  have hvF : ∀ k, k < w.heap.size → k < w.heap.size := fun k h => h
  generalize hT : G.terms.length = T at *
  generalize hN : G.nons.length = N at *
  generalize hR : G.rules.length = R at *
  generalize hF : (fun b => b < w.heap.size) = F at *
  have hvl := hv.below (B := w.heap.size) b1 (fun k hk => by rw [← hF] at hk; exact hk)
  have hF1 : ∀ k, F k → k < w.heap.size := fun k hk => by rw [← hF] at hk; exact hk
  rw [hw1] at q0 q1 q2 q3 hm
  clear hg hT hN hR htop hv hvF
  have Xhm := hide hm
  have XhcT := hide hcT
  have XcL := hide cL
  have XcR := hide cR
  have XhF1 := hide hF1
  have Xhvl := hide hvl
  have Xhnv := hide hnv
  have Xb1 := hide b1
  have Xg1 := hide g1
  have XhF := hide hF
  clear hm hcT cL cR hF1 hvl hnv b1 g1 hF
  go_enter Try.func6, Try.ntmps6
  go_wp2_with fail
  refine Xhm.out.mono ?_
  rintro e w2 ⟨r, hr, rfl, b2⟩
  rw [← hw1] at b2
  have g2 := Xg1.out.below b2
  have hb2 := Xb1.out.trans (b2.mono Xb1.out.size)
  have hv2 := Xhvl.out.below b2 (fun k hk => Nat.lt_of_lt_of_le (XhF1.out k hk) Xb1.out.size)
  clear q0 q1 q2 q3 hw1 Xhm Xg1 Xb1 Xhvl b2
  by_cases hbig : 200 < r
  · have Xhb2 := hide hb2
    have Xg2 := hide g2
    have Xhv2 := hide hv2
    clear hb2 g2 hv2
    go_wp2_with fail
    refine (law10_awake _).mono ?_
    rintro e w3 ⟨rfl, b3⟩
    go_wp2_with fail
    go_ret
    exact ⟨rfl, Xhb2.out.trans (b3.mono Xhb2.out.size)⟩
  · by_cases hlong : (50 : Int) < (nv : Int)
    · have Xhb2 := hide hb2
      have Xg2 := hide g2
      have Xhv2 := hide hv2
      clear hb2 g2 hv2
      go_wp2_with fail
      refine (law10_awake _).mono ?_
      rintro e w3 ⟨rfl, b3⟩
      go_wp2_with fail
      go_ret
      exact ⟨rfl, Xhb2.out.trans (b3.mono Xhb2.out.size)⟩
    · have hTN : T + N ≤ 200 := by omega
      clear hr
      obtain ⟨q0, q1, q2, q3⟩ := g2.cells
      have g2d : GBox w2.drew F w.heap.size A1 c1 A2 c2 A3 c3 T N R st G := g2.drewN 1
      have hb2d : Below w.heap.size w w2.drew := below_drewN hb2 1
      have hv2d : RdI w2.drew F (.slice Av nv cv) l := hv2
      clear hb2
      have Xhb2d := hide hb2d
      have Xhv2d := hide hv2d
      have Xhv2 := hide hv2
      clear hb2d hv2d hv2
      go_wp2_with fail
      go_region_held3 (fun w' => w'.cell? ⟨w.heap.size, 0, none⟩ = some (.slice A1 T c1) ∧ w'.cell? ⟨w.heap.size, 1, none⟩ = some (.slice A2 N c2) ∧ w'.cell? ⟨w.heap.size, 2, none⟩ = some (.slice A3 R c3) ∧ w'.cell? ⟨w.heap.size, 3, none⟩ = some (.int .i64 st))
        (first | go_keep | assumption)
        (first
          | (go_at_call 41; (with_reducible refine (XcL.out _ g2d).mono ?_); rintro e w3 h3; have hb3 := h3.1; have g3 := g2d.below hb3; have k3 := g3.cells; obtain ⟨a3, rfl⟩ : ∃ a, e = .returned (.pointer a) := (by rcases h3.2 with ⟨-, h⟩ | ⟨-, S, b, g, h, -⟩ <;> exact ⟨_, h⟩))
          | (go_at_call 42; (with_reducible refine (XcR.out _ g3).mono ?_); rintro e w4 h4; have hb4 := h4.1; have g4 := g3.below hb4; have k4 := g4.cells; obtain ⟨a4, rfl⟩ : ∃ a, e = .returned (.pointer a) := (by rcases h4.2 with ⟨-, h⟩ | ⟨-, S, b, gl, gi, gm, h, -⟩ <;> exact ⟨_, h⟩)))
      obtain ⟨hn, Y, lf, ans⟩ := ans_two h3 h4 hb4
      have hb3' : Below w.heap.size w w3 := Xhb2d.out.trans (hb3.mono Xhb2d.out.size)
      have hv3 := Xhv2d.out.below hb3 g2d.gram.lt
      have hv4 := hv3.below hb4 g3.gram.lt
      have ctx : TCtx w w4 F A1 c1 A2 c2 A3 c3 T N R st G a3 a4 Y lf (.slice Av nv cv) l := ⟨g4, hb3'.trans (hb4.mono hb3'.size), ans, hv4⟩
      clear h3 h4 hb3 hb4 g2d g3 g4 k3 k4 ans hv3 hv4 hb3' Xhb2d Xhv2d Xhv2 g2 XcL XcR
      have Xctx := hide ctx
      clear ctx
      rcases a3 with _ | p3
      · rcases a4 with _ | p4
        · clear hn
          go_wp2_with fail
          go_loopw [7] (fun i wr => ∃ k : Nat, k ≤ T + N + 3 ∧ i = .int .i64 ((k : Int) - 1) ∧ TCtx w wr F A1 c1 A2 c2 A3 c3 T N R st G none none Y lf (.slice Av nv cv) l) (fun i _ => (T + N + 3) - (intOf i + 1).toNat)
          case atStart => exact ⟨0, Nat.zero_le _, rfl, Xctx.out⟩
          case round =>
            clear Xctx q0 q1 q2 q3
            obtain ⟨k, hk, rfl, t⟩ := hrel
            obtain ⟨q0, q1, q2, q3⟩ := t.g.cells
            have Xt := hide t
            clear t
            go_wp2_with fail
            refine (XhcT.out _ Xt.out.g).mono ?_
            rintro e w5 ⟨rfl, b5⟩
            have t5 := Xt.out.below b5
            clear Xt b5 q0 q1 q2 q3
            obtain ⟨s, hs⟩ : ∃ s : Int, s = (k : Int) - 1 := ⟨_, rfl⟩
            by_cases hlt : k ≤ T + N + 2
            · have hlt' : (k : Int) - 1 ≤ (T : Int) + (N : Int) + 1 := by omega
              rw [← hs] at hlt' ⊢
              have hW := t5.a.word w5 (Below.refl _ _) s
              have XhW := hide hW
              have Xt5 := hide t5
              have Xhs := hide hs
              clear hW t5 hs
              go_wp2_with fail
              refine XhW.out.mono ?_
              rintro e w6 ⟨A6, n6, c6, rfl, hr6, b6⟩
              have t6 := Xt5.out.below b6
              have b7 : Below w6.heap.size w6 (w6.alloc (.cells #[.int .i64 s] 3)) := (Below.refl _ _).alloc (Nat.le_refl _) _
              have hr7 := hr6.below b7 (fun k hk => hk.2)
              have t7 := t6.below b7
              have hl7 : RdI (w6.alloc (.cells #[.int .i64 s] 3)) (fun b => b = w6.heap.size) (.slice (some ⟨w6.heap.size, 0, none⟩) 1 1) [s] := Rd.one' (w := w6) (e := 3) [I64 s] 1 rfl
              have hL := t6.a.rline _ b7 _ _ _ hl7 (fun k e => by rw [e]; simp)
              obtain ⟨x, hx⟩ : ∃ x, x = Y [s] := ⟨_, rfl⟩
              rw [← hx] at hr6 hr7 hL ⊢
              have hz7 := b7.size
              clear XhW Xt5 b6 t6 hl7 hr6
              have Xhr7 := hide hr7
              have Xt7 := hide t7
              have XhL := hide hL
              have Xhx := hide hx
              have Xb7 := hide b7
              clear hr7 t7 hL hx b7
              go_wp2_with fail
              refine XhL.out.mono ?_
              rintro e w8 ⟨A8, n8, c8, rfl, hr8, b8⟩
              have t8 := Xt7.out.below b8
              have hr9 := Xhr7.out.below b8 (fun k hk => by have := hk.2; omega)
              have hI := ref_ints3 hr9 hr8
              rw [decide_eq_true rfl] at hI
              have h1 := t8.a.len w8 (Below.refl _ _) s
              have h2 := t8.a.rlen w8 (Below.refl _ _) s
              generalize (x.is && !x.long) = q at *
              generalize lf s = len at *
              clear Xhr7 Xt7 XhL b8 hr8 hr9
              have Xt8 := hide t8
              have XhI := hide hI
              have Xh1 := hide h1
              have Xh2 := hide h2
              clear t8 hI h1 h2
              go_wp2_with fail
              refine Xh1.out.mono ?_
              rintro e w' ⟨rfl, rfl⟩
              go_wp2_with fail
              refine Xh2.out.mono ?_
              rintro e w' ⟨rfl, rfl⟩
              go_wp2_with fail
              refine XhI.out.mono ?_
              rintro e w9 ⟨rfl, b9⟩
              have t9 := Xt8.out.below b9
              clear Xt8 XhI Xh1 Xh2 b9
              have Xt9 := hide t9
              clear t9
              have hs := Xhs.out
              go_wp2_with fail
              go_roundw
              case rel => exact ⟨k + 1, by omega, int_eq (by omega), Xt9.out⟩
              case measure => simp [intOf]; omega
            · have hlt' : ¬ (k : Int) - 1 ≤ (T : Int) + (N : Int) + 1 := by omega
              have hW := t5.a.line w5 (Below.refl _ _) _ l F t5.v t5.g.gram.lt
              clear hs
              have XhW := hide hW
              have Xt5 := hide t5
              clear hW t5
              go_wp2_with fail
              refine XhW.out.mono ?_
              rintro e w6 ⟨A6, n6, c6, rfl, hr6, b6⟩
              have t6 := Xt5.out.below b6
              have hL := t6.a.rline w6 (Below.refl _ _) _ l F t6.v t6.g.gram.lt
              obtain ⟨x, hx⟩ : ∃ x, x = Y l := ⟨_, rfl⟩
              rw [← hx] at hr6 hL ⊢
              clear XhW Xt5 b6
              have Xhr6 := hide hr6
              have Xt6 := hide t6
              have XhL := hide hL
              have Xhx := hide hx
              clear hr6 t6 hL hx
              go_wp2_with fail
              refine XhL.out.mono ?_
              rintro e w8 ⟨A8, n8, c8, rfl, hr8, b8⟩
              have t8 := Xt6.out.below b8
              have hr9 := Xhr6.out.below b8 (fun k hk => hk.2)
              have hI := ref_ints3 hr9 hr8
              rw [decide_eq_true rfl] at hI
              generalize (x.is && !x.long) = q at *
              clear Xhr6 Xt6 XhL b8 hr8 hr9
              have Xt8 := hide t8
              have XhI := hide hI
              clear t8 hI
              go_wp2_with fail
              refine XhI.out.mono ?_
              rintro e w9 ⟨rfl, b9⟩
              have t9 := Xt8.out.below b9
              clear Xt8 XhI b9
              have Xt9 := hide t9
              clear t9
              go_wp2_with fail
              refine (law10_awake _).mono ?_
              rintro e w10 ⟨rfl, b10⟩
              go_wp2_with fail
              go_ret
              exact ⟨rfl, (Xt9.out.below b10).b⟩
        · simp at hn
      · rcases a4 with _ | p4
        · simp at hn
        · clear hn
          go_wp2_with fail
          go_loopw [7] (fun i wr => ∃ k : Nat, k ≤ T + N + 3 ∧ i = .int .i64 ((k : Int) - 1) ∧ TCtx w wr F A1 c1 A2 c2 A3 c3 T N R st G (some p3) (some p4) Y lf (.slice Av nv cv) l) (fun i _ => (T + N + 3) - (intOf i + 1).toNat)
          case atStart => exact ⟨0, Nat.zero_le _, rfl, Xctx.out⟩
          case round =>
            clear Xctx q0 q1 q2 q3
            obtain ⟨k, hk, rfl, t⟩ := hrel
            obtain ⟨q0, q1, q2, q3⟩ := t.g.cells
            have Xt := hide t
            clear t
            go_wp2_with fail
            refine (XhcT.out _ Xt.out.g).mono ?_
            rintro e w5 ⟨rfl, b5⟩
            have t5 := Xt.out.below b5
            clear Xt b5 q0 q1 q2 q3
            obtain ⟨s, hs⟩ : ∃ s : Int, s = (k : Int) - 1 := ⟨_, rfl⟩
            by_cases hlt : k ≤ T + N + 2
            · have hlt' : (k : Int) - 1 ≤ (T : Int) + (N : Int) + 1 := by omega
              rw [← hs] at hlt' ⊢
              have hW := t5.a.word w5 (Below.refl _ _) s
              have XhW := hide hW
              have Xt5 := hide t5
              have Xhs := hide hs
              clear hW t5 hs
              go_wp2_with fail
              refine XhW.out.mono ?_
              rintro e w6 ⟨A6, n6, c6, rfl, hr6, b6⟩
              have t6 := Xt5.out.below b6
              have b7 : Below w6.heap.size w6 (w6.alloc (.cells #[.int .i64 s] 3)) := (Below.refl _ _).alloc (Nat.le_refl _) _
              have hr7 := hr6.below b7 (fun k hk => hk.2)
              have t7 := t6.below b7
              have hl7 : RdI (w6.alloc (.cells #[.int .i64 s] 3)) (fun b => b = w6.heap.size) (.slice (some ⟨w6.heap.size, 0, none⟩) 1 1) [s] := Rd.one' (w := w6) (e := 3) [I64 s] 1 rfl
              have hL := t6.a.rline _ b7 _ _ _ hl7 (fun k e => by rw [e]; simp)
              obtain ⟨x, hx⟩ : ∃ x, x = Y [s] := ⟨_, rfl⟩
              rw [← hx] at hr6 hr7 hL ⊢
              have hz7 := b7.size
              clear XhW Xt5 b6 t6 hl7 hr6
              have Xhr7 := hide hr7
              have Xt7 := hide t7
              have XhL := hide hL
              have Xhx := hide hx
              have Xb7 := hide b7
              clear hr7 t7 hL hx b7
              go_wp2_with fail
              refine XhL.out.mono ?_
              rintro e w8 ⟨A8, n8, c8, rfl, hr8, b8⟩
              have t8 := Xt7.out.below b8
              have hr9 := Xhr7.out.below b8 (fun k hk => by have := hk.2; omega)
              have hI := ref_ints3 hr9 hr8
              rw [decide_eq_true rfl] at hI
              have h1 := t8.a.len w8 (Below.refl _ _) s
              have h2 := t8.a.rlen w8 (Below.refl _ _) s
              generalize (x.is && !x.long) = q at *
              generalize lf s = len at *
              clear Xhr7 Xt7 XhL b8 hr8 hr9
              have Xt8 := hide t8
              have XhI := hide hI
              have Xh1 := hide h1
              have Xh2 := hide h2
              clear t8 hI h1 h2
              go_wp2_with fail
              refine Xh1.out.mono ?_
              rintro e w' ⟨rfl, rfl⟩
              go_wp2_with fail
              refine Xh2.out.mono ?_
              rintro e w' ⟨rfl, rfl⟩
              go_wp2_with fail
              refine XhI.out.mono ?_
              rintro e w9 ⟨rfl, b9⟩
              have t9 := Xt8.out.below b9
              clear Xt8 XhI Xh1 Xh2 b9
              have Xt9 := hide t9
              clear t9
              have hs := Xhs.out
              go_wp2_with fail
              go_roundw
              case rel => exact ⟨k + 1, by omega, int_eq (by omega), Xt9.out⟩
              case measure => simp [intOf]; omega
            · have hlt' : ¬ (k : Int) - 1 ≤ (T : Int) + (N : Int) + 1 := by omega
              have hW := t5.a.line w5 (Below.refl _ _) _ l F t5.v t5.g.gram.lt
              clear hs
              have XhW := hide hW
              have Xt5 := hide t5
              clear hW t5
              go_wp2_with fail
              refine XhW.out.mono ?_
              rintro e w6 ⟨A6, n6, c6, rfl, hr6, b6⟩
              have t6 := Xt5.out.below b6
              have hL := t6.a.rline w6 (Below.refl _ _) _ l F t6.v t6.g.gram.lt
              obtain ⟨x, hx⟩ : ∃ x, x = Y l := ⟨_, rfl⟩
              rw [← hx] at hr6 hL ⊢
              clear XhW Xt5 b6
              have Xhr6 := hide hr6
              have Xt6 := hide t6
              have XhL := hide hL
              have Xhx := hide hx
              clear hr6 t6 hL hx
              go_wp2_with fail
              refine XhL.out.mono ?_
              rintro e w8 ⟨A8, n8, c8, rfl, hr8, b8⟩
              have t8 := Xt6.out.below b8
              have hr9 := Xhr6.out.below b8 (fun k hk => hk.2)
              have hI := ref_ints3 hr9 hr8
              rw [decide_eq_true rfl] at hI
              generalize (x.is && !x.long) = q at *
              clear Xhr6 Xt6 XhL b8 hr8 hr9
              have Xt8 := hide t8
              have XhI := hide hI
              clear t8 hI
              go_wp2_with fail
              refine XhI.out.mono ?_
              rintro e w9 ⟨rfl, b9⟩
              have t9 := Xt8.out.below b9
              clear Xt8 XhI b9
              have Xt9 := hide t9
              clear t9
              go_wp2_with fail
              refine (law10_awake _).mono ?_
              rintro e w10 ⟨rfl, b10⟩
              go_wp2_with fail
              go_ret
              exact ⟨rfl, (Xt9.out.below b10).b⟩
end Go.Proofs.Ytejjaabkbkkjlaa

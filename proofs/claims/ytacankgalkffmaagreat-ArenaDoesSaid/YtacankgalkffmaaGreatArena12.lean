/- Trees of nodes: Check. -/
import Derived.Test.YtacankgalkffmaaGreatArena11
namespace Go.Proofs.YtacankgalkffmaaGreat
set_option linter.unusedVariables false
set_option linter.unusedSimpArgs false
open Go.RowKit Go.Shelf
attribute [local go_sem] Oper.semAt_some
attribute [local irreducible] wpStill wpOne wpPh
def chkO (G : GramD) (st : Int) (L : List Nd) (i : Int) : Bool := inN L.length i && (decide (checkOf G st = 0) && derO G L i)
theorem chk_und {G : GramD} {st : Int} {L : List Nd} {i : Int} (h1 : inN L.length i = true) (h2 : checkOf G st = 0) : chkO G st L i = (undL L i).all fun k => fineN G L (ndAt L k) := by
 unfold chkO undL derO
 rw [h1, decide_eq_true h2, if_pos rfl]
 rfl
set_option maxRecDepth 100000 in
set_option maxHeartbeats 4000000 in
theorem arena_Check {w : World} {bt : Nat} {S F : Nat → Prop} {L : List Nd} {vt vn vr : Value} {G : GramD} (h : Ar w bt S L) (hL : Tr L) (hl : L.length ≤ 100000) (hg : IsGram w F vt vn vr G) (hFS : ∀ b, F b → b < w.heap.size) (st i : Int) :
  Calls Tryz.prog 12 #[.pointer (some ⟨bt, 0, none⟩), GV vt vn vr st, .int .i64 i] w (Quiet w (.bool (chkO G st L i))) := by
 have hlt := h.lt
 obtain ⟨w1, hw1⟩ : ∃ x, x = w.alloc (.cells #[.pointer (some ⟨bt, 0, none⟩)] 29) := ⟨_, rfl⟩
 obtain ⟨w2, hw2⟩ : ∃ x, x = w1.alloc (.cells #[vt, vn, vr, .int .i64 st] 26) := ⟨_, rfl⟩
 obtain ⟨w3, hw3⟩ : ∃ x, x = w2.alloc (.cells #[.bool false] 4) := ⟨_, rfl⟩
 have z1 : w1.heap.size = w.heap.size + 1 := by rw [hw1]; simp
 have z2 : w2.heap.size = w.heap.size + 1 + 1 := by rw [hw2]; simp [z1]
 have z3 : w3.heap.size = w.heap.size + 3 := by rw [hw3]; simp [z2]
 have kt3 : Blk w3 w.heap.size 29 #[.pointer (some ⟨bt, 0, none⟩)] := by rw [hw3, hw2, hw1]; exact ((Blk.new _ _ _).alloc _).alloc _
 have kg3 : Blk w3 (w.heap.size + 1) 26 #[vt, vn, vr, .int .i64 st] := by rw [hw3, hw2, ← z1]; exact (Blk.new _ _ _).alloc _
 have ko3 : Blk w3 (w.heap.size + 1 + 1) 4 #[.bool false] := by rw [hw3, ← z2]; exact Blk.new _ _ _
 have b3 : Below w.heap.size w w3 := by rw [hw3, hw2, hw1]; exact (((Below.refl _ w).alloc (Nat.le_refl _) _).alloc (by simp) _).alloc (by simp; omega) _
 have h3 := h.below b3
 have hg3 := hg.below b3
 have cI := arena_in h3 i
 have cC := fun W (b : Below w3.heap.size w3 W) => gram_check (hg3.below b) st
 obtain ⟨A1, c1, A2, c2, A3, c3, rfl, rfl, rfl, -⟩ := hg3.slices
 have e3 : ((w.alloc (.cells #[.pointer (some ⟨bt, 0, none⟩)] 29)).alloc (.cells #[.slice A1 G.terms.length c1, .slice A2 G.nons.length c2, .slice A3 G.rules.length c3, .int .i64 st] 26)).alloc (.cells #[.bool false] 4) = w3 := by rw [hw3, hw2, hw1]
 have q0 : w3.cell? ⟨w.heap.size, 0, none⟩ = some (.pointer (some ⟨bt, 0, none⟩)) := kt3.cell 0
 have q1 : w3.cell? ⟨w.heap.size + 1, 0, none⟩ = some (.slice A1 G.terms.length c1) := kg3.cell 0
 have q2 : w3.cell? ⟨w.heap.size + 1, 1, none⟩ = some (.slice A2 G.nons.length c2) := kg3.cell 1
 have q3 : w3.cell? ⟨w.heap.size + 1, 2, none⟩ = some (.slice A3 G.rules.length c3) := kg3.cell 2
 have q4 : w3.cell? ⟨w.heap.size + 1, 3, none⟩ = some (.int .i64 st) := kg3.cell 3
 have q5 : w3.cell? ⟨w.heap.size + 1 + 1, 0, none⟩ = some (.bool false) := ko3.cell 0
 have f5 := ko3.frozen 0
 clear hw1 hw2 hw3 z1 z2 h hg
 by_cases hin : inN L.length i = true
 ·rw [hin] at cI
  by_cases hck : checkOf G st = 0
  ·have hr := chk_und (st := st) hin hck
   rw [hck] at cC
   obtain ⟨r, hrr⟩ : ∃ r, r = chkO G st L i := ⟨_, rfl⟩
   rw [← hrr]
   rw [← hrr] at hr
   have XhL := hide hL
   have Xhlt := hide hlt
   have XcI := hide cI
   have XcC := hide cC
   have Xh3 := hide h3
   have Xhg3 := hide hg3
   have Xkt3 := hide kt3
   have Xkg3 := hide kg3
   have Xko3 := hide ko3
   have Xb3 := hide b3
   have Xhr := hide hr
   clear hL hlt cI cC h3 hg3 kt3 kg3 ko3 b3 hr
   clear hrr
   refine (callsIn_wide (n := 7)).1 ?_
   refine callsIn_of_wp_marks Tryz.func12 rfl trivial ?_ rfl
   simp only [Tryz.ntmps12, List.size_toArray, List.length_cons, List.length_nil, Nat.reduceAdd, Nat.reduceSub, Array.replicate_succ, Array.replicate_zero, List.push_toArray, List.append_toArray, List.nil_append, List.cons_append]
   gi_wp2_with fail
   refine ⟨trivial, (callsIn_wide.2 XcI.out).mono ?_⟩
   rintro e w' ⟨rfl, rfl⟩
   clear XcI
   gi_wp2_with fail
   refine ⟨trivial, (callsIn_wide.2 (XcC.out _ (Below.refl _ _))).mono ?_⟩
   rintro e w4 ⟨rfl, b4⟩
   have z4 := b4.size
   have kt4 := Xkt3.out.below b4 (by omega)
   have kg4 := Xkg3.out.below b4 (by omega)
   have ko4 := Xko3.out.below b4 (by omega)
   have h4 := Xh3.out.below b4
   have hg4 := Xhg3.out.below b4
   have bb4 := Xb3.out.trans (b4.mono Xb3.out.size)
   have p0 : w4.cell? ⟨w.heap.size, 0, none⟩ = some (.pointer (some ⟨bt, 0, none⟩)) := kt4.cell 0
   clear XcC b4 Xkt3 Xkg3 Xko3 Xh3 Xhg3 Xb3 q0 q1 q2 q3 q4 q5 f5 e3
   have Xkt4 := hide kt4
   have Xkg4 := hide kg4
   have Xko4 := hide ko4
   have Xh4 := hide h4
   have Xhg4 := hide hg4
   have Xbb4 := hide bb4
   clear kt4 kg4 ko4 h4 hg4 bb4
   gi_wp2_with fail
   refine ⟨trivial, (callsIn_wide.2 (arena_under _ _ _)).mono ?_⟩
   rintro e wl ⟨rfl, hwl⟩
   obtain ⟨w5, hw5⟩ : ∃ x, x = w4.alloc (.cells #[.pointer (some ⟨bt, 0, none⟩)] 29) := ⟨_, rfl⟩
   rw [← hw5] at hwl
   have z5 : w5.heap.size = w4.heap.size + 1 := by rw [hw5]; simp
   have zl : wl.heap.size = w4.heap.size + 2 := by rw [hwl]; simp [z5]
   have bl : Below w4.heap.size w4 wl := by rw [hwl, hw5]; exact ((Below.refl _ w4).alloc (Nat.le_refl _) _).alloc (by simp) _
   have kb : Blk wl w4.heap.size 29 #[.pointer (some ⟨bt, 0, none⟩)] := by rw [hwl, hw5]; exact (Blk.new _ _ _).alloc _
   have ki : Blk wl (w4.heap.size + 1) 3 #[.int .i64 i] := by rw [hwl, ← z5]; exact Blk.new _ _ _
   have ktl := Xkt4.out.below bl (by omega)
   have kgl := Xkg4.out.below bl (by omega)
   have kol := Xko4.out.below bl (by omega)
   have hl5 := Xh4.out.below bl
   have hgl := Xhg4.out.below bl
   have bbl := Xbb4.out.trans (bl.mono Xbb4.out.size)
   have hlt5 := hl5.lt
   clear hwl hw5 z5 bl
   have cU := under_any (R := fun b => S b ∨ b = w4.heap.size ∨ b = w4.heap.size + 1) XhL.out hl hl5 kb ki (fun b hb => hb) (fun b hb => by rcases hb with q | q | q; have := hlt5 b q; omega; omega; omega) 6 (by omega)
   have XcU := hide cU
   have Xktl := hide ktl
   have Xkgl := hide kgl
   have Xkol := hide kol
   have Xkb := hide kb
   have Xki := hide ki
   have Xhl5 := hide hl5
   have Xhgl := hide hgl
   have Xbbl := hide bbl
   have Xzl := hide zl
   clear cU ktl kgl kol kb ki hl5 hgl bbl zl
   clear Xkt4 Xkg4 Xko4 Xh4 Xhg4 Xbb4
   gi_wp2_with fail
   refine wpIn_rangeFunc_ownO rfl (by omega) (gf := 67) (lb := #[.pointer (some ⟨w4.heap.size + 1, 0, none⟩), .pointer (some ⟨w4.heap.size, 0, none⟩)]) rfl trivial (enters_of Tryz.func67 (by kernel_rfl) rfl) XcU.out (fun b hb => by have := Xzl.out; rcases hb with q | q | q; have := hlt5 b q; omega; omega; omega) (Below.refl _ _) (fun _ => rfl)
    (fun pre O W => Touch (fun _ => False) wl W ∧ (∀ x ∈ pre, fineN G L (ndAt L x) = true) ∧ ∀ b, O b → wl.heap.size ≤ b)
    (fun c pre O W => c = .ret ∧ Blk W (w.heap.size + 2) 4 #[.bool false] ∧ Touch (fun b => b = w.heap.size + 2) wl W ∧ (∃ x ∈ pre, fineN G L (ndAt L x) = false) ∧ ∀ b, O b → wl.heap.size ≤ b) ?hI ?hIx ?h0
    (fun x => { tmps := #[.pointer (some ⟨bt, 0, none⟩), GV (.slice A1 G.terms.length c1) (.slice A2 G.nons.length c2) (.slice A3 G.rules.length c3) st, .int .i64 i, .pointer (some ⟨w.heap.size, 0, none⟩), .pointer (some ⟨w.heap.size + 1, 0, none⟩), undef, .pointer (some ⟨w.heap.size + 1 + 1, 0, none⟩), .int .i64 x, .pointer (some ⟨bt, 0, none⟩), .int .i64 i, .bool true, .bool false, .bool false, .agg #[.slice A1 G.terms.length c1, .slice A2 G.nons.length c2, .slice A3 G.rules.length c3, .int .i64 st], .int .i64 0, .bool false, .bool false, .pointer (some ⟨bt, 0, none⟩), .int .i64 i, .func (.func 67) #[] #[.pointer (some ⟨w4.heap.size + 1, 0, none⟩), .pointer (some ⟨w4.heap.size, 0, none⟩)], .int .i64 x, undef, undef, undef, undef, undef, undef, undef, undef, undef, undef, undef], defers := [] })
    ?assign ?body ?done ?stop
   case hI =>
    rintro pre O1 O2 X A B ⟨t5, hf5, ho5⟩ tX hX h12 h21
    have zA := t5.size
    refine ⟨t5.trans tX fun b hb c => ?_, hf5, fun b hb => ?_⟩
    ·rcases hX _ c with q | q | q
     ·have := ho5 _ q; omega
     ·omega
     ·omega
    ·rcases h21 b hb with q | q
     ·exact ho5 b q
     ·omega
   case hIx =>
    rintro c pre O1 X A B ⟨rfl, kb5, t5, hf5, ho5⟩ tX hX
    have hzl := Xzl.out
    have hnX : ∀ b, b < wl.heap.size → ¬ X b := fun b hb c => by
     rcases hX _ c with q | q | q
     ·have := ho5 _ q; omega
     ·omega
     ·omega
    exact ⟨rfl, kb5.touch tX (hnX _ (by omega)), t5.trans tX fun b hb c => absurd c (hnX b hb), hf5, ho5⟩
   case h0 => exact ⟨Touch.refl _ _, fun x hx => (by cases hx), fun b h => h.elim⟩
   case assign =>
    intro l x Wx K hK
    gi_wp2
    exact hK
   case body =>
    rintro l2 pre O x W ⟨t5, hf5, ho5⟩ hO hz hSp
    obtain ⟨x0, x1⟩ := undL_in XhL.out (hSp.subset (List.mem_append_right pre (List.mem_singleton.2 rfl)))
    have arW := Ar.touch Xhl5.out t5 (fun _ _ c => c)
    have ktW := Xktl.out.touch t5 (fun c => c)
    have kgW := Xkgl.out.touch t5 (fun c => c)
    have koW := Xkol.out.touch t5 (fun c => c)
    have hgW := Xhgl.out.touch t5 (fun _ _ c => c)
    have tD : Touch (fun _ => False) W W.drew := (Touch.refl _ _).drew
    have arD := arW.touch tD (fun _ _ c => c)
    have hgD := hgW.touch tD (fun _ _ c => c)
    obtain ⟨v9, M, hML, hM⟩ := arW
    have hx := ndAt_of x0 x1
    obtain ⟨xn, rfl⟩ := Int.eq_ofNat_of_zero_le x0
    rw [← hML, List.getElem?_map, Int.toNat_natCast] at hx
    obtain ⟨p, hp, hpx⟩ := Option.map_eq_some_iff.1 hx
    obtain ⟨g9, c9, rfl, hS9, hg9, d0, d1, d2, d3, d4, d5, rk⟩ := hM.at_ hp
    have hxn := (List.getElem?_eq_some_iff.1 hp).1
    have p3 : W.cell? ⟨bt, 0, none⟩ = some (.slice (some ⟨g9, 0, none⟩) M.length c9) := hM.box.cell 0
    have p0 : W.cell? ⟨w.heap.size, 0, none⟩ = some (.pointer (some ⟨bt, 0, none⟩)) := ktW.cell 0
    have q1 : W.cell? ⟨w.heap.size + 1, 0, none⟩ = some (.slice A1 G.terms.length c1) := kgW.cell 0
    have q2 : W.cell? ⟨w.heap.size + 1, 1, none⟩ = some (.slice A2 G.nons.length c2) := kgW.cell 1
    have q3 : W.cell? ⟨w.heap.size + 1, 2, none⟩ = some (.slice A3 G.rules.length c3) := kgW.cell 2
    have q4 : W.cell? ⟨w.heap.size + 1, 3, none⟩ = some (.int .i64 st) := kgW.cell 3
    rw [hML] at hpx
    have hkd : ∀ k ∈ p.1.kids, 0 ≤ k ∧ k < L.length := fun k hk => by
     rw [hpx] at hk
     have := XhL.out.kid hk
     exact ⟨this.1, by omega⟩
    have cF := arena_fine arD XhL.out hgD st p.1 p.2 ⟨_, rk.touch tD (fun _ _ c => c)⟩ hkd
    rw [hpx] at cF
    have hfx : fineN G L p.1 = fineN G L (ndAt L (xn : Int)) := by rw [hpx]
    obtain ⟨fb, hfb⟩ : ∃ b, b = fineN G L (ndAt L (xn : Int)) := ⟨_, rfl⟩
    rw [← hfb] at cF
    rw [← hpx] at cF
    obtain ⟨A99, c99, h99, hcm1, hcm2⟩ := hM.shape
    injection h99 with h97 h98 h99
    subst h97 h99
    generalize M.length = n9 at *
    obtain ⟨Az, nz, cz, hz9, -⟩ := id rk
    rw [hz9] at d3 cF
    obtain ⟨⟨xs, xl, xr, xk, xi, xb⟩, xz⟩ := p
    simp only at d0 d1 d2 d4 d5 cF
    clear hM hx hp hML hpx hz9 rk ktW kgW hgW arD hgD hS9 hg9 hkd hfx tD
    have XkoW := hide koW
    have Xt5 := hide t5
    have Xhf5 := hide hf5
    have Xho5 := hide ho5
    have XhO := hide hO
    have XcF := hide cF
    have Xhfb := hide hfb
    clear koW t5 hf5 ho5 hO cF hfb
    have hSx : W.drew.cell? ⟨w.heap.size, 0, none⟩ = some (.pointer (some ⟨bt, 0, none⟩)) ∧ W.drew.cell? ⟨w.heap.size + 1, 0, none⟩ = some (.slice A1 G.terms.length c1) ∧ W.drew.cell? ⟨w.heap.size + 1, 1, none⟩ = some (.slice A2 G.nons.length c2) ∧ W.drew.cell? ⟨w.heap.size + 1, 2, none⟩ = some (.slice A3 G.rules.length c3) ∧ W.drew.cell? ⟨w.heap.size + 1, 3, none⟩ = some (.int .i64 st) ∧ W.drew.cell? ⟨bt, 0, none⟩ = some (.slice (some ⟨g9, 0, none⟩) n9 c9) ∧ W.drew.cell? ⟨g9, xn * 6, none⟩ = some (.int .i64 xs) ∧ W.drew.cell? ⟨g9, xn * 6 + 1, none⟩ = some (.int .i64 xl) ∧ W.drew.cell? ⟨g9, xn * 6 + 2, none⟩ = some (.int .i64 xr) ∧ W.drew.cell? ⟨g9, xn * 6 + 3, none⟩ = some (.slice Az nz cz) ∧ W.drew.cell? ⟨g9, xn * 6 + 4, none⟩ = some (.bool xi) ∧ W.drew.cell? ⟨g9, xn * 6 + 5, none⟩ = some (.bool xb) := ⟨p0, q1, q2, q3, q4, p3, d0, d1, d2, d3, d4, d5⟩
    gi_wp2_with fail
    refine region_late_round (fun V => V.cell? ⟨w.heap.size, 0, none⟩ = some (.pointer (some ⟨bt, 0, none⟩)) ∧ V.cell? ⟨w.heap.size + 1, 0, none⟩ = some (.slice A1 G.terms.length c1) ∧ V.cell? ⟨w.heap.size + 1, 1, none⟩ = some (.slice A2 G.nons.length c2) ∧ V.cell? ⟨w.heap.size + 1, 2, none⟩ = some (.slice A3 G.rules.length c3) ∧ V.cell? ⟨w.heap.size + 1, 3, none⟩ = some (.int .i64 st) ∧ V.cell? ⟨bt, 0, none⟩ = some (.slice (some ⟨g9, 0, none⟩) n9 c9) ∧ V.cell? ⟨g9, xn * 6, none⟩ = some (.int .i64 xs) ∧ V.cell? ⟨g9, xn * 6 + 1, none⟩ = some (.int .i64 xl) ∧ V.cell? ⟨g9, xn * 6 + 2, none⟩ = some (.int .i64 xr) ∧ V.cell? ⟨g9, xn * 6 + 3, none⟩ = some (.slice Az nz cz) ∧ V.cell? ⟨g9, xn * 6 + 4, none⟩ = some (.bool xi) ∧ V.cell? ⟨g9, xn * 6 + 5, none⟩ = some (.bool xb)) 9 10 (by kernel_rfl) (by kernel_rfl) hSx (by kernel_rfl) (by rintro ⟨_, _, h⟩; exact h) ?_
    simp only [List.take_succ_cons, List.take_zero, List.drop_succ_cons, List.drop_zero]
    refine wpHeld_cons ?_ (by rfl) (fun wS hwS => ?_) ?_
    rotate_left
    ·(try dsimp only at hwS)
     go_simp
     all_goals with_reducible rfl
    simp only [Act.put, List.setIfInBounds_toArray, List.set_cons_zero, List.set_cons_succ]
    refine wpHeld_cons ?_ (by rfl) (fun wS hwS => ?_) ?_
    rotate_left
    ·(try dsimp only at hwS)
     go_simp
     all_goals with_reducible rfl
    simp only [Act.put, List.setIfInBounds_toArray, List.set_cons_zero, List.set_cons_succ]
    refine wpHeld_cons ?_ (by rfl) (fun wS hwS => ?_) ?_
    rotate_left
    ·(try dsimp only at hwS)
     go_simp
     all_goals with_reducible rfl
    simp only [Act.put, List.setIfInBounds_toArray, List.set_cons_zero, List.set_cons_succ]
    refine wpHeld_cons ?_ (by rfl) (fun wS hwS => ?_) ?_
    rotate_left
    ·(try dsimp only at hwS)
     go_simp
     all_goals with_reducible rfl
    simp only [Act.put, List.setIfInBounds_toArray, List.set_cons_zero, List.set_cons_succ]
    refine wpHeld_cons ?_ (by rfl) (fun wS hwS => ?_) ?_
    rotate_left
    ·(try dsimp only at hwS)
     go_simp
     all_goals with_reducible rfl
    simp only [Act.put, List.setIfInBounds_toArray, List.set_cons_zero, List.set_cons_succ]
    refine wpHeld_cons ?_ (by rfl) (fun wS hwS => ?_) ?_
    rotate_left
    ·(try dsimp only at hwS)
     go_simp
     all_goals with_reducible rfl
    simp only [Act.put, List.setIfInBounds_toArray, List.set_cons_zero, List.set_cons_succ]
    refine wpHeld_cons ?_ (by rfl) (fun wS hwS => ?_) ?_
    rotate_left
    ·(try dsimp only at hwS)
     go_simp
     all_goals with_reducible rfl
    simp only [Act.put, List.setIfInBounds_toArray, List.set_cons_zero, List.set_cons_succ]
    refine wpHeld_cons ?_ (by rfl) (fun wS hwS => ?_) ?_
    rotate_left
    ·(try dsimp only at hwS)
     go_simp
     all_goals with_reducible rfl
    simp only [Act.put, List.setIfInBounds_toArray, List.set_cons_zero, List.set_cons_succ]
    refine wpHeld_cons ?_ (by rfl) (fun wS hwS => ?_) ?_
    rotate_left
    ·(try dsimp only at hwS)
     go_simp
     all_goals with_reducible rfl
    simp only [Act.put, List.setIfInBounds_toArray, List.set_cons_zero, List.set_cons_succ]
    refine wpHeld_nil ?_
    refine wpMid_cons ?_
    go_wp2_with fail
    refine XcF.out.mono ?_
    rintro e W3 ⟨rfl, b3⟩
    obtain ⟨s0, s1, s2, s3, s4, s5, s6, s7, s8, s9, s10, s11⟩ := hSx
    have S3 := (⟨upA_cell b3 s0, upA_cell b3 s1, upA_cell b3 s2, upA_cell b3 s3, upA_cell b3 s4, upA_cell b3 s5, upA_cell b3 s6, upA_cell b3 s7, upA_cell b3 s8, upA_cell b3 s9, upA_cell b3 s10, upA_cell b3 s11⟩ : _ ∧ _ ∧ _ ∧ _ ∧ _ ∧ _ ∧ _ ∧ _ ∧ _ ∧ _ ∧ _ ∧ _)
    have tW3 : Touch (fun _ => False) W W3 := (Touch.refl _ W).drew.trans' (Touch.of_size b3 _)
    have ko3 := XkoW.out.touch tW3 (fun c => c)
    have t53 := Xt5.out.trans' tW3
    clear s0 s1 s2 s3 s4 s5 s6 s7 s8 s9 s10 s11 p0 q1 q2 q3 q4 p3 d0 d1 d2 d3 d4 d5 XcF b3 XkoW Xt5
    cases fb with
    | true =>
     have XtW3 := hide tW3
     have Xko3 := hide ko3
     have Xt53 := hide t53
     clear tW3 ko3 t53
     go_wp2_with fail
     refine ⟨S3, wpMid_nil ?_⟩
     clear S3
     go_wp2_with fail
     refine NoPanic.normal ?_
     gi_wp2_with fail
     refine ⟨XtW3.out.mono fun _ _ c => c.elim, Xt53.out, fun y hy => ?_, Xho5.out⟩
     rcases List.mem_append.1 hy with h | h
     ·exact Xhf5.out y h
     ·rw [List.mem_singleton] at h; subst h; exact Xhfb.out.symm
    | false =>
     have c3 : W3.cell? ⟨w.heap.size + 1 + 1, 0, none⟩ = some (.bool false) := ko3.cell 0
     have f3 := ko3.frozen 0
     have k3 := ko3.put 0 (.bool false)
     have tS := touch_set W3 (w.heap.size + 1 + 1) 0 (.bool false)
     have hzl := Xzl.out
     have tA : Touch (fun b => ¬ (S b ∨ b = w4.heap.size ∨ b = w4.heap.size + 1) ∧ ¬ O b ∧ b ≠ wl.heap.size ∧ b ≠ wl.heap.size + 1) W (W3.setCell ⟨w.heap.size + 1 + 1, 0, none⟩ (.bool false)) := by
      refine (tW3.mono fun _ _ c => c.elim).trans' (tS.mono fun k hk e => ?_)
      subst e
      refine ⟨fun c => ?_, fun c => by have := (XhO.out _ c).1; omega, by omega, by omega⟩
      rcases c with c | c | c
      ·have := Xhlt.out _ c; omega
      ·omega
      ·omega
     have tB : Touch (fun b => b = w.heap.size + 2) wl (W3.setCell ⟨w.heap.size + 1 + 1, 0, none⟩ (.bool false)) := (t53.mono fun _ _ c => c.elim).trans' tS
     clear hzl tS
     have XtW3 := hide tW3
     have Xko3 := hide ko3
     have Xt53 := hide t53
     have Xk3 := hide k3
     have XtA := hide tA
     have XtB := hide tB
     clear tW3 ko3 t53 k3 tA tB
     go_wp2_with fail
     refine ⟨S3, wpMid_nil ?_⟩
     clear S3
     go_wp2_with fail
     refine NoPanic.normal ?_
     gi_wp2_with fail
     exact ⟨XtA.out, rfl, Xk3.out, XtB.out, ⟨_, List.mem_append_right _ (List.mem_singleton.2 rfl), Xhfb.out.symm⟩, Xho5.out⟩
   case done =>
    rintro D xs O W hD rfl ⟨t5, hf5, ho5⟩ hDm
    have koW := Xkol.out.touch t5 (fun c => c)
    have hzl := Xzl.out
    have c3 : W.cell? ⟨w.heap.size + 1 + 1, 0, none⟩ = some (.bool false) := koW.cell 0
    have f3 := koW.frozen 0
    have k3 := koW.put 0 (.bool true)
    have tS := touch_set W (w.heap.size + 1 + 1) 0 (.bool true)
    have mk : MkO (fun b => b = D) [mark D] (W.setCell ⟨w.heap.size + 1 + 1, 0, none⟩ (.bool true)) := ((MkO.nil (fun _ => False) wl).cons (O' := fun b => b = D) (fun _ h => h.elim) (fun _ h => h.elim) rfl hD hDm).touch tS (fun b hb e => by omega)
    have hr2 : r = true := by rw [Xhr.out, List.all_eq_true]; exact hf5
    have bW : Below w.heap.size w (W.setCell ⟨w.heap.size + 1 + 1, 0, none⟩ (.bool true)) := (Xbbl.out.trans ((Touch.refl (fun _ => False) _).trans' t5 |>.below (fun k hk _ e => e) (by omega))).trans (tS.below (fun k hk _ e => by omega) (by have := t5.size; omega))
    clear hzl tS koW t5 hf5 ho5
    have Xk3 := hide k3
    have Xmk := hide mk
    have XbW := hide bW
    have Xhr2 := hide hr2
    clear k3 mk bW hr2
    gi_wp2_with fail
    refine Xmk.out.leaves fun w' t => ?_
    have e0 : w'.cell? ⟨w.heap.size + 1 + 1, 0, none⟩ = some (.bool true) := ((Xk3.out.touch t (fun e => by have := Xzl.out; omega)).cell 0).trans rfl
    refine ⟨.bool true, by simp [results, Tryz.results12, go_sem, e0], ret_bool Xhr2.out.symm, ?_⟩
    exact t.toBelow (fun k e => by have := Xzl.out; omega) XbW.out XbW.out.size
   case stop =>
    rintro D c pre O W hD hSp ⟨rfl, kb5, t5, ⟨y, hy1, hy2⟩, ho5⟩ hDm
    have hzl := Xzl.out
    have mk : MkO (fun b => b = D) [mark D] W := (MkO.nil (fun _ => False) wl).cons (fun _ h => h.elim) (fun _ h => h.elim) rfl hD hDm
    have hr2 : r = false := by
     rw [Xhr.out]
     rcases e : (undL L i).all (fun k => fineN G L (ndAt L k)) with _ | _
     ·rfl
     ·rw [List.all_eq_true] at e
      have := e y (hSp.subset hy1)
      rw [hy2] at this
      cases this
    have bW : Below w.heap.size w W := Xbbl.out.trans (t5.below (fun k hk _ e => by omega) (by omega))
    clear hzl t5 hy1 hy2 ho5 hSp
    have Xkb5 := hide kb5
    have Xmk := hide mk
    have XbW := hide bW
    have Xhr2 := hide hr2
    clear kb5 mk bW hr2
    gi_wp2_with fail
    refine Xmk.out.leaves fun w' t => ?_
    have e0 : w'.cell? ⟨w.heap.size + 1 + 1, 0, none⟩ = some (.bool false) := ((Xkb5.out.touch t (fun e => by have := Xzl.out; omega)).cell 0).trans rfl
    refine ⟨.bool false, by simp [results, Tryz.results12, go_sem, e0], ret_bool Xhr2.out.symm, ?_⟩
    exact t.toBelow (fun k e => by have := Xzl.out; omega) XbW.out XbW.out.size
  ·have hr : chkO G st L i = false := by unfold chkO; rw [hin, decide_eq_false hck]; rfl
   rw [hr]
   obtain ⟨q, hq⟩ : ∃ q, q = checkOf G st := ⟨_, rfl⟩
   rw [← hq] at hck cC
   have hq2 : (q == 0) = false := by simpa using hck
   have XhL := hide hL
   have Xhlt := hide hlt
   have XcI := hide cI
   have XcC := hide cC
   have Xh3 := hide h3
   have Xhg3 := hide hg3
   have Xkt3 := hide kt3
   have Xkg3 := hide kg3
   have Xko3 := hide ko3
   have Xb3 := hide b3
   have Xhck := hide hck
   clear hL hlt cI cC h3 hg3 kt3 kg3 ko3 b3 hck
   clear hr hq
   go_enter Tryz.func12, Tryz.ntmps12
   go_wp2_with fail
   refine XcI.out.mono ?_
   rintro e w' ⟨rfl, rfl⟩
   clear XcI
   go_wp2_with fail
   refine (XcC.out _ (Below.refl _ _)).mono ?_
   rintro e w4 ⟨rfl, b4⟩
   have ko4 := Xko3.out.below b4 (by omega)
   have q5 : w4.cell? ⟨w.heap.size + 1 + 1, 0, none⟩ = some (.bool false) := ko4.cell 0
   have f5 := ko4.frozen 0
   have bb := Xb3.out.trans (b4.mono Xb3.out.size)
   clear XcC b4
   have Xko4 := hide ko4
   have Xbb := hide bb
   clear ko4 bb
   go_wp2_with fail
   have e0 := ((Xko4.out.put 0 (.bool false)).cell 0).trans rfl
   refine bodyPost_ret (v := .bool false) (by simp [results, Tryz.results12, go_sem, e0]) rfl ?_
   exact ⟨rfl, (touch_set w4 (w.heap.size + 1 + 1) 0 (.bool false)).toBelow (fun k e => by omega) Xbb.out Xbb.out.size⟩
 ·have hin : inN L.length i = false := by simpa using hin
  have hr : chkO G st L i = false := by unfold chkO; rw [hin]; rfl
  rw [hr]
  rw [hin] at cI
  have XhL := hide hL
  have Xhlt := hide hlt
  have XcI := hide cI
  have XcC := hide cC
  have Xh3 := hide h3
  have Xhg3 := hide hg3
  have Xkt3 := hide kt3
  have Xkg3 := hide kg3
  have Xko3 := hide ko3
  have Xb3 := hide b3
  clear hL hlt cI cC h3 hg3 kt3 kg3 ko3 b3
  clear hr
  go_enter Tryz.func12, Tryz.ntmps12
  go_wp2_with fail
  refine XcI.out.mono ?_
  rintro e w' ⟨rfl, rfl⟩
  clear XcI
  go_wp2_with fail
  have e0 := ((Xko3.out.put 0 (.bool false)).cell 0).trans rfl
  refine bodyPost_ret (v := .bool false) (by simp [results, Tryz.results12, go_sem, e0]) rfl ?_
  exact ⟨rfl, (touch_set w3 (w.heap.size + 1 + 1) 0 (.bool false)).toBelow (fun k e => by omega) Xb3.out Xb3.out.size⟩
end Go.Proofs.YtacankgalkffmaaGreat

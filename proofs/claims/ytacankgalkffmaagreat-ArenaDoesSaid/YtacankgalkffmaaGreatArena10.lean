/- Trees of nodes: Leaves, Yield. -/
import Derived.Test.YtacankgalkffmaaGreatArena9
namespace Go.Proofs.YtacankgalkffmaaGreat
set_option linter.unusedVariables false
set_option linter.unusedSimpArgs false
open Go.RowKit Go.Shelf
attribute [local go_sem] Oper.semAt_some
attribute [local irreducible] wpStill wpOne wpPh
theorem arena_leafOf (xs xl xr : Int) (A : Option Addr) (n c : Nat) (w : World) : Calls Tryz.prog 45 #[.agg #[.int .i64 xs, .int .i64 xl, .int .i64 xr, .slice A n c]] w (Quiet w (.int .i64 xl)) := by
 have al : Below w.heap.size w (w.alloc (.cells #[.int .i64 xs, .int .i64 xl, .int .i64 xr, .slice A n c] 35)) := (Below.refl _ _).alloc (Nat.le_refl _) _
 have Xal := hide al
 clear al
 go_enter Tryz.func45, Tryz.ntmps45
 go_wp2_with fail
 go_ret
 exact ⟨rfl, Xal.out⟩
theorem arena_symOf (xs xl xr : Int) (A : Option Addr) (n c : Nat) (w : World) : Calls Tryz.prog 47 #[.agg #[.int .i64 xs, .int .i64 xl, .int .i64 xr, .slice A n c]] w (Quiet w (.int .i64 xs)) := by
 have al : Below w.heap.size w (w.alloc (.cells #[.int .i64 xs, .int .i64 xl, .int .i64 xr, .slice A n c] 35)) := (Below.refl _ _).alloc (Nat.le_refl _) _
 have Xal := hide al
 clear al
 go_enter Tryz.func47, Tryz.ntmps47
 go_wp2_with fail
 go_ret
 exact ⟨rfl, Xal.out⟩
def gatL (g : Nd → Int) (L : List Nd) (l : List Int) : List Int := (l.filter fun k => (ndAt L k).il).map fun k => g (ndAt L k)
theorem gatL_len (g : Nd → Int) (L : List Nd) (l : List Int) : (gatL g L l).length ≤ l.length := by unfold gatL; rw [List.length_map]; exact List.length_filter_le _ _
theorem gatL_yes {g : Nd → Int} {L : List Nd} {l : List Int} {k : Int} (h : (ndAt L k).il = true) : gatL g L (l ++ [k]) = gatL g L l ++ [g (ndAt L k)] := by unfold gatL; simp [List.filter_append, h]
theorem gatL_no {g : Nd → Int} {L : List Nd} {l : List Int} {k : Int} (h : (ndAt L k).il = false) : gatL g L (l ++ [k]) = gatL g L l := by unfold gatL; simp [List.filter_append, h]
def IntsRd (w : World) (xs : List Int) (e : Ending) (w' : World) : Prop := Below w.heap.size w w' ∧ ∃ A c, e = .returned (.slice A xs.length c) ∧ RdI w' (fun b => w.heap.size ≤ b ∧ b < w'.heap.size) (.slice A xs.length c) xs
set_option maxRecDepth 100000 in
set_option maxHeartbeats 4000000 in
theorem gather_leaves {w : World} {bt : Nat} {S : Nat → Prop} {L : List Nd} (h : Ar w bt S L) (hL : Tr L) (hl : L.length ≤ 100000) (i : Int) : Calls Tryz.prog 44 #[.pointer (some ⟨bt, 0, none⟩), .int .i64 i, .func (.func 45) #[] #[]] w (IntsRd w (gatL Nd.leaf L (undL L i))) := by
 have hlt := h.lt
 have Xh := hide h
 have XhL := hide hL
 have Xhlt := hide hlt
 clear h hL hlt
 refine (callsIn_wide (n := 7)).1 ?_
 refine callsIn_of_wp_marks Tryz.func44 rfl trivial ?_ rfl
 simp only [Tryz.ntmps44, List.size_toArray, List.length_cons, List.length_nil, Nat.reduceAdd, Nat.reduceSub, Array.replicate_succ, Array.replicate_zero, List.push_toArray, List.append_toArray, List.nil_append, List.cons_append]
 gi_wp2_with fail
 refine ⟨trivial, (callsIn_wide.2 (arena_under _ _ _)).mono ?_⟩
 rintro e wl ⟨rfl, hwl⟩
 obtain ⟨w1, hw1⟩ : ∃ x, x = w.alloc (.cells #[.pointer (some ⟨bt, 0, none⟩)] 29) := ⟨_, rfl⟩
 obtain ⟨w2, hw2⟩ : ∃ x, x = w1.alloc (.cells #[.func (.func 45) #[] #[]] 83) := ⟨_, rfl⟩
 obtain ⟨w3, hw3⟩ : ∃ x, x = w2.alloc (.cells #[.slice none 0 0] 33) := ⟨_, rfl⟩
 obtain ⟨w4, hw4⟩ : ∃ x, x = w3.alloc (.cells #[.pointer (some ⟨bt, 0, none⟩)] 29) := ⟨_, rfl⟩
 rw [← hw1, ← hw2, ← hw3] at hwl ⊢
 rw [← hw4] at hwl
 have z1 : w1.heap.size = w.heap.size + 1 := by rw [hw1]; simp
 have z2 : w2.heap.size = w.heap.size + 2 := by rw [hw2]; simp [z1]
 have z3 : w3.heap.size = w.heap.size + 3 := by rw [hw3]; simp [z2]
 have z4 : w4.heap.size = w.heap.size + 4 := by rw [hw4]; simp [z3]
 have zl : wl.heap.size = w.heap.size + 5 := by rw [hwl]; simp [z4]
 have kt : Blk wl w.heap.size 29 #[.pointer (some ⟨bt, 0, none⟩)] := by rw [hwl, hw4, hw3, hw2, hw1]; exact ((((Blk.new _ _ _).alloc _).alloc _).alloc _).alloc _
 have kw : Blk wl (w.heap.size + 1) 83 #[.func (.func 45) #[] #[]] := by rw [hwl, hw4, hw3, hw2, ← z1]; exact (((Blk.new _ _ _).alloc _).alloc _).alloc _
 have ko : Blk wl (w.heap.size + 2) 33 #[.slice none 0 0] := by rw [hwl, hw4, hw3, ← z2]; exact ((Blk.new _ _ _).alloc _).alloc _
 have kb : Blk wl (w.heap.size + 3) 29 #[.pointer (some ⟨bt, 0, none⟩)] := by rw [hwl, hw4, ← z3]; exact (Blk.new _ _ _).alloc _
 have ki : Blk wl (w.heap.size + 4) 3 #[.int .i64 i] := by rw [hwl, ← z4]; exact Blk.new _ _ _
 have bl : Below w.heap.size w wl := by rw [hwl, hw4, hw3, hw2, hw1]; exact (((((Below.refl _ w).alloc (Nat.le_refl _) _).alloc (by simp) _).alloc (by simp; omega) _).alloc (by simp; omega) _).alloc (by simp; omega) _
 rw [z3, show w.heap.size + 3 + 1 = w.heap.size + 4 from rfl]
 clear hwl hw1 hw2 hw3 hw4 z1 z2 z3 z4
 have ar := Ar.below Xh.out bl
 have cU := under_any (R := fun b => S b ∨ b = w.heap.size + 3 ∨ b = w.heap.size + 4) XhL.out hl ar kb ki (fun b hb => hb) (fun b hb => by rcases hb with q | q | q; have := Xhlt.out b q; omega; omega; omega) 6 (by omega)
 have Xar := hide ar
 have XcU := hide cU
 have Xkt := hide kt
 have Xkw := hide kw
 have Xko := hide ko
 have Xkb := hide kb
 have Xki := hide ki
 have Xbl := hide bl
 clear ar cU kt kw ko kb ki bl
 gi_wp2_with fail
 refine wpIn_rangeFunc_ownO rfl (by omega) (gf := 67) (lb := #[.pointer (some ⟨w.heap.size + 4, 0, none⟩), .pointer (some ⟨w.heap.size + 3, 0, none⟩)]) rfl trivial (enters_of Tryz.func67 (by kernel_rfl) rfl) XcU.out (fun b hb => by rcases hb with q | q | q; have := Xhlt.out b q; omega; omega; omega) (Below.refl _ _) (fun _ => rfl)
  (fun pre O W => ∃ (A : Option Addr) (m c : Nat), Blk W (w.heap.size + 2) 33 #[.slice A m c] ∧ m = (gatL Nd.leaf L pre).length ∧ W.ownsRow (w.heap.size + 5) 3 1 (.slice A m c) m ((gatL Nd.leaf L pre).map (Value.int .i64)) ∧ Touch (fun b => b = w.heap.size + 2) wl W ∧ (∀ k, (Value.slice A m c).ownBlock = some k → w.heap.size + 5 + 2 ≤ k ∧ ¬ O k) ∧ ∀ b, O b → w.heap.size + 5 ≤ b)
  (fun _ _ _ _ => False) ?hI (fun _ _ _ _ _ _ h _ _ => h) ?h0
  (fun x => { tmps := #[.pointer (some ⟨bt, 0, none⟩), .int .i64 i, .func (.func 45) #[] #[], .pointer (some ⟨w.heap.size, 0, none⟩), undef, .pointer (some ⟨w.heap.size + 1, 0, none⟩), .slice none 0 0, .pointer (some ⟨w.heap.size + 1 + 1, 0, none⟩), .int .i64 x, .pointer (some ⟨bt, 0, none⟩), .int .i64 i, .func (.func 67) #[] #[.pointer (some ⟨w.heap.size + 4, 0, none⟩), .pointer (some ⟨w.heap.size + 3, 0, none⟩)], .int .i64 x, undef, undef, undef, undef, undef, undef, undef, undef, undef, undef, undef, undef, undef, undef, undef, undef, undef, undef, undef, undef, undef, undef], defers := [] })
  ?assign ?body ?done ?stop
 case hI =>
  rintro pre O1 O2 X A B ⟨A5, m5, c5, kb5, hm5, ow5, t5, hv5, ho5⟩ tX hX h12 h21
  have hTX : ¬ X (w.heap.size + 2) := fun c => by
   rcases hX _ c with q | q | q
   ·have := ho5 _ q; omega
   ·omega
   ·omega
  have hkX : ∀ k, (Value.slice A5 m5 c5).ownBlock = some k → ¬ X k := fun k e c => by
   obtain ⟨h1, h3⟩ := hv5 k e
   rcases hX _ c with q | q | q
   ·exact h3 q
   ·omega
   ·omega
  have zA := t5.size
  refine ⟨A5, m5, c5, kb5.touch tX hTX, hm5, tX.own ow5 hkX, t5.trans tX fun b hb c => ?_, fun k e => ⟨(hv5 k e).1, fun c => ?_⟩, fun b hb => ?_⟩
  ·rcases hX _ c with q | q | q
   ·have := ho5 _ q; omega
   ·omega
   ·omega
  ·rcases h21 k c with q | q
   ·exact (hv5 k e).2 q
   ·have := (ow5.lt k e).2; omega
  ·rcases h21 b hb with q | q
   ·exact ho5 b q
   ·omega
 case h0 => exact ⟨none, 0, 0, Xko.out, rfl, World.ownsRow_nil _ _ _ _, Touch.refl _ _, fun k e => (by cases e), fun b h => h.elim⟩
 case assign =>
  intro l x Wx K hK
  gi_wp2
  exact hK
 case body =>
  rintro l2 pre O x W ⟨A5, m5, c5, kb5, hm5, ow5, t5, hv5, ho5⟩ hO hz hSp
  obtain ⟨x0, x1⟩ := undL_in XhL.out (hSp.subset (List.mem_append_right pre (List.mem_singleton.2 rfl)))
  have hpl : pre.length + 1 ≤ L.length := by
   have := hSp.length_le
   rw [List.length_append] at this
   exact Nat.le_trans this (undL_len XhL.out i)
  have hml := gatL_len Nd.leaf L pre
  rw [← hm5] at hml
  have arW := Ar.touch Xar.out t5 (fun b hb e => by have := Xhlt.out b hb; omega)
  have ktW := Xkt.out.touch t5 (by omega)
  have kwW := Xkw.out.touch t5 (by omega)
  obtain ⟨v9, M, hML, hM⟩ := arW
  have hx := ndAt_of x0 x1
  obtain ⟨xn, rfl⟩ := Int.eq_ofNat_of_zero_le x0
  rw [← hML, List.getElem?_map, Int.toNat_natCast] at hx
  obtain ⟨p, hp, hpx⟩ := Option.map_eq_some_iff.1 hx
  obtain ⟨g9, c9, rfl, hS9, hg9, d0, d1, d2, d3, d4, -, rk⟩ := hM.at_ hp
  have hxn := (List.getElem?_eq_some_iff.1 hp).1
  have p3 : W.cell? ⟨bt, 0, none⟩ = some (.slice (some ⟨g9, 0, none⟩) M.length c9) := hM.box.cell 0
  have p0 : W.cell? ⟨w.heap.size, 0, none⟩ = some (.pointer (some ⟨bt, 0, none⟩)) := ktW.cell 0
  have p1 : W.cell? ⟨w.heap.size + 1, 0, none⟩ = some (.func (.func 45) #[] #[]) := kwW.cell 0
  have p2 : W.cell? ⟨w.heap.size + 2, 0, none⟩ = some (.slice A5 m5 c5) := kb5.cell 0
  rw [hML] at hpx
  obtain ⟨A99, c99, h99, hcm1, hcm2⟩ := hM.shape
  injection h99 with h97 h98 h99
  subst h97 h99
  generalize M.length = n9 at *
  obtain ⟨Az, nz, cz, hz9, -⟩ := id rk
  rw [hz9] at d3
  have hG : Nd.leaf (ndAt L (xn : Int)) = Nd.leaf p.1 := by rw [hpx]
  obtain ⟨pi, hpi⟩ : ∃ b, b = p.1.il := ⟨_, rfl⟩
  have hil : (ndAt L (xn : Int)).il = pi := by rw [← hpx, hpi]
  rw [← hpi] at d4
  obtain ⟨⟨xs, xl, xr, xk, xi, xb⟩, xz⟩ := p
  simp only at d0 d1 d2 hG
  have hbt9 : bt < w.heap.size ∧ g9 < w.heap.size := ⟨Xhlt.out _ hM.sb, Xhlt.out _ hS9⟩
  clear hM hx hp hML hpx hz9 rk hpi ktW kwW hS9 hg9 hSp
  cases pi with
  | false =>
   have hn := gatL_no (g := Nd.leaf) (l := pre) hil
   rw [← hn] at hm5 ow5
   have Xkb5 := hide kb5
   have Xow5 := hide ow5
   have Xt5 := hide t5
   have Xhv5 := hide hv5
   have Xho5 := hide ho5
   have Xhm5 := hide hm5
   clear kb5 ow5 t5 hv5 ho5 hm5
   clear hn hil hG
   gi_wp2_with fail
   exact ⟨Touch.refl _ _, A5, m5, c5, Xkb5.out, Xhm5.out, Xow5.out, Xt5.out, Xhv5.out, Xho5.out⟩
  | true =>
   have hn := gatL_yes (g := Nd.leaf) (l := pre) hil
   rw [hG] at hn
   replace hn : gatL Nd.leaf L (pre ++ [(xn : Int)]) = gatL Nd.leaf L pre ++ [xl] := hn
   have f2 := kb5.frozen 0
   have cW := fun W' => arena_leafOf xs xl xr Az nz cz W'
   have Xkb5 := hide kb5
   have Xow5 := hide ow5
   have Xt5 := hide t5
   have Xhv5 := hide hv5
   have Xho5 := hide ho5
   have Xhm5 := hide hm5
   have Xhn := hide hn
   have XcW := hide cW
   have XhO := hide hO
   clear kb5 ow5 t5 hv5 ho5 hm5 hn cW hO
   clear hil hG
   have hSx : W.drew.cell? ⟨w.heap.size, 0, none⟩ = some (.pointer (some ⟨bt, 0, none⟩)) ∧ W.drew.cell? ⟨w.heap.size + 1, 0, none⟩ = some (.func (.func 45) #[] #[]) ∧ W.drew.cell? ⟨w.heap.size + 1 + 1, 0, none⟩ = some (.slice A5 m5 c5) ∧ W.drew.cell? ⟨bt, 0, none⟩ = some (.slice (some ⟨g9, 0, none⟩) n9 c9) ∧ W.drew.cell? ⟨g9, xn * 6, none⟩ = some (.int .i64 xs) ∧ W.drew.cell? ⟨g9, xn * 6 + 1, none⟩ = some (.int .i64 xl) ∧ W.drew.cell? ⟨g9, xn * 6 + 2, none⟩ = some (.int .i64 xr) ∧ W.drew.cell? ⟨g9, xn * 6 + 3, none⟩ = some (.slice Az nz cz) := ⟨p0, p1, p2, p3, d0, d1, d2, d3⟩
   gi_wp2_with fail
   refine region_late_round (fun V => V.cell? ⟨w.heap.size, 0, none⟩ = some (.pointer (some ⟨bt, 0, none⟩)) ∧ V.cell? ⟨w.heap.size + 1, 0, none⟩ = some (.func (.func 45) #[] #[]) ∧ V.cell? ⟨w.heap.size + 1 + 1, 0, none⟩ = some (.slice A5 m5 c5) ∧ V.cell? ⟨bt, 0, none⟩ = some (.slice (some ⟨g9, 0, none⟩) n9 c9) ∧ V.cell? ⟨g9, xn * 6, none⟩ = some (.int .i64 xs) ∧ V.cell? ⟨g9, xn * 6 + 1, none⟩ = some (.int .i64 xl) ∧ V.cell? ⟨g9, xn * 6 + 2, none⟩ = some (.int .i64 xr) ∧ V.cell? ⟨g9, xn * 6 + 3, none⟩ = some (.slice Az nz cz)) 10 13 (by kernel_rfl) (by kernel_rfl) hSx (by kernel_rfl) (by rintro ⟨_, _, h⟩; exact h) ?_
   simp only [List.take_succ_cons, List.take_zero, List.drop_succ_cons, List.drop_zero]
   refine wpHeld_cons ?_ (by rfl) (fun wS hwS => ?_) ?_
   rotate_left
   ·(try dsimp only at hwS)
    go_simp
    all_goals with_reducible rfl
   simp only [Act.put, List.setIfInBounds_toArray, List.set_cons_zero, List.set_cons_succ]
   refine wpHeld_cons ?_ (by rfl) (fun wS hwS => ?_) ?_
   rotate_left
   ·(try dsimp only at hwS)
    go_simp
    all_goals with_reducible rfl
   simp only [Act.put, List.setIfInBounds_toArray, List.set_cons_zero, List.set_cons_succ]
   refine wpHeld_cons ?_ (by rfl) (fun wS hwS => ?_) ?_
   rotate_left
   ·(try dsimp only at hwS)
    go_simp
    all_goals with_reducible rfl
   simp only [Act.put, List.setIfInBounds_toArray, List.set_cons_zero, List.set_cons_succ]
   refine wpHeld_cons ?_ (by rfl) (fun wS hwS => ?_) ?_
   rotate_left
   ·(try dsimp only at hwS)
    go_simp
    all_goals with_reducible rfl
   simp only [Act.put, List.setIfInBounds_toArray, List.set_cons_zero, List.set_cons_succ]
   refine wpHeld_cons ?_ (by rfl) (fun wS hwS => ?_) ?_
   rotate_left
   ·(try dsimp only at hwS)
    go_simp
    all_goals with_reducible rfl
   simp only [Act.put, List.setIfInBounds_toArray, List.set_cons_zero, List.set_cons_succ]
   refine wpHeld_cons ?_ (by rfl) (fun wS hwS => ?_) ?_
   rotate_left
   ·(try dsimp only at hwS)
    go_simp
    all_goals with_reducible rfl
   simp only [Act.put, List.setIfInBounds_toArray, List.set_cons_zero, List.set_cons_succ]
   refine wpHeld_cons ?_ (by rfl) (fun wS hwS => ?_) ?_
   rotate_left
   ·(try dsimp only at hwS)
    go_simp
    all_goals with_reducible rfl
   simp only [Act.put, List.setIfInBounds_toArray, List.set_cons_zero, List.set_cons_succ]
   refine wpHeld_cons ?_ (by rfl) (fun wS hwS => ?_) ?_
   rotate_left
   ·(try dsimp only at hwS)
    go_simp
    all_goals with_reducible rfl
   simp only [Act.put, List.setIfInBounds_toArray, List.set_cons_zero, List.set_cons_succ]
   refine wpHeld_cons ?_ (by rfl) (fun wS hwS => ?_) ?_
   rotate_left
   ·(try dsimp only at hwS)
    go_simp
    all_goals with_reducible rfl
   simp only [Act.put, List.setIfInBounds_toArray, List.set_cons_zero, List.set_cons_succ]
   refine wpHeld_cons ?_ (by rfl) (fun wS hwS => ?_) ?_
   rotate_left
   ·(try dsimp only at hwS)
    go_simp
    all_goals with_reducible rfl
   simp only [Act.put, List.setIfInBounds_toArray, List.set_cons_zero, List.set_cons_succ]
   refine wpHeld_nil ?_
   refine wpMid_cons ?_
   go_wp2_with fail
   refine (XcW.out _).mono ?_
   rintro e W3 ⟨rfl, b3⟩
   obtain ⟨s0, s1, s2, s3, s4, s5, s6, s7⟩ := hSx
   have S3 := (⟨upA_cell b3 s0, upA_cell b3 s1, upA_cell b3 s2, upA_cell b3 s3, upA_cell b3 s4, upA_cell b3 s5, upA_cell b3 s6, upA_cell b3 s7⟩ : _ ∧ _ ∧ _ ∧ _ ∧ _ ∧ _ ∧ _ ∧ _)
   clear s0 s1 s2 s3 s4 s5 s6 s7 p0 p1 p2 p3 d0 d1 d2 d3 d4
   go_wp2_with fail
   refine ⟨S3, wpMid_cons ?_⟩
   go_wp2_with fail
   have al : Below W3.heap.size W3 (W3.alloc (.cells #[.int .i64 xl] 3)) := (Below.refl _ _).alloc (Nat.le_refl _) _
   obtain ⟨s0, s1, s2, s3, s4, s5, s6, s7⟩ := S3
   have S4 := (⟨upA_cell al s0, upA_cell al s1, upA_cell al s2, upA_cell al s3, upA_cell al s4, upA_cell al s5, upA_cell al s6, upA_cell al s7⟩ : _ ∧ _ ∧ _ ∧ _ ∧ _ ∧ _ ∧ _ ∧ _)
   clear s0 s1 s2 s3 s4 s5 s6 s7
   have tW3 : Touch (fun _ => False) W (W3.alloc (.cells #[.int .i64 xl] 3)) := ((Touch.refl _ W).drew.trans' (Touch.of_size b3 _)).trans' (Touch.of_size al _)
   have z4 : (W3.alloc (.cells #[.int .i64 xl] 3)).heap.size = W3.heap.size + 1 := by simp
   have zW3 : W.heap.size ≤ W3.heap.size := b3.size
   have own4 := tW3.own Xow5.out (fun _ _ c => c)
   have rone : Rd (W3.alloc (.cells #[.int .i64 xl] 3)) (fun _ => True) (.slice (some ⟨W3.heap.size, 0, none⟩) 1 1) 1 ([xl].map (Value.int .i64)) := Rd.one (w := W3) (e := 3) ([xl].map (Value.int .i64)) 1 rfl
   clear b3 al
   have XtW3 := hide tW3
   have Xown4 := hide own4
   have Xrone := hide rone
   clear tW3 own4 rone
   refine ⟨S4, wpMid_cons ?_⟩
   go_wp2_with (at_builtin; refine wp_append _ rfl (.tmp 21) (.tmp 32) _ rfl Tryz.elemInt (w.heap.size + 5) (.slice A5 m5 c5) m5 _ rfl Xown4.out _ _ ([xl].map (Value.int .i64)) 1 rfl rfl Xrone.out (ints_one [xl]) (by unfold maxLen; omega) (by omega) (by omega) ?_)
   intro A6 c6 w6 own7 g6 ho6
   have tg : Touch (fun b => (Value.slice A5 m5 c5).ownBlock = some b) (W3.alloc (.cells #[.int .i64 xl] 3)) w6 := (Touch.refl _ _).grown g6 (fun k e _ => e)
   have t6 : Touch (fun b => (Value.slice A5 m5 c5).ownBlock = some b) W w6 := (XtW3.out.mono (fun _ _ c => c.elim)).trans' tg
   have nb : ∀ b, b < w.heap.size + 5 → (Value.slice A5 m5 c5).ownBlock ≠ some b := fun b hb e => by have := (Xhv5.out b e).1; omega
   obtain ⟨s0, s1, s2, s3, s4, s5, s6, s7⟩ := S4
   have S6 := (⟨tg.cell s0 (nb _ (by simp)), tg.cell s1 (nb _ (by simp)), tg.cell s2 (nb _ (by simp)), tg.cell s3 (nb _ (by have := hbt9.1; simp; omega)), tg.cell s4 (nb _ (by have := hbt9.2; simp; omega)), tg.cell s5 (nb _ (by have := hbt9.2; simp; omega)), tg.cell s6 (nb _ (by have := hbt9.2; simp; omega)), tg.cell s7 (nb _ (by have := hbt9.2; simp; omega))⟩ : _ ∧ _ ∧ _ ∧ _ ∧ _ ∧ _ ∧ _ ∧ _)
   clear s0 s1 s2 s3 s4 s5 s6 s7
   have kb6 := Xkb5.out.touch t6 (nb _ (by omega))
   have f6 := kb6.frozen 0
   have k8 := kb6.put 0 (.slice A6 (m5 + 1) c6)
   have z6 : W3.heap.size + 1 ≤ w6.heap.size := by have := g6.size; simpa using this
   have hv6 : ∀ k, (Value.slice A6 (m5 + 1) c6).ownBlock = some k → w.heap.size + 5 + 2 ≤ k ∧ ¬ O k := fun k e => by
    rcases ho6 with h | h
    ·exact Xhv5.out k (h ▸ e)
    ·rw [h] at e
     injection e with e
     subst e
     exact ⟨by omega, fun c => by have := (XhO.out _ c).2; omega⟩
   replace own7 : w6.ownsRow (w.heap.size + 5) 3 1 (.slice A6 (m5 + 1) c6) (m5 + 1) ((gatL Nd.leaf L (pre ++ [(xn : Int)])).map (Value.int .i64)) := by rw [Xhn.out, List.map_append]; exact own7
   have tS : Touch (fun b => b = w.heap.size + 2) w6 (w6.setCell ⟨w.heap.size + 2, 0, none⟩ (.slice A6 (m5 + 1) c6)) := touch_set _ _ _ _
   have own8 := tS.own own7 fun k e => by have := (hv6 k e).1; omega
   have hm8 : m5 + 1 = (gatL Nd.leaf L (pre ++ [(xn : Int)])).length := by rw [Xhn.out, List.length_append, ← Xhm5.out]; rfl
   have tA : Touch (fun b => ¬ (S b ∨ b = w.heap.size + 3 ∨ b = w.heap.size + 4) ∧ ¬ O b ∧ b ≠ w.heap.size + 5 ∧ b ≠ w.heap.size + 5 + 1) W (w6.setCell ⟨w.heap.size + 2, 0, none⟩ (.slice A6 (m5 + 1) c6)) := by
    refine (t6.mono fun k hk e => ?_).trans' (tS.mono fun k hk e => ?_)
    ·obtain ⟨h1, h3⟩ := Xhv5.out k e
     refine ⟨fun c => ?_, h3, by omega, by omega⟩
     rcases c with c | c | c
     ·have := Xhlt.out k c; omega
     ·omega
     ·omega
    ·subst e
     refine ⟨fun c => ?_, fun c => by have := (XhO.out _ c).1; omega, by omega, by omega⟩
     rcases c with c | c | c
     ·have := Xhlt.out _ c; omega
     ·omega
     ·omega
   have tB : Touch (fun b => b = w.heap.size + 2) wl (w6.setCell ⟨w.heap.size + 2, 0, none⟩ (.slice A6 (m5 + 1) c6)) := (Xt5.out.trans t6 fun k hk e => by have := (Xhv5.out k e).1; omega).trans' tS
   have FF := And.intro tA (And.intro k8 (And.intro hm8 (And.intro own8 (And.intro tB hv6))))
   clear own7 g6 ho6 t6 tg kb6 k8 hv6 tS own8 hm8 tA tB nb Xkb5 Xow5 Xt5 Xhv5 XtW3 Xown4 Xrone
   have XFF := hide FF
   clear FF
   refine ⟨S6, wpMid_nil ?_⟩
   go_wp2_with fail
   refine NoPanic.normal ?_
   gi_wp2_with fail
   obtain ⟨f1, f2, f3, f4, f5, f6⟩ := XFF.out
   rw [← zl] at f1
   exact ⟨f1, _, _, _, f2, f3, f4, f5, f6, Xho5.out⟩
 case done =>
  rintro D xs O W hD rfl ⟨A5, m5, c5, kb5, hm5, ow5, t5, hv5, ho5⟩ hDm
  have p2 : W.cell? ⟨w.heap.size + 2, 0, none⟩ = some (.slice A5 m5 c5) := kb5.cell 0
  have bW : Below w.heap.size w W := Xbl.out.trans (t5.below (fun k hk _ e => by omega) (by omega))
  have lt5 := ow5.lt
  have mk : MkO (fun b => b = D) [mark D] W := (MkO.nil (fun _ => False) wl).cons (fun _ h => h.elim) (fun _ h => h.elim) rfl hD hDm
  have nD := own_not_mark ow5 hDm
  subst hm5
  have Xkb5 := hide kb5
  have Xow5 := hide ow5
  have Xt5 := hide t5
  have Xhv5 := hide hv5
  have Xho5 := hide ho5
  have XbW := hide bW
  have Xmk := hide mk
  have XnD := hide nD
  have Xlt5 := hide lt5
  clear kb5 ow5 t5 hv5 ho5 bW mk nD lt5
  gi_wp2_with fail
  refine Xmk.out.leaves fun w' t => ⟨_, results_tmp rfl _ _ _, ?_⟩
  refine ⟨t.toBelow (fun k e => by omega) XbW.out XbW.out.size, A5, c5, rfl, ?_⟩
  have hzt := t.size
  exact (Rd.touch (Rd.of_own Xow5.out) t fun b hb e => XnD.out (by rw [← e]; exact hb)).mono fun b hb => by
   have := Xlt5.out b hb
   exact ⟨by omega, by omega⟩
 case stop =>
  intro D c pre O W hD hSp h
  exact h.elim
set_option maxRecDepth 100000 in
set_option maxHeartbeats 4000000 in
theorem gather_yield {w : World} {bt : Nat} {S : Nat → Prop} {L : List Nd} (h : Ar w bt S L) (hL : Tr L) (hl : L.length ≤ 100000) (i : Int) : Calls Tryz.prog 44 #[.pointer (some ⟨bt, 0, none⟩), .int .i64 i, .func (.func 47) #[] #[]] w (IntsRd w (gatL Nd.sym L (undL L i))) := by
 have hlt := h.lt
 have Xh := hide h
 have XhL := hide hL
 have Xhlt := hide hlt
 clear h hL hlt
 refine (callsIn_wide (n := 7)).1 ?_
 refine callsIn_of_wp_marks Tryz.func44 rfl trivial ?_ rfl
 simp only [Tryz.ntmps44, List.size_toArray, List.length_cons, List.length_nil, Nat.reduceAdd, Nat.reduceSub, Array.replicate_succ, Array.replicate_zero, List.push_toArray, List.append_toArray, List.nil_append, List.cons_append]
 gi_wp2_with fail
 refine ⟨trivial, (callsIn_wide.2 (arena_under _ _ _)).mono ?_⟩
 rintro e wl ⟨rfl, hwl⟩
 obtain ⟨w1, hw1⟩ : ∃ x, x = w.alloc (.cells #[.pointer (some ⟨bt, 0, none⟩)] 29) := ⟨_, rfl⟩
 obtain ⟨w2, hw2⟩ : ∃ x, x = w1.alloc (.cells #[.func (.func 47) #[] #[]] 83) := ⟨_, rfl⟩
 obtain ⟨w3, hw3⟩ : ∃ x, x = w2.alloc (.cells #[.slice none 0 0] 33) := ⟨_, rfl⟩
 obtain ⟨w4, hw4⟩ : ∃ x, x = w3.alloc (.cells #[.pointer (some ⟨bt, 0, none⟩)] 29) := ⟨_, rfl⟩
 rw [← hw1, ← hw2, ← hw3] at hwl ⊢
 rw [← hw4] at hwl
 have z1 : w1.heap.size = w.heap.size + 1 := by rw [hw1]; simp
 have z2 : w2.heap.size = w.heap.size + 2 := by rw [hw2]; simp [z1]
 have z3 : w3.heap.size = w.heap.size + 3 := by rw [hw3]; simp [z2]
 have z4 : w4.heap.size = w.heap.size + 4 := by rw [hw4]; simp [z3]
 have zl : wl.heap.size = w.heap.size + 5 := by rw [hwl]; simp [z4]
 have kt : Blk wl w.heap.size 29 #[.pointer (some ⟨bt, 0, none⟩)] := by rw [hwl, hw4, hw3, hw2, hw1]; exact ((((Blk.new _ _ _).alloc _).alloc _).alloc _).alloc _
 have kw : Blk wl (w.heap.size + 1) 83 #[.func (.func 47) #[] #[]] := by rw [hwl, hw4, hw3, hw2, ← z1]; exact (((Blk.new _ _ _).alloc _).alloc _).alloc _
 have ko : Blk wl (w.heap.size + 2) 33 #[.slice none 0 0] := by rw [hwl, hw4, hw3, ← z2]; exact ((Blk.new _ _ _).alloc _).alloc _
 have kb : Blk wl (w.heap.size + 3) 29 #[.pointer (some ⟨bt, 0, none⟩)] := by rw [hwl, hw4, ← z3]; exact (Blk.new _ _ _).alloc _
 have ki : Blk wl (w.heap.size + 4) 3 #[.int .i64 i] := by rw [hwl, ← z4]; exact Blk.new _ _ _
 have bl : Below w.heap.size w wl := by rw [hwl, hw4, hw3, hw2, hw1]; exact (((((Below.refl _ w).alloc (Nat.le_refl _) _).alloc (by simp) _).alloc (by simp; omega) _).alloc (by simp; omega) _).alloc (by simp; omega) _
 rw [z3, show w.heap.size + 3 + 1 = w.heap.size + 4 from rfl]
 clear hwl hw1 hw2 hw3 hw4 z1 z2 z3 z4
 have ar := Ar.below Xh.out bl
 have cU := under_any (R := fun b => S b ∨ b = w.heap.size + 3 ∨ b = w.heap.size + 4) XhL.out hl ar kb ki (fun b hb => hb) (fun b hb => by rcases hb with q | q | q; have := Xhlt.out b q; omega; omega; omega) 6 (by omega)
 have Xar := hide ar
 have XcU := hide cU
 have Xkt := hide kt
 have Xkw := hide kw
 have Xko := hide ko
 have Xkb := hide kb
 have Xki := hide ki
 have Xbl := hide bl
 clear ar cU kt kw ko kb ki bl
 gi_wp2_with fail
 refine wpIn_rangeFunc_ownO rfl (by omega) (gf := 67) (lb := #[.pointer (some ⟨w.heap.size + 4, 0, none⟩), .pointer (some ⟨w.heap.size + 3, 0, none⟩)]) rfl trivial (enters_of Tryz.func67 (by kernel_rfl) rfl) XcU.out (fun b hb => by rcases hb with q | q | q; have := Xhlt.out b q; omega; omega; omega) (Below.refl _ _) (fun _ => rfl)
  (fun pre O W => ∃ (A : Option Addr) (m c : Nat), Blk W (w.heap.size + 2) 33 #[.slice A m c] ∧ m = (gatL Nd.sym L pre).length ∧ W.ownsRow (w.heap.size + 5) 3 1 (.slice A m c) m ((gatL Nd.sym L pre).map (Value.int .i64)) ∧ Touch (fun b => b = w.heap.size + 2) wl W ∧ (∀ k, (Value.slice A m c).ownBlock = some k → w.heap.size + 5 + 2 ≤ k ∧ ¬ O k) ∧ ∀ b, O b → w.heap.size + 5 ≤ b)
  (fun _ _ _ _ => False) ?hI (fun _ _ _ _ _ _ h _ _ => h) ?h0
  (fun x => { tmps := #[.pointer (some ⟨bt, 0, none⟩), .int .i64 i, .func (.func 47) #[] #[], .pointer (some ⟨w.heap.size, 0, none⟩), undef, .pointer (some ⟨w.heap.size + 1, 0, none⟩), .slice none 0 0, .pointer (some ⟨w.heap.size + 1 + 1, 0, none⟩), .int .i64 x, .pointer (some ⟨bt, 0, none⟩), .int .i64 i, .func (.func 67) #[] #[.pointer (some ⟨w.heap.size + 4, 0, none⟩), .pointer (some ⟨w.heap.size + 3, 0, none⟩)], .int .i64 x, undef, undef, undef, undef, undef, undef, undef, undef, undef, undef, undef, undef, undef, undef, undef, undef, undef, undef, undef, undef, undef, undef], defers := [] })
  ?assign ?body ?done ?stop
 case hI =>
  rintro pre O1 O2 X A B ⟨A5, m5, c5, kb5, hm5, ow5, t5, hv5, ho5⟩ tX hX h12 h21
  have hTX : ¬ X (w.heap.size + 2) := fun c => by
   rcases hX _ c with q | q | q
   ·have := ho5 _ q; omega
   ·omega
   ·omega
  have hkX : ∀ k, (Value.slice A5 m5 c5).ownBlock = some k → ¬ X k := fun k e c => by
   obtain ⟨h1, h3⟩ := hv5 k e
   rcases hX _ c with q | q | q
   ·exact h3 q
   ·omega
   ·omega
  have zA := t5.size
  refine ⟨A5, m5, c5, kb5.touch tX hTX, hm5, tX.own ow5 hkX, t5.trans tX fun b hb c => ?_, fun k e => ⟨(hv5 k e).1, fun c => ?_⟩, fun b hb => ?_⟩
  ·rcases hX _ c with q | q | q
   ·have := ho5 _ q; omega
   ·omega
   ·omega
  ·rcases h21 k c with q | q
   ·exact (hv5 k e).2 q
   ·have := (ow5.lt k e).2; omega
  ·rcases h21 b hb with q | q
   ·exact ho5 b q
   ·omega
 case h0 => exact ⟨none, 0, 0, Xko.out, rfl, World.ownsRow_nil _ _ _ _, Touch.refl _ _, fun k e => (by cases e), fun b h => h.elim⟩
 case assign =>
  intro l x Wx K hK
  gi_wp2
  exact hK
 case body =>
  rintro l2 pre O x W ⟨A5, m5, c5, kb5, hm5, ow5, t5, hv5, ho5⟩ hO hz hSp
  obtain ⟨x0, x1⟩ := undL_in XhL.out (hSp.subset (List.mem_append_right pre (List.mem_singleton.2 rfl)))
  have hpl : pre.length + 1 ≤ L.length := by
   have := hSp.length_le
   rw [List.length_append] at this
   exact Nat.le_trans this (undL_len XhL.out i)
  have hml := gatL_len Nd.sym L pre
  rw [← hm5] at hml
  have arW := Ar.touch Xar.out t5 (fun b hb e => by have := Xhlt.out b hb; omega)
  have ktW := Xkt.out.touch t5 (by omega)
  have kwW := Xkw.out.touch t5 (by omega)
  obtain ⟨v9, M, hML, hM⟩ := arW
  have hx := ndAt_of x0 x1
  obtain ⟨xn, rfl⟩ := Int.eq_ofNat_of_zero_le x0
  rw [← hML, List.getElem?_map, Int.toNat_natCast] at hx
  obtain ⟨p, hp, hpx⟩ := Option.map_eq_some_iff.1 hx
  obtain ⟨g9, c9, rfl, hS9, hg9, d0, d1, d2, d3, d4, -, rk⟩ := hM.at_ hp
  have hxn := (List.getElem?_eq_some_iff.1 hp).1
  have p3 : W.cell? ⟨bt, 0, none⟩ = some (.slice (some ⟨g9, 0, none⟩) M.length c9) := hM.box.cell 0
  have p0 : W.cell? ⟨w.heap.size, 0, none⟩ = some (.pointer (some ⟨bt, 0, none⟩)) := ktW.cell 0
  have p1 : W.cell? ⟨w.heap.size + 1, 0, none⟩ = some (.func (.func 47) #[] #[]) := kwW.cell 0
  have p2 : W.cell? ⟨w.heap.size + 2, 0, none⟩ = some (.slice A5 m5 c5) := kb5.cell 0
  rw [hML] at hpx
  obtain ⟨A99, c99, h99, hcm1, hcm2⟩ := hM.shape
  injection h99 with h97 h98 h99
  subst h97 h99
  generalize M.length = n9 at *
  obtain ⟨Az, nz, cz, hz9, -⟩ := id rk
  rw [hz9] at d3
  have hG : Nd.sym (ndAt L (xn : Int)) = Nd.sym p.1 := by rw [hpx]
  obtain ⟨pi, hpi⟩ : ∃ b, b = p.1.il := ⟨_, rfl⟩
  have hil : (ndAt L (xn : Int)).il = pi := by rw [← hpx, hpi]
  rw [← hpi] at d4
  obtain ⟨⟨xs, xl, xr, xk, xi, xb⟩, xz⟩ := p
  simp only at d0 d1 d2 hG
  have hbt9 : bt < w.heap.size ∧ g9 < w.heap.size := ⟨Xhlt.out _ hM.sb, Xhlt.out _ hS9⟩
  clear hM hx hp hML hpx hz9 rk hpi ktW kwW hS9 hg9 hSp
  cases pi with
  | false =>
   have hn := gatL_no (g := Nd.sym) (l := pre) hil
   rw [← hn] at hm5 ow5
   have Xkb5 := hide kb5
   have Xow5 := hide ow5
   have Xt5 := hide t5
   have Xhv5 := hide hv5
   have Xho5 := hide ho5
   have Xhm5 := hide hm5
   clear kb5 ow5 t5 hv5 ho5 hm5
   clear hn hil hG
   gi_wp2_with fail
   exact ⟨Touch.refl _ _, A5, m5, c5, Xkb5.out, Xhm5.out, Xow5.out, Xt5.out, Xhv5.out, Xho5.out⟩
  | true =>
   have hn := gatL_yes (g := Nd.sym) (l := pre) hil
   rw [hG] at hn
   replace hn : gatL Nd.sym L (pre ++ [(xn : Int)]) = gatL Nd.sym L pre ++ [xs] := hn
   have f2 := kb5.frozen 0
   have cW := fun W' => arena_symOf xs xl xr Az nz cz W'
   have Xkb5 := hide kb5
   have Xow5 := hide ow5
   have Xt5 := hide t5
   have Xhv5 := hide hv5
   have Xho5 := hide ho5
   have Xhm5 := hide hm5
   have Xhn := hide hn
   have XcW := hide cW
   have XhO := hide hO
   clear kb5 ow5 t5 hv5 ho5 hm5 hn cW hO
   clear hil hG
   have hSx : W.drew.cell? ⟨w.heap.size, 0, none⟩ = some (.pointer (some ⟨bt, 0, none⟩)) ∧ W.drew.cell? ⟨w.heap.size + 1, 0, none⟩ = some (.func (.func 47) #[] #[]) ∧ W.drew.cell? ⟨w.heap.size + 1 + 1, 0, none⟩ = some (.slice A5 m5 c5) ∧ W.drew.cell? ⟨bt, 0, none⟩ = some (.slice (some ⟨g9, 0, none⟩) n9 c9) ∧ W.drew.cell? ⟨g9, xn * 6, none⟩ = some (.int .i64 xs) ∧ W.drew.cell? ⟨g9, xn * 6 + 1, none⟩ = some (.int .i64 xl) ∧ W.drew.cell? ⟨g9, xn * 6 + 2, none⟩ = some (.int .i64 xr) ∧ W.drew.cell? ⟨g9, xn * 6 + 3, none⟩ = some (.slice Az nz cz) := ⟨p0, p1, p2, p3, d0, d1, d2, d3⟩
   gi_wp2_with fail
   refine region_late_round (fun V => V.cell? ⟨w.heap.size, 0, none⟩ = some (.pointer (some ⟨bt, 0, none⟩)) ∧ V.cell? ⟨w.heap.size + 1, 0, none⟩ = some (.func (.func 47) #[] #[]) ∧ V.cell? ⟨w.heap.size + 1 + 1, 0, none⟩ = some (.slice A5 m5 c5) ∧ V.cell? ⟨bt, 0, none⟩ = some (.slice (some ⟨g9, 0, none⟩) n9 c9) ∧ V.cell? ⟨g9, xn * 6, none⟩ = some (.int .i64 xs) ∧ V.cell? ⟨g9, xn * 6 + 1, none⟩ = some (.int .i64 xl) ∧ V.cell? ⟨g9, xn * 6 + 2, none⟩ = some (.int .i64 xr) ∧ V.cell? ⟨g9, xn * 6 + 3, none⟩ = some (.slice Az nz cz)) 10 13 (by kernel_rfl) (by kernel_rfl) hSx (by kernel_rfl) (by rintro ⟨_, _, h⟩; exact h) ?_
   simp only [List.take_succ_cons, List.take_zero, List.drop_succ_cons, List.drop_zero]
   refine wpHeld_cons ?_ (by rfl) (fun wS hwS => ?_) ?_
   rotate_left
   ·(try dsimp only at hwS)
    go_simp
    all_goals with_reducible rfl
   simp only [Act.put, List.setIfInBounds_toArray, List.set_cons_zero, List.set_cons_succ]
   refine wpHeld_cons ?_ (by rfl) (fun wS hwS => ?_) ?_
   rotate_left
   ·(try dsimp only at hwS)
    go_simp
    all_goals with_reducible rfl
   simp only [Act.put, List.setIfInBounds_toArray, List.set_cons_zero, List.set_cons_succ]
   refine wpHeld_cons ?_ (by rfl) (fun wS hwS => ?_) ?_
   rotate_left
   ·(try dsimp only at hwS)
    go_simp
    all_goals with_reducible rfl
   simp only [Act.put, List.setIfInBounds_toArray, List.set_cons_zero, List.set_cons_succ]
   refine wpHeld_cons ?_ (by rfl) (fun wS hwS => ?_) ?_
   rotate_left
   ·(try dsimp only at hwS)
    go_simp
    all_goals with_reducible rfl
   simp only [Act.put, List.setIfInBounds_toArray, List.set_cons_zero, List.set_cons_succ]
   refine wpHeld_cons ?_ (by rfl) (fun wS hwS => ?_) ?_
   rotate_left
   ·(try dsimp only at hwS)
    go_simp
    all_goals with_reducible rfl
   simp only [Act.put, List.setIfInBounds_toArray, List.set_cons_zero, List.set_cons_succ]
   refine wpHeld_cons ?_ (by rfl) (fun wS hwS => ?_) ?_
   rotate_left
   ·(try dsimp only at hwS)
    go_simp
    all_goals with_reducible rfl
   simp only [Act.put, List.setIfInBounds_toArray, List.set_cons_zero, List.set_cons_succ]
   refine wpHeld_cons ?_ (by rfl) (fun wS hwS => ?_) ?_
   rotate_left
   ·(try dsimp only at hwS)
    go_simp
    all_goals with_reducible rfl
   simp only [Act.put, List.setIfInBounds_toArray, List.set_cons_zero, List.set_cons_succ]
   refine wpHeld_cons ?_ (by rfl) (fun wS hwS => ?_) ?_
   rotate_left
   ·(try dsimp only at hwS)
    go_simp
    all_goals with_reducible rfl
   simp only [Act.put, List.setIfInBounds_toArray, List.set_cons_zero, List.set_cons_succ]
   refine wpHeld_cons ?_ (by rfl) (fun wS hwS => ?_) ?_
   rotate_left
   ·(try dsimp only at hwS)
    go_simp
    all_goals with_reducible rfl
   simp only [Act.put, List.setIfInBounds_toArray, List.set_cons_zero, List.set_cons_succ]
   refine wpHeld_cons ?_ (by rfl) (fun wS hwS => ?_) ?_
   rotate_left
   ·(try dsimp only at hwS)
    go_simp
    all_goals with_reducible rfl
   simp only [Act.put, List.setIfInBounds_toArray, List.set_cons_zero, List.set_cons_succ]
   refine wpHeld_nil ?_
   refine wpMid_cons ?_
   go_wp2_with fail
   refine (XcW.out _).mono ?_
   rintro e W3 ⟨rfl, b3⟩
   obtain ⟨s0, s1, s2, s3, s4, s5, s6, s7⟩ := hSx
   have S3 := (⟨upA_cell b3 s0, upA_cell b3 s1, upA_cell b3 s2, upA_cell b3 s3, upA_cell b3 s4, upA_cell b3 s5, upA_cell b3 s6, upA_cell b3 s7⟩ : _ ∧ _ ∧ _ ∧ _ ∧ _ ∧ _ ∧ _ ∧ _)
   clear s0 s1 s2 s3 s4 s5 s6 s7 p0 p1 p2 p3 d0 d1 d2 d3 d4
   go_wp2_with fail
   refine ⟨S3, wpMid_cons ?_⟩
   go_wp2_with fail
   have al : Below W3.heap.size W3 (W3.alloc (.cells #[.int .i64 xs] 3)) := (Below.refl _ _).alloc (Nat.le_refl _) _
   obtain ⟨s0, s1, s2, s3, s4, s5, s6, s7⟩ := S3
   have S4 := (⟨upA_cell al s0, upA_cell al s1, upA_cell al s2, upA_cell al s3, upA_cell al s4, upA_cell al s5, upA_cell al s6, upA_cell al s7⟩ : _ ∧ _ ∧ _ ∧ _ ∧ _ ∧ _ ∧ _ ∧ _)
   clear s0 s1 s2 s3 s4 s5 s6 s7
   have tW3 : Touch (fun _ => False) W (W3.alloc (.cells #[.int .i64 xs] 3)) := ((Touch.refl _ W).drew.trans' (Touch.of_size b3 _)).trans' (Touch.of_size al _)
   have z4 : (W3.alloc (.cells #[.int .i64 xs] 3)).heap.size = W3.heap.size + 1 := by simp
   have zW3 : W.heap.size ≤ W3.heap.size := b3.size
   have own4 := tW3.own Xow5.out (fun _ _ c => c)
   have rone : Rd (W3.alloc (.cells #[.int .i64 xs] 3)) (fun _ => True) (.slice (some ⟨W3.heap.size, 0, none⟩) 1 1) 1 ([xs].map (Value.int .i64)) := Rd.one (w := W3) (e := 3) ([xs].map (Value.int .i64)) 1 rfl
   clear b3 al
   have XtW3 := hide tW3
   have Xown4 := hide own4
   have Xrone := hide rone
   clear tW3 own4 rone
   refine ⟨S4, wpMid_cons ?_⟩
   go_wp2_with (at_builtin; refine wp_append _ rfl (.tmp 21) (.tmp 32) _ rfl Tryz.elemInt (w.heap.size + 5) (.slice A5 m5 c5) m5 _ rfl Xown4.out _ _ ([xs].map (Value.int .i64)) 1 rfl rfl Xrone.out (ints_one [xs]) (by unfold maxLen; omega) (by omega) (by omega) ?_)
   intro A6 c6 w6 own7 g6 ho6
   have tg : Touch (fun b => (Value.slice A5 m5 c5).ownBlock = some b) (W3.alloc (.cells #[.int .i64 xs] 3)) w6 := (Touch.refl _ _).grown g6 (fun k e _ => e)
   have t6 : Touch (fun b => (Value.slice A5 m5 c5).ownBlock = some b) W w6 := (XtW3.out.mono (fun _ _ c => c.elim)).trans' tg
   have nb : ∀ b, b < w.heap.size + 5 → (Value.slice A5 m5 c5).ownBlock ≠ some b := fun b hb e => by have := (Xhv5.out b e).1; omega
   obtain ⟨s0, s1, s2, s3, s4, s5, s6, s7⟩ := S4
   have S6 := (⟨tg.cell s0 (nb _ (by simp)), tg.cell s1 (nb _ (by simp)), tg.cell s2 (nb _ (by simp)), tg.cell s3 (nb _ (by have := hbt9.1; simp; omega)), tg.cell s4 (nb _ (by have := hbt9.2; simp; omega)), tg.cell s5 (nb _ (by have := hbt9.2; simp; omega)), tg.cell s6 (nb _ (by have := hbt9.2; simp; omega)), tg.cell s7 (nb _ (by have := hbt9.2; simp; omega))⟩ : _ ∧ _ ∧ _ ∧ _ ∧ _ ∧ _ ∧ _ ∧ _)
   clear s0 s1 s2 s3 s4 s5 s6 s7
   have kb6 := Xkb5.out.touch t6 (nb _ (by omega))
   have f6 := kb6.frozen 0
   have k8 := kb6.put 0 (.slice A6 (m5 + 1) c6)
   have z6 : W3.heap.size + 1 ≤ w6.heap.size := by have := g6.size; simpa using this
   have hv6 : ∀ k, (Value.slice A6 (m5 + 1) c6).ownBlock = some k → w.heap.size + 5 + 2 ≤ k ∧ ¬ O k := fun k e => by
    rcases ho6 with h | h
    ·exact Xhv5.out k (h ▸ e)
    ·rw [h] at e
     injection e with e
     subst e
     exact ⟨by omega, fun c => by have := (XhO.out _ c).2; omega⟩
   replace own7 : w6.ownsRow (w.heap.size + 5) 3 1 (.slice A6 (m5 + 1) c6) (m5 + 1) ((gatL Nd.sym L (pre ++ [(xn : Int)])).map (Value.int .i64)) := by rw [Xhn.out, List.map_append]; exact own7
   have tS : Touch (fun b => b = w.heap.size + 2) w6 (w6.setCell ⟨w.heap.size + 2, 0, none⟩ (.slice A6 (m5 + 1) c6)) := touch_set _ _ _ _
   have own8 := tS.own own7 fun k e => by have := (hv6 k e).1; omega
   have hm8 : m5 + 1 = (gatL Nd.sym L (pre ++ [(xn : Int)])).length := by rw [Xhn.out, List.length_append, ← Xhm5.out]; rfl
   have tA : Touch (fun b => ¬ (S b ∨ b = w.heap.size + 3 ∨ b = w.heap.size + 4) ∧ ¬ O b ∧ b ≠ w.heap.size + 5 ∧ b ≠ w.heap.size + 5 + 1) W (w6.setCell ⟨w.heap.size + 2, 0, none⟩ (.slice A6 (m5 + 1) c6)) := by
    refine (t6.mono fun k hk e => ?_).trans' (tS.mono fun k hk e => ?_)
    ·obtain ⟨h1, h3⟩ := Xhv5.out k e
     refine ⟨fun c => ?_, h3, by omega, by omega⟩
     rcases c with c | c | c
     ·have := Xhlt.out k c; omega
     ·omega
     ·omega
    ·subst e
     refine ⟨fun c => ?_, fun c => by have := (XhO.out _ c).1; omega, by omega, by omega⟩
     rcases c with c | c | c
     ·have := Xhlt.out _ c; omega
     ·omega
     ·omega
   have tB : Touch (fun b => b = w.heap.size + 2) wl (w6.setCell ⟨w.heap.size + 2, 0, none⟩ (.slice A6 (m5 + 1) c6)) := (Xt5.out.trans t6 fun k hk e => by have := (Xhv5.out k e).1; omega).trans' tS
   have FF := And.intro tA (And.intro k8 (And.intro hm8 (And.intro own8 (And.intro tB hv6))))
   clear own7 g6 ho6 t6 tg kb6 k8 hv6 tS own8 hm8 tA tB nb Xkb5 Xow5 Xt5 Xhv5 XtW3 Xown4 Xrone
   have XFF := hide FF
   clear FF
   refine ⟨S6, wpMid_nil ?_⟩
   go_wp2_with fail
   refine NoPanic.normal ?_
   gi_wp2_with fail
   obtain ⟨f1, f2, f3, f4, f5, f6⟩ := XFF.out
   rw [← zl] at f1
   exact ⟨f1, _, _, _, f2, f3, f4, f5, f6, Xho5.out⟩
 case done =>
  rintro D xs O W hD rfl ⟨A5, m5, c5, kb5, hm5, ow5, t5, hv5, ho5⟩ hDm
  have p2 : W.cell? ⟨w.heap.size + 2, 0, none⟩ = some (.slice A5 m5 c5) := kb5.cell 0
  have bW : Below w.heap.size w W := Xbl.out.trans (t5.below (fun k hk _ e => by omega) (by omega))
  have lt5 := ow5.lt
  have mk : MkO (fun b => b = D) [mark D] W := (MkO.nil (fun _ => False) wl).cons (fun _ h => h.elim) (fun _ h => h.elim) rfl hD hDm
  have nD := own_not_mark ow5 hDm
  subst hm5
  have Xkb5 := hide kb5
  have Xow5 := hide ow5
  have Xt5 := hide t5
  have Xhv5 := hide hv5
  have Xho5 := hide ho5
  have XbW := hide bW
  have Xmk := hide mk
  have XnD := hide nD
  have Xlt5 := hide lt5
  clear kb5 ow5 t5 hv5 ho5 bW mk nD lt5
  gi_wp2_with fail
  refine Xmk.out.leaves fun w' t => ⟨_, results_tmp rfl _ _ _, ?_⟩
  refine ⟨t.toBelow (fun k e => by omega) XbW.out XbW.out.size, A5, c5, rfl, ?_⟩
  have hzt := t.size
  exact (Rd.touch (Rd.of_own Xow5.out) t fun b hb e => XnD.out (by rw [← e]; exact hb)).mono fun b hb => by
   have := Xlt5.out b hb
   exact ⟨by omega, by omega⟩
 case stop =>
  intro D c pre O W hD hSp h
  exact h.elim
end Go.Proofs.YtacankgalkffmaaGreat

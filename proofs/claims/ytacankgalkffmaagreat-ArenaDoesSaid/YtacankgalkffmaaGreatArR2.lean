/- The reference's tree: in, Leaf, Node, Roots. -/
import Derived.Test.YtacankgalkffmaaGreatArR1
namespace Go.Proofs.YtacankgalkffmaaGreat
set_option linter.unusedVariables false
set_option linter.unusedSimpArgs false
open Go.RowKit
attribute [local irreducible] wpStill wpOne wpPh
section
variable {w w' : World} {bt : Nat} {S F : Nat → Prop} {L : List Nd} {u : Value} {kids : List Int}
theorem ref19_in (h : RAr w bt S L) (i : Int) : Calls Tryz.prog 30 #[.pointer (some ⟨bt, 0, none⟩), .int .i64 i] w fun e w' => e = .returned (.bool (inN L.length i)) ∧ w = w' := by
 obtain ⟨v, iv, bv, M, hML, h⟩ := h
 have hlen := RAr.len hML
 have hr : inN L.length i = (decide (0 ≤ i) && decide (i < (L.length : Int))) := rfl
 obtain ⟨A, c, rfl, hc, hm⟩ := own_shape63 h.own
 have hb := (h.box.cell 0).trans rfl
 rw [hlen] at hb
 generalize inN L.length i = r at *
 generalize L.length = n at *
 clear h hML hlen
 have Xhr := hide hr
 clear hr
 by_cases h0 : 0 ≤ i
 ·have h1 : ¬ i < 0 := by omega
  go_enter Tryz.func30, Tryz.ntmps30
  go_wp2_with fail
  go_ret
  exact ⟨ret_bool (by rw [Xhr.out]; simp [h0]), rfl⟩
 ·have h1 : i < 0 := by omega
  go_enter Tryz.func30, Tryz.ntmps30
  go_wp2_with fail
  go_ret
  exact ⟨ret_bool (by rw [Xhr.out, decide_eq_false (show ¬ 0 ≤ i by omega)]; rfl), rfl⟩
set_option maxHeartbeats 1000000 in
theorem ref19_Leaf (h : RAr w bt S L) (hl : L.length ≤ 100000) (s n : Int) : Calls Tryz.prog 26 #[.pointer (some ⟨bt, 0, none⟩), .int .i64 s, .int .i64 n] w fun e w' => e = .returned (.int .i64 (L.length : Int)) ∧ RAr w' bt (New S w w') (leafL L s n) ∧ Touch S w w' := by
 obtain ⟨v, iv, bv, M, hML, h⟩ := h
 have hlen := RAr.len hML
 obtain ⟨A, c, rfl, hc, hm⟩ := own_shape63 h.own
 obtain ⟨Ai, ci, rfl, hci, hmi⟩ := own_shape63 h.owi
 obtain ⟨Ab, cb, rfl, hcb, hmb⟩ := own_shape63 h.owb
 have hb0 := (h.box.cell 0).trans rfl
 have hb1 := (h.box.cell 1).trans rfl
 have hb2 := (h.box.cell 2).trans rfl
 have hf0 := h.box.frozen 0
 have al : Below w.heap.size w (w.alloc (.cells #[.int .i64 s, .int .i64 n, .int .i64 (-1), .slice none 0 0] 35)) := (Below.refl _ _).alloc (Nat.le_refl _) _
 have h1 := h.below al
 have rone : Rd (w.alloc (.cells #[.int .i64 s, .int .i64 n, .int .i64 (-1), .slice none 0 0] 35)) (fun _ => True) (.slice (some ⟨w.heap.size, 0, none⟩) 1 1) 4 (tnC (leafN s n, .slice none 0 0)) := Rd.one (w := w) (e := 35) (tnC (leafN s n, .slice none 0 0)) 4 rfl
 have hone : ∀ u ∈ tnC (leafN s n, .slice none 0 0), u.oneCell' = true := by intro u hu; simp [tnC] at hu; rcases hu with rfl | rfl | rfl | rfl <;> rfl
 obtain ⟨m, hM⟩ : ∃ m, m = L.length := ⟨_, rfl⟩
 have own1 := h1.own
 simp only [List.length_map] at hb0 hb1 hb2 hci hcb h h1 hmi
 rw [hlen] at hb0 hc h own1
 rw [← hM] at hb0 hb1 hb2 hc hci hcb hl h own1 ⊢
 have Xh := hide h
 have XhML := hide hML
 have XhM := hide hM
 have Xal := hide al
 have Xh1 := hide h1
 have Xrone := hide rone
 have Xhone := hide hone
 have Xown1 := hide own1
 have Xhlen := hide hlen
 clear h hML hM al h1 rone hone own1 hlen
 go_enter Tryz.func26, Tryz.ntmps26
 go_wp2_with (at_builtin; refine wp_append _ rfl (.tmp 11) (.tmp 15) _ rfl Tryz.elemTNode 0 (.slice A m c) m _ rfl Xown1.out _ _ (tnC (leafN s n, .slice none 0 0)) 1 rfl rfl Xrone.out Xhone.out (by unfold maxLen; omega) (by omega) (Nat.zero_le _) ?_)
 intro A4 c4 w4 own4 g4 ho4
 have t4 : Touch (fun k => (Value.slice A m c).ownBlock = some k) w w4 := (Touch.of_size Xal.out _).trans' ((Touch.refl _ _).grown g4 (fun k e _ => e))
 have nw4 : NwB (.slice A m c) (.slice A4 (m + 1) c4) w := by
  rcases ho4 with q | q
  ·exact .inl q
  ·exact .inr ⟨_, q, Nat.le_add_right _ _⟩
 have P := Xh.out.pushL (z := .slice none 0 0) (x := leafN s n) t4 (fun b e => e) (by rw [Xhlen.out, ← XhM.out]; exact own4) nw4 (Rd.nil _ _ _)
 have T4 : Touch S w (w4.setCell ⟨bt, 0, none⟩ (.slice A4 (m + 1) c4)) := (t4.mono (fun k _ e => (Xh.out.sv k e).1)).setCell (p := ⟨bt, 0, none⟩) (fun _ => Xh.out.sb) _
 have kb4 := Xh.out.box.touch t4 (fun e => (Xh.out.sv bt e).2 rfl)
 have hf4 := kb4.frozen 0
 have hc4 : w4.cell? ⟨bt, 0, none⟩ = some (.slice A m c) := kb4.cell 0
 have hN4 : New S w (w4.setCell ⟨bt, 0, none⟩ (.slice A4 (m + 1) c4)) = New S w w4 := by unfold New; rw [setc_size]
 rw [← hN4] at P
 clear own4 g4 ho4 kb4 t4 Xown1 Xrone Xhone Xh1 Xal hb0 hb1 hb2 hf0 nw4 hN4
 obtain ⟨w5, hw5⟩ : ∃ x, w4.setCell ⟨bt, 0, none⟩ (.slice A4 (m + 1) c4) = x := ⟨_, rfl⟩
 rw [hw5] at P T4
 have al5 : Below w5.heap.size w5 (w5.alloc (.cells #[.bool true] 4)) := (Below.refl _ _).alloc (Nat.le_refl _) _
 have own5 := (P.below al5).owi
 have rone5 : Rd (w5.alloc (.cells #[.bool true] 4)) (fun _ => True) (.slice (some ⟨w5.heap.size, 0, none⟩) 1 1) 1 [.bool true] := Rd.one (w := w5) (e := 4) [.bool true] 1 rfl
 have hb5 : w5.cell? ⟨bt, 1, none⟩ = some (.slice Ai m ci) := P.box.cell 1
 have el5 : (L.map Nd.il).length = m := by rw [List.length_map, ← XhM.out]
 rw [el5] at own5
 have T4z : w.heap.size ≤ w5.heap.size := T4.size
 have XP := hide P
 have XT4 := hide T4
 have Xal5 := hide al5
 have Xown5 := hide own5
 have Xrone5 := hide rone5
 have Xel5 := hide el5
 clear P T4 al5 own5 rone5 el5
 go_wp2_with (at_builtin; refine wp_append _ rfl (.tmp 23) (.tmp 24) _ rfl Tryz.elemBoolA 0 (.slice Ai m ci) m _ rfl Xown5.out _ _ [.bool true] 1 rfl rfl Xrone5.out (by simp [Value.oneCell']) (by unfold maxLen; omega) (by omega) (Nat.zero_le _) ?_)
 intro A6 c6 w6 own6 g6 ho6
 have t6 : Touch (fun k => (Value.slice Ai m ci).ownBlock = some k) w5 w6 := (Touch.of_size Xal5.out _).trans' ((Touch.refl _ _).grown g6 (fun k e _ => e))
 have nw6 : NwB (.slice Ai m ci) (.slice A6 (m + 1) c6) w5 := by
  rcases ho6 with q | q
  ·exact .inl q
  ·exact .inr ⟨_, q, Nat.le_add_right _ _⟩
 have P6 := XP.out.pushI (x := true) t6 (fun b e => e) (by rw [Xel5.out, List.map_map]; exact own6) nw6
 have T6 : Touch S w (w6.setCell ⟨bt, 1, none⟩ (.slice A6 (m + 1) c6)) := (XT4.out.trans' (t6.mono fun k _ e => (Xh.out.si k e).1)).setCell (p := ⟨bt, 1, none⟩) (fun _ => Xh.out.sb) _
 have kb6 := XP.out.box.touch t6 fun e => (XP.out.si bt e).2.1 rfl
 have hf6 := kb6.frozen 1
 have hc6 : w6.cell? ⟨bt, 1, none⟩ = some (.slice Ai m ci) := kb6.cell 1
 have hN6 : New (New S w w5) w5 (w6.setCell ⟨bt, 1, none⟩ (.slice A6 (m + 1) c6)) = New (New S w w5) w5 w6 := by unfold New; rw [setc_size]
 rw [← hN6] at P6
 have t6z : w5.heap.size ≤ w6.heap.size := t6.size
 clear own6 g6 ho6 t6 XP XT4 Xal5 Xown5 Xrone5 hb5 nw6 hf4 hc4 hN6 hw5 kb6 Xel5
 obtain ⟨w7, hw7⟩ : ∃ x, w6.setCell ⟨bt, 1, none⟩ (.slice A6 (m + 1) c6) = x := ⟨_, rfl⟩
 rw [hw7] at P6 T6
 have al7 : Below w7.heap.size w7 (w7.alloc (.cells #[.bool false] 4)) := (Below.refl _ _).alloc (Nat.le_refl _) _
 have own7 := (P6.below al7).owb
 have rone7 : Rd (w7.alloc (.cells #[.bool false] 4)) (fun _ => True) (.slice (some ⟨w7.heap.size, 0, none⟩) 1 1) 1 [.bool false] := Rd.one (w := w7) (e := 4) [.bool false] 1 rfl
 have hb7 : w7.cell? ⟨bt, 2, none⟩ = some (.slice Ab m cb) := P6.box.cell 2
 have el7 : (L.map Nd.below).length = m := by rw [List.length_map, ← XhM.out]
 rw [el7] at own7
 have XP6 := hide P6
 have XT6 := hide T6
 have Xal7 := hide al7
 have Xown7 := hide own7
 have Xrone7 := hide rone7
 have Xel7 := hide el7
 clear P6 T6 al7 own7 rone7 el7
 go_wp2_with (at_builtin; refine wp_append _ rfl (.tmp 32) (.tmp 33) _ rfl Tryz.elemBoolA 0 (.slice Ab m cb) m _ rfl Xown7.out _ _ [.bool false] 1 rfl rfl Xrone7.out (by simp [Value.oneCell']) (by unfold maxLen; omega) (by omega) (Nat.zero_le _) ?_)
 intro A8 c8 w8 own8 g8 ho8
 have t8 : Touch (fun k => (Value.slice Ab m cb).ownBlock = some k) w7 w8 := (Touch.of_size Xal7.out _).trans' ((Touch.refl _ _).grown g8 (fun k e _ => e))
 have nw8 : NwB (.slice Ab m cb) (.slice A8 (m + 1) c8) w7 := by
  rcases ho8 with q | q
  ·exact .inl q
  ·exact .inr ⟨_, q, Nat.le_add_right _ _⟩
 have P8 := XP6.out.pushB (x := false) t8 (fun b e => e) (by rw [Xel7.out, List.map_map]; exact own8) nw8
 have T8 : Touch S w (w8.setCell ⟨bt, 2, none⟩ (.slice A8 (m + 1) c8)) := (XT6.out.trans' (t8.mono fun k _ e => (Xh.out.sB k e).1)).setCell (p := ⟨bt, 2, none⟩) (fun _ => Xh.out.sb) _
 have kb8 := XP6.out.box.touch t8 fun e => (XP6.out.sB bt e).2.1 rfl
 have hf8 := kb8.frozen 2
 have hc8 : w8.cell? ⟨bt, 2, none⟩ = some (.slice Ab m cb) := kb8.cell 2
 have hb9 : (w8.setCell ⟨bt, 2, none⟩ (.slice A8 (m + 1) c8)).cell? ⟨bt, 0, none⟩ = some (.slice A4 (m + 1) c4) := P8.box.cell 0
 have Z8 : w.heap.size ≤ w5.heap.size ∧ w5.heap.size ≤ w7.heap.size ∧ w7.heap.size ≤ w8.heap.size := ⟨T4z, by rw [← hw7, setc_size]; exact t6z, t8.size⟩
 clear own8 g8 ho8 t8 XP6 XT6 Xal7 Xown7 Xrone7 hb7 nw8 hf6 hc6 hw7 kb8 Xel7
 have XP8 := hide P8
 have XT8 := hide T8
 have XZ8 := hide Z8
 clear P8 T8 Z8
 go_wp2_with fail
 go_ret
 refine ⟨ret_int (by omega), ?_, XT8.out⟩
 refine RAr.mono (S := New (New (New S w w5) w5 w7) w7 w8) ⟨_, _, _, _, ?_, by unfold leafL; rw [List.map_append, List.map_append]; exact XP8.out⟩ (fun b hb => ?_) (fun b hb => ?_)
 ·unfold leafL; rw [List.map_append, List.map_append, XhML.out]; rfl
 ·have hz := setc_size w8 ⟨bt, 2, none⟩ (.slice A8 (m + 1) c8)
  have := XZ8.out
  rcases hb with ((hb | hb) | hb) | hb
  ·exact .inl hb
  all_goals exact .inr (by omega)
 ·have hz := setc_size w8 ⟨bt, 2, none⟩ (.slice A8 (m + 1) c8)
  have := XZ8.out
  rcases hb with hb | hb
  ·have := Xh.out.lt b hb
   omega
  ·exact hb.2
def RNodePost (w : World) (S : Nat → Prop) (L : List Nd) (i : Int) (e : Ending) (w' : World) : Prop := Below w.heap.size w w' ∧ ∃ z, e = .returned (.tuple #[.agg #[.int .i64 (if inN L.length i = true then (ndAt L i).sym else 0), .int .i64 (if inN L.length i = true then (ndAt L i).leaf else 0), .int .i64 (if inN L.length i = true then (ndAt L i).rule else 0), z], .bool (inN L.length i)]) ∧ RdI w' S z (if inN L.length i = true then (ndAt L i).kids else [])
theorem tnX_at {M : List (Nd × Value)} {L : List Nd} (e : M.map (fun p => tnX p.1) = L.map tnX) {i : Int} (h : inN L.length i = true) : ∃ p, M[i.toNat]? = some p ∧ p.1.sym = (ndAt L i).sym ∧ p.1.leaf = (ndAt L i).leaf ∧ p.1.rule = (ndAt L i).rule ∧ p.1.kids = (ndAt L i).kids := by
 obtain ⟨h0, h1⟩ := inN_iff.1 h
 have hx : (L.map tnX)[i.toNat]? = some (tnX (ndAt L i)) := by rw [List.getElem?_map, ndAt_of h0 h1]; rfl
 rw [← e, List.getElem?_map] at hx
 obtain ⟨p, hp, hpx⟩ := Option.map_eq_some_iff.1 hx
 exact ⟨p, hp, (by have := congrArg Nd.sym hpx; exact this), (by have := congrArg Nd.leaf hpx; exact this), (by have := congrArg Nd.rule hpx; exact this), (by have := congrArg Nd.kids hpx; exact this)⟩
theorem ref19_Node (h : RAr w bt S L) (i : Int) : Calls Tryz.prog 8 #[.pointer (some ⟨bt, 0, none⟩), .int .i64 i] w (RNodePost w S L i) := by
 have al : Below w.heap.size w (w.alloc (.cells #[.int .i64 0, .int .i64 0, .int .i64 0, .slice none 0 0] 35)) := (Below.refl _ _).alloc (Nat.le_refl _) _
 have h1 := h.below al
 have kb : Blk (w.alloc (.cells #[.int .i64 0, .int .i64 0, .int .i64 0, .slice none 0 0] 35)) w.heap.size 35 #[.int .i64 0, .int .i64 0, .int .i64 0, .slice none 0 0] := Blk.new _ _ _
 have cI := ref19_in h1 i
 have f0 := kb.frozen 0
 have f1 := kb.frozen 1
 have f2 := kb.frozen 2
 have f3 := kb.frozen 3
 have q0 := (kb.cell 0).trans rfl
 have q1 := (kb.cell 1).trans rfl
 have q2 := (kb.cell 2).trans rfl
 have q3 := (kb.cell 3).trans rfl
 by_cases hi : inN L.length i = true
 ·obtain ⟨g0, g1⟩ := inN_iff.1 hi
  unfold RNodePost
  rw [hi] at cI ⊢
  obtain ⟨v, iv, bv, M, hML, hA⟩ := h
  have hA1 := hA.below al
  have hlen := RAr.len hML
  obtain ⟨p, hp, es, el, er, ek⟩ := tnX_at hML hi
  obtain ⟨-, -, -, -, -, -, -, r0⟩ := hA.at_ hp
  obtain ⟨g, c, rfl, c0, c1, c2, c3, rk⟩ := hA1.at_ hp
  have hbx := (hA1.box.cell 0).trans rfl
  rw [hlen] at hbx
  rw [es] at c0
  rw [el] at c1
  rw [er] at c2
  rw [ek] at rk r0
  rw [if_pos rfl, if_pos rfl, if_pos rfl, if_pos rfl]
  obtain ⟨k, rfl⟩ := Int.eq_ofNat_of_zero_le g0
  rw [Int.toNat_natCast] at hp c0 c1 c2 c3
  generalize L.length = n at *
  obtain ⟨⟨xs, xl, xr, xk, xi, xb⟩, z⟩ := p
  simp only at c0 c1 c2 c3 rk r0
  generalize (ndAt L (k : Int)) = x at *
  obtain ⟨ys, yl, yr, yk, yi, yb⟩ := x
  simp only at c0 c1 c2 c3 rk r0 ⊢
  obtain ⟨Az, nz, cz, rfl, -⟩ := id rk
  clear h1 hA hA1 hML es el er ek rk
  have XcI := hide cI
  have Xal := hide al
  have Xkb := hide kb
  have Xr0 := hide r0
  have Xhp := hide hp
  clear cI al kb r0 hp
  go_enter Tryz.func8, Tryz.ntmps8
  go_wp2_with fail
  refine XcI.out.mono ?_
  rintro e w' ⟨rfl, rfl⟩
  clear XcI
  go_wp2_with fail
  have k4 := blk_put4 Xkb.out (.int .i64 ys) (.int .i64 yl) (.int .i64 yr) (.slice Az nz cz)
  have e0 := (k4.cell 0).trans rfl
  have e1 := (k4.cell 1).trans rfl
  have e2 := (k4.cell 2).trans rfl
  have e3 := (k4.cell 3).trans rfl
  refine bodyPost_ret (v := .tuple #[.agg #[.int .i64 ys, .int .i64 yl, .int .i64 yr, .slice Az nz cz], .bool true]) (by simp [results, Tryz.results8, go_sem, e0, e1, e2, e3]) rfl ?_
  exact ⟨(Below.refl _ _).alloc (Nat.le_refl _) _, _, rfl, Rd.touch Xr0.out ((Touch.refl (fun _ => False) w).alloc _) (fun _ _ c => c)⟩
 ·have hi : inN L.length i = false := by simpa using hi
  unfold RNodePost
  rw [hi] at cI ⊢
  clear h h1
  have XcI := hide cI
  have Xal := hide al
  have Xkb := hide kb
  clear cI al kb
  go_enter Tryz.func8, Tryz.ntmps8
  go_wp2_with fail
  refine XcI.out.mono ?_
  rintro e w' ⟨rfl, rfl⟩
  clear XcI
  go_wp2_with fail
  have k4 := blk_put4 Xkb.out (.int .i64 0) (.int .i64 0) (.int .i64 0) (.slice none 0 0)
  have e0 := (k4.cell 0).trans rfl
  have e1 := (k4.cell 1).trans rfl
  have e2 := (k4.cell 2).trans rfl
  have e3 := (k4.cell 3).trans rfl
  refine bodyPost_ret (v := .tuple #[.agg #[.int .i64 0, .int .i64 0, .int .i64 0, .slice none 0 0], .bool false]) (by simp [results, Tryz.results8, go_sem, e0, e1, e2, e3]) rfl ?_
  exact ⟨Xal.out, _, rfl, Rd.nil _ _ _⟩
set_option maxHeartbeats 1000000 in
theorem ref19_Roots (h : RAr w bt S L) (hl : L.length ≤ 100000) : Calls Tryz.prog 21 #[.pointer (some ⟨bt, 0, none⟩)] w (IntsPost w (rootsL L)) := by
 obtain ⟨v, iv, bv, M, hML, h⟩ := h
 have hlen := RAr.len hML
 obtain ⟨A, c, rfl, hc, hm⟩ := own_shape63 h.own
 obtain ⟨n, hn⟩ : ∃ n, n = L.length := ⟨_, rfl⟩
 rw [hlen] at h
 rw [← hn] at hl h
 have Xh := hide h
 have Xhn := hide hn
 have XhML := hide hML
 have Xhlen := hide hlen
 clear h hn hML hlen
 go_enter Tryz.func21, Tryz.ntmps21
 go_wp2_with fail
 go_loopw [3, 4] (fun ov iv wr => ∃ (k : Nat) (B : Option Addr) (m d : Nat), k ≤ n ∧ iv = .int .i64 (k : Int) ∧ ov = .slice B m d ∧ m = (rootsK L k).length ∧ wr.ownsRow w.heap.size 3 1 (.slice B m d) m ((rootsK L k).map (Value.int .i64)) ∧ Below w.heap.size w wr) (fun _ iv _ => n - (intOf iv).toNat)
 case atStart => exact ⟨0, none, 0, 0, Nat.zero_le _, rfl, rfl, rfl, World.ownsRow_nil _ _ _ _, Below.refl _ _⟩
 case round =>
  obtain ⟨k, B, m, d, hk, rfl, rfl, hm, own0, le⟩ := hrel
  have h1 := Xh.out.below le
  have hb0 : wr.cell? ⟨bt, 0, none⟩ = some (.slice A n c) := h1.box.cell 0
  have hml := rootsK_len L k
  rw [← hm] at hml
  by_cases hlt : k < n
  ·have hlt' : (k : Int) < (n : Int) := by omega
   obtain ⟨x, hx⟩ : ∃ x, (L.map Nd.below)[k]? = some x := ⟨_, List.getElem?_eq_getElem (by rw [List.length_map, ← Xhn.out]; exact hlt)⟩
   obtain ⟨g, c', rfl, hcx, -⟩ := own_bool h1.owb hx
   have hb2 : wr.cell? ⟨bt, 2, none⟩ = some (.slice (some ⟨g, 0, none⟩) n c') := by rw [h1.box.cell 2, List.length_map, ← Xhn.out]; rfl
   have hx' : (ndAt L (k : Int)).below = x := by
    rw [List.getElem?_map] at hx
    obtain ⟨y, hy, hyx⟩ := Option.map_eq_some_iff.1 hx
    rw [ndAt_get hy]; exact hyx
   clear hx h1
   cases x with
   | true =>
    have hs := rootsK_yes (L := L) (k := k) hx'
    rw [← hs] at hm own0
    clear hx' hs
    have Xhm := hide hm
    have Xown0 := hide own0
    have Xle := hide le
    clear hm own0 le
    go_wp2_with fail
    go_roundw
    case rel => exact ⟨k + 1, B, m, d, by omega, by go_num, rfl, Xhm.out, Xown0.out, Xle.out⟩
    case measure => simp [intOf]; omega
   | false =>
    have hs := rootsK_no (L := L) (k := k) hx'
    have al : Below wr.heap.size wr (wr.alloc (.cells #[.int .i64 (k : Int)] 3)) := (Below.refl _ _).alloc (Nat.le_refl _) _
    have own1 := own_below' own0 al
    have rone : Rd (wr.alloc (.cells #[.int .i64 (k : Int)] 3)) (fun _ => True) (.slice (some ⟨wr.heap.size, 0, none⟩) 1 1) 1 ([(k : Int)].map (Value.int .i64)) := Rd.one (w := wr) (e := 3) ([(k : Int)].map (Value.int .i64)) 1 rfl
    have hz := le.size
    clear hx'
    have Xhm := hide hm
    have Xown1 := hide own1
    have Xown0 := hide own0
    have Xle := hide le
    have Xal := hide al
    have Xrone := hide rone
    have Xhs := hide hs
    have Xhz := hide hz
    clear hm own1 own0 le al rone hs hz
    go_wp2_with (at_builtin; refine wp_append _ rfl (.tmp 22) (.tmp 24) _ rfl Tryz.elemInt w.heap.size (.slice B m d) m _ rfl Xown1.out _ _ ([(k : Int)].map (Value.int .i64)) 1 rfl rfl Xrone.out (ints_one [(k : Int)]) (by unfold maxLen; omega) (by omega) (Nat.le_trans Xhz.out Xal.out.size) ?_)
    intro A4 c4 w4 own4 g4 ho4
    have b4 : Below w.heap.size w w4 := (Xle.out.trans (Xal.out.mono Xhz.out)).trans ((Touch.refl (fun k => (Value.slice B m d).ownBlock = some k) _).grown g4 (fun k e _ => e) |>.below (fun k hk _ e => by have := (Xown0.out.lt k e).1; omega) (Nat.le_trans Xhz.out Xal.out.size))
    have he : (rootsK L k).map (Value.int .i64) ++ [Value.int .i64 (k : Int)] = (rootsK L (k + 1)).map (Value.int .i64) := by rw [Xhs.out, List.map_append]; rfl
    rw [he] at own4
    have hm4 : m + 1 = (rootsK L (k + 1)).length := by rw [Xhs.out, List.length_append, ← Xhm.out]; rfl
    clear Xown0 Xown1 Xle Xal Xrone g4 ho4 Xhm Xhs
    have Xown4 := hide own4
    have Xb4 := hide b4
    have Xhm4 := hide hm4
    clear own4 b4 hm4
    go_wp2_with fail
    go_roundw
    case rel => exact ⟨k + 1, A4, m + 1, c4, by omega, by go_num, rfl, Xhm4.out, Xown4.out, Xb4.out⟩
    case measure => simp [intOf]; omega
  ·have hlt' : ¬ (k : Int) < (n : Int) := by omega
   obtain rfl : k = n := by omega
   have hL : rootsK L k = rootsL L := by rw [← rootsK_all, ← Xhn.out]
   rw [hL] at hm own0
   clear h1 hL hml
   have Xhm := hide hm
   have Xown0 := hide own0
   have Xle := hide le
   clear hm own0 le
   go_wp2_with fail
   go_ret
   exact ⟨Xle.out, B, d, by rw [← Xhm.out]; rfl, by rw [← Xhm.out]; exact Xown0.out⟩
end
end Go.Proofs.YtacankgalkffmaaGreat

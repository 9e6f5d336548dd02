/- Trees of nodes: is a node as a grammar says? -/
import Derived.Test.YtacankgalkffmaaGreatArena10
import Derived.Deep.Cut
namespace Go.Proofs.YtacankgalkffmaaGreat
set_option linter.unusedVariables false
set_option linter.unusedSimpArgs false
open Go.RowKit
attribute [local irreducible] wpStill wpOne wpPh
theorem fine_clo {w : World} {bt b3 : Nat} {S : Nat → Prop} {L : List Nd} (h : Ar w bt S L) (k3 : Blk w b3 29 #[.pointer (some ⟨bt, 0, none⟩)]) (s : Int) {k : Int} (hk : 0 ≤ k ∧ k < L.length) :
  Calls Tryz.prog 70 #[.int .i64 s, .int .i64 k, .pointer (some ⟨b3, 0, none⟩)] w fun e w' => e = .returned (.bool (decide ((ndAt L k).sym = s))) ∧ w = w' := by
 obtain ⟨v, M, hML, h⟩ := h
 have hx := ndAt_of hk.1 hk.2
 obtain ⟨kn, rfl⟩ := Int.eq_ofNat_of_zero_le hk.1
 rw [← hML, List.getElem?_map, Int.toNat_natCast] at hx
 obtain ⟨p, hp, hpx⟩ := Option.map_eq_some_iff.1 hx
 obtain ⟨g, c, rfl, -, -, d0, -⟩ := h.at_ hp
 have hkn := (List.getElem?_eq_some_iff.1 hp).1
 obtain ⟨A9, c9, h9, hm1, hm2⟩ := h.shape
 injection h9 with h7 h8 h9
 subst h7 h9
 have p3 : w.cell? ⟨bt, 0, none⟩ = some (.slice (some ⟨g, 0, none⟩) M.length c) := h.box.cell 0
 have p0 : w.cell? ⟨b3, 0, none⟩ = some (.pointer (some ⟨bt, 0, none⟩)) := k3.cell 0
 rw [hML] at hpx
 rw [← hpx]
 generalize M.length = n at *
 obtain ⟨⟨xs, xl, xr, xk, xi, xb⟩, xz⟩ := p
 simp only at d0 ⊢
 clear h k3 hx hp hML hpx hk
 by_cases he : xs = s
 ·subst he
  have he2 : (xs == xs) = true := by simp
  go_enter Tryz.func70, Tryz.ntmps70
  go_wp2_with fail
  go_ret
  exact ⟨ret_bool (by simp), rfl⟩
 ·have he2 : (xs == s) = false := by simpa using he
  rw [decide_eq_false he]
  clear he
  go_enter Tryz.func70, Tryz.ntmps70
  go_wp2_with fail
  go_ret
  exact ⟨ret_bool (by first | exact he2 | rfl), rfl⟩
theorem equalF_ints {w : World} {bt b3 : Nat} {S F F' : Nat → Prop} {L : List Nd} (h : Ar w bt S L) (k3 : Blk w b3 29 #[.pointer (some ⟨bt, 0, none⟩)]) {u v : Value} {xs ys : List Int} (hx : RdI w F u xs) (hy : RdI w F' v ys) (hk : ∀ k ∈ ys, 0 ≤ k ∧ k < L.length) :
  Calls Tryz.prog 69 #[u, v, .func (.func 70) #[] #[.pointer (some ⟨b3, 0, none⟩)]] w fun e w' => e = .returned (.bool (decide (xs = ys.map fun k => (ndAt L k).sym))) ∧ w = w' := by
 obtain ⟨A1, n1, c1, rfl, -⟩ := id hx
 obtain ⟨A2, n2, c2, rfl, -⟩ := id hy
 obtain ⟨h1, hc1, hm1, hcx⟩ := RdI.at_ hx
 obtain ⟨h2, hc2, hm2, hcy⟩ := RdI.at_ hy
 unfold maxLen at hm1 hm2
 have cF := fun (s k : Int) (hk : 0 ≤ k ∧ k < L.length) => fine_clo h k3 s hk
 obtain ⟨r, hr⟩ : ∃ r, r = decide (xs = ys.map fun k => (ndAt L k).sym) := ⟨_, rfl⟩
 rw [← hr]
 have r1 : n1 ≠ n2 → r = false := fun c => by
  rw [hr]
  exact decide_eq_false fun e => c (by rw [h1, h2, e, List.length_map])
 have r2 : ∀ (j : Nat) x y, xs[j]? = some x → ys[j]? = some y → ¬ (ndAt L y).sym = x → r = false := fun j x y e1 e2 c => by
  rw [hr]
  refine decide_eq_false fun e => c ?_
  rw [e, List.getElem?_map, e2] at e1
  injection e1
 have r3 : n1 = n2 → (∀ (j : Nat) x y, j < n1 → xs[j]? = some x → ys[j]? = some y → (ndAt L y).sym = x) → r = true := fun c hj => by
  rw [hr]
  refine decide_eq_true (List.ext_getElem? fun j => ?_)
  rw [List.getElem?_map]
  by_cases hlt : j < n1
  ·obtain ⟨x, ex⟩ : ∃ x, xs[j]? = some x := ⟨_, List.getElem?_eq_getElem (by omega)⟩
   obtain ⟨y, ey⟩ : ∃ y, ys[j]? = some y := ⟨_, List.getElem?_eq_getElem (by omega)⟩
   rw [ex, ey, Option.map_some, hj j x y hlt ex ey]
  ·rw [List.getElem?_eq_none (by omega), List.getElem?_eq_none (by omega)]; rfl
 clear h k3 hx hy hr
 have XcF := hide cF
 have Xr1 := hide r1
 have Xr2 := hide r2
 have Xr3 := hide r3
 have Xh1 := hide h1
 have Xh2 := hide h2
 have Xhk := hide hk
 clear cF r1 r2 r3 h1 h2 hk
 by_cases hn : n1 = n2
 ·subst hn
  go_enter Tryz.func69, Tryz.ntmps69
  go_wp2_with fail
  go_loop [17] (fun iv => ∃ k : Nat, k ≤ n1 ∧ iv = .int .i64 (k : Int) ∧ ∀ (j : Nat) x y, j < k → xs[j]? = some x → ys[j]? = some y → (ndAt L y).sym = x) (fun iv => n1 - (intOf iv).toNat)
  case atStart => exact ⟨0, Nat.zero_le _, rfl, fun j x y hj => absurd hj (by omega)⟩
  case round =>
   obtain ⟨k, hkn, rfl, hbefore⟩ := hrel
   by_cases hlt : k < n1
   ·have hlt' : (k : Int) < (n1 : Int) := by omega
    obtain ⟨b1, o1, rfl, -, hc⟩ := hcx (by omega)
    obtain ⟨b2, o2, rfl, -, hd⟩ := hcy (by omega)
    obtain ⟨x, ex⟩ : ∃ x, xs[k]? = some x := ⟨_, List.getElem?_eq_getElem (by rw [← Xh1.out]; exact hlt)⟩
    obtain ⟨y, ey⟩ : ∃ y, ys[k]? = some y := ⟨_, List.getElem?_eq_getElem (by rw [← Xh2.out]; exact hlt)⟩
    have p1 := hc k x ex
    have p2 := hd k y ey
    have cC := XcF.out x y (Xhk.out y (List.mem_of_getElem? ey))
    clear hc hd
    by_cases he : (ndAt L y).sym = x
    ·rw [decide_eq_true he] at cC
     have XcC := hide cC
     have Xhbefore := hide hbefore
     have Xex := hide ex
     have Xey := hide ey
     have Xhe := hide he
     clear cC hbefore ex ey he
     go_wp2_with fail
     refine XcC.out.mono ?_
     rintro e w' ⟨rfl, rfl⟩
     clear XcC
     go_wp2_with fail
     go_round
     case rel =>
      refine ⟨k + 1, by omega, by go_num, fun j x' y' hj e1 e2 => ?_⟩
      by_cases hjk : j = k
      ·subst hjk
       rw [Xex.out] at e1
       rw [Xey.out] at e2
       injection e1 with e1
       injection e2 with e2
       subst e1 e2
       exact Xhe.out
      ·exact Xhbefore.out j x' y' (by omega) e1 e2
     case measure => simp [intOf]; omega
    ·have hf := Xr2.out k x y ex ey he
     rw [decide_eq_false he] at cC
     have XcC := hide cC
     have Xhf := hide hf
     clear cC hf
     clear hbefore ex ey he
     go_wp2_with fail
     refine XcC.out.mono ?_
     rintro e w' ⟨rfl, rfl⟩
     clear XcC
     go_wp2_with fail
     go_ret
     exact ⟨ret_bool Xhf.out.symm, rfl⟩
   ·have hf := Xr3.out (by first | rfl | trivial) fun j x y hj => hbefore j x y (by omega)
    have hlt' : ¬ (k : Int) < (n1 : Int) := by omega
    have Xhf := hide hf
    clear hf
    clear hbefore
    go_wp2_with fail
    go_ret
    exact ⟨ret_bool Xhf.out.symm, rfl⟩
 ·have hf := Xr1.out hn
  have hn2 : ((n1 : Int) == (n2 : Int)) = false := by simp; omega
  have Xhf := hide hf
  clear hf
  go_enter Tryz.func69, Tryz.ntmps69
  go_wp2_with fail
  go_ret
  exact ⟨ret_bool Xhf.out.symm, rfl⟩
set_option maxRecDepth 100000 in
set_option maxHeartbeats 4000000 in
theorem arena_fine {w : World} {bt : Nat} {S F : Nat → Prop} {L : List Nd} {vt vn vr : Value} {G : GramD} (h : Ar w bt S L) (hL : Tr L) (hg : IsGram w F vt vn vr G) (st : Int) (x : Nd) (z : Value) (hz : ∃ F', RdI w F' z x.kids) (hk : ∀ k ∈ x.kids, 0 ≤ k ∧ k < L.length) :
  Calls Tryz.prog 40 #[.pointer (some ⟨bt, 0, none⟩), GV vt vn vr st, .agg #[.int .i64 x.sym, .int .i64 x.leaf, .int .i64 x.rule, z, .bool x.il, .bool x.below]] w (Quiet w (.bool (fineN G L x))) := by
 obtain ⟨F', rz⟩ := hz
 obtain ⟨Az, nz, cz, rfl, -⟩ := id rz
 obtain ⟨w1, hw1⟩ : ∃ q, q = w.alloc (.cells #[.pointer (some ⟨bt, 0, none⟩)] 29) := ⟨_, rfl⟩
 obtain ⟨w2, hw2⟩ : ∃ q, q = w1.alloc (.cells #[vt, vn, vr, .int .i64 st] 26) := ⟨_, rfl⟩
 obtain ⟨w3, hw3⟩ : ∃ q, q = w2.alloc (.cells #[.int .i64 x.sym, .int .i64 x.leaf, .int .i64 x.rule, .slice Az nz cz, .bool x.il, .bool x.below] 59) := ⟨_, rfl⟩
 have z1 : w1.heap.size = w.heap.size + 1 := by rw [hw1]; simp
 have z2 : w2.heap.size = w.heap.size + 1 + 1 := by rw [hw2]; simp [z1]
 have k0 : Blk w3 w.heap.size 29 #[.pointer (some ⟨bt, 0, none⟩)] := by rw [hw3, hw2, hw1]; exact ((Blk.new _ _ _).alloc _).alloc _
 have k1 : Blk w3 (w.heap.size + 1) 26 #[vt, vn, vr, .int .i64 st] := by rw [hw3, hw2, ← z1]; exact (Blk.new _ _ _).alloc _
 have k2 : Blk w3 (w.heap.size + 1 + 1) 59 #[.int .i64 x.sym, .int .i64 x.leaf, .int .i64 x.rule, .slice Az nz cz, .bool x.il, .bool x.below] := by rw [hw3, ← z2]; exact Blk.new _ _ _
 have b3 : Below w.heap.size w w3 := by rw [hw3, hw2, hw1]; exact (((Below.refl _ w).alloc (Nat.le_refl _) _).alloc (by simp) _).alloc (by simp; omega) _
 have h3 := h.below b3
 have hg3 := hg.below b3
 have rz3 := rz.touch (Touch.of_size b3 (fun _ => False)) (fun _ _ c => c)
 have e3 : ((w.alloc (.cells #[.pointer (some ⟨bt, 0, none⟩)] 29)).alloc (.cells #[vt, vn, vr, .int .i64 st] 26)).alloc (.cells #[.int .i64 x.sym, .int .i64 x.leaf, .int .i64 x.rule, .slice Az nz cz, .bool x.il, .bool x.below] 59) = w3 := by rw [hw3, hw2, hw1]
 have cT := gram_term hg3 st x.sym
 obtain ⟨A1, c1, A2, c2, A3, c3, rfl, rfl, rfl, l1, l2, l3, m1, m2, m3⟩ := hg3.slices
 obtain ⟨-, -, -, hcell⟩ := ERule.at_ hg3.rules
 have q1 : w3.cell? ⟨w.heap.size + 1, 2, none⟩ = some (.slice A3 G.rules.length c3) := k1.cell 2
 have q2 : w3.cell? ⟨w.heap.size + 1 + 1, 0, none⟩ = some (.int .i64 x.sym) := k2.cell 0
 have q3 : w3.cell? ⟨w.heap.size + 1 + 1, 2, none⟩ = some (.int .i64 x.rule) := k2.cell 2
 have q4 : w3.cell? ⟨w.heap.size + 1 + 1, 3, none⟩ = some (.slice Az nz cz) := k2.cell 3
 have q5 : w3.cell? ⟨w.heap.size + 1 + 1, 4, none⟩ = some (.bool x.il) := k2.cell 4
 have q6 : w3.cell? ⟨w.heap.size + 1, 0, none⟩ = some (.slice A1 G.terms.length c1) := k1.cell 0
 have q7 : w3.cell? ⟨w.heap.size + 1, 1, none⟩ = some (.slice A2 G.nons.length c2) := k1.cell 1
 have q8 : w3.cell? ⟨w.heap.size + 1, 3, none⟩ = some (.int .i64 st) := k1.cell 3
 obtain ⟨xs, xl, xr, xk, xi, xb⟩ := x
 simp only at *
 clear hw1 hw2 hw3 z1 z2 k1 k2 h hg rz
 have hf : fineN G L ⟨xs, xl, xr, xk, xi, xb⟩ = if xi = true then isTerm G xs else (decide (0 ≤ xr) && decide (xr < G.rules.length)) && (decide ((G.rules.getD xr.toNat (0, [])).1 = xs) && decide ((G.rules.getD xr.toNat (0, [])).2 = xk.map fun k => (ndAt L k).sym)) := rfl
 cases xi with
 | true =>
  rw [if_pos rfl] at hf
  rw [hf]
  have Xk0 := hide k0
  have Xb3 := hide b3
  have Xh3 := hide h3
  have Xrz3 := hide rz3
  have XcT := hide cT
  have Xhg3 := hide hg3
  have Xhk := hide hk
  have XhL := hide hL
  clear k0 b3 h3 rz3 cT hg3 hk hL
  clear hf
  go_enter Tryz.func40, Tryz.ntmps40
  go_wp2_with fail
  refine XcT.out.mono ?_
  rintro e w' ⟨rfl, b⟩
  have bb := Xb3.out.trans (b.mono Xb3.out.size)
  clear XcT b
  have Xbb := hide bb
  clear bb
  go_wp2_with fail
  go_ret
  exact ⟨rfl, Xbb.out⟩
 | false =>
  rw [if_neg (by decide)] at hf
  have cE := fun (r : List Int) (u : Value) (F2 : Nat → Prop) (ru : RdI w3.drew.drew F2 u r) => equalF_ints (w := w3.drew.drew) (h3.touch ((Touch.refl (fun _ => False) w3).drew.drew) (fun _ _ c => c)) (k0 : Blk w3.drew.drew _ _ _) ru (Rd.touch rz3 ((Touch.refl (fun _ => False) w3).drew.drew) (fun _ _ c => c)) hk
  by_cases h0 : 0 ≤ xr
  ·by_cases h1 : xr < G.rules.length
   ·obtain ⟨k, rfl⟩ := Int.eq_ofNat_of_zero_le h0
    have h2 : k < G.rules.length := by omega
    obtain ⟨b, off, rfl, hFb, hcc⟩ := hcell (by omega)
    obtain ⟨r, hr⟩ : ∃ r, G.rules[k]? = some r := ⟨_, List.getElem?_eq_getElem h2⟩
    obtain ⟨u, d0, d1, ru⟩ := hcc k r hr
    have hgd : G.rules.getD (k : Int).toNat (0, []) = r := by rw [Int.toNat_natCast, List.getD_eq_getElem?_getD, hr]; rfl
    rw [hgd, decide_eq_true h0, decide_eq_true h1] at hf
    obtain ⟨A5, n5, c5, rfl, -⟩ := id ru
    have cE := cE _ _ _ (show RdI w3.drew.drew F _ r.2 from ru)
    obtain ⟨R, hR⟩ : ∃ n, n = G.rules.length := ⟨_, rfl⟩
    rw [← hR] at h1 h2 l3 q1
    obtain ⟨rl, rr⟩ := r
    simp only at d0 d1 cE hf
    have g0 : ¬ (k : Int) < 0 := by omega
    have g1 : ¬ (R : Int) ≤ (k : Int) := by omega
    have g2 : ¬ R ≤ k := by omega
    clear hcell hcc hr hgd ru hR
    by_cases he : rl = xs
    ·subst he
     rw [decide_eq_true rfl] at hf
     have hne : (!(rl == rl)) = false := by simp
     rw [hf]
     clear hf
     have Xk0 := hide k0
     have Xb3 := hide b3
     have Xh3 := hide h3
     have Xrz3 := hide rz3
     have XcT := hide cT
     have Xhg3 := hide hg3
     have Xhk := hide hk
     have XhL := hide hL
     have XcE := hide cE
     have XhFb := hide hFb
     clear k0 b3 h3 rz3 cT hg3 hk hL cE hFb
     go_enter Tryz.func40, Tryz.ntmps40
     go_wp2_with fail
     refine region_reads (by kernel_rfl) (by kernel_rfl) ?_
     repeat still_step
     refine wpStill_nil ?_
     go_wp2_with fail
     refine region_late (fun V => V.cell? ⟨w.heap.size + 1, 2, none⟩ = some (.slice (some ⟨b, off, none⟩) R c3) ∧ V.cell? ⟨w.heap.size + 1 + 1, 2, none⟩ = some (.int .i64 (k : Int)) ∧ V.cell? ⟨b, off + k * 2 + 1, none⟩ = some (.slice A5 n5 c5) ∧ V.cell? ⟨w.heap.size + 1 + 1, 3, none⟩ = some (.slice Az nz cz)) 12 13 (by kernel_rfl) (by kernel_rfl) ⟨q1, q3, d1, q4⟩ ?_
     simp only [List.take_succ_cons, List.take_zero, List.drop_succ_cons, List.drop_zero]
     refine wpHeld_cons ?_ (by rfl) (fun wS hwS => ?_) ?_
     rotate_left
     ·(try dsimp only at hwS)
      go_simp
      all_goals with_reducible rfl
     simp only [Act.put, List.setIfInBounds_toArray, List.set_cons_zero, List.set_cons_succ]
     refine wpHeld_cons ?_ (by rfl) (fun wS hwS => ?_) ?_
     rotate_left
     ·(try dsimp only at hwS)
      go_simp
      all_goals with_reducible rfl
     simp only [Act.put, List.setIfInBounds_toArray, List.set_cons_zero, List.set_cons_succ]
     refine wpHeld_cons ?_ (by rfl) (fun wS hwS => ?_) ?_
     rotate_left
     ·(try dsimp only at hwS)
      go_simp
      all_goals with_reducible rfl
     simp only [Act.put, List.setIfInBounds_toArray, List.set_cons_zero, List.set_cons_succ]
     refine wpHeld_cons ?_ (by rfl) (fun wS hwS => ?_) ?_
     rotate_left
     ·(try dsimp only at hwS)
      go_simp
      all_goals with_reducible rfl
     simp only [Act.put, List.setIfInBounds_toArray, List.set_cons_zero, List.set_cons_succ]
     refine wpHeld_cons ?_ (by rfl) (fun wS hwS => ?_) ?_
     rotate_left
     ·(try dsimp only at hwS)
      go_simp
      all_goals with_reducible rfl
     simp only [Act.put, List.setIfInBounds_toArray, List.set_cons_zero, List.set_cons_succ]
     refine wpHeld_cons ?_ (by rfl) (fun wS hwS => ?_) ?_
     rotate_left
     ·(try dsimp only at hwS)
      go_simp
      all_goals with_reducible rfl
     simp only [Act.put, List.setIfInBounds_toArray, List.set_cons_zero, List.set_cons_succ]
     refine wpHeld_cons ?_ (by rfl) (fun wS hwS => ?_) ?_
     rotate_left
     ·(try dsimp only at hwS)
      go_simp
      all_goals with_reducible rfl
     simp only [Act.put, List.setIfInBounds_toArray, List.set_cons_zero, List.set_cons_succ]
     refine wpHeld_cons ?_ (by rfl) (fun wS hwS => ?_) ?_
     rotate_left
     ·(try dsimp only at hwS)
      go_simp
      all_goals with_reducible rfl
     simp only [Act.put, List.setIfInBounds_toArray, List.set_cons_zero, List.set_cons_succ]
     refine wpHeld_cons ?_ (by rfl) (fun wS hwS => ?_) ?_
     rotate_left
     ·(try dsimp only at hwS)
      go_simp
      all_goals with_reducible rfl
     simp only [Act.put, List.setIfInBounds_toArray, List.set_cons_zero, List.set_cons_succ]
     refine wpHeld_cons ?_ (by rfl) (fun wS hwS => ?_) ?_
     rotate_left
     ·(try dsimp only at hwS)
      go_simp
      all_goals with_reducible rfl
     simp only [Act.put, List.setIfInBounds_toArray, List.set_cons_zero, List.set_cons_succ]
     refine wpHeld_cons ?_ (by rfl) (fun wS hwS => ?_) ?_
     rotate_left
     ·(try dsimp only at hwS)
      go_simp
      all_goals with_reducible rfl
     simp only [Act.put, List.setIfInBounds_toArray, List.set_cons_zero, List.set_cons_succ]
     refine wpHeld_cons ?_ (by rfl) (fun wS hwS => ?_) ?_
     rotate_left
     ·(try dsimp only at hwS)
      go_simp
      all_goals with_reducible rfl
     simp only [Act.put, List.setIfInBounds_toArray, List.set_cons_zero, List.set_cons_succ]
     refine wpHeld_nil ?_
     refine wpMid_cons ?_
     go_wp2_with fail
     refine XcE.out.mono ?_
     rintro e w' ⟨rfl, rfl⟩
     clear XcE
     go_wp2_with fail
     refine ⟨⟨q1, q3, d1, q4⟩, wpMid_nil ?_⟩
     go_wp2_with fail
     refine NoPanic.normal ?_
     go_wp2_with fail
     go_ret
     exact ⟨by simp, Xb3.out.drew.drew⟩
    ·rw [decide_eq_false he] at hf
     have hne : (rl == xs) = false := by simpa using he
     have hne2 : (rl != xs) = true := by simp [he]
     have hne3 : ¬ rl = xs := he
     rw [hf]
     clear hf he
     have Xk0 := hide k0
     have Xb3 := hide b3
     have Xh3 := hide h3
     have Xrz3 := hide rz3
     have XcT := hide cT
     have Xhg3 := hide hg3
     have Xhk := hide hk
     have XhL := hide hL
     have XcE := hide cE
     have XhFb := hide hFb
     clear k0 b3 h3 rz3 cT hg3 hk hL cE hFb
     go_enter Tryz.func40, Tryz.ntmps40
     go_wp2_with fail
     refine region_reads (by kernel_rfl) (by kernel_rfl) ?_
     repeat still_step
     refine wpStill_nil ?_
     go_wp2_with fail
     go_ret
     exact ⟨by simp, Xb3.out.drew⟩
   ·rw [decide_eq_false h1, Bool.and_false, Bool.false_and] at hf
    obtain ⟨R, hR⟩ : ∃ n, n = G.rules.length := ⟨_, rfl⟩
    rw [← hR] at h1 l3 q1
    have g0 : ¬ xr < 0 := by omega
    have g1 : (R : Int) ≤ xr := by omega
    rw [hf]
    clear hf hcell
    have Xk0 := hide k0
    have Xb3 := hide b3
    have Xh3 := hide h3
    have Xrz3 := hide rz3
    have XcT := hide cT
    have Xhg3 := hide hg3
    have Xhk := hide hk
    have XhL := hide hL
    have XcE := hide cE
    have XhR := hide hR
    clear k0 b3 h3 rz3 cT hg3 hk hL cE hR
    go_enter Tryz.func40, Tryz.ntmps40
    go_wp2_with fail
    refine region_reads (by kernel_rfl) (by kernel_rfl) ?_
    repeat still_step
    refine wpStill_nil ?_
    go_wp2_with fail
    go_ret
    exact ⟨by simp, Xb3.out.drew⟩
  ·rw [decide_eq_false h0, Bool.false_and, Bool.false_and] at hf
   have g0 : xr < 0 := by omega
   rw [hf]
   clear hf hcell
   have Xk0 := hide k0
   have Xb3 := hide b3
   have Xh3 := hide h3
   have Xrz3 := hide rz3
   have XcT := hide cT
   have Xhg3 := hide hg3
   have Xhk := hide hk
   have XhL := hide hL
   have XcE := hide cE
   clear k0 b3 h3 rz3 cT hg3 hk hL cE
   go_enter Tryz.func40, Tryz.ntmps40
   go_wp2_with fail
   refine region_reads (by kernel_rfl) (by kernel_rfl) ?_
   repeat still_step
   refine wpStill_nil ?_
   go_wp2_with fail
   go_ret
   exact ⟨by simp, Xb3.out.drew⟩
end Go.Proofs.YtacankgalkffmaaGreat

/- Trees of nodes: Twin. -/
import Derived.Test.YtacankgalkffmaaGreatArena5
namespace Go.Proofs.YtacankgalkffmaaGreat
set_option linter.unusedVariables false
set_option linter.unusedSimpArgs false
open Go.RowKit
attribute [local irreducible] wpStill wpOne wpPh
theorem own_zero {w : World} {base : Nat} {e : TypeId} {size n : Nat} {v : Value} {xs : List Value} (h : w.ownsRow base e size v n xs) : w.ownsRow 0 e size v n xs := ownsRow_base h fun _ _ => Nat.zero_le _
theorem ndCs_kid {M : List (Nd × Value)} {i : Nat} {p : Nd × Value} (hp : M[i]? = some p) (z : Value) : (ndCs M).set (i * 6 + 3) z = ndCs (M.set i (p.1, z)) := by
 have hi := (List.getElem?_eq_some_iff.1 hp).1
 refine List.ext_getElem? fun k => ?_
 have hk : k = k / 6 * 6 + k % 6 := by omega
 have h6 : k % 6 < 6 := Nat.mod_lt _ (by decide)
 rcases hq : M[k / 6]? with _ | q
 ·have hq' : M.length ≤ k / 6 := List.getElem?_eq_none_iff.1 hq
  rw [List.getElem?_eq_none (by rw [List.length_set, ndCs_len]; omega), List.getElem?_eq_none (by rw [ndCs_len, List.length_set]; omega)]
 ·have hq2 : (M.set i (p.1, z))[k / 6]? = some (if i = k / 6 then (p.1, z) else q) := by
   rw [List.getElem?_set]
   by_cases e : i = k / 6
   ·rw [if_pos e, if_pos (by omega), if_pos e]
   ·rw [if_neg e, if_neg e, hq]
  have e1 := ndCs_get hq h6
  have e2 := ndCs_get hq2 h6
  rw [← hk] at e1 e2
  rw [e2, List.getElem?_set]
  by_cases ek : i * 6 + 3 = k
  ·have ei : i = k / 6 := by omega
   have em : k % 6 = 3 := by omega
   rw [if_pos ek, if_pos (by rw [ndCs_len]; omega), if_pos ei, em]
   rfl
  ·rw [if_neg ek, e1]
   by_cases ei : i = k / 6
   ·have em : k % 6 ≠ 3 := by omega
    have epq : q = p := by rw [← ei, hp] at hq; injection hq with hq; exact hq.symm
    rw [if_pos ei, epq]
    have : k % 6 = 0 ∨ k % 6 = 1 ∨ k % 6 = 2 ∨ k % 6 = 4 ∨ k % 6 = 5 := by omega
    rcases this with e | e | e | e | e <;> rw [e] <;> rfl
   ·rw [if_neg ei]
theorem ndCs_one {w : World} {F : Nat → Prop} {M : List (Nd × Value)} (h : ∀ p ∈ M, RdI w F p.2 p.1.kids) : ∀ u ∈ ndCs M, u.oneCell' = true := by
 intro u hu
 unfold ndCs at hu
 obtain ⟨p, hp, h2⟩ := List.mem_flatMap.1 hu
 obtain ⟨A, n, c, hv, -⟩ := h p hp
 unfold ndC at h2
 rw [hv] at h2
 simp at h2
 rcases h2 with rfl | rfl | rfl | rfl | rfl | rfl <;> rfl
theorem eql_nodes_nil (A : Option Addr) (n c : Nat) (w : World) : Sem.run Tryz.prog (binOp .eql 60 (.slice A n c) (.slice none 0 0)) w = .ok (.bool A.isNone) w := by
 have := Lib.run_eql_slice_nil (P := Tryz.prog) w 60 59 A n c 0 0 Tryz.underlying60
 cases A <;> simpa using this
set_option maxRecDepth 100000 in
theorem clone_nodes {w : World} {bt : Nat} {S : Nat → Prop} {v : Value} {M : List (Nd × Value)} (h : ArM w bt S v M) (hl : M.length ≤ 100000) :
  Calls Tryz.prog 43 #[v] w fun e w' => ∃ A c, e = .returned (.slice A M.length c) ∧ w'.ownsRow w.heap.size 59 6 (.slice A M.length c) M.length (ndCs M) ∧ Below w.heap.size w w' := by
 obtain ⟨A, c, rfl, hc, hm⟩ := h.shape
 have hone := ndCs_one h.kids
 have hrd := Rd.of_own h.own
 have hnil := eql_nodes_nil A M.length c
 have hle := ndCs_len M
 obtain ⟨n, hn⟩ : ∃ n, n = M.length := ⟨_, rfl⟩
 rcases A with _ | ad
 ·have hM : M = [] := by
   rcases h.own.2 with ⟨-, h0⟩ | ⟨g, cap, cur, hv, -⟩
   ·exact List.eq_nil_of_length_eq_zero h0
   ·cases hv
  subst hM
  clear hl h hone hrd hle hn hnil
  have hnil := eql_nodes_nil none 0 c
  simp only [List.length_nil] at *
  go_enter Tryz.func43, Tryz.ntmps43
  go_wp2_with fail
  go_ret
  exact ⟨none, 0, rfl, World.ownsRow_nil _ _ _ _, Below.refl _ _⟩
 ·rw [← hn] at hl hrd hnil hc hle ⊢
  have H := hide hrd
  have HM := hide hle
  have HO := hide hone
  clear h hrd hone hle hn
  go_enter Tryz.func43, Tryz.ntmps43
  go_wp2_with (at_builtin; refine wp_append _ rfl (.tmp 5) (.tmp 6) _ rfl Tryz.elemNode w.heap.size _ 0 [] rfl (World.ownsRow_made w #[] 0 (Nat.le_refl _) (by decide) rfl) _ _ (ndCs M) n rfl HM.out (H.out.touch ((Touch.refl (fun _ => False) _).alloc _) (fun _ _ hf => hf)) HO.out (by unfold maxLen; omega) (by omega) (by simp) ?_)
  intro A c2 w2 hown hg _
  go_wp2_with fail
  go_ret
  refine ⟨A, c2, by simp, ?_, (((Below.refl _ w).alloc (Nat.le_refl _) _).grown hg (by simp) (fun k e => by simp [Value.ownBlock] at e; omega))⟩
  simpa using hown
theorem arena_Twin0 (w : World) : Calls Tryz.prog 14 #[.pointer none] w (Quiet w (.pointer none)) := by
 go_enter Tryz.func14, Tryz.ntmps14
 go_wp2_with fail
 go_ret
 exact ⟨rfl, Below.refl _ _⟩
section
variable {w w' : World} {bt : Nat} {S : Nat → Prop} {L : List Nd}
def TwinPost (w : World) (L : List Nd) (e : Ending) (w' : World) : Prop := Below w.heap.size w w' ∧ ∃ b, e = .returned (.pointer (some ⟨b, 0, none⟩)) ∧ Ar w' b (fun k => w.heap.size ≤ k ∧ k < w'.heap.size) L
set_option maxRecDepth 100000 in
set_option maxHeartbeats 4000000 in
theorem arena_Twin (h : Ar w bt S L) (hl : L.length ≤ 100000) (hk : ∀ x ∈ L, x.kids.length ≤ 65536) : Calls Tryz.prog 14 #[.pointer (some ⟨bt, 0, none⟩)] w (TwinPost w L) := by
 obtain ⟨v, M, hML, h⟩ := h
 have hlen : M.length = L.length := by rw [← hML, List.length_map]
 have cC := clone_nodes h (by omega)
 have p0 : w.cell? ⟨bt, 0, none⟩ = some v := h.box.cell 0
 obtain ⟨A, c, rfl, hc, hm⟩ := h.shape
 obtain ⟨n, hn⟩ : ∃ n, n = M.length := ⟨_, rfl⟩
 rw [← hn] at hc cC p0 h hlen
 rw [← hlen] at hl
 have Xh := hide h
 have XcC := hide cC
 have XhML := hide hML
 have Xhn := hide hn
 have Xhk := hide hk
 have Xhlen := hide hlen
 clear h cC hML hn hk hlen
 go_enter Tryz.func14, Tryz.ntmps14
 go_wp2_with fail
 refine XcC.out.mono ?_
 rintro e w1 ⟨A1, c1, rfl, own1, b1⟩
 have al : Below w1.heap.size w1 (w1.alloc (.cells #[.slice A1 n c1] 62)) := (Below.refl _ _).alloc (Nat.le_refl _) _
 obtain ⟨w2, hw2⟩ : ∃ x, x = w1.alloc (.cells #[.slice A1 n c1] 62) := ⟨_, rfl⟩
 have e2 := hw2.symm
 rw [e2] at al
 have k2 : Blk w2 w1.heap.size 62 #[.slice A1 n c1] := by rw [hw2]; exact Blk.new _ _ _
 have own2 := own_below' own1 al
 have b2 := b1.trans (al.mono b1.size)
 have p2 : w2.cell? ⟨w1.heap.size, 0, none⟩ = some (.slice A1 n c1) := k2.cell 0
 have z2 : w2.heap.size = w1.heap.size + 1 := by rw [hw2]; simp
 have hc1 := (ownsRow_shape own1)
 have hnb : ∀ k, (Value.slice A1 n c1).ownBlock = some k → w.heap.size ≤ k ∧ k < w1.heap.size := fun k e => own1.lt k e
 have zb := b1.size
 obtain ⟨A9, c9, hs9, hnc, hcm⟩ := hc1
 injection hs9 with h7 h8 h9
 subst h7 h9
 unfold maxLen at hcm
 clear hw2 XcC own1 b1 al p0
 have Xk2 := hide k2
 have Xown2 := hide own2
 have Xb2 := hide b2
 have Xhnb := hide hnb
 clear k2 own2 b2 hnb
 go_wp2_with fail
 go_loopw [19] (fun iv wr => ∃ (k : Nat) (N : List (Nd × Value)), k ≤ n ∧ iv = .int .i64 (k : Int) ∧ N.map Prod.fst = M.map Prod.fst ∧ N.length = n ∧ Blk wr w1.heap.size 62 #[.slice A1 n c1] ∧ wr.ownsRow w.heap.size 59 6 (.slice A1 n c1) n (ndCs N) ∧ (∀ (j : Nat) p, j < k → N[j]? = some p → RdI wr (fun b => w2.heap.size ≤ b ∧ b < wr.heap.size) p.2 p.1.kids) ∧ (∀ j : Nat, k ≤ j → N[j]? = M[j]?) ∧ Below w.heap.size w wr ∧ w2.heap.size ≤ wr.heap.size) (fun iv _ => n - (intOf iv).toNat)
 case atStart => exact ⟨0, M, Nat.zero_le _, rfl, rfl, Xhn.out.symm, Xk2.out, Xown2.out, fun j p hj => absurd hj (by omega), fun j _ => rfl, Xb2.out, Nat.le_refl _⟩
 case round =>
  clear Xk2 Xown2 Xb2 p2
  obtain ⟨k, N, hkn, rfl, hNM, hNl, kb, own, hnew, hold, bw, hz⟩ := hrel
  have p2 : wr.cell? ⟨w1.heap.size, 0, none⟩ = some (.slice A1 n c1) := kb.cell 0
  by_cases hlt : k < n
  ·have hlt' : (k : Int) < (n : Int) := by omega
   obtain ⟨p, hp⟩ : ∃ p, N[k]? = some p := ⟨_, List.getElem?_eq_getElem (by omega)⟩
   have hpM : M[k]? = some p := by rw [← hold k (Nat.le_refl _)]; exact hp
   -- the copy's cell
   obtain ⟨g, hg, d3, hfz, hset⟩ : ∃ g, A1 = some ⟨g, 0, none⟩ ∧ wr.cell? ⟨g, k * 6 + 3, none⟩ = some p.2 ∧ wr.frozen? ⟨g, k * 6 + 3, none⟩ = false ∧ w.heap.size ≤ g ∧ g < w1.heap.size := by
    rcases own.2 with ⟨-, h0⟩ | ⟨g, cap, cur, hv, hb, hh, hn2, hc2, hz2, ht⟩
    ·omega
    ·injection hv with hv1 _ hv3
     refine ⟨g, hv1, ?_, Blk.frozen hh _, Xhnb.out g (by rw [hv1]; rfl)⟩
     rw [cell_of_row wr g (k * 6 + 3) cur 59 (0, 0) hh]
     have := ndCs_get hp (j := 3) (by decide)
     rw [← ht, List.getElem?_take, if_pos (by omega)] at this
     simpa [ndC] using this
   subst hg
   have rk := (Xh.out.kids p (List.mem_of_getElem? hpM)).below bw (fun q hq => Xh.out.lt q hq.1)
   have hkl := Xhk.out p.1 (by rw [← XhML.out]; exact List.mem_map_of_mem (List.mem_of_getElem? hpM))
   obtain ⟨Az, nz, cz, hz9, -⟩ := id rk
   rw [hz9] at d3 rk
   have cK := cloneA_ints (w := wr.drew) (Rd.touch rk ((Touch.refl (fun _ => False) wr).drew) (fun _ _ c => c)) hkl
   have e3 : wr.drew.cell? ⟨w1.heap.size, 0, none⟩ = some (.slice (some ⟨g, 0, none⟩) n c1) ∧ wr.drew.cell? ⟨g, k * 6 + 3, none⟩ = some (.slice Az nz cz) := ⟨p2, d3⟩
   clear rk hkl hz9 hpM
   have Xkb := hide kb
   have Xown := hide own
   have Xhnew := hide hnew
   have Xhold := hide hold
   have Xbw := hide bw
   have XhNM := hide hNM
   have XhNl := hide hNl
   have XcK := hide cK
   have Xhp := hide hp
   clear kb own hnew hold bw hNM hNl cK hp
   go_wp2_with fail
   refine region_late (fun W => W.cell? ⟨w1.heap.size, 0, none⟩ = some (.slice (some ⟨g, 0, none⟩) n c1) ∧ W.cell? ⟨g, k * 6 + 3, none⟩ = some (.slice Az nz cz)) 14 15 (by kernel_rfl) (by kernel_rfl) e3 ?_
   simp only [List.take_succ_cons, List.take_zero, List.drop_succ_cons, List.drop_zero]
   refine wpHeld_cons ?_ (by rfl) (fun wS hwS => ?_) ?_
   rotate_left
   ·(try dsimp only at hwS)
    go_simp
    all_goals with_reducible rfl
   simp only [Act.put, List.setIfInBounds_toArray, List.set_cons_zero, List.set_cons_succ]
   refine wpHeld_cons ?_ (by rfl) (fun wS hwS => ?_) ?_
   rotate_left
   ·(try dsimp only at hwS)
    go_simp
    all_goals with_reducible rfl
   simp only [Act.put, List.setIfInBounds_toArray, List.set_cons_zero, List.set_cons_succ]
   refine wpHeld_cons ?_ (by rfl) (fun wS hwS => ?_) ?_
   rotate_left
   ·(try dsimp only at hwS)
    go_simp
    all_goals with_reducible rfl
   simp only [Act.put, List.setIfInBounds_toArray, List.set_cons_zero, List.set_cons_succ]
   refine wpHeld_cons ?_ (by rfl) (fun wS hwS => ?_) ?_
   rotate_left
   ·(try dsimp only at hwS)
    go_simp
    all_goals with_reducible rfl
   simp only [Act.put, List.setIfInBounds_toArray, List.set_cons_zero, List.set_cons_succ]
   refine wpHeld_cons ?_ (by rfl) (fun wS hwS => ?_) ?_
   rotate_left
   ·(try dsimp only at hwS)
    go_simp
    all_goals with_reducible rfl
   simp only [Act.put, List.setIfInBounds_toArray, List.set_cons_zero, List.set_cons_succ]
   refine wpHeld_cons ?_ (by rfl) (fun wS hwS => ?_) ?_
   rotate_left
   ·(try dsimp only at hwS)
    go_simp
    all_goals with_reducible rfl
   simp only [Act.put, List.setIfInBounds_toArray, List.set_cons_zero, List.set_cons_succ]
   refine wpHeld_cons ?_ (by rfl) (fun wS hwS => ?_) ?_
   rotate_left
   ·(try dsimp only at hwS)
    go_simp
    all_goals with_reducible rfl
   simp only [Act.put, List.setIfInBounds_toArray, List.set_cons_zero, List.set_cons_succ]
   refine wpHeld_cons ?_ (by rfl) (fun wS hwS => ?_) ?_
   rotate_left
   ·(try dsimp only at hwS)
    go_simp
    all_goals with_reducible rfl
   simp only [Act.put, List.setIfInBounds_toArray, List.set_cons_zero, List.set_cons_succ]
   refine wpHeld_cons ?_ (by rfl) (fun wS hwS => ?_) ?_
   rotate_left
   ·(try dsimp only at hwS)
    go_simp
    all_goals with_reducible rfl
   simp only [Act.put, List.setIfInBounds_toArray, List.set_cons_zero, List.set_cons_succ]
   refine wpHeld_cons ?_ (by rfl) (fun wS hwS => ?_) ?_
   rotate_left
   ·(try dsimp only at hwS)
    go_simp
    all_goals with_reducible rfl
   simp only [Act.put, List.setIfInBounds_toArray, List.set_cons_zero, List.set_cons_succ]
   refine wpHeld_cons ?_ (by rfl) (fun wS hwS => ?_) ?_
   rotate_left
   ·(try dsimp only at hwS)
    go_simp
    all_goals with_reducible rfl
   simp only [Act.put, List.setIfInBounds_toArray, List.set_cons_zero, List.set_cons_succ]
   refine wpHeld_cons ?_ (by rfl) (fun wS hwS => ?_) ?_
   rotate_left
   ·(try dsimp only at hwS)
    go_simp
    all_goals with_reducible rfl
   simp only [Act.put, List.setIfInBounds_toArray, List.set_cons_zero, List.set_cons_succ]
   refine wpHeld_cons ?_ (by rfl) (fun wS hwS => ?_) ?_
   rotate_left
   ·(try dsimp only at hwS)
    go_simp
    all_goals with_reducible rfl
   simp only [Act.put, List.setIfInBounds_toArray, List.set_cons_zero, List.set_cons_succ]
   refine wpHeld_cons ?_ (by rfl) (fun wS hwS => ?_) ?_
   rotate_left
   ·(try dsimp only at hwS)
    go_simp
    all_goals with_reducible rfl
   simp only [Act.put, List.setIfInBounds_toArray, List.set_cons_zero, List.set_cons_succ]
   refine wpHeld_nil ?_
   refine wpMid_cons ?_
   go_wp2_with fail
   refine XcK.out.mono ?_
   rintro e w3 ⟨A3, c3, rfl, own3, b3⟩
   have s3 := And.intro (upA_cell b3 e3.1) (upA_cell b3 e3.2)
   have bD : Below wr.heap.size wr w3 := (Below.refl _ wr).drew.trans b3
   have own4 := own_below' Xown.out bD
   have f3 : w3.frozen? ⟨g, k * 6 + 3, none⟩ = false := by
    rcases own4.2 with ⟨hv, -⟩ | ⟨g', cap, cur, hv, hb, hh, -⟩
    ·cases hv
    ·injection hv with hv1
     injection hv1 with hv1
     injection hv1 with hv1
     subst hv1
     exact Blk.frozen hh _
   have own5 := ownP_put own4 (j := k * 6 + 3) (by rw [ndCs_len, XhNl.out]; omega) (.slice A3 p.1.kids.length c3)
   rw [ndCs_kid Xhp.out] at own5
   have tS := touch_set w3 g (k * 6 + 3) (.slice A3 p.1.kids.length c3)
   have kb5 := (Xkb.out.below bD (by have := Xkb.out.lt; omega)).touch tS (by omega)
   have z3 := bD.size
   have hzS : (w3.setCell ⟨g, k * 6 + 3, none⟩ (.slice A3 p.1.kids.length c3)).heap.size = w3.heap.size := setc_size _ _ _
   have hN5 : (N.set k (p.1, .slice A3 p.1.kids.length c3)).map Prod.fst = M.map Prod.fst := by
    rw [← XhNM.out]
    refine List.ext_getElem? fun j => ?_
    rw [List.getElem?_map, List.getElem?_map, List.getElem?_set]
    by_cases e : k = j
    ·subst e; rw [if_pos rfl, if_pos (by have := XhNl.out; omega), Xhp.out]; rfl
    ·rw [if_neg e]
   have hl5 : (N.set k (p.1, .slice A3 p.1.kids.length c3)).length = n := by rw [List.length_set]; exact XhNl.out
   have hnew5 : ∀ (j : Nat) q, j < k + 1 → (N.set k (p.1, .slice A3 p.1.kids.length c3))[j]? = some q → RdI (w3.setCell ⟨g, k * 6 + 3, none⟩ (.slice A3 p.1.kids.length c3)) (fun b => w2.heap.size ≤ b ∧ b < (w3.setCell ⟨g, k * 6 + 3, none⟩ (.slice A3 p.1.kids.length c3)).heap.size) q.2 q.1.kids := fun j q hj hq => by
    rw [hzS]
    rw [List.getElem?_set] at hq
    by_cases e : k = j
    ·rw [if_pos e, if_pos (by have := XhNl.out; omega)] at hq
     injection hq with hq
     subst hq
     have hlo := own3.lt
     exact (Rd.touch (Rd.of_own own3) tS (fun b hb e => by have := (hlo b hb).1; have : wr.drew.heap.size = wr.heap.size := rfl; omega)).mono fun b hb => ⟨by have := (hlo b hb).1; have : wr.drew.heap.size = wr.heap.size := rfl; omega, (hlo b hb).2⟩
    ·rw [if_neg e] at hq
     exact (Rd.touch (Rd.below (Xhnew.out j q (by omega) hq) bD (fun b hb => hb.2)) tS (fun b hb e => by omega)).mono fun b hb => ⟨hb.1, by omega⟩
   have hold5 : ∀ j : Nat, k + 1 ≤ j → (N.set k (p.1, .slice A3 p.1.kids.length c3))[j]? = M[j]? := fun j hj => by
    rw [List.getElem?_set, if_neg (by omega)]
    exact Xhold.out j (by omega)
   have bw5 : Below w.heap.size w (w3.setCell ⟨g, k * 6 + 3, none⟩ (.slice A3 p.1.kids.length c3)) := (Xbw.out.trans (bD.mono Xbw.out.size)).trans (tS.below (fun q hq _ e => by omega) (by omega))
   clear own3 b3 bD own4 tS XcK Xkb Xown Xhnew Xhold Xbw XhNM XhNl e3 d3 hfz p2
   have Xown5 := hide own5
   have Xkb5 := hide kb5
   have XhN5 := hide hN5
   have Xhl5 := hide hl5
   have Xhnew5 := hide hnew5
   have Xhold5 := hide hold5
   have Xbw5 := hide bw5
   have XhzS := hide hzS
   clear own5 kb5 hN5 hl5 hnew5 hold5 bw5 hzS
   go_wp2_with fail
   refine ⟨s3, wpMid_nil ?_⟩
   obtain ⟨s4, s5⟩ := s3
   go_wp2_with fail
   refine NoPanic.normal ?_
   go_wp2_with fail
   go_roundw
   case rel => exact ⟨k + 1, _, by omega, by go_num, XhN5.out, Xhl5.out, Xkb5.out, Xown5.out, Xhnew5.out, Xhold5.out, Xbw5.out, by rw [XhzS.out]; omega⟩
   case measure => simp [intOf]; omega
  ·have hlt' : ¬ (k : Int) < (n : Int) := by omega
   obtain rfl : k = n := by omega
   have R : Ar wr w1.heap.size (fun q => w.heap.size ≤ q ∧ q < wr.heap.size) L := by
    refine ⟨_, N, by rw [hNM]; exact XhML.out, kb, by rw [hNl]; exact own_zero own, ⟨zb, by omega⟩, fun q e => ?_, fun p hp => ?_, fun q hq => hq.2⟩
    ·have := Xhnb.out q e
     exact ⟨⟨this.1, by omega⟩, by omega⟩
    ·obtain ⟨j, hj⟩ := List.mem_iff_getElem?.1 hp
     have hj1 := (List.getElem?_eq_some_iff.1 hj).1
     refine (hnew j p (by omega) hj).mono fun q hq => ⟨⟨by omega, hq.2⟩, by omega, fun e => ?_⟩
     have := (Xhnb.out q e).2
     omega
   clear kb own hnew hold hNM
   have XR := hide R
   have Xbw := hide bw
   clear R bw
   go_wp2_with fail
   go_ret
   exact ⟨Xbw.out, _, rfl, XR.out⟩
end
end Go.Proofs.YtacankgalkffmaaGreat

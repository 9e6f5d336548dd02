/- Trees of nodes: Join. -/
import Derived.Test.YtacankgalkffmaaGreatArena4
namespace Go.Proofs.YtacankgalkffmaaGreat
set_option linter.unusedVariables false
set_option linter.unusedSimpArgs false
open Go.RowKit
attribute [local irreducible] wpStill wpOne wpPh
theorem RdI.takeK {w : World} {F : Nat → Prop} {A : Option Addr} {n c : Nat} {xs : List Int} (h : RdI w F (.slice A n c) xs) {k : Nat} (hk : k ≤ n) : RdI w F (.slice A k c) (xs.take k) := by
 obtain ⟨A', n', c', hv, hnc, hcm, hl, hr⟩ := h
 injection hv with h1 h2 h3
 subst h1 h2 h3
 rw [List.length_map, Nat.mul_one] at hl
 refine ⟨A, k, c, rfl, by omega, hcm, by rw [List.length_map, List.length_take]; omega, fun h0 => ?_⟩
 obtain ⟨b, off, hA, hb, hc⟩ := hr (by omega)
 refine ⟨b, off, hA, hb, fun j u hu => hc j u ?_⟩
 rw [List.getElem?_map, List.getElem?_take] at hu
 rw [List.getElem?_map]
 split at hu
 ·exact hu
 ·cases hu
theorem markL_app (L : List Nd) (ks : List Int) (k : Int) : markL L (ks ++ [k]) = mark1 (markL L ks) k := by unfold markL; rw [List.foldl_append]; rfl
theorem mark_map (M : List (Nd × Value)) (k : Int) : (M.modify k.toNat fun p => ({ p.1 with below := true }, p.2)).map Prod.fst = mark1 (M.map Prod.fst) k := by
 refine List.ext_getElem? fun i => ?_
 rw [mark1_get, List.getElem?_map, List.getElem?_map, List.getElem?_modify]
 cases M[i]? with
 | none => rfl
 | some p => by_cases e : k.toNat = i <;> simp [e]
def mayK (L : List Nd) (kids : List Int) (k : Nat) : Prop := (∀ x ∈ kids.take k, x ∈ rootsL L) ∧ (kids.take k).Nodup
theorem mayK_no {L : List Nd} {kids : List Int} {k : Nat} {x : Int} (hx : kids[k]? = some x) (h : x ∉ rootsL L ∨ x ∈ kids.take k) : mayJ L kids = false := by
 rcases e : mayJ L kids with _ | _
 ·rfl
 ·obtain ⟨h1, h2⟩ := mayJ_iff.1 e
  rcases h with h | h
  ·exact absurd (h1 x (List.mem_of_getElem? hx)) h
  ·obtain ⟨j, hj⟩ := List.mem_iff_getElem?.1 h
   rw [List.getElem?_take] at hj
   split at hj
   ·rename_i hjk
    obtain ⟨hj1, hj2⟩ := List.getElem?_eq_some_iff.1 hj
    obtain ⟨hk1, hk2⟩ := List.getElem?_eq_some_iff.1 hx
    exact absurd (hj2.trans hk2.symm) ((List.pairwise_iff_getElem.1 h2) j k hj1 hk1 hjk)
   ·cases hj
theorem mayK_yes {L : List Nd} {kids : List Int} {k : Nat} {x : Int} (hx : kids[k]? = some x) (h : mayK L kids k) (h1 : x ∈ rootsL L) (h2 : x ∉ kids.take k) : mayK L kids (k + 1) := by
 have e : kids.take (k + 1) = kids.take k ++ [x] := by rw [List.take_add_one, hx]; rfl
 unfold mayK
 rw [e]
 refine ⟨fun y hy => ?_, ?_⟩
 ·rcases List.mem_append.1 hy with q | q
  ·exact h.1 y q
  ·rw [List.mem_singleton] at q; subst q; exact h1
 ·rw [List.nodup_append]
  exact ⟨h.2, by simp, fun a ha b hb => by rw [List.mem_singleton] at hb; subst hb; exact fun q => h2 (q ▸ ha)⟩
theorem arena_Join0 (s r : Int) (u : Value) (w : World) : Calls Tryz.prog 25 #[.pointer none, .int .i64 s, .int .i64 r, u] w (Quiet w (.int .i64 (-1))) := by
 go_enter Tryz.func25, Tryz.ntmps25
 go_wp2_with fail
 go_ret
 exact ⟨rfl, Below.refl _ _⟩
theorem Ar.mono {w : World} {bt : Nat} {S S' : Nat → Prop} {L : List Nd} (h : Ar w bt S L) (hS : ∀ b, S b → S' b) (hl : ∀ b, S' b → b < w.heap.size) : Ar w bt S' L := by
 obtain ⟨v, M, e, h⟩ := h
 exact ⟨v, M, e, h.mono hS hl⟩
section
variable {w w' : World} {bt : Nat} {S F : Nat → Prop} {L : List Nd} {u : Value} {kids : List Int}
def JoinPost (w : World) (bt : Nat) (S : Nat → Prop) (L : List Nd) (s r : Int) (kids : List Int) (e : Ending) (w' : World) : Prop := e = .returned (.int .i64 (joinA L kids)) ∧ Ar w' bt (New S w w') (joinL' L s r kids) ∧ Touch S w w'
set_option maxRecDepth 100000 in
set_option maxHeartbeats 2000000 in
theorem arena_Join (h : Ar w bt S L) (hl : L.length ≤ 100000) (hk : RdI w F u kids) (hF : ∀ b, F b → ¬ S b) (hkl : kids.length ≤ 65536) (s r : Int) : Calls Tryz.prog 25 #[.pointer (some ⟨bt, 0, none⟩), .int .i64 s, .int .i64 r, u] w (JoinPost w bt S L s r kids) := by
 have cI := fun i => arena_in h i
 have hlt := h.lt
 obtain ⟨v, M, hML, h⟩ := h
 obtain ⟨A, c, rfl, hc, hm⟩ := h.shape
 have hlen : M.length = L.length := by rw [← hML, List.length_map]
 obtain ⟨n, hn⟩ : ∃ n, n = L.length := ⟨_, rfl⟩
 rw [hlen] at hc
 have hb := (h.box.cell 0).trans rfl
 rw [hlen] at hb h
 rw [← hn] at hc hl hb h cI
 obtain ⟨Ak, m, ck, rfl, -⟩ := id hk
 obtain ⟨hm1, hnk, hck, hcell⟩ := RdI.at_ hk
 unfold maxLen at hck
 have cC := fun (k : Nat) (hk' : k ≤ m) (x : Int) => hasA_ints (hk.takeK hk') x
 rw [← hm1] at hkl
 have XcI := hide cI
 have Xh := hide h
 have XhML := hide hML
 have Xhn := hide hn
 have Xhk := hide hk
 have XhF := hide hF
 have Xhm1 := hide hm1
 have XcC := hide cC
 have Xhlt := hide hlt
 have Xhlen := hide hlen
 clear cI h hML hn hk hF hm1 cC hlt hlen
 go_enter Tryz.func25, Tryz.ntmps25
 go_wp2_with fail
 go_loopw [17] (fun iv wr => ∃ k : Nat, k ≤ m ∧ iv = .int .i64 (k : Int) ∧ wr = w ∧ mayK L kids k) (fun iv _ => m - (intOf iv).toNat)
 case atStart => exact ⟨0, Nat.zero_le _, rfl, by first | rfl | trivial, fun x hx => (by simp at hx), by simp⟩
 case round =>
  obtain ⟨k, hkm, rfl, rfl, may⟩ := hrel
  by_cases hlk : k < m
  ·have hlk' : (k : Int) < (m : Int) := by omega
   obtain ⟨b, off, rfl, hFb, hcc⟩ := hcell (by omega)
   obtain ⟨x, hx⟩ : ∃ x, kids[k]? = some x := ⟨_, List.getElem?_eq_getElem (by rw [← Xhm1.out]; exact hlk)⟩
   have hcx := hcc k x hx
   have cI := XcI.out x
   have cC := XcC.out k hkm x
   have hkc : k ≤ ck := by omega
   clear hcell hcc
   by_cases hin : inN n x = true
   ·obtain ⟨g0, g1⟩ := inN_iff.1 hin
    rw [hin] at cI
    have hx2 := ndAt_of g0 (show x < (L.length : Int) by rw [← Xhn.out]; exact g1)
    rw [← XhML.out, List.getElem?_map] at hx2
    obtain ⟨p, hp, hpx⟩ := Option.map_eq_some_iff.1 hx2
    obtain ⟨g, c', hv, hSg, hgb, c0, c1, c2, c3, c4, c5, rk⟩ := Xh.out.at_ hp
    injection hv with hv1 _ hv3
    subst hv1 hv3
    rw [XhML.out] at hpx
    obtain ⟨xn, rfl⟩ := Int.eq_ofNat_of_zero_le g0
    rw [Int.toNat_natCast] at c5
    obtain ⟨pb, hpb⟩ : ∃ b, b = p.1.below := ⟨_, rfl⟩
    rw [← hpb] at c5
    clear c0 c1 c2 c3 c4 rk hSg hgb hx2 hp
    cases pb with
    | true =>
     have hno : mayJ L kids = false := mayK_no hx (.inl fun c => by
      have h3 := (mem_rootsL.1 c).2.2
      rw [← hpx, ← hpb] at h3
      cases h3)
     clear may hx hpx hpb hin
     have XcI := hide cI
     have XcC := hide cC
     have Xhno := hide hno
     clear cI cC hno
     go_wp2_with fail
     refine XcI.out.mono ?_
     rintro e w' ⟨rfl, rfl⟩
     go_wp2_with fail
     go_ret
     refine ⟨ret_int (by unfold joinA; rw [Xhno.out]; rfl), ?_, Touch.refl _ _⟩
     unfold joinL'
     rw [Xhno.out]
     have h0 := Xh.out
     exact Ar.mono ⟨_, M, XhML.out, h0⟩ (fun b hb => .inl hb) (fun b hb => by rcases hb with q | q; exact Xhlt.out b q; omega)
    | false =>
     by_cases hmm : (xn : Int) ∈ kids.take k
     ·have hno : mayJ L kids = false := mayK_no hx (.inr hmm)
      rw [decide_eq_true hmm] at cC
      clear may hx hpx hpb hin hmm
      have XcI := hide cI
      have XcC := hide cC
      have Xhno := hide hno
      clear cI cC hno
      go_wp2_with fail
      refine XcI.out.mono ?_
      rintro e w' ⟨rfl, rfl⟩
      clear XcI
      go_wp2_with fail
      refine XcC.out.mono ?_
      rintro e w' ⟨rfl, rfl⟩
      clear XcC
      go_wp2_with fail
      go_ret
      refine ⟨ret_int (by unfold joinA; rw [Xhno.out]; rfl), ?_, Touch.refl _ _⟩
      unfold joinL'
      rw [Xhno.out]
      have h0 := Xh.out
      exact Ar.mono ⟨_, M, XhML.out, h0⟩ (fun b hb => .inl hb) (fun b hb => by rcases hb with q | q; exact Xhlt.out b q; omega)
     ·rw [decide_eq_false hmm] at cC
      have may2 := mayK_yes hx may (mem_rootsL.2 ⟨g0, by rw [← Xhn.out]; exact g1, by rw [← hpx, ← hpb]⟩) hmm
      clear may hx hpx hpb hin hmm
      have XcI := hide cI
      have XcC := hide cC
      have Xmay2 := hide may2
      clear cI cC may2
      go_wp2_with fail
      refine XcI.out.mono ?_
      rintro e w' ⟨rfl, rfl⟩
      clear XcI
      go_wp2_with fail
      refine XcC.out.mono ?_
      rintro e w' ⟨rfl, rfl⟩
      clear XcC
      go_wp2_with fail
      go_roundw
      case rel => exact ⟨k + 1, by omega, by go_num, by first | rfl | trivial, Xmay2.out⟩
      case measure => simp [intOf]; omega
   ·have hin : inN n x = false := by simpa using hin
    rw [hin] at cI
    have hno : mayJ L kids = false := mayK_no hx (.inl fun c => by
     obtain ⟨h1, h2, -⟩ := mem_rootsL.1 c
     rw [← Xhn.out] at h2
     rw [inN_iff.2 ⟨h1, h2⟩] at hin
     cases hin)
    clear may hx hin
    have XcI := hide cI
    have XcC := hide cC
    have Xhno := hide hno
    clear cI cC hno
    go_wp2_with fail
    refine XcI.out.mono ?_
    rintro e w' ⟨rfl, rfl⟩
    go_wp2_with fail
    go_ret
    refine ⟨ret_int (by unfold joinA; rw [Xhno.out]; rfl), ?_, Touch.refl _ _⟩
    unfold joinL'
    rw [Xhno.out]
    have h0 := Xh.out
    exact Ar.mono ⟨_, M, XhML.out, h0⟩ (fun b hb => .inl hb) (fun b hb => by rcases hb with q | q; exact Xhlt.out b q; omega)
  ·have hlk' : ¬ (k : Int) < (m : Int) := by omega
   have hyes : mayJ L kids = true := mayJ_iff.2 (by
    have e : kids.take k = kids := List.take_of_length_le (by have := Xhm1.out; omega)
    have := may
    unfold mayK at this
    rwa [e] at this)
   have hroot := (mayJ_iff.1 hyes).1
   clear may
   have Xhyes := hide hyes
   have Xhroot := hide hroot
   clear hyes hroot
   go_wp2_with fail
   obtain ⟨V, rfl⟩ : ∃ V, V = wr := ⟨_, rfl⟩
   go_loopw [46] (fun iv wx => ∃ (k : Nat) (M2 : List (Nd × Value)), k ≤ m ∧ iv = .int .i64 (k : Int) ∧ M2.map Prod.fst = markL L (kids.take k) ∧ M2.length = n ∧ ArM wx bt S (.slice A M2.length c) M2 ∧ Touch S V wx ∧ wx.heap.size = V.heap.size) (fun iv _ => m - (intOf iv).toNat)
   case atStart => exact ⟨0, M, Nat.zero_le _, rfl, by rw [List.take_zero]; exact XhML.out, by rw [Xhlen.out, ← Xhn.out], by rw [Xhlen.out, ← Xhn.out]; exact Xh.out, Touch.refl _ _, by first | rfl | trivial⟩
   case round =>
    clear Xh
    obtain ⟨k, M2, hkm, rfl, hM2, hl2, h2, t2, hz2⟩ := hrel
    have hb2 := (h2.box.cell 0).trans rfl
    rw [hl2] at hb2
    have hk2 := Rd.touch Xhk.out t2 XhF.out
    obtain ⟨-, -, -, hcell⟩ := RdI.at_ hk2
    by_cases hlk : k < m
    ·have hlk' : (k : Int) < (m : Int) := by omega
     obtain ⟨b, off, rfl, hFb, hcc⟩ := hcell (by omega)
     obtain ⟨x, hx⟩ : ∃ x, kids[k]? = some x := ⟨_, List.getElem?_eq_getElem (by rw [← Xhm1.out]; exact hlk)⟩
     have hcx := hcc k x hx
     obtain ⟨g0, g1, -⟩ := mem_rootsL.1 (Xhroot.out x (List.mem_of_getElem? hx))
     rw [← Xhn.out] at g1
     obtain ⟨xn, rfl⟩ := Int.eq_ofNat_of_zero_le g0
     obtain ⟨p, hp⟩ : ∃ p, M2[xn]? = some p := ⟨_, List.getElem?_eq_getElem (by omega)⟩
     obtain ⟨g, c', hv, hSg, hgb, c0, c1, c2, c3, c4, c5, rk⟩ := h2.at_ hp
     injection hv with hv1 _ hv3
     subst hv1 hv3
     have h3 := h2.mark (i := xn) (by omega)
     have hl3 : (M2.modify xn fun p => ({ p.1 with below := true }, p.2)).length = n := by rw [List.length_modify]; exact hl2
     have hM3 : (M2.modify xn fun p => ({ p.1 with below := true }, p.2)).map Prod.fst = markL L (kids.take (k + 1)) := by
      have := mark_map M2 (xn : Int)
      rw [Int.toNat_natCast] at this
      rw [this, hM2, ← markL_app, List.take_add_one, hx]; rfl
     have t3 : Touch S V (wr.setCell ⟨g, xn * 6 + 5, none⟩ (.bool true)) := t2.setCell (p := ⟨g, xn * 6 + 5, none⟩) (fun _ => hSg) _
     have hz3 : (wr.setCell ⟨g, xn * 6 + 5, none⟩ (.bool true)).heap.size = V.heap.size := (setc_size _ _ _).trans hz2
     have hfz : wr.frozen? ⟨g, xn * 6 + 5, none⟩ = false := by
      rcases h2.own.2 with ⟨hq, -⟩ | ⟨g', cap, cur, hq, -, hh, -⟩
      ·cases hq
      ·injection hq with hq
       injection hq with hq
       injection hq with hq
       subst hq
       exact Blk.frozen hh _
     rw [← hl2] at hl3
     clear c0 c1 c2 c3 c4 rk hcc hcell hx hp h2 t2 hz2 hM2
     have Xh3 := hide h3
     have Xhl3 := hide hl3
     have XhM3 := hide hM3
     have Xt3 := hide t3
     have Xhz3 := hide hz3
     have Xhk2 := hide hk2
     clear h3 hl3 hM3 t3 hz3 hk2
     go_wp2_with fail
     go_roundw
     case rel => exact ⟨k + 1, _, by omega, by go_num, XhM3.out, by rw [Xhl3.out]; exact hl2, by rw [List.length_modify]; exact Xh3.out, Xt3.out, Xhz3.out⟩
     case measure => simp [intOf]; omega
    ·have hlk' : ¬ (k : Int) < (m : Int) := by omega
     have hall : kids.take k = kids := List.take_of_length_le (by have := Xhm1.out; omega)
     rw [hall] at hM2
     have cC := cloneA_ints (w := wr.drew) (Rd.touch hk2 ((Touch.refl (fun _ => False) wr).drew) (fun _ _ c => c)) (by rw [← Xhm1.out]; exact hkl)
     have hd : ArM wr.drew bt S (.slice A M2.length c) M2 := h2.touch ((Touch.refl (fun _ => False) wr).drew) (fun _ _ c => c)
     have td : Touch S V wr.drew := t2.drew
     have zd : wr.drew.heap.size = V.heap.size := hz2
     have bd : wr.drew.cell? ⟨bt, 0, none⟩ = some (.slice A n c) := hb2
     clear hcell hall h2 t2 hz2 hk2 hb2
     have Xhd := hide hd
     have Xtd := hide td
     have Xzd := hide zd
     have XhM2 := hide hM2
     have Xhl2 := hide hl2
     have XcC := hide cC
     clear hd td zd hM2 hl2 cC
     go_wp2_with fail
     refine region_late (fun W => W.cell? ⟨bt, 0, none⟩ = some (.slice A n c)) 8 13 (by kernel_rfl) (by kernel_rfl) bd ?_
     simp only [List.take_succ_cons, List.take_zero, List.drop_succ_cons, List.drop_zero]
     refine wpHeld_cons ?_ (by rfl) (fun wS hwS => ?_) ?_
     rotate_left
     ·(try dsimp only at hwS)
      go_simp
      all_goals with_reducible rfl
     simp only [Act.put, List.setIfInBounds_toArray, List.set_cons_zero, List.set_cons_succ]
     refine wpHeld_cons ?_ (by rfl) (fun wS hwS => ?_) ?_
     rotate_left
     ·(try dsimp only at hwS)
      go_simp
      all_goals with_reducible rfl
     simp only [Act.put, List.setIfInBounds_toArray, List.set_cons_zero, List.set_cons_succ]
     refine wpHeld_cons ?_ (by rfl) (fun wS hwS => ?_) ?_
     rotate_left
     ·(try dsimp only at hwS)
      go_simp
      all_goals with_reducible rfl
     simp only [Act.put, List.setIfInBounds_toArray, List.set_cons_zero, List.set_cons_succ]
     refine wpHeld_cons ?_ (by rfl) (fun wS hwS => ?_) ?_
     rotate_left
     ·(try dsimp only at hwS)
      go_simp
      all_goals with_reducible rfl
     simp only [Act.put, List.setIfInBounds_toArray, List.set_cons_zero, List.set_cons_succ]
     refine wpHeld_cons ?_ (by rfl) (fun wS hwS => ?_) ?_
     rotate_left
     ·(try dsimp only at hwS)
      go_simp
      all_goals with_reducible rfl
     simp only [Act.put, List.setIfInBounds_toArray, List.set_cons_zero, List.set_cons_succ]
     refine wpHeld_cons ?_ (by rfl) (fun wS hwS => ?_) ?_
     rotate_left
     ·(try dsimp only at hwS)
      go_simp
      all_goals with_reducible rfl
     simp only [Act.put, List.setIfInBounds_toArray, List.set_cons_zero, List.set_cons_succ]
     refine wpHeld_cons ?_ (by rfl) (fun wS hwS => ?_) ?_
     rotate_left
     ·(try dsimp only at hwS)
      go_simp
      all_goals with_reducible rfl
     simp only [Act.put, List.setIfInBounds_toArray, List.set_cons_zero, List.set_cons_succ]
     refine wpHeld_cons ?_ (by rfl) (fun wS hwS => ?_) ?_
     rotate_left
     ·(try dsimp only at hwS)
      go_simp
      all_goals with_reducible rfl
     simp only [Act.put, List.setIfInBounds_toArray, List.set_cons_zero, List.set_cons_succ]
     refine wpHeld_nil ?_
     generalize wr.drew = wd at *
     refine wpMid_cons ?_
     go_wp2_with fail
     refine XcC.out.mono ?_
     rintro e w3 ⟨A3, c3, rfl, own3, b3⟩
     have bd3 := upA_cell b3 bd
     go_wp2_with fail
     refine ⟨bd3, wpMid_cons ?_⟩
     go_wp2_with fail
     refine ⟨bd3, wpMid_cons ?_⟩
     go_wp2_with fail
     refine ⟨bd3, wpMid_cons ?_⟩
     go_wp2_with fail
     have al : Below w3.heap.size w3 (w3.alloc (.cells #[.int .i64 s, .int .i64 (-1), .int .i64 r, .slice A3 kids.length c3, .bool false, .bool false] 59)) := (Below.refl _ _).alloc (Nat.le_refl _) _
     have b4 := b3.trans (al.mono b3.size)
     have h4 := Xhd.out.below b4
     have own4 := h4.own
     rw [Xhl2.out] at own4
     have bd4 := upA_cell al bd3
     have rone : Rd (w3.alloc (.cells #[.int .i64 s, .int .i64 (-1), .int .i64 r, .slice A3 kids.length c3, .bool false, .bool false] 59)) (fun _ => True) (.slice (some ⟨w3.heap.size, 0, none⟩) 1 1) 6 (ndC (joinN s r kids, .slice A3 kids.length c3)) := Rd.one (w := w3) (e := 59) (ndC (joinN s r kids, .slice A3 kids.length c3)) 6 rfl
     have hone : ∀ u ∈ ndC (joinN s r kids, .slice A3 kids.length c3), u.oneCell' = true := by intro u hu; simp [ndC] at hu; rcases hu with rfl | rfl | rfl | rfl | rfl | rfl <;> rfl
     clear bd bd3 XcC h4
     have Xown3 := hide own3
     have Xb3 := hide b3
     have Xal := hide al
     have Xb4 := hide b4
     have Xown4 := hide own4
     have Xrone := hide rone
     have Xhone := hide hone
     clear own3 b3 al b4 own4 rone hone
     refine ⟨bd4, wpMid_cons ?_⟩
     go_wp2_with (at_builtin; refine wp_append _ rfl (.tmp 62) (.tmp 69) _ rfl Tryz.elemNode 0 (.slice A n c) n _ rfl Xown4.out _ _ (ndC (joinN s r kids, .slice A3 kids.length c3)) 1 rfl rfl Xrone.out Xhone.out (by unfold maxLen; omega) (by omega) (Nat.zero_le _) ?_)
     intro A5 c5 w5 own5 g5 ho5
     have t5 : Touch (fun k => (Value.slice A n c).ownBlock = some k) wd w5 := (Touch.of_size Xb4.out _).trans' ((Touch.refl _ _).grown g5 (fun k e _ => e))
     have hob : (Value.slice A5 (n + 1) c5).ownBlock = (Value.slice A n c).ownBlock ∨ ∃ k, (Value.slice A5 (n + 1) c5).ownBlock = some k ∧ w3.heap.size ≤ k := by
      rcases ho5 with q | q
      ·exact .inl q
      ·exact .inr ⟨_, q, Nat.le_add_right _ _⟩
     have hsv := Xhd.out.sv
     rw [Xhl2.out] at hsv
     have hz5 : RdI w5 (fun b => wd.heap.size ≤ b ∧ b < w5.heap.size ∧ (Value.slice A5 (n + 1) c5).ownBlock ≠ some b) (.slice A3 kids.length c3) kids := by
      have r3 := (Rd.of_own (own_below' Xown3.out Xal.out))
      have t9 : Touch (fun k => (Value.slice A n c).ownBlock = some k) _ w5 := (Touch.refl _ _).grown g5 (fun k e _ => e)
      have hlo := Xown3.out.lt
      have hlt9 := Xhd.out.lt
      refine (Rd.touch r3 t9 fun b hb e => ?_).mono fun b hb => ⟨(hlo b hb).1, Nat.lt_of_lt_of_le (hlo b hb).2 (Nat.le_trans Xal.out.size g5.size), fun e => ?_⟩
      ·have h1 := (hlo b hb).1
       have h2 := hlt9 b (hsv b e).1
       omega
      ·rcases hob with q | ⟨k, q, hk⟩
       ·have h1 := (hlo b hb).1
        have h2 := hlt9 b (hsv b (q ▸ e)).1
        omega
       ·rw [q] at e
        injection e with e
        have := (hlo b hb).2
        omega
     have kb5 := Xhd.out.box.touch t5 (fun e => (hsv bt e).2 rfl)
     rw [Xhl2.out] at kb5
     have bd5 := (kb5.cell 0).trans rfl
     have fd5 := kb5.frozen 0
     have P := Xhd.out.push (x := joinN s r kids) (z := .slice A3 kids.length c3) (v' := .slice A5 (n + 1) c5) (X := fun k => (Value.slice A n c).ownBlock = some k) t5 (fun b e => by rw [Xhl2.out]; exact e) (by rw [Xhl2.out]; exact own5) (by
      rw [Xhl2.out]
      rcases hob with q | ⟨k, q, hk⟩
      ·exact .inl q
      ·exact .inr ⟨k, q, Nat.le_trans Xb3.out.size hk⟩) hz5
     have T : Touch S V (w5.setCell ⟨bt, 0, none⟩ (.slice A5 (n + 1) c5)) := (Xtd.out.trans' (t5.mono fun k _ e => (hsv k e).1)).setCell (p := ⟨bt, 0, none⟩) (fun _ => Xhd.out.sb) _
     have hN : New S V (w5.setCell ⟨bt, 0, none⟩ (.slice A5 (n + 1) c5)) = New S wd w5 := by unfold New; rw [setc_size, Xzd.out]
     clear own5 g5 ho5 kb5 t5 Xown3 Xown4 Xrone Xhone Xal Xb3 Xb4 bd4 hob hz5 hsv
     have XP := hide P
     have XT := hide T
     have XhN := hide hN
     clear P T hN
     refine ⟨bd5, wpMid_nil ?_⟩
     go_wp2_with fail
     refine NoPanic.normal ?_
     go_wp2_with fail
     go_ret
     refine ⟨ret_int ?_, ?_, XT.out⟩
     ·unfold joinA
      rw [Xhyes.out, ← Xhn.out]
      simp
     ·unfold joinL'
      rw [Xhyes.out]
      refine ⟨_, _, ?_, by rw [XhN.out]; exact XP.out⟩
      rw [List.map_append, XhM2.out]; rfl
end
end Go.Proofs.YtacankgalkffmaaGreat

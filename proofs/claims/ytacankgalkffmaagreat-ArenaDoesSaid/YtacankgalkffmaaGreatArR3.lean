/- The reference's tree: Join. -/
import Derived.Test.YtacankgalkffmaaGreatArR2
import Derived.Test.YtacankgalkffmaaGreatLate2
namespace Go.Proofs.YtacankgalkffmaaGreat
set_option linter.unusedVariables false
set_option linter.unusedSimpArgs false
open Go.RowKit
attribute [local irreducible] wpStill wpOne wpPh
theorem mark1_map {α : Type} (f : Nd → α) (hf : ∀ x, f { x with below := true } = f x) (L : List Nd) (k : Int) : (mark1 L k).map f = L.map f := by
 refine List.ext_getElem? fun i => ?_
 rw [List.getElem?_map, List.getElem?_map, mark1_get]
 cases L[i]? with
 | none => rfl
 | some x =>
  by_cases e : k.toNat = i
  ·simp [e, hf]
  ·simp [e]
theorem markL_map {α : Type} (f : Nd → α) (hf : ∀ x, f { x with below := true } = f x) : ∀ (ks : List Int) (L : List Nd), (markL L ks).map f = L.map f
 | [], _ => rfl
 | k :: ks, L => by rw [markL_cons, markL_map f hf ks, mark1_map f hf]
theorem mark1_below (L : List Nd) (k : Int) : (mark1 L k).map Nd.below = (L.map Nd.below).set k.toNat true := by
 refine List.ext_getElem? fun i => ?_
 rw [List.getElem?_map, mark1_get, List.getElem?_set, List.getElem?_map, List.length_map]
 rcases hq : L[i]? with _ | x
 ·have : L.length ≤ i := List.getElem?_eq_none_iff.1 hq
  by_cases e : k.toNat = i
  ·rw [if_pos e, if_neg (by omega)]; rfl
  ·rw [if_neg e]; rfl
 ·have : i < L.length := (List.getElem?_eq_some_iff.1 hq).1
  by_cases e : k.toNat = i
  ·rw [if_pos e, if_pos (by omega)]; simp [e]
  ·rw [if_neg e]; simp [e]
def RJoinPost (w : World) (bt : Nat) (S : Nat → Prop) (L : List Nd) (s r : Int) (kids : List Int) (e : Ending) (w' : World) : Prop := e = .returned (.int .i64 (joinA L kids)) ∧ RAr w' bt (New S w w') (joinL' L s r kids) ∧ Touch S w w'
theorem RJoinPost.no {w w' : World} {bt : Nat} {S : Nat → Prop} {L : List Nd} {s r : Int} {kids : List Int} (hno : mayJ L kids = false) (h : RAr w bt S L) (t : Touch (fun _ => False) w w') : RJoinPost w bt S L s r kids (.returned (.int .i64 (-1))) w' := by
 have h' := h.touch t (fun _ _ c => c)
 refine ⟨ret_int (by unfold joinA; rw [hno]; rfl), ?_, t.mono fun _ _ c => c.elim⟩
 unfold joinL'
 rw [hno]
 exact h'.mono (fun b hb => .inl hb) (fun b hb => by rcases hb with q | q; exact h'.lt b q; omega)
section
variable {w w' : World} {bt : Nat} {S F : Nat → Prop} {L : List Nd} {u : Value} {kids : List Int}
set_option maxRecDepth 100000 in
set_option maxHeartbeats 4000000 in
theorem ref19_Join (h : RAr w bt S L) (hl : L.length ≤ 100000) (hk : RdI w F u kids) (hF : ∀ b, F b → ¬ S b) (hkl : kids.length ≤ 65536) (s r : Int) : Calls Tryz.prog 27 #[.pointer (some ⟨bt, 0, none⟩), .int .i64 s, .int .i64 r, u] w (RJoinPost w bt S L s r kids) := by
 have hr := h
 obtain ⟨v, iv, bv, M, hML, h⟩ := h
 have hlen := RAr.len hML
 obtain ⟨A, c, rfl, hc, hm⟩ := own_shape63 h.own
 obtain ⟨Ai, ci, rfl, hci, hmi⟩ := own_shape63 h.owi
 obtain ⟨Ab, cb, rfl, hcb, hmb⟩ := own_shape63 h.owb
 obtain ⟨n, hn⟩ : ∃ n, n = L.length := ⟨_, rfl⟩
 have hli : (L.map Nd.il).length = n := by rw [List.length_map]; exact hn.symm
 have hlb : (L.map Nd.below).length = n := by rw [List.length_map]; exact hn.symm
 rw [hlen] at hc h
 rw [hli] at hci h
 rw [hlb] at hcb h
 rw [← hn] at hc hl h
 obtain ⟨Ak, m, ck, rfl, -⟩ := id hk
 obtain ⟨hm1, hnk, hck, -⟩ := RdI.at_ hk
 unfold maxLen at hck
 rw [← hm1] at hkl
 have Xh := hide h
 have XhML := hide hML
 have Xhn := hide hn
 have Xhk := hide hk
 have XhF := hide hF
 have Xhm1 := hide hm1
 have Xhlen := hide hlen
 have Xhli := hide hli
 have Xhlb := hide hlb
 have Xhr := hide hr
 clear h hML hn hk hF hm1 hlen hli hlb hr
 go_enter Tryz.func27, Tryz.ntmps27
 go_wp2_with fail
 go_loopw [9, 10] (fun iv _ wr => ∃ k : Nat, k ≤ m ∧ iv = .int .i64 (k : Int) ∧ Touch (fun _ => False) w wr ∧ mayK L kids k) (fun iv _ _ => m - (intOf iv).toNat)
 case atStart => exact ⟨0, Nat.zero_le _, rfl, Touch.refl _ _, fun x hx => (by simp at hx), by simp⟩
 case round =>
  obtain ⟨k, hkm, rfl, t, may⟩ := hrel
  by_cases hlk : k < m
  ·have hlk' : (k : Int) < (m : Int) := by omega
   have h1 := Xh.out.touch t (fun _ _ c => c)
   have hb0 : wr.cell? ⟨bt, 0, none⟩ = some (.slice A n c) := h1.box.cell 0
   have hb2 : wr.cell? ⟨bt, 2, none⟩ = some (.slice Ab n cb) := h1.box.cell 2
   have hk1 := Rd.touch Xhk.out t (fun _ _ c => c)
   obtain ⟨-, -, -, hcell⟩ := RdI.at_ hk1
   obtain ⟨b, off, rfl, hFb, hcc⟩ := hcell (by omega)
   obtain ⟨x, hx⟩ : ∃ x, kids[k]? = some x := ⟨_, List.getElem?_eq_getElem (by rw [← Xhm1.out]; exact hlk)⟩
   have hcx := hcc k x hx
   by_cases hx0 : x < 0
   ·have hno : mayJ L kids = false := mayK_no hx (.inl fun c => by have := (mem_rootsL.1 c).1; omega)
    clear may hcell hx hcc h1
    have Xt := hide t
    have Xhno := hide hno
    have Xhk1 := hide hk1
    clear t hno hk1
    go_wp2_with fail
    refine region_reads (by kernel_rfl) (by kernel_rfl) ?_
    repeat still_step
    refine wpStill_nil ?_
    go_wp2_with fail
    go_ret
    exact RJoinPost.no Xhno.out Xhr.out Xt.out.drew
   ·by_cases hx1 : x ≥ (n : Int)
    ·have hno : mayJ L kids = false := mayK_no hx (.inl fun c => by have h2 := (mem_rootsL.1 c).2.1; have := Xhn.out; omega)
     clear may hcell hx hcc h1
     have Xt := hide t
     have Xhno := hide hno
     have Xhk1 := hide hk1
     clear t hno hk1
     go_wp2_with fail
     refine region_reads (by kernel_rfl) (by kernel_rfl) ?_
     repeat still_step
     refine wpStill_nil ?_
     go_wp2_with fail
     go_ret
     exact RJoinPost.no Xhno.out Xhr.out Xt.out.drew
    ·have g0 : 0 ≤ x := by omega
     have g1 : x < (n : Int) := by omega
     have hxt : ((x.toNat : Nat) : Int) = x := by omega
     obtain ⟨xn, hxn⟩ : ∃ xn, xn = x.toNat := ⟨_, rfl⟩
     rw [← hxn] at hxt
     obtain ⟨pb, hpb⟩ : ∃ pb, (L.map Nd.below)[xn]? = some pb := ⟨_, List.getElem?_eq_getElem (by rw [Xhlb.out]; omega)⟩
     have owb := h1.owb
     obtain ⟨g, c', hv, hcb5, -⟩ := own_bool owb hpb
     rw [Xhlb.out] at hv
     injection hv with hv1 _ hv3
     subst hv1 hv3
     have hbel : (ndAt L x).below = pb := by
      rw [← hxt]
      rw [List.getElem?_map] at hpb
      obtain ⟨y, hy, hyx⟩ := Option.map_eq_some_iff.1 hpb
      rw [ndAt_get hy]; exact hyx
     rw [hxn] at hcb5
     cases pb with
     | true =>
      have hno : mayJ L kids = false := mayK_no hx (.inl fun c => by have h3 := (mem_rootsL.1 c).2.2; rw [hbel] at h3; cases h3)
      clear may hcell hx hcc h1 owb hpb hbel hxt hxn
      have Xt := hide t
      have Xhno := hide hno
      have Xhk1 := hide hk1
      clear t hno hk1
      go_wp2_with fail
      refine region_reads (by kernel_rfl) (by kernel_rfl) ?_
      repeat still_step
      refine wpStill_nil ?_
      go_wp2_with fail
      go_ret
      exact RJoinPost.no Xhno.out Xhr.out Xt.out.drew
     | false =>
      have hroot : x ∈ rootsL L := mem_rootsL.2 ⟨g0, by rw [← Xhn.out]; exact g1, hbel⟩
      have t1 := t.drew
      clear h1 owb hpb hbel hcell hk1 hxt hxn
      have Xt1 := hide t1
      have Xmay := hide may
      have Xhroot := hide hroot
      have Xhx := hide hx
      have Xhcc := hide hcc
      have Xt := hide t
      clear t1 may hroot hx hcc t
      go_wp2_with fail
      refine region_reads (by kernel_rfl) (by kernel_rfl) ?_
      repeat still_step
      refine wpStill_nil ?_
      go_wp2_with fail
      go_loopw [10] (fun iv wr => ∃ j : Nat, j ≤ k ∧ iv = .int .i64 (j : Int) ∧ Touch (fun _ => False) w wr ∧ (x ∉ kids.take j)) (fun iv _ => k - (intOf iv).toNat)
      case atStart => exact ⟨0, Nat.zero_le _, rfl, Xt1.out, by simp⟩
      case round =>
       obtain ⟨j, hjk, rfl, t2, hnm⟩ := hrel
       have hk2 := Rd.touch Xhk.out t2 (fun _ _ c => c)
       obtain ⟨-, -, -, hcell⟩ := RdI.at_ hk2
       obtain ⟨b', off', hA, hFb', hcc'⟩ := hcell (by omega)
       injection hA with hA
       injection hA with hA1 hA2
       subst hA1 hA2
       have hcx2 := hcc' k x Xhx.out
       have hkm' : (k : Int) < (m : Int) := by omega
       by_cases hj : j < k
       ·have hj' : (j : Int) < (k : Int) := by omega
        have hjm : (j : Int) < (m : Int) := by omega
        obtain ⟨y, hy⟩ : ∃ y, kids[j]? = some y := ⟨_, List.getElem?_eq_getElem (by have := Xhm1.out; omega)⟩
        have hcy := hcc' j y hy
        by_cases hyx : y = x
        ·have hno : mayJ L kids = false := mayK_no Xhx.out (.inr (List.mem_iff_getElem?.2 ⟨j, by rw [List.getElem?_take, if_pos hj, hy, hyx]⟩))
         subst hyx
         have he' : (y == y) = true := by simp
         clear hcc' hcell hk2 hnm hy hcx
         have Xt := hide t2
         clear t2
         have Xhno := hide hno
         clear hno
         go_wp2_with fail
         refine region_reads (by kernel_rfl) (by kernel_rfl) ?_
         repeat still_step
         refine wpStill_nil ?_
         go_wp2_with fail
         go_ret
         exact RJoinPost.no Xhno.out Xhr.out Xt.out.drew
        ·have he' : (y == x) = false := by simpa using hyx
         have hnm2 : x ∉ kids.take (j + 1) := by
          rw [List.take_add_one, hy]
          intro hmem
          rcases List.mem_append.1 hmem with q | q
          ·exact hnm q
          ·simp at q; exact hyx q.symm
         have t3 := t2.drew
         clear hcc' hcell hk2 hnm hy hcx hyx
         have Xt2 := hide t2
         have Xt3 := hide t3
         have Xhnm2 := hide hnm2
         clear t2 t3 hnm2
         go_wp2_with fail
         refine region_reads (by kernel_rfl) (by kernel_rfl) ?_
         repeat still_step
         refine wpStill_nil ?_
         go_wp2_with fail
         go_roundw
         case rel => exact ⟨j + 1, by omega, by go_num, Xt3.out, Xhnm2.out⟩
         case measure => simp [intOf]; omega
       ·have hj' : ¬ (j : Int) < (k : Int) := by omega
        obtain rfl : j = k := by omega
        have may2 := mayK_yes Xhx.out Xmay.out Xhroot.out hnm
        clear hcc' hcell hk2 hnm hcx
        have Xt2 := hide t2
        have Xmay2 := hide may2
        clear t2 may2
        go_wp2_with fail
        go_roundw
        case rel => exact ⟨j + 1, by omega, by go_num, Xt2.out, Xmay2.out⟩
        case measure => simp [intOf]; omega
  ·have hlk' : ¬ (k : Int) < (m : Int) := by omega
   have hyes : mayJ L kids = true := mayJ_iff.2 (by
    have e : kids.take k = kids := List.take_of_length_le (by have := Xhm1.out; omega)
    have := may
    unfold mayK at this
    rwa [e] at this)
   have hroot := (mayJ_iff.1 hyes).1
   clear may
   have Xhyes := hide hyes
   have Xhroot := hide hroot
   have Xt := hide t
   clear hyes hroot t
   go_wp2_with fail
   go_loopw [11] (fun iv wr => ∃ k : Nat, k ≤ m ∧ iv = .int .i64 (k : Int) ∧ RA3 wr bt S (.slice A n c) (.slice Ai n ci) (.slice Ab n cb) M (L.map Nd.il) ((markL L (kids.take k)).map Nd.below) ∧ Touch S w wr) (fun iv _ => m - (intOf iv).toNat)
   case atStart => exact ⟨0, Nat.zero_le _, rfl, by rw [List.take_zero]; exact Xh.out.touch Xt.out (fun _ _ c => c), Xt.out.mono fun _ _ c => c.elim⟩
   case round =>
    obtain ⟨k, hkm, rfl, h2, t2⟩ := hrel
    have hk2 := Rd.touch Xhk.out t2 XhF.out
    obtain ⟨-, -, -, hcell⟩ := RdI.at_ hk2
    by_cases hlk : k < m
    ·have hlk' : (k : Int) < (m : Int) := by omega
     obtain ⟨b, off, rfl, hFb, hcc⟩ := hcell (by omega)
     obtain ⟨x, hx⟩ : ∃ x, kids[k]? = some x := ⟨_, List.getElem?_eq_getElem (by rw [← Xhm1.out]; exact hlk)⟩
     have hcx := hcc k x hx
     obtain ⟨g0, g1, -⟩ := mem_rootsL.1 (Xhroot.out x (List.mem_of_getElem? hx))
     rw [← Xhn.out] at g1
     have hbl : ((markL L (kids.take k)).map Nd.below).length = n := by rw [List.length_map, markL_len]; exact Xhn.out.symm
     obtain ⟨pb, hpb⟩ : ∃ pb, ((markL L (kids.take k)).map Nd.below)[x.toNat]? = some pb := ⟨_, List.getElem?_eq_getElem (by rw [hbl]; omega)⟩
     have h2d := h2.touch ((Touch.refl (fun _ => False) wr).drew) (fun _ _ c => c)
     obtain ⟨g, c', hv, hcb5, hfz⟩ := own_bool h2d.owb hpb
     rw [hbl] at hv
     injection hv with hv1 _ hv3
     subst hv1 hv3
     have hb2 : wr.cell? ⟨bt, 2, none⟩ = some (.slice (some ⟨g, 0, none⟩) n cb) := h2.box.cell 2
     have h2e := h2d
     rw [← hbl] at h2e
     have h3 := h2e.mark (i := x.toNat) (by rw [hbl]; omega)
     rw [hbl, ← mark1_below, ← markL_app] at h3
     have htk : kids.take (k + 1) = kids.take k ++ [x] := by rw [List.take_add_one, hx]; rfl
     rw [← htk] at h3
     have t3 : Touch S w (wr.drew.setCell ⟨g, x.toNat, none⟩ (.bool true)) := t2.drew.setCell (p := ⟨g, x.toNat, none⟩) (fun _ => (h2.sB g rfl).1) _
     clear hcc hcell hx h2 h2d h2e t2 hk2 hpb hbl htk
     have Xh3 := hide h3
     have Xt3 := hide t3
     clear h3 t3
     go_wp2_with fail
     refine region_tail 9 (by kernel_rfl) (by kernel_rfl) ?_
     simp only [List.take_succ_cons, List.take_zero, List.drop_succ_cons, List.drop_zero]
     repeat still_step
     refine wpStill_nil ?_
     go_wp2_with fail
     go_roundw
     case rel => exact ⟨k + 1, by omega, by go_num, Xh3.out, Xt3.out⟩
     case measure => simp [intOf]; omega
    ·have hlk' : ¬ (k : Int) < (m : Int) := by omega
     have hall : kids.take k = kids := List.take_of_length_le (by have := Xhm1.out; omega)
     rw [hall] at h2
     obtain ⟨L2, hL2⟩ : ∃ L2, L2 = markL L kids := ⟨_, rfl⟩
     rw [← markL_map Nd.il (fun _ => rfl) kids L, ← hL2] at h2
     have hl2 : L2.length = n := by rw [hL2, markL_len]; exact Xhn.out.symm
     have hM2 : M.map (fun p => tnX p.1) = L2.map tnX := by rw [hL2, markL_map tnX (fun _ => rfl)]; exact XhML.out
     have rk := Rd.touch hk2 ((Touch.refl (fun _ => False) wr).drew) (fun _ _ c => c)
     have hd := h2.touch ((Touch.refl (fun _ => False) wr).drew) (fun _ _ c => c)
     have td : Touch S w wr.drew := t2.drew
     have bd : wr.drew.cell? ⟨bt, 0, none⟩ = some (.slice A n c) := hd.box.cell 0
     have HN : (kids.map (Value.int .i64)).length = m * 1 := by rw [List.length_map, Nat.mul_one]; exact Xhm1.out.symm
     clear hcell hall h2 t2 hk2
     have Xhd := hide hd
     have Xtd := hide td
     have XhM2 := hide hM2
     have Xhl2 := hide hl2
     have Xrk := hide rk
     have XhL2 := hide hL2
     have XHN := hide HN
     clear hd td hM2 hl2 rk hL2 HN
     go_wp2_with fail
     refine region_late2 (fun W => W.cell? ⟨bt, 0, none⟩ = some (.slice A n c)) [0, 1, 2, 3, 4, 5, 6, 8] [7, 9, 10, 11, 12] 13 (by kernel_rfl) (by kernel_rfl) bd ?_
     simp only [pickO, List.getElem?_cons_succ, List.getElem?_cons_zero, List.drop_succ_cons, List.drop_zero]
     refine wpHeld_cons ?_ (by rfl) (fun wS hwS => ?_) ?_
     rotate_left
     ·(try dsimp only at hwS)
      go_simp
      all_goals with_reducible rfl
     simp only [Act.put, List.setIfInBounds_toArray, List.set_cons_zero, List.set_cons_succ]
     refine wpHeld_cons ?_ (by rfl) (fun wS hwS => ?_) ?_
     rotate_left
     ·(try dsimp only at hwS)
      go_simp
      all_goals with_reducible rfl
     simp only [Act.put, List.setIfInBounds_toArray, List.set_cons_zero, List.set_cons_succ]
     refine wpHeld_cons ?_ (by rfl) (fun wS hwS => ?_) ?_
     rotate_left
     ·(try dsimp only at hwS)
      go_simp
      all_goals with_reducible rfl
     simp only [Act.put, List.setIfInBounds_toArray, List.set_cons_zero, List.set_cons_succ]
     refine wpHeld_cons ?_ (by rfl) (fun wS hwS => ?_) ?_
     rotate_left
     ·(try dsimp only at hwS)
      go_simp
      all_goals with_reducible rfl
     simp only [Act.put, List.setIfInBounds_toArray, List.set_cons_zero, List.set_cons_succ]
     refine wpHeld_cons ?_ (by rfl) (fun wS hwS => ?_) ?_
     rotate_left
     ·(try dsimp only at hwS)
      go_simp
      all_goals with_reducible rfl
     simp only [Act.put, List.setIfInBounds_toArray, List.set_cons_zero, List.set_cons_succ]
     refine wpHeld_cons ?_ (by rfl) (fun wS hwS => ?_) ?_
     rotate_left
     ·(try dsimp only at hwS)
      go_simp
      all_goals with_reducible rfl
     simp only [Act.put, List.setIfInBounds_toArray, List.set_cons_zero, List.set_cons_succ]
     refine wpHeld_cons ?_ (by rfl) (fun wS hwS => ?_) ?_
     rotate_left
     ·(try dsimp only at hwS)
      go_simp
      all_goals with_reducible rfl
     simp only [Act.put, List.setIfInBounds_toArray, List.set_cons_zero, List.set_cons_succ]
     refine wpHeld_cons ?_ (by rfl) (fun wS hwS => ?_) ?_
     rotate_left
     ·(try dsimp only at hwS)
      go_simp
      all_goals with_reducible rfl
     simp only [Act.put, List.setIfInBounds_toArray, List.set_cons_zero, List.set_cons_succ]
     refine wpHeld_nil ?_
     generalize wr.drew = wd at *
     refine wpMid_cons ?_
     go_wp2_with fail
     have al0 : Below wd.heap.size wd (wd.alloc (.cells #[] 3)) := (Below.refl _ _).alloc (Nat.le_refl _) _
     have bd0 := upA_cell al0 bd
     have Xal0 := hide al0
     clear al0
     refine ⟨bd0, wpMid_cons ?_⟩
     go_wp2_with (at_builtin; refine wp_append _ rfl (.tmp 83) (.tmp 84) _ rfl Tryz.elemInt wd.heap.size _ 0 [] rfl (World.ownsRow_made wd #[] 0 (Nat.le_refl _) (by decide) rfl) _ _ (kids.map (Value.int .i64)) m rfl XHN.out (Xrk.out.touch ((Touch.refl (fun _ => False) _).alloc _) (fun _ _ hf => hf)) (ints_one kids) (by unfold maxLen; omega) (by omega) (by simp) ?_)
     intro A3 c3 w3 own3 g3 _
     have b3 : Below wd.heap.size wd w3 := (((Below.refl _ wd).alloc (Nat.le_refl _) _).grown g3 (by simp) (fun k e => by simp [Value.ownBlock] at e; omega))
     have bd3 := upA_cell b3 bd
     have own3' : w3.ownsRow wd.heap.size 3 1 (.slice A3 m c3) m (kids.map (Value.int .i64)) := by simpa using own3
     clear bd0 g3 Xal0 own3
     have Xown3' := hide own3'
     have Xb3 := hide b3
     clear own3' b3
     refine ⟨bd3, wpMid_cons ?_⟩
     go_wp2_with fail
     refine ⟨bd3, wpMid_cons ?_⟩
     go_wp2_with fail
     have al : Below w3.heap.size w3 (w3.alloc (.cells #[.int .i64 s, .int .i64 (-1), .int .i64 r, .slice A3 m c3] 35)) := (Below.refl _ _).alloc (Nat.le_refl _) _
     have b4 := Xb3.out.trans (al.mono Xb3.out.size)
     have h4 := Xhd.out.below b4
     have own4 := h4.own
     rw [RAr.len XhM2.out, Xhl2.out] at own4
     have bd4 := upA_cell al bd3
     have rone : Rd (w3.alloc (.cells #[.int .i64 s, .int .i64 (-1), .int .i64 r, .slice A3 m c3] 35)) (fun _ => True) (.slice (some ⟨w3.heap.size, 0, none⟩) 1 1) 4 (tnC (joinN s r kids, .slice A3 m c3)) := Rd.one (w := w3) (e := 35) (tnC (joinN s r kids, .slice A3 m c3)) 4 rfl
     have hone : ∀ u ∈ tnC (joinN s r kids, .slice A3 m c3), u.oneCell' = true := by intro u hu; simp [tnC] at hu; rcases hu with rfl | rfl | rfl | rfl <;> rfl
     clear bd bd3 h4
     have Xal := hide al
     have Xb4 := hide b4
     have Xown4 := hide own4
     have Xrone := hide rone
     have Xhone := hide hone
     clear al b4 own4 rone hone
     refine ⟨bd4, wpMid_cons ?_⟩
     go_wp2_with (at_builtin; refine wp_append _ rfl (.tmp 80) (.tmp 87) _ rfl Tryz.elemTNode 0 (.slice A n c) n _ rfl Xown4.out _ _ (tnC (joinN s r kids, .slice A3 m c3)) 1 rfl rfl Xrone.out Xhone.out (by unfold maxLen; omega) (by omega) (Nat.zero_le _) ?_)
     intro A4 c4 w4 own4 g4 ho4
     have t4 : Touch (fun k => (Value.slice A n c).ownBlock = some k) wd w4 := (Touch.of_size Xb4.out _).trans' ((Touch.refl _ _).grown g4 (fun k e _ => e))
     have nw4 : NwB (.slice A n c) (.slice A4 (n + 1) c4) wd := by
      rcases ho4 with q | q
      ·exact .inl q
      ·exact .inr ⟨_, q, by have := Xb3.out.size; omega⟩
     have hz4 : RdI w4 (fun b => wd.heap.size ≤ b ∧ b < w4.heap.size ∧ (Value.slice A4 (n + 1) c4).ownBlock ≠ some b) (.slice A3 m c3) kids := by
      have r3 := (Rd.of_own (own_below' Xown3'.out Xal.out))
      have t9 : Touch (fun k => (Value.slice A n c).ownBlock = some k) _ w4 := (Touch.refl _ _).grown g4 (fun k e _ => e)
      have hlo := Xown3'.out.lt
      have hlt9 := Xhd.out.lt
      have hsv := Xhd.out.sv
      refine (Rd.touch r3 t9 fun b hb e => ?_).mono fun b hb => ⟨(hlo b hb).1, Nat.lt_of_lt_of_le (hlo b hb).2 (Nat.le_trans Xal.out.size g4.size), fun e => ?_⟩
      ·have h1 := (hlo b hb).1
       have h2 := hlt9 b (hsv b e).1
       omega
      ·rcases ho4 with q | q
       ·have h1 := (hlo b hb).1
        have h2 := hlt9 b (hsv b (q ▸ e)).1
        omega
       ·rw [q] at e
        injection e with e
        have := (hlo b hb).2
        omega
     have hMl : M.length = n := by rw [RAr.len XhM2.out]; exact Xhl2.out
     have P := Xhd.out.pushL (x := joinN s r kids) t4 (fun b e => e) (by rw [hMl]; exact own4) nw4 hz4
     have T4 : Touch S w (w4.setCell ⟨bt, 0, none⟩ (.slice A4 (n + 1) c4)) := (Xtd.out.trans' (t4.mono fun k _ e => (Xhd.out.sv k e).1)).setCell (p := ⟨bt, 0, none⟩) (fun _ => Xhd.out.sb) _
     have kb4 := Xhd.out.box.touch t4 (fun e => (Xhd.out.sv bt e).2 rfl)
     have hf4 := kb4.frozen 0
     have hc4 : w4.cell? ⟨bt, 0, none⟩ = some (.slice A n c) := kb4.cell 0
     have hN4 : New S wd (w4.setCell ⟨bt, 0, none⟩ (.slice A4 (n + 1) c4)) = New S wd w4 := by unfold New; rw [setc_size]
     have z4 : wd.heap.size ≤ (w4.setCell ⟨bt, 0, none⟩ (.slice A4 (n + 1) c4)).heap.size := by rw [setc_size]; exact t4.size
     rw [← hN4] at P
     clear own4 g4 ho4 kb4 t4 Xown3' Xown4 Xrone Xhone Xal Xb3 Xb4 bd4 nw4 hN4 hz4 hMl
     refine ⟨hc4, wpMid_nil ?_⟩
     have XP := hide P
     have XT4 := hide T4
     have Xz4 := hide z4
     clear P T4 z4
     go_wp2_with fail
     refine NoPanic.normal ?_
     have P := XP.out
     have T4 := XT4.out
     have z4 := Xz4.out
     clear XP XT4 Xz4
     obtain ⟨w5, hw5⟩ : ∃ x, w4.setCell ⟨bt, 0, none⟩ (.slice A4 (n + 1) c4) = x := ⟨_, rfl⟩
     rw [hw5] at P T4 z4
     have al5 : Below w5.heap.size w5 (w5.alloc (.cells #[.bool false] 4)) := (Below.refl _ _).alloc (Nat.le_refl _) _
     have own5 := (P.below al5).owi
     have rone5 : Rd (w5.alloc (.cells #[.bool false] 4)) (fun _ => True) (.slice (some ⟨w5.heap.size, 0, none⟩) 1 1) 1 [.bool false] := Rd.one (w := w5) (e := 4) [.bool false] 1 rfl
     have hb5 : w5.cell? ⟨bt, 1, none⟩ = some (.slice Ai n ci) := P.box.cell 1
     have el5 : (L2.map Nd.il).length = n := by rw [List.length_map, Xhl2.out]
     rw [el5] at own5
     have T4z : wd.heap.size ≤ w5.heap.size := z4
     have XP := hide P
     have XT4 := hide T4
     have Xal5 := hide al5
     have Xown5 := hide own5
     have Xrone5 := hide rone5
     have Xel5 := hide el5
     clear P T4 al5 own5 rone5 el5
     go_wp2_with (at_builtin; refine wp_append _ rfl (.tmp 95) (.tmp 96) _ rfl Tryz.elemBoolA 0 (.slice Ai n ci) n _ rfl Xown5.out _ _ [.bool false] 1 rfl rfl Xrone5.out (by simp [Value.oneCell']) (by unfold maxLen; omega) (by omega) (Nat.zero_le _) ?_)
     intro A6 c6 w6 own6 g6 ho6
     have t6 : Touch (fun k => (Value.slice Ai n ci).ownBlock = some k) w5 w6 := (Touch.of_size Xal5.out _).trans' ((Touch.refl _ _).grown g6 (fun k e _ => e))
     have nw6 : NwB (.slice Ai n ci) (.slice A6 (n + 1) c6) w5 := by
      rcases ho6 with q | q
      ·exact .inl q
      ·exact .inr ⟨_, q, Nat.le_add_right _ _⟩
     have P6 := XP.out.pushI (x := false) t6 (fun b e => e) (by rw [Xel5.out, List.map_map]; exact own6) nw6
     have T6 : Touch S w (w6.setCell ⟨bt, 1, none⟩ (.slice A6 (n + 1) c6)) := (XT4.out.trans' (t6.mono fun k _ e => (Xhd.out.si k e).1)).setCell (p := ⟨bt, 1, none⟩) (fun _ => Xhd.out.sb) _
     have kb6 := XP.out.box.touch t6 fun e => (XP.out.si bt e).2.1 rfl
     have hf6 := kb6.frozen 1
     have hc6 : w6.cell? ⟨bt, 1, none⟩ = some (.slice Ai n ci) := kb6.cell 1
     have hN6 : New (New S wd w5) w5 (w6.setCell ⟨bt, 1, none⟩ (.slice A6 (n + 1) c6)) = New (New S wd w5) w5 w6 := by unfold New; rw [setc_size]
     rw [← hN6] at P6
     have t6z : w5.heap.size ≤ w6.heap.size := t6.size
     clear own6 g6 ho6 t6 XP XT4 Xal5 Xown5 Xrone5 hb5 nw6 hf4 hc4 hN6 hw5 kb6 Xel5
     obtain ⟨w7, hw7⟩ : ∃ x, w6.setCell ⟨bt, 1, none⟩ (.slice A6 (n + 1) c6) = x := ⟨_, rfl⟩
     rw [hw7] at P6 T6
     have al7 : Below w7.heap.size w7 (w7.alloc (.cells #[.bool false] 4)) := (Below.refl _ _).alloc (Nat.le_refl _) _
     have own7 := (P6.below al7).owb
     have rone7 : Rd (w7.alloc (.cells #[.bool false] 4)) (fun _ => True) (.slice (some ⟨w7.heap.size, 0, none⟩) 1 1) 1 [.bool false] := Rd.one (w := w7) (e := 4) [.bool false] 1 rfl
     have hb7 : w7.cell? ⟨bt, 2, none⟩ = some (.slice Ab n cb) := P6.box.cell 2
     have el7 : (L2.map Nd.below).length = n := by rw [List.length_map, Xhl2.out]
     rw [el7] at own7
     have XP6 := hide P6
     have XT6 := hide T6
     have Xal7 := hide al7
     have Xown7 := hide own7
     have Xrone7 := hide rone7
     have Xel7 := hide el7
     clear P6 T6 al7 own7 rone7 el7
     go_wp2_with (at_builtin; refine wp_append _ rfl (.tmp 104) (.tmp 105) _ rfl Tryz.elemBoolA 0 (.slice Ab n cb) n _ rfl Xown7.out _ _ [.bool false] 1 rfl rfl Xrone7.out (by simp [Value.oneCell']) (by unfold maxLen; omega) (by omega) (Nat.zero_le _) ?_)
     intro A8 c8 w8 own8 g8 ho8
     have t8 : Touch (fun k => (Value.slice Ab n cb).ownBlock = some k) w7 w8 := (Touch.of_size Xal7.out _).trans' ((Touch.refl _ _).grown g8 (fun k e _ => e))
     have nw8 : NwB (.slice Ab n cb) (.slice A8 (n + 1) c8) w7 := by
      rcases ho8 with q | q
      ·exact .inl q
      ·exact .inr ⟨_, q, Nat.le_add_right _ _⟩
     have P8 := XP6.out.pushB (x := false) t8 (fun b e => e) (by rw [Xel7.out, List.map_map]; exact own8) nw8
     have T8 : Touch S w (w8.setCell ⟨bt, 2, none⟩ (.slice A8 (n + 1) c8)) := (XT6.out.trans' (t8.mono fun k _ e => (Xhd.out.sB k e).1)).setCell (p := ⟨bt, 2, none⟩) (fun _ => Xhd.out.sb) _
     have kb8 := XP6.out.box.touch t8 fun e => (XP6.out.sB bt e).2.1 rfl
     have hf8 := kb8.frozen 2
     have hc8 : w8.cell? ⟨bt, 2, none⟩ = some (.slice Ab n cb) := kb8.cell 2
     have hb9 : (w8.setCell ⟨bt, 2, none⟩ (.slice A8 (n + 1) c8)).cell? ⟨bt, 0, none⟩ = some (.slice A4 (n + 1) c4) := P8.box.cell 0
     have Z8 : wd.heap.size ≤ w5.heap.size ∧ w5.heap.size ≤ w7.heap.size ∧ w7.heap.size ≤ w8.heap.size := ⟨T4z, by rw [← hw7, setc_size]; exact t6z, t8.size⟩
     clear own8 g8 ho8 t8 XP6 XT6 Xal7 Xown7 Xrone7 hb7 nw8 hf6 hc6 hw7 kb8 Xel7
     have XP8 := hide P8
     have XT8 := hide T8
     have XZ8 := hide Z8
     clear P8 T8 Z8
     go_wp2_with fail
     go_ret
     refine ⟨ret_int ?_, ?_, XT8.out⟩
     ·unfold joinA
      rw [Xhyes.out, ← Xhn.out]
      simp
     ·unfold joinL'
      rw [Xhyes.out, if_pos rfl, ← XhL2.out]
      have hzz : w.heap.size ≤ wd.heap.size := Xtd.out.size
      refine RAr.mono (S := New (New (New S wd w5) w5 w7) w7 w8) ⟨_, _, _, _, ?_, by rw [List.map_append, List.map_append]; exact XP8.out⟩ (fun b hb => ?_) (fun b hb => ?_)
      ·rw [List.map_append, List.map_append, XhM2.out]; rfl
      ·have hz := setc_size w8 ⟨bt, 2, none⟩ (.slice A8 (n + 1) c8)
       have := XZ8.out
       rcases hb with ((hb | hb) | hb) | hb
       ·exact .inl hb
       all_goals exact .inr (by omega)
      ·have hz := setc_size w8 ⟨bt, 2, none⟩ (.slice A8 (n + 1) c8)
       have := XZ8.out
       rcases hb with hb | hb
       ·have := Xhd.out.lt b hb
        omega
       ·exact hb.2
end
end Go.Proofs.YtacankgalkffmaaGreat

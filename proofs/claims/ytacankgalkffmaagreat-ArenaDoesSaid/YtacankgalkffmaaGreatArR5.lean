/- The reference's tree: Show. -/
import Derived.Test.YtacankgalkffmaaGreatArR4
import Derived.Test.YtacankgalkffmaaGreatArena14
namespace Go.Proofs.YtacankgalkffmaaGreat
set_option linter.unusedVariables false
set_option linter.unusedSimpArgs false
open Go.RowKit
attribute [local irreducible] wpStill wpOne wpPh
def bsOf (l : List UInt8) : ByteArray := ⟨l.toArray⟩
theorem bsOf_app (a b : List UInt8) : bsOf a ++ bsOf b = bsOf (a ++ b) := by
 refine ByteArray.ext ?_
 rw [ByteArray.data_append]
 simp [bsOf]
theorem bsOf_size (l : List UInt8) : (bsOf l).size = l.length := by
 show l.toArray.size = _
 simp
theorem size_toList (s : ByteArray) : s.size = s.toList.length := by rw [ByteArray.toList_eq, Array.length_toList]; rfl
theorem bsOf_toList (s : ByteArray) : bsOf s.toList = s := by
 refine ByteArray.ext ?_
 simp [bsOf, ByteArray.toList_eq]
section
variable {w w' : World} {bt : Nat} {S F : Nat → Prop} {L : List Nd} {vt vn vr : Value} {G : GramD}
set_option maxRecDepth 100000 in
theorem ref19_Show (hL : Tr L) (hll : L.length ≤ 1000) (hN : ∀ s, (nameOf G s).toList.length ≤ 10000) (hsml : G.terms.length + G.nons.length ≤ 65536) (st : Int) : ∀ (f : Nat) (i : Int) (w : World), i.toNat < f → RAr w bt S L → IsGram w F vt vn vr G → Calls Tryz.prog 11 #[.pointer (some ⟨bt, 0, none⟩), GV vt vn vr st, .int .i64 i] w (Quiet w (.string (showT G L i)))
 | 0, i, w, hf, h, hg => absurd hf (by omega)
 | f + 1, i, w, hf, hr, hg => by
  have IH0 := ref19_Show hL hll hN hsml st f
  obtain ⟨A1, c1, A2, c2, A3, c3, rfl, rfl, rfl, -⟩ := hg.slices
  obtain ⟨w1, hw1⟩ : ∃ x, w.alloc (.cells #[.slice A1 G.terms.length c1, .slice A2 G.nons.length c2, .slice A3 G.rules.length c3, .int .i64 st] 26) = x := ⟨_, rfl⟩
  have b1 : Below w.heap.size w w1 := by rw [← hw1]; exact (Below.refl _ _).alloc (Nat.le_refl _) _
  have hr1 := hr.below b1
  have hg1 := hg.below b1
  have k1 : Blk w1 w.heap.size 26 #[.slice A1 G.terms.length c1, .slice A2 G.nons.length c2, .slice A3 G.rules.length c3, .int .i64 st] := by rw [← hw1]; exact Blk.new _ _ _
  have z1 : w1.heap.size = w.heap.size + 1 := by rw [← hw1]; simp
  have cI := ref19_in hr1 i
  by_cases hi : inN L.length i = true
  ·obtain ⟨g0, g1⟩ := inN_iff.1 hi
   have hsh : showT G L i = bsOf (shoO G L i) := by unfold showT; rw [if_pos hi]; rfl
   rw [hi] at cI
   rw [hsh]
   obtain ⟨v, iv, bv, M, hML, h⟩ := id hr1
   have hlen := RAr.len hML
   obtain ⟨n, hn⟩ : ∃ n, n = L.length := ⟨_, rfl⟩
   have hli : (L.map Nd.il).length = n := by rw [List.length_map]; exact hn.symm
   obtain ⟨pb, hpb⟩ : ∃ pb, (L.map Nd.il)[i.toNat]? = some pb := ⟨_, List.getElem?_eq_getElem (by rw [hli]; omega)⟩
   obtain ⟨gi, ci, rfl, hci, -⟩ := own_bool h.owi hpb
   rw [hli] at h
   have hil : (ndAt L i).il = pb := by
    have e : ((i.toNat : Nat) : Int) = i := by omega
    rw [List.getElem?_map] at hpb
    obtain ⟨y, hy, hyx⟩ := Option.map_eq_some_iff.1 hpb
    rw [← e, ndAt_get hy]; exact hyx
   obtain ⟨p, hp, es, el, er, ek⟩ := tnX_at hML hi
   obtain ⟨g, c, rfl, d0, d1, d2, d3, rk⟩ := h.at_ hp
   rw [es] at d0
   rw [el] at d1
   rw [er] at d2
   rw [ek] at rk
   rw [hlen, ← hn] at h
   rw [← hn] at g1
   have hb0 : w1.cell? ⟨bt, 0, none⟩ = some (.slice (some ⟨g, 0, none⟩) n c) := h.box.cell 0
   have hb1 : w1.cell? ⟨bt, 1, none⟩ = some (.slice (some ⟨gi, 0, none⟩) n ci) := h.box.cell 1
   have hkid := fun k (hk : k ∈ (ndAt L i).kids) => hL.kid hk
   obtain ⟨⟨ps, pl, pr, pk, pi, pb'⟩, z⟩ := p
   simp only at d0 d1 d2 d3 rk
   obtain ⟨Az, nz, cz, rfl, -⟩ := id rk
   have hx : ∃ x, x = ndAt L i := ⟨_, rfl⟩
   obtain ⟨x, hx⟩ := hx
   rw [← hx] at d0 d1 d2 rk hil hkid
   obtain ⟨w2, hw2⟩ : ∃ q, w1.alloc (.cells #[.int .i64 x.sym, .int .i64 x.leaf, .int .i64 x.rule, .slice Az nz cz] 35) = q := ⟨_, rfl⟩
   have b2 : Below w1.heap.size w1 w2 := by rw [← hw2]; exact (Below.refl _ _).alloc (Nat.le_refl _) _
   have k2 : Blk w2 w1.heap.size 35 #[.int .i64 x.sym, .int .i64 x.leaf, .int .i64 x.rule, .slice Az nz cz] := by rw [← hw2]; exact Blk.new _ _ _
   have hr2 := hr1.below b2
   have hg2 := hg1.below b2
   rw [z1] at k2
   have k12 := k1.below b2 (by omega)
   have e0 : w2.cell? ⟨w.heap.size + 1, 0, none⟩ = some (.int .i64 x.sym) := k2.cell 0
   have e3 : w2.cell? ⟨w.heap.size + 1, 3, none⟩ = some (.slice Az nz cz) := k2.cell 3
   have q0 : w2.cell? ⟨w.heap.size, 0, none⟩ = some (.slice A1 G.terms.length c1) := k12.cell 0
   have q1 : w2.cell? ⟨w.heap.size, 1, none⟩ = some (.slice A2 G.nons.length c2) := k12.cell 1
   have q2 : w2.cell? ⟨w.heap.size, 2, none⟩ = some (.slice A3 G.rules.length c3) := k12.cell 2
   have q3 : w2.cell? ⟨w.heap.size, 3, none⟩ = some (.int .i64 st) := k12.cell 3
   have cN := ref_name hg2 st x.sym hsml
   have hb1' := upA_cell b2 hb1
   have hci' := upA_cell b2 hci
   have b02 := b1.trans (b2.mono b1.size)
   cases pb with
   | true =>
    have hsl := shoO_leaf (G := G) (L := L) (i := i) (by rw [← hx]; exact hil)
    rw [hsl, ← hx, bsOf_toList]
    generalize nameOf G x.sym = nm at *
    clear IH0 hpb hML hlen hp es el er ek hkid hr1 hg1 hr2 hg2 h hr hg rk k1 k12 k2 b1 b2 hsl
    have XcI := hide cI
    have Xhn := hide hn
    have Xhli := hide hli
    have Xb02 := hide b02
    have Xhx := hide hx
    have Xhil := hide hil
    have XcN := hide cN
    clear cI hn hli b02 hx hil cN
    go_enter Tryz.func11, Tryz.ntmps11
    go_wp2_with fail
    refine XcI.out.mono ?_
    rintro e w' ⟨rfl, rfl⟩
    clear XcI
    go_wp2_with fail
    refine XcN.out.mono ?_
    rintro e w' ⟨rfl, b⟩
    have bb := Xb02.out.trans (b.mono Xb02.out.size)
    clear XcN b
    have Xbb := hide bb
    clear bb
    go_wp2_with fail
    go_ret
    exact ⟨rfl, Xbb.out⟩
   | false =>
    have hsj := shoO_join (G := G) hL (i := i) (by rw [← hx]; exact hil)
    have hlen1 := shoO_len hL hN (i.toNat + 1) i (Nat.lt_succ_self _)
    have hlen2 := hL.wt i g0 (by rw [← hn]; exact g1)
    have hlen3 : (shoO G L i).length ≤ 20000000 := by
     have := Nat.mul_le_mul_right (10000 + 3) (Nat.le_trans hlen2 hll)
     omega
    rw [hsj, ← hx] at hlen3
    rw [hsj, ← hx]
    have hnms := hN x.sym
    obtain ⟨nm, hnm⟩ : ∃ nm, nm = nameOf G x.sym := ⟨_, rfl⟩
    rw [← hnm] at cN hnms hlen3 ⊢
    rw [← size_toList] at hnms
    have hacc : ∀ k, ((40 :: nm.toList) ++ (x.kids.take k).flatMap (fun k => 32 :: shoO G L k)).length ≤ 20000000 := fun k => by
     have := flat_take (fun k => (32 : UInt8) :: shoO G L k) x.kids k
     simp only [List.length_append, List.length_cons, List.length_nil] at hlen3 ⊢
     omega
    have IH := fun k (hk : k ∈ x.kids) wr hr' hg' => IH0 k wr (by have := hkid k hk; omega) hr' hg'
    have hks : ∀ k ∈ x.kids, showT G L k = bsOf (shoO G L k) := fun k hk => by
     have := hkid k hk
     unfold showT
     rw [if_pos (inN_iff.2 ⟨this.1, by omega⟩)]
     rfl
    generalize x.kids = kids at *
    obtain ⟨T, hT⟩ : ∃ T, bsOf ((40 :: nm.toList) ++ (kids.flatMap fun k => 32 :: shoO G L k) ++ [41]) = T := ⟨_, rfl⟩
    rw [hT]
    obtain ⟨hnz, hncz, hcz, -⟩ := RdI.at_ rk
    unfold maxLen at hcz
    have hF := hr1.lt
    have rk2 := Rd.touch rk (Touch.of_size b2 (fun _ => False)) (fun _ _ c => c)
    have z2 : w2.heap.size = w.heap.size + 2 := by rw [← hw2]; simp [z1]
    clear IH0 hpb hML hlen hp es el er ek hkid hr1 hg1 h hr hg rk k1 b1 b2 hsj hnm hlen1 hlen2 hlen3
    have XcI := hide cI
    have Xhn := hide hn
    have Xhli := hide hli
    have Xb02 := hide b02
    have Xhx := hide hx
    have Xhil := hide hil
    have XcN := hide cN
    have XIH := hide IH
    have Xhks := hide hks
    have Xrk2 := hide rk2
    have Xhr2 := hide hr2
    have Xhg2 := hide hg2
    have Xk12 := hide k12
    have Xk2 := hide k2
    have XhF := hide hF
    have Xhnz := hide hnz
    have Xhacc := hide hacc
    have XhN := hide hN
    have XhT := hide hT
    clear cI hn hli b02 hx hil cN IH hks rk2 hr2 hg2 k12 k2 hF hnz hacc hN hT
    go_enter Tryz.func11, Tryz.ntmps11
    go_wp2_with fail
    refine XcI.out.mono ?_
    rintro e w' ⟨rfl, rfl⟩
    clear XcI
    go_wp2_with fail
    refine XcN.out.mono ?_
    rintro e w3 ⟨rfl, b3⟩
    clear XcN
    have hr3 := Xhr2.out.below b3
    have hg3 := Xhg2.out.below b3
    have rk3 := Rd.touch Xrk2.out (Touch.of_size b3 (fun _ => False)) (fun _ _ c => c)
    have k3 := Xk2.out.below b3 (by omega)
    have k13 := Xk12.out.below b3 (by omega)
    have b03 := Xb02.out.trans (b3.mono Xb02.out.size)
    have z3 := b3.size
    rw [z2] at z3
    clear Xhr2 Xhg2 Xrk2 Xk2 Xk12 b3
    have Xhr3 := hide hr3
    have Xhg3 := hide hg3
    have Xrk3 := hide rk3
    have Xk3 := hide k3
    have Xk13 := hide k13
    have Xb03 := hide b03
    clear hr3 hg3 rk3 k3 k13 b03
    go_wp2_with fail
    go_loopw [8, 9] (fun sv iv wr => ∃ (k : Nat) (b : ByteArray), k ≤ nz ∧ iv = .int .i64 (k : Int) ∧ sv = .string b ∧ b = bsOf ((40 :: nm.toList) ++ (kids.take k).flatMap (fun k => 32 :: shoO G L k)) ∧ Below w3.heap.size w3 wr) (fun _ iv _ => nz - (intOf iv).toNat)
    case atStart =>
     refine ⟨0, _, Nat.zero_le _, rfl, rfl, ?_, Below.refl _ _⟩
     rw [List.take_zero, List.flatMap_nil, List.append_nil, show (40 :: nm.toList : List UInt8) = [40] ++ nm.toList from rfl, ← bsOf_app, bsOf_toList]
     rfl
    case round =>
     obtain ⟨k, b, hk, rfl, rfl, hb, le⟩ := hrel
     have k23 := Xk3.out.below le (by omega)
     have k24 := Xk13.out.below le (by omega)
     have e3 : wr.cell? ⟨w.heap.size + 1, 3, none⟩ = some (.slice Az nz cz) := k23.cell 3
     have hbz : b.size ≤ 20000000 := by rw [hb, bsOf_size]; exact Xhacc.out k
     have hbs : ¬ 9223372036854775807 < b.size + 1 := by omega
     by_cases hlt : k < nz
     ·have hlt' : (k : Int) < (nz : Int) := by omega
      obtain ⟨-, -, -, hcell⟩ := RdI.at_ Xrk3.out
      obtain ⟨bb, off, rfl, hFb, hcc⟩ := hcell (by omega)
      obtain ⟨j, hj⟩ : ∃ j, kids[k]? = some j := ⟨_, List.getElem?_eq_getElem (by rw [← Xhnz.out]; exact hlt)⟩
      have hcx := upA_cell le (hcc k j hj)
      have hjm := List.mem_of_getElem? hj
      have cS := XIH.out j hjm wr.drew (Xhr3.out.below le.drew) (Xhg3.out.below le.drew)
      rw [Xhks.out j hjm] at cS
      have hs : (kids.take (k + 1)).flatMap (fun k => (32 : UInt8) :: shoO G L k) = (kids.take k).flatMap (fun k => 32 :: shoO G L k) ++ (32 :: shoO G L j) := by rw [List.take_add_one, hj, List.flatMap_append]; simp
      have hb2 : b ++ ⟨#[32]⟩ ++ bsOf (shoO G L j) = bsOf ((40 :: nm.toList) ++ (kids.take (k + 1)).flatMap (fun k => 32 :: shoO G L k)) := by
       rw [hs, hb, show (⟨#[32]⟩ : ByteArray) = bsOf [32] from rfl, bsOf_app, bsOf_app]
       simp
      have hsz : (b ++ ⟨#[32]⟩ ++ bsOf (shoO G L j)).size ≤ 20000000 := by rw [hb2, bsOf_size]; exact Xhacc.out (k + 1)
      generalize bsOf (shoO G L j) = sj at *
      rw [ByteArray.size_append, ByteArray.size_append] at hsz
      have hsz : b.size + 1 + sj.size ≤ 20000000 := hsz
      have SS : wr.drew.cell? ⟨w.heap.size, 0, none⟩ = some (.slice A1 G.terms.length c1) ∧ wr.drew.cell? ⟨w.heap.size, 1, none⟩ = some (.slice A2 G.nons.length c2) ∧ wr.drew.cell? ⟨w.heap.size, 2, none⟩ = some (.slice A3 G.rules.length c3) ∧ wr.drew.cell? ⟨w.heap.size, 3, none⟩ = some (.int .i64 st) ∧ wr.drew.cell? ⟨w.heap.size + 1, 3, none⟩ = some (.slice (some ⟨bb, off, none⟩) nz cz) ∧ wr.drew.cell? ⟨bb, off + k, none⟩ = some (.int .i64 j) := ⟨k24.cell 0, k24.cell 1, k24.cell 2, k24.cell 3, e3, hcx⟩
      have led := le.drew
      clear hcell hcc hj hjm hs hb k23 k24 le
      have XcS := hide cS
      have Xhb2 := hide hb2
      have Xled := hide led
      clear cS hb2 led
      go_wp2_with fail
      refine region_late (fun W => W.cell? ⟨w.heap.size, 0, none⟩ = some (.slice A1 G.terms.length c1) ∧ W.cell? ⟨w.heap.size, 1, none⟩ = some (.slice A2 G.nons.length c2) ∧ W.cell? ⟨w.heap.size, 2, none⟩ = some (.slice A3 G.rules.length c3) ∧ W.cell? ⟨w.heap.size, 3, none⟩ = some (.int .i64 st) ∧ W.cell? ⟨w.heap.size + 1, 3, none⟩ = some (.slice (some ⟨bb, off, none⟩) nz cz) ∧ W.cell? ⟨bb, off + k, none⟩ = some (.int .i64 j)) 9 11 (by kernel_rfl) (by kernel_rfl) SS ?_
      simp only [List.take_succ_cons, List.take_zero, List.drop_succ_cons, List.drop_zero]
      refine wpHeld_cons ?_ (by rfl) (fun wS hwS => ?_) ?_
      rotate_left
      ·(try dsimp only at hwS)
       go_simp
       all_goals with_reducible rfl
      simp only [Act.put, List.setIfInBounds_toArray, List.set_cons_zero, List.set_cons_succ]
      refine wpHeld_cons ?_ (by rfl) (fun wS hwS => ?_) ?_
      rotate_left
      ·(try dsimp only at hwS)
       go_simp
       all_goals with_reducible rfl
      simp only [Act.put, List.setIfInBounds_toArray, List.set_cons_zero, List.set_cons_succ]
      refine wpHeld_cons ?_ (by rfl) (fun wS hwS => ?_) ?_
      rotate_left
      ·(try dsimp only at hwS)
       go_simp
       all_goals with_reducible rfl
      simp only [Act.put, List.setIfInBounds_toArray, List.set_cons_zero, List.set_cons_succ]
      refine wpHeld_cons ?_ (by rfl) (fun wS hwS => ?_) ?_
      rotate_left
      ·(try dsimp only at hwS)
       go_simp
       all_goals with_reducible rfl
      simp only [Act.put, List.setIfInBounds_toArray, List.set_cons_zero, List.set_cons_succ]
      refine wpHeld_cons ?_ (by rfl) (fun wS hwS => ?_) ?_
      rotate_left
      ·(try dsimp only at hwS)
       go_simp
       all_goals with_reducible rfl
      simp only [Act.put, List.setIfInBounds_toArray, List.set_cons_zero, List.set_cons_succ]
      refine wpHeld_cons ?_ (by rfl) (fun wS hwS => ?_) ?_
      rotate_left
      ·(try dsimp only at hwS)
       go_simp
       all_goals with_reducible rfl
      simp only [Act.put, List.setIfInBounds_toArray, List.set_cons_zero, List.set_cons_succ]
      refine wpHeld_cons ?_ (by rfl) (fun wS hwS => ?_) ?_
      rotate_left
      ·(try dsimp only at hwS)
       go_simp
       all_goals with_reducible rfl
      simp only [Act.put, List.setIfInBounds_toArray, List.set_cons_zero, List.set_cons_succ]
      refine wpHeld_cons ?_ (by rfl) (fun wS hwS => ?_) ?_
      rotate_left
      ·(try dsimp only at hwS)
       go_simp
       all_goals with_reducible rfl
      simp only [Act.put, List.setIfInBounds_toArray, List.set_cons_zero, List.set_cons_succ]
      refine wpHeld_cons ?_ (by rfl) (fun wS hwS => ?_) ?_
      rotate_left
      ·(try dsimp only at hwS)
       go_simp
       all_goals with_reducible rfl
      simp only [Act.put, List.setIfInBounds_toArray, List.set_cons_zero, List.set_cons_succ]
      refine wpHeld_nil ?_
      refine wpMid_cons ?_
      go_wp2_with fail
      refine XcS.out.mono ?_
      rintro e w5 ⟨rfl, b5⟩
      have S5 := SS
      obtain ⟨s0, s1, s2, s3, s4, s5⟩ := SS
      have S6 := And.intro (upA_cell b5 s0) (And.intro (upA_cell b5 s1) (And.intro (upA_cell b5 s2) (And.intro (upA_cell b5 s3) (And.intro (upA_cell b5 s4) (upA_cell b5 s5)))))
      have le5 := Xled.out.trans (b5.mono Xled.out.size)
      clear XcS b5 S5 s0 s1 s2 s3 s4 s5 Xled
      have Xle5 := hide le5
      clear le5
      go_wp2_with fail
      refine ⟨S6, wpMid_cons ?_⟩
      go_wp2_with fail
      refine ⟨S6, wpMid_nil ?_⟩
      clear S6
      go_wp2_with fail
      refine NoPanic.normal ?_
      go_wp2_with fail
      go_roundw
      case rel => exact ⟨k + 1, _, by omega, by go_num, rfl, Xhb2.out, Xle5.out⟩
      case measure => simp [intOf]; omega
     ·have hlt' : ¬ (k : Int) < (nz : Int) := by omega
      have hall : kids.take k = kids := List.take_of_length_le (by have := Xhnz.out; omega)
      rw [hall] at hb
      have hfin : Quiet w (.string T) (.returned (.string (b ++ ⟨#[41]⟩))) wr := ⟨by rw [hb, show (⟨#[41]⟩ : ByteArray) = bsOf [41] from rfl, bsOf_app, ← XhT.out], Xb03.out.trans (le.mono Xb03.out.size)⟩
      clear hall hb le k23 k24
      have Xhfin := hide hfin
      clear hfin
      go_wp2_with fail
      go_ret
      exact Xhfin.out
  ·have hi : inN L.length i = false := by simpa using hi
   have hsh : showT G L i = ⟨#[]⟩ := by unfold showT; rw [hi]; rfl
   rw [hi] at cI
   rw [hsh]
   clear IH0 hr1 hg1 k1 hr hg
   have XcI := hide cI
   have Xb1 := hide b1
   clear cI b1
   go_enter Tryz.func11, Tryz.ntmps11
   go_wp2_with fail
   refine XcI.out.mono ?_
   rintro e w' ⟨rfl, rfl⟩
   clear XcI
   go_wp2_with fail
   go_ret
   exact ⟨rfl, Xb1.out⟩
end
end Go.Proofs.YtacankgalkffmaaGreat

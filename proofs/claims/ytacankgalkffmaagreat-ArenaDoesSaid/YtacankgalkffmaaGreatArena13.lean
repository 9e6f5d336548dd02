/- Trees of nodes: Show. -/
import Derived.Test.YtacankgalkffmaaGreatArenaB
namespace Go.Proofs.YtacankgalkffmaaGreat
set_option linter.unusedVariables false
set_option linter.unusedSimpArgs false
open Go.RowKit
attribute [local irreducible] wpStill wpOne wpPh
structure ShC (M b b1 b3 b4 bt : Nat) (S F : Nat → Prop) (L : List Nd) (G : GramD) (vt vn vr : Value) (st : Int) (w : World) : Prop where
 ar : Ar w bt S L
 k1 : Blk w b1 29 #[.pointer (some ⟨bt, 0, none⟩)]
 k3 : Blk w b3 26 #[vt, vn, vr, .int .i64 st]
 k4 : Blk w b4 68 #[.func (.func 32) #[] #[.pointer (some ⟨b1, 0, none⟩), .pointer (some ⟨b, 0, none⟩), .pointer (some ⟨b3, 0, none⟩), .pointer (some ⟨b4, 0, none⟩)]]
 gr : IsGram w F vt vn vr G
 lt : ∀ k, S k ∨ F k ∨ k = b1 ∨ k = b3 ∨ k = b4 → k < M ∧ k ≠ b
theorem ShC.touch {M b b1 b3 b4 bt : Nat} {S F : Nat → Prop} {L : List Nd} {G : GramD} {vt vn vr : Value} {st : Int} {w w' : World} (h : ShC M b b1 b3 b4 bt S F L G vt vn vr st w) (t : Touch (fun k => k = b ∨ M ≤ k) w w') : ShC M b b1 b3 b4 bt S F L G vt vn vr st w' := by
 have n : ∀ k, S k ∨ F k ∨ k = b1 ∨ k = b3 ∨ k = b4 → ¬ (k = b ∨ M ≤ k) := fun k hk c => by
  have := h.lt k hk
  omega
 exact ⟨h.ar.touch t fun k hk => n k (.inl hk), h.k1.touch t (n _ (.inr (.inr (.inl rfl)))), h.k3.touch t (n _ (.inr (.inr (.inr (.inl rfl))))), h.k4.touch t (n _ (.inr (.inr (.inr (.inr rfl))))), h.gr.touch t fun k hk => n k (.inr (.inl hk)), h.lt⟩
def ShPost (M b : Nat) (l : List UInt8) (w : World) (e : Ending) (w' : World) : Prop := e = .returned (.tuple #[]) ∧ BdM M b l w' ∧ Touch (fun k => k = b ∨ M ≤ k) w w'
set_option maxRecDepth 100000 in
set_option maxHeartbeats 4000000 in
theorem show_clo {M b b1 b3 b4 bt : Nat} {S F : Nat → Prop} {L : List Nd} {G : GramD} {vt vn vr : Value} {st : Int} (hL : Tr L) (hll : L.length ≤ 1000) (hN : ∀ s, (nameOf G s).toList.length ≤ 10000) : ∀ (f : Nat) (k : Int) (l : List UInt8) (w : World), 0 ≤ k → k < L.length → k.toNat < f → ShC M b b1 b3 b4 bt S F L G vt vn vr st w → BdM M b l w → l.length + (shoO G L k).length ≤ 50000000 →
  Calls Tryz.prog 32 #[.int .i64 k, .pointer (some ⟨b1, 0, none⟩), .pointer (some ⟨b, 0, none⟩), .pointer (some ⟨b3, 0, none⟩), .pointer (some ⟨b4, 0, none⟩)] w (ShPost M b (l ++ shoO G L k) w)
 | 0, k, l, w, _, _, hf, _, _, _ => absurd hf (by omega)
 | f + 1, k, l, w, g0, g1, hf, h, hb, hlen => by
  have ih := show_clo (M := M) (b := b) (b1 := b1) (b3 := b3) (b4 := b4) (bt := bt) (S := S) (F := F) (vt := vt) (vn := vn) (vr := vr) (st := st) hL hll hN f
  obtain ⟨v9, A, hML, hM⟩ := h.ar
  have hx := ndAt_of g0 g1
  obtain ⟨kn, rfl⟩ := Int.eq_ofNat_of_zero_le g0
  rw [← hML, List.getElem?_map, Int.toNat_natCast] at hx
  obtain ⟨p, hp, hpx⟩ := Option.map_eq_some_iff.1 hx
  obtain ⟨g9, c9, rfl, hS9, hg9, d0, d1, d2, d3, d4, d5, rk⟩ := hM.at_ hp
  have hxn := (List.getElem?_eq_some_iff.1 hp).1
  have p3 : w.cell? ⟨bt, 0, none⟩ = some (.slice (some ⟨g9, 0, none⟩) A.length c9) := hM.box.cell 0
  have p0 : w.cell? ⟨b1, 0, none⟩ = some (.pointer (some ⟨bt, 0, none⟩)) := h.k1.cell 0
  rw [hML] at hpx
  obtain ⟨A99, c99, h99, hcm1, hcm2⟩ := hM.shape
  injection h99 with h97 h98 h99
  subst h97 h99
  generalize A.length = n9 at *
  obtain ⟨Az, nz, cz, hz9, -⟩ := id rk
  rw [hz9] at d3 rk
  obtain ⟨x1, hx1⟩ : ∃ x, x = p.1 := ⟨_, rfl⟩
  rw [← hx1] at d0 d1 d2 d4 d5 rk hpx
  obtain ⟨xs, xl, xr, xk, xi, xb⟩ := x1
  simp only at d0 d1 d2 d4 d5 rk
  have hB2 := hb.2.1
  have al : Below w.heap.size w (w.alloc (.cells #[.int .i64 xs, .int .i64 xl, .int .i64 xr, .slice Az nz cz, .bool xi, .bool xb] 59)) := (Below.refl _ _).alloc (Nat.le_refl _) _
  obtain ⟨w1, hw1⟩ : ∃ x, x = w.alloc (.cells #[.int .i64 xs, .int .i64 xl, .int .i64 xr, .slice Az nz cz, .bool xi, .bool xb] 59) := ⟨_, rfl⟩
  have kx : Blk w1 w.heap.size 59 #[.int .i64 xs, .int .i64 xl, .int .i64 xr, .slice Az nz cz, .bool xi, .bool xb] := by rw [hw1]; exact Blk.new _ _ _
  have e1 := hw1.symm
  rw [e1] at al
  have t1 : Touch (fun k => k = b ∨ M ≤ k) w w1 := Touch.of_size al _
  have h1 := h.touch t1
  have hb1 := hb.below al
  have rk1 := rk.touch (Touch.of_size al (fun _ => False)) (fun _ _ c => c)
  obtain ⟨A1, c1, A2, c2, A3, c3, rfl, rfl, rfl, -⟩ := h.gr.slices
  have cN := gram_name h1.gr st xs
  have u0 : w1.cell? ⟨b3, 0, none⟩ = some (.slice A1 G.terms.length c1) := h1.k3.cell 0
  have u1 : w1.cell? ⟨b3, 1, none⟩ = some (.slice A2 G.nons.length c2) := h1.k3.cell 1
  have u2 : w1.cell? ⟨b3, 2, none⟩ = some (.slice A3 G.rules.length c3) := h1.k3.cell 2
  have u3 : w1.cell? ⟨b3, 3, none⟩ = some (.int .i64 st) := h1.k3.cell 3
  have y0 : w1.cell? ⟨w.heap.size, 0, none⟩ = some (.int .i64 xs) := kx.cell 0
  have y3 : w1.cell? ⟨w.heap.size, 3, none⟩ = some (.slice Az nz cz) := kx.cell 3
  have y4 : w1.cell? ⟨w.heap.size, 4, none⟩ = some (.bool xi) := kx.cell 4
  obtain ⟨nm, hnm⟩ : ∃ n, n = nameOf G xs := ⟨_, rfl⟩
  have hns := hN xs
  rw [← hnm] at cN hns
  rw [toList_len] at hns
  have hlt := h.lt
  clear hw1 hM hx hp hML hz9 hx1 hS9 hg9
  cases xi with
  | true =>
   have hsh : shoO G L (kn : Int) = nm.toList := by rw [shoO_leaf (by rw [← hpx]), ← hpx, hnm]
   rw [hsh] at hlen ⊢
   have Xih := hide ih
   have Xh1 := hide h1
   have Xhb1 := hide hb1
   have Xrk1 := hide rk1
   have XcN := hide cN
   have Xkx := hide kx
   have Xt1 := hide t1
   have Xal := hide al
   have XhL := hide hL
   have XhN := hide hN
   clear ih h1 hb1 rk1 cN kx t1 al hL hN
   clear h hb hsh hpx hnm rk hlt
   go_enter Tryz.func32, Tryz.ntmps32
   go_wp2_with fail
   refine XcN.out.mono ?_
   rintro e w2 ⟨rfl, b2⟩
   have hb2 := Xhb1.out.below b2
   have t2 := Xt1.out.trans' (Touch.of_size b2 _)
   have cT := bd_text hb2 (by omega) nm (by omega)
   clear XcN b2
   have Xhb2 := hide hb2
   have Xt2 := hide t2
   have XcT := hide cT
   clear hb2 t2 cT
   go_wp2_with fail
   refine XcT.out.mono ?_
   rintro e w3 ⟨rfl, b3', t3, -⟩
   have t4 := Xt2.out.trans' t3
   clear XcT t3
   have Xb3' := hide b3'
   have Xt4 := hide t4
   clear b3' t4
   go_wp2_with fail
   go_end0
   exact ⟨rfl, Xb3'.out, Xt4.out⟩
  | false =>
   have hsh : shoO G L (kn : Int) = (40 :: nm.toList) ++ (xk.flatMap fun k => 32 :: shoO G L k) ++ [41] := by rw [shoO_join hL (by rw [← hpx]), ← hpx, hnm]
   have hkd : ∀ k ∈ xk, 0 ≤ k ∧ k < L.length ∧ k.toNat < f := fun k hk => by
    have : k ∈ (ndAt L (kn : Int)).kids := by rw [← hpx]; exact hk
    have := hL.kid this
    exact ⟨this.1, by omega, by omega⟩
   rw [hsh] at hlen ⊢
   simp only [List.length_append, List.length_cons, List.length_nil] at hlen
   have hb1' := hb.1
   obtain ⟨pb, hpb⟩ : ∃ q, q = l ++ 40 :: nm.toList := ⟨_, rfl⟩
   have hpbl : pb.length + (xk.flatMap fun k => 32 :: shoO G L k).length + 1 ≤ 50000000 := by rw [hpb, List.length_append, List.length_cons]; omega
   have hend : l ++ ((40 :: nm.toList) ++ (xk.flatMap fun k => 32 :: shoO G L k) ++ [41]) = pb ++ (xk.flatMap fun k => 32 :: shoO G L k) ++ [41] := by rw [hpb]; simp
   have hnk : nz = xk.length := (RdI.at_ rk).1
   rw [hend]
   have Xih := hide ih
   have Xh1 := hide h1
   have Xhb1 := hide hb1
   have Xrk := hide rk
   have XcN := hide cN
   have Xkx := hide kx
   have Xt1 := hide t1
   have Xal := hide al
   have XhL := hide hL
   have XhN := hide hN
   have Xhkd := hide hkd
   have Xhlt := hide hlt
   have Xh := hide h
   have Xhpb := hide hpb
   have Xhnk := hide hnk
   have Xhend := hide hend
   clear ih h1 hb1 rk cN kx t1 al hL hN hkd hlt h hpb hnk hend
   clear hb hsh hpx hnm rk1
   go_enter Tryz.func32, Tryz.ntmps32
   go_wp2_with fail
   refine XcN.out.mono ?_
   rintro e w2 ⟨rfl, b2⟩
   have hb2 := Xhb1.out.below b2
   have t2 := Xt1.out.trans' (Touch.of_size b2 _)
   have kx2 := Xkx.out.below b2 Xkx.out.lt
   have htl : ((⟨#[40]⟩ : ByteArray) ++ nm).toList = 40 :: nm.toList := by rw [ByteArray.toList_eq, ByteArray.toList_eq]; simp
   have hsz : ((⟨#[40]⟩ : ByteArray) ++ nm).size = nm.size + 1 := by simp; exact Nat.add_comm _ _
   have cT := bd_text hb2 (by rw [toList_len] at hlen; omega) (⟨#[40]⟩ ++ nm) (by rw [hsz]; omega)
   rw [htl, ← Xhpb.out] at cT
   clear XcN b2 Xh1 Xhb1 Xkx Xal Xt1 hb2 htl hsz
   have Xt2 := hide t2
   have Xkx2 := hide kx2
   have XcT := hide cT
   clear t2 kx2 cT
   go_wp2_with fail
   refine XcT.out.mono ?_
   rintro e w3 ⟨rfl, bd3, t3, hO⟩
   have kx3 := hO _ _ _ (by decide) (by omega) Xkx2.out
   have t4 := Xt2.out.trans' t3
   have y3 : w3.cell? ⟨w.heap.size, 3, none⟩ = some (.slice Az nz cz) := kx3.cell 3
   clear XcT t3 hO Xkx2 Xt2 y0 y4 u0 u1 u2 u3 d0 d1 d2 d3 d4 d5 p0 p3 kx3
   have Xbd3 := hide bd3
   have Xt4 := hide t4
   clear bd3 t4
   go_wp2_with fail
   go_loopw [35] (fun iv wr => ∃ j : Nat, j ≤ nz ∧ iv = .int .i64 (j : Int) ∧ BdM M b (pb ++ (xk.take j).flatMap fun k => 32 :: shoO G L k) wr ∧ Touch (fun k => k = b ∨ M ≤ k) w wr) (fun iv _ => nz - (intOf iv).toNat)
   case atStart => exact ⟨0, Nat.zero_le _, rfl, by simpa using Xbd3.out, Xt4.out⟩
   case round =>
    clear y3 Xbd3 Xt4
    obtain ⟨j, hj, rfl, bd, t5⟩ := hrel
    have hw := Xh.out.touch t5
    have hspl : ((xk.take j).flatMap fun k => 32 :: shoO G L k).length ≤ (xk.flatMap fun k => 32 :: shoO G L k).length := by
     conv => rhs; rw [← List.take_append_drop j xk, List.flatMap_append, List.length_append]
     omega
    by_cases hlj : j < nz
    ·have hlj' : (j : Int) < (nz : Int) := by omega
     obtain ⟨kj, hkj⟩ : ∃ x, xk[j]? = some x := ⟨_, List.getElem?_eq_getElem (by rw [← Xhnk.out]; exact hlj)⟩
     have rk5 := Rd.touch Xrk.out t5 (fun q hq c => by have := Xhlt.out q (.inl hq.1); omega)
     obtain ⟨-, hncz, hmcz, hcell⟩ := RdI.at_ rk5
     unfold maxLen at hmcz
     obtain ⟨bz, oz, rfl, -, hcc⟩ := hcell (by omega)
     have hcx := hcc j kj hkj
     obtain ⟨v0, v1, v2⟩ := Xhkd.out kj (List.mem_of_getElem? hkj)
     have htk : (xk.take (j + 1)).flatMap (fun k => 32 :: shoO G L k) = (xk.take j).flatMap (fun k => 32 :: shoO G L k) ++ (32 :: shoO G L kj) := by
      rw [List.take_add_one, hkj, List.flatMap_append]; simp
     have hspl2 : ((xk.take (j + 1)).flatMap fun k => 32 :: shoO G L k).length ≤ (xk.flatMap fun k => 32 :: shoO G L k).length := by
      conv => rhs; rw [← List.take_append_drop (j + 1) xk, List.flatMap_append, List.length_append]
      omega
     rw [htk, List.length_append, List.length_cons] at hspl2
     have cB := bd_byte bd (by rw [List.length_append]; omega) 32
     clear hcc hcell rk5 bd
     have XcB := hide cB
     have Xt5 := hide t5
     have Xhw := hide hw
     have Xhtk := hide htk
     clear cB t5 hw htk
     go_wp2_with fail
     refine XcB.out.mono ?_
     rintro e w6 ⟨rfl, bd6, t6⟩
     have hw6 := Xhw.out.touch t6
     have z4 : w6.cell? ⟨b4, 0, none⟩ = some (.func (.func 32) #[] #[.pointer (some ⟨b1, 0, none⟩), .pointer (some ⟨b, 0, none⟩), .pointer (some ⟨b3, 0, none⟩), .pointer (some ⟨b4, 0, none⟩)]) := hw6.k4.cell 0
     have t56 := Xt5.out.trans' t6
     have cR := Xih.out kj _ w6 v0 v1 v2 hw6 bd6 (by rw [List.length_append, List.length_append, List.length_singleton]; omega)
     have e7 : pb ++ (xk.take j).flatMap (fun k => 32 :: shoO G L k) ++ [32] ++ shoO G L kj = pb ++ (xk.take (j + 1)).flatMap (fun k => 32 :: shoO G L k) := by rw [Xhtk.out]; simp
     rw [e7] at cR
     clear XcB t6 hw6 bd6 Xhw Xt5 Xhtk e7
     have XcR := hide cR
     have Xt56 := hide t56
     clear cR t56
     go_wp2_with fail
     refine XcR.out.mono ?_
     rintro e w7 ⟨rfl, bd7, t7⟩
     have t57 := Xt56.out.trans' t7
     clear XcR t7 Xt56
     have Xbd7 := hide bd7
     have Xt57 := hide t57
     clear bd7 t57
     go_wp2_with fail
     go_roundw
     case rel => exact ⟨j + 1, by omega, by go_num, Xbd7.out, Xt57.out⟩
     case measure => simp [intOf]; omega
    ·have hlj' : ¬ (j : Int) < (nz : Int) := by omega
     have hall : xk.take j = xk := List.take_of_length_le (by have := Xhnk.out; omega)
     rw [hall] at bd
     have cB := bd_byte bd (by rw [List.length_append]; omega) 41
     clear bd hw hall
     have XcB := hide cB
     have Xt5 := hide t5
     clear cB t5
     go_wp2_with fail
     refine XcB.out.mono ?_
     rintro e w6 ⟨rfl, bd6, t6⟩
     have t56 := Xt5.out.trans' t6
     clear XcB t6 Xt5
     have Xbd6 := hide bd6
     have Xt56 := hide t56
     clear bd6 t56
     go_wp2_with fail
     go_end0
     exact ⟨rfl, Xbd6.out, Xt56.out⟩
end Go.Proofs.YtacankgalkffmaaGreat

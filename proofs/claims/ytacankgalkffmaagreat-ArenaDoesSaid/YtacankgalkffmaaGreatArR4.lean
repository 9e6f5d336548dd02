/- The reference's tree: the leaves' places, Leaves, Yield. -/
import Derived.Test.YtacankgalkffmaaGreatArR3
namespace Go.Proofs.YtacankgalkffmaaGreat
set_option linter.unusedVariables false
set_option linter.unusedSimpArgs false
open Go.RowKit
attribute [local irreducible] wpStill wpOne wpPh
theorem own_newA (w : World) (e : TypeId) (size : Nat) (us : List Value) (h : us.length = size) : World.ownsRow (w.alloc (.cells us.toArray e)) w.heap.size e size (.slice (some ⟨w.heap.size, 0, none⟩) 1 1) 1 us := by
 refine ⟨by rw [h, Nat.one_mul], .inr ⟨w.heap.size, 1, us.toArray, rfl, Nat.le_refl _, heap_alloc_new w _, Nat.le_refl _, by decide, by simp [h], ?_⟩⟩
 rw [Nat.one_mul, ← h]
 simp
theorem plcO_len {L : List Nd} (h : Tr L) {i : Int} (h0 : 0 ≤ i) (h1 : i < L.length) : (plcO L i).length ≤ L.length := Nat.le_trans (List.length_filter_le _ _) (h.wt i h0 h1)
theorem flat_take {α β : Type} (f : α → List β) (l : List α) (k : Nat) : ((l.take k).flatMap f).length ≤ (l.flatMap f).length := by
 conv => rhs; rw [← List.take_append_drop k l, List.flatMap_append, List.length_append]
 omega
theorem plcO_kid {L : List Nd} (h : Tr L) {i k : Int} (h1 : i < L.length) (hk : k ∈ (ndAt L i).kids) : plcI L k = plcO L k := by
 have := h.kid hk
 unfold plcI
 rw [if_pos (inN_iff.2 ⟨this.1, by omega⟩)]
section
variable {w w' : World} {bt : Nat} {S F : Nat → Prop} {L : List Nd}
set_option maxHeartbeats 2000000 in
set_option maxRecDepth 100000 in
theorem ref19_places (hL : Tr L) (hl : L.length ≤ 100000) : ∀ (f : Nat) (i : Int) (w : World), i.toNat < f → RAr w bt S L → Calls Tryz.prog 46 #[.pointer (some ⟨bt, 0, none⟩), .int .i64 i] w (IntsPost w (plcI L i))
 | 0, i, w, hf, h => absurd hf (by omega)
 | f + 1, i, w, hf, hr => by
  have cI := ref19_in hr i
  by_cases hi : inN L.length i = true
  ·obtain ⟨g0, g1⟩ := inN_iff.1 hi
   have hpl : plcI L i = plcO L i := by unfold plcI; rw [if_pos hi]
   rw [hi] at cI
   rw [hpl]
   obtain ⟨v, iv, bv, M, hML, h⟩ := id hr
   have hlen := RAr.len hML
   obtain ⟨n, hn⟩ : ∃ n, n = L.length := ⟨_, rfl⟩
   have hli : (L.map Nd.il).length = n := by rw [List.length_map]; exact hn.symm
   obtain ⟨pb, hpb⟩ : ∃ pb, (L.map Nd.il)[i.toNat]? = some pb := ⟨_, List.getElem?_eq_getElem (by rw [hli]; omega)⟩
   obtain ⟨gi, ci, rfl, hci, -⟩ := own_bool h.owi hpb
   rw [hli] at h
   have hil : (ndAt L i).il = pb := by
    have e : ((i.toNat : Nat) : Int) = i := by omega
    rw [List.getElem?_map] at hpb
    obtain ⟨y, hy, hyx⟩ := Option.map_eq_some_iff.1 hpb
    rw [← e, ndAt_get hy]; exact hyx
   rw [← hn] at g1 hl
   have hb1 : w.cell? ⟨bt, 1, none⟩ = some (.slice (some ⟨gi, 0, none⟩) n ci) := h.box.cell 1
   cases pb with
   | true =>
    have hp1 := plcO_leaf hL g0 (by rw [← hn]; exact g1) hil
    have hnw := own_newA w 3 1 [.int .i64 i] rfl
    clear hpb hil h hML hlen hpl
    rw [hp1]
    have XcI := hide cI
    have Xhr := hide hr
    have Xhn := hide hn
    have Xhli := hide hli
    have Xhp1 := hide hp1
    have Xhnw := hide hnw
    clear cI hr hn hli hp1 hnw
    go_enter Tryz.func46, Tryz.ntmps46
    go_wp2_with fail
    refine XcI.out.mono ?_
    rintro e w' ⟨rfl, rfl⟩
    clear XcI
    go_wp2_with fail
    go_ret
    exact ⟨(Below.refl _ _).alloc (Nat.le_refl _) _, _, _, rfl, Xhnw.out⟩
   | false =>
    have hpj := plcO_join hL hil
    have hpt := fun k => flat_take (plcO L) (ndAt L i).kids k
    have hpm := plcO_len hL g0 (by rw [← hn]; exact g1)
    rw [← hn] at hpm
    obtain ⟨p, hp, -, -, -, ek⟩ := tnX_at hML hi
    obtain ⟨g, c, rfl, -, -, -, c3, rk⟩ := h.at_ hp
    rw [ek] at rk
    rw [hlen, ← hn] at h
    have hkid := fun k (hk : k ∈ (ndAt L i).kids) => hL.kid hk
    have hpk := fun k (hk : k ∈ (ndAt L i).kids) => plcO_kid hL (by rw [← hn]; exact g1) hk
    generalize (ndAt L i).kids = kids at *
    obtain ⟨⟨ps, pl, pr, pk, pi, pb⟩, z⟩ := p
    simp only at c3 rk
    clear ek hp
    obtain ⟨Az, nz, cz, rfl, -⟩ := id rk
    obtain ⟨hnz, hncz, hcz, -⟩ := RdI.at_ rk
    unfold maxLen at hcz
    have hF := hr.lt
    have IH := fun k (hk : k ∈ kids) wr hr' => ref19_places hL (by rw [← hn]; exact hl) f k wr (by have := hkid k hk; omega) hr'
    rw [hpj]
    rw [hpj] at hpm
    clear hpb hil hML hlen hpl hpj
    have XcI := hide cI
    have Xhr := hide hr
    have Xhn := hide hn
    have Xhli := hide hli
    have Xhpt := hide hpt
    have Xhpm := hide hpm
    have Xhkid := hide hkid
    have Xhpk := hide hpk
    have Xh := hide h
    have Xrk := hide rk
    have Xhnz := hide hnz
    have XIH := hide IH
    have XhF := hide hF
    clear cI hr hn hli hpt hpm hkid hpk h rk hnz IH hF
    go_enter Tryz.func46, Tryz.ntmps46
    go_wp2_with fail
    refine XcI.out.mono ?_
    rintro e w' ⟨rfl, rfl⟩
    clear XcI
    go_wp2_with fail
    go_loopw [5, 6] (fun ov iv wr => ∃ (k : Nat) (B : Option Addr) (m d : Nat), k ≤ nz ∧ iv = .int .i64 (k : Int) ∧ ov = .slice B m d ∧ m = ((kids.take k).flatMap (plcO L)).length ∧ wr.ownsRow w.heap.size 3 1 (.slice B m d) m (((kids.take k).flatMap (plcO L)).map (Value.int .i64)) ∧ Below w.heap.size w wr) (fun _ iv _ => nz - (intOf iv).toNat)
    case atStart => exact ⟨0, none, 0, 0, Nat.zero_le _, rfl, rfl, by simp, by rw [List.take_zero]; exact World.ownsRow_nil _ _ _ _, Below.refl _ _⟩
    case round =>
     obtain ⟨k, B, m, d, hk, rfl, rfl, hm, own0, le⟩ := hrel
     have h1 := Xh.out.below le
     have hb0 : wr.cell? ⟨bt, 0, none⟩ = some (.slice (some ⟨g, 0, none⟩) n c) := h1.box.cell 0
     have hc3 := upA_cell le c3
     have hk1 := Rd.touch Xrk.out (Touch.of_size le (fun _ => False)) (fun _ _ c => c)
     obtain ⟨-, -, -, hcell⟩ := RdI.at_ hk1
     have hml := Xhpt.out k
     rw [← hm] at hml
     have hpm := Xhpm.out
     by_cases hlt : k < nz
     ·have hlt' : (k : Int) < (nz : Int) := by omega
      obtain ⟨b, off, rfl, hFb, hcc⟩ := hcell (by omega)
      obtain ⟨x, hx⟩ : ∃ x, kids[k]? = some x := ⟨_, List.getElem?_eq_getElem (by rw [← Xhnz.out]; exact hlt)⟩
      have hcx := hcc k x hx
      have hxm := List.mem_of_getElem? hx
      have cP := XIH.out x hxm wr (Xhr.out.below le)
      rw [Xhpk.out x hxm] at cP
      have hs : (kids.take (k + 1)).flatMap (plcO L) = (kids.take k).flatMap (plcO L) ++ plcO L x := by rw [List.take_add_one, hx, List.flatMap_append]; simp
      have hm2 := Xhpt.out (k + 1)
      rw [hs, List.length_append, ← hm] at hm2
      obtain ⟨q, hq⟩ : ∃ q, q = (plcO L x).length := ⟨_, rfl⟩
      rw [← hq] at hm2
      have hm2 : m + q ≤ n := Nat.le_trans hm2 hpm
      unfold IntsPost at cP
      rw [← hq] at cP
      have hz := le.size
      clear h1 hk1 hcell hcc hx hxm hpm hml
      have XcP := hide cP
      have Xhs := hide hs
      have Xhm := hide hm
      have Xown0 := hide own0
      have Xle := hide le
      have Xhq := hide hq
      have Xhz := hide hz
      clear cP hs hm own0 le hq hz
      go_wp2_with fail
      refine XcP.out.mono ?_
      rintro e w2 ⟨b2, A2, c2, rfl, own2⟩
      have own1 := own_below' Xown0.out b2
      have le2 := Xle.out.trans (b2.mono Xhz.out)
      have hsz := Nat.le_trans Xhz.out b2.size
      have r2 := Rd.of_own own2
      clear XcP own2
      have Xown1 := hide own1
      have Xle2 := hide le2
      have Xr2 := hide r2
      have Xb2 := hide b2
      clear own1 le2 r2 b2
      have HN : ((plcO L x).map (Value.int .i64)).length = q * 1 := by rw [List.length_map, Nat.mul_one]; exact Xhq.out.symm
      have XHN := hide HN
      clear HN
      go_wp2_with (at_builtin; refine wp_append _ rfl (.tmp 33) (.tmp 46) _ rfl Tryz.elemInt w.heap.size (.slice B m d) m _ rfl Xown1.out _ _ ((plcO L x).map (Value.int .i64)) q rfl XHN.out Xr2.out (ints_one _) (by unfold maxLen; omega) (by omega) hsz ?_)
      intro A4 c4 w4 own4 g4 ho4
      have b4 : Below w.heap.size w w4 := Xle2.out.trans ((Touch.refl (fun k => (Value.slice B m d).ownBlock = some k) _).grown g4 (fun k e _ => e) |>.below (fun k hk _ e => by have := (Xown0.out.lt k e).1; omega) hsz)
      have he : ((kids.take k).flatMap (plcO L)).map (Value.int .i64) ++ (plcO L x).map (Value.int .i64) = ((kids.take (k + 1)).flatMap (plcO L)).map (Value.int .i64) := by rw [Xhs.out, List.map_append]
      rw [he] at own4
      have hm4 : m + q = ((kids.take (k + 1)).flatMap (plcO L)).length := by rw [Xhs.out, List.length_append, ← Xhm.out, ← Xhq.out]
      clear Xown0 Xown1 Xle Xle2 Xr2 g4 ho4 Xhm Xhs Xhz hsz Xb2 XHN Xhq
      have Xown4 := hide own4
      have Xb4 := hide b4
      have Xhm4 := hide hm4
      clear own4 b4 hm4
      go_wp2_with fail
      go_roundw
      case rel => exact ⟨k + 1, A4, m + q, c4, by omega, by go_num, rfl, Xhm4.out, Xown4.out, Xb4.out⟩
      case measure => simp [intOf]; omega
     ·have hlt' : ¬ (k : Int) < (nz : Int) := by omega
      have hall : kids.take k = kids := List.take_of_length_le (by have := Xhnz.out; omega)
      rw [hall] at hm own0
      have hfin : IntsPost w (kids.flatMap (plcO L)) (.returned (.slice B m d)) wr := ⟨le, B, d, by rw [← hm], by rw [← hm]; exact own0⟩
      clear hm own0 le hall h1 hk1 hcell hml hpm
      have Xhfin := hide hfin
      clear hfin
      go_wp2_with fail
      go_ret
      exact Xhfin.out
  ·have hi : inN L.length i = false := by simpa using hi
   have hpl : plcI L i = [] := by unfold plcI; rw [hi]; rfl
   rw [hi] at cI
   rw [hpl]
   have XcI := hide cI
   have Xhr := hide hr
   have Xhpl := hide hpl
   clear cI hr hpl
   go_enter Tryz.func46, Tryz.ntmps46
   go_wp2_with fail
   refine XcI.out.mono ?_
   rintro e w' ⟨rfl, rfl⟩
   clear XcI
   go_wp2_with fail
   go_ret
   exact ⟨Below.refl _ _, none, 0, rfl, World.ownsRow_nil _ _ _ _⟩
set_option maxRecDepth 100000 in
theorem ref19_Leaves (hL : Tr L) (hl : L.length ≤ 100000) (hr : RAr w bt S L) (i : Int) : Calls Tryz.prog 19 #[.pointer (some ⟨bt, 0, none⟩), .int .i64 i] w (IntsPost w (numsO L i)) := by
 have cP := ref19_places hL hl (i.toNat + 1) i w (Nat.lt_succ_self _) hr
 have hO : numsO L i = (plcI L i).map fun k => (ndAt L k).leaf := rfl
 have hin : ∀ k ∈ plcI L i, inN L.length k = true := fun k hk => by
  unfold plcI at hk
  split at hk
  ·rename_i hi
   obtain ⟨g0, g1⟩ := inN_iff.1 hi
   have := preO_lt hL.acyc g0 (List.mem_filter.1 hk).1
   exact inN_iff.2 ⟨this.1, by omega⟩
  ·cases hk
 have hpl : (plcI L i).length ≤ L.length := by
  unfold plcI
  split
  ·rename_i hi
   obtain ⟨g0, g1⟩ := inN_iff.1 hi
   exact plcO_len hL g0 g1
  ·exact Nat.zero_le _
 rw [hO]
 clear hO
 obtain ⟨v, iv, bv, M, hML, h⟩ := id hr
 have hlen := RAr.len hML
 obtain ⟨A, c, rfl, hc, hm⟩ := own_shape63 h.own
 obtain ⟨n, hn⟩ : ∃ n, n = L.length := ⟨_, rfl⟩
 rw [hlen, ← hn] at h hc
 rw [← hn] at hl hpl
 generalize plcI L i = l at *
 obtain ⟨q, hq⟩ : ∃ q, q = l.length := ⟨_, rfl⟩
 unfold IntsPost at cP
 rw [← hq] at cP hpl
 have XcP := hide cP
 have Xhr := hide hr
 have Xhn := hide hn
 have Xh := hide h
 have Xhlen := hide hlen
 have XhML := hide hML
 have Xhin := hide hin
 have Xhq := hide hq
 clear cP hr hn h hlen hML hin hq
 go_enter Tryz.func19, Tryz.ntmps19
 go_wp2_with fail
 refine XcP.out.mono ?_
 rintro e w1 ⟨b1, A1, c1, rfl, own1⟩
 have r1 := Rd.of_own own1
 have h1 := Xh.out.below b1
 have hz1 := b1.size
 clear XcP own1
 obtain ⟨hq1, hqc, hcm, -⟩ := RdI.at_ r1
 unfold maxLen at hcm
 have Xr1 := hide r1
 have Xh1 := hide h1
 have Xb1 := hide b1
 have Xhz1 := hide hz1
 have Xhq1 := hide hq1
 clear r1 h1 b1 hz1 hq1
 go_wp2_with fail
 go_loopw [5, 7] (fun ov iv wr => ∃ (k : Nat) (B : Option Addr) (m d : Nat), k ≤ q ∧ iv = .int .i64 (k : Int) ∧ ov = .slice B m d ∧ m = k ∧ wr.ownsRow w1.heap.size 3 1 (.slice B m d) m (((l.take k).map fun k => (ndAt L k).leaf).map (Value.int .i64)) ∧ Below w1.heap.size w1 wr) (fun _ iv _ => q - (intOf iv).toNat)
 case atStart => exact ⟨0, none, 0, 0, Nat.zero_le _, rfl, rfl, rfl, by rw [List.take_zero]; exact World.ownsRow_nil _ _ _ _, Below.refl _ _⟩
 case round =>
  obtain ⟨k, B, m, d, hk, rfl, rfl, rfl, own0, le⟩ := hrel
  by_cases hlt : m < q
  ·have hlt' : (m : Int) < (q : Int) := by omega
   have h2 := Xh1.out
   have hb0 : w1.cell? ⟨bt, 0, none⟩ = some (.slice A n c) := h2.box.cell 0
   obtain ⟨-, -, -, hcell⟩ := RdI.at_ Xr1.out
   obtain ⟨b, off, rfl, hFb, hcc⟩ := hcell (by omega)
   obtain ⟨x, hx⟩ : ∃ x, l[m]? = some x := ⟨_, List.getElem?_eq_getElem (by rw [← Xhq.out]; exact hlt)⟩
   have hcx := hcc m x hx
   have hxi := Xhin.out x (List.mem_of_getElem? hx)
   obtain ⟨g0, g1⟩ := inN_iff.1 hxi
   rw [← Xhn.out] at g1
   obtain ⟨p, hp, es, el, -, -⟩ := tnX_at XhML.out hxi
   obtain ⟨g, c', hv, p0, p1, -, -, -⟩ := h2.at_ hp
   rw [Xhlen.out, ← Xhn.out] at hv
   injection hv with hv1 _ hv3
   subst hv1 hv3
   rw [es] at p0
   rw [el] at p1
   have hs : (l.take (m + 1)).map (fun k => (ndAt L k).leaf) = (l.take m).map (fun k => (ndAt L k).leaf) ++ [(ndAt L x).leaf] := by rw [List.take_add_one, hx, List.map_append]; rfl
   generalize (ndAt L x).leaf = xl at *
   generalize (ndAt L x).sym = xs at *
   have hS : ∀ W, Below w1.heap.size w1 W → W.cell? ⟨bt, 0, none⟩ = some (.slice (some ⟨g, 0, none⟩) n c) ∧ W.cell? ⟨b, off + m, none⟩ = some (.int .i64 x) ∧ W.cell? ⟨g, x.toNat * 4 + 1, none⟩ = some (.int .i64 xl) := fun W b => ⟨upA_cell b hb0, upA_cell b hcx, upA_cell b p1⟩
   have SS := hS wr.drew le.drew
   clear h2 hcell hcc hx hxi hp es el hb0 hcx p0 p1
   have zw := le.size
   have Xhs := hide hs
   have Xown0 := hide own0
   have Xle := hide le
   have XhS := hide hS
   clear hs own0 le hS
   go_wp2_with fail
   refine region_late (fun W => W.cell? ⟨bt, 0, none⟩ = some (.slice (some ⟨g, 0, none⟩) n c) ∧ W.cell? ⟨b, off + m, none⟩ = some (.int .i64 x) ∧ W.cell? ⟨g, x.toNat * 4 + 1, none⟩ = some (.int .i64 xl)) 12 14 (by kernel_rfl) (by kernel_rfl) SS ?_
   simp only [List.take_succ_cons, List.take_zero, List.drop_succ_cons, List.drop_zero]
   refine wpHeld_cons ?_ (by rfl) (fun wS hwS => ?_) ?_
   rotate_left
   ·(try dsimp only at hwS)
    go_simp
    all_goals with_reducible rfl
   simp only [Act.put, List.setIfInBounds_toArray, List.set_cons_zero, List.set_cons_succ]
   refine wpHeld_cons ?_ (by rfl) (fun wS hwS => ?_) ?_
   rotate_left
   ·(try dsimp only at hwS)
    go_simp
    all_goals with_reducible rfl
   simp only [Act.put, List.setIfInBounds_toArray, List.set_cons_zero, List.set_cons_succ]
   refine wpHeld_cons ?_ (by rfl) (fun wS hwS => ?_) ?_
   rotate_left
   ·(try dsimp only at hwS)
    go_simp
    all_goals with_reducible rfl
   simp only [Act.put, List.setIfInBounds_toArray, List.set_cons_zero, List.set_cons_succ]
   refine wpHeld_cons ?_ (by rfl) (fun wS hwS => ?_) ?_
   rotate_left
   ·(try dsimp only at hwS)
    go_simp
    all_goals with_reducible rfl
   simp only [Act.put, List.setIfInBounds_toArray, List.set_cons_zero, List.set_cons_succ]
   refine wpHeld_cons ?_ (by rfl) (fun wS hwS => ?_) ?_
   rotate_left
   ·(try dsimp only at hwS)
    go_simp
    all_goals with_reducible rfl
   simp only [Act.put, List.setIfInBounds_toArray, List.set_cons_zero, List.set_cons_succ]
   refine wpHeld_cons ?_ (by rfl) (fun wS hwS => ?_) ?_
   rotate_left
   ·(try dsimp only at hwS)
    go_simp
    all_goals with_reducible rfl
   simp only [Act.put, List.setIfInBounds_toArray, List.set_cons_zero, List.set_cons_succ]
   refine wpHeld_cons ?_ (by rfl) (fun wS hwS => ?_) ?_
   rotate_left
   ·(try dsimp only at hwS)
    go_simp
    all_goals with_reducible rfl
   simp only [Act.put, List.setIfInBounds_toArray, List.set_cons_zero, List.set_cons_succ]
   refine wpHeld_cons ?_ (by rfl) (fun wS hwS => ?_) ?_
   rotate_left
   ·(try dsimp only at hwS)
    go_simp
    all_goals with_reducible rfl
   simp only [Act.put, List.setIfInBounds_toArray, List.set_cons_zero, List.set_cons_succ]
   refine wpHeld_cons ?_ (by rfl) (fun wS hwS => ?_) ?_
   rotate_left
   ·(try dsimp only at hwS)
    go_simp
    all_goals with_reducible rfl
   simp only [Act.put, List.setIfInBounds_toArray, List.set_cons_zero, List.set_cons_succ]
   refine wpHeld_cons ?_ (by rfl) (fun wS hwS => ?_) ?_
   rotate_left
   ·(try dsimp only at hwS)
    go_simp
    all_goals with_reducible rfl
   simp only [Act.put, List.setIfInBounds_toArray, List.set_cons_zero, List.set_cons_succ]
   refine wpHeld_cons ?_ (by rfl) (fun wS hwS => ?_) ?_
   rotate_left
   ·(try dsimp only at hwS)
    go_simp
    all_goals with_reducible rfl
   simp only [Act.put, List.setIfInBounds_toArray, List.set_cons_zero, List.set_cons_succ]
   refine wpHeld_cons ?_ (by rfl) (fun wS hwS => ?_) ?_
   rotate_left
   ·(try dsimp only at hwS)
    go_simp
    all_goals with_reducible rfl
   simp only [Act.put, List.setIfInBounds_toArray, List.set_cons_zero, List.set_cons_succ]
   refine wpHeld_nil ?_
   refine wpMid_cons ?_
   go_wp2_with fail
   have own1 := own_below' Xown0.out (((Below.refl wr.heap.size wr).drew).alloc (Nat.le_refl _) (.cells #[.int .i64 xl] 3))
   have rone : Rd (wr.drew.alloc (.cells #[.int .i64 xl] 3)) (fun _ => True) (.slice (some ⟨wr.heap.size, 0, none⟩) 1 1) 1 ([xl].map (Value.int .i64)) := Rd.one (w := wr.drew) (e := 3) ([xl].map (Value.int .i64)) 1 rfl
   have le2 : Below w1.heap.size w1 (wr.drew.alloc (.cells #[.int .i64 xl] 3)) := Xle.out.drew.alloc zw _
   have hsz : w1.heap.size ≤ (wr.drew.alloc (.cells #[.int .i64 xl] 3)).heap.size := le2.size
   clear SS
   have Xown1 := hide own1
   have Xrone := hide rone
   have Xle2 := hide le2
   clear own1 rone le2
   refine ⟨XhS.out _ Xle2.out, wpMid_cons ?_⟩
   go_wp2_with (at_builtin; refine wp_append _ rfl (.tmp 17) (.tmp 29) _ rfl Tryz.elemInt w1.heap.size (.slice B m d) m _ rfl Xown1.out _ _ ([xl].map (Value.int .i64)) 1 rfl rfl Xrone.out (ints_one [xl]) (by unfold maxLen; omega) (by omega) hsz ?_)
   intro A4 c4 w4 own4 g4 ho4
   have b4 : Below w1.heap.size w1 w4 := Xle2.out.trans ((Touch.refl (fun k => (Value.slice B m d).ownBlock = some k) _).grown g4 (fun k e _ => e) |>.below (fun k hk _ e => by have := (Xown0.out.lt k e).1; omega) hsz)
   have he : ((l.take m).map fun k => (ndAt L k).leaf).map (Value.int .i64) ++ [xl].map (Value.int .i64) = ((l.take (m + 1)).map fun k => (ndAt L k).leaf).map (Value.int .i64) := by rw [Xhs.out, List.map_append]
   have own4' : w4.ownsRow w1.heap.size 3 1 (.slice A4 (m + 1) c4) (m + 1) (((l.take (m + 1)).map fun k => (ndAt L k).leaf).map (Value.int .i64)) := by rw [← he]; simpa using own4
   have S4 := XhS.out _ b4
   clear Xown0 Xown1 Xle Xle2 Xrone g4 ho4 Xhs hsz own4 zw he
   have Xown4' := hide own4'
   have Xb4 := hide b4
   clear own4' b4
   refine ⟨S4, wpMid_nil ?_⟩
   go_wp2_with fail
   refine NoPanic.normal ?_
   go_wp2_with fail
   go_roundw
   case rel => exact ⟨m + 1, A4, m + 1, c4, by omega, by go_num, rfl, rfl, Xown4'.out, Xb4.out⟩
   case measure => simp [intOf]; omega
  ·have hlt' : ¬ (m : Int) < (q : Int) := by omega
   have hall : l.take m = l := List.take_of_length_le (by have := Xhq.out; omega)
   have hmq : m = q := by omega
   rw [hall] at own0
   have hfin : IntsPost w (l.map fun k => (ndAt L k).leaf) (.returned (.slice B m d)) wr := by
    refine ⟨Xb1.out.trans (le.mono Xhz1.out), B, d, ?_, ?_⟩
    ·rw [List.length_map, ← Xhq.out, hmq]
    ·rw [List.length_map, ← Xhq.out, ← hmq]
     exact ownsRow_base own0 fun k e => Nat.le_trans Xhz1.out (own0.lt k e).1
   clear own0 le hall hmq
   have Xhfin := hide hfin
   clear hfin
   go_wp2_with fail
   go_ret
   exact Xhfin.out
set_option maxRecDepth 100000 in
theorem ref19_Yield (hL : Tr L) (hl : L.length ≤ 100000) (hr : RAr w bt S L) (i : Int) : Calls Tryz.prog 23 #[.pointer (some ⟨bt, 0, none⟩), .int .i64 i] w (IntsPost w (symsO L i)) := by
 have cP := ref19_places hL hl (i.toNat + 1) i w (Nat.lt_succ_self _) hr
 have hO : symsO L i = (plcI L i).map fun k => (ndAt L k).sym := rfl
 have hin : ∀ k ∈ plcI L i, inN L.length k = true := fun k hk => by
  unfold plcI at hk
  split at hk
  ·rename_i hi
   obtain ⟨g0, g1⟩ := inN_iff.1 hi
   have := preO_lt hL.acyc g0 (List.mem_filter.1 hk).1
   exact inN_iff.2 ⟨this.1, by omega⟩
  ·cases hk
 have hpl : (plcI L i).length ≤ L.length := by
  unfold plcI
  split
  ·rename_i hi
   obtain ⟨g0, g1⟩ := inN_iff.1 hi
   exact plcO_len hL g0 g1
  ·exact Nat.zero_le _
 rw [hO]
 clear hO
 obtain ⟨v, iv, bv, M, hML, h⟩ := id hr
 have hlen := RAr.len hML
 obtain ⟨A, c, rfl, hc, hm⟩ := own_shape63 h.own
 obtain ⟨n, hn⟩ : ∃ n, n = L.length := ⟨_, rfl⟩
 rw [hlen, ← hn] at h hc
 rw [← hn] at hl hpl
 generalize plcI L i = l at *
 obtain ⟨q, hq⟩ : ∃ q, q = l.length := ⟨_, rfl⟩
 unfold IntsPost at cP
 rw [← hq] at cP hpl
 have XcP := hide cP
 have Xhr := hide hr
 have Xhn := hide hn
 have Xh := hide h
 have Xhlen := hide hlen
 have XhML := hide hML
 have Xhin := hide hin
 have Xhq := hide hq
 clear cP hr hn h hlen hML hin hq
 go_enter Tryz.func23, Tryz.ntmps23
 go_wp2_with fail
 refine XcP.out.mono ?_
 rintro e w1 ⟨b1, A1, c1, rfl, own1⟩
 have r1 := Rd.of_own own1
 have h1 := Xh.out.below b1
 have hz1 := b1.size
 clear XcP own1
 obtain ⟨hq1, hqc, hcm, -⟩ := RdI.at_ r1
 unfold maxLen at hcm
 have Xr1 := hide r1
 have Xh1 := hide h1
 have Xb1 := hide b1
 have Xhz1 := hide hz1
 have Xhq1 := hide hq1
 clear r1 h1 b1 hz1 hq1
 go_wp2_with fail
 go_loopw [5, 7] (fun ov iv wr => ∃ (k : Nat) (B : Option Addr) (m d : Nat), k ≤ q ∧ iv = .int .i64 (k : Int) ∧ ov = .slice B m d ∧ m = k ∧ wr.ownsRow w1.heap.size 3 1 (.slice B m d) m (((l.take k).map fun k => (ndAt L k).sym).map (Value.int .i64)) ∧ Below w1.heap.size w1 wr) (fun _ iv _ => q - (intOf iv).toNat)
 case atStart => exact ⟨0, none, 0, 0, Nat.zero_le _, rfl, rfl, rfl, by rw [List.take_zero]; exact World.ownsRow_nil _ _ _ _, Below.refl _ _⟩
 case round =>
  obtain ⟨k, B, m, d, hk, rfl, rfl, rfl, own0, le⟩ := hrel
  by_cases hlt : m < q
  ·have hlt' : (m : Int) < (q : Int) := by omega
   have h2 := Xh1.out
   have hb0 : w1.cell? ⟨bt, 0, none⟩ = some (.slice A n c) := h2.box.cell 0
   obtain ⟨-, -, -, hcell⟩ := RdI.at_ Xr1.out
   obtain ⟨b, off, rfl, hFb, hcc⟩ := hcell (by omega)
   obtain ⟨x, hx⟩ : ∃ x, l[m]? = some x := ⟨_, List.getElem?_eq_getElem (by rw [← Xhq.out]; exact hlt)⟩
   have hcx := hcc m x hx
   have hxi := Xhin.out x (List.mem_of_getElem? hx)
   obtain ⟨g0, g1⟩ := inN_iff.1 hxi
   rw [← Xhn.out] at g1
   obtain ⟨p, hp, es, el, -, -⟩ := tnX_at XhML.out hxi
   obtain ⟨g, c', hv, p0, p1, -, -, -⟩ := h2.at_ hp
   rw [Xhlen.out, ← Xhn.out] at hv
   injection hv with hv1 _ hv3
   subst hv1 hv3
   rw [es] at p0
   rw [el] at p1
   have hs : (l.take (m + 1)).map (fun k => (ndAt L k).sym) = (l.take m).map (fun k => (ndAt L k).sym) ++ [(ndAt L x).sym] := by rw [List.take_add_one, hx, List.map_append]; rfl
   generalize (ndAt L x).leaf = xl at *
   generalize (ndAt L x).sym = xs at *
   have hS : ∀ W, Below w1.heap.size w1 W → W.cell? ⟨bt, 0, none⟩ = some (.slice (some ⟨g, 0, none⟩) n c) ∧ W.cell? ⟨b, off + m, none⟩ = some (.int .i64 x) ∧ W.cell? ⟨g, x.toNat * 4, none⟩ = some (.int .i64 xs) := fun W b => ⟨upA_cell b hb0, upA_cell b hcx, upA_cell b p0⟩
   have SS := hS wr.drew le.drew
   clear h2 hcell hcc hx hxi hp es el hb0 hcx p0 p1
   have zw := le.size
   have Xhs := hide hs
   have Xown0 := hide own0
   have Xle := hide le
   have XhS := hide hS
   clear hs own0 le hS
   go_wp2_with fail
   refine region_late (fun W => W.cell? ⟨bt, 0, none⟩ = some (.slice (some ⟨g, 0, none⟩) n c) ∧ W.cell? ⟨b, off + m, none⟩ = some (.int .i64 x) ∧ W.cell? ⟨g, x.toNat * 4, none⟩ = some (.int .i64 xs)) 12 14 (by kernel_rfl) (by kernel_rfl) SS ?_
   simp only [List.take_succ_cons, List.take_zero, List.drop_succ_cons, List.drop_zero]
   refine wpHeld_cons ?_ (by rfl) (fun wS hwS => ?_) ?_
   rotate_left
   ·(try dsimp only at hwS)
    go_simp
    all_goals with_reducible rfl
   simp only [Act.put, List.setIfInBounds_toArray, List.set_cons_zero, List.set_cons_succ]
   refine wpHeld_cons ?_ (by rfl) (fun wS hwS => ?_) ?_
   rotate_left
   ·(try dsimp only at hwS)
    go_simp
    all_goals with_reducible rfl
   simp only [Act.put, List.setIfInBounds_toArray, List.set_cons_zero, List.set_cons_succ]
   refine wpHeld_cons ?_ (by rfl) (fun wS hwS => ?_) ?_
   rotate_left
   ·(try dsimp only at hwS)
    go_simp
    all_goals with_reducible rfl
   simp only [Act.put, List.setIfInBounds_toArray, List.set_cons_zero, List.set_cons_succ]
   refine wpHeld_cons ?_ (by rfl) (fun wS hwS => ?_) ?_
   rotate_left
   ·(try dsimp only at hwS)
    go_simp
    all_goals with_reducible rfl
   simp only [Act.put, List.setIfInBounds_toArray, List.set_cons_zero, List.set_cons_succ]
   refine wpHeld_cons ?_ (by rfl) (fun wS hwS => ?_) ?_
   rotate_left
   ·(try dsimp only at hwS)
    go_simp
    all_goals with_reducible rfl
   simp only [Act.put, List.setIfInBounds_toArray, List.set_cons_zero, List.set_cons_succ]
   refine wpHeld_cons ?_ (by rfl) (fun wS hwS => ?_) ?_
   rotate_left
   ·(try dsimp only at hwS)
    go_simp
    all_goals with_reducible rfl
   simp only [Act.put, List.setIfInBounds_toArray, List.set_cons_zero, List.set_cons_succ]
   refine wpHeld_cons ?_ (by rfl) (fun wS hwS => ?_) ?_
   rotate_left
   ·(try dsimp only at hwS)
    go_simp
    all_goals with_reducible rfl
   simp only [Act.put, List.setIfInBounds_toArray, List.set_cons_zero, List.set_cons_succ]
   refine wpHeld_cons ?_ (by rfl) (fun wS hwS => ?_) ?_
   rotate_left
   ·(try dsimp only at hwS)
    go_simp
    all_goals with_reducible rfl
   simp only [Act.put, List.setIfInBounds_toArray, List.set_cons_zero, List.set_cons_succ]
   refine wpHeld_cons ?_ (by rfl) (fun wS hwS => ?_) ?_
   rotate_left
   ·(try dsimp only at hwS)
    go_simp
    all_goals with_reducible rfl
   simp only [Act.put, List.setIfInBounds_toArray, List.set_cons_zero, List.set_cons_succ]
   refine wpHeld_cons ?_ (by rfl) (fun wS hwS => ?_) ?_
   rotate_left
   ·(try dsimp only at hwS)
    go_simp
    all_goals with_reducible rfl
   simp only [Act.put, List.setIfInBounds_toArray, List.set_cons_zero, List.set_cons_succ]
   refine wpHeld_cons ?_ (by rfl) (fun wS hwS => ?_) ?_
   rotate_left
   ·(try dsimp only at hwS)
    go_simp
    all_goals with_reducible rfl
   simp only [Act.put, List.setIfInBounds_toArray, List.set_cons_zero, List.set_cons_succ]
   refine wpHeld_cons ?_ (by rfl) (fun wS hwS => ?_) ?_
   rotate_left
   ·(try dsimp only at hwS)
    go_simp
    all_goals with_reducible rfl
   simp only [Act.put, List.setIfInBounds_toArray, List.set_cons_zero, List.set_cons_succ]
   refine wpHeld_nil ?_
   refine wpMid_cons ?_
   go_wp2_with fail
   have own1 := own_below' Xown0.out (((Below.refl wr.heap.size wr).drew).alloc (Nat.le_refl _) (.cells #[.int .i64 xs] 3))
   have rone : Rd (wr.drew.alloc (.cells #[.int .i64 xs] 3)) (fun _ => True) (.slice (some ⟨wr.heap.size, 0, none⟩) 1 1) 1 ([xs].map (Value.int .i64)) := Rd.one (w := wr.drew) (e := 3) ([xs].map (Value.int .i64)) 1 rfl
   have le2 : Below w1.heap.size w1 (wr.drew.alloc (.cells #[.int .i64 xs] 3)) := Xle.out.drew.alloc zw _
   have hsz : w1.heap.size ≤ (wr.drew.alloc (.cells #[.int .i64 xs] 3)).heap.size := le2.size
   clear SS
   have Xown1 := hide own1
   have Xrone := hide rone
   have Xle2 := hide le2
   clear own1 rone le2
   refine ⟨XhS.out _ Xle2.out, wpMid_cons ?_⟩
   go_wp2_with (at_builtin; refine wp_append _ rfl (.tmp 17) (.tmp 29) _ rfl Tryz.elemInt w1.heap.size (.slice B m d) m _ rfl Xown1.out _ _ ([xs].map (Value.int .i64)) 1 rfl rfl Xrone.out (ints_one [xs]) (by unfold maxLen; omega) (by omega) hsz ?_)
   intro A4 c4 w4 own4 g4 ho4
   have b4 : Below w1.heap.size w1 w4 := Xle2.out.trans ((Touch.refl (fun k => (Value.slice B m d).ownBlock = some k) _).grown g4 (fun k e _ => e) |>.below (fun k hk _ e => by have := (Xown0.out.lt k e).1; omega) hsz)
   have he : ((l.take m).map fun k => (ndAt L k).sym).map (Value.int .i64) ++ [xs].map (Value.int .i64) = ((l.take (m + 1)).map fun k => (ndAt L k).sym).map (Value.int .i64) := by rw [Xhs.out, List.map_append]
   have own4' : w4.ownsRow w1.heap.size 3 1 (.slice A4 (m + 1) c4) (m + 1) (((l.take (m + 1)).map fun k => (ndAt L k).sym).map (Value.int .i64)) := by rw [← he]; simpa using own4
   have S4 := XhS.out _ b4
   clear Xown0 Xown1 Xle Xle2 Xrone g4 ho4 Xhs hsz own4 zw he
   have Xown4' := hide own4'
   have Xb4 := hide b4
   clear own4' b4
   refine ⟨S4, wpMid_nil ?_⟩
   go_wp2_with fail
   refine NoPanic.normal ?_
   go_wp2_with fail
   go_roundw
   case rel => exact ⟨m + 1, A4, m + 1, c4, by omega, by go_num, rfl, rfl, Xown4'.out, Xb4.out⟩
   case measure => simp [intOf]; omega
  ·have hlt' : ¬ (m : Int) < (q : Int) := by omega
   have hall : l.take m = l := List.take_of_length_le (by have := Xhq.out; omega)
   have hmq : m = q := by omega
   rw [hall] at own0
   have hfin : IntsPost w (l.map fun k => (ndAt L k).sym) (.returned (.slice B m d)) wr := by
    refine ⟨Xb1.out.trans (le.mono Xhz1.out), B, d, ?_, ?_⟩
    ·rw [List.length_map, ← Xhq.out, hmq]
    ·rw [List.length_map, ← Xhq.out, ← hmq]
     exact ownsRow_base own0 fun k e => Nat.le_trans Xhz1.out (own0.lt k e).1
   clear own0 le hall hmq
   have Xhfin := hide hfin
   clear hfin
   go_wp2_with fail
   go_ret
   exact Xhfin.out
end
end Go.Proofs.YtacankgalkffmaaGreat

/- Each once: the walk of the statement ArenaRoots. -/
import Derived.Test.YtacankgalkffmaaArAw
import Derived.Test.YtacankgalkffmaaArOps
import Derived.Deep.OwnRows
namespace Go.Proofs.Ytacankgalkffmaa
set_option linter.unusedVariables false
set_option linter.unusedSimpArgs false
open Go.RowKit
def cntL (n : Nat) (l : List Int) : List Int := (List.range n).map fun (k : Nat) => ((l.count (k : Int) : Nat) : Int)
theorem cntL_nil (n : Nat) : cntL n [] = List.replicate n 0 := by
 unfold cntL
 refine List.ext_getElem (by simp) fun i h1 h2 => by simp
theorem cntL_len (n : Nat) (l : List Int) : (cntL n l).length = n := by unfold cntL; simp
theorem cntL_put {n : Nat} {l : List Int} {x : Int} (h0 : 0 ≤ x) (h1 : x < n) : (cntL n l).set x.toNat ((l.count x : Nat) + 1 : Int) = cntL n (l ++ [x]) := by
 unfold cntL
 refine List.ext_getElem (by simp) fun i h2 h3 => ?_
 rw [List.getElem_set]
 simp only [List.getElem_map, List.getElem_range, List.count_append, List.count_singleton]
 by_cases e : x.toNat = i
 ·have : x = (i : Int) := by omega
  subst this
  simp
 ·have : ¬ (x == (i : Int)) = true := by simp; omega
  rw [if_neg e, if_neg (by simpa using this)]
  simp
theorem cntL_get {n : Nat} {l : List Int} {x : Int} (h0 : 0 ≤ x) (h1 : x < n) : (cntL n l)[x.toNat]? = some ((l.count x : Nat) : Int) := by
 unfold cntL
 rw [List.getElem?_map, List.getElem?_range (by omega)]
 have : ((x.toNat : Nat) : Int) = x := by omega
 simp [this]
def rangeI (m : Nat) : List Int := (List.range m).map fun (k : Nat) => (k : Int)
theorem rangeI_succ (m : Nat) : rangeI (m + 1) = rangeI m ++ [(m : Int)] := by unfold rangeI; rw [List.range_succ, List.map_append]; rfl
theorem rangeI_nodup (m : Nat) : (rangeI m).Nodup := by
 unfold rangeI
 refine List.Pairwise.map _ (fun a b (h : a ≠ b) c => h (by omega)) List.nodup_range
theorem mem_rangeI {m : Nat} {x : Int} : x ∈ rangeI m ↔ 0 ≤ x ∧ x < m := by
 unfold rangeI
 rw [List.mem_map]
 constructor
 ·rintro ⟨k, hk, rfl⟩
  rw [List.mem_range] at hk
  omega
 ·rintro ⟨h0, h1⟩
  exact ⟨x.toNat, List.mem_range.2 (by omega), by omega⟩
def preL (L : List Nd) (k : Nat) : List Int := ((rootsL L).take k).flatMap (numsO L)
theorem preL_succ {L : List Nd} {k : Nat} {x : Int} (h : (rootsL L)[k]? = some x) : preL L (k + 1) = preL L k ++ numsO L x := by
 unfold preL
 rw [List.take_add_one, h, List.flatMap_append]
 simp
theorem preL_all {L : List Nd} {k : Nat} (h : (rootsL L).length ≤ k) : preL L k = allN L := by unfold preL allN; rw [List.take_of_length_le h]
theorem preL_prefix (L : List Nd) (k : Nat) : preL L k <+: allN L := by
 refine ⟨((rootsL L).drop k).flatMap (numsO L), ?_⟩
 unfold preL allN
 rw [← List.flatMap_append, List.take_append_drop]
theorem leaf_new {L : List Nd} {m k j : Nat} {r x : Int} (hp : (allN L).Perm (rangeI m)) (hr : (rootsL L)[k]? = some r) (hx : (numsO L r)[j]? = some x) : (0 ≤ x ∧ x < m) ∧ (preL L k ++ (numsO L r).take j).count x = 0 := by
 have e1 : (preL L k ++ (numsO L r).take j ++ [x]) <+: allN L := by
  refine List.IsPrefix.trans ?_ (preL_prefix L (k + 1))
  rw [preL_succ hr, List.append_assoc]
  refine (List.prefix_append_right_inj _).2 ?_
  have : (numsO L r).take j ++ [x] = (numsO L r).take (j + 1) := by rw [List.take_add_one, hx]; rfl
  rw [this]
  exact List.take_prefix _ _
 have hn : (allN L).Nodup := hp.nodup_iff.2 (rangeI_nodup m)
 have hn1 := hn.sublist e1.sublist
 refine ⟨mem_rangeI.1 (hp.mem_iff.1 (e1.subset (List.mem_append_right _ (List.mem_singleton.2 rfl)))), ?_⟩
 rw [List.nodup_append] at hn1
 exact List.count_eq_zero.2 fun c => hn1.2.2 x c x (List.mem_singleton.2 rfl) rfl
theorem all_one {L : List Nd} {m : Nat} (hp : (allN L).Perm (rangeI m)) {k : Nat} (hk : k < m) : (cntL m (allN L))[k]? = some 1 := by
 have := cntL_get (n := m) (l := allN L) (x := (k : Int)) (by omega) (by omega)
 rw [Int.toNat_natCast] at this
 rw [this, hp.count_eq, (rangeI_nodup m).count, if_pos (mem_rangeI.2 ⟨by omega, by omega⟩)]
 rfl
theorem made_allR (z : Value) (s n : Nat) (hs : 0 < s) : madeCells (Array.replicate s z) n = (List.replicate n z).toArray := by
 unfold madeCells
 apply Array.ext
 ·simp
 ·intro i h1 h2
  simp at h1
  simp [Array.getElem!_eq_getD, Array.getD, Nat.mod_lt _ hs]
theorem Try.infoIntR : (Try.prog.info? 3).map (fun i => (i.zero, i.size, i.bytes)) = some (some (.int .i64 0), 1, 8) := by kernel_rfl
theorem make_met (n : Nat) (hn : n ≤ 65536) (w : World) : (Instr.makeSlice 25 (.int .i64 (n : Int)) (.int .i64 (n : Int))).run Try.prog w = .ok (.slice (some ⟨w.heap.size, 0, none⟩) n n) (w.alloc (.cells ((cntL n []).map (Value.int .i64)).toArray 3)) := by
 rw [run_make_row' _ _ _ 8 Try.underlying25 Try.infoIntR rfl .i64 .i64 n (by omega) (by omega) w, cntL_nil, List.map_replicate]
 have := made_allR (.int .i64 0) 1 n (by decide)
 rw [show (Array.replicate 1 (Value.int .i64 0)) = #[.int .i64 0] from rfl] at this
 rw [this]
def LoopA (w wr : World) (ops : List OpD) (k m : Nat) (L : List Nd) : Prop := (∃ S, Ar wr w.heap.size S L ∧ ∀ b, S b → w.heap.size ≤ b) ∧ Tr L ∧ L.length ≤ k ∧ m ≤ k ∧ k ≤ 60 ∧ (allN L).Perm (rangeI m) ∧ Below w.heap.size w wr
section
variable {w wr W' : World} {ops : List OpD} {k m : Nat} {L : List Nd}
theorem LoopA.leaf (h : LoopA w wr ops k m L) (hk : k < 60) (s : Int) : Calls Try.prog 6 #[.pointer (some ⟨w.heap.size, 0, none⟩), .int .i64 s, .int .i64 (m : Int)] wr fun e W' => (∃ x, e = .returned (.int .i64 x)) ∧ LoopA w W' ops (k + 1) (m + 1) (leafL L s m) := by
 obtain ⟨⟨S, h1, h2⟩, h3, h4, h5, h6, h7, h8⟩ := h
 refine (arena_Leaf h1 (by omega) s m).mono fun e W' ⟨a, b, c⟩ => ⟨⟨_, a⟩, ⟨_, b, fun k hk => New.lt h2 h8.size k hk⟩, h3.leaf s m, ?_, by omega, by omega, ?_, c.toBelow h2 h8 h8.size⟩
 ·unfold leafL; rw [List.length_append, List.length_singleton]; omega
 ·rw [allN_leaf h3, rangeI_succ]
  exact h7.append_right _
theorem LoopA.next (h : LoopA w wr ops k m L) (hk : k < 60) : LoopA w wr ops (k + 1) m L := by
 obtain ⟨h1, h3, h4, h5, h6, h7, h8⟩ := h
 exact ⟨h1, h3, by omega, by omega, by omega, h7, h8⟩
theorem LoopA.below (h : LoopA w wr ops k m L) (b : Below wr.heap.size wr W') : LoopA w W' ops k m L := by
 obtain ⟨⟨S, h1, h2⟩, h3, h4, h5, h6, h7, h8⟩ := h
 exact ⟨⟨S, h1.below b, h2⟩, h3, h4, h5, h6, h7, h8.trans (b.mono h8.size)⟩
theorem joinL_len (L : List Nd) (s r : Int) (kids : List Int) : (joinL' L s r kids).length ≤ L.length + 1 := by
 unfold joinL'
 split
 ·rw [List.length_append, markL_len, List.length_singleton]; omega
 ·omega
theorem LoopA.join (h : LoopA w wr ops k m L) (hk : k < 60) (s r : Int) {u : Value} {kids : List Int} (hu : RdI wr (· < w.heap.size) u kids) (hl : kids.length ≤ 20) : Calls Try.prog 7 #[.pointer (some ⟨w.heap.size, 0, none⟩), .int .i64 s, .int .i64 r, u] wr fun e W' => (∃ x, e = .returned (.int .i64 x)) ∧ LoopA w W' ops (k + 1) m (joinL' L s r kids) := by
 obtain ⟨⟨S, h1, h2⟩, h3, h4, h5, h6, h7, h8⟩ := h
 refine (arena_Join h1 (by omega) hu (fun b hb c => by have := h2 b c; omega) (by omega) s r).mono fun e W' ⟨a, b, c⟩ => ⟨⟨_, a⟩, ⟨_, b, fun k hk => New.lt h2 h8.size k hk⟩, h3.join s r kids, ?_, by omega, by omega, ?_, c.toBelow h2 h8 h8.size⟩
 ·have := joinL_len L s r kids; omega
 ·exact (allN_join h3 s r kids).trans h7
end
set_option maxRecDepth 100000 in
set_option maxHeartbeats 4000000 in
theorem walk_ArenaRoots (v : Value) (ops : List OpD) (w : World) (hv : RdOp w (· < w.heap.size) v ops ∧ ops.length * 48 ≤ 140737488351232) :
  Calls Try.prog 3 #[v] w (Quiet w (.bool true)) := by
 obtain ⟨hv, hlen⟩ := hv
 obtain ⟨A, c, rfl, hnc, hcm⟩ := hv.shape
 obtain ⟨n, hn⟩ : ∃ n, n = ops.length := ⟨_, rfl⟩
 rw [← hn] at hnc ⊢
 obtain ⟨w1, hw1⟩ : ∃ q, w.alloc (.cells #[.slice none 0 0] 48) = q := ⟨_, rfl⟩
 have b1 : Below w.heap.size w w1 := by rw [← hw1]; exact (Below.refl _ _).alloc (Nat.le_refl _) _
 have cN := arena_New w
 rw [hw1] at cN
 have h1 : LoopA w w1 ops 0 0 [] := ⟨⟨_, by rw [← hw1]; exact Ar.new w, fun b e => by omega⟩, Tr.nil, Nat.le_refl _, Nat.le_refl _, by omega, List.Perm.refl _, b1⟩
 clear hlen
 have XcN := hide cN
 have Xh1 := hide h1
 have Xhv := hide hv
 have Xhn := hide hn
 have Xb1 := hide b1
 clear cN h1 hv hn b1
 clear hw1
 go_enter Try.func3, Try.ntmps3
 go_wp2_with fail
 refine XcN.out.mono ?_
 rintro e w' ⟨rfl, rfl⟩
 clear XcN
 go_wp2_with fail
 go_loopw [4, 5] (fun nv iv wr => ∃ (k m : Nat) (L : List Nd), k ≤ n ∧ iv = .int .i64 (k : Int) ∧ nv = .int .i64 (m : Int) ∧ LoopA w wr ops k m L) (fun _ iv _ => n - (intOf iv).toNat)
 case atStart => exact ⟨0, 0, [], Nat.zero_le _, rfl, rfl, Xh1.out⟩
 case round =>
  obtain ⟨k, m, L, hk, rfl, rfl, hA⟩ := hrel
  have hk60 := hA.2.2.2.2.1
  have hmk := hA.2.2.2.1
  by_cases l1 : k < n
  ·have l1' : (k : Int) < (n : Int) := by omega
   by_cases l2 : k < 60
   ·have l2' : (k : Int) < 60 := by omega
    obtain ⟨x, hx⟩ : ∃ x, ops[k]? = some x := ⟨_, List.getElem?_eq_getElem (by rw [← Xhn.out]; exact l1)⟩
    have hvr := RdOp.touch Xhv.out (Touch.of_below hA.2.2.2.2.2.2) (fun b hb c => by omega)
    obtain ⟨bo, off, c', z, hv', hbo, p0, p1, p2, p3, hz⟩ := hvr.at_ hx
    rw [← Xhn.out] at hv'
    injection hv' with hv1 _ hv3
    subst hv1 hv3
    obtain ⟨xl, xs, xn, kids⟩ := x
    simp only at p0 p1 p2 p3 hz
    obtain ⟨Az, nz, cz, rfl, -⟩ := id hz
    obtain ⟨hnz, hncz, hcz, -⟩ := RdI.at_ hz
    unfold maxLen at hcz
    clear hvr hx hbo
    cases xl with
    | true =>
     have cL := hA.leaf l2 xs
     clear hz hA
     have XcL := hide cL
     have Xhnz := hide hnz
     clear cL hnz
     go_wp2_with fail
     refine XcL.out.mono ?_
     rintro e w2 ⟨⟨y, rfl⟩, h2⟩
     clear XcL p0 p1 p2 p3
     have Xh2 := hide h2
     clear h2
     go_wp2_with fail
     go_roundw
     case rel => exact ⟨k + 1, m + 1, _, by omega, by go_num, by go_num, Xh2.out⟩
     case measure => simp [intOf]; omega
    | false =>
     by_cases l3 : nz ≤ 20
     ·have l3' : (nz : Int) ≤ 20 := by omega
      have cJ := (hA.below ((Below.refl _ wr).drew)).join l2 xs xn (hz.touch ((Touch.refl (fun _ => False) wr).drew) (fun _ _ c => c)) (by rw [← hnz]; exact l3)
      clear hz hA
      have XcJ := hide cJ
      have Xhnz := hide hnz
      clear cJ hnz
      go_wp2_with fail
      refine region_tail 16 (by kernel_rfl) (by kernel_rfl) ?_
      simp only [List.take_succ_cons, List.take_zero, List.drop_succ_cons, List.drop_zero]
      repeat still_step
      refine wpStill_nil ?_
      go_wp2_with fail
      refine XcJ.out.mono ?_
      rintro e w2 ⟨⟨y, rfl⟩, h2⟩
      clear XcJ p0 p1 p2 p3
      have Xh2 := hide h2
      clear h2
      go_wp2_with fail
      go_roundw
      case rel => exact ⟨k + 1, m, _, by omega, by go_num, rfl, Xh2.out⟩
      case measure => simp [intOf]; omega
     ·have l3' : ¬ (nz : Int) ≤ 20 := by omega
      have h2 := hA.next l2
      clear hz hA
      have Xh2 := hide h2
      have Xhnz := hide hnz
      clear h2 hnz
      go_wp2_with fail
      go_roundw
      case rel => exact ⟨k + 1, m, _, by omega, by go_num, rfl, Xh2.out⟩
      case measure => simp [intOf]; omega
   ·have l2' : ¬ (k : Int) < 60 := by omega
    clear hk60 hmk
    obtain ⟨V, rfl⟩ : ∃ q, q = wr := ⟨_, rfl⟩
    have cM := make_met m (by have := hA.2.2.2.1; have := hA.2.2.2.2.1; omega) V
    obtain ⟨w2, hw2⟩ : ∃ q, V.alloc (.cells ((cntL m []).map (Value.int .i64)).toArray 3) = q := ⟨_, rfl⟩
    rw [hw2] at cM
    have b2 : Below V.heap.size V w2 := by rw [← hw2]; exact (Below.refl _ _).alloc (Nat.le_refl _) _
    have z2 : w2.heap.size = V.heap.size + 1 := by rw [← hw2]; simp
    have k2 : Blk w2 V.heap.size 3 ((cntL m []).map (Value.int .i64)).toArray := by rw [← hw2]; exact Blk.new _ _ _
    obtain ⟨⟨S, ar0, hS⟩, hTr, hLk, hmk, hk60, hperm, hbw⟩ := id hA
    have zbw := hbw.size
    have hSlt := ar0.lt
    have ar2 := ar0.below b2
    have hL6 : L.length ≤ 60 := by omega
    have hm6 : m ≤ 60 := by omega
    have cR := arena_Roots ar2 (by omega)
    clear hw2 ar0 hLk hmk hk60
    have bw2 := hbw.trans (b2.mono hbw.size)
    clear hbw b2 hA
    have XcR := hide cR
    have Xk2 := hide k2
    have Xar2 := hide ar2
    have XhTr := hide hTr
    have Xhperm := hide hperm
    have Xbw2 := hide bw2
    have XhS := hide hS
    have XhSlt := hide hSlt
    clear cR k2 ar2 hTr hperm bw2 hS hSlt
    go_wp2_with fail
    refine XcR.out.mono ?_
    rintro e w3 ⟨b3, A3, c3, rfl, own3⟩
    clear XcR
    have rd3 := (Rd.of_own own3).mono fun k hk => own3.lt k hk
    have z3 := b3.size
    have k3 := Xk2.out.below b3 (by omega)
    have ar3 := Xar2.out.below b3
    have bw3 := Xbw2.out.trans (b3.mono Xbw2.out.size)
    obtain ⟨hnr, hnc3, hcm3, hcell3⟩ := RdI.at_ rd3
    unfold maxLen at hcm3
    obtain ⟨R, hR⟩ : ∃ R, R = (rootsL L).length := ⟨_, rfl⟩
    rw [← hR] at hnc3 hcell3
    rw [← hR]
    clear own3 b3 Xk2 Xar2 Xbw2 rd3 hnr cM
    have Xk3 := hide k3
    have Xar3 := hide ar3
    have Xbw3 := hide bw3
    have Xhcell3 := hide hcell3
    have XhR := hide hR
    clear k3 ar3 bw3 hcell3 hR
    go_wp2_with fail
    go_loopw [8] (fun iv W => ∃ k : Nat, k ≤ R ∧ iv = .int .i64 (k : Int) ∧ Blk W V.heap.size 3 ((cntL m (preL L k)).map (Value.int .i64)).toArray ∧ Touch (fun b => b = V.heap.size) w3 W) (fun iv _ => R - (intOf iv).toNat)
    case atStart => exact ⟨0, Nat.zero_le _, rfl, Xk3.out, Touch.refl _ _⟩
    case round =>
     obtain ⟨i, hi, rfl, kW, tW⟩ := hrel
     by_cases l4 : i < R
     ·have l4' : (i : Int) < (R : Int) := by omega
      obtain ⟨r, hr⟩ : ∃ r, (rootsL L)[i]? = some r := ⟨_, List.getElem?_eq_getElem (by rw [← XhR.out]; exact l4)⟩
      obtain ⟨b5, o5, rfl, hb5, hc5⟩ := Xhcell3.out (by omega)
      have d0 := tW.cell (hc5 i r hr) (by show ¬ b5 = V.heap.size; omega)
      have arW := Ar.touch Xar3.out tW (fun b hb c => by have := XhSlt.out b hb; omega)
      have cL := arena_Leaves arW XhTr.out (by omega) r
      have zW := tW.size
      clear arW hc5
      have XcL := hide cL
      have XkW := hide kW
      have XtW := hide tW
      have Xhr := hide hr
      have Xhb5 := hide hb5
      clear cL kW tW hr hb5
      go_wp2_with fail
      refine XcL.out.mono ?_
      rintro e w6 ⟨b6, A6, c6, rfl, rd6⟩
      clear XcL
      have k6 := XkW.out.below b6 (by omega)
      have t6 := XtW.out.trans' (Touch.of_size b6 _)
      have z6 := b6.size
      obtain ⟨hn6, hnc6, hcm6, hcell6⟩ := RdI.at_ rd6
      unfold maxLen at hcm6
      obtain ⟨N, hN⟩ : ∃ N, N = (numsO L r).length := ⟨_, rfl⟩
      rw [← hN] at hnc6 hcell6
      rw [← hN]
      obtain ⟨V6, rfl⟩ : ∃ q, q = wr := ⟨_, rfl⟩
      clear b6 rd6 hn6 XkW XtW d0
      have Xk6 := hide k6
      have Xt6 := hide t6
      have Xhcell6 := hide hcell6
      have XhN := hide hN
      clear k6 t6 hcell6 hN
      go_wp2_with fail
      go_loopw [10] (fun jv W => ∃ j : Nat, j ≤ N ∧ jv = .int .i64 (j : Int) ∧ Blk W V.heap.size 3 ((cntL m (preL L i ++ (numsO L r).take j)).map (Value.int .i64)).toArray ∧ Touch (fun b => b = V.heap.size) w6 W) (fun jv _ => N - (intOf jv).toNat)
      case atStart => exact ⟨0, Nat.zero_le _, rfl, by rw [List.take_zero, List.append_nil]; exact Xk6.out, Touch.refl _ _⟩
      case round =>
       obtain ⟨j, hj, rfl, kX, tX⟩ := hrel
       by_cases l5 : j < N
       ·have l5' : (j : Int) < (N : Int) := by omega
        obtain ⟨x, hx⟩ : ∃ x, (numsO L r)[j]? = some x := ⟨_, List.getElem?_eq_getElem (by rw [← XhN.out]; exact l5)⟩
        obtain ⟨b7, o7, rfl, hb7, hc7⟩ := Xhcell6.out (by omega)
        have d7 := tX.cell (hc7 j x hx) (by show ¬ b7 = V.heap.size; omega)
        obtain ⟨⟨x0, x1⟩, hcnt⟩ := leaf_new Xhperm.out Xhr.out hx
        have e7 : wr.cell? ⟨V.heap.size, x.toNat, none⟩ = some (.int .i64 0) := by
         rw [kX.cell]
         simp only [List.getElem?_toArray, List.getElem?_map, cntL_get x0 x1, hcnt]
         rfl
        have f7 := kX.frozen x.toNat
        have k8 := kX.put x.toNat (.int .i64 1)
        have t8 := tX.trans' (touch_set wr V.heap.size x.toNat (.int .i64 1))
        have hput : ((cntL m (preL L i ++ (numsO L r).take j)).map (Value.int .i64)).toArray.setIfInBounds x.toNat (.int .i64 1) = ((cntL m (preL L i ++ (numsO L r).take (j + 1))).map (Value.int .i64)).toArray := by
         have e1 := cntL_put (n := m) (l := preL L i ++ (numsO L r).take j) x0 x1
         rw [hcnt] at e1
         rw [List.take_add_one, hx, Option.toList_some, ← List.append_assoc, ← e1, List.map_set]
         simp
        rw [hput] at k8
        have hx0 : ¬ x < 0 := by omega
        have hxm : ¬ (m : Int) ≤ x := by omega
        have hzX := tX.size
        clear hb7 hc7 hx hcnt kX tX hput
        have Xk8 := hide k8
        have Xt8 := hide t8
        clear k8 t8
        go_wp2_with fail
        go_roundw
        case rel => exact ⟨j + 1, by omega, by go_num, Xk8.out, Xt8.out⟩
        case measure => simp [intOf]; omega
       ·have l5' : ¬ (j : Int) < (N : Int) := by omega
        have e8 : preL L i ++ (numsO L r).take j = preL L (i + 1) := by rw [preL_succ Xhr.out, List.take_of_length_le (by rw [← XhN.out]; omega)]
        rw [e8] at kX
        have t8 := Xt6.out.trans' tX
        clear tX e8
        have XkX := hide kX
        have Xt8 := hide t8
        clear kX t8
        go_wp2_with fail
        go_roundw
        case rel => exact ⟨i + 1, by omega, by go_num, XkX.out, Xt8.out⟩
        case measure => simp [intOf]; omega
     ·have l4' : ¬ (i : Int) < (R : Int) := by omega
      rw [preL_all (by rw [← XhR.out]; omega)] at kW
      have bw4 := Xbw3.out.trans (tW.below (fun k hk _ e => by omega) (by omega))
      have zW := tW.size
      have hone : ∀ k, k < m → wr.cell? ⟨V.heap.size, k, none⟩ = some (.int .i64 1) := fun k hk => by
       rw [kW.cell]
       simp only [List.getElem?_toArray, List.getElem?_map, all_one Xhperm.out hk]
       rfl
      obtain ⟨V4, rfl⟩ : ∃ q, q = wr := ⟨_, rfl⟩
      clear kW tW
      have Xhone := hide hone
      have Xbw4 := hide bw4
      clear hone bw4
      go_wp2_with fail
      go_loopw [11] (fun iv W => ∃ k : Nat, k ≤ m ∧ iv = .int .i64 (k : Int) ∧ W = V4) (fun iv _ => m - (intOf iv).toNat)
      case atStart => exact ⟨0, Nat.zero_le _, rfl, by first | rfl | trivial⟩
      case round =>
       obtain ⟨q, hq, rfl, rfl⟩ := hrel
       by_cases l6 : q < m
       ·have l6' : (q : Int) < (m : Int) := by omega
        have d9 := Xhone.out q l6
        go_wp2_with fail
        go_roundw
        case rel => exact ⟨q + 1, by omega, by go_num, by first | rfl | trivial⟩
        case measure => simp [intOf]; omega
       ·have l6' : ¬ (q : Int) < (m : Int) := by omega
        have cA := law19_awake wr
        have XcA := hide cA
        clear cA
        go_wp2_with fail
        refine XcA.out.mono ?_
        rintro e w9 ⟨rfl, b9⟩
        have b10 := Xbw4.out.trans (b9.mono Xbw4.out.size)
        clear XcA b9
        have Xb10 := hide b10
        clear b10
        go_wp2_with fail
        go_ret
        exact ⟨rfl, Xb10.out⟩
  ·have l1' : ¬ (k : Int) < (n : Int) := by omega
   clear hk60 hmk
   obtain ⟨V, rfl⟩ : ∃ q, q = wr := ⟨_, rfl⟩
   have cM := make_met m (by have := hA.2.2.2.1; have := hA.2.2.2.2.1; omega) V
   obtain ⟨w2, hw2⟩ : ∃ q, V.alloc (.cells ((cntL m []).map (Value.int .i64)).toArray 3) = q := ⟨_, rfl⟩
   rw [hw2] at cM
   have b2 : Below V.heap.size V w2 := by rw [← hw2]; exact (Below.refl _ _).alloc (Nat.le_refl _) _
   have z2 : w2.heap.size = V.heap.size + 1 := by rw [← hw2]; simp
   have k2 : Blk w2 V.heap.size 3 ((cntL m []).map (Value.int .i64)).toArray := by rw [← hw2]; exact Blk.new _ _ _
   obtain ⟨⟨S, ar0, hS⟩, hTr, hLk, hmk, hk60, hperm, hbw⟩ := id hA
   have zbw := hbw.size
   have hSlt := ar0.lt
   have ar2 := ar0.below b2
   have hL6 : L.length ≤ 60 := by omega
   have hm6 : m ≤ 60 := by omega
   have cR := arena_Roots ar2 (by omega)
   clear hw2 ar0 hLk hmk hk60
   have bw2 := hbw.trans (b2.mono hbw.size)
   clear hbw b2 hA
   have XcR := hide cR
   have Xk2 := hide k2
   have Xar2 := hide ar2
   have XhTr := hide hTr
   have Xhperm := hide hperm
   have Xbw2 := hide bw2
   have XhS := hide hS
   have XhSlt := hide hSlt
   clear cR k2 ar2 hTr hperm bw2 hS hSlt
   go_wp2_with fail
   refine XcR.out.mono ?_
   rintro e w3 ⟨b3, A3, c3, rfl, own3⟩
   clear XcR
   have rd3 := (Rd.of_own own3).mono fun k hk => own3.lt k hk
   have z3 := b3.size
   have k3 := Xk2.out.below b3 (by omega)
   have ar3 := Xar2.out.below b3
   have bw3 := Xbw2.out.trans (b3.mono Xbw2.out.size)
   obtain ⟨hnr, hnc3, hcm3, hcell3⟩ := RdI.at_ rd3
   unfold maxLen at hcm3
   obtain ⟨R, hR⟩ : ∃ R, R = (rootsL L).length := ⟨_, rfl⟩
   rw [← hR] at hnc3 hcell3
   rw [← hR]
   clear own3 b3 Xk2 Xar2 Xbw2 rd3 hnr cM
   have Xk3 := hide k3
   have Xar3 := hide ar3
   have Xbw3 := hide bw3
   have Xhcell3 := hide hcell3
   have XhR := hide hR
   clear k3 ar3 bw3 hcell3 hR
   go_wp2_with fail
   go_loopw [8] (fun iv W => ∃ k : Nat, k ≤ R ∧ iv = .int .i64 (k : Int) ∧ Blk W V.heap.size 3 ((cntL m (preL L k)).map (Value.int .i64)).toArray ∧ Touch (fun b => b = V.heap.size) w3 W) (fun iv _ => R - (intOf iv).toNat)
   case atStart => exact ⟨0, Nat.zero_le _, rfl, Xk3.out, Touch.refl _ _⟩
   case round =>
    obtain ⟨i, hi, rfl, kW, tW⟩ := hrel
    by_cases l4 : i < R
    ·have l4' : (i : Int) < (R : Int) := by omega
     obtain ⟨r, hr⟩ : ∃ r, (rootsL L)[i]? = some r := ⟨_, List.getElem?_eq_getElem (by rw [← XhR.out]; exact l4)⟩
     obtain ⟨b5, o5, rfl, hb5, hc5⟩ := Xhcell3.out (by omega)
     have d0 := tW.cell (hc5 i r hr) (by show ¬ b5 = V.heap.size; omega)
     have arW := Ar.touch Xar3.out tW (fun b hb c => by have := XhSlt.out b hb; omega)
     have cL := arena_Leaves arW XhTr.out (by omega) r
     have zW := tW.size
     clear arW hc5
     have XcL := hide cL
     have XkW := hide kW
     have XtW := hide tW
     have Xhr := hide hr
     have Xhb5 := hide hb5
     clear cL kW tW hr hb5
     go_wp2_with fail
     refine XcL.out.mono ?_
     rintro e w6 ⟨b6, A6, c6, rfl, rd6⟩
     clear XcL
     have k6 := XkW.out.below b6 (by omega)
     have t6 := XtW.out.trans' (Touch.of_size b6 _)
     have z6 := b6.size
     obtain ⟨hn6, hnc6, hcm6, hcell6⟩ := RdI.at_ rd6
     unfold maxLen at hcm6
     obtain ⟨N, hN⟩ : ∃ N, N = (numsO L r).length := ⟨_, rfl⟩
     rw [← hN] at hnc6 hcell6
     rw [← hN]
     obtain ⟨V6, rfl⟩ : ∃ q, q = wr := ⟨_, rfl⟩
     clear b6 rd6 hn6 XkW XtW d0
     have Xk6 := hide k6
     have Xt6 := hide t6
     have Xhcell6 := hide hcell6
     have XhN := hide hN
     clear k6 t6 hcell6 hN
     go_wp2_with fail
     go_loopw [10] (fun jv W => ∃ j : Nat, j ≤ N ∧ jv = .int .i64 (j : Int) ∧ Blk W V.heap.size 3 ((cntL m (preL L i ++ (numsO L r).take j)).map (Value.int .i64)).toArray ∧ Touch (fun b => b = V.heap.size) w6 W) (fun jv _ => N - (intOf jv).toNat)
     case atStart => exact ⟨0, Nat.zero_le _, rfl, by rw [List.take_zero, List.append_nil]; exact Xk6.out, Touch.refl _ _⟩
     case round =>
      obtain ⟨j, hj, rfl, kX, tX⟩ := hrel
      by_cases l5 : j < N
      ·have l5' : (j : Int) < (N : Int) := by omega
       obtain ⟨x, hx⟩ : ∃ x, (numsO L r)[j]? = some x := ⟨_, List.getElem?_eq_getElem (by rw [← XhN.out]; exact l5)⟩
       obtain ⟨b7, o7, rfl, hb7, hc7⟩ := Xhcell6.out (by omega)
       have d7 := tX.cell (hc7 j x hx) (by show ¬ b7 = V.heap.size; omega)
       obtain ⟨⟨x0, x1⟩, hcnt⟩ := leaf_new Xhperm.out Xhr.out hx
       have e7 : wr.cell? ⟨V.heap.size, x.toNat, none⟩ = some (.int .i64 0) := by
        rw [kX.cell]
        simp only [List.getElem?_toArray, List.getElem?_map, cntL_get x0 x1, hcnt]
        rfl
       have f7 := kX.frozen x.toNat
       have k8 := kX.put x.toNat (.int .i64 1)
       have t8 := tX.trans' (touch_set wr V.heap.size x.toNat (.int .i64 1))
       have hput : ((cntL m (preL L i ++ (numsO L r).take j)).map (Value.int .i64)).toArray.setIfInBounds x.toNat (.int .i64 1) = ((cntL m (preL L i ++ (numsO L r).take (j + 1))).map (Value.int .i64)).toArray := by
        have e1 := cntL_put (n := m) (l := preL L i ++ (numsO L r).take j) x0 x1
        rw [hcnt] at e1
        rw [List.take_add_one, hx, Option.toList_some, ← List.append_assoc, ← e1, List.map_set]
        simp
       rw [hput] at k8
       have hx0 : ¬ x < 0 := by omega
       have hxm : ¬ (m : Int) ≤ x := by omega
       have hzX := tX.size
       clear hb7 hc7 hx hcnt kX tX hput
       have Xk8 := hide k8
       have Xt8 := hide t8
       clear k8 t8
       go_wp2_with fail
       go_roundw
       case rel => exact ⟨j + 1, by omega, by go_num, Xk8.out, Xt8.out⟩
       case measure => simp [intOf]; omega
      ·have l5' : ¬ (j : Int) < (N : Int) := by omega
       have e8 : preL L i ++ (numsO L r).take j = preL L (i + 1) := by rw [preL_succ Xhr.out, List.take_of_length_le (by rw [← XhN.out]; omega)]
       rw [e8] at kX
       have t8 := Xt6.out.trans' tX
       clear tX e8
       have XkX := hide kX
       have Xt8 := hide t8
       clear kX t8
       go_wp2_with fail
       go_roundw
       case rel => exact ⟨i + 1, by omega, by go_num, XkX.out, Xt8.out⟩
       case measure => simp [intOf]; omega
    ·have l4' : ¬ (i : Int) < (R : Int) := by omega
     rw [preL_all (by rw [← XhR.out]; omega)] at kW
     have bw4 := Xbw3.out.trans (tW.below (fun k hk _ e => by omega) (by omega))
     have zW := tW.size
     have hone : ∀ k, k < m → wr.cell? ⟨V.heap.size, k, none⟩ = some (.int .i64 1) := fun k hk => by
      rw [kW.cell]
      simp only [List.getElem?_toArray, List.getElem?_map, all_one Xhperm.out hk]
      rfl
     obtain ⟨V4, rfl⟩ : ∃ q, q = wr := ⟨_, rfl⟩
     clear kW tW
     have Xhone := hide hone
     have Xbw4 := hide bw4
     clear hone bw4
     go_wp2_with fail
     go_loopw [11] (fun iv W => ∃ k : Nat, k ≤ m ∧ iv = .int .i64 (k : Int) ∧ W = V4) (fun iv _ => m - (intOf iv).toNat)
     case atStart => exact ⟨0, Nat.zero_le _, rfl, by first | rfl | trivial⟩
     case round =>
      obtain ⟨q, hq, rfl, rfl⟩ := hrel
      by_cases l6 : q < m
      ·have l6' : (q : Int) < (m : Int) := by omega
       have d9 := Xhone.out q l6
       go_wp2_with fail
       go_roundw
       case rel => exact ⟨q + 1, by omega, by go_num, by first | rfl | trivial⟩
       case measure => simp [intOf]; omega
      ·have l6' : ¬ (q : Int) < (m : Int) := by omega
       have cA := law19_awake wr
       have XcA := hide cA
       clear cA
       go_wp2_with fail
       refine XcA.out.mono ?_
       rintro e w9 ⟨rfl, b9⟩
       have b10 := Xbw4.out.trans (b9.mono Xbw4.out.size)
       clear XcA b9
       have Xb10 := hide b10
       clear b10
       go_wp2_with fail
       go_ret
       exact ⟨rfl, Xb10.out⟩
end Go.Proofs.Ytacankgalkffmaa

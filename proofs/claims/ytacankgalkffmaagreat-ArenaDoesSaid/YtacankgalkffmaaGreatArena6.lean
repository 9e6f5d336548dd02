/- slices.Backward: what its iterator gives. -/
import Derived.Test.YtacankgalkffmaaGreatArena5
import Derived.Test.YtacankgalkffmaaGreatOwnSeq
import Derived.Shelf.Abstract
namespace Go.Proofs.YtacankgalkffmaaGreat
set_option linter.unusedVariables false
set_option linter.unusedSimpArgs false
open Go.RowKit Go.Shelf
attribute [local go_sem] Oper.semAt_some
theorem arena_Backward (A : Option Addr) (n c : Nat) (w : World) : Calls Tryz.prog 68 #[.slice A n c] w fun e w' => e = .returned (.func (.func 92) #[] #[.pointer (some ⟨w.heap.size, 0, none⟩)]) ∧ w' = w.alloc (.cells #[.slice A n c] 33) := by
 go_enter Tryz.func68, Tryz.ntmps68
 go_wp2_with fail
 go_ret
 exact ⟨rfl, rfl⟩
def bwd (xs : List Int) : List (Int × Int) := (List.range xs.length).map fun k => (((xs.length - 1 - k : Nat) : Int), xs.getD (xs.length - 1 - k) 0)
theorem bwd_len (xs : List Int) : (bwd xs).length = xs.length := by unfold bwd; simp
theorem bwd_get {xs : List Int} {j : Nat} {x : Int} (hx : xs[j]? = some x) : (bwd xs)[xs.length - 1 - j]? = some ((j : Int), x) := by
 have hj := (List.getElem?_eq_some_iff.1 hx).1
 unfold bwd
 rw [List.getElem?_map, List.getElem?_range (by omega)]
 have e : xs.length - 1 - (xs.length - 1 - j) = j := by omega
 simp [e, List.getD_eq_getElem?_getD, hx]
theorem bwd_snd (xs : List Int) : (bwd xs).map Prod.snd = xs.reverse := by
 refine List.ext_getElem? fun i => ?_
 rw [List.getElem?_map]
 by_cases hi : i < xs.length
 ·obtain ⟨x, hx⟩ : ∃ x, xs[xs.length - 1 - i]? = some x := ⟨_, List.getElem?_eq_getElem (by omega)⟩
  have := bwd_get hx
  rw [show xs.length - 1 - (xs.length - 1 - i) = i by omega] at this
  rw [this, List.getElem?_reverse hi, hx]; rfl
 ·rw [List.getElem?_eq_none (by rw [bwd_len]; omega), List.getElem?_eq_none (by rw [List.length_reverse]; omega)]; rfl
set_option maxRecDepth 100000 in
set_option maxHeartbeats 2000000 in
theorem back_own {w : World} {R : Nat → Prop} {bx : Nat} {v : Value} {xs : List Int} (hb : Blk w bx 33 #[v]) (hr : RdI w R v xs) (hR : R bx) (hlt : ∀ b, R b → b < w.heap.size) (n : Nat) (hn : 1 ≤ n) :
  SeqOwn Fence.wide n Tryz.prog 92 #[.pointer (some ⟨bx, 0, none⟩)] (fun p : Int × Int => #[.int .i64 p.1, .int .i64 p.2]) R (fun ys => ys = bwd xs) (fun pre => pre <+: bwd xs) w := by
 intro l J Jx W hW hA hAx hY h0
 have b0 := hb.below hW (hlt _ hR)
 have r0 := Rd.below hr hW hlt
 obtain ⟨A, m, c, rfl, -⟩ := id hr
 obtain ⟨hm, hmc, hcm, -⟩ := RdI.at_ hr
 unfold maxLen at hcm
 have q0 := (b0.cell 0).trans rfl
 clear hb hr hlt
 have Xhm := hide hm
 have XhA := hide hA
 have XhY := hide hY
 have Xr0 := hide r0
 have Xb0 := hide b0
 have XhR := hide hR
 clear hm hA hY r0 b0 hR
 refine callsIn_of_wp Tryz.func92 rfl trivial ?_ rfl
 simp only [Tryz.ntmps92, List.size_toArray, List.length_cons, List.length_nil, Nat.reduceAdd, Nat.reduceSub, Array.replicate_succ, Array.replicate_zero, List.push_toArray, List.append_toArray, List.nil_append, List.cons_append]
 have hwr : IntKind.i64.wrap ((m : Int) - 1) = (m : Int) - 1 := by rw [IntKind.wrap_i64]; omega
 gi_wp2_with fail
 gi_loopw [3] (fun iv wr => ∃ j : Nat, j ≤ m ∧ iv = .int .i64 ((j : Int) - 1) ∧ Blk wr bx 33 #[.slice A m c] ∧ RdI wr R (.slice A m c) xs ∧ J ((bwd xs).take (m - j)) (fun _ => False) wr ∧ W.heap.size ≤ wr.heap.size) (fun iv _ => (intOf iv + 1).toNat)
 case atStart => exact ⟨m, Nat.le_refl _, by first | rfl | (rw [hwr]), Xb0.out, Xr0.out, by rw [Nat.sub_self, List.take_zero]; exact h0, Nat.le_refl _⟩
 case round =>
  clear Xb0 Xr0 h0 q0
  obtain ⟨j, hj, rfl, kb, rd, hJ, hz⟩ := hrel
  have q0 := (kb.cell 0).trans rfl
  by_cases hlj : 0 < j
  ·obtain ⟨i, rfl⟩ : ∃ i, j = i + 1 := ⟨j - 1, by omega⟩
   have e1 : ((i + 1 : Nat) : Int) - 1 = (i : Int) := by omega
   rw [e1]
   have hi0 : (0 : Int) ≤ (i : Int) := by omega
   have hi1 : (i : Int) < (m : Int) := by omega
   have hi2 : i < m := by omega
   have hw1 : IntKind.i64.wrap ((i : Int) - 1) = (i : Int) - 1 := by rw [IntKind.wrap_i64]; omega
   obtain ⟨-, -, -, hcell⟩ := RdI.at_ rd
   obtain ⟨b, off, rfl, hb, hcc⟩ := hcell (by omega)
   obtain ⟨x, hx⟩ : ∃ x, xs[i]? = some x := ⟨_, List.getElem?_eq_getElem (by rw [← Xhm.out]; exact hi2)⟩
   have hcx := hcc i x hx
   have hg := bwd_get hx
   rw [← Xhm.out] at hg
   have htk : (bwd xs).take (m - i) = (bwd xs).take (m - (i + 1)) ++ [((i : Int), x)] := by
    rw [show m - i = m - (i + 1) + 1 by omega, List.take_add_one, show m - (i + 1) = m - 1 - i by omega, hg]; rfl
   have hpre : (bwd xs).take (m - (i + 1)) ++ [((i : Int), x)] <+: bwd xs := by rw [← htk]; exact List.take_prefix _ _
   obtain ⟨fn, tmps, assign, body, hy, hR1⟩ := XhY.out _ _ ((i : Int), x) _ hJ (fun b h => h.elim) hpre
   dsimp only at hy
   clear hcc hcell hg hx hJ
   have XhR1 := hide hR1
   have Xkb := hide kb
   have Xrd := hide rd
   have Xhtk := hide htk
   have Xhpre := hide hpre
   clear hR1 kb rd htk hpre
   gi_wp2_with fail
   refine XhR1.out.mono ?_
   rintro e W3 (⟨rfl, hJ3, t3⟩ | ⟨rfl, hJx3, -⟩)
   ·have kb3 := Xkb.out.touch t3 (fun c => c.1 XhR.out)
    have rd3 := Rd.touch Xrd.out t3 (fun b hb c => c.1 hb)
    have hz3 := Nat.le_trans hz t3.size
    clear XhR1 t3
    have Xkb3 := hide kb3
    have Xrd3 := hide rd3
    have XhJ3 := hide hJ3
    clear kb3 rd3 hJ3
    gi_wp2_with fail
    go_roundw
    case rel => exact ⟨i, by omega, by first | rfl | (rw [hw1]), Xkb3.out, Xrd3.out, by rw [Xhtk.out]; exact XhJ3.out, hz3⟩
    case measure => simp [intOf]
   ·clear XhR1
    have XhJx3 := hide hJx3
    clear hJx3
    gi_wp2_with fail
    refine bodyPost_ret (results_none rfl _ _ _) rfl ?_
    exact ⟨⟨_, rfl⟩, .inr ⟨_, _, Xhpre.out, XhJx3.out⟩⟩
  ·obtain rfl : j = 0 := by omega
   have hall : (bwd xs).take (m - 0) = bwd xs := List.take_of_length_le (by have := bwd_len xs; have := Xhm.out; omega)
   rw [hall] at hJ
   clear kb rd hall
   have XhJ := hide hJ
   clear hJ
   gi_wp2_with fail
   go_end0
   exact ⟨⟨_, rfl⟩, .inl ⟨_, _, rfl, XhJ.out⟩⟩
end Go.Proofs.YtacankgalkffmaaGreat

/- conchref11.Sets in memory; in, begins. -/
import Derived.Test.YtejjaabkbkkjlaaFirstR1
import Derived.Test.YtejjaabkbkkjlaaFirst1
import Derived.Test.YtejjaabkbkkjlaaFirstPlain3
import Derived.Test.YtejjaabkbkkjlaaReads
namespace Go.Proofs.Ytejjaabkbkkjlaa
set_option linter.unusedVariables false
open Go.RowKit
attribute [local irreducible] wpStill wpOne wpPh

/-- where the sets lie -/
structure RD : Type where
  (s gi gb cb gh ch n m z : Nat)
  psb : Nat → Nat
  psh : Nat → Nat
  A1 : Option Addr
  (T c1 : Nat)
  A2 : Option Addr
  (N c2 : Nat)
  A3 : Option Addr
  (R c3 : Nat)
  st : Int
  F : Nat → Prop
structure RSets (w : World) (q : RD) (G : GramD) (e : Nat → Bool) (bg bh : Nat → Nat → Bool) : Prop where
  blk : Blk w q.s 117 #[.slice q.A1 q.T q.c1, .slice q.A2 q.N q.c2, .slice q.A3 q.R q.c3, .int .i64 q.st, RowV q.gi q.n, .slice (some ⟨q.gb, 0, none⟩) q.n q.cb, .slice (some ⟨q.gh, 0, none⟩) q.n q.ch]
  gram : IsGram w q.F (.slice q.A1 q.T q.c1) (.slice q.A2 q.N q.c2) (.slice q.A3 q.R q.c3) G
  can : BSet w q.gi q.n e
  bgn : BFam w q.gb q.n q.m q.psb bg
  bhd : BFam w q.gh q.n q.m q.psh bh
  cap : ((q.n ≤ q.cb ∧ q.cb ≤ 9223372036854775807) ∧ q.n ≤ q.ch ∧ q.ch ≤ 9223372036854775807) ∧ q.T ≤ q.c1 ∧ q.c1 ≤ 9223372036854775807
  mT : q.m = q.T + 1
  nG : q.n = topN G ∧ q.T = G.terms.length
  sz : q.n ≤ 4096 ∧ q.m ≤ 4096 ∧ q.T < q.n
  lo : ∀ k, q.F k → k < q.z
  zs : q.z ≤ q.s ∧ q.z ≤ q.gi ∧ q.z ≤ q.gb ∧ q.z ≤ q.gh ∧ ∀ i, i < q.n → q.z ≤ q.psb i ∧ q.z ≤ q.psh i
  hi : q.gi < q.s ∧ q.gb < q.s ∧ q.gh < q.s ∧ ∀ i, i < q.n → q.psb i < q.s ∧ q.psh i < q.s
  ne : (q.gi ≠ q.gb ∧ q.gi ≠ q.gh) ∧ ∀ i, i < q.n → q.psb i ≠ q.gi ∧ q.psb i ≠ q.gh ∧ q.psh i ≠ q.gi ∧ q.psh i ≠ q.gb ∧ ∀ j, j < q.n → q.psb i ≠ q.psh j
section
variable {w w' : World} {q : RD} {G : GramD} {e e' : Nat → Bool} {bg bh : Nat → Nat → Bool} {S : Nat → Prop}
theorem RSets.touch (h : RSets w q G e bg bh) (ht : Touch S w w') (hS : ∀ k, S k → q.s < k) : RSets w' q G e bg bh := by
  obtain ⟨z1, z2, z3, z4, z5⟩ := h.zs
  obtain ⟨i1, i2, i3, i4⟩ := h.hi
  have fs : ∀ k, k ≤ q.s → ¬ S k := fun k h1 hk => by have := hS k hk; omega
  exact ⟨h.blk.touch ht (fs _ (Nat.le_refl _)), h.gram.touch ht (fun k hk => fs k (by have := h.lo k hk; omega)), h.can.touch ht (fs _ (by omega)), h.bgn.touch ht (fs _ (by omega)) (fun i hi => fs _ (by have := i4 i hi; omega)), h.bhd.touch ht (fs _ (by omega)) (fun i hi => fs _ (by have := i4 i hi; omega)), h.cap, h.mT, h.nG, h.sz, h.lo, h.zs, h.hi, h.ne⟩
theorem RSets.below (h : RSets w q G e bg bh) (hb : Below w.heap.size w w') : RSets w' q G e bg bh := h.touch (Touch.of_size hb (fun _ => False)) fun _ h => h.elim
theorem RSets.putE (h : RSets w q G e bg bh) (hs : BSet w' q.gi q.n e') (ht : Touch (fun k => k = q.gi) w w') : RSets w' q G e' bg bh := by
  obtain ⟨z1, z2, z3, z4, z5⟩ := h.zs
  obtain ⟨i1, i2, i3, i4⟩ := h.hi
  obtain ⟨⟨n1, n2⟩, n3⟩ := h.ne
  exact ⟨h.blk.touch ht (by omega), h.gram.touch ht (fun k hk e => by have := h.lo k hk; omega), hs, h.bgn.touch ht (fun e => n1 e.symm) (fun i hi e => (n3 i hi).1 e), h.bhd.touch ht (fun e => n2 e.symm) (fun i hi e => (n3 i hi).2.2.1 e), h.cap, h.mT, h.nG, h.sz, h.lo, h.zs, h.hi, h.ne⟩
theorem RSets.putB (h : RSets w q G e bg bh) {i : Nat} (hi : i < q.n) {f : Nat → Bool} (hs : BSet w' (q.psb i) q.m f) (ht : Touch (fun k => k = q.psb i) w w') : RSets w' q G e (setF bg i f) bh := by
  obtain ⟨z1, z2, z3, z4, z5⟩ := h.zs
  obtain ⟨i1, i2, i3, i4⟩ := h.hi
  obtain ⟨⟨n1, n2⟩, n3⟩ := h.ne
  have hi4 := i4 i hi
  have hz5 := z5 i hi
  obtain ⟨m1, m2, m3, m4, m5⟩ := n3 i hi
  exact ⟨h.blk.touch ht (by omega), h.gram.touch ht (fun k hk e => by have := h.lo k hk; omega), h.can.touch ht (fun e => m1 e.symm), h.bgn.put hi hs ht, h.bhd.touch ht (fun e => m2 e.symm) (fun j hj e => m5 j hj e.symm), h.cap, h.mT, h.nG, h.sz, h.lo, h.zs, h.hi, h.ne⟩
theorem RSets.putH (h : RSets w q G e bg bh) {i : Nat} (hi : i < q.n) {f : Nat → Bool} (hs : BSet w' (q.psh i) q.m f) (ht : Touch (fun k => k = q.psh i) w w') : RSets w' q G e bg (setF bh i f) := by
  obtain ⟨z1, z2, z3, z4, z5⟩ := h.zs
  obtain ⟨i1, i2, i3, i4⟩ := h.hi
  obtain ⟨⟨n1, n2⟩, n3⟩ := h.ne
  have hi4 := i4 i hi
  have hz5 := z5 i hi
  obtain ⟨m1, m2, m3, m4, m5⟩ := n3 i hi
  exact ⟨h.blk.touch ht (by omega), h.gram.touch ht (fun k hk e => by have := h.lo k hk; omega), h.can.touch ht (fun e => m3 e.symm), h.bgn.touch ht (fun e => m4 e.symm) (fun j hj e => (n3 j hj).2.2.2.2 i hi e), h.bhd.put hi hs ht, h.cap, h.mT, h.nG, h.sz, h.lo, h.zs, h.hi, h.ne⟩
theorem RSets.cells (h : RSets w q G e bg bh) : (w.cell? ⟨q.s, 0, none⟩ = some (.slice q.A1 q.T q.c1) ∧ w.cell? ⟨q.s, 1, none⟩ = some (.slice q.A2 q.N q.c2) ∧ w.cell? ⟨q.s, 2, none⟩ = some (.slice q.A3 q.R q.c3) ∧ w.cell? ⟨q.s, 3, none⟩ = some (.int .i64 q.st)) ∧ w.cell? ⟨q.s, 4, none⟩ = some (RowV q.gi q.n) ∧ w.cell? ⟨q.s, 5, none⟩ = some (.slice (some ⟨q.gb, 0, none⟩) q.n q.cb) ∧ w.cell? ⟨q.s, 6, none⟩ = some (.slice (some ⟨q.gh, 0, none⟩) q.n q.ch) :=
  ⟨⟨(h.blk.cell 0).trans rfl, (h.blk.cell 1).trans rfl, (h.blk.cell 2).trans rfl, (h.blk.cell 3).trans rfl⟩, (h.blk.cell 4).trans rfl, (h.blk.cell 5).trans rfl, (h.blk.cell 6).trans rfl⟩
theorem RSets.hiB (h : RSets w q G e bg bh) : ∀ i t, i < q.n → q.m ≤ t → bg i t = false := fun i t hi ht => (h.bgn.set i hi).high t ht
theorem RSets.hiH (h : RSets w q G e bg bh) : ∀ i t, i < q.n → q.m ≤ t → bh i t = false := fun i t hi ht => (h.bhd.set i hi).high t ht
theorem RSets.extB {bg' : Nat → Nat → Bool} (h : RSets w q G e bg bh) (hb : ∀ i, i < q.n → bg' i = bg i) : RSets w q G e bg' bh := ⟨h.blk, h.gram, h.can, h.bgn.ext hb, h.bhd, h.cap, h.mT, h.nG, h.sz, h.lo, h.zs, h.hi, h.ne⟩
theorem RSets.extH {bh' : Nat → Nat → Bool} (h : RSets w q G e bg bh) (hb : ∀ i, i < q.n → bh' i = bh i) : RSets w q G e bg bh' := ⟨h.blk, h.gram, h.can, h.bgn, h.bhd.ext hb, h.cap, h.mT, h.nG, h.sz, h.lo, h.zs, h.hi, h.ne⟩
end

theorem ref11_in_nil (x : Int) (w : World) : Calls Try.prog 123 #[.pointer none, .int .i64 x] w (fun e w' => e = .returned (.bool false) ∧ w = w') := by
  go_enter Try.func123, Try.ntmps123
  go_wp2_with fail
  go_ret
  exact ⟨rfl, rfl⟩
theorem ref11_in {w : World} {q : RD} {G : GramD} {e : Nat → Bool} {bg bh : Nat → Nat → Bool} (h : RSets w q G e bg bh) (x : Int) : Calls Try.prog 123 #[PtrV q.s, .int .i64 x] w (fun e w' => e = .returned (.bool (decide (0 ≤ x) && decide (x < q.n))) ∧ w = w') := by
  have s4 := h.cells.2.1
  clear h
  go_enter Try.func123, Try.ntmps123
  by_cases h0 : 0 ≤ x
  · by_cases h1 : x < (q.n : Int)
    · go_wp2_with fail
      go_ret
      exact ⟨ret_bool (by symm; simp <;> omega), rfl⟩
    · go_wp2_with fail
      go_ret
      exact ⟨ret_bool (by symm; simp <;> omega), rfl⟩
  · go_wp2_with fail
    go_ret
    exact ⟨ret_bool (by symm; simp <;> omega), rfl⟩

def BegPost (w : World) (m : Nat) (f : Nat → Bool) (all : Bool) (e : Ending) (w' : World) : Prop := ∃ b, e = .returned (.tuple #[RowV b m, .bool all]) ∧ BSet w' b m f ∧ w.heap.size ≤ b ∧ Below w.heap.size w w'
set_option maxRecDepth 100000 in
set_option maxHeartbeats 4000000 in
theorem ref11_begins {w : World} {q : RD} {G : GramD} {e : Nat → Bool} {bg bh : Nat → Nat → Bool} (h : RSets w q G e bg bh) {F : Nat → Prop} {v : Value} {l : List Int} (hl : RdI w F v l) (hF : ∀ k, F k → k < w.heap.size) :
    Calls Try.prog 120 #[PtrV q.s, v] w (BegPost w q.m (lineB (hasI q.n e) (famI q.n bg) l) (l.all (hasI q.n e))) := by
  obtain ⟨A, p, d, rfl, -⟩ := id hl
  obtain ⟨hn, hnd, hdm, hcell⟩ := RdI.at_ hl
  unfold maxLen at hdm
  have hsz := h.sz
  have hmT := h.mT
  have hmk1 := make_bools q.m (by omega) w
  obtain ⟨w1, hw1⟩ : ∃ w1, w1 = w.alloc (.cells (madeCells #[.bool false] q.m) 4) := ⟨_, rfl⟩
  have b1 : Below w.heap.size w w1 := by rw [hw1]; exact (Below.refl _ _).alloc (Nat.le_refl _) _
  have hb1 : BSet w1 w.heap.size q.m noBits := by rw [hw1]; exact BSet.new w q.m
  rw [← hw1, show ((q.m : Nat) : Int) = (q.T : Int) + 1 by omega] at hmk1
  have h1 := h.below b1
  have hsw := h.blk.lt
  have hwT : IntKind.i64.wrap ((q.T : Int) + 1) = (q.T : Int) + 1 := by rw [IntKind.wrap_i64]; omega
  obtain ⟨⟨s0, -⟩, -⟩ := h.cells
  obtain ⟨hcap, hT1, hT2⟩ := h.cap
  clear h hsz hw1 hcap
  have hmm : q.m ≤ 4096 := h1.sz.2.1
  have Xhn := hide hn
  have Xhl := hide hl
  have XhF := hide hF
  have Xh1 := hide h1
  have Xhb1 := hide hb1
  have Xb1 := hide b1
  have XhmT := hide hmT
  have Xhsw := hide hsw
  have Xhmm := hide hmm
  clear hn hl hF h1 hb1 b1 hmT hsw hmm
  go_enter Try.func120, Try.ntmps120
  go_wp2_with fail
  clear s0 hmk1 hT1 hT2
  go_loopw [7] (fun i wr => ∃ k : Nat, k ≤ p ∧ i = .int .i64 k ∧ (l.take k).all (hasI q.n e) = true ∧ RSets wr q G e bg bh ∧ BSet wr w.heap.size q.m (lineB (hasI q.n e) (famI q.n bg) (l.take k)) ∧ Touch (fun k => k = w.heap.size) w1 wr) (fun i _ => p - (intOf i).toNat)
  case atStart => exact ⟨0, Nat.zero_le _, rfl, rfl, Xh1.out, Xhb1.out, Touch.refl _ _⟩
  case round =>
    clear Xh1 Xhb1
    obtain ⟨k, hk, rfl, hall, hS, hB, ht⟩ := hrel
    have hbel : Below w.heap.size w wr := Xb1.out.trans (ht.below (fun k hk _ e => by omega) Xb1.out.size)
    by_cases hlt : k < p
    · have hlt' : (k : Int) < (p : Int) := by omega
      obtain ⟨bb, off, rfl, hFb, hc1⟩ := hcell (by omega)
      obtain ⟨x, hx⟩ : ∃ x, l[k]? = some x := ⟨_, List.getElem?_eq_getElem (by rw [← Xhn.out]; exact hlt)⟩
      have hcx := (hbel.cell (p := ⟨bb, off + k, none⟩) (XhF.out _ hFb)).trans (hc1 k x hx)
      have ci := ref11_in hS x
      clear hcell hc1
      by_cases hin : 0 ≤ x ∧ x < (q.n : Int)
      case neg =>
        have hsy : (decide (0 ≤ x) && decide (x < (q.n : Int))) = false := by
          rw [Bool.and_eq_false_iff, decide_eq_false_iff_not, decide_eq_false_iff_not]; omega
        rw [hsy] at ci
        have hno : x < 0 ∨ (q.n : Int) ≤ x := by omega
        have he : hasI q.n e x = false := hasI_no hno
        have hff : lineB (hasI q.n e) (famI q.n bg) l = lineB (hasI q.n e) (famI q.n bg) (l.take k) := by
          funext t
          rw [lineB_stop hx he, take_get hx, lineB_snoc hall, famI_no hno]
          simp
        have fin : BegPost w q.m (lineB (hasI q.n e) (famI q.n bg) l) (l.all (hasI q.n e)) (.returned (.tuple #[RowV w.heap.size q.m, .bool false])) wr := ⟨_, by rw [all_stop hx he], by rw [hff]; exact hB, Nat.le_refl _, hbel⟩
        clear hin hno hff he
        have Xfin := hide fin
        have Xci := hide ci
        have Xhx := hide hx
        have Xhall := hide hall
        have XhS := hide hS
        have XhB := hide hB
        have Xht := hide ht
        have Xhbel := hide hbel
        have Xhsy := hide hsy
        clear fin ci hx hall hS hB ht hbel hsy
        go_wp2_with fail
        refine Xci.out.mono ?_
        rintro ee w2 ⟨rfl, rfl⟩
        go_wp2_with fail
        go_ret2
        exact Xfin.out
      case pos =>
        have hsy : (decide (0 ≤ x) && decide (x < (q.n : Int))) = true := by rw [decide_eq_true hin.1, decide_eq_true hin.2]; rfl
        rw [hsy] at ci
        obtain ⟨i, rfl⟩ := Int.eq_ofNat_of_zero_le hin.1
        have hi2 := hin.2
        have hi : i < q.n := by omega
        have hSd := hS.below ((Below.refl _ wr).drew)
        have hne : w.heap.size ≠ q.psb i := by have := hS.hi.2.2.2 i hi; have := Xhsw.out; omega
        have cp := ref11_put (w := wr.drew) (hB.below ((Below.refl _ wr).drew)) (hSd.bgn.set i hi) Xhmm.out (fun e => absurd e hne)
        obtain ⟨-, s4, s5, s6⟩ := hS.cells
        have hpi := hS.bgn.cell i hi
        obtain ⟨⟨⟨hc1, hc2⟩, -⟩, -⟩ := hS.cap
        have hf2 : (fun t => lineB (hasI q.n e) (famI q.n bg) (l.take k) t || bg i t) = lineB (hasI q.n e) (famI q.n bg) (l.take (k + 1)) := by
          funext t
          rw [take_get hx, lineB_snoc hall, famI_nat hi]
        rw [hf2] at cp
        unfold RowPutPost at cp
        generalize moreB q.m (lineB (hasI q.n e) (famI q.n bg) (l.take k)) (lineB (hasI q.n e) (famI q.n bg) (l.take (k + 1))) = mo at cp
        have hstop : hasI q.n e (i : Int) = false → lineB (hasI q.n e) (famI q.n bg) l = lineB (hasI q.n e) (famI q.n bg) (l.take (k + 1)) ∧ l.all (hasI q.n e) = false := fun he => ⟨by funext t; exact lineB_stop hx he, all_stop hx he⟩
        have hnext : hasI q.n e (i : Int) = true → (l.take (k + 1)).all (hasI q.n e) = true := fun he => all_take hx hall he
        clear hin hsy hf2
        have Xci := hide ci
        have Xhx := hide hx
        have Xhall := hide hall
        have XhS := hide hS
        have XhB := hide hB
        have Xht := hide ht
        have Xhbel := hide hbel
        have XhSd := hide hSd
        have Xcp := hide cp
        have Xhne := hide hne
        have Xhstop := hide hstop
        have Xhnext := hide hnext
        clear ci hx hall hS hB ht hbel hSd cp hne hstop hnext
        go_wp2_with fail
        refine Xci.out.mono ?_
        rintro ee w2 ⟨rfl, rfl⟩
        go_wp2_with fail
        refine region_tail 11 (by kernel_rfl) (by kernel_rfl) ?_
        simp only [List.take_succ_cons, List.take_zero, List.drop_succ_cons, List.drop_zero]
        repeat still_step
        refine wpStill_nil ?_
        go_wp2_with fail
        with_reducible refine Xcp.out.mono ?_
        rintro ee w3 ⟨rfl, hs3, t3⟩
        have hS3 := XhSd.out.touch t3 (fun k hk => by have := Xhsw.out; omega)
        have ht3 := (Xht.out.drew).trans' t3
        have hb3 : Below w.heap.size w w3 := Xb1.out.trans (ht3.below (fun k hk _ e => by omega) Xb1.out.size)
        have hcx3 := (hb3.cell (p := ⟨bb, off + k, none⟩) (XhF.out _ hFb)).trans ((Xhbel.out.cell (p := ⟨bb, off + k, none⟩) (XhF.out _ hFb)).symm.trans hcx)
        have s43 := hS3.cells.2.1
        have he3 := hS3.can.cell hi
        clear s4 s5 s6 hpi hcx t3 XhS XhB Xht Xhbel XhSd Xcp Xci
        cases he : e i with
        | false =>
          obtain ⟨e1, e2⟩ := Xhstop.out (by rw [hasI_nat hi]; exact he)
          rw [he] at he3
          have fin : BegPost w q.m (lineB (hasI q.n e) (famI q.n bg) l) (l.all (hasI q.n e)) (.returned (.tuple #[RowV w.heap.size q.m, .bool false])) w3.drew := ⟨_, by rw [e2], by rw [e1]; exact hs3.below ((Below.refl _ _).drew), Nat.le_refl _, hb3.drew⟩
          clear e1 e2 hb3 ht3
          have Xfin := hide fin
          have Xhs3 := hide hs3
          have XhS3 := hide hS3
          have Xhe := hide he
          clear fin hs3 hS3 he
          go_wp2_with fail
          refine region_reads (by kernel_rfl) (by kernel_rfl) ?_
          repeat still_step
          refine wpStill_nil ?_
          go_wp2_with fail
          go_ret2
          exact Xfin.out
        | true =>
          have hall2 := Xhnext.out (by rw [hasI_nat hi]; exact he)
          rw [he] at he3
          have hS4 := hS3.below ((Below.refl _ _).drew)
          have hs4 := hs3.below ((Below.refl _ w3).drew)
          have ht4 := ht3.drew
          clear hb3 ht3
          have XhS3 := hide hS3
          have Xhe := hide he
          have Xhall2 := hide hall2
          have XhS4 := hide hS4
          have Xhs4 := hide hs4
          have Xht4 := hide ht4
          have Xhs3 := hide hs3
          clear hS3 he hall2 hS4 hs4 ht4 hs3
          go_wp2_with fail
          refine region_reads (by kernel_rfl) (by kernel_rfl) ?_
          repeat still_step
          refine wpStill_nil ?_
          go_wp2_with fail
          go_roundw
          case rel => exact ⟨k + 1, by omega, by go_num, Xhall2.out, XhS4.out, Xhs4.out, Xht4.out⟩
          case measure => simp [intOf]; omega
    · have hkq : k = p := by omega
      have hlt' : ¬ (k : Int) < (p : Int) := by omega
      have hk2 : l.take k = l := List.take_of_length_le (by have := Xhn.out; omega)
      rw [hk2] at hB hall
      have fin : BegPost w q.m (lineB (hasI q.n e) (famI q.n bg) l) (l.all (hasI q.n e)) (.returned (.tuple #[RowV w.heap.size q.m, .bool true])) wr := ⟨_, by rw [hall], hB, Nat.le_refl _, hbel⟩
      have Xfin := hide fin
      have Xhall := hide hall
      have XhS := hide hS
      have XhB := hide hB
      have Xht := hide ht
      have Xhbel := hide hbel
      have Xhk2 := hide hk2
      clear fin hall hS hB ht hbel hk2
      clear hkq
      go_wp2_with fail
      go_ret2
      exact Xfin.out
end Go.Proofs.Ytejjaabkbkkjlaa

/- conchref11.Sets.behind. -/
import Derived.Test.YtejjaabkbkkjlaaFirstR1
import Derived.Test.YtejjaabkbkkjlaaLeast1
namespace Go.Proofs.Ytejjaabkbkkjlaa
set_option linter.unusedVariables false
open Go.RowKit
attribute [local irreducible] wpStill wpOne wpPh

def RHPost (w : World) (q : RD) (G : GramD) (e : Nat → Bool) (bg bh : Nat → Nat → Bool) (l : Int) (xs : List Int) (ee : Ending) (w' : World) : Prop :=
  ∃ bh' m, ee = .returned (.bool m) ∧ RSets w' q G e bg bh' ∧ HStep G.terms.length (topOf G) q.n q.m (hasI q.n e) (famI q.n bg) bh l xs xs.length bh' m ∧ Touch (fun k => ∃ i, i < q.n ∧ k = q.psh i) w w'

set_option maxRecDepth 100000 in
set_option maxHeartbeats 8000000 in
theorem ref11_behind {w : World} {q : RD} {G : GramD} {e : Nat → Bool} {bg bh : Nat → Nat → Bool} (h : RSets w q G e bg bh) {F : Nat → Prop} {v : Value} {l : Int} {xs : List Int} (hl : RdI w F v xs) (hF : ∀ k, F k → k < q.z) (hlr : 0 ≤ l ∧ l < q.n) (hxr : ∀ x ∈ xs, 1 ≤ x ∧ x < q.n) :
    Calls Try.prog 122 #[PtrV q.s, .agg #[.int .i64 l, v]] w (RHPost w q G e bg bh l xs) := by
  obtain ⟨li, rfl⟩ := Int.eq_ofNat_of_zero_le hlr.1
  have hli : li < q.n := by omega
  have hli2 : (li : Int) < (q.n : Int) := by omega
  clear hlr
  obtain ⟨A, nx, d, rfl, -⟩ := id hl
  obtain ⟨hn, hnd, hdm, hcell⟩ := RdI.at_ hl
  unfold maxLen at hdm
  obtain ⟨w1, hw1⟩ : ∃ w1, w1 = w.alloc (.cells #[.int .i64 (li : Int), .slice A nx d] 30) := ⟨_, rfl⟩
  have b1 : Below w.heap.size w w1 := by rw [hw1]; exact (Below.refl _ w).alloc (Nat.le_refl _) _
  have k1 : Blk w1 w.heap.size 30 #[.int .i64 (li : Int), .slice A nx d] := by rw [hw1]; exact Blk.new _ _ _
  have h1 := h.below b1
  have hsw := h.blk.lt
  have hF1 : ∀ k, F k → k < w.heap.size := fun k hk => by have := hF k hk; have := h.zs.1; omega
  have hF2 : ∀ k, F k → k < w1.heap.size := fun k hk => by have := hF1 k hk; have := b1.size; omega
  have hl1 : RdI w1 F (.slice A nx d) xs := hl.below b1 hF1
  have far : ∀ k, F k → ¬ (∃ i, i < q.n ∧ k = q.psh i) := fun k hk e => by obtain ⟨i, hi, rfl⟩ := e; have := hF _ hk; have := (h.zs.2.2.2.2 i hi).2; omega
  have c1 := (k1.cell 1).trans rfl
  rw [hw1] at c1
  clear h hF
  have Xhn := hide hn
  have Xhl := hide hl
  have Xk1 := hide k1
  have Xh1 := hide h1
  have Xhl1 := hide hl1
  have Xb1 := hide b1
  have Xhsw := hide hsw
  have XhF1 := hide hF1
  have XhF2 := hide hF2
  have Xfar := hide far
  have Xhxr := hide hxr
  clear hn hl k1 h1 hl1 b1 hsw hF1 hF2 far hxr
  go_enter Try.func122, Try.ntmps122
  go_wp2_with fail
  rw [← hw1]
  clear c1 hw1
  go_loopw [5, 6] (fun mo i wr => ∃ (k : Nat) (bh' : Nat → Nat → Bool) (m : Bool), k ≤ nx ∧ i = .int .i64 k ∧ mo = .bool m ∧ RSets wr q G e bg bh' ∧ HStep G.terms.length (topOf G) q.n q.m (hasI q.n e) (famI q.n bg) bh (li : Int) xs k bh' m ∧ Touch (fun k => ∃ i, i < q.n ∧ k = q.psh i) w1 wr) (fun _ i _ => nx - (intOf i).toNat)
  case atStart => exact ⟨0, bh, false, Nat.zero_le _, rfl, rfl, Xh1.out, HStep.zero _ _ _ _ _ _ _ _ _, Touch.refl _ _⟩
  case round =>
    obtain ⟨k, bh', m, hk, rfl, rfl, hS, hst, ht⟩ := hrel
    have kr := Xk1.out.touch ht (fun hk => by obtain ⟨j, hj, e⟩ := hk; have := hS.hi.2.2.2 j hj; have := Xhsw.out; omega)
    have kr1 := (kr.cell 1).trans rfl
    by_cases hlt : k < nx
    · have hlt' : (k : Int) < (nx : Int) := by omega
      obtain ⟨bb, off, rfl, hFb, hc1⟩ := hcell (by omega)
      obtain ⟨x, hx⟩ : ∃ x, xs[k]? = some x := ⟨_, List.getElem?_eq_getElem (by rw [← Xhn.out]; exact hlt)⟩
      have hcxx : ∀ w', Touch (fun k => ∃ i, i < q.n ∧ k = q.psh i) w1 w' → w'.cell? ⟨bb, off + k, none⟩ = some (.int .i64 x) := fun w' t => t.cell ((Xb1.out.cell (p := ⟨bb, off + k, none⟩) (XhF1.out _ hFb)).trans (hc1 k x hx)) (Xfar.out _ hFb)
      have hcx := hcxx wr ht
      obtain ⟨⟨s0, s1, s2, s3⟩, -⟩ := hS.cells
      have hxx := Xhxr.out x (List.mem_of_getElem? hx)
      obtain ⟨i, rfl⟩ := Int.eq_ofNat_of_zero_le (show 0 ≤ x by omega)
      have hi : i < q.n := by omega
      have hi2 : (i : Int) < (q.n : Int) := by omega
      have hSd := hS.below ((Below.refl _ wr).drew)
      have cnn := ref_non hSd.gram q.st (i : Int)
      have hnb := nonB_isNon (G := G) (x := (i : Int))
      rw [← hnb] at cnn
      obtain ⟨nb, hnon⟩ : ∃ nb, nb = nonB G.terms.length (topOf G) (i : Int) := ⟨_, rfl⟩
      rw [← hnon] at cnn
      clear hcell hc1 hxx kr hnb
      have Xhx := hide hx
      have XhS := hide hS
      have Xht := hide ht
      have Xhcxx := hide hcxx
      have XhSd := hide hSd
      have Xcnn := hide cnn
      have Xhst := hide hst
      have Xhnon := hide hnon
      clear hx hS ht hcxx hSd cnn hst hnon
      go_wp2_with fail
      refine region_tail 9 (by kernel_rfl) (by kernel_rfl) ?_
      simp only [List.take_succ_cons, List.take_zero, List.drop_succ_cons, List.drop_zero]
      repeat still_step
      refine wpStill_nil ?_
      go_wp2_with fail
      with_reducible refine Xcnn.out.mono ?_
      rintro ee w2 ⟨rfl, b2⟩
      have hS2 := XhSd.out.below b2
      have ht2 := (Xht.out.drew).trans' ((Touch.of_size b2 (fun _ => False)).mono fun _ _ h => h.elim)
      clear s0 s1 s2 s3 hcx kr1 XhS XhSd Xcnn
      cases nb with
      | false =>
        have hst2 := Xhst.out.skip Xhx.out Xhnon.out.symm
        clear b2
        have Xhst2 := hide hst2
        have XhS2 := hide hS2
        have Xht2 := hide ht2
        clear hst2 hS2 ht2
        go_wp2_with fail
        go_roundw
        case rel => exact ⟨k + 1, bh', m, by omega, by go_num, rfl, XhS2.out, Xhst2.out, Xht2.out⟩
        case measure => simp [intOf]; omega
      | true =>
        have hst := Xhst.out
        have hnon := Xhnon.out.symm
        clear Xhst Xhnon
        obtain ⟨⟨s0, s1, s2, s3⟩, -⟩ := hS2.cells
        obtain ⟨⟨-, kc1, kc2⟩, -⟩ := hS2.cap
        have hnk : (k : Int) + 1 ≤ (nx : Int) := by omega
        have hw63 : IntKind.i64.wrap ((k : Int) + 1) = (k : Int) + 1 := by rw [IntKind.wrap_i64]; omega
        have htn : ((k : Int) + 1).toNat = k + 1 := by omega
        have h0k : (0 : Int) ≤ (k : Int) + 1 := by omega
        have hrt := RdI.tail (Rd.touch Xhl1.out ht2 Xfar.out) (k := k + 1) (by omega)
        obtain ⟨A', hA'⟩ : ∃ A' : Option Addr, (if d = k + 1 then (some ⟨bb, off, none⟩ : Option Addr) else some ⟨bb, off + (k + 1), none⟩) = A' := ⟨_, rfl⟩
        rw [hA'] at hrt
        have cb := fun wq (hb : Below w2.heap.size w2 wq) => ref11_begins (hS2.below hb) (hrt.below hb (fun k hk => Nat.lt_of_lt_of_le (XhF2.out k hk) (Nat.le_trans Xht.out.size b2.size))) (fun k hk => Nat.lt_of_lt_of_le (XhF2.out k hk) (Nat.le_trans (Nat.le_trans Xht.out.size b2.size) hb.size))
        have cb2 := cb w2 (Below.refl _ _)
        obtain ⟨f, hf⟩ : ∃ f, f = joinL (bh' i) (hasI q.n e) (famI q.n bg) (xs.drop (k + 1)) := ⟨_, rfl⟩
        obtain ⟨m1, hm1⟩ : ∃ m1, m1 = moreB q.m (bh' i) f := ⟨_, rfl⟩
        obtain ⟨al, hal⟩ : ∃ al, al = (xs.drop (k + 1)).all (hasI q.n e) := ⟨_, rfl⟩
        obtain ⟨g, hg⟩ : ∃ g, g = lineB (hasI q.n e) (famI q.n bg) (xs.drop (k + 1)) := ⟨_, rfl⟩
        have hfg : f = fun t => bh' i t || g t := by rw [hf, hg]; rfl
        rw [← hg, ← hal] at cb2
        have hp := hS2.bhd.cell i hi
        have hb1 := ((Xk1.out.touch ht2 (fun hk => by obtain ⟨j, hj, e⟩ := hk; have := hS2.hi.2.2.2 j hj; have := Xhsw.out; omega)).cell 1).trans rfl
        clear b2 cb
        have Xhst := hide hst
        have XhS2 := hide hS2
        have Xht2 := hide ht2
        have Xhnon := hide hnon
        have Xhrt := hide hrt
        have Xcb2 := hide cb2
        have Xhf := hide hf
        have Xhm1 := hide hm1
        have Xhal := hide hal
        have Xhg := hide hg
        have Xhfg := hide hfg
        clear hst hS2 ht2 hnon hrt cb2 hf hm1 hal hg hfg
        go_wp2_with fail
        refine Xcb2.out.mono ?_
        rintro ee w3 ⟨b, rfl, hs3, hbl, b3⟩
        have hS3 := XhS2.out.below b3
        have hS3d := hS3.below ((Below.refl _ w3).drew)
        have hs3d := hs3.below ((Below.refl _ w3).drew)
        have ht3 := Xht2.out.trans' ((Touch.of_size (b3.trans ((Below.refl _ w3).drew.mono b3.size)) (fun _ => False)).mono fun _ _ h => h.elim)
        have hsb : q.psh i < b := by have := hS3.hi.2.2.2 i hi; have := XhS2.out.blk.lt; omega
        have cp := ref11_put (hS3d.bhd.set i hi) hs3d hS3.sz.2.1 (fun e => by omega)
        rw [← Xhfg.out] at cp
        unfold RowPutPost at cp
        rw [← Xhm1.out] at cp
        obtain ⟨-, s4, s5, s6⟩ := hS3.cells
        have hp := hS3.bhd.cell i hi
        have hb3 := ((Xk1.out.touch ht3 (fun hk => by obtain ⟨j, hj, e⟩ := hk; have := hS3.hi.2.2.2 j hj; have := Xhsw.out; omega)).cell 1).trans rfl
        have hcx3 := (Xhcxx.out w3.drew ht3)
        have hhi := XhS2.out.hiH
        have hhb : ∀ t, q.m ≤ t → lineB (hasI q.n e) (famI q.n bg) (xs.drop (k + 1)) t = false := fun t ht => lineB_high XhS2.out.hiB ht
        have hnp : topOf G < q.n := by rw [hS3.nG.1]; unfold topOf topN; omega
        clear hb1 s0 s1 s2 s3 hbl b3 hS3 hs3 Xcb2 Xhrt
        have Xcp := hide cp
        have XhS3d := hide hS3d
        have Xhs3d := hide hs3d
        have Xht3 := hide ht3
        have Xhhi := hide hhi
        have Xhhb := hide hhb
        have Xhnp := hide hnp
        clear cp hS3d hs3d ht3 hhi hhb hnp
        go_wp2_with fail
        refine region_tail 12 (by kernel_rfl) (by kernel_rfl) ?_
        simp only [List.take_succ_cons, List.take_zero, List.drop_succ_cons, List.drop_zero]
        repeat still_step
        refine wpStill_nil ?_
        go_wp2_with fail
        with_reducible refine Xcp.out.mono ?_
        rintro ee w4 ⟨rfl, hs4, t4⟩
        have hS4 := XhS3d.out.putH hi hs4 t4
        have ht4 := Xht3.out.trans t4 (fun j _ hj => ⟨i, hi, hj⟩)
        clear s4 s5 s6 hp hb3 hcx3 hs4 t4 Xcp XhS3d Xhs3d Xht3
        have hb4 := Xk1.out.touch ht4 (fun hk => by obtain ⟨j, hj, e⟩ := hk; have := hS4.hi.2.2.2 j hj; have := Xhsw.out; omega)
        have hb41 := (hb4.cell 1).trans rfl
        have hb40 := (hb4.cell 0).trans rfl
        obtain ⟨-, s4, s5, s6⟩ := hS4.cells
        have hp := hS4.bhd.cell i hi
        have hp2 := hS4.bhd.cell li hli
        have hcx4 := (Xhcxx.out w4 ht4)
        cases al with
        | false =>
          have hpart := Xhst.out.part Xhx.out Xhnon.out Xhnp.out Xhhi.out Xhhb.out Xhal.out.symm
          rw [Int.toNat_natCast, ← Xhf.out, ← Xhm1.out] at hpart
          have hS5 := hS4.below ((Below.refl _ w4).drew)
          have ht5 := ht4.drew
          clear hS4 ht4 hb4
          cases m1
          all_goals
            simp only [Bool.or_false, Bool.or_true] at hpart
            have Xhpart := hide hpart
            have XhS5 := hide hS5
            have Xht5 := hide ht5
            clear hpart hS5 ht5
            go_wp2_with fail
            refine region_tail 21 (by kernel_rfl) (by kernel_rfl) ?_
            simp only [List.take_succ_cons, List.take_zero, List.drop_succ_cons, List.drop_zero]
            repeat still_step
            refine wpStill_nil ?_
            go_wp2_with fail
            go_roundw
            case rel => exact ⟨k + 1, _, _, by omega, by go_num, rfl, XhS5.out, Xhpart.out, Xht5.out⟩
            case measure => simp [intOf]; omega
        | true =>
          obtain ⟨f2, hf2⟩ : ∃ f2, f2 = fun t => f t || setF bh' i f li t := ⟨_, rfl⟩
          obtain ⟨m2, hm2⟩ : ∃ m2, m2 = moreB q.m f f2 := ⟨_, rfl⟩
          have hwhole := Xhst.out.whole (f := f) (f2 := f2) Xhx.out Xhnon.out Xhnp.out Xhhi.out Xhhb.out Xhal.out.symm (by rw [Int.toNat_natCast]; exact hli) (by rw [Int.toNat_natCast]; exact Xhf.out) (by rw [Int.toNat_natCast, Int.toNat_natCast]; exact hf2)
          rw [Int.toNat_natCast, ← hm2, ← Xhm1.out] at hwhole
          have hSd := hS4.below ((Below.refl _ w4).drew)
          have co := ref11_put (hSd.bhd.set i hi) (hSd.bhd.set li hli) hSd.sz.2.1 (fun e => by rw [hSd.bhd.apart i li hi hli e])
          unfold RowPutPost at co
          rw [setF_same, ← hf2, ← hm2] at co
          have ht5 := ht4.drew
          clear hS4 ht4 hb4
          cases m2
          all_goals
            cases m1
            all_goals
              simp only [Bool.or_false, Bool.or_true] at hwhole
              have Xhwhole := hide hwhole
              have Xht5 := hide ht5
              have Xco := hide co
              have XhSd := hide hSd
              have Xhf2 := hide hf2
              have Xhm2 := hide hm2
              clear hwhole ht5 co hSd hf2 hm2
              go_wp2_with fail
              refine region_tail 21 (by kernel_rfl) (by kernel_rfl) ?_
              simp only [List.take_succ_cons, List.take_zero, List.drop_succ_cons, List.drop_zero]
              repeat still_step
              refine wpStill_nil ?_
              go_wp2_with fail
              with_reducible refine Xco.out.mono ?_
              rintro ee w6 ⟨rfl, hs6, t6⟩
              have hS6 := XhSd.out.putH hi hs6 t6
              have ht6 := Xht5.out.trans t6 (fun j _ hj => ⟨i, hi, hj⟩)
              clear s4 s5 s6 hp hp2 hb40 hb41 hcx4 hs6 t6 Xco XhSd Xht5
              have XhS6 := hide hS6
              have Xht6 := hide ht6
              clear hS6 ht6
              go_wp2_with fail
              go_roundw
              case rel => exact ⟨k + 1, _, _, by omega, by go_num, rfl, XhS6.out, Xhwhole.out, Xht6.out⟩
              case measure => simp [intOf]; omega
    · have hkq : k = nx := by omega
      have hlt' : ¬ (k : Int) < (nx : Int) := by omega
      have hlen : k = xs.length := by have := Xhn.out; omega
      rw [hlen] at hst
      have fin : RHPost w q G e bg bh (li : Int) xs (.returned (.bool m)) wr := ⟨bh', m, rfl, hS, hst, (Touch.of_size Xb1.out _).trans' ht⟩
      have Xfin := hide fin
      have XhS := hide hS
      have Xhst := hide hst
      have Xht := hide ht
      have Xhlen := hide hlen
      have Xkr := hide kr
      clear fin hS hst ht hlen kr
      clear hkq
      go_wp2_with fail
      go_ret
      exact Xfin.out
end Go.Proofs.Ytejjaabkbkkjlaa

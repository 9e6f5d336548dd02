/- conchref09: has, place, fine, sort. -/
import Derived.Test.YtejjaabkbkkjlaaLive8
namespace Go.Proofs.Ytejjaabkbkkjlaa
set_option linter.unusedVariables false
open Go.RowKit
attribute [local irreducible] wpStill wpOne wpPh

set_option maxRecDepth 100000 in
theorem ref_has {w : World} {F : Nat → Prop} {v : Value} {l : List Int} (h : RdI w F v l) (x : Int) :
    Calls Try.prog 106 #[v, .int .i64 x] w fun e w' => e = .returned (.bool (decide (x ∈ l))) ∧ w = w' := by
  obtain ⟨A, n, c, rfl, -⟩ := id h
  obtain ⟨hn, hnc, hcm, hcell⟩ := h.at_
  unfold maxLen at hcm
  have Xhn := hide hn
  clear hn
  clear h
  go_enter Try.func106, Try.ntmps106
  go_wp2_with fail
  go_loopw [5] (fun i wr => ∃ k : Nat, k ≤ n ∧ i = .int .i64 k ∧ (∀ (j : Nat) (y : Int), j < k → l[j]? = some y → y ≠ x) ∧ wr = w) (fun i _ => n - (intOf i).toNat)
  case atStart => exact ⟨0, Nat.zero_le _, rfl, fun j y hj => absurd hj (by omega), by first | rfl | trivial⟩
  case round =>
    obtain ⟨k, hk, rfl, hb, rfl⟩ := hrel
    by_cases hlt : k < n
    · obtain ⟨b, off, rfl, -, hc1⟩ := hcell (by omega)
      obtain ⟨y, hy⟩ : ∃ y, l[k]? = some y := ⟨_, List.getElem?_eq_getElem (by rw [← Xhn.out]; exact hlt)⟩
      have hcy := hc1 k y hy
      have hlt' : (k : Int) < (n : Int) := by omega
      by_cases he : y = x
      · subst he
        have fin : decide (y ∈ l) = true := decide_eq_true (List.mem_of_getElem? hy)
        have Xhb := hide hb
        have Xhy := hide hy
        have Xfin := hide fin
        clear hb hy fin
        clear hcell hc1
        go_wp2_with fail
        go_ret
        exact ⟨ret_bool Xfin.out.symm, by first | rfl | trivial⟩
      · have he' : (y == x) = false := by simpa using he
        have Xhb := hide hb
        have Xhy := hide hy
        have Xhe := hide he
        clear hb hy he
        clear hcell hc1
        go_wp2_with fail
        go_roundw
        case rel => exact ⟨k + 1, by omega, by go_num, fun j z hj hz => by
          by_cases e : j = k
          · subst e; rw [Xhy.out] at hz; injection hz with hz; subst hz; exact Xhe.out
          · exact Xhb.out j z (by omega) hz, by first | rfl | trivial⟩
        case measure => simp [intOf]; omega
    · have fin : decide (x ∈ l) = false := decide_eq_false fun hx => by
        obtain ⟨j, hj, e⟩ := List.getElem_of_mem hx
        exact hb j x (by have := Xhn.out; omega) (by rw [List.getElem?_eq_getElem hj, e]) rfl
      have Xhb := hide hb
      have Xfin := hide fin
      clear hb fin
      clear hcell
      go_wp2_with fail
      go_ret
      exact ⟨ret_bool Xfin.out.symm, by first | rfl | trivial⟩

set_option maxRecDepth 100000 in
theorem ref_placeI {w : World} {F : Nat → Prop} {v : Value} {l : List Int} (h : RdI w F v l) (x : Int) :
    Calls Try.prog 145 #[v, .int .i64 x] w fun e w' => e = .returned (.int .i64 (placeOf l x)) ∧ w = w' := by
  obtain ⟨A, n, c, rfl, -⟩ := id h
  obtain ⟨hn, hnc, hcm, hcell⟩ := h.at_
  unfold maxLen at hcm
  have Xhn := hide hn
  clear hn
  clear h
  go_enter Try.func145, Try.ntmps145
  go_wp2_with fail
  go_loopw [5] (fun i wr => ∃ k : Nat, k ≤ n ∧ i = .int .i64 k ∧ (∀ (j : Nat) (y : Int), j < k → l[j]? = some y → y ≠ x) ∧ wr = w) (fun i _ => n - (intOf i).toNat)
  case atStart => exact ⟨0, Nat.zero_le _, rfl, fun j y hj => absurd hj (by omega), by first | rfl | trivial⟩
  case round =>
    obtain ⟨k, hk, rfl, hb, rfl⟩ := hrel
    by_cases hlt : k < n
    · obtain ⟨b, off, rfl, -, hc1⟩ := hcell (by omega)
      obtain ⟨y, hy⟩ : ∃ y, l[k]? = some y := ⟨_, List.getElem?_eq_getElem (by rw [← Xhn.out]; exact hlt)⟩
      have hcy := hc1 k y hy
      have hlt' : (k : Int) < (n : Int) := by omega
      by_cases he : y = x
      · subst he
        have fin : placeOf l y = (k : Int) + 1 := placeOf_first hy fun j hj e => hb j y hj e rfl
        have Xhb := hide hb
        have Xhy := hide hy
        have Xfin := hide fin
        clear hb hy fin
        clear hcell hc1
        go_wp2_with fail
        go_ret
        exact ⟨ret_int Xfin.out.symm, by first | rfl | trivial⟩
      · have he' : (y == x) = false := by simpa using he
        have Xhb := hide hb
        have Xhy := hide hy
        have Xhe := hide he
        clear hb hy he
        clear hcell hc1
        go_wp2_with fail
        go_roundw
        case rel => exact ⟨k + 1, by omega, by go_num, fun j z hj hz => by
          by_cases e : j = k
          · subst e; rw [Xhy.out] at hz; injection hz with hz; subst hz; exact Xhe.out
          · exact Xhb.out j z (by omega) hz, by first | rfl | trivial⟩
        case measure => simp [intOf]; omega
    · have fin : placeOf l x = 0 := placeOf_not fun hx => by
        obtain ⟨j, hj, e⟩ := List.getElem_of_mem hx
        exact hb j x (by have := Xhn.out; omega) (by rw [List.getElem?_eq_getElem hj, e]) rfl
      have Xhb := hide hb
      have Xfin := hide fin
      clear hb fin
      clear hcell
      go_wp2_with fail
      go_ret
      exact ⟨ret_int Xfin.out.symm, by first | rfl | trivial⟩

def memB (l : List Int) (s : Int) : Bool := decide (s ∈ l)

/-- a boxed grammar, a boxed rule, a list -/
structure FSt (w wr : World) (F : Nat → Prop) (A1 : Option Addr) (c1 : Nat) (A2 : Option Addr) (c2 : Nat) (A3 : Option Addr) (c3 T N R : Nat) (st : Int) (G : GramD) (F1 : Nat → Prop) (vl : Value) (l : List Int) (x : Int) (F' : Nat → Prop) (v : Value) (xs : List Int) : Prop where
  g : GBox wr F w.heap.size A1 c1 A2 c2 A3 c3 T N R st G
  k : Blk wr (w.heap.size + 1) 30 #[.int .i64 x, v]
  l : RdI wr F1 vl l
  r : RdI wr F' v xs
  b : Below w.heap.size w wr
  hl : ∀ k, F1 k → k < w.heap.size
  hr : ∀ k, F' k → k < w.heap.size
theorem FSt.below {w wr wr' : World} {F : Nat → Prop} {A1 : Option Addr} {c1 : Nat} {A2 : Option Addr} {c2 : Nat} {A3 : Option Addr} {c3 T N R : Nat} {st : Int} {G : GramD} {F1 : Nat → Prop} {vl : Value} {l : List Int} {x : Int} {F' : Nat → Prop} {v : Value} {xs : List Int}
    (h : FSt w wr F A1 c1 A2 c2 A3 c3 T N R st G F1 vl l x F' v xs) (hb : Below wr.heap.size wr wr') : FSt w wr' F A1 c1 A2 c2 A3 c3 T N R st G F1 vl l x F' v xs :=
  ⟨h.g.below hb, h.k.below hb h.k.lt, h.l.below hb (fun k hk => Nat.lt_of_lt_of_le (h.hl k hk) h.b.size), h.r.below hb (fun k hk => Nat.lt_of_lt_of_le (h.hr k hk) h.b.size), h.b.trans (hb.mono h.b.size), h.hl, h.hr⟩

set_option maxRecDepth 100000 in
set_option maxHeartbeats 4000000 in
theorem ref_fine {w : World} {F F1 F' : Nat → Prop} {vt vn vr vl : Value} {G : GramD} (h : IsGram w F vt vn vr G) (st : Int) {ls : List Int} (hl : RdI w F1 vl ls) (hF1 : ∀ k, F1 k → k < w.heap.size) (l : Int) {v : Value} {xs : List Int} (hx : RdI w F' v xs) (hF' : ∀ k, F' k → k < w.heap.size) :
    Calls Try.prog 109 #[GV vt vn vr st, .agg #[.int .i64 l, v], vl] w (Quiet w (.bool (fineB G (memB ls) xs))) := by
  obtain ⟨A1, c1, A2, c2, A3, c3, rfl, rfl, rfl, -⟩ := h.slices
  obtain ⟨w1, hw1⟩ : ∃ w1, w1 = w.alloc (.cells #[.slice A1 G.terms.length c1, .slice A2 G.nons.length c2, .slice A3 G.rules.length c3, .int .i64 st] 25) := ⟨_, rfl⟩
  have g1 := GBox.new h st
  have b1 : Below w.heap.size w w1 := by rw [hw1]; exact (Below.refl _ w).alloc (Nat.le_refl _) _
  rw [← hw1] at g1
  obtain ⟨A, m, c, rfl, -⟩ := id hx
  obtain ⟨hm, hmc, hcm, -⟩ := RdI.at_ hx
  unfold maxLen at hcm
  obtain ⟨Al, nl, cl, rfl, -⟩ := id hl
  generalize hT : G.terms.length = T at *
  generalize hN : G.nons.length = N at *
  generalize hR : G.rules.length = R at *
  have b2 : Below w1.heap.size w1 (w1.alloc (.cells #[.int .i64 l, .slice A m c] 30)) := (Below.refl _ _).alloc (Nat.le_refl _) _
  have k2 : Blk (w1.alloc (.cells #[.int .i64 l, .slice A m c] 30)) w1.heap.size 30 #[.int .i64 l, .slice A m c] := Blk.new _ _ _
  have z1 : w1.heap.size = w.heap.size + 1 := by rw [hw1]; simp
  rw [z1] at k2
  have bw : Below w.heap.size w (w1.alloc (.cells #[.int .i64 l, .slice A m c] 30)) := b1.trans (b2.mono b1.size)
  have t2 : FSt w (w1.alloc (.cells #[.int .i64 l, .slice A m c] 30)) F A1 c1 A2 c2 A3 c3 T N R st G F1 (.slice Al nl cl) ls l F' (.slice A m c) xs := ⟨g1.below b2, k2, hl.below bw hF1, hx.below bw hF', bw, hF1, hF'⟩
  have hall : (∀ x ∈ xs, isNon G x = true → memB ls x = true) → fineB G (memB ls) xs = true := fun hh => fineB_iff.2 hh
  have hno : ∀ x ∈ xs, isNon G x = true → memB ls x = false → fineB G (memB ls) xs = false := fun x hx h1 h2 => by
    cases hf : fineB G (memB ls) xs with
    | false => rfl
    | true => rw [fineB_iff.1 hf x hx h1] at h2; cases h2
  rw [hw1] at t2
  clear k2 hx g1 b1 b2 hw1 z1 h bw hl
  have Xt2 := hide t2
  have Xhm := hide hm
  have Xhall := hide hall
  have Xhno := hide hno
  have XhF1 := hide hF1
  have XhF' := hide hF'
  clear t2 hm hall hno hF1 hF'
  go_enter Try.func109, Try.ntmps109
  go_wp2_with fail
  go_loopw [7] (fun i wr => ∃ k : Nat, k ≤ m ∧ i = .int .i64 k ∧ (∀ (j : Nat) (x : Int), j < k → xs[j]? = some x → isNon G x = true → memB ls x = true) ∧ FSt w wr F A1 c1 A2 c2 A3 c3 T N R st G F1 (.slice Al nl cl) ls l F' (.slice A m c) xs) (fun i _ => m - (intOf i).toNat)
  case atStart => exact ⟨0, Nat.zero_le _, rfl, fun j x hj => absurd hj (by omega), Xt2.out⟩
  case round =>
    clear Xt2
    obtain ⟨k, hk, rfl, hb, t⟩ := hrel
    have k1 := (t.k.cell 1).trans rfl
    by_cases hkm : k < m
    · obtain ⟨-, -, -, hcell⟩ := RdI.at_ t.r
      obtain ⟨bb, off, rfl, hbb, hcc⟩ := hcell (by omega)
      obtain ⟨x, hxk⟩ : ∃ x, xs[k]? = some x := ⟨_, List.getElem?_eq_getElem (by rw [← Xhm.out]; exact hkm)⟩
      have hcx := hcc k x hxk
      have hkm' : (k : Int) < (m : Int) := by omega
      have td := t.below ((Below.refl _ wr).drew)
      have cn := ref_non td.g.gram st x
      obtain ⟨q0, q1, q2, q3⟩ := t.g.cells
      have keep : ∀ W, Below wr.drew.heap.size wr.drew W → FSt w W F A1 c1 A2 c2 A3 c3 T N R st G F1 (.slice Al nl cl) ls l F' (.slice (some ⟨bb, off, none⟩) m c) xs ∧ W.cell? ⟨w.heap.size + 1, 1, none⟩ = some (.slice (some ⟨bb, off, none⟩) m c) ∧ W.cell? ⟨bb, off + k, none⟩ = some (.int .i64 x) := fun W hW => by
        have tW := td.below hW
        obtain ⟨-, -, -, hcW⟩ := RdI.at_ tW.r
        obtain ⟨b2, o2, e2, -, hcW⟩ := hcW (by omega)
        injection e2 with e2
        injection e2 with e3 e4
        subst e3 e4
        exact ⟨tW, (tW.k.cell 1).trans rfl, hcW k x hxk⟩
      clear hcell hcc
      cases hn : isNon G x with
      | false =>
        rw [hn] at cn
        have Xt := hide t
        have Xhb := hide hb
        have Xcn := hide cn
        have Xtd := hide td
        have Xhn := hide hn
        have Xhxk := hide hxk
        have Xkeep := hide keep
        clear t hb cn td hn hxk keep
        go_wp2_with fail
        refine region_phases [6, 7] (by kernel_rfl) (by kernel_rfl) ?_
        refine wpPh_cons _ _ ?_
        simp only [List.take_succ_cons, List.take_zero, List.drop_succ_cons, List.drop_zero]
        iterate 6 still_step
        refine wpStill_nil ?_
        refine wpOne_list ?_
        go_wp2_with fail
        with_reducible refine Xcn.out.mono ?_
        rintro e w6 ⟨rfl, b6⟩
        obtain ⟨t6, k6, x6⟩ := Xkeep.out _ b6
        clear k1 q0 q1 q2 q3 hcx
        have Xt6 := hide t6
        clear t6
        go_wp2_with fail
        refine wpPh_cons _ _ ?_
        simp only [List.take_succ_cons, List.take_zero, List.drop_succ_cons, List.drop_zero]
        iterate 7 still_step
        refine wpStill_nil ?_
        refine wpOne_list ?_
        go_wp2_with fail
        go_wp2_with fail
        refine wpPh_nil ?_
        go_wp2_with fail
        go_roundw
        case rel => exact ⟨k + 1, by omega, by go_num, fun j y hj hy hny => by
          by_cases e : j = k
          · subst e; rw [Xhxk.out] at hy; injection hy with hy; subst hy; rw [Xhn.out] at hny; cases hny
          · exact Xhb.out j y (by omega) hy hny, Xt6.out⟩
        case measure => simp [intOf]; omega
      | true =>
        rw [hn] at cn
        have chh := fun W hW => ref_has (keep W hW).1.l x
        cases hh : memB ls x with
        | true =>
          have hh' : decide (x ∈ ls) = true := hh
          rw [hh'] at chh
          have Xt := hide t
          have Xhb := hide hb
          have Xcn := hide cn
          have Xtd := hide td
          have Xhn := hide hn
          have Xhxk := hide hxk
          have Xkeep := hide keep
          have Xchh := hide chh
          have Xhh := hide hh
          have Xhh' := hide hh'
          clear t hb cn td hn hxk keep chh hh hh'
          go_wp2_with fail
          refine region_phases [6, 7] (by kernel_rfl) (by kernel_rfl) ?_
          refine wpPh_cons _ _ ?_
          simp only [List.take_succ_cons, List.take_zero, List.drop_succ_cons, List.drop_zero]
          iterate 6 still_step
          refine wpStill_nil ?_
          refine wpOne_list ?_
          go_wp2_with fail
          with_reducible refine Xcn.out.mono ?_
          rintro e w6 ⟨rfl, b6⟩
          obtain ⟨t6, k6, x6⟩ := Xkeep.out _ b6
          have c6 := Xchh.out _ b6
          clear k1 q0 q1 q2 q3 hcx
          have Xt6 := hide t6
          have Xc6 := hide c6
          clear t6 c6
          go_wp2_with fail
          refine wpPh_cons _ _ ?_
          simp only [List.take_succ_cons, List.take_zero, List.drop_succ_cons, List.drop_zero]
          iterate 7 still_step
          refine wpStill_nil ?_
          refine wpOne_list ?_
          go_wp2_with fail
          with_reducible refine Xc6.out.mono ?_
          rintro e w7 ⟨rfl, rfl⟩
          go_wp2_with fail
          refine wpPh_nil ?_
          go_wp2_with fail
          go_roundw
          case rel => exact ⟨k + 1, by omega, by go_num, fun j y hj hy hny => by
            by_cases e : j = k
            · subst e; rw [Xhxk.out] at hy; injection hy with hy; subst hy; exact Xhh.out
            · exact Xhb.out j y (by omega) hy hny, Xt6.out⟩
          case measure => simp [intOf]; omega
        | false =>
          have hh' : decide (x ∈ ls) = false := hh
          rw [hh'] at chh
          have fin := Xhno.out x (List.mem_of_getElem? hxk) hn hh
          have Xt := hide t
          have Xhb := hide hb
          have Xcn := hide cn
          have Xtd := hide td
          have Xhn := hide hn
          have Xhxk := hide hxk
          have Xkeep := hide keep
          have Xchh := hide chh
          have Xhh := hide hh
          have Xhh' := hide hh'
          have Xfin := hide fin
          clear t hb cn td hn hxk keep chh hh hh' fin
          go_wp2_with fail
          refine region_phases [6, 7] (by kernel_rfl) (by kernel_rfl) ?_
          refine wpPh_cons _ _ ?_
          simp only [List.take_succ_cons, List.take_zero, List.drop_succ_cons, List.drop_zero]
          iterate 6 still_step
          refine wpStill_nil ?_
          refine wpOne_list ?_
          go_wp2_with fail
          with_reducible refine Xcn.out.mono ?_
          rintro e w6 ⟨rfl, b6⟩
          obtain ⟨t6, k6, x6⟩ := Xkeep.out _ b6
          have c6 := Xchh.out _ b6
          clear k1 q0 q1 q2 q3 hcx
          have Xt6 := hide t6
          have Xc6 := hide c6
          clear t6 c6
          go_wp2_with fail
          refine wpPh_cons _ _ ?_
          simp only [List.take_succ_cons, List.take_zero, List.drop_succ_cons, List.drop_zero]
          iterate 7 still_step
          refine wpStill_nil ?_
          refine wpOne_list ?_
          go_wp2_with fail
          with_reducible refine Xc6.out.mono ?_
          rintro e w7 ⟨rfl, rfl⟩
          go_wp2_with fail
          refine wpPh_nil ?_
          go_wp2_with fail
          go_ret
          exact ⟨ret_bool Xfin.out.symm, Xt6.out.b⟩
    · have hkm' : ¬ (k : Int) < (m : Int) := by omega
      have fin := Xhall.out fun x hx hn => by
        obtain ⟨j, hj, e⟩ := List.getElem_of_mem hx
        exact hb j x (by have := Xhm.out; omega) (by rw [List.getElem?_eq_getElem hj, e]) hn
      have Xt := hide t
      have Xhb := hide hb
      have Xfin := hide fin
      clear t hb fin
      go_wp2_with fail
      go_ret
      exact ⟨ret_bool Xfin.out.symm, Xt.out.b⟩
end Go.Proofs.Ytejjaabkbkkjlaa

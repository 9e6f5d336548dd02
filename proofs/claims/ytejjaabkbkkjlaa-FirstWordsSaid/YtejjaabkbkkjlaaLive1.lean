/- live.fine, live.productive. -/
import Derived.Test.YtejjaabkbkkjlaaLivePlain
namespace Go.Proofs.Ytejjaabkbkkjlaa
set_option linter.unusedVariables false
open Go.RowKit
attribute [local irreducible] wpStill wpOne wpPh

theorem IsSet.keep {w w' : World} {b n : Nat} {f : Nat → Bool} {S : Nat → Prop} (h : IsSet w b S n f) (hb : Below w.heap.size w w') : IsSet w' b S n f := h.touch (Touch.of_size hb (fun _ => False)) (fun _ _ hf => hf)

/-- a boxed grammar and a set -/
structure GSet (w wr : World) (F : Nat → Prop) (B : Nat) (A1 : Option Addr) (c1 : Nat) (A2 : Option Addr) (c2 : Nat) (A3 : Option Addr) (c3 T N R : Nat) (st : Int) (G : GramD) (b : Nat) (S : Nat → Prop) (n : Nat) (f : Nat → Bool) : Prop where
  g : GBox wr F B A1 c1 A2 c2 A3 c3 T N R st G
  s : IsSet wr b S n f
  b : Below w.heap.size w wr
theorem GSet.below {w wr wr' : World} {F : Nat → Prop} {B : Nat} {A1 : Option Addr} {c1 : Nat} {A2 : Option Addr} {c2 : Nat} {A3 : Option Addr} {c3 T N R : Nat} {st : Int} {G : GramD} {b : Nat} {S : Nat → Prop} {n : Nat} {f : Nat → Bool}
    (h : GSet w wr F B A1 c1 A2 c2 A3 c3 T N R st G b S n f) (hb : Below wr.heap.size wr wr') : GSet w wr' F B A1 c1 A2 c2 A3 c3 T N R st G b S n f :=
  ⟨h.g.below hb, h.s.keep hb, h.b.trans (hb.mono h.b.size)⟩

set_option maxRecDepth 100000 in
set_option maxHeartbeats 4000000 in
theorem live_fine {w : World} {F F' : Nat → Prop} {vt vn vr : Value} {G : GramD} (h : IsGram w F vt vn vr G) (st : Int) {b n : Nat} {f : Nat → Bool} {S : Nat → Prop} (hs : IsSet w b S n f) (l : Int) {v : Value} {xs : List Int} (hx : RdI w F' v xs) (hF' : ∀ k, F' k → k < w.heap.size) :
    Calls Try.prog 107 #[GV vt vn vr st, .agg #[.int .i64 l, v], .pointer (some ⟨b, 0, none⟩)] w (Quiet w (.bool (fineB G (hasI n f) xs))) := by
  obtain ⟨A1, c1, A2, c2, A3, c3, rfl, rfl, rfl, -⟩ := h.slices
  obtain ⟨w1, hw1⟩ : ∃ w1, w1 = w.alloc (.cells #[.slice A1 G.terms.length c1, .slice A2 G.nons.length c2, .slice A3 G.rules.length c3, .int .i64 st] 25) := ⟨_, rfl⟩
  have g1 := GBox.new h st
  have b1 : Below w.heap.size w w1 := by rw [hw1]; exact (Below.refl _ w).alloc (Nat.le_refl _) _
  rw [← hw1] at g1
  obtain ⟨A, m, c, rfl, -⟩ := id hx
  obtain ⟨hm, hmc, hcm, -⟩ := RdI.at_ hx
  unfold maxLen at hcm
  generalize hT : G.terms.length = T at *
  generalize hN : G.nons.length = N at *
  generalize hR : G.rules.length = R at *
  have b2 : Below w1.heap.size w1 (w1.alloc (.cells #[.int .i64 l, .slice A m c] 30)) := (Below.refl _ _).alloc (Nat.le_refl _) _
  have t2 : GSet w (w1.alloc (.cells #[.int .i64 l, .slice A m c] 30)) F w.heap.size A1 c1 A2 c2 A3 c3 T N R st G b S n f := ⟨g1.below b2, (hs.keep b1).keep b2, b1.trans (b2.mono b1.size)⟩
  have k2 : Blk (w1.alloc (.cells #[.int .i64 l, .slice A m c] 30)) w1.heap.size 30 #[.int .i64 l, .slice A m c] := Blk.new _ _ _
  have hx2 := hx.below t2.b hF'
  have z1 : w1.heap.size = w.heap.size + 1 := by rw [hw1]; simp
  have e1 := (k2.cell 1).trans rfl
  rw [z1] at e1
  have hall : (∀ x ∈ xs, isNon G x = true → hasI n f x = true) → fineB G (hasI n f) xs = true := fun hh => fineB_iff.2 hh
  have hno : ∀ x ∈ xs, isNon G x = true → hasI n f x = false → fineB G (hasI n f) xs = false := fun x hx h1 h2 => by
    cases hf : fineB G (hasI n f) xs with
    | false => rfl
    | true => rw [fineB_iff.1 hf x hx h1] at h2; cases h2
  rw [hw1] at t2 hx2 e1
  clear k2 hx g1 b1 b2 hw1 z1 hs h
  have Xt2 := hide t2
  have Xhx2 := hide hx2
  have Xhm := hide hm
  have Xhall := hide hall
  have Xhno := hide hno
  have XhF' := hide hF'
  clear t2 hx2 hm hall hno hF'
  go_enter Try.func107, Try.ntmps107
  go_wp2_with fail
  clear e1
  go_loopw [12] (fun i wr => ∃ k : Nat, k ≤ m ∧ i = .int .i64 k ∧ (∀ (j : Nat) (x : Int), j < k → xs[j]? = some x → isNon G x = true → hasI n f x = true) ∧ GSet w wr F w.heap.size A1 c1 A2 c2 A3 c3 T N R st G b S n f ∧ RdI wr F' (.slice A m c) xs) (fun i _ => m - (intOf i).toNat)
  case atStart => exact ⟨0, Nat.zero_le _, rfl, fun j x hj => absurd hj (by omega), Xt2.out, Xhx2.out⟩
  case round =>
    clear Xt2 Xhx2
    obtain ⟨k, hk, rfl, hb, t, hxr⟩ := hrel
    obtain ⟨q0, q1, q2, q3⟩ := t.g.cells
    have hFr : ∀ k, F' k → k < wr.heap.size := fun k hk => Nat.lt_of_lt_of_le (XhF'.out k hk) t.b.size
    by_cases hkm : k < m
    · obtain ⟨-, -, -, hcell⟩ := RdI.at_ hxr
      obtain ⟨bb, off, rfl, hbb, hcc⟩ := hcell (by omega)
      obtain ⟨x, hxk⟩ : ∃ x, xs[k]? = some x := ⟨_, List.getElem?_eq_getElem (by rw [← Xhm.out]; exact hkm)⟩
      have hcx := hcc k x hxk
      have hkm' : (k : Int) < (m : Int) := by omega
      have cn := gram_non t.g.gram st x
      cases hn : isNon G x with
      | false =>
        rw [hn] at cn
        have Xcn := hide cn
        have Xt := hide t
        have Xhxr := hide hxr
        have Xhb := hide hb
        have XhFr := hide hFr
        have Xhn := hide hn
        have Xhxk := hide hxk
        clear cn t hxr hb hFr hn hxk
        clear hcell hcc
        go_wp2_with fail
        with_reducible refine Xcn.out.mono ?_
        rintro e w5 ⟨rfl, b5⟩
        have t5 := Xt.out.below b5
        have hx5 := Xhxr.out.below b5 XhFr.out
        have Xt5 := hide t5
        have Xhx5 := hide hx5
        clear t5 hx5
        clear b5 hcx q0 q1 q2 q3
        go_wp2_with fail
        go_roundw
        case rel => exact ⟨k + 1, by omega, by go_num, fun j y hj hy hny => by
          by_cases e : j = k
          · subst e; rw [Xhxk.out] at hy; injection hy with hy; subst hy; rw [Xhn.out] at hny; cases hny
          · exact Xhb.out j y (by omega) hy hny, Xt5.out, Xhx5.out⟩
        case measure => simp [intOf]; omega
      | true =>
        rw [hn] at cn
        cases hh : hasI n f x with
        | true =>
          have Xcn := hide cn
          have Xt := hide t
          have Xhxr := hide hxr
          have Xhb := hide hb
          have XhFr := hide hFr
          have Xhn := hide hn
          have Xhxk := hide hxk
          have Xhh := hide hh
          clear cn t hxr hb hFr hn hxk hh
          clear hcell hcc
          go_wp2_with fail
          with_reducible refine Xcn.out.mono ?_
          rintro e w5 ⟨rfl, b5⟩
          have t5 := Xt.out.below b5
          have hx5 := Xhxr.out.below b5 XhFr.out
          have ch := set_has t5.s x
          rw [Xhh.out] at ch
          have Xt5 := hide t5
          have Xhx5 := hide hx5
          have Xch := hide ch
          clear t5 hx5 ch
          clear b5 hcx q0 q1 q2 q3
          go_wp2_with fail
          with_reducible refine Xch.out.mono ?_
          rintro e w6 ⟨rfl, rfl⟩
          go_wp2_with fail
          go_roundw
          case rel => exact ⟨k + 1, by omega, by go_num, fun j y hj hy hny => by
            by_cases e : j = k
            · subst e; rw [Xhxk.out] at hy; injection hy with hy; subst hy; exact Xhh.out
            · exact Xhb.out j y (by omega) hy hny, Xt5.out, Xhx5.out⟩
          case measure => simp [intOf]; omega
        | false =>
          have fin := Xhno.out x (List.mem_of_getElem? hxk) hn hh
          have Xcn := hide cn
          have Xt := hide t
          have Xhxr := hide hxr
          have Xhb := hide hb
          have XhFr := hide hFr
          have Xhn := hide hn
          have Xhxk := hide hxk
          have Xhh := hide hh
          have Xfin := hide fin
          clear cn t hxr hb hFr hn hxk hh fin
          clear hcell hcc
          go_wp2_with fail
          with_reducible refine Xcn.out.mono ?_
          rintro e w5 ⟨rfl, b5⟩
          have t5 := Xt.out.below b5
          have ch := set_has t5.s x
          rw [Xhh.out] at ch
          have Xt5 := hide t5
          have Xch := hide ch
          clear t5 ch
          clear b5 hcx q0 q1 q2 q3
          go_wp2_with fail
          with_reducible refine Xch.out.mono ?_
          rintro e w6 ⟨rfl, rfl⟩
          go_wp2_with fail
          go_ret
          exact ⟨ret_bool Xfin.out.symm, Xt5.out.b⟩
    · have hkm' : ¬ (k : Int) < (m : Int) := by omega
      have fin := Xhall.out fun x hx hn => by
        obtain ⟨j, hj, e⟩ := List.getElem_of_mem hx
        exact hb j x (by have := Xhm.out; omega) (by rw [List.getElem?_eq_getElem hj, e]) hn
      have Xt := hide t
      have Xhxr := hide hxr
      have Xhb := hide hb
      have Xfin := hide fin
      clear t hxr hb fin
      clear q0 q1 q2 q3
      go_wp2_with fail
      go_ret
      exact ⟨ret_bool Xfin.out.symm, Xt.out.b⟩
end Go.Proofs.Ytejjaabkbkkjlaa

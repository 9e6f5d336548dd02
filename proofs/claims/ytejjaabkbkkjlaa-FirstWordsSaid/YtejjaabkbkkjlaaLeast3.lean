/- Least words, the program's: better, shortlex, Length, Line, Word. -/
import Derived.Test.YtejjaabkbkkjlaaLeast2
import Derived.Laws.EntriesVeiled
namespace Go.Proofs.Ytejjaabkbkkjlaa
set_option linter.unusedVariables false
open Go.RowKit
attribute [local irreducible] wpStill wpOne wpPh

theorem least_shortlex (w : World) : Calls Try.prog 98 #[] w (Quiet w (.agg #[.func (.func 141) #[] #[]])) := by
  go_enter Try.func98, Try.ntmps98
  go_wp2_with fail
  refine bodyPost_ret (v := .agg #[.func (.func 141) #[] #[]]) (by simp [results, Try.results98, go_sem]) rfl ?_
  exact ⟨rfl, (Below.refl _ w).alloc (Nat.le_refl _) _⟩

theorem least_better {w : World} {F G : Nat → Prop} {v u : Value} (x y : FoundD) (hx : RdI w F v x.l) (hy : RdI w G u y.l) (hF : ∀ k, F k → k < w.heap.size) (hG : ∀ k, G k → k < w.heap.size) :
    Calls Try.prog 100 #[.agg #[.func (.func 141) #[] #[]], .agg #[.bool x.is, .bool x.long, v], .agg #[.bool y.is, .bool y.long, u]] w (Quiet w (.bool (betterB x y))) := by
  have hv : betterB x y = (x.is && (!y.is || (if (x.long || y.long) = true then y.long && !x.long else lessB x.l y.l))) := rfl
  obtain ⟨w3, hw3⟩ : ∃ w3, w3 = ((w.alloc (.cells #[.func (.func 141) #[] #[]] 85)).alloc (.cells #[.bool x.is, .bool x.long, v] 83)).alloc (.cells #[.bool y.is, .bool y.long, u] 83) := ⟨_, rfl⟩
  have hb : Below w.heap.size w w3 := by rw [hw3]; exact (((Below.refl _ w).alloc (Nat.le_refl _) _).alloc (by simp) _).alloc (by simp; omega) _
  have hc := less_clo (hx.below hb hF) (hy.below hb hG)
  obtain ⟨A, n, c, rfl, -⟩ := id hx
  obtain ⟨B, m, d, rfl, -⟩ := id hy
  have eg := Try.enters_less
  have eg' : ∀ args w, (callFunc 141 args).run Try.prog w = .ok (.enter 141 args) w := eg
  rw [hw3] at hb hc
  generalize x.is = xi at *
  generalize y.is = yi at *
  generalize x.long = xl at *
  generalize y.long = yl at *
  generalize lessB x.l y.l = q at *
  clear hx hy hF hG eg hw3
  cases xi with
  | false =>
    have Xhv := hide hv
    have Xhb := hide hb
    have Xhc := hide hc
    clear hv hb hc
    go_enter Try.func100, Try.ntmps100
    go_wp2_with fail
    go_ret
    exact ⟨ret_bool (by rw [Xhv.out]; first | rfl | simp), Xhb.out⟩
  | true =>
    cases yi with
    | false =>
      have Xhv := hide hv
      have Xhb := hide hb
      have Xhc := hide hc
      clear hv hb hc
      go_enter Try.func100, Try.ntmps100
      go_wp2_with fail
      go_ret
      exact ⟨ret_bool (by rw [Xhv.out]; first | rfl | simp), Xhb.out⟩
    | true =>
      cases xl with
      | true =>
        cases yl with
        | true =>
          have Xhv := hide hv
          have Xhb := hide hb
          have Xhc := hide hc
          clear hv hb hc
          go_enter Try.func100, Try.ntmps100
          go_wp2_with fail
          go_ret
          exact ⟨ret_bool (by rw [Xhv.out]; first | rfl | simp), Xhb.out⟩
        | false =>
          have Xhv := hide hv
          have Xhb := hide hb
          have Xhc := hide hc
          clear hv hb hc
          go_enter Try.func100, Try.ntmps100
          go_wp2_with fail
          go_ret
          exact ⟨ret_bool (by rw [Xhv.out]; first | rfl | simp), Xhb.out⟩
      | false =>
        cases yl with
        | true =>
          have Xhv := hide hv
          have Xhb := hide hb
          have Xhc := hide hc
          clear hv hb hc
          go_enter Try.func100, Try.ntmps100
          go_wp2_with fail
          go_ret
          exact ⟨ret_bool (by rw [Xhv.out]; first | rfl | simp), Xhb.out⟩
        | false =>
          have Xhv := hide hv
          have Xhb := hide hb
          have Xhc := hide hc
          clear hv hb hc
          go_enter Try.func100, Try.ntmps100
          go_wp2_with (go_at_fn 141; refine Xhc.out.mono ?_; rintro e w' ⟨rfl, rfl⟩)
          go_ret
          exact ⟨ret_bool (by rw [Xhv.out]; simp), Xhb.out⟩

/-- the pointer to words, or none -/
def lengthOf (S : List FoundD) (s : Int) : Int := if (lookW S s).is = false then -1 else if (lookW S s).long = true then 4097 else ((lookW S s).l.length : Int)
set_option maxRecDepth 100000 in
set_option maxHeartbeats 2000000 in
theorem least_length {w : World} {F : Nat → Prop} {b g : Nat} {S : List FoundD} (h : IsWords w F b g S) (s : Int) :
    Calls Try.prog 45 #[.pointer (some ⟨b, 0, none⟩), .int .i64 s] w fun e w' => e = .returned (.int .i64 (lengthOf S s)) ∧ w = w' := by
  have hptr := h.ptr
  have hsz := h.size
  have hv : lengthOf S s = if (lookW S s).is = false then -1 else if (lookW S s).long = true then 4097 else ((lookW S s).l.length : Int) := rfl
  by_cases hs0 : s < 0
  · rw [lookW_neg hs0] at hv
    have Xhv := hide hv
    clear hv
    clear h
    go_enter Try.func45, Try.ntmps45
    go_wp2_with fail
    go_ret
    exact ⟨ret_int (by rw [Xhv.out]; rfl), by first | rfl | trivial⟩
  · by_cases hs1 : (S.length : Int) ≤ s
    · rw [lookW_big hs1] at hv
      have Xhv := hide hv
      clear hv
      clear h
      go_enter Try.func45, Try.ntmps45
      go_wp2_with fail
      go_ret
      exact ⟨ret_int (by rw [Xhv.out]; rfl), by first | rfl | trivial⟩
    · obtain ⟨k, rfl⟩ := Int.eq_ofNat_of_zero_le (by omega : 0 ≤ s)
      have hk : k < S.length := by omega
      have hs1' : (k : Int) < (S.length : Int) := by omega
      obtain ⟨x, Ax, nx, cx, hx, e0, e1, e2, hxr, hnx, hnxc, hcx, hnx4⟩ := h.at_ hk
      rw [lookW_nat hx] at hv
      cases hxi : x.is with
      | false =>
        rw [hxi] at hv e0
        have Xhv := hide hv
        have Xhx := hide hx
        have Xhxr := hide hxr
        have Xhnx := hide hnx
        have Xhxi := hide hxi
        clear hv hx hxr hnx hxi
        clear h
        go_enter Try.func45, Try.ntmps45
        go_wp2_with fail
        go_ret
        exact ⟨ret_int (by rw [Xhv.out]; rfl), by first | rfl | trivial⟩
      | true =>
        rw [hxi] at hv e0
        cases hxl : x.long with
        | true =>
          rw [hxl] at hv e1
          have Xhv := hide hv
          have Xhx := hide hx
          have Xhxr := hide hxr
          have Xhnx := hide hnx
          have Xhxi := hide hxi
          have Xhxl := hide hxl
          clear hv hx hxr hnx hxi hxl
          clear h
          go_enter Try.func45, Try.ntmps45
          go_wp2_with fail
          go_ret
          exact ⟨ret_int (by rw [Xhv.out]; rfl), by first | rfl | trivial⟩
        | false =>
          rw [hxl] at hv e1
          have Xhv := hide hv
          have Xhx := hide hx
          have Xhxr := hide hxr
          have Xhnx := hide hnx
          have Xhxi := hide hxi
          have Xhxl := hide hxl
          clear hv hx hxr hnx hxi hxl
          clear h
          go_enter Try.func45, Try.ntmps45
          go_wp2_with fail
          go_ret
          exact ⟨ret_int (by rw [Xhv.out, ← Xhnx.out]; rfl), by first | rfl | trivial⟩
theorem least_length_nil (s : Int) (w : World) : Calls Try.prog 45 #[.pointer none, .int .i64 s] w fun e w' => e = .returned (.int .i64 (-1)) ∧ w = w' := by
  go_enter Try.func45, Try.ntmps45
  go_wp2_with fail
  go_ret
  exact ⟨rfl, by first | rfl | trivial⟩

/-- a word, and is it there -/
def LinePost (w : World) (x : FoundD) (e : Ending) (w' : World) : Prop := ∃ A n c, e = .returned (.tuple #[.slice A n c, .bool (x.is && !x.long)]) ∧ RdI w' (fun k => w.heap.size ≤ k ∧ k < w'.heap.size) (.slice A n c) x.l ∧ Below w.heap.size w w'
set_option maxRecDepth 100000 in
theorem least_line {w : World} {F G : Nat → Prop} {b g : Nat} {S : List FoundD} {v : Value} {l : List Int} (h : IsWords w F b g S) (hl : RdI w G v l) (hG : ∀ k, G k → k < w.heap.size) (hT : ∀ k, (jTo S (l.take k)).2.length ≤ 4096) :
    Calls Try.prog 48 #[.pointer (some ⟨b, 0, none⟩), v] w (LinePost w (joinOf S l)) := by
  have hj := least_join h hl hG hT
  obtain ⟨A, n, c, rfl, -⟩ := id hl
  obtain ⟨x, hx⟩ : ∃ x, x = joinOf S l := ⟨_, rfl⟩
  rw [← hx] at hj ⊢
  have Xhj := hide hj
  have Xhx := hide hx
  clear hj hx
  clear h hl hG hT
  go_enter Try.func48, Try.ntmps48
  go_wp2_with fail
  refine Xhj.out.mono ?_
  rintro e w1 ⟨B, m, d, rfl, hr, hb⟩
  have hr2 := fun o => hr.below ((Below.refl w1.heap.size w1).alloc (Nat.le_refl _) o) (fun k hk => hk.2)
  have hb2 := fun o => hb.alloc hb.size o
  cases hxi : x.is with
  | false =>
    have Xhr := hide hr
    have Xhb := hide hb
    have Xhxi := hide hxi
    have Xhr2 := hide hr2
    have Xhb2 := hide hb2
    clear hr hb hxi hr2 hb2
    go_wp2_with fail
    refine region_reads (by kernel_rfl) (by kernel_rfl) ?_
    repeat still_step
    refine wpStill_nil ?_
    go_wp2_with fail
    go_ret2
    exact ⟨B, m, d, by rw [Xhxi.out]; rfl, (Xhr2.out _).mono (fun k hk => ⟨hk.1, by simp; omega⟩), (Xhb2.out _).drew⟩
  | true =>
    have Xhr := hide hr
    have Xhb := hide hb
    have Xhxi := hide hxi
    have Xhr2 := hide hr2
    have Xhb2 := hide hb2
    clear hr hb hxi hr2 hb2
    go_wp2_with fail
    refine region_reads (by kernel_rfl) (by kernel_rfl) ?_
    repeat still_step
    refine wpStill_nil ?_
    go_wp2_with fail
    go_ret2
    exact ⟨B, m, d, by rw [Xhxi.out]; simp, (Xhr2.out _).mono (fun k hk => ⟨hk.1, by simp; omega⟩), (Xhb2.out _).drew⟩

theorem least_word {w : World} {F : Nat → Prop} {b g : Nat} {S : List FoundD} (s : Int) (h : IsWords w F b g S) (hT : ∀ k, (jTo S ([s].take k)).2.length ≤ 4096) :
    Calls Try.prog 43 #[.pointer (some ⟨b, 0, none⟩), .int .i64 s] w (LinePost w (joinOf S [s])) := by
  have hb : Below w.heap.size w (w.alloc (.cells #[.int .i64 s] 3)) := (Below.refl _ w).alloc (Nat.le_refl _) _
  have hl := least_line (h.below hb) (Rd.one' (w := w) (e := 3) [I64 s] 1 rfl : RdI (w.alloc (.cells #[.int .i64 s] 3)) _ _ [s]) (fun k e => by simp; omega) hT
  have Xhl := hide hl
  have Xhb := hide hb
  clear hl hb
  clear h hT
  go_enter Try.func43, Try.ntmps43
  go_wp2_with fail
  refine Xhl.out.mono ?_
  rintro e w1 ⟨B, m, d, rfl, hr, hb1⟩
  have hb1z := hb1.size
  have Xhr := hide hr
  have Xhb1 := hide hb1
  clear hr hb1
  go_wp2_with fail
  go_ret2
  exact ⟨B, m, d, rfl, Xhr.out.mono (fun k hk => ⟨Nat.le_trans Xhb.out.size hk.1, hk.2⟩), Xhb.out.trans (Xhb1.out.mono Xhb.out.size)⟩
end Go.Proofs.Ytejjaabkbkkjlaa

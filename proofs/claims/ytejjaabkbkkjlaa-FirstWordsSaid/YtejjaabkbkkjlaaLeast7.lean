/- Least words, the reference's: better, Length, Line. -/
import Derived.Test.YtejjaabkbkkjlaaLeast6
import Derived.Test.YtejjaabkbkkjlaaLeast3
namespace Go.Proofs.Ytejjaabkbkkjlaa
set_option linter.unusedVariables false
open Go.RowKit
attribute [local irreducible] wpStill wpOne wpPh

/-- is a word less than what a symbol has: an own test, of a word that is there -/
def betterR (x y : FoundD) : Bool := (!y.is || (y.long && !x.long)) || (!x.long && !y.long && lessB x.l y.l)
theorem betterR_eq (x y : FoundD) (h : x.is = true) : betterB x y = betterR x y := by
  unfold betterB betterR
  rw [h]
  cases y.is <;> cases x.long <;> cases y.long <;> simp

set_option maxRecDepth 100000 in
set_option maxHeartbeats 2000000 in
theorem ref_better {w : World} {F G : Nat → Prop} {b gl gi gm : Nat} {S : List FoundD} {v : Value} (h : RefWords w F b gl gi gm S) (x : FoundD) {s : Nat} {y : FoundD} (hs : S[s]? = some y) (hx : RdI w G v x.l) :
    Calls Try.prog 102 #[.pointer (some ⟨b, 0, none⟩), .int .i64 s, v, .bool x.long] w fun e w' => e = .returned (.bool (betterR x y)) ∧ ∃ q, w' = w.drewN q := by
  have hv : betterR x y = ((!y.is || (y.long && !x.long)) || (!x.long && !y.long && lessB x.l y.l)) := rfl
  have hsl := (List.getElem?_eq_some_iff.1 hs).1
  obtain ⟨y', Ay, ny, cy, hy', e0, e1, e2, hyr, hny, hnyc, hcy, hny4⟩ := h.at_ hsl
  rw [hs] at hy'
  injection hy' with hy'
  subst hy'
  obtain ⟨hp0, hp1, hp2⟩ := h.ptr
  have hsz := h.size
  have hsl' : (s : Int) < (S.length : Int) := by omega
  have hl := ref_less hx hyr
  obtain ⟨A, n, c, rfl, -⟩ := id hx
  generalize lessB x.l y.l = q at *
  cases hyi : y.is with
  | false =>
    rw [hyi] at e0 hv
    cases hxl : x.long with
    | true => 
      rw [hxl] at hv
      have Xhv := hide hv
      have Xh := hide h
      have Xhs := hide hs
      have Xhx := hide hx
      have Xhyr := hide hyr
      have Xhny := hide hny
      have Xhl := hide hl
      have Xhyi := hide hyi
      have Xhxl := hide hxl
      clear hv h hs hx hyr hny hl hyi hxl
      go_enter Try.func102, Try.ntmps102
      go_wp2_with fail
      go_ret
      exact ⟨ret_bool (by rw [Xhv.out]; first | rfl | simp), 0, rfl⟩
    | false =>
      rw [hxl] at hv
      have Xhv := hide hv
      have Xh := hide h
      have Xhs := hide hs
      have Xhx := hide hx
      have Xhyr := hide hyr
      have Xhny := hide hny
      have Xhl := hide hl
      have Xhyi := hide hyi
      have Xhxl := hide hxl
      clear hv h hs hx hyr hny hl hyi hxl
      go_enter Try.func102, Try.ntmps102
      go_wp2_with fail
      go_ret
      exact ⟨ret_bool (by rw [Xhv.out]; first | rfl | simp), 0, rfl⟩
  | true =>
    rw [hyi] at e0 hv
    cases hyl : y.long with
    | true =>
      rw [hyl] at e1 hv
      cases hxl : x.long with
      | true =>
        rw [hxl] at hv
        have Xhv := hide hv
        have Xh := hide h
        have Xhs := hide hs
        have Xhx := hide hx
        have Xhyr := hide hyr
        have Xhny := hide hny
        have Xhl := hide hl
        have Xhyi := hide hyi
        have Xhxl := hide hxl
        have Xhyl := hide hyl
        clear hv h hs hx hyr hny hl hyi hxl hyl
        go_enter Try.func102, Try.ntmps102
        go_wp2_with fail
        go_ret
        exact ⟨ret_bool (by rw [Xhv.out]; first | rfl | simp), 0, rfl⟩
      | false =>
        rw [hxl] at hv
        have Xhv := hide hv
        have Xh := hide h
        have Xhs := hide hs
        have Xhx := hide hx
        have Xhyr := hide hyr
        have Xhny := hide hny
        have Xhl := hide hl
        have Xhyi := hide hyi
        have Xhxl := hide hxl
        have Xhyl := hide hyl
        clear hv h hs hx hyr hny hl hyi hxl hyl
        go_enter Try.func102, Try.ntmps102
        go_wp2_with fail
        go_ret
        exact ⟨ret_bool (by rw [Xhv.out]; first | rfl | simp), 0, rfl⟩
    | false =>
      rw [hyl] at e1 hv
      cases hxl : x.long with
      | true =>
        rw [hxl] at hv
        have Xhv := hide hv
        have Xh := hide h
        have Xhs := hide hs
        have Xhx := hide hx
        have Xhyr := hide hyr
        have Xhny := hide hny
        have Xhl := hide hl
        have Xhyi := hide hyi
        have Xhxl := hide hxl
        have Xhyl := hide hyl
        clear hv h hs hx hyr hny hl hyi hxl hyl
        go_enter Try.func102, Try.ntmps102
        go_wp2_with fail
        go_ret
        exact ⟨ret_bool (by rw [Xhv.out]; first | rfl | simp), 0, rfl⟩
      | false =>
        rw [hxl] at hv
        have Xhv := hide hv
        have Xh := hide h
        have Xhs := hide hs
        have Xhx := hide hx
        have Xhyr := hide hyr
        have Xhny := hide hny
        have Xhl := hide hl
        have Xhyi := hide hyi
        have Xhxl := hide hxl
        have Xhyl := hide hyl
        clear hv h hs hx hyr hny hl hyi hxl hyl
        go_enter Try.func102, Try.ntmps102
        go_wp2_with fail
        refine Xhl.out.mono ?_
        rintro e w1 ⟨rfl, q1, rfl⟩
        go_wp2_with fail
        go_ret
        exact ⟨ret_bool (by rw [Xhv.out]; first | rfl | simp), q1, rfl⟩

set_option maxRecDepth 100000 in
set_option maxHeartbeats 2000000 in
theorem ref_length {w : World} {F : Nat → Prop} {b gl gi gm : Nat} {S : List FoundD} (h : RefWords w F b gl gi gm S) (s : Int) :
    Calls Try.prog 46 #[.pointer (some ⟨b, 0, none⟩), .int .i64 s] w fun e w' => e = .returned (.int .i64 (lengthOf S s)) ∧ w = w' := by
  obtain ⟨hp0, hp1, hp2⟩ := h.ptr
  have hsz := h.size
  have hv : lengthOf S s = if (lookW S s).is = false then -1 else if (lookW S s).long = true then 4097 else ((lookW S s).l.length : Int) := rfl
  by_cases hs0 : s < 0
  · rw [lookW_neg hs0] at hv
    have Xhv := hide hv
    clear hv
    clear h
    go_enter Try.func46, Try.ntmps46
    go_wp2_with fail
    go_ret
    exact ⟨ret_int (by rw [Xhv.out]; rfl), by first | rfl | trivial⟩
  · by_cases hs1 : (S.length : Int) ≤ s
    · rw [lookW_big hs1] at hv
      have Xhv := hide hv
      clear hv
      clear h
      go_enter Try.func46, Try.ntmps46
      go_wp2_with fail
      go_ret
      exact ⟨ret_int (by rw [Xhv.out]; rfl), by first | rfl | trivial⟩
    · obtain ⟨k, rfl⟩ := Int.eq_ofNat_of_zero_le (by omega : 0 ≤ s)
      have hk : k < S.length := by omega
      have hs1' : (k : Int) < (S.length : Int) := by omega
      obtain ⟨x, Ax, nx, cx, hx, e0, e1, e2, hxr, hnx, hnxc, hcx, hnx4⟩ := h.at_ hk
      rw [lookW_nat hx] at hv
      cases hxi : x.is with
      | false =>
        rw [hxi] at hv e0
        have Xhv := hide hv
        have Xhx := hide hx
        have Xhxr := hide hxr
        have Xhnx := hide hnx
        have Xhxi := hide hxi
        clear hv hx hxr hnx hxi
        clear h
        go_enter Try.func46, Try.ntmps46
        go_wp2_with fail
        go_ret
        exact ⟨ret_int (by rw [Xhv.out]; rfl), by first | rfl | trivial⟩
      | true =>
        rw [hxi] at hv e0
        cases hxl : x.long with
        | true =>
          rw [hxl] at hv e1
          have Xhv := hide hv
          have Xhx := hide hx
          have Xhxr := hide hxr
          have Xhnx := hide hnx
          have Xhxi := hide hxi
          have Xhxl := hide hxl
          clear hv hx hxr hnx hxi hxl
          clear h
          go_enter Try.func46, Try.ntmps46
          go_wp2_with fail
          go_ret
          exact ⟨ret_int (by rw [Xhv.out]; rfl), by first | rfl | trivial⟩
        | false =>
          rw [hxl] at hv e1
          rw [← hnx] at hv
          have Xhv := hide hv
          have Xhx := hide hx
          have Xhxr := hide hxr
          have Xhnx := hide hnx
          have Xhxi := hide hxi
          have Xhxl := hide hxl
          clear hv hx hxr hnx hxi hxl
          clear h
          go_enter Try.func46, Try.ntmps46
          go_wp2_with fail
          go_ret
          exact ⟨ret_int (by rw [Xhv.out]; rfl), by first | rfl | trivial⟩
theorem ref_length_nil (s : Int) (w : World) : Calls Try.prog 46 #[.pointer none, .int .i64 s] w fun e w' => e = .returned (.int .i64 (-1)) ∧ w = w' := by
  go_enter Try.func46, Try.ntmps46
  go_wp2_with fail
  go_ret
  exact ⟨rfl, by first | rfl | trivial⟩
theorem ref_line_nil (v : Value) (w : World) : Calls Try.prog 44 #[.pointer none, v] w fun e w' => e = .returned (.tuple #[.slice none 0 0, .bool false]) ∧ w = w' := by
  go_enter Try.func44, Try.ntmps44
  go_wp2_with fail
  go_ret2
  exact ⟨rfl, by first | rfl | trivial⟩
set_option maxRecDepth 100000 in
theorem ref_line {w : World} {F G : Nat → Prop} {b gl gi gm : Nat} {S : List FoundD} {v : Value} {l : List Int} (h : RefWords w F b gl gi gm S) (hl : RdI w G v l) (hG : ∀ k, G k → k < w.heap.size) (hT : ∀ k, (jTo S (l.take k)).2.length ≤ 4096) :
    Calls Try.prog 44 #[.pointer (some ⟨b, 0, none⟩), v] w (LinePost w (joinOf S l)) := by
  have hj := ref_join h hl hG hT
  obtain ⟨A, n, c, rfl, -⟩ := id hl
  obtain ⟨x, hx⟩ : ∃ x, x = joinOf S l := ⟨_, rfl⟩
  rw [← hx] at hj ⊢
  have Xhj := hide hj
  have Xhx := hide hx
  clear hj hx
  clear h hl hG hT
  go_enter Try.func44, Try.ntmps44
  go_wp2_with fail
  refine Xhj.out.mono ?_
  rintro e w1 ⟨B, m, d, rfl, hr, hb⟩
  cases hxi : x.is with
  | false =>
    have Xhr := hide hr
    have Xhb := hide hb
    have Xhxi := hide hxi
    clear hr hb hxi
    go_wp2_with fail
    go_ret2
    exact ⟨B, m, d, by rw [Xhxi.out]; rfl, Xhr.out, Xhb.out⟩
  | true =>
    have Xhr := hide hr
    have Xhb := hide hb
    have Xhxi := hide hxi
    clear hr hb hxi
    go_wp2_with fail
    go_ret2
    exact ⟨B, m, d, by rw [Xhxi.out]; simp, Xhr.out, Xhb.out⟩
end Go.Proofs.Ytejjaabkbkkjlaa

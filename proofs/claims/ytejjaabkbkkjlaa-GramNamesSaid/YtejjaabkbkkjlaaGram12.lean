/- slices.IndexFunc and ContainsFunc at rules, with any function value whose call is known. -/
import Derived.Test.YtejjaabkbkkjlaaGram11
namespace Go.Proofs.Ytejjaabkbkkjlaa
set_option linter.unusedVariables false
open Go.RowKit

/-- the first of a list of which p is so -/
def firstBy {X : Type} (p : X → Bool) (xs : List X) : Int := match xs.findIdx? p with | some i => (i : Int) | none => -1
theorem firstBy_hit {X : Type} {p : X → Bool} {xs : List X} {i : Nat} {x : X} (h : xs[i]? = some x) (hp : p x = true) (hf : ∀ (j : Nat) (y : X), j < i → xs[j]? = some y → p y = false) : firstBy p xs = i := by
  obtain ⟨hlt, rfl⟩ := List.getElem?_eq_some_iff.1 h
  have : xs.findIdx? p = some i := by
    rw [List.findIdx?_eq_some_iff_getElem]
    exact ⟨hlt, hp, fun j hj => by
      have := hf j _ hj (List.getElem?_eq_getElem (by omega))
      simp [this]⟩
  unfold firstBy
  rw [this]
theorem firstBy_miss {X : Type} {p : X → Bool} {xs : List X} (hf : ∀ (j : Nat) (y : X), xs[j]? = some y → p y = false) : firstBy p xs = -1 := by
  have : xs.findIdx? p = none := by
    rw [List.findIdx?_eq_none_iff]
    intro x hx
    obtain ⟨j, hj, e⟩ := List.getElem_of_mem hx
    exact hf j x (by rw [List.getElem?_eq_getElem hj, e])
  unfold firstBy
  rw [this]
theorem firstBy_any {X : Type} {p : X → Bool} {xs : List X} : decide (0 ≤ firstBy p xs) = xs.any p := by
  unfold firstBy
  rcases h : xs.findIdx? p with _ | i
  · rw [List.findIdx?_eq_none_iff] at h
    have : xs.any p = false := by
      rw [List.any_eq_false]
      intro x hx
      simp [h x hx]
    rw [this]; rfl
  · rw [List.findIdx?_eq_some_iff_getElem] at h
    obtain ⟨hi, hp, _⟩ := h
    have : xs.any p = true := List.any_eq_true.2 ⟨_, List.getElem_mem hi, hp⟩
    rw [this]
    simp
theorem firstBy_lt {X : Type} {p : X → Bool} {xs : List X} : -1 ≤ firstBy p xs ∧ firstBy p xs < xs.length := by
  unfold firstBy
  rcases h : xs.findIdx? p with _ | i
  · simp; omega
  · rw [List.findIdx?_eq_some_iff_getElem] at h
    obtain ⟨hi, _, _⟩ := h
    simp; omega

/-- what is asked of a predicate on rules -/
def PredR (w : World) (F : Nat → Prop) (g : Nat) (lb : Array Value) (p : Int × List Int → Bool) : Prop :=
  ∀ (W : World) (v : Value) (r : Int × List Int), Below w.heap.size w W → RdI W F v r.2 → Calls Try.prog g (#[.agg #[.int .i64 r.1, v]] ++ lb) W (Quiet W (.bool (p r)))

set_option maxHeartbeats 2000000 in
theorem index_rules {w : World} {F : Nat → Prop} {v : Value} {rs : List (Int × List Int)} {g : Nat} {lb : Array Value} {p : Int × List Int → Bool} (h : RdR w F v rs) (hF : ∀ b, F b → b < w.heap.size) (eg : Enters Try.prog g) (hp : PredR w F g lb p) :
    Calls Try.prog 92 #[v, .func (.func g) #[] lb] w (Quiet w (.int .i64 (firstBy p rs))) := by
  obtain ⟨A, c, rfl, _⟩ := id h
  obtain ⟨-, hnc, hcm, hcell⟩ := ERule.at_ h
  obtain ⟨n, en⟩ : ∃ n, n = rs.length := ⟨_, rfl⟩
  rw [← en] at hnc hcell ⊢
  unfold maxLen at hcm
  have HN := hide en
  have HC := hide hcell
  have HF := hide hF
  have HP := hide hp
  have eg' : ∀ args w, (callFunc g args).run Try.prog w = .ok (.enter g args) w := eg
  clear h en hcell hF hp
  go_enter Try.func92, Try.ntmps92
  go_wp2
  go_loopw [8] (fun i wr => ∃ k : Nat, k ≤ n ∧ i = .int .i64 k ∧ Below w.heap.size w wr ∧ ∀ (j : Nat) (y : Int × List Int), j < k → rs[j]? = some y → p y = false) (fun i _ => n - (intOf i).toNat)
  case atStart => exact ⟨0, Nat.zero_le _, rfl, Below.refl _ _, fun j y hj => absurd hj (by omega)⟩
  case round =>
    obtain ⟨k, hk, rfl, hw, hbefore⟩ := hrel
    have HB := hide hbefore
    have HW := hide hw
    clear hbefore
    by_cases hlt : k < n
    · obtain ⟨b, off, rfl, hb, hc⟩ := HC.out (by omega)
      obtain ⟨l, x, vx, hx, hx0, hx1, hxr⟩ := RdR.get (n := n) HF.out hb hw hc (k := k) (by rw [← HN.out]; omega)
      have hs := HP.out wr vx (l, x) hw hxr
      have HX := hide hx
      cases hq : p (l, x) with
      | true =>
        rw [hq] at hs
        have HS := hide hs
        have HQ := hide hq
        clear hs hc hx hxr hw hq
        go_wp2_with (go_at_fn g; refine HS.out.mono ?_; rintro e w1 ⟨rfl, b1⟩)
        go_ret
        exact ⟨ret_int (firstBy_hit HX.out HQ.out HB.out).symm, HW.out.trans (b1.mono HW.out.size)⟩
      | false =>
        rw [hq] at hs
        have HS := hide hs
        have HQ := hide hq
        clear hs hc hx hxr hw hq
        go_wp2_with (go_at_fn g; refine HS.out.mono ?_; rintro e w1 ⟨rfl, b1⟩)
        go_roundw
        case rel =>
          refine ⟨k + 1, by omega, by go_num, HW.out.trans (b1.mono HW.out.size), fun j y hj hy => ?_⟩
          by_cases hjk : j = k
          · subst hjk; rw [HX.out] at hy; injection hy with hy; rw [← hy]; exact HQ.out
          · exact HB.out j y (by omega) hy
        case measure => simp [intOf]; omega
    · clear hw
      go_wp2
      go_ret
      exact ⟨ret_int (firstBy_miss fun j y hy => HB.out j y (by have := (List.getElem?_eq_some_iff.1 hy).1; have := HN.out; omega) hy).symm, HW.out⟩
end Go.Proofs.Ytejjaabkbkkjlaa

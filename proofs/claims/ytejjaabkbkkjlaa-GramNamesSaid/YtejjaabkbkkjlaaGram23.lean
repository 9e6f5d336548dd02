/- A list's head, as a slice; what unlike tells. -/
import Derived.Test.YtejjaabkbkkjlaaGram22
namespace Go.Proofs.Ytejjaabkbkkjlaa
set_option linter.unusedVariables false
open Go.RowKit

theorem RdR.take {w : World} {F : Nat → Prop} {A : Option Addr} {n c k : Nat} {rs : List (Int × List Int)} (h : RdR w F (.slice A n c) rs) (hk : k ≤ n) : RdR w F (.slice A k c) (rs.take k) := by
  obtain ⟨A', c', e, h1, h2, hr⟩ := h
  injection e with e1 e2 e3
  subst e1 e2 e3
  refine ⟨A, c, by rw [List.length_take, Nat.min_eq_left hk], by rw [List.length_take]; omega, h2, fun hn => ?_⟩
  rw [List.length_take] at hn
  obtain ⟨b, off, hA, hF, hc⟩ := hr (by omega)
  refine ⟨b, off, hA, hF, fun i x hx => hc i x ?_⟩
  have hi := (List.getElem?_eq_some_iff.1 hx).1
  rw [List.length_take] at hi
  rw [List.getElem?_take_of_lt (by omega)] at hx
  exact hx

def unlikeUpto (rs : List (Int × List Int)) (k : Nat) : Bool := (List.range k).all (fun i => !(rs.take i).any (fun r => decide (some r = rs[i]?)))
def unlikeOf (rs : List (Int × List Int)) : Bool := unlikeUpto rs rs.length
theorem unlikeUpto_succ {rs : List (Int × List Int)} {k : Nat} {ri : Int × List Int} (h : rs[k]? = some ri) : unlikeUpto rs (k + 1) = (unlikeUpto rs k && !(rs.take k).any (fun r => decide (r = ri))) := by
  unfold unlikeUpto
  rw [List.range_succ, List.all_append]
  simp [h]
end Go.Proofs.Ytejjaabkbkkjlaa

/- The reference's many. -/
import Derived.Test.YtejjaabkbkkjlaaGram20
namespace Go.Proofs.Ytejjaabkbkkjlaa
set_option linter.unusedVariables false
open Go.RowKit

def shortOf (G : GramD) : Bool := G.rules.all (fun r => decide (r.2.length ≤ 8))
def manyOf (G : GramD) : Bool := !shortOf G || (decide (120 < G.terms.length) || (decide (120 < G.nons.length) || decide (300 < G.rules.length)))

set_option maxRecDepth 100000 in
set_option maxHeartbeats 2000000 in
theorem ref_many {w : World} {F : Nat → Prop} {vt vn vr : Value} {G : GramD} (h : IsGram w F vt vn vr G) (st : Int) :
    Calls Try.prog 84 #[GV vt vn vr st] w (Quiet w (.bool (manyOf G))) := by
  have B1 : Below w.heap.size w (w.alloc (.cells #[vt, vn, vr, .int .i64 st] 25)) := (Below.refl _ w).alloc (Nat.le_refl _) _
  have hF := h.lt
  have hsm := h.small
  obtain ⟨A1, c1, A2, c2, A3, c3, rfl, rfl, rfl, l1, l2, l3, m1, m2, m3⟩ := h.slices
  obtain ⟨-, -, -, hcell⟩ := ERule.at_ h.rules
  have hyes : ∀ (k : Nat) (l : Int) (x : List Int), G.rules[k]? = some (l, x) → 8 < x.length → manyOf G = true := fun k l x hx hl => by
    have : shortOf G = false := by
      unfold shortOf
      rw [List.all_eq_false]
      exact ⟨_, List.mem_of_getElem? hx, by simpa using hl⟩
    unfold manyOf; rw [this]; rfl
  have hno : (∀ (k : Nat) (l : Int) (x : List Int), k < G.rules.length → G.rules[k]? = some (l, x) → x.length ≤ 8) → manyOf G = (decide (120 < G.terms.length) || (decide (120 < G.nons.length) || decide (300 < G.rules.length))) := fun hh => by
    have : shortOf G = true := by
      unfold shortOf
      rw [List.all_eq_true]
      intro r hr
      obtain ⟨j, hj, e⟩ := List.getElem_of_mem hr
      have := hh j r.1 r.2 hj (by rw [List.getElem?_eq_getElem hj, e])
      simpa using this
    unfold manyOf; rw [this]; rfl
  obtain ⟨T, eT⟩ : ∃ n, n = G.terms.length := ⟨_, rfl⟩
  obtain ⟨N, eN⟩ : ∃ n, n = G.nons.length := ⟨_, rfl⟩
  obtain ⟨n, en⟩ : ∃ n, n = G.rules.length := ⟨_, rfl⟩
  rw [← eT, ← eN, ← en] at hno hsm B1 ⊢
  rw [← en] at hcell l3
  rw [← eT] at l1
  rw [← eN] at l2
  obtain ⟨s1, s2, s3⟩ := hsm
  have HN := hide en
  have HC := hide hcell
  have HF := hide hF
  have HB := hide B1
  have HY := hide hyes
  have HNO := hide hno
  clear eT eN en hcell hF B1 h hyes hno
  go_enter Try.func84, Try.ntmps84
  go_wp2
  go_loop [3] (fun i => ∃ k : Nat, k ≤ n ∧ i = .int .i64 k ∧ ∀ (j : Nat) (l : Int) (x : List Int), j < k → G.rules[j]? = some (l, x) → x.length ≤ 8) (fun i => n - (intOf i).toNat)
  case atStart => exact ⟨0, Nat.zero_le _, rfl, fun j l x hj => absurd hj (by omega)⟩
  case round =>
    obtain ⟨k, hk, rfl, hbefore⟩ := hrel
    have HBE := hide hbefore
    clear hbefore
    by_cases hlt : k < n
    · obtain ⟨b, off, rfl, hb, hc⟩ := HC.out (by omega)
      obtain ⟨l, x, vx, hx, hx0, hx1, hxr⟩ := RdR.get (n := n) HF.out hb (Below.refl _ w) hc (k := k) (by rw [← HN.out]; omega)
      obtain ⟨A5, n5, c5, rfl, _⟩ := id hxr
      obtain ⟨hn5, hnc5, hcm5, -⟩ := RdI.at_ hxr
      unfold maxLen at hcm5
      have hbw := HF.out b hb
      have hx1' := fun o => cell_a hx1 o
      have HX := hide hx
      have HN5 := hide hn5
      clear hc hx hxr hn5 HC
      by_cases h8 : 8 < n5
      · go_wp2
        go_ret
        exact ⟨ret_bool (HY.out k l x HX.out (by rw [← HN5.out]; exact h8)).symm, HB.out⟩
      · go_wp2
        go_round
        case rel =>
          refine ⟨k + 1, by omega, by go_num, fun j l' x' hj hx' => ?_⟩
          by_cases hjk : j = k
          · subst hjk
            rw [HX.out] at hx'; injection hx' with hx'; injection hx' with _ hx'
            rw [← hx', ← HN5.out]; omega
          · exact HBE.out j l' x' (by omega) hx'
        case measure => simp [intOf]; omega
    · have hkn : k = n := by omega
      subst hkn
      have hm := HNO.out HBE.out
      have HM := hide hm
      clear hm
      by_cases hT : 120 < T
      · have hT' : (120 : Int) < (T : Int) := by omega
        go_wp2
        go_ret
        exact ⟨ret_bool (by rw [HM.out]; simp [hT]), HB.out⟩
      · by_cases hN2 : 120 < N
        · go_wp2
          go_ret
          exact ⟨ret_bool (by rw [HM.out]; simp [hT, hN2]), HB.out⟩
        · go_wp2
          go_ret
          exact ⟨ret_bool (by rw [HM.out]; by_cases e : 300 < k <;> simp [hT, hN2, e] <;> omega), HB.out⟩
end Go.Proofs.Ytejjaabkbkkjlaa

/- Contracts of package bits, part 4: Next, List, Count, Same, Twin. -/
import Derived.Test.YtejjaabkbkkjlaaBits3
namespace Go.Proofs.Ytejjaabkbkkjlaa
set_option linter.unusedVariables false
open Go.RowKit

/-- the least number of the set not below k; -1: none -/
def nextOf (f : Nat → Bool) (n k : Nat) : Int := match (List.range n).find? (fun j => decide (k ≤ j) && f j) with | some j => (j : Int) | none => -1
theorem nextOf_some {f : Nat → Bool} {n k j : Nat} (hf : f j = true) (hk : k ≤ j) (hn : j < n) (hb : ∀ i, k ≤ i → i < j → f i = false) : nextOf f n k = j := by
  have : (List.range n).find? (fun j => decide (k ≤ j) && f j) = some j := by
    rw [List.find?_range_eq_some]
    refine ⟨by simp [hk, hf], List.mem_range.2 hn, fun i hi => ?_⟩
    by_cases h : k ≤ i
    · simp [hb i h hi]
    · simp [h]
  simp [nextOf, this]
theorem nextOf_none {f : Nat → Bool} {n k : Nat} (hb : ∀ i, k ≤ i → i < n → f i = false) : nextOf f n k = -1 := by
  have : (List.range n).find? (fun j => decide (k ≤ j) && f j) = none := by
    rw [List.find?_eq_none]
    intro i hi
    by_cases h : k ≤ i
    · simp [hb i h (List.mem_range.1 hi)]
    · simp [h]
  simp [nextOf, this]

theorem bit_div (x : BitVec 64) (m : Nat) : x.getLsbD m = decide ((x.toNat / 2 ^ m) % 2 = 1) := by
  show x.toNat.testBit m = _
  rw [Nat.testBit_eq_decide_div_mod_eq]
theorem bit_zero {x : BitVec 64} {m j : Nat} (h : x.toNat / 2 ^ m = 0) (hj : m ≤ j) : x.getLsbD j = false := by
  have hp : 0 < 2 ^ m := Nat.pow_pos (by decide)
  have hx : x.toNat < 2 ^ m := by
    rcases Nat.lt_or_ge x.toNat (2 ^ m) with h' | h'
    · exact h'
    · have := Nat.div_pos h' hp; omega
  have hx' : x.toNat < 2 ^ j := Nat.lt_of_lt_of_le hx (Nat.pow_le_pow_right (by decide) hj)
  rw [bit_div, Nat.div_eq_of_lt hx']; rfl
theorem u64_and_1 (y : Nat) (hy : y < 18446744073709551616) : bits .and .u64 (y : Int) 1 = ((y % 2 : Nat) : Int) := by
  have := u64_and_nat y 1 hy (by decide)
  rw [show ((1 : Nat) : Int) = 1 from rfl] at this
  rw [this, Nat.and_one_is_mod]

set_option maxHeartbeats 1000000 in
theorem set_next {w : World} {b n : Nat} {f : Nat → Bool} {S : Nat → Prop} (h : IsSet w b S n f) (i : Int) (hi : (Lit.int .i64 i).wf = true) :
    Calls Try.prog 146 #[.pointer (some ⟨b, 0, none⟩), .int .i64 i] w fun e w' => e = .returned (.int .i64 (nextOf f n i.toNat)) ∧ w = w' := by
  obtain ⟨⟨r, ws, hi', hr, hf⟩, hb', hlt⟩ := id h
  obtain ⟨c, h1, hc, hcm⟩ := hi'.blk
  have c1 := h1.cell 1
  simp at c1
  unfold maxLen at hcm
  have hlen := hi'.len
  have hroom := hi'.room
  have hhigh := h.high
  have H := hide h
  have HI := hide hi'
  have HF := hide hf
  have HH := hide hhigh
  have HL := hide hlen
  clear h hi' hf hhigh hlen h1 hlt
  go_enter Try.func146, Try.ntmps146
  go_wp2
  all_goals
    go_loop [5, 6] (fun v _ => ∃ k : Nat, v = .int .i64 k ∧ i.toNat ≤ k ∧ ∀ j, i.toNat ≤ j → j < k → f j = false) (fun v _ => n + 64 - (intOf v).toNat)
    case atStart => exact ⟨i.toNat, by first | rw [show ((i.toNat : Nat) : Int) = i by omega] | rw [show i.toNat = 0 by omega]; rfl, Nat.le_refl _, fun j h1 h2 => absurd h2 (by omega)⟩
    case round =>
      obtain ⟨k, rfl, hik, hno⟩ := hrel
      have HNO := hide hno
      clear hno
      by_cases hkn : k < n
      · obtain ⟨x, hx, hcx, hlx⟩ := HI.out.word hkn
        have h63 := i64_and_63 k (by omega)
        obtain ⟨m, hm⟩ : ∃ m, m = k % 64 := ⟨_, rfl⟩
        have hm64 : m < 64 := by omega
        obtain ⟨q, hq⟩ : ∃ q, q = k / 64 := ⟨_, rfl⟩
        rw [← hm] at h63
        have hq6 : (k : Int) / 64 = (q : Int) := by omega
        rw [← hq] at hcx hlx
        have hqi : (q : Int) < ws.length := by omega
        have HM := hide hm
        have HQ := hide hq
        have HX := hide hx
        have hkni : (k : Int) < n := by omega
        clear hm hq hx
        obtain ⟨y, hy⟩ : ∃ y, y = x.toNat / 2 ^ m := ⟨_, rfl⟩
        have hyi : (x.toNat : Int) / 2 ^ m = (y : Int) := by rw [hy]; norm_cast
        have hylt : y < 18446744073709551616 := by
          have := x.isLt
          have h' : x.toNat / 2 ^ m ≤ x.toNat := Nat.div_le_self _ _
          omega
        have hor := i64_or_63 k (by omega)
        have hor2 : k / 64 * 64 + 63 = q * 64 + 63 := by rw [← HQ.out]
        rw [hor2] at hor
        have HY := hide hy
        have HYL := hide hylt
        have hq64 : q * 64 + 63 ≤ 4159 := by have := HQ.out; omega
        clear hy hor2 hylt
        by_cases hy0 : y = 0
        · have hy0i : ((y : Int) == 0) = true := by rw [hy0]; rfl
          have HY0 := hide hy0
          clear hy0
          go_wp2_with (go_at_call 163; refine (set_room H.out).mono ?_; rintro e w' ⟨rfl, rfl⟩)
          go_round
          case rel =>
            refine ⟨q * 64 + 64, int_eq (by omega), by have := HQ.out; omega, fun j h1 h2 => ?_⟩
            by_cases hjk : j < k
            · exact HNO.out j h1 hjk
            · have e1 : j / 64 = k / 64 := by have := HQ.out; omega
              rw [← HF.out, bitOf_get (x := x) (by rw [e1]; exact HX.out)]
              refine bit_zero (m := m) (by rw [← HY.out, HY0.out]) ?_
              have := HM.out; have := HQ.out; omega
          case measure => have := HQ.out; simp [intOf]; omega
        · have hy0i : ((y : Int) == 0) = false := by simpa using (by omega : ¬ y = 0)
          have HY0 := hide hy0
          go_wp2_with (go_at_call 163; refine (set_room H.out).mono ?_; rintro e w' ⟨rfl, rfl⟩)
          go_loop [5, 6] (fun v u => ∃ k' y' : Nat, v = .int .i64 k' ∧ u = .int .u64 y' ∧ k ≤ k' ∧ k' / 64 = q ∧ Hid (y' = x.toNat / 2 ^ (k' % 64)) ∧ ¬ y' = 0 ∧ Hid (∀ j, k ≤ j → j < k' → f j = false)) (fun v _ => q * 64 + 64 - (intOf v).toNat)
          case atStart => exact ⟨k, y, rfl, rfl, Nat.le_refl _, HQ.out.symm, by rw [← HM.out]; exact HY.out, hy0, fun j h1 h2 => absurd h2 (by omega)⟩
          case round =>
            obtain ⟨k', y', rfl, rfl, hkk, hkq, HY', hy', HNO'⟩ := hrel
            have hy'lt : y' < 18446744073709551616 := by
              have h1 := x.isLt
              have h' : x.toNat / 2 ^ (k' % 64) ≤ x.toNat := Nat.div_le_self _ _
              rw [← HY'.out] at h'
              omega
            have hand := u64_and_1 y' hy'lt
            have HKQ := hide hkq
            have hk'b : k' ≤ 4159 := by omega
            have HYN := hide hy'
            clear hy'lt hkq hy' HYL
            have hbit : x.getLsbD (k' % 64) = decide (y' % 2 = 1) := by rw [bit_div, ← HY'.out]
            have HB := hide hbit
            clear hbit
            by_cases hp : y' % 2 = 0
            · rw [hp, Int.natCast_zero] at hand
              have HP := hide hp
              clear hp
              go_wp2
              go_round
              case rel =>
                have hy2 : x.toNat / 2 ^ (k' % 64 + 1) = y' / 2 := by rw [Nat.pow_succ, ← Nat.div_div_eq_div_mul, ← HY'.out]
                have hne : ¬ y' / 2 = 0 := by have := HP.out; have := HYN.out; omega
                have h63 : k' % 64 < 63 := by
                  have h1 := x.isLt
                  rcases Nat.lt_or_ge (k' % 64) 63 with h | h
                  · exact h
                  · exfalso
                    have h64 : k' % 64 + 1 = 64 := by omega
                    rw [h64, Nat.div_eq_of_lt h1] at hy2
                    exact hne hy2.symm
                have hq' := HKQ.out
                have e1 : (k' + 1) % 64 = k' % 64 + 1 := by omega
                refine ⟨k' + 1, y' / 2, by go_num, int_eq (by omega), by omega, by omega, by rw [e1]; exact hy2.symm, hne, fun j h1 h2 => ?_⟩
                by_cases hjk : j = k'
                · subst hjk
                  rw [← HF.out, bitOf_get (x := x) (by rw [hq', HQ.out]; exact HX.out), HB.out]
                  have := HP.out
                  simp [this]
                · exact HNO'.out j h1 (by omega)
              case measure => have := HKQ.out; simp [intOf]; omega
            · have hp1 : y' % 2 = 1 := by omega
              rw [hp1] at hand
              have hand' : bits .and .u64 (y' : Int) 1 = 1 := hand
              have HP := hide hp1
              clear hp hp1 hand
              go_wp2
              go_ret
              have hfk : f k' = true := by
                rw [← HF.out, bitOf_get (x := x) (by rw [HKQ.out, HQ.out]; exact HX.out), HB.out]
                have := HP.out
                simp [this]
              have hkn' : k' < n := by
                rcases Nat.lt_or_ge k' n with h | h
                · exact h
                · rw [HH.out k' h] at hfk; cases hfk
              refine ⟨ret_int (nextOf_some hfk (by omega) hkn' fun j h1 h2 => ?_).symm, rfl⟩
              by_cases hjk : j < k
              · exact HNO.out j h1 hjk
              · exact HNO'.out j (by omega) h2
      · have hkni : ¬ (k : Int) < n := by omega
        go_wp2_with (go_at_call 163; refine (set_room H.out).mono ?_; rintro e w' ⟨rfl, rfl⟩)
        go_ret
        exact ⟨ret_int (nextOf_none fun j h1 h2 => HNO.out j h1 (by omega)).symm, rfl⟩
end Go.Proofs.Ytejjaabkbkkjlaa

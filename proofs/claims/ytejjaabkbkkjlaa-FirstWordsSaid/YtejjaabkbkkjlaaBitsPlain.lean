/- Plain facts on words of 64 bits: a list of words as a set of numbers. -/
import Derived.Test.YtejjaabkbkkjlaaBase
namespace Go.Proofs.Ytejjaabkbkkjlaa
set_option linter.unusedVariables false

theorem ofInt_toNat (x : BitVec 64) : BitVec.ofInt 64 (x.toNat : Int) = x := by
  apply BitVec.eq_of_toNat_eq
  rw [BitVec.ofInt_natCast, BitVec.toNat_ofNat]
  exact Nat.mod_eq_of_lt x.isLt
theorem wrap_u64_toNat (x : BitVec 64) : IntKind.u64.wrap (x.toNat : Int) = (x.toNat : Int) := by
  have := x.isLt
  simp [IntKind.wrap, IntKind.bits, IntKind.signed]
  omega
theorem u64_and_bv (x y : BitVec 64) : bits .and .u64 (x.toNat : Int) (y.toNat : Int) = ((x &&& y).toNat : Int) := by
  show IntKind.u64.wrap ((BitVec.ofInt 64 (x.toNat : Int) &&& BitVec.ofInt 64 (y.toNat : Int)).toNat : Int) = _
  rw [ofInt_toNat, ofInt_toNat, wrap_u64_toNat]
theorem u64_or_bv (x y : BitVec 64) : bits .or .u64 (x.toNat : Int) (y.toNat : Int) = ((x ||| y).toNat : Int) := by
  show IntKind.u64.wrap ((BitVec.ofInt 64 (x.toNat : Int) ||| BitVec.ofInt 64 (y.toNat : Int)).toNat : Int) = _
  rw [ofInt_toNat, ofInt_toNat, wrap_u64_toNat]
theorem u64_andNot_bv (x y : BitVec 64) : bits .andNot .u64 (x.toNat : Int) (y.toNat : Int) = ((x &&& ~~~y).toNat : Int) := by
  show IntKind.u64.wrap ((BitVec.ofInt 64 (x.toNat : Int) &&& ~~~BitVec.ofInt 64 (y.toNat : Int)).toNat : Int) = _
  rw [ofInt_toNat, ofInt_toNat, wrap_u64_toNat]
theorem ofInt_i64 (a : Nat) (ha : a < 9223372036854775808) : (BitVec.ofInt 64 (a : Int)).toNat = a := by
  rw [BitVec.ofInt_natCast, BitVec.toNat_ofNat]; exact Nat.mod_eq_of_lt (by omega)
theorem i64_and_63 (a : Nat) (ha : a ≤ 4096) : bits .and .i64 (a : Int) 63 = ((a % 64 : Nat) : Int) := by
  show IntKind.i64.wrap ((BitVec.ofInt 64 (a : Int) &&& BitVec.ofInt 64 (63 : Int)).toNat : Int) = _
  have h63 : (BitVec.ofInt 64 (63 : Int)).toNat = 2 ^ 6 - 1 := by decide
  rw [BitVec.toNat_and, ofInt_i64 a (by omega), h63, Nat.and_two_pow_sub_one_eq_mod, IntKind.wrap_i64]
  have : a % 2 ^ 6 < 64 := Nat.mod_lt _ (by decide)
  omega
theorem i64_or_63 (a : Nat) (ha : a ≤ 4096) : bits .or .i64 (a : Int) 63 = ((a / 64 * 64 + 63 : Nat) : Int) := by
  show IntKind.i64.wrap ((BitVec.ofInt 64 (a : Int) ||| BitVec.ofInt 64 (63 : Int)).toNat : Int) = _
  have h63 : (BitVec.ofInt 64 (63 : Int)).toNat = 63 := by decide
  have hor : a ||| 63 = a / 64 * 64 + 63 := by
    apply Nat.eq_of_testBit_eq
    intro i
    rw [Nat.testBit_or]
    have e : a / 64 * 64 + 63 = 2 ^ 6 * (a / 64) + 63 := by omega
    rw [e, Nat.testBit_two_pow_mul_add _ (by decide)]
    by_cases hi : i < 6
    · rw [if_pos hi]
      have : (63 : Nat) = 2 ^ 6 - 1 := rfl
      rw [this, Nat.testBit_two_pow_sub_one]
      simp [hi]
    · rw [if_neg hi]
      have h1 : (63 : Nat) = 2 ^ 6 - 1 := rfl
      rw [h1, Nat.testBit_two_pow_sub_one]
      have h2 : a / 64 = a / 2 ^ 6 := rfl
      rw [h2, Nat.testBit_div_two_pow]
      simp [hi]
      congr 1
      omega
  rw [BitVec.toNat_or, ofInt_i64 a (by omega), h63, hor, IntKind.wrap_i64]
  omega

theorem zero_iff (x : BitVec 64) : ((x.toNat : Int) == 0) = decide (x = 0#64) := by
  rw [Bool.eq_iff_iff]
  simp only [beq_iff_eq, decide_eq_true_eq]
  constructor
  · intro h; apply BitVec.eq_of_toNat_eq; simp; omega
  · rintro rfl; rfl

/-- the numbers of words -/
def bitOf (ws : List (BitVec 64)) (j : Nat) : Bool := (ws.getD (j / 64) 0#64).getLsbD (j % 64)

def one (k : Nat) : BitVec 64 := BitVec.twoPow 64 k

theorem wrap_pow (k : Nat) (hk : k < 64) : IntKind.u64.wrap (2 ^ k) = ((one k).toNat : Int) := by
  have h : ((one k).toNat : Int) = 2 ^ k := by
    unfold one
    rw [BitVec.toNat_twoPow, Nat.mod_eq_of_lt (Nat.pow_lt_pow_right (by decide) hk)]
    norm_cast
  rw [← h, wrap_u64_toNat]

theorem and_one (x : BitVec 64) (k : Nat) (hk : k < 64) : (x &&& one k = 0#64) ↔ x.getLsbD k = false := by
  unfold one
  constructor
  · intro h
    have := congrArg (fun y => y.getLsbD k) h
    simpa [BitVec.getLsbD_and, BitVec.getLsbD_twoPow, hk] using this
  · intro h
    apply BitVec.eq_of_getLsbD_eq
    intro i hi
    by_cases e : i = k
    · subst e; simp [BitVec.getLsbD_and, h]
    · simp [BitVec.getLsbD_and, BitVec.getLsbD_twoPow]; intro _ _ e'; exact absurd e'.symm e
theorem mask_test (x : BitVec 64) (k : Nat) (hk : k < 64) : (((x &&& one k).toNat : Int) != 0) = x.getLsbD k := by
  unfold bne
  rw [zero_iff]
  have := and_one x k hk
  cases h : x.getLsbD k
  · simp [this.2 h]
  · have hne : ¬ x &&& one k = 0#64 := fun e => by rw [this.1 e] at h; cases h
    simp [hne]
theorem or_one (x : BitVec 64) (k i : Nat) (hk : k < 64) : (x ||| one k).getLsbD i = (x.getLsbD i || decide (i = k)) := by
  unfold one
  rw [BitVec.getLsbD_or, BitVec.getLsbD_twoPow]
  by_cases e : i = k
  · subst e; simp [hk]
  · simp [e]; intro _ e'; exact absurd e'.symm e
theorem andNot_one (x : BitVec 64) (k i : Nat) (hk : k < 64) : (x &&& ~~~one k).getLsbD i = (x.getLsbD i && decide (i ≠ k)) := by
  unfold one
  rw [BitVec.getLsbD_and, BitVec.getLsbD_not, BitVec.getLsbD_twoPow]
  by_cases hi : i < 64
  · by_cases e : i = k
    · subst e; simp [hk]
    · have e' : ¬ k = i := fun h => e h.symm
      simp [e, hi, e']
  · rw [BitVec.getLsbD_of_ge x i (by omega)]; simp

theorem bitOf_set (ws : List (BitVec 64)) (i : Nat) (y : BitVec 64) (hi : i < ws.length) (j : Nat) : bitOf (ws.set i y) j = if j / 64 = i then y.getLsbD (j % 64) else bitOf ws j := by
  unfold bitOf
  by_cases h : j / 64 = i
  · subst h; simp [List.getD, hi]
  · rw [if_neg h]; simp [List.getD, List.getElem?_set_ne (Ne.symm h)]
theorem bitOf_get {ws : List (BitVec 64)} {i : Nat} {x : BitVec 64} (h : ws[i / 64]? = some x) : bitOf ws i = x.getLsbD (i % 64) := by simp [bitOf, List.getD, h]
theorem div_mod_eq {i j : Nat} : (j / 64 = i / 64 ∧ j % 64 = i % 64) ↔ j = i := by omega
theorem bitOf_put {ws : List (BitVec 64)} {i : Nat} {x : BitVec 64} (h : ws[i / 64]? = some x) (j : Nat) : bitOf (ws.set (i / 64) (x ||| one (i % 64))) j = (bitOf ws j || decide (j = i)) := by
  have hl := (List.getElem?_eq_some_iff.1 h).1
  rw [bitOf_set _ _ _ hl]
  by_cases e : j / 64 = i / 64
  · rw [if_pos e, or_one _ _ _ (Nat.mod_lt _ (by decide))]
    have : bitOf ws j = x.getLsbD (j % 64) := bitOf_get (by rw [e]; exact h)
    rw [this]
    congr 1
    exact decide_eq_decide.2 ⟨fun h' => div_mod_eq.1 ⟨e, h'⟩, fun h' => by rw [h']⟩
  · rw [if_neg e]
    have : ¬ j = i := fun h' => e (by rw [h'])
    simp [this]
theorem bitOf_drop {ws : List (BitVec 64)} {i : Nat} {x : BitVec 64} (h : ws[i / 64]? = some x) (j : Nat) : bitOf (ws.set (i / 64) (x &&& ~~~one (i % 64))) j = (bitOf ws j && decide (j ≠ i)) := by
  have hl := (List.getElem?_eq_some_iff.1 h).1
  rw [bitOf_set _ _ _ hl]
  by_cases e : j / 64 = i / 64
  · rw [if_pos e, andNot_one _ _ _ (Nat.mod_lt _ (by decide))]
    have : bitOf ws j = x.getLsbD (j % 64) := bitOf_get (by rw [e]; exact h)
    rw [this]
    congr 1
    exact decide_eq_decide.2 ⟨fun h' h'' => h' (by rw [h'']), fun h' h'' => h' (div_mod_eq.1 ⟨e, h''⟩)⟩
  · rw [if_neg e]
    have : ¬ j = i := fun h' => e (by rw [h'])
    simp [this]

/-! ### words cut off behind a room -/
def mask (m : Nat) : BitVec 64 := BitVec.ofNat 64 (2 ^ m - 1)
theorem mask_bit (x : BitVec 64) (m i : Nat) (hm : m < 64) : (x &&& mask m).getLsbD i = (x.getLsbD i && decide (i < m)) := by
  unfold mask
  rw [BitVec.getLsbD_and, BitVec.getLsbD_ofNat, Nat.testBit_two_pow_sub_one]
  by_cases hi : i < 64
  · simp [hi]
  · rw [BitVec.getLsbD_of_ge x i (by omega)]; simp
theorem wrap_mask (m : Nat) (hm : m < 64) : IntKind.u64.wrap (((one m).toNat : Int) - 1) = ((mask m).toNat : Int) := by
  have h1 : ((one m).toNat : Int) = 2 ^ m := by
    unfold one
    rw [BitVec.toNat_twoPow, Nat.mod_eq_of_lt (Nat.pow_lt_pow_right (by decide) hm)]
    norm_cast
  have hp : 2 ^ m < 2 ^ 64 := Nat.pow_lt_pow_right (by decide) hm
  have hp0 : 0 < 2 ^ m := Nat.pow_pos (by decide)
  have h2 : ((mask m).toNat : Int) = 2 ^ m - 1 := by
    unfold mask
    rw [BitVec.toNat_ofNat, Nat.mod_eq_of_lt (by omega)]
    have : ((2 ^ m - 1 : Nat) : Int) = ((2 ^ m : Nat) : Int) - 1 := by omega
    rw [this]; norm_cast
  rw [h1, ← h2, wrap_u64_toNat]

/-- the words of a set behind a room k -/
def cutWords (ws : List (BitVec 64)) (k : Nat) : List (BitVec 64) :=
  let l := ws.take ((k + 63) / 64)
  if k % 64 = 0 then l else l.set ((k + 63) / 64 - 1) (ws.getD (k / 64) 0#64 &&& mask (k % 64))
theorem cutWords_length (ws : List (BitVec 64)) (k : Nat) (hk : (k + 63) / 64 ≤ ws.length) : (cutWords ws k).length = (k + 63) / 64 := by
  unfold cutWords
  by_cases h : k % 64 = 0
  · simp [h]; omega
  · simp [h]; omega
theorem bitOf_cut (ws : List (BitVec 64)) (k : Nat) (hk : (k + 63) / 64 ≤ ws.length) (j : Nat) : bitOf (cutWords ws k) j = (bitOf ws j && decide (j < k)) := by
  have htake : bitOf (ws.take ((k + 63) / 64)) j = if j / 64 < (k + 63) / 64 then bitOf ws j else false := by
    unfold bitOf
    by_cases h : j / 64 < (k + 63) / 64
    · simp [List.getD, h]
    · rw [if_neg h]; simp [List.getD, List.getElem?_take, h]
  unfold cutWords
  by_cases h : k % 64 = 0
  · simp only [h, if_true]
    rw [htake]
    by_cases hj : j < k
    · rw [if_pos (by omega)]; simp [hj]
    · rw [if_neg (by omega)]; simp [hj]
  · simp only [h, if_false]
    rw [bitOf_set _ _ _ (by simp; omega)]
    have e1 : (k + 63) / 64 - 1 = k / 64 := by omega
    rw [e1]
    by_cases hj : j / 64 = k / 64
    · rw [if_pos hj, mask_bit _ _ _ (Nat.mod_lt _ (by decide))]
      have : bitOf ws j = (ws.getD (k / 64) 0#64).getLsbD (j % 64) := by unfold bitOf; rw [hj]
      rw [this]
      congr 1
      exact decide_eq_decide.2 (by omega)
    · rw [if_neg hj, htake]
      by_cases hjk : j < k
      · rw [if_pos (by omega)]; simp [hjk]
      · rw [if_neg (by omega)]; simp [hjk]
end Go.Proofs.Ytejjaabkbkkjlaa

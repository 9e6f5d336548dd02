/- The classes of bytes: the program's. -/
import Derived.Test.YtejjaabkbkkjlaaChar
namespace Go.Proofs.Ytejjaabkbkkjlaa
set_option linter.unusedVariables false
open Go.RowKit

theorem or32_all : ∀ c : Fin 256, bits BinOp.or IntKind.u8 (c.val : Int) 32 = if (c.val : Int) / 32 % 2 = 1 then (c.val : Int) else c.val + 32 := by decide +kernel
theorem or32 (c : Int) (h0 : 0 ≤ c) (h1 : c < 256) : bits BinOp.or IntKind.u8 c 32 = if c / 32 % 2 = 1 then c else c + 32 := by
  have := or32_all ⟨c.toNat, by omega⟩
  simp only [Int.toNat_of_nonneg h0] at this
  exact this
def letterOf (c : Int) : Int := if 48 ≤ c ∧ c ≤ 57 then 3 else if (97 ≤ c ∧ c ≤ 122) ∨ (65 ≤ c ∧ c ≤ 90) ∨ c = 95 then 4 else 8

set_option maxRecDepth 100000 in
set_option maxHeartbeats 4000000 in
theorem char_letter (c : Int) (h0 : 0 ≤ c) (h1 : c < 256) (w : World) : Calls Try.prog 165 #[.int .u8 c] w fun e w' => e = .returned (.int .i64 (letterOf c)) ∧ w = w' := by
  have hor := or32 c h0 h1
  obtain ⟨v, hv⟩ : ∃ v, v = bits BinOp.or IntKind.u8 c 32 := ⟨_, rfl⟩
  rw [← hv] at hor
  have hvv : (c / 32 % 2 = 1 ∧ v = c) ∨ (¬ c / 32 % 2 = 1 ∧ v = c + 32) := by
    by_cases e : c / 32 % 2 = 1
    · rw [if_pos e] at hor; exact .inl ⟨e, hor⟩
    · rw [if_neg e] at hor; exact .inr ⟨e, hor⟩
  clear hor
  by_cases q47 : c ≤ 47
  · have XHC : Hid (letterOf c = 8) := hide (by unfold letterOf; repeat (first | rw [if_pos (by omega)] | rw [if_neg (by omega)]))
    have e95 : ((c : Int) == 95) = false := by rw [beq_eq_false_iff_ne]; omega
    have g48 : decide ((48 : Int) ≤ c) = false := by rw [decide_eq_false_iff_not]; omega
    have l57 : decide (c ≤ (57 : Int)) = true := by rw [decide_eq_true_eq]; omega
    have g97 : decide ((97 : Int) ≤ v) = false := by rw [decide_eq_false_iff_not]; omega
    rw [hv] at g97
    clear h0 h1 hv hvv q47
    go_enter Try.func165, Try.ntmps165
    go_wp2
    go_ret
    exact ⟨ret_int XHC.out.symm, rfl⟩
  by_cases q57 : c ≤ 57
  · have XHC : Hid (letterOf c = 3) := hide (by unfold letterOf; repeat (first | rw [if_pos (by omega)] | rw [if_neg (by omega)]))
    have e95 : ((c : Int) == 95) = false := by rw [beq_eq_false_iff_ne]; omega
    have g48 : decide ((48 : Int) ≤ c) = true := by rw [decide_eq_true_eq]; omega
    have l57 : decide (c ≤ (57 : Int)) = true := by rw [decide_eq_true_eq]; omega
    have g97 : decide ((97 : Int) ≤ v) = false := by rw [decide_eq_false_iff_not]; omega
    rw [hv] at g97
    clear h0 h1 hv hvv q47 q57
    go_enter Try.func165, Try.ntmps165
    go_wp2
    go_ret
    exact ⟨ret_int XHC.out.symm, rfl⟩
  by_cases q64 : c ≤ 64
  · have XHC : Hid (letterOf c = 8) := hide (by unfold letterOf; repeat (first | rw [if_pos (by omega)] | rw [if_neg (by omega)]))
    have e95 : ((c : Int) == 95) = false := by rw [beq_eq_false_iff_ne]; omega
    have g48 : decide ((48 : Int) ≤ c) = true := by rw [decide_eq_true_eq]; omega
    have l57 : decide (c ≤ (57 : Int)) = false := by rw [decide_eq_false_iff_not]; omega
    have g97 : decide ((97 : Int) ≤ v) = false := by rw [decide_eq_false_iff_not]; omega
    rw [hv] at g97
    clear h0 h1 hv hvv q47 q57 q64
    go_enter Try.func165, Try.ntmps165
    go_wp2
    go_ret
    exact ⟨ret_int XHC.out.symm, rfl⟩
  by_cases q90 : c ≤ 90
  · have XHC : Hid (letterOf c = 4) := hide (by unfold letterOf; repeat (first | rw [if_pos (by omega)] | rw [if_neg (by omega)]))
    have e95 : ((c : Int) == 95) = false := by rw [beq_eq_false_iff_ne]; omega
    have g48 : decide ((48 : Int) ≤ c) = true := by rw [decide_eq_true_eq]; omega
    have l57 : decide (c ≤ (57 : Int)) = false := by rw [decide_eq_false_iff_not]; omega
    have g97 : decide ((97 : Int) ≤ v) = true := by rw [decide_eq_true_eq]; omega
    have l122 : decide (v ≤ (122 : Int)) = true := by rw [decide_eq_true_eq]; omega
    rw [hv] at g97 l122
    clear h0 h1 hv hvv q47 q57 q64 q90
    go_enter Try.func165, Try.ntmps165
    go_wp2
    go_ret
    exact ⟨ret_int XHC.out.symm, rfl⟩
  by_cases q94 : c ≤ 94
  · have XHC : Hid (letterOf c = 8) := hide (by unfold letterOf; repeat (first | rw [if_pos (by omega)] | rw [if_neg (by omega)]))
    have e95 : ((c : Int) == 95) = false := by rw [beq_eq_false_iff_ne]; omega
    have g48 : decide ((48 : Int) ≤ c) = true := by rw [decide_eq_true_eq]; omega
    have l57 : decide (c ≤ (57 : Int)) = false := by rw [decide_eq_false_iff_not]; omega
    have g97 : decide ((97 : Int) ≤ v) = true := by rw [decide_eq_true_eq]; omega
    have l122 : decide (v ≤ (122 : Int)) = false := by rw [decide_eq_false_iff_not]; omega
    rw [hv] at g97 l122
    clear h0 h1 hv hvv q47 q57 q64 q90 q94
    go_enter Try.func165, Try.ntmps165
    go_wp2
    go_ret
    exact ⟨ret_int XHC.out.symm, rfl⟩
  by_cases q95 : c ≤ 95
  · have XHC : Hid (letterOf c = 4) := hide (by unfold letterOf; repeat (first | rw [if_pos (by omega)] | rw [if_neg (by omega)]))
    have g48 : decide ((48 : Int) ≤ c) = true := by rw [decide_eq_true_eq]; omega
    have l57 : decide (c ≤ (57 : Int)) = false := by rw [decide_eq_false_iff_not]; omega
    have e95 : ((c : Int) == 95) = true := by rw [beq_iff_eq]; omega
    have g97 : decide ((97 : Int) ≤ v) = true := by rw [decide_eq_true_eq]; omega
    have l122 : decide (v ≤ (122 : Int)) = false := by rw [decide_eq_false_iff_not]; omega
    rw [hv] at g97 l122
    clear h0 h1 hv hvv q47 q57 q64 q90 q94 q95
    go_enter Try.func165, Try.ntmps165
    go_wp2
    go_ret
    exact ⟨ret_int XHC.out.symm, rfl⟩
  by_cases q96 : c ≤ 96
  · have XHC : Hid (letterOf c = 8) := hide (by unfold letterOf; repeat (first | rw [if_pos (by omega)] | rw [if_neg (by omega)]))
    have e95 : ((c : Int) == 95) = false := by rw [beq_eq_false_iff_ne]; omega
    have g48 : decide ((48 : Int) ≤ c) = true := by rw [decide_eq_true_eq]; omega
    have l57 : decide (c ≤ (57 : Int)) = false := by rw [decide_eq_false_iff_not]; omega
    have g97 : decide ((97 : Int) ≤ v) = false := by rw [decide_eq_false_iff_not]; omega
    rw [hv] at g97
    clear h0 h1 hv hvv q47 q57 q64 q90 q94 q95 q96
    go_enter Try.func165, Try.ntmps165
    go_wp2
    go_ret
    exact ⟨ret_int XHC.out.symm, rfl⟩
  by_cases q122 : c ≤ 122
  · have XHC : Hid (letterOf c = 4) := hide (by unfold letterOf; repeat (first | rw [if_pos (by omega)] | rw [if_neg (by omega)]))
    have e95 : ((c : Int) == 95) = false := by rw [beq_eq_false_iff_ne]; omega
    have g48 : decide ((48 : Int) ≤ c) = true := by rw [decide_eq_true_eq]; omega
    have l57 : decide (c ≤ (57 : Int)) = false := by rw [decide_eq_false_iff_not]; omega
    have g97 : decide ((97 : Int) ≤ v) = true := by rw [decide_eq_true_eq]; omega
    have l122 : decide (v ≤ (122 : Int)) = true := by rw [decide_eq_true_eq]; omega
    rw [hv] at g97 l122
    clear h0 h1 hv hvv q47 q57 q64 q90 q94 q95 q96 q122
    go_enter Try.func165, Try.ntmps165
    go_wp2
    go_ret
    exact ⟨ret_int XHC.out.symm, rfl⟩
  by_cases q255 : c ≤ 255
  · have XHC : Hid (letterOf c = 8) := hide (by unfold letterOf; repeat (first | rw [if_pos (by omega)] | rw [if_neg (by omega)]))
    have e95 : ((c : Int) == 95) = false := by rw [beq_eq_false_iff_ne]; omega
    have g48 : decide ((48 : Int) ≤ c) = true := by rw [decide_eq_true_eq]; omega
    have l57 : decide (c ≤ (57 : Int)) = false := by rw [decide_eq_false_iff_not]; omega
    have g97 : decide ((97 : Int) ≤ v) = true := by rw [decide_eq_true_eq]; omega
    have l122 : decide (v ≤ (122 : Int)) = false := by rw [decide_eq_false_iff_not]; omega
    rw [hv] at g97 l122
    clear h0 h1 hv hvv q47 q57 q64 q90 q94 q95 q96 q122 q255
    go_enter Try.func165, Try.ntmps165
    go_wp2
    go_ret
    exact ⟨ret_int XHC.out.symm, rfl⟩
  · omega

set_option maxRecDepth 100000 in
set_option maxHeartbeats 4000000 in
theorem char_class (c : Int) (h0 : 0 ≤ c) (h1 : c < 256) (w : World) : Calls Try.prog 152 #[.int .u8 c] w fun e w' => e = .returned (.int .i64 (classOf c)) ∧ w = w' := by
  by_cases s0 : c = 0
  · subst s0
    have XHC : Hid (classOf 0 = 0) := hide (by decide)
    clear h0 h1 
    go_enter Try.func152, Try.ntmps152
    go_wp2
    go_ret
    exact ⟨ret_int XHC.out.symm, rfl⟩
  by_cases s9 : c = 9
  · subst s9
    have XHC : Hid (classOf 9 = 1) := hide (by decide)
    clear h0 h1 s0
    go_enter Try.func152, Try.ntmps152
    go_wp2
    go_ret
    exact ⟨ret_int XHC.out.symm, rfl⟩
  by_cases s10 : c = 10
  · subst s10
    have XHC : Hid (classOf 10 = 2) := hide (by decide)
    clear h0 h1 s0 s9
    go_enter Try.func152, Try.ntmps152
    go_wp2
    go_ret
    exact ⟨ret_int XHC.out.symm, rfl⟩
  by_cases s32 : c = 32
  · subst s32
    have XHC : Hid (classOf 32 = 1) := hide (by decide)
    clear h0 h1 s0 s9 s10
    go_enter Try.func152, Try.ntmps152
    go_wp2
    go_ret
    exact ⟨ret_int XHC.out.symm, rfl⟩
  by_cases s34 : c = 34
  · subst s34
    have XHC : Hid (classOf 34 = 6) := hide (by decide)
    clear h0 h1 s0 s9 s10 s32
    go_enter Try.func152, Try.ntmps152
    go_wp2
    go_ret
    exact ⟨ret_int XHC.out.symm, rfl⟩
  by_cases s36 : c = 36
  · subst s36
    have XHC : Hid (classOf 36 = 7) := hide (by decide)
    clear h0 h1 s0 s9 s10 s32 s34
    go_enter Try.func152, Try.ntmps152
    go_wp2
    go_ret
    exact ⟨ret_int XHC.out.symm, rfl⟩
  by_cases s38 : c = 38
  · subst s38
    have XHC : Hid (classOf 38 = 5) := hide (by decide)
    clear h0 h1 s0 s9 s10 s32 s34 s36
    go_enter Try.func152, Try.ntmps152
    go_wp2
    go_ret
    exact ⟨ret_int XHC.out.symm, rfl⟩
  by_cases s39 : c = 39
  · subst s39
    have XHC : Hid (classOf 39 = 6) := hide (by decide)
    clear h0 h1 s0 s9 s10 s32 s34 s36 s38
    go_enter Try.func152, Try.ntmps152
    go_wp2
    go_ret
    exact ⟨ret_int XHC.out.symm, rfl⟩
  by_cases s40 : c = 40
  · subst s40
    have XHC : Hid (classOf 40 = 5) := hide (by decide)
    clear h0 h1 s0 s9 s10 s32 s34 s36 s38 s39
    go_enter Try.func152, Try.ntmps152
    go_wp2
    go_ret
    exact ⟨ret_int XHC.out.symm, rfl⟩
  by_cases s41 : c = 41
  · subst s41
    have XHC : Hid (classOf 41 = 5) := hide (by decide)
    clear h0 h1 s0 s9 s10 s32 s34 s36 s38 s39 s40
    go_enter Try.func152, Try.ntmps152
    go_wp2
    go_ret
    exact ⟨ret_int XHC.out.symm, rfl⟩
  by_cases s59 : c = 59
  · subst s59
    have XHC : Hid (classOf 59 = 5) := hide (by decide)
    clear h0 h1 s0 s9 s10 s32 s34 s36 s38 s39 s40 s41
    go_enter Try.func152, Try.ntmps152
    go_wp2
    go_ret
    exact ⟨ret_int XHC.out.symm, rfl⟩
  by_cases s60 : c = 60
  · subst s60
    have XHC : Hid (classOf 60 = 5) := hide (by decide)
    clear h0 h1 s0 s9 s10 s32 s34 s36 s38 s39 s40 s41 s59
    go_enter Try.func152, Try.ntmps152
    go_wp2
    go_ret
    exact ⟨ret_int XHC.out.symm, rfl⟩
  by_cases s62 : c = 62
  · subst s62
    have XHC : Hid (classOf 62 = 5) := hide (by decide)
    clear h0 h1 s0 s9 s10 s32 s34 s36 s38 s39 s40 s41 s59 s60
    go_enter Try.func152, Try.ntmps152
    go_wp2
    go_ret
    exact ⟨ret_int XHC.out.symm, rfl⟩
  by_cases s92 : c = 92
  · subst s92
    have XHC : Hid (classOf 92 = 6) := hide (by decide)
    clear h0 h1 s0 s9 s10 s32 s34 s36 s38 s39 s40 s41 s59 s60 s62
    go_enter Try.func152, Try.ntmps152
    go_wp2
    go_ret
    exact ⟨ret_int XHC.out.symm, rfl⟩
  by_cases s95 : c = 95
  · subst s95
    have XHC : Hid (classOf 95 = 4) := hide (by decide)
    clear h0 h1 s0 s9 s10 s32 s34 s36 s38 s39 s40 s41 s59 s60 s62 s92
    go_enter Try.func152, Try.ntmps152
    go_wp2
    go_ret
    exact ⟨ret_int XHC.out.symm, rfl⟩
  by_cases s96 : c = 96
  · subst s96
    have XHC : Hid (classOf 96 = 6) := hide (by decide)
    clear h0 h1 s0 s9 s10 s32 s34 s36 s38 s39 s40 s41 s59 s60 s62 s92 s95
    go_enter Try.func152, Try.ntmps152
    go_wp2
    go_ret
    exact ⟨ret_int XHC.out.symm, rfl⟩
  by_cases s124 : c = 124
  · subst s124
    have XHC : Hid (classOf 124 = 5) := hide (by decide)
    clear h0 h1 s0 s9 s10 s32 s34 s36 s38 s39 s40 s41 s59 s60 s62 s92 s95 s96
    go_enter Try.func152, Try.ntmps152
    go_wp2
    go_ret
    exact ⟨ret_int XHC.out.symm, rfl⟩
  have XHC : Hid (classOf c = letterOf c) := hide (by
    unfold classOf letterOf
    rw [if_neg (by omega), if_neg (by omega), if_neg (by omega)]
    by_cases a : 48 ≤ c ∧ c ≤ 57
    · rw [if_pos a, if_pos a]
    · rw [if_neg a, if_neg a]
      by_cases b : (97 ≤ c ∧ c ≤ 122) ∨ (65 ≤ c ∧ c ≤ 90) ∨ c = 95
      · rw [if_pos b, if_pos b]
      · rw [if_neg b, if_neg b, if_neg (by omega), if_neg (by omega), if_neg (by omega)])
  have XL : Hid _ := hide (char_letter c h0 h1 w)
  have e0 : ((c : Int) == 0) = false := by rw [beq_eq_false_iff_ne]; exact s0
  have e9 : ((c : Int) == 9) = false := by rw [beq_eq_false_iff_ne]; exact s9
  have e10 : ((c : Int) == 10) = false := by rw [beq_eq_false_iff_ne]; exact s10
  have e32 : ((c : Int) == 32) = false := by rw [beq_eq_false_iff_ne]; exact s32
  have e34 : ((c : Int) == 34) = false := by rw [beq_eq_false_iff_ne]; exact s34
  have e36 : ((c : Int) == 36) = false := by rw [beq_eq_false_iff_ne]; exact s36
  have e38 : ((c : Int) == 38) = false := by rw [beq_eq_false_iff_ne]; exact s38
  have e39 : ((c : Int) == 39) = false := by rw [beq_eq_false_iff_ne]; exact s39
  have e40 : ((c : Int) == 40) = false := by rw [beq_eq_false_iff_ne]; exact s40
  have e41 : ((c : Int) == 41) = false := by rw [beq_eq_false_iff_ne]; exact s41
  have e59 : ((c : Int) == 59) = false := by rw [beq_eq_false_iff_ne]; exact s59
  have e60 : ((c : Int) == 60) = false := by rw [beq_eq_false_iff_ne]; exact s60
  have e62 : ((c : Int) == 62) = false := by rw [beq_eq_false_iff_ne]; exact s62
  have e92 : ((c : Int) == 92) = false := by rw [beq_eq_false_iff_ne]; exact s92
  have e95 : ((c : Int) == 95) = false := by rw [beq_eq_false_iff_ne]; exact s95
  have e96 : ((c : Int) == 96) = false := by rw [beq_eq_false_iff_ne]; exact s96
  have e124 : ((c : Int) == 124) = false := by rw [beq_eq_false_iff_ne]; exact s124
  clear h0 h1 s0 s9 s10 s32 s34 s36 s38 s39 s40 s41 s59 s60 s62 s92 s95 s96 s124
  go_enter Try.func152, Try.ntmps152
  go_wp2_with fail
  refine XL.out.mono ?_
  rintro e w' ⟨rfl, rfl⟩
  go_wp2_with fail
  go_ret
  exact ⟨ret_int XHC.out.symm, rfl⟩
end Go.Proofs.Ytejjaabkbkkjlaa

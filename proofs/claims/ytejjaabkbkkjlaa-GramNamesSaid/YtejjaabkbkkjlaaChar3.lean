/- Names: conchref01.Name, char.ascii, char.Name. -/
import Derived.Test.YtejjaabkbkkjlaaChar2
import Derived.Shelf.Abstract
namespace Go.Proofs.Ytejjaabkbkkjlaa
set_option linter.unusedVariables false
open Go.RowKit

def Quiet0 (w : World) (r : Value) (e : Ending) (w' : World) : Prop := e = .returned r ∧ Below w.heap.size w w'

def byteAt (s : ByteArray) (k : Nat) : Int := if h : k < s.size then (s[k].toNat : Int) else 0
theorem byteAt_eq {s : ByteArray} {k : Nat} (h : k < s.size) : byteAt s k = (s[k].toNat : Int) := by unfold byteAt; rw [dif_pos h]
theorem byteAt_lt (s : ByteArray) (k : Nat) : 0 ≤ byteAt s k ∧ byteAt s k < 256 := by
  unfold byteAt
  split
  · rename_i h; have := s[k].toNat_lt; omega
  · omega
def goodAt (s : ByteArray) (k : Nat) : Bool := decide (classOf (byteAt s k) = 4) || (decide (classOf (byteAt s k) = 3) && decide (0 < k))
def goodUpto (s : ByteArray) (k : Nat) : Bool := (List.range k).all (goodAt s)
def nameB (s : ByteArray) : Bool := decide (0 < s.size) && goodUpto s s.size
theorem goodUpto_succ (s : ByteArray) (k : Nat) : goodUpto s (k + 1) = (goodUpto s k && goodAt s k) := by unfold goodUpto; rw [List.range_succ, List.all_append]; simp
theorem goodUpto_no {s : ByteArray} {k : Nat} (hk : k < s.size) (h : goodAt s k = false) : nameB s = false := by
  unfold nameB goodUpto
  have : (List.range s.size).all (goodAt s) = false := by
    rw [List.all_eq_false]
    exact ⟨k, List.mem_range.2 hk, by simp [h]⟩
  rw [this]; simp

set_option maxRecDepth 100000 in
set_option maxHeartbeats 1000000 in
theorem ref_isname (s : ByteArray) (hs : s.size ≤ maxLen) (w : World) : Calls Try.prog 159 #[.string s] w fun e w' => e = .returned (.bool (nameB s)) ∧ w = w' := by
  unfold maxLen at hs
  have hsucc := goodUpto_succ s
  have hno : ∀ k, k < s.size → goodAt s k = false → nameB s = false := fun k => goodUpto_no
  have hend : nameB s = (decide (0 < s.size) && goodUpto s s.size) := rfl
  have hat : ∀ k, goodAt s k = (decide (classOf (byteAt s k) = 4) || (decide (classOf (byteAt s k) = 3) && decide (0 < k))) := fun k => rfl
  have Xhsucc := hide hsucc
  have Xhno := hide hno
  have Xhend := hide hend
  have Xhat := hide hat
  clear hsucc hno hend hat
  go_enter Try.func159, Try.ntmps159
  go_wp2
  go_loopw [3] (fun i wr => ∃ k : Nat, k ≤ s.size ∧ i = .int .i64 k ∧ goodUpto s k = true ∧ w = wr) (fun i _ => s.size - (intOf i).toNat)
  case atStart => exact ⟨0, Nat.zero_le _, rfl, rfl, rfl⟩
  case round =>
    obtain ⟨k, hk, rfl, hg, rfl⟩ := hrel
    have hsk := Xhsucc.out k
    rw [hg, Bool.true_and, Xhat.out k] at hsk
    have hnk := Xhno.out k
    rw [Xhat.out k] at hnk
    have Xhg := hide hg
    clear hg
    by_cases hlt : k < s.size
    · have hb := byteAt_lt s k
      have hcl := ref_class (byteAt s k) hb.1 hb.2 w
      obtain ⟨v, hv⟩ : ∃ v, v = classOf (byteAt s k) := ⟨_, rfl⟩
      rw [← hv] at hcl hsk hnk
      rw [byteAt_eq hlt] at hcl
      have hnk' := hnk hlt
      clear hb hv hnk
      by_cases c4 : v = 4
      · have hc : (v != 4) = false := by simp [c4]
        rw [decide_eq_true c4] at hsk
        have Xhcl := hide hcl
        have Xhsk := hide hsk
        have Xhnk' := hide hnk'
        have Xc4 := hide c4
        clear hcl hsk hnk' c4
        go_wp2_with fail
        refine Xhcl.out.mono ?_
        rintro e w' ⟨rfl, rfl⟩
        go_wp2_with fail
        go_roundw
        case rel => exact ⟨k + 1, by omega, by go_num, by rw [Xhsk.out]; rfl, by first | rfl | trivial⟩
        case measure => simp [intOf]; omega
      · have hc : (v != 4) = true := by simpa using c4
        rw [decide_eq_false c4] at hsk hnk'
        by_cases c3 : v = 3
        · have hc3 : (v != 3) = false := by simp [c3]
          rw [decide_eq_true c3] at hsk hnk'
          by_cases k0 : k = 0
          · subst k0
            have Xhcl := hide hcl
            have Xhsk := hide hsk
            have Xhnk' := hide hnk'
            have Xc4 := hide c4
            have Xc3 := hide c3
            clear hcl hsk hnk' c4 c3
            go_wp2_with fail
            refine Xhcl.out.mono ?_
            rintro e w' ⟨rfl, rfl⟩
            go_wp2_with fail
            go_ret
            exact ⟨ret_bool (Xhnk'.out (by first | rfl | trivial)).symm, by first | rfl | trivial⟩
          · have hk0 : ((k : Int) == 0) = false := by simpa using k0
            rw [decide_eq_true (show 0 < k by omega)] at hsk
            have Xhcl := hide hcl
            have Xhsk := hide hsk
            have Xhnk' := hide hnk'
            have Xc4 := hide c4
            have Xc3 := hide c3
            have Xk0 := hide k0
            clear hcl hsk hnk' c4 c3 k0
            go_wp2_with fail
            refine Xhcl.out.mono ?_
            rintro e w' ⟨rfl, rfl⟩
            go_wp2_with fail
            go_roundw
            case rel => exact ⟨k + 1, by omega, by go_num, by rw [Xhsk.out]; rfl, by first | rfl | trivial⟩
            case measure => simp [intOf]; omega
        · have hc3 : (v != 3) = true := by simpa using c3
          rw [decide_eq_false c3] at hnk'
          have Xhcl := hide hcl
          have Xhsk := hide hsk
          have Xhnk' := hide hnk'
          have Xc4 := hide c4
          have Xc3 := hide c3
          clear hcl hsk hnk' c4 c3
          go_wp2_with fail
          refine Xhcl.out.mono ?_
          rintro e w' ⟨rfl, rfl⟩
          go_wp2_with fail
          go_ret
          exact ⟨ret_bool (Xhnk'.out (by first | rfl | trivial)).symm, by first | rfl | trivial⟩
    · have hks : k = s.size := by omega
      clear hsk hnk
      go_wp2_with fail
      go_ret
      refine ⟨ret_bool ?_, rfl⟩
      rw [Xhend.out, ← hks, Xhg.out, Bool.and_true]

def asciiB (s : ByteArray) : Bool := (List.range s.size).all (fun k => decide (byteAt s k < 128))
set_option maxRecDepth 100000 in
set_option maxHeartbeats 1000000 in
theorem char_ascii (s : ByteArray) (hs : s.size ≤ maxLen) (w : World) : Calls Try.prog 149 #[.string s] w fun e w' => e = .returned (.bool (asciiB s)) ∧ w = w' := by
  unfold maxLen at hs
  have hyes : (∀ j : Nat, j < s.size → byteAt s j < 128) → asciiB s = true := fun h => by
    unfold asciiB; rw [List.all_eq_true]; intro j hj; simpa using h j (List.mem_range.1 hj)
  have hno : ∀ j : Nat, j < s.size → ¬ byteAt s j < 128 → asciiB s = false := fun j hj h => by
    unfold asciiB; rw [List.all_eq_false]; exact ⟨j, List.mem_range.2 hj, by simpa using h⟩
  have Xhyes := hide hyes
  have Xhno := hide hno
  clear hyes hno
  go_enter Try.func149, Try.ntmps149
  go_wp2
  go_loop [6] (fun i => ∃ k : Nat, k ≤ s.size ∧ i = .int .i64 k ∧ ∀ j : Nat, j < k → byteAt s j < 128) (fun i => s.size - (intOf i).toNat)
  case atStart => exact ⟨0, Nat.zero_le _, rfl, fun j hj => absurd hj (by omega)⟩
  case round =>
    obtain ⟨k, hk, rfl, hg⟩ := hrel
    have Xhg := hide hg
    clear hg
    by_cases hlt : k < s.size
    · have hbe := byteAt_eq hlt
      by_cases hb : byteAt s k < 128
      · have hb' := hb
        rw [hbe] at hb
        have Xhbe := hide hbe
        have Xhb' := hide hb'
        clear hbe hb'
        go_wp2_with fail
        go_round
        case rel => exact ⟨k + 1, by omega, by go_num, fun j hj => by
          by_cases e : j = k
          · subst e; exact Xhb'.out
          · exact Xhg.out j (by omega)⟩
        case measure => simp [intOf]; omega
      · have hb' := Xhno.out k hlt (by omega)
        rw [hbe] at hb
        have hb : (128 : Int) ≤ (s[k].toNat : Int) := by omega
        have Xhbe := hide hbe
        have Xhb' := hide hb'
        clear hbe hb'
        go_wp2_with fail
        go_ret
        exact ⟨ret_bool Xhb'.out.symm, by first | rfl | trivial⟩
    · go_wp2_with fail
      go_ret
      exact ⟨ret_bool (Xhyes.out fun j hj => Xhg.out j (by omega)).symm, rfl⟩

theorem Try.enters_name1 : Enters Try.prog 151 := enters_of Try.func151 (by kernel_rfl) rfl
/-- Name's closure -/
theorem name_clo (k : Nat) (c : Int) (h0 : 0 ≤ c) (h1 : c < 256) (hk : k ≤ 9223372036854775807) (w : World) : Calls Try.prog 151 #[.int .i64 k, .int .u8 c] w fun e w' => e = .returned (.bool (decide (classOf c = 4) || (decide (classOf c = 3) && decide (0 < k)))) ∧ w = w' := by
  have hcl := char_class c h0 h1 w
  obtain ⟨v, hv⟩ : ∃ v, v = classOf c := ⟨_, rfl⟩
  rw [← hv] at hcl ⊢
  clear hv
  by_cases c4 : v = 4
  · have hc : (v == 4) = true := by simp [c4]
    rw [decide_eq_true c4]
    have Xhcl := hide hcl
    have Xc4 := hide c4
    clear hcl c4
    go_enter Try.func151, Try.ntmps151
    go_wp2_with fail
    refine Xhcl.out.mono ?_
    rintro e w' ⟨rfl, rfl⟩
    go_wp2_with fail
    go_ret
    exact ⟨ret_bool (by simp), rfl⟩
  · have hc : (v == 4) = false := by simpa using c4
    rw [decide_eq_false c4]
    by_cases c3 : v = 3
    · have hc3 : (v == 3) = true := by simp [c3]
      rw [decide_eq_true c3]
      have Xhcl := hide hcl
      have Xc4 := hide c4
      have Xc3 := hide c3
      clear hcl c4 c3
      go_enter Try.func151, Try.ntmps151
      go_wp2_with fail
      refine Xhcl.out.mono ?_
      rintro e w' ⟨rfl, rfl⟩
      go_wp2_with fail
      go_ret
      exact ⟨ret_bool (by first | rfl | simp), rfl⟩
    · have hc3 : (v == 3) = false := by simpa using c3
      rw [decide_eq_false c3]
      have Xhcl := hide hcl
      have Xc4 := hide c4
      have Xc3 := hide c3
      clear hcl c4 c3
      go_enter Try.func151, Try.ntmps151
      go_wp2_with fail
      refine Xhcl.out.mono ?_
      rintro e w' ⟨rfl, rfl⟩
      go_wp2_with fail
      go_ret
      exact ⟨ret_bool (by first | rfl | simp), rfl⟩
end Go.Proofs.Ytejjaabkbkkjlaa

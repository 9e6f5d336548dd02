/- char.Name, gram.plain, conchref06.plain. -/
import Derived.Test.YtejjaabkbkkjlaaChar4
namespace Go.Proofs.Ytejjaabkbkkjlaa
set_option linter.unusedVariables false
open Go.RowKit

theorem classOf_high {c : Int} (h : ¬ c < 128) : classOf c = 8 := by
  unfold classOf
  rw [if_neg (by omega), if_neg (by omega), if_neg (by omega), if_neg (by omega), if_neg (by omega), if_neg (by omega), if_neg (by omega), if_neg (by omega)]
theorem nameB_ascii {s : ByteArray} (h : asciiB s = false) : nameB s = false := by
  unfold asciiB at h
  rw [List.all_eq_false] at h
  obtain ⟨k, hk, hb⟩ := h
  refine goodUpto_no (List.mem_range.1 hk) ?_
  have hb' : ¬ byteAt s k < 128 := by simpa using hb
  unfold goodAt
  rw [classOf_high hb']
  rfl
theorem ascii_at {s : ByteArray} (h : asciiB s = true) : ∀ j : Nat, j < s.size → byteAt s j < 128 := by
  intro j hj
  unfold asciiB at h
  rw [List.all_eq_true] at h
  simpa using h j (List.mem_range.2 hj)

theorem char_name (s : ByteArray) (hs : s.size ≤ maxLen) (w : World) : Calls Try.prog 131 #[.string s] w (Quiet0 w (.bool (nameB s))) := by
  have ha := char_ascii s hs w
  cases hq : asciiB s with
  | true =>
    have he := char_each s hs (ascii_at hq) w
    rw [hq] at ha
    have Xha := hide ha
    have Xhe := hide he
    have Xhq := hide hq
    clear ha he hq
    clear hs
    go_enter Try.func131, Try.ntmps131
    go_wp2_with fail
    refine Xha.out.mono ?_
    rintro e w' ⟨rfl, rfl⟩
    go_wp2_with fail
    refine Xhe.out.mono ?_
    rintro e w' ⟨rfl, hb⟩
    go_wp2_with fail
    go_ret
    exact ⟨rfl, hb⟩
  | false =>
    have hn := nameB_ascii hq
    rw [hq] at ha
    have Xha := hide ha
    have Xhq := hide hq
    have Xhn := hide hn
    clear ha hq hn
    clear hs
    go_enter Try.func131, Try.ntmps131
    go_wp2_with fail
    refine Xha.out.mono ?_
    rintro e w' ⟨rfl, rfl⟩
    go_wp2_with fail
    go_ret
    exact ⟨ret_bool Xhn.out.symm, Below.refl _ _⟩

def plainB (s : ByteArray) : Bool := decide (s.size ≤ 24) && nameB s
theorem gram_plain (s : ByteArray) (hs : s.size ≤ maxLen) (w : World) : Calls Try.prog 77 #[.string s] w (Quiet0 w (.bool (plainB s))) := by
  have hn := char_name s hs w
  have hp : plainB s = (decide (s.size ≤ 24) && nameB s) := rfl
  unfold maxLen at hs
  generalize nameB s = q at hn hp
  by_cases h : s.size ≤ 24
  · rw [decide_eq_true h] at hp
    have h' : (s.size : Int) ≤ 24 := by omega
    have Xhn := hide hn
    have Xhp := hide hp
    clear hn hp
    go_enter Try.func77, Try.ntmps77
    go_wp2_with fail
    refine Xhn.out.mono ?_
    rintro e w' ⟨rfl, hb⟩
    go_wp2_with fail
    go_ret
    exact ⟨ret_bool (by rw [Xhp.out]; cases q <;> rfl), hb⟩
  · rw [decide_eq_false h] at hp
    have h' : ¬ (s.size : Int) ≤ 24 := by omega
    have Xhn := hide hn
    have Xhp := hide hp
    clear hn hp
    go_enter Try.func77, Try.ntmps77
    go_wp2_with fail
    go_ret
    exact ⟨ret_bool (by rw [Xhp.out]; rfl), Below.refl _ _⟩
theorem ref_plain (s : ByteArray) (hs : s.size ≤ maxLen) (w : World) : Calls Try.prog 138 #[.string s] w (Quiet0 w (.bool (plainB s))) := by
  have hn := ref_isname s hs w
  have hp : plainB s = (decide (s.size ≤ 24) && nameB s) := rfl
  unfold maxLen at hs
  generalize nameB s = q at hn hp
  cases q with
  | true =>
    by_cases h : s.size ≤ 24
    · rw [decide_eq_true h] at hp
      have h' : (s.size : Int) ≤ 24 := by omega
      have Xhn := hide hn
      have Xhp := hide hp
      clear hn hp
      go_enter Try.func138, Try.ntmps138
      go_wp2_with fail
      refine Xhn.out.mono ?_
      rintro e w' ⟨rfl, rfl⟩
      go_wp2_with fail
      go_ret
      exact ⟨ret_bool (by rw [Xhp.out]; rfl), Below.refl _ _⟩
    · rw [decide_eq_false h] at hp
      have h' : ¬ (s.size : Int) ≤ 24 := by omega
      have Xhn := hide hn
      have Xhp := hide hp
      clear hn hp
      go_enter Try.func138, Try.ntmps138
      go_wp2_with fail
      refine Xhn.out.mono ?_
      rintro e w' ⟨rfl, rfl⟩
      go_wp2_with fail
      go_ret
      exact ⟨ret_bool (by rw [Xhp.out]; first | rfl | exact decide_eq_false (by omega)), Below.refl _ _⟩
  | false =>
    rw [Bool.and_false] at hp
    have Xhn := hide hn
    have Xhp := hide hp
    clear hn hp
    go_enter Try.func138, Try.ntmps138
    go_wp2_with fail
    refine Xhn.out.mono ?_
    rintro e w' ⟨rfl, rfl⟩
    go_wp2_with fail
    go_ret
    exact ⟨ret_bool (by rw [Xhp.out]), Below.refl _ _⟩
end Go.Proofs.Ytejjaabkbkkjlaa

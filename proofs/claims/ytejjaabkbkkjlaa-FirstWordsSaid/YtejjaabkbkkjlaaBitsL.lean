/- Sets of numbers: the list of all. (The part of XBits5 that other seats take; J64: a number as a value.) -/
import Derived.Test.YtejjaabkbkkjlaaBits4
import Derived.Test.YtejjaabkbkkjlaaG2
namespace Go.Proofs.Ytejjaabkbkkjlaa
set_option linter.unusedVariables false
open Go.RowKit

abbrev J64 (n : Nat) : Value := .int .i64 (n : Int)
/-- the numbers below k, rising -/
def below (f : Nat → Bool) (k : Nat) : List Nat := (List.range k).filter f
theorem below_succ (f : Nat → Bool) (k : Nat) : below f (k + 1) = below f k ++ (if f k then [k] else []) := by
  unfold below
  rw [List.range_succ, List.filter_append]
  cases h : f k <;> simp [h]
theorem below_skip {f : Nat → Bool} {k j : Nat} (hkj : k ≤ j) (h : ∀ i, k ≤ i → i < j → f i = false) : below f j = below f k := by
  induction j with
  | zero => rw [show k = 0 by omega]
  | succ j ih =>
    by_cases e : k = j + 1
    · rw [e]
    · rw [below_succ, h j (by omega) (by omega), ih (by omega) fun i h1 h2 => h i h1 (by omega)]; simp
theorem below_le (f : Nat → Bool) (k : Nat) : (below f k).length ≤ k := by
  have := List.length_filter_le f (List.range k)
  simpa [below] using this

theorem nextOf_cases (f : Nat → Bool) (n k : Nat) : (∃ j : Nat, nextOf f n k = (j : Int) ∧ k ≤ j ∧ j < n ∧ f j = true ∧ ∀ i : Nat, k ≤ i → i < j → f i = false) ∨ (nextOf f n k = -1 ∧ ∀ i : Nat, k ≤ i → i < n → f i = false) := by
  unfold nextOf
  rcases h : (List.range n).find? (fun j => decide (k ≤ j) && f j) with _ | j
  · right
    refine ⟨rfl, fun i h1 h2 => ?_⟩
    rw [List.find?_eq_none] at h
    have := h i (List.mem_range.2 h2)
    simpa [h1] using this
  · left
    have h' := h
    rw [List.find?_range_eq_some] at h'
    obtain ⟨h1, h2, h3⟩ := h'
    simp at h1
    refine ⟨j, rfl, h1.1, List.mem_range.1 h2, h1.2, fun i hi hij => ?_⟩
    have := h3 i hij
    simpa [hi] using this

def ListPost (w : World) (l : List Nat) (e : Ending) (w' : World) : Prop :=
  ∃ A c, e = .returned (.slice A l.length c) ∧ w'.ownsRow w.heap.size 3 1 (.slice A l.length c) l.length (l.map J64) ∧ Below w.heap.size w w'

theorem set_next_nil (i : Int) (w : World) : Calls Try.prog 146 #[.pointer none, .int .i64 i] w fun e w' => e = .returned (.int .i64 (-1)) ∧ w = w' := by
  go_enter Try.func146, Try.ntmps146
  go_wp2
  all_goals
    go_loop [5, 6] (fun v u => ∃ k : Nat, v = .int .i64 k) (fun v _ => 0)
    case atStart => exact ⟨i.toNat, by first | rw [show ((i.toNat : Nat) : Int) = i by omega] | rw [show i.toNat = 0 by omega]; rfl⟩
    case round =>
      obtain ⟨k, rfl⟩ := hrel
      go_wp2_with (go_at_call 163; refine (set_room_nil _).mono ?_; rintro e w' ⟨rfl, rfl⟩)
      go_ret
      exact ⟨rfl, rfl⟩
theorem set_list_nil (w : World) : Calls Try.prog 112 #[.pointer none] w fun e w' => e = .returned (.slice none 0 0) ∧ w = w' := by
  go_enter Try.func112, Try.ntmps112
  go_wp2_with (go_at_call 146; refine (set_next_nil _ _).mono ?_; rintro e w' ⟨rfl, rfl⟩)
  go_loop [3, 4] (fun v i => v = .slice none 0 0 ∧ i = .int .i64 (-1)) (fun _ _ => 0)
  case atStart => exact ⟨rfl, rfl⟩
  case round =>
    obtain ⟨rfl, rfl⟩ := hrel
    go_wp2
    go_ret
    exact ⟨rfl, rfl⟩

set_option maxHeartbeats 1000000 in
theorem set_list {w : World} {b n : Nat} {f : Nat → Bool} {S : Nat → Prop} (h : IsSet w b S n f) :
    Calls Try.prog 112 #[.pointer (some ⟨b, 0, none⟩)] w (ListPost w (below f n)) := by
  have hroom := h.room
  have hS := h.lt
  have H := hide h
  have HS := hide hS
  clear h hS
  go_enter Try.func112, Try.ntmps112
  go_wp2_with fail
  refine (set_next H.out 0 (by decide)).mono ?_
  rintro e w' ⟨rfl, rfl⟩
  go_wp2_with fail
  go_loopw [3, 4] (fun v i wr => ∃ (k : Nat) (A : Option Addr) (c : Nat), k ≤ n ∧ i = .int .i64 (nextOf f n k) ∧ v = .slice A (below f k).length c ∧ wr.ownsRow w.heap.size 3 1 (.slice A (below f k).length c) (below f k).length ((below f k).map J64) ∧ Below w.heap.size w wr) (fun _ i _ => if intOf i < 0 then 0 else n + 1 - (intOf i).toNat)
  case atStart => exact ⟨0, none, 0, Nat.zero_le _, rfl, rfl, World.ownsRow_nil _ _ _ _, Below.refl _ _⟩
  case round =>
    obtain ⟨k, A, c, hk, rfl, rfl, hown, hbel⟩ := hrel
    have hz := hbel.size
    rcases nextOf_cases f n k with ⟨j, hj, hkj, hjn, hfj, hno⟩ | ⟨hj, hno⟩
    · rw [hj]
      have hbs := below_skip hkj hno
      have hsucc := below_succ f j
      rw [hfj, hbs] at hsucc
      simp only [if_true] at hsucc
      have hle := below_le f k
      obtain ⟨l, hl⟩ : ∃ l, l = below f k := ⟨_, rfl⟩
      rw [← hl] at hown hsucc hle ⊢
      have HSU := hide hsucc
      have HBEL := hide hbel
      have h3 : IsSet wr b S n f := H.out.touch (Touch.of_size hbel (fun _ => False)) (fun _ _ hf => hf)
      clear hj hno hbs hfj hsucc hl hbel
      go_wp2_with (at_builtin; refine wp_append _ rfl (.tmp 13) (.tmp 15) _ rfl Try.elemInt w.heap.size _ l.length (l.map J64) rfl (hown.alloc _) _ _ [J64 j] 1 rfl rfl (Rd.one [J64 j] 1 rfl) (by simp [Value.oneCell']) (by unfold maxLen; omega) (by omega) (by simp; omega) ?_)
      intro A2 c2 w2 hown2 hg2 _
      have hb2 : Below w.heap.size w w2 := ((HBEL.out.alloc hz _).grown hg2 (by simp; omega) (fun q hq => (hown.lt q hq).1))
      have h4 := H.out.touch (Touch.of_size hb2 (fun _ => False)) (fun _ _ hf => hf)
      go_wp2_with fail
      refine (set_next h4 ((j : Int) + 1) (WalkArith.wf_i64 (by omega))).mono ?_
      rintro e w' ⟨rfl, rfl⟩
      go_wp2_with fail
      go_roundw
      case rel =>
        refine ⟨j + 1, A2, c2, by omega, ?_, ?_, ?_, hb2⟩
        · rfl
        · rw [HSU.out]; simp
        · rw [HSU.out]; simpa using hown2
      case measure =>
        rcases nextOf_cases f n (j + 1) with ⟨j', hj', h1, h2, _⟩ | ⟨hj', _⟩
        · have a1 : ¬ (j' : Int) < 0 := by omega
          have a2 : ¬ (j : Int) < 0 := by omega
          simp [intOf, hj', a1, a2]; omega
        · have a2 : ¬ (j : Int) < 0 := by omega
          simp [intOf, hj', a2]; omega
    · rw [hj]
      have hbs := below_skip hk hno
      have HB := hide hbs
      clear hno hbs hj
      go_wp2_with fail
      go_ret
      have fin : ListPost w (below f n) (.returned (.slice A (below f k).length c)) wr := ⟨A, c, by rw [HB.out], by rw [HB.out]; exact hown, hbel⟩
      exact fin
end Go.Proofs.Ytejjaabkbkkjlaa

/- The reference's sets, part 2: Put, Drop, Has, Or, Meet, List, Next, Ints. -/
import Derived.Test.YtighpdnodehdcaaBitsRef
namespace Go.Proofs.Ytighpdnodehdcaa
set_option linter.unusedVariables false
open Go.RowKit

theorem IsRef.cellB {w : World} {r n : Nat} {f : Nat → Bool} (h : Blk w r 4 ((List.range n).map fun j => Value.bool (f j)).toArray) {i : Nat} (hi : i < n) : w.cell? ⟨r, i, none⟩ = some (.bool (f i)) := by
  rw [h.cell]; simp [hi]
theorem ref_store {w : World} {b n : Nat} {f g : Nat → Bool} {S : Nat → Prop} {r c i : Nat} {x : Bool} (h1 : Blk w b 76 #[.slice (some ⟨r, 0, none⟩) n c]) (h2 : Blk w r 4 ((List.range n).map fun j => Value.bool (f j)).toArray) (h3 : n ≤ c) (h4 : c ≤ maxLen) (hr : S r) (hb : S b) (hlt : ∀ k, S k → k < w.heap.size) (hro : n ≤ 4096)
    (hi : i < n) (hg : ∀ j, j < n → g j = if j = i then x else f j) : IsRef (w.setCell ⟨r, i, none⟩ (.bool x)) b S n g := by
  have hne : b ≠ r := h1.ne h2 (by decide)
  refine ⟨⟨r, c, h1.far (p := ⟨r, i, none⟩) hne _, ?_, h3, h4, hr⟩, hb, fun k hk => by simpa using hlt k hk, hro⟩
  have hp := h2.put i (.bool x)
  have : (((List.range n).map fun j => Value.bool (f j)).toArray.setIfInBounds i (.bool x)) = ((List.range n).map fun j => Value.bool (g j)).toArray := by
    apply Array.ext
    · simp
    · intro j h1 h2
      simp at h1
      have hj := hg j h1
      by_cases e : j = i
      · subst e; simp [hj]
      · simp [Ne.symm e, hj, e]
  rw [this] at hp
  exact hp

theorem rset_has {w : World} {b n : Nat} {f : Nat → Bool} {S : Nat → Prop} (h : IsRef w b S n f) (i : Int) :
    Calls Try.prog 34 #[.pointer (some ⟨b, 0, none⟩), .int .i64 i] w fun e w' => e = .returned (.bool (hasI n f i)) ∧ w = w' := by
  have hin := rset_in h i
  obtain ⟨⟨r, c, h1, h2, h3, h4, hr⟩, hb, hlt, hro⟩ := h
  have c0 := h1.cell 0
  simp at c0
  unfold maxLen at h4
  by_cases hi : i < 0 ∨ (n : Int) ≤ i
  · rw [inI_no hi] at hin
    rw [hasI_no hi]
    have HI := hide hin
    clear h1 h2 hlt hin hi
    go_enter Try.func34, Try.ntmps34
    go_wp2_with (go_at_call 48; refine HI.out.mono ?_; rintro e w' ⟨rfl, rfl⟩)
    go_ret
    exact ⟨rfl, rfl⟩
  · obtain ⟨j, rfl⟩ := Int.eq_ofNat_of_zero_le (show 0 ≤ i by omega)
    have hj : j < n := by omega
    rw [inI_yes hj] at hin
    rw [hasI_nat hj]
    have hcj := IsRef.cellB h2 hj
    have hji : (j : Int) < n := by omega
    have HI := hide hin
    clear h1 h2 hlt hin hi
    go_enter Try.func34, Try.ntmps34
    go_wp2_with (go_at_call 48; refine HI.out.mono ?_; rintro e w' ⟨rfl, rfl⟩)
    go_ret
    exact ⟨rfl, rfl⟩

def RPutPost (w : World) (b : Nat) (S : Nat → Prop) (n : Nat) (f : Nat → Bool) (r : Bool) (e : Ending) (w' : World) : Prop := e = .returned (.bool r) ∧ IsRef w' b S n f ∧ Touch S w w'

theorem rset_put {w : World} {b n : Nat} {f : Nat → Bool} {S : Nat → Prop} (h : IsRef w b S n f) (i : Int) :
    Calls Try.prog 29 #[.pointer (some ⟨b, 0, none⟩), .int .i64 i] w (RPutPost w b S n (putSet n f i) (putAns n f i)) := by
  have hin := rset_in h i
  have H := hide h
  obtain ⟨⟨r, c, h1, h2, h3, h4, hr⟩, hb, hlt, hro⟩ := h
  have c0 := h1.cell 0
  simp at c0
  have h4' := h4
  unfold maxLen at h4
  by_cases hi : i < 0 ∨ (n : Int) ≤ i
  · rw [inI_no hi] at hin
    have fin : RPutPost w b S n (putSet n f i) (putAns n f i) (.returned (.bool false)) w := by
      have e1 : putAns n f i = false := by
        unfold putAns
        rcases hi with hi | hi
        · rw [decide_eq_false (by omega)]; rfl
        · rw [decide_eq_false (show ¬ i < n by omega)]; simp
      have e2 : putSet n f i = f := by
        funext j
        unfold putSet
        rcases hi with hi | hi
        · rw [decide_eq_false (show ¬ 0 ≤ i by omega)]; simp
        · rw [decide_eq_false (show ¬ i < n by omega)]; simp
      rw [e1, e2]
      exact ⟨rfl, H.out, Touch.refl _ _⟩
    have FIN := hide fin
    have HI := hide hin
    clear h1 h2 hlt hin hi fin
    go_enter Try.func29, Try.ntmps29
    go_wp2_with (go_at_call 48; refine HI.out.mono ?_; rintro e w' ⟨rfl, rfl⟩)
    go_ret
    exact FIN.out
  · obtain ⟨j, rfl⟩ := Int.eq_ofNat_of_zero_le (show 0 ≤ i by omega)
    have hj : j < n := by omega
    rw [inI_yes hj] at hin
    have hcj := IsRef.cellB h2 hj
    have hji : (j : Int) < n := by omega
    have hfr := h2.frozen j
    have d1 : decide ((0 : Int) ≤ (j : Int)) = true := decide_eq_true (by omega)
    have d2 : decide ((j : Int) < (n : Int)) = true := decide_eq_true hji
    cases hfj : f j
    · have fin : RPutPost w b S n (putSet n f j) (putAns n f j) (.returned (.bool true)) (w.setCell ⟨r, j, none⟩ (.bool true)) := by
        have e1 : putAns n f j = true := by unfold putAns; rw [d1, d2, Int.toNat_natCast, hfj]; rfl
        rw [e1]
        refine ⟨rfl, ref_store h1 h2 h3 h4' hr hb hlt hro hj (fun k hk => ?_), (Touch.refl S w).setCell (fun _ => hr) _⟩
        unfold putSet
        rw [d1, d2]
        by_cases e : k = j
        · subst e; simp
        · have : ¬ (k : Int) = (j : Int) := by omega
          simp [e, this]
      rw [hfj] at hcj
      have FIN := hide fin
      have HI := hide hin
      clear h1 h2 hlt hin hi fin d1 d2 hfj
      go_enter Try.func29, Try.ntmps29
      go_wp2_with (go_at_call 48; refine HI.out.mono ?_; rintro e w' ⟨rfl, rfl⟩)
      go_ret
      exact FIN.out
    · have fin : RPutPost w b S n (putSet n f j) (putAns n f j) (.returned (.bool false)) w := by
        have e1 : putAns n f j = false := by unfold putAns; rw [d1, d2, Int.toNat_natCast, hfj]; rfl
        have e2 : putSet n f j = f := by
          funext k
          unfold putSet
          rw [d1, d2]
          by_cases e : k = j
          · subst e; simp [hfj]
          · have : ¬ (k : Int) = (j : Int) := by omega
            simp [this]
        rw [e1, e2]
        exact ⟨rfl, H.out, Touch.refl _ _⟩
      rw [hfj] at hcj
      have FIN := hide fin
      have HI := hide hin
      clear h1 h2 hlt hin hi fin d1 d2 hfj
      go_enter Try.func29, Try.ntmps29
      go_wp2_with (go_at_call 48; refine HI.out.mono ?_; rintro e w' ⟨rfl, rfl⟩)
      go_ret
      exact FIN.out

theorem rset_drop {w : World} {b n : Nat} {f : Nat → Bool} {S : Nat → Prop} (h : IsRef w b S n f) (i : Int) :
    Calls Try.prog 31 #[.pointer (some ⟨b, 0, none⟩), .int .i64 i] w (RPutPost w b S n (dropSet n f i) (dropAns n f i)) := by
  have hin := rset_in h i
  have H := hide h
  obtain ⟨⟨r, c, h1, h2, h3, h4, hr⟩, hb, hlt, hro⟩ := h
  have c0 := h1.cell 0
  simp at c0
  have h4' := h4
  unfold maxLen at h4
  by_cases hi : i < 0 ∨ (n : Int) ≤ i
  · rw [inI_no hi] at hin
    have fin : RPutPost w b S n (dropSet n f i) (dropAns n f i) (.returned (.bool false)) w := by
      have e1 : dropAns n f i = false := by
        unfold dropAns
        rcases hi with hi | hi
        · rw [decide_eq_false (by omega)]; rfl
        · rw [decide_eq_false (show ¬ i < n by omega)]; simp
      have e2 : dropSet n f i = f := by
        funext j
        unfold dropSet
        rcases hi with hi | hi
        · rw [decide_eq_false (show ¬ 0 ≤ i by omega)]; simp
        · rw [decide_eq_false (show ¬ i < n by omega)]; simp
      rw [e1, e2]
      exact ⟨rfl, H.out, Touch.refl _ _⟩
    have FIN := hide fin
    have HI := hide hin
    clear h1 h2 hlt hin hi fin
    go_enter Try.func31, Try.ntmps31
    go_wp2_with (go_at_call 48; refine HI.out.mono ?_; rintro e w' ⟨rfl, rfl⟩)
    go_ret
    exact FIN.out
  · obtain ⟨j, rfl⟩ := Int.eq_ofNat_of_zero_le (show 0 ≤ i by omega)
    have hj : j < n := by omega
    rw [inI_yes hj] at hin
    have hcj := IsRef.cellB h2 hj
    have hji : (j : Int) < n := by omega
    have hfr := h2.frozen j
    have d1 : decide ((0 : Int) ≤ (j : Int)) = true := decide_eq_true (by omega)
    have d2 : decide ((j : Int) < (n : Int)) = true := decide_eq_true hji
    cases hfj : f j
    · have fin : RPutPost w b S n (dropSet n f j) (dropAns n f j) (.returned (.bool false)) w := by
        have e1 : dropAns n f j = false := by unfold dropAns; rw [d1, d2, Int.toNat_natCast, hfj]; rfl
        have e2 : dropSet n f j = f := by
          funext k
          unfold dropSet
          rw [d1, d2]
          by_cases e : k = j
          · subst e; simp [hfj]
          · have : ¬ (k : Int) = (j : Int) := by omega
            simp [this]
        rw [e1, e2]
        exact ⟨rfl, H.out, Touch.refl _ _⟩
      rw [hfj] at hcj
      have FIN := hide fin
      have HI := hide hin
      clear h1 h2 hlt hin hi fin d1 d2 hfj
      go_enter Try.func31, Try.ntmps31
      go_wp2_with (go_at_call 48; refine HI.out.mono ?_; rintro e w' ⟨rfl, rfl⟩)
      go_ret
      exact FIN.out
    · have fin : RPutPost w b S n (dropSet n f j) (dropAns n f j) (.returned (.bool true)) (w.setCell ⟨r, j, none⟩ (.bool false)) := by
        have e1 : dropAns n f j = true := by unfold dropAns; rw [d1, d2, Int.toNat_natCast, hfj]; rfl
        rw [e1]
        refine ⟨rfl, ref_store h1 h2 h3 h4' hr hb hlt hro hj (fun k hk => ?_), (Touch.refl S w).setCell (fun _ => hr) _⟩
        unfold dropSet
        rw [d1, d2]
        by_cases e : k = j
        · subst e; simp
        · have : ¬ (k : Int) = (j : Int) := by omega
          simp [e, this]
      rw [hfj] at hcj
      have FIN := hide fin
      have HI := hide hin
      clear h1 h2 hlt hin hi fin d1 d2 hfj
      go_enter Try.func31, Try.ntmps31
      go_wp2_with (go_at_call 48; refine HI.out.mono ?_; rintro e w' ⟨rfl, rfl⟩)
      go_ret
      exact FIN.out
end Go.Proofs.Ytighpdnodehdcaa

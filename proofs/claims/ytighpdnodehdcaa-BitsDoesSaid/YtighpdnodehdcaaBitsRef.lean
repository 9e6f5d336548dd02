/- The reference's sets: a slice of bools. -/
import Derived.Test.YtighpdnodehdcaaBits6
import Derived.Test.YtighpdnodehdcaaBitsDrop
namespace Go.Proofs.Ytighpdnodehdcaa
set_option linter.unusedVariables false
open Go.RowKit

theorem Try.infoBool : (Try.prog.info? 4).map (fun i => (i.zero, i.size, i.bytes)) = some (some (.bool false), 1, 1) := by kernel_rfl
theorem Try.elemBool : Elem Try.prog 74 4 (.bool false) 1 1 := ⟨Try.underlying74, Try.infoBool, rfl, by decide⟩

/-- the reference's set: struct b, bools r -/
structure IsRef (w : World) (b : Nat) (S : Nat → Prop) (n : Nat) (f : Nat → Bool) : Prop where
  is : ∃ r c, Blk w b 76 #[.slice (some ⟨r, 0, none⟩) n c] ∧ Blk w r 4 ((List.range n).map fun j => Value.bool (f j)).toArray ∧ n ≤ c ∧ c ≤ maxLen ∧ S r
  head : S b
  lt : ∀ k, S k → k < w.heap.size
  room : n ≤ 4096
theorem IsRef.touch {w w' : World} {b n : Nat} {f : Nat → Bool} {S T : Nat → Prop} (h : IsRef w b S n f) (ht : Touch T w w') (hS : ∀ k, S k → ¬ T k) : IsRef w' b S n f := by
  obtain ⟨⟨r, c, h1, h2, h3, h4, hr⟩, hb, hlt, hro⟩ := h
  exact ⟨⟨r, c, h1.touch ht (hS _ hb), h2.touch ht (hS _ hr), h3, h4, hr⟩, hb, fun k hk => Nat.lt_of_lt_of_le (hlt k hk) ht.size, hro⟩
theorem IsRef.drewN {w : World} {b n : Nat} {f : Nat → Bool} {S : Nat → Prop} (h : IsRef w b S n f) (q : Nat) : IsRef (w.drewN q) b S n f := h.touch ((Touch.refl (fun _ => False) w).drewN q) (fun _ _ hf => hf)

def RNewPost (w : World) (n : Nat) (e : Ending) (w' : World) : Prop := e = .returned (.pointer (some ⟨w.heap.size + 1, 0, none⟩)) ∧ IsRef w' (w.heap.size + 1) (New (fun _ => False) w w') n noBits ∧ Below w.heap.size w w'
theorem ref_new_at (w : World) (n : Nat) (hn : n ≤ 4096) :
    RNewPost w n (.returned (.pointer (some ⟨w.heap.size + 1, 0, none⟩))) ((w.alloc (.cells (List.replicate n (.bool false)).toArray 4)).alloc (.cells #[.slice (some ⟨w.heap.size, 0, none⟩) n n] 76)) := by
  have hb := Blk.new (w.alloc (.cells (List.replicate n (.bool false)).toArray 4)) 76 #[.slice (some ⟨w.heap.size, 0, none⟩) n n]
  have hr := (Blk.new w 4 (List.replicate n (.bool false)).toArray).alloc (.cells #[.slice (some ⟨w.heap.size, 0, none⟩) n n] 76)
  have he : (List.range n).map (fun j => Value.bool (noBits j)) = List.replicate n (.bool false) := by
    apply List.ext_getElem <;> simp [noBits]
  simp at hb
  refine ⟨rfl, ⟨⟨w.heap.size, n, by simpa using hb, by rw [he]; exact hr, Nat.le_refl _, by unfold maxLen; omega, .inr ⟨Nat.le_refl _, by simp; omega⟩⟩, .inr ⟨by omega, by simp⟩, fun j hj => by rcases hj with hj | hj; exact hj.elim; exact hj.2, hn⟩, ((Below.refl _ w).alloc (Nat.le_refl _) _).alloc (by simp) _⟩

theorem rset_new (m : Int) (w : World) :
    Calls Try.prog 27 #[.int .i64 m] w (RNewPost w (min (max m 0) 4096).toNat) := by
  by_cases h0 : m < 0
  · have hmk : ∀ w : World, (Instr.makeSlice 74 (.int .i64 0) (.int .i64 0)).run Try.prog w = .ok (.slice (some ⟨w.heap.size, 0, none⟩) 0 0) (w.alloc (.cells (List.replicate 0 (.bool false)).toArray 4)) := make_rows (P := Try.prog) Try.elemBool rfl 0 (by omega) (by omega) .i64 .i64
    have hp := ref_new_at w 0 (by decide)
    rw [show (min (max m 0) 4096).toNat = 0 by omega]
    have HP := hide hp
    clear hp
    go_enter Try.func27, Try.ntmps27
    go_wp2
    go_ret
    exact HP.out
  · by_cases h1 : 4096 < m
    · have hmk : ∀ w : World, (Instr.makeSlice 74 (.int .i64 4096) (.int .i64 4096)).run Try.prog w = .ok (.slice (some ⟨w.heap.size, 0, none⟩) 4096 4096) (w.alloc (.cells (List.replicate 4096 (.bool false)).toArray 4)) := make_rows (P := Try.prog) Try.elemBool rfl 4096 (by omega) (by omega) .i64 .i64
      have hp := ref_new_at w 4096 (by decide)
      rw [show (min (max m 0) 4096).toNat = 4096 by omega]
      obtain ⟨rep, hrep⟩ : ∃ r, r = List.replicate 4096 (Value.bool false) := ⟨_, rfl⟩
      rw [← hrep] at hmk hp
      have HP := hide hp
      clear hp hrep
      go_enter Try.func27, Try.ntmps27
      go_wp2
      go_ret
      exact HP.out
    · obtain ⟨k, rfl⟩ := Int.eq_ofNat_of_zero_le (show 0 ≤ m by omega)
      have hmk := make_rows (P := Try.prog) Try.elemBool rfl k (by omega) (by omega) .i64 .i64
      have hp := ref_new_at w k (by omega)
      rw [show (min (max (k : Int) 0) 4096).toNat = k by omega]
      obtain ⟨rep, hrep⟩ : ∃ r, r = List.replicate k (Value.bool false) := ⟨_, rfl⟩
      rw [← hrep] at hmk hp
      have HP := hide hp
      clear hp hrep
      go_enter Try.func27, Try.ntmps27
      go_wp2
      go_ret
      exact HP.out

theorem rset_room {w : World} {b n : Nat} {f : Nat → Bool} {S : Nat → Prop} (h : IsRef w b S n f) :
    Calls Try.prog 40 #[.pointer (some ⟨b, 0, none⟩)] w fun e w' => e = .returned (.int .i64 n) ∧ w = w' := by
  obtain ⟨⟨r, c, h1, h2, h3, h4, hr⟩, hb, hlt, hro⟩ := h
  have c0 := h1.cell 0
  simp at c0
  clear h1 h2 hlt
  go_enter Try.func40, Try.ntmps40
  go_wp2
  go_ret
  exact ⟨rfl, rfl⟩

def inI (n : Nat) (i : Int) : Bool := decide (0 ≤ i) && decide (i < n)
theorem inI_yes {n i : Nat} (h : i < n) : inI n i = true := by
  have : (i : Int) < n := by omega
  simp [inI, this]
theorem inI_no {n : Nat} {i : Int} (h : i < 0 ∨ (n : Int) ≤ i) : inI n i = false := by
  unfold inI
  rcases h with h | h
  · rw [decide_eq_false (by omega)]; rfl
  · rw [decide_eq_false (show ¬ i < n by omega)]; simp
theorem rset_in {w : World} {b n : Nat} {f : Nat → Bool} {S : Nat → Prop} (h : IsRef w b S n f) (i : Int) :
    Calls Try.prog 48 #[.pointer (some ⟨b, 0, none⟩), .int .i64 i] w fun e w' => e = .returned (.bool (inI n i)) ∧ w = w' := by
  obtain ⟨⟨r, c, h1, h2, h3, h4, hr⟩, hb, hlt, hro⟩ := h
  have c0 := h1.cell 0
  simp at c0
  clear h1 h2 hlt
  by_cases hi : i < 0 ∨ (n : Int) ≤ i
  · have hno := inI_no hi
    have HN := hide hno
    clear hno
    by_cases h0 : i < 0
    · clear hi
      go_enter Try.func48, Try.ntmps48
      go_wp2
      go_ret
      exact ⟨ret_bool HN.out.symm, rfl⟩
    · have h00 : 0 ≤ i := by omega
      have h1 : ¬ i < (n : Int) := by omega
      clear hi
      go_enter Try.func48, Try.ntmps48
      go_wp2
      go_ret
      exact ⟨ret_bool (by rw [HN.out]), rfl⟩
  · obtain ⟨j, rfl⟩ := Int.eq_ofNat_of_zero_le (show 0 ≤ i by omega)
    have hj : (j : Int) < n := by omega
    have hyes := inI_yes (show j < n by omega)
    have HY := hide hyes
    clear hyes hi
    go_enter Try.func48, Try.ntmps48
    go_wp2
    go_ret
    exact ⟨ret_bool (by rw [HY.out]), rfl⟩
end Go.Proofs.Ytighpdnodehdcaa

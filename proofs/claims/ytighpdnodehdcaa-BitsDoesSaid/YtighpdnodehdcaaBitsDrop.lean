/- Contracts of package bits, part 1b: Drop. -/
import Derived.Test.YtighpdnodehdcaaBits
namespace Go.Proofs.Ytighpdnodehdcaa
open Go.RowKit

def dropSet (n : Nat) (f : Nat → Bool) (i : Int) (j : Nat) : Bool := f j && !(decide (0 ≤ i) && decide (i < n) && decide ((j : Int) = i))
def dropAns (n : Nat) (f : Nat → Bool) (i : Int) : Bool := decide (0 ≤ i) && decide (i < n) && f i.toNat

theorem set_drop_no {w : World} {b n : Nat} {f : Nat → Bool} {S : Nat → Prop} (h : IsSet w b S n f) (i : Int) (hi : dropAns n f i = false) :
    Calls Try.prog 30 #[.pointer (some ⟨b, 0, none⟩), .int .i64 i] w fun e w' => e = .returned (.bool false) ∧ w = w' := by
  by_cases hb : i < 0 ∨ (n : Int) ≤ i
  · clear hi
    go_enter Try.func30, Try.ntmps30
    go_wp2_with (go_at_call 47; refine (bit_no h i hb).mono ?_; rintro e w' ⟨rfl, rfl⟩)
    go_ret
    exact ⟨rfl, rfl⟩
  · obtain ⟨j, rfl⟩ := Int.eq_ofNat_of_zero_le (show 0 ≤ i by omega)
    have hj : j < n := by omega
    have hfj : f j = false := by
      unfold dropAns at hi
      rw [decide_eq_true (show (0 : Int) ≤ j by omega), decide_eq_true (show (j : Int) < n by omega)] at hi
      simpa using hi
    obtain ⟨⟨r, ws, hi', hr, hf⟩, hb', hlt⟩ := id h
    obtain ⟨x, hx, hcx, hlx⟩ := hi'.word hj
    obtain ⟨c, h1, _, hcm⟩ := hi'.blk
    have c1 := h1.cell 1
    simp at c1
    unfold maxLen at hcm
    have hand := u64_and_bv x (one (j % 64))
    have hmt : (((x &&& one (j % 64)).toNat : Int) != 0) = false := by rw [mask_test _ _ (Nat.mod_lt _ (by decide)), ← hfj, ← hf, bitOf_get hx]
    obtain ⟨q, hq⟩ : ∃ q, q = j / 64 := ⟨_, rfl⟩
    have hit := bit_yes h j hj
    rw [← hq] at hcx hlx hit
    have hqi : (q : Int) < ws.length := by omega
    have HIT := hide hit
    clear hit hx hi h hf hlt h1 hq hi' hb hfj
    generalize one (j % 64) = p at *
    generalize x &&& p = y at *
    go_enter Try.func30, Try.ntmps30
    go_wp2_with (go_at_call 47; refine HIT.out.mono ?_; rintro e w' ⟨rfl, rfl⟩)
    go_ret
    exact ⟨rfl, rfl⟩

theorem set_drop_yes {w : World} {b n : Nat} {f : Nat → Bool} {S : Nat → Prop} (h : IsSet w b S n f) (i : Int) (hi : dropAns n f i = true) :
    Calls Try.prog 30 #[.pointer (some ⟨b, 0, none⟩), .int .i64 i] w fun e w' => e = .returned (.bool true) ∧ IsSet w' b S n (dropSet n f i) ∧ Touch S w w' := by
  unfold dropAns at hi
  simp only [Bool.and_eq_true, decide_eq_true_eq] at hi
  obtain ⟨⟨hi0, hin⟩, hfi⟩ := hi
  obtain ⟨j, rfl⟩ := Int.eq_ofNat_of_zero_le hi0
  rw [Int.toNat_natCast] at hfi
  have hj : j < n := by omega
  obtain ⟨⟨r, ws, hi', hr, hf⟩, hb', hlt⟩ := id h
  obtain ⟨x, hx, hcx, hlx⟩ := hi'.word hj
  obtain ⟨c, h1, _, hcm⟩ := hi'.blk
  have c1 := h1.cell 1
  simp at c1
  unfold maxLen at hcm
  have hand := u64_and_bv x (one (j % 64))
  have hor := u64_andNot_bv x (one (j % 64))
  have hmt : (((x &&& one (j % 64)).toNat : Int) != 0) = true := by rw [mask_test _ _ (Nat.mod_lt _ (by decide)), ← hfi, ← hf, bitOf_get hx]
  have hne : b ≠ r := h1.ne hi'.words (by decide)
  have hfr := hi'.words.frozen (j / 64)
  have hstored := hi'.stored (i := j) (x &&& ~~~one (j % 64)) hne (fun k hk => by rw [bitOf_drop hx, hi'.high k hk]; rfl)
  have hset : ∀ k, bitOf (ws.set (j / 64) (x &&& ~~~one (j % 64))) k = dropSet n f j k := fun k => by
    rw [bitOf_drop hx, hf]
    have e3 : decide ((k : Int) = (j : Int)) = decide (k = j) := decide_eq_decide.2 (by omega)
    simp [dropSet, hj, e3]
  obtain ⟨q, hq⟩ : ∃ q, q = j / 64 := ⟨_, rfl⟩
  have hit := bit_yes h j hj
  rw [← hq] at hcx hlx hit hfr hstored hset
  have hqi : (q : Int) < ws.length := by omega
  have HIT := hide hit
  have HS := hide hstored
  have HE := hide hset
  clear hit hx hi0 hin h hf h1 hq hi' hfi hstored hset
  generalize one (j % 64) = p at *
  generalize x &&& ~~~p = z at *
  generalize x &&& p = y at *
  go_enter Try.func30, Try.ntmps30
  go_wp2_with (go_at_call 47; refine HIT.out.mono ?_; rintro e w' ⟨rfl, rfl⟩)
  go_ret
  exact ⟨rfl, ⟨⟨r, _, HS.out, hr, HE.out⟩, hb', fun k hk => by simpa using hlt k hk⟩, (Touch.refl S w).setCell (fun _ => hr) _⟩
end Go.Proofs.Ytighpdnodehdcaa

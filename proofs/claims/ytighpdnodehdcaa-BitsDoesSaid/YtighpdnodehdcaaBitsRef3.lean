/- The reference's sets, part 3: Or, Meet, List, Next, Ints. -/
import Derived.Test.YtighpdnodehdcaaBitsRef2
namespace Go.Proofs.Ytighpdnodehdcaa
set_option linter.unusedVariables false
open Go.RowKit

theorem IsRef.parts {w : World} {b n : Nat} {f : Nat → Bool} {S : Nat → Prop} (h : IsRef w b S n f) : ∃ r c, w.cell? ⟨b, 0, none⟩ = some (.slice (some ⟨r, 0, none⟩) n c) ∧ n ≤ c ∧ c ≤ 9223372036854775807 ∧ ∀ i, i < n → w.cell? ⟨r, i, none⟩ = some (.bool (f i)) := by
  obtain ⟨⟨r, c, h1, h2, h3, h4, hr⟩, hb, hlt, hro⟩ := h
  have c0 := h1.cell 0
  simp at c0
  exact ⟨r, c, c0, h3, by unfold maxLen at h4; omega, fun i hi => IsRef.cellB h2 hi⟩

def orK (n : Nat) (f g : Nat → Bool) (k : Nat) : Bool := (List.range k).any fun j => decide (j < n) && g j && !f j
def orS (n : Nat) (f g : Nat → Bool) (k j : Nat) : Bool := f j || (g j && decide (j < k) && decide (j < n))
theorem orK_succ (n : Nat) (f g : Nat → Bool) (k : Nat) : orK n f g (k + 1) = (orK n f g k || (decide (k < n) && g k && !f k)) := by unfold orK; rw [List.range_succ, List.any_append]; simp
theorem orK_all (n m : Nat) (f g : Nat → Bool) : orK n f g m = orAns (min n m) f g := by
  unfold orK orAns
  rw [Bool.eq_iff_iff, List.any_eq_true, List.any_eq_true]
  constructor
  · rintro ⟨j, hj, h⟩
    simp at hj h
    exact ⟨j, List.mem_range.2 (by omega), by simp [h]⟩
  · rintro ⟨j, hj, h⟩
    simp at hj h
    exact ⟨j, List.mem_range.2 (by omega), by simp [h]; omega⟩
theorem IsRef.ext {w : World} {b n : Nat} {f g : Nat → Bool} {S : Nat → Prop} (h : IsRef w b S n f) (e : ∀ j, j < n → f j = g j) : IsRef w b S n g := by
  obtain ⟨⟨r, c, h1, h2, h3, h4, hr⟩, hb, hlt, hro⟩ := h
  refine ⟨⟨r, c, h1, ?_, h3, h4, hr⟩, hb, hlt, hro⟩
  have : (List.range n).map (fun j => Value.bool (f j)) = (List.range n).map (fun j => Value.bool (g j)) := List.map_congr_left fun j hj => by rw [e j (List.mem_range.1 hj)]
  rw [← this]; exact h2

set_option maxHeartbeats 1000000 in
theorem rset_or {w : World} {b n b2 m : Nat} {f g : Nat → Bool} {S S2 : Nat → Prop} (h : IsRef w b S n f) (h2 : IsRef w b2 S2 m g) (hd : ∀ k, S k → S2 k → False) :
    Calls Try.prog 32 #[.pointer (some ⟨b, 0, none⟩), .pointer (some ⟨b2, 0, none⟩)] w (RPutPost w b S n (orSet (min n m) f g) (orAns (min n m) f g)) := by
  have hm := h2.room
  have hn := h.room
  have H := hide h
  have H2 := hide h2
  have HD := hide hd
  clear h h2 hd
  go_enter Try.func32, Try.ntmps32
  go_wp2
  go_loopw [5, 6] (fun ch i wr => ∃ k : Nat, k ≤ m ∧ i = .int .i64 k ∧ ch = .bool (orK n f g k) ∧ IsRef wr b S n (orS n f g k) ∧ Touch S w wr) (fun _ i _ => m - (intOf i).toNat)
  case atStart => exact ⟨0, Nat.zero_le _, rfl, rfl, H.out.ext fun j _ => by simp [orS], Touch.refl _ _⟩
  case round =>
    obtain ⟨k, hk, rfl, rfl, hs, ht⟩ := hrel
    have h2 := H2.out.touch ht (fun j h1 h2 => HD.out j h2 h1)
    obtain ⟨r, c, c0, hc, hc', hcell⟩ := h2.parts
    by_cases hkm : k < m
    · have hcx := hcell k hkm
      have hkmi : (k : Int) < m := by omega
      have hsucc := orK_succ n f g k
      have HS := hide hs
      have HT := hide ht
      have HU := hide hsucc
      clear hcell hs ht hsucc
      cases hgk : g k
      · rw [hgk] at hcx
        have HG := hide hgk
        clear hgk
        go_wp2_with (go_at_call 40; refine (rset_room h2).mono ?_; rintro e w' ⟨rfl, rfl⟩)
        go_roundw
        case rel =>
          refine ⟨k + 1, by omega, by go_num, by rw [HU.out, HG.out]; simp, HS.out.ext fun j hj => ?_, HT.out⟩
          unfold orS
          by_cases e : j = k
          · subst e; simp [HG.out]
          · have : decide (j < k + 1) = decide (j < k) := decide_eq_decide.2 (by omega)
            rw [this]
        case measure => simp [intOf]; omega
      · rw [hgk] at hcx
        have HG := hide hgk
        have hcur : orS n f g k k = f k := by unfold orS; simp
        have hput := rset_put HS.out (k : Int)
        have hans : putAns n (orS n f g k) (k : Int) = (decide (k < n) && !f k) := by
          unfold putAns
          rw [Int.toNat_natCast, hcur, decide_eq_true (show (0 : Int) ≤ (k : Int) by omega)]
          have : decide ((k : Int) < (n : Int)) = decide (k < n) := decide_eq_decide.2 (by omega)
          rw [this]; simp
        rw [hans] at hput
        obtain ⟨z, hz⟩ : ∃ z, z = (decide (k < n) && !f k) := ⟨_, rfl⟩
        rw [← hz] at hput
        have HP := hide hput
        have HZ := hide hz
        clear hgk hcur hput hans hz
        have next : ∀ w', RPutPost wr b S n (putSet n (orS n f g k) k) z (.returned (.bool z)) w' → IsRef w' b S n (orS n f g (k + 1)) ∧ Touch S w w' := fun w' hp => by
          obtain ⟨_, hp2, hp3⟩ := hp
          refine ⟨hp2.ext fun j hj => ?_, HT.out.trans' hp3⟩
          unfold putSet orS
          rw [decide_eq_true (show (0 : Int) ≤ (k : Int) by omega)]
          by_cases e : j = k
          · subst e
            have : (j : Int) < n := by omega
            simp [HG.out, hj]
          · have e1 : decide (j < k + 1) = decide (j < k) := decide_eq_decide.2 (by omega)
            have e2 : ¬ (j : Int) = (k : Int) := by omega
            rw [e1]; simp [e2]
        have NX := hide next
        clear next
        cases z
        · go_wp2_with (first
            | (go_at_call 40; refine (rset_room h2).mono ?_; rintro e w' ⟨rfl, rfl⟩)
            | (go_at_call 29; refine HP.out.mono ?_; rintro e w' ⟨rfl, hp⟩))
          go_roundw
          case rel =>
            obtain ⟨n1, n2⟩ := NX.out _ ⟨rfl, hp⟩
            exact ⟨k + 1, by omega, by go_num, by have := HZ.out; rw [HU.out, HG.out]; simp [← this], n1, n2⟩
          case measure => simp [intOf]; omega
        · go_wp2_with (first
            | (go_at_call 40; refine (rset_room h2).mono ?_; rintro e w' ⟨rfl, rfl⟩)
            | (go_at_call 29; refine HP.out.mono ?_; rintro e w' ⟨rfl, hp⟩))
          go_roundw
          case rel =>
            obtain ⟨n1, n2⟩ := NX.out _ ⟨rfl, hp⟩
            exact ⟨k + 1, by omega, by go_num, by have := HZ.out; rw [HU.out, HG.out]; simp [← this], n1, n2⟩
          case measure => simp [intOf]; omega
    · have hkmi : ¬ (k : Int) < m := by omega
      have hkE : k = m := by omega
      have HE := hide hkE
      clear hcell hkE
      go_wp2_with (go_at_call 40; refine (rset_room h2).mono ?_; rintro e w' ⟨rfl, rfl⟩)
      go_ret
      refine ⟨ret_bool (by rw [HE.out, orK_all]), hs.ext fun j hj => ?_, ht⟩
      rw [HE.out]
      unfold orS orSet
      have : decide (j < min n m) = (decide (j < m) && decide (j < n)) := by rw [← Bool.decide_and]; exact decide_eq_decide.2 (by omega)
      rw [this, Bool.and_assoc]

def meetK (n : Nat) (f g : Nat → Bool) (k : Nat) : Bool := (List.range k).any fun j => decide (j < n) && g j && f j
theorem meetK_succ (n : Nat) (f g : Nat → Bool) (k : Nat) : meetK n f g (k + 1) = (meetK n f g k || (decide (k < n) && g k && f k)) := by unfold meetK; rw [List.range_succ, List.any_append]; simp
theorem meetK_all (n m : Nat) (f g : Nat → Bool) : meetK n f g m = meetAns (min n m) f g := by
  unfold meetK meetAns
  rw [Bool.eq_iff_iff, List.any_eq_true, List.any_eq_true]
  constructor
  · rintro ⟨j, hj, h⟩
    simp at hj h
    exact ⟨j, List.mem_range.2 (by omega), by simp [h]⟩
  · rintro ⟨j, hj, h⟩
    simp at hj h
    exact ⟨j, List.mem_range.2 (by omega), by simp [h]; omega⟩
theorem meetAns_of {k j : Nat} {f g : Nat → Bool} (hj : j < k) (hg : g j = true) (hf : f j = true) : meetAns k f g = true := by
  unfold meetAns
  rw [List.any_eq_true]
  exact ⟨j, List.mem_range.2 hj, by simp [hg, hf]⟩

theorem rset_meet {w : World} {b n b2 m : Nat} {f g : Nat → Bool} {S S2 : Nat → Prop} (h : IsRef w b S n f) (h2 : IsRef w b2 S2 m g) :
    Calls Try.prog 38 #[.pointer (some ⟨b, 0, none⟩), .pointer (some ⟨b2, 0, none⟩)] w fun e w' => e = .returned (.bool (meetAns (min n m) f g)) ∧ w = w' := by
  have hm := h2.room
  have hn := h.room
  obtain ⟨r, c, c0, hc, hc', hcell⟩ := h2.parts
  have hno : meetK n f g 0 = false := rfl
  have hall := meetK_all n m f g
  have HA := hide hall
  clear hall
  go_enter Try.func38, Try.ntmps38
  go_wp2
  go_loop [5] (fun i => ∃ k : Nat, k ≤ m ∧ i = .int .i64 k ∧ Hid (meetK n f g k = false)) (fun i => m - (intOf i).toNat)
  case atStart => exact ⟨0, Nat.zero_le _, rfl, hno⟩
  case round =>
    obtain ⟨k, hk, rfl, HK⟩ := hrel
    clear hno
    by_cases hkm : k < m
    · have hcx := hcell k hkm
      have hkmi : (k : Int) < m := by omega
      have hsucc := meetK_succ n f g k
      have hhas := rset_has h (k : Int)
      have HH := hide hhas
      have HU := hide hsucc
      clear hcell hsucc hhas
      cases hgk : g k
      · rw [hgk] at hcx
        have HG := hide hgk
        clear hgk
        go_wp2_with (go_at_call 40; refine (rset_room h2).mono ?_; rintro e w' ⟨rfl, rfl⟩)
        go_round
        case rel => exact ⟨k + 1, by omega, by go_num, by show _ = _; rw [HU.out, HG.out, HK.out]; simp⟩
        case measure => simp [intOf]; omega
      · rw [hgk] at hcx
        have HG := hide hgk
        have hhI : hasI n f (k : Int) = (decide (k < n) && f k) := by
          unfold hasI
          rw [Int.toNat_natCast, decide_eq_true (show (0 : Int) ≤ (k : Int) by omega)]
          have : decide ((k : Int) < (n : Int)) = decide (k < n) := decide_eq_decide.2 (by omega)
          rw [this]; simp
        obtain ⟨z, hz⟩ : ∃ z, z = (decide (k < n) && f k) := ⟨_, rfl⟩
        rw [← hz] at hhI
        rw [hhI] at HH
        have HZ := hide hz
        clear hgk hhI hz
        cases z
        · go_wp2_with (first
            | (go_at_call 40; refine (rset_room h2).mono ?_; rintro e w' ⟨rfl, rfl⟩)
            | (go_at_call 34; refine HH.out.mono ?_; rintro e w' ⟨rfl, rfl⟩))
          go_round
          case rel => exact ⟨k + 1, by omega, by go_num, by show _ = _; have := HZ.out; rw [HU.out, HG.out, HK.out]; simp [← this]⟩
          case measure => simp [intOf]; omega
        · go_wp2_with (first
            | (go_at_call 40; refine (rset_room h2).mono ?_; rintro e w' ⟨rfl, rfl⟩)
            | (go_at_call 34; refine HH.out.mono ?_; rintro e w' ⟨rfl, rfl⟩))
          go_ret
          have hz := HZ.out
          simp at hz
          exact ⟨ret_bool (meetAns_of (by omega) HG.out hz.2).symm, rfl⟩
    · have hkmi : ¬ (k : Int) < m := by omega
      have hkE : k = m := by omega
      have HE := hide hkE
      clear hcell hkE
      go_wp2_with (go_at_call 40; refine (rset_room h2).mono ?_; rintro e w' ⟨rfl, rfl⟩)
      go_ret
      exact ⟨ret_bool (by rw [← HA.out, ← HE.out, HK.out]), rfl⟩
end Go.Proofs.Ytighpdnodehdcaa

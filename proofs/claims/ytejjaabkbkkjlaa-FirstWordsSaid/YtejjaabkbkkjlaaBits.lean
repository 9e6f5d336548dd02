/- Contracts of package bits (layer 3), part 1: New, Room, bit, Put, Drop, Has over one predicate 'IsSet'. -/
import Derived.Test.YtejjaabkbkkjlaaProg
import Derived.Test.YtejjaabkbkkjlaaBitsPlain
namespace Go.Proofs.Ytejjaabkbkkjlaa
set_option linter.unusedVariables false
open Go.RowKit

abbrev U64 (x : BitVec 64) : Value := .int .u64 (x.toNat : Int)

/-- the set whose struct is block b, its words block r: room n, numbers f -/
structure SetAt (w : World) (b r : Nat) (n : Nat) (ws : List (BitVec 64)) : Prop where
  blk : ∃ c, Blk w b 136 #[.int .i64 n, .slice (some ⟨r, 0, none⟩) ws.length c] ∧ ws.length ≤ c ∧ c ≤ maxLen
  words : Blk w r 131 (ws.map U64).toArray
  len : ws.length = (n + 63) / 64
  room : n ≤ 4096
  high : ∀ j, n ≤ j → bitOf ws j = false

structure IsSet (w : World) (b : Nat) (S : Nat → Prop) (n : Nat) (f : Nat → Bool) : Prop where
  is : ∃ r ws, SetAt w b r n ws ∧ S r ∧ ∀ j, bitOf ws j = f j
  head : S b
  lt : ∀ k, S k → k < w.heap.size

theorem SetAt.touch {w w' : World} {b r n : Nat} {ws : List (BitVec 64)} {T : Nat → Prop} (h : SetAt w b r n ws) (ht : Touch T w w') (hb : ¬ T b) (hr : ¬ T r) : SetAt w' b r n ws := by
  obtain ⟨⟨c, h1, h2⟩, h3, h4, h5, h6⟩ := h
  exact ⟨⟨c, h1.touch ht hb, h2⟩, h3.touch ht hr, h4, h5, h6⟩
theorem IsSet.touch {w w' : World} {b n : Nat} {f : Nat → Bool} {S T : Nat → Prop} (h : IsSet w b S n f) (ht : Touch T w w') (hS : ∀ k, S k → ¬ T k) : IsSet w' b S n f := by
  obtain ⟨⟨r, ws, hi, hr, hf⟩, hb, hlt⟩ := h
  exact ⟨⟨r, ws, hi.touch ht (hS _ hb) (hS _ hr), hr, hf⟩, hb, fun k hk => Nat.lt_of_lt_of_le (hlt k hk) ht.size⟩
theorem IsSet.drewN {w : World} {b n : Nat} {f : Nat → Bool} {S : Nat → Prop} (h : IsSet w b S n f) (q : Nat) : IsSet (w.drewN q) b S n f := h.touch ((Touch.refl (fun _ => False) w).drewN q) (fun _ _ hf => hf)
theorem IsSet.drew {w : World} {b n : Nat} {f : Nat → Bool} {S : Nat → Prop} (h : IsSet w b S n f) : IsSet w.drew b S n f := h.touch ((Touch.refl (fun _ => False) w).drew) (fun _ _ hf => hf)
theorem IsSet.ext {w : World} {b n : Nat} {f g : Nat → Bool} {S : Nat → Prop} (h : IsSet w b S n f) (e : ∀ j, f j = g j) : IsSet w b S n g := by
  obtain ⟨⟨r, ws, hi, hr, hf⟩, hb, hlt⟩ := h
  exact ⟨⟨r, ws, hi, hr, fun j => (hf j).trans (e j)⟩, hb, hlt⟩
theorem IsSet.room {w : World} {b n : Nat} {f : Nat → Bool} {S : Nat → Prop} (h : IsSet w b S n f) : n ≤ 4096 := by
  obtain ⟨⟨r, ws, hi, hr, hf⟩, hb, hlt⟩ := h
  exact hi.room
theorem IsSet.high {w : World} {b n : Nat} {f : Nat → Bool} {S : Nat → Prop} (h : IsSet w b S n f) : ∀ j, n ≤ j → f j = false := by
  obtain ⟨⟨r, ws, hi, hr, hf⟩, hb, hlt⟩ := h
  exact fun j hj => (hf j).symm.trans (hi.high j hj)
theorem IsSet.more {w : World} {b n : Nat} {f : Nat → Bool} {S T : Nat → Prop} (h : IsSet w b S n f) (hS : ∀ k, S k → T k) (hT : ∀ k, T k → k < w.heap.size) : IsSet w b T n f := by
  obtain ⟨⟨r, ws, hi, hr, hf⟩, hb, hlt⟩ := h
  exact ⟨⟨r, ws, hi, hS _ hr, hf⟩, hS _ hb, hT⟩

theorem set_room_nil (w : World) : Calls Try.prog 163 #[.pointer none] w fun e w' => e = .returned (.int .i64 0) ∧ w = w' := by
  go_enter Try.func163, Try.ntmps163
  go_wp2
  go_ret
  exact ⟨rfl, rfl⟩
theorem set_room {w : World} {b n : Nat} {f : Nat → Bool} {S : Nat → Prop} (h : IsSet w b S n f) :
    Calls Try.prog 163 #[.pointer (some ⟨b, 0, none⟩)] w fun e w' => e = .returned (.int .i64 n) ∧ w = w' := by
  obtain ⟨⟨r, ws, ⟨⟨c, h1, h2⟩, h3, h4, h5, h6⟩, hr, hf⟩, hb, hlt⟩ := h
  have c0 := h1.cell 0
  simp at c0
  clear h1 h2 h3 h4 h5 h6 hf hlt
  go_enter Try.func163, Try.ntmps163
  go_wp2
  go_ret
  exact ⟨rfl, rfl⟩

theorem bit_no {w : World} {b n : Nat} {f : Nat → Bool} {S : Nat → Prop} (h : IsSet w b S n f) (i : Int) (hi : i < 0 ∨ n ≤ i) :
    Calls Try.prog 144 #[.pointer (some ⟨b, 0, none⟩), .int .i64 i] w fun e w' => e = .returned (.tuple #[.int .i64 0, .int .u64 0, .bool false]) ∧ w = w' := by
  by_cases h0 : i < 0
  · go_enter Try.func144, Try.ntmps144
    go_wp2_with (go_at_call 163; refine (set_room h).mono ?_; rintro e w' ⟨rfl, rfl⟩)
    go_ret3
    exact ⟨rfl, rfl⟩
  · have h1 : (n : Int) ≤ i := by omega
    clear hi
    go_enter Try.func144, Try.ntmps144
    go_wp2_with (go_at_call 163; refine (set_room h).mono ?_; rintro e w' ⟨rfl, rfl⟩)
    go_ret3
    exact ⟨rfl, rfl⟩
theorem bit_nil (i : Int) (w : World) :
    Calls Try.prog 144 #[.pointer none, .int .i64 i] w fun e w' => e = .returned (.tuple #[.int .i64 0, .int .u64 0, .bool false]) ∧ w = w' := by
  by_cases h0 : i < 0
  all_goals
    go_enter Try.func144, Try.ntmps144
    go_wp2_with (go_at_call 163; refine (set_room_nil _).mono ?_; rintro e w' ⟨rfl, rfl⟩)
    go_ret3
    exact ⟨rfl, rfl⟩

theorem bit_yes {w : World} {b n : Nat} {f : Nat → Bool} {S : Nat → Prop} (h : IsSet w b S n f) (i : Nat) (hi : i < n) :
    Calls Try.prog 144 #[.pointer (some ⟨b, 0, none⟩), .int .i64 i] w fun e w' => e = .returned (.tuple #[.int .i64 (i / 64 : Nat), U64 (one (i % 64)), .bool true]) ∧ w = w' := by
  have hn := h.room
  have h63 := i64_and_63 i (by omega)
  obtain ⟨k, hk⟩ : ∃ k, k = i % 64 := ⟨_, rfl⟩
  have hk64 : k < 64 := by omega
  rw [← hk] at h63 ⊢
  have HK := hide hk
  clear hk
  go_enter Try.func144, Try.ntmps144
  go_wp2_with (go_at_call 163; refine (set_room h).mono ?_; rintro e w' ⟨rfl, rfl⟩)
  go_ret3
  exact ⟨ret_tup3 (int_eq (by omega)) (int_eq (wrap_pow k hk64)) rfl, rfl⟩

theorem SetAt.word {w : World} {b r n : Nat} {ws : List (BitVec 64)} (h : SetAt w b r n ws) {i : Nat} (hi : i < n) : ∃ x, ws[i / 64]? = some x ∧ w.cell? ⟨r, i / 64, none⟩ = some (U64 x) ∧ i / 64 < ws.length := by
  have hl := h.len
  have hlt : i / 64 < ws.length := by omega
  refine ⟨ws[i / 64], List.getElem?_eq_getElem hlt, ?_, hlt⟩
  rw [h.words.cell]; simp [hlt]

theorem set_has_nil (i : Int) (w : World) : Calls Try.prog 105 #[.pointer none, .int .i64 i] w fun e w' => e = .returned (.bool false) ∧ w = w' := by
  go_enter Try.func105, Try.ntmps105
  go_wp2_with (go_at_call 144; refine (bit_nil i _).mono ?_; rintro e w' ⟨rfl, rfl⟩)
  go_ret
  exact ⟨rfl, rfl⟩
theorem set_put_nil (i : Int) (w : World) : Calls Try.prog 116 #[.pointer none, .int .i64 i] w fun e w' => e = .returned (.bool false) ∧ w = w' := by
  go_enter Try.func116, Try.ntmps116
  go_wp2_with (go_at_call 144; refine (bit_nil i _).mono ?_; rintro e w' ⟨rfl, rfl⟩)
  go_ret
  exact ⟨rfl, rfl⟩

/-- is an int in the set? -/
def hasI (n : Nat) (f : Nat → Bool) (i : Int) : Bool := decide (0 ≤ i) && decide (i < n) && f i.toNat
theorem hasI_nat {n : Nat} {f : Nat → Bool} {i : Nat} (h : i < n) : hasI n f i = f i := by
  have : (i : Int) < n := by omega
  simp [hasI, this]
theorem hasI_no {n : Nat} {f : Nat → Bool} {i : Int} (h : i < 0 ∨ (n : Int) ≤ i) : hasI n f i = false := by
  unfold hasI
  rcases h with h | h
  · rw [decide_eq_false (by omega)]; rfl
  · rw [decide_eq_false (show ¬ i < n by omega)]; simp

theorem set_has {w : World} {b n : Nat} {f : Nat → Bool} {S : Nat → Prop} (h : IsSet w b S n f) (i : Int) :
    Calls Try.prog 105 #[.pointer (some ⟨b, 0, none⟩), .int .i64 i] w fun e w' => e = .returned (.bool (hasI n f i)) ∧ w = w' := by
  by_cases hi : i < 0 ∨ (n : Int) ≤ i
  · have hno := hasI_no (f := f) hi
    have HN := hide hno
    clear hno
    go_enter Try.func105, Try.ntmps105
    go_wp2_with (go_at_call 144; refine (bit_no h i hi).mono ?_; rintro e w' ⟨rfl, rfl⟩)
    go_ret
    exact ⟨ret_bool HN.out.symm, rfl⟩
  · obtain ⟨j, rfl⟩ := Int.eq_ofNat_of_zero_le (show 0 ≤ i by omega)
    have hj : j < n := by omega
    rw [hasI_nat hj]
    obtain ⟨⟨r, ws, hi', hr, hf⟩, hb, hlt⟩ := id h
    obtain ⟨x, hx, hcx, hlx⟩ := hi'.word hj
    obtain ⟨c, h1, _, hcm⟩ := hi'.blk
    have c1 := h1.cell 1
    simp at c1
    unfold maxLen at hcm
    have hand := u64_and_bv x (one (j % 64))
    have hmt : (((x &&& one (j % 64)).toNat : Int) != 0) = f j := by rw [mask_test _ _ (Nat.mod_lt _ (by decide)), ← hf, bitOf_get hx]
    obtain ⟨q, hq⟩ : ∃ q, q = j / 64 := ⟨_, rfl⟩
    have hit := bit_yes h j hj
    rw [← hq] at hcx hlx hit
    have hqi : (q : Int) < ws.length := by omega
    have HIT := hide hit
    have HM := hide hmt
    clear hit hx hi h hf hlt h1 hq hmt hi'
    generalize one (j % 64) = p at *
    generalize x &&& p = y at *
    go_enter Try.func105, Try.ntmps105
    go_wp2_with (go_at_call 144; refine HIT.out.mono ?_; rintro e w' ⟨rfl, rfl⟩)
    go_ret
    exact ⟨ret_bool HM.out, rfl⟩

/-- a number more -/
def addTo (f : Nat → Bool) (i j : Nat) : Bool := f j || decide (j = i)
def dropOf (f : Nat → Bool) (i j : Nat) : Bool := f j && decide (j ≠ i)
/-- what Put leaves -/
def putSet (n : Nat) (f : Nat → Bool) (i : Int) (j : Nat) : Bool := f j || (decide (0 ≤ i) && decide (i < n) && decide ((j : Int) = i))
def putAns (n : Nat) (f : Nat → Bool) (i : Int) : Bool := decide (0 ≤ i) && decide (i < n) && !f i.toNat

theorem SetAt.stored {w : World} {b r n : Nat} {ws : List (BitVec 64)} (h : SetAt w b r n ws) {i : Nat} (y : BitVec 64) (hne : b ≠ r) (hh : ∀ j, n ≤ j → bitOf (ws.set (i / 64) y) j = false) :
    SetAt (w.setCell ⟨r, i / 64, none⟩ (U64 y)) b r n (ws.set (i / 64) y) := by
  obtain ⟨⟨c, h1, h2⟩, h3, h4, h5, h6⟩ := h
  refine ⟨⟨c, by simpa using h1.far (p := ⟨r, i / 64, none⟩) hne (U64 y), by simpa using h2⟩, ?_, by simpa using h4, h5, hh⟩
  have := h3.put (i / 64) (U64 y)
  simpa [List.map_set] using this

theorem SetAt.stored' {w : World} {b r n : Nat} {ws : List (BitVec 64)} (h : SetAt w b r n ws) {i : Nat} (y : BitVec 64) (hne : b ≠ r) (hh : ∀ j, n ≤ j → bitOf (ws.set i y) j = false) :
    SetAt (w.setCell ⟨r, i, none⟩ (U64 y)) b r n (ws.set i y) := by
  obtain ⟨⟨c, h1, h2⟩, h3, h4, h5, h6⟩ := h
  refine ⟨⟨c, by simpa using h1.far (p := ⟨r, i, none⟩) hne (U64 y), by simpa using h2⟩, ?_, by simpa using h4, h5, hh⟩
  have := h3.put i (U64 y)
  simpa [List.map_set] using this

theorem set_put_no {w : World} {b n : Nat} {f : Nat → Bool} {S : Nat → Prop} (h : IsSet w b S n f) (i : Int) (hi : putAns n f i = false) :
    Calls Try.prog 116 #[.pointer (some ⟨b, 0, none⟩), .int .i64 i] w fun e w' => e = .returned (.bool false) ∧ w = w' := by
  by_cases hb : i < 0 ∨ (n : Int) ≤ i
  · clear hi
    go_enter Try.func116, Try.ntmps116
    go_wp2_with (go_at_call 144; refine (bit_no h i hb).mono ?_; rintro e w' ⟨rfl, rfl⟩)
    go_ret
    exact ⟨rfl, rfl⟩
  · obtain ⟨j, rfl⟩ := Int.eq_ofNat_of_zero_le (show 0 ≤ i by omega)
    have hj : j < n := by omega
    have hfj : f j = true := by
      unfold putAns at hi
      rw [decide_eq_true (show (0 : Int) ≤ j by omega), decide_eq_true (show (j : Int) < n by omega)] at hi
      simpa using hi
    obtain ⟨⟨r, ws, hi', hr, hf⟩, hb', hlt⟩ := id h
    obtain ⟨x, hx, hcx, hlx⟩ := hi'.word hj
    obtain ⟨c, h1, _, hcm⟩ := hi'.blk
    have c1 := h1.cell 1
    simp at c1
    unfold maxLen at hcm
    have hand := u64_and_bv x (one (j % 64))
    have hmt : (((x &&& one (j % 64)).toNat : Int) != 0) = true := by rw [mask_test _ _ (Nat.mod_lt _ (by decide)), ← hfj, ← hf, bitOf_get hx]
    obtain ⟨q, hq⟩ : ∃ q, q = j / 64 := ⟨_, rfl⟩
    have hit := bit_yes h j hj
    rw [← hq] at hcx hlx hit
    have hqi : (q : Int) < ws.length := by omega
    have HIT := hide hit
    clear hit hx hi h hf hlt h1 hq hi' hb hfj
    generalize one (j % 64) = p at *
    generalize x &&& p = y at *
    go_enter Try.func116, Try.ntmps116
    go_wp2_with (go_at_call 144; refine HIT.out.mono ?_; rintro e w' ⟨rfl, rfl⟩)
    go_ret
    exact ⟨rfl, rfl⟩

theorem set_put_yes {w : World} {b n : Nat} {f : Nat → Bool} {S : Nat → Prop} (h : IsSet w b S n f) (i : Int) (hi : putAns n f i = true) :
    Calls Try.prog 116 #[.pointer (some ⟨b, 0, none⟩), .int .i64 i] w fun e w' => e = .returned (.bool true) ∧ IsSet w' b S n (putSet n f i) ∧ Touch S w w' := by
  unfold putAns at hi
  simp only [Bool.and_eq_true, decide_eq_true_eq, Bool.not_eq_true'] at hi
  obtain ⟨⟨hi0, hin⟩, hfi⟩ := hi
  obtain ⟨j, rfl⟩ := Int.eq_ofNat_of_zero_le hi0
  rw [Int.toNat_natCast] at hfi
  have hj : j < n := by omega
  obtain ⟨⟨r, ws, hi', hr, hf⟩, hb', hlt⟩ := id h
  obtain ⟨x, hx, hcx, hlx⟩ := hi'.word hj
  obtain ⟨c, h1, _, hcm⟩ := hi'.blk
  have c1 := h1.cell 1
  simp at c1
  unfold maxLen at hcm
  have hand := u64_and_bv x (one (j % 64))
  have hor := u64_or_bv x (one (j % 64))
  have hmt : (((x &&& one (j % 64)).toNat : Int) != 0) = false := by rw [mask_test _ _ (Nat.mod_lt _ (by decide)), ← hfi, ← hf, bitOf_get hx]
  have hne : b ≠ r := h1.ne hi'.words (by decide)
  have hfr := hi'.words.frozen (j / 64)
  have hstored := hi'.stored (i := j) (x ||| one (j % 64)) hne (fun k hk => by rw [bitOf_put hx, hi'.high k hk]; simpa using (by omega : ¬ k = j))
  have hset : ∀ k, bitOf (ws.set (j / 64) (x ||| one (j % 64))) k = putSet n f j k := fun k => by
    rw [bitOf_put hx, hf]
    have e3 : decide ((k : Int) = (j : Int)) = decide (k = j) := decide_eq_decide.2 (by omega)
    simp [putSet, hj, e3]
  obtain ⟨q, hq⟩ : ∃ q, q = j / 64 := ⟨_, rfl⟩
  have hit := bit_yes h j hj
  rw [← hq] at hcx hlx hit hfr hstored hset
  have hqi : (q : Int) < ws.length := by omega
  have HIT := hide hit
  have HS := hide hstored
  have HE := hide hset
  clear hit hx hi0 hin h hf h1 hq hi' hfi hstored hset
  generalize one (j % 64) = p at *
  generalize x &&& p = y at *
  generalize x ||| p = z at *
  go_enter Try.func116, Try.ntmps116
  go_wp2_with (go_at_call 144; refine HIT.out.mono ?_; rintro e w' ⟨rfl, rfl⟩)
  go_ret
  exact ⟨rfl, ⟨⟨r, _, HS.out, hr, HE.out⟩, hb', fun k hk => by simpa using hlt k hk⟩, (Touch.refl S w).setCell (fun _ => hr) _⟩
end Go.Proofs.Ytejjaabkbkkjlaa

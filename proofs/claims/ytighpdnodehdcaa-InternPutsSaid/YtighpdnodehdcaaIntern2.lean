/- The contracts of package intern and of its reference, packed: a collection of names with the blocks S that it takes. -/
import Derived.Test.YtighpdnodehdcaaStrs
namespace Go.Proofs.Ytighpdnodehdcaa
open Go.RowKit

theorem IsNames.touch {w w' : World} {b m : Nat} {v : Value} {xs : List ByteArray} {most : Int} {T : Nat → Prop} (h : IsNames w b m v xs most) (ht : Touch T w w') (hb : ¬ T b) (hm : ¬ T m) (hv : ∀ k, v.ownBlock = some k → ¬ T k) : IsNames w' b m v xs most := by
  obtain ⟨D, hown, hD⟩ := h.map
  exact ⟨h.blk.touch ht hb, ht.own h.row hv, ⟨D, ht.ownsMap hown hm, hD⟩, h.nodup, h.small, h.fits⟩

structure Names (w : World) (b : Nat) (S : Nat → Prop) (xs : List ByteArray) (most : Int) : Prop where
  is : ∃ m v, IsNames w b m v xs most ∧ S m ∧ ∀ k, v.ownBlock = some k → S k
  head : S b
  lt : ∀ k, S k → k < w.heap.size
theorem Names.touch {w w' : World} {b : Nat} {xs : List ByteArray} {most : Int} {S T : Nat → Prop} (h : Names w b S xs most) (ht : Touch T w w') (hS : ∀ k, S k → ¬ T k) : Names w' b S xs most := by
  obtain ⟨⟨m, v, hi, hm, hv⟩, hb, hlt⟩ := h
  exact ⟨⟨m, v, hi.touch ht (hS _ hb) (hS _ hm) (fun k hk => hS _ (hv k hk)), hm, hv⟩, hb, fun k hk => Nat.lt_of_lt_of_le (hlt k hk) ht.size⟩
theorem Names.nodup {w : World} {b : Nat} {xs : List ByteArray} {most : Int} {S : Nat → Prop} (h : Names w b S xs most) : xs.Nodup := by obtain ⟨⟨m, v, hi, _⟩, _⟩ := h; exact hi.nodup
theorem Names.small {w : World} {b : Nat} {xs : List ByteArray} {most : Int} {S : Nat → Prop} (h : Names w b S xs most) : xs.length ≤ most ∧ 0 ≤ most ∧ most ≤ 4096 := by obtain ⟨⟨m, v, hi, _⟩, _⟩ := h; exact hi.small

/-- what Put answers, and what is there then -/
def putOut (xs : List ByteArray) (most : Int) (s : ByteArray) : Int × Int × List ByteArray :=
  if s.size = 0 ∨ 24 < s.size then (0, 5, xs) else if s ∈ xs then (place xs s, 0, xs) else if most ≤ xs.length then (0, 14, xs) else (xs.length, 0, xs ++ [s])

theorem putOut_ext {xs ys : List ByteArray} {most a c : Int} {s : ByteArray} (h : putOut xs most s = (a, c, ys)) : ∃ r, ys = xs ++ r ∧ r.length ≤ 1 := by
  unfold putOut at h
  split at h
  · exact ⟨[], by simp at h; simp [h.2.2], by simp⟩
  · split at h
    · exact ⟨[], by simp at h; simp [h.2.2], by simp⟩
    · split at h
      · exact ⟨[], by simp at h; simp [h.2.2], by simp⟩
      · exact ⟨[s], by simp at h; simp [h.2.2], by simp⟩
theorem putOut_ok {xs : List ByteArray} {most : Int} {s : ByteArray} (hp : 0 < s.size) (hl : s.size ≤ 24) (hr : (xs.length : Int) < most) :
    ∃ (j : Nat) (ys : List ByteArray), putOut xs most s = ((j : Int), 0, ys) ∧ ys[j]? = some s ∧ place ys s = j ∧ ∃ r, ys = xs ++ r := by
  unfold putOut
  rw [if_neg (by omega)]
  by_cases h : s ∈ xs
  · obtain ⟨j, hj, _, hpl⟩ := place_some h
    exact ⟨j, xs, by rw [if_pos h, hpl], hj, hpl, [], by simp⟩
  · refine ⟨xs.length, xs ++ [s], by rw [if_neg h, if_neg (by omega)], by simp, ?_, [s], rfl⟩
    refine place_first (by simp) fun j hj e => ?_
    rw [List.getElem?_append_left hj] at e
    exact h (List.mem_of_getElem? e)

def New (S : Nat → Prop) (w w' : World) (k : Nat) : Prop := S k ∨ (w.heap.size ≤ k ∧ k < w'.heap.size)

def PutPost (w : World) (b : Nat) (S : Nat → Prop) (ys : List ByteArray) (most : Int) (r : Value) (e : Ending) (w' : World) : Prop := e = .returned r ∧ Names w' b (New S w w') ys most ∧ Touch S w w'

theorem names_put {w : World} {b : Nat} {xs : List ByteArray} {most : Int} {S : Nat → Prop} (h : Names w b S xs most) (s : ByteArray) {a c : Int} {ys : List ByteArray} (ho : putOut xs most s = (a, c, ys)) :
    Calls Try.prog 11 #[.pointer (some ⟨b, 0, none⟩), .string s] w (PutPost w b S ys most (.tuple #[.int .i64 a, .int .i64 c])) := by
  have stay : ∀ {w' : World}, Touch (fun _ => False) w w' → Names w' b (New S w w') xs most := fun ht => by
    obtain ⟨⟨m, v, hi, hm, hv⟩, hb, hlt⟩ := h.touch ht (fun _ _ hf => hf)
    exact ⟨⟨m, v, hi, .inl hm, fun k hk => .inl (hv k hk)⟩, .inl hb, fun k hk => by rcases hk with hk | hk; exact hlt k hk; exact hk.2⟩
  unfold putOut at ho
  obtain ⟨⟨m, v, hi, hm, hv⟩, hb, hlt⟩ := id h
  by_cases h1 : s.size = 0 ∨ 24 < s.size
  · rw [if_pos h1] at ho
    obtain ⟨rfl, rfl, rfl⟩ : 0 = a ∧ 5 = c ∧ xs = ys := by simpa using ho
    refine (names_put_long s h1).mono ?_
    rintro e w' ⟨rfl, rfl⟩
    exact ⟨rfl, stay (Touch.refl _ _), Touch.refl _ _⟩
  · rw [if_neg h1] at ho
    by_cases h2 : s ∈ xs
    · rw [if_pos h2] at ho
      obtain ⟨rfl, rfl, rfl⟩ : place xs s = a ∧ 0 = c ∧ xs = ys := by simpa using ho
      refine (names_put_there hi s h2 (by omega) (by omega)).mono ?_
      rintro e w' ⟨rfl, rfl⟩
      exact ⟨rfl, stay (Touch.refl _ _), Touch.refl _ _⟩
    · rw [if_neg h2] at ho
      by_cases h3 : most ≤ xs.length
      · rw [if_pos h3] at ho
        obtain ⟨rfl, rfl, rfl⟩ : 0 = a ∧ 14 = c ∧ xs = ys := by simpa using ho
        refine (names_put_full hi s h2 (by omega) (by omega) h3).mono ?_
        rintro e w' ⟨rfl, hbel⟩
        exact ⟨rfl, stay (Touch.of_size hbel _), Touch.of_size hbel _⟩
      · rw [if_neg h3] at ho
        obtain ⟨rfl, rfl, rfl⟩ : (xs.length : Int) = a ∧ 0 = c ∧ xs ++ [s] = ys := by simpa using ho
        refine (names_put_new hi s h2 (by omega) (by omega) (by omega)).mono ?_
        rintro e w' ⟨rfl, v', hi', ht, hv'⟩
        have hT : Touch S w w' := ht.mono fun k _ hk => by rcases hk with rfl | rfl | hk; exact hb; exact hm; exact hv k hk
        refine ⟨rfl, ⟨⟨m, v', hi', .inl hm, fun k hk => ?_⟩, .inl hb, fun k hk => ?_⟩, hT⟩
        · have hlt' := (hi'.row.lt k hk).2
          rcases hv' k hk with h' | h'
          · exact .inl (hv k h')
          · exact .inr ⟨h', hlt'⟩
        · rcases hk with hk | hk
          · exact Nat.lt_of_lt_of_le (hlt k hk) hT.size
          · exact hk.2

theorem New.lt {w w' : World} {S : Nat → Prop} {B : Nat} (h : ∀ k, S k → B ≤ k) (hB : B ≤ w.heap.size) : ∀ k, New S w w' k → B ≤ k := fun k hk => by
  rcases hk with hk | hk
  · exact h k hk
  · omega
theorem Touch.toBelow {w w' : World} {S : Nat → Prop} {B : Nat} {w0 : World} (h : Touch S w w') (hS : ∀ k, S k → B ≤ k) (hb : Below B w0 w) (hB : B ≤ w.heap.size) : Below B w0 w' :=
  hb.trans (h.below (fun k hk _ hs => by have := hS k hs; omega) hB)

theorem names_new' (m : Int) (w : World) :
    Calls Try.prog 10 #[.int .i64 m] w (PutPost w (w.heap.size + 1) (fun _ => False) [] (min (max m 0) 4096) (.pointer (some ⟨w.heap.size + 1, 0, none⟩))) := by
  refine (names_new m w).mono ?_
  rintro e w' ⟨rfl, rfl⟩
  have hb := Blk.new (w.alloc (.map #[] 0)) 65 #[.slice none 0 0, .map (some w.heap.size), .int .i64 (min (max m 0) 4096)]
  simp at hb
  have hm := (World.ownsMap_made w Try.prog 9 (plainElem (H := Unit) Try.prog 3)).alloc (.cells #[.slice none 0 0, .map (some w.heap.size), .int .i64 (min (max m 0) 4096)] 65)
  refine ⟨rfl, ⟨⟨w.heap.size, .slice none 0 0, ⟨hb, World.ownsRow_nil _ _ _ _, ⟨_, hm, NameMap.empty⟩, List.nodup_nil, by simp; omega, by simp⟩, .inr ⟨Nat.le_refl _, by simp; omega⟩, by simp [Value.ownBlock]⟩, .inr ⟨by omega, by simp⟩, fun k hk => by rcases hk with hk | hk; exact hk.elim; exact hk.2⟩, ((Touch.refl _ _).alloc _).alloc _⟩

theorem names_find' {w : World} {b : Nat} {xs : List ByteArray} {most : Int} {S : Nat → Prop} (h : Names w b S xs most) (s : ByteArray) (hs : s.size ≤ maxLen) :
    Calls Try.prog 13 #[.pointer (some ⟨b, 0, none⟩), .string s] w fun e w' => e = .returned (.int .i64 (place xs s)) ∧ w = w' := by
  obtain ⟨⟨m, v, hi, hm, hv⟩, hb, hlt⟩ := h
  exact names_find hi s hs
theorem names_len' {w : World} {b : Nat} {xs : List ByteArray} {most : Int} {S : Nat → Prop} (h : Names w b S xs most) :
    Calls Try.prog 16 #[.pointer (some ⟨b, 0, none⟩)] w fun e w' => e = .returned (.int .i64 xs.length) ∧ w = w' := by
  obtain ⟨⟨m, v, hi, hm, hv⟩, hb, hlt⟩ := h
  exact names_len hi

/-- Text -/
theorem names_text {w : World} {b : Nat} {xs : List ByteArray} {most : Int} {S : Nat → Prop} (h : Names w b S xs most) (k : Nat) (x : ByteArray) (hx : xs[k]? = some x) :
    Calls Try.prog 12 #[.pointer (some ⟨b, 0, none⟩), .int .i64 k] w fun e w' => e = .returned (.tuple #[.string x, .bool true]) ∧ w = w' := by
  obtain ⟨⟨m, v, hi, hm, hv⟩, hb, hlt⟩ := id h
  have c0 := hi.blk.cell 0
  simp at c0
  obtain ⟨A, n, c, rfl, hn, hcm, hl, hr⟩ := Rd.of_own hi.row
  obtain rfl : n = xs.length := by simpa using hl.symm
  have hk := (List.getElem?_eq_some_iff.1 hx).1
  obtain ⟨b', off, rfl, _, hc⟩ := hr (by omega)
  have hcx := hc k (.string x) (by simp [hx])
  have hsm := hi.small
  clear hr hc hx hl
  go_enter Try.func12, Try.ntmps12
  go_wp2_with (go_at_call 16; refine (names_len' h).mono ?_; rintro e w' ⟨rfl, rfl⟩)
  go_ret2
  exact ⟨rfl, rfl⟩
theorem names_text_no {w : World} {b : Nat} {xs : List ByteArray} {most : Int} {S : Nat → Prop} (h : Names w b S xs most) (i : Int) (hi : i < 0 ∨ xs.length ≤ i) :
    Calls Try.prog 12 #[.pointer (some ⟨b, 0, none⟩), .int .i64 i] w fun e w' => e = .returned (.tuple #[.string ByteArray.empty, .bool false]) ∧ w = w' := by
  by_cases h0 : i < 0
  · go_enter Try.func12, Try.ntmps12
    go_wp2_with (go_at_call 16; refine (names_len' h).mono ?_; rintro e w' ⟨rfl, rfl⟩)
    go_ret2
    exact ⟨rfl, rfl⟩
  · have h1 : (xs.length : Int) ≤ i := by omega
    clear hi
    go_enter Try.func12, Try.ntmps12
    go_wp2_with (go_at_call 16; refine (names_len' h).mono ?_; rintro e w' ⟨rfl, rfl⟩)
    go_ret2
    exact ⟨rfl, rfl⟩

/-- All -/
theorem names_all {w : World} {b : Nat} {xs : List ByteArray} {most : Int} {S : Nat → Prop} (h : Names w b S xs most) :
    Calls Try.prog 19 #[.pointer (some ⟨b, 0, none⟩)] w fun e w' => ∃ A c, e = .returned (.slice A xs.length c) ∧ w'.ownsRow w.heap.size 9 1 (.slice A xs.length c) xs.length (xs.map Value.string) ∧ Below w.heap.size w w' := by
  obtain ⟨⟨m, v, hi, hm, hv⟩, hb, hlt⟩ := id h
  have c0 := hi.blk.cell 0
  simp at c0
  have hsm := h.small
  obtain ⟨A, c, rfl, _⟩ := ownsRow_shape hi.row
  have hrd := Rd.of_own hi.row
  go_enter Try.func19, Try.ntmps19
  go_wp2_with (go_at_call 44; refine (clone_strs hrd (by omega)).mono ?_; rintro e w' ⟨A', c', rfl, hown, hbel⟩)
  go_ret
  exact ⟨A', c', rfl, hown, hbel⟩
end Go.Proofs.Ytighpdnodehdcaa

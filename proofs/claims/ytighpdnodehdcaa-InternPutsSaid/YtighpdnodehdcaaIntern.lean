/- Contracts of package intern (layer 4): New, Put, Find, Text, Len, All over one predicate 'IsNames'. -/
import Derived.Test.YtighpdnodehdcaaProg
import Derived.Test.YtighpdnodehdcaaBase
namespace Go.Proofs.Ytighpdnodehdcaa
open Go.RowKit
open Go.Maps (Keyed)

theorem Try.keyStr : Keyed Try.prog 9 := Maps.string_keyed Try.underlying9
theorem Try.zeroInt (w : World) : (zeroValue 3).run Try.prog w = .ok (.int .i64 0) w := by kernel_rfl
theorem Try.infoStr : (Try.prog.info? 9).map (fun i => (i.zero, i.size, i.bytes)) = some (some (.string ByteArray.empty), 1, 16) := by kernel_rfl

theorem Try.elemStr : Elem Try.prog 22 9 (.string ByteArray.empty) 1 16 := ⟨Try.underlying22, Try.infoStr, rfl, by decide⟩

/-- the datum of a key -/
def key (s : ByteArray) : Lit := .string s.data.toList
/-- a map that holds each name's number -/
structure NameMap (D : DataW Unit) (xs : List ByteArray) : Prop where
  isMap : Maps.IsMap D
  has : ∀ s, Maps.has D (key s) = true ↔ s ∈ xs
  at_ : ∀ (i : Nat) s, xs[i]? = some s → ∀ z, D.atKey (key s) z = .lit (.int .i64 i)
theorem key_inj {s t : ByteArray} (h : key s = key t) : s = t := by
  unfold key at h
  injection h with h
  exact bytes_ext (Array.toList_inj.1 h)
theorem NameMap.empty : NameMap (.map []) [] := ⟨Maps.isMap_empty, fun _ => by simp [Maps.has], fun _ _ h => by simp at h⟩
theorem NameMap.put {D : DataW Unit} {xs : List ByteArray} (h : NameMap D xs) {s : ByteArray} (hs : s ∉ xs) : NameMap (D.put (key s) (.lit (.int .i64 xs.length))) (xs ++ [s]) := by
  have hk : WideAt.IsKeyLit (key s) := by unfold key; simp [WideAt.IsKeyLit]
  refine ⟨h.isMap.put _ _, fun t => ?_, fun i t hi z => ?_⟩
  · by_cases e : t = s
    · subst e
      rw [Maps.has_put_same h.isMap hk]; simp
    · rw [Maps.has_put_other (fun c => e (key_inj c)), h.has]; simp [e]
  · by_cases e : t = s
    · subst e
      rw [Maps.atKey_put_same h.isMap hk]
      rw [List.getElem?_append] at hi
      split at hi
      · exact absurd (List.mem_of_getElem? hi) hs
      · rename_i hlt
        rw [List.getElem?_singleton] at hi
        split at hi
        · rw [show i = xs.length by omega]
        · cases hi
    · rw [Maps.atKey_put_other (fun c => e (key_inj c))]
      rw [List.getElem?_append] at hi
      split at hi
      · exact h.at_ i t hi z
      · rw [List.getElem?_singleton] at hi
        split at hi
        · injection hi with hi; exact absurd hi.symm e
        · cases hi

/-- a collection of names: its struct b, its map m, its list v -/
structure IsNames (w : World) (b m : Nat) (v : Value) (xs : List ByteArray) (most : Int) : Prop where
  blk : Blk w b 65 #[v, .map (some m), .int .i64 most]
  row : w.ownsRow 0 9 1 v xs.length (xs.map Value.string)
  map : ∃ D, w.ownsMap Try.prog 9 (plainElem (H := Unit) Try.prog 3) m xs.length D ∧ NameMap D xs
  nodup : xs.Nodup
  small : xs.length ≤ most ∧ 0 ≤ most ∧ most ≤ 4096
  fits : ∀ s ∈ xs, s.size ≤ 24


theorem names_new (m : Int) (w : World) :
    Calls Try.prog 10 #[.int .i64 m] w fun e w' => e = .returned (.pointer (some ⟨w.heap.size + 1, 0, none⟩)) ∧
      w' = (w.alloc (.map #[] 0)).alloc (.cells #[.slice none 0 0, .map (some w.heap.size), .int .i64 (min (max m 0) 4096)] 65) := by
  have hmm := @run_makeMap Try.prog
  go_enter Try.func10, Try.ntmps10
  go_wp2
  all_goals
    go_ret
    exact ⟨rfl, by first | rw [show min (max m 0) 4096 = 0 by omega] | rw [show min (max m 0) 4096 = 4096 by omega] | rw [show min (max m 0) 4096 = m by omega]⟩

theorem names_find_nil (s : ByteArray) (w : World) :
    Calls Try.prog 13 #[.pointer none, .string s] w fun e w' => e = .returned (.int .i64 (-1)) ∧ w = w' := by
  go_enter Try.func13, Try.ntmps13
  go_wp2
  go_ret
  exact ⟨rfl, rfl⟩

theorem names_len_nil (w : World) :
    Calls Try.prog 16 #[.pointer none] w fun e w' => e = .returned (.int .i64 0) ∧ w = w' := by
  go_enter Try.func16, Try.ntmps16
  go_wp2
  go_ret
  exact ⟨rfl, rfl⟩

theorem names_all_nil (w : World) :
    Calls Try.prog 19 #[.pointer none] w fun e w' => e = .returned (.slice none 0 0) ∧ w = w' := by
  go_enter Try.func19, Try.ntmps19
  go_wp2
  go_ret
  exact ⟨rfl, rfl⟩

theorem names_put_nil (s : ByteArray) (w : World) :
    Calls Try.prog 11 #[.pointer none, .string s] w fun e w' => e = .returned (.tuple #[.int .i64 0, .int .i64 13]) ∧ w = w' := by
  go_enter Try.func11, Try.ntmps11
  go_wp2
  go_ret2
  exact ⟨rfl, rfl⟩

theorem names_text_nil (i : Int) (w : World) :
    Calls Try.prog 12 #[.pointer none, .int .i64 i] w fun e w' => e = .returned (.tuple #[.string ByteArray.empty, .bool false]) ∧ w = w' := by
  by_cases h : i < 0
  all_goals
    go_enter Try.func12, Try.ntmps12
    go_wp2_with (go_at_call 16; refine (names_len_nil _).mono ?_; rintro e w' ⟨rfl, rfl⟩)
    go_ret2
    exact ⟨rfl, rfl⟩

/-- Len -/
theorem names_len {b m : Nat} {v : Value} {xs : List ByteArray} {most : Int} {w : World} (h : IsNames w b m v xs most) :
    Calls Try.prog 16 #[.pointer (some ⟨b, 0, none⟩)] w fun e w' => e = .returned (.int .i64 xs.length) ∧ w = w' := by
  have h0 := h.blk.cell 0
  obtain ⟨A, n, c, rfl, hn, hm, hl, _⟩ := Rd.of_own h.row
  obtain rfl : n = xs.length := by simpa using hl.symm
  simp at h0
  go_enter Try.func16, Try.ntmps16
  go_wp2
  go_ret
  exact ⟨rfl, rfl⟩

/-- Find -/
theorem names_find {b m : Nat} {v : Value} {xs : List ByteArray} {most : Int} {w : World} (h : IsNames w b m v xs most) (s : ByteArray) (hs : s.size ≤ maxLen) :
    Calls Try.prog 13 #[.pointer (some ⟨b, 0, none⟩), .string s] w fun e w' => e = .returned (.int .i64 (place xs s)) ∧ w = w' := by
  have h1 := h.blk.cell 1
  simp at h1
  obtain ⟨D, hown, hD⟩ := h.map
  have hkey : keyOf Try.prog 9 (.string s) = some (key s) := Go.WideMaps.keyOf_string_mk Try.underlying9 hs
  have hh := hD.has s
  by_cases hin : s ∈ xs
  · obtain ⟨i, hi, _, hp⟩ := place_some hin
    have HAT := hide (hD.at_ i s hi)
    have hyes : Maps.has D (key s) = true := hh.2 hin
    have HP := hide hp
    clear hh hp h hi
    go_enter Try.func13, Try.ntmps13
    go_wp2_with (at_lookup; refine wpList_lookup_own_ok_int _ rfl _ _ 63 rfl 9 3 .i64 Try.keyStr Try.underlying63 Try.underlying3 (Try.zeroInt _) _ _ D rfl hown _ _ rfl hkey ?_; intro c hat hwc)
    go_ret
    rw [HAT.out] at hat
    injection hat with hat
    injection hat with _ hat
    exact ⟨ret_int (by rw [HP.out, hat]), rfl⟩
  · have hno : Maps.has D (key s) = false := by simpa [hin] using hh
    have HP := hide (place_not hin)
    clear hh h
    go_enter Try.func13, Try.ntmps13
    go_wp2_with (at_lookup; refine wpList_lookup_own_ok_int _ rfl _ _ 63 rfl 9 3 .i64 Try.keyStr Try.underlying63 Try.underlying3 (Try.zeroInt _) _ _ D rfl hown _ _ rfl hkey ?_; intro c hat hwc)
    go_ret
    exact ⟨ret_int (by rw [HP.out]), rfl⟩

/-- Put: too long -/
theorem names_put_long {b : Nat} {w : World} (s : ByteArray) (hl : s.size = 0 ∨ 24 < s.size) :
    Calls Try.prog 11 #[.pointer (some ⟨b, 0, none⟩), .string s] w fun e w' => e = .returned (.tuple #[.int .i64 0, .int .i64 5]) ∧ w = w' := by
  by_cases h0 : s.size = 0
  · have h1 : s.toList = [] := (toList_nil s).2 h0
    have h2 : s.toList.isEmpty = true := by rw [h1]; rfl
    clear hl h0
    go_enter Try.func11, Try.ntmps11
    go_wp2
    go_ret2
    exact ⟨rfl, rfl⟩
  · have h2 : s.toList.isEmpty = false := by rw [isEmpty_size]; simpa using h0
    have h1 : ¬ s.toList = [] := fun e => h0 ((toList_nil s).1 e)
    have h3 : (24 : Int) < (s.size : Int) := by omega
    clear hl h0
    go_enter Try.func11, Try.ntmps11
    go_wp2
    go_ret2
    exact ⟨rfl, rfl⟩

/-- Put: there already -/
theorem names_put_there {b m : Nat} {v : Value} {xs : List ByteArray} {most : Int} {w : World} (h : IsNames w b m v xs most) (s : ByteArray) (hin : s ∈ xs) (hpos : 0 < s.size) (h24 : s.size ≤ 24) :
    Calls Try.prog 11 #[.pointer (some ⟨b, 0, none⟩), .string s] w fun e w' => e = .returned (.tuple #[.int .i64 (place xs s), .int .i64 0]) ∧ w = w' := by
  have c1 := h.blk.cell 1
  simp at c1
  obtain ⟨D, hown, hD⟩ := h.map
  have hkey : keyOf Try.prog 9 (.string s) = some (key s) := Go.WideMaps.keyOf_string_mk Try.underlying9 (by unfold maxLen; omega)
  obtain ⟨i, hi, _, hp⟩ := place_some hin
  have HAT := hide (hD.at_ i s hi)
  have hyes : Maps.has D (key s) = true := (hD.has s).2 hin
  have HP := hide hp
  have h0 : ¬ s.size = 0 := by omega
  have h2 : s.toList.isEmpty = false := by rw [isEmpty_size]; simpa using h0
  have h1 : ¬ s.toList = [] := fun e => h0 ((toList_nil s).1 e)
  have h3 : ¬ (24 : Int) < (s.size : Int) := by omega
  clear hp h hi h0
  go_enter Try.func11, Try.ntmps11
  go_wp2_with (at_lookup; refine wpList_lookup_own_ok_int _ rfl _ _ 63 rfl 9 3 .i64 Try.keyStr Try.underlying63 Try.underlying3 (Try.zeroInt _) _ _ D rfl hown _ _ rfl hkey ?_; intro c hat hwc)
  go_ret2
  rw [HAT.out] at hat
  injection hat with hat
  injection hat with _ hat
  exact ⟨ret_eq (by rw [HP.out, hat]; rfl), rfl⟩

/-- Put: full -/
theorem names_put_full {b m : Nat} {v : Value} {xs : List ByteArray} {most : Int} {w : World} (h : IsNames w b m v xs most) (s : ByteArray) (hin : s ∉ xs) (hpos : 0 < s.size) (h24 : s.size ≤ 24) (hfull : most ≤ xs.length) :
    Calls Try.prog 11 #[.pointer (some ⟨b, 0, none⟩), .string s] w fun e w' => e = .returned (.tuple #[.int .i64 0, .int .i64 14]) ∧ Below w.heap.size w w' := by
  have c0 := h.blk.cell 0
  have c1 := h.blk.cell 1
  have c2 := h.blk.cell 2
  simp at c0 c1 c2
  obtain ⟨D, hown, hD⟩ := h.map
  have hkey : keyOf Try.prog 9 (.string s) = some (key s) := Go.WideMaps.keyOf_string_mk Try.underlying9 (by unfold maxLen; omega)
  have hno : Maps.has D (key s) = false := by simpa [hin] using hD.has s
  have h0 : ¬ s.size = 0 := by omega
  have h2 : s.toList.isEmpty = false := by rw [isEmpty_size]; simpa using h0
  have h1 : ¬ s.toList = [] := fun e => h0 ((toList_nil s).1 e)
  have h3 : ¬ (24 : Int) < (s.size : Int) := by omega
  obtain ⟨A, n, c, rfl, hn, hm, hl, _⟩ := Rd.of_own h.row
  obtain rfl : n = xs.length := by simpa using hl.symm
  clear h h0 hl
  go_enter Try.func11, Try.ntmps11
  go_wp2_with (at_lookup; refine wpList_lookup_own_ok_int _ rfl _ _ 63 rfl 9 3 .i64 Try.keyStr Try.underlying63 Try.underlying3 (Try.zeroInt _) _ _ D rfl hown _ _ rfl hkey ?_; intro c' hat hwc)
  go_quiet (fail)
  go_wp2
  go_ret2
  exact ⟨rfl, rfl, rfl, rfl, Nat.le_refl _, fun _ _ => rfl⟩

/-- Put: new -/
theorem names_put_new {b m : Nat} {v : Value} {xs : List ByteArray} {most : Int} {w : World} (h : IsNames w b m v xs most) (s : ByteArray) (hin : s ∉ xs) (hpos : 0 < s.size) (h24 : s.size ≤ 24) (hroom : xs.length < most) :
    Calls Try.prog 11 #[.pointer (some ⟨b, 0, none⟩), .string s] w fun e w' => e = .returned (.tuple #[.int .i64 xs.length, .int .i64 0]) ∧
      ∃ v', IsNames w' b m v' (xs ++ [s]) most ∧ Touch (fun k => k = b ∨ k = m ∨ v.ownBlock = some k) w w' ∧ (∀ k, v'.ownBlock = some k → v.ownBlock = some k ∨ w.heap.size ≤ k) := by
  have c0 := h.blk.cell 0
  have c1 := h.blk.cell 1
  have c2 := h.blk.cell 2
  simp at c0 c1 c2
  obtain ⟨D, hown, hD⟩ := h.map
  have hkey : keyOf Try.prog 9 (.string s) = some (key s) := Go.WideMaps.keyOf_string_mk Try.underlying9 (by unfold maxLen; omega)
  have hno : Maps.has D (key s) = false := by simpa [hin] using hD.has s
  have h0 : ¬ s.size = 0 := by omega
  have h2 : s.toList.isEmpty = false := by rw [isEmpty_size]; simpa using h0
  have h1 : ¬ s.toList = [] := fun e => h0 ((toList_nil s).1 e)
  have h3 : ¬ (24 : Int) < (s.size : Int) := by omega
  have hsm := h.small
  obtain ⟨A, n, c, rfl, hn, hm, hl, _⟩ := Rd.of_own h.row
  obtain rfl : n = xs.length := by simpa using hl.symm
  clear h0 hl
  go_enter Try.func11, Try.ntmps11
  go_wp2_with (at_lookup; refine wpList_lookup_own_ok_int _ rfl _ _ 63 rfl 9 3 .i64 Try.keyStr Try.underlying63 Try.underlying3 (Try.zeroInt _) _ _ D rfl hown _ _ rfl hkey ?_; intro c' hat hwc)
  go_quiet (fail)
  go_wp2
  refine region_tail 10 (by kernel_rfl) (by kernel_rfl) ?_
  simp only [List.take_succ_cons, List.take_zero, List.drop_succ_cons, List.drop_zero]
  repeat still_step
  refine wpStill_nil ?_
  have hwf : (Lit.int .i64 (xs.length : Int)).wf = true := WalkArith.wf_i64 (by omega)
  refine wpList_mapUpdate_own _ rfl _ _ _ 63 rfl 9 3 Try.keyStr Try.underlying63 _ m xs.length D rfl (ownsMap_drewN hown (nq + 1)) (by unfold maxLen; omega) _ _ _ rfl rfl hkey _ [] (plainElem_int Try.underlying3 hwf) ?_
  intro w1 hown1 hg1
  have hb1 := (h.blk.drewN (nq + 1)).grown hg1 (by have := h.blk.ne_map hown; simpa using fun e => this e.symm)
  have hr1 := (ownsRow_drewN h.row (nq + 1)).kept hg1 (.inr (own_ne_map h.row hown))
  have d0 := hb1.cell 0
  have f0 := hb1.frozen 0
  simp at d0
  have hne := h.blk.ne_own h.row (by decide)
  go_wp2_with (at_builtin; refine wp_append _ rfl (.tmp 54) (.tmp 56) _ rfl Try.elemStr 0 _ _ _ rfl (hr1.alloc _) _ _ [.string s] 1 rfl rfl (Rd.one [.string s] 1 rfl) (by simp [Value.oneCell']) (by unfold maxLen; omega) (by omega) (Nat.zero_le _) ?_)
  intro A2 c2' w2 hown2 hg2 hbk
  have hb2 := (hb1.alloc (.cells #[.string s] 9)).grown hg2 (fun e => hne e.symm)
  have d0' := hb2.cell 0
  have f0' := hb2.frozen 0
  simp at d0'
  go_wp2
  go_ret2
  have hm1 : (Value.slice A xs.length c).ownBlock ≠ some m := own_ne_map h.row hown
  have hbm := h.blk.ne_map hown
  have hblt := h.blk.lt
  have hmlt := hown.lt
  have hsz : w.heap.size ≤ w1.heap.size := hg1.size
  have hb3 := hb2.put 0 (.slice A2 (xs.length + 1) c2')
  have hne2 : (Value.slice A2 (xs.length + 1) c2').ownBlock ≠ some b := by
    rcases hbk with e | e
    · rw [e]; exact hne
    · rw [e]; simp; omega
  have hT : Touch (fun k => k = b ∨ k = m ∨ (Value.slice A xs.length c).ownBlock = some k) w (w2.setCell ⟨b, 0, none⟩ (.slice A2 (xs.length + 1) c2')) :=
    ((((Touch.refl _ w).drewN (nq + 1)).grown hg1 (fun k e _ => .inr (.inl (by injection e with e; exact e.symm)))).alloc _ |>.grown hg2 (fun k e _ => .inr (.inr e))).setCell (fun _ => .inl rfl) _
  refine ⟨rfl, .slice A2 (xs.length + 1) c2', ⟨by simpa using hb3, ?_, ?_, ?_, by simp; omega, ?_⟩, hT, fun k hk => ?_⟩
  · refine Touch.own (S := fun k => k = b) ((Touch.refl (fun k => k = b) w2).setCell (p := ⟨b, 0, none⟩) (fun _ => rfl) _) ?_ (fun k hk e => hne2 (by rw [hk, e]))
    simpa using hown2
  · refine ⟨_, ?_, hD.put hin⟩
    have h1 := (hown1.alloc (.cells #[.string s] 9)).kept hg2 (fun e => hm1 e.symm)
    have h2 := h1.setCell (a := ⟨b, 0, none⟩) hbm (.slice A2 (xs.length + 1) c2')
    simpa using h2
  · rw [List.nodup_append]
    exact ⟨h.nodup, by simp, by simp; rintro a ha rfl; exact hin ha⟩
  · intro x hx
    rcases List.mem_append.1 hx with hx | hx
    · exact h.fits x hx
    · simp at hx; subst hx; exact h24
  · rcases hbk with e | e
    · rw [e] at hk; exact .inl hk
    · rw [e] at hk; injection hk with hk; right; omega
end Go.Proofs.Ytighpdnodehdcaa

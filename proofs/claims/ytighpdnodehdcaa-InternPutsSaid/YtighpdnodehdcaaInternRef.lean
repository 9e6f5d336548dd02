/- The reference's names, and 'awake' of layer 4. -/
import Derived.Test.YtighpdnodehdcaaIntern2
namespace Go.Proofs.Ytighpdnodehdcaa
open Go.RowKit

/-- the reference's collection -/
structure RefNames (w : World) (b : Nat) (S : Nat → Prop) (xs : List ByteArray) (most : Int) : Prop where
  is : ∃ v, Blk w b 37 #[v, .int .i64 most] ∧ w.ownsRow 0 9 1 v xs.length (xs.map Value.string) ∧ ∀ k, v.ownBlock = some k → S k
  head : S b
  lt : ∀ k, S k → k < w.heap.size
  small : xs.length ≤ most ∧ 0 ≤ most ∧ most ≤ 4096
theorem RefNames.touch {w w' : World} {b : Nat} {xs : List ByteArray} {most : Int} {S T : Nat → Prop} (h : RefNames w b S xs most) (ht : Touch T w w') (hS : ∀ k, S k → ¬ T k) : RefNames w' b S xs most := by
  obtain ⟨⟨v, hi, hr, hv⟩, hb, hlt, hs⟩ := h
  exact ⟨⟨v, hi.touch ht (hS _ hb), ht.own hr (fun k hk => hS _ (hv k hk)), hv⟩, hb, fun k hk => Nat.lt_of_lt_of_le (hlt k hk) ht.size, hs⟩
def RefPost (w : World) (b : Nat) (S : Nat → Prop) (ys : List ByteArray) (most : Int) (r : Value) (e : Ending) (w' : World) : Prop := e = .returned r ∧ RefNames w' b (New S w w') ys most ∧ Touch S w w'

theorem ref_new (m : Int) (w : World) :
    Calls Try.prog 14 #[.int .i64 m] w (RefPost w w.heap.size (fun _ => False) [] (min (max m 0) 4096) (.pointer (some ⟨w.heap.size, 0, none⟩))) := by
  have hpost : ∀ q, min (max m 0) 4096 = q → RefPost w w.heap.size (fun _ => False) [] (min (max m 0) 4096) (.pointer (some ⟨w.heap.size, 0, none⟩)) (.returned (.pointer (some ⟨w.heap.size, 0, none⟩)))
      (w.alloc (.cells #[.slice none 0 0, .int .i64 q] 37)) := by
    rintro q rfl
    exact ⟨rfl, ⟨⟨.slice none 0 0, Blk.new _ _ _, World.ownsRow_nil _ _ _ _, by simp [Value.ownBlock]⟩, .inr ⟨Nat.le_refl _, by simp⟩, fun k hk => by rcases hk with hk | hk; exact hk.elim; exact hk.2, by simp; omega⟩, (Touch.refl _ _).alloc _⟩
  have HP := hide hpost
  clear hpost
  go_enter Try.func14, Try.ntmps14
  go_wp2
  all_goals
    go_ret
    exact HP.out _ (by omega)

theorem ref_put {w : World} {b : Nat} {xs : List ByteArray} {most : Int} {S : Nat → Prop} (h : RefNames w b S xs most) (s : ByteArray) {a c : Int} {ys : List ByteArray} (ho : putOut xs most s = (a, c, ys)) :
    Calls Try.prog 15 #[.pointer (some ⟨b, 0, none⟩), .string s] w (RefPost w b S ys most (.tuple #[.int .i64 a, .int .i64 c])) := by
  have stay : ∀ w' : World, Touch (fun _ => False) w w' → RefNames w' b (New S w w') xs most := fun w' ht => by
    obtain ⟨⟨v, hi, hr, hv⟩, hb, hlt, hs⟩ := h.touch ht (fun _ _ hf => hf)
    exact ⟨⟨v, hi, hr, fun k hk => .inl (hv k hk)⟩, .inl hb, fun k hk => by rcases hk with hk | hk; exact hlt k hk; exact hk.2, hs⟩
  have HS := hide stay
  clear stay
  have hh := hide h
  obtain ⟨⟨v, hi, hr, hv⟩, hb, hlt, hs⟩ := h
  have c0 := hi.cell 0
  have c1 := hi.cell 1
  have f0 := hi.frozen 0
  simp at c0 c1
  obtain ⟨A, n, rfl, hn, hcm⟩ := ownsRow_shape hr
  have hrd := Rd.of_own hr
  unfold putOut at ho
  by_cases h1 : s.size = 0 ∨ 24 < s.size
  · rw [if_pos h1] at ho
    obtain ⟨rfl, rfl, rfl⟩ : 0 = a ∧ 5 = c ∧ xs = ys := by simpa using ho
    clear ho
    by_cases h0 : s.size = 0
    · have h2 : s.toList = [] := (toList_nil s).2 h0
      have h3 : s.toList.isEmpty = true := by rw [h2]; rfl
      clear h1 h0
      go_enter Try.func15, Try.ntmps15
      go_wp2_with fail
      go_ret2
      exact ⟨rfl, HS.out _ (Touch.refl _ _), Touch.refl _ _⟩
    · have h3 : s.toList.isEmpty = false := by rw [isEmpty_size]; simpa using h0
      have h2 : ¬ s.toList = [] := fun e => h0 ((toList_nil s).1 e)
      have h4 : (24 : Int) < (s.size : Int) := by omega
      clear h1 h0
      go_enter Try.func15, Try.ntmps15
      go_wp2_with fail
      go_ret2
      exact ⟨rfl, HS.out _ (Touch.refl _ _), Touch.refl _ _⟩
  · rw [if_neg h1] at ho
    have h0 : ¬ s.size = 0 := by omega
    have h3 : s.toList.isEmpty = false := by rw [isEmpty_size]; simpa using h0
    have h5 : ¬ s.toList = [] := fun e => h0 ((toList_nil s).1 e)
    have h4 : ¬ (24 : Int) < (s.size : Int) := by omega
    have hpl := place_lt (xs := xs) (s := s)
    clear h0
    by_cases h2 : s ∈ xs
    · rw [if_pos h2] at ho
      obtain ⟨rfl, rfl, rfl⟩ : place xs s = a ∧ 0 = c ∧ xs = ys := by simpa using ho
      have hp := place_mem.2 h2
      clear h1 ho
      go_enter Try.func15, Try.ntmps15
      go_wp2_with (go_at_call 17; refine (ref_place hrd s).mono ?_; rintro e w' ⟨rfl, rfl⟩)
      go_ret2
      exact ⟨rfl, HS.out _ (Touch.refl _ _), Touch.refl _ _⟩
    · rw [if_neg h2] at ho
      have hp : ¬ 0 ≤ place xs s := fun e => h2 (place_mem.1 e)
      by_cases h6 : most ≤ xs.length
      · rw [if_pos h6] at ho
        obtain ⟨rfl, rfl, rfl⟩ : 0 = a ∧ 14 = c ∧ xs = ys := by simpa using ho
        clear h1 ho
        go_enter Try.func15, Try.ntmps15
        go_wp2_with (go_at_call 17; refine (ref_place hrd s).mono ?_; rintro e w' ⟨rfl, rfl⟩)
        go_quiet (fail)
        go_wp2
        go_ret2
        exact ⟨rfl, HS.out _ ((Touch.refl _ _).drewN _), (Touch.refl _ _).drewN _⟩
      · rw [if_neg h6] at ho
        obtain ⟨rfl, rfl, rfl⟩ : (xs.length : Int) = a ∧ 0 = c ∧ xs ++ [s] = ys := by simpa using ho
        have hne := hi.ne_own hr (by decide)
        have hblt := hi.lt
        have cq := cell_q c0
        clear h1 ho
        go_enter Try.func15, Try.ntmps15
        go_wp2_with (go_at_call 17; refine (ref_place hrd s).mono ?_; rintro e w' ⟨rfl, rfl⟩)
        go_quiet (fail)
        go_wp2_with (at_builtin; refine wp_append _ rfl (.tmp 34) (.tmp 38) _ rfl Try.elemStr w.heap.size _ 0 [] rfl (World.ownsRow_made (w.drewN nq) #[] 0 (Nat.le_refl _) (by decide) rfl) _ _ (xs.map Value.string) xs.length rfl (by simp) (hrd.touch (((Touch.refl (fun _ => False) w).drewN nq).alloc _) (fun _ _ hf => hf)) (by intro u hu; obtain ⟨x, _, rfl⟩ := List.mem_map.1 hu; rfl) (by unfold maxLen; omega) (by omega) (by simp) ?_)
        intro A2 c2 w2 hown2 hg2 hbk2
        replace hown2 : w2.ownsRow w.heap.size 9 1 (.slice A2 xs.length c2) xs.length (xs.map Value.string) := by simpa using hown2
        have hb2 : Blk w2 b 37 #[.slice A xs.length n, .int .i64 most] := ((hi.drewN nq).alloc (.cells #[] 9)).grown hg2 (by simp [Value.ownBlock]; omega)
        have d0 := hb2.cell 0
        have g0 := hb2.frozen 0
        simp at d0
        go_wp2_with (at_builtin; refine wp_append _ rfl (.tmp 39) (.tmp 41) _ rfl Try.elemStr w.heap.size _ xs.length (xs.map Value.string) rfl (hown2.alloc _) _ _ [.string s] 1 rfl rfl (Rd.one [.string s] 1 rfl) (by simp [Value.oneCell']) (by unfold maxLen; omega) (by omega) (by simp; have := hg2.size; simp at this; omega) ?_)
        intro A3 c3 w3 hown3 hg3 hbk3
        have hb3 := (hb2.alloc (.cells #[.string s] 9)).grown hg3 (fun e => by have := (hown2.lt b e.symm).1; omega)
        have d1 := hb3.cell 0
        have g1 := hb3.frozen 0
        simp at d1
        have hs2 : w.heap.size + 1 ≤ w2.heap.size := by have := hg2.size; simpa using this
        have hs3 : w2.heap.size + 1 ≤ w3.heap.size := by have := hg3.size; simpa using this
        go_wp2
        go_ret2
        have hb4 := hb3.put 0 (.slice A3 (xs.length + 1) c3)
        have hT : Touch S w (w3.setCell ⟨b, 0, none⟩ (.slice A3 (xs.length + 1) c3)) :=
          ((((((Touch.refl S w).drewN nq).alloc _).grown hg2 (fun k e h => by simp [Value.ownBlock] at e; omega)).alloc _).grown hg3 (fun k e h => by have := (hown2.lt k e).1; omega)).setCell (fun _ => hb) _
        refine ⟨rfl, ⟨⟨.slice A3 (xs.length + 1) c3, by simpa using hb4, ?_, fun k hk => .inr ⟨(hown3.lt k hk).1, by simpa using (hown3.lt k hk).2⟩⟩, .inl hb, fun k hk => ?_, by simp; omega⟩, hT⟩
        · have h1 := Touch.own (S := fun k => k = b) ((Touch.refl (fun k => k = b) w3).setCell (p := ⟨b, 0, none⟩) (fun _ => rfl) (.slice A3 (xs.length + 1) c3)) hown3 (fun k hk e => by have := (hown3.lt k hk).1; omega)
          simpa using ownsRow_base h1 (fun _ _ => Nat.zero_le _)
        · rcases hk with hk | hk
          · exact Nat.lt_of_lt_of_le (hlt k hk) hT.size
          · exact hk.2

/-- awake -/
theorem intern_awake (w : World) : Calls Try.prog 9 #[] w fun e w' => e = .returned (.bool true) ∧ Below w.heap.size w w' := by
  have p1 : putOut [] (min (max 2 0) 4096) ⟨#[97]⟩ = (0, 0, [⟨#[97]⟩]) := by decide
  have p2 : putOut [⟨#[97]⟩] (min (max 2 0) 4096) ⟨#[98]⟩ = (1, 0, [⟨#[97]⟩, ⟨#[98]⟩]) := by decide
  have p3 : putOut [⟨#[97]⟩, ⟨#[98]⟩] (min (max 2 0) 4096) ⟨#[99]⟩ = (0, 14, [⟨#[97]⟩, ⟨#[98]⟩]) := by decide
  have p4 : place [⟨#[97]⟩, ⟨#[98]⟩] ⟨#[98]⟩ = 1 := by decide
  go_enter Try.func9, Try.ntmps9
  go_wp2_with fail
  refine (names_new' 2 _).mono ?_
  rintro e w1 ⟨rfl, n1, t1⟩
  go_wp2_with fail
  refine (names_put n1 ⟨#[97]⟩ p1).mono ?_
  rintro e w2 ⟨rfl, n2, t2⟩
  go_wp2_with fail
  refine (names_put n2 ⟨#[98]⟩ p2).mono ?_
  rintro e w3 ⟨rfl, n3, t3⟩
  go_wp2_with fail
  refine (names_put n3 ⟨#[99]⟩ p3).mono ?_
  rintro e w4 ⟨rfl, n4, t4⟩
  go_wp2_with fail
  refine (names_find' n4 ⟨#[98]⟩ (by decide)).mono ?_
  rintro e w' ⟨rfl, rfl⟩
  go_wp2_with fail
  refine (names_len' n4).mono ?_
  rintro e w' ⟨rfl, rfl⟩
  go_wp2_with fail
  go_ret
  refine ⟨rfl, ?_⟩
  have z1 := t1.size
  have z2 := t2.size
  have z3 := t3.size
  have h2 : Touch (fun _ => False) w w2 := t1.trans t2 (fun k hk h => by rcases h with h | h; exact h; omega)
  have h3 : Touch (fun _ => False) w w3 := h2.trans t3 (fun k hk h => by rcases h with (h | h) | h; exact h; omega; omega)
  have h4 : Touch (fun _ => False) w w4 := h3.trans t4 (fun k hk h => by rcases h with ((h | h) | h) | h; exact h; omega; omega; omega)
  exact h4.below (fun _ _ _ hf => hf) (Nat.le_refl _)
end Go.Proofs.Ytighpdnodehdcaa

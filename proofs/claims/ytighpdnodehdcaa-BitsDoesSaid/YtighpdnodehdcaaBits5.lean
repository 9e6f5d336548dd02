/- Contracts of package bits, part 5: List, Count, Same, Twin. -/
import Derived.Test.YtighpdnodehdcaaBits4
namespace Go.Proofs.Ytighpdnodehdcaa
set_option linter.unusedVariables false
open Go.RowKit

theorem Try.infoInt : (Try.prog.info? 3).map (fun i => (i.zero, i.size, i.bytes)) = some (some (.int .i64 0), 1, 8) := by kernel_rfl
theorem Try.elemInt : Elem Try.prog 43 3 (.int .i64 0) 1 8 := ⟨Try.underlying43, Try.infoInt, rfl, by decide⟩

abbrev I64 (n : Nat) : Value := .int .i64 (n : Int)
/-- the numbers below k, rising -/
def below (f : Nat → Bool) (k : Nat) : List Nat := (List.range k).filter f
theorem below_succ (f : Nat → Bool) (k : Nat) : below f (k + 1) = below f k ++ (if f k then [k] else []) := by
  unfold below
  rw [List.range_succ, List.filter_append]
  cases h : f k <;> simp [h]
theorem below_skip {f : Nat → Bool} {k j : Nat} (hkj : k ≤ j) (h : ∀ i, k ≤ i → i < j → f i = false) : below f j = below f k := by
  induction j with
  | zero => rw [show k = 0 by omega]
  | succ j ih =>
    by_cases e : k = j + 1
    · rw [e]
    · rw [below_succ, h j (by omega) (by omega), ih (by omega) fun i h1 h2 => h i h1 (by omega)]; simp
theorem below_le (f : Nat → Bool) (k : Nat) : (below f k).length ≤ k := by
  have := List.length_filter_le f (List.range k)
  simpa [below] using this

theorem nextOf_cases (f : Nat → Bool) (n k : Nat) : (∃ j : Nat, nextOf f n k = (j : Int) ∧ k ≤ j ∧ j < n ∧ f j = true ∧ ∀ i : Nat, k ≤ i → i < j → f i = false) ∨ (nextOf f n k = -1 ∧ ∀ i : Nat, k ≤ i → i < n → f i = false) := by
  unfold nextOf
  rcases h : (List.range n).find? (fun j => decide (k ≤ j) && f j) with _ | j
  · right
    refine ⟨rfl, fun i h1 h2 => ?_⟩
    rw [List.find?_eq_none] at h
    have := h i (List.mem_range.2 h2)
    simpa [h1] using this
  · left
    have h' := h
    rw [List.find?_range_eq_some] at h'
    obtain ⟨h1, h2, h3⟩ := h'
    simp at h1
    refine ⟨j, rfl, h1.1, List.mem_range.1 h2, h1.2, fun i hi hij => ?_⟩
    have := h3 i hij
    simpa [hi] using this

def ListPost (w : World) (l : List Nat) (e : Ending) (w' : World) : Prop :=
  ∃ A c, e = .returned (.slice A l.length c) ∧ w'.ownsRow w.heap.size 3 1 (.slice A l.length c) l.length (l.map I64) ∧ Below w.heap.size w w'

theorem set_next_nil (i : Int) (w : World) : Calls Try.prog 35 #[.pointer none, .int .i64 i] w fun e w' => e = .returned (.int .i64 (-1)) ∧ w = w' := by
  go_enter Try.func35, Try.ntmps35
  go_wp2
  all_goals
    go_loop [5, 6] (fun v u => ∃ k : Nat, v = .int .i64 k) (fun v _ => 0)
    case atStart => exact ⟨i.toNat, by first | rw [show ((i.toNat : Nat) : Int) = i by omega] | rw [show i.toNat = 0 by omega]; rfl⟩
    case round =>
      obtain ⟨k, rfl⟩ := hrel
      go_wp2_with (go_at_call 39; refine (set_room_nil _).mono ?_; rintro e w' ⟨rfl, rfl⟩)
      go_ret
      exact ⟨rfl, rfl⟩
theorem set_list_nil (w : World) : Calls Try.prog 42 #[.pointer none] w fun e w' => e = .returned (.slice none 0 0) ∧ w = w' := by
  go_enter Try.func42, Try.ntmps42
  go_wp2_with (go_at_call 35; refine (set_next_nil _ _).mono ?_; rintro e w' ⟨rfl, rfl⟩)
  go_loop [3, 4] (fun v i => v = .slice none 0 0 ∧ i = .int .i64 (-1)) (fun _ _ => 0)
  case atStart => exact ⟨rfl, rfl⟩
  case round =>
    obtain ⟨rfl, rfl⟩ := hrel
    go_wp2
    go_ret
    exact ⟨rfl, rfl⟩

set_option maxHeartbeats 1000000 in
theorem set_list {w : World} {b n : Nat} {f : Nat → Bool} {S : Nat → Prop} (h : IsSet w b S n f) :
    Calls Try.prog 42 #[.pointer (some ⟨b, 0, none⟩)] w (ListPost w (below f n)) := by
  have hroom := h.room
  have hS := h.lt
  have H := hide h
  have HS := hide hS
  clear h hS
  go_enter Try.func42, Try.ntmps42
  go_wp2_with fail
  refine (set_next H.out 0 (by decide)).mono ?_
  rintro e w' ⟨rfl, rfl⟩
  go_wp2_with fail
  go_loopw [3, 4] (fun v i wr => ∃ (k : Nat) (A : Option Addr) (c : Nat), k ≤ n ∧ i = .int .i64 (nextOf f n k) ∧ v = .slice A (below f k).length c ∧ wr.ownsRow w.heap.size 3 1 (.slice A (below f k).length c) (below f k).length ((below f k).map I64) ∧ Below w.heap.size w wr) (fun _ i _ => if intOf i < 0 then 0 else n + 1 - (intOf i).toNat)
  case atStart => exact ⟨0, none, 0, Nat.zero_le _, rfl, rfl, World.ownsRow_nil _ _ _ _, Below.refl _ _⟩
  case round =>
    obtain ⟨k, A, c, hk, rfl, rfl, hown, hbel⟩ := hrel
    have hz := hbel.size
    rcases nextOf_cases f n k with ⟨j, hj, hkj, hjn, hfj, hno⟩ | ⟨hj, hno⟩
    · rw [hj]
      have hbs := below_skip hkj hno
      have hsucc := below_succ f j
      rw [hfj, hbs] at hsucc
      simp only [if_true] at hsucc
      have hle := below_le f k
      obtain ⟨l, hl⟩ : ∃ l, l = below f k := ⟨_, rfl⟩
      rw [← hl] at hown hsucc hle ⊢
      have HSU := hide hsucc
      have HBEL := hide hbel
      have h3 : IsSet wr b S n f := H.out.touch (Touch.of_size hbel (fun _ => False)) (fun _ _ hf => hf)
      clear hj hno hbs hfj hsucc hl hbel
      go_wp2_with (at_builtin; refine wp_append _ rfl (.tmp 13) (.tmp 15) _ rfl Try.elemInt w.heap.size _ l.length (l.map I64) rfl (hown.alloc _) _ _ [I64 j] 1 rfl rfl (Rd.one [I64 j] 1 rfl) (by simp [Value.oneCell']) (by unfold maxLen; omega) (by omega) (by simp; omega) ?_)
      intro A2 c2 w2 hown2 hg2 _
      have hb2 : Below w.heap.size w w2 := ((HBEL.out.alloc hz _).grown hg2 (by simp; omega) (fun q hq => (hown.lt q hq).1))
      have h4 := H.out.touch (Touch.of_size hb2 (fun _ => False)) (fun _ _ hf => hf)
      go_wp2_with fail
      refine (set_next h4 ((j : Int) + 1) (WalkArith.wf_i64 (by omega))).mono ?_
      rintro e w' ⟨rfl, rfl⟩
      go_wp2_with fail
      go_roundw
      case rel =>
        refine ⟨j + 1, A2, c2, by omega, ?_, ?_, ?_, hb2⟩
        · rfl
        · rw [HSU.out]; simp
        · rw [HSU.out]; simpa using hown2
      case measure =>
        rcases nextOf_cases f n (j + 1) with ⟨j', hj', h1, h2, _⟩ | ⟨hj', _⟩
        · have a1 : ¬ (j' : Int) < 0 := by omega
          have a2 : ¬ (j : Int) < 0 := by omega
          simp [intOf, hj', a1, a2]; omega
        · have a2 : ¬ (j : Int) < 0 := by omega
          simp [intOf, hj', a2]; omega
    · rw [hj]
      have hbs := below_skip hk hno
      have HB := hide hbs
      clear hno hbs hj
      go_wp2_with fail
      go_ret
      have fin : ListPost w (below f n) (.returned (.slice A (below f k).length c)) wr := ⟨A, c, by rw [HB.out], by rw [HB.out]; exact hown, hbel⟩
      exact fin

theorem set_count {w : World} {b n : Nat} {f : Nat → Bool} {S : Nat → Prop} (h : IsSet w b S n f) :
    Calls Try.prog 24 #[.pointer (some ⟨b, 0, none⟩)] w fun e w' => e = .returned (.int .i64 (below f n).length) ∧ Below w.heap.size w w' := by
  go_enter Try.func24, Try.ntmps24
  go_wp2_with (go_at_call 42; refine (set_list h).mono ?_; rintro e w' ⟨A, c, rfl, hown, hb⟩)
  go_ret
  exact ⟨rfl, hb⟩
theorem set_count_nil (w : World) :
    Calls Try.prog 24 #[.pointer none] w fun e w' => e = .returned (.int .i64 0) ∧ w = w' := by
  go_enter Try.func24, Try.ntmps24
  go_wp2_with (go_at_call 42; refine (set_list_nil _).mono ?_; rintro e w' ⟨rfl, rfl⟩)
  go_ret
  exact ⟨rfl, rfl⟩

abbrev RdI (w : World) (F : Nat → Prop) (v : Value) (xs : List Int) : Prop := Rd w F v 1 (xs.map (Value.int .i64))
theorem RdI.at_ {w : World} {F : Nat → Prop} {A : Option Addr} {n c : Nat} {xs : List Int} (h : RdI w F (.slice A n c) xs) : n = xs.length ∧ n ≤ c ∧ c ≤ maxLen ∧ (0 < n → ∃ b off, A = some ⟨b, off, none⟩ ∧ F b ∧ ∀ k x, xs[k]? = some x → w.cell? ⟨b, off + k, none⟩ = some (.int .i64 x)) := by
  obtain ⟨A', n', c', hv, h1, h2, hl, hr⟩ := h
  injection hv with e1 e2 e3
  subst e1 e2 e3
  refine ⟨by simpa using hl.symm, h1, h2, fun hn => ?_⟩
  obtain ⟨b, off, hA, hF, hc⟩ := hr hn
  exact ⟨b, off, hA, hF, fun k x hx => hc k _ (by simp [hx])⟩
theorem map_I64 (l : List Nat) : l.map I64 = (l.map (fun n : Nat => (n : Int))).map (Value.int .i64) := by simp

/-- slices.Equal at []int -/
theorem equal_ints {w : World} {F G : Nat → Prop} {v u : Value} {xs ys : List Int} (h : RdI w F v xs) (g : RdI w G u ys) :
    Calls Try.prog 46 #[v, u] w fun e w' => e = .returned (.bool (decide (xs = ys))) ∧ Below w.heap.size w w' := by
  obtain ⟨A, n, c, rfl, _⟩ := id h
  obtain ⟨B, m, d, rfl, _⟩ := id g
  obtain ⟨hn, hnc, hcm, hcell⟩ := h.at_
  obtain ⟨hm, hmd, hdm, hcell'⟩ := g.at_
  unfold maxLen at hcm hdm
  by_cases hnm : n = m
  · subst hnm
    have HN := hide hn
    have HM := hide hm
    clear hn hm
    go_enter Try.func46, Try.ntmps46
    go_wp2
    go_loopw [13] (fun i wr => ∃ k q : Nat, k ≤ n ∧ i = .int .i64 k ∧ wr = w.drewN q ∧ ∀ j : Nat, j < k → xs[j]? = ys[j]?) (fun i _ => n - (intOf i).toNat)
    case atStart => exact ⟨0, 0, Nat.zero_le _, rfl, rfl, fun j hj => absurd hj (by omega)⟩
    case round =>
      obtain ⟨k, q, hk, rfl, rfl, hbefore⟩ := hrel
      have HB := hide hbefore
      clear hbefore
      by_cases hlt : k < n
      · obtain ⟨b, off, rfl, _, hc⟩ := hcell (by omega)
        obtain ⟨b', off', rfl, _, hc'⟩ := hcell' (by omega)
        obtain ⟨x, hx⟩ : ∃ x, xs[k]? = some x := ⟨_, List.getElem?_eq_getElem (by rw [← HN.out]; omega)⟩
        obtain ⟨y, hy⟩ : ∃ y, ys[k]? = some y := ⟨_, List.getElem?_eq_getElem (by rw [← HM.out]; omega)⟩
        have hcx := hc k x hx
        have hcy := hc' k y hy
        have HX := hide hx
        have HY := hide hy
        clear hcell hc hx hcell' hc' hy
        by_cases he : x = y
        · subst he
          go_wp2_with fail
          try (go_quiet (fail))
          go_wp2_with fail
          go_roundw
          case rel =>
            refine ⟨k + 1, _, by omega, by go_num, rfl, fun j hj => ?_⟩
            by_cases hjk : j = k
            · subst hjk; rw [HX.out, HY.out]
            · exact HB.out j (by omega)
          case measure => simp [intOf]; omega
        · have HE := hide he
          have he' : (x == y) = false := by simpa using he
          clear he
          go_wp2_with fail
          try (go_quiet (fail))
          go_wp2_with fail
          go_ret
          refine ⟨ret_bool ?_, ⟨rfl, rfl, rfl, Nat.le_refl _, fun _ _ => rfl⟩⟩
          symm
          rw [decide_eq_false_iff_not]
          rintro rfl
          rw [HX.out] at HY
          have := HY.out
          injection this with this
          exact HE.out this
      · go_wp2_with fail
        go_ret
        refine ⟨ret_bool ?_, ⟨rfl, rfl, rfl, Nat.le_refl _, fun _ _ => rfl⟩⟩
        symm
        rw [decide_eq_true_eq]
        apply List.ext_getElem?
        intro j
        by_cases hj : j < n
        · exact HB.out j (by omega)
        · rw [List.getElem?_eq_none (by rw [← HN.out]; omega), List.getElem?_eq_none (by rw [← HM.out]; omega)]
  · have hne : ((n : Int) == (m : Int)) = false := by simpa using (by omega : ¬ (n : Int) = (m : Int))
    have HN := hide hn
    have HM := hide hm
    clear hn hm
    go_enter Try.func46, Try.ntmps46
    go_wp2
    go_ret
    refine ⟨ret_bool ?_, ⟨rfl, rfl, rfl, Nat.le_refl _, fun _ _ => rfl⟩⟩
    symm
    rw [decide_eq_false_iff_not]
    rintro rfl
    exact hnm (by rw [HN.out, HM.out])
end Go.Proofs.Ytighpdnodehdcaa

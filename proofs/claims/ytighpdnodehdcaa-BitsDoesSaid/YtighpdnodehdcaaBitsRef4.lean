/- The reference's sets, part 4: List, Next, Ints; and 'awake' of layer 3. -/
import Derived.Test.YtighpdnodehdcaaBitsRef3
namespace Go.Proofs.Ytighpdnodehdcaa
set_option linter.unusedVariables false
open Go.RowKit

theorem rset_next {w : World} {b n : Nat} {f : Nat → Bool} {S : Nat → Prop} (h : IsRef w b S n f) (i : Int) (hi : (Lit.int .i64 i).wf = true) :
    Calls Try.prog 36 #[.pointer (some ⟨b, 0, none⟩), .int .i64 i] w fun e w' => e = .returned (.int .i64 (nextOf f n i.toNat)) ∧ w = w' := by
  have hn := h.room
  obtain ⟨r, c, c0, hc, hc', hcell⟩ := h.parts
  have H := hide h
  clear h
  go_enter Try.func36, Try.ntmps36
  go_wp2
  all_goals
    go_loop [5] (fun v => ∃ k : Nat, v = .int .i64 k ∧ i.toNat ≤ k ∧ ∀ j, i.toNat ≤ j → j < k → f j = false) (fun v => n - (intOf v).toNat)
    case atStart => exact ⟨i.toNat, by first | rw [show ((i.toNat : Nat) : Int) = i by omega] | rw [show i.toNat = 0 by omega]; rfl, Nat.le_refl _, fun j h1 h2 => absurd h2 (by omega)⟩
    case round =>
      obtain ⟨k, rfl, hik, hno⟩ := hrel
      have HNO := hide hno
      clear hno
      by_cases hkn : k < n
      · have hcx := hcell k hkn
        have hkni : (k : Int) < n := by omega
        clear hcell
        cases hfk : f k
        · rw [hfk] at hcx
          have HF := hide hfk
          clear hfk
          go_wp2_with (go_at_call 40; refine (rset_room H.out).mono ?_; rintro e w' ⟨rfl, rfl⟩)
          go_round
          case rel =>
            refine ⟨k + 1, by go_num, by omega, fun j h1 h2 => ?_⟩
            by_cases e : j = k
            · subst e; exact HF.out
            · exact HNO.out j h1 (by omega)
          case measure => simp [intOf]; omega
        · rw [hfk] at hcx
          have HF := hide hfk
          clear hfk
          go_wp2_with (go_at_call 40; refine (rset_room H.out).mono ?_; rintro e w' ⟨rfl, rfl⟩)
          go_ret
          exact ⟨ret_int (nextOf_some HF.out hik hkn HNO.out).symm, rfl⟩
      · have hkni : ¬ (k : Int) < n := by omega
        clear hcell
        go_wp2_with (go_at_call 40; refine (rset_room H.out).mono ?_; rintro e w' ⟨rfl, rfl⟩)
        go_ret
        exact ⟨ret_int (nextOf_none fun j h1 h2 => HNO.out j h1 (by omega)).symm, rfl⟩

theorem rset_list {w : World} {b n : Nat} {f : Nat → Bool} {S : Nat → Prop} (h : IsRef w b S n f) :
    Calls Try.prog 43 #[.pointer (some ⟨b, 0, none⟩)] w (ListPost w (below f n)) := by
  have hn := h.room
  have H := hide h
  clear h
  go_enter Try.func43, Try.ntmps43
  go_wp2
  go_loopw [3, 4] (fun v i wr => ∃ (k : Nat) (A : Option Addr) (c : Nat), k ≤ n ∧ i = .int .i64 k ∧ v = .slice A (below f k).length c ∧ wr.ownsRow w.heap.size 3 1 (.slice A (below f k).length c) (below f k).length ((below f k).map I64) ∧ Below w.heap.size w wr) (fun _ i _ => n - (intOf i).toNat)
  case atStart => exact ⟨0, none, 0, Nat.zero_le _, rfl, rfl, World.ownsRow_nil _ _ _ _, Below.refl _ _⟩
  case round =>
    obtain ⟨k, A, c, hk, rfl, rfl, hown, hbel⟩ := hrel
    have hz := hbel.size
    have h2 := H.out.touch (Touch.of_size hbel (fun _ => False)) (fun _ _ hf => hf)
    obtain ⟨r, c', c0, hc, hc', hcell⟩ := h2.parts
    have hsucc := below_succ f k
    have hle := below_le f k
    have HBEL := hide hbel
    by_cases hkn : k < n
    · have hcx := hcell k hkn
      have hkni : (k : Int) < n := by omega
      obtain ⟨l, hl⟩ : ∃ l, l = below f k := ⟨_, rfl⟩
      rw [← hl] at hown hsucc hle ⊢
      clear hcell hl hbel
      cases hfk : f k
      · rw [hfk] at hcx hsucc
        simp at hsucc
        have HSU := hide hsucc
        clear hfk hsucc
        go_wp2_with (go_at_call 40; refine (rset_room h2).mono ?_; rintro e w' ⟨rfl, rfl⟩)
        go_roundw
        case rel => exact ⟨k + 1, A, c, by omega, by go_num, by rw [HSU.out], by rw [HSU.out]; exact hown, HBEL.out⟩
        case measure => simp [intOf]; omega
      · rw [hfk] at hcx hsucc
        simp only [if_true] at hsucc
        have HSU := hide hsucc
        clear hfk hsucc
        go_wp2_with (first
          | (go_at_call 40; refine (rset_room h2).mono ?_; rintro e w' ⟨rfl, rfl⟩)
          | (at_builtin; refine wp_append _ rfl (.tmp 18) (.tmp 20) _ rfl Try.elemInt w.heap.size _ l.length (l.map I64) rfl (hown.alloc _) _ _ [I64 k] 1 rfl rfl (Rd.one [I64 k] 1 rfl) (by simp [Value.oneCell']) (by unfold maxLen; omega) (by omega) (by simp; omega) ?_))
        intro A2 c2 w2 hown2 hg2 _
        have hb2 : Below w.heap.size w w2 := ((HBEL.out.alloc hz _).grown hg2 (by simp; omega) (fun q hq => (hown.lt q hq).1))
        go_wp2_with fail
        go_roundw
        case rel => exact ⟨k + 1, A2, c2, by omega, by go_num, by rw [HSU.out]; simp, by rw [HSU.out]; simpa using hown2, hb2⟩
        case measure => simp [intOf]; omega
    · have hkni : ¬ (k : Int) < n := by omega
      have hkE : k = n := by omega
      have HE := hide hkE
      clear hcell hkE hsucc
      go_wp2_with (go_at_call 40; refine (rset_room h2).mono ?_; rintro e w' ⟨rfl, rfl⟩)
      go_ret
      have fin : ListPost w (below f n) (.returned (.slice A (below f k).length c)) wr := ⟨A, c, by rw [HE.out], by rw [← HE.out]; exact hown, HBEL.out⟩
      exact fin

/-- Ints -/
theorem ref_ints {w : World} {F G : Nat → Prop} {v u : Value} {xs ys : List Int} (h : RdI w F v xs) (g : RdI w G u ys) :
    Calls Try.prog 41 #[v, u] w fun e w' => e = .returned (.bool (decide (xs = ys))) ∧ Below w.heap.size w w' := by
  obtain ⟨A, n, c, rfl, _⟩ := id h
  obtain ⟨B, m, d, rfl, _⟩ := id g
  obtain ⟨hn, hnc, hcm, hcell⟩ := h.at_
  obtain ⟨hm, hmd, hdm, hcell'⟩ := g.at_
  unfold maxLen at hcm hdm
  by_cases hnm : n = m
  · subst hnm
    have HN := hide hn
    have HM := hide hm
    clear hn hm
    go_enter Try.func41, Try.ntmps41
    go_wp2
    go_loopw [5] (fun i wr => ∃ k q : Nat, k ≤ n ∧ i = .int .i64 k ∧ wr = w.drewN q ∧ ∀ j : Nat, j < k → xs[j]? = ys[j]?) (fun i _ => n - (intOf i).toNat)
    case atStart => exact ⟨0, 0, Nat.zero_le _, rfl, rfl, fun j hj => absurd hj (by omega)⟩
    case round =>
      obtain ⟨k, q, hk, rfl, rfl, hbefore⟩ := hrel
      have HB := hide hbefore
      clear hbefore
      by_cases hlt : k < n
      · obtain ⟨b, off, rfl, _, hc⟩ := hcell (by omega)
        obtain ⟨b', off', rfl, _, hc'⟩ := hcell' (by omega)
        obtain ⟨x, hx⟩ : ∃ x, xs[k]? = some x := ⟨_, List.getElem?_eq_getElem (by rw [← HN.out]; omega)⟩
        obtain ⟨y, hy⟩ : ∃ y, ys[k]? = some y := ⟨_, List.getElem?_eq_getElem (by rw [← HM.out]; omega)⟩
        have hcx := hc k x hx
        have hcy := hc' k y hy
        have HX := hide hx
        have HY := hide hy
        clear hcell hc hx hcell' hc' hy
        by_cases he : x = y
        · subst he
          go_wp2_with fail
          try (go_quiet (fail))
          go_wp2_with fail
          go_roundw
          case rel =>
            refine ⟨k + 1, _, by omega, by go_num, rfl, fun j hj => ?_⟩
            by_cases hjk : j = k
            · subst hjk; rw [HX.out, HY.out]
            · exact HB.out j (by omega)
          case measure => simp [intOf]; omega
        · have HE := hide he
          have he' : (x == y) = false := by simpa using he
          clear he
          go_wp2_with fail
          try (go_quiet (fail))
          go_wp2_with fail
          go_ret
          refine ⟨ret_bool ?_, ⟨rfl, rfl, rfl, Nat.le_refl _, fun _ _ => rfl⟩⟩
          symm
          rw [decide_eq_false_iff_not]
          rintro rfl
          rw [HX.out] at HY
          have := HY.out
          injection this with this
          exact HE.out this
      · go_wp2_with fail
        go_ret
        refine ⟨ret_bool ?_, ⟨rfl, rfl, rfl, Nat.le_refl _, fun _ _ => rfl⟩⟩
        symm
        rw [decide_eq_true_eq]
        apply List.ext_getElem?
        intro j
        by_cases hj : j < n
        · exact HB.out j (by omega)
        · rw [List.getElem?_eq_none (by rw [← HN.out]; omega), List.getElem?_eq_none (by rw [← HM.out]; omega)]
  · have hne : ((n : Int) == (m : Int)) = false := by simpa using (by omega : ¬ (n : Int) = (m : Int))
    have HN := hide hn
    have HM := hide hm
    clear hn hm
    go_enter Try.func41, Try.ntmps41
    go_wp2
    go_ret
    refine ⟨ret_bool ?_, ⟨rfl, rfl, rfl, Nat.le_refl _, fun _ _ => rfl⟩⟩
    symm
    rw [decide_eq_false_iff_not]
    rintro rfl
    exact hnm (by rw [HN.out, HM.out])
end Go.Proofs.Ytighpdnodehdcaa

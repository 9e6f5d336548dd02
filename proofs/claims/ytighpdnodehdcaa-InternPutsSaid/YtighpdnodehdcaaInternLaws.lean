/- The walks of layer 4's statements. -/
import Derived.Test.YtighpdnodehdcaaInternRef
import Derived.Test.YtighpdnodehdcaaOpen
namespace Go.Proofs.Ytighpdnodehdcaa
open Go.RowKit

theorem walk_InternNone (s : ByteArray) (i : Int) (w : World) (hs : s.size ≤ maxLen) (_ : (Lit.int .i64 i).wf = true) :
    Calls Try.prog 5 #[.string s, .int .i64 i] w fun e w' => e = .returned (.bool true) ∧ Below w.heap.size w w' := by
  unfold maxLen at hs
  by_cases h : 1000 < s.size
  · have h' : (1000 : Int) < s.size := by omega
    clear h
    go_enter Try.func5, Try.ntmps5
    go_wp2_with (go_at_call 9; refine (intern_awake _).mono ?_; rintro e w' ⟨rfl, hb⟩)
    go_ret
    exact ⟨rfl, hb⟩
  · have h' : ¬ (1000 : Int) < s.size := by omega
    clear h
    go_enter Try.func5, Try.ntmps5
    go_wp2_with (first
      | (go_at_call 11; refine (names_put_nil s _).mono ?_; rintro e w' ⟨rfl, rfl⟩)
      | (go_at_call 12; refine (names_text_nil i _).mono ?_; rintro e w' ⟨rfl, rfl⟩)
      | (go_at_call 13; refine (names_find_nil s _).mono ?_; rintro e w' ⟨rfl, rfl⟩)
      | (go_at_call 16; refine (names_len_nil _).mono ?_; rintro e w' ⟨rfl, rfl⟩)
      | (go_at_call 19; refine (names_all_nil _).mono ?_; rintro e w' ⟨rfl, rfl⟩)
      | (go_at_call 9; refine (intern_awake _).mono ?_; rintro e w' ⟨rfl, hb⟩))
    go_ret
    exact ⟨rfl, hb⟩

abbrev EStr (cs : List Value) (s : ByteArray) : Prop := cs = [.string s] ∧ s.size ≤ maxLen

theorem walk_InternStays (s t : ByteArray) (v : Value) (l : List ByteArray) (w : World) (hs : s.size ≤ maxLen) (ht : t.size ≤ maxLen) (hl : RdL w (· < w.heap.size) 1 EStr v l) :
    Calls Try.prog 3 #[.string s, .string t, v] w fun e w' => e = .returned (.bool true) ∧ Below w.heap.size w w' := by
  obtain ⟨hl, hsz⟩ := hl.parts
  have hrd := hl.rd
  obtain ⟨A, n, c, rfl, _⟩ := id hrd
  obtain ⟨hn, hnc, hcm, hcell⟩ := RdS.at_ hrd
  unfold maxLen at hcm hs ht
  have HN := hide hn
  clear hn
  by_cases h1 : (60 : Int) < n
  · clear hl hrd hcell
    go_enter Try.func3, Try.ntmps3
    go_wp2_with (go_at_call 9; refine (intern_awake _).mono ?_; rintro e w4 ⟨rfl, hb4⟩)
    go_ret
    exact ⟨rfl, hb4⟩
  rcases str_cases s with ⟨h2', h2, hsp⟩ | ⟨h2', h2, hsp⟩
  · clear hl hrd hcell
    go_enter Try.func3, Try.ntmps3
    go_wp2_with (go_at_call 9; refine (intern_awake _).mono ?_; rintro e w4 ⟨rfl, hb4⟩)
    go_ret
    exact ⟨rfl, hb4⟩
  rcases str_cases t with ⟨h3', h3, htp⟩ | ⟨h3', h3, htp⟩
  · clear hl hrd hcell
    go_enter Try.func3, Try.ntmps3
    go_wp2_with (go_at_call 9; refine (intern_awake _).mono ?_; rintro e w4 ⟨rfl, hb4⟩)
    go_ret
    exact ⟨rfl, hb4⟩
  by_cases h4 : (24 : Int) < s.size
  · clear hl hrd hcell
    go_enter Try.func3, Try.ntmps3
    go_wp2_with (go_at_call 9; refine (intern_awake _).mono ?_; rintro e w4 ⟨rfl, hb4⟩)
    go_ret
    exact ⟨rfl, hb4⟩
  by_cases h5 : (24 : Int) < t.size
  · clear hl hrd hcell
    go_enter Try.func3, Try.ntmps3
    go_wp2_with (go_at_call 9; refine (intern_awake _).mono ?_; rintro e w4 ⟨rfl, hb4⟩)
    go_ret
    exact ⟨rfl, hb4⟩
  · have h4n : s.size ≤ 24 := by omega
    have h5n : t.size ≤ 24 := by omega
    have hn60 : n ≤ 60 := by omega
    have p1 : putOut [] (min (max 4096 0) 4096) s = (0, 0, [s]) := by
      unfold putOut
      rw [if_neg (show ¬(s.size = 0 ∨ 24 < s.size) by omega), if_neg (by simp), if_neg (by decide)]; rfl
    have P1 := hide p1
    clear p1
    go_enter Try.func3, Try.ntmps3
    go_wp2_with fail
    refine (names_new' 4096 _).mono ?_
    rintro e w1 ⟨rfl, n1, t1⟩
    go_wp2_with fail
    refine (names_put n1 s P1.out).mono ?_
    rintro e w2 ⟨rfl, n2, t2⟩
    have z1 := t1.size
    have z2 := t2.size
    have b1 : Below w.heap.size w w1 := t1.below (fun _ _ _ hf => hf) (Nat.le_refl _)
    have s1 : ∀ k, New (fun _ => False) w w1 k → w.heap.size ≤ k := New.lt (fun _ hf => hf.elim) (Nat.le_refl _)
    have b2 : Below w.heap.size w w2 := t2.toBelow s1 b1 z1
    have s2 : ∀ k, New (New (fun _ => False) w w1) w1 w2 k → w.heap.size ≤ k := New.lt s1 z1
    have e4 : min (max 4096 0) 4096 = (4096 : Int) := by decide
    rw [e4] at n2
    clear e4 P1
    obtain ⟨S2, hS2⟩ : ∃ S2, S2 = New (New (fun _ => False) w w1) w1 w2 := ⟨_, rfl⟩
    rw [← hS2] at n2 s2
    clear hS2 t1 t2 b1 s1 n1
    go_wp2_with fail
    go_loopw [10] (fun i wr => ∃ (k : Nat) (xs : List ByteArray) (S : Nat → Prop), k ≤ n ∧ i = .int .i64 k ∧ Names wr (w.heap.size + 1) S (s :: xs) 4096 ∧ xs.length ≤ k ∧ (∀ j, S j → w.heap.size ≤ j) ∧ Below w.heap.size w wr) (fun i _ => n - (intOf i).toNat)
    case atStart => exact ⟨0, [], S2, Nat.zero_le _, rfl, n2, Nat.le_refl _, s2, b2⟩
    case round =>
      clear b2 n2 s2 z1 z2 S2 w1 w2
      obtain ⟨k, xs, S, hk, rfl, hN, hxl, hS, hB⟩ := hrel
      have hz := hB.size
      by_cases hlt : k < n
      · obtain ⟨b, off, rfl, hbl, hc⟩ := hcell (by omega)
        obtain ⟨x, hx⟩ : ∃ x, l[k]? = some x := ⟨_, List.getElem?_eq_getElem (by rw [← HN.out]; omega)⟩
        have hcx := (hB.cell (p := ⟨b, off + k, none⟩) hbl).trans (hc k x hx)
        have hxs := hsz x (List.mem_of_getElem? hx)
        unfold maxLen at hxs
        clear hcell hc hx hl hrd
        by_cases hx1 : x.size ≤ 1000
        · obtain ⟨⟨a, c', ys⟩, ho⟩ : ∃ p, putOut (s :: xs) 4096 x = p := ⟨_, rfl⟩
          obtain ⟨r, hr, hr1⟩ := putOut_ext ho
          have HO := hide ho
          have HR := hide hr
          clear ho hr
          have hx2 : (x.size : Int) ≤ 1000 := by omega
          go_wp2_with (go_at_call 11; refine (names_put hN x HO.out).mono ?_; rintro e w3 ⟨rfl, n3, t3⟩)
          go_roundw
          case rel =>
            refine ⟨k + 1, xs ++ r, New S _ w3, by omega, by go_num, ?_, by simp; omega, New.lt hS hz, t3.toBelow hS hB hz⟩
            rw [HR.out] at n3
            exact n3
          case measure => simp [intOf]; omega
        · have hx2 : ¬ (x.size : Int) ≤ 1000 := by omega
          go_wp2_with fail
          go_roundw
          case rel => exact ⟨k + 1, xs, S, by omega, by go_num, hN, by omega, hS, hB⟩
          case measure => simp [intOf]; omega
      · obtain ⟨j, ys, ho, hj, hp, r, hr⟩ := putOut_ok (xs := s :: xs) (most := 4096) htp h5n (by simp; omega)
        have hps : place ys s = 0 := place_first (i := 0) (by rw [hr]; rfl) (fun _ h => absurd h (by omega))
        have HO := hide ho
        have HJ := hide hj
        have HP := hide hp
        clear ho hj hp hr r hl hrd hcell
        by_cases hst : s = t
        · subst hst
          have hj0 : j = 0 := by have := HP.out; rw [hps] at this; omega
          subst hj0
          go_wp2_with (first
            | (go_at_call 11; refine (names_put hN s HO.out).mono ?_; rintro e w3 ⟨rfl, n3, t3⟩)
            | (go_at_call 12; refine (names_text n3 0 s HJ.out).mono ?_; rintro e w' ⟨rfl, rfl⟩)
            | (go_at_call 13; refine (names_find' n3 s (by unfold maxLen; omega)).mono ?_; rintro e w' ⟨rfl, rfl⟩)
            | (go_at_call 9; refine (intern_awake _).mono ?_; rintro e w4 ⟨rfl, hb4⟩))
          go_ret
          exact ⟨rfl, (t3.toBelow hS hB hz).trans (hb4.mono (Nat.le_trans hz t3.size))⟩
        · have hj0 : ¬ j = 0 := by
            rintro rfl
            have h0 : place ys s = place ys t := by rw [hps, HP.out]; rfl
            obtain ⟨i, hi, _, hpi⟩ := place_some (place_mem.1 (by rw [hps]; exact Int.le_refl 0) : s ∈ ys)
            have hi0 : i = 0 := by omega
            subst hi0
            have hj := HJ.out
            rw [hi] at hj
            injection hj with hj
            exact hst hj
          have hj1 : ((0 : Int) == (j : Int)) = false := by simpa using fun e : (0 : Int) = j => hj0 (by omega)
          have hne : (s.toList == t.toList) = false := by simpa using fun e => hst (toList_inj e)
          have hne' : ¬ s.toList = t.toList := fun e => hst (toList_inj e)
          clear hst hj0
          go_wp2_with (first
            | (go_at_call 11; refine (names_put hN t HO.out).mono ?_; rintro e w3 ⟨rfl, n3, t3⟩)
            | (go_at_call 12; refine (names_text n3 j t HJ.out).mono ?_; rintro e w' ⟨rfl, rfl⟩)
            | (go_at_call 13; refine (names_find' n3 s (by unfold maxLen; omega)).mono ?_; rintro e w' ⟨rfl, rfl⟩)
            | (go_at_call 9; refine (intern_awake _).mono ?_; rintro e w4 ⟨rfl, hb4⟩))
          go_ret
          exact ⟨rfl, (t3.toBelow hS hB hz).trans (hb4.mono (Nat.le_trans hz t3.size))⟩
end Go.Proofs.Ytighpdnodehdcaa

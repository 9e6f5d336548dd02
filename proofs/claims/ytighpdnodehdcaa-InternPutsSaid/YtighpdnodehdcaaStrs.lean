/- Contracts of the reference's small functions on lists of texts (Place, Same) and of slices.Clone at []string. -/
import Derived.Test.YtighpdnodehdcaaIntern
namespace Go.Proofs.Ytighpdnodehdcaa
open Go.RowKit

abbrev RdS (w : World) (F : Nat → Prop) (v : Value) (xs : List ByteArray) : Prop := Rd w F v 1 (xs.map Value.string)

theorem RdS.at_ {w : World} {F : Nat → Prop} {A : Option Addr} {n c : Nat} {xs : List ByteArray} (h : RdS w F (.slice A n c) xs) : n = xs.length ∧ n ≤ c ∧ c ≤ maxLen ∧ (0 < n → ∃ b off, A = some ⟨b, off, none⟩ ∧ F b ∧ ∀ k x, xs[k]? = some x → w.cell? ⟨b, off + k, none⟩ = some (.string x)) := by
  obtain ⟨A', n', c', hv, h1, h2, hl, hr⟩ := h
  injection hv with e1 e2 e3
  subst e1 e2 e3
  refine ⟨by simpa using hl.symm, h1, h2, fun hn => ?_⟩
  obtain ⟨b, off, hA, hF, hc⟩ := hr hn
  exact ⟨b, off, hA, hF, fun k x hx => hc k _ (by simp [hx])⟩

theorem ref_place {w : World} {F : Nat → Prop} {v : Value} {xs : List ByteArray} (h : RdS w F v xs) (s : ByteArray) :
    Calls Try.prog 17 #[v, .string s] w fun e w' => e = .returned (.int .i64 (place xs s)) ∧ w = w' := by
  obtain ⟨A, n, c, rfl, _⟩ := id h
  obtain ⟨hn, hnc, hcm, hcell⟩ := h.at_
  unfold maxLen at hcm
  go_enter Try.func17, Try.ntmps17
  go_wp2
  go_loop [5] (fun i => ∃ k : Nat, k ≤ n ∧ i = .int .i64 k ∧ ∀ j : Nat, j < k → xs[j]? ≠ some s) (fun i => n - (intOf i).toNat)
  case atStart => exact ⟨0, Nat.zero_le _, rfl, fun j hj => absurd hj (by omega)⟩
  case round =>
    obtain ⟨k, hk, rfl, hbefore⟩ := hrel
    have HB := hide hbefore
    clear hbefore
    by_cases hlt : k < n
    · obtain ⟨b, off, rfl, _, hc⟩ := hcell (by omega)
      obtain ⟨x, hx⟩ : ∃ x, xs[k]? = some x := ⟨_, List.getElem?_eq_getElem (by omega)⟩
      have hcx := hc k x hx
      have HX := hide hx
      clear hcell hc hx
      by_cases he : x.toList = s.toList
      · have HE := hide he
        have he' : (x.toList == s.toList) = true := by rw [he]; simp
        clear he
        have HN := hide hn
        clear hn
        go_wp2
        go_ret
        exact ⟨ret_int (by rw [place_first (i := k) (by rw [HX.out, toList_inj HE.out]) HB.out]), rfl⟩
      · have HE := hide he
        have he' : (x.toList == s.toList) = false := by simpa using he
        clear he
        have HN := hide hn
        clear hn
        go_wp2
        go_round
        case rel =>
          refine ⟨k + 1, by omega, by go_num, fun j hj => ?_⟩
          by_cases hjk : j = k
          · subst hjk; rw [HX.out]; intro e; injection e with e; exact HE.out (by rw [e])
          · exact HB.out j (by omega)
        case measure => simp [intOf]; omega
    · have HN := hide hn
      clear hn
      go_wp2
      go_ret
      refine ⟨ret_int (by rw [place_not]; intro hm; obtain ⟨j, hj, e⟩ := List.getElem_of_mem hm; exact HB.out j (by have := HN.out; omega) (by rw [List.getElem?_eq_getElem hj, e])), rfl⟩

theorem ref_same {w : World} {F G : Nat → Prop} {v u : Value} {xs ys : List ByteArray} (h : RdS w F v xs) (g : RdS w G u ys) :
    Calls Try.prog 18 #[v, u] w fun e w' => e = .returned (.bool (decide (xs = ys))) ∧ Below w.heap.size w w' := by
  obtain ⟨A, n, c, rfl, _⟩ := id h
  obtain ⟨B, m, d, rfl, _⟩ := id g
  obtain ⟨hn, hnc, hcm, hcell⟩ := h.at_
  obtain ⟨hm, hmd, hdm, hcell'⟩ := g.at_
  unfold maxLen at hcm hdm
  by_cases hnm : n = m
  · subst hnm
    have HN := hide hn
    have HM := hide hm
    clear hn hm
    go_enter Try.func18, Try.ntmps18
    go_wp2
    go_loopw [5] (fun i wr => ∃ k q : Nat, k ≤ n ∧ i = .int .i64 k ∧ wr = w.drewN q ∧ ∀ j : Nat, j < k → xs[j]? = ys[j]?) (fun i _ => n - (intOf i).toNat)
    case atStart => exact ⟨0, 0, Nat.zero_le _, rfl, rfl, fun j hj => absurd hj (by omega)⟩
    case round =>
      obtain ⟨k, q, hk, rfl, rfl, hbefore⟩ := hrel
      have HB := hide hbefore
      clear hbefore
      by_cases hlt : k < n
      · obtain ⟨b, off, rfl, _, hc⟩ := hcell (by omega)
        obtain ⟨b', off', rfl, _, hc'⟩ := hcell' (by omega)
        obtain ⟨x, hx⟩ : ∃ x, xs[k]? = some x := ⟨_, List.getElem?_eq_getElem (by rw [← HN.out]; omega)⟩
        obtain ⟨y, hy⟩ : ∃ y, ys[k]? = some y := ⟨_, List.getElem?_eq_getElem (by rw [← HM.out]; omega)⟩
        have hcx := hc k x hx
        have hcy := hc' k y hy
        have HX := hide hx
        have HY := hide hy
        clear hcell hc hx hcell' hc' hy
        by_cases he : x.toList = y.toList
        · have HE := hide he
          have he' : (x.toList == y.toList) = true := by rw [he]; simp
          clear he
          go_wp2_with fail
          go_quiet (fail)
          go_wp2
          go_roundw
          case rel =>
            refine ⟨k + 1, q + nq, by omega, by go_num, rfl, fun j hj => ?_⟩
            by_cases hjk : j = k
            · subst hjk; rw [HX.out, HY.out, toList_inj HE.out]
            · exact HB.out j (by omega)
          case measure => simp [intOf]; omega
        · have HE := hide he
          have he' : (x.toList == y.toList) = false := by simpa using he
          clear he
          go_wp2_with fail
          go_quiet (fail)
          go_wp2
          go_ret
          refine ⟨ret_bool ?_, ⟨rfl, rfl, rfl, Nat.le_refl _, fun _ _ => rfl⟩⟩
          symm
          rw [decide_eq_false_iff_not]
          rintro rfl
          rw [HX.out] at HY
          have := HY.out
          injection this with this
          exact HE.out (by rw [this])
      · go_wp2
        go_ret
        refine ⟨ret_bool ?_, ⟨rfl, rfl, rfl, Nat.le_refl _, fun _ _ => rfl⟩⟩
        symm
        rw [decide_eq_true_eq]
        apply List.ext_getElem?
        intro j
        by_cases hj : j < n
        · exact HB.out j (by omega)
        · rw [List.getElem?_eq_none (by rw [← HN.out]; omega), List.getElem?_eq_none (by rw [← HM.out]; omega)]
  · have hne : ((n : Int) == (m : Int)) = false := by simpa using (by omega : ¬ (n : Int) = (m : Int))
    have HN := hide hn
    have HM := hide hm
    clear hn hm
    go_enter Try.func18, Try.ntmps18
    go_wp2
    go_ret
    refine ⟨ret_bool ?_, ⟨rfl, rfl, rfl, Nat.le_refl _, fun _ _ => rfl⟩⟩
    symm
    rw [decide_eq_false_iff_not]
    rintro rfl
    exact hnm (by rw [HN.out, HM.out])

theorem clone_strs {w : World} {F : Nat → Prop} {v : Value} {xs : List ByteArray} (h : RdS w F v xs) (hl : xs.length ≤ 65536) :
    Calls Try.prog 44 #[v] w fun e w' => ∃ A c, e = .returned (.slice A xs.length c) ∧ w'.ownsRow w.heap.size 9 1 (.slice A xs.length c) xs.length (xs.map Value.string) ∧ Below w.heap.size w w' := by
  obtain ⟨A, n, c, rfl, _⟩ := id h
  have hh := h
  obtain ⟨hn, hnc, hcm, hcell⟩ := h.at_
  have hnil := Lib.run_eql_slice_nil (P := Try.prog) w 22 9 A n c 0 0 Try.underlying22
  rcases A with _ | ad
  · obtain rfl : n = 0 := by
      rcases Nat.eq_zero_or_pos n with h0 | h0
      · exact h0
      · obtain ⟨_, _, hA, _⟩ := hcell h0; cases hA
    obtain rfl : xs = [] := List.eq_nil_of_length_eq_zero hn.symm
    clear hl h hn hcell
    go_enter Try.func44, Try.ntmps44
    go_wp2
    go_ret
    exact ⟨none, 0, rfl, World.ownsRow_nil _ _ _ _, Below.refl _ _⟩
  · subst hn
    clear h hcell
    go_enter Try.func44, Try.ntmps44
    go_wp2_with (at_builtin; refine wp_append _ rfl (.tmp 5) (.tmp 6) _ rfl Try.elemStr w.heap.size _ 0 [] rfl (World.ownsRow_made w #[] 0 (Nat.le_refl _) (by decide) rfl) _ _ (xs.map Value.string) xs.length rfl (by simp) (hh.touch ((Touch.refl (fun _ => False) _).alloc _) (fun _ _ hf => hf)) (by intro u hu; obtain ⟨x, _, rfl⟩ := List.mem_map.1 hu; rfl) (by unfold maxLen; omega) (by omega) (by simp) ?_)
    intro A c2 w2 hown hg _
    go_wp2
    go_ret
    exact ⟨A, c2, by simp, by simpa using hown, (((Below.refl _ w).alloc (Nat.le_refl _) _).grown hg (by simp) (fun k e => by simp [Value.ownBlock] at e; omega))⟩
end Go.Proofs.Ytighpdnodehdcaa

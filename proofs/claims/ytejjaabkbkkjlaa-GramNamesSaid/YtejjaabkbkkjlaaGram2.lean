/- Contracts of gram.Find, Name, Of and the reference's names, Find, Name, Of; slices.Index, conchref04.Place. -/
import Derived.Test.YtejjaabkbkkjlaaGram
namespace Go.Proofs.Ytejjaabkbkkjlaa
set_option linter.unusedVariables false
open Go.RowKit

theorem Try.infoStr : (Try.prog.info? 9).map (fun i => (i.zero, i.size, i.bytes)) = some (some (.string ByteArray.empty), 1, 16) := by kernel_rfl
theorem Try.elemStr : Elem Try.prog 22 9 (.string ByteArray.empty) 1 16 := ⟨Try.underlying22, Try.infoStr, rfl, by decide⟩
theorem Try.infoInt : (Try.prog.info? 3).map (fun i => (i.zero, i.size, i.bytes)) = some (some (.int .i64 0), 1, 8) := by kernel_rfl
theorem Try.elemInt : Elem Try.prog 28 3 (.int .i64 0) 1 8 := ⟨Try.underlying28, Try.infoInt, rfl, by decide⟩

theorem RdS.at_ {w : World} {F : Nat → Prop} {A : Option Addr} {n c : Nat} {xs : List ByteArray} (h : RdS w F (.slice A n c) xs) : n = xs.length ∧ n ≤ c ∧ c ≤ maxLen ∧ (0 < n → ∃ b off, A = some ⟨b, off, none⟩ ∧ F b ∧ ∀ k x, xs[k]? = some x → w.cell? ⟨b, off + k, none⟩ = some (.string x)) := by
  obtain ⟨A', n', c', hv, h1, h2, hl, hr⟩ := h
  injection hv with e1 e2 e3
  subst e1 e2 e3
  refine ⟨by simpa using hl.symm, h1, h2, fun hn => ?_⟩
  obtain ⟨b, off, hA, hF, hc⟩ := hr hn
  exact ⟨b, off, hA, hF, fun k x hx => hc k _ (by simp [hx])⟩
theorem RdI.at_ {w : World} {F : Nat → Prop} {A : Option Addr} {n c : Nat} {xs : List Int} (h : RdI w F (.slice A n c) xs) : n = xs.length ∧ n ≤ c ∧ c ≤ maxLen ∧ (0 < n → ∃ b off, A = some ⟨b, off, none⟩ ∧ F b ∧ ∀ k x, xs[k]? = some x → w.cell? ⟨b, off + k, none⟩ = some (.int .i64 x)) := by
  obtain ⟨A', n', c', hv, h1, h2, hl, hr⟩ := h
  injection hv with e1 e2 e3
  subst e1 e2 e3
  refine ⟨by simpa using hl.symm, h1, h2, fun hn => ?_⟩
  obtain ⟨b, off, hA, hF, hc⟩ := hr hn
  exact ⟨b, off, hA, hF, fun k x hx => hc k _ (by simp [hx])⟩
theorem ERule.at_ {w : World} {F : Nat → Prop} {A : Option Addr} {n c : Nat} {rs : List (Int × List Int)} (h : RdL w F 2 (ERule w F) (.slice A n c) rs) : n = rs.length ∧ n ≤ c ∧ c ≤ maxLen ∧ (0 < n → ∃ b off, A = some ⟨b, off, none⟩ ∧ F b ∧ ∀ (k : Nat) (r : Int × List Int), rs[k]? = some r → ∃ v, w.cell? ⟨b, off + k * 2, none⟩ = some (.int .i64 r.1) ∧ w.cell? ⟨b, off + k * 2 + 1, none⟩ = some v ∧ RdI w F v r.2) := by
  obtain ⟨A', c', hv, h1, h2, hr⟩ := h
  injection hv with e1 e2 e3
  subst e1 e2 e3
  refine ⟨rfl, h1, h2, fun hn => ?_⟩
  obtain ⟨b, off, hA, hF, hc⟩ := hr hn
  refine ⟨b, off, hA, hF, fun k r hk => ?_⟩
  obtain ⟨cs, _, ⟨v, rfl, hv⟩, hcell⟩ := hc k r hk
  exact ⟨v, hcell 0 _ rfl, hcell 1 _ rfl, hv⟩

/-- slices.Index at []string -/
theorem index_strs {w : World} {F : Nat → Prop} {v : Value} {xs : List ByteArray} (h : RdS w F v xs) (s : ByteArray) :
    Calls Try.prog 90 #[v, .string s] w fun e w' => e = .returned (.int .i64 (place xs s)) ∧ w = w' := by
  obtain ⟨A, n, c, rfl, _⟩ := id h
  obtain ⟨hn, hnc, hcm, hcell⟩ := h.at_
  unfold maxLen at hcm
  have HN := hide hn
  clear hn
  go_enter Try.func90, Try.ntmps90
  go_wp2
  go_loop [8] (fun i => ∃ k : Nat, k ≤ n ∧ i = .int .i64 k ∧ ∀ j : Nat, j < k → xs[j]? ≠ some s) (fun i => n - (intOf i).toNat)
  case atStart => exact ⟨0, Nat.zero_le _, rfl, fun j hj => absurd hj (by omega)⟩
  case round =>
    obtain ⟨k, hk, rfl, hbefore⟩ := hrel
    have HB := hide hbefore
    clear hbefore
    by_cases hlt : k < n
    · obtain ⟨b, off, rfl, _, hc⟩ := hcell (by omega)
      obtain ⟨x, hx⟩ : ∃ x, xs[k]? = some x := ⟨_, List.getElem?_eq_getElem (by rw [← HN.out]; omega)⟩
      have hcx := hc k x hx
      have HX := hide hx
      clear hcell hc hx
      by_cases he : s.toList = x.toList
      · have HE := hide he
        have he' : (s.toList == x.toList) = true := by rw [he]; simp
        clear he
        go_wp2
        go_ret
        exact ⟨ret_int (by rw [place_first (i := k) (by rw [HX.out, toList_inj HE.out]) HB.out]), rfl⟩
      · have HE := hide he
        have he' : (s.toList == x.toList) = false := by simpa using he
        clear he
        go_wp2
        go_round
        case rel =>
          refine ⟨k + 1, by omega, by go_num, fun j hj => ?_⟩
          by_cases hjk : j = k
          · subst hjk; rw [HX.out]; intro e; injection e with e; exact HE.out (by rw [e])
          · exact HB.out j (by omega)
        case measure => simp [intOf]; omega
    · go_wp2
      go_ret
      refine ⟨ret_int (by rw [place_not]; intro hm; obtain ⟨j, hj, e⟩ := List.getElem_of_mem hm; exact HB.out j (by have := HN.out; omega) (by rw [List.getElem?_eq_getElem hj, e])), rfl⟩

/-- conchref04.Place -/
theorem ref_place {w : World} {F : Nat → Prop} {v : Value} {xs : List ByteArray} (h : RdS w F v xs) (s : ByteArray) :
    Calls Try.prog 91 #[v, .string s] w fun e w' => e = .returned (.int .i64 (place xs s)) ∧ w = w' := by
  obtain ⟨A, n, c, rfl, _⟩ := id h
  obtain ⟨hn, hnc, hcm, hcell⟩ := h.at_
  unfold maxLen at hcm
  go_enter Try.func91, Try.ntmps91
  go_wp2
  go_loop [5] (fun i => ∃ k : Nat, k ≤ n ∧ i = .int .i64 k ∧ ∀ j : Nat, j < k → xs[j]? ≠ some s) (fun i => n - (intOf i).toNat)
  case atStart => exact ⟨0, Nat.zero_le _, rfl, fun j hj => absurd hj (by omega)⟩
  case round =>
    obtain ⟨k, hk, rfl, hbefore⟩ := hrel
    have HB := hide hbefore
    clear hbefore
    by_cases hlt : k < n
    · obtain ⟨b, off, rfl, _, hc⟩ := hcell (by omega)
      obtain ⟨x, hx⟩ : ∃ x, xs[k]? = some x := ⟨_, List.getElem?_eq_getElem (by omega)⟩
      have hcx := hc k x hx
      have HX := hide hx
      have HN := hide hn
      clear hcell hc hx hn
      by_cases he : x.toList = s.toList
      · have HE := hide he
        have he' : (x.toList == s.toList) = true := by rw [he]; simp
        clear he
        go_wp2
        go_ret
        exact ⟨ret_int (by rw [place_first (i := k) (by rw [HX.out, toList_inj HE.out]) HB.out]), rfl⟩
      · have HE := hide he
        have he' : (x.toList == s.toList) = false := by simpa using he
        clear he
        go_wp2
        go_round
        case rel =>
          refine ⟨k + 1, by omega, by go_num, fun j hj => ?_⟩
          by_cases hjk : j = k
          · subst hjk; rw [HX.out]; intro e; injection e with e; exact HE.out (by rw [e])
          · exact HB.out j (by omega)
        case measure => simp [intOf]; omega
    · have HN := hide hn
      clear hn
      go_wp2
      go_ret
      refine ⟨ret_int (by rw [place_not]; intro hm; obtain ⟨j, hj, e⟩ := List.getElem_of_mem hm; exact HB.out j (by have := HN.out; omega) (by rw [List.getElem?_eq_getElem hj, e])), rfl⟩

/-- what Find answers -/
def findOf (G : GramD) (s : ByteArray) : Int := place (G.terms ++ G.nons) s + 1
theorem place_app_right {xs ys : List ByteArray} {s : ByteArray} (h : s ∉ xs) (hy : s ∈ ys) : place (xs ++ ys) s = xs.length + place ys s := by
  obtain ⟨i, hi, hf, hp⟩ := place_some hy
  rw [hp]
  have : place (xs ++ ys) s = ((xs.length + i : Nat) : Int) := place_first (by rw [List.getElem?_append_right (by omega)]; simpa using hi) fun j hj e => by
    by_cases hjx : j < xs.length
    · rw [List.getElem?_append_left hjx] at e; exact h (List.mem_of_getElem? e)
    · rw [List.getElem?_append_right (by omega)] at e; exact hf (j - xs.length) (by omega) e
  rw [this]; omega

theorem gram_find {w : World} {F : Nat → Prop} {vt vn vr : Value} {G : GramD} (h : IsGram w F vt vn vr G) (st : Int) (s : ByteArray) :
    Calls Try.prog 31 #[GV vt vn vr st, .string s] w (Quiet w (.int .i64 (findOf G s))) := by
  have hs := h.small
  have h4 := h.below ((Below.refl _ w).alloc (Nat.le_refl _) (.cells #[vt, vn, vr, .int .i64 st] 25))
  have it := index_strs h4.terms s
  have ino := index_strs h4.nons s
  obtain ⟨A1, c1, A2, c2, A3, c3, rfl, rfl, rfl, _⟩ := h.slices
  have p1 := place_lt (xs := G.terms) (s := s)
  have p2 := place_lt (xs := G.nons) (s := s)
  obtain ⟨s1, s2, s3⟩ := hs
  have fin1 : 0 ≤ place G.terms s → findOf G s = place G.terms s + 1 := fun hp => by unfold findOf; rw [place_append (place_mem.1 hp)]
  have fin2 : ¬ 0 ≤ place G.terms s → 0 ≤ place G.nons s → findOf G s = (G.terms.length : Int) + place G.nons s + 1 := fun h1 h2 => by unfold findOf; rw [place_app_right (fun e => h1 (place_mem.2 e)) (place_mem.1 h2)]
  have fin3 : ¬ 0 ≤ place G.terms s → ¬ 0 ≤ place G.nons s → findOf G s = 0 := fun h1 h2 => by
    unfold findOf; rw [place_not]; rfl
    intro hm
    rcases List.mem_append.1 hm with hm | hm
    · exact h1 (place_mem.2 hm)
    · exact h2 (place_mem.2 hm)
  generalize hP : place G.terms s = P1 at *
  generalize hQ : place G.nons s = P2 at *
  have I1 := hide it
  have I2 := hide ino
  have F1 := hide fin1
  have F2 := hide fin2
  have F3 := hide fin3
  clear it ino fin1 fin2 fin3 h h4 hP hQ
  by_cases h1 : 0 ≤ P1
  · go_enter Try.func31, Try.ntmps31
    go_wp2_with fail
    refine I1.out.mono ?_
    rintro e w' ⟨rfl, rfl⟩
    go_wp2_with fail
    go_ret
    exact ⟨ret_int (F1.out h1).symm, (Below.refl _ _).alloc (Nat.le_refl _) _⟩
  · by_cases h2 : 0 ≤ P2
    · go_enter Try.func31, Try.ntmps31
      go_wp2_with fail
      refine I1.out.mono ?_
      rintro e w' ⟨rfl, rfl⟩
      go_wp2_with fail
      refine I2.out.mono ?_
      rintro e w' ⟨rfl, rfl⟩
      go_wp2_with fail
      go_ret
      exact ⟨ret_int (F2.out (by omega) h2).symm, (Below.refl _ _).alloc (Nat.le_refl _) _⟩
    · go_enter Try.func31, Try.ntmps31
      go_wp2_with fail
      refine I1.out.mono ?_
      rintro e w' ⟨rfl, rfl⟩
      go_wp2_with fail
      refine I2.out.mono ?_
      rintro e w' ⟨rfl, rfl⟩
      go_wp2_with fail
      go_ret
      exact ⟨ret_int (F3.out (by omega) (by omega)).symm, (Below.refl _ _).alloc (Nat.le_refl _) _⟩
end Go.Proofs.Ytejjaabkbkkjlaa

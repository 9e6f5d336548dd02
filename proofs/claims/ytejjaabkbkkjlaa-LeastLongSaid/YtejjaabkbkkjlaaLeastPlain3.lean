/- The law LeastLong: the plain law. -/
import Derived.Test.YtejjaabkbkkjlaaLeastRules
namespace Go.Proofs.Ytejjaabkbkkjlaa
set_option linter.unusedVariables false

/-! ### what is no left side stays -/
theorem stepR_keep {S : List FoundD} {r : Int × List Int} {s : Int} (h0 : 0 ≤ r.1) (h1 : r.1 < S.length) (hs : s ≠ r.1) : lookW (stepR S r).1 s = lookW S s := by
  unfold stepR
  split
  · rw [lookW_set (by omega), if_neg (by omega)]
  · rfl
theorem stepR_len (S : List FoundD) (r : Int × List Int) : (stepR S r).1.length = S.length := by
  unfold stepR; split
  · simp
  · rfl
theorem pass_keep {s : Int} : ∀ (l : List (Int × List Int)) (S : List FoundD) (b : Bool), (∀ r ∈ l, 0 ≤ r.1 ∧ r.1 < S.length ∧ s ≠ r.1) →
    lookW (l.foldl (fun (p : List FoundD × Bool) r => ((stepR p.1 r).1, p.2 || (stepR p.1 r).2)) (S, b)).1 s = lookW S s ∧ (l.foldl (fun (p : List FoundD × Bool) r => ((stepR p.1 r).1, p.2 || (stepR p.1 r).2)) (S, b)).1.length = S.length
  | [], S, b, _ => ⟨rfl, rfl⟩
  | r :: l, S, b, h => by
    rw [List.foldl_cons]
    obtain ⟨h0, h1, h2⟩ := h r (by simp)
    have hl := stepR_len S r
    obtain ⟨k1, k2⟩ := pass_keep l (stepR S r).1 (b || (stepR S r).2) (fun x hx => by rw [hl]; exact h x (by simp [hx]))
    exact ⟨k1.trans (stepR_keep h0 h1 h2), k2.trans hl⟩
theorem fixed_keep {rs : List (Int × List Int)} {S0 S : List FoundD} {s : Int} (hr : ∀ r ∈ rs, 0 ≤ r.1 ∧ r.1 < S0.length ∧ s ≠ r.1) (h : Fixed rs S0 S) : lookW S s = lookW S0 s := by
  obtain ⟨⟨j, rfl⟩, -⟩ := h
  have : ∀ j, lookW (iter (fun S => (passTo rs S).1) j S0) s = lookW S0 s ∧ (iter (fun S => (passTo rs S).1) j S0).length = S0.length := by
    intro j
    induction j with
    | zero => exact ⟨rfl, rfl⟩
    | succ j ih =>
      obtain ⟨i1, i2⟩ := ih
      have := pass_keep (s := s) rs (iter (fun S => (passTo rs S).1) j S0) false (fun r h => by rw [i2]; exact hr r h)
      exact ⟨this.1.trans i1, this.2.trans i2⟩
  exact (this j).1

/-! ### a symbol, so many times -/
theorem jTo_rep {S : List FoundD} {s : Int} {x : FoundD} (hx : lookW S s = x) : ∀ m : Nat,
    (x.long = false → m * x.l.length ≤ 4096 → (jTo S (List.replicate m s)).1 = false ∧ (jTo S (List.replicate m s)).2.length = m * x.l.length) ∧ (0 < m → (x.long = true ∨ 4096 < m * x.l.length) → (jTo S (List.replicate m s)).1 = true)
  | 0 => ⟨fun _ _ => ⟨rfl, by simp [jTo]⟩, fun h => absurd h (by omega)⟩
  | m + 1 => by
    obtain ⟨i1, i2⟩ := jTo_rep hx m
    rw [List.replicate_succ', jTo_snoc]
    have em : (m + 1) * x.l.length = m * x.l.length + x.l.length := by rw [Nat.add_mul]; omega
    rw [em]
    unfold jStep
    rw [hx]
    refine ⟨fun hl hm => ?_, fun _ h => ?_⟩
    · obtain ⟨k1, k2⟩ := i1 hl (by omega)
      rw [k1, hl, k2, decide_eq_false (by omega)]
      simp [k2]
    · rcases h with h | h
      · rw [h]; simp
      · by_cases hm : m * x.l.length ≤ 4096
        · cases hl : x.long with
          | true => simp
          | false =>
            obtain ⟨k1, k2⟩ := i1 hl hm
            rw [k2, decide_eq_true (by omega)]
            simp
        · have h0 : 0 < m := by
            rcases Nat.eq_zero_or_pos m with e | e
            · subst e; simp at hm
            · exact e
          rw [i2 h0 (.inr (by omega))]
          simp
theorem joinOf_rep {S : List FoundD} {s : Int} {x : FoundD} (hx : lookW S s = x) (hi : x.is = true) (m : Nat) (hm : 0 < m) :
    (joinOf S (List.replicate m s)).is = true ∧ (x.long = false → m * x.l.length ≤ 4096 → (joinOf S (List.replicate m s)).long = false ∧ (joinOf S (List.replicate m s)).l.length = m * x.l.length) ∧ (x.long = true ∨ 4096 < m * x.l.length → (joinOf S (List.replicate m s)).long = true ∧ (joinOf S (List.replicate m s)).l = []) := by
  obtain ⟨i1, i2⟩ := jTo_rep hx m
  have ha : (List.replicate m s).all (fun s => (lookW S s).is) = true := by
    rw [List.all_eq_true]
    intro y hy
    rw [List.eq_of_mem_replicate hy, hx, hi]
  unfold joinOf
  rw [if_pos ha]
  refine ⟨rfl, fun hl h => ?_, fun h => ?_⟩
  · obtain ⟨k1, k2⟩ := i1 hl h
    simp [k1, k2]
  · have := i2 hm h
    simp [this]

/-! ### the grammar -/
def longN (i : Nat) : ByteArray := ⟨#[110, UInt8.ofNat (97 + i)]⟩
def longT (D i : Nat) : Int := if i + 1 = D then 1 else (i : Int) + 3
def longR (D M i : Nat) : Int × List Int := ((i : Int) + 2, List.replicate M (longT D i))
def longG (D M : Nat) : GramD := ⟨[⟨#[65]⟩], (List.range D).map longN, (List.range D).map (longR D M), 2⟩
theorem longG_check : ∀ d < 7, ∀ k < 8, checkOf (longG (d + 1) (k + 1)) 2 = 0 := by decide +kernel
theorem longG_check' {D M : Nat} (h1 : 1 ≤ D) (h2 : D ≤ 7) (h3 : 1 ≤ M) (h4 : M ≤ 8) : checkOf (longG D M) 2 = 0 := by
  have := longG_check (D - 1) (by omega) (M - 1) (by omega)
  rwa [show D - 1 + 1 = D by omega, show M - 1 + 1 = M by omega] at this
theorem long_mem {D M : Nat} {r : Int × List Int} : r ∈ (longG D M).rules ↔ ∃ i, i < D ∧ r = longR D M i := by
  unfold longG
  simp only [List.mem_map, List.mem_range]
  constructor
  · rintro ⟨i, h, rfl⟩; exact ⟨i, h, rfl⟩
  · rintro ⟨i, h, rfl⟩; exact ⟨i, h, rfl⟩
theorem long_fixed {D M : Nat} {S : List FoundD} (hM : 1 ≤ M) (h : Fixed (longG D M).rules (startW 1 D) S) : ∀ k i : Nat, i + k + 1 = D →
    (lookW S ((i : Int) + 2)).is = true ∧ (M ^ (k + 1) ≤ 4096 → (lookW S ((i : Int) + 2)).long = false ∧ (lookW S ((i : Int) + 2)).l.length = M ^ (k + 1)) ∧ (4096 < M ^ (k + 1) → (lookW S ((i : Int) + 2)).long = true ∧ (lookW S ((i : Int) + 2)).l = []) := by
  have hb : ∀ r ∈ (longG D M).rules, 0 ≤ r.1 ∧ r.1 < 1 + D + 1 := fun r hr => by
    obtain ⟨i, hi, rfl⟩ := long_mem.1 hr
    unfold longR
    simp only
    omega
  obtain ⟨f1, f2⟩ := fixed_rules (T := 1) (N := D) (by simpa using hb) h
  have h1 : lookW S 1 = ⟨true, false, [1]⟩ := by
    rw [fixed_keep (s := 1) (fun r hr => ?_) h]
    · rfl
    · obtain ⟨i, hi, rfl⟩ := long_mem.1 hr
      rw [(startW_good 1 D).2]
      unfold longR
      simp only
      omega
  have step : ∀ i : Nat, i < D → (lookW S (longT D i)).is = true → (lookW S ((i : Int) + 2)).is = true ∧ lookW S ((i : Int) + 2) = joinOf S (List.replicate M (longT D i)) := fun i hi ht => by
    obtain ⟨j1, -, -⟩ := joinOf_rep (S := S) (s := longT D i) rfl ht M (by omega)
    have hno := f1 (longR D M i) (long_mem.2 ⟨i, hi, rfl⟩)
    have his : (lookW S ((i : Int) + 2)).is = true := by
      unfold betterB at hno
      have e1 : (longR D M i).2 = List.replicate M (longT D i) := rfl
      have e2 : (longR D M i).1 = (i : Int) + 2 := rfl
      rw [e1, e2, j1] at hno
      cases hc : (lookW S ((i : Int) + 2)).is with
      | true => rfl
      | false => rw [hc] at hno; simp at hno
    refine ⟨his, ?_⟩
    obtain ⟨r, hr, hl, hj⟩ := f2 ((i : Int) + 2) (by omega) his
    obtain ⟨j, hj', rfl⟩ := long_mem.1 hr
    have : j = i := by
      unfold longR at hl
      simp only at hl
      omega
    subst this
    exact hj.symm
  intro k
  induction k with
  | zero =>
    intro i hi
    have ht : longT D i = 1 := if_pos (by omega)
    obtain ⟨s1, s2⟩ := step i (by omega) (by rw [ht, h1])
    obtain ⟨-, j2, j3⟩ := joinOf_rep (S := S) (s := longT D i) (x := ⟨true, false, [1]⟩) (by rw [ht, h1]) rfl M (by omega)
    rw [← s2] at j2 j3
    simp only [List.length_cons, List.length_nil, Nat.zero_add, Nat.mul_one] at j2 j3
    rw [Nat.zero_add, Nat.pow_one]
    exact ⟨s1, fun h => j2 (by first | rfl | trivial) h, fun h => j3 (.inr h)⟩
  | succ k ih =>
    intro i hi
    have ht : longT D i = ((i + 1 : Nat) : Int) + 2 := by
      unfold longT
      rw [if_neg (by omega)]
      omega
    obtain ⟨i1, i2, i3⟩ := ih (i + 1) (by omega)
    rw [← ht] at i1 i2 i3
    obtain ⟨s1, s2⟩ := step i (by omega) i1
    obtain ⟨-, j2, j3⟩ := joinOf_rep (S := S) (s := longT D i) rfl i1 M (by omega)
    rw [← s2] at j2 j3
    have hp : M ^ (k + 1 + 1) = M * M ^ (k + 1) := by rw [Nat.pow_succ, Nat.mul_comm]
    have hge : M ^ (k + 1) ≤ M * M ^ (k + 1) := Nat.le_mul_of_pos_left _ (by omega)
    rw [hp]
    refine ⟨s1, fun h => ?_, fun h => ?_⟩
    · obtain ⟨k1, k2⟩ := i2 (by omega)
      rw [k2] at j2
      exact j2 k1 h
    · by_cases hh : M ^ (k + 1) ≤ 4096
      · obtain ⟨k1, k2⟩ := i2 hh
        rw [k2] at j3
        exact j3 (.inr h)
      · exact j3 (.inl (i3 (by omega)).1)
theorem long_two {D M : Nat} {S : List FoundD} (hD : 1 ≤ D) (hM : 1 ≤ M) (h : Fixed (longG D M).rules (startW 1 D) S) :
    (lookW S 2).is = true ∧ (M ^ D ≤ 4096 → (lookW S 2).long = false ∧ (lookW S 2).l.length = M ^ D) ∧ (4096 < M ^ D → (lookW S 2).long = true ∧ (lookW S 2).l = []) := by
  have := long_fixed hM h (D - 1) 0 (by omega)
  rwa [show D - 1 + 1 = D by omega] at this
end Go.Proofs.Ytejjaabkbkkjlaa

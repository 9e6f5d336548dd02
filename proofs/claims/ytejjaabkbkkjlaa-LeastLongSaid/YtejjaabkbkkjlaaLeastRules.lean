/- The law LeastRules: before. -/
import Derived.Test.YtejjaabkbkkjlaaLeastTells
import Derived.Test.YtejjaabkbkkjlaaLeastPlain2
namespace Go.Proofs.Ytejjaabkbkkjlaa
set_option linter.unusedVariables false
open Go.RowKit
attribute [local irreducible] wpStill wpOne wpPh

set_option maxRecDepth 100000 in
set_option maxHeartbeats 2000000 in
theorem law_before {w : World} {F G : Nat → Prop} {v u : Value} {xs ys : List Int} (h : RdI w F v xs) (g : RdI w G u ys) (he : xs.length = ys.length) :
    Calls Try.prog 49 #[v, u] w fun e w' => e = .returned (.bool (lexB xs ys)) ∧ Below w.heap.size w w' := by
  obtain ⟨A, n, c, rfl, -⟩ := id h
  obtain ⟨B, m, d, rfl, -⟩ := id g
  obtain ⟨hn, hnc, hcm, hcell⟩ := h.at_
  obtain ⟨hm, hmd, hdm, hcell'⟩ := g.at_
  unfold maxLen at hcm hdm
  clear h g
  have e : n = m := by omega
  subst e
  have hat : ∀ (k : Nat) (a b : Int), (∀ j : Nat, j < k → xs[j]? = ys[j]?) → xs[k]? = some a → ys[k]? = some b → a ≠ b → lexB xs ys = decide (a < b) := fun k a b => lexB_at
  have hall : (∀ j : Nat, j < n → xs[j]? = ys[j]?) → lexB xs ys = false := fun hh => by
    have : xs = ys := List.ext_getElem? fun j => by
      by_cases hj : j < n
      · exact hh j hj
      · rw [List.getElem?_eq_none (by omega), List.getElem?_eq_none (by omega)]
    rw [this]; exact lexB_same ys
  clear he
  have Xhn := hide hn
  have Xhm := hide hm
  have Xhat := hide hat
  have Xhall := hide hall
  clear hn hm hat hall
  go_enter Try.func49, Try.ntmps49
  go_wp2_with fail
  go_loopw [5] (fun i wr => ∃ k q : Nat, k ≤ n ∧ i = .int .i64 k ∧ (∀ j : Nat, j < k → xs[j]? = ys[j]?) ∧ wr = w.drewN q) (fun i _ => n - (intOf i).toNat)
  case atStart => exact ⟨0, 0, Nat.zero_le _, rfl, fun j hj => absurd hj (by omega), rfl⟩
  case round =>
    obtain ⟨k, q, hk, rfl, hb, rfl⟩ := hrel
    have Xhb := hide hb
    clear hb
    by_cases hlt : k < n
    · obtain ⟨b, off, rfl, -, hc1⟩ := hcell (by omega)
      obtain ⟨b', off', rfl, -, hc2⟩ := hcell' (by omega)
      obtain ⟨x, hx⟩ : ∃ x, xs[k]? = some x := ⟨_, List.getElem?_eq_getElem (by rw [← Xhn.out]; exact hlt)⟩
      obtain ⟨y, hy⟩ : ∃ x, ys[k]? = some x := ⟨_, List.getElem?_eq_getElem (by rw [← Xhm.out]; exact hlt)⟩
      have q1 := hc1 k x hx
      have q2 := hc2 k y hy
      have hlt' : (k : Int) < (n : Int) := by omega
      have hk0 : (0 : Int) ≤ (k : Int) := by omega
      by_cases he : x = y
      · have hne : (x != y) = false := by simp [he]
        have Xhx := hide hx
        have Xhy := hide hy
        have Xhe := hide he
        clear hx hy he
        clear hcell hcell' hc1 hc2
        go_wp2_with fail
        refine region_reads (by kernel_rfl) (by kernel_rfl) ?_
        repeat still_step
        refine wpStill_nil ?_
        go_wp2_with fail
        go_roundw
        case rel => exact ⟨k + 1, q + 1, by omega, by go_num, fun j hj => by
          by_cases e : j = k
          · subst e; rw [Xhx.out, Xhy.out, Xhe.out]
          · exact Xhb.out j (by omega), rfl⟩
        case measure => simp [intOf]; omega
      · have hne : (x != y) = true := by simpa using he
        have hfin := Xhat.out k x y Xhb.out hx hy he
        have Xhx := hide hx
        have Xhy := hide hy
        have Xhe := hide he
        have Xhfin := hide hfin
        clear hx hy he hfin
        clear hcell hcell' hc1 hc2
        go_wp2_with fail
        refine region_reads (by kernel_rfl) (by kernel_rfl) ?_
        repeat still_step
        refine wpStill_nil ?_
        go_wp2_with fail
        refine region_reads (by kernel_rfl) (by kernel_rfl) ?_
        repeat still_step
        refine wpStill_nil ?_
        go_wp2_with fail
        go_ret
        exact ⟨ret_bool Xhfin.out.symm, below_drewN (Below.refl _ w) (q + 2)⟩
    · clear hcell hcell'
      go_wp2_with fail
      go_ret
      exact ⟨ret_bool (Xhall.out fun j hj => Xhb.out j (by omega)).symm, below_drewN (Below.refl _ w) q⟩

/-! ### the plain law, as the walk asks it -/
/-- what Word tells of a symbol, Line of a rule's right side -/
def okW (x : FoundD) : Bool := x.is && !x.long
theorem join_one (S : List FoundD) (T : Nat) (hg : GoodS T S) (s : Int) : joinOf S [s] = lookW S s := by
  have h1 := hg.look s
  unfold joinOf
  simp only [List.all_cons, List.all_nil, Bool.and_true]
  by_cases hi : (lookW S s).is = true
  · rw [if_pos hi]
    obtain ⟨⟨i, lg, l⟩, hx⟩ : ∃ x, lookW S s = x := ⟨_, rfl⟩
    rw [hx] at hi h1 ⊢
    simp only at hi
    subst hi
    have hj : jTo S [s] = (lg, if lg = true then [] else l) := by
      have h4 := h1.len
      simp only at h4
      show jStep S (false, []) s = _
      unfold jStep
      rw [hx]
      cases lg <;> simp [show ¬ 4096 < l.length by omega]
    rw [hj]
    cases lg with
    | true => have := h1.long rfl; simp only at this; rw [this]; rfl
    | false => rfl
  · rw [if_neg hi]
    have := h1.no (by simpa using hi)
    obtain ⟨⟨i, lg, l⟩, hx⟩ : ∃ x, lookW S s = x := ⟨_, rfl⟩
    rw [hx] at hi this ⊢
    simp only at this hi
    obtain ⟨rfl, rfl⟩ := this
    have : i = false := by simpa using hi
    subst this
    rfl
/-- no rule's word is less -/
theorem rule_not_less {x y : FoundD} (h : betterB y x = false) (hy : okW y = true) : okW x = true ∧ ¬ y.l.length < x.l.length ∧ (y.l.length = x.l.length → lexB y.l x.l = false) := by
  unfold betterB okW at *
  obtain ⟨xi, xl, xs⟩ := x
  obtain ⟨yi, yl, ys⟩ := y
  simp only at *
  rw [Bool.and_eq_true] at hy
  obtain ⟨rfl, hyl⟩ := hy
  have : yl = false := by simpa using hyl
  subst this
  cases xi <;> cases xl <;> simp at h ⊢
  unfold lessB at h
  by_cases e : ys.length = xs.length
  · rw [if_pos e] at h; exact ⟨by omega, fun _ => h⟩
  · rw [if_neg e, decide_eq_false_iff_not] at h; exact ⟨by omega, fun h' => absurd h' e⟩
theorem of_mem {G : GramD} {s i : Int} : i ∈ ofOf G s ↔ ∃ (n : Nat) (x : List Int), i = n ∧ G.rules[n]? = some (s, x) := by
  unfold ofOf ofUpto
  rw [List.mem_map]
  constructor
  · rintro ⟨n, hn, rfl⟩
    rw [List.mem_filter, decide_eq_true_eq] at hn
    obtain ⟨⟨l, x⟩, hx, hl⟩ := Option.map_eq_some_iff.1 hn.2
    simp only at hl
    subst hl
    exact ⟨n, x, rfl, hx⟩
  · rintro ⟨n, x, rfl, hx⟩
    refine ⟨n, ?_, rfl⟩
    rw [List.mem_filter, decide_eq_true_eq, hx]
    exact ⟨List.mem_range.2 (List.getElem?_eq_some_iff.1 hx).1, rfl⟩
def rightOf (G : GramD) (i : Int) : List Int := ((G.rules[i.toNat]?).getD (0, [])).2
theorem rightOf_nat {G : GramD} {n : Nat} {s : Int} {x : List Int} (h : G.rules[n]? = some (s, x)) : rightOf G n = x := by
  unfold rightOf; rw [Int.toNat_natCast, h]; rfl
/-- has one of so many rules the word? -/
def metUpto (S : List FoundD) (G : GramD) (ls : List Int) (x : FoundD) (k : Nat) : Bool := (ls.take k).any fun i => okW (joinOf S (rightOf G i)) && okW x && decide (x.l = (joinOf S (rightOf G i)).l)
theorem metUpto_succ {S : List FoundD} {G : GramD} {ls : List Int} {x : FoundD} {k : Nat} {i : Int} (h : ls[k]? = some i) : metUpto S G ls x (k + 1) = (metUpto S G ls x k || (okW (joinOf S (rightOf G i)) && okW x && decide (x.l = (joinOf S (rightOf G i)).l))) := by
  unfold metUpto
  rw [List.take_add_one, h, List.any_append]
  simp
theorem metUpto_end {S : List FoundD} {G : GramD} {s : Int} (h : (lookW S s).is = true → ∃ r ∈ G.rules, r.1 = s ∧ joinOf S r.2 = lookW S s) : metUpto S G (ofOf G s) (lookW S s) (ofOf G s).length = okW (lookW S s) := by
  unfold metUpto
  rw [List.take_length, Bool.eq_iff_iff, List.any_eq_true]
  constructor
  · rintro ⟨i, _, hi⟩
    rw [Bool.and_eq_true, Bool.and_eq_true] at hi
    exact hi.1.2
  · intro hok
    have hi : (lookW S s).is = true := by unfold okW at hok; rw [Bool.and_eq_true] at hok; exact hok.1
    obtain ⟨⟨l, x⟩, hr, hl, hj⟩ := h hi
    simp only at hl hj
    subst hl
    obtain ⟨n, hn, he⟩ := List.getElem_of_mem hr
    have hx : G.rules[n]? = some (l, x) := by rw [List.getElem?_eq_getElem hn, he]
    refine ⟨n, of_mem.2 ⟨n, x, rfl, hx⟩, ?_⟩
    rw [rightOf_nat hx, hj, hok]
    simp
end Go.Proofs.Ytejjaabkbkkjlaa

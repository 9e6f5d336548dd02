/- Least words: numbers compared, words compared. -/
import Derived.Test.YtlpokomfljmogaaGreatLeastPlain
import Derived.Test.YtlpokomfljmogaaGreatG4
import Derived.Test.YtlpokomfljmogaaGreatRegion
namespace Go.Proofs.YtlpokomfljmogaaGreat
set_option linter.unusedVariables false
open Go.RowKit
attribute [local irreducible] wpStill wpOne wpPh
theorem ref_ints3 {w : World} {F G : Nat → Prop} {v u : Value} {xs ys : List Int} (h : RdI w F v xs) (g : RdI w G u ys) :
  Calls Tryz.prog 42 #[v, u] w (Quiet w (.bool (decide (xs = ys)))) := by
 obtain ⟨A, n, c, rfl, _⟩ := id h
 obtain ⟨B, m, d, rfl, _⟩ := id g
 obtain ⟨hn, hnc, hcm, hcell⟩ := h.at_
 obtain ⟨hm, hmd, hdm, hcell'⟩ := g.at_
 unfold maxLen at hcm hdm
 by_cases hnm : n = m
 ·subst hnm
  have HN := hide hn
  have HM := hide hm
  clear hn hm
  go_enter Tryz.func42, Tryz.ntmps42
  go_wp2
  go_loopw [5] (fun i wr => ∃ k q : Nat, k ≤ n ∧ i = .int .i64 k ∧ wr = w.drewN q ∧ ∀ j : Nat, j < k → xs[j]? = ys[j]?) (fun i _ => n - (intOf i).toNat)
  case atStart => exact ⟨0, 0, Nat.zero_le _, rfl, rfl, fun j hj => absurd hj (by omega)⟩
  case round =>
   obtain ⟨k, q, hk, rfl, rfl, hbefore⟩ := hrel
   have HB := hide hbefore
   clear hbefore
   by_cases hlt : k < n
   ·obtain ⟨b, off, rfl, _, hc⟩ := hcell (by omega)
    obtain ⟨b', off', rfl, _, hc'⟩ := hcell' (by omega)
    obtain ⟨x, hx⟩ : ∃ x, xs[k]? = some x := ⟨_, List.getElem?_eq_getElem (by rw [← HN.out]; omega)⟩
    obtain ⟨y, hy⟩ : ∃ y, ys[k]? = some y := ⟨_, List.getElem?_eq_getElem (by rw [← HM.out]; omega)⟩
    have hcx := hc k x hx
    have hcy := hc' k y hy
    have HX := hide hx
    have HY := hide hy
    clear hcell hc hx hcell' hc' hy
    by_cases he : x = y
    ·have HE := hide he
     have he' : (x == y) = true := by subst he; simp
     clear he
     go_wp2_with fail
     go_quiet (fail)
     go_wp2
     go_roundw
     case rel =>
      refine ⟨k + 1, q + nq, by omega, by go_num, rfl, fun j hj => ?_⟩
      by_cases hjk : j = k
      ·subst hjk; rw [HX.out, HY.out, HE.out]
      ·exact HB.out j (by omega)
     case measure => simp [intOf]; omega
    ·have HE := hide he
     have he' : (x == y) = false := by simpa using he
     clear he
     go_wp2_with fail
     go_quiet (fail)
     go_wp2
     go_ret
     refine ⟨ret_bool ?_, ⟨rfl, rfl, rfl, Nat.le_refl _, fun _ _ => rfl⟩⟩
     symm
     rw [decide_eq_false_iff_not]
     rintro rfl
     rw [HX.out] at HY
     have := HY.out
     injection this with this
     exact HE.out this
   ·go_wp2
    go_ret
    refine ⟨ret_bool ?_, ⟨rfl, rfl, rfl, Nat.le_refl _, fun _ _ => rfl⟩⟩
    symm
    rw [decide_eq_true_eq]
    apply List.ext_getElem?
    intro j
    by_cases hj : j < n
    ·exact HB.out j (by omega)
    ·rw [List.getElem?_eq_none (by rw [← HN.out]; omega), List.getElem?_eq_none (by rw [← HM.out]; omega)]
 ·have hne : ((n : Int) == (m : Int)) = false := by simpa using (by omega : ¬ (n : Int) = (m : Int))
  have HN := hide hn
  have HM := hide hm
  clear hn hm
  go_enter Tryz.func42, Tryz.ntmps42
  go_wp2
  go_ret
  refine ⟨ret_bool ?_, ⟨rfl, rfl, rfl, Nat.le_refl _, fun _ _ => rfl⟩⟩
  symm
  rw [decide_eq_false_iff_not]
  rintro rfl
  exact hnm (by rw [HN.out, HM.out])
def cmpI (a b : Int) : Int := if a < b then -1 else if b < a then 1 else 0
theorem cmp_nan (a : Int) (w : World) : Calls Tryz.prog 155 #[.int .i64 a] w fun e w' => e = .returned (.bool false) ∧ w = w' := by
 have h : (a != a) = false := by simp
 go_enter Tryz.func155, Tryz.ntmps155
 go_wp2_with fail
 go_ret
 exact ⟨rfl, by first | rfl | trivial⟩
theorem cmp_compare (a b : Int) (w : World) : Calls Tryz.prog 109 #[.int .i64 a, .int .i64 b] w fun e w' => e = .returned (.int .i64 (cmpI a b)) ∧ w = w' := by
 have hn : ∀ a, Calls Tryz.prog 155 #[.int .i64 a] w fun e w' => e = .returned (.bool false) ∧ w = w' := fun a => cmp_nan a w
 have hv : cmpI a b = if a < b then -1 else if b < a then 1 else 0 := rfl
 by_cases h1 : a < b
 ·rw [if_pos h1] at hv
  have Xhn := hide hn
  have Xhv := hide hv
  clear hn hv
  go_enter Tryz.func109, Tryz.ntmps109
  go_wp2_with fail
  refine (Xhn.out _).mono ?_
  rintro e w' ⟨rfl, rfl⟩
  go_wp2_with fail
  refine (Xhn.out _).mono ?_
  rintro e w' ⟨rfl, rfl⟩
  go_wp2_with fail
  go_ret
  exact ⟨ret_int Xhv.out.symm, by first | rfl | trivial⟩
 ·rw [if_neg h1] at hv
  by_cases h2 : b < a
  ·rw [if_pos h2] at hv
   have Xhn := hide hn
   have Xhv := hide hv
   clear hn hv
   go_enter Tryz.func109, Tryz.ntmps109
   go_wp2_with fail
   refine (Xhn.out _).mono ?_
   rintro e w' ⟨rfl, rfl⟩
   go_wp2_with fail
   refine (Xhn.out _).mono ?_
   rintro e w' ⟨rfl, rfl⟩
   go_wp2_with fail
   go_ret
   exact ⟨ret_int Xhv.out.symm, by first | rfl | trivial⟩
  ·rw [if_neg h2] at hv
   have Xhn := hide hn
   have Xhv := hide hv
   clear hn hv
   go_enter Tryz.func109, Tryz.ntmps109
   go_wp2_with fail
   refine (Xhn.out _).mono ?_
   rintro e w' ⟨rfl, rfl⟩
   go_wp2_with fail
   refine (Xhn.out _).mono ?_
   rintro e w' ⟨rfl, rfl⟩
   go_wp2_with fail
   go_ret
   exact ⟨ret_int Xhv.out.symm, by first | rfl | trivial⟩
theorem lexB_at : ∀ {xs ys : List Int} {k : Nat} {a b : Int}, (∀ j : Nat, j < k → xs[j]? = ys[j]?) → xs[k]? = some a → ys[k]? = some b → a ≠ b → lexB xs ys = decide (a < b)
 | x :: r, y :: t, 0, a, b, _, hx, hy, hne => by
  simp at hx hy
  subst hx hy
  unfold lexB
  rw [if_neg hne]
 | x :: r, y :: t, k + 1, a, b, hb, hx, hy, hne => by
  have h0 := hb 0 (by omega)
  simp at h0
  unfold lexB
  rw [if_pos h0]
  exact lexB_at (k := k) (fun j hj => by have := hb (j + 1) (by omega); simpa using this) (by simpa using hx) (by simpa using hy) hne
 | [], _, _, _, _, _, hx, _, _ => by simp at hx
 | _ :: _, [], _, _, _, _, _, hy, _ => by simp at hy
theorem lexB_same : ∀ (xs : List Int), lexB xs xs = false
 | [] => rfl
 | x :: r => by unfold lexB; rw [if_pos rfl]; exact lexB_same r
set_option maxRecDepth 100000 in
set_option maxHeartbeats 2000000 in
theorem compare_ints {w : World} {F G : Nat → Prop} {v u : Value} {xs ys : List Int} (h : RdI w F v xs) (g : RdI w G u ys) (hlen : xs.length = ys.length) :
  Calls Tryz.prog 80 #[v, u] w fun e w' => (∃ c : Int, e = .returned (.int .i64 c) ∧ decide (c < 0) = lexB xs ys) ∧ w = w' := by
 obtain ⟨A, n, c, rfl, -⟩ := id h
 obtain ⟨B, m, d, rfl, -⟩ := id g
 obtain ⟨hn, hnc, hcm, hcell⟩ := h.at_
 obtain ⟨hm, hmd, hdm, hcell'⟩ := g.at_
 have hnm : m = n := by omega
 subst hnm
 unfold maxLen at hcm hdm
 have hc : ∀ a b, Calls Tryz.prog 109 #[.int .i64 a, .int .i64 b] w fun e w' => e = .returned (.int .i64 (cmpI a b)) ∧ w = w' := fun a b => cmp_compare a b w
 have hat : ∀ (k : Nat) (a b : Int), (∀ j : Nat, j < k → xs[j]? = ys[j]?) → xs[k]? = some a → ys[k]? = some b → a ≠ b → lexB xs ys = decide (a < b) := fun k a b => lexB_at
 have hall : (∀ j : Nat, j < m → xs[j]? = ys[j]?) → lexB xs ys = false := fun hh => by
  have : xs = ys := List.ext_getElem? fun j => by
   by_cases hj : j < m
   ·exact hh j hj
   ·rw [List.getElem?_eq_none (by omega), List.getElem?_eq_none (by omega)]
  rw [this]; exact lexB_same ys
 have Xhn := hide hn
 have Xhm := hide hm
 have Xhlen := hide hlen
 have Xhc := hide hc
 have Xhat := hide hat
 have Xhall := hide hall
 clear hn hm hlen hc hat hall
 clear h g
 go_enter Tryz.func80, Tryz.ntmps80
 go_wp2_with fail
 go_loopw [11] (fun i wr => ∃ k : Nat, k ≤ m ∧ i = .int .i64 k ∧ (∀ j : Nat, j < k → xs[j]? = ys[j]?) ∧ w = wr) (fun i _ => m - (intOf i).toNat)
 case atStart => exact ⟨0, Nat.zero_le _, rfl, fun j hj => absurd hj (by omega), rfl⟩
 case round =>
  obtain ⟨k, hk, rfl, hb, rfl⟩ := hrel
  have Xhb := hide hb
  clear hb
  by_cases hlt : k < m
  ·obtain ⟨b, off, rfl, -, hc1⟩ := hcell (by omega)
   obtain ⟨b', off', rfl, -, hc2⟩ := hcell' (by omega)
   obtain ⟨x, hx⟩ : ∃ x, xs[k]? = some x := ⟨_, List.getElem?_eq_getElem (by rw [← Xhn.out]; exact hlt)⟩
   obtain ⟨y, hy⟩ : ∃ x, ys[k]? = some x := ⟨_, List.getElem?_eq_getElem (by rw [← Xhm.out]; exact hlt)⟩
   have q1 := hc1 k x hx
   have q2 := hc2 k y hy
   have hcc := Xhc.out x y
   have hlt' : (k : Int) < (m : Int) := by omega
   by_cases he : x = y
   ·have hz : cmpI x y = 0 := by unfold cmpI; rw [if_neg (by omega), if_neg (by omega)]
    rw [hz] at hcc
    have Xhx := hide hx
    have Xhy := hide hy
    have Xhcc := hide hcc
    have Xhe := hide he
    have Xhz := hide hz
    clear hx hy hcc he hz
    clear hcell hcell' hc1 hc2
    go_wp2_with fail
    refine Xhcc.out.mono ?_
    rintro e w' ⟨rfl, rfl⟩
    go_wp2_with fail
    go_roundw
    case rel => exact ⟨k + 1, by omega, by go_num, fun j hj => by
     by_cases e : j = k
     ·subst e; rw [Xhx.out, Xhy.out, Xhe.out]
     ·exact Xhb.out j (by omega), by first | rfl | trivial⟩
    case measure => simp [intOf]; omega
   ·have hz : (cmpI x y != 0) = true := by
     unfold cmpI
     by_cases h1 : x < y
     ·rw [if_pos h1]; rfl
     ·rw [if_neg h1, if_pos (by omega)]; rfl
    have hfin : decide (cmpI x y < 0) = lexB xs ys := by
     rw [Xhat.out k x y Xhb.out hx hy he]
     unfold cmpI
     by_cases h1 : x < y
     ·rw [if_pos h1, decide_eq_true h1]; rfl
     ·rw [if_neg h1, if_pos (by omega), decide_eq_false h1]; rfl
    generalize cmpI x y = cv at *
    have Xhx := hide hx
    have Xhy := hide hy
    have Xhcc := hide hcc
    have Xhe := hide he
    have Xhfin := hide hfin
    clear hx hy hcc he hfin
    clear hcell hcell' hc1 hc2
    go_wp2_with fail
    refine Xhcc.out.mono ?_
    rintro e w' ⟨rfl, rfl⟩
    go_wp2_with fail
    go_ret
    exact ⟨⟨cv, rfl, Xhfin.out⟩, by first | rfl | trivial⟩
  ·clear hcell hcell'
   go_wp2_with fail
   go_ret
   exact ⟨⟨0, rfl, (Xhall.out fun j hj => Xhb.out j (by omega)).symm⟩, by first | rfl | trivial⟩
theorem Tryz.enters_less : Enters Tryz.prog 170 := enters_of Tryz.func170 (by kernel_rfl) rfl
theorem less_clo {w : World} {F G : Nat → Prop} {v u : Value} {xs ys : List Int} (h : RdI w F v xs) (g : RdI w G u ys) :
  Calls Tryz.prog 170 #[v, u] w fun e w' => e = .returned (.bool (lessB xs ys)) ∧ w = w' := by
 have hc := fun hl => compare_ints h g hl
 have hl : lessB xs ys = if xs.length = ys.length then lexB xs ys else decide (xs.length < ys.length) := rfl
 obtain ⟨A, n, c, rfl, -⟩ := id h
 obtain ⟨B, m, d, rfl, -⟩ := id g
 obtain ⟨hn, hnc, hcm, -⟩ := h.at_
 obtain ⟨hm, hmd, hdm, -⟩ := g.at_
 unfold maxLen at hcm hdm
 rw [← hn, ← hm] at hl hc
 clear h g
 by_cases e : n = m
 ·subst e
  have hc := hc rfl
  rw [if_pos rfl] at hl
  have Xhc := hide hc
  have Xhl := hide hl
  have Xhn := hide hn
  have Xhm := hide hm
  clear hc hl hn hm
  go_enter Tryz.func170, Tryz.ntmps170
  go_wp2_with fail
  refine Xhc.out.mono ?_
  rintro e w' ⟨⟨cv, rfl, hcv⟩, rfl⟩
  have Xhcv := hide hcv
  clear hcv
  go_wp2_with fail
  go_ret
  exact ⟨ret_bool (by rw [Xhl.out]; exact Xhcv.out), by first | rfl | trivial⟩
 ·have hne : ((n : Int) != (m : Int)) = true := by simpa using (by omega : ¬ (n : Int) = (m : Int))
  rw [if_neg e] at hl
  have Xhc := hide hc
  have Xhl := hide hl
  have Xhn := hide hn
  have Xhm := hide hm
  clear hc hl hn hm
  go_enter Tryz.func170, Tryz.ntmps170
  go_wp2_with fail
  go_ret
  exact ⟨ret_bool (by rw [Xhl.out]), by first | rfl | trivial⟩
set_option maxRecDepth 100000 in
set_option maxHeartbeats 2000000 in
theorem ref_less {w : World} {F G : Nat → Prop} {v u : Value} {xs ys : List Int} (h : RdI w F v xs) (g : RdI w G u ys) :
  Calls Tryz.prog 181 #[v, u] w fun e w' => e = .returned (.bool (lessB xs ys)) ∧ ∃ q, w' = w.drewN q := by
 have hl : lessB xs ys = if xs.length = ys.length then lexB xs ys else decide (xs.length < ys.length) := rfl
 obtain ⟨A, n, c, rfl, -⟩ := id h
 obtain ⟨B, m, d, rfl, -⟩ := id g
 obtain ⟨hn, hnc, hcm, hcell⟩ := h.at_
 obtain ⟨hm, hmd, hdm, hcell'⟩ := g.at_
 unfold maxLen at hcm hdm
 rw [← hn, ← hm] at hl
 clear h g
 by_cases e : n = m
 ·subst e
  rw [if_pos rfl] at hl
  have hat : ∀ (k : Nat) (a b : Int), (∀ j : Nat, j < k → xs[j]? = ys[j]?) → xs[k]? = some a → ys[k]? = some b → a ≠ b → lexB xs ys = decide (a < b) := fun k a b => lexB_at
  have hall : (∀ j : Nat, j < n → xs[j]? = ys[j]?) → lexB xs ys = false := fun hh => by
   have : xs = ys := List.ext_getElem? fun j => by
    by_cases hj : j < n
    ·exact hh j hj
    ·rw [List.getElem?_eq_none (by omega), List.getElem?_eq_none (by omega)]
   rw [this]; exact lexB_same ys
  have Xhl := hide hl
  have Xhn := hide hn
  have Xhm := hide hm
  have Xhat := hide hat
  have Xhall := hide hall
  clear hl hn hm hat hall
  go_enter Tryz.func181, Tryz.ntmps181
  go_wp2_with fail
  go_loopw [5] (fun i wr => ∃ k q : Nat, k ≤ n ∧ i = .int .i64 k ∧ (∀ j : Nat, j < k → xs[j]? = ys[j]?) ∧ wr = w.drewN q) (fun i _ => n - (intOf i).toNat)
  case atStart => exact ⟨0, 0, Nat.zero_le _, rfl, fun j hj => absurd hj (by omega), rfl⟩
  case round =>
   obtain ⟨k, q, hk, rfl, hb, rfl⟩ := hrel
   have Xhb := hide hb
   clear hb
   by_cases hlt : k < n
   ·obtain ⟨b, off, rfl, -, hc1⟩ := hcell (by omega)
    obtain ⟨b', off', rfl, -, hc2⟩ := hcell' (by omega)
    obtain ⟨x, hx⟩ : ∃ x, xs[k]? = some x := ⟨_, List.getElem?_eq_getElem (by rw [← Xhn.out]; exact hlt)⟩
    obtain ⟨y, hy⟩ : ∃ x, ys[k]? = some x := ⟨_, List.getElem?_eq_getElem (by rw [← Xhm.out]; exact hlt)⟩
    have q1 := hc1 k x hx
    have q2 := hc2 k y hy
    have hlt' : (k : Int) < (n : Int) := by omega
    have hk0 : (0 : Int) ≤ (k : Int) := by omega
    by_cases he : x = y
    ·have hne : (x != y) = false := by simp [he]
     have Xhx := hide hx
     have Xhy := hide hy
     have Xhe := hide he
     clear hx hy he
     clear hcell hcell' hc1 hc2
     go_wp2_with fail
     refine region_reads (by kernel_rfl) (by kernel_rfl) ?_
     repeat still_step
     refine wpStill_nil ?_
     go_wp2_with fail
     go_roundw
     case rel => exact ⟨k + 1, q + 1, by omega, by go_num, fun j hj => by
      by_cases e : j = k
      ·subst e; rw [Xhx.out, Xhy.out, Xhe.out]
      ·exact Xhb.out j (by omega), rfl⟩
     case measure => simp [intOf]; omega
    ·have hne : (x != y) = true := by simpa using he
     have hfin := Xhat.out k x y Xhb.out hx hy he
     have Xhx := hide hx
     have Xhy := hide hy
     have Xhe := hide he
     have Xhfin := hide hfin
     clear hx hy he hfin
     clear hcell hcell' hc1 hc2
     go_wp2_with fail
     refine region_reads (by kernel_rfl) (by kernel_rfl) ?_
     repeat still_step
     refine wpStill_nil ?_
     go_wp2_with fail
     refine region_reads (by kernel_rfl) (by kernel_rfl) ?_
     repeat still_step
     refine wpStill_nil ?_
     go_wp2_with fail
     go_ret
     exact ⟨ret_bool (by rw [Xhl.out, Xhfin.out]), q + 2, rfl⟩
   ·clear hcell hcell'
    go_wp2_with fail
    go_ret
    exact ⟨ret_bool (by rw [Xhl.out, Xhall.out fun j hj => Xhb.out j (by omega)]), q, rfl⟩
 ·have hne : ((n : Int) != (m : Int)) = true := by simpa using (by omega : ¬ (n : Int) = (m : Int))
  rw [if_neg e] at hl
  have Xhl := hide hl
  have Xhn := hide hn
  have Xhm := hide hm
  clear hl hn hm
  clear hcell hcell'
  go_enter Tryz.func181, Tryz.ntmps181
  go_wp2_with fail
  go_ret
  exact ⟨ret_bool (by rw [Xhl.out]), 0, rfl⟩
end Go.Proofs.YtlpokomfljmogaaGreat

/- The law LiveMore: within, the plain law. -/
import Derived.Test.YtejjaabkbkkjlaaLiveAwake
import Derived.Test.YtejjaabkbkkjlaaLivePlain3
import Derived.Test.YtejjaabkbkkjlaaReads
namespace Go.Proofs.Ytejjaabkbkkjlaa
set_option linter.unusedVariables false
open Go.RowKit
attribute [local irreducible] wpStill wpOne wpPh

def withinB (a b : List Int) : Bool := a.all fun x => decide (x ∈ b)
theorem withinB_no {a b : List Int} {k : Nat} {x : Int} (h : a[k]? = some x) (hn : x ∉ b) : withinB a b = false := by
  unfold withinB
  rw [List.all_eq_false]
  exact ⟨x, List.mem_of_getElem? h, by simpa using hn⟩
theorem withinB_yes {a b : List Int} (h : ∀ (j : Nat) (x : Int), a[j]? = some x → x ∈ b) : withinB a b = true := by
  unfold withinB
  rw [List.all_eq_true]
  intro x hx
  obtain ⟨j, hj, e⟩ := List.getElem_of_mem hx
  exact decide_eq_true (h j x (by rw [List.getElem?_eq_getElem hj, e]))

set_option maxRecDepth 100000 in
set_option maxHeartbeats 2000000 in
theorem law_within {w : World} {F G : Nat → Prop} {v u : Value} {xs ys : List Int} (h : RdI w F v xs) (g : RdI w G u ys) :
    Calls Try.prog 60 #[v, u] w (Quiet w (.bool (withinB xs ys))) := by
  obtain ⟨A, n, c, rfl, -⟩ := id h
  obtain ⟨B, m, d, rfl, -⟩ := id g
  obtain ⟨hn, hnc, hcm, hcell⟩ := h.at_
  obtain ⟨hm, hmd, hdm, hcell'⟩ := g.at_
  unfold maxLen at hcm hdm
  clear h g
  have Xhn := hide hn
  have Xhm := hide hm
  clear hn hm
  go_enter Try.func60, Try.ntmps60
  go_wp2_with fail
  go_loopw [5] (fun i wr => ∃ k q : Nat, k ≤ n ∧ i = .int .i64 k ∧ (∀ (j : Nat) (x : Int), j < k → xs[j]? = some x → x ∈ ys) ∧ wr = w.drewN q) (fun i _ => n - (intOf i).toNat)
  case atStart => exact ⟨0, 0, Nat.zero_le _, rfl, fun j x hj => absurd hj (by omega), rfl⟩
  case round =>
    obtain ⟨k, q, hk, rfl, hb, rfl⟩ := hrel
    by_cases hlt : k < n
    · have hlt' : (k : Int) < (n : Int) := by omega
      obtain ⟨b, off, rfl, -, hc1⟩ := hcell (by omega)
      obtain ⟨x, hx⟩ : ∃ x, xs[k]? = some x := ⟨_, List.getElem?_eq_getElem (by rw [← Xhn.out]; exact hlt)⟩
      have hcx := hc1 k x hx
      have Xhb := hide hb
      have Xhx := hide hx
      clear hb hx
      clear hc1 hcell
      go_wp2_with fail
      go_loopw [6, 7] (fun th i wr => ∃ (p q' : Nat) (t : Bool), p ≤ m ∧ i = .int .i64 p ∧ th = .bool t ∧ (t = true → x ∈ ys) ∧ (t = false → ∀ (j : Nat) (y : Int), j < p → ys[j]? = some y → y ≠ x) ∧ wr = w.drewN q') (fun _ i _ => m - (intOf i).toNat)
      case atStart => exact ⟨0, q, false, Nat.zero_le _, rfl, rfl, fun h => (by cases h), fun _ j y hj => absurd hj (by omega), rfl⟩
      case round =>
        obtain ⟨p, q', t, hp, rfl, rfl, ht1, ht2, rfl⟩ := hrel
        by_cases hpm : p < m
        · have hpm' : (p : Int) < (m : Int) := by omega
          obtain ⟨b', off', rfl, -, hc2⟩ := hcell' (by omega)
          obtain ⟨y, hy⟩ : ∃ y, ys[p]? = some y := ⟨_, List.getElem?_eq_getElem (by rw [← Xhm.out]; exact hpm)⟩
          have hcy := hc2 p y hy
          clear hc2 hcell'
          cases t with
          | true =>
            have hin := ht1 rfl
            have Xhy := hide hy
            have Xhin := hide hin
            have Xht1 := hide ht1
            have Xht2 := hide ht2
            clear hy hin ht1 ht2
            go_wp2_with fail
            refine region_reads (by kernel_rfl) (by kernel_rfl) ?_
            repeat still_step
            refine wpStill_nil ?_
            go_wp2_with fail
            go_roundw
            case rel => exact ⟨p + 1, q' + 1, true, by omega, by go_num, rfl, fun _ => Xhin.out, fun h => (by cases h), rfl⟩
            case measure => simp [intOf]; omega
          | false =>
            have hno := ht2 rfl
            by_cases he : x = y
            · have heq : (x == y) = true := by simpa using he
              have hin : x ∈ ys := by rw [he]; exact List.mem_of_getElem? hy
              have Xhy := hide hy
              have Xhno := hide hno
              have Xhe := hide he
              have Xht1 := hide ht1
              have Xht2 := hide ht2
              have Xhin := hide hin
              clear hy hno he ht1 ht2 hin
              go_wp2_with fail
              refine region_reads (by kernel_rfl) (by kernel_rfl) ?_
              repeat still_step
              refine wpStill_nil ?_
              go_wp2_with fail
              go_roundw
              case rel => exact ⟨p + 1, q' + 1, true, by omega, by go_num, rfl, fun _ => Xhin.out, fun h => (by cases h), rfl⟩
              case measure => simp [intOf]; omega
            · have heq : (x == y) = false := by simpa using he
              have hno2 : ∀ (j : Nat) (z : Int), j < p + 1 → ys[j]? = some z → z ≠ x := fun j z hj hz => by
                by_cases e : j = p
                · subst e; rw [hy] at hz; injection hz with hz; rw [← hz]; exact fun h => he h.symm
                · exact hno j z (by omega) hz
              have Xhy := hide hy
              have Xhno := hide hno
              have Xhe := hide he
              have Xht1 := hide ht1
              have Xht2 := hide ht2
              have Xhno2 := hide hno2
              clear hy hno he ht1 ht2 hno2
              go_wp2_with fail
              refine region_reads (by kernel_rfl) (by kernel_rfl) ?_
              repeat still_step
              refine wpStill_nil ?_
              go_wp2_with fail
              go_roundw
              case rel => exact ⟨p + 1, q' + 1, false, by omega, by go_num, rfl, fun h => (by cases h), fun _ => Xhno2.out, rfl⟩
              case measure => simp [intOf]; omega
        · have hpe : p = m := by omega
          have hpm' : ¬ (p : Int) < (m : Int) := by omega
          cases t with
          | true =>
            have hb2 : ∀ (j : Nat) (z : Int), j < k + 1 → xs[j]? = some z → z ∈ ys := fun j z hj hz => by
              by_cases e : j = k
              · subst e; rw [Xhx.out] at hz; injection hz with hz; rw [← hz]; exact ht1 rfl
              · exact Xhb.out j z (by omega) hz
            have Xht1 := hide ht1
            have Xht2 := hide ht2
            have Xhb2 := hide hb2
            clear ht1 ht2 hb2
            clear hcell'
            go_wp2_with fail
            go_roundw
            case rel => exact ⟨k + 1, q', by omega, by go_num, Xhb2.out, rfl⟩
            case measure => simp [intOf]; omega
          | false =>
            have fin := withinB_no (b := ys) Xhx.out fun hin => by
              obtain ⟨j, hj, e⟩ := List.getElem_of_mem hin
              exact ht2 rfl j x (by have := Xhm.out; omega) (by rw [List.getElem?_eq_getElem hj, e]) rfl
            have Xht1 := hide ht1
            have Xht2 := hide ht2
            have Xfin := hide fin
            clear ht1 ht2 fin
            clear hcell'
            go_wp2_with fail
            go_ret
            exact ⟨ret_bool Xfin.out.symm, below_drewN (Below.refl _ w) q'⟩
    · have hlt' : ¬ (k : Int) < (n : Int) := by omega
      have fin := withinB_yes fun j x hx => hb j x (by have := (List.getElem?_eq_some_iff.1 hx).1; have := Xhn.out; omega) hx
      have Xhb := hide hb
      have Xfin := hide fin
      clear hb fin
      clear hcell hcell'
      go_wp2_with fail
      go_ret
      exact ⟨ret_bool Xfin.out.symm, below_drewN (Below.refl _ w) q⟩

/-! ### a rule more -/
def moreG (G : GramD) (r : Int × List Int) (st : Int) : GramD := ⟨G.terms, G.nons, G.rules ++ [r], st⟩
theorem more_prd {G : GramD} {r : Int × List Int} {st s : Int} (h : PrdG G s) : PrdG (moreG G r st) s := by
  induction h with
  | mk r0 hr hx ih => exact Prd.mk r0 (by unfold moreG; simp [hr]) ih
theorem more_rch {G : GramD} {r : Int × List Int} {st s : Int} (h : Rch G.rules st s) : Rch (moreG G r st).rules st s := by
  induction h with
  | start => exact Rch.start
  | step r0 x hr _ hx ih => exact Rch.step r0 x (by unfold moreG; simp [hr]) ih hx
theorem more_productive {G : GramD} {r : Int × List Int} {st : Int} (h1 : checkOf G st = 0) (h2 : checkOf (moreG G r st) st = 0) : withinB (productiveOf G st) (productiveOf (moreG G r st) st) = true := by
  unfold withinB
  rw [List.all_eq_true]
  intro x hx
  rw [decide_eq_true_eq]
  unfold productiveOf at hx ⊢
  rw [if_pos h1] at hx
  rw [if_pos h2]
  unfold prdL at hx ⊢
  rw [mem_below] at hx ⊢
  unfold hasI at hx ⊢
  simp only [Bool.and_eq_true, decide_eq_true_eq] at hx ⊢
  exact ⟨hx.1, toB_iff.2 (more_prd (toB_iff.1 hx.2))⟩
theorem more_reached {G : GramD} {r : Int × List Int} {st : Int} (h1 : checkOf G st = 0) (h2 : checkOf (moreG G r st) st = 0) : withinB (reachedOf G st) (reachedOf (moreG G r st) st) = true := by
  unfold withinB
  rw [List.all_eq_true]
  intro x hx
  rw [decide_eq_true_eq]
  unfold reachedOf at hx ⊢
  rw [if_pos h1] at hx
  rw [if_pos h2]
  unfold rchL at hx ⊢
  rw [mem_below] at hx ⊢
  unfold hasI at hx ⊢
  simp only [Bool.and_eq_true, decide_eq_true_eq] at hx ⊢
  exact ⟨hx.1, toB_iff.2 (more_rch (toB_iff.1 hx.2))⟩
end Go.Proofs.Ytejjaabkbkkjlaa

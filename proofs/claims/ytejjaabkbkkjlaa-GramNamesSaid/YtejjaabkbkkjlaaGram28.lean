/- The reference's once. -/
import Derived.Test.YtejjaabkbkkjlaaGram25
namespace Go.Proofs.Ytejjaabkbkkjlaa
set_option linter.unusedVariables false
open Go.RowKit

theorem RdS.take {w : World} {F : Nat → Prop} {A : Option Addr} {n c k : Nat} {xs : List ByteArray} (h : RdS w F (.slice A n c) xs) (hk : k ≤ n) : RdS w F (.slice A k c) (xs.take k) := by
  obtain ⟨hn, h1, h2, hr⟩ := h.at_
  refine ⟨A, k, c, rfl, by omega, h2, by simp; omega, fun hp => ?_⟩
  obtain ⟨b, off, hA, hF, hc⟩ := hr (by omega)
  refine ⟨b, off, hA, hF, fun j u hu => ?_⟩
  rw [List.getElem?_map] at hu
  obtain ⟨x, hx, rfl⟩ := Option.map_eq_some_iff.1 hu
  have hj := (List.getElem?_eq_some_iff.1 hx).1
  rw [List.length_take] at hj
  rw [List.getElem?_take_of_lt (by omega)] at hx
  exact hc j x hx

theorem nodup_no {X : Type} {xs : List X} {k : Nat} {x : X} (hk : xs[k]? = some x) (h : x ∈ xs.take k) : ¬ xs.Nodup := by
  intro hn
  obtain ⟨j, hj, e⟩ := List.getElem_of_mem h
  rw [List.length_take] at hj
  rw [List.getElem_take] at e
  have hl := (List.getElem?_eq_some_iff.1 hk)
  obtain ⟨hl, e2⟩ := hl
  exact (List.pairwise_iff_getElem.1 hn) j k (by omega) hl (by omega) (by rw [e, e2])
theorem nodup_yes {X : Type} {xs : List X} (h : ∀ (k : Nat) (x : X), xs[k]? = some x → x ∉ xs.take k) : xs.Nodup := by
  rw [List.nodup_iff_pairwise_ne, List.pairwise_iff_getElem]
  intro i j hi hj hij e
  refine h j xs[j] (List.getElem?_eq_getElem hj) ?_
  rw [← e]
  exact List.mem_of_getElem? (i := i) (by rw [List.getElem?_take_of_lt hij]; exact List.getElem?_eq_getElem hi)

set_option maxRecDepth 100000 in
set_option maxHeartbeats 1000000 in
theorem ref_once {w : World} {F : Nat → Prop} {v : Value} {xs : List ByteArray} (h : RdS w F v xs) :
    Calls Try.prog 86 #[v] w (Quiet w (.bool (decide xs.Nodup))) := by
  obtain ⟨A, n, c, rfl, -⟩ := id h
  obtain ⟨hn, hnc, hcm, hcell⟩ := h.at_
  unfold maxLen at hcm
  have hpl : ∀ (k : Nat) (x : ByteArray) (q : Nat), k ≤ n → Calls Try.prog 91 #[.slice A k c, .string x] (w.drewN q) fun e w' => e = .returned (.int .i64 (place (xs.take k) x)) ∧ w.drewN q = w' := fun k x q hk => ref_place ((h.take hk).drewN q) x
  have hb : ∀ q, Below w.heap.size w (w.drewN q) := fun q => below_drewN (Below.refl _ _) q
  have Xhn := hide hn
  have Xhpl := hide hpl
  have Xhb := hide hb
  clear hn hpl hb
  clear h
  go_enter Try.func86, Try.ntmps86
  go_wp2_with fail
  go_loopw [3] (fun i wr => ∃ k q : Nat, k ≤ n ∧ i = .int .i64 k ∧ (∀ (j : Nat) (x : ByteArray), j < k → xs[j]? = some x → x ∉ xs.take j) ∧ wr = w.drewN q) (fun i _ => n - (intOf i).toNat)
  case atStart => exact ⟨0, 0, Nat.zero_le _, rfl, fun j x hj => absurd hj (by omega), rfl⟩
  case round =>
    obtain ⟨k, q, hk, rfl, hu, rfl⟩ := hrel
    have Xhu := hide hu
    clear hu
    by_cases hlt : k < n
    · obtain ⟨b, off, rfl, _, hc⟩ := hcell (by omega)
      obtain ⟨x, hx⟩ : ∃ x, xs[k]? = some x := ⟨_, List.getElem?_eq_getElem (by rw [← Xhn.out]; omega)⟩
      have hcx := hc k x hx
      have hp := Xhpl.out k x (q + 1) hk
      have hlt' : (k : Int) < (n : Int) := by omega
      have hkc : k ≤ c := by omega
      have hkc' : (k : Int) ≤ (c : Int) := by omega
      have hk0 : (0 : Int) ≤ (k : Int) := by omega
      have hm := place_mem (xs := xs.take k) (s := x)
      obtain ⟨p, hp0⟩ : ∃ p, p = place (xs.take k) x := ⟨_, rfl⟩
      rw [← hp0] at hp hm
      by_cases hmem : x ∈ xs.take k
      · have hge : 0 ≤ p := hm.2 hmem
        have hfin := nodup_no hx hmem
        have Xhp := hide hp
        have Xhx := hide hx
        have Xhmem := hide hmem
        have Xhfin := hide hfin
        clear hp hx hmem hfin
        clear hcell hc hm hp0
        go_wp2_with fail
        refine region_tail 7 (by kernel_rfl) (by kernel_rfl) ?_
        simp only [List.take_succ_cons, List.take_zero, List.drop_succ_cons, List.drop_zero]
        repeat still_step
        refine wpStill_nil ?_
        go_wp2_with fail
        refine Xhp.out.mono ?_
        rintro e w' ⟨rfl, rfl⟩
        go_wp2_with fail
        go_ret
        exact ⟨ret_bool (decide_eq_false Xhfin.out).symm, Xhb.out _⟩
      · have hge : ¬ 0 ≤ p := fun e => hmem (hm.1 e)
        have Xhp := hide hp
        have Xhx := hide hx
        have Xhmem := hide hmem
        clear hp hx hmem
        clear hcell hc hm hp0
        go_wp2_with fail
        refine region_tail 7 (by kernel_rfl) (by kernel_rfl) ?_
        simp only [List.take_succ_cons, List.take_zero, List.drop_succ_cons, List.drop_zero]
        repeat still_step
        refine wpStill_nil ?_
        go_wp2_with fail
        refine Xhp.out.mono ?_
        rintro e w' ⟨rfl, rfl⟩
        go_wp2_with fail
        go_roundw
        case rel => exact ⟨k + 1, q + 1, by omega, by go_num, fun j y hj hy => by
          by_cases e : j = k
          · subst e; rw [Xhx.out] at hy; injection hy with hy; rw [← hy]; exact Xhmem.out
          · exact Xhu.out j y (by omega) hy, rfl⟩
        case measure => simp [intOf]; omega
    · clear hcell
      go_wp2_with fail
      go_ret
      exact ⟨ret_bool (decide_eq_true (nodup_yes fun j x hx => Xhu.out j x (by have := (List.getElem?_eq_some_iff.1 hx).1; have := Xhn.out; omega) hx)).symm, Xhb.out _⟩
end Go.Proofs.Ytejjaabkbkkjlaa

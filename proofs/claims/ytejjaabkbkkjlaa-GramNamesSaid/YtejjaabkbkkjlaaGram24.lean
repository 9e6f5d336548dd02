/- gram.unlike at rules. (Does not build yet unless NOTES.md says so.) -/
import Derived.Test.YtejjaabkbkkjlaaGram23
namespace Go.Proofs.Ytejjaabkbkkjlaa
set_option linter.unusedVariables false
open Go.RowKit

theorem unlikeUpto_mono {rs : List (Int × List Int)} {k n : Nat} (hk : k ≤ n) (h : unlikeUpto rs k = false) : unlikeUpto rs n = false := by
  unfold unlikeUpto at *
  rw [List.all_eq_false] at *
  obtain ⟨i, hi, e⟩ := h
  rw [List.mem_range] at hi
  exact ⟨i, List.mem_range.2 (by omega), e⟩

set_option maxRecDepth 100000 in
set_option maxHeartbeats 1000000 in
theorem gram_unlike {w : World} {F : Nat → Prop} {v : Value} {rs : List (Int × List Int)} (h : RdR w F v rs) (hF : ∀ b, F b → b < w.heap.size) :
    Calls Try.prog 82 #[v, .func (.func 83) #[] #[]] w (Quiet w (.bool (unlikeOf rs))) := by
  obtain ⟨A, c, rfl, _⟩ := id h
  obtain ⟨-, hnc, hcm, -⟩ := ERule.at_ h
  obtain ⟨n, en⟩ : ∃ n, n = rs.length := ⟨_, rfl⟩
  have hend : unlikeUpto rs n = unlikeOf rs := by rw [en]; rfl
  rw [← en] at hnc h ⊢
  unfold maxLen at hcm
  obtain ⟨w2, hw2⟩ : ∃ w2, w2 = (w.alloc (.cells #[.slice A n c] 23)).alloc (.cells #[.func (.func 83) #[] #[]] 36) := ⟨_, rfl⟩
  have B0 : Below w.heap.size w w2 := by rw [hw2]; exact ((Below.refl _ w).alloc (Nat.le_refl _) _).alloc (by simp) _
  have k1 : Blk w2 w.heap.size 23 #[.slice A n c] := by rw [hw2]; exact (Blk.new w _ _).alloc _
  have k2 : Blk w2 (w.heap.size + 1) 36 #[.func (.func 83) #[] #[]] := by
    rw [hw2]
    have := Blk.new (w.alloc (.cells #[.slice A n c] 23)) 36 #[.func (.func 83) #[] #[]]
    simpa using this
  have con : ∀ (wr : World) (k : Nat) (ri : Int × List Int), k ≤ n → rs[k]? = some ri → Below w2.heap.size w2 wr → Calls Try.prog 127 #[.slice A k c, .func (.func 136) #[] #[.pointer (some ⟨w.heap.size + 1, 0, none⟩), .pointer (some ⟨w.heap.size, 0, none⟩), .pointer (some ⟨wr.heap.size, 0, none⟩)]] (wr.alloc (.cells #[.int .i64 k] 3)) (Quiet (wr.alloc (.cells #[.int .i64 k] 3)) (.bool ((rs.take k).any (fun r => decide (r = ri))))) := fun wr k ri hk hi hb => by
    have hb' := hb.alloc hb.size (.cells #[.int .i64 k] 3)
    have h3 := h.below (B0.trans (hb'.mono B0.size)) hF
    have hl : ∀ b, F b → b < (wr.alloc (.cells #[.int .i64 k] 3)).heap.size := fun b e => Nat.lt_of_lt_of_le (hF b e) (Nat.le_trans B0.size hb'.size)
    exact contains_rules (h3.take hk) hl Try.enters_unlike1 (unlike_clo (k2.below hb' k2.lt) (k1.below hb' k1.lt) (Blk.new wr _ _) h3 hi hl hl)
  have q1 : ∀ wr, Below w2.heap.size w2 wr → wr.cell? ⟨w.heap.size, 0, none⟩ = some (.slice A n c) := fun wr hb => ((k1.below hb k1.lt).cell 0).trans rfl
  have z0 : w2.heap.size = w.heap.size + 2 := by rw [hw2]; simp
  have HN := hide en
  have HE := hide hend
  have CON := hide con
  have Q1 := hide q1
  have HB := hide B0
  have HW2 := hide hw2
  clear h en hend con q1 k1 k2 B0 hF
  go_enter Try.func82, Try.ntmps82
  go_wp2_with fail
  rw [← hw2]
  clear hw2
  go_loopw [8] (fun i wr => ∃ k : Nat, k ≤ n ∧ i = .int .i64 k ∧ unlikeUpto rs k = true ∧ Below w2.heap.size w2 wr) (fun i _ => n - (intOf i).toNat)
  case atStart => exact ⟨0, Nat.zero_le _, rfl, rfl, Below.refl _ _⟩
  case round =>
    obtain ⟨k, hk, rfl, hu, hw⟩ := hrel
    have HU := hide hu
    have HW := hide hw
    have r1 := Q1.out wr hw
    have hwz := hw.size
    have r2 := cell_a r1 (.cells #[.int .i64 k] 3)
    clear hu
    by_cases hlt : k < n
    · obtain ⟨ri, hi⟩ : ∃ x, rs[k]? = some x := ⟨_, List.getElem?_eq_getElem (by rw [← HN.out]; omega)⟩
      have hc := CON.out wr k ri hk hi hw
      have hsu := unlikeUpto_succ hi
      rw [HU.out] at hsu
      have HI := hide hi
      generalize (rs.take k).any (fun r => decide (r = ri)) = q at hc hsu
      have HC := hide hc
      have HS := hide hsu
      have b1 : Below wr.heap.size wr (wr.alloc (.cells #[.int .i64 k] 3)) := (Below.refl _ wr).alloc (Nat.le_refl _) _
      have HB1 := hide b1
      have hmf : ∀ (fn : Fn) (first cap : Array Value) (w : World), (Instr.makeFunc fn first cap).run Try.prog w = .ok (.func fn first cap) w := fun _ _ _ _ => rfl
      clear hc hsu hi hw b1
      go_wp2_with fail
      refine HC.out.mono ?_
      rintro e w3 ⟨rfl, b3⟩
      have b4 := HB1.out.trans (b3.mono HB1.out.size)
      cases q with
      | true =>
        go_wp2_with fail
        go_ret
        exact ⟨ret_bool (by rw [← HE.out]; exact (unlikeUpto_mono (k := k + 1) (by omega) (by rw [HS.out]; rfl)).symm), HB.out.trans ((HW.out.trans (b4.mono hwz)).mono HB.out.size)⟩
      | false =>
        go_wp2_with fail
        go_roundw
        case rel => exact ⟨k + 1, by omega, by go_num, by rw [HS.out]; rfl, HW.out.trans (b4.mono hwz)⟩
        case measure => simp [intOf]; omega
    · have hkn : k = n := by omega
      clear hw
      go_wp2_with fail
      go_ret
      exact ⟨ret_bool (by rw [← HE.out, ← hkn]; exact HU.out.symm), HB.out.trans (HW.out.mono HB.out.size)⟩
end Go.Proofs.Ytejjaabkbkkjlaa

/- gram.unlike's closure. -/
import Derived.Test.YtejjaabkbkkjlaaGram21
namespace Go.Proofs.Ytejjaabkbkkjlaa
set_option linter.unusedVariables false
open Go.RowKit

theorem Try.enters_unlike1 : Enters Try.prog 136 := enters_of Try.func136 (by kernel_rfl) rfl
set_option maxRecDepth 100000 in
set_option maxHeartbeats 1000000 in
theorem unlike_clo {w : World} {F F' : Nat → Prop} {rs : List (Int × List Int)} {v : Value} {i : Nat} {ri : Int × List Int} {C1 C2 C3 : Nat} (k1 : Blk w C1 36 #[.func (.func 83) #[] #[]]) (k2 : Blk w C2 23 #[v]) (k3 : Blk w C3 3 #[.int .i64 i])
    (h : RdR w F' v rs) (hi : rs[i]? = some ri) (hF : ∀ b, F b → b < w.heap.size) (hF' : ∀ b, F' b → b < w.heap.size) :
    PredR w F 136 #[.pointer (some ⟨C1, 0, none⟩), .pointer (some ⟨C2, 0, none⟩), .pointer (some ⟨C3, 0, none⟩)] (fun r => decide (r = ri)) := by
  intro W u r hW hr
  have hil := (List.getElem?_eq_some_iff.1 hi).1
  obtain ⟨W2, hW2⟩ : ∃ W2, W2 = W.alloc (.cells #[.int .i64 r.1, u] 30) := ⟨_, rfl⟩
  have b2 : Below W.heap.size W W2 := by rw [hW2]; exact (Below.refl _ W).alloc (Nat.le_refl _) _
  have hb2 := hW.trans (b2.mono hW.size)
  have p1 : W2.cell? ⟨C1, 0, none⟩ = some (.func (.func 83) #[] #[]) := ((k1.below hb2 k1.lt).cell 0).trans rfl
  have p2 : W2.cell? ⟨C2, 0, none⟩ = some v := ((k2.below hb2 k2.lt).cell 0).trans rfl
  have p3 : W2.cell? ⟨C3, 0, none⟩ = some (.int .i64 i) := ((k3.below hb2 k3.lt).cell 0).trans rfl
  obtain ⟨A3, c3, rfl, _⟩ := id h
  obtain ⟨-, hnc, hcm, hcell⟩ := ERule.at_ h
  obtain ⟨b, off, rfl, hb, hc⟩ := hcell (by omega)
  obtain ⟨l, x, vx, hx, hx0, hx1, hxr⟩ := RdR.get (n := rs.length) hF' hb hb2 hc (k := i) hil
  rw [hi] at hx
  injection hx with hx
  obtain ⟨A5, n5, c5, rfl, _⟩ := id hxr
  obtain ⟨A, n, c, rfl, _⟩ := id hr
  have hzW : w.heap.size ≤ W2.heap.size := hb2.size
  have hs : ∀ q, Calls Try.prog 83 #[.agg #[.int .i64 r.1, .slice A n c], .agg #[.int .i64 l, .slice A5 n5 c5]] (W2.drewN q) (Quiet (W2.drewN q) (.bool (decide ((r.1, r.2) = (l, x))))) := fun q =>
    same_rule ((hr.below b2 (fun b e => Nat.lt_of_lt_of_le (hF b e) hW.size)).drewN q) (hxr.drewN q) (fun b e => Nat.lt_of_lt_of_le (hF b e) hzW) (fun b e => Nat.lt_of_lt_of_le (hF' b e) hzW)
  have hR : decide ((r.1, r.2) = (l, x)) = decide (r = ri) := by rw [hx]
  have eg := Try.enters_same
  have hl1 : (i : Int) < (rs.length : Int) := by omega
  show Calls Try.prog 136 #[.agg #[.int .i64 r.1, .slice A n c], .pointer (some ⟨C1, 0, none⟩), .pointer (some ⟨C2, 0, none⟩), .pointer (some ⟨C3, 0, none⟩)] W (Quiet W (.bool (decide (r = ri))))
  rw [hR] at hs
  generalize decide (r = ri) = q at *
  obtain ⟨rl, hrl⟩ : ∃ rl, rl = r.1 := ⟨_, rfl⟩
  rw [← hrl] at hs hW2 ⊢
  obtain ⟨R, hRR⟩ : ∃ R, R = rs.length := ⟨_, rfl⟩
  rw [← hRR] at p2 hl1 hnc
  have HS := hide hs
  have HB := hide b2
  unfold maxLen at hcm
  clear hs hR hx hi hil hr hxr hrl hRR k1 k2 k3 hc hcell h hb hW b2 hF hF' hb2 hzW
  rw [hW2] at HS HB p1 p2 p3 hx0 hx1
  clear hW2
  go_enter Try.func136, Try.ntmps136
  go_wp2_with fail
  refine region_tail 6 (by kernel_rfl) (by kernel_rfl) ?_
  simp only [List.take_succ_cons, List.take_zero, List.drop_succ_cons, List.drop_zero]
  repeat still_step
  refine wpStill_nil ?_
  go_wp2_with (go_at_call 83; refine (HS.out _).mono ?_; rintro e w5 ⟨rfl, b5⟩)
  go_ret
  exact ⟨rfl, (below_drewN HB.out 1).trans (b5.mono HB.out.size)⟩
end Go.Proofs.Ytejjaabkbkkjlaa

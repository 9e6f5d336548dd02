/- The program computes at all: conchlaw10.awake. -/
import Derived.Test.YtejjaabkbkkjlaaLeast9
import Derived.Test.YtejjaabkbkkjlaaGramAwake
namespace Go.Proofs.Ytejjaabkbkkjlaa
set_option linter.unusedVariables false
open Go.RowKit
attribute [local irreducible] wpStill wpOne wpPh

/-- the grammar that awake builds -/
def aw10 : GramD := ⟨[⟨#[65]⟩, ⟨#[66]⟩], [⟨#[115]⟩], [(3, [1, 3]), (3, [2])], 3⟩
theorem aw10_box (w : World) : GBox ((((((w.alloc (.cells #[.string ⟨#[65]⟩, .string ⟨#[66]⟩] 9)).alloc (.cells #[.string ⟨#[115]⟩] 9)).alloc (.cells #[.int .i64 1, .int .i64 3] 3)).alloc (.cells #[.int .i64 2] 3)).alloc (.cells #[.int .i64 3, .slice (some ⟨w.heap.size + 1 + 1, 0, none⟩) 2 2, .int .i64 3, .slice (some ⟨w.heap.size + 1 + 1 + 1, 0, none⟩) 1 1] 30)).alloc (.cells #[.slice (some ⟨w.heap.size, 0, none⟩) 2 2, .slice (some ⟨w.heap.size + 1, 0, none⟩) 1 1, .slice (some ⟨w.heap.size + 1 + 1 + 1 + 1, 0, none⟩) 2 2, .int .i64 3] 25)) (fun b => w.heap.size ≤ b ∧ b < w.heap.size + 5) (w.heap.size + 1 + 1 + 1 + 1 + 1) (some ⟨w.heap.size, 0, none⟩) 2 (some ⟨w.heap.size + 1, 0, none⟩) 1 (some ⟨w.heap.size + 1 + 1 + 1 + 1, 0, none⟩) 2 2 1 2 3 aw10 ∧ Below w.heap.size w ((((((w.alloc (.cells #[.string ⟨#[65]⟩, .string ⟨#[66]⟩] 9)).alloc (.cells #[.string ⟨#[115]⟩] 9)).alloc (.cells #[.int .i64 1, .int .i64 3] 3)).alloc (.cells #[.int .i64 2] 3)).alloc (.cells #[.int .i64 3, .slice (some ⟨w.heap.size + 1 + 1, 0, none⟩) 2 2, .int .i64 3, .slice (some ⟨w.heap.size + 1 + 1 + 1, 0, none⟩) 1 1] 30)).alloc (.cells #[.slice (some ⟨w.heap.size, 0, none⟩) 2 2, .slice (some ⟨w.heap.size + 1, 0, none⟩) 1 1, .slice (some ⟨w.heap.size + 1 + 1 + 1 + 1, 0, none⟩) 2 2, .int .i64 3] 25)) := by
  obtain ⟨w1, e1⟩ : ∃ q, q = w.alloc (.cells #[.string ⟨#[65]⟩, .string ⟨#[66]⟩] 9) := ⟨_, rfl⟩
  obtain ⟨w2, e2⟩ : ∃ q, q = w1.alloc (.cells #[.string ⟨#[115]⟩] 9) := ⟨_, rfl⟩
  obtain ⟨w3, e3⟩ : ∃ q, q = w2.alloc (.cells #[.int .i64 1, .int .i64 3] 3) := ⟨_, rfl⟩
  obtain ⟨w4, e4⟩ : ∃ q, q = w3.alloc (.cells #[.int .i64 2] 3) := ⟨_, rfl⟩
  obtain ⟨w5, e5⟩ : ∃ q, q = w4.alloc (.cells #[.int .i64 3, .slice (some ⟨w.heap.size + 1 + 1, 0, none⟩) 2 2, .int .i64 3, .slice (some ⟨w.heap.size + 1 + 1 + 1, 0, none⟩) 1 1] 30) := ⟨_, rfl⟩
  obtain ⟨w6, e6⟩ : ∃ q, q = w5.alloc (.cells #[.slice (some ⟨w.heap.size, 0, none⟩) 2 2, .slice (some ⟨w.heap.size + 1, 0, none⟩) 1 1, .slice (some ⟨w.heap.size + 1 + 1 + 1 + 1, 0, none⟩) 2 2, .int .i64 3] 25) := ⟨_, rfl⟩
  rw [← e1, ← e2, ← e3, ← e4, ← e5, ← e6]
  have z1 : w1.heap.size = w.heap.size + 1 := by rw [e1]; simp
  have b1 : Below w.heap.size w w1 := by rw [e1]; exact (Below.refl _ _).alloc (Nat.le_refl _) _
  have k1 : Blk w1 (w.heap.size) 9 #[.string ⟨#[65]⟩, .string ⟨#[66]⟩] := by
    have h := Blk.new w 9 #[.string ⟨#[65]⟩, .string ⟨#[66]⟩]
    rw [← e1] at h; exact h
  have z2 : w2.heap.size = w.heap.size + 2 := by rw [e2]; simp; omega
  have b2 : Below w1.heap.size w1 w2 := by rw [e2]; exact (Below.refl _ _).alloc (Nat.le_refl _) _
  have k2 : Blk w2 (w.heap.size + 1) 9 #[.string ⟨#[115]⟩] := by
    have h := Blk.new w1 9 #[.string ⟨#[115]⟩]
    rw [← e2, z1] at h; exact h
  have z3 : w3.heap.size = w.heap.size + 3 := by rw [e3]; simp; omega
  have b3 : Below w2.heap.size w2 w3 := by rw [e3]; exact (Below.refl _ _).alloc (Nat.le_refl _) _
  have k3 : Blk w3 (w.heap.size + 1 + 1) 3 #[.int .i64 1, .int .i64 3] := by
    have h := Blk.new w2 3 #[.int .i64 1, .int .i64 3]
    rw [← e3, z2] at h; exact h
  have z4 : w4.heap.size = w.heap.size + 4 := by rw [e4]; simp; omega
  have b4 : Below w3.heap.size w3 w4 := by rw [e4]; exact (Below.refl _ _).alloc (Nat.le_refl _) _
  have k4 : Blk w4 (w.heap.size + 1 + 1 + 1) 3 #[.int .i64 2] := by
    have h := Blk.new w3 3 #[.int .i64 2]
    rw [← e4, z3] at h; exact h
  have z5 : w5.heap.size = w.heap.size + 5 := by rw [e5]; simp; omega
  have b5 : Below w4.heap.size w4 w5 := by rw [e5]; exact (Below.refl _ _).alloc (Nat.le_refl _) _
  have k5 : Blk w5 (w.heap.size + 1 + 1 + 1 + 1) 30 #[.int .i64 3, .slice (some ⟨w.heap.size + 1 + 1, 0, none⟩) 2 2, .int .i64 3, .slice (some ⟨w.heap.size + 1 + 1 + 1, 0, none⟩) 1 1] := by
    have h := Blk.new w4 30 #[.int .i64 3, .slice (some ⟨w.heap.size + 1 + 1, 0, none⟩) 2 2, .int .i64 3, .slice (some ⟨w.heap.size + 1 + 1 + 1, 0, none⟩) 1 1]
    rw [← e5, z4] at h; exact h
  have z6 : w6.heap.size = w.heap.size + 6 := by rw [e6]; simp; omega
  have b6 : Below w5.heap.size w5 w6 := by rw [e6]; exact (Below.refl _ _).alloc (Nat.le_refl _) _
  have k6 : Blk w6 (w.heap.size + 1 + 1 + 1 + 1 + 1) 25 #[.slice (some ⟨w.heap.size, 0, none⟩) 2 2, .slice (some ⟨w.heap.size + 1, 0, none⟩) 1 1, .slice (some ⟨w.heap.size + 1 + 1 + 1 + 1, 0, none⟩) 2 2, .int .i64 3] := by
    have h := Blk.new w5 25 #[.slice (some ⟨w.heap.size, 0, none⟩) 2 2, .slice (some ⟨w.heap.size + 1, 0, none⟩) 1 1, .slice (some ⟨w.heap.size + 1 + 1 + 1 + 1, 0, none⟩) 2 2, .int .i64 3]
    rw [← e6, z5] at h; exact h
  have bb6 : Below w6.heap.size w6 w6 := Below.refl _ _
  have bb5 : Below w5.heap.size w5 w6 := b6.trans (bb6.mono b6.size)
  have bb4 : Below w4.heap.size w4 w6 := b5.trans (bb5.mono b5.size)
  have bb3 : Below w3.heap.size w3 w6 := b4.trans (bb4.mono b4.size)
  have bb2 : Below w2.heap.size w2 w6 := b3.trans (bb3.mono b3.size)
  have bb1 : Below w1.heap.size w1 w6 := b2.trans (bb2.mono b2.size)
  have b0 : Below w.heap.size w w6 := b1.trans (bb1.mono b1.size)
  have y1 := k1.below bb1 k1.lt
  have y2 := k2.below bb2 k2.lt
  have y3 := k3.below bb3 k3.lt
  have y4 := k4.below bb4 k4.lt
  have y5 := k5.below bb5 k5.lt
  have y6 := k6.below bb6 k6.lt
  refine ⟨⟨⟨?_, ?_, ?_, ?_, ?_, ?_, ?_, ?_⟩, y6, rfl, rfl, rfl, by omega, by omega, by omega, by omega, by omega, by omega, by omega, by omega, by omega⟩, b0⟩
  · exact Rd.of_blk (us := aw10.terms.map Value.string) y1 (by omega) rfl (by decide)
  · exact Rd.of_blk (us := aw10.nons.map Value.string) y2 (by omega) rfl (by decide)
  · refine RdR.of_blk [((3, [1, 3]), .slice (some ⟨w.heap.size + 1 + 1, 0, none⟩) 2 2), ((3, [2]), .slice (some ⟨w.heap.size + 1 + 1 + 1, 0, none⟩) 1 1)] y5 (by omega) ?_ (by unfold maxLen; simp)
    intro p hp
    simp only [List.mem_cons, List.not_mem_nil, or_false] at hp
    rcases hp with rfl | rfl
    · exact Rd.of_blk (us := [Value.int .i64 1, Value.int .i64 3]) y3 (by omega) rfl (by decide)
    · exact Rd.of_blk (us := [Value.int .i64 2]) y4 (by omega) rfl (by decide)
  · intro b hb; rw [z6]; omega
  · decide
  · exact ⟨by decide, by decide⟩
  · exact ⟨by decide, by decide⟩
  · decide
def aw10S : List FoundD := [⟨true, false, []⟩, ⟨true, false, [1]⟩, ⟨true, false, [2]⟩, ⟨true, false, [2]⟩]
theorem aw10_fixed : Fixed aw10.rules (startW aw10.terms.length aw10.nons.length) aw10S := ⟨⟨1, by rfl⟩, by rfl⟩
theorem aw10_check : checkOf aw10 3 = 0 := by decide +kernel
theorem law10_awake (w : World) : Calls Try.prog 40 #[] w (Quiet w (.bool true)) := by
  obtain ⟨g, hb⟩ := aw10_box w
  have hl := least_of g.gram 3
  have Xhl := hide hl
  have Xg := hide g
  have Xhb := hide hb
  clear hl g hb
  go_enter Try.func40, Try.ntmps40
  go_wp2_with fail
  refine Xhl.out.mono ?_
  rintro e w2 ⟨b2, h2⟩
  rcases h2 with ⟨h2, -⟩ | ⟨-, S, b, gz, rfl, hfix, ws, -⟩
  · exact absurd aw10_check h2
  obtain rfl := fixed_unique hfix aw10_fixed
  have hb2 := Xhb.out.trans (b2.mono Xhb.out.size)
  have hgood : ∀ k, (jTo aw10S (([3] : List Int).take k)).2.length ≤ 4096 := fun k => by
    rcases k with _ | k
    · decide
    · rw [List.take_of_length_le (by simp)]; decide
  have hw := least_word 3 ws hgood
  rw [show joinOf aw10S [3] = ⟨true, false, [2]⟩ from by rfl] at hw
  clear Xhl Xg Xhb hgood hfix b2
  have Xhw := hide hw
  have Xhb2 := hide hb2
  have Xws := hide ws
  clear hw hb2 ws
  go_wp2_with fail
  refine Xhw.out.mono ?_
  rintro e w3 ⟨A, n, c, rfl, hr, b3⟩
  have ws3 := Xws.out.below b3
  have hb3 := Xhb2.out.trans (b3.mono Xhb2.out.size)
  obtain ⟨hn, hnc, hcm, hcell⟩ := RdI.at_ hr
  obtain rfl : n = 1 := hn
  obtain ⟨bl, off, rfl, hbl, hc⟩ := hcell (by omega)
  have hc0 := hc 0 2 rfl
  rw [Nat.add_zero] at hc0
  have l1 := least_length ws3 3
  have l2 := least_length ws3 1
  have l3 := least_length ws3 9
  rw [show lengthOf aw10S 3 = 1 from by rfl] at l1
  rw [show lengthOf aw10S 1 = 1 from by rfl] at l2
  rw [show lengthOf aw10S 9 = -1 from by rfl] at l3
  clear Xws Xhb2 Xhw hcell hc hr
  have Xl1 := hide l1
  have Xl2 := hide l2
  have Xl3 := hide l3
  have Xws3 := hide ws3
  have Xhb3 := hide hb3
  clear l1 l2 l3 ws3 hb3
  go_wp2_with fail
  refine Xl1.out.mono ?_
  rintro e w' ⟨rfl, rfl⟩
  go_wp2_with fail
  refine Xl2.out.mono ?_
  rintro e w' ⟨rfl, rfl⟩
  go_wp2_with fail
  refine Xl3.out.mono ?_
  rintro e w' ⟨rfl, rfl⟩
  go_wp2_with fail
  go_ret
  exact ⟨rfl, Xhb3.out⟩
end Go.Proofs.Ytejjaabkbkkjlaa

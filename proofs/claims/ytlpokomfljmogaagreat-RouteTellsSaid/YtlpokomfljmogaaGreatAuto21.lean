/- The automaton: the program computes at all. -/
import Derived.Test.YtlpokomfljmogaaGreatAuto15
import Derived.Test.YtlpokomfljmogaaGreatAuto18
import Derived.Test.YtlpokomfljmogaaGreatGramAwake
import Derived.Test.YtlpokomfljmogaaGreatAuto16
import Derived.Test.YtlpokomfljmogaaGreatG7
namespace Go.Proofs.YtlpokomfljmogaaGreat
set_option linter.unusedVariables false
section
set_option linter.unusedSimpArgs false
open Go.RowKit
attribute [local irreducible] wpStill wpOne wpPh
def aw13 : GramD := ⟨[⟨#[65]⟩, ⟨#[66]⟩], [⟨#[115]⟩], [(3, [1, 3]), (3, [2])], 3⟩
theorem aw13_box (w : World) : GBox ((((((w.alloc (.cells #[.string ⟨#[65]⟩, .string ⟨#[66]⟩] 9)).alloc (.cells #[.string ⟨#[115]⟩] 9)).alloc (.cells #[.int .i64 1, .int .i64 3] 3)).alloc (.cells #[.int .i64 2] 3)).alloc (.cells #[.int .i64 3, .slice (some ⟨w.heap.size + 1 + 1, 0, none⟩) 2 2, .int .i64 3, .slice (some ⟨w.heap.size + 1 + 1 + 1, 0, none⟩) 1 1] 80)).alloc (.cells #[.slice (some ⟨w.heap.size, 0, none⟩) 2 2, .slice (some ⟨w.heap.size + 1, 0, none⟩) 1 1, .slice (some ⟨w.heap.size + 1 + 1 + 1 + 1, 0, none⟩) 2 2, .int .i64 3] 25)) (fun b => w.heap.size ≤ b ∧ b < w.heap.size + 5) (w.heap.size + 1 + 1 + 1 + 1 + 1) (some ⟨w.heap.size, 0, none⟩) 2 (some ⟨w.heap.size + 1, 0, none⟩) 1 (some ⟨w.heap.size + 1 + 1 + 1 + 1, 0, none⟩) 2 2 1 2 3 aw13 ∧ Below w.heap.size w ((((((w.alloc (.cells #[.string ⟨#[65]⟩, .string ⟨#[66]⟩] 9)).alloc (.cells #[.string ⟨#[115]⟩] 9)).alloc (.cells #[.int .i64 1, .int .i64 3] 3)).alloc (.cells #[.int .i64 2] 3)).alloc (.cells #[.int .i64 3, .slice (some ⟨w.heap.size + 1 + 1, 0, none⟩) 2 2, .int .i64 3, .slice (some ⟨w.heap.size + 1 + 1 + 1, 0, none⟩) 1 1] 80)).alloc (.cells #[.slice (some ⟨w.heap.size, 0, none⟩) 2 2, .slice (some ⟨w.heap.size + 1, 0, none⟩) 1 1, .slice (some ⟨w.heap.size + 1 + 1 + 1 + 1, 0, none⟩) 2 2, .int .i64 3] 25)) := by
 obtain ⟨w1, e1⟩ : ∃ q, q = w.alloc (.cells #[.string ⟨#[65]⟩, .string ⟨#[66]⟩] 9) := ⟨_, rfl⟩
 obtain ⟨w2, e2⟩ : ∃ q, q = w1.alloc (.cells #[.string ⟨#[115]⟩] 9) := ⟨_, rfl⟩
 obtain ⟨w3, e3⟩ : ∃ q, q = w2.alloc (.cells #[.int .i64 1, .int .i64 3] 3) := ⟨_, rfl⟩
 obtain ⟨w4, e4⟩ : ∃ q, q = w3.alloc (.cells #[.int .i64 2] 3) := ⟨_, rfl⟩
 obtain ⟨w5, e5⟩ : ∃ q, q = w4.alloc (.cells #[.int .i64 3, .slice (some ⟨w.heap.size + 1 + 1, 0, none⟩) 2 2, .int .i64 3, .slice (some ⟨w.heap.size + 1 + 1 + 1, 0, none⟩) 1 1] 80) := ⟨_, rfl⟩
 obtain ⟨w6, e6⟩ : ∃ q, q = w5.alloc (.cells #[.slice (some ⟨w.heap.size, 0, none⟩) 2 2, .slice (some ⟨w.heap.size + 1, 0, none⟩) 1 1, .slice (some ⟨w.heap.size + 1 + 1 + 1 + 1, 0, none⟩) 2 2, .int .i64 3] 25) := ⟨_, rfl⟩
 rw [← e1, ← e2, ← e3, ← e4, ← e5, ← e6]
 have z1 : w1.heap.size = w.heap.size + 1 := by rw [e1]; simp
 have b1 : Below w.heap.size w w1 := by rw [e1]; exact (Below.refl _ _).alloc (Nat.le_refl _) _
 have k1 : Blk w1 (w.heap.size) 9 #[.string ⟨#[65]⟩, .string ⟨#[66]⟩] := by
  have h := Blk.new w 9 #[.string ⟨#[65]⟩, .string ⟨#[66]⟩]
  rw [← e1] at h; exact h
 have z2 : w2.heap.size = w.heap.size + 2 := by rw [e2]; simp; omega
 have b2 : Below w1.heap.size w1 w2 := by rw [e2]; exact (Below.refl _ _).alloc (Nat.le_refl _) _
 have k2 : Blk w2 (w.heap.size + 1) 9 #[.string ⟨#[115]⟩] := by
  have h := Blk.new w1 9 #[.string ⟨#[115]⟩]
  rw [← e2, z1] at h; exact h
 have z3 : w3.heap.size = w.heap.size + 3 := by rw [e3]; simp; omega
 have b3 : Below w2.heap.size w2 w3 := by rw [e3]; exact (Below.refl _ _).alloc (Nat.le_refl _) _
 have k3 : Blk w3 (w.heap.size + 1 + 1) 3 #[.int .i64 1, .int .i64 3] := by
  have h := Blk.new w2 3 #[.int .i64 1, .int .i64 3]
  rw [← e3, z2] at h; exact h
 have z4 : w4.heap.size = w.heap.size + 4 := by rw [e4]; simp; omega
 have b4 : Below w3.heap.size w3 w4 := by rw [e4]; exact (Below.refl _ _).alloc (Nat.le_refl _) _
 have k4 : Blk w4 (w.heap.size + 1 + 1 + 1) 3 #[.int .i64 2] := by
  have h := Blk.new w3 3 #[.int .i64 2]
  rw [← e4, z3] at h; exact h
 have z5 : w5.heap.size = w.heap.size + 5 := by rw [e5]; simp; omega
 have b5 : Below w4.heap.size w4 w5 := by rw [e5]; exact (Below.refl _ _).alloc (Nat.le_refl _) _
 have k5 : Blk w5 (w.heap.size + 1 + 1 + 1 + 1) 80 #[.int .i64 3, .slice (some ⟨w.heap.size + 1 + 1, 0, none⟩) 2 2, .int .i64 3, .slice (some ⟨w.heap.size + 1 + 1 + 1, 0, none⟩) 1 1] := by
  have h := Blk.new w4 80 #[.int .i64 3, .slice (some ⟨w.heap.size + 1 + 1, 0, none⟩) 2 2, .int .i64 3, .slice (some ⟨w.heap.size + 1 + 1 + 1, 0, none⟩) 1 1]
  rw [← e5, z4] at h; exact h
 have z6 : w6.heap.size = w.heap.size + 6 := by rw [e6]; simp; omega
 have b6 : Below w5.heap.size w5 w6 := by rw [e6]; exact (Below.refl _ _).alloc (Nat.le_refl _) _
 have k6 : Blk w6 (w.heap.size + 1 + 1 + 1 + 1 + 1) 25 #[.slice (some ⟨w.heap.size, 0, none⟩) 2 2, .slice (some ⟨w.heap.size + 1, 0, none⟩) 1 1, .slice (some ⟨w.heap.size + 1 + 1 + 1 + 1, 0, none⟩) 2 2, .int .i64 3] := by
  have h := Blk.new w5 25 #[.slice (some ⟨w.heap.size, 0, none⟩) 2 2, .slice (some ⟨w.heap.size + 1, 0, none⟩) 1 1, .slice (some ⟨w.heap.size + 1 + 1 + 1 + 1, 0, none⟩) 2 2, .int .i64 3]
  rw [← e6, z5] at h; exact h
 have bb6 : Below w6.heap.size w6 w6 := Below.refl _ _
 have bb5 : Below w5.heap.size w5 w6 := b6.trans (bb6.mono b6.size)
 have bb4 : Below w4.heap.size w4 w6 := b5.trans (bb5.mono b5.size)
 have bb3 : Below w3.heap.size w3 w6 := b4.trans (bb4.mono b4.size)
 have bb2 : Below w2.heap.size w2 w6 := b3.trans (bb3.mono b3.size)
 have bb1 : Below w1.heap.size w1 w6 := b2.trans (bb2.mono b2.size)
 have b0 : Below w.heap.size w w6 := b1.trans (bb1.mono b1.size)
 have y1 := k1.below bb1 k1.lt
 have y2 := k2.below bb2 k2.lt
 have y3 := k3.below bb3 k3.lt
 have y4 := k4.below bb4 k4.lt
 have y5 := k5.below bb5 k5.lt
 have y6 := k6.below bb6 k6.lt
 refine ⟨⟨⟨?_, ?_, ?_, ?_, ?_, ?_, ?_, ?_⟩, y6, rfl, rfl, rfl, by omega, by omega, by omega, by omega, by omega, by omega, by omega, by omega, by omega⟩, b0⟩
 ·exact Rd.of_blk (us := aw13.terms.map Value.string) y1 (by omega) rfl (by decide)
 ·exact Rd.of_blk (us := aw13.nons.map Value.string) y2 (by omega) rfl (by decide)
 ·refine RdR.of_blk [((3, [1, 3]), .slice (some ⟨w.heap.size + 1 + 1, 0, none⟩) 2 2), ((3, [2]), .slice (some ⟨w.heap.size + 1 + 1 + 1, 0, none⟩) 1 1)] y5 (by omega) ?_ (by unfold maxLen; simp)
  intro p hp
  simp only [List.mem_cons, List.not_mem_nil, or_false] at hp
  rcases hp with rfl | rfl
  ·exact Rd.of_blk (us := [Value.int .i64 1, Value.int .i64 3]) y3 (by omega) rfl (by decide)
  ·exact Rd.of_blk (us := [Value.int .i64 2]) y4 (by omega) rfl (by decide)
 ·intro b hb; rw [z6]; omega
 ·decide
 ·exact ⟨by decide, by decide⟩
 ·exact ⟨by decide, by decide⟩
 ·decide
theorem aw13_check : checkOf aw13 3 = 0 := by decide +kernel
def aw13L : List (List It) := [[(2, 0)], [(0, 1)], [(1, 1)], [(2, 1)], [(0, 2)]]
def aw13T : List (List It) := [[(1, 1), (2, 2), (3, 3)], [(1, 1), (2, 2), (3, 4)], [], [], []]
theorem aw13_row (k : List It) (L : List (List It)) (r : List (List It) × List It) (h1 : clC aw13 3 k 4 = clC aw13 3 k 3) (h2 : rowC aw13 3 (clC aw13 3 k 3) L (topOf aw13) = r) : rowA aw13 3 k L (topOf aw13) = r := by
 rw [rowC_eq (clC_is h1), h2]
theorem aw13_auto : Auto aw13 3 (some (aw13L, aw13T)) := by
 have step : ∀ {i : Nat} {L T : List (List It)} (k : List It) (L' : List (List It)) (t : List It), Bld aw13 3 i L T → L[i]? = some k → clC aw13 3 k 4 = clC aw13 3 k 3 → rowC aw13 3 (clC aw13 3 k 3) L (topOf aw13) = (L', t) → L'.length ≤ 2000 → Bld aw13 3 (i + 1) L' (T ++ [t]) := fun {i L T} k L' t hb hk h1 h2 hl => by
  have hr := aw13_row k L _ h1 h2
  have := Bld.next i L T k hb hk (by rw [hr]; exact hl)
  rw [hr] at this
  exact this
 have b0 : Bld aw13 3 0 [[(2, 0)]] [] := Bld.start
 have b1 := step [(2, 0)] [[(2, 0)], [(0, 1)], [(1, 1)], [(2, 1)]] [(1, 1), (2, 2), (3, 3)] b0 rfl (by decide +kernel) (by decide +kernel) (by decide)
 have b2 := step [(0, 1)] aw13L [(1, 1), (2, 2), (3, 4)] b1 rfl (by decide +kernel) (by decide +kernel) (by decide)
 have b3 := step [(1, 1)] aw13L [] b2 rfl (by decide +kernel) (by decide +kernel) (by decide)
 have b4 := step [(2, 1)] aw13L [] b3 rfl (by decide +kernel) (by decide +kernel) (by decide)
 have b5 := step [(0, 2)] aw13L [] b4 rfl (by decide +kernel) (by decide +kernel) (by decide)
 exact Auto.ok aw13L aw13T b5
theorem AutoPost.known {w w' : World} {G : GramD} {st : Int} {e : Ending} {L T : List (List It)} (h : AutoPost w G st (checkOf G st) e w') (h0 : checkOf G st = 0) (ha : Auto G st (some (L, T))) : Below w.heap.size w w' ∧ ∃ A n c, e = .returned (.tuple #[.slice A n c, .int .i64 0]) ∧ RdSt w' (fun b => w.heap.size ≤ b ∧ b < w'.heap.size) (.slice A n c) (stD L T) := by
 obtain ⟨hb, h | h | h⟩ := h
 ·exact absurd h0 h.1
 ·have := h.2.1.unique ha; cases this
 ·obtain ⟨-, L', T', A, n, c, h1, h2, h3⟩ := h
  have := h1.unique ha
  injection this with this
  injection this with e1 e2
  subst e1 e2
  exact ⟨hb, A, n, c, h2, h3⟩
end
section
set_option linter.unusedSimpArgs false
open Go.RowKit
attribute [local irreducible] wpStill wpOne wpPh
def AutoIs (G : GramD) (st ck ev : Int) (D : List (List It × List It)) : Prop :=
 (ck ≠ 0 ∧ ev = ck ∧ D = []) ∨ (ck = 0 ∧ Auto G st none ∧ ev = 7 ∧ D = []) ∨ (ck = 0 ∧ ∃ L T, Auto G st (some (L, T)) ∧ ev = 0 ∧ D = stD L T)
theorem AutoIs.unique {G : GramD} {st ck ev ev' : Int} {D D' : List (List It × List It)} (h : AutoIs G st ck ev D) (h' : AutoIs G st ck ev' D') : ev = ev' ∧ D = D' := by
 rcases h with ⟨h1, rfl, rfl⟩ | ⟨h1, h2, rfl, rfl⟩ | ⟨h1, L, T, h2, rfl, rfl⟩
 ·rcases h' with ⟨-, rfl, rfl⟩ | ⟨h3, -⟩ | ⟨h3, -⟩
  ·exact ⟨rfl, rfl⟩
  ·exact absurd h3 h1
  ·exact absurd h3 h1
 ·rcases h' with ⟨h3, -⟩ | ⟨-, -, rfl, rfl⟩ | ⟨-, L, T, h3, -⟩
  ·exact absurd h1 h3
  ·exact ⟨rfl, rfl⟩
  ·have := h2.unique h3; cases this
 ·rcases h' with ⟨h3, -⟩ | ⟨-, h3, -⟩ | ⟨-, L', T', h3, rfl, rfl⟩
  ·exact absurd h1 h3
  ·have := h2.unique h3; cases this
  ·have := h2.unique h3
   injection this with this
   injection this with e1 e2
   subst e1 e2
   exact ⟨rfl, rfl⟩
theorem AutoPost.flat {w w' : World} {G : GramD} {st ck : Int} {e : Ending} (h : AutoPost w G st ck e w') : Below w.heap.size w w' ∧ ∃ A n c ev D, e = .returned (.tuple #[.slice A n c, .int .i64 ev]) ∧ RdSt w' (fun b => w.heap.size ≤ b ∧ b < w'.heap.size) (.slice A n c) D ∧ AutoIs G st ck ev D := by
 obtain ⟨hb, ⟨hc, rfl⟩ | ⟨hc, ha, rfl⟩ | ⟨hc, L, T, A, n, c, ha, rfl, rd⟩⟩ := h
 ·exact ⟨hb, none, 0, 0, ck, [], rfl, RdSt.nil _ _, .inl ⟨hc, rfl, rfl⟩⟩
 ·exact ⟨hb, none, 0, 0, 7, [], rfl, RdSt.nil _ _, .inr (.inl ⟨hc, ha, rfl, rfl⟩)⟩
 ·exact ⟨hb, A, n, c, 0, stD L T, rfl, rd, .inr (.inr ⟨hc, L, T, ha, rfl, rfl⟩)⟩
end
end Go.Proofs.YtlpokomfljmogaaGreat

/- Trees of nodes: Show. -/
import Derived.Test.YtacankgalkffmaaGreatArena13
import Derived.Laws.EntriesVeiled
namespace Go.Proofs.YtacankgalkffmaaGreat
set_option linter.unusedVariables false
set_option linter.unusedSimpArgs false
open Go.RowKit
attribute [local irreducible] wpStill wpOne wpPh
def showT (G : GramD) (L : List Nd) (i : Int) : ByteArray := if inN L.length i = true then ⟨(shoO G L i).toArray⟩ else ⟨#[]⟩
theorem arena_Show0 (vt vn vr : Value) (st i : Int) (w : World) (hs : ∃ A1 n1 c1 A2 n2 c2 A3 n3 c3, vt = .slice A1 n1 c1 ∧ vn = .slice A2 n2 c2 ∧ vr = .slice A3 n3 c3) : Calls Tryz.prog 10 #[.pointer none, GV vt vn vr st, .int .i64 i] w (Quiet w (.string ⟨#[]⟩)) := by
 obtain ⟨A1, n1, c1, A2, n2, c2, A3, n3, c3, rfl, rfl, rfl⟩ := hs
 have cI := fun W => arena_in0 i W
 have b2 : Below w.heap.size w ((w.alloc (.cells #[.pointer none] 29)).alloc (.cells #[.slice A1 n1 c1, .slice A2 n2 c2, .slice A3 n3 c3, .int .i64 st] 26)) := ((Below.refl _ w).alloc (Nat.le_refl _) _).alloc (by simp) _
 have XcI := hide cI
 have Xb2 := hide b2
 clear cI b2
 go_enter Tryz.func10, Tryz.ntmps10
 go_wp2_with fail
 refine (XcI.out _).mono ?_
 rintro e w' ⟨rfl, b⟩
 have bb := Xb2.out.trans (b.mono Xb2.out.size)
 clear b
 have Xbb := hide bb
 clear bb
 go_wp2_with fail
 go_ret
 exact ⟨rfl, Xbb.out⟩
set_option maxRecDepth 100000 in
set_option maxHeartbeats 4000000 in
theorem arena_Show {w : World} {bt : Nat} {S F : Nat → Prop} {L : List Nd} {vt vn vr : Value} {G : GramD} (h : Ar w bt S L) (hL : Tr L) (hll : L.length ≤ 1000) (hg : IsGram w F vt vn vr G) (hN : ∀ s, (nameOf G s).toList.length ≤ 10000) (st i : Int) :
  Calls Tryz.prog 10 #[.pointer (some ⟨bt, 0, none⟩), GV vt vn vr st, .int .i64 i] w (Quiet w (.string (showT G L i))) := by
 have hlt := h.lt
 have hFl := hg.lt
 obtain ⟨A1, c1, A2, c2, A3, c3, rfl, rfl, rfl, -⟩ := hg.slices
 obtain ⟨w1, hw1⟩ : ∃ x, x = w.alloc (.cells #[.pointer (some ⟨bt, 0, none⟩)] 29) := ⟨_, rfl⟩
 obtain ⟨w2, hw2⟩ : ∃ x, x = w1.alloc (.cells #[.slice A1 G.terms.length c1, .slice A2 G.nons.length c2, .slice A3 G.rules.length c3, .int .i64 st] 26) := ⟨_, rfl⟩
 have z1 : w1.heap.size = w.heap.size + 1 := by rw [hw1]; simp
 have z2 : w2.heap.size = w.heap.size + 2 := by rw [hw2]; simp [z1]
 have k1 : Blk w2 w.heap.size 29 #[.pointer (some ⟨bt, 0, none⟩)] := by rw [hw2, hw1]; exact (Blk.new _ _ _).alloc _
 have k3 : Blk w2 (w.heap.size + 1) 26 #[.slice A1 G.terms.length c1, .slice A2 G.nons.length c2, .slice A3 G.rules.length c3, .int .i64 st] := by rw [hw2, ← z1]; exact Blk.new _ _ _
 have b2 : Below w.heap.size w w2 := by rw [hw2, hw1]; exact ((Below.refl _ w).alloc (Nat.le_refl _) _).alloc (by simp) _
 have e2 : (w.alloc (.cells #[.pointer (some ⟨bt, 0, none⟩)] 29)).alloc (.cells #[.slice A1 G.terms.length c1, .slice A2 G.nons.length c2, .slice A3 G.rules.length c3, .int .i64 st] 26) = w2 := by rw [hw2, hw1]
 have h2 := h.below b2
 have hg2 := hg.below b2
 have cI := arena_in h2 i
 have p0 : w2.cell? ⟨w.heap.size, 0, none⟩ = some (.pointer (some ⟨bt, 0, none⟩)) := k1.cell 0
 clear hw1 hw2 z1 h hg
 by_cases hin : inN L.length i = true
 ·rw [hin] at cI
  have hsh : showT G L i = ⟨(shoO G L i).toArray⟩ := by unfold showT; rw [if_pos hin]
  rw [hsh]
  obtain ⟨g0, g1⟩ := inN_iff.1 hin
  obtain ⟨w3, hw3⟩ : ∃ x, x = w2.alloc (.cells #[.pointer none, .slice none 0 0] 67) := ⟨_, rfl⟩
  obtain ⟨w4, hw4⟩ : ∃ x, x = w3.alloc (.cells #[.func (.func 32) #[] #[.pointer (some ⟨w.heap.size, 0, none⟩), .pointer (some ⟨w.heap.size + 2, 0, none⟩), .pointer (some ⟨w.heap.size + 1, 0, none⟩), .pointer (some ⟨w.heap.size + 2 + 1, 0, none⟩)]] 68) := ⟨_, rfl⟩
  have z3 : w3.heap.size = w.heap.size + 2 + 1 := by rw [hw3]; simp [z2]
  have z4 : w4.heap.size = w.heap.size + 4 := by rw [hw4]; simp [z3]
  have b24 : Below w2.heap.size w2 w4 := by rw [hw4, hw3]; exact ((Below.refl _ w2).alloc (Nat.le_refl _) _).alloc (by simp) _
  have kb : Blk w4 (w.heap.size + 2) 67 #[.pointer none, .slice none 0 0] := by rw [hw4, hw3, ← z2]; exact (Blk.new _ _ _).alloc _
  have k4 : Blk w4 (w.heap.size + 2 + 1) 68 #[.func (.func 32) #[] #[.pointer (some ⟨w.heap.size, 0, none⟩), .pointer (some ⟨w.heap.size + 2, 0, none⟩), .pointer (some ⟨w.heap.size + 1, 0, none⟩), .pointer (some ⟨w.heap.size + 2 + 1, 0, none⟩)]] := by rw [hw4, ← z3]; exact Blk.new _ _ _
  have e4 : (w2.alloc (.cells #[.pointer none, .slice none 0 0] 67)).alloc (.cells #[.func (.func 32) #[] #[.pointer (some ⟨w.heap.size, 0, none⟩), .pointer (some ⟨w.heap.size + 2, 0, none⟩), .pointer (some ⟨w.heap.size + 1, 0, none⟩), .pointer (some ⟨w.heap.size + 2 + 1, 0, none⟩)]] 68) = w4 := by rw [hw4, hw3]
  have sc : ShC (w.heap.size + 4) (w.heap.size + 2) w.heap.size (w.heap.size + 1) (w.heap.size + 2 + 1) bt S F L G (.slice A1 G.terms.length c1) (.slice A2 G.nons.length c2) (.slice A3 G.rules.length c3) st w4 :=
   ⟨h2.below b24, k1.below b24 (by omega), k3.below b24 (by omega), k4, hg2.below b24, fun k hk => by
    rcases hk with q | q | q | q | q
    ·have := hlt k q; omega
    ·have := hFl k q; omega
    ·omega
    ·omega
    ·omega⟩
  have bd : BdM (w.heap.size + 4) (w.heap.size + 2) [] w4 := ⟨by omega, by omega, _, _, kb, .inl rfl, World.ownsRow_nil _ _ _ _⟩
  have hlen : (shoO G L i).length ≤ 50000000 := by
   have h1 := shoO_len (G := G) hL hN _ i (Nat.lt_succ_self _)
   have h2 := hL.wt i g0 g1
   have h3 : wtN (kidsL L) i * (10000 + 3) ≤ 1000 * 10003 := Nat.mul_le_mul (by omega) (Nat.le_refl _)
   omega
  have cS := show_clo hL hll hN _ i [] w4 g0 g1 (Nat.lt_succ_self _) sc bd (by simpa using hlen)
  rw [List.nil_append] at cS
  have bb := b2.trans (b24.mono b2.size)
  have XcI := hide cI
  have XcS := hide cS
  have Xbb := hide bb
  have XhL := hide hL
  have XhN := hide hN
  clear cI cS bb hL hN
  have p4 : w4.cell? ⟨w.heap.size + 2 + 1, 0, none⟩ = some (.func (.func 32) #[] #[.pointer (some ⟨w.heap.size, 0, none⟩), .pointer (some ⟨w.heap.size + 2, 0, none⟩), .pointer (some ⟨w.heap.size + 1, 0, none⟩), .pointer (some ⟨w.heap.size + 2 + 1, 0, none⟩)]) := k4.cell 0
  clear sc bd hlen k1 k3 h2 hg2 b2 b24 hsh k4 kb hw3 hw4 z3
  have Xz4 := hide z4
  clear z4
  go_enter Tryz.func10, Tryz.ntmps10
  go_wp2_with fail
  refine XcI.out.mono ?_
  rintro e w' ⟨rfl, rfl⟩
  clear XcI
  go_wp2_with fail
  refine XcS.out.mono ?_
  rintro e w5 ⟨rfl, bd5, t5⟩
  have cB := builder_stringA (w.heap.size + 2) (w.heap.size + 2) (shoO G L i) w5 bd5.is (by have := bd5.2.1; omega)
  have b5 : Below w.heap.size w w5 := Xbb.out.trans (t5.below (fun k hk _ e => by omega) (by have := Xz4.out; omega))
  clear XcS bd5 t5
  have XcB := hide cB
  have Xb5 := hide b5
  clear cB b5
  go_wp2_with fail
  refine XcB.out.mono ?_
  rintro e w6 ⟨rfl, b6⟩
  have b56 := Xb5.out.trans (b6.mono (by omega))
  clear XcB b6
  have Xb56 := hide b56
  clear b56
  go_wp2_with fail
  go_ret
  exact ⟨rfl, Xb56.out⟩
 ·have hin : inN L.length i = false := by simpa using hin
  rw [hin] at cI
  have hsh : showT G L i = ⟨#[]⟩ := by unfold showT; rw [hin]; rfl
  rw [hsh]
  have XcI := hide cI
  have Xb2 := hide b2
  have XhL := hide hL
  have XhN := hide hN
  clear cI b2 hL hN
  clear hsh h2 hg2 k1 k3
  go_enter Tryz.func10, Tryz.ntmps10
  go_wp2_with fail
  refine XcI.out.mono ?_
  rintro e w' ⟨rfl, rfl⟩
  clear XcI
  go_wp2_with fail
  go_ret
  exact ⟨rfl, Xb2.out⟩
end Go.Proofs.YtacankgalkffmaaGreat

/- The program computes at all: conchlaw19.awake. -/
import Derived.Test.YtacankgalkffmaaGreatArena14
import Derived.Test.YtacankgalkffmaaGreatArena16
import Derived.Test.YtacankgalkffmaaGreatMuch
namespace Go.Proofs.YtacankgalkffmaaGreat
set_option linter.unusedVariables false
set_option linter.unusedSimpArgs false
open Go.RowKit
def aw19 : GramD := ⟨[⟨#[65]⟩], [⟨#[115]⟩, ⟨#[116]⟩], [(2, [1, 3]), (3, [])], 2⟩
theorem aw19_box (w : World) : GBox (((((w.alloc (.cells #[.string ⟨#[65]⟩] 9)).alloc (.cells #[.string ⟨#[115]⟩, .string ⟨#[116]⟩] 9)).alloc (.cells #[.int .i64 1, .int .i64 3] 3)).alloc (.cells #[.int .i64 2, .slice (some ⟨w.heap.size + 1 + 1, 0, none⟩) 2 2, .int .i64 3, .slice none 0 0] 53)).alloc (.cells #[.slice (some ⟨w.heap.size, 0, none⟩) 1 1, .slice (some ⟨w.heap.size + 1, 0, none⟩) 2 2, .slice (some ⟨w.heap.size + 1 + 1 + 1, 0, none⟩) 2 2, .int .i64 2] 26)) (fun b => w.heap.size ≤ b ∧ b < w.heap.size + 4) (w.heap.size + 1 + 1 + 1 + 1) (some ⟨w.heap.size, 0, none⟩) 1 (some ⟨w.heap.size + 1, 0, none⟩) 2 (some ⟨w.heap.size + 1 + 1 + 1, 0, none⟩) 2 1 2 2 2 aw19 ∧ Below w.heap.size w (((((w.alloc (.cells #[.string ⟨#[65]⟩] 9)).alloc (.cells #[.string ⟨#[115]⟩, .string ⟨#[116]⟩] 9)).alloc (.cells #[.int .i64 1, .int .i64 3] 3)).alloc (.cells #[.int .i64 2, .slice (some ⟨w.heap.size + 1 + 1, 0, none⟩) 2 2, .int .i64 3, .slice none 0 0] 53)).alloc (.cells #[.slice (some ⟨w.heap.size, 0, none⟩) 1 1, .slice (some ⟨w.heap.size + 1, 0, none⟩) 2 2, .slice (some ⟨w.heap.size + 1 + 1 + 1, 0, none⟩) 2 2, .int .i64 2] 26)) := by
 obtain ⟨w1, e1⟩ : ∃ q, q = w.alloc (.cells #[.string ⟨#[65]⟩] 9) := ⟨_, rfl⟩
 obtain ⟨w2, e2⟩ : ∃ q, q = w1.alloc (.cells #[.string ⟨#[115]⟩, .string ⟨#[116]⟩] 9) := ⟨_, rfl⟩
 obtain ⟨w3, e3⟩ : ∃ q, q = w2.alloc (.cells #[.int .i64 1, .int .i64 3] 3) := ⟨_, rfl⟩
 obtain ⟨w4, e4⟩ : ∃ q, q = w3.alloc (.cells #[.int .i64 2, .slice (some ⟨w.heap.size + 1 + 1, 0, none⟩) 2 2, .int .i64 3, .slice none 0 0] 53) := ⟨_, rfl⟩
 obtain ⟨w5, e5⟩ : ∃ q, q = w4.alloc (.cells #[.slice (some ⟨w.heap.size, 0, none⟩) 1 1, .slice (some ⟨w.heap.size + 1, 0, none⟩) 2 2, .slice (some ⟨w.heap.size + 1 + 1 + 1, 0, none⟩) 2 2, .int .i64 2] 26) := ⟨_, rfl⟩
 rw [← e1, ← e2, ← e3, ← e4, ← e5]
 have z1 : w1.heap.size = w.heap.size + 1 := by rw [e1]; simp
 have b1 : Below w.heap.size w w1 := by rw [e1]; exact (Below.refl _ _).alloc (Nat.le_refl _) _
 have k1 : Blk w1 (w.heap.size) 9 #[.string ⟨#[65]⟩] := by
  have h := Blk.new w 9 #[.string ⟨#[65]⟩]
  rw [← e1] at h; exact h
 have z2 : w2.heap.size = w.heap.size + 2 := by rw [e2]; simp; omega
 have b2 : Below w1.heap.size w1 w2 := by rw [e2]; exact (Below.refl _ _).alloc (Nat.le_refl _) _
 have k2 : Blk w2 (w.heap.size + 1) 9 #[.string ⟨#[115]⟩, .string ⟨#[116]⟩] := by
  have h := Blk.new w1 9 #[.string ⟨#[115]⟩, .string ⟨#[116]⟩]
  rw [← e2, z1] at h; exact h
 have z3 : w3.heap.size = w.heap.size + 3 := by rw [e3]; simp; omega
 have b3 : Below w2.heap.size w2 w3 := by rw [e3]; exact (Below.refl _ _).alloc (Nat.le_refl _) _
 have k3 : Blk w3 (w.heap.size + 1 + 1) 3 #[.int .i64 1, .int .i64 3] := by
  have h := Blk.new w2 3 #[.int .i64 1, .int .i64 3]
  rw [← e3, z2] at h; exact h
 have z4 : w4.heap.size = w.heap.size + 4 := by rw [e4]; simp; omega
 have b4 : Below w3.heap.size w3 w4 := by rw [e4]; exact (Below.refl _ _).alloc (Nat.le_refl _) _
 have k4 : Blk w4 (w.heap.size + 1 + 1 + 1) 53 #[.int .i64 2, .slice (some ⟨w.heap.size + 1 + 1, 0, none⟩) 2 2, .int .i64 3, .slice none 0 0] := by
  have h := Blk.new w3 53 #[.int .i64 2, .slice (some ⟨w.heap.size + 1 + 1, 0, none⟩) 2 2, .int .i64 3, .slice none 0 0]
  rw [← e4, z3] at h; exact h
 have z5 : w5.heap.size = w.heap.size + 5 := by rw [e5]; simp; omega
 have b5 : Below w4.heap.size w4 w5 := by rw [e5]; exact (Below.refl _ _).alloc (Nat.le_refl _) _
 have k5 : Blk w5 (w.heap.size + 1 + 1 + 1 + 1) 26 #[.slice (some ⟨w.heap.size, 0, none⟩) 1 1, .slice (some ⟨w.heap.size + 1, 0, none⟩) 2 2, .slice (some ⟨w.heap.size + 1 + 1 + 1, 0, none⟩) 2 2, .int .i64 2] := by
  have h := Blk.new w4 26 #[.slice (some ⟨w.heap.size, 0, none⟩) 1 1, .slice (some ⟨w.heap.size + 1, 0, none⟩) 2 2, .slice (some ⟨w.heap.size + 1 + 1 + 1, 0, none⟩) 2 2, .int .i64 2]
  rw [← e5, z4] at h; exact h
 have bb5 : Below w5.heap.size w5 w5 := Below.refl _ _
 have bb4 : Below w4.heap.size w4 w5 := b5.trans (bb5.mono b5.size)
 have bb3 : Below w3.heap.size w3 w5 := b4.trans (bb4.mono b4.size)
 have bb2 : Below w2.heap.size w2 w5 := b3.trans (bb3.mono b3.size)
 have bb1 : Below w1.heap.size w1 w5 := b2.trans (bb2.mono b2.size)
 have b0 : Below w.heap.size w w5 := b1.trans (bb1.mono b1.size)
 have y1 := k1.below bb1 k1.lt
 have y2 := k2.below bb2 k2.lt
 have y3 := k3.below bb3 k3.lt
 have y4 := k4.below bb4 k4.lt
 have y5 := k5.below bb5 k5.lt
 refine ⟨⟨⟨?_, ?_, ?_, ?_, ?_, ?_, ?_, ?_⟩, y5, rfl, rfl, rfl, by omega, by omega, by omega, by omega, by omega, by omega, by omega, by omega, by omega⟩, b0⟩
 ·exact Rd.of_blk (us := aw19.terms.map Value.string) y1 (by omega) rfl (by decide)
 ·exact Rd.of_blk (us := aw19.nons.map Value.string) y2 (by omega) rfl (by decide)
 ·refine RdR.of_blk [((2, [1, 3]), .slice (some ⟨w.heap.size + 1 + 1, 0, none⟩) 2 2), ((3, []), .slice none 0 0)] y4 (by omega) ?_ (by unfold maxLen; simp)
  intro p hp
  simp only [List.mem_cons, List.not_mem_nil, or_false] at hp
  rcases hp with rfl | rfl
  ·exact Rd.of_blk (us := [Value.int .i64 1, Value.int .i64 3]) y3 (by omega) rfl (by decide)
  ·exact Rd.nil _ _ _
 ·intro b hb; rw [z5]; omega
 ·decide
 ·exact ⟨by decide, by decide⟩
 ·exact ⟨by decide, by decide⟩
 ·decide
def St19 (w W : World) (bt : Nat) (L : List Nd) : Prop := (∃ S, Ar W bt S L ∧ ∀ b, S b → w.heap.size + 5 ≤ b) ∧ GBox W (fun b => w.heap.size ≤ b ∧ b < w.heap.size + 4) (w.heap.size + 1 + 1 + 1 + 1) (some ⟨w.heap.size, 0, none⟩) 1 (some ⟨w.heap.size + 1, 0, none⟩) 2 (some ⟨w.heap.size + 1 + 1 + 1, 0, none⟩) 2 1 2 2 2 aw19 ∧ Below w.heap.size w W ∧ w.heap.size + 5 ≤ W.heap.size
section
variable {w W W' : World} {bt : Nat} {L : List Nd}
theorem St19.below (h : St19 w W bt L) (b : Below W.heap.size W W') : St19 w W' bt L := by
 obtain ⟨⟨S, h1, h2⟩, h3, h4, h5⟩ := h
 exact ⟨⟨S, h1.below b, h2⟩, h3.below b, h4.trans (b.mono h4.size), Nat.le_trans h5 b.size⟩
theorem St19.turn {S : Nat → Prop} {M : List Nd} (h : St19 w W bt L) (h1 : Ar W' bt (New S W W') M) (h2 : ∀ b, S b → w.heap.size + 5 ≤ b) (t : Touch S W W') : St19 w W' bt M := by
 obtain ⟨-, h3, h4, h5⟩ := h
 exact ⟨⟨_, h1, fun b hb => New.lt h2 h5 b hb⟩, h3.touch t (fun b hb c => by have := h2 b c; omega) (fun c => by have := h2 _ c; omega), t.toBelow (fun k e => by have := h2 k e; omega) h4 h4.size, Nat.le_trans h5 t.size⟩
theorem st19_Leaf (h : St19 w W bt L) (hl : L.length ≤ 100000) (s n : Int) : Calls Tryz.prog 15 #[.pointer (some ⟨bt, 0, none⟩), .int .i64 s, .int .i64 n] W fun e W' => e = .returned (.int .i64 (L.length : Int)) ∧ St19 w W' bt (leafL L s n) := by
 obtain ⟨S, h1, h2⟩ := h.1
 exact (arena_Leaf h1 hl s n).mono fun e W' ⟨a, b, c⟩ => ⟨a, h.turn b h2 c⟩
theorem st19_Join0 (h : St19 w W bt L) (hl : L.length ≤ 100000) (s r : Int) : Calls Tryz.prog 25 #[.pointer (some ⟨bt, 0, none⟩), .int .i64 s, .int .i64 r, .slice none 0 0] W fun e W' => e = .returned (.int .i64 (joinA L [])) ∧ St19 w W' bt (joinL' L s r []) := by
 obtain ⟨S, h1, h2⟩ := h.1
 exact (arena_Join h1 hl (kids := []) (F := fun _ => False) (Rd.nil _ _ _) (fun _ c => c.elim) (Nat.zero_le _) s r).mono fun e W' ⟨a, b, c⟩ => ⟨a, h.turn b h2 c⟩
theorem st19_Join2 (h : St19 w W bt L) (hl : L.length ≤ 100000) (s r x y : Int) (hW : W' = W.alloc (.cells #[.int .i64 x, .int .i64 y] 3)) : Calls Tryz.prog 25 #[.pointer (some ⟨bt, 0, none⟩), .int .i64 s, .int .i64 r, .slice (some ⟨W.heap.size, 0, none⟩) 2 2] W' fun e W2 => e = .returned (.int .i64 (joinA L [x, y])) ∧ St19 w W2 bt (joinL' L s r [x, y]) := by
 have b : Below W.heap.size W W' := by rw [hW]; exact (Below.refl _ _).alloc (Nat.le_refl _) _
 have k : Blk W' W.heap.size 3 #[.int .i64 x, .int .i64 y] := by rw [hW]; exact Blk.new _ _ _
 have h' := h.below b
 obtain ⟨S, h1, h2⟩ := h.1
 have h1' := h1.below b
 exact (arena_Join h1' hl (kids := [x, y]) (F := fun b => b = W.heap.size) (Rd.of_blk (us := [Value.int .i64 x, Value.int .i64 y]) k rfl rfl (by decide)) (fun b e c => by have := h1.lt b c; omega) (by simp) s r).mono fun e W2 ⟨a, b, c⟩ => ⟨a, h'.turn b h2 c⟩
theorem st19_Show (h : St19 w W bt L) (hL : Tr L) (hl : L.length ≤ 1000) (hN : ∀ s, (nameOf aw19 s).toList.length ≤ 10000) (i : Int) : Calls Tryz.prog 10 #[.pointer (some ⟨bt, 0, none⟩), GV (.slice (some ⟨w.heap.size, 0, none⟩) 1 1) (.slice (some ⟨w.heap.size + 1, 0, none⟩) 2 2) (.slice (some ⟨w.heap.size + 1 + 1 + 1, 0, none⟩) 2 2) 2, .int .i64 i] W fun e W' => e = .returned (.string (showT aw19 L i)) ∧ St19 w W' bt L := by
 obtain ⟨S, h1, h2⟩ := h.1
 exact (arena_Show h1 hL hl h.2.1.gram hN 2 i).mono fun e W' ⟨a, b⟩ => ⟨a, h.below b⟩
theorem st19_Check (h : St19 w W bt L) (hL : Tr L) (hl : L.length ≤ 1000) (i : Int) : Calls Tryz.prog 12 #[.pointer (some ⟨bt, 0, none⟩), GV (.slice (some ⟨w.heap.size, 0, none⟩) 1 1) (.slice (some ⟨w.heap.size + 1, 0, none⟩) 2 2) (.slice (some ⟨w.heap.size + 1 + 1 + 1, 0, none⟩) 2 2) 2, .int .i64 i] W fun e W' => e = .returned (.bool (chkO aw19 2 L i)) ∧ St19 w W' bt L := by
 obtain ⟨S, h1, h2⟩ := h.1
 exact (arena_Check h1 hL (by omega) h.2.1.gram (fun b hb => by have := h.2.2.2; omega) 2 i).mono fun e W' ⟨a, b⟩ => ⟨a, h.below b⟩
theorem st19_Leaves (h : St19 w W bt L) (hL : Tr L) (hl : L.length ≤ 1000) (i x : Int) (hx : numsO L i = [x]) : Calls Tryz.prog 18 #[.pointer (some ⟨bt, 0, none⟩), .int .i64 i] W fun e W' => ∃ b off c, e = .returned (.slice (some ⟨b, off, none⟩) 1 c) ∧ 1 ≤ c ∧ c ≤ 9223372036854775807 ∧ W'.cell? ⟨b, off, none⟩ = some (.int .i64 x) ∧ St19 w W' bt L := by
 obtain ⟨S, h1, h2⟩ := h.1
 refine (arena_Leaves h1 hL (by omega) i).mono fun e W' ⟨b, A, c, he, hr⟩ => ?_
 rw [hx] at he hr
 obtain ⟨-, hc, hcm, hcell⟩ := RdI.at_ hr
 obtain ⟨b', off, rfl, -, hc0⟩ := hcell Nat.one_pos
 unfold maxLen at hcm
 exact ⟨b', off, c, he, hc, by omega, hc0 0 x rfl, h.below b⟩
theorem st19_Roots (h : St19 w W bt L) (hl : L.length ≤ 1000) : Calls Tryz.prog 20 #[.pointer (some ⟨bt, 0, none⟩)] W fun e W' => ∃ A c, e = .returned (.slice A (rootsL L).length c) ∧ St19 w W' bt L := by
 obtain ⟨S, h1, h2⟩ := h.1
 exact (arena_Roots h1 (by omega)).mono fun e W' ⟨b, A, c, he, _⟩ => ⟨A, c, he, h.below b⟩
end
def aw19L : List Nd := joinL' (joinL' (leafL [] 1 7) 3 1 []) 2 0 [0, 1]
theorem aw19_tr : Tr aw19L := ((Tr.nil.leaf 1 7).join 3 1 []).join 2 0 [0, 1]
theorem aw19_show : showT aw19 aw19L 2 = ⟨#[40, 115, 32, 65, 32, 40, 116, 41, 41]⟩ := by decide +kernel
theorem aw19_chk : chkO aw19 2 aw19L 2 = true := by decide +kernel
theorem aw19_chk5 : chkO aw19 2 aw19L 5 = false := by decide +kernel
theorem aw19_nums : numsO aw19L 2 = [7] := by decide +kernel
theorem aw19_roots : (rootsL aw19L).length = 1 := by decide +kernel
theorem aw19_names : ∀ s, (nameOf aw19 s).toList.length ≤ 10000 := names_short (r := 5) (by decide) (by decide) (fun j _ s hs => by have := List.mem_of_getElem? hs; simp [aw19] at this; subst this; decide) (fun j _ s hs => by have := List.mem_of_getElem? hs; simp [aw19] at this; rcases this with rfl | rfl <;> decide)
set_option maxRecDepth 100000 in
set_option maxHeartbeats 2000000 in
theorem law19_awake (w : World) : Calls Tryz.prog 5 #[] w (Quiet w (.bool true)) := by
 obtain ⟨g, hb⟩ := aw19_box w
 obtain ⟨W0, hW0⟩ : ∃ x, (((((w.alloc (.cells #[.string ⟨#[65]⟩] 9)).alloc (.cells #[.string ⟨#[115]⟩, .string ⟨#[116]⟩] 9)).alloc (.cells #[.int .i64 1, .int .i64 3] 3)).alloc (.cells #[.int .i64 2, .slice (some ⟨w.heap.size + 1 + 1, 0, none⟩) 2 2, .int .i64 3, .slice none 0 0] 53)).alloc (.cells #[.slice (some ⟨w.heap.size, 0, none⟩) 1 1, .slice (some ⟨w.heap.size + 1, 0, none⟩) 2 2, .slice (some ⟨w.heap.size + 1 + 1 + 1, 0, none⟩) 2 2, .int .i64 2] 26)) = x := ⟨_, rfl⟩
 rw [hW0] at g hb
 have z0 : W0.heap.size = w.heap.size + 5 := by rw [← hW0]; simp
 obtain ⟨W1, hW1⟩ : ∃ x, W0.alloc (.cells #[.slice none 0 0] 62) = x := ⟨_, rfl⟩
 have b1 : Below W0.heap.size W0 W1 := by rw [← hW1]; exact (Below.refl _ _).alloc (Nat.le_refl _) _
 have cN := arena_New W0
 rw [hW1] at cN
 have h1 : St19 w W1 W0.heap.size [] := ⟨⟨_, by rw [← hW1]; exact Ar.new W0, fun b e => by omega⟩, g.below b1, hb.trans (b1.mono hb.size), by have := b1.size; omega⟩
 obtain ⟨bt, hbt⟩ : ∃ x, x = W0.heap.size := ⟨_, rfl⟩
 rw [← hbt] at cN h1
 have g0 := g.cells
 obtain ⟨q0, q1, q2, q3⟩ := g0
 clear g hb b1 z0
 have XcN := hide cN
 have Xh1 := hide h1
 have Xhbt := hide hbt
 clear cN h1 hbt
 go_enter Tryz.func5, Tryz.ntmps5
 go_wp2_with fail
 refine XcN.out.mono ?_
 rintro e w' ⟨rfl, rfl⟩
 clear XcN q0 q1 q2 q3
 have c2 := st19_Leaf Xh1.out (Nat.zero_le _) 1 7
 have Xc2 := hide c2
 clear c2
 go_wp2_with fail
 refine Xc2.out.mono ?_
 rintro e w2 ⟨rfl, h2⟩
 clear Xc2 Xh1
 have c3 := st19_Join0 h2 (by decide) 3 1
 rw [show joinA (leafL [] 1 7) [] = 1 from by decide +kernel] at c3
 have Xc3 := hide c3
 have Xh2 := hide h2
 clear c3 h2
 go_wp2_with fail
 refine Xc3.out.mono ?_
 rintro e w3 ⟨rfl, h3⟩
 clear Xc3 Xh2
 obtain ⟨W4, hW4⟩ : ∃ x, w3.alloc (.cells #[.int .i64 0, .int .i64 1] 3) = x := ⟨_, rfl⟩
 have c4 := st19_Join2 h3 (by decide) 2 0 0 1 hW4.symm
 rw [show joinA (joinL' (leafL [] 1 7) 3 1 []) [0, 1] = 2 from by decide +kernel] at c4
 have Xc4 := hide c4
 clear c4
 go_wp2_with fail
 refine Xc4.out.mono ?_
 rintro e w5 ⟨rfl, h5⟩
 clear Xc4 h3
 replace h5 : St19 w w5 bt aw19L := h5
 have hlen : aw19L.length ≤ 1000 := by decide +kernel
 obtain ⟨q0, q1, q2, q3⟩ := h5.2.1.cells
 have c6 := st19_Show h5 aw19_tr hlen aw19_names 2
 rw [aw19_show] at c6
 clear h5
 have Xhlen := hide hlen
 have Xc6 := hide c6
 clear hlen c6
 go_wp2_with fail
 refine Xc6.out.mono ?_
 rintro e w6 ⟨rfl, h6⟩
 clear Xc6 q0 q1 q2 q3
 obtain ⟨q0, q1, q2, q3⟩ := h6.2.1.cells
 have c7 := st19_Check h6 aw19_tr Xhlen.out 2
 rw [aw19_chk] at c7
 clear h6
 have Xc7 := hide c7
 clear c7
 go_wp2_with fail
 refine Xc7.out.mono ?_
 rintro e w7 ⟨rfl, h7⟩
 clear Xc7 q0 q1 q2 q3
 obtain ⟨q0, q1, q2, q3⟩ := h7.2.1.cells
 have c8 := st19_Check h7 aw19_tr Xhlen.out 5
 rw [aw19_chk5] at c8
 clear h7
 have Xc8 := hide c8
 clear c8
 go_wp2_with fail
 refine Xc8.out.mono ?_
 rintro e w8 ⟨rfl, h8⟩
 clear Xc8 q0 q1 q2 q3
 have c9 := st19_Leaves h8 aw19_tr Xhlen.out 2 7 aw19_nums
 clear h8
 have Xc9 := hide c9
 clear c9
 go_wp2_with fail
 refine Xc9.out.mono ?_
 rintro e w9 ⟨b9, o9, k9, rfl, e1, e2, -, h9⟩
 clear Xc9 
 have c10 := st19_Leaves h9 aw19_tr Xhlen.out 2 7 aw19_nums
 clear h9
 have Xc10 := hide c10
 clear c10
 go_wp2_with fail
 refine Xc10.out.mono ?_
 rintro e w10 ⟨b10, o10, k10, rfl, e3, e4, e5, h10⟩
 clear Xc10
 have c11 := st19_Roots h10 Xhlen.out
 rw [aw19_roots] at c11
 clear h10
 have Xc11 := hide c11
 clear c11
 go_wp2_with fail
 refine Xc11.out.mono ?_
 rintro e w11 ⟨A11, k11, rfl, h11⟩
 clear Xc11 e5
 obtain ⟨W12, hW12⟩ : ∃ x, w11.alloc (.cells #[.int .i64 0, .int .i64 1] 3) = x := ⟨_, rfl⟩
 have c12 := st19_Join2 h11 (by have := Xhlen.out; omega) 2 0 0 1 hW12.symm
 rw [show joinA aw19L [0, 1] = -1 from by decide +kernel] at c12
 clear h11
 have Xc12 := hide c12
 clear c12
 go_wp2_with fail
 refine Xc12.out.mono ?_
 rintro e w13 ⟨rfl, h13⟩
 have bb := h13.2.2.1
 clear Xc12 h13
 have Xbb := hide bb
 clear bb
 go_wp2_with fail
 go_ret
 exact ⟨rfl, Xbb.out⟩
end Go.Proofs.YtacankgalkffmaaGreat

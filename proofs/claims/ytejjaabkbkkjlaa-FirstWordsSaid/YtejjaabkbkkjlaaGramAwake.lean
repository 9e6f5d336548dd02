/- The program computes at all: conchlaw06.awake. -/
import Derived.Test.YtejjaabkbkkjlaaG8
namespace Go.Proofs.Ytejjaabkbkkjlaa
set_option linter.unusedVariables false
open Go.RowKit

theorem Rd.of_blk {w : World} {F : Nat → Prop} {g n size : Nat} {t : TypeId} {us : List Value} (hk : Blk w g t us.toArray) (hF : F g) (hl : us.length = n * size) (hm : n ≤ maxLen) : Rd w F (.slice (some ⟨g, 0, none⟩) n n) size us :=
  ⟨_, n, n, rfl, Nat.le_refl _, hm, hl, fun _ => ⟨g, 0, rfl, hF, fun j u hu => by rw [hk.cell]; simpa using hu⟩⟩
theorem flat_two {X : Type} {f : X → Value × Value} : ∀ (l : List X) (i : Nat) (p : X), l[i]? = some p → (l.flatMap (fun p => [(f p).1, (f p).2]))[i * 2]? = some (f p).1 ∧ (l.flatMap (fun p => [(f p).1, (f p).2]))[i * 2 + 1]? = some (f p).2
  | a :: r, 0, p, h => by
    simp at h
    subst h
    simp
  | a :: r, i + 1, p, h => by
    have := flat_two (f := f) r i p (by simpa using h)
    simp only [List.flatMap_cons]
    rw [show (i + 1) * 2 = i * 2 + 2 by omega]
    exact this
theorem RdR.of_blk {w : World} {F : Nat → Prop} {g : Nat} {t : TypeId} (rvs : List ((Int × List Int) × Value)) (hk : Blk w g t (rvs.flatMap (fun p => [Value.int .i64 p.1.1, p.2])).toArray) (hF : F g) (h : ∀ p ∈ rvs, RdI w F p.2 p.1.2) (hl : rvs.length ≤ maxLen) :
    RdR w F (.slice (some ⟨g, 0, none⟩) rvs.length rvs.length) (rvs.map (·.1)) := by
  refine ⟨some ⟨g, 0, none⟩, rvs.length, by rw [List.length_map], by rw [List.length_map]; exact Nat.le_refl _, hl, fun hn => ⟨g, 0, rfl, hF, fun i x hx => ?_⟩⟩
  rw [List.getElem?_map] at hx
  obtain ⟨p, hp, rfl⟩ := Option.map_eq_some_iff.1 hx
  have hc := flat_two (f := fun p : (Int × List Int) × Value => (Value.int .i64 p.1.1, p.2)) rvs i p hp
  refine ⟨[Value.int .i64 p.1.1, p.2], rfl, ⟨p.2, rfl, h p (List.mem_of_getElem? hp)⟩, fun j u hu => ?_⟩
  rw [hk.cell]
  have hj := (List.getElem?_eq_some_iff.1 hu).1
  simp only [List.length_cons, List.length_nil] at hj
  have hj2 : j = 0 ∨ j = 1 := by omega
  rcases hj2 with rfl | rfl
  · simp at hu; subst hu; simpa using hc.1
  · simp at hu; subst hu; simpa using hc.2

/-- the grammar that awake builds -/
def awG : GramD := ⟨[⟨#[65]⟩, ⟨#[39, 120, 39]⟩], [⟨#[115]⟩], [(3, [1, 2])], 3⟩
theorem awG_box (w : World) : GBox (((((w.alloc (.cells #[.string ⟨#[65]⟩, .string ⟨#[39, 120, 39]⟩] 9)).alloc (.cells #[.string ⟨#[115]⟩] 9)).alloc (.cells #[.int .i64 1, .int .i64 2] 3)).alloc (.cells #[.int .i64 3, .slice (some ⟨w.heap.size + 1 + 1, 0, none⟩) 2 2] 30)).alloc (.cells #[.slice (some ⟨w.heap.size, 0, none⟩) 2 2, .slice (some ⟨w.heap.size + 1, 0, none⟩) 1 1, .slice (some ⟨w.heap.size + 1 + 1 + 1, 0, none⟩) 1 1, .int .i64 3] 25)) (fun b => w.heap.size ≤ b ∧ b < w.heap.size + 4) (w.heap.size + 1 + 1 + 1 + 1) (some ⟨w.heap.size, 0, none⟩) 2 (some ⟨w.heap.size + 1, 0, none⟩) 1 (some ⟨w.heap.size + 1 + 1 + 1, 0, none⟩) 1 2 1 1 3 awG ∧ Below w.heap.size w (((((w.alloc (.cells #[.string ⟨#[65]⟩, .string ⟨#[39, 120, 39]⟩] 9)).alloc (.cells #[.string ⟨#[115]⟩] 9)).alloc (.cells #[.int .i64 1, .int .i64 2] 3)).alloc (.cells #[.int .i64 3, .slice (some ⟨w.heap.size + 1 + 1, 0, none⟩) 2 2] 30)).alloc (.cells #[.slice (some ⟨w.heap.size, 0, none⟩) 2 2, .slice (some ⟨w.heap.size + 1, 0, none⟩) 1 1, .slice (some ⟨w.heap.size + 1 + 1 + 1, 0, none⟩) 1 1, .int .i64 3] 25)) := by
  obtain ⟨w1, e1⟩ : ∃ q, q = w.alloc (.cells #[.string ⟨#[65]⟩, .string ⟨#[39, 120, 39]⟩] 9) := ⟨_, rfl⟩
  obtain ⟨w2, e2⟩ : ∃ q, q = w1.alloc (.cells #[.string ⟨#[115]⟩] 9) := ⟨_, rfl⟩
  obtain ⟨w3, e3⟩ : ∃ q, q = w2.alloc (.cells #[.int .i64 1, .int .i64 2] 3) := ⟨_, rfl⟩
  obtain ⟨w4, e4⟩ : ∃ q, q = w3.alloc (.cells #[.int .i64 3, .slice (some ⟨w.heap.size + 1 + 1, 0, none⟩) 2 2] 30) := ⟨_, rfl⟩
  obtain ⟨w5, e5⟩ : ∃ q, q = w4.alloc (.cells #[.slice (some ⟨w.heap.size, 0, none⟩) 2 2, .slice (some ⟨w.heap.size + 1, 0, none⟩) 1 1, .slice (some ⟨w.heap.size + 1 + 1 + 1, 0, none⟩) 1 1, .int .i64 3] 25) := ⟨_, rfl⟩
  rw [← e1, ← e2, ← e3, ← e4, ← e5]
  have z1 : w1.heap.size = w.heap.size + 1 := by rw [e1]; simp
  have b1 : Below w.heap.size w w1 := by rw [e1]; exact (Below.refl _ _).alloc (Nat.le_refl _) _
  have k1 : Blk w1 (w.heap.size) 9 #[.string ⟨#[65]⟩, .string ⟨#[39, 120, 39]⟩] := by
    have h := Blk.new w 9 #[.string ⟨#[65]⟩, .string ⟨#[39, 120, 39]⟩]
    rw [← e1] at h; exact h
  have z2 : w2.heap.size = w.heap.size + 2 := by rw [e2]; simp; omega
  have b2 : Below w1.heap.size w1 w2 := by rw [e2]; exact (Below.refl _ _).alloc (Nat.le_refl _) _
  have k2 : Blk w2 (w.heap.size + 1) 9 #[.string ⟨#[115]⟩] := by
    have h := Blk.new w1 9 #[.string ⟨#[115]⟩]
    rw [← e2, z1] at h; exact h
  have z3 : w3.heap.size = w.heap.size + 3 := by rw [e3]; simp; omega
  have b3 : Below w2.heap.size w2 w3 := by rw [e3]; exact (Below.refl _ _).alloc (Nat.le_refl _) _
  have k3 : Blk w3 (w.heap.size + 1 + 1) 3 #[.int .i64 1, .int .i64 2] := by
    have h := Blk.new w2 3 #[.int .i64 1, .int .i64 2]
    rw [← e3, z2] at h; exact h
  have z4 : w4.heap.size = w.heap.size + 4 := by rw [e4]; simp; omega
  have b4 : Below w3.heap.size w3 w4 := by rw [e4]; exact (Below.refl _ _).alloc (Nat.le_refl _) _
  have k4 : Blk w4 (w.heap.size + 1 + 1 + 1) 30 #[.int .i64 3, .slice (some ⟨w.heap.size + 1 + 1, 0, none⟩) 2 2] := by
    have h := Blk.new w3 30 #[.int .i64 3, .slice (some ⟨w.heap.size + 1 + 1, 0, none⟩) 2 2]
    rw [← e4, z3] at h; exact h
  have z5 : w5.heap.size = w.heap.size + 5 := by rw [e5]; simp; omega
  have b5 : Below w4.heap.size w4 w5 := by rw [e5]; exact (Below.refl _ _).alloc (Nat.le_refl _) _
  have k5 : Blk w5 (w.heap.size + 1 + 1 + 1 + 1) 25 #[.slice (some ⟨w.heap.size, 0, none⟩) 2 2, .slice (some ⟨w.heap.size + 1, 0, none⟩) 1 1, .slice (some ⟨w.heap.size + 1 + 1 + 1, 0, none⟩) 1 1, .int .i64 3] := by
    have h := Blk.new w4 25 #[.slice (some ⟨w.heap.size, 0, none⟩) 2 2, .slice (some ⟨w.heap.size + 1, 0, none⟩) 1 1, .slice (some ⟨w.heap.size + 1 + 1 + 1, 0, none⟩) 1 1, .int .i64 3]
    rw [← e5, z4] at h; exact h
  have bb5 : Below w5.heap.size w5 w5 := Below.refl _ _
  have bb4 : Below w4.heap.size w4 w5 := b5.trans (bb5.mono b5.size)
  have bb3 : Below w3.heap.size w3 w5 := b4.trans (bb4.mono b4.size)
  have bb2 : Below w2.heap.size w2 w5 := b3.trans (bb3.mono b3.size)
  have bb1 : Below w1.heap.size w1 w5 := b2.trans (bb2.mono b2.size)
  have b0 : Below w.heap.size w w5 := b1.trans (bb1.mono b1.size)
  have y1 := k1.below bb1 k1.lt
  have y2 := k2.below bb2 k2.lt
  have y3 := k3.below bb3 k3.lt
  have y4 := k4.below bb4 k4.lt
  have y5 := k5.below bb5 k5.lt
  refine ⟨⟨⟨?_, ?_, ?_, ?_, ?_, ?_, ?_, ?_⟩, y5, rfl, rfl, rfl, by omega, by omega, by omega, by omega, by omega, by omega, by omega, by omega, by omega⟩, b0⟩
  · exact Rd.of_blk (us := awG.terms.map Value.string) y1 (by omega) rfl (by decide)
  · exact Rd.of_blk (us := awG.nons.map Value.string) y2 (by omega) rfl (by decide)
  · refine RdR.of_blk [((3, [1, 2]), .slice (some ⟨w.heap.size + 1 + 1, 0, none⟩) 2 2)] y4 (by omega) ?_ (by unfold maxLen; simp)
    intro p hp
    simp only [List.mem_cons, List.not_mem_nil, or_false] at hp
    subst hp
    · exact Rd.of_blk (us := [Value.int .i64 1, Value.int .i64 2]) y3 (by omega) rfl (by decide)
  · intro b hb; rw [z5]; omega
  · decide
  · exact ⟨by decide, by decide⟩
  · exact ⟨by decide, by decide⟩
  · decide
theorem awG_check : checkOf awG 3 = 0 := by decide +kernel
theorem awG_rule : ruleOf awG 3 1 = ((0, [3]), true) := by decide +kernel
theorem awG_name : nameOf awG 2 = ⟨#[39, 120, 39]⟩ := by decide +kernel
theorem awG_find : findOf awG ⟨#[115]⟩ = 3 := by decide +kernel
theorem awG_top : topOf awG = 3 := by decide +kernel
theorem awG_term : isTerm awG 1 = true := by decide +kernel
theorem awG_non : isNon awG 3 = true := by decide +kernel
theorem awG_ord : sortedL (firstsOf awG awG.nons.length) = true := by decide +kernel


set_option maxRecDepth 100000 in
set_option maxHeartbeats 2000000 in
theorem law06_awake (w : World) : Calls Try.prog 17 #[] w (Quiet w (.bool true)) := by
  obtain ⟨g, hb⟩ := awG_box w
  have e1 := awG_check
  have e2 := awG_rule
  have e3 := awG_name
  have e4 := awG_find
  have e5 := awG_top
  have e6 := awG_term
  have e7 := awG_non
  have e8 := awG_ord
  generalize awG = G at *
  have hr := gram_rule g.gram 3 1
  rw [e2] at hr
  generalize hF : (fun b => w.heap.size ≤ b ∧ b < w.heap.size + 4) = F at *
  clear hF
  have Xhr := hide hr
  have Xg := hide g
  have Xhb := hide hb
  have Xe1 := hide e1
  have Xe2 := hide e2
  have Xe3 := hide e3
  have Xe4 := hide e4
  have Xe5 := hide e5
  have Xe6 := hide e6
  have Xe7 := hide e7
  have Xe8 := hide e8
  clear hr g hb e1 e2 e3 e4 e5 e6 e7 e8
  go_enter Try.func17, Try.ntmps17
  go_wp2_with fail
  refine Xhr.out.mono ?_
  rintro e w2 ⟨A, n, c, rfl, hrd, b2⟩
  have g2 := Xg.out.below b2
  have hb2 := Xhb.out.trans (b2.mono Xhb.out.size)
  clear Xg Xhb Xhr b2
  obtain ⟨q0, q1, q2, q3⟩ := g2.cells
  obtain ⟨w3, hw3⟩ : ∃ w3, w3 = w2.alloc (.cells #[.int .i64 0, .slice A n c] 30) := ⟨_, rfl⟩
  have b3 : Below w2.heap.size w2 w3 := by rw [hw3]; exact (Below.refl _ _).alloc (Nat.le_refl _) _
  have k3 : Blk w3 w2.heap.size 30 #[.int .i64 0, .slice A n c] := by rw [hw3]; exact Blk.new _ _ _
  have g3 := g2.below b3
  have hb3 := hb2.trans (b3.mono hb2.size)
  have hrd3 := hrd.below b3 (fun b e => e)
  obtain ⟨hn, hnc, hcm, hcell⟩ := RdI.at_ hrd3
  obtain rfl : n = 1 := hn
  obtain ⟨b, off, rfl, hbl, hc⟩ := hcell (by omega)
  have hc0 := hc 0 3 rfl
  rw [Nat.add_zero] at hc0
  have next : ∀ wr, Below w3.heap.size w3 wr → GBox wr F (w.heap.size + 1 + 1 + 1 + 1) (some ⟨w.heap.size, 0, none⟩) 2 (some ⟨w.heap.size + 1, 0, none⟩) 1 (some ⟨w.heap.size + 1 + 1 + 1, 0, none⟩) 1 2 1 1 3 G ∧ Below w.heap.size w wr ∧ wr.cell? ⟨w2.heap.size, 0, none⟩ = some (.int .i64 0) ∧ wr.cell? ⟨w2.heap.size, 1, none⟩ = some (.slice (some ⟨b, off, none⟩) 1 c) ∧ wr.cell? ⟨b, off, none⟩ = some (.int .i64 3) := fun wr h =>
    ⟨g3.below h, hb3.trans (h.mono hb3.size), ((k3.below h k3.lt).cell 0).trans rfl, ((k3.below h k3.lt).cell 1).trans rfl, (h.cell (p := ⟨b, off, none⟩) (World.block_lt_of_cell? w3 _ hc0)).trans hc0⟩
  have Xnext := hide next
  clear next
  have hc1 := gram_check g3.gram 3
  rw [Xe1.out] at hc1
  obtain ⟨p0, p1, p2, p3⟩ := g3.cells
  rw [hw3] at hc1 p0 p1 p2 p3
  have Xhc1 := hide hc1
  clear hc1
  clear g2 hb2 g3 hb3 b3 k3 hc hc0 hcell hrd hrd3 hbl
  go_wp2_with fail
  refine Xhc1.out.mono ?_
  rintro e w4 ⟨rfl, b4⟩
  rw [← hw3] at b4
  clear hw3 q0 q1 q2 q3 p0 p1 p2 p3 Xhc1
  obtain ⟨g4, hb4, r0, r1, r2⟩ := Xnext.out w4 b4
  obtain ⟨q0, q1, q2, q3⟩ := g4.cells
  have h5 := gram_name g4.gram 3 2
  rw [Xe3.out] at h5
  have Xh5 := hide h5
  clear h5
  go_wp2_with fail
  refine Xh5.out.mono ?_
  rintro e w5 ⟨rfl, b5⟩
  have b5 := b4.trans (b5.mono b4.size)
  clear q0 q1 q2 q3 r0 r1 r2 g4 hb4 b4
  obtain ⟨g5, hb5, r0, r1, r2⟩ := Xnext.out w5 b5
  obtain ⟨q0, q1, q2, q3⟩ := g5.cells
  have h6 := gram_find g5.gram 3 ⟨#[115]⟩
  rw [Xe4.out] at h6
  have Xh6 := hide h6
  clear h6
  go_wp2_with fail
  refine Xh6.out.mono ?_
  rintro e w6 ⟨rfl, b6⟩
  have b6 := b5.trans (b6.mono b5.size)
  clear q0 q1 q2 q3 r0 r1 r2 g5 hb5 b5
  obtain ⟨g6, hb6, r0, r1, r2⟩ := Xnext.out w6 b6
  obtain ⟨q0, q1, q2, q3⟩ := g6.cells
  have h7 := gram_top g6.gram 3
  rw [Xe5.out] at h7
  have Xh7 := hide h7
  clear h7
  go_wp2_with fail
  refine Xh7.out.mono ?_
  rintro e w7 ⟨rfl, b7⟩
  have b7 := b6.trans (b7.mono b6.size)
  clear q0 q1 q2 q3 r0 r1 r2 g6 hb6 b6
  obtain ⟨g7, hb7, r0, r1, r2⟩ := Xnext.out w7 b7
  obtain ⟨q0, q1, q2, q3⟩ := g7.cells
  have h8 := gram_term g7.gram 3 1
  rw [Xe6.out] at h8
  have Xh8 := hide h8
  clear h8
  go_wp2_with fail
  refine Xh8.out.mono ?_
  rintro e w8 ⟨rfl, b8⟩
  have b8 := b7.trans (b8.mono b7.size)
  clear q0 q1 q2 q3 r0 r1 r2 g7 hb7 b7
  obtain ⟨g8, hb8, r0, r1, r2⟩ := Xnext.out w8 b8
  obtain ⟨q0, q1, q2, q3⟩ := g8.cells
  have h9 := gram_non g8.gram 3 3
  rw [Xe7.out] at h9
  have Xh9 := hide h9
  clear h9
  go_wp2_with fail
  refine Xh9.out.mono ?_
  rintro e w9 ⟨rfl, b9⟩
  have b9 := b8.trans (b9.mono b8.size)
  clear q0 q1 q2 q3 r0 r1 r2 g8 hb8 b8
  obtain ⟨g9, hb9, r0, r1, r2⟩ := Xnext.out w9 b9
  obtain ⟨q0, q1, q2, q3⟩ := g9.cells
  have h10 := gram_ordered g9.gram 3
  rw [Xe8.out] at h10
  have Xh10 := hide h10
  clear h10
  go_wp2_with fail
  refine Xh10.out.mono ?_
  rintro e w10 ⟨rfl, b10⟩
  go_wp2_with fail
  go_ret
  exact ⟨rfl, hb9.trans (b10.mono hb9.size)⟩
end Go.Proofs.Ytejjaabkbkkjlaa

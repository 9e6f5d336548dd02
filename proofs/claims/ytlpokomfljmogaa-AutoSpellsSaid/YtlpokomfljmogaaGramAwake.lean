/- The program computes at all: conchlaw06.awake. -/
import Derived.Test.YtlpokomfljmogaaG8
namespace Go.Proofs.Ytlpokomfljmogaa
set_option linter.unusedVariables false
open Go.RowKit

theorem Rd.of_blk {w : World} {F : Nat → Prop} {g n size : Nat} {t : TypeId} {us : List Value} (hk : Blk w g t us.toArray) (hF : F g) (hl : us.length = n * size) (hm : n ≤ maxLen) : Rd w F (.slice (some ⟨g, 0, none⟩) n n) size us :=
  ⟨_, n, n, rfl, Nat.le_refl _, hm, hl, fun _ => ⟨g, 0, rfl, hF, fun j u hu => by rw [hk.cell]; simpa using hu⟩⟩
theorem flat_two {X : Type} {f : X → Value × Value} : ∀ (l : List X) (i : Nat) (p : X), l[i]? = some p → (l.flatMap (fun p => [(f p).1, (f p).2]))[i * 2]? = some (f p).1 ∧ (l.flatMap (fun p => [(f p).1, (f p).2]))[i * 2 + 1]? = some (f p).2
  | a :: r, 0, p, h => by
    simp at h
    subst h
    simp
  | a :: r, i + 1, p, h => by
    have := flat_two (f := f) r i p (by simpa using h)
    simp only [List.flatMap_cons]
    rw [show (i + 1) * 2 = i * 2 + 2 by omega]
    exact this
theorem RdR.of_blk {w : World} {F : Nat → Prop} {g : Nat} {t : TypeId} (rvs : List ((Int × List Int) × Value)) (hk : Blk w g t (rvs.flatMap (fun p => [Value.int .i64 p.1.1, p.2])).toArray) (hF : F g) (h : ∀ p ∈ rvs, RdI w F p.2 p.1.2) (hl : rvs.length ≤ maxLen) :
    RdR w F (.slice (some ⟨g, 0, none⟩) rvs.length rvs.length) (rvs.map (·.1)) := by
  refine ⟨some ⟨g, 0, none⟩, rvs.length, by rw [List.length_map], by rw [List.length_map]; exact Nat.le_refl _, hl, fun hn => ⟨g, 0, rfl, hF, fun i x hx => ?_⟩⟩
  rw [List.getElem?_map] at hx
  obtain ⟨p, hp, rfl⟩ := Option.map_eq_some_iff.1 hx
  have hc := flat_two (f := fun p : (Int × List Int) × Value => (Value.int .i64 p.1.1, p.2)) rvs i p hp
  refine ⟨[Value.int .i64 p.1.1, p.2], rfl, ⟨p.2, rfl, h p (List.mem_of_getElem? hp)⟩, fun j u hu => ?_⟩
  rw [hk.cell]
  have hj := (List.getElem?_eq_some_iff.1 hu).1
  simp only [List.length_cons, List.length_nil] at hj
  have hj2 : j = 0 ∨ j = 1 := by omega
  rcases hj2 with rfl | rfl
  · simp at hu; subst hu; simpa using hc.1
  · simp at hu; subst hu; simpa using hc.2

/-- the grammar that awake builds -/
def awG : GramD := ⟨[⟨#[65]⟩, ⟨#[39, 120, 39]⟩], [⟨#[115]⟩], [(3, [1, 2])], 3⟩
theorem awG_box (w : World) : GBox (((((w.alloc (.cells #[.string ⟨#[65]⟩, .string ⟨#[39, 120, 39]⟩] 9)).alloc (.cells #[.string ⟨#[115]⟩] 9)).alloc (.cells #[.int .i64 1, .int .i64 2] 3)).alloc (.cells #[.int .i64 3, .slice (some ⟨w.heap.size + 1 + 1, 0, none⟩) 2 2] 47)).alloc (.cells #[.slice (some ⟨w.heap.size, 0, none⟩) 2 2, .slice (some ⟨w.heap.size + 1, 0, none⟩) 1 1, .slice (some ⟨w.heap.size + 1 + 1 + 1, 0, none⟩) 1 1, .int .i64 3] 36)) (fun b => w.heap.size ≤ b ∧ b < w.heap.size + 4) (w.heap.size + 1 + 1 + 1 + 1) (some ⟨w.heap.size, 0, none⟩) 2 (some ⟨w.heap.size + 1, 0, none⟩) 1 (some ⟨w.heap.size + 1 + 1 + 1, 0, none⟩) 1 2 1 1 3 awG ∧ Below w.heap.size w (((((w.alloc (.cells #[.string ⟨#[65]⟩, .string ⟨#[39, 120, 39]⟩] 9)).alloc (.cells #[.string ⟨#[115]⟩] 9)).alloc (.cells #[.int .i64 1, .int .i64 2] 3)).alloc (.cells #[.int .i64 3, .slice (some ⟨w.heap.size + 1 + 1, 0, none⟩) 2 2] 47)).alloc (.cells #[.slice (some ⟨w.heap.size, 0, none⟩) 2 2, .slice (some ⟨w.heap.size + 1, 0, none⟩) 1 1, .slice (some ⟨w.heap.size + 1 + 1 + 1, 0, none⟩) 1 1, .int .i64 3] 36)) := by
  obtain ⟨w1, e1⟩ : ∃ q, q = w.alloc (.cells #[.string ⟨#[65]⟩, .string ⟨#[39, 120, 39]⟩] 9) := ⟨_, rfl⟩
  obtain ⟨w2, e2⟩ : ∃ q, q = w1.alloc (.cells #[.string ⟨#[115]⟩] 9) := ⟨_, rfl⟩
  obtain ⟨w3, e3⟩ : ∃ q, q = w2.alloc (.cells #[.int .i64 1, .int .i64 2] 3) := ⟨_, rfl⟩
  obtain ⟨w4, e4⟩ : ∃ q, q = w3.alloc (.cells #[.int .i64 3, .slice (some ⟨w.heap.size + 1 + 1, 0, none⟩) 2 2] 47) := ⟨_, rfl⟩
  obtain ⟨w5, e5⟩ : ∃ q, q = w4.alloc (.cells #[.slice (some ⟨w.heap.size, 0, none⟩) 2 2, .slice (some ⟨w.heap.size + 1, 0, none⟩) 1 1, .slice (some ⟨w.heap.size + 1 + 1 + 1, 0, none⟩) 1 1, .int .i64 3] 36) := ⟨_, rfl⟩
  rw [← e1, ← e2, ← e3, ← e4, ← e5]
  have z1 : w1.heap.size = w.heap.size + 1 := by rw [e1]; simp
  have b1 : Below w.heap.size w w1 := by rw [e1]; exact (Below.refl _ _).alloc (Nat.le_refl _) _
  have k1 : Blk w1 (w.heap.size) 9 #[.string ⟨#[65]⟩, .string ⟨#[39, 120, 39]⟩] := by
    have h := Blk.new w 9 #[.string ⟨#[65]⟩, .string ⟨#[39, 120, 39]⟩]
    rw [← e1] at h; exact h
  have z2 : w2.heap.size = w.heap.size + 2 := by rw [e2]; simp; omega
  have b2 : Below w1.heap.size w1 w2 := by rw [e2]; exact (Below.refl _ _).alloc (Nat.le_refl _) _
  have k2 : Blk w2 (w.heap.size + 1) 9 #[.string ⟨#[115]⟩] := by
    have h := Blk.new w1 9 #[.string ⟨#[115]⟩]
    rw [← e2, z1] at h; exact h
  have z3 : w3.heap.size = w.heap.size + 3 := by rw [e3]; simp; omega
  have b3 : Below w2.heap.size w2 w3 := by rw [e3]; exact (Below.refl _ _).alloc (Nat.le_refl _) _
  have k3 : Blk w3 (w.heap.size + 1 + 1) 3 #[.int .i64 1, .int .i64 2] := by
    have h := Blk.new w2 3 #[.int .i64 1, .int .i64 2]
    rw [← e3, z2] at h; exact h
  have z4 : w4.heap.size = w.heap.size + 4 := by rw [e4]; simp; omega
  have b4 : Below w3.heap.size w3 w4 := by rw [e4]; exact (Below.refl _ _).alloc (Nat.le_refl _) _
  have k4 : Blk w4 (w.heap.size + 1 + 1 + 1) 47 #[.int .i64 3, .slice (some ⟨w.heap.size + 1 + 1, 0, none⟩) 2 2] := by
    have h := Blk.new w3 47 #[.int .i64 3, .slice (some ⟨w.heap.size + 1 + 1, 0, none⟩) 2 2]
    rw [← e4, z3] at h; exact h
  have z5 : w5.heap.size = w.heap.size + 5 := by rw [e5]; simp; omega
  have b5 : Below w4.heap.size w4 w5 := by rw [e5]; exact (Below.refl _ _).alloc (Nat.le_refl _) _
  have k5 : Blk w5 (w.heap.size + 1 + 1 + 1 + 1) 36 #[.slice (some ⟨w.heap.size, 0, none⟩) 2 2, .slice (some ⟨w.heap.size + 1, 0, none⟩) 1 1, .slice (some ⟨w.heap.size + 1 + 1 + 1, 0, none⟩) 1 1, .int .i64 3] := by
    have h := Blk.new w4 36 #[.slice (some ⟨w.heap.size, 0, none⟩) 2 2, .slice (some ⟨w.heap.size + 1, 0, none⟩) 1 1, .slice (some ⟨w.heap.size + 1 + 1 + 1, 0, none⟩) 1 1, .int .i64 3]
    rw [← e5, z4] at h; exact h
  have bb5 : Below w5.heap.size w5 w5 := Below.refl _ _
  have bb4 : Below w4.heap.size w4 w5 := b5.trans (bb5.mono b5.size)
  have bb3 : Below w3.heap.size w3 w5 := b4.trans (bb4.mono b4.size)
  have bb2 : Below w2.heap.size w2 w5 := b3.trans (bb3.mono b3.size)
  have bb1 : Below w1.heap.size w1 w5 := b2.trans (bb2.mono b2.size)
  have b0 : Below w.heap.size w w5 := b1.trans (bb1.mono b1.size)
  have y1 := k1.below bb1 k1.lt
  have y2 := k2.below bb2 k2.lt
  have y3 := k3.below bb3 k3.lt
  have y4 := k4.below bb4 k4.lt
  have y5 := k5.below bb5 k5.lt
  refine ⟨⟨⟨?_, ?_, ?_, ?_, ?_, ?_, ?_, ?_⟩, y5, rfl, rfl, rfl, by omega, by omega, by omega, by omega, by omega, by omega, by omega, by omega, by omega⟩, b0⟩
  · exact Rd.of_blk (us := awG.terms.map Value.string) y1 (by omega) rfl (by decide)
  · exact Rd.of_blk (us := awG.nons.map Value.string) y2 (by omega) rfl (by decide)
  · refine RdR.of_blk [((3, [1, 2]), .slice (some ⟨w.heap.size + 1 + 1, 0, none⟩) 2 2)] y4 (by omega) ?_ (by unfold maxLen; simp)
    intro p hp
    simp only [List.mem_cons, List.not_mem_nil, or_false] at hp
    subst hp
    · exact Rd.of_blk (us := [Value.int .i64 1, Value.int .i64 2]) y3 (by omega) rfl (by decide)
  · intro b hb; rw [z5]; omega
  · decide
  · exact ⟨by decide, by decide⟩
  · exact ⟨by decide, by decide⟩
  · decide
theorem awG_check : checkOf awG 3 = 0 := by decide +kernel
theorem awG_rule : ruleOf awG 3 1 = ((0, [3]), true) := by decide +kernel
theorem awG_name : nameOf awG 2 = ⟨#[39, 120, 39]⟩ := by decide +kernel
theorem awG_find : findOf awG ⟨#[115]⟩ = 3 := by decide +kernel
theorem awG_top : topOf awG = 3 := by decide +kernel
theorem awG_term : isTerm awG 1 = true := by decide +kernel
theorem awG_non : isNon awG 3 = true := by decide +kernel
theorem awG_ord : sortedL (firstsOf awG awG.nons.length) = true := by decide +kernel


end Go.Proofs.Ytlpokomfljmogaa

/- The reference: unlike, known. -/
import Derived.Test.YtlpokomfljmogaaG5
import Derived.Test.YtlpokomfljmogaaRegion
namespace Go.Proofs.Ytlpokomfljmogaa
set_option linter.unusedVariables false

section
open Go.RowKit

/-- a boxed grammar -/
structure GBox (w : World) (F : Nat → Prop) (B : Nat) (A1 : Option Addr) (c1 : Nat) (A2 : Option Addr) (c2 : Nat) (A3 : Option Addr) (c3 T N R : Nat) (st : Int) (G : GramD) : Prop where
  gram : IsGram w F (.slice A1 T c1) (.slice A2 N c2) (.slice A3 R c3) G
  blk : Blk w B 36 #[.slice A1 T c1, .slice A2 N c2, .slice A3 R c3, .int .i64 st]
  t : T = G.terms.length
  n : N = G.nons.length
  r : R = G.rules.length
  tc : T ≤ c1
  nc : N ≤ c2
  rc : R ≤ c3
  c1m : c1 ≤ 9223372036854775807
  c2m : c2 ≤ 9223372036854775807
  c3m : c3 ≤ 9223372036854775807
  ts : T ≤ 8796093022207
  ns : N ≤ 8796093022207
  rs : R ≤ 4398046511103
section
variable {w w' : World} {F : Nat → Prop} {B : Nat} {A1 A2 A3 : Option Addr} {c1 c2 c3 T N R : Nat} {st : Int} {G : GramD}
theorem GBox.below (h : GBox w F B A1 c1 A2 c2 A3 c3 T N R st G) (hb : Below w.heap.size w w') : GBox w' F B A1 c1 A2 c2 A3 c3 T N R st G :=
  ⟨h.gram.below hb, h.blk.below hb h.blk.lt, h.t, h.n, h.r, h.tc, h.nc, h.rc, h.c1m, h.c2m, h.c3m, h.ts, h.ns, h.rs⟩
theorem GBox.drewN (h : GBox w F B A1 c1 A2 c2 A3 c3 T N R st G) (q : Nat) : GBox (w.drewN q) F B A1 c1 A2 c2 A3 c3 T N R st G :=
  h.below (below_drewN (Below.refl _ _) q)
theorem GBox.cells (h : GBox w F B A1 c1 A2 c2 A3 c3 T N R st G) : w.cell? ⟨B, 0, none⟩ = some (.slice A1 T c1) ∧ w.cell? ⟨B, 1, none⟩ = some (.slice A2 N c2) ∧ w.cell? ⟨B, 2, none⟩ = some (.slice A3 R c3) ∧ w.cell? ⟨B, 3, none⟩ = some (.int .i64 st) :=
  ⟨(h.blk.cell 0).trans rfl, (h.blk.cell 1).trans rfl, (h.blk.cell 2).trans rfl, (h.blk.cell 3).trans rfl⟩
/-- a rule, where it lies -/
theorem GBox.rule (h : GBox w F B A1 c1 A2 c2 A3 c3 T N R st G) {k : Nat} (hk : k < R) : ∃ (b off : Nat) (l : Int) (x : List Int) (A : Option Addr) (n c : Nat), A3 = some ⟨b, off, none⟩ ∧ b < w.heap.size ∧ G.rules[k]? = some (l, x) ∧ w.cell? ⟨b, off + k * 2, none⟩ = some (.int .i64 l) ∧ w.cell? ⟨b, off + k * 2 + 1, none⟩ = some (.slice A n c) ∧ RdI w F (.slice A n c) x ∧ n = x.length ∧ n ≤ c ∧ c ≤ 9223372036854775807 := by
  obtain ⟨-, -, -, hcell⟩ := ERule.at_ h.gram.rules
  obtain ⟨b, off, hA, hb, hc⟩ := hcell (by omega)
  obtain ⟨l, x, v, hx, h0, h1, hr⟩ := RdR.get (n := R) h.gram.lt hb (Below.refl _ w) hc (k := k) (by rw [← h.r]; exact hk)
  obtain ⟨A, n, c, rfl, _⟩ := id hr
  obtain ⟨hn, hnc, hcm, -⟩ := RdI.at_ hr
  exact ⟨b, off, l, x, A, n, c, hA, h.gram.lt b hb, hx, h0, h1, hr, hn, hnc, hcm⟩
theorem GBox.new (h : IsGram w F (.slice A1 T c1) (.slice A2 N c2) (.slice A3 R c3) G) (st : Int) : GBox (w.alloc (.cells #[.slice A1 T c1, .slice A2 N c2, .slice A3 R c3, .int .i64 st] 36)) F w.heap.size A1 c1 A2 c2 A3 c3 T N R st G := by
  have hb : Below w.heap.size w (w.alloc (.cells #[.slice A1 T c1, .slice A2 N c2, .slice A3 R c3, .int .i64 st] 36)) := (Below.refl _ w).alloc (Nat.le_refl _) _
  obtain ⟨a1, d1, a2, d2, a3, d3, e1, e2, e3, l1, l2, l3, m1, m2, m3⟩ := h.slices
  injection e1 with e1 f1 g1
  injection e2 with e2 f2 g2
  injection e3 with e3 f3 g3
  obtain ⟨s1, s2, s3⟩ := h.small
  exact ⟨h.below hb, Blk.new w _ _, f1, f2, f3, by omega, by omega, by omega, by omega, by omega, by omega, by omega, by omega, by omega⟩
end

theorem unlikeOf_false {rs : List (Int × List Int)} {k i : Nat} {r : Int × List Int} (hi : i < k) (hk : rs[k]? = some r) (hir : rs[i]? = some r) : unlikeOf rs = false := by
  have hl := (List.getElem?_eq_some_iff.1 hk).1
  refine unlikeUpto_mono (k := k + 1) (by omega) ?_
  rw [unlikeUpto_succ hk]
  have : (rs.take k).any (fun x => decide (x = r)) = true := by
    rw [List.any_eq_true]
    exact ⟨r, List.mem_of_getElem? (i := i) (by rw [List.getElem?_take_of_lt hi]; exact hir), by simp⟩
  rw [this]; simp
theorem unlikeUpto_next {rs : List (Int × List Int)} {k : Nat} {r : Int × List Int} (h : unlikeUpto rs k = true) (hk : rs[k]? = some r) (hd : ∀ j : Nat, j < k → rs[j]? ≠ some r) : unlikeUpto rs (k + 1) = true := by
  rw [unlikeUpto_succ hk, h]
  have : (rs.take k).any (fun x => decide (x = r)) = false := by
    rw [List.any_eq_false]
    intro x hx
    obtain ⟨j, hj, e⟩ := List.getElem_of_mem hx
    rw [List.length_take] at hj
    rw [List.getElem_take] at e
    have := hd j (by omega)
    rw [List.getElem?_eq_getElem (by omega), e] at this
    simpa using this
  rw [this]; rfl

end

section
open Go.RowKit
attribute [local irreducible] wpStill wpOne wpPh

def allKnown (G : GramD) (st : Int) : Bool := isNon G st && G.rules.all (fun r => knownOf G r)
theorem allKnown_no {G : GramD} {st : Int} {k : Nat} {r : Int × List Int} (hk : G.rules[k]? = some r) (h : knownOf G r = false) : allKnown G st = false := by
  unfold allKnown
  have : G.rules.all (fun r => knownOf G r) = false := by
    rw [List.all_eq_false]
    exact ⟨r, List.mem_of_getElem? hk, by simp [h]⟩
  rw [this]; simp
theorem knownOf_no {G : GramD} {l : Int} {xs : List Int} {j : Nat} {s : Int} (hj : xs[j]? = some s) (ht : isTerm G s = false) (hn : isNon G s = false) : knownOf G (l, xs) = false := by
  unfold knownOf
  have : xs.all (fun s => isTerm G s || isNon G s) = false := by
    rw [List.all_eq_false]
    exact ⟨s, List.mem_of_getElem? hj, by simp [ht, hn]⟩
  simp only [this]; simp
theorem knownOf_yes {G : GramD} {l : Int} {xs : List Int} (hl : isNon G l = true) (h : ∀ (j : Nat) (s : Int), xs[j]? = some s → (isTerm G s || isNon G s) = true) : knownOf G (l, xs) = true := by
  unfold knownOf
  rw [Bool.and_eq_true]
  refine ⟨hl, ?_⟩
  show xs.all (fun s => isTerm G s || isNon G s) = true
  rw [List.all_eq_true]
  intro s hs
  obtain ⟨j, hj, e⟩ := List.getElem_of_mem hs
  exact h j s (by rw [List.getElem?_eq_getElem hj, e])

end
end Go.Proofs.Ytlpokomfljmogaa

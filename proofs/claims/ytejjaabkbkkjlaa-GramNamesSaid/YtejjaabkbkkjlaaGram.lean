/- Grammars in memory, and the contracts of package gram's and its reference's plainest functions: Top, Term, Non. -/
import Derived.Test.YtejjaabkbkkjlaaProg
import Derived.Test.YtejjaabkbkkjlaaOpenZ
namespace Go.Proofs.Ytejjaabkbkkjlaa
set_option linter.unusedVariables false
open Go.RowKit

/-- a grammar -/
structure GramD where
  terms : List ByteArray
  nons : List ByteArray
  rules : List (Int × List Int)
  start : Int

abbrev RdS (w : World) (F : Nat → Prop) (v : Value) (xs : List ByteArray) : Prop := Rd w F v 1 (xs.map Value.string)
abbrev RdI (w : World) (F : Nat → Prop) (v : Value) (xs : List Int) : Prop := Rd w F v 1 (xs.map (Value.int .i64))

/-- a rule's two cells -/
def ERule (w : World) (F : Nat → Prop) (cs : List Value) (r : Int × List Int) : Prop := ∃ v, cs = [.int .i64 r.1, v] ∧ RdI w F v r.2
theorem ERule.below {w w' : World} {F : Nat → Prop} {B : Nat} {cs : List Value} {r : Int × List Int} (h : ERule w F cs r) (hb : Below B w w') (hF : ∀ b, F b → b < B) : ERule w' F cs r := by
  obtain ⟨v, e, hv⟩ := h
  exact ⟨v, e, hv.below hb hF⟩

/-- the value V is the grammar G -/
structure IsGram (w : World) (F : Nat → Prop) (vt vn vr : Value) (G : GramD) : Prop where
  terms : RdS w F vt G.terms
  nons : RdS w F vn G.nons
  rules : RdL w F 2 (ERule w F) vr G.rules
  lt : ∀ b, F b → b < w.heap.size
  /-- nothing in it is longer than the form's reach lets it be -/
  small : G.terms.length ≤ 8796093022207 ∧ G.nons.length ≤ 8796093022207 ∧ G.rules.length ≤ 4398046511103
  /-- texts and numbers are Go's -/
  sizes : (∀ s ∈ G.terms, s.size ≤ maxLen) ∧ (∀ s ∈ G.nons, s.size ≤ maxLen)
  reach : (∀ s ∈ G.terms, s.size ≤ 140737488351232) ∧ (∀ s ∈ G.nons, s.size ≤ 140737488351232)
  wfs : ∀ r ∈ G.rules, (-9223372036854775808 ≤ r.1 ∧ r.1 ≤ 9223372036854775807) ∧ r.2.length ≤ 17592186044416 ∧ ∀ x ∈ r.2, -9223372036854775808 ≤ x ∧ x ≤ 9223372036854775807

theorem IsGram.below {w w' : World} {F : Nat → Prop} {vt vn vr : Value} {G : GramD} (h : IsGram w F vt vn vr G) (hb : Below w.heap.size w w') : IsGram w' F vt vn vr G :=
  ⟨h.terms.below hb h.lt, h.nons.below hb h.lt, h.rules.below hb h.lt fun cs x _ e => e.below hb h.lt, fun b hF => Nat.lt_of_lt_of_le (h.lt b hF) hb.size, h.small, h.sizes, h.reach, h.wfs⟩

abbrev GV (vt vn vr : Value) (st : Int) : Value := .agg #[vt, vn, vr, .int .i64 st]

/-- the values of a grammar's slices -/
theorem IsGram.slices {w : World} {F : Nat → Prop} {vt vn vr : Value} {G : GramD} (h : IsGram w F vt vn vr G) : ∃ A1 c1 A2 c2 A3 c3, vt = .slice A1 G.terms.length c1 ∧ vn = .slice A2 G.nons.length c2 ∧ vr = .slice A3 G.rules.length c3 ∧ G.terms.length ≤ c1 ∧ G.nons.length ≤ c2 ∧ G.rules.length ≤ c3 ∧ c1 ≤ 9223372036854775807 ∧ c2 ≤ 9223372036854775807 ∧ c3 ≤ 9223372036854775807 := by
  obtain ⟨A1, n1, c1, e1, h1, m1, l1, _⟩ := h.terms
  obtain ⟨A2, n2, c2, e2, h2, m2, l2, _⟩ := h.nons
  obtain ⟨A3, c3, e3, h3, m3, _⟩ := h.rules
  have l1' : n1 = G.terms.length := by simpa using l1.symm
  have l2' : n2 = G.nons.length := by simpa using l2.symm
  subst l1' l2'
  unfold maxLen at m1 m2 m3
  exact ⟨A1, c1, A2, c2, A3, c3, e1, e2, e3, h1, h2, h3, by omega, by omega, by omega⟩

def topOf (G : GramD) : Nat := G.terms.length + G.nons.length
def isTerm (G : GramD) (s : Int) : Bool := decide (1 ≤ s) && decide (s ≤ G.terms.length)
def isNon (G : GramD) (s : Int) : Bool := decide (G.terms.length < s) && decide (s ≤ topOf G)

def Quiet (w : World) (r : Value) (e : Ending) (w' : World) : Prop := e = .returned r ∧ Below w.heap.size w w'

theorem gram_top {w : World} {F : Nat → Prop} {vt vn vr : Value} {G : GramD} (h : IsGram w F vt vn vr G) (st : Int) :
    Calls Try.prog 22 #[GV vt vn vr st] w (Quiet w (.int .i64 (topOf G))) := by
  obtain ⟨A1, c1, A2, c2, A3, c3, rfl, rfl, rfl, _⟩ := h.slices
  have hs := h.small
  obtain ⟨T, hT⟩ : ∃ T, T = G.terms.length := ⟨_, rfl⟩
  obtain ⟨N, hN⟩ : ∃ N, N = G.nons.length := ⟨_, rfl⟩
  rw [← hT, ← hN] at hs ⊢
  have H1 := hide hT
  have H2 := hide hN
  obtain ⟨s1, s2, s3⟩ := hs
  clear hT hN h
  go_enter Try.func22, Try.ntmps22
  go_wp2
  go_ret
  exact ⟨ret_int (by unfold topOf; rw [← H1.out, ← H2.out]; omega), (Below.refl _ _).alloc (Nat.le_refl _) _⟩
theorem gram_term {w : World} {F : Nat → Prop} {vt vn vr : Value} {G : GramD} (h : IsGram w F vt vn vr G) (st s : Int) :
    Calls Try.prog 24 #[GV vt vn vr st, .int .i64 s] w (Quiet w (.bool (isTerm G s))) := by
  obtain ⟨A1, c1, A2, c2, A3, c3, rfl, rfl, rfl, _⟩ := h.slices
  have hs := h.small
  have hsp : isTerm G s = (decide (1 ≤ s) && decide (s ≤ (G.terms.length : Int))) := rfl
  obtain ⟨T, hT⟩ : ∃ T, T = G.terms.length := ⟨_, rfl⟩
  rw [← hT] at hs hsp ⊢
  have HS := hide hsp
  obtain ⟨s1, s2, s3⟩ := hs
  clear hT h hsp
  by_cases h1 : 1 ≤ s
  · go_enter Try.func24, Try.ntmps24
    go_wp2
    go_ret
    exact ⟨ret_bool (by rw [HS.out, decide_eq_true h1]; rfl), (Below.refl _ _).alloc (Nat.le_refl _) _⟩
  · go_enter Try.func24, Try.ntmps24
    go_wp2
    go_ret
    exact ⟨ret_bool (by rw [HS.out, decide_eq_false (by omega)]; rfl), (Below.refl _ _).alloc (Nat.le_refl _) _⟩
theorem gram_non {w : World} {F : Nat → Prop} {vt vn vr : Value} {G : GramD} (h : IsGram w F vt vn vr G) (st s : Int) :
    Calls Try.prog 26 #[GV vt vn vr st, .int .i64 s] w (Quiet w (.bool (isNon G s))) := by
  have hs := h.small
  have hsp : isNon G s = (decide ((G.terms.length : Int) < s) && decide (s ≤ (topOf G : Int))) := rfl
  have H := hide h
  obtain ⟨A1, c1, A2, c2, A3, c3, e1, e2, e3, _⟩ := h.slices
  have h4 := h.below ((Below.refl _ w).alloc (Nat.le_refl _) (.cells #[vt, vn, vr, .int .i64 st] 25))
  subst e1 e2 e3
  obtain ⟨T, hT⟩ : ∃ T, T = G.terms.length := ⟨_, rfl⟩
  have H4 := hide h4
  rw [← hT] at hs hsp H4 ⊢
  have HS := hide hsp
  obtain ⟨s1, s2, s3⟩ := hs
  clear hT h hsp h4 H
  by_cases h1 : (T : Int) < s
  · go_enter Try.func26, Try.ntmps26
    go_wp2_with fail
    refine (gram_top H4.out _).mono ?_
    rintro e w1 ⟨rfl, b1⟩
    go_wp2_with fail
    go_ret
    exact ⟨ret_bool (by rw [HS.out, decide_eq_true h1]; rfl), ((Below.refl _ _).alloc (Nat.le_refl _) _).trans (b1.mono (by simp))⟩
  · go_enter Try.func26, Try.ntmps26
    go_wp2_with fail
    go_ret
    exact ⟨ret_bool (by rw [HS.out, decide_eq_false (by omega)]; rfl), (Below.refl _ _).alloc (Nat.le_refl _) _⟩
theorem ref_top {w : World} {F : Nat → Prop} {vt vn vr : Value} {G : GramD} (h : IsGram w F vt vn vr G) (st : Int) :
    Calls Try.prog 23 #[GV vt vn vr st] w (Quiet w (.int .i64 (topOf G))) := by
  obtain ⟨A1, c1, A2, c2, A3, c3, rfl, rfl, rfl, _⟩ := h.slices
  have hs := h.small
  obtain ⟨T, hT⟩ : ∃ T, T = G.terms.length := ⟨_, rfl⟩
  obtain ⟨N, hN⟩ : ∃ N, N = G.nons.length := ⟨_, rfl⟩
  rw [← hT, ← hN] at hs ⊢
  have H1 := hide hT
  have H2 := hide hN
  obtain ⟨s1, s2, s3⟩ := hs
  clear hT hN h
  go_enter Try.func23, Try.ntmps23
  go_wp2
  go_ret
  exact ⟨ret_int (by unfold topOf; rw [← H1.out, ← H2.out]; omega), (Below.refl _ _).alloc (Nat.le_refl _) _⟩
theorem ref_term {w : World} {F : Nat → Prop} {vt vn vr : Value} {G : GramD} (h : IsGram w F vt vn vr G) (st s : Int) :
    Calls Try.prog 25 #[GV vt vn vr st, .int .i64 s] w (Quiet w (.bool (isTerm G s))) := by
  obtain ⟨A1, c1, A2, c2, A3, c3, rfl, rfl, rfl, _⟩ := h.slices
  have hs := h.small
  have hsp : isTerm G s = (decide (1 ≤ s) && decide (s ≤ (G.terms.length : Int))) := rfl
  obtain ⟨T, hT⟩ : ∃ T, T = G.terms.length := ⟨_, rfl⟩
  rw [← hT] at hs hsp ⊢
  have HS := hide hsp
  obtain ⟨s1, s2, s3⟩ := hs
  clear hT h hsp
  by_cases h1 : 1 ≤ s
  · go_enter Try.func25, Try.ntmps25
    go_wp2
    go_ret
    exact ⟨ret_bool (by rw [HS.out, decide_eq_true h1]; rfl), (Below.refl _ _).alloc (Nat.le_refl _) _⟩
  · go_enter Try.func25, Try.ntmps25
    go_wp2
    go_ret
    exact ⟨ret_bool (by rw [HS.out, decide_eq_false (by omega)]; rfl), (Below.refl _ _).alloc (Nat.le_refl _) _⟩
theorem ref_non {w : World} {F : Nat → Prop} {vt vn vr : Value} {G : GramD} (h : IsGram w F vt vn vr G) (st s : Int) :
    Calls Try.prog 27 #[GV vt vn vr st, .int .i64 s] w (Quiet w (.bool (isNon G s))) := by
  have hs := h.small
  have hsp : isNon G s = (decide ((G.terms.length : Int) < s) && decide (s ≤ (topOf G : Int))) := rfl
  have H := hide h
  obtain ⟨A1, c1, A2, c2, A3, c3, e1, e2, e3, _⟩ := h.slices
  have h4 := h.below ((Below.refl _ w).alloc (Nat.le_refl _) (.cells #[vt, vn, vr, .int .i64 st] 25))
  subst e1 e2 e3
  obtain ⟨T, hT⟩ : ∃ T, T = G.terms.length := ⟨_, rfl⟩
  have H4 := hide h4
  rw [← hT] at hs hsp H4 ⊢
  have HS := hide hsp
  obtain ⟨s1, s2, s3⟩ := hs
  clear hT h hsp h4 H
  by_cases h1 : (T : Int) < s
  · go_enter Try.func27, Try.ntmps27
    go_wp2_with fail
    refine (ref_top H4.out _).mono ?_
    rintro e w1 ⟨rfl, b1⟩
    go_wp2_with fail
    go_ret
    exact ⟨ret_bool (by rw [HS.out, decide_eq_true h1]; rfl), ((Below.refl _ _).alloc (Nat.le_refl _) _).trans (b1.mono (by simp))⟩
  · go_enter Try.func27, Try.ntmps27
    go_wp2_with fail
    go_ret
    exact ⟨ret_bool (by rw [HS.out, decide_eq_false (by omega)]; rfl), (Below.refl _ _).alloc (Nat.le_refl _) _⟩
end Go.Proofs.Ytejjaabkbkkjlaa

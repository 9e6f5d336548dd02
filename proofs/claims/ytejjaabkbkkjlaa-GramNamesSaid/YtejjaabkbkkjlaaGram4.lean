/- Rules, are they the same; slices.EqualFunc at rules; grammars, are they the same. -/
import Derived.Test.YtejjaabkbkkjlaaGramEq
import Derived.Test.YtejjaabkbkkjlaaGram3
namespace Go.Proofs.Ytejjaabkbkkjlaa
set_option linter.unusedVariables false
open Go.RowKit

/-- gram.sameRule -/
theorem same_rule {w : World} {F G : Nat → Prop} {l m : Int} {v u : Value} {xs ys : List Int} (h : RdI w F v xs) (g : RdI w G u ys) (hF : ∀ b, F b → b < w.heap.size) (hG : ∀ b, G b → b < w.heap.size) :
    Calls Try.prog 83 #[.agg #[.int .i64 l, v], .agg #[.int .i64 m, u]] w (Quiet w (.bool (decide ((l, xs) = (m, ys))))) := by
  have b2 := ((Below.refl _ w).alloc (Nat.le_refl _) (.cells #[.int .i64 l, v] 30)).alloc (by simp) (.cells #[.int .i64 m, u] 30)
  have he := equal_ints (h.below b2 hF) (g.below b2 hG)
  obtain ⟨A, n, c, rfl, _⟩ := id h
  obtain ⟨B, n', d, rfl, _⟩ := id g
  have B2 := hide b2
  have HE := hide he
  clear h g he b2
  by_cases hlm : l = m
  · have hb : (l == m) = true := by simpa using hlm
    have HL := hide hlm
    clear hlm
    go_enter Try.func83, Try.ntmps83
    go_wp2_with fail
    refine HE.out.mono ?_
    rintro e w1 ⟨rfl, b1⟩
    go_wp2_with fail
    go_ret
    exact ⟨ret_bool (by have e := HL.out; subst e; simp), B2.out.trans (b1.mono (by simp; omega))⟩
  · have hb : (l == m) = false := by simpa using hlm
    have HL := hide hlm
    clear hlm
    go_enter Try.func83, Try.ntmps83
    go_wp2_with fail
    go_ret
    exact ⟨ret_bool (by simp; intro e; exact absurd e HL.out), B2.out⟩

/-- conchref06.SameRule -/
theorem ref_same_rule {w : World} {F G : Nat → Prop} {l m : Int} {v u : Value} {xs ys : List Int} (h : RdI w F v xs) (g : RdI w G u ys) (hF : ∀ b, F b → b < w.heap.size) (hG : ∀ b, G b → b < w.heap.size) :
    Calls Try.prog 28 #[.agg #[.int .i64 l, v], .agg #[.int .i64 m, u]] w (Quiet w (.bool (decide ((l, xs) = (m, ys))))) := by
  have b2 := ((Below.refl _ w).alloc (Nat.le_refl _) (.cells #[.int .i64 l, v] 30)).alloc (by simp) (.cells #[.int .i64 m, u] 30)
  have he := ref_ints (h.below b2 hF) (g.below b2 hG)
  obtain ⟨A, n, c, rfl, _⟩ := id h
  obtain ⟨B, n', d, rfl, _⟩ := id g
  have B2 := hide b2
  have HE := hide he
  clear h g he b2
  by_cases hlm : l = m
  · have hb : (l == m) = true := by simpa using hlm
    have HL := hide hlm
    clear hlm
    go_enter Try.func28, Try.ntmps28
    go_wp2_with fail
    refine HE.out.mono ?_
    rintro e w1 ⟨rfl, b1⟩
    go_wp2_with fail
    go_ret
    exact ⟨ret_bool (by have e := HL.out; subst e; simp), B2.out.trans (b1.mono (by simp; omega))⟩
  · have hb : (l == m) = false := by simpa using hlm
    have HL := hide hlm
    clear hlm
    go_enter Try.func28, Try.ntmps28
    go_wp2_with fail
    go_ret
    exact ⟨ret_bool (by simp; intro e; exact absurd e HL.out), B2.out⟩

end Go.Proofs.Ytejjaabkbkkjlaa

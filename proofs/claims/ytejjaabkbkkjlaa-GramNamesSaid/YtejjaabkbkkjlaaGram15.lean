/- gram.Ordered's closure. -/
import Derived.Test.YtejjaabkbkkjlaaGram14
namespace Go.Proofs.Ytejjaabkbkkjlaa
set_option linter.unusedVariables false
open Go.RowKit

theorem Try.enters_ordered : Enters Try.prog 93 := enters_of Try.func93 (by kernel_rfl) rfl

theorem ordered_clo {w : World} {F : Nat → Prop} {s : Int} {B : Nat} (k1 : Blk w B 3 #[.int .i64 s]) :
    PredR w F 93 #[.pointer (some ⟨B, 0, none⟩)] (fun r => decide (r.1 = s)) := by
  intro W v r hW hr
  have hcell : W.cell? ⟨B, 0, none⟩ = some (.int .i64 s) := ((k1.below hW k1.lt).cell 0).trans rfl
  have hcell' := fun o => cell_a hcell o
  have hB : B < W.heap.size := Nat.lt_of_lt_of_le k1.lt hW.size
  obtain ⟨A, n, c, rfl, _⟩ := id hr
  have b2 : Below W.heap.size W (W.alloc (.cells #[.int .i64 r.1, .slice A n c] 30)) := (Below.refl _ W).alloc (Nat.le_refl _) _
  have HB := hide b2
  show Calls Try.prog 93 #[.agg #[.int .i64 r.1, .slice A n c], .pointer (some ⟨B, 0, none⟩)] W _
  obtain ⟨l, hl⟩ : ∃ l, l = r.1 := ⟨_, rfl⟩
  rw [← hl] at HB ⊢
  have HL := hide hl
  clear k1 hW b2 hr hl
  go_enter Try.func93, Try.ntmps93
  go_wp2
  go_ret
  exact ⟨ret_bool (show (l == s) = decide (r.1 = s) by rw [← HL.out]; by_cases e : l = s <;> simp [e]), HB.out⟩

/-- the first rule's place of each nonterminal, or the end -/
def firstAt (G : GramD) (i : Nat) : Int := if firstBy (fun r => decide (r.1 = (G.terms.length : Int) + 1 + i)) G.rules < 0 then (G.rules.length : Int) else firstBy (fun r => decide (r.1 = (G.terms.length : Int) + 1 + i)) G.rules
def firstsOf (G : GramD) (k : Nat) : List Int := (List.range k).map (firstAt G)
theorem firstsOf_succ (G : GramD) (k : Nat) : firstsOf G (k + 1) = firstsOf G k ++ [firstAt G k] := by
  unfold firstsOf; rw [List.range_succ, List.map_append]; rfl
theorem firstsOf_len (G : GramD) (k : Nat) : (firstsOf G k).length = k := by unfold firstsOf; simp
end Go.Proofs.Ytejjaabkbkkjlaa

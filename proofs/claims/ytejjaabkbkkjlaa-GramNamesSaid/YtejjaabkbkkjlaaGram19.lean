/- gram.Check's closures: short, and known's. -/
import Derived.Test.YtejjaabkbkkjlaaGram18
namespace Go.Proofs.Ytejjaabkbkkjlaa
set_option linter.unusedVariables false
open Go.RowKit

theorem Try.enters_short : Enters Try.prog 73 := enters_of Try.func73 (by kernel_rfl) rfl
theorem short_clo {w : World} {F : Nat → Prop} : PredR w F 73 #[] (fun r => decide (r.2.length ≤ 8)) := by
  intro W v r hW hr
  obtain ⟨A, n, c, rfl, _⟩ := id hr
  obtain ⟨hn, hnc, hcm, _⟩ := hr.at_
  unfold maxLen at hcm
  have b2 : Below W.heap.size W (W.alloc (.cells #[.int .i64 r.1, .slice A n c] 30)) := (Below.refl _ W).alloc (Nat.le_refl _) _
  have HB := hide b2
  have HN := hide hn
  show Calls Try.prog 73 #[.agg #[.int .i64 r.1, .slice A n c]] W _
  obtain ⟨l, hl⟩ : ∃ l, l = r.1 := ⟨_, rfl⟩
  rw [← hl] at HB ⊢
  clear hW b2 hr hl hn
  go_enter Try.func73, Try.ntmps73
  go_wp2
  go_ret
  exact ⟨ret_bool (by rw [← HN.out]; by_cases e : n ≤ 8 <;> simp [e] <;> omega), HB.out⟩

theorem Try.enters_known1 : Enters Try.prog 135 := enters_of Try.func135 (by kernel_rfl) rfl
theorem known_clo {w : World} {F : Nat → Prop} {vt vn vr : Value} {G : GramD} {st : Int} {B : Nat} (h : IsGram w F vt vn vr G) (k1 : Blk w B 25 #[vt, vn, vr, .int .i64 st]) :
    PredV w 135 #[.pointer (some ⟨B, 0, none⟩)] (Value.int .i64) (fun s => isTerm G s || isNon G s) := by
  intro W s hW
  have h1 := h.below hW
  have ct := gram_term h1 st s
  have cn : ∀ wr, Below W.heap.size W wr → Calls Try.prog 26 #[GV vt vn vr st, .int .i64 s] wr (Quiet wr (.bool (isNon G s))) := fun wr hb => gram_non (h1.below hb) st s
  have k2 := k1.below hW k1.lt
  have hB := k2.lt
  have cl : ∀ wr, Below W.heap.size W wr → ∀ i v, (#[vt, vn, vr, Value.int .i64 st] : Array Value)[i]? = some v → wr.cell? ⟨B, i, none⟩ = some v := fun wr hb i v e => ((k2.below hb hB).cell i).trans e
  have p0 := cl W (Below.refl _ _) 0 _ rfl
  have p1 := cl W (Below.refl _ _) 1 _ rfl
  have p2 := cl W (Below.refl _ _) 2 _ rfl
  have p3 := cl W (Below.refl _ _) 3 _ rfl
  show Calls Try.prog 135 #[.int .i64 s, .pointer (some ⟨B, 0, none⟩)] W (Quiet W (.bool (isTerm G s || isNon G s)))
  obtain ⟨A1, c1, A2, c2, A3, c3, rfl, rfl, rfl, _⟩ := h.slices
  generalize isTerm G s = it at *
  generalize isNon G s = ino at *
  have CT := hide ct
  have CN := hide cn
  have CL := hide cl
  clear ct cn cl k1 k2 h1 h hW
  go_enter Try.func135, Try.ntmps135
  go_wp2_with fail
  refine CT.out.mono ?_
  rintro e w2 ⟨rfl, b2⟩
  have q0 := CL.out w2 b2 0 _ rfl
  have q1 := CL.out w2 b2 1 _ rfl
  have q2 := CL.out w2 b2 2 _ rfl
  have q3 := CL.out w2 b2 3 _ rfl
  cases it with
  | true =>
    go_wp2_with fail
    go_ret
    exact ⟨rfl, b2⟩
  | false =>
    go_wp2_with fail
    refine (CN.out w2 b2).mono ?_
    rintro e w3 ⟨rfl, b3⟩
    go_wp2_with fail
    go_ret
    exact ⟨ret_bool (by cases ino <;> rfl), b2.trans (b3.mono b2.size)⟩
end Go.Proofs.Ytejjaabkbkkjlaa

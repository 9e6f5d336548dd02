/- A grammar that came in as an argument, opened. -/
import Derived.Test.YtejjaabkbkkjlaaGram2
namespace Go.Proofs.Ytejjaabkbkkjlaa
set_option linter.unusedVariables false
open Go.ChangeShapes Go.WideShapes Go.ChangeAt Go.RowKit Go.Deep

section
variable {H : Type} {enc : TypeId × Value → H} {w : World} {sp : Nat → Bool}

theorem opens_textZ {t : TypeId} (ht : Try.prog.underlying t = some .string) : OpensZ enc Try.prog w sp t (fun cs (s : ByteArray) => cs = [.string s] ∧ (s.size ≤ maxLen ∧ s.size ≤ 140737488351232)) := by
  intro fuel cs y h hr
  obtain ⟨n, h1, h3, h2⟩ := DataW.trod_string ht h
  refine ⟨n, h1, h2, ?_⟩
  have := hr n.data.toList.length (by rw [h3]; simp [DataW.weights])
  simpa using this
theorem opens_textsZ : OpensZ enc Try.prog w sp 22 (fun cs (xs : List ByteArray) => ∃ v, cs = [v] ∧ RdL w (· < w.heap.size) 1 (fun cs s => cs = [.string s] ∧ (s.size ≤ maxLen ∧ s.size ≤ 140737488351232)) v xs ∧ xs.length * 16 ≤ 140737488351232) :=
  opens_listZ Try.underlying22 (by kernel_rfl) (by decide) (by kernel_rfl) (opens_textZ Try.underlying9)
theorem opens_intsZ : OpensZ enc Try.prog w sp 28 (fun cs (xs : List Int) => ∃ v, cs = [v] ∧ RdL w (· < w.heap.size) 1 (fun cs n => cs = [.int .i64 n] ∧ (Lit.int .i64 n).wf = true) v xs ∧ xs.length * 8 ≤ 140737488351232) :=
  opens_listZ Try.underlying28 (by kernel_rfl) (by decide) (by kernel_rfl) (OpensZ.of (opens_int Try.underlying3))
theorem opens_ruleZ : OpensZ enc Try.prog w sp 30 (fun cs (x : Int × List Int) => ∃ c0 c1, cs = [c0, c1] ∧ ([c0] = [Value.int .i64 x.1] ∧ (Lit.int .i64 x.1).wf = true) ∧ ∃ v, [c1] = [v] ∧ RdL w (· < w.heap.size) 1 (fun cs n => cs = [.int .i64 n] ∧ (Lit.int .i64 n).wf = true) v x.2 ∧ x.2.length * 8 ≤ 140737488351232) :=
  opens_struct2Z Try.underlying30 (by kernel_rfl) (by kernel_rfl) (OpensZ.of (opens_int Try.underlying3)) opens_intsZ
theorem opens_rulesZ : OpensZ enc Try.prog w sp 23 (fun cs (xs : List (Int × List Int)) => ∃ v, cs = [v] ∧ RdL w (· < w.heap.size) 2 (fun cs x => ∃ c0 c1, cs = [c0, c1] ∧ ([c0] = [Value.int .i64 x.1] ∧ (Lit.int .i64 x.1).wf = true) ∧ ∃ v, [c1] = [v] ∧ RdL w (· < w.heap.size) 1 (fun cs n => cs = [.int .i64 n] ∧ (Lit.int .i64 n).wf = true) v x.2 ∧ x.2.length * 8 ≤ 140737488351232) v xs ∧ xs.length * 32 ≤ 140737488351232) :=
  opens_listZ Try.underlying23 (by kernel_rfl) (by decide) (by kernel_rfl) opens_ruleZ

/-- a grammar's four cells -/
def GramCells (w : World) (cs : List Value) (G : GramD) : Prop := ∃ vt vn vr, cs = [vt, vn, vr, .int .i64 G.start] ∧ IsGram w (· < w.heap.size) vt vn vr G ∧ (Lit.int .i64 G.start).wf = true
theorem wf_i64_iff {n : Int} (h : (Lit.int .i64 n).wf = true) : -9223372036854775808 ≤ n ∧ n ≤ 9223372036854775807 := by
  simp [Lit.wf, IntKind.min, IntKind.max, IntKind.signed, IntKind.bits] at h
  omega
theorem rdl_texts {v : Value} {xs : List ByteArray} (h : RdL w (· < w.heap.size) 1 (fun cs s => cs = [.string s] ∧ (s.size ≤ maxLen ∧ s.size ≤ 140737488351232)) v xs) : RdS w (· < w.heap.size) v xs ∧ (∀ s ∈ xs, s.size ≤ maxLen ∧ s.size ≤ 140737488351232) := by
  obtain ⟨h1, h2⟩ := RdL.parts (E := fun cs (s : ByteArray) => cs = [.string s]) (p := fun s => s.size ≤ maxLen ∧ s.size ≤ 140737488351232) h
  exact ⟨RdL.rd h1, h2⟩
theorem rdl_ints {v : Value} {xs : List Int} (h : RdL w (· < w.heap.size) 1 (fun cs n => cs = [.int .i64 n] ∧ (Lit.int .i64 n).wf = true) v xs) : RdI w (· < w.heap.size) v xs ∧ (∀ n ∈ xs, (Lit.int .i64 n).wf = true) := by
  obtain ⟨h1, h2⟩ := RdL.parts (E := fun cs (n : Int) => cs = [.int .i64 n]) (p := fun n => (Lit.int .i64 n).wf = true) h
  exact ⟨RdL.rd h1, h2⟩
theorem RdL.also {X : Type} {F : Nat → Prop} {k : Nat} {E E' : List Value → X → Prop} {p : X → Prop} {v : Value} {xs : List X} (h : RdL w F k E v xs) (hE : ∀ cs x, E cs x → E' cs x ∧ p x) : RdL w F k (fun cs x => E' cs x ∧ p x) v xs := by
  obtain ⟨A, c, hv, hc, hm, hr⟩ := h
  refine ⟨A, c, hv, hc, hm, fun hn => ?_⟩
  obtain ⟨b, off, hA, hb, hcell⟩ := hr hn
  refine ⟨b, off, hA, hb, fun i x hx => ?_⟩
  obtain ⟨cs, hl, he, hu⟩ := hcell i x hx
  exact ⟨cs, hl, hE cs x he, hu⟩
theorem opens_gramZ : OpensZ enc Try.prog w sp 25 (GramCells w) := by
  intro fuel cs y h hr
  obtain ⟨⟨a, b, c, d⟩, c0, c1, c2, c3, rfl, ⟨vt, e1, ht, lt⟩, ⟨vn, e2, hn, ln⟩, ⟨vr, e3, hrl, lr⟩, e4, hwf⟩ := opens_struct4Z Try.underlying25 (by kernel_rfl) (by kernel_rfl) opens_textsZ opens_textsZ opens_rulesZ (OpensZ.of (opens_int Try.underlying3)) fuel cs y h hr
  injection e1 with e1
  injection e2 with e2
  injection e3 with e3
  injection e4 with e4
  subst e1 e2 e3 e4
  obtain ⟨ht, st⟩ := rdl_texts ht
  obtain ⟨hn, sn⟩ := rdl_texts hn
  obtain ⟨h1, h2⟩ := RdL.parts (RdL.also (E' := ERule w (· < w.heap.size)) (p := fun r => ((-9223372036854775808 ≤ r.1 ∧ r.1 ≤ 9223372036854775807) ∧ r.2.length ≤ 17592186044416 ∧ ∀ x ∈ r.2, -9223372036854775808 ≤ x ∧ x ≤ 9223372036854775807)) hrl (fun cs x he => by
    obtain ⟨a0, a1, rfl, ⟨f0, w0⟩, v, f1, hv, hl⟩ := he
    injection f0 with f0
    injection f1 with f1
    subst f0 f1
    obtain ⟨hv, hw⟩ := rdl_ints hv
    exact ⟨⟨a1, rfl, hv⟩, wf_i64_iff w0, by omega, fun x hx => wf_i64_iff (hw x hx)⟩))
  exact ⟨⟨a, b, c, d⟩, c0, c1, c2, rfl, ⟨ht, hn, h1, fun b hb => hb, ⟨by simp only at lt ⊢; omega, by simp only at ln ⊢; omega, by simp only at lr ⊢; omega⟩, ⟨fun s hs => (st s hs).1, fun s hs => (sn s hs).1⟩, ⟨fun s hs => (st s hs).2, fun s hs => (sn s hs).2⟩, h2⟩, hwf⟩
end
end Go.Proofs.Ytejjaabkbkkjlaa

/- Arguments opened with the form's own reach at hand: slices, structs of one-cell fields. -/
import Derived.Test.YthlbjgabhpdbfaaGreatOpen
import Derived.Deep.Fields
import Derived.SizedLaws
namespace Go.Proofs.YthlbjgabhpdbfaaGreat
set_option linter.unusedVariables false
open Go.ChangeShapes Go.WideShapes Go.ChangeAt Go.RowKit Go.Deep
section
variable {H : Type} {enc : TypeId × Value → H} {P : Program} {w : World} {sp : Nat → Bool}
abbrev Reached (P : Program) (t : TypeId) (d : DataW H) : Prop := ∀ x ∈ d.weights P t, x ≤ 140737488351232
abbrev OpensZ (enc : TypeId × Value → H) (P : Program) (w : World) (sp : Nat → Bool) (t : TypeId) {X : Type} (E : List Value → X → Prop) : Prop :=
 ∀ (n : Nat) (cs : List Value) (y : DataW H × List MemPlace), DataW.trod enc P w 0 sp true n t cs = some y → Reached P t y.1 → ∃ x : X, E cs x
theorem OpensZ.of {X : Type} {t : TypeId} {E : List Value → X → Prop} (h : Opens enc P w sp t E) : OpensZ enc P w sp t E := fun n cs y hy _ => h n cs y hy
theorem weightsAll_mem {e : TypeId} {d : DataW H} : ∀ {l : List (DataW H)}, d ∈ l → ∀ x ∈ d.weights P e, x ∈ DataW.weightsAll P e l
 | a :: r, h, x, hx => by
  rw [DataW.weightsAll, List.mem_append]
  rcases List.mem_cons.1 h with rfl | h
  ·exact .inl hx
  ·exact .inr (weightsAll_mem h x hx)
theorem opens_listZ {X : Type} {t e : TypeId} {k bytes : Nat} {E : List Value → X → Prop} (ht : P.underlying t = some (.slice e)) (hk : P.cellsOf e = k) (hk0 : 0 < k) (hb : P.bytesOf e = bytes) (hE : OpensZ enc P w sp e E) :
  OpensZ enc P w sp t (fun cs (xs : List X) => ∃ v, cs = [v] ∧ RdL w (· < w.heap.size) k E v xs ∧ xs.length * bytes ≤ 140737488351232) := by
 intro fuel cs y h hreach
 rcases open_slice ht h with ⟨rfl, rfl⟩ | ⟨a, len, cap, m, n, D, Pl, rfl, _, hl, hm, hmm, rfl, hi⟩
 ·exact ⟨[], _, rfl, ⟨none, 0, rfl, Nat.le_refl _, by decide, fun h => absurd h (by simp)⟩, by simp⟩
 ·rw [hk] at hi
  have hlm : len ≤ m := by rw [hmm]; split <;> omega
  have hw : DataW.weights P t (DataW.slice ((List.range len).map D) ((List.range (m - len)).map fun j => D (len + j))) =
    (((List.range len).map D).length + ((List.range (m - len)).map fun j => D (len + j)).length) * P.bytesOf e :: (DataW.weightsAll P e ((List.range len).map D) ++ DataW.weightsAll P e ((List.range (m - len)).map fun j => D (len + j))) := by
   rw [DataW.weights, ht]
  have hsize : len * bytes ≤ 140737488351232 := by
   have := hreach _ (by rw [hw]; exact List.mem_cons_self ..)
   rw [hb] at this
   simp only [List.length_map, List.length_range] at this
   exact Nat.le_trans (Nat.mul_le_mul_right _ (by omega)) this
  have each : ∀ i, i < len → ∃ x : X, ∃ cs', cs'.length = k ∧ E cs' x ∧ ∀ j, j < k → w.cell? ((a.add (i * k)).add j) = cs'[j]? := fun i hlt => by
   obtain ⟨cs', hc, ht'⟩ := hi i (by omega)
   obtain ⟨x, hx⟩ := hE _ _ _ ht' (fun x hx => hreach x (by
    rw [hw]
    refine List.mem_cons_of_mem _ (List.mem_append.2 (.inl (weightsAll_mem (d := D i) ?_ x hx)))
    exact List.mem_map.2 ⟨i, List.mem_range.2 hlt, rfl⟩))
   obtain ⟨_, hcl, hat⟩ := World.cells?_some hc
   exact ⟨x, cs', hcl, hx, hat⟩
  obtain ⟨xs, hxl, hxs⟩ : ∃ xs : List X, xs.length = len ∧ ∀ i x, xs[i]? = some x → ∃ cs', cs'.length = k ∧ E cs' x ∧ ∀ j, j < k → w.cell? ((a.add (i * k)).add j) = cs'[j]? := by
   refine ⟨List.ofFn fun i : Fin len => (each i.1 i.2).choose, by simp, fun i x hx => ?_⟩
   obtain ⟨hlt, rfl⟩ := List.getElem?_eq_some_iff.1 hx
   simp only [List.length_ofFn] at hlt
   rw [List.getElem_ofFn]
   exact (each i hlt).choose_spec
  refine ⟨xs, _, rfl, ⟨some a, cap, by rw [hxl], by omega, hm, fun hn => ?_⟩, by rw [hxl]; exact hsize⟩
  obtain ⟨b, off, spot⟩ := a
  obtain ⟨cs0, hc0, _, hat0⟩ := hxs 0 _ (List.getElem?_eq_getElem hn)
  have h00 := hat0 0 hk0
  rw [List.getElem?_eq_getElem (by omega)] at h00
  have hspot : spot = none := by
   have := World.cell?_spot h00
   simpa [Addr.add] using this
  subst hspot
  have hlt := World.block_lt_of_cell? w _ h00
  rw [add_none, add_none] at hlt
  refine ⟨b, off, rfl, hlt, fun i x hx => ?_⟩
  obtain ⟨cs', hcl, hex, hat⟩ := hxs i x hx
  refine ⟨cs', hcl, hex, fun j u hu => ?_⟩
  have hj := (List.getElem?_eq_some_iff.1 hu).1
  have := hat j (by omega)
  rw [add_none, add_none] at this
  rw [this, hu]
theorem weightsEach_get : ∀ {ts : List TypeId} {ds : List (DataW H)} {j : Nat} {t : TypeId} {d : DataW H}, ts[j]? = some t → ds[j]? = some d → ∀ x ∈ d.weights P t, x ∈ DataW.weightsEach P ts ds
 | t' :: ts, d' :: ds, 0, t, d, ht, hd, x, hx => by
  simp at ht hd
  subst ht hd
  rw [DataW.weightsEach, List.mem_append]
  exact .inl hx
 | t' :: ts, d' :: ds, j + 1, t, d, ht, hd, x, hx => by
  rw [DataW.weightsEach, List.mem_append]
  exact .inr (weightsEach_get (j := j) (by simpa using ht) (by simpa using hd) x hx)
theorem field_open {X : Type} {t : TypeId} {fs : Array Field} {n : Nat} {cs : List Value} {y : DataW H × List MemPlace} (ht : P.underlying t = some (.struct fs)) (hone : oneCellFields P fs = true) (h : DataW.trod enc P w 0 sp true n t cs = some y) (hr : Reached P t y.1)
  (j : Nat) (f : Field) (hf : fs[j]? = some f) (hj : j < cs.length) {E : List Value → X → Prop} (hE : OpensZ enc P w sp f.type E) : ∃ x, E [cs[j]] x := by
 obtain ⟨xs, n', _, hy, hlen, hxl, hg⟩ := DataW.trod_struct ht h
 obtain ⟨o, k⟩ := hone_of hone j f hf
 have g := hg j f hf
 rw [o, k] at g
 have hjl : j < xs.length := by rw [hxl]; exact (Array.getElem?_eq_some_iff.1 hf).1
 rw [List.getElem?_eq_getElem hjl] at g
 have h1 : (cs.drop j).take 1 = [cs[j]] := by rw [List.drop_eq_getElem_cons hj]; rfl
 rw [h1] at g
 refine hE _ _ _ g (fun x hx => hr x ?_)
 rw [hy]
 show x ∈ DataW.weights P t (DataW.agg (xs.map (·.1)))
 rw [DataW.weights, ht]
 refine weightsEach_get (j := j) (t := f.type) (d := (xs[j]).1) ?_ ?_ x hx
 ·rw [List.getElem?_map]; simp [hf]
 ·rw [List.getElem?_map, List.getElem?_eq_getElem hjl]; rfl
theorem struct_len {t : TypeId} {fs : Array Field} {n : Nat} {cs : List Value} {y : DataW H × List MemPlace} (ht : P.underlying t = some (.struct fs)) (h : DataW.trod enc P w 0 sp true n t cs = some y) : cs.length = P.cellsOf t := by
 obtain ⟨xs, n', _, hy, hlen, _⟩ := DataW.trod_struct ht h
 exact hlen
theorem opens_struct2Z {X Y : Type} {t : TypeId} {f0 f1 : Field} {E0 : List Value → X → Prop} {E1 : List Value → Y → Prop} (ht : P.underlying t = some (.struct #[f0, f1])) (hone : oneCellFields P #[f0, f1] = true) (hC : P.cellsOf t = 2)
  (h0 : OpensZ enc P w sp f0.type E0) (h1 : OpensZ enc P w sp f1.type E1) : OpensZ enc P w sp t (fun cs (x : X × Y) => ∃ c0 c1, cs = [c0, c1] ∧ E0 [c0] x.1 ∧ E1 [c1] x.2) := by
 intro n cs y h hr
 have hl := (struct_len ht h).trans hC
 match cs, hl with
 | [c0, c1], _ =>
  obtain ⟨x, hx⟩ := field_open ht hone h hr 0 f0 rfl (by simp) h0
  obtain ⟨z, hz⟩ := field_open ht hone h hr 1 f1 rfl (by simp) h1
  exact ⟨(x, z), c0, c1, rfl, by simpa using hx, by simpa using hz⟩
theorem opens_struct4Z {X Y Z U : Type} {t : TypeId} {f0 f1 f2 f3 : Field} {E0 : List Value → X → Prop} {E1 : List Value → Y → Prop} {E2 : List Value → Z → Prop} {E3 : List Value → U → Prop} (ht : P.underlying t = some (.struct #[f0, f1, f2, f3])) (hone : oneCellFields P #[f0, f1, f2, f3] = true) (hC : P.cellsOf t = 4)
  (h0 : OpensZ enc P w sp f0.type E0) (h1 : OpensZ enc P w sp f1.type E1) (h2 : OpensZ enc P w sp f2.type E2) (h3 : OpensZ enc P w sp f3.type E3) :
  OpensZ enc P w sp t (fun cs (x : X × Y × Z × U) => ∃ c0 c1 c2 c3, cs = [c0, c1, c2, c3] ∧ E0 [c0] x.1 ∧ E1 [c1] x.2.1 ∧ E2 [c2] x.2.2.1 ∧ E3 [c3] x.2.2.2) := by
 intro n cs y h hr
 have hl := (struct_len ht h).trans hC
 match cs, hl with
 | [c0, c1, c2, c3], _ =>
  obtain ⟨x, hx⟩ := field_open ht hone h hr 0 f0 rfl (by simp) h0
  obtain ⟨z, hz⟩ := field_open ht hone h hr 1 f1 rfl (by simp) h1
  obtain ⟨u, hu⟩ := field_open ht hone h hr 2 f2 rfl (by simp) h2
  obtain ⟨v, hv⟩ := field_open ht hone h hr 3 f3 rfl (by simp) h3
  exact ⟨(x, z, u, v), c0, c1, c2, c3, rfl, by simpa using hx, by simpa using hz, by simpa using hu, by simpa using hv⟩
theorem reached_of {ts : List TypeId} {ds : List (DataW H)} (h : (DataW.weightsEach P ts ds).all (· ≤ reachBytes) = true) {j : Nat} {t : TypeId} {d : DataW H} (ht : ts[j]? = some t) (hd : ds[j]? = some d) : Reached P t d := fun x hx => by
 have := List.all_eq_true.1 h x (weightsEach_get ht hd x hx)
 exact of_decide_eq_true this
end
end Go.Proofs.YthlbjgabhpdbfaaGreat

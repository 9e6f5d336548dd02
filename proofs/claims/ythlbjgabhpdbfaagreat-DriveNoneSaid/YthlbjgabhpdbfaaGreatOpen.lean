/- An argument that is a slice, opened: it reads as a list, element by element; and the last step of every statement's proof. -/
import Derived.Test.YthlbjgabhpdbfaaGreatBase
import Derived.ProofKit
import Derived.OpenShut
import Derived.ShutString
import Derived.ChangeOld
import Derived.Carry
namespace Go.Proofs.YthlbjgabhpdbfaaGreat
open Go.ChangeShapes Go.WideShapes Go.ChangeAt Go.RowKit Go.Deep
def RdL {X : Type} (w : World) (F : Nat → Prop) (k : Nat) (E : List Value → X → Prop) (v : Value) (xs : List X) : Prop :=
 ∃ A c, v = .slice A xs.length c ∧ xs.length ≤ c ∧ c ≤ maxLen ∧
  (0 < xs.length → ∃ b off, A = some ⟨b, off, none⟩ ∧ F b ∧ ∀ i x, xs[i]? = some x → ∃ cs, cs.length = k ∧ E cs x ∧ ∀ j u, cs[j]? = some u → w.cell? ⟨b, off + i * k + j, none⟩ = some u)
theorem RdL.touch {X : Type} {w w' : World} {F S : Nat → Prop} {k : Nat} {E E' : List Value → X → Prop} {v : Value} {xs : List X} (h : RdL w F k E v xs) (ht : Touch S w w') (hF : ∀ b, F b → ¬ S b) (hE : ∀ cs x, x ∈ xs → E cs x → E' cs x) : RdL w' F k E' v xs := by
 obtain ⟨A, c, hv, hc, hm, hr⟩ := h
 refine ⟨A, c, hv, hc, hm, fun hn => ?_⟩
 obtain ⟨b, off, hA, hb, hcell⟩ := hr hn
 refine ⟨b, off, hA, hb, fun i x hx => ?_⟩
 obtain ⟨cs, hl, he, hu⟩ := hcell i x hx
 exact ⟨cs, hl, hE _ _ (List.mem_of_getElem? hx) he, fun j u hj => ht.cell (hu j u hj) (hF b hb)⟩
theorem RdL.below {X : Type} {w w' : World} {F : Nat → Prop} {B k : Nat} {E E' : List Value → X → Prop} {v : Value} {xs : List X} (h : RdL w F k E v xs) (ht : Below B w w') (hF : ∀ b, F b → b < B) (hE : ∀ cs x, x ∈ xs → E cs x → E' cs x) : RdL w' F k E' v xs := by
 obtain ⟨A, c, hv, hc, hm, hr⟩ := h
 refine ⟨A, c, hv, hc, hm, fun hn => ?_⟩
 obtain ⟨b, off, hA, hb, hcell⟩ := hr hn
 refine ⟨b, off, hA, hb, fun i x hx => ?_⟩
 obtain ⟨cs, hl, he, hu⟩ := hcell i x hx
 exact ⟨cs, hl, hE _ _ (List.mem_of_getElem? hx) he, fun j u hj => (ht.cell (p := ⟨b, off + i * k + j, none⟩) (hF b hb)).trans (hu j u hj)⟩
theorem RdL.rd {X : Type} {w : World} {F : Nat → Prop} {f : X → Value} {v : Value} {xs : List X} (h : RdL w F 1 (fun cs x => cs = [f x]) v xs) : Rd w F v 1 (xs.map f) := by
 obtain ⟨A, c, hv, hc, hm, hr⟩ := h
 refine ⟨A, _, c, hv, hc, hm, by simp, fun hn => ?_⟩
 obtain ⟨b, off, hA, hb, hcell⟩ := hr hn
 refine ⟨b, off, hA, hb, fun j u hu => ?_⟩
 rw [List.getElem?_map] at hu
 obtain ⟨x, hx, rfl⟩ := Option.map_eq_some_iff.1 hu
 obtain ⟨cs, _, rfl, hc'⟩ := hcell j x hx
 simpa using hc' 0 (f x) rfl
theorem RdL.of_rd {X : Type} {w : World} {F : Nat → Prop} {f : X → Value} {v : Value} {xs : List X} (h : Rd w F v 1 (xs.map f)) : RdL w F 1 (fun cs x => cs = [f x]) v xs := by
 obtain ⟨A, n, c, rfl, hc, hm, hl, hr⟩ := h
 obtain rfl : n = xs.length := by simpa using hl.symm
 refine ⟨A, c, rfl, hc, hm, fun hn => ?_⟩
 obtain ⟨b, off, hA, hb, hcell⟩ := hr hn
 exact ⟨b, off, hA, hb, fun i x hx => ⟨[f x], rfl, rfl, fun j u hu => by
  have hj : j = 0 := by
   have := (List.getElem?_eq_some_iff.1 hu).1
   simpa using this
  subst hj
  simp at hu
  subst hu
  simpa using hcell i (f x) (by simp [hx])⟩⟩
theorem RdL.parts {X : Type} {w : World} {F : Nat → Prop} {k : Nat} {E : List Value → X → Prop} {p : X → Prop} {v : Value} {xs : List X} (h : RdL w F k (fun cs x => E cs x ∧ p x) v xs) : RdL w F k E v xs ∧ ∀ x ∈ xs, p x := by
 obtain ⟨A, c, hv, hc, hm, hr⟩ := h
 refine ⟨⟨A, c, hv, hc, hm, fun hn => ?_⟩, fun x hx => ?_⟩
 ·obtain ⟨b, off, hA, hb, hcell⟩ := hr hn
  exact ⟨b, off, hA, hb, fun i x hx => by obtain ⟨cs, hl, he, hu⟩ := hcell i x hx; exact ⟨cs, hl, he.1, hu⟩⟩
 ·obtain ⟨i, hi, rfl⟩ := List.getElem_of_mem hx
  obtain ⟨b, off, hA, hb, hcell⟩ := hr (by omega)
  obtain ⟨cs, hl, he, hu⟩ := hcell i _ (List.getElem?_eq_getElem hi)
  exact he.2
section
variable {H : Type} {enc : TypeId × Value → H} {P : Program} {w : World} {sp : Nat → Bool}
abbrev Opens (enc : TypeId × Value → H) (P : Program) (w : World) (sp : Nat → Bool) (t : TypeId) {X : Type} (E : List Value → X → Prop) : Prop :=
 ∀ (n : Nat) (cs : List Value) (y : DataW H × List MemPlace), DataW.trod enc P w 0 sp true n t cs = some y → ∃ x : X, E cs x
theorem opens_list {X : Type} {t e : TypeId} {k : Nat} {E : List Value → X → Prop} (ht : P.underlying t = some (.slice e)) (hk : P.cellsOf e = k) (hk0 : 0 < k) (hE : Opens enc P w sp e E) :
  Opens enc P w sp t (fun cs (xs : List X) => ∃ v, cs = [v] ∧ RdL w (· < w.heap.size) k E v xs) := by
 intro fuel cs y h
 rcases open_slice ht h with ⟨rfl, rfl⟩ | ⟨a, len, cap, m, n, D, Pl, rfl, _, hl, hm, hmm, rfl, hi⟩
 ·exact ⟨[], _, rfl, none, 0, rfl, Nat.le_refl _, by decide, fun h => absurd h (by simp)⟩
 ·rw [hk] at hi
  have hlm : len ≤ m := by rw [hmm]; split <;> omega
  have each : ∀ i, i < len → ∃ x : X, ∃ cs', cs'.length = k ∧ E cs' x ∧ ∀ j, j < k → w.cell? ((a.add (i * k)).add j) = cs'[j]? := fun i hlt => by
   obtain ⟨cs', hc, ht'⟩ := hi i (by omega)
   obtain ⟨x, hx⟩ := hE _ _ _ ht'
   obtain ⟨_, hcl, hat⟩ := World.cells?_some hc
   exact ⟨x, cs', hcl, hx, hat⟩
  obtain ⟨xs, hxl, hxs⟩ : ∃ xs : List X, xs.length = len ∧ ∀ i x, xs[i]? = some x → ∃ cs', cs'.length = k ∧ E cs' x ∧ ∀ j, j < k → w.cell? ((a.add (i * k)).add j) = cs'[j]? := by
   refine ⟨List.ofFn fun i : Fin len => (each i.1 i.2).choose, by simp, fun i x hx => ?_⟩
   obtain ⟨hlt, rfl⟩ := List.getElem?_eq_some_iff.1 hx
   simp only [List.length_ofFn] at hlt
   rw [List.getElem_ofFn]
   exact (each i hlt).choose_spec
  refine ⟨xs, _, rfl, some a, cap, by rw [hxl], by omega, hm, fun hn => ?_⟩
  obtain ⟨b, off, spot⟩ := a
  obtain ⟨cs0, hc0, _, hat0⟩ := hxs 0 _ (List.getElem?_eq_getElem hn)
  have h00 := hat0 0 hk0
  rw [List.getElem?_eq_getElem (by omega)] at h00
  have hspot : spot = none := by
   have := World.cell?_spot h00
   simpa [Addr.add] using this
  subst hspot
  have hlt := World.block_lt_of_cell? w _ h00
  rw [add_none, add_none] at hlt
  refine ⟨b, off, rfl, hlt, fun i x hx => ?_⟩
  obtain ⟨cs', hcl, hex, hat⟩ := hxs i x hx
  refine ⟨cs', hcl, hex, fun j u hu => ?_⟩
  have hj := (List.getElem?_eq_some_iff.1 hu).1
  have := hat j (by omega)
  rw [add_none, add_none] at this
  rw [this, hu]
theorem opens_int {t : TypeId} {k : IntKind} (ht : P.underlying t = some (.int k)) : Opens enc P w sp t (fun cs (n : Int) => cs = [.int k n] ∧ (Lit.int k n).wf = true) := by
 intro fuel cs y h
 obtain ⟨n, h1, _, h2⟩ := DataW.trod_int ht h
 exact ⟨n, h1, h2⟩
theorem opens_string {t : TypeId} (ht : P.underlying t = some .string) : Opens enc P w sp t (fun cs (s : ByteArray) => cs = [.string s] ∧ s.size ≤ maxLen) := by
 intro fuel cs y h
 obtain ⟨n, h1, _, h2⟩ := DataW.trod_string ht h
 exact ⟨n, h1, h2⟩
theorem trod_back (hl : laidOutB P = true) {t : TypeId} (hr : P.readableRec t = true) (hrow : t < P.types.size) {W W' : World} {v : Value} {d : DataW H} {ps : List MemPlace}
  (h : DataW.Trod enc P W 0 (fun _ => true) true t v d ps) (hb : Below W.heap.size W W') : DataW.Trod enc P W' 0 (fun b => decide (b < W.heap.size)) true t v d ps :=
 Below.trod hl hr hrow h hb (by obtain ⟨n, hn⟩ := h; exact DataW.trod_lt n _ _ _ hn)
end
end Go.Proofs.YthlbjgabhpdbfaaGreat

/- How many names, bytes, rules and symbols there are: no name is longer than that tells. -/
import Derived.Test.YtacankgalkffmaaG7
namespace Go.Proofs.Ytacankgalkffmaa
set_option linter.unusedVariables false
set_option linter.unusedSimpArgs false
open Go.RowKit
def SzB (l : List ByteArray) (k : Nat) (a : Int) : Prop := ∀ j, j < k → ∀ s, l[j]? = some s → (s.size : Int) ≤ 20 * a + 19
theorem SzB.zero (l : List ByteArray) (a : Int) : SzB l 0 a := fun j hj => absurd hj (by omega)
theorem SzB.mono {l : List ByteArray} {k : Nat} {a b : Int} (h : SzB l k a) (hab : a ≤ b) : SzB l k b := fun j hj s hs => by have := h j hj s hs; omega
theorem SzB.step {l : List ByteArray} {k : Nat} {a : Int} {x : ByteArray} (h : SzB l k a) (hx : l[k]? = some x) (ha : 0 ≤ a := by omega) : SzB l (k + 1) (a + (x.size : Int) / 20) := fun j hj s hs => by
 by_cases e : j = k
 ·subst e
  rw [hx] at hs
  injection hs with hs
  subst hs
  omega
 ·have := h j (by omega) s hs
  omega
theorem SzB.all {l : List ByteArray} {k : Nat} {a : Int} (h : SzB l k a) (hk : 200 ≤ k ∨ l.length ≤ k) : SzB l 200 a := fun j hj s hs => by
 have := (List.getElem?_eq_some_iff.1 hs).1
 exact h j (by omega) s hs
def MuchS (G : GramD) (w : World) (e : Ending) (w' : World) : Prop := ∃ r : Int, ((G.terms.length + G.nons.length + G.rules.length : Nat) : Int) ≤ r ∧ SzB G.terms 200 r ∧ SzB G.nons 200 r ∧ e = .returned (.int .i64 r) ∧ Below w.heap.size w w'
theorem toList_size (s : ByteArray) : s.toList.length = s.size := by rw [ByteArray.toList_eq, Array.length_toList]; rfl
theorem names_short {G : GramD} {r : Int} (h : ((G.terms.length + G.nons.length + G.rules.length : Nat) : Int) ≤ r) (hr : r ≤ 60) (h1 : SzB G.terms 200 r) (h2 : SzB G.nons 200 r) : ∀ s, (nameOf G s).toList.length ≤ 10000 := by
 intro s
 rw [toList_size]
 unfold nameOf
 split
 ·decide
 ·split
  ·rcases e : (G.terms ++ G.nons)[(s - 1).toNat]? with _ | x
   ·exact Nat.zero_le _
   ·show x.size ≤ 10000
    rcases List.mem_append.1 (List.mem_of_getElem? e) with hx | hx
    ·obtain ⟨j, hj⟩ := List.mem_iff_getElem?.1 hx
     have := h1 j (by have := (List.getElem?_eq_some_iff.1 hj).1; omega) x hj
     omega
    ·obtain ⟨j, hj⟩ := List.mem_iff_getElem?.1 hx
     have := h2 j (by have := (List.getElem?_eq_some_iff.1 hj).1; omega) x hj
     omega
  ·exact Nat.zero_le _
end Go.Proofs.Ytacankgalkffmaa

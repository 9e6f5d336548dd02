/- The order of items, plain: what the library's sort leaves. -/
import Derived.Test.YtlpokomfljmogaaItemPlain
import Derived.Shelf.SlSortCmp.NoneTotal
namespace Go.Proofs.Ytlpokomfljmogaa
set_option linter.unusedVariables false
open Go.Sort

def cfI (x y : It) : Int := if x.1 < y.1 then -1 else if y.1 < x.1 then 1 else if x.2 < y.2 then -1 else if y.2 < x.2 then 1 else 0
theorem lt_cfI (x y : It) : ltOf cfI x y = itLt x y := by
  unfold ltOf cfI
  rw [Bool.eq_iff_iff, decide_eq_true_eq, itLt_iff]
  split
  · simp; omega
  · split
    · simp; omega
    · split
      · simp; omega
      · split
        · simp; omega
        · simp; omega
theorem swoI : SWO (ltOf cfI) where
  irrefl x := by rw [lt_cfI]; exact itLt_irr x
  trans x y z h1 h2 := by rw [lt_cfI] at *; exact itLt_trans h1 h2
  ntrans x y z h1 h2 := by rw [lt_cfI, itLt_not] at *; omega
theorem partI (x y : It) (h1 : ltOf cfI x y = false) (h2 : ltOf cfI y x = false) : x = y := by
  rw [lt_cfI] at *; exact itLt_tri h1 h2
def sortI (l : List It) : List It := l.mergeSort fun x y => !(ltOf cfI) y x
theorem sort_mem {l : List It} {z : It} : z ∈ sortI l ↔ z ∈ l := (List.mergeSort_perm l _).mem_iff
theorem sort_length (l : List It) : (sortI l).length = l.length := (List.mergeSort_perm l _).length_eq
theorem sort_weak (l : List It) : WeakI (sortI l) := by
  have := List.pairwise_mergeSort (le := fun x y : It => !(ltOf cfI) y x) (fun a b c h1 h2 => by
    rw [Bool.not_eq_true', lt_cfI, itLt_not] at *; omega) (fun a b => by
    rw [Bool.or_eq_true, Bool.not_eq_true', Bool.not_eq_true', lt_cfI, lt_cfI, itLt_not, itLt_not]; omega) l
  refine List.Pairwise.imp (fun {a b} h => ?_) this
  rw [Bool.not_eq_true', lt_cfI] at h
  exact h
theorem sort_canon (l : List It) : compI (sortI l) = canonI l := comp_canon (sort_weak l) fun z => sort_mem
end Go.Proofs.Ytlpokomfljmogaa

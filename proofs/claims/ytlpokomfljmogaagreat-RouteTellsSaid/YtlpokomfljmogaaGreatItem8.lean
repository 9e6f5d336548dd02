/- Items: how two are compared; the library's sort of them. -/
import Derived.Test.YtlpokomfljmogaaGreatItem1
import Derived.Test.YtlpokomfljmogaaGreatItemLay
import Derived.Test.YtlpokomfljmogaaGreatItemPlain
import Derived.Test.YtlpokomfljmogaaGreatItem5
namespace Go.Proofs.YtlpokomfljmogaaGreat
set_option linter.unusedVariables false
section
set_option linter.unusedSimpArgs false
open Go.RowKit Go.Shelf Go.Lib Go.Sort
attribute [local irreducible] wpStill wpOne wpPh
def encIt (x : It) : List Value := [.int .i64 x.1, .int .i64 x.2]
theorem sort_items_none (p : Option Addr) (cap : Nat) (fv : Value) (w : World) : Calls Tryz.prog 106 #[.slice p 0 cap, fv] w fun e w' => e = .returned (.tuple #[]) ∧ w' = w :=
 AnyF.slices_SortFunc_none Tryz.sortIt p cap fv w
end
section
set_option linter.unusedSimpArgs false
open Go.RowKit Go.Shelf Go.Lib Go.Sort
attribute [local irreducible] wpStill wpOne wpPh
def HI (w : World) (g : Nat) (l : List It) : Prop := ∀ (k : Nat) (x : It), l[k]? = some x → (w.cell? ⟨g, k * 2, none⟩ = some (.int .i64 x.1) ∧ w.frozen? ⟨g, k * 2, none⟩ = false) ∧ (w.cell? ⟨g, k * 2 + 1, none⟩ = some (.int .i64 x.2) ∧ w.frozen? ⟨g, k * 2 + 1, none⟩ = false)
theorem HI.drewN {w : World} {g : Nat} {l : List It} (h : HI w g l) (q : Nat) : HI (w.drewN q) g l := h
theorem HI.lt {w : World} {g : Nat} {l : List It} (h : HI w g l) (hl : 0 < l.length) : g < w.heap.size := by
 have := (h 0 l[0] (List.getElem?_eq_getElem hl)).1.1
 exact World.block_lt_of_cell? w _ this
theorem HI.set {w : World} {g : Nat} {l : List It} (h : HI w g l) {k : Nat} (hk : k < l.length) (x : It) : HI ((w.setCell ⟨g, k * 2, none⟩ (.int .i64 x.1)).setCell ⟨g, k * 2 + 1, none⟩ (.int .i64 x.2)) g (l.set k x) := by
 intro j y hy
 have hj : j < l.length := by have := (List.getElem?_eq_some_iff.1 hy).1; simpa using this
 obtain ⟨⟨a1, a2⟩, a3, a4⟩ := h j l[j] (List.getElem?_eq_getElem hj)
 rw [World.frozen?_setCell, World.frozen?_setCell, World.frozen?_setCell, World.frozen?_setCell]
 refine ⟨⟨?_, a2⟩, ?_, a4⟩
 ·by_cases e : j = k
  ·subst e
   rw [List.getElem?_set_self hj] at hy
   injection hy with hy
   subst hy
   rw [World.cell?_setCell_other _ _ _ _ (fun ea => by injection ea with _ ea; omega), World.cell?_setCell_same' _ _ _ (by rw [a1]; rfl)]
  ·rw [List.getElem?_set_ne (fun e' => e e'.symm), List.getElem?_eq_getElem hj] at hy
   injection hy with hy
   subst hy
   rw [World.cell?_setCell_other _ _ _ _ (fun ea => by injection ea with _ ea; omega), World.cell?_setCell_other _ _ _ _ (fun ea => by injection ea with _ ea; omega)]
   exact a1
 ·by_cases e : j = k
  ·subst e
   rw [List.getElem?_set_self hj] at hy
   injection hy with hy
   subst hy
   refine World.cell?_setCell_same' _ _ _ ?_
   rw [World.cell?_setCell_other _ _ _ _ (fun ea => by injection ea with _ ea; omega), a3]; rfl
  ·rw [List.getElem?_set_ne (fun e' => e e'.symm), List.getElem?_eq_getElem hj] at hy
   injection hy with hy
   subst hy
   rw [World.cell?_setCell_other _ _ _ _ (fun ea => by injection ea with _ ea; omega), World.cell?_setCell_other _ _ _ _ (fun ea => by injection ea with _ ea; omega)]
   exact a3
theorem HI.holds {w : World} {g : Nat} {l : List It} (h : HI w g l) : HoldsK encIt 2 w g 0 l.toArray := by
 intro t ht
 rw [size_flatK] at ht
 rw [get_flatK _ _ _ _ ht, Nat.zero_add]
 have hk : t / 2 < l.length := by simp at ht; omega
 obtain ⟨⟨a1, a2⟩, a3, a4⟩ := h (t / 2) l[t / 2] (List.getElem?_eq_getElem hk)
 have e : l.toArray[t / 2]! = l[t / 2] := by simp [hk]
 rw [e]
 rcases Nat.mod_two_eq_zero_or_one t with h0 | h1
 ·rw [h0]
  have ht2 : t = t / 2 * 2 := by omega
  have e1 : (⟨g, t, none⟩ : Addr) = ⟨g, t / 2 * 2, none⟩ := by rw [← ht2]
  rw [e1]; exact ⟨a1, a2⟩
 ·rw [h1]
  have ht2 : t = t / 2 * 2 + 1 := by omega
  have e1 : (⟨g, t, none⟩ : Addr) = ⟨g, t / 2 * 2 + 1, none⟩ := by rw [← ht2]
  rw [e1]; exact ⟨a3, a4⟩
theorem HI.of_holds {w : World} {g : Nat} {l : List It} (h : HoldsK encIt 2 w g 0 l.toArray) : HI w g l := by
 intro k x hx
 have hk := (List.getElem?_eq_some_iff.1 hx).1
 have e : l.toArray[k]! = x := by
  rw [List.getElem?_eq_getElem hk] at hx; injection hx with hx; simp [hk, hx]
 have h0 := HoldsK.cell h (i := k) (c := 0) (by simpa using hk) (by omega)
 have h1 := HoldsK.cell h (i := k) (c := 1) (by simpa using hk) (by omega)
 rw [e, Nat.zero_add] at h0 h1
 exact ⟨h0, h1⟩
theorem HI.of_own {w : World} {base : Nat} {e : TypeId} {n g c : Nat} {l : List It} (h : w.ownsRow base e 2 (.slice (some ⟨g, 0, none⟩) n c) n (itCells l)) (hl : 0 < l.length) : HI w g l := by
 have hlen := h.1
 rw [itCells_length] at hlen
 rcases h.2 with ⟨h1, -⟩ | ⟨g', cap, cur, h1, hb, hh, hn, hc, hz, ht⟩
 ·cases h1
 ·injection h1 with h1 _ _
  injection h1 with h1
  injection h1 with h1 _ _
  subst h1
  have key : ∀ j u, (itCells l)[j]? = some u → w.cell? ⟨g, j, none⟩ = some u ∧ w.frozen? ⟨g, j, none⟩ = false := fun j u hu => by
   constructor
   ·rw [cell_of_row w g j cur e (0, 0) hh]
    rw [← ht, List.getElem?_take] at hu
    split at hu
    ·simpa using hu
    ·cases hu
   ·unfold World.frozen?
    rw [hh]
    simp
  intro k x hx
  obtain ⟨k1, k2⟩ := itCells_get hx
  exact ⟨key _ _ k1, key _ _ k2⟩
theorem HI.rd {w : World} {g n c : Nat} {l : List It} (h : HI w g l) (hn : n = l.length) (hc : n ≤ c) (hm : c ≤ maxLen) : RdIt w (fun b => b = g) (.slice (some ⟨g, 0, none⟩) n c) l :=
 RdIt.mk hn hc hm rfl fun k x hx => by obtain ⟨⟨a1, -⟩, a3, -⟩ := h k x hx; rw [Nat.zero_add]; exact ⟨a1, a3⟩
theorem HI.take {w : World} {g m : Nat} {l : List It} (h : HI w g l) : HI w g (l.take m) := fun k x hx => by
 rw [List.getElem?_take] at hx
 split at hx
 ·exact h k x hx
 ·cases hx
theorem sort_touch (w : World) (g n : Nat) (d : Array It) (os : Array Obj) : Touch (fun b => b = g) w (sortWorldK encIt 2 w g 0 n d os) := by
 refine ⟨rfl, rfl, rfl, ?_, fun i hi hn => ?_⟩
 ·unfold sortWorldK grow putRowK putRow mapBlock Sort.ahead
  simp
 ·unfold sortWorldK grow putRowK putRow mapBlock Sort.ahead
  simp only
  rw [Array.getElem?_append_left (by simpa using hi), Array.getElem?_modify, if_neg (fun e => hn e.symm)]
theorem clear_items {w : World} {g : Nat} {l : List It} (h : HI w g l) {k : Nat} (hk : k < l.length) (c : Nat) (ty : TypeId) : (Builtin.clear_ #[26] ty #[.slice (some ⟨g, k * 2, none⟩) (l.length - k) c]).run Tryz.prog w = .ok (.tuple #[]) (w.setCells g (k * 2) (List.replicate ((l.length - k) * 2) (.int .i64 0))) := by
 obtain ⟨m, hm⟩ : ∃ m, l.length - k = m + 1 := ⟨l.length - k - 1, by omega⟩
 have hz : (Builtin.zeroCells (Value.cells (.agg #[.int .i64 0, .int .i64 0])) (m + 1)).toList = List.replicate ((m + 1) * 2) (.int .i64 0) := by
  simp [Builtin.zeroCells, Value.cells]
  apply List.ext_getElem
  ·simp
  ·intro i h1 h2
   simp
   rcases Nat.mod_two_eq_zero_or_one i with e | e <;> simp [e]
 have hat : ∀ j, j < (m + 1) * 2 → (w.cell? ⟨g, k * 2 + j, none⟩).isSome = true ∧ w.frozen? ⟨g, k * 2 + j, none⟩ = false := fun j hj => by
  obtain ⟨⟨a1, a2⟩, a3, a4⟩ := h (k + j / 2) l[k + j / 2] (List.getElem?_eq_getElem (by omega))
  rcases Nat.mod_two_eq_zero_or_one j with e | e
  ·rw [show k * 2 + j = (k + j / 2) * 2 by omega, a1]; exact ⟨rfl, a2⟩
  ·rw [show k * 2 + j = (k + j / 2) * 2 + 1 by omega, a3]; exact ⟨rfl, a4⟩
 have hst := run_storeCells_cells (P := Tryz.prog) g (k * 2) (List.replicate ((m + 1) * 2) (.int .i64 0)) 0 w (fun j hj => by rw [Nat.add_zero]; exact (hat j (by simpa using hj)).1) (fun j hj => by rw [Nat.add_zero]; exact (hat j (by simpa using hj)).2) (by intro v hv'; rw [List.eq_of_mem_replicate hv']; rfl)
 simp only [Nat.add_zero] at hst
 rw [hm]
 simp [Builtin.clear_, run_underlying Tryz.underlying26, Tryz.zeroValue34, hz, hst]
end
section
set_option linter.unusedSimpArgs false
open Go.RowKit Go.Shelf Go.Lib Go.Sort
attribute [local irreducible] wpStill wpOne wpPh
theorem Touch.setCells {S : Nat → Prop} {a : World} {g : Nat} (hg : S g) : ∀ (vs : List Value) (o : Nat) {b : World}, Touch S a b → Touch S a (b.setCells g o vs)
 | [], _, _, h => h
 | v :: vs, o, b, h => Touch.setCells hg vs (o + 1) (h.setCell (p := ⟨g, o, none⟩) (fun _ => hg) v)
theorem HI.cleared {w : World} {g k m : Nat} {l : List It} (h : HI w g l) (hk : l.length ≤ k) (vs : List Value) : HI (w.setCells g (k * 2) vs) g l := by
 intro j x hx
 have hj := (List.getElem?_eq_some_iff.1 hx).1
 obtain ⟨⟨a1, a2⟩, a3, a4⟩ := h j x hx
 rw [World.frozen?_setCells, World.frozen?_setCells, World.cell?_setCells_out _ _ _ _ _ (fun _ _ => .inl (by simp; omega)), World.cell?_setCells_out _ _ _ _ _ (fun _ _ => .inl (by simp; omega))]
 exact ⟨⟨a1, a2⟩, a3, a4⟩
def CompPost (w : World) (g cap : Nat) (l : List It) (e : Ending) (w' : World) : Prop := e = .returned (.slice (some ⟨g, 0, none⟩) l.length cap) ∧ HI w' g l ∧ Touch (fun b => b = g) w w'
set_option maxRecDepth 100000 in
set_option maxHeartbeats 4000000 in
theorem compact_items {w : World} {g cap n : Nat} {l : List It} (h : HI w g l) (hn : n = l.length) (hc : n ≤ cap) (hm : cap ≤ 9223372036854775807) :
  Calls Tryz.prog 110 #[.slice (some ⟨g, 0, none⟩) n cap] w (CompPost w g cap (compI l)) := by
 by_cases h2 : n < 2
 ·have h2' : (n : Int) < 2 := by omega
  have hcs := comp_short (l := l) (by omega)
  have Xh := hide h
  have Xhn := hide hn
  have Xhcs := hide hcs
  clear h hn hcs
  go_enter Tryz.func110, Tryz.ntmps110
  go_wp2_with fail
  go_ret
  rw [Xhcs.out]
  exact ⟨by rw [Xhn.out]; rfl, Xh.out, Touch.refl _ _⟩
 ·have h2' : ¬ (n : Int) < 2 := by omega
  have hfirst := comp_first (l := l)
  have Xh := hide h
  have Xhn := hide hn
  have Xhfirst := hide hfirst
  clear h hn hfirst
  go_enter Tryz.func110, Tryz.ntmps110
  go_wp2_with fail
  go_loopw [3] (fun i wr => ∃ k q : Nat, 1 ≤ k ∧ k ≤ n ∧ i = .int .i64 k ∧ wr = w.drewN q ∧ compI (l.take k) = l.take k) (fun i _ => n - (intOf i).toNat)
  case atStart => exact ⟨1, 0, Nat.le_refl _, by omega, rfl, rfl, Xhfirst.out⟩
  case round =>
   clear Xhfirst
   obtain ⟨k, q, hk1, hk, rfl, rfl, hcp⟩ := hrel
   by_cases hlt : k < n
   ·have hlt' : (k : Int) < (n : Int) := by omega
    obtain ⟨r, hr⟩ : ∃ r, k = r + 1 := ⟨k - 1, by omega⟩
    have hw63 : IntKind.i64.wrap ((k : Int) - 1) = (r : Int) := by rw [IntKind.wrap_i64]; omega
    have hrn : (r : Int) < (n : Int) := by omega
    obtain ⟨⟨x0, x1⟩, hx⟩ : ∃ x, l[k]? = some x := ⟨_, List.getElem?_eq_getElem (by rw [← Xhn.out]; exact hlt)⟩
    obtain ⟨⟨y0, y1⟩, hy⟩ : ∃ x, l[r]? = some x := ⟨_, List.getElem?_eq_getElem (by rw [← Xhn.out]; omega)⟩
    obtain ⟨⟨p0, -⟩, p1, -⟩ := Xh.out k _ hx
    obtain ⟨⟨r0, -⟩, r1, -⟩ := Xh.out r _ hy
    simp only at p0 p1 r0 r1
    have heq := eql_item x0 x1 y0 y1
    have hgd := fun op p q => guard_item op p q (x0, x1) (y0, y1)
    have hnext := comp_next (l := l) (r := r) hy (by rw [← hr]; exact hx)
    rw [show r + 2 = k + 1 by omega, ← hr, hcp] at hnext
    by_cases he : ((x0, x1) : It) = (y0, y1)
    ·rw [decide_eq_true he] at heq
     rw [if_pos he.symm] at hnext
     have hck : ¬ cap = k := by omega
     have hkc : (k : Int) ≤ (cap : Int) := by omega
     have hk0 : (0 : Int) ≤ (k : Int) := by omega
     have hlk : k = (compI (l.take (k + 1))).length := by rw [hnext, List.length_take]; have := Xhn.out; omega
     have Xhr := hide hr
     have Xhx := hide hx
     have Xhy := hide hy
     have Xhe := hide he
     have Xhcp := hide hcp
     have Xhnext := hide hnext
     have Xhlk := hide hlk
     clear hr hx hy he hcp hnext hlk
     go_wp2_with fail
     refine region_reads (by kernel_rfl) (by kernel_rfl) ?_
     repeat still_step
     refine wpStill_nil ?_
     go_wp2_with fail
     go_loopw [3, 5] (fun i m wr => ∃ (kk s : Nat) (L : List It), i = .int .i64 kk ∧ m = .int .i64 s ∧ 1 ≤ s ∧ k + s ≤ n ∧ kk + 1 ≤ k + s ∧ L.length = n ∧ kk = (compI (l.take (k + s))).length ∧ L.take kk = compI (l.take (k + s)) ∧ (∀ j, k + s ≤ j + 1 → L[j]? = l[j]?) ∧ HI wr g L ∧ Touch (fun b => b = g) w wr) (fun _ m _ => n - (intOf m).toNat)
     case atStart => exact ⟨k, 1, l, rfl, rfl, Nat.le_refl _, by omega, Nat.le_refl _, Xhn.out.symm, Xhlk.out, Xhnext.out.symm, fun _ _ => rfl, Xh.out.drewN _, (Touch.refl _ _).drewN _⟩
     case round =>
      clear p0 p1 r0 r1 heq hgd hw63 hrn
      obtain ⟨kk, s, L, rfl, rfl, hs1, hsn, hks, hL, hkk, hLt, hLe, hH, tt⟩ := hrel
      have hkn : (kk : Int) < (n : Int) := by omega
      by_cases hlt2 : k + s < n
      ·have hlt2' : (s : Int) < ((n - k : Nat) : Int) := by omega
       obtain ⟨u, hu⟩ : ∃ u, s = u + 1 := ⟨s - 1, by omega⟩
       have hw64 : IntKind.i64.wrap ((s : Int) - 1) = (u : Int) := by rw [IntKind.wrap_i64]; omega
       have hun : (u : Int) < ((n - k : Nat) : Int) := by omega
       obtain ⟨⟨x0, x1⟩, hx⟩ : ∃ x, l[k + s]? = some x := ⟨_, List.getElem?_eq_getElem (by rw [← Xhn.out]; exact hlt2)⟩
       obtain ⟨⟨y0, y1⟩, hy⟩ : ∃ x, l[k + u]? = some x := ⟨_, List.getElem?_eq_getElem (by rw [← Xhn.out]; omega)⟩
       obtain ⟨⟨p0, -⟩, p1, -⟩ := hH (k + s) _ ((hLe _ (by omega)).trans hx)
       obtain ⟨⟨r0, -⟩, r1, -⟩ := hH (k + u) _ ((hLe _ (by omega)).trans hy)
       rw [Nat.add_mul] at p0 p1 r0 r1
       obtain ⟨⟨z0, z1⟩, hz⟩ : ∃ x, L[kk]? = some x := ⟨_, List.getElem?_eq_getElem (by omega)⟩
       obtain ⟨⟨f0, f1⟩, f2, f3⟩ := hH kk _ hz
       simp only at p0 p1 r0 r1 f0 f2
       have hne := neq_item x0 x1 y0 y1
       have hgd := fun op p q => guard_item op p q (x0, x1) (y0, y1)
       have hnext2 := comp_next (l := l) (r := k + u) hy (by rw [Nat.add_assoc, ← hu]; exact hx)
       rw [show k + u + 2 = k + (s + 1) by omega, show k + u + 1 = k + s by omega] at hnext2
       by_cases he2 : ((x0, x1) : It) = (y0, y1)
       ·rw [decide_eq_true he2] at hne
        rw [if_pos he2.symm] at hnext2
        have Xhu := hide hu
        have Xhx := hide hx
        have Xhy := hide hy
        have Xhe2 := hide he2
        have Xhz := hide hz
        have Xhnext2 := hide hnext2
        have XhL := hide hL
        have Xhkk := hide hkk
        have XhLt := hide hLt
        have XhLe := hide hLe
        have XhH := hide hH
        have Xtt := hide tt
        clear hu hx hy he2 hz hnext2 hL hkk hLt hLe hH tt
        clear f0 f1 f2 f3
        go_wp2_with fail
        refine region_reads (by kernel_rfl) (by kernel_rfl) ?_
        repeat still_step
        refine wpStill_nil ?_
        go_wp2_with fail
        go_roundw
        case rel => exact ⟨kk, s + 1, L, rfl, by go_num, by omega, by omega, by omega, XhL.out, by rw [Xhnext2.out]; exact Xhkk.out, by rw [Xhnext2.out]; exact XhLt.out, fun j hj => XhLe.out j (by omega), XhH.out.drewN _, Xtt.out.drewN _⟩
        case measure => simp [intOf]; omega
       ·rw [decide_eq_false he2] at hne
        rw [if_neg (fun e => he2 e.symm)] at hnext2
        have hkk2 : kk + 1 = (compI (l.take (k + (s + 1)))).length := by rw [hnext2, List.length_append, ← hkk]; rfl
        have hLt2 : (L.set kk (x0, x1)).take (kk + 1) = compI (l.take (k + (s + 1))) := by
         rw [hnext2, List.take_add_one, List.getElem?_set_self (by omega), List.take_set_of_le (Nat.le_refl _), hLt]; rfl
        have hLe2 : ∀ j, k + (s + 1) ≤ j + 1 → (L.set kk (x0, x1))[j]? = l[j]? := fun j hj => by
         rw [List.getElem?_set_ne (by omega)]; exact hLe j (by omega)
        have hH2 := fun q => HI.set (hH.drewN q) (k := kk) (by omega) (x0, x1)
        have tt2 := fun q v0 v1 => ((tt.drewN q).setCell (p := ⟨g, kk * 2, none⟩) (fun _ => rfl) v0).setCell (p := ⟨g, kk * 2 + 1, none⟩) (fun _ => rfl) v1
        have hL2 : (L.set kk (x0, x1)).length = n := by rw [List.length_set]; exact hL
        simp only at hH2
        have Xhu := hide hu
        have Xhx := hide hx
        have Xhy := hide hy
        have Xhe2 := hide he2
        have Xhz := hide hz
        have Xhnext2 := hide hnext2
        have XhL := hide hL
        have Xhkk := hide hkk
        have XhLt := hide hLt
        have XhLe := hide hLe
        have XhH := hide hH
        have Xtt := hide tt
        have Xhkk2 := hide hkk2
        have XhLt2 := hide hLt2
        have XhLe2 := hide hLe2
        have XhH2 := hide hH2
        have Xtt2 := hide tt2
        have XhL2 := hide hL2
        clear hu hx hy he2 hz hnext2 hL hkk hLt hLe hH tt hkk2 hLt2 hLe2 hH2 tt2 hL2
        go_wp2_with fail
        refine region_reads (by kernel_rfl) (by kernel_rfl) ?_
        repeat still_step
        refine wpStill_nil ?_
        go_wp2_with fail
        go_roundw
        case rel => exact ⟨kk + 1, s + 1, L.set kk (x0, x1), by go_num, by go_num, by omega, by omega, by omega, XhL2.out, Xhkk2.out, XhLt2.out, XhLe2.out, XhH2.out 1, Xtt2.out 1 _ _⟩
        case measure => simp [intOf]; omega
      ·have hlt2' : ¬ (s : Int) < ((n - k : Nat) : Int) := by omega
       have hend : k + s = n := by omega
       have hfin : compI (l.take (k + s)) = compI l := by rw [List.take_of_length_le (by have := Xhn.out; omega)]
       rw [hfin] at hkk hLt
       have hck2 : ¬ cap = kk := by omega
       have hkc2 : (kk : Int) ≤ (cap : Int) := by omega
       have hkn2 : (kk : Int) ≤ (n : Int) := by omega
       have hkk0 : (0 : Int) ≤ (kk : Int) := by omega
       have hcl := fun ty => clear_items hH (k := kk) (by omega) (cap - kk) ty
       rw [hL] at hcl
       have hH3 := fun vs => HI.cleared (k := kk) (m := 0) (hLt ▸ HI.take (m := kk) hH) (by omega) vs
       have tt3 := fun vs => Touch.setCells (g := g) (S := fun b => b = g) rfl vs (kk * 2) tt
       have XhL := hide hL
       have Xhkk := hide hkk
       have XhLt := hide hLt
       have XhLe := hide hLe
       have XhH := hide hH
       have Xtt := hide tt
       have Xhfin := hide hfin
       have XhH3 := hide hH3
       have Xtt3 := hide tt3
       have Xhend := hide hend
       clear hL hkk hLt hLe hH tt hfin hH3 tt3 hend
       go_wp2_with fail
       go_ret
       exact ⟨by rw [Xhkk.out]; rfl, XhH3.out _, Xtt3.out _⟩
    ·rw [decide_eq_false he] at heq
     rw [if_neg (fun e => he e.symm)] at hnext
     have hcp2 : compI (l.take (k + 1)) = l.take (k + 1) := by rw [hnext, List.take_add_one, hx]; rfl
     clear hnext
     have Xhr := hide hr
     have Xhx := hide hx
     have Xhy := hide hy
     have Xhe := hide he
     have Xhcp := hide hcp
     have Xhcp2 := hide hcp2
     clear hr hx hy he hcp hcp2
     go_wp2_with fail
     refine region_reads (by kernel_rfl) (by kernel_rfl) ?_
     repeat still_step
     refine wpStill_nil ?_
     go_wp2_with fail
     go_roundw
     case rel => exact ⟨k + 1, q + 1, by omega, by omega, by go_num, rfl, Xhcp2.out⟩
     case measure => simp [intOf]; omega
   ·have hlt' : ¬ (k : Int) < (n : Int) := by omega
    have hall : compI l = l := by rw [List.take_of_length_le (by have := Xhn.out; omega)] at hcp; exact hcp
    have Xhcp := hide hcp
    have Xhall := hide hall
    clear hcp hall
    go_wp2_with fail
    go_ret
    rw [Xhall.out]
    exact ⟨by rw [Xhn.out]; rfl, Xh.out.drewN q, (Touch.refl _ _).drewN q⟩
theorem compact_none (p : Option Addr) (cap : Nat) (w : World) : Calls Tryz.prog 110 #[.slice p 0 cap] w fun e w' => e = .returned (.slice p 0 cap) ∧ w' = w := by
 go_enter Tryz.func110, Tryz.ntmps110
 go_wp2_with fail
 go_ret
 exact ⟨rfl, by first | rfl | trivial⟩
end
end Go.Proofs.YtlpokomfljmogaaGreat

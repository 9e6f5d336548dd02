/- Items: slices.Compact; sorted. -/
import Derived.Test.YtlpokomfljmogaaGreatItem9
namespace Go.Proofs.YtlpokomfljmogaaGreat
set_option linter.unusedVariables false
set_option linter.unusedSimpArgs false
open Go.RowKit Go.Shelf Go.Lib Go.Sort
attribute [local irreducible] wpStill wpOne wpPh

theorem Touch.setCells {S : Nat → Prop} {a : World} {g : Nat} (hg : S g) : ∀ (vs : List Value) (o : Nat) {b : World}, Touch S a b → Touch S a (b.setCells g o vs)
  | [], _, _, h => h
  | v :: vs, o, b, h => Touch.setCells hg vs (o + 1) (h.setCell (p := ⟨g, o, none⟩) (fun _ => hg) v)
theorem HI.cleared {w : World} {g k m : Nat} {l : List It} (h : HI w g l) (hk : l.length ≤ k) (vs : List Value) : HI (w.setCells g (k * 2) vs) g l := by
  intro j x hx
  have hj := (List.getElem?_eq_some_iff.1 hx).1
  obtain ⟨⟨a1, a2⟩, a3, a4⟩ := h j x hx
  rw [World.frozen?_setCells, World.frozen?_setCells, World.cell?_setCells_out _ _ _ _ _ (fun _ _ => .inl (by simp; omega)), World.cell?_setCells_out _ _ _ _ _ (fun _ _ => .inl (by simp; omega))]
  exact ⟨⟨a1, a2⟩, a3, a4⟩
/-- what Compact hands back -/
def CompPost (w : World) (g cap : Nat) (l : List It) (e : Ending) (w' : World) : Prop := e = .returned (.slice (some ⟨g, 0, none⟩) l.length cap) ∧ HI w' g l ∧ Touch (fun b => b = g) w w'

set_option maxRecDepth 100000 in
set_option maxHeartbeats 4000000 in
theorem compact_items {w : World} {g cap n : Nat} {l : List It} (h : HI w g l) (hn : n = l.length) (hc : n ≤ cap) (hm : cap ≤ 9223372036854775807) :
    Calls Tryz.prog 110 #[.slice (some ⟨g, 0, none⟩) n cap] w (CompPost w g cap (compI l)) := by
  by_cases h2 : n < 2
  · have h2' : (n : Int) < 2 := by omega
    have hcs := comp_short (l := l) (by omega)
    have Xh := hide h
    have Xhn := hide hn
    have Xhcs := hide hcs
    clear h hn hcs
    go_enter Tryz.func110, Tryz.ntmps110
    go_wp2_with fail
    go_ret
    rw [Xhcs.out]
    exact ⟨by rw [Xhn.out]; rfl, Xh.out, Touch.refl _ _⟩
  · have h2' : ¬ (n : Int) < 2 := by omega
    have hfirst := comp_first (l := l)
    have Xh := hide h
    have Xhn := hide hn
    have Xhfirst := hide hfirst
    clear h hn hfirst
    go_enter Tryz.func110, Tryz.ntmps110
    go_wp2_with fail
    go_loopw [3] (fun i wr => ∃ k q : Nat, 1 ≤ k ∧ k ≤ n ∧ i = .int .i64 k ∧ wr = w.drewN q ∧ compI (l.take k) = l.take k) (fun i _ => n - (intOf i).toNat)
    case atStart => exact ⟨1, 0, Nat.le_refl _, by omega, rfl, rfl, Xhfirst.out⟩
    case round =>
      clear Xhfirst
      obtain ⟨k, q, hk1, hk, rfl, rfl, hcp⟩ := hrel
      by_cases hlt : k < n
      · have hlt' : (k : Int) < (n : Int) := by omega
        obtain ⟨r, hr⟩ : ∃ r, k = r + 1 := ⟨k - 1, by omega⟩
        have hw63 : IntKind.i64.wrap ((k : Int) - 1) = (r : Int) := by rw [IntKind.wrap_i64]; omega
        have hrn : (r : Int) < (n : Int) := by omega
        obtain ⟨⟨x0, x1⟩, hx⟩ : ∃ x, l[k]? = some x := ⟨_, List.getElem?_eq_getElem (by rw [← Xhn.out]; exact hlt)⟩
        obtain ⟨⟨y0, y1⟩, hy⟩ : ∃ x, l[r]? = some x := ⟨_, List.getElem?_eq_getElem (by rw [← Xhn.out]; omega)⟩
        obtain ⟨⟨p0, -⟩, p1, -⟩ := Xh.out k _ hx
        obtain ⟨⟨r0, -⟩, r1, -⟩ := Xh.out r _ hy
        simp only at p0 p1 r0 r1
        have heq := eql_item x0 x1 y0 y1
        have hgd := fun op p q => guard_item op p q (x0, x1) (y0, y1)
        have hnext := comp_next (l := l) (r := r) hy (by rw [← hr]; exact hx)
        rw [show r + 2 = k + 1 by omega, ← hr, hcp] at hnext
        by_cases he : ((x0, x1) : It) = (y0, y1)
        · rw [decide_eq_true he] at heq
          rw [if_pos he.symm] at hnext
          have hck : ¬ cap = k := by omega
          have hkc : (k : Int) ≤ (cap : Int) := by omega
          have hk0 : (0 : Int) ≤ (k : Int) := by omega
          have hlk : k = (compI (l.take (k + 1))).length := by rw [hnext, List.length_take]; have := Xhn.out; omega
          have Xhr := hide hr
          have Xhx := hide hx
          have Xhy := hide hy
          have Xhe := hide he
          have Xhcp := hide hcp
          have Xhnext := hide hnext
          have Xhlk := hide hlk
          clear hr hx hy he hcp hnext hlk
          go_wp2_with fail
          refine region_reads (by kernel_rfl) (by kernel_rfl) ?_
          repeat still_step
          refine wpStill_nil ?_
          go_wp2_with fail
          go_loopw [3, 5] (fun i m wr => ∃ (kk s : Nat) (L : List It), i = .int .i64 kk ∧ m = .int .i64 s ∧ 1 ≤ s ∧ k + s ≤ n ∧ kk + 1 ≤ k + s ∧ L.length = n ∧ kk = (compI (l.take (k + s))).length ∧ L.take kk = compI (l.take (k + s)) ∧ (∀ j, k + s ≤ j + 1 → L[j]? = l[j]?) ∧ HI wr g L ∧ Touch (fun b => b = g) w wr) (fun _ m _ => n - (intOf m).toNat)
          case atStart => exact ⟨k, 1, l, rfl, rfl, Nat.le_refl _, by omega, Nat.le_refl _, Xhn.out.symm, Xhlk.out, Xhnext.out.symm, fun _ _ => rfl, Xh.out.drewN _, (Touch.refl _ _).drewN _⟩
          case round =>
            clear p0 p1 r0 r1 heq hgd hw63 hrn
            obtain ⟨kk, s, L, rfl, rfl, hs1, hsn, hks, hL, hkk, hLt, hLe, hH, tt⟩ := hrel
            have hkn : (kk : Int) < (n : Int) := by omega
            by_cases hlt2 : k + s < n
            · have hlt2' : (s : Int) < ((n - k : Nat) : Int) := by omega
              obtain ⟨u, hu⟩ : ∃ u, s = u + 1 := ⟨s - 1, by omega⟩
              have hw64 : IntKind.i64.wrap ((s : Int) - 1) = (u : Int) := by rw [IntKind.wrap_i64]; omega
              have hun : (u : Int) < ((n - k : Nat) : Int) := by omega
              obtain ⟨⟨x0, x1⟩, hx⟩ : ∃ x, l[k + s]? = some x := ⟨_, List.getElem?_eq_getElem (by rw [← Xhn.out]; exact hlt2)⟩
              obtain ⟨⟨y0, y1⟩, hy⟩ : ∃ x, l[k + u]? = some x := ⟨_, List.getElem?_eq_getElem (by rw [← Xhn.out]; omega)⟩
              obtain ⟨⟨p0, -⟩, p1, -⟩ := hH (k + s) _ ((hLe _ (by omega)).trans hx)
              obtain ⟨⟨r0, -⟩, r1, -⟩ := hH (k + u) _ ((hLe _ (by omega)).trans hy)
              rw [Nat.add_mul] at p0 p1 r0 r1
              obtain ⟨⟨z0, z1⟩, hz⟩ : ∃ x, L[kk]? = some x := ⟨_, List.getElem?_eq_getElem (by omega)⟩
              obtain ⟨⟨f0, f1⟩, f2, f3⟩ := hH kk _ hz
              simp only at p0 p1 r0 r1 f0 f2
              have hne := neq_item x0 x1 y0 y1
              have hgd := fun op p q => guard_item op p q (x0, x1) (y0, y1)
              have hnext2 := comp_next (l := l) (r := k + u) hy (by rw [Nat.add_assoc, ← hu]; exact hx)
              rw [show k + u + 2 = k + (s + 1) by omega, show k + u + 1 = k + s by omega] at hnext2
              by_cases he2 : ((x0, x1) : It) = (y0, y1)
              · rw [decide_eq_true he2] at hne
                rw [if_pos he2.symm] at hnext2
                have Xhu := hide hu
                have Xhx := hide hx
                have Xhy := hide hy
                have Xhe2 := hide he2
                have Xhz := hide hz
                have Xhnext2 := hide hnext2
                have XhL := hide hL
                have Xhkk := hide hkk
                have XhLt := hide hLt
                have XhLe := hide hLe
                have XhH := hide hH
                have Xtt := hide tt
                clear hu hx hy he2 hz hnext2 hL hkk hLt hLe hH tt
                clear f0 f1 f2 f3
                go_wp2_with fail
                refine region_reads (by kernel_rfl) (by kernel_rfl) ?_
                repeat still_step
                refine wpStill_nil ?_
                go_wp2_with fail
                go_roundw
                case rel => exact ⟨kk, s + 1, L, rfl, by go_num, by omega, by omega, by omega, XhL.out, by rw [Xhnext2.out]; exact Xhkk.out, by rw [Xhnext2.out]; exact XhLt.out, fun j hj => XhLe.out j (by omega), XhH.out.drewN _, Xtt.out.drewN _⟩
                case measure => simp [intOf]; omega
              · rw [decide_eq_false he2] at hne
                rw [if_neg (fun e => he2 e.symm)] at hnext2
                have hkk2 : kk + 1 = (compI (l.take (k + (s + 1)))).length := by rw [hnext2, List.length_append, ← hkk]; rfl
                have hLt2 : (L.set kk (x0, x1)).take (kk + 1) = compI (l.take (k + (s + 1))) := by
                  rw [hnext2, List.take_add_one, List.getElem?_set_self (by omega), List.take_set_of_le (Nat.le_refl _), hLt]; rfl
                have hLe2 : ∀ j, k + (s + 1) ≤ j + 1 → (L.set kk (x0, x1))[j]? = l[j]? := fun j hj => by
                  rw [List.getElem?_set_ne (by omega)]; exact hLe j (by omega)
                have hH2 := fun q => HI.set (hH.drewN q) (k := kk) (by omega) (x0, x1)
                have tt2 := fun q v0 v1 => ((tt.drewN q).setCell (p := ⟨g, kk * 2, none⟩) (fun _ => rfl) v0).setCell (p := ⟨g, kk * 2 + 1, none⟩) (fun _ => rfl) v1
                have hL2 : (L.set kk (x0, x1)).length = n := by rw [List.length_set]; exact hL
                simp only at hH2
                have Xhu := hide hu
                have Xhx := hide hx
                have Xhy := hide hy
                have Xhe2 := hide he2
                have Xhz := hide hz
                have Xhnext2 := hide hnext2
                have XhL := hide hL
                have Xhkk := hide hkk
                have XhLt := hide hLt
                have XhLe := hide hLe
                have XhH := hide hH
                have Xtt := hide tt
                have Xhkk2 := hide hkk2
                have XhLt2 := hide hLt2
                have XhLe2 := hide hLe2
                have XhH2 := hide hH2
                have Xtt2 := hide tt2
                have XhL2 := hide hL2
                clear hu hx hy he2 hz hnext2 hL hkk hLt hLe hH tt hkk2 hLt2 hLe2 hH2 tt2 hL2
                go_wp2_with fail
                refine region_reads (by kernel_rfl) (by kernel_rfl) ?_
                repeat still_step
                refine wpStill_nil ?_
                go_wp2_with fail
                go_roundw
                case rel => exact ⟨kk + 1, s + 1, L.set kk (x0, x1), by go_num, by go_num, by omega, by omega, by omega, XhL2.out, Xhkk2.out, XhLt2.out, XhLe2.out, XhH2.out 1, Xtt2.out 1 _ _⟩
                case measure => simp [intOf]; omega
            · have hlt2' : ¬ (s : Int) < ((n - k : Nat) : Int) := by omega
              have hend : k + s = n := by omega
              have hfin : compI (l.take (k + s)) = compI l := by rw [List.take_of_length_le (by have := Xhn.out; omega)]
              rw [hfin] at hkk hLt
              have hck2 : ¬ cap = kk := by omega
              have hkc2 : (kk : Int) ≤ (cap : Int) := by omega
              have hkn2 : (kk : Int) ≤ (n : Int) := by omega
              have hkk0 : (0 : Int) ≤ (kk : Int) := by omega
              have hcl := fun ty => clear_items hH (k := kk) (by omega) (cap - kk) ty
              rw [hL] at hcl
              have hH3 := fun vs => HI.cleared (k := kk) (m := 0) (hLt ▸ HI.take (m := kk) hH) (by omega) vs
              have tt3 := fun vs => Touch.setCells (g := g) (S := fun b => b = g) rfl vs (kk * 2) tt
              have XhL := hide hL
              have Xhkk := hide hkk
              have XhLt := hide hLt
              have XhLe := hide hLe
              have XhH := hide hH
              have Xtt := hide tt
              have Xhfin := hide hfin
              have XhH3 := hide hH3
              have Xtt3 := hide tt3
              have Xhend := hide hend
              clear hL hkk hLt hLe hH tt hfin hH3 tt3 hend
              go_wp2_with fail
              go_ret
              exact ⟨by rw [Xhkk.out]; rfl, XhH3.out _, Xtt3.out _⟩
        · rw [decide_eq_false he] at heq
          rw [if_neg (fun e => he e.symm)] at hnext
          have hcp2 : compI (l.take (k + 1)) = l.take (k + 1) := by rw [hnext, List.take_add_one, hx]; rfl
          clear hnext
          have Xhr := hide hr
          have Xhx := hide hx
          have Xhy := hide hy
          have Xhe := hide he
          have Xhcp := hide hcp
          have Xhcp2 := hide hcp2
          clear hr hx hy he hcp hcp2
          go_wp2_with fail
          refine region_reads (by kernel_rfl) (by kernel_rfl) ?_
          repeat still_step
          refine wpStill_nil ?_
          go_wp2_with fail
          go_roundw
          case rel => exact ⟨k + 1, q + 1, by omega, by omega, by go_num, rfl, Xhcp2.out⟩
          case measure => simp [intOf]; omega
      · have hlt' : ¬ (k : Int) < (n : Int) := by omega
        have hall : compI l = l := by rw [List.take_of_length_le (by have := Xhn.out; omega)] at hcp; exact hcp
        have Xhcp := hide hcp
        have Xhall := hide hall
        clear hcp hall
        go_wp2_with fail
        go_ret
        rw [Xhall.out]
        exact ⟨by rw [Xhn.out]; rfl, Xh.out.drewN q, (Touch.refl _ _).drewN q⟩
theorem compact_none (p : Option Addr) (cap : Nat) (w : World) : Calls Tryz.prog 110 #[.slice p 0 cap] w fun e w' => e = .returned (.slice p 0 cap) ∧ w' = w := by
  go_enter Tryz.func110, Tryz.ntmps110
  go_wp2_with fail
  go_ret
  exact ⟨rfl, by first | rfl | trivial⟩
/-- sorted: items in order, each once; what was given is turned -/
def SortedPost (base : Nat) (w : World) (l : List It) (e : Ending) (w' : World) : Prop := ∃ A n c, e = .returned (.slice A n c) ∧ RdIt w' (fun b => base ≤ b ∧ b < w'.heap.size) (.slice A n c) l ∧ Below base w w'
set_option maxRecDepth 100000 in
set_option maxHeartbeats 2000000 in
theorem item_sorted {w : World} {base : Nat} {v : Value} {n : Nat} {l : List It} (h : w.ownsRow base 34 2 v n (itCells l)) (hb : base ≤ w.heap.size) (hn : n = l.length) (hsz : n ≤ 1000000) :
    Calls Tryz.prog 64 #[v] w (SortedPost base w (canonI l)) := by
  obtain ⟨A, c, rfl, hnc, hcm⟩ := ownsRow_shape h
  unfold maxLen at hcm
  by_cases h0 : n = 0
  · subst h0
    have hl : l = [] := List.eq_nil_of_length_eq_zero hn.symm
    have cs := sort_items_none A c (.func (.func 107) #[] #[]) w
    have cc := compact_none A c w
    subst hl
    clear hn
    have Xcs := hide cs
    have Xcc := hide cc
    have Xh := hide h
    clear cs cc h
    go_enter Tryz.func64, Tryz.ntmps64
    go_wp2_with fail
    refine Xcs.out.mono ?_
    rintro e w' ⟨rfl, rfl⟩
    go_wp2_with fail
    refine Xcc.out.mono ?_
    rintro e w' ⟨rfl, rfl⟩
    go_wp2_with fail
    go_ret
    exact ⟨A, 0, c, rfl, ⟨A, 0, c, rfl, Nat.zero_le _, by unfold maxLen; omega, rfl, fun h => absurd h (by omega)⟩, Below.refl _ _⟩
  · have hg : ∃ g, A = some ⟨g, 0, none⟩ := by
      rcases h.2 with ⟨h1, -⟩ | ⟨g', cap, cur, h1, -⟩
      · injection h1 with _ h1 _; exact absurd h1 h0
      · injection h1 with h1 _ _; exact ⟨g', h1⟩
    obtain ⟨g, rfl⟩ := hg
    have hgb : base ≤ g ∧ g < w.heap.size := h.lt g rfl
    have hH := HI.of_own h (by omega)
    have hs := sort_length l
    have cs := sort_items g 0 c l.toArray w hH.holds hgb.2 (by simp; omega)
    have hsz2 : (l.toArray).size = n := by simp [hn]
    rw [hsz2] at cs
    have cc : ∀ m os, Calls Tryz.prog 110 #[.slice (some ⟨g, 0, none⟩) n c] (sortWorldK encIt 2 w g 0 m (sortI l).toArray os) (CompPost (sortWorldK encIt 2 w g 0 m (sortI l).toArray os) g c (canonI l)) := fun m os => by
      have := compact_items (n := n) (HI.of_holds (holdsK_sortWorldK_c encIt 2 w g 0 l.toArray (sortI l).toArray m os hH.holds hgb.2 (by simp [hs]))) (by rw [hs]; exact hn) hnc hcm
      rw [sort_canon] at this
      exact this
    have tt := fun m os => sort_touch w g m (sortI l).toArray os
    have hnn : n = l.length := hn
    clear hn
    have Xcs := hide cs
    have Xcc := hide cc
    have Xtt := hide tt
    have Xh := hide h
    have XhH := hide hH
    have Xhs := hide hs
    have Xhsz2 := hide hsz2
    have Xhnn := hide hnn
    clear cs cc tt h hH hs hsz2 hnn
    go_enter Tryz.func64, Tryz.ntmps64
    go_wp2_with fail
    refine Xcs.out.mono ?_
    rintro e w2 ⟨rfl, m, os, hw2⟩
    have cc2 := Xcc.out m os
    have tt2 := Xtt.out m os
    rw [← hw2] at cc2 tt2
    clear hw2
    have Xcc2 := hide cc2
    have Xtt2 := hide tt2
    clear cc2 tt2
    go_wp2_with fail
    refine Xcc2.out.mono ?_
    rintro e w3 ⟨rfl, h3, t3⟩
    have t4 := Xtt2.out.trans' t3
    have hlen := canon_len l
    rw [← Xhnn.out] at hlen
    have Xh3 := hide h3
    have Xt4 := hide t4
    have Xt3 := hide t3
    clear h3 t4 t3
    go_wp2_with fail
    go_ret
    exact ⟨_, _, c, rfl, (HI.rd Xh3.out rfl (by omega) (by unfold maxLen; omega)).mono (fun b e => by rw [e]; exact ⟨hgb.1, Nat.lt_of_lt_of_le hgb.2 Xt4.out.size⟩), Xt4.out.below (fun i hi _ e => by omega) hb⟩
end Go.Proofs.YtlpokomfljmogaaGreat

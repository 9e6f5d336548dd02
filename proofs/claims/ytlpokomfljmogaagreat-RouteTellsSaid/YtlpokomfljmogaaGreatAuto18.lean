/- The automaton: the reference's Same; Goto and Walk, of both. -/
import Derived.Test.YtlpokomfljmogaaGreatAuto16
import Derived.Test.YtlpokomfljmogaaGreatAutoPlain
namespace Go.Proofs.YtlpokomfljmogaaGreat
set_option linter.unusedVariables false
section
set_option linter.unusedSimpArgs false
open Go.RowKit
attribute [local irreducible] wpStill wpOne wpPh
def wayTo (t : List It) (s : Int) : Int := match t.find? (fun x => decide (x.1 = s)) with | some x => x.2 | none => -1
theorem wayTo_yes : ∀ {t : List It} {s : Int} {i : Nat} {x : It}, t[i]? = some x → x.1 = s → (∀ (j : Nat) y, j < i → t[j]? = some y → y.1 ≠ s) → wayTo t s = x.2
 | [], _, _, _, h, _, _ => by simp at h
 | y :: r, s, 0, x, h, hx, _ => by
  simp at h
  subst h
  unfold wayTo
  rw [List.find?_cons_of_pos (by simpa using hx)]
 | y :: r, s, i + 1, x, h, hx, hno => by
  have h1 := hno 0 y (by omega) rfl
  have := wayTo_yes (t := r) (s := s) (i := i) (x := x) (by simpa using h) hx (fun j z hj hz => hno (j + 1) z (by omega) (by simpa using hz))
  unfold wayTo at this ⊢
  rw [List.find?_cons_of_neg (by simpa using h1)]
  exact this
theorem wayTo_no {t : List It} {s : Int} (h : ∀ (j : Nat) y, t[j]? = some y → y.1 ≠ s) : wayTo t s = -1 := by
 unfold wayTo
 rw [List.find?_eq_none.2]
 intro x hx
 obtain ⟨j, hj, e⟩ := List.getElem_of_mem hx
 have := h j x (by rw [List.getElem?_eq_getElem hj, e])
 simpa using this
def gotoD (D : List (List It × List It)) (i s : Int) : Int := if i < 0 ∨ (D.length : Int) ≤ i then -1 else match D[i.toNat]? with | some d => wayTo d.2 s | none => -1
theorem gotoD_out {D : List (List It × List It)} {i s : Int} (h : i < 0 ∨ (D.length : Int) ≤ i) : gotoD D i s = -1 := if_pos h
theorem gotoD_in {D : List (List It × List It)} {i : Nat} {s : Int} {d : List It × List It} (h : D[i]? = some d) : gotoD D i s = wayTo d.2 s := by
 have := (List.getElem?_eq_some_iff.1 h).1
 unfold gotoD
 rw [if_neg (by omega), Int.toNat_natCast, h]
def walkF (D : List (List It × List It)) : Int → List Int → Int
 | i, [] => i
 | i, s :: r => if gotoD D i s < 0 ∨ (D.length : Int) ≤ gotoD D i s then -1 else walkF D (gotoD D i s) r
def walkD (D : List (List It × List It)) (i : Int) (way : List Int) : Int := if i < 0 ∨ (D.length : Int) ≤ i then -1 else walkF D i way
theorem walkF_next {D : List (List It × List It)} {i : Int} {way : List Int} {k : Nat} {s : Int} (h : way[k]? = some s) : walkF D i (way.drop k) = if gotoD D i s < 0 ∨ (D.length : Int) ≤ gotoD D i s then -1 else walkF D (gotoD D i s) (way.drop (k + 1)) := by
 obtain ⟨hk, e⟩ := List.getElem?_eq_some_iff.1 h
 rw [List.drop_eq_getElem_cons hk, e]
 rfl
theorem rdst_shape {w : World} {F : Nat → Prop} {v : Value} {D : List (List It × List It)} (h : RdSt w F v D) : ∃ A n c, v = .slice A n c := by
 obtain ⟨Z, ⟨A, n, c, h, -⟩, -⟩ := h
 exact ⟨A, n, c, h⟩
set_option maxRecDepth 100000 in
set_option maxHeartbeats 2000000 in
theorem ref13_Goto {w : World} {F : Nat → Prop} {v : Value} {D : List (List It × List It)} (h : RdSt w F v D) (i s : Int) :
  Calls Tryz.prog 82 #[v, .int .i64 i, .int .i64 s] w fun e w' => e = .returned (.int .i64 (gotoD D i s)) ∧ w = w' := by
 obtain ⟨A, n, c, rfl⟩ := rdst_shape h
 obtain ⟨hn, hnc, hcm, hcell⟩ := h.at_
 unfold maxLen at hcm
 obtain ⟨r, hr⟩ : ∃ r, r = gotoD D i s := ⟨_, rfl⟩
 rw [← hr]
 by_cases h0 : i < 0
 ·have hv : r = -1 := hr.trans (gotoD_out (.inl h0))
  clear hr
  have Xh := hide h
  have Xhn := hide hn
  have Xhcell := hide hcell
  have Xhv := hide hv
  clear h hn hcell hv
  go_enter Tryz.func82, Tryz.ntmps82
  go_wp2_with fail
  go_ret
  exact ⟨ret_int Xhv.out.symm, rfl⟩
 ·by_cases h1 : (n : Int) ≤ i
  ·have hv : r = -1 := hr.trans (gotoD_out (.inr (by rw [← hn]; exact h1)))
   clear hr
   have Xh := hide h
   have Xhn := hide hn
   have Xhcell := hide hcell
   have Xhv := hide hv
   clear h hn hcell hv
   go_enter Tryz.func82, Tryz.ntmps82
   go_wp2_with fail
   go_ret
   exact ⟨ret_int Xhv.out.symm, rfl⟩
  ·obtain ⟨k, rfl⟩ := Int.eq_ofNat_of_zero_le (by omega : 0 ≤ i)
   have hk : k < n := by omega
   have hk' : (k : Int) < (n : Int) := by omega
   obtain ⟨b, off, rfl, hb, hcc⟩ := hcell (by omega)
   obtain ⟨d, hd⟩ : ∃ x, D[k]? = some x := ⟨_, List.getElem?_eq_getElem (by rw [← hn]; exact hk)⟩
   obtain ⟨z1, z2, e1, e2, r1, r2⟩ := hcc k d hd
   obtain ⟨A2, n2, c2, rfl, -⟩ := id r2
   obtain ⟨hn2, hnc2, hcm2, hcell2⟩ := RdIt.at_ r2
   unfold maxLen at hcm2
   rw [gotoD_in hd] at hr
   have hyes : ∀ (i : Nat) x, d.2[i]? = some x → x.1 = s → (∀ (j : Nat) y, j < i → d.2[j]? = some y → y.1 ≠ s) → r = x.2 := fun i x a b c => hr.trans (wayTo_yes a b c)
   have hno : (∀ (j : Nat) y, d.2[j]? = some y → y.1 ≠ s) → r = -1 := fun a => hr.trans (wayTo_no a)
   clear hr hcc e1 r1 r2 hcell h
   have Xhn := hide hn
   have Xhd := hide hd
   have Xhn2 := hide hn2
   have Xhyes := hide hyes
   have Xhno := hide hno
   have Xhcell2 := hide hcell2
   have Xhb := hide hb
   clear hn hd hn2 hyes hno hcell2 hb
   go_enter Tryz.func82, Tryz.ntmps82
   go_wp2_with fail
   go_loop [7] (fun i => ∃ j : Nat, j ≤ n2 ∧ i = .int .i64 j ∧ ∀ (q : Nat) y, q < j → d.2[q]? = some y → y.1 ≠ s) (fun i => n2 - (intOf i).toNat)
   case atStart => exact ⟨0, Nat.zero_le _, rfl, fun q y hq => absurd hq (by omega)⟩
   case round =>
    obtain ⟨j, hj, rfl, hq⟩ := hrel
    by_cases hlt : j < n2
    ·have hlt' : (j : Int) < (n2 : Int) := by omega
     obtain ⟨b3, o3, rfl, -, hcc3⟩ := Xhcell2.out (by omega)
     obtain ⟨⟨x0, x1⟩, hx⟩ : ∃ x, d.2[j]? = some x := ⟨_, List.getElem?_eq_getElem (by rw [← Xhn2.out]; exact hlt)⟩
     obtain ⟨p0, p1⟩ := hcc3 j _ hx
     simp only at p0 p1
     by_cases he : x0 = s
     ·subst he
      have hv := Xhyes.out j _ hx rfl hq
      simp only at hv
      clear hcc3
      have Xhx := hide hx
      have Xhq := hide hq
      have Xhv := hide hv
      clear hx hq hv
      go_wp2_with fail
      go_ret
      exact ⟨ret_int Xhv.out.symm, rfl⟩
     ·have he' : (x0 == s) = false := by simpa using he
      have hq2 : ∀ (q : Nat) y, q < j + 1 → d.2[q]? = some y → y.1 ≠ s := fun q y h1 h2 => by
       by_cases e : q = j
       ·subst e; rw [hx] at h2; injection h2 with h2; subst h2; exact he
       ·exact hq q y (by omega) h2
      clear hcc3
      have Xhx := hide hx
      have Xhq := hide hq
      have Xhq2 := hide hq2
      have Xhe := hide he
      clear hx hq hq2 he
      go_wp2_with fail
      go_round
      case rel => exact ⟨j + 1, by omega, by go_num, Xhq2.out⟩
      case measure => simp [intOf]; omega
    ·have hlt' : ¬ (j : Int) < (n2 : Int) := by omega
     have hv := Xhno.out (fun q y h2 => hq q y (by have := (List.getElem?_eq_some_iff.1 h2).1; have := Xhn2.out; omega) h2)
     have Xhq := hide hq
     have Xhv := hide hv
     clear hq hv
     go_wp2_with fail
     go_ret
     exact ⟨ret_int Xhv.out.symm, rfl⟩
end
section
set_option linter.unusedSimpArgs false
open Go.RowKit
attribute [local irreducible] wpStill wpOne wpPh
set_option maxRecDepth 100000 in
set_option maxHeartbeats 2000000 in
theorem ref13_Walk {w : World} {F G : Nat → Prop} {v u : Value} {D : List (List It × List It)} {way : List Int} (h : RdSt w F v D) (hF : ∀ b, F b → b < w.heap.size) (g : RdI w G u way) (hG : ∀ b, G b → b < w.heap.size) (i : Int) :
  Calls Tryz.prog 36 #[v, .int .i64 i, u] w (Quiet w (.int .i64 (walkD D i way))) := by
 obtain ⟨A, n, c, rfl⟩ := rdst_shape h
 obtain ⟨hn, hnc, hcm, -⟩ := h.at_
 unfold maxLen at hcm
 obtain ⟨Ay, ny, cy, rfl, -⟩ := id g
 obtain ⟨hny, hnyc, hcym, -⟩ := RdI.at_ g
 unfold maxLen at hcym
 obtain ⟨r, hr⟩ : ∃ r, r = walkD D i way := ⟨_, rfl⟩
 rw [← hr]
 by_cases h0 : i < 0 ∨ (n : Int) ≤ i
 ·have hv : r = -1 := hr.trans (if_pos (by rw [← hn]; exact h0))
  clear hr
  rcases h0 with h0 | h0
  ·have Xh := hide h
   have Xg := hide g
   have Xhn := hide hn
   have Xhny := hide hny
   have Xhv := hide hv
   have XhF := hide hF
   have XhG := hide hG
   clear h g hn hny hv hF hG
   go_enter Tryz.func36, Tryz.ntmps36
   go_wp2_with fail
   go_ret
   exact ⟨ret_int Xhv.out.symm, Below.refl _ _⟩
  ·by_cases h00 : i < 0
   ·have Xh := hide h
    have Xg := hide g
    have Xhn := hide hn
    have Xhny := hide hny
    have Xhv := hide hv
    have XhF := hide hF
    have XhG := hide hG
    clear h g hn hny hv hF hG
    go_enter Tryz.func36, Tryz.ntmps36
    go_wp2_with fail
    go_ret
    exact ⟨ret_int Xhv.out.symm, Below.refl _ _⟩
   ·have Xh := hide h
    have Xg := hide g
    have Xhn := hide hn
    have Xhny := hide hny
    have Xhv := hide hv
    have XhF := hide hF
    have XhG := hide hG
    clear h g hn hny hv hF hG
    go_enter Tryz.func36, Tryz.ntmps36
    go_wp2_with fail
    go_ret
    exact ⟨ret_int Xhv.out.symm, Below.refl _ _⟩
 ·have hr0 : r = walkF D i (way.drop 0) := hr.trans (if_neg (by rw [← hn]; exact h0))
  have h01 : ¬ i < 0 := fun e => h0 (.inl e)
  have h02 : ¬ (n : Int) ≤ i := fun e => h0 (.inr e)
  clear hr h0
  have Xh := hide h
  have Xg := hide g
  have Xhn := hide hn
  have Xhny := hide hny
  have Xhr0 := hide hr0
  have XhF := hide hF
  have XhG := hide hG
  clear h g hn hny hr0 hF hG
  go_enter Tryz.func36, Tryz.ntmps36
  go_wp2_with fail
  go_loopw [1, 7] (fun iv k wr => ∃ (i' : Int) (k' : Nat), k' ≤ ny ∧ iv = .int .i64 i' ∧ k = .int .i64 k' ∧ ¬ i' < 0 ∧ ¬ (n : Int) ≤ i' ∧ r = walkF D i' (way.drop k') ∧ Below w.heap.size w wr) (fun _ k _ => ny - (intOf k).toNat)
  case atStart => exact ⟨i, 0, Nat.zero_le _, rfl, rfl, by omega, by omega, Xhr0.out, Below.refl _ _⟩
  case round =>
   clear Xhr0 h01 h02
   obtain ⟨i', k, hk, rfl, rfl, h01, h02, hr, le⟩ := hrel
   by_cases hlt : k < ny
   ·have hlt' : (k : Int) < (ny : Int) := by omega
    obtain ⟨-, -, -, hcell2⟩ := RdI.at_ (Xg.out.below le XhG.out)
    obtain ⟨b3, o3, rfl, -, hcc3⟩ := hcell2 (by omega)
    obtain ⟨s, hs⟩ : ∃ x, way[k]? = some x := ⟨_, List.getElem?_eq_getElem (by rw [← Xhny.out]; exact hlt)⟩
    have p0 := hcc3 k _ hs
    rw [walkF_next hs] at hr
    have cg := ref13_Goto (Xh.out.below le XhF.out) i' s
    obtain ⟨j, hj⟩ : ∃ q, q = gotoD D i' s := ⟨_, rfl⟩
    rw [← hj] at cg hr
    clear hcc3 hcell2
    have Xhs := hide hs
    have Xhr := hide hr
    have Xle := hide le
    have Xcg := hide cg
    have Xhj := hide hj
    clear hs hr le cg hj
    go_wp2_with fail
    refine Xcg.out.mono ?_
    rintro e w2 ⟨rfl, rfl⟩; have le2 := Xle.out
    have hr := Xhr.out
    clear p0 Xcg Xhr Xle
    by_cases h1 : j < 0
    ·have hv : r = -1 := by rw [hr, if_pos (.inl h1)]
     clear hr
     have Xhv := hide hv
     have Xle2 := hide le2
     clear hv le2
     go_wp2_with fail
     go_ret
     exact ⟨ret_int Xhv.out.symm, Xle2.out⟩
    ·by_cases h2 : (n : Int) ≤ j
     ·have hv : r = -1 := by rw [hr, if_pos (.inr (by rw [← Xhn.out]; exact h2))]
      clear hr
      have Xhv := hide hv
      have Xle2 := hide le2
      clear hv le2
      go_wp2_with fail
      go_ret
      exact ⟨ret_int Xhv.out.symm, Xle2.out⟩
     ·have hv : r = walkF D j (way.drop (k + 1)) := by rw [hr, if_neg (by rw [← Xhn.out]; exact fun e => e.elim h1 h2)]
      clear hr
      have Xhv := hide hv
      have Xle2 := hide le2
      clear hv le2
      go_wp2_with fail
      go_roundw
      case rel => exact ⟨j, k + 1, by omega, rfl, by go_num, by omega, by omega, Xhv.out, Xle2.out⟩
      case measure => simp [intOf]; omega
   ·have hlt' : ¬ (k : Int) < (ny : Int) := by omega
    have hv : r = i' := by rw [hr, List.drop_eq_nil_of_le (by have := Xhny.out; omega)]; rfl
    have Xhv := hide hv
    have Xle := hide le
    have Xhr := hide hr
    clear hv le hr
    go_wp2_with fail
    go_ret
    exact ⟨ret_int Xhv.out.symm, Xle.out⟩
end
section
set_option linter.unusedSimpArgs false
open Go.RowKit
attribute [local irreducible] wpStill wpOne wpPh
end
end Go.Proofs.YtlpokomfljmogaaGreat

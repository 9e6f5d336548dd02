/- The automaton: the reference's Same; Goto and Walk, of both. -/
import Derived.Test.YtlpokomfljmogaaAuto16
import Derived.Test.YtlpokomfljmogaaAutoPlain
namespace Go.Proofs.Ytlpokomfljmogaa
set_option linter.unusedVariables false

section
set_option linter.unusedSimpArgs false
open Go.RowKit
attribute [local irreducible] wpStill wpOne wpPh

/-- where a symbol leads -/
def wayTo (t : List It) (s : Int) : Int := match t.find? (fun x => decide (x.1 = s)) with | some x => x.2 | none => -1
theorem wayTo_yes : ∀ {t : List It} {s : Int} {i : Nat} {x : It}, t[i]? = some x → x.1 = s → (∀ (j : Nat) y, j < i → t[j]? = some y → y.1 ≠ s) → wayTo t s = x.2
  | [], _, _, _, h, _, _ => by simp at h
  | y :: r, s, 0, x, h, hx, _ => by
    simp at h
    subst h
    unfold wayTo
    rw [List.find?_cons_of_pos (by simpa using hx)]
  | y :: r, s, i + 1, x, h, hx, hno => by
    have h1 := hno 0 y (by omega) rfl
    have := wayTo_yes (t := r) (s := s) (i := i) (x := x) (by simpa using h) hx (fun j z hj hz => hno (j + 1) z (by omega) (by simpa using hz))
    unfold wayTo at this ⊢
    rw [List.find?_cons_of_neg (by simpa using h1)]
    exact this
theorem wayTo_no {t : List It} {s : Int} (h : ∀ (j : Nat) y, t[j]? = some y → y.1 ≠ s) : wayTo t s = -1 := by
  unfold wayTo
  rw [List.find?_eq_none.2]
  intro x hx
  obtain ⟨j, hj, e⟩ := List.getElem_of_mem hx
  have := h j x (by rw [List.getElem?_eq_getElem hj, e])
  simpa using this
def gotoD (D : List (List It × List It)) (i s : Int) : Int := if i < 0 ∨ (D.length : Int) ≤ i then -1 else match D[i.toNat]? with | some d => wayTo d.2 s | none => -1
theorem gotoD_out {D : List (List It × List It)} {i s : Int} (h : i < 0 ∨ (D.length : Int) ≤ i) : gotoD D i s = -1 := if_pos h
theorem gotoD_in {D : List (List It × List It)} {i : Nat} {s : Int} {d : List It × List It} (h : D[i]? = some d) : gotoD D i s = wayTo d.2 s := by
  have := (List.getElem?_eq_some_iff.1 h).1
  unfold gotoD
  rw [if_neg (by omega), Int.toNat_natCast, h]
def walkF (D : List (List It × List It)) : Int → List Int → Int
  | i, [] => i
  | i, s :: r => if gotoD D i s < 0 ∨ (D.length : Int) ≤ gotoD D i s then -1 else walkF D (gotoD D i s) r
def walkD (D : List (List It × List It)) (i : Int) (way : List Int) : Int := if i < 0 ∨ (D.length : Int) ≤ i then -1 else walkF D i way
theorem walkF_next {D : List (List It × List It)} {i : Int} {way : List Int} {k : Nat} {s : Int} (h : way[k]? = some s) : walkF D i (way.drop k) = if gotoD D i s < 0 ∨ (D.length : Int) ≤ gotoD D i s then -1 else walkF D (gotoD D i s) (way.drop (k + 1)) := by
  obtain ⟨hk, e⟩ := List.getElem?_eq_some_iff.1 h
  rw [List.drop_eq_getElem_cons hk, e]
  rfl
theorem rdst_shape {w : World} {F : Nat → Prop} {v : Value} {D : List (List It × List It)} (h : RdSt w F v D) : ∃ A n c, v = .slice A n c := by
  obtain ⟨Z, ⟨A, n, c, h, -⟩, -⟩ := h
  exact ⟨A, n, c, h⟩
theorem geq_yes {a b : Int} (h : b ≤ a) : decide (a ≥ b) = true := decide_eq_true h
set_option maxRecDepth 100000 in
set_option maxHeartbeats 2000000 in
theorem ref13_Goto {w : World} {F : Nat → Prop} {v : Value} {D : List (List It × List It)} (h : RdSt w F v D) (i s : Int) :
    Calls Try.prog 10 #[v, .int .i64 i, .int .i64 s] w fun e w' => e = .returned (.int .i64 (gotoD D i s)) ∧ w = w' := by
  obtain ⟨A, n, c, rfl⟩ := rdst_shape h
  obtain ⟨hn, hnc, hcm, hcell⟩ := h.at_
  unfold maxLen at hcm
  obtain ⟨r, hr⟩ : ∃ r, r = gotoD D i s := ⟨_, rfl⟩
  rw [← hr]
  by_cases h0 : i < 0
  · have hv : r = -1 := hr.trans (gotoD_out (.inl h0))
    clear hr
    have Xh := hide h
    have Xhn := hide hn
    have Xhcell := hide hcell
    have Xhv := hide hv
    clear h hn hcell hv
    go_enter Try.func10, Try.ntmps10
    go_wp2_with fail
    go_ret
    exact ⟨ret_int Xhv.out.symm, rfl⟩
  · by_cases h1 : (n : Int) ≤ i
    · have hv : r = -1 := hr.trans (gotoD_out (.inr (by rw [← hn]; exact h1)))
      clear hr
      have Xh := hide h
      have Xhn := hide hn
      have Xhcell := hide hcell
      have Xhv := hide hv
      clear h hn hcell hv
      go_enter Try.func10, Try.ntmps10
      go_wp2_with fail
      go_ret
      exact ⟨ret_int Xhv.out.symm, rfl⟩
    · obtain ⟨k, rfl⟩ := Int.eq_ofNat_of_zero_le (by omega : 0 ≤ i)
      have hk : k < n := by omega
      have hk' : (k : Int) < (n : Int) := by omega
      obtain ⟨b, off, rfl, hb, hcc⟩ := hcell (by omega)
      obtain ⟨d, hd⟩ : ∃ x, D[k]? = some x := ⟨_, List.getElem?_eq_getElem (by rw [← hn]; exact hk)⟩
      obtain ⟨z1, z2, e1, e2, r1, r2⟩ := hcc k d hd
      obtain ⟨A2, n2, c2, rfl, -⟩ := id r2
      obtain ⟨hn2, hnc2, hcm2, hcell2⟩ := RdIt.at_ r2
      unfold maxLen at hcm2
      rw [gotoD_in hd] at hr
      have hyes : ∀ (i : Nat) x, d.2[i]? = some x → x.1 = s → (∀ (j : Nat) y, j < i → d.2[j]? = some y → y.1 ≠ s) → r = x.2 := fun i x a b c => hr.trans (wayTo_yes a b c)
      have hno : (∀ (j : Nat) y, d.2[j]? = some y → y.1 ≠ s) → r = -1 := fun a => hr.trans (wayTo_no a)
      clear hr hcc e1 r1 r2 hcell h
      have Xhn := hide hn
      have Xhd := hide hd
      have Xhn2 := hide hn2
      have Xhyes := hide hyes
      have Xhno := hide hno
      have Xhcell2 := hide hcell2
      have Xhb := hide hb
      clear hn hd hn2 hyes hno hcell2 hb
      go_enter Try.func10, Try.ntmps10
      go_wp2_with fail
      go_loop [7] (fun i => ∃ j : Nat, j ≤ n2 ∧ i = .int .i64 j ∧ ∀ (q : Nat) y, q < j → d.2[q]? = some y → y.1 ≠ s) (fun i => n2 - (intOf i).toNat)
      case atStart => exact ⟨0, Nat.zero_le _, rfl, fun q y hq => absurd hq (by omega)⟩
      case round =>
        obtain ⟨j, hj, rfl, hq⟩ := hrel
        by_cases hlt : j < n2
        · have hlt' : (j : Int) < (n2 : Int) := by omega
          obtain ⟨b3, o3, rfl, -, hcc3⟩ := Xhcell2.out (by omega)
          obtain ⟨⟨x0, x1⟩, hx⟩ : ∃ x, d.2[j]? = some x := ⟨_, List.getElem?_eq_getElem (by rw [← Xhn2.out]; exact hlt)⟩
          obtain ⟨p0, p1⟩ := hcc3 j _ hx
          simp only at p0 p1
          by_cases he : x0 = s
          · subst he
            have hv := Xhyes.out j _ hx rfl hq
            simp only at hv
            clear hcc3
            have Xhx := hide hx
            have Xhq := hide hq
            have Xhv := hide hv
            clear hx hq hv
            go_wp2_with fail
            go_ret
            exact ⟨ret_int Xhv.out.symm, rfl⟩
          · have he' : (x0 == s) = false := by simpa using he
            have hq2 : ∀ (q : Nat) y, q < j + 1 → d.2[q]? = some y → y.1 ≠ s := fun q y h1 h2 => by
              by_cases e : q = j
              · subst e; rw [hx] at h2; injection h2 with h2; subst h2; exact he
              · exact hq q y (by omega) h2
            clear hcc3
            have Xhx := hide hx
            have Xhq := hide hq
            have Xhq2 := hide hq2
            have Xhe := hide he
            clear hx hq hq2 he
            go_wp2_with fail
            go_round
            case rel => exact ⟨j + 1, by omega, by go_num, Xhq2.out⟩
            case measure => simp [intOf]; omega
        · have hlt' : ¬ (j : Int) < (n2 : Int) := by omega
          have hv := Xhno.out (fun q y h2 => hq q y (by have := (List.getElem?_eq_some_iff.1 h2).1; have := Xhn2.out; omega) h2)
          have Xhq := hide hq
          have Xhv := hide hv
          clear hq hv
          go_wp2_with fail
          go_ret
          exact ⟨ret_int Xhv.out.symm, rfl⟩
end

section
set_option linter.unusedSimpArgs false
open Go.RowKit
attribute [local irreducible] wpStill wpOne wpPh

set_option maxRecDepth 100000 in
set_option maxHeartbeats 2000000 in
theorem auto_Goto {w : World} {F : Nat → Prop} {v : Value} {D : List (List It × List It)} (h : RdSt w F v D) (hF : ∀ b, F b → b < w.heap.size) (i s : Int) :
    Calls Try.prog 9 #[v, .int .i64 i, .int .i64 s] w (Quiet w (.int .i64 (gotoD D i s))) := by
  obtain ⟨A, n, c, rfl⟩ := rdst_shape h
  obtain ⟨hn, hnc, hcm, hcell⟩ := h.at_
  unfold maxLen at hcm
  obtain ⟨r, hr⟩ : ∃ r, r = gotoD D i s := ⟨_, rfl⟩
  rw [← hr]
  by_cases h0 : i < 0
  · have hv : r = -1 := hr.trans (gotoD_out (.inl h0))
    clear hr
    have Xh := hide h
    have Xhn := hide hn
    have Xhcell := hide hcell
    have Xhv := hide hv
    have XhF := hide hF
    clear h hn hcell hv hF
    go_enter Try.func9, Try.ntmps9
    go_wp2_with fail
    go_ret
    exact ⟨ret_int Xhv.out.symm, Below.refl _ _⟩
  · by_cases h1 : (n : Int) ≤ i
    · have hv : r = -1 := hr.trans (gotoD_out (.inr (by rw [← hn]; exact h1)))
      clear hr
      have Xh := hide h
      have Xhn := hide hn
      have Xhcell := hide hcell
      have Xhv := hide hv
      have XhF := hide hF
      clear h hn hcell hv hF
      go_enter Try.func9, Try.ntmps9
      go_wp2_with fail
      go_ret
      exact ⟨ret_int Xhv.out.symm, Below.refl _ _⟩
    · obtain ⟨k, rfl⟩ := Int.eq_ofNat_of_zero_le (by omega : 0 ≤ i)
      have hk : k < n := by omega
      have hk' : (k : Int) < (n : Int) := by omega
      obtain ⟨b, off, rfl, hb, hcc⟩ := hcell (by omega)
      obtain ⟨d, hd⟩ : ∃ x, D[k]? = some x := ⟨_, List.getElem?_eq_getElem (by rw [← hn]; exact hk)⟩
      obtain ⟨z1, z2, e1, e2, r1, r2⟩ := hcc k d hd
      obtain ⟨A2, n2, c2, rfl, -⟩ := id r2
      obtain ⟨hn2, hnc2, hcm2, -⟩ := RdIt.at_ r2
      unfold maxLen at hcm2
      rw [gotoD_in hd] at hr
      have hyes : ∀ (i : Nat) x, d.2[i]? = some x → x.1 = s → (∀ (j : Nat) y, j < i → d.2[j]? = some y → y.1 ≠ s) → r = x.2 := fun i x a b c => hr.trans (wayTo_yes a b c)
      have hno : (∀ (j : Nat) y, d.2[j]? = some y → y.1 ≠ s) → r = -1 := fun a => hr.trans (wayTo_no a)
      clear hr hcc e1 r1 hcell h
      have Xhn := hide hn
      have Xhd := hide hd
      have Xhn2 := hide hn2
      have Xhyes := hide hyes
      have Xhno := hide hno
      have Xr2 := hide r2
      have Xhb := hide hb
      have XhF := hide hF
      clear hn hd hn2 hyes hno r2 hb hF
      go_enter Try.func9, Try.ntmps9
      go_wp2_with fail
      go_loopw [23] (fun i wr => ∃ j : Nat, j ≤ n2 ∧ i = .int .i64 j ∧ Below w.heap.size w wr ∧ ∀ (q : Nat) y, q < j → d.2[q]? = some y → y.1 ≠ s) (fun i _ => n2 - (intOf i).toNat)
      case atStart => exact ⟨0, Nat.zero_le _, rfl, Below.refl _ _, fun q y hq => absurd hq (by omega)⟩
      case round =>
        clear e2
        obtain ⟨j, hj, rfl, le, hq⟩ := hrel
        by_cases hlt : j < n2
        · have hlt' : (j : Int) < (n2 : Int) := by omega
          obtain ⟨-, -, -, hcell2⟩ := RdIt.at_ (Xr2.out.below le XhF.out)
          obtain ⟨b3, o3, rfl, -, hcc3⟩ := hcell2 (by omega)
          obtain ⟨⟨x0, x1⟩, hx⟩ : ∃ x, d.2[j]? = some x := ⟨_, List.getElem?_eq_getElem (by rw [← Xhn2.out]; exact hlt)⟩
          obtain ⟨p0, p1⟩ := hcc3 j _ hx
          simp only at p0 p1
          have le2 := le.alloc le.size (.cells #[.int .i64 x0, .int .i64 x1] 42)
          by_cases he : x0 = s
          · subst he
            have hv := Xhyes.out j _ hx rfl hq
            simp only at hv
            clear hcc3 hcell2
            have Xhx := hide hx
            have Xhq := hide hq
            have Xhv := hide hv
            have Xle := hide le
            have Xle2 := hide le2
            clear hx hq hv le le2
            go_wp2_with fail
            go_ret
            exact ⟨ret_int Xhv.out.symm, Xle2.out⟩
          · have he' : (x0 == s) = false := by simpa using he
            have hq2 : ∀ (q : Nat) y, q < j + 1 → d.2[q]? = some y → y.1 ≠ s := fun q y h1 h2 => by
              by_cases e : q = j
              · subst e; rw [hx] at h2; injection h2 with h2; subst h2; exact he
              · exact hq q y (by omega) h2
            clear hcc3 hcell2
            have Xhx := hide hx
            have Xhq := hide hq
            have Xhq2 := hide hq2
            have Xhe := hide he
            have Xle := hide le
            have Xle2 := hide le2
            clear hx hq hq2 he le le2
            go_wp2_with fail
            go_roundw
            case rel => exact ⟨j + 1, by omega, by go_num, Xle2.out, Xhq2.out⟩
            case measure => simp [intOf]; omega
        · have hlt' : ¬ (j : Int) < (n2 : Int) := by omega
          have hv := Xhno.out (fun q y h2 => hq q y (by have := (List.getElem?_eq_some_iff.1 h2).1; have := Xhn2.out; omega) h2)
          have Xhq := hide hq
          have Xhv := hide hv
          have Xle := hide le
          clear hq hv le
          go_wp2_with fail
          go_ret
          exact ⟨ret_int Xhv.out.symm, Xle.out⟩
set_option maxRecDepth 100000 in
set_option maxHeartbeats 2000000 in
theorem ref13_Walk {w : World} {F G : Nat → Prop} {v u : Value} {D : List (List It × List It)} {way : List Int} (h : RdSt w F v D) (hF : ∀ b, F b → b < w.heap.size) (g : RdI w G u way) (hG : ∀ b, G b → b < w.heap.size) (i : Int) :
    Calls Try.prog 12 #[v, .int .i64 i, u] w (Quiet w (.int .i64 (walkD D i way))) := by
  obtain ⟨A, n, c, rfl⟩ := rdst_shape h
  obtain ⟨hn, hnc, hcm, -⟩ := h.at_
  unfold maxLen at hcm
  obtain ⟨Ay, ny, cy, rfl, -⟩ := id g
  obtain ⟨hny, hnyc, hcym, -⟩ := RdI.at_ g
  unfold maxLen at hcym
  obtain ⟨r, hr⟩ : ∃ r, r = walkD D i way := ⟨_, rfl⟩
  rw [← hr]
  by_cases h0 : i < 0 ∨ (n : Int) ≤ i
  · have hv : r = -1 := hr.trans (if_pos (by rw [← hn]; exact h0))
    clear hr
    rcases h0 with h0 | h0
    · have Xh := hide h
      have Xg := hide g
      have Xhn := hide hn
      have Xhny := hide hny
      have Xhv := hide hv
      have XhF := hide hF
      have XhG := hide hG
      clear h g hn hny hv hF hG
      go_enter Try.func12, Try.ntmps12
      go_wp2_with fail
      go_ret
      exact ⟨ret_int Xhv.out.symm, Below.refl _ _⟩
    · by_cases h00 : i < 0
      · have Xh := hide h
        have Xg := hide g
        have Xhn := hide hn
        have Xhny := hide hny
        have Xhv := hide hv
        have XhF := hide hF
        have XhG := hide hG
        clear h g hn hny hv hF hG
        go_enter Try.func12, Try.ntmps12
        go_wp2_with fail
        go_ret
        exact ⟨ret_int Xhv.out.symm, Below.refl _ _⟩
      · have Xh := hide h
        have Xg := hide g
        have Xhn := hide hn
        have Xhny := hide hny
        have Xhv := hide hv
        have XhF := hide hF
        have XhG := hide hG
        clear h g hn hny hv hF hG
        go_enter Try.func12, Try.ntmps12
        go_wp2_with fail
        go_ret
        exact ⟨ret_int Xhv.out.symm, Below.refl _ _⟩
  · have hr0 : r = walkF D i (way.drop 0) := hr.trans (if_neg (by rw [← hn]; exact h0))
    have h01 : ¬ i < 0 := fun e => h0 (.inl e)
    have h02 : ¬ (n : Int) ≤ i := fun e => h0 (.inr e)
    clear hr h0
    have Xh := hide h
    have Xg := hide g
    have Xhn := hide hn
    have Xhny := hide hny
    have Xhr0 := hide hr0
    have XhF := hide hF
    have XhG := hide hG
    clear h g hn hny hr0 hF hG
    go_enter Try.func12, Try.ntmps12
    go_wp2_with fail
    go_loopw [1, 7] (fun iv k wr => ∃ (i' : Int) (k' : Nat), k' ≤ ny ∧ iv = .int .i64 i' ∧ k = .int .i64 k' ∧ ¬ i' < 0 ∧ ¬ (n : Int) ≤ i' ∧ r = walkF D i' (way.drop k') ∧ Below w.heap.size w wr) (fun _ k _ => ny - (intOf k).toNat)
    case atStart => exact ⟨i, 0, Nat.zero_le _, rfl, rfl, by omega, by omega, Xhr0.out, Below.refl _ _⟩
    case round =>
      clear Xhr0 h01 h02
      obtain ⟨i', k, hk, rfl, rfl, h01, h02, hr, le⟩ := hrel
      by_cases hlt : k < ny
      · have hlt' : (k : Int) < (ny : Int) := by omega
        obtain ⟨-, -, -, hcell2⟩ := RdI.at_ (Xg.out.below le XhG.out)
        obtain ⟨b3, o3, rfl, -, hcc3⟩ := hcell2 (by omega)
        obtain ⟨s, hs⟩ : ∃ x, way[k]? = some x := ⟨_, List.getElem?_eq_getElem (by rw [← Xhny.out]; exact hlt)⟩
        have p0 := hcc3 k _ hs
        rw [walkF_next hs] at hr
        have cg := ref13_Goto (Xh.out.below le XhF.out) i' s
        obtain ⟨j, hj⟩ : ∃ q, q = gotoD D i' s := ⟨_, rfl⟩
        rw [← hj] at cg hr
        clear hcc3 hcell2
        have Xhs := hide hs
        have Xhr := hide hr
        have Xle := hide le
        have Xcg := hide cg
        have Xhj := hide hj
        clear hs hr le cg hj
        go_wp2_with fail
        refine Xcg.out.mono ?_
        rintro e w2 ⟨rfl, rfl⟩; have le2 := Xle.out
        have hr := Xhr.out
        clear p0 Xcg Xhr Xle
        by_cases h1 : j < 0
        · have hv : r = -1 := by rw [hr, if_pos (.inl h1)]
          clear hr
          have Xhv := hide hv
          have Xle2 := hide le2
          clear hv le2
          go_wp2_with fail
          go_ret
          exact ⟨ret_int Xhv.out.symm, Xle2.out⟩
        · by_cases h2 : (n : Int) ≤ j
          · have hv : r = -1 := by rw [hr, if_pos (.inr (by rw [← Xhn.out]; exact h2))]
            clear hr
            have Xhv := hide hv
            have Xle2 := hide le2
            clear hv le2
            go_wp2_with fail
            go_ret
            exact ⟨ret_int Xhv.out.symm, Xle2.out⟩
          · have hv : r = walkF D j (way.drop (k + 1)) := by rw [hr, if_neg (by rw [← Xhn.out]; exact fun e => e.elim h1 h2)]
            clear hr
            have Xhv := hide hv
            have Xle2 := hide le2
            clear hv le2
            go_wp2_with fail
            go_roundw
            case rel => exact ⟨j, k + 1, by omega, rfl, by go_num, by omega, by omega, Xhv.out, Xle2.out⟩
            case measure => simp [intOf]; omega
      · have hlt' : ¬ (k : Int) < (ny : Int) := by omega
        have hv : r = i' := by rw [hr, List.drop_eq_nil_of_le (by have := Xhny.out; omega)]; rfl
        have Xhv := hide hv
        have Xle := hide le
        have Xhr := hide hr
        clear hv le hr
        go_wp2_with fail
        go_ret
        exact ⟨ret_int Xhv.out.symm, Xle.out⟩
set_option maxRecDepth 100000 in
set_option maxHeartbeats 2000000 in
theorem auto_Walk {w : World} {F G : Nat → Prop} {v u : Value} {D : List (List It × List It)} {way : List Int} (h : RdSt w F v D) (hF : ∀ b, F b → b < w.heap.size) (g : RdI w G u way) (hG : ∀ b, G b → b < w.heap.size) (i : Int) :
    Calls Try.prog 11 #[v, .int .i64 i, u] w (Quiet w (.int .i64 (walkD D i way))) := by
  obtain ⟨A, n, c, rfl⟩ := rdst_shape h
  obtain ⟨hn, hnc, hcm, -⟩ := h.at_
  unfold maxLen at hcm
  obtain ⟨Ay, ny, cy, rfl, -⟩ := id g
  obtain ⟨hny, hnyc, hcym, -⟩ := RdI.at_ g
  unfold maxLen at hcym
  obtain ⟨r, hr⟩ : ∃ r, r = walkD D i way := ⟨_, rfl⟩
  rw [← hr]
  by_cases h0 : i < 0 ∨ (n : Int) ≤ i
  · have hv : r = -1 := hr.trans (if_pos (by rw [← hn]; exact h0))
    clear hr
    rcases h0 with h0 | h0
    · have Xh := hide h
      have Xg := hide g
      have Xhn := hide hn
      have Xhny := hide hny
      have Xhv := hide hv
      have XhF := hide hF
      have XhG := hide hG
      clear h g hn hny hv hF hG
      go_enter Try.func11, Try.ntmps11
      go_wp2_with fail
      go_ret
      exact ⟨ret_int Xhv.out.symm, Below.refl _ _⟩
    · by_cases h00 : i < 0
      · have Xh := hide h
        have Xg := hide g
        have Xhn := hide hn
        have Xhny := hide hny
        have Xhv := hide hv
        have XhF := hide hF
        have XhG := hide hG
        clear h g hn hny hv hF hG
        go_enter Try.func11, Try.ntmps11
        go_wp2_with fail
        go_ret
        exact ⟨ret_int Xhv.out.symm, Below.refl _ _⟩
      · have Xh := hide h
        have Xg := hide g
        have Xhn := hide hn
        have Xhny := hide hny
        have Xhv := hide hv
        have XhF := hide hF
        have XhG := hide hG
        clear h g hn hny hv hF hG
        go_enter Try.func11, Try.ntmps11
        go_wp2_with fail
        go_ret
        exact ⟨ret_int Xhv.out.symm, Below.refl _ _⟩
  · have hr0 : r = walkF D i (way.drop 0) := hr.trans (if_neg (by rw [← hn]; exact h0))
    have h01 : ¬ i < 0 := fun e => h0 (.inl e)
    have h02 : ¬ (n : Int) ≤ i := fun e => h0 (.inr e)
    clear hr h0
    have Xh := hide h
    have Xg := hide g
    have Xhn := hide hn
    have Xhny := hide hny
    have Xhr0 := hide hr0
    have XhF := hide hF
    have XhG := hide hG
    clear h g hn hny hr0 hF hG
    go_enter Try.func11, Try.ntmps11
    go_wp2_with fail
    go_loopw [1, 19] (fun iv k wr => ∃ (i' : Int) (k' : Nat), k' ≤ ny ∧ iv = .int .i64 i' ∧ k = .int .i64 k' ∧ ¬ i' < 0 ∧ ¬ (n : Int) ≤ i' ∧ r = walkF D i' (way.drop k') ∧ Below w.heap.size w wr) (fun _ k _ => ny - (intOf k).toNat)
    case atStart => exact ⟨i, 0, Nat.zero_le _, rfl, rfl, by omega, by omega, Xhr0.out, Below.refl _ _⟩
    case round =>
      clear Xhr0 h01 h02
      obtain ⟨i', k, hk, rfl, rfl, h01, h02, hr, le⟩ := hrel
      by_cases hlt : k < ny
      · have hlt' : (k : Int) < (ny : Int) := by omega
        obtain ⟨-, -, -, hcell2⟩ := RdI.at_ (Xg.out.below le XhG.out)
        obtain ⟨b3, o3, rfl, -, hcc3⟩ := hcell2 (by omega)
        obtain ⟨s, hs⟩ : ∃ x, way[k]? = some x := ⟨_, List.getElem?_eq_getElem (by rw [← Xhny.out]; exact hlt)⟩
        have p0 := hcc3 k _ hs
        rw [walkF_next hs] at hr
        have cg := auto_Goto (Xh.out.below le XhF.out) (fun b hb => Nat.lt_of_lt_of_le (XhF.out b hb) le.size) i' s
        obtain ⟨j, hj⟩ : ∃ q, q = gotoD D i' s := ⟨_, rfl⟩
        rw [← hj] at cg hr
        clear hcc3 hcell2
        have Xhs := hide hs
        have Xhr := hide hr
        have Xle := hide le
        have Xcg := hide cg
        have Xhj := hide hj
        clear hs hr le cg hj
        go_wp2_with fail
        refine Xcg.out.mono ?_
        rintro e w2 ⟨rfl, b2⟩; have le2 := Xle.out.trans (b2.mono Xle.out.size)
        have hr := Xhr.out
        clear p0 Xcg Xhr Xle
        by_cases h1 : j < 0
        · have hv : r = -1 := by rw [hr, if_pos (.inl h1)]
          clear hr
          have Xhv := hide hv
          have Xle2 := hide le2
          clear hv le2
          go_wp2_with fail
          go_ret
          exact ⟨ret_int Xhv.out.symm, Xle2.out⟩
        · by_cases h2 : (n : Int) ≤ j
          · have hv : r = -1 := by rw [hr, if_pos (.inr (by rw [← Xhn.out]; exact h2))]
            clear hr
            have Xhv := hide hv
            have Xle2 := hide le2
            clear hv le2
            go_wp2_with fail
            go_ret
            exact ⟨ret_int Xhv.out.symm, Xle2.out⟩
          · have hv : r = walkF D j (way.drop (k + 1)) := by rw [hr, if_neg (by rw [← Xhn.out]; exact fun e => e.elim h1 h2)]
            clear hr
            have Xhv := hide hv
            have Xle2 := hide le2
            clear hv le2
            go_wp2_with fail
            go_roundw
            case rel => exact ⟨j, k + 1, by omega, rfl, by go_num, by omega, by omega, Xhv.out, Xle2.out⟩
            case measure => simp [intOf]; omega
      · have hlt' : ¬ (k : Int) < (ny : Int) := by omega
        have hv : r = i' := by rw [hr, List.drop_eq_nil_of_le (by have := Xhny.out; omega)]; rfl
        have Xhv := hide hv
        have Xle := hide le
        have Xhr := hide hr
        clear hv le hr
        go_wp2_with fail
        go_ret
        exact ⟨ret_int Xhv.out.symm, Xle.out⟩
set_option maxRecDepth 100000 in
set_option maxHeartbeats 2000000 in
theorem equal_items {w : World} {F G : Nat → Prop} {v u : Value} {xs ys : List It} (h : RdIt w F v xs) (g : RdIt w G u ys) :
    Calls Try.prog 21 #[v, u] w (Quiet w (.bool (decide (xs = ys)))) := by
  obtain ⟨A, n, c, rfl, -⟩ := id h
  obtain ⟨B, m, d, rfl, -⟩ := id g
  obtain ⟨hn, hnc, hcm, hcell⟩ := RdIt.at_ h
  obtain ⟨hm, hmd, hdm, hcell'⟩ := RdIt.at_ g
  unfold maxLen at hcm hdm
  clear h g
  by_cases hnm : n = m
  · subst hnm
    have hall : (∀ j : Nat, j < n → xs[j]? = ys[j]?) → xs = ys := fun hh => List.ext_getElem? fun j => by
      by_cases hj : j < n
      · exact hh j hj
      · rw [List.getElem?_eq_none (by omega), List.getElem?_eq_none (by omega)]
    have Xhn := hide hn
    have Xhm := hide hm
    have Xhall := hide hall
    clear hn hm hall
    go_enter Try.func21, Try.ntmps21
    go_wp2_with fail
    go_loopw [13] (fun i wr => ∃ k q : Nat, k ≤ n ∧ i = .int .i64 k ∧ wr = w.drewN q ∧ ∀ j : Nat, j < k → xs[j]? = ys[j]?) (fun i _ => n - (intOf i).toNat)
    case atStart => exact ⟨0, 0, Nat.zero_le _, rfl, rfl, fun j hj => absurd hj (by omega)⟩
    case round =>
      obtain ⟨k, q, hk, rfl, rfl, hb⟩ := hrel
      by_cases hlt : k < n
      · have hlt' : (k : Int) < (n : Int) := by omega
        obtain ⟨b, off, rfl, -, hc1⟩ := hcell (by omega)
        obtain ⟨b', off', rfl, -, hc2⟩ := hcell' (by omega)
        obtain ⟨⟨x0, x1⟩, hx⟩ : ∃ x, xs[k]? = some x := ⟨_, List.getElem?_eq_getElem (by rw [← Xhn.out]; exact hlt)⟩
        obtain ⟨⟨y0, y1⟩, hy⟩ : ∃ x, ys[k]? = some x := ⟨_, List.getElem?_eq_getElem (by rw [← Xhm.out]; exact hlt)⟩
        obtain ⟨p0, p1⟩ := hc1 k _ hx
        obtain ⟨r0, r1⟩ := hc2 k _ hy
        simp only at p0 p1 r0 r1
        have hne := neq_item x0 x1 y0 y1
        have hgd := fun op p q => guard_item op p q (x0, x1) (y0, y1)
        clear hcell hcell' hc1 hc2
        by_cases he : ((x0, x1) : It) = (y0, y1)
        · rw [decide_eq_true he] at hne
          have hb2 : ∀ j : Nat, j < k + 1 → xs[j]? = ys[j]? := fun j hj => by
            by_cases e : j = k
            · subst e; rw [hx, hy, he]
            · exact hb j (by omega)
          have Xhx := hide hx
          have Xhy := hide hy
          have Xhe := hide he
          have Xhb := hide hb
          have Xhb2 := hide hb2
          clear hx hy he hb hb2
          go_wp2_with fail
          refine region_reads (by kernel_rfl) (by kernel_rfl) ?_
          repeat still_step
          refine wpStill_nil ?_
          go_wp2_with fail
          go_roundw
          case rel => exact ⟨k + 1, q + 1, by omega, by go_num, rfl, Xhb2.out⟩
          case measure => simp [intOf]; omega
        · rw [decide_eq_false he] at hne
          have hfin : ¬ xs = ys := fun e => he (by rw [e, hy] at hx; injection hx with hx; exact hx.symm)
          have Xhx := hide hx
          have Xhy := hide hy
          have Xhe := hide he
          have Xhb := hide hb
          have Xhfin := hide hfin
          clear hx hy he hb hfin
          go_wp2_with fail
          refine region_reads (by kernel_rfl) (by kernel_rfl) ?_
          repeat still_step
          refine wpStill_nil ?_
          go_wp2_with fail
          go_ret
          exact ⟨ret_bool (decide_eq_false Xhfin.out).symm, below_drewN (Below.refl _ w) (q + 1)⟩
      · have hlt' : ¬ (k : Int) < (n : Int) := by omega
        have hfin := Xhall.out fun j hj => hb j (by omega)
        have Xhb := hide hb
        have Xhfin := hide hfin
        clear hb hfin
        clear hcell hcell'
        go_wp2_with fail
        go_ret
        exact ⟨ret_bool (decide_eq_true Xhfin.out).symm, below_drewN (Below.refl _ w) q⟩
  · have hnm' : ((n : Int) != (m : Int)) = true := by simp; omega
    have hfin : ¬ xs = ys := fun e => hnm (by rw [hn, hm, e])
    have Xhn := hide hn
    have Xhm := hide hm
    have Xhfin := hide hfin
    have Xhnm := hide hnm
    clear hn hm hfin hnm
    clear hcell hcell'
    go_enter Try.func21, Try.ntmps21
    go_wp2_with fail
    go_ret
    exact ⟨ret_bool (decide_eq_false Xhfin.out).symm, Below.refl _ w⟩
/-- the closure of Find: are a state's items those in the box B? -/
theorem find_clo {W : World} {F G : Nat → Prop} {B : Nat} {v z1 z2 : Value} {k : List It} {d1 : List It} (kb : Blk W B 23 #[v]) (g : RdIt W G v k) (hG : ∀ b, G b → b < W.heap.size) (r1 : RdIt W F z1 d1) (hF : ∀ b, F b → b < W.heap.size) :
    Calls Try.prog 20 #[.agg #[z1, z2], .pointer (some ⟨B, 0, none⟩)] W (Quiet W (.bool (decide (d1 = k)))) := by
  obtain ⟨w1, hw1⟩ : ∃ q, q = W.alloc (.cells #[z1, z2] 28) := ⟨_, rfl⟩
  have b1 : Below W.heap.size W w1 := by rw [hw1]; exact (Below.refl _ _).alloc (Nat.le_refl _) _
  have k1 : Blk w1 W.heap.size 28 #[z1, z2] := by rw [hw1]; exact Blk.new _ _ _
  have kb1 := kb.below b1 kb.lt
  have ce := equal_items (r1.below b1 hF) (g.below b1 hG)
  have d0 := (k1.cell 0).trans rfl
  have e0 := (kb1.cell 0).trans rfl
  obtain ⟨A1, n1, c1, rfl, -⟩ := id r1
  obtain ⟨A2, n2, c2, rfl, -⟩ := id g
  rw [hw1] at ce d0 e0
  generalize decide (d1 = k) = q at *
  have Xb1 := hide b1
  have Xk1 := hide k1
  have Xkb1 := hide kb1
  have Xce := hide ce
  have Xkb := hide kb
  have Xg := hide g
  have XhG := hide hG
  have Xr1 := hide r1
  have XhF := hide hF
  clear b1 k1 kb1 ce kb g hG r1 hF
  go_enter Try.func20, Try.ntmps20
  go_wp2_with fail
  refine Xce.out.mono ?_
  rintro e w2 ⟨rfl, b2⟩
  rw [← hw1] at b2
  have bb := Xb1.out.trans (b2.mono Xb1.out.size)
  clear b2 hw1 d0 e0 Xce
  have Xbb := hide bb
  clear bb
  go_wp2_with fail
  go_ret
  exact ⟨rfl, Xbb.out⟩
set_option maxRecDepth 100000 in
set_option maxHeartbeats 2000000 in
theorem index_states {w : World} {F G : Nat → Prop} {B : Nat} {v u : Value} {D : List (List It × List It)} {k : List It} (h : RdSt w F v D) (hF : ∀ b, F b → b < w.heap.size) (kb : Blk w B 23 #[u]) (g : RdIt w G u k) (hG : ∀ b, G b → b < w.heap.size) :
    Calls Try.prog 19 #[v, .func (.func 20) #[] #[.pointer (some ⟨B, 0, none⟩)]] w (Quiet w (.int .i64 (findD D k))) := by
  obtain ⟨A, n, c, rfl⟩ := rdst_shape h
  obtain ⟨hn, hnc, hcm, hcell⟩ := h.at_
  unfold maxLen at hcm
  obtain ⟨r, hr⟩ : ∃ r, r = findD D k := ⟨_, rfl⟩
  rw [← hr]
  have hno : (∀ (j : Nat) e, D[j]? = some e → e.1 ≠ k) → r = -1 := fun e => hr.trans (findD_no e)
  have hyes : ∀ (i : Nat) d, D[i]? = some d → d.1 = k → (∀ (j : Nat) e, j < i → D[j]? = some e → e.1 ≠ k) → r = i := fun i d h1 h2 h3 => hr.trans (findD_yes h1 h2 h3)
  clear hr
  have Xh := hide h
  have XhF := hide hF
  have Xkb := hide kb
  have Xg := hide g
  have XhG := hide hG
  have Xhn := hide hn
  have Xhno := hide hno
  have Xhyes := hide hyes
  have Xhcell := hide hcell
  clear h hF kb g hG hn hno hyes hcell
  go_enter Try.func19, Try.ntmps19
  go_wp2_with fail
  go_loopw [8] (fun i wr => ∃ k' : Nat, k' ≤ n ∧ i = .int .i64 k' ∧ Below w.heap.size w wr ∧ ∀ (j : Nat) e, j < k' → D[j]? = some e → e.1 ≠ k) (fun i _ => n - (intOf i).toNat)
  case atStart => exact ⟨0, Nat.zero_le _, rfl, Below.refl _ _, fun j e hj => absurd hj (by omega)⟩
  case round =>
    obtain ⟨i, hi, rfl, le, hb⟩ := hrel
    by_cases hlt : i < n
    · have hlt' : (i : Int) < (n : Int) := by omega
      obtain ⟨b, off, rfl, hbF, hcc⟩ := Xhcell.out (by omega)
      obtain ⟨d, hd⟩ : ∃ x, D[i]? = some x := ⟨_, List.getElem?_eq_getElem (by rw [← Xhn.out]; exact hlt)⟩
      obtain ⟨z1, z2, c1, c2, r1, r2⟩ := hcc i d hd
      have hbw := XhF.out b hbF
      have c1' := (le.cell (p := ⟨b, off + i * 2, none⟩) hbw).trans c1
      have c2' := (le.cell (p := ⟨b, off + i * 2 + 1, none⟩) hbw).trans c2
      have up : ∀ b, b < w.heap.size → b < wr.heap.size := fun b hb => Nat.lt_of_lt_of_le hb le.size
      have cs := find_clo (z2 := z2) (Xkb.out.below le Xkb.out.lt) (Xg.out.below le XhG.out) (fun b hb => up b (XhG.out b hb)) (r1.below le XhF.out) (fun b hb => up b (XhF.out b hb))
      obtain ⟨same, hsame⟩ : ∃ q, q = decide (d.1 = k) := ⟨_, rfl⟩
      rw [← hsame] at cs
      clear hcc c1 c2 r2 up
      have Xle := hide le
      have Xhb := hide hb
      have Xhd := hide hd
      have Xr1 := hide r1
      have XhbF := hide hbF
      have Xcs := hide cs
      clear le hb hd r1 hbF cs
      go_wp2_with fail
      refine Xcs.out.mono ?_
      rintro e w2 ⟨rfl, b2⟩
      have le2 := Xle.out.trans (b2.mono Xle.out.size)
      clear c1' c2' b2 Xcs
      cases same with
      | true =>
        have hv := Xhyes.out i d Xhd.out (of_decide_eq_true hsame.symm) Xhb.out
        have Xhv := hide hv
        have Xle2 := hide le2
        have Xhsame := hide hsame
        clear hv le2 hsame
        go_wp2_with fail
        go_ret
        exact ⟨ret_int Xhv.out.symm, Xle2.out⟩
      | false =>
        have hb2 : ∀ (j : Nat) e, j < i + 1 → D[j]? = some e → e.1 ≠ k := fun j e hj he => by
          by_cases e' : j = i
          · subst e'
            rw [Xhd.out] at he
            injection he with he
            subst he
            exact of_decide_eq_false hsame.symm
          · exact Xhb.out j e (by omega) he
        have Xhb2 := hide hb2
        have Xle2 := hide le2
        have Xhsame := hide hsame
        clear hb2 le2 hsame
        go_wp2_with fail
        go_roundw
        case rel => exact ⟨i + 1, by omega, by go_num, Xle2.out, Xhb2.out⟩
        case measure => simp [intOf]; omega
    · have hlt' : ¬ (i : Int) < (n : Int) := by omega
      have hv := Xhno.out (fun j e he => hb j e (by have := (List.getElem?_eq_some_iff.1 he).1; have := Xhn.out; omega) he)
      have Xhv := hide hv
      have Xle := hide le
      have Xhb := hide hb
      clear hv le hb
      go_wp2_with fail
      go_ret
      exact ⟨ret_int Xhv.out.symm, Xle.out⟩
set_option maxRecDepth 100000 in
set_option maxHeartbeats 2000000 in
theorem auto_Find {w : World} {F G : Nat → Prop} {v u : Value} {D : List (List It × List It)} {k : List It} (h : RdSt w F v D) (hF : ∀ b, F b → b < w.heap.size) (g : RdIt w G u k) (hG : ∀ b, G b → b < w.heap.size) :
    Calls Try.prog 7 #[v, u] w (Quiet w (.int .i64 (findD D k))) := by
  obtain ⟨w1, hw1⟩ : ∃ q, q = w.alloc (.cells #[u] 23) := ⟨_, rfl⟩
  have b1 : Below w.heap.size w w1 := by rw [hw1]; exact (Below.refl _ _).alloc (Nat.le_refl _) _
  have k1 : Blk w1 w.heap.size 23 #[u] := by rw [hw1]; exact Blk.new _ _ _
  have ci := index_states (h.below b1 hF) (fun b hb => Nat.lt_of_lt_of_le (hF b hb) b1.size) k1 (g.below b1 hG) (fun b hb => Nat.lt_of_lt_of_le (hG b hb) b1.size)
  obtain ⟨A, n, c, rfl⟩ := rdst_shape h
  obtain ⟨A2, n2, c2, rfl, -⟩ := id g
  rw [hw1] at ci
  generalize findD D k = r at *
  have Xb1 := hide b1
  have Xk1 := hide k1
  have Xci := hide ci
  have Xh := hide h
  have XhF := hide hF
  have Xg := hide g
  have XhG := hide hG
  clear b1 k1 ci h hF g hG
  go_enter Try.func7, Try.ntmps7
  go_wp2_with fail
  refine Xci.out.mono ?_
  rintro e w2 ⟨rfl, b2⟩
  rw [← hw1] at b2
  have bb := Xb1.out.trans (b2.mono Xb1.out.size)
  clear b2 hw1 Xci
  have Xbb := hide bb
  clear bb
  go_wp2_with fail
  go_ret
  exact ⟨rfl, Xbb.out⟩
end

section
set_option linter.unusedSimpArgs false
open Go.RowKit
attribute [local irreducible] wpStill wpOne wpPh

end
end Go.Proofs.Ytlpokomfljmogaa

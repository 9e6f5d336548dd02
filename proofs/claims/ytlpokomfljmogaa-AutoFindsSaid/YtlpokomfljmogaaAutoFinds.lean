/- The statement AutoFinds: the walk. -/
import Derived.Test.YtlpokomfljmogaaAuto21
import Derived.Test.YtlpokomfljmogaaAuto18
import Derived.Test.YtlpokomfljmogaaStOpen
import Derived.Test.YtlpokomfljmogaaOpenZ
namespace Go.Proofs.Ytlpokomfljmogaa
set_option linter.unusedVariables false
set_option linter.unusedSimpArgs false
open Go.RowKit
attribute [local irreducible] wpStill wpOne wpPh

/-- both sides' answers, in each later world -/
structure Fnd (w : World) (v u y : Value) (i s : Int) (D : List (List It × List It)) (its : List It) (way : List Int) (wr : World) : Prop where
  le : Below w.heap.size w wr
  rd : RdSt wr (fun b => b < w.heap.size) v D
  ri : RdIt wr (fun b => b < w.heap.size) u its
  rw : RdI wr (fun b => b < w.heap.size) y way
theorem Fnd.next {w : World} {v u y : Value} {i s : Int} {D : List (List It × List It)} {its : List It} {way : List Int} {wr wq : World} (h : Fnd w v u y i s D its way wr) (b : Below wr.heap.size wr wq) : Fnd w v u y i s D its way wq :=
  have hl : ∀ z, z < w.heap.size → z < wr.heap.size := fun z hz => Nat.lt_of_lt_of_le hz h.le.size
  ⟨h.le.trans (b.mono h.le.size), h.rd.below b hl, h.ri.below b hl, h.rw.below b hl⟩
theorem Fnd.find {w : World} {v u y : Value} {i s : Int} {D : List (List It × List It)} {its : List It} {way : List Int} {wr : World} (h : Fnd w v u y i s D its way wr) : Calls Try.prog 7 #[v, u] wr (Quiet wr (.int .i64 (findD D its))) :=
  auto_Find h.rd (fun z hz => Nat.lt_of_lt_of_le hz h.le.size) h.ri (fun z hz => Nat.lt_of_lt_of_le hz h.le.size)
theorem Fnd.find' {w : World} {v u y : Value} {i s : Int} {D : List (List It × List It)} {its : List It} {way : List Int} {wr : World} (h : Fnd w v u y i s D its way wr) : Calls Try.prog 8 #[v, u] wr (Quiet wr (.int .i64 (findD D its))) :=
  ref13_Find h.rd (fun z hz => Nat.lt_of_lt_of_le hz h.le.size) h.ri (fun z hz => Nat.lt_of_lt_of_le hz h.le.size)
theorem Fnd.goto {w : World} {v u y : Value} {i s : Int} {D : List (List It × List It)} {its : List It} {way : List Int} {wr : World} (h : Fnd w v u y i s D its way wr) : Calls Try.prog 9 #[v, .int .i64 i, .int .i64 s] wr (Quiet wr (.int .i64 (gotoD D i s))) :=
  auto_Goto h.rd (fun z hz => Nat.lt_of_lt_of_le hz h.le.size) i s
theorem Fnd.goto' {w : World} {v u y : Value} {i s : Int} {D : List (List It × List It)} {its : List It} {way : List Int} {wr : World} (h : Fnd w v u y i s D its way wr) : Calls Try.prog 10 #[v, .int .i64 i, .int .i64 s] wr (fun e w' => e = .returned (.int .i64 (gotoD D i s)) ∧ wr = w') :=
  ref13_Goto h.rd i s
theorem Fnd.walk {w : World} {v u y : Value} {i s : Int} {D : List (List It × List It)} {its : List It} {way : List Int} {wr : World} (h : Fnd w v u y i s D its way wr) : Calls Try.prog 11 #[v, .int .i64 i, y] wr (Quiet wr (.int .i64 (walkD D i way))) :=
  auto_Walk h.rd (fun z hz => Nat.lt_of_lt_of_le hz h.le.size) h.rw (fun z hz => Nat.lt_of_lt_of_le hz h.le.size) i
theorem Fnd.walk' {w : World} {v u y : Value} {i s : Int} {D : List (List It × List It)} {its : List It} {way : List Int} {wr : World} (h : Fnd w v u y i s D its way wr) : Calls Try.prog 12 #[v, .int .i64 i, y] wr (Quiet wr (.int .i64 (walkD D i way))) :=
  ref13_Walk h.rd (fun z hz => Nat.lt_of_lt_of_le hz h.le.size) h.rw (fun z hz => Nat.lt_of_lt_of_le hz h.le.size) i
set_option maxRecDepth 100000 in
set_option maxHeartbeats 4000000 in
theorem walk_AutoFinds (v : Value) (D : List (List It × List It)) (u : Value) (its : List It) (i s : Int) (y : Value) (way : List Int) (w : World) (hD : RdL w (· < w.heap.size) 2 (fun cs d => StWf w cs d) v D ∧ D.length * 48 ≤ 140737488351232) (hI : RdL w (· < w.heap.size) 2 (fun cs x => ItemWf cs x) u its ∧ its.length * 16 ≤ 140737488351232) (h1 : (Lit.int .i64 i).wf = true) (h2 : (Lit.int .i64 s).wf = true) (hW : RdL w (· < w.heap.size) 1 (fun cs n => cs = [.int .i64 n] ∧ (Lit.int .i64 n).wf = true) y way ∧ way.length * 8 ≤ 140737488351232) :
    Calls Try.prog 3 #[v, u, .int .i64 i, .int .i64 s, y] w (Quiet w (.bool true)) := by
  have rd := rdl_states hD.1
  have ri := (rdl_items hI.1).1
  have ry := (rdl_ints hW.1).1
  have t : Fnd w v u y i s D its way w := ⟨Below.refl _ _, rd, ri, ry⟩
  clear h1 h2 hD hI hW
  obtain ⟨A, n, c, rfl⟩ := rdst_shape rd
  obtain ⟨A2, n2, c2, rfl, -⟩ := id ri
  obtain ⟨A3, n3, c3, rfl, -⟩ := id ry
  obtain ⟨hn, hnc, hcm, hcell⟩ := rd.at_
  obtain ⟨-, -, hcm2, -⟩ := RdIt.at_ ri
  obtain ⟨-, -, hcm3, -⟩ := RdI.at_ ry
  obtain ⟨-, hnc2, -, -⟩ := RdIt.at_ ri
  obtain ⟨-, hnc3, -, -⟩ := RdI.at_ ry
  unfold maxLen at hcm hcm2 hcm3
  clear rd ri ry
  have b0 := Below.refl w.heap.size w
  by_cases g1 : (n : Int) > 50
  · clear hcell
    have Xt := hide t
    have Xhn := hide hn
    have Xb0 := hide b0
    clear t hn b0
    go_enter Try.func3, Try.ntmps3
    go_wp2_with fail
    refine (law13_awake _).mono ?_
    rintro e w3 ⟨rfl, b3⟩
    have Xb3 := hide b3
    clear b3
    go_wp2_with fail
    go_ret
    exact ⟨rfl, Xb0.out.trans (Xb3.out.mono Xb0.out.size)⟩
  by_cases g2 : (n2 : Int) > 50
  · clear hcell
    have Xt := hide t
    have Xhn := hide hn
    have Xb0 := hide b0
    clear t hn b0
    go_enter Try.func3, Try.ntmps3
    go_wp2_with fail
    refine (law13_awake _).mono ?_
    rintro e w3 ⟨rfl, b3⟩
    have Xb3 := hide b3
    clear b3
    go_wp2_with fail
    go_ret
    exact ⟨rfl, Xb0.out.trans (Xb3.out.mono Xb0.out.size)⟩
  by_cases g3 : (n3 : Int) > 50
  · clear hcell
    have Xt := hide t
    have Xhn := hide hn
    have Xb0 := hide b0
    clear t hn b0
    go_enter Try.func3, Try.ntmps3
    go_wp2_with fail
    refine (law13_awake _).mono ?_
    rintro e w3 ⟨rfl, b3⟩
    have Xb3 := hide b3
    clear b3
    go_wp2_with fail
    go_ret
    exact ⟨rfl, Xb0.out.trans (Xb3.out.mono Xb0.out.size)⟩
  have Xt := hide t
  have Xhn := hide hn
  have Xb0 := hide b0
  have Xhcell := hide hcell
  clear t hn b0 hcell
  go_enter Try.func3, Try.ntmps3
  go_wp2_with fail
  go_loop [11] (fun i => ∃ j : Nat, j ≤ n ∧ i = .int .i64 j) (fun i => n - (intOf i).toNat)
  case atStart => exact ⟨0, Nat.zero_le _, rfl⟩
  case round =>
    obtain ⟨j, hj, rfl⟩ := hrel
    by_cases hlt : j < n
    · have hlt' : (j : Int) < (n : Int) := by omega
      obtain ⟨b, off, rfl, hb, hcc⟩ := Xhcell.out (by omega)
      obtain ⟨d, hd⟩ : ∃ x, D[j]? = some x := ⟨_, List.getElem?_eq_getElem (by rw [← Xhn.out]; exact hlt)⟩
      obtain ⟨z1, z2, e1, e2, r1, r2⟩ := hcc j d hd
      obtain ⟨A4, n4, c4, rfl, -⟩ := id r1
      obtain ⟨A5, n5, c5, rfl, -⟩ := id r2
      obtain ⟨-, hnc4, hcm4, -⟩ := RdIt.at_ r1
      obtain ⟨-, hnc5, hcm5, -⟩ := RdIt.at_ r2
      unfold maxLen at hcm4 hcm5
      clear hcc r1 r2 Xhcell
      have Xhd := hide hd
      have Xhb := hide hb
      clear hd hb
      by_cases g4 : (n4 : Int) > 50
      · go_wp2_with fail
        refine (law13_awake _).mono ?_
        rintro e w3 ⟨rfl, b3⟩
        have Xb3 := hide b3
        clear b3
        go_wp2_with fail
        go_ret
        exact ⟨rfl, Xb0.out.trans (Xb3.out.mono Xb0.out.size)⟩
      by_cases g5 : (n5 : Int) > 50
      · go_wp2_with fail
        refine (law13_awake _).mono ?_
        rintro e w3 ⟨rfl, b3⟩
        have Xb3 := hide b3
        clear b3
        go_wp2_with fail
        go_ret
        exact ⟨rfl, Xb0.out.trans (Xb3.out.mono Xb0.out.size)⟩
      go_wp2_with fail
      go_round
      case rel => exact ⟨j + 1, by omega, by go_num⟩
      case measure => simp [intOf]; omega
    · have hlt' : ¬ (j : Int) < (n : Int) := by omega
      clear Xhcell
      obtain ⟨f1, hf1⟩ : ∃ q, q = findD D its := ⟨_, rfl⟩
      obtain ⟨f2, hf2⟩ : ∃ q, q = gotoD D i s := ⟨_, rfl⟩
      obtain ⟨f3, hf3⟩ : ∃ q, q = walkD D i way := ⟨_, rfl⟩
      have ef1 : (f1 == f1) = true := by simp
      have ef2 : (f2 == f2) = true := by simp
      have ef3 : (f3 == f3) = true := by simp
      have Xhf1 := hide hf1
      have Xhf2 := hide hf2
      have Xhf3 := hide hf3
      clear hf1 hf2 hf3
      go_wp2_with fail
      have c0 := Xt.out.find
      rw [← Xhf1.out] at c0
      have Xc0 := hide c0
      clear c0
      with_reducible refine Xc0.out.mono ?_
      rintro e w9 ⟨rfl, b9⟩
      have t := Xt.out.next b9
      clear b9 Xt Xc0
      have Xt := hide t
      clear t
      go_wp2_with fail
      have c0 := Xt.out.find'
      rw [← Xhf1.out] at c0
      have Xc0 := hide c0
      clear c0
      with_reducible refine Xc0.out.mono ?_
      rintro e w9 ⟨rfl, b9⟩
      have t := Xt.out.next b9
      clear b9 Xt Xc0
      have Xt := hide t
      clear t
      go_wp2_with fail
      have c0 := Xt.out.goto
      rw [← Xhf2.out] at c0
      have Xc0 := hide c0
      clear c0
      with_reducible refine Xc0.out.mono ?_
      rintro e w9 ⟨rfl, b9⟩
      have t := Xt.out.next b9
      clear b9 Xt Xc0
      have Xt := hide t
      clear t
      go_wp2_with fail
      have c0 := Xt.out.goto'
      rw [← Xhf2.out] at c0
      have Xc0 := hide c0
      clear c0
      with_reducible refine Xc0.out.mono ?_
      rintro e w9 ⟨rfl, rfl⟩
      clear Xc0
      go_wp2_with fail
      have c0 := Xt.out.walk
      rw [← Xhf3.out] at c0
      have Xc0 := hide c0
      clear c0
      with_reducible refine Xc0.out.mono ?_
      rintro e w9 ⟨rfl, b9⟩
      have t := Xt.out.next b9
      clear b9 Xt Xc0
      have Xt := hide t
      clear t
      go_wp2_with fail
      have c0 := Xt.out.walk'
      rw [← Xhf3.out] at c0
      have Xc0 := hide c0
      clear c0
      with_reducible refine Xc0.out.mono ?_
      rintro e w9 ⟨rfl, b9⟩
      have t := Xt.out.next b9
      clear b9 Xt Xc0
      have Xt := hide t
      clear t
      go_wp2_with fail
      have t := Xt.out
      refine (law13_awake _).mono ?_
      rintro e w3 ⟨rfl, b3⟩
      have Xb3 := hide b3
      clear b3
      go_wp2_with fail
      go_ret
      exact ⟨rfl, t.le.trans (Xb3.out.mono t.le.size)⟩
end Go.Proofs.Ytlpokomfljmogaa

/- The automaton, the reference's: Find, Same. -/
import Derived.Test.YtlpokomfljmogaaAuto11
import Derived.Test.YtlpokomfljmogaaItem1
import Derived.Test.YtlpokomfljmogaaItem5
namespace Go.Proofs.Ytlpokomfljmogaa
set_option linter.unusedVariables false

section
set_option linter.unusedSimpArgs false
open Go.RowKit
attribute [local irreducible] wpStill wpOne wpPh

/-- the first state of these items -/
def findD (D : List (List It × List It)) (k : List It) : Int := findK (D.map Prod.fst) k
theorem findD_yes {D : List (List It × List It)} {k : List It} {i : Nat} {d : List It × List It} (hd : D[i]? = some d) (hk : d.1 = k) (hno : ∀ (j : Nat) e, j < i → D[j]? = some e → e.1 ≠ k) : findD D k = i := by
  have hm : (D.map Prod.fst)[i]? = some k := by rw [List.getElem?_map, hd]; exact congrArg some hk
  have hmem := List.mem_of_getElem? hm
  unfold findD findK
  rw [if_pos hmem]
  congr 1
  have h1 := idx_get hmem
  rcases Nat.lt_trichotomy ((D.map Prod.fst).idxOf k) i with e | e | e
  · exfalso
    rw [List.getElem?_map] at h1
    obtain ⟨q, h2, h3⟩ := Option.map_eq_some_iff.1 h1
    exact hno _ q e h2 h3
  · exact e
  · exfalso
    have hi := (List.getElem?_eq_some_iff.1 hm).1
    have hne := List.not_of_lt_findIdx (p := fun x => x == k) (xs := D.map Prod.fst) (i := i) e
    have : (D.map Prod.fst)[i] = k := by rw [List.getElem?_eq_getElem hi] at hm; exact Option.some.inj hm
    simp [this] at hne
theorem findD_no {D : List (List It × List It)} {k : List It} (hno : ∀ (j : Nat) e, D[j]? = some e → e.1 ≠ k) : findD D k = -1 := by
  unfold findD findK
  rw [if_neg]
  intro h
  obtain ⟨e, he, hk⟩ := List.mem_map.1 h
  obtain ⟨j, hj, h2⟩ := List.getElem_of_mem he
  exact hno j e (by rw [List.getElem?_eq_getElem hj, h2]) hk
set_option maxRecDepth 100000 in
set_option maxHeartbeats 2000000 in
theorem ref13_Find {w : World} {F F' : Nat → Prop} {v u : Value} {D : List (List It × List It)} {k : List It} (h : RdSt w F v D) (hF : ∀ b, F b → b < w.heap.size) (g : RdIt w F' u k) (hF' : ∀ b, F' b → b < w.heap.size) :
    Calls Try.prog 8 #[v, u] w (Quiet w (.int .i64 (findD D k))) := by
  obtain ⟨A, n, c, rfl⟩ : ∃ A n c, v = .slice A n c := by
    obtain ⟨Z, ⟨A, n, c, h, -⟩, -⟩ := h
    exact ⟨A, n, c, h⟩
  obtain ⟨hn, hnc, hcm, hcell⟩ := h.at_
  unfold maxLen at hcm
  obtain ⟨r, hr⟩ : ∃ r, r = findD D k := ⟨_, rfl⟩
  rw [← hr]
  have hno : (∀ (j : Nat) e, D[j]? = some e → e.1 ≠ k) → r = -1 := fun e => hr.trans (findD_no e)
  have hyes : ∀ (i : Nat) d, D[i]? = some d → d.1 = k → (∀ (j : Nat) e, j < i → D[j]? = some e → e.1 ≠ k) → r = i := fun i d h1 h2 h3 => hr.trans (findD_yes h1 h2 h3)
  clear hr
  have Xh := hide h
  have XhF := hide hF
  have Xg := hide g
  have XhF' := hide hF'
  have Xhn := hide hn
  have Xhno := hide hno
  have Xhyes := hide hyes
  have Xhcell := hide hcell
  clear h hF g hF' hn hno hyes hcell
  go_enter Try.func8, Try.ntmps8
  go_wp2_with fail
  go_loopw [5] (fun i wr => ∃ k' : Nat, k' ≤ n ∧ i = .int .i64 k' ∧ Below w.heap.size w wr ∧ ∀ (j : Nat) e, j < k' → D[j]? = some e → e.1 ≠ k) (fun i _ => n - (intOf i).toNat)
  case atStart => exact ⟨0, Nat.zero_le _, rfl, Below.refl _ _, fun j e hj => absurd hj (by omega)⟩
  case round =>
    obtain ⟨i, hi, rfl, le, hb⟩ := hrel
    by_cases hlt : i < n
    · have hlt' : (i : Int) < (n : Int) := by omega
      obtain ⟨b, off, rfl, hbF, hcc⟩ := Xhcell.out (by omega)
      obtain ⟨d, hd⟩ : ∃ x, D[i]? = some x := ⟨_, List.getElem?_eq_getElem (by rw [← Xhn.out]; exact hlt)⟩
      obtain ⟨z1, z2, c1, c2, r1, r2⟩ := hcc i d hd
      have hbw := XhF.out b hbF
      have c1' := (le.cell (p := ⟨b, off + i * 2, none⟩) hbw).trans c1
      have cs := ref12_Same (r1.below le XhF.out) (Xg.out.below le XhF'.out)
      obtain ⟨same, hsame⟩ : ∃ q, q = decide (d.1 = k) := ⟨_, rfl⟩
      rw [← hsame] at cs
      clear hcc c1 c2 r2
      have Xle := hide le
      have Xhb := hide hb
      have Xhd := hide hd
      have Xr1 := hide r1
      have XhbF := hide hbF
      have Xcs := hide cs
      clear le hb hd r1 hbF cs
      go_wp2_with fail
      with_reducible refine Xcs.out.mono ?_
      rintro e w2 ⟨rfl, b2⟩
      have le2 := Xle.out.trans (b2.mono Xle.out.size)
      clear c1' b2 Xcs
      cases same with
      | true =>
        have hv := Xhyes.out i d Xhd.out (of_decide_eq_true hsame.symm) Xhb.out
        have Xhv := hide hv
        have Xle2 := hide le2
        have Xhsame := hide hsame
        clear hv le2 hsame
        go_wp2_with fail
        go_ret
        exact ⟨ret_int Xhv.out.symm, Xle2.out⟩
      | false =>
        have hb2 : ∀ (j : Nat) e, j < i + 1 → D[j]? = some e → e.1 ≠ k := fun j e hj he => by
          by_cases e' : j = i
          · subst e'
            rw [Xhd.out] at he
            injection he with he
            subst he
            exact of_decide_eq_false hsame.symm
          · exact Xhb.out j e (by omega) he
        have Xhb2 := hide hb2
        have Xle2 := hide le2
        have Xhsame := hide hsame
        clear hb2 le2 hsame
        go_wp2_with fail
        go_roundw
        case rel => exact ⟨i + 1, by omega, by go_num, Xle2.out, Xhb2.out⟩
        case measure => simp [intOf]; omega
    · have hlt' : ¬ (i : Int) < (n : Int) := by omega
      have hv := Xhno.out (fun j e he => hb j e (by have := (List.getElem?_eq_some_iff.1 he).1; have := Xhn.out; omega) he)
      have Xhv := hide hv
      have Xle := hide le
      have Xhb := hide hb
      clear hv le hb
      go_wp2_with fail
      go_ret
      exact ⟨ret_int Xhv.out.symm, Xle.out⟩
/-! ### ways compared -/
theorem Try.fieldsTrans : Try.prog.underlying 42 = some (.struct (Try.prog.fieldsOf 42)) := by kernel_rfl
theorem Try.stoodTrans : Try.prog.stoodInHeld 42 = false := by kernel_rfl
theorem Try.guardTrans : Try.prog.eqGuardType Try.prog.depth 42 = false := by kernel_rfl
theorem eql_trans (a b c d : Int) (w : World) : Sem.run Try.prog (binOp .eql 42 (.agg #[.int .i64 a, .int .i64 b]) (.agg #[.int .i64 c, .int .i64 d])) w = .ok (.bool (decide (((a, b) : It) = (c, d)))) w := by
  have u3 := Try.underlying3
  have hS := Try.fieldsTrans
  have hp := Try.stoodTrans
  rw [run_eql_struct, show (10000 : Nat) = 9999 + 1 from rfl, run_equalIn_agg w 9999 42 _ _ hS hp]
  simp only [Program.fieldsOf, Try.underlying42]
  have a3 := Try.isAgg3
  have z3 := Try.sizeOf3
  go_simp
  by_cases h1 : a = c <;> by_cases h2 : b = d <;> simp [h1, h2]
theorem neq_trans (a b c d : Int) (w : World) : Sem.run Try.prog (binOp .neq 42 (.agg #[.int .i64 a, .int .i64 b]) (.agg #[.int .i64 c, .int .i64 d])) w = .ok (.bool (!decide (((a, b) : It) = (c, d)))) w := by
  have h := eql_trans a b c d w
  rw [run_eql_struct] at h
  rw [run_neq_struct]
  generalize Sem.run Try.prog (Op.equalIn 10000 42 (.agg #[.int .i64 a, .int .i64 b]) (.agg #[.int .i64 c, .int .i64 d])) w = r at h ⊢
  cases r <;> simp_all [Result.andThen]
theorem guard_trans (op : BinOp) (p q : Operand) (x y : It) (w : World) : (eqGuard op 42 p q (ItV x) (ItV y)).run Try.prog w = .ok () w := run_eqGuard_agg w op 42 p q _ _ Try.guardTrans
end

section
set_option linter.unusedSimpArgs false
open Go.RowKit
attribute [local irreducible] wpStill wpOne wpPh

theorem stD_fst (L T : List (List It)) : (stD L T).map Prod.fst = L := by
  apply List.ext_getElem?
  intro i
  rw [List.getElem?_map, stD_get, Option.map_map]
  cases L[i]? <;> rfl
theorem findD_st (L T : List (List It)) (k : List It) : findD (stD L T) k = findK L k := by unfold findD; rw [stD_fst]
theorem own_new (w : World) (e : TypeId) (size : Nat) (us : List Value) (h : us.length = size) : World.ownsRow (w.alloc (.cells us.toArray e)) w.heap.size e size (.slice (some ⟨w.heap.size, 0, none⟩) 1 1) 1 us := by
  refine ⟨by rw [h, Nat.one_mul], .inr ⟨w.heap.size, 1, us.toArray, rfl, Nat.le_refl _, heap_alloc_new w _, Nat.le_refl _, by decide, by simp [h], ?_⟩⟩
  rw [Nat.one_mul, ← h]
  simp
theorem strict_len {G : GramD} {st : Int} {k : List It} (hK : KnA G st) (hs : StrictI k) (hr : ∀ x ∈ k, rightI G st x = true) : k.length ≤ 400000 := by
  have : ∀ (k : List It), k.Nodup → (∀ x ∈ k, rightI G st x = true) → missI G st k + k.length ≤ (allIt G st).length := by
    intro k
    induction k with
    | nil => intro _ _; unfold missI; rw [List.length_nil, Nat.add_zero]; exact List.length_filter_le _ _
    | cons x r ih =>
      intro hn hr
      obtain ⟨hx, hn'⟩ := List.nodup_cons.1 hn
      have := ih hn' (fun y hy => hr y (by simp [hy]))
      have h3 : missI G st (x :: r) < missI G st r := miss_lt (fun y hy => by simp [hy]) (hr x (by simp)) hx (by simp)
      simp only [List.length_cons]
      omega
  have h1 := this k hs.nodup hr
  have := all_len hK.short hK.r
  omega
end
end Go.Proofs.Ytlpokomfljmogaa

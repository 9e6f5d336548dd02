/- Items: a map that they are keys of. -/
import Derived.Test.YtlpokomfljmogaaGreatItem11
import Derived.Test.YtlpokomfljmogaaGreatG7
import Derived.DeepKeys4
import Derived.Maps.OwnOps
namespace Go.Proofs.YtlpokomfljmogaaGreat
set_option linter.unusedVariables false
set_option linter.unusedSimpArgs false
open Go.RowKit Go.Maps

theorem Tryz.laidOut : laidOutB Tryz.prog = true := by kernel_rfl
theorem Tryz.itemRow : (34 : TypeId) < Tryz.prog.types.size := of_decide_eq_true (by kernel_rfl)
theorem Tryz.itemLaw : WideMaps.KeyLaw Tryz.prog 34 := deep_law_laid Tryz.laidOut (m := 3) (by omega) Tryz.itemRow (by kernel_rfl) (by kernel_rfl)
theorem Tryz.itemKeyed : Keyed Tryz.prog 34 := Keyed.of_law Tryz.itemLaw
theorem Tryz.itemKeyType : Tryz.prog.keyType 34 = true := by kernel_rfl
theorem Tryz.itemCells : Tryz.prog.cellsOf 34 = 2 := by kernel_rfl
theorem Tryz.intCells : Tryz.prog.cellsOf 3 = 1 := by kernel_rfl
theorem wf_i64_mk {n : Int} (h : -9223372036854775808 ≤ n ∧ n ≤ 9223372036854775807) : (Lit.int .i64 n).wf = true := by
  simp [Lit.wf, IntKind.min, IntKind.max, IntKind.signed, IntKind.bits]
  omega
theorem key_item {x : It} (hx : WfI x) : ∃ kl, keyOf Tryz.prog 34 (ItV x) = some kl := by
  have h1 := wf_i64_mk hx.1
  have h2 := wf_i64_mk hx.2
  have hpos : 0 < Tryz.prog.types.size := Nat.lt_of_le_of_lt (Nat.zero_le _) Tryz.itemRow
  obtain ⟨d, hd⟩ := Nat.exists_eq_succ_of_ne_zero (Nat.ne_of_gt hpos)
  have hu := Tryz.underlying34
  have hi := Tryz.underlying3
  have hc := Tryz.itemCells
  have hci := Tryz.intCells
  have hk : ∀ n : Int, (Lit.int .i64 n).wf = true → Tryz.prog.keyLits (d + 1) 3 [.int .i64 n] = some [.int .i64 n] := fun n hn => by
    unfold Program.keyLits
    simp only [hi]
    simp [hn]
  have hf : (ItV x).formed Tryz.prog 34 = true := by simp [Value.formed, hu, hc]
  refine Option.isSome_iff_exists.1 ?_
  unfold keyOf
  simp only [hu]
  rw [Tryz.itemKeyType, hf, hd]
  unfold Program.keyLits
  simp only [hu]
  simp [Value.cells, hc, hci, hk _ h1, hk _ h2]
noncomputable def ikey (x : It) : Lit := (keyOf Tryz.prog 34 (ItV x)).getD (.bool false)
theorem ikey_some {x : It} (hx : WfI x) : keyOf Tryz.prog 34 (ItV x) = some (ikey x) := by
  obtain ⟨kl, h⟩ := key_item hx
  unfold ikey
  rw [h]; rfl
attribute [irreducible] ikey
theorem ikey_inj {x y : It} (hx : WfI x) (hy : WfI y) (h : ikey x = ikey y) : x = y := by
  have e := Tryz.itemKeyed.inj (ikey_some hx) (by rw [h]; exact ikey_some hy)
  injection e with e
  have e1 := congrArg (fun a : Array Value => a[0]?) e
  have e2 := congrArg (fun a : Array Value => a[1]?) e
  simp at e1 e2
  exact Prod.ext e1 e2
/-- what the map holds: the items that are put -/
structure SetMap (D : DataW Unit) (o : List It) : Prop where
  m : Maps.IsMap D
  at_ : ∀ x, WfI x → D.atKey (ikey x) (.lit (.bool false)) = .lit (.bool (decide (x ∈ o)))
theorem SetMap.empty : SetMap (.map []) [] := ⟨⟨[], rfl⟩, fun x _ => rfl⟩
theorem SetMap.put {D : DataW Unit} {o : List It} (h : SetMap D o) {x : It} (hx : WfI x) : SetMap (D.put (ikey x) (.lit (.bool true))) (o ++ [x]) := by
  refine ⟨h.m.put _ _, fun y hy => ?_⟩
  by_cases e : y = x
  · subst e
    rw [Maps.atKey_put_same h.m (Tryz.itemKeyed.key (ikey_some hy))]
    simp
  · rw [Maps.atKey_put_other (fun c => e (ikey_inj hy hx c)), h.at_ y hy]
    simp [e]
set_option maxRecDepth 100000 in
/-- m[x], of such a map -/
theorem SetMap.look {w : World} {b n : Nat} {D : DataW Unit} {o : List It} (h : SetMap D o) (hm : w.ownsMap Tryz.prog 34 (plainElem Tryz.prog 4) b n D) {x : It} (hx : WfI x) :
    (Instr.lookup 87 (.map (some b)) (ItV x) false).run Tryz.prog w = .ok (.bool (decide (x ∈ o))) w := by
  have hz : (zeroValue 4).run Tryz.prog w = .ok (.bool false) w := Tryz.zeroValue4 w
  obtain ⟨v, ps, hrun, hv⟩ := hm.lookup Tryz.itemKeyed Tryz.underlying87 hz (plainElem_bool Tryz.underlying4 false) (ikey_some hx)
  rw [h.at_ x hx] at hv
  generalize decide (x ∈ o) = dd at *
  have hv2 : v = .bool dd := by
    unfold plainElem at hv
    rw [Tryz.underlying4] at hv
    cases v with
    | bool b => simp only [Option.some.injEq, Prod.mk.injEq] at hv; have := hv.1; injection this with this; injection this with this; rw [this]
    | _ => simp at hv
  subst hv2
  exact hrun
end Go.Proofs.YtlpokomfljmogaaGreat

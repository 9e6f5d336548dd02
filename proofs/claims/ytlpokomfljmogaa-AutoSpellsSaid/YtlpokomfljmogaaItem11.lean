/- Items: Step, Kernel. -/
import Derived.Test.YtlpokomfljmogaaItem8
import Derived.Test.YtlpokomfljmogaaG7
import Derived.DeepKeys4
import Derived.Maps.OwnOps
import Derived.Test.YtlpokomfljmogaaItem5
import Derived.Test.YtlpokomfljmogaaG8
import Derived.Test.YtlpokomfljmogaaG9
namespace Go.Proofs.Ytlpokomfljmogaa
set_option linter.unusedVariables false

section
set_option linter.unusedSimpArgs false
open Go.RowKit
attribute [local irreducible] wpStill wpOne wpPh

/-- what a walk over a list carries: the grammar's box, the list, what has been gathered -/
structure PSt (w wr : World) (F : Nat → Prop) (A1 : Option Addr) (c1 : Nat) (A2 : Option Addr) (c2 : Nat) (A3 : Option Addr) (c3 T N R : Nat) (st : Int) (G : GramD) (vl : Value) (l : List It) (vo : Value) (o : List It) : Prop where
  g : GBox wr F w.heap.size A1 c1 A2 c2 A3 c3 T N R st G
  le : Below w.heap.size w wr
  rv : RdIt wr (fun b => b < w.heap.size) vl l
  own : wr.ownsRow (w.heap.size + 1) 51 2 vo o.length (itCells o)
  zl : w.heap.size + 1 ≤ wr.heap.size
  hF : ∀ b, F b → b < w.heap.size
section
variable {w wr wr' : World} {F : Nat → Prop} {A1 : Option Addr} {c1 : Nat} {A2 : Option Addr} {c2 : Nat} {A3 : Option Addr} {c3 T N R : Nat} {st : Int} {G : GramD} {vl : Value} {l : List It} {vo : Value} {o : List It}
theorem PSt.below (h : PSt w wr F A1 c1 A2 c2 A3 c3 T N R st G vl l vo o) (hb : Below wr.heap.size wr wr') : PSt w wr' F A1 c1 A2 c2 A3 c3 T N R st G vl l vo o :=
  ⟨h.g.below hb, h.le.trans (hb.mono h.le.size), h.rv.below hb (fun k hk => Nat.lt_of_lt_of_le hk h.le.size), own_below' h.own hb, Nat.le_trans h.zl hb.size, h.hF⟩
theorem PSt.app {A : Option Addr} {c : Nat} {xs : List Value} {x : It} (h : PSt w wr F A1 c1 A2 c2 A3 c3 T N R st G vl l vo o) (own2 : wr'.ownsRow (w.heap.size + 1) 51 2 (.slice A (o.length + 1) c) (o.length + 1) xs) (hxs : xs = itCells o ++ [I64 x.1, I64 x.2]) (hg : wr.grownBy wr' vo.ownBlock) :
    PSt w wr' F A1 c1 A2 c2 A3 c3 T N R st G vl l (.slice A (o.length + 1) c) (o ++ [x]) := by
  have t : Touch (fun k => vo.ownBlock = some k) wr wr' := (Touch.refl _ _).grown hg (fun k hk _ => hk)
  have hk : ∀ k, vo.ownBlock = some k → w.heap.size + 1 ≤ k := fun k e => (h.own.lt k e).1
  refine ⟨h.g.touch t (fun b hb e => by have := h.hF b hb; have := hk b e; omega) (fun e => by have := hk _ e; omega), t.toBelow (fun k e => by have := hk k e; omega) h.le h.le.size, h.rv.touch t (fun b hb e => by have := hk b e; omega), ?_, Nat.le_trans h.zl t.size, h.hF⟩
  rw [hxs] at own2
  rw [List.length_append, itCells_append]
  exact own2
end
end

section
set_option linter.unusedSimpArgs false
open Go.RowKit Go.Maps

theorem Try.laidOut : laidOutB Try.prog = true := by kernel_rfl
theorem Try.itemRow : (51 : TypeId) < Try.prog.types.size := of_decide_eq_true (by kernel_rfl)
theorem Try.itemLaw : WideMaps.KeyLaw Try.prog 51 := deep_law_laid Try.laidOut (m := 3) (by omega) Try.itemRow (by kernel_rfl) (by kernel_rfl)
theorem Try.itemKeyed : Keyed Try.prog 51 := Keyed.of_law Try.itemLaw
theorem Try.itemKeyType : Try.prog.keyType 51 = true := by kernel_rfl
theorem Try.itemCells : Try.prog.cellsOf 51 = 2 := by kernel_rfl
theorem Try.intCells : Try.prog.cellsOf 3 = 1 := by kernel_rfl
theorem wf_i64_mk {n : Int} (h : -9223372036854775808 ≤ n ∧ n ≤ 9223372036854775807) : (Lit.int .i64 n).wf = true := by
  simp [Lit.wf, IntKind.min, IntKind.max, IntKind.signed, IntKind.bits]
  omega
theorem key_item {x : It} (hx : WfI x) : ∃ kl, keyOf Try.prog 51 (ItV x) = some kl := by
  have h1 := wf_i64_mk hx.1
  have h2 := wf_i64_mk hx.2
  have hpos : 0 < Try.prog.types.size := Nat.lt_of_le_of_lt (Nat.zero_le _) Try.itemRow
  obtain ⟨d, hd⟩ := Nat.exists_eq_succ_of_ne_zero (Nat.ne_of_gt hpos)
  have hu := Try.underlying51
  have hi := Try.underlying3
  have hc := Try.itemCells
  have hci := Try.intCells
  have hk : ∀ n : Int, (Lit.int .i64 n).wf = true → Try.prog.keyLits (d + 1) 3 [.int .i64 n] = some [.int .i64 n] := fun n hn => by
    unfold Program.keyLits
    simp only [hi]
    simp [hn]
  have hf : (ItV x).formed Try.prog 51 = true := by simp [Value.formed, hu, hc]
  refine Option.isSome_iff_exists.1 ?_
  unfold keyOf
  simp only [hu]
  rw [Try.itemKeyType, hf, hd]
  unfold Program.keyLits
  simp only [hu]
  simp [Value.cells, hc, hci, hk _ h1, hk _ h2]
noncomputable def ikey (x : It) : Lit := (keyOf Try.prog 51 (ItV x)).getD (.bool false)
theorem ikey_some {x : It} (hx : WfI x) : keyOf Try.prog 51 (ItV x) = some (ikey x) := by
  obtain ⟨kl, h⟩ := key_item hx
  unfold ikey
  rw [h]; rfl
attribute [irreducible] ikey
theorem ikey_inj {x y : It} (hx : WfI x) (hy : WfI y) (h : ikey x = ikey y) : x = y := by
  have e := Try.itemKeyed.inj (ikey_some hx) (by rw [h]; exact ikey_some hy)
  injection e with e
  have e1 := congrArg (fun a : Array Value => a[0]?) e
  have e2 := congrArg (fun a : Array Value => a[1]?) e
  simp at e1 e2
  exact Prod.ext e1 e2
/-- what the map holds: the items that are put -/
structure SetMap (D : DataW Unit) (o : List It) : Prop where
  m : Maps.IsMap D
  at_ : ∀ x, WfI x → D.atKey (ikey x) (.lit (.bool false)) = .lit (.bool (decide (x ∈ o)))
theorem SetMap.empty : SetMap (.map []) [] := ⟨⟨[], rfl⟩, fun x _ => rfl⟩
theorem SetMap.put {D : DataW Unit} {o : List It} (h : SetMap D o) {x : It} (hx : WfI x) : SetMap (D.put (ikey x) (.lit (.bool true))) (o ++ [x]) := by
  refine ⟨h.m.put _ _, fun y hy => ?_⟩
  by_cases e : y = x
  · subst e
    rw [Maps.atKey_put_same h.m (Try.itemKeyed.key (ikey_some hy))]
    simp
  · rw [Maps.atKey_put_other (fun c => e (ikey_inj hy hx c)), h.at_ y hy]
    simp [e]
end

section
set_option linter.unusedSimpArgs false
open Go.RowKit Go.Maps
attribute [local irreducible] wpStill wpOne wpPh

section
variable {w wr wr' : World} {F : Nat → Prop} {A1 : Option Addr} {c1 : Nat} {A2 : Option Addr} {c2 : Nat} {A3 : Option Addr} {c3 T N R : Nat} {st : Int} {G : GramD} {vl : Value} {l : List It} {s : Nat} {vo : Value} {o : List It}
end
end

section
set_option linter.unusedSimpArgs false
open Go.RowKit Go.Maps
attribute [local irreducible] wpStill wpOne wpPh

/-- of a grammar that may be -/
structure KnI (G : GramD) (st : Int) : Prop where
  r : G.rules.length ≤ 300
  non : ∀ s k, k ∈ ofOf G s → isNon G s = true
  short : ShortG G st
theorem KnI.of_check {G : GramD} {st : Int} (h : checkOf G st = 0) : KnI G st := by
  obtain ⟨hm, -, -, hk, -, -⟩ := checkOf_zero h
  obtain ⟨-, -, h3, hsh⟩ := manyOf_no hm
  refine ⟨h3, fun s k hs => ?_, fun i => ?_⟩
  · obtain ⟨n, x, -, hx⟩ := of_mem.1 hs
    unfold allKnown at hk
    rw [Bool.and_eq_true, List.all_eq_true] at hk
    have := hk.2 _ (List.mem_of_getElem? hx)
    unfold knownOf at this
    rw [Bool.and_eq_true] at this
    exact this.1
  · unfold shortOf at hsh
    rw [List.all_eq_true] at hsh
    unfold ruleOf
    split
    · simp
    · split
      · simp
      · cases e : G.rules[i.toNat]? with
        | none => simp
        | some r => have := hsh r (List.mem_of_getElem? e); simp at this ⊢; omega
/-- the items that are gathered -/
structure Gat (G : GramD) (st : Int) (l : List It) (M : Nat) (o : List It) : Prop where
  nodup : o.Nodup
  sound : ∀ z ∈ o, Cl G st l z
  bound : missI G st o + o.length ≤ M
theorem Gat.add {G : GramD} {st : Int} {l o : List It} {M : Nat} {x : It} (h : Gat G st l M o) (hx : rightI G st x = true → Cl G st l x) : Gat G st l M (addI o x (rightI G st x)) :=
  ⟨addI_nodup h.nodup, fun z hz => by
    rcases addI_mem.1 hz with hz | ⟨rfl, hr⟩
    · exact h.sound z hz
    · exact hx hr, Nat.le_trans addI_miss h.bound⟩
/-- grown, at its end -/
structure Ext (o o' : List It) : Prop where
  len : o.length ≤ o'.length
  get : ∀ j, j < o.length → o'[j]? = o[j]?
theorem Ext.refl (o : List It) : Ext o o := ⟨Nat.le_refl _, fun _ _ => rfl⟩
theorem Ext.mem {o o' : List It} (h : Ext o o') {x : It} (hx : x ∈ o) : x ∈ o' := by
  obtain ⟨j, hj, e⟩ := List.getElem_of_mem hx
  have := h.get j hj
  rw [List.getElem?_eq_getElem hj, e] at this
  exact List.mem_of_getElem? this
theorem Ext.add {o o' : List It} (h : Ext o o') (x : It) (r : Bool) : Ext o (addI o' x r) := ⟨Nat.le_trans h.len addI_len, fun j hj => (addI_get (Nat.lt_of_lt_of_le hj h.len)).trans (h.get j hj)⟩
section
variable {w : World} {F : Nat → Prop} {A1 : Option Addr} {c1 : Nat} {A2 : Option Addr} {c2 : Nat} {A3 : Option Addr} {c3 T N R : Nat} {st : Int} {G : GramD} {vl : Value} {l : List It}
end
/-- Close's answer; nothing of a grammar that may not be -/
def MayClose (mb : Bool) (w : World) (G : GramD) (st : Int) (l : List It) (e : Ending) (w' : World) : Prop := if mb = true then ClosePost w G st l e w' else ItPost w [] e w'
theorem wf_small {x : Int} (h0 : 0 ≤ x) (h : x ≤ 1000) : WfI (x, 0) := ⟨⟨by simp only; omega, by simp only; omega⟩, by simp only; omega, by simp only; omega⟩
end
end Go.Proofs.Ytlpokomfljmogaa

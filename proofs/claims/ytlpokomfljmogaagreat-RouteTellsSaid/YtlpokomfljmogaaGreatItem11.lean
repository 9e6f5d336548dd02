/- Items: Step, Kernel. -/
import Derived.Test.YtlpokomfljmogaaGreatItem8
import Derived.Test.YtlpokomfljmogaaGreatG7
import Derived.DeepKeys4
import Derived.Maps.OwnOps
import Derived.Test.YtlpokomfljmogaaGreatItem5
namespace Go.Proofs.YtlpokomfljmogaaGreat
set_option linter.unusedVariables false
section
set_option linter.unusedSimpArgs false
open Go.RowKit
attribute [local irreducible] wpStill wpOne wpPh
structure PSt (w wr : World) (F : Nat → Prop) (A1 : Option Addr) (c1 : Nat) (A2 : Option Addr) (c2 : Nat) (A3 : Option Addr) (c3 T N R : Nat) (st : Int) (G : GramD) (vl : Value) (l : List It) (vo : Value) (o : List It) : Prop where
 g : GBox wr F w.heap.size A1 c1 A2 c2 A3 c3 T N R st G
 le : Below w.heap.size w wr
 rv : RdIt wr (fun b => b < w.heap.size) vl l
 own : wr.ownsRow (w.heap.size + 1) 34 2 vo o.length (itCells o)
 zl : w.heap.size + 1 ≤ wr.heap.size
 hF : ∀ b, F b → b < w.heap.size
section
variable {w wr wr' : World} {F : Nat → Prop} {A1 : Option Addr} {c1 : Nat} {A2 : Option Addr} {c2 : Nat} {A3 : Option Addr} {c3 T N R : Nat} {st : Int} {G : GramD} {vl : Value} {l : List It} {vo : Value} {o : List It}
theorem PSt.below (h : PSt w wr F A1 c1 A2 c2 A3 c3 T N R st G vl l vo o) (hb : Below wr.heap.size wr wr') : PSt w wr' F A1 c1 A2 c2 A3 c3 T N R st G vl l vo o :=
 ⟨h.g.below hb, h.le.trans (hb.mono h.le.size), h.rv.below hb (fun k hk => Nat.lt_of_lt_of_le hk h.le.size), own_below' h.own hb, Nat.le_trans h.zl hb.size, h.hF⟩
theorem PSt.app {A : Option Addr} {c : Nat} {xs : List Value} {x : It} (h : PSt w wr F A1 c1 A2 c2 A3 c3 T N R st G vl l vo o) (own2 : wr'.ownsRow (w.heap.size + 1) 34 2 (.slice A (o.length + 1) c) (o.length + 1) xs) (hxs : xs = itCells o ++ [I64 x.1, I64 x.2]) (hg : wr.grownBy wr' vo.ownBlock) :
  PSt w wr' F A1 c1 A2 c2 A3 c3 T N R st G vl l (.slice A (o.length + 1) c) (o ++ [x]) := by
 have t : Touch (fun k => vo.ownBlock = some k) wr wr' := (Touch.refl _ _).grown hg (fun k hk _ => hk)
 have hk : ∀ k, vo.ownBlock = some k → w.heap.size + 1 ≤ k := fun k e => (h.own.lt k e).1
 refine ⟨h.g.touch t (fun b hb e => by have := h.hF b hb; have := hk b e; omega) (fun e => by have := hk _ e; omega), t.toBelow (fun k e => by have := hk k e; omega) h.le h.le.size, h.rv.touch t (fun b hb e => by have := hk b e; omega), ?_, Nat.le_trans h.zl t.size, h.hF⟩
 rw [hxs] at own2
 rw [List.length_append, itCells_append]
 exact own2
end
end
section
set_option linter.unusedSimpArgs false
open Go.RowKit Go.Maps
theorem Tryz.laidOut : laidOutB Tryz.prog = true := by kernel_rfl
theorem Tryz.itemRow : (34 : TypeId) < Tryz.prog.types.size := of_decide_eq_true (by kernel_rfl)
theorem Tryz.itemLaw : WideMaps.KeyLaw Tryz.prog 34 := deep_law_laid Tryz.laidOut (m := 3) (by omega) Tryz.itemRow (by kernel_rfl) (by kernel_rfl)
theorem Tryz.itemKeyed : Keyed Tryz.prog 34 := Keyed.of_law Tryz.itemLaw
theorem Tryz.itemKeyType : Tryz.prog.keyType 34 = true := by kernel_rfl
theorem Tryz.itemCells : Tryz.prog.cellsOf 34 = 2 := by kernel_rfl
theorem Tryz.intCells : Tryz.prog.cellsOf 3 = 1 := by kernel_rfl
theorem wf_i64_mk {n : Int} (h : -9223372036854775808 ≤ n ∧ n ≤ 9223372036854775807) : (Lit.int .i64 n).wf = true := by
 simp [Lit.wf, IntKind.min, IntKind.max, IntKind.signed, IntKind.bits]
 omega
theorem key_item {x : It} (hx : WfI x) : ∃ kl, keyOf Tryz.prog 34 (ItV x) = some kl := by
 have h1 := wf_i64_mk hx.1
 have h2 := wf_i64_mk hx.2
 have hpos : 0 < Tryz.prog.types.size := Nat.lt_of_le_of_lt (Nat.zero_le _) Tryz.itemRow
 obtain ⟨d, hd⟩ := Nat.exists_eq_succ_of_ne_zero (Nat.ne_of_gt hpos)
 have hu := Tryz.underlying34
 have hi := Tryz.underlying3
 have hc := Tryz.itemCells
 have hci := Tryz.intCells
 have hk : ∀ n : Int, (Lit.int .i64 n).wf = true → Tryz.prog.keyLits (d + 1) 3 [.int .i64 n] = some [.int .i64 n] := fun n hn => by
  unfold Program.keyLits
  simp only [hi]
  simp [hn]
 have hf : (ItV x).formed Tryz.prog 34 = true := by simp [Value.formed, hu, hc]
 refine Option.isSome_iff_exists.1 ?_
 unfold keyOf
 simp only [hu]
 rw [Tryz.itemKeyType, hf, hd]
 unfold Program.keyLits
 simp only [hu]
 simp [Value.cells, hc, hci, hk _ h1, hk _ h2]
noncomputable def ikey (x : It) : Lit := (keyOf Tryz.prog 34 (ItV x)).getD (.bool false)
theorem ikey_some {x : It} (hx : WfI x) : keyOf Tryz.prog 34 (ItV x) = some (ikey x) := by
 obtain ⟨kl, h⟩ := key_item hx
 unfold ikey
 rw [h]; rfl
attribute [irreducible] ikey
theorem ikey_inj {x y : It} (hx : WfI x) (hy : WfI y) (h : ikey x = ikey y) : x = y := by
 have e := Tryz.itemKeyed.inj (ikey_some hx) (by rw [h]; exact ikey_some hy)
 injection e with e
 have e1 := congrArg (fun a : Array Value => a[0]?) e
 have e2 := congrArg (fun a : Array Value => a[1]?) e
 simp at e1 e2
 exact Prod.ext e1 e2
structure SetMap (D : DataW Unit) (o : List It) : Prop where
 m : Maps.IsMap D
 at_ : ∀ x, WfI x → D.atKey (ikey x) (.lit (.bool false)) = .lit (.bool (decide (x ∈ o)))
theorem SetMap.empty : SetMap (.map []) [] := ⟨⟨[], rfl⟩, fun x _ => rfl⟩
theorem SetMap.put {D : DataW Unit} {o : List It} (h : SetMap D o) {x : It} (hx : WfI x) : SetMap (D.put (ikey x) (.lit (.bool true))) (o ++ [x]) := by
 refine ⟨h.m.put _ _, fun y hy => ?_⟩
 by_cases e : y = x
 ·subst e
  rw [Maps.atKey_put_same h.m (Tryz.itemKeyed.key (ikey_some hy))]
  simp
 ·rw [Maps.atKey_put_other (fun c => e (ikey_inj hy hx c)), h.at_ y hy]
  simp [e]
set_option maxRecDepth 100000 in
theorem SetMap.look {w : World} {b n : Nat} {D : DataW Unit} {o : List It} (h : SetMap D o) (hm : w.ownsMap Tryz.prog 34 (plainElem Tryz.prog 4) b n D) {x : It} (hx : WfI x) :
  (Instr.lookup 87 (.map (some b)) (ItV x) false).run Tryz.prog w = .ok (.bool (decide (x ∈ o))) w := by
 have hz : (zeroValue 4).run Tryz.prog w = .ok (.bool false) w := Tryz.zeroValue4 w
 obtain ⟨v, ps, hrun, hv⟩ := hm.lookup Tryz.itemKeyed Tryz.underlying87 hz (plainElem_bool Tryz.underlying4 false) (ikey_some hx)
 rw [h.at_ x hx] at hv
 generalize decide (x ∈ o) = dd at *
 have hv2 : v = .bool dd := by
  unfold plainElem at hv
  rw [Tryz.underlying4] at hv
  cases v with
  | bool b => simp only [Option.some.injEq, Prod.mk.injEq] at hv; have := hv.1; injection this with this; injection this with this; rw [this]
  | _ => simp at hv
 subst hv2
 exact hrun
end
section
set_option linter.unusedSimpArgs false
open Go.RowKit Go.Maps
attribute [local irreducible] wpStill wpOne wpPh
structure CSt (w wr : World) (F : Nat → Prop) (A1 : Option Addr) (c1 : Nat) (A2 : Option Addr) (c2 : Nat) (A3 : Option Addr) (c3 T N R : Nat) (st : Int) (G : GramD) (vl : Value) (l : List It) (s : Nat) (vo : Value) (o : List It) : Prop where
 g : GBox wr F w.heap.size A1 c1 A2 c2 A3 c3 T N R st G
 le : Below w.heap.size w wr
 rv : RdIt wr (fun b => b < w.heap.size) vl l
 hs : w.heap.size < s
 zl : s + 1 + 1 + 1 ≤ wr.heap.size
 hF : ∀ b, F b → b < w.heap.size
 met : Blk wr (s + 1) 87 #[.map (some s)]
 out : Blk wr (s + 1 + 1) 26 #[vo]
 own : wr.ownsRow (s + 1 + 1 + 1) 34 2 vo o.length (itCells o)
 map : ∃ D : DataW Unit, wr.ownsMap Tryz.prog 34 (plainElem Tryz.prog 4) s o.length D ∧ SetMap D o
section
variable {w wr wr' : World} {F : Nat → Prop} {A1 : Option Addr} {c1 : Nat} {A2 : Option Addr} {c2 : Nat} {A3 : Option Addr} {c3 T N R : Nat} {st : Int} {G : GramD} {vl : Value} {l : List It} {s : Nat} {vo : Value} {o : List It}
theorem CSt.below (h : CSt w wr F A1 c1 A2 c2 A3 c3 T N R st G vl l s vo o) (hb : Below wr.heap.size wr wr') : CSt w wr' F A1 c1 A2 c2 A3 c3 T N R st G vl l s vo o := by
 obtain ⟨D, m1, m2⟩ := h.map
 exact ⟨h.g.below hb, h.le.trans (hb.mono h.le.size), h.rv.below hb (fun k hk => Nat.lt_of_lt_of_le hk h.le.size), h.hs, Nat.le_trans h.zl hb.size, h.hF, h.met.below hb h.met.lt, h.out.below hb h.out.lt, own_below' h.own hb, D, (Touch.of_size hb (fun _ => False)).ownsMap m1 (fun e => e), m2⟩
theorem CSt.add {w1 w2 : World} {A : Option Addr} {c : Nat} {x : It} {D : DataW Unit} {X : Obj} (h : CSt w wr F A1 c1 A2 c2 A3 c3 T N R st G vl l s vo o) (hx : WfI x)
  (hD : SetMap D o) (hm : w1.ownsMap Tryz.prog 34 (plainElem Tryz.prog 4) s (o.length + 1) (D.put (ikey x) (.lit (.bool true)))) (g1 : wr.grownBy w1 (some s))
  (own2 : w2.ownsRow (s + 1 + 1 + 1) 34 2 (.slice A (o.length + 1) c) (o.length + 1) (itCells o ++ [I64 x.1, I64 x.2])) (g2 : (w1.alloc X).grownBy w2 vo.ownBlock) :
  CSt w (w2.setCell ⟨s + 1 + 1, 0, none⟩ (.slice A (o.length + 1) c)) F A1 c1 A2 c2 A3 c3 T N R st G vl l s (.slice A (o.length + 1) c) (o ++ [x]) ∧ Touch (fun k => k = s ∨ vo.ownBlock = some k ∨ k = s + 1 + 1) wr (w2.setCell ⟨s + 1 + 1, 0, none⟩ (.slice A (o.length + 1) c)) := by
 have hk : ∀ k, vo.ownBlock = some k → s + 1 + 1 + 1 ≤ k ∧ k < wr.heap.size := fun k e => h.own.lt k e
 have t1 : Touch (fun k => k = s) wr w1 := (Touch.refl _ _).grown g1 (fun k e _ => by injection e with e; exact e.symm)
 have t2 : Touch (fun k => k = s ∨ vo.ownBlock = some k) wr w2 := ((t1.mono (S' := fun k => k = s ∨ vo.ownBlock = some k) (fun _ _ e => .inl e)).alloc X).grown g2 (fun k e _ => .inr e)
 have t3 : Touch (fun k => k = s ∨ vo.ownBlock = some k ∨ k = s + 1 + 1) wr (w2.setCell ⟨s + 1 + 1, 0, none⟩ (.slice A (o.length + 1) c)) := (t2.mono (S' := fun k => k = s ∨ vo.ownBlock = some k ∨ k = s + 1 + 1) (fun _ _ e => e.elim .inl (fun e => .inr (.inl e)))).setCell (p := ⟨s + 1 + 1, 0, none⟩) (fun _ => .inr (.inr rfl)) _
 have hbig : ∀ k, (k = s ∨ vo.ownBlock = some k ∨ k = s + 1 + 1) → s ≤ k ∧ k ≠ s + 1 := fun k e => by
  rcases e with e | e | e
  ·omega
  ·have := hk k e; omega
  ·omega
 have hs := h.hs
 have hsz := t2.size
 have hnS : ∀ k, s < k → k < s + 1 + 1 + 1 → ¬ (k = s ∨ vo.ownBlock = some k) := fun k k1 k2 e => by
  rcases e with e | e
  ·omega
  ·have := hk k e; omega
 have hmet2 : Blk w2 (s + 1) 87 #[.map (some s)] := h.met.touch t2 (hnS _ (by omega) (by omega))
 have hout2 : Blk w2 (s + 1 + 1) 26 #[vo] := h.out.touch t2 (hnS _ (by omega) (by omega))
 have hm2 : w2.ownsMap Tryz.prog 34 (plainElem Tryz.prog 4) s (o.length + 1) (D.put (ikey x) (.lit (.bool true))) :=
  (((Touch.refl (fun k => vo.ownBlock = some k) w1).alloc X).grown g2 (fun k e _ => e)).ownsMap hm (fun e => by have := hk _ e; omega)
 refine ⟨⟨h.g.touch t3 (fun b hb e => by have := h.hF b hb; have := hbig b e; omega) (fun e => by have := hbig _ e; omega), t3.toBelow (fun k e => by have := hbig k e; omega) h.le h.le.size, h.rv.touch t3 (fun b hb e => by have := hbig b e; omega), hs, Nat.le_trans h.zl t3.size, h.hF, hmet2.far (by simp) _, ?_, ?_, D.put (ikey x) (.lit (.bool true)), ?_, hD.put hx⟩, t3⟩
 ·exact hout2.put 0 _
 ·rw [List.length_append, itCells_append]
  exact own_far own2 (fun e => by
   have := own2.lt _ e
   simp at this
   omega) _
 ·rw [List.length_append]
  exact ((Touch.refl (fun k => k = s + 1 + 1) w2).setCell (p := ⟨s + 1 + 1, 0, none⟩) (fun _ => rfl) _).ownsMap hm2 (fun e => by omega)
end
end
section
set_option linter.unusedSimpArgs false
open Go.RowKit Go.Maps
attribute [local irreducible] wpStill wpOne wpPh
structure KnI (G : GramD) (st : Int) : Prop where
 r : G.rules.length ≤ 300
 non : ∀ s k, k ∈ ofOf G s → isNon G s = true
 short : ShortG G st
theorem KnI.of_check {G : GramD} {st : Int} (h : checkOf G st = 0) : KnI G st := by
 obtain ⟨hm, -, -, hk, -, -⟩ := checkOf_zero h
 obtain ⟨-, -, h3, hsh⟩ := manyOf_no hm
 refine ⟨h3, fun s k hs => ?_, fun i => ?_⟩
 ·obtain ⟨n, x, -, hx⟩ := of_mem.1 hs
  unfold allKnown at hk
  rw [Bool.and_eq_true, List.all_eq_true] at hk
  have := hk.2 _ (List.mem_of_getElem? hx)
  unfold knownOf at this
  rw [Bool.and_eq_true] at this
  exact this.1
 ·unfold shortOf at hsh
  rw [List.all_eq_true] at hsh
  unfold ruleOf
  split
  ·simp
  ·split
   ·simp
   ·cases e : G.rules[i.toNat]? with
    | none => simp
    | some r => have := hsh r (List.mem_of_getElem? e); simp at this ⊢; omega
structure Gat (G : GramD) (st : Int) (l : List It) (M : Nat) (o : List It) : Prop where
 nodup : o.Nodup
 sound : ∀ z ∈ o, Cl G st l z
 bound : missI G st o + o.length ≤ M
theorem Gat.add {G : GramD} {st : Int} {l o : List It} {M : Nat} {x : It} (h : Gat G st l M o) (hx : rightI G st x = true → Cl G st l x) : Gat G st l M (addI o x (rightI G st x)) :=
 ⟨addI_nodup h.nodup, fun z hz => by
  rcases addI_mem.1 hz with hz | ⟨rfl, hr⟩
  ·exact h.sound z hz
  ·exact hx hr, Nat.le_trans addI_miss h.bound⟩
structure Ext (o o' : List It) : Prop where
 len : o.length ≤ o'.length
 get : ∀ j, j < o.length → o'[j]? = o[j]?
theorem Ext.refl (o : List It) : Ext o o := ⟨Nat.le_refl _, fun _ _ => rfl⟩
theorem Ext.mem {o o' : List It} (h : Ext o o') {x : It} (hx : x ∈ o) : x ∈ o' := by
 obtain ⟨j, hj, e⟩ := List.getElem_of_mem hx
 have := h.get j hj
 rw [List.getElem?_eq_getElem hj, e] at this
 exact List.mem_of_getElem? this
theorem Ext.add {o o' : List It} (h : Ext o o') (x : It) (r : Bool) : Ext o (addI o' x r) := ⟨Nat.le_trans h.len addI_len, fun j hj => (addI_get (Nat.lt_of_lt_of_le hj h.len)).trans (h.get j hj)⟩
section
variable {w : World} {F : Nat → Prop} {A1 : Option Addr} {c1 : Nat} {A2 : Option Addr} {c2 : Nat} {A3 : Option Addr} {c3 T N R : Nat} {st : Int} {G : GramD} {vl : Value} {l : List It}
theorem CSt.start {w2 w3 : World} (g : GBox w2 F w.heap.size A1 c1 A2 c2 A3 c3 T N R st G) (le : Below w.heap.size w w2) (rv : RdIt w2 (fun b => b < w.heap.size) vl l) (hs : w.heap.size < w2.heap.size) (hF : ∀ b, F b → b < w.heap.size)
  (h3 : w3 = ((w2.alloc (.map #[] 0)).alloc (.cells #[.map (some w2.heap.size)] 87)).alloc (.cells #[.slice none 0 0] 26)) : CSt w w3 F A1 c1 A2 c2 A3 c3 T N R st G vl l w2.heap.size (.slice none 0 0) [] := by
 obtain ⟨wa, ha⟩ : ∃ wa, wa = w2.alloc (.map #[] 0) := ⟨_, rfl⟩
 obtain ⟨wb, hb⟩ : ∃ wb, wb = wa.alloc (.cells #[.map (some w2.heap.size)] 87) := ⟨_, rfl⟩
 have sa : wa.heap.size = w2.heap.size + 1 := by rw [ha]; simp
 have sb : wb.heap.size = w2.heap.size + 1 + 1 := by rw [hb]; simp [sa]
 rw [← ha, ← hb] at h3
 have b1 : Below w2.heap.size w2 w3 := by
  rw [h3, hb, ha]
  exact (((Below.refl _ w2).alloc (Nat.le_refl _) _).alloc (by simp) _).alloc (by simp; omega) _
 have kb : Blk wb (w2.heap.size + 1) 87 #[.map (some w2.heap.size)] := by rw [hb, ← sa]; exact Blk.new _ _ _
 have hm : wa.ownsMap Tryz.prog 34 (plainElem (H := Unit) Tryz.prog 4) w2.heap.size 0 (.map []) := by rw [ha]; exact World.ownsMap_made w2 Tryz.prog 34 (plainElem (H := Unit) Tryz.prog 4)
 refine ⟨g.below b1, le.trans (b1.mono le.size), rv.below b1 (fun k hk => Nat.lt_of_lt_of_le hk le.size), hs, by rw [h3]; simp [sb], hF, by rw [h3]; exact kb.alloc _, by rw [h3, ← sb]; exact Blk.new _ _ _, World.ownsRow_nil _ _ _ _, .map [], ?_, SetMap.empty⟩
 rw [h3, hb]
 exact (((Touch.refl (fun _ => False) wa).alloc _).alloc _).ownsMap hm (fun e => e)
end
end
end Go.Proofs.YtlpokomfljmogaaGreat

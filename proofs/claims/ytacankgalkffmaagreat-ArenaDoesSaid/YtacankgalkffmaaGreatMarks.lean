/- Of no program: a function that ranges over functions, walked by the plain walk: the marks that its loops leave; loops in which the marks grow; what the world's cells tell. -/
import Derived.Test.YtacankgalkffmaaGreatBase
import Derived.RangeFuncNested
import Derived.RangeFuncBound
import Derived.RangeFuncCalls
import Derived.RangeFuncLeaves
import Derived.TacticsInMore
import Derived.OwnWalkIn
import Derived.LoopNIn
import Derived.LoopIn
namespace Go.Proofs.YtacankgalkffmaaGreat
set_option linter.unusedVariables false
open Go.RowKit
def CW (w w' : World) : Prop := ∀ (a : Addr) (u : Value), w.cell? a = some u → w'.cell? a = some u
theorem CW.refl (w : World) : CW w w := fun _ _ h => h
theorem CW.trans {a b c : World} (h : CW a b) (k : CW b c) : CW a c := fun x u e => k x u (h x u e)
theorem CW.putObj {w : World} {l : Nat} {o : Obj} (h : w.heap[l]? = some o) (ho : o.isCells = false) (o' : Obj) : CW w (w.putObj l o') := fun a u e =>
 cell_kept e (grownBy_putObj' w l o') (fun r hr => by cases hr; exact ⟨o, h, ho⟩)
theorem Rd.cw {w w' : World} {F : Nat → Prop} {v : Value} {size : Nat} {xs : List Value} (h : Rd w F v size xs) (k : CW w w') : Rd w' F v size xs := by
 obtain ⟨A, n, c, hv, hc, hm, hl, hr⟩ := h
 refine ⟨A, n, c, hv, hc, hm, hl, fun hn => ?_⟩
 obtain ⟨b, off, hA, hb, hcell⟩ := hr hn
 exact ⟨b, off, hA, hb, fun j u hu => k _ _ (hcell j u hu)⟩
abbrev mark (D : Nat) : Deferred := { target := .collected D, args := #[] }
theorem mark_inj {a b : Nat} (h : mark a = mark b) : a = b := by injection h with h; injection h
def Mk (lo : Nat) (ds : List Deferred) (w : World) : Prop := ∃ Ds : List Nat, Ds.Nodup ∧ ds = Ds.map mark ∧ ∀ D ∈ Ds, lo ≤ D ∧ w.heap[D]? = some (.deferred (some []))
theorem Mk.nil (lo : Nat) (w : World) : Mk lo [] w := ⟨[], List.nodup_nil, rfl, fun D h => by cases h⟩
theorem Mk.keeps {lo : Nat} {ds : List Deferred} {w w' : World} (h : Mk lo ds w) (k : KeepsFrom lo w w') : Mk lo ds w' := by
 obtain ⟨Ds, h1, h2, h3⟩ := h
 exact ⟨Ds, h1, h2, fun D hD => ⟨(h3 D hD).1, k.same D _ (h3 D hD).1 (h3 D hD).2 rfl⟩⟩
theorem map_mark_inj : ∀ {a b : List Nat}, a.map mark = b.map mark → a = b
 | [], [], _ => rfl
 | [], _ :: _, h => by cases h
 | _ :: _, [], h => by cases h
 | x :: a, y :: b, h => by
  rw [List.map_cons, List.map_cons] at h
  injection h with h1 h2
  rw [mark_inj h1, map_mark_inj h2]
theorem Mk.cons {lo : Nat} {ds : List Deferred} {w0 w : World} {D : Nat} (h0 : Mk lo ds w0) (h : Mk lo ds w) (hlo : lo ≤ w0.heap.size) (hD : w0.heap.size ≤ D) (hk : w.heap[D]? = some (.deferred (some []))) : Mk lo (mark D :: ds) w := by
 obtain ⟨Ds, h1, rfl, h3⟩ := h0
 obtain ⟨Ds', g1, g2, g3⟩ := h
 obtain rfl := map_mark_inj g2
 refine ⟨D :: Ds, List.nodup_cons.2 ⟨fun hm => ?_, h1⟩, rfl, fun D' hD' => ?_⟩
 ·have := (Array.getElem?_eq_some_iff.1 (h3 D hm).2).1
  omega
 ·rcases List.mem_cons.1 hD' with e | e
  ·subst e; exact ⟨by omega, hk⟩
  ·exact g3 D' e
theorem leaves_marks {F : Fence} {n : Nat} {P : Program} {fn : Func} {tmps : Array Value} {R : Ending → World → Prop} {lo : Nat} : ∀ (Ds : List Nat) (w : World), Ds.Nodup → (∀ D ∈ Ds, lo ≤ D ∧ w.heap[D]? = some (.deferred (some []))) →
  (∀ w', CW w w' → Below lo w w' → LeavesIn F n P fn tmps R [] .returning w') → LeavesInM F n P fn tmps R (Ds.map mark) .returning w
 | [], w, _, _, h => h w (CW.refl _) (Below.refl _ _)
 | D :: Ds, w, hn, hk, h => by
  obtain ⟨h1, h2⟩ := List.nodup_cons.1 hn
  obtain ⟨hD, hh⟩ := hk D (List.mem_cons_self ..)
  refine ⟨by simp, .inl ⟨D, _, rfl, run_takeDeferred hh, ?_⟩⟩
  have g := grownBy_putObj' w D (.deferred none)
  have hlt := (Array.getElem?_eq_some_iff.1 hh).1
  have b1 : Below lo w (w.putObj D (.deferred none)) := (Below.refl lo w).grown g (by omega) (fun k e => by cases e; exact hD)
  refine leaves_marks Ds _ h2 (fun D' hD' => ⟨(hk D' (List.mem_cons_of_mem _ hD')).1, ?_⟩) fun w' hc hb => h w' ((CW.putObj hh rfl _).trans hc) (b1.trans hb)
  have hne : D' ≠ D := fun e => h1 (e ▸ hD')
  exact (World.putObj_heap_other hne).trans (hk D' (List.mem_cons_of_mem _ hD')).2
def markPost (P : Program) (fn : Func) (R : Ending → World → Prop) (e : Exit) (a : Act) (w : World) : Prop :=
 (e = .normal ∨ e = .ret) ∧ ∃ lo, Mk lo a.defers w ∧ ∀ w', CW w w' → Below lo w w' → bodyPost P fn R .ret { tmps := a.tmps, defers := [] } w'
theorem calls_marks {P : Program} {f : FuncId} {fn : Func} {c : Code} {args : Array Value} {w : World} {R : Ending → World → Prop} (hf : P.funcs[f]? = some fn) (hb : fn.body = some c)
  (h : c.wp P (markPost P fn R) { tmps := args ++ Array.replicate (fn.ntmps - args.size) undef, defers := [] } w) : Calls P f args w R := by
 refine (callsIn_wide (n := 1)).1 (callsIn_of_wp_marks hf hb trivial (wpIn_mono (wpIn_wide.2 h) ?_) rfl)
 rintro e a w1 ⟨he, lo, ⟨Ds, h1, h2, h3⟩, hk⟩
 have key : LeavesInM Fence.wide 1 P fn a.tmps R a.defers .returning w1 := by
  rw [h2]
  refine leaves_marks Ds w1 h1 h3 fun w' hc hb' => ?_
  obtain ⟨-, v, hv, hR⟩ := hk w' hc hb'
  exact ⟨v, hv, hR⟩
 rcases he with rfl | rfl
 ·exact key
 ·exact key
theorem markPost.of {P : Program} {fn : Func} {R : Ending → World → Prop} {tmps : Array Value} {ds : List Deferred} {w : World} (lo : Nat) (hm : Mk lo ds w) (h : ∀ w', CW w w' → Below lo w w' → bodyPost P fn R .ret { tmps := tmps, defers := [] } w') : markPost P fn R .ret { tmps := tmps, defers := ds } w := ⟨.inr rfl, lo, hm, h⟩
theorem markPost.bare {P : Program} {fn : Func} {R : Ending → World → Prop} {tmps : Array Value} {w : World} (h : ∀ w', CW w w' → Below w.heap.size w w' → bodyPost P fn R .ret { tmps := tmps, defers := [] } w') : markPost P fn R .ret { tmps := tmps, defers := [] } w := ⟨.inr rfl, _, Mk.nil _ _, h⟩
attribute [irreducible] markPost
def HandE (p : Act → World → Prop) (a : Act) (w : World) : Prop := p a w
theorem HandE.mk {p : Act → World → Prop} {a : Act} {w : World} (h : p a w) : HandE p a w := h
end Go.Proofs.YtacankgalkffmaaGreat

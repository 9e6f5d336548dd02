/- The program computes at all: conchlaw06.awake. -/
import Derived.Test.YtacankgalkffmaaGreatG7
namespace Go.Proofs.YtacankgalkffmaaGreat
set_option linter.unusedVariables false
section
open Go.RowKit
theorem Rd.of_blk {w : World} {F : Nat → Prop} {g n size : Nat} {t : TypeId} {us : List Value} (hk : Blk w g t us.toArray) (hF : F g) (hl : us.length = n * size) (hm : n ≤ maxLen) : Rd w F (.slice (some ⟨g, 0, none⟩) n n) size us :=
 ⟨_, n, n, rfl, Nat.le_refl _, hm, hl, fun _ => ⟨g, 0, rfl, hF, fun j u hu => by rw [hk.cell]; simpa using hu⟩⟩
theorem flat_two {X : Type} {f : X → Value × Value} : ∀ (l : List X) (i : Nat) (p : X), l[i]? = some p → (l.flatMap (fun p => [(f p).1, (f p).2]))[i * 2]? = some (f p).1 ∧ (l.flatMap (fun p => [(f p).1, (f p).2]))[i * 2 + 1]? = some (f p).2
 | a :: r, 0, p, h => by
  simp at h
  subst h
  simp
 | a :: r, i + 1, p, h => by
  have := flat_two (f := f) r i p (by simpa using h)
  simp only [List.flatMap_cons]
  rw [show (i + 1) * 2 = i * 2 + 2 by omega]
  exact this
theorem RdR.of_blk {w : World} {F : Nat → Prop} {g : Nat} {t : TypeId} (rvs : List ((Int × List Int) × Value)) (hk : Blk w g t (rvs.flatMap (fun p => [Value.int .i64 p.1.1, p.2])).toArray) (hF : F g) (h : ∀ p ∈ rvs, RdI w F p.2 p.1.2) (hl : rvs.length ≤ maxLen) :
  RdR w F (.slice (some ⟨g, 0, none⟩) rvs.length rvs.length) (rvs.map (·.1)) := by
 refine ⟨some ⟨g, 0, none⟩, rvs.length, by rw [List.length_map], by rw [List.length_map]; exact Nat.le_refl _, hl, fun hn => ⟨g, 0, rfl, hF, fun i x hx => ?_⟩⟩
 rw [List.getElem?_map] at hx
 obtain ⟨p, hp, rfl⟩ := Option.map_eq_some_iff.1 hx
 have hc := flat_two (f := fun p : (Int × List Int) × Value => (Value.int .i64 p.1.1, p.2)) rvs i p hp
 refine ⟨[Value.int .i64 p.1.1, p.2], rfl, ⟨p.2, rfl, h p (List.mem_of_getElem? hp)⟩, fun j u hu => ?_⟩
 rw [hk.cell]
 have hj := (List.getElem?_eq_some_iff.1 hu).1
 simp only [List.length_cons, List.length_nil] at hj
 have hj2 : j = 0 ∨ j = 1 := by omega
 rcases hj2 with rfl | rfl
 ·simp at hu; subst hu; simpa using hc.1
 ·simp at hu; subst hu; simpa using hc.2
def awG : GramD := ⟨[⟨#[65]⟩, ⟨#[39, 120, 39]⟩], [⟨#[115]⟩], [(3, [1, 2])], 3⟩
theorem awG_box (w : World) : GBox (((((w.alloc (.cells #[.string ⟨#[65]⟩, .string ⟨#[39, 120, 39]⟩] 9)).alloc (.cells #[.string ⟨#[115]⟩] 9)).alloc (.cells #[.int .i64 1, .int .i64 2] 3)).alloc (.cells #[.int .i64 3, .slice (some ⟨w.heap.size + 1 + 1, 0, none⟩) 2 2] 53)).alloc (.cells #[.slice (some ⟨w.heap.size, 0, none⟩) 2 2, .slice (some ⟨w.heap.size + 1, 0, none⟩) 1 1, .slice (some ⟨w.heap.size + 1 + 1 + 1, 0, none⟩) 1 1, .int .i64 3] 26)) (fun b => w.heap.size ≤ b ∧ b < w.heap.size + 4) (w.heap.size + 1 + 1 + 1 + 1) (some ⟨w.heap.size, 0, none⟩) 2 (some ⟨w.heap.size + 1, 0, none⟩) 1 (some ⟨w.heap.size + 1 + 1 + 1, 0, none⟩) 1 2 1 1 3 awG ∧ Below w.heap.size w (((((w.alloc (.cells #[.string ⟨#[65]⟩, .string ⟨#[39, 120, 39]⟩] 9)).alloc (.cells #[.string ⟨#[115]⟩] 9)).alloc (.cells #[.int .i64 1, .int .i64 2] 3)).alloc (.cells #[.int .i64 3, .slice (some ⟨w.heap.size + 1 + 1, 0, none⟩) 2 2] 53)).alloc (.cells #[.slice (some ⟨w.heap.size, 0, none⟩) 2 2, .slice (some ⟨w.heap.size + 1, 0, none⟩) 1 1, .slice (some ⟨w.heap.size + 1 + 1 + 1, 0, none⟩) 1 1, .int .i64 3] 26)) := by
 obtain ⟨w1, e1⟩ : ∃ q, q = w.alloc (.cells #[.string ⟨#[65]⟩, .string ⟨#[39, 120, 39]⟩] 9) := ⟨_, rfl⟩
 obtain ⟨w2, e2⟩ : ∃ q, q = w1.alloc (.cells #[.string ⟨#[115]⟩] 9) := ⟨_, rfl⟩
 obtain ⟨w3, e3⟩ : ∃ q, q = w2.alloc (.cells #[.int .i64 1, .int .i64 2] 3) := ⟨_, rfl⟩
 obtain ⟨w4, e4⟩ : ∃ q, q = w3.alloc (.cells #[.int .i64 3, .slice (some ⟨w.heap.size + 1 + 1, 0, none⟩) 2 2] 53) := ⟨_, rfl⟩
 obtain ⟨w5, e5⟩ : ∃ q, q = w4.alloc (.cells #[.slice (some ⟨w.heap.size, 0, none⟩) 2 2, .slice (some ⟨w.heap.size + 1, 0, none⟩) 1 1, .slice (some ⟨w.heap.size + 1 + 1 + 1, 0, none⟩) 1 1, .int .i64 3] 26) := ⟨_, rfl⟩
 rw [← e1, ← e2, ← e3, ← e4, ← e5]
 have z1 : w1.heap.size = w.heap.size + 1 := by rw [e1]; simp
 have b1 : Below w.heap.size w w1 := by rw [e1]; exact (Below.refl _ _).alloc (Nat.le_refl _) _
 have k1 : Blk w1 (w.heap.size) 9 #[.string ⟨#[65]⟩, .string ⟨#[39, 120, 39]⟩] := by
  have h := Blk.new w 9 #[.string ⟨#[65]⟩, .string ⟨#[39, 120, 39]⟩]
  rw [← e1] at h; exact h
 have z2 : w2.heap.size = w.heap.size + 2 := by rw [e2]; simp; omega
 have b2 : Below w1.heap.size w1 w2 := by rw [e2]; exact (Below.refl _ _).alloc (Nat.le_refl _) _
 have k2 : Blk w2 (w.heap.size + 1) 9 #[.string ⟨#[115]⟩] := by
  have h := Blk.new w1 9 #[.string ⟨#[115]⟩]
  rw [← e2, z1] at h; exact h
 have z3 : w3.heap.size = w.heap.size + 3 := by rw [e3]; simp; omega
 have b3 : Below w2.heap.size w2 w3 := by rw [e3]; exact (Below.refl _ _).alloc (Nat.le_refl _) _
 have k3 : Blk w3 (w.heap.size + 1 + 1) 3 #[.int .i64 1, .int .i64 2] := by
  have h := Blk.new w2 3 #[.int .i64 1, .int .i64 2]
  rw [← e3, z2] at h; exact h
 have z4 : w4.heap.size = w.heap.size + 4 := by rw [e4]; simp; omega
 have b4 : Below w3.heap.size w3 w4 := by rw [e4]; exact (Below.refl _ _).alloc (Nat.le_refl _) _
 have k4 : Blk w4 (w.heap.size + 1 + 1 + 1) 53 #[.int .i64 3, .slice (some ⟨w.heap.size + 1 + 1, 0, none⟩) 2 2] := by
  have h := Blk.new w3 53 #[.int .i64 3, .slice (some ⟨w.heap.size + 1 + 1, 0, none⟩) 2 2]
  rw [← e4, z3] at h; exact h
 have z5 : w5.heap.size = w.heap.size + 5 := by rw [e5]; simp; omega
 have b5 : Below w4.heap.size w4 w5 := by rw [e5]; exact (Below.refl _ _).alloc (Nat.le_refl _) _
 have k5 : Blk w5 (w.heap.size + 1 + 1 + 1 + 1) 26 #[.slice (some ⟨w.heap.size, 0, none⟩) 2 2, .slice (some ⟨w.heap.size + 1, 0, none⟩) 1 1, .slice (some ⟨w.heap.size + 1 + 1 + 1, 0, none⟩) 1 1, .int .i64 3] := by
  have h := Blk.new w4 26 #[.slice (some ⟨w.heap.size, 0, none⟩) 2 2, .slice (some ⟨w.heap.size + 1, 0, none⟩) 1 1, .slice (some ⟨w.heap.size + 1 + 1 + 1, 0, none⟩) 1 1, .int .i64 3]
  rw [← e5, z4] at h; exact h
 have bb5 : Below w5.heap.size w5 w5 := Below.refl _ _
 have bb4 : Below w4.heap.size w4 w5 := b5.trans (bb5.mono b5.size)
 have bb3 : Below w3.heap.size w3 w5 := b4.trans (bb4.mono b4.size)
 have bb2 : Below w2.heap.size w2 w5 := b3.trans (bb3.mono b3.size)
 have bb1 : Below w1.heap.size w1 w5 := b2.trans (bb2.mono b2.size)
 have b0 : Below w.heap.size w w5 := b1.trans (bb1.mono b1.size)
 have y1 := k1.below bb1 k1.lt
 have y2 := k2.below bb2 k2.lt
 have y3 := k3.below bb3 k3.lt
 have y4 := k4.below bb4 k4.lt
 have y5 := k5.below bb5 k5.lt
 refine ⟨⟨⟨?_, ?_, ?_, ?_, ?_, ?_, ?_, ?_⟩, y5, rfl, rfl, rfl, by omega, by omega, by omega, by omega, by omega, by omega, by omega, by omega, by omega⟩, b0⟩
 ·exact Rd.of_blk (us := awG.terms.map Value.string) y1 (by omega) rfl (by decide)
 ·exact Rd.of_blk (us := awG.nons.map Value.string) y2 (by omega) rfl (by decide)
 ·refine RdR.of_blk [((3, [1, 2]), .slice (some ⟨w.heap.size + 1 + 1, 0, none⟩) 2 2)] y4 (by omega) ?_ (by unfold maxLen; simp)
  intro p hp
  simp only [List.mem_cons, List.not_mem_nil, or_false] at hp
  subst hp
  ·exact Rd.of_blk (us := [Value.int .i64 1, Value.int .i64 2]) y3 (by omega) rfl (by decide)
 ·intro b hb; rw [z5]; omega
 ·decide
 ·exact ⟨by decide, by decide⟩
 ·exact ⟨by decide, by decide⟩
 ·decide
theorem awG_check : checkOf awG 3 = 0 := by decide +kernel
theorem awG_rule : ruleOf awG 3 1 = ((0, [3]), true) := by decide +kernel
theorem awG_name : nameOf awG 2 = ⟨#[39, 120, 39]⟩ := by decide +kernel
theorem awG_find : findOf awG ⟨#[115]⟩ = 3 := by decide +kernel
theorem awG_top : topOf awG = 3 := by decide +kernel
theorem awG_term : isTerm awG 1 = true := by decide +kernel
theorem awG_non : isNon awG 3 = true := by decide +kernel
theorem awG_ord : sortedL (firstsOf awG awG.nons.length) = true := by decide +kernel
end
section
open Go.RowKit
theorem Tryz.infoRule : (Tryz.prog.info? 53).map (fun i => (i.zero, i.size, i.bytes)) = some (some (.agg #[.int .i64 0, .slice none 0 0]), 2, 32) := by kernel_rfl
theorem Tryz.elemRule : Elem Tryz.prog 24 53 (.agg #[.int .i64 0, .slice none 0 0]) 2 32 := ⟨Tryz.underlying24, Tryz.infoRule, rfl, by decide⟩
theorem own_apart {w : World} {base base' : Nat} {e e' : TypeId} {size size' n n' : Nat} {v v' : Value} {xs xs' : List Value} (h : w.ownsRow base e size v n xs) (h' : w.ownsRow base' e' size' v' n' xs') (hne : e ≠ e') : ∀ k, v.ownBlock = some k → v'.ownBlock ≠ some k := by
 intro k hk hk'
 rcases h.2 with ⟨rfl, _⟩ | ⟨g, cap, cur, rfl, _, hh, _⟩
 ·simp [Value.ownBlock] at hk
 ·have e1 : g = k := by simpa [Value.ownBlock] using hk
  subst e1
  exact Blk.ne_own (t := e) hh h' (fun e => hne e.symm) hk'
theorem own_below {w w' : World} {base : Nat} {e : TypeId} {size n : Nat} {v : Value} {xs : List Value} (h : w.ownsRow base e size v n xs) {z : Nat} (hb : Below z w w') (hz : ∀ k, v.ownBlock = some k → k < z) : w'.ownsRow base e size v n xs :=
 (Touch.of_below hb).own h fun k hk hz' => by have := hz k hk; omega
theorem own_below' {w w' : World} {base : Nat} {e : TypeId} {size n : Nat} {v : Value} {xs : List Value} (h : w.ownsRow base e size v n xs) (hb : Below w.heap.size w w') : w'.ownsRow base e size v n xs :=
 own_below h hb fun k hk => (h.lt k hk).2
theorem own_far {w : World} {base : Nat} {e : TypeId} {size n : Nat} {v : Value} {xs : List Value} (h : w.ownsRow base e size v n xs) {p : Addr} (hp : v.ownBlock ≠ some p.block) (u : Value) : (w.setCell p u).ownsRow base e size v n xs :=
 ((Touch.refl (fun k => k = p.block) w).setCell (fun _ => rfl) u).own h fun k hk e => hp (by rw [hk, e])
theorem own_grown {w w' : World} {base : Nat} {e : TypeId} {size n : Nat} {v : Value} {xs : List Value} {row : Option Nat} (h : w.ownsRow base e size v n xs) (hg : w.grownBy w' row) (hr : ∀ k, v.ownBlock = some k → row ≠ some k) : w'.ownsRow base e size v n xs :=
 ((Touch.refl (fun k => row = some k) w).grown hg (fun k hk _ => hk)).own h fun k hk e => hr k hk e
abbrev flatR (rvs : List ((Int × List Int) × Value)) : List Value := rvs.flatMap (fun p => [Value.int .i64 p.1.1, p.2])
theorem RdR.of_rd {w : World} {F : Nat → Prop} {v : Value} (rvs : List ((Int × List Int) × Value)) (hk : Rd w F v 2 (flatR rvs)) (h : ∀ p ∈ rvs, RdI w F p.2 p.1.2) : RdR w F v (rvs.map (·.1)) := by
 obtain ⟨A, n, c, rfl, hnc, hcm, hl, hr⟩ := hk
 have hn : n = rvs.length := by
  have : (flatR rvs).length = rvs.length * 2 := by
   clear hl hr h
   induction rvs with
   | nil => rfl
   | cons a r ih => unfold flatR at ih ⊢; rw [List.flatMap_cons, List.length_append, ih]; simp only [List.length_cons, List.length_nil]; omega
  omega
 refine ⟨A, c, by rw [List.length_map, hn], by rw [List.length_map]; omega, hcm, fun h0 => ?_⟩
 rw [List.length_map] at h0
 obtain ⟨b, off, hA, hF, hc⟩ := hr (by omega)
 refine ⟨b, off, hA, hF, fun i x hx => ?_⟩
 rw [List.getElem?_map] at hx
 obtain ⟨p, hp, rfl⟩ := Option.map_eq_some_iff.1 hx
 have hc2 := flat_two (f := fun p : (Int × List Int) × Value => (Value.int .i64 p.1.1, p.2)) rvs i p hp
 refine ⟨[Value.int .i64 p.1.1, p.2], rfl, ⟨p.2, rfl, h p (List.mem_of_getElem? hp)⟩, fun j u hu => ?_⟩
 have hj := (List.getElem?_eq_some_iff.1 hu).1
 simp only [List.length_cons, List.length_nil] at hj
 have hj2 : j = 0 ∨ j = 1 := by omega
 rcases hj2 with rfl | rfl
 ·simp at hu; subst hu
  exact hc (i * 2) _ hc2.1
 ·simp at hu; subst hu
  have := hc (i * 2 + 1) _ hc2.2
  rwa [← Nat.add_assoc] at this
structure Grow (w : World) (base B : Nat) (vt vn vr : Value) (st : Int) (ts ns : List ByteArray) (rvs : List ((Int × List Int) × Value)) : Prop where
 blk : Blk w B 26 #[vt, vn, vr, .int .i64 st]
 t : w.ownsRow base 9 1 vt ts.length (ts.map Value.string)
 n : w.ownsRow base 9 1 vn ns.length (ns.map Value.string)
 r : w.ownsRow base 53 2 vr rvs.length (flatR rvs)
 q : ∀ p ∈ rvs, w.ownsRow base 3 1 p.2 p.1.2.length (p.1.2.map I64)
 apart : ∀ k, vt.ownBlock = some k → vn.ownBlock ≠ some k
section
variable {w w' w2 : World} {base B : Nat} {vt vn vr v : Value} {st : Int} {ts ns : List ByteArray} {rvs : List ((Int × List Int) × Value)}
theorem Grow.below (h : Grow w base B vt vn vr st ts ns rvs) (hb : Below w.heap.size w w') : Grow w' base B vt vn vr st ts ns rvs :=
 ⟨h.blk.below hb h.blk.lt, own_below' h.t hb, own_below' h.n hb, own_below' h.r hb, fun p hp => own_below' (h.q p hp) hb, h.apart⟩
theorem Grow.box (h : Grow w base B vt vn vr st ts ns rvs) : w.cell? ⟨B, 0, none⟩ = some vt ∧ w.cell? ⟨B, 1, none⟩ = some vn ∧ w.cell? ⟨B, 2, none⟩ = some vr ∧ w.cell? ⟨B, 3, none⟩ = some (.int .i64 st) :=
 ⟨(h.blk.cell 0).trans rfl, (h.blk.cell 1).trans rfl, (h.blk.cell 2).trans rfl, (h.blk.cell 3).trans rfl⟩
theorem Grow.rows (h : Grow w base B vt vn vr st ts ns rvs) : vt.ownBlock ≠ some B ∧ vn.ownBlock ≠ some B ∧ vr.ownBlock ≠ some B ∧ ∀ p ∈ rvs, p.2.ownBlock ≠ some B :=
 ⟨h.blk.ne_own h.t (by decide), h.blk.ne_own h.n (by decide), h.blk.ne_own h.r (by decide), fun p hp => h.blk.ne_own (h.q p hp) (by decide)⟩
theorem Grow.addT {s : ByteArray} (h : Grow w base B vt vn vr st ts ns rvs) (hg : w.grownBy w2 vt.ownBlock) (ho : w2.ownsRow base 9 1 v (ts.length + 1) (ts.map Value.string ++ [.string s])) (hv : v.ownBlock = vt.ownBlock ∨ v.ownBlock = some w.heap.size) :
  Grow (w2.setCell ⟨B, 0, none⟩ v) base B v vn vr st (ts ++ [s]) ns rvs := by
 obtain ⟨e1, e2, e3, e4⟩ := h.rows
 have hb2 : Blk w2 B 26 #[vt, vn, vr, .int .i64 st] := h.blk.grown hg (fun e => e1 e.symm)
 refine ⟨hb2.put 0 v, ?_, own_far (own_grown h.n hg fun k hk e => h.apart k e hk) e2 v, own_far (own_grown h.r hg fun k hk => own_apart h.r h.t (by decide) k hk) e3 v, fun p hp => own_far (own_grown (h.q p hp) hg fun k hk => own_apart (h.q p hp) h.t (by decide) k hk) (e4 p hp) v, fun k hk => ?_⟩
 ·rw [List.length_append, List.map_append]
  exact own_far ho (hb2.ne_own ho (by decide)) v
 ·rcases hv with hv | hv
  ·exact h.apart k (hv ▸ hk)
  ·intro e
   rw [hv] at hk
   injection hk with hk
   have := (h.n.lt k e).2
   omega
theorem Grow.addN {s : ByteArray} (h : Grow w base B vt vn vr st ts ns rvs) (hg : w.grownBy w2 vn.ownBlock) (ho : w2.ownsRow base 9 1 v (ns.length + 1) (ns.map Value.string ++ [.string s])) (hv : v.ownBlock = vn.ownBlock ∨ v.ownBlock = some w.heap.size) :
  Grow (w2.setCell ⟨B, 1, none⟩ v) base B vt v vr st ts (ns ++ [s]) rvs := by
 obtain ⟨e1, e2, e3, e4⟩ := h.rows
 have hb2 : Blk w2 B 26 #[vt, vn, vr, .int .i64 st] := h.blk.grown hg (fun e => e2 e.symm)
 refine ⟨hb2.put 1 v, own_far (own_grown h.t hg fun k hk e => h.apart k hk e) e1 v, ?_, own_far (own_grown h.r hg fun k hk => own_apart h.r h.n (by decide) k hk) e3 v, fun p hp => own_far (own_grown (h.q p hp) hg fun k hk => own_apart (h.q p hp) h.n (by decide) k hk) (e4 p hp) v, fun k hk => ?_⟩
 ·rw [List.length_append, List.map_append]
  exact own_far ho (hb2.ne_own ho (by decide)) v
 ·rcases hv with hv | hv
  ·rw [hv]; exact h.apart k hk
  ·intro e
   rw [hv] at e
   injection e with e
   have := (h.t.lt k hk).2
   omega
theorem Grow.addR {l : Int} {xs : List Int} {u : Value} (h : Grow w base B vt vn vr st ts ns rvs) (hg : w.grownBy w2 vr.ownBlock) (ho : w2.ownsRow base 53 2 v (rvs.length + 1) (flatR rvs ++ [.int .i64 l, u])) (hu : w.ownsRow base 3 1 u xs.length (xs.map I64)) :
  Grow (w2.setCell ⟨B, 2, none⟩ v) base B vt vn v st ts ns (rvs ++ [((l, xs), u)]) := by
 obtain ⟨e1, e2, e3, e4⟩ := h.rows
 have hb2 : Blk w2 B 26 #[vt, vn, vr, .int .i64 st] := h.blk.grown hg (fun e => e3 e.symm)
 refine ⟨hb2.put 2 v, own_far (own_grown h.t hg fun k hk => own_apart h.t h.r (by decide) k hk) e1 v, own_far (own_grown h.n hg fun k hk => own_apart h.n h.r (by decide) k hk) e2 v, ?_, fun p hp => ?_, h.apart⟩
 ·rw [List.length_append]
  unfold flatR
  rw [List.flatMap_append]
  exact own_far ho (hb2.ne_own ho (by decide)) v
 ·rcases List.mem_append.1 hp with hp | hp
  ·exact own_far (own_grown (h.q p hp) hg fun k hk => own_apart (h.q p hp) h.r (by decide) k hk) (e4 p hp) v
  ·simp only [List.mem_singleton] at hp
   subst hp
   have h1 : w2.ownsRow base 3 1 u xs.length (xs.map I64) := own_grown hu hg fun k hk => own_apart hu h.r (by decide) k hk
   exact own_far h1 (hb2.ne_own h1 (by decide)) v
theorem Grow.start (h : Grow w base B vt vn vr st ts ns rvs) (s : Int) : Grow (w.setCell ⟨B, 3, none⟩ (.int .i64 s)) base B vt vn vr s ts ns rvs := by
 obtain ⟨e1, e2, e3, e4⟩ := h.rows
 exact ⟨h.blk.put 3 _, own_far h.t e1 _, own_far h.n e2 _, own_far h.r e3 _, fun p hp => own_far (h.q p hp) (e4 p hp) _, h.apart⟩
theorem Grow.gram (h : Grow w base B vt vn vr st ts ns rvs) (hs : ts.length ≤ 8796093022207 ∧ ns.length ≤ 8796093022207 ∧ rvs.length ≤ 4398046511103) (hz : (∀ s ∈ ts, s.size ≤ 140737488351232) ∧ (∀ s ∈ ns, s.size ≤ 140737488351232))
  (hw : ∀ p ∈ rvs, (-9223372036854775808 ≤ p.1.1 ∧ p.1.1 ≤ 9223372036854775807) ∧ p.1.2.length ≤ 17592186044416 ∧ ∀ x ∈ p.1.2, -9223372036854775808 ≤ x ∧ x ≤ 9223372036854775807) (s : Int) :
  IsGram w (fun b => base ≤ b ∧ b < w.heap.size) vt vn vr ⟨ts, ns, rvs.map (·.1), s⟩ := by
 refine ⟨(Rd.of_own h.t).mono fun k hk => h.t.lt k hk, (Rd.of_own h.n).mono fun k hk => h.n.lt k hk, RdR.of_rd rvs ((Rd.of_own h.r).mono fun k hk => h.r.lt k hk) fun p hp => (Rd.of_own (h.q p hp)).mono fun k hk => (h.q p hp).lt k hk, fun b hb => hb.2, by simpa using hs, ⟨fun s hs => by have := hz.1 s hs; unfold maxLen; omega, fun s hs => by have := hz.2 s hs; unfold maxLen; omega⟩, hz, fun r hr => ?_⟩
 obtain ⟨p, hp, rfl⟩ := List.mem_map.1 hr
 exact hw p hp
end
end
end Go.Proofs.YtacankgalkffmaaGreat

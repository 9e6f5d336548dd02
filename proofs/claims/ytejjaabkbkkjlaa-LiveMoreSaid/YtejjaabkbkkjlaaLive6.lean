/- A grammar with some symbols alone: plain facts, and what the walk of live.only carries. -/
import Derived.Test.YtejjaabkbkkjlaaLive5
namespace Go.Proofs.Ytejjaabkbkkjlaa
set_option linter.unusedVariables false
open Go.RowKit
attribute [local irreducible] wpStill wpOne wpPh

theorem RdL.mono {X : Type} {w : World} {F F' : Nat → Prop} {k : Nat} {E E' : List Value → X → Prop} {v : Value} {xs : List X} (h : RdL w F k E v xs) (hF : ∀ b, F b → F' b) (hE : ∀ cs x, E cs x → E' cs x) : RdL w F' k E' v xs := by
  obtain ⟨A, c, hv, h1, h2, hr⟩ := h
  refine ⟨A, c, hv, h1, h2, fun hn => ?_⟩
  obtain ⟨b, off, hA, hb, hc⟩ := hr hn
  refine ⟨b, off, hA, hF b hb, fun i x hx => ?_⟩
  obtain ⟨cs, e1, e2, e3⟩ := hc i x hx
  exact ⟨cs, e1, hE cs x e2, e3⟩
theorem IsGram.mono {w : World} {F F' : Nat → Prop} {vt vn vr : Value} {G : GramD} (h : IsGram w F vt vn vr G) (hF : ∀ b, F b → F' b) (hl : ∀ b, F' b → b < w.heap.size) : IsGram w F' vt vn vr G :=
  ⟨Rd.mono h.terms hF, Rd.mono h.nons hF, RdL.mono h.rules hF (fun cs x ⟨v, e1, e2⟩ => ⟨v, e1, Rd.mono e2 hF⟩), hl, h.small, h.sizes, h.reach, h.wfs⟩

/-- a symbol's place in a list, from 1 on -/
def placeOf (l : List Int) (s : Int) : Int := match l.findIdx? (fun x => decide (x = s)) with | some i => (i : Int) + 1 | none => 0
theorem placeOf_not {l : List Int} {s : Int} (h : s ∉ l) : placeOf l s = 0 := by
  have : l.findIdx? (fun x => decide (x = s)) = none := by
    rw [List.findIdx?_eq_none_iff]; intro x hx; simp; rintro rfl; exact h hx
  simp [placeOf, this]
theorem placeOf_first {l : List Int} {s : Int} {i : Nat} (h : l[i]? = some s) (hf : ∀ j : Nat, j < i → l[j]? ≠ some s) : placeOf l s = (i : Int) + 1 := by
  obtain ⟨hi, hx⟩ := List.getElem?_eq_some_iff.1 h
  have : l.findIdx? (fun x => decide (x = s)) = some i := by
    rw [List.findIdx?_eq_some_iff_getElem]
    refine ⟨hi, by simpa using hx, fun j hj => ?_⟩
    have := hf j hj
    simpa [List.getElem?_eq_getElem (show j < l.length by omega)] using this
  simp [placeOf, this]
theorem placeOf_some {l : List Int} {s : Int} (h : s ∈ l) : ∃ i : Nat, l[i]? = some s ∧ (∀ j : Nat, j < i → l[j]? ≠ some s) ∧ placeOf l s = (i : Int) + 1 := by
  rcases hf : l.findIdx? (fun x => decide (x = s)) with _ | i
  · rw [List.findIdx?_eq_none_iff] at hf
    have := hf s h
    simp at this
  · have hf' := hf
    rw [List.findIdx?_eq_some_iff_getElem] at hf
    obtain ⟨hi, hx, hj⟩ := hf
    refine ⟨i, by rw [List.getElem?_eq_getElem hi]; simpa using hx, fun j hj' => ?_, by simp [placeOf, hf']⟩
    have := hj j hj'
    rw [List.getElem?_eq_getElem (by omega)]
    simpa using this
theorem placeOf_nodup {l : List Int} {s : Int} {i : Nat} (hn : l.Nodup) (h : l[i]? = some s) : placeOf l s = (i : Int) + 1 :=
  placeOf_first h fun j hj e => by
    obtain ⟨hi, hx⟩ := List.getElem?_eq_some_iff.1 h
    obtain ⟨hj', hy⟩ := List.getElem?_eq_some_iff.1 e
    have := (List.pairwise_iff_getElem.1 hn) j i hj' hi hj
    exact this (by rw [hx, hy])
theorem placeOf_range (l : List Int) (s : Int) : 0 ≤ placeOf l s ∧ placeOf l s ≤ l.length := by
  by_cases h : s ∈ l
  · obtain ⟨i, hi, _, hp⟩ := placeOf_some h
    have := (List.getElem?_eq_some_iff.1 hi).1
    omega
  · rw [placeOf_not h]; omega
theorem placeOf_pos {l : List Int} {s : Int} : 1 ≤ placeOf l s ↔ s ∈ l := by
  by_cases h : s ∈ l
  · obtain ⟨i, hi, _, hp⟩ := placeOf_some h
    rw [hp]; exact ⟨fun _ => h, fun _ => by omega⟩
  · rw [placeOf_not h]; exact ⟨fun e => by omega, fun e => absurd e h⟩
theorem placeOf_take {l : List Int} (hn : l.Nodup) {q : Nat} {x : Int} (hx : l[q]? = some x) (s : Int) : placeOf (l.take (q + 1)) s = if s = x then (q : Int) + 1 else placeOf (l.take q) s := by
  by_cases e : s = x
  · subst e
    rw [if_pos rfl]
    exact placeOf_nodup (List.Nodup.sublist (List.take_sublist _ _) hn) (by rw [List.getElem?_take_of_lt (by omega)]; exact hx)
  · rw [if_neg e]
    by_cases h : s ∈ l.take q
    · obtain ⟨i, hi, hf, hp⟩ := placeOf_some h
      have hlt := (List.getElem?_eq_some_iff.1 hi).1
      rw [List.length_take] at hlt
      have hi' : l[i]? = some s := by rw [List.getElem?_take_of_lt (by omega)] at hi; exact hi
      rw [hp]
      exact placeOf_nodup (List.Nodup.sublist (List.take_sublist _ _) hn) (by rw [List.getElem?_take_of_lt (by omega)]; exact hi')
    · rw [placeOf_not h, placeOf_not]
      rw [List.take_add_one, hx]
      simp [h, e]

/-- a grammar with some symbols alone -/
def onlyG (G : GramD) (st : Int) (l : List Int) : GramD :=
  ⟨(l.filter (fun s => isTerm G s)).map (nameOf G), (l.filter (fun s => !isTerm G s)).map (nameOf G), (G.rules.filter (fun r => decide (r.1 ∈ l))).map (fun r => (placeOf l r.1, r.2.map (placeOf l))), placeOf l st⟩
theorem nameOf_term {G : GramD} {s : Int} (h : isTerm G s = true) : nameOf G s ∈ G.terms := by
  rw [isTerm_iff] at h
  unfold nameOf topOf
  rw [if_neg (by omega), if_pos (by omega), List.getElem?_append_left (by omega), List.getElem?_eq_getElem (by omega)]
  exact List.getElem_mem _
theorem nameOf_non {G : GramD} {s : Int} (h : isNon G s = true) : nameOf G s ∈ G.nons := by
  rw [isNon_iff] at h
  unfold nameOf topOf
  rw [if_neg (by omega), if_pos (by omega), List.getElem?_append_right (by omega), List.getElem?_eq_getElem (by omega)]
  exact List.getElem_mem _
theorem below_nodup (f : Nat → Bool) (n : Nat) : ((below f n).map (fun n : Nat => (n : Int))).Nodup := by
  unfold below
  rw [List.Nodup, List.pairwise_map]
  exact (List.Pairwise.filter f (List.nodup_range (n := n))).imp fun h e => h (by omega)

/-- what live.only holds: the grammar, the set, the places, the list, the grammar that it makes -/
structure OSt (w wr : World) (F : Nat → Prop) (A1 : Option Addr) (c1 : Nat) (A2 : Option Addr) (c2 : Nat) (A3 : Option Addr) (c3 T N R : Nat) (st : Int) (G : GramD) (b : Nat) (S : Nat → Prop) (n : Nat) (f : Nat → Bool) (base zb : Nat) (nf : Int → Int) (lv : Value) (l : List Int) (vt vn vr : Value) (s' : Int) (ts ns : List ByteArray) (rvs : List ((Int × List Int) × Value)) : Prop where
  t : GSet w wr F w.heap.size A1 c1 A2 c2 A3 c3 T N R st G b S n f
  zero : Blk wr (w.heap.size + 1) 25 #[.slice none 0 0, .slice none 0 0, .slice none 0 0, .int .i64 0]
  now : ∃ cells, Blk wr zb 3 cells ∧ cells.size = n ∧ ∀ x : Nat, x < n → cells[x]? = some (I64 (nf x))
  lst : RdI wr (fun k => zb < k ∧ k < base) lv l
  g : Grow wr base (w.heap.size + 2) vt vn vr s' ts ns rvs
  hF : ∀ k, F k → k < w.heap.size
  hS : ∀ k, S k → k < w.heap.size
  hz : w.heap.size + 2 < zb ∧ zb < base ∧ base ≤ wr.heap.size
section
variable {w wr wr' w2 : World} {F : Nat → Prop} {A1 : Option Addr} {c1 : Nat} {A2 : Option Addr} {c2 : Nat} {A3 : Option Addr} {c3 T N R : Nat} {st : Int} {G : GramD} {b : Nat} {S : Nat → Prop} {n : Nat} {f : Nat → Bool} {base zb : Nat} {nf : Int → Int} {lv : Value} {l : List Int} {vt vn vr v : Value} {s' : Int} {ts ns : List ByteArray} {rvs : List ((Int × List Int) × Value)}
theorem OSt.below (h : OSt w wr F A1 c1 A2 c2 A3 c3 T N R st G b S n f base zb nf lv l vt vn vr s' ts ns rvs) (hb : Below wr.heap.size wr wr') : OSt w wr' F A1 c1 A2 c2 A3 c3 T N R st G b S n f base zb nf lv l vt vn vr s' ts ns rvs := by
  obtain ⟨cells, h1, h2, h3⟩ := h.now
  exact ⟨h.t.below hb, h.zero.below hb h.zero.lt, ⟨cells, h1.below hb h1.lt, h2, h3⟩, h.lst.below hb (fun k hk => Nat.lt_of_lt_of_le hk.2 h.hz.2.2), h.g.below hb, h.hF, h.hS, ⟨h.hz.1, h.hz.2.1, Nat.le_trans h.hz.2.2 hb.size⟩⟩
/-- all but the grammar that is made, where its box and its rows alone are turned -/
theorem OSt.turned {vt' vn' vr' : Value} {s2 : Int} {ts' ns' : List ByteArray} {rvs' : List ((Int × List Int) × Value)} (h : OSt w wr F A1 c1 A2 c2 A3 c3 T N R st G b S n f base zb nf lv l vt vn vr s' ts ns rvs) (ht : Touch (fun k => k = w.heap.size + 2 ∨ base ≤ k) wr wr') (hg : Grow wr' base (w.heap.size + 2) vt' vn' vr' s2 ts' ns' rvs') :
    OSt w wr' F A1 c1 A2 c2 A3 c3 T N R st G b S n f base zb nf lv l vt' vn' vr' s2 ts' ns' rvs' := by
  obtain ⟨cells, h1, h2, h3⟩ := h.now
  have hz := h.hz
  refine ⟨⟨h.t.g.touch ht (fun k hk hk' => by have := h.hF k hk; omega) (by omega), h.t.s.touch ht (fun k hk hk' => by have := h.hS k hk; omega), h.t.b.trans (ht.below (fun k hk _ hk' => by omega) h.t.b.size)⟩, h.zero.touch ht (by omega), ⟨cells, h1.touch ht (by omega), h2, h3⟩, h.lst.touch ht (fun k hk hk' => by omega), hg, h.hF, h.hS, ⟨h.hz.1, h.hz.2.1, Nat.le_trans h.hz.2.2 ht.size⟩⟩
theorem OSt.grownBoxes (h : OSt w wr F A1 c1 A2 c2 A3 c3 T N R st G b S n f base zb nf lv l vt vn vr s' ts ns rvs) {row : Option Nat} (hg : wr.grownBy w2 row) (hr : ∀ k, row = some k → base ≤ k) :
    GBox w2 F w.heap.size A1 c1 A2 c2 A3 c3 T N R st G ∧ Blk w2 (w.heap.size + 2) 25 #[vt, vn, vr, .int .i64 s'] := by
  have hz := h.hz
  have ht : Touch (fun k => base ≤ k) wr w2 := (Touch.refl _ wr).grown hg (fun k hk _ => hr k hk)
  exact ⟨h.t.g.touch ht (fun k hk hk' => by have := h.hF k hk; omega) (by omega), h.g.blk.touch ht (by omega)⟩
theorem OSt.touch_row (h : OSt w wr F A1 c1 A2 c2 A3 c3 T N R st G b S n f base zb nf lv l vt vn vr s' ts ns rvs) {row : Option Nat} (hg : wr.grownBy w2 row) (hr : ∀ k, row = some k → base ≤ k) (i : Nat) : Touch (fun k => k = w.heap.size + 2 ∨ base ≤ k) wr (w2.setCell ⟨w.heap.size + 2, i, none⟩ v) :=
  ((Touch.refl _ wr).grown hg (fun k hk _ => .inr (hr k hk))).setCell (fun _ => .inl rfl) v
theorem OSt.addT {s : ByteArray} (h : OSt w wr F A1 c1 A2 c2 A3 c3 T N R st G b S n f base zb nf lv l vt vn vr s' ts ns rvs) (hg : wr.grownBy w2 vt.ownBlock) (ho : w2.ownsRow base 9 1 v (ts.length + 1) (ts.map Value.string ++ [.string s])) (hv : v.ownBlock = vt.ownBlock ∨ v.ownBlock = some wr.heap.size) :
    OSt w (w2.setCell ⟨w.heap.size + 2, 0, none⟩ v) F A1 c1 A2 c2 A3 c3 T N R st G b S n f base zb nf lv l v vn vr s' (ts ++ [s]) ns rvs :=
  h.turned (h.touch_row hg (fun k hk => (h.g.t.lt k hk).1) 0) (h.g.addT hg ho hv)
theorem OSt.addN {s : ByteArray} (h : OSt w wr F A1 c1 A2 c2 A3 c3 T N R st G b S n f base zb nf lv l vt vn vr s' ts ns rvs) (hg : wr.grownBy w2 vn.ownBlock) (ho : w2.ownsRow base 9 1 v (ns.length + 1) (ns.map Value.string ++ [.string s])) (hv : v.ownBlock = vn.ownBlock ∨ v.ownBlock = some wr.heap.size) :
    OSt w (w2.setCell ⟨w.heap.size + 2, 1, none⟩ v) F A1 c1 A2 c2 A3 c3 T N R st G b S n f base zb nf lv l vt v vr s' ts (ns ++ [s]) rvs :=
  h.turned (h.touch_row hg (fun k hk => (h.g.n.lt k hk).1) 1) (h.g.addN hg ho hv)
theorem OSt.addR {x : Int} {xs : List Int} {u : Value} (h : OSt w wr F A1 c1 A2 c2 A3 c3 T N R st G b S n f base zb nf lv l vt vn vr s' ts ns rvs) (hg : wr.grownBy w2 vr.ownBlock) (ho : w2.ownsRow base 30 2 v (rvs.length + 1) (flatR rvs ++ [.int .i64 x, u])) (hu : wr.ownsRow base 3 1 u xs.length (xs.map I64)) :
    OSt w (w2.setCell ⟨w.heap.size + 2, 2, none⟩ v) F A1 c1 A2 c2 A3 c3 T N R st G b S n f base zb nf lv l vt vn v s' ts ns (rvs ++ [((x, xs), u)]) :=
  h.turned (h.touch_row hg (fun k hk => (h.g.r.lt k hk).1) 2) (h.g.addR hg ho hu)
theorem OSt.start (h : OSt w wr F A1 c1 A2 c2 A3 c3 T N R st G b S n f base zb nf lv l vt vn vr s' ts ns rvs) (x : Int) :
    OSt w (wr.setCell ⟨w.heap.size + 2, 3, none⟩ (.int .i64 x)) F A1 c1 A2 c2 A3 c3 T N R st G b S n f base zb nf lv l vt vn vr x ts ns rvs :=
  h.turned ((Touch.refl _ wr).setCell (fun _ => .inl rfl) _) (h.g.start x)
theorem OSt.setNow {nf' : Int → Int} (h : OSt w wr F A1 c1 A2 c2 A3 c3 T N R st G b S n f base zb nf lv l vt vn vr s' ts ns rvs) {x : Nat} {u : Int} (hx : x < n) (hn : ∀ y : Nat, y < n → nf' y = if (y : Int) = (x : Int) then u else nf y) :
    OSt w (wr.setCell ⟨zb, x, none⟩ (I64 u)) F A1 c1 A2 c2 A3 c3 T N R st G b S n f base zb nf' lv l vt vn vr s' ts ns rvs := by
  obtain ⟨cells, h1, h2, h3⟩ := h.now
  have hz := h.hz
  have ht : Touch (fun k => k = zb) wr (wr.setCell ⟨zb, x, none⟩ (I64 u)) := (Touch.refl (fun k => k = zb) wr).setCell (fun _ => rfl) _
  refine ⟨⟨h.t.g.touch ht (fun k hk hk' => by have := h.hF k hk; omega) (by omega), h.t.s.touch ht (fun k hk hk' => by have := h.hS k hk; omega), h.t.b.trans (ht.below (fun k hk _ hk' => by omega) h.t.b.size)⟩, h.zero.touch ht (by omega), ⟨_, h1.put x _, by simpa using h2, fun y hy => ?_⟩, h.lst.touch ht (fun k hk hk' => by omega),
    ⟨h.g.blk.touch ht (by omega), ht.own h.g.t (fun k hk hk' => by have := (h.g.t.lt k hk).1; omega), ht.own h.g.n (fun k hk hk' => by have := (h.g.n.lt k hk).1; omega), ht.own h.g.r (fun k hk hk' => by have := (h.g.r.lt k hk).1; omega), fun p hp => ht.own (h.g.q p hp) (fun k hk hk' => by have := ((h.g.q p hp).lt k hk).1; omega), h.g.apart⟩, h.hF, h.hS, ⟨h.hz.1, h.hz.2.1, Nat.le_trans h.hz.2.2 ht.size⟩⟩
  rw [hn y hy, Array.getElem?_setIfInBounds]
  by_cases e : x = y
  · subst e
    simp [h2, hx]
  · rw [if_neg e, if_neg (by omega)]
    exact h3 y hy
theorem OSt.nowAt (h : OSt w wr F A1 c1 A2 c2 A3 c3 T N R st G b S n f base zb nf lv l vt vn vr s' ts ns rvs) {x : Nat} (hx : x < n) : wr.cell? ⟨zb, x, none⟩ = some (I64 (nf x)) ∧ wr.frozen? ⟨zb, x, none⟩ = false ∧ zb < wr.heap.size := by
  obtain ⟨cells, h1, h2, h3⟩ := h.now
  exact ⟨(h1.cell x).trans (h3 x hx), h1.frozen x, h1.lt⟩
end
end Go.Proofs.Ytejjaabkbkkjlaa

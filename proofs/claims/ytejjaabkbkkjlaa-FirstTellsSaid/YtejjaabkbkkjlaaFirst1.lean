/- Families of sets; first.sizes, first.fresh. -/
import Derived.Test.YtejjaabkbkkjlaaFirstPlain
import Derived.Test.YtejjaabkbkkjlaaLive1
import Derived.Test.YtejjaabkbkkjlaaGrow
namespace Go.Proofs.Ytejjaabkbkkjlaa
set_option linter.unusedVariables false
open Go.RowKit
attribute [local irreducible] wpStill wpOne wpPh

/-- n sets with room m: the row g holds where they lie -/
structure Fam (w : World) (g n m : Nat) (ps : Nat → Nat) (foot : Nat → Nat → Prop) (F : Nat → Nat → Bool) : Prop where
  cell : ∀ i, i < n → w.cell? ⟨g, i, none⟩ = some (.pointer (some ⟨ps i, 0, none⟩))
  set : ∀ i, i < n → IsSet w (ps i) (foot i) m (F i)
  far : ∀ i, i < n → ¬ foot i g
  apart : ∀ i j k, i < n → j < n → foot i k → foot j k → i = j
  lt : g < w.heap.size
section
variable {w w' : World} {g n m : Nat} {ps : Nat → Nat} {foot : Nat → Nat → Prop} {F : Nat → Nat → Bool} {S : Nat → Prop}
theorem Fam.touch (h : Fam w g n m ps foot F) (ht : Touch S w w') (hg : ¬ S g) (hS : ∀ i, i < n → ∀ k, foot i k → ¬ S k) : Fam w' g n m ps foot F :=
  ⟨fun i hi => ht.cell (h.cell i hi) hg, fun i hi => (h.set i hi).touch ht (hS i hi), h.far, h.apart, Nat.lt_of_lt_of_le h.lt ht.size⟩
theorem Fam.below (h : Fam w g n m ps foot F) (hb : Below w.heap.size w w') : Fam w' g n m ps foot F :=
  h.touch (Touch.of_size hb (fun _ => False)) (fun h => h) (fun _ _ _ _ h => h)
theorem Fam.put (h : Fam w g n m ps foot F) {i : Nat} (hi : i < n) {f : Nat → Bool} (hs : IsSet w' (ps i) (foot i) m f) (ht : Touch (foot i) w w') : Fam w' g n m ps foot (setF F i f) := by
  refine ⟨fun j hj => ht.cell (h.cell j hj) (h.far i hi), fun j hj => ?_, h.far, h.apart, Nat.lt_of_lt_of_le h.lt ht.size⟩
  by_cases e : j = i
  · subst e; rw [setF_same]; exact hs
  · rw [setF_ne e]; exact (h.set j hj).touch ht fun k hk hk' => e (h.apart j i k hj hi hk hk')
theorem Fam.ext (h : Fam w g n m ps foot F) {F' : Nat → Nat → Bool} (e : ∀ i, i < n → F' i = F i) : Fam w g n m ps foot F' :=
  ⟨h.cell, fun i hi => by rw [e i hi]; exact h.set i hi, h.far, h.apart, h.lt⟩
end

theorem bool_of {a b : Bool} (h : a = true ↔ b = true) : a = b := Bool.eq_iff_iff.2 h
/-! ### sizes -/
theorem sizes_symbol (t p : Nat) (x : Int) (w : World) : Calls Try.prog 124 #[.agg #[.int .i64 t, .int .i64 p], .int .i64 x] w (Quiet w (.bool (decide (0 ≤ x) && decide (x ≤ p)))) := by
  go_enter Try.func124, Try.ntmps124
  by_cases h0 : 0 ≤ x
  · by_cases h1 : x ≤ (p : Int)
    · go_wp2_with fail
      go_ret
      exact ⟨ret_bool (bool_of (by simp <;> omega)), (Below.refl _ _).alloc (Nat.le_refl _) _⟩
    · go_wp2_with fail
      go_ret
      exact ⟨ret_bool (bool_of (by simp <;> omega)), (Below.refl _ _).alloc (Nat.le_refl _) _⟩
  · go_wp2_with fail
    go_ret
    exact ⟨ret_bool (bool_of (by simp <;> omega)), (Below.refl _ _).alloc (Nat.le_refl _) _⟩
theorem sizes_non (t p : Nat) (x : Int) (w : World) : Calls Try.prog 126 #[.agg #[.int .i64 t, .int .i64 p], .int .i64 x] w (Quiet w (.bool (decide ((t : Int) < x) && decide (x ≤ p)))) := by
  go_enter Try.func126, Try.ntmps126
  by_cases h0 : (t : Int) < x
  · by_cases h1 : x ≤ (p : Int)
    · go_wp2_with fail
      go_ret
      exact ⟨ret_bool (bool_of (by simp <;> omega)), (Below.refl _ _).alloc (Nat.le_refl _) _⟩
    · go_wp2_with fail
      go_ret
      exact ⟨ret_bool (bool_of (by simp <;> omega)), (Below.refl _ _).alloc (Nat.le_refl _) _⟩
  · go_wp2_with fail
    go_ret
    exact ⟨ret_bool (bool_of (by simp <;> omega)), (Below.refl _ _).alloc (Nat.le_refl _) _⟩

/-- a tail of a list, as the model makes it -/
theorem RdI.tail {w : World} {F : Nat → Prop} {bb off n c : Nat} {xs : List Int} (h : RdI w F (.slice (some ⟨bb, off, none⟩) n c) xs) {k : Nat} (hk : k ≤ n) : RdI w F (.slice (if c = k then some ⟨bb, off, none⟩ else some ⟨bb, off + k, none⟩) (n - k) (c - k)) (xs.drop k) := by
  obtain ⟨hn, hnc, hcm, hcell⟩ := RdI.at_ h
  refine ⟨_, _, _, rfl, by omega, by omega, by simp; omega, fun hn0 => ?_⟩
  obtain ⟨b, o, e, hF, hc⟩ := hcell (by omega)
  injection e with e
  injection e with e1 e2 _
  subst e1 e2
  rw [if_neg (by omega)]
  refine ⟨_, _, rfl, hF, fun j u hu => ?_⟩
  rw [List.getElem?_map, List.getElem?_drop] at hu
  obtain ⟨x, hx, rfl⟩ := Option.map_eq_some_iff.1 hu
  rw [Nat.add_assoc]
  exact hc _ x hx

/-! ### fresh -/
theorem Try.infoSetP : (Try.prog.info? 96).map (fun i => (i.zero, i.size, i.bytes)) = some (some (.pointer none), 1, 8) := by kernel_rfl
theorem Try.elemSetP : Elem Try.prog 108 96 (.pointer none) 1 8 := ⟨Try.underlying108, Try.infoSetP, rfl, by decide⟩
abbrev PtrV (b : Nat) : Value := .pointer (some ⟨b, 0, none⟩)

/-- a family that is being made -/
structure FamG (w wr : World) (A : Option Addr) (k c m : Nat) (ps : Nat → Nat) (foot : Nat → Nat → Prop) : Prop where
  own : wr.ownsRow w.heap.size 96 1 (.slice A k c) k ((List.range k).map fun i => PtrV (ps i))
  set : ∀ i, i < k → IsSet wr (ps i) (foot i) m noBits
  low : ∀ i q, i < k → foot i q → w.heap.size ≤ q ∧ q < wr.heap.size ∧ (Value.slice A k c).ownBlock ≠ some q
  apart : ∀ i j q, i < k → j < k → foot i q → foot j q → i = j
  b : Below w.heap.size w wr
theorem FamG.zero (w : World) (m : Nat) : FamG w w none 0 0 m (fun _ => 0) (fun _ _ => False) :=
  ⟨World.ownsRow_nil _ _ _ _, fun i hi => absurd hi (by omega), fun i q hi => absurd hi (by omega), fun i j q hi => absurd hi (by omega), Below.refl _ _⟩
theorem FamG.push {w wr w1 w2 w3 : World} {A B : Option Addr} {k c d m b : Nat} {ps : Nat → Nat} {foot : Nat → Nat → Prop} {o : Obj} (h : FamG w wr A k c m ps foot) (hs : IsSet w1 b (New (fun _ => False) wr w1) m noBits) (hb : Below wr.heap.size wr w1) (h2 : w2 = w1.alloc o)
    (ho : w3.ownsRow w.heap.size 96 1 (.slice B (k + 1) d) (k + 1) (((List.range k).map fun i => PtrV (ps i)) ++ [PtrV b])) (hg : w2.grownBy w3 (Value.slice A k c).ownBlock) (hv : (Value.slice B (k + 1) d).ownBlock = (Value.slice A k c).ownBlock ∨ (Value.slice B (k + 1) d).ownBlock = some w2.heap.size) :
    FamG w w3 B (k + 1) d m (fun i => if i = k then b else ps i) (fun i => if i = k then New (fun _ => False) wr w1 else foot i) := by
  have hz := h.b.size
  have hz1 := hb.size
  have hz2 : w2.heap.size = w1.heap.size + 1 := by rw [h2]; simp
  have hz3 := hg.size
  have hown : ∀ q, (Value.slice A k c).ownBlock = some q → q < wr.heap.size := fun q hq => (h.own.lt q hq).2
  have hownlo : ∀ q, (Value.slice A k c).ownBlock = some q → w.heap.size ≤ q := fun q hq => (h.own.lt q hq).1
  have b2 : Below wr.heap.size wr w2 := by rw [h2]; exact hb.alloc hz1 _
  have b12 : Below w1.heap.size w1 w2 := by rw [h2]; exact (Below.refl _ _).alloc (Nat.le_refl _) _
  have t3 : Touch (fun q => (Value.slice A k c).ownBlock = some q) w2 w3 := (Touch.refl _ w2).grown hg (fun q hq _ => hq)
  have hN : ∀ q, New (fun _ => False) wr w1 q → wr.heap.size ≤ q ∧ q < w1.heap.size := fun q hq => by
    rcases hq with hq | hq
    · exact hq.elim
    · exact hq
  have hB : ∀ q, (Value.slice B (k + 1) d).ownBlock = some q → q < wr.heap.size ∧ (Value.slice A k c).ownBlock = some q ∨ q = w2.heap.size := fun q hq => by
    rcases hv with hv | hv
    · rw [hv] at hq; exact .inl ⟨hown q hq, hq⟩
    · rw [hv] at hq; injection hq with hq; exact .inr hq.symm
  refine ⟨?_, fun i hi => ?_, fun i q hi hq => ?_, fun i j q hi hj hiq hjq => ?_, (h.b.trans (b2.mono hz)).trans (t3.below (fun q hq _ hq' => by have := hownlo q hq'; omega) (by omega))⟩
  · have e : (List.range (k + 1)).map (fun i => PtrV (if i = k then b else ps i)) = ((List.range k).map fun i => PtrV (ps i)) ++ [PtrV b] := by
      rw [List.range_succ, List.map_append]
      congr 1
      · refine List.map_congr_left fun i hi => ?_
        have := List.mem_range.1 hi
        rw [if_neg (by omega)]
      · simp
    rw [e]; exact ho
  · by_cases e : i = k
    · subst e
      simp only [if_true]
      exact (hs.touch (Touch.of_size b12 (fun _ => False)) (fun _ _ h => h)).touch t3 fun q hq hq' => by have := hN q hq; have := hown q hq'; omega
    · simp only [if_neg e]
      have := h.set i (by omega)
      exact (this.touch (Touch.of_size b2 (fun _ => False)) (fun _ _ h => h)).touch t3 fun q hq hq' => (h.low i q (by omega) hq).2.2 hq'
  · by_cases e : i = k
    · subst e
      simp only [if_true] at hq
      have := hN q hq
      refine ⟨by omega, by omega, fun hh => ?_⟩
      rcases hB q hh with h1 | h1 <;> omega
    · simp only [if_neg e] at hq
      obtain ⟨l1, l2, l3⟩ := h.low i q (by omega) hq
      refine ⟨l1, by omega, fun hh => ?_⟩
      rcases hB q hh with h1 | h1
      · exact l3 h1.2
      · omega
  · by_cases ei : i = k
    · by_cases ej : j = k
      · omega
      · subst ei
        simp only [if_true] at hiq
        simp only [if_neg ej] at hjq
        have := hN q hiq
        have := h.low j q (by omega) hjq
        omega
    · by_cases ej : j = k
      · subst ej
        simp only [if_true] at hjq
        simp only [if_neg ei] at hiq
        have := hN q hjq
        have := h.low i q (by omega) hiq
        omega
      · simp only [if_neg ei] at hiq
        simp only [if_neg ej] at hjq
        exact h.apart i j q (by omega) (by omega) hiq hjq
theorem FamG.fam {w wr : World} {A : Option Addr} {k c m : Nat} {ps : Nat → Nat} {foot : Nat → Nat → Prop} (h : FamG w wr A k c m ps foot) (hk : 0 < k) : ∃ g, A = some ⟨g, 0, none⟩ ∧ w.heap.size ≤ g ∧ g < wr.heap.size ∧ k ≤ c ∧ c ≤ 9223372036854775807 ∧ Fam wr g k m ps foot (fun _ => noBits) := by
  have hl := h.own.lt
  rcases h.own.2 with ⟨h1, h2⟩ | ⟨g, cap, cur, h1, hb, hh, hn, hc, hz, ht⟩
  · injection h1 with _ h1; omega
  · injection h1 with e1 e2 e3
    subst e1
    have hl := hl g rfl
    refine ⟨g, rfl, hl.1, hl.2, by omega, by unfold maxLen at hc; omega, fun i hi => ?_, h.set, fun i hi hf => ?_, h.apart, hl.2⟩
    · rw [cell_of_row wr g i cur _ (0, 0) hh]
      have h3 : ((List.range k).map fun i => PtrV (ps i))[i]? = some (PtrV (ps i)) := by simp [hi]
      rw [← ht, List.getElem?_take] at h3
      split at h3
      · simpa using h3
      · cases h3
    · exact (h.low i g hi hf).2.2 rfl

def FreshPost (w : World) (n m : Nat) (e : Ending) (w' : World) : Prop := ∃ g c ps foot, e = .returned (.slice (some ⟨g, 0, none⟩) n c) ∧ n ≤ c ∧ c ≤ 9223372036854775807 ∧ w.heap.size ≤ g ∧ g < w'.heap.size ∧ (∀ i q, i < n → foot i q → w.heap.size ≤ q ∧ q < w'.heap.size) ∧ Fam w' g n m ps foot (fun _ => noBits) ∧ Below w.heap.size w w'
set_option maxRecDepth 100000 in
set_option maxHeartbeats 2000000 in
theorem first_fresh (w : World) (n m : Nat) (hn : 1 ≤ n ∧ n ≤ 4096) (hm : m ≤ 4096) : Calls Try.prog 115 #[.int .i64 n, .int .i64 m] w (FreshPost w n m) := by
  go_enter Try.func115, Try.ntmps115
  go_wp2_with fail
  go_loopw [5, 7] (fun v i wr => ∃ (k : Nat) (A : Option Addr) (c : Nat) (ps : Nat → Nat) (foot : Nat → Nat → Prop), k ≤ n ∧ i = .int .i64 k ∧ v = .slice A k c ∧ FamG w wr A k c m ps foot) (fun _ i _ => n - (intOf i).toNat)
  case atStart => exact ⟨0, none, 0, _, _, Nat.zero_le _, rfl, rfl, FamG.zero w m⟩
  case round =>
    obtain ⟨k, A, c, ps, foot, hk, rfl, rfl, t⟩ := hrel
    by_cases hlt : k < n
    · have hlt' : (k : Int) < (n : Int) := by omega
      have Xt := hide t
      clear t
      go_wp2_with fail
      refine (set_new _ wr).mono ?_
      rintro e w1 ⟨rfl, hs, b1⟩
      rw [show (min (max (m : Int) 0) 4096).toNat = m by omega] at hs
      have o1 := own_below' Xt.out.own b1
      have zb := Xt.out.b.size
      have zb1 := b1.size
      have Xhs := hide hs
      have Xb1 := hide b1
      clear hs b1
      go_wp2_with (at_builtin; refine wp_append _ rfl (.tmp 9) (.tmp 12) _ rfl Try.elemSetP w.heap.size _ k _ rfl (o1.alloc _) _ _ [PtrV (wr.heap.size + 1)] 1 rfl rfl (Rd.one [PtrV (wr.heap.size + 1)] 1 rfl) (by simp [Value.oneCell', PtrV]) (by unfold maxLen; omega) (by omega) (by simp; omega) ?_)
      intro A2 c2 w2 ho hg hv
      have t2 := Xt.out.push Xhs.out Xb1.out rfl ho hg (by simpa using hv)
      have Xt2 := hide t2
      clear t2
      go_wp2_with fail
      go_roundw
      case rel => exact ⟨k + 1, A2, c2, _, _, by omega, by go_num, rfl, Xt2.out⟩
      case measure => simp [intOf]; omega
    · have hkn : k = n := by omega
      have hlt' : ¬ (k : Int) < (n : Int) := by omega
      have fin : FreshPost w n m (.returned (.slice A k c)) wr := by
        subst hkn
        obtain ⟨g, rfl, h1, h2, h3, h4, h5⟩ := t.fam (by omega)
        exact ⟨g, c, ps, foot, rfl, h3, h4, h1, h2, fun i q hi hq => ⟨(t.low i q hi hq).1, (t.low i q hi hq).2.1⟩, h5, t.b⟩
      have Xt := hide t
      have Xfin := hide fin
      clear t fin
      clear hkn
      go_wp2_with fail
      go_ret
      exact Xfin.out
end Go.Proofs.Ytejjaabkbkkjlaa

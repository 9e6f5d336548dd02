/- Families of sets; first.sizes, first.fresh. -/
import Derived.Test.YtejjaabkbkkjlaaFirstPlain
import Derived.Test.YtejjaabkbkkjlaaLive1
import Derived.Test.YtejjaabkbkkjlaaGrow
namespace Go.Proofs.Ytejjaabkbkkjlaa
set_option linter.unusedVariables false

section
open Go.RowKit
attribute [local irreducible] wpStill wpOne wpPh

/-- n sets with room m: the row g holds where they lie -/
structure Fam (w : World) (g n m : Nat) (ps : Nat → Nat) (foot : Nat → Nat → Prop) (F : Nat → Nat → Bool) : Prop where
  cell : ∀ i, i < n → w.cell? ⟨g, i, none⟩ = some (.pointer (some ⟨ps i, 0, none⟩))
  set : ∀ i, i < n → IsSet w (ps i) (foot i) m (F i)
  far : ∀ i, i < n → ¬ foot i g
  apart : ∀ i j k, i < n → j < n → foot i k → foot j k → i = j
  lt : g < w.heap.size
section
variable {w w' : World} {g n m : Nat} {ps : Nat → Nat} {foot : Nat → Nat → Prop} {F : Nat → Nat → Bool} {S : Nat → Prop}
theorem Fam.touch (h : Fam w g n m ps foot F) (ht : Touch S w w') (hg : ¬ S g) (hS : ∀ i, i < n → ∀ k, foot i k → ¬ S k) : Fam w' g n m ps foot F :=
  ⟨fun i hi => ht.cell (h.cell i hi) hg, fun i hi => (h.set i hi).touch ht (hS i hi), h.far, h.apart, Nat.lt_of_lt_of_le h.lt ht.size⟩
theorem Fam.below (h : Fam w g n m ps foot F) (hb : Below w.heap.size w w') : Fam w' g n m ps foot F :=
  h.touch (Touch.of_size hb (fun _ => False)) (fun h => h) (fun _ _ _ _ h => h)
theorem Fam.put (h : Fam w g n m ps foot F) {i : Nat} (hi : i < n) {f : Nat → Bool} (hs : IsSet w' (ps i) (foot i) m f) (ht : Touch (foot i) w w') : Fam w' g n m ps foot (setF F i f) := by
  refine ⟨fun j hj => ht.cell (h.cell j hj) (h.far i hi), fun j hj => ?_, h.far, h.apart, Nat.lt_of_lt_of_le h.lt ht.size⟩
  by_cases e : j = i
  · subst e; rw [setF_same]; exact hs
  · rw [setF_ne e]; exact (h.set j hj).touch ht fun k hk hk' => e (h.apart j i k hj hi hk hk')
theorem Fam.ext (h : Fam w g n m ps foot F) {F' : Nat → Nat → Bool} (e : ∀ i, i < n → F' i = F i) : Fam w g n m ps foot F' :=
  ⟨h.cell, fun i hi => by rw [e i hi]; exact h.set i hi, h.far, h.apart, h.lt⟩
end

theorem bool_of {a b : Bool} (h : a = true ↔ b = true) : a = b := Bool.eq_iff_iff.2 h
/-! ### sizes -/
theorem sizes_symbol (t p : Nat) (x : Int) (w : World) : Calls Try.prog 124 #[.agg #[.int .i64 t, .int .i64 p], .int .i64 x] w (Quiet w (.bool (decide (0 ≤ x) && decide (x ≤ p)))) := by
  go_enter Try.func124, Try.ntmps124
  by_cases h0 : 0 ≤ x
  · by_cases h1 : x ≤ (p : Int)
    · go_wp2_with fail
      go_ret
      exact ⟨ret_bool (bool_of (by simp <;> omega)), (Below.refl _ _).alloc (Nat.le_refl _) _⟩
    · go_wp2_with fail
      go_ret
      exact ⟨ret_bool (bool_of (by simp <;> omega)), (Below.refl _ _).alloc (Nat.le_refl _) _⟩
  · go_wp2_with fail
    go_ret
    exact ⟨ret_bool (bool_of (by simp <;> omega)), (Below.refl _ _).alloc (Nat.le_refl _) _⟩
theorem sizes_non (t p : Nat) (x : Int) (w : World) : Calls Try.prog 126 #[.agg #[.int .i64 t, .int .i64 p], .int .i64 x] w (Quiet w (.bool (decide ((t : Int) < x) && decide (x ≤ p)))) := by
  go_enter Try.func126, Try.ntmps126
  by_cases h0 : (t : Int) < x
  · by_cases h1 : x ≤ (p : Int)
    · go_wp2_with fail
      go_ret
      exact ⟨ret_bool (bool_of (by simp <;> omega)), (Below.refl _ _).alloc (Nat.le_refl _) _⟩
    · go_wp2_with fail
      go_ret
      exact ⟨ret_bool (bool_of (by simp <;> omega)), (Below.refl _ _).alloc (Nat.le_refl _) _⟩
  · go_wp2_with fail
    go_ret
    exact ⟨ret_bool (bool_of (by simp <;> omega)), (Below.refl _ _).alloc (Nat.le_refl _) _⟩

/-- a tail of a list, as the model makes it -/
theorem RdI.tail {w : World} {F : Nat → Prop} {bb off n c : Nat} {xs : List Int} (h : RdI w F (.slice (some ⟨bb, off, none⟩) n c) xs) {k : Nat} (hk : k ≤ n) : RdI w F (.slice (if c = k then some ⟨bb, off, none⟩ else some ⟨bb, off + k, none⟩) (n - k) (c - k)) (xs.drop k) := by
  obtain ⟨hn, hnc, hcm, hcell⟩ := RdI.at_ h
  refine ⟨_, _, _, rfl, by omega, by omega, by simp; omega, fun hn0 => ?_⟩
  obtain ⟨b, o, e, hF, hc⟩ := hcell (by omega)
  injection e with e
  injection e with e1 e2 _
  subst e1 e2
  rw [if_neg (by omega)]
  refine ⟨_, _, rfl, hF, fun j u hu => ?_⟩
  rw [List.getElem?_map, List.getElem?_drop] at hu
  obtain ⟨x, hx, rfl⟩ := Option.map_eq_some_iff.1 hu
  rw [Nat.add_assoc]
  exact hc _ x hx

/-! ### fresh -/
theorem Try.infoSetP : (Try.prog.info? 96).map (fun i => (i.zero, i.size, i.bytes)) = some (some (.pointer none), 1, 8) := by kernel_rfl
theorem Try.elemSetP : Elem Try.prog 108 96 (.pointer none) 1 8 := ⟨Try.underlying108, Try.infoSetP, rfl, by decide⟩
abbrev PtrV (b : Nat) : Value := .pointer (some ⟨b, 0, none⟩)

/-- a family that is being made -/
structure FamG (w wr : World) (A : Option Addr) (k c m : Nat) (ps : Nat → Nat) (foot : Nat → Nat → Prop) : Prop where
  own : wr.ownsRow w.heap.size 96 1 (.slice A k c) k ((List.range k).map fun i => PtrV (ps i))
  set : ∀ i, i < k → IsSet wr (ps i) (foot i) m noBits
  low : ∀ i q, i < k → foot i q → w.heap.size ≤ q ∧ q < wr.heap.size ∧ (Value.slice A k c).ownBlock ≠ some q
  apart : ∀ i j q, i < k → j < k → foot i q → foot j q → i = j
  b : Below w.heap.size w wr
theorem FamG.zero (w : World) (m : Nat) : FamG w w none 0 0 m (fun _ => 0) (fun _ _ => False) :=
  ⟨World.ownsRow_nil _ _ _ _, fun i hi => absurd hi (by omega), fun i q hi => absurd hi (by omega), fun i j q hi => absurd hi (by omega), Below.refl _ _⟩
theorem FamG.push {w wr w1 w2 w3 : World} {A B : Option Addr} {k c d m b : Nat} {ps : Nat → Nat} {foot : Nat → Nat → Prop} {o : Obj} (h : FamG w wr A k c m ps foot) (hs : IsSet w1 b (New (fun _ => False) wr w1) m noBits) (hb : Below wr.heap.size wr w1) (h2 : w2 = w1.alloc o)
    (ho : w3.ownsRow w.heap.size 96 1 (.slice B (k + 1) d) (k + 1) (((List.range k).map fun i => PtrV (ps i)) ++ [PtrV b])) (hg : w2.grownBy w3 (Value.slice A k c).ownBlock) (hv : (Value.slice B (k + 1) d).ownBlock = (Value.slice A k c).ownBlock ∨ (Value.slice B (k + 1) d).ownBlock = some w2.heap.size) :
    FamG w w3 B (k + 1) d m (fun i => if i = k then b else ps i) (fun i => if i = k then New (fun _ => False) wr w1 else foot i) := by
  have hz := h.b.size
  have hz1 := hb.size
  have hz2 : w2.heap.size = w1.heap.size + 1 := by rw [h2]; simp
  have hz3 := hg.size
  have hown : ∀ q, (Value.slice A k c).ownBlock = some q → q < wr.heap.size := fun q hq => (h.own.lt q hq).2
  have hownlo : ∀ q, (Value.slice A k c).ownBlock = some q → w.heap.size ≤ q := fun q hq => (h.own.lt q hq).1
  have b2 : Below wr.heap.size wr w2 := by rw [h2]; exact hb.alloc hz1 _
  have b12 : Below w1.heap.size w1 w2 := by rw [h2]; exact (Below.refl _ _).alloc (Nat.le_refl _) _
  have t3 : Touch (fun q => (Value.slice A k c).ownBlock = some q) w2 w3 := (Touch.refl _ w2).grown hg (fun q hq _ => hq)
  have hN : ∀ q, New (fun _ => False) wr w1 q → wr.heap.size ≤ q ∧ q < w1.heap.size := fun q hq => by
    rcases hq with hq | hq
    · exact hq.elim
    · exact hq
  have hB : ∀ q, (Value.slice B (k + 1) d).ownBlock = some q → q < wr.heap.size ∧ (Value.slice A k c).ownBlock = some q ∨ q = w2.heap.size := fun q hq => by
    rcases hv with hv | hv
    · rw [hv] at hq; exact .inl ⟨hown q hq, hq⟩
    · rw [hv] at hq; injection hq with hq; exact .inr hq.symm
  refine ⟨?_, fun i hi => ?_, fun i q hi hq => ?_, fun i j q hi hj hiq hjq => ?_, (h.b.trans (b2.mono hz)).trans (t3.below (fun q hq _ hq' => by have := hownlo q hq'; omega) (by omega))⟩
  · have e : (List.range (k + 1)).map (fun i => PtrV (if i = k then b else ps i)) = ((List.range k).map fun i => PtrV (ps i)) ++ [PtrV b] := by
      rw [List.range_succ, List.map_append]
      congr 1
      · refine List.map_congr_left fun i hi => ?_
        have := List.mem_range.1 hi
        rw [if_neg (by omega)]
      · simp
    rw [e]; exact ho
  · by_cases e : i = k
    · subst e
      simp only [if_true]
      exact (hs.touch (Touch.of_size b12 (fun _ => False)) (fun _ _ h => h)).touch t3 fun q hq hq' => by have := hN q hq; have := hown q hq'; omega
    · simp only [if_neg e]
      have := h.set i (by omega)
      exact (this.touch (Touch.of_size b2 (fun _ => False)) (fun _ _ h => h)).touch t3 fun q hq hq' => (h.low i q (by omega) hq).2.2 hq'
  · by_cases e : i = k
    · subst e
      simp only [if_true] at hq
      have := hN q hq
      refine ⟨by omega, by omega, fun hh => ?_⟩
      rcases hB q hh with h1 | h1 <;> omega
    · simp only [if_neg e] at hq
      obtain ⟨l1, l2, l3⟩ := h.low i q (by omega) hq
      refine ⟨l1, by omega, fun hh => ?_⟩
      rcases hB q hh with h1 | h1
      · exact l3 h1.2
      · omega
  · by_cases ei : i = k
    · by_cases ej : j = k
      · omega
      · subst ei
        simp only [if_true] at hiq
        simp only [if_neg ej] at hjq
        have := hN q hiq
        have := h.low j q (by omega) hjq
        omega
    · by_cases ej : j = k
      · subst ej
        simp only [if_true] at hjq
        simp only [if_neg ei] at hiq
        have := hN q hjq
        have := h.low i q (by omega) hiq
        omega
      · simp only [if_neg ei] at hiq
        simp only [if_neg ej] at hjq
        exact h.apart i j q (by omega) (by omega) hiq hjq
theorem FamG.fam {w wr : World} {A : Option Addr} {k c m : Nat} {ps : Nat → Nat} {foot : Nat → Nat → Prop} (h : FamG w wr A k c m ps foot) (hk : 0 < k) : ∃ g, A = some ⟨g, 0, none⟩ ∧ w.heap.size ≤ g ∧ g < wr.heap.size ∧ k ≤ c ∧ c ≤ 9223372036854775807 ∧ Fam wr g k m ps foot (fun _ => noBits) := by
  have hl := h.own.lt
  rcases h.own.2 with ⟨h1, h2⟩ | ⟨g, cap, cur, h1, hb, hh, hn, hc, hz, ht⟩
  · injection h1 with _ h1; omega
  · injection h1 with e1 e2 e3
    subst e1
    have hl := hl g rfl
    refine ⟨g, rfl, hl.1, hl.2, by omega, by unfold maxLen at hc; omega, fun i hi => ?_, h.set, fun i hi hf => ?_, h.apart, hl.2⟩
    · rw [cell_of_row wr g i cur _ (0, 0) hh]
      have h3 : ((List.range k).map fun i => PtrV (ps i))[i]? = some (PtrV (ps i)) := by simp [hi]
      rw [← ht, List.getElem?_take] at h3
      split at h3
      · simpa using h3
      · cases h3
    · exact (h.low i g hi hf).2.2 rfl

def FreshPost (w : World) (n m : Nat) (e : Ending) (w' : World) : Prop := ∃ g c ps foot, e = .returned (.slice (some ⟨g, 0, none⟩) n c) ∧ n ≤ c ∧ c ≤ 9223372036854775807 ∧ w.heap.size ≤ g ∧ g < w'.heap.size ∧ (∀ i q, i < n → foot i q → w.heap.size ≤ q ∧ q < w'.heap.size) ∧ Fam w' g n m ps foot (fun _ => noBits) ∧ Below w.heap.size w w'
set_option maxRecDepth 100000 in
set_option maxHeartbeats 2000000 in
theorem first_fresh (w : World) (n m : Nat) (hn : 1 ≤ n ∧ n ≤ 4096) (hm : m ≤ 4096) : Calls Try.prog 115 #[.int .i64 n, .int .i64 m] w (FreshPost w n m) := by
  go_enter Try.func115, Try.ntmps115
  go_wp2_with fail
  go_loopw [5, 7] (fun v i wr => ∃ (k : Nat) (A : Option Addr) (c : Nat) (ps : Nat → Nat) (foot : Nat → Nat → Prop), k ≤ n ∧ i = .int .i64 k ∧ v = .slice A k c ∧ FamG w wr A k c m ps foot) (fun _ i _ => n - (intOf i).toNat)
  case atStart => exact ⟨0, none, 0, _, _, Nat.zero_le _, rfl, rfl, FamG.zero w m⟩
  case round =>
    obtain ⟨k, A, c, ps, foot, hk, rfl, rfl, t⟩ := hrel
    by_cases hlt : k < n
    · have hlt' : (k : Int) < (n : Int) := by omega
      have Xt := hide t
      clear t
      go_wp2_with fail
      refine (set_new _ wr).mono ?_
      rintro e w1 ⟨rfl, hs, b1⟩
      rw [show (min (max (m : Int) 0) 4096).toNat = m by omega] at hs
      have o1 := own_below' Xt.out.own b1
      have zb := Xt.out.b.size
      have zb1 := b1.size
      have Xhs := hide hs
      have Xb1 := hide b1
      clear hs b1
      go_wp2_with (at_builtin; refine wp_append _ rfl (.tmp 9) (.tmp 12) _ rfl Try.elemSetP w.heap.size _ k _ rfl (o1.alloc _) _ _ [PtrV (wr.heap.size + 1)] 1 rfl rfl (Rd.one [PtrV (wr.heap.size + 1)] 1 rfl) (by simp [Value.oneCell', PtrV]) (by unfold maxLen; omega) (by omega) (by simp; omega) ?_)
      intro A2 c2 w2 ho hg hv
      have t2 := Xt.out.push Xhs.out Xb1.out rfl ho hg (by simpa using hv)
      have Xt2 := hide t2
      clear t2
      go_wp2_with fail
      go_roundw
      case rel => exact ⟨k + 1, A2, c2, _, _, by omega, by go_num, rfl, Xt2.out⟩
      case measure => simp [intOf]; omega
    · have hkn : k = n := by omega
      have hlt' : ¬ (k : Int) < (n : Int) := by omega
      have fin : FreshPost w n m (.returned (.slice A k c)) wr := by
        subst hkn
        obtain ⟨g, rfl, h1, h2, h3, h4, h5⟩ := t.fam (by omega)
        exact ⟨g, c, ps, foot, rfl, h3, h4, h1, h2, fun i q hi hq => ⟨(t.low i q hi hq).1, (t.low i q hi hq).2.1⟩, h5, t.b⟩
      have Xt := hide t
      have Xfin := hide fin
      clear t fin
      clear hkn
      go_wp2_with fail
      go_ret
      exact Xfin.out
end

section
open Go.RowKit
attribute [local irreducible] wpStill wpOne wpPh

/-- a set joined with another one of the same room -/
theorem set_or' {w : World} {b m b2 : Nat} {f g : Nat → Bool} {S S2 : Nat → Prop} (h : IsSet w b S m f) (h2 : IsSet w b2 S2 m g) :
    Calls Try.prog 147 #[PtrV b, PtrV b2] w (OrPost w b S m (fun t => f t || g t) (moreB m f (fun t => f t || g t))) := by
  have e1 : orSet (min m m) f g = fun t => f t || g t := by
    funext t
    unfold orSet
    rw [Nat.min_self]
    cases ht : decide (t < m) with
    | true => simp
    | false => have := h2.high t (by simpa using ht); simp [this]
  have e2 : orAns (min m m) f g = moreB m f (fun t => f t || g t) := by
    rw [Nat.min_self]
    refine bool_of ?_
    unfold orAns
    rw [moreB_iff, List.any_eq_true]
    constructor
    · rintro ⟨t, ht, hh⟩
      simp only [Bool.and_eq_true, Bool.not_eq_true'] at hh
      exact ⟨t, List.mem_range.1 ht, by simp [hh.1], hh.2⟩
    · rintro ⟨t, ht, h1, h2⟩
      rw [h2] at h1
      exact ⟨t, List.mem_range.2 ht, by simpa [h2] using h1⟩
  have := set_or h h2
  rwa [e1, e2] at this

/-- what a line's walk needs of memory: R w f: the set that is joined into holds f -/
structure LineRel (R : World → (Nat → Bool) → Prop) (s T p pe g c n m b : Nat) (Se S : Nat → Prop) (e : Nat → Bool) (bs : Nat → Nat) (Gf : Nat → (Nat → Bool) → Nat → Bool) : Prop where
  to : ∀ {w f}, R w f → IsSet w b S m f
  cells : ∀ {w f}, R w f → w.cell? ⟨s, 0, none⟩ = some (.int .i64 T) ∧ w.cell? ⟨s, 1, none⟩ = some (.int .i64 p) ∧ w.cell? ⟨s, 2, none⟩ = some (PtrV pe) ∧ w.cell? ⟨s, 3, none⟩ = some (.slice (some ⟨g, 0, none⟩) n c)
  em : ∀ {w f}, R w f → IsSet w pe Se n e
  el : ∀ {w f}, R w f → ∀ i, i < n → w.cell? ⟨g, i, none⟩ = some (PtrV (bs i)) ∧ ∃ Si, IsSet w (bs i) Si m (Gf i f)
  up : ∀ {w w' f f'}, R w f → IsSet w' b S m f' → Touch S w w' → R w' f'
  np : n = p + 1
  cap : n ≤ c ∧ c ≤ 9223372036854775807 ∧ n ≤ 4096
theorem LineRel.below {R : World → (Nat → Bool) → Prop} {s T p pe g c n m b : Nat} {Se S : Nat → Prop} {e : Nat → Bool} {bs : Nat → Nat} {Gf : Nat → (Nat → Bool) → Nat → Bool} (h : LineRel R s T p pe g c n m b Se S e bs Gf) {w w' : World} {f : Nat → Bool} (hr : R w f) (hb : Below w.heap.size w w') : R w' f :=
  h.up hr ((h.to hr).keep hb) ((Touch.of_size hb (fun _ => False)).mono fun _ _ h => h.elim)

def FLinePost (R : World → (Nat → Bool) → Prop) (S : Nat → Prop) (w : World) (m : Nat) (f0 f : Nat → Bool) (all : Bool) (e : Ending) (w' : World) : Prop := e = .returned (.tuple #[.bool (moreB m f0 f), .bool all]) ∧ R w' f ∧ Touch S w w'

set_option maxRecDepth 100000 in
set_option maxHeartbeats 4000000 in
theorem first_line {R : World → (Nat → Bool) → Prop} {s T p pe g c n m b : Nat} {Se S : Nat → Prop} {e : Nat → Bool} {bs : Nat → Nat} {Gf : Nat → (Nat → Bool) → Nat → Bool} (L : LineRel R s T p pe g c n m b Se S e bs Gf) {bg : Nat → Nat → Bool} {f0 : Nat → Bool} (hal : ∀ i, i < n → (∀ f, Gf i f = bg i) ∨ ((∀ f, Gf i f = f) ∧ bg i = f0))
    {w : World} (hw : R w f0) {F : Nat → Prop} {v : Value} {l : List Int} (hl : RdI w F v l) (hF : ∀ k, F k → ¬ S k) :
    Calls Try.prog 117 #[PtrV s, PtrV b, v] w (FLinePost R S w m f0 (joinL f0 (hasI n e) (famI n bg) l) (l.all (hasI n e))) := by
  obtain ⟨A, q, d, rfl, -⟩ := id hl
  obtain ⟨hn, hnd, hdm, hcell⟩ := RdI.at_ hl
  unfold maxLen at hdm
  have hm := (L.to hw).high
  have hgh : ∀ i, i < n → ∀ t, m ≤ t → bg i t = false := fun i hi t ht => by
    obtain ⟨-, Si, hs⟩ := L.el hw i hi
    rcases hal i hi with h | ⟨h1, h2⟩
    · rw [← h f0]; exact hs.high t ht
    · rw [h2]; exact hm t ht
  have hjoin : ∀ (f : Nat → Bool) (i : Nat), i < n → (∀ t, f0 t = true → f t = true) → orSet (min m m) f (Gf i f) = fun t => f t || bg i t := fun f i hi hf => by
    funext t
    unfold orSet
    rw [Nat.min_self]
    rcases hal i hi with h | ⟨h1, h2⟩
    · rw [h f]
      cases ht : decide (t < m) with
      | true => simp
      | false => have := hgh i hi t (by simpa using ht); simp [this]
    · rw [h1 f, h2]
      cases h3 : f t with
      | true => simp
      | false =>
        have : f0 t = false := by cases h4 : f0 t with
          | false => rfl
          | true => rw [hf t h4] at h3; cases h3
        simp [this]
  obtain ⟨np, nc, cm, nm⟩ := And.intro L.np L.cap
  have hw0 := hw
  have Xhn := hide hn
  have Xhl := hide hl
  have XhF := hide hF
  have Xhm := hide hm
  have Xhgh := hide hgh
  have Xhjoin := hide hjoin
  have Xhal := hide hal
  have XL := hide L
  have Xhw0 := hide hw0
  have Xnp := hide np
  clear hn hl hF hm hgh hjoin hal L hw0 np
  clear hw
  go_enter Try.func117, Try.ntmps117
  go_wp2_with fail
  go_loopw [8, 13] (fun mo i wr => ∃ (k : Nat) (f : Nat → Bool), k ≤ q ∧ i = .int .i64 k ∧ f = joinL f0 (hasI n e) (famI n bg) (l.take k) ∧ mo = .bool (moreB m f0 f) ∧ (l.take k).all (hasI n e) = true ∧ R wr f ∧ Touch S w wr) (fun _ i _ => q - (intOf i).toNat)
  case atStart => exact ⟨0, f0, Nat.zero_le _, rfl, by funext t; simp [joinL, lineB], by rw [moreB_self], rfl, Xhw0.out, Touch.refl _ _⟩
  case round =>
    obtain ⟨k, f, hk, rfl, hf, rfl, hall, hR, ht⟩ := hrel
    have hf0 : ∀ t, f0 t = true → f t = true := fun t h => by rw [hf]; exact joinL_le t h
    by_cases hlt : k < q
    · have hlt' : (k : Int) < (q : Int) := by omega
      obtain ⟨bb, off, rfl, hFb, hc1⟩ := hcell (by omega)
      obtain ⟨x, hx⟩ : ∃ x, l[k]? = some x := ⟨_, List.getElem?_eq_getElem (by rw [← Xhn.out]; exact hlt)⟩
      have hcx := ht.cell (hc1 k x hx) (XhF.out _ hFb)
      obtain ⟨s0, s1, s2, s3⟩ := XL.out.cells hR
      obtain ⟨mo, hmo⟩ : ∃ mo, mo = moreB m f0 f := ⟨_, rfl⟩
      rw [← hmo]
      clear hcell hc1
      have Xhx := hide hx
      have Xhf := hide hf
      have Xhall := hide hall
      have XhR := hide hR
      have Xht := hide ht
      have Xhf0 := hide hf0
      have Xhmo := hide hmo
      clear hx hf hall hR ht hf0 hmo
      go_wp2_with fail
      refine (sizes_symbol T p x wr).mono ?_
      rintro ee w2 ⟨rfl, b2⟩
      have hR2 := XL.out.below XhR.out b2
      have ht2 : Touch S w w2 := Xht.out.trans' ((Touch.of_size b2 (fun _ => False)).mono fun _ _ h => h.elim)
      clear s0 s1 s2 s3 hcx XhR Xht
      by_cases hin : 0 ≤ x ∧ x ≤ (p : Int)
      case neg =>
        have hsy : (decide (0 ≤ x) && decide (x ≤ (p : Int))) = false := by
          rw [Bool.and_eq_false_iff, decide_eq_false_iff_not, decide_eq_false_iff_not]; omega
        have hno : x < 0 ∨ (n : Int) ≤ x := by have := Xnp.out; omega
        have he : hasI n e x = false := hasI_no hno
        have hff : joinL f0 (hasI n e) (famI n bg) l = f := by
          rw [Xhf.out]
          funext t
          unfold joinL
          rw [lineB_stop Xhx.out he, take_get Xhx.out, lineB_snoc Xhall.out, famI_no hno]
          simp
        have fin : FLinePost R S w m f0 (joinL f0 (hasI n e) (famI n bg) l) (l.all (hasI n e)) (.returned (.tuple #[.bool mo, .bool false])) w2 := ⟨by rw [hff, all_stop Xhx.out he, Xhmo.out], by rw [hff]; exact hR2, ht2⟩
        rw [hsy]
        clear b2 hff hno hin
        have Xfin := hide fin
        have XhR2 := hide hR2
        have Xht2 := hide ht2
        have Xhe := hide he
        clear fin hR2 ht2 he
        go_wp2_with fail
        go_ret2
        exact Xfin.out
      case pos =>
        have hsy : (decide (0 ≤ x) && decide (x ≤ (p : Int))) = true := by
          rw [decide_eq_true hin.1, decide_eq_true hin.2]; rfl
        rw [hsy]
        obtain ⟨i, rfl⟩ := Int.eq_ofNat_of_zero_le hin.1
        have hi : i < n := by have := Xnp.out; omega
        have hi2 : (i : Int) < (n : Int) := by omega
        obtain ⟨s0, s1, s2, s3⟩ := XL.out.cells hR2
        obtain ⟨hc, Si, hsi⟩ := XL.out.el hR2 i hi
        have hto := XL.out.to hR2
        have hor := set_or hto hsi
        rw [Xhjoin.out f i hi Xhf0.out] at hor
        have hoa : orAns (min m m) f (Gf i f) = moreB m f (fun t => f t || bg i t) := by
          rw [← Xhjoin.out f i hi Xhf0.out, Nat.min_self]
          refine bool_of ?_
          unfold orAns
          rw [moreB_iff, List.any_eq_true]
          constructor
          · rintro ⟨t, ht, h⟩
            simp only [Bool.and_eq_true, Bool.not_eq_true'] at h
            have ht' := List.mem_range.1 ht
            exact ⟨t, ht', by unfold orSet; simp [h.1, ht'], h.2⟩
          · rintro ⟨t, ht, h1, h2⟩
            unfold orSet at h1
            rw [h2] at h1
            simp only [Bool.false_or, Bool.and_eq_true] at h1
            exact ⟨t, List.mem_range.2 ht, by simp [h1.1, h2]⟩
        rw [hoa] at hor
        have hf2 : (fun t => f t || bg i t) = joinL f0 (hasI n e) (famI n bg) (l.take (k + 1)) := by
          funext t
          rw [Xhf.out]
          unfold joinL
          rw [take_get Xhx.out, lineB_snoc Xhall.out, famI_nat hi, Bool.or_assoc]
        have hmm : (moreB m f (fun t => f t || bg i t) || mo) = moreB m f0 (fun t => f t || bg i t) := by
          rw [Xhmo.out]
          exact moreB_trans Xhf0.out (fun t h => by simp [h])
        obtain ⟨f2, hf2'⟩ : ∃ f2, f2 = fun t => f t || bg i t := ⟨_, rfl⟩
        rw [← hf2'] at hor hf2 hmm
        clear hoa hf2'
        generalize hmo2 : moreB m f f2 = mo2 at *
        clear b2 hmo2
        have XhR2 := hide hR2
        have Xht2 := hide ht2
        have Xhto := hide hto
        have Xhsi := hide hsi
        have Xhor := hide hor
        have Xhf2 := hide hf2
        have Xhmm := hide hmm
        clear hR2 ht2 hto hsi hor hf2 hmm
        go_wp2_with fail
        refine Xhor.out.mono ?_
        rintro ee w3 ⟨rfl, hs3, t3⟩
        have hR3 := XL.out.up XhR2.out hs3 t3
        have ht3 := Xht2.out.trans' t3
        clear s0 s1 s2 s3 hc Xht2 XhR2 Xhto Xhsi hs3 t3 Xhor
        obtain ⟨s0, s1, s2, s3⟩ := XL.out.cells hR3
        have hem := XL.out.em hR3
        have hlast : ∀ b, hasI n e (i : Int) = false → b = moreB m f0 f2 → FLinePost R S w m f0 (joinL f0 (hasI n e) (famI n bg) l) (l.all (hasI n e)) (.returned (.tuple #[.bool b, .bool false])) w3 := fun b he hb => by
          have hff : joinL f0 (hasI n e) (famI n bg) l = f2 := by
            rw [Xhf2.out]
            funext t
            unfold joinL
            rw [lineB_stop Xhx.out he]
          exact ⟨by rw [hff, all_stop Xhx.out he, hb], by rw [hff]; exact hR3, ht3⟩
        have hnext : hasI n e (i : Int) = true → (l.take (k + 1)).all (hasI n e) = true := fun he => all_take Xhx.out Xhall.out he
        cases mo2 with
        | true =>
          have hmm2 : true = moreB m f0 f2 := Xhmm.out
          have Xhlast := hide hlast
          have Xhnext := hide hnext
          have XhR3 := hide hR3
          have Xht3 := hide ht3
          have Xhem := hide hem
          have Xhmm2 := hide hmm2
          clear hlast hnext hR3 ht3 hem hmm2
          go_wp2_with fail
          refine (set_has Xhem.out (i : Int)).mono ?_
          rintro ee w4 ⟨rfl, rfl⟩
          cases he : hasI n e (i : Int) with
          | false =>
            have fin := Xhlast.out true he Xhmm2.out
            have Xfin := hide fin
            clear fin
            go_wp2_with fail
            go_ret2
            exact Xfin.out
          | true =>
            have hall2 := Xhnext.out he
            have Xhall2 := hide hall2
            clear hall2
            go_wp2_with fail
            go_roundw
            case rel => exact ⟨k + 1, f2, by omega, by go_num, Xhf2.out, by rw [← Xhmm2.out], Xhall2.out, XhR3.out, Xht3.out⟩
            case measure => simp [intOf]; omega
        | false =>
          have hmm2 : mo = moreB m f0 f2 := Xhmm.out
          have Xhlast := hide hlast
          have Xhnext := hide hnext
          have XhR3 := hide hR3
          have Xht3 := hide ht3
          have Xhem := hide hem
          have Xhmm2 := hide hmm2
          clear hlast hnext hR3 ht3 hem hmm2
          go_wp2_with fail
          refine (set_has Xhem.out (i : Int)).mono ?_
          rintro ee w4 ⟨rfl, rfl⟩
          cases he : hasI n e (i : Int) with
          | false =>
            have fin := Xhlast.out mo he Xhmm2.out
            have Xfin := hide fin
            clear fin
            go_wp2_with fail
            go_ret2
            exact Xfin.out
          | true =>
            have hall2 := Xhnext.out he
            have Xhall2 := hide hall2
            clear hall2
            go_wp2_with fail
            go_roundw
            case rel => exact ⟨k + 1, f2, by omega, by go_num, Xhf2.out, by rw [← Xhmm2.out], Xhall2.out, XhR3.out, Xht3.out⟩
            case measure => simp [intOf]; omega
    · have hkq : k = q := by omega
      have hlt' : ¬ (k : Int) < (q : Int) := by omega
      have hk2 : l.take k = l := List.take_of_length_le (by have := Xhn.out; omega)
      rw [hk2] at hf hall
      subst hf
      have fin : FLinePost R S w m f0 (joinL f0 (hasI n e) (famI n bg) l) (l.all (hasI n e)) (.returned (.tuple #[.bool (moreB m f0 (joinL f0 (hasI n e) (famI n bg) l)), .bool true])) wr := ⟨by rw [hall], hR, ht⟩
      generalize moreB m f0 (joinL f0 (hasI n e) (famI n bg) l) = mo at *
      have Xfin := hide fin
      have Xhall := hide hall
      have XhR := hide hR
      have Xht := hide ht
      have Xhf0 := hide hf0
      have Xhk2 := hide hk2
      clear fin hall hR ht hf0 hk2
      clear hkq
      go_wp2_with fail
      go_ret2
      exact Xfin.out
end
end Go.Proofs.Ytejjaabkbkkjlaa

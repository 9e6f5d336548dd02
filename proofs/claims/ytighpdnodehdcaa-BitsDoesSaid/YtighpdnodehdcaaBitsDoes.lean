/- The walk of BitsDoes. -/
import Derived.Test.YtighpdnodehdcaaBitsUnites
import Derived.Test.YtighpdnodehdcaaBitsLaws
import Derived.Deep.Fields
namespace Go.Proofs.Ytighpdnodehdcaa
set_option linter.unusedVariables false
open Go.ChangeShapes Go.WideShapes Go.ChangeAt Go.RowKit Go.Deep

section
variable {H : Type} {enc : TypeId × Value → H} {P : Program} {w : World} {sp : Nat → Bool}
theorem opens_struct2 {X Y : Type} {t : TypeId} {f0 f1 : Field} {E0 : List Value → X → Prop} {E1 : List Value → Y → Prop} (ht : P.underlying t = some (.struct #[f0, f1])) (hone : oneCellFields P #[f0, f1] = true) (hC : P.cellsOf t = 2)
    (h0 : Opens enc P w sp f0.type E0) (h1 : Opens enc P w sp f1.type E1) : Opens enc P w sp t (fun cs (x : X × Y) => ∃ c0 c1, cs = [c0, c1] ∧ E0 [c0] x.1 ∧ E1 [c1] x.2) := by
  intro fuel cs y h
  obtain ⟨xs, n, _, _, hlen, hxl, hf⟩ := DataW.trod_struct ht h
  rw [hC] at hlen
  match cs, hlen with
  | [c0, c1], _ =>
    obtain ⟨o0, k0⟩ := hone_of hone 0 f0 rfl
    obtain ⟨o1, k1⟩ := hone_of hone 1 f1 rfl
    have g0 := hf 0 f0 rfl
    have g1 := hf 1 f1 rfl
    rw [o0, k0] at g0
    rw [o1, k1] at g1
    have z0 : 0 < xs.length := by rw [hxl]; exact Nat.zero_lt_two
    have z1 : 1 < xs.length := by rw [hxl]; exact Nat.one_lt_two
    have l0 : xs[0]? = some (xs[0]'z0) := List.getElem?_eq_getElem z0
    have l1 : xs[1]? = some (xs[1]'z1) := List.getElem?_eq_getElem z1
    rw [l0] at g0
    rw [l1] at g1
    obtain ⟨x, hx⟩ := h0 _ _ _ g0
    obtain ⟨z, hz⟩ := h1 _ _ _ g1
    exact ⟨(x, z), c0, c1, rfl, by simpa using hx, by simpa using hz⟩
end

abbrev EOp (cs : List Value) (x : Int × Int) : Prop := ∃ c0 c1, cs = [c0, c1] ∧ EInt [c0] x.1 ∧ EInt [c1] x.2

theorem RdL.cells2 {w : World} {F : Nat → Prop} {A : Option Addr} {n c : Nat} {l : List (Int × Int)} (h : RdL w F 2 EOp (.slice A n c) l) : n = l.length ∧ n ≤ c ∧ c ≤ maxLen ∧ (0 < n → ∃ b off, A = some ⟨b, off, none⟩ ∧ F b ∧ ∀ (i : Nat) (x : Int × Int), l[i]? = some x → w.cell? ⟨b, off + i * 2, none⟩ = some (.int .i64 x.1) ∧ w.cell? ⟨b, off + i * 2 + 1, none⟩ = some (.int .i64 x.2) ∧ (Lit.int .i64 x.2).wf = true) := by
  obtain ⟨A', c', hv, h1, h2, hr⟩ := h
  injection hv with e1 e2 e3
  subst e1 e2 e3
  refine ⟨rfl, h1, h2, fun hn => ?_⟩
  obtain ⟨b, off, hA, hF, hc⟩ := hr hn
  refine ⟨b, off, hA, hF, fun i x hx => ?_⟩
  obtain ⟨cs, _, ⟨c0, c1, rfl, ⟨e0, _⟩, ⟨e1, w1⟩⟩, hcell⟩ := hc i x hx
  have a := hcell 0 c0 rfl
  have b' := hcell 1 c1 rfl
  injection e0 with e0 _
  injection e1 with e1 _
  subst e0 e1
  exact ⟨a, b', w1⟩

/-- four sets: two, and the reference's two -/
structure Four (w0 w : World) (b1 b2 b3 b4 : Nat) (S1 S2 S3 S4 : Nat → Prop) (n m : Nat) (f g : Nat → Bool) : Prop where
  s : IsSet w b1 S1 n f
  t : IsSet w b2 S2 m g
  x : IsRef w b3 S3 n f
  y : IsRef w b4 S4 m g
  below : Below w0.heap.size w0 w
structure Apart (w0 : World) (S1 S2 S3 S4 : Nat → Prop) : Prop where
  old : ∀ k, S1 k ∨ S2 k ∨ S3 k ∨ S4 k → w0.heap.size ≤ k
  d12 : ∀ k, S1 k → S2 k → False
  d13 : ∀ k, S1 k → S3 k → False
  d14 : ∀ k, S1 k → S4 k → False
  d23 : ∀ k, S2 k → S3 k → False
  d24 : ∀ k, S2 k → S4 k → False
  d34 : ∀ k, S3 k → S4 k → False
section
variable {w0 w w' : World} {b1 b2 b3 b4 : Nat} {S1 S2 S3 S4 : Nat → Prop} {n m : Nat} {f g f' g' : Nat → Bool}
theorem Four.keep (h : Four w0 w b1 b2 b3 b4 S1 S2 S3 S4 n m f g) (hb : Below w.heap.size w w') : Four w0 w' b1 b2 b3 b4 S1 S2 S3 S4 n m f g :=
  ⟨h.s.keep hb, h.t.keep hb, h.x.touch (Touch.of_size hb (fun _ => False)) (fun _ _ hf => hf), h.y.touch (Touch.of_size hb (fun _ => False)) (fun _ _ hf => hf), h.below.trans (hb.mono h.below.size)⟩
theorem Four.drew (h : Four w0 w b1 b2 b3 b4 S1 S2 S3 S4 n m f g) : Four w0 w.drew b1 b2 b3 b4 S1 S2 S3 S4 n m f g := h.keep (Below.refl _ w).drew
theorem Four.drewN (h : Four w0 w b1 b2 b3 b4 S1 S2 S3 S4 n m f g) (q : Nat) : Four w0 (w.drewN q) b1 b2 b3 b4 S1 S2 S3 S4 n m f g := h.keep ⟨rfl, rfl, rfl, Nat.le_refl _, fun _ _ => rfl⟩
end
/-- the first set has turned, the reference's has not yet -/
theorem first_turned {w0 w w' : World} {b1 b2 b3 b4 : Nat} {S1 S2 S3 S4 : Nat → Prop} {n m : Nat} {f g : Nat → Bool} (h : Four w0 w b1 b2 b3 b4 S1 S2 S3 S4 n m f g) (ap : Apart w0 S1 S2 S3 S4) (ht : Touch S1 w w') :
    IsSet w' b2 S2 m g ∧ IsRef w' b3 S3 n f ∧ IsRef w' b4 S4 m g ∧ Below w0.heap.size w0 w' :=
  ⟨h.t.touch ht (fun k a b => ap.d12 k b a), h.x.touch ht (fun k a b => ap.d13 k b a), h.y.touch ht (fun k a b => ap.d14 k b a), ht.toBelow (fun k hk => ap.old k (.inl hk)) h.below h.below.size⟩
theorem both_turned {w0 w w' : World} {b1 b2 b3 b4 : Nat} {S1 S2 S3 S4 : Nat → Prop} {n m : Nat} {f' g : Nat → Bool} (ap : Apart w0 S1 S2 S3 S4) (hs : IsSet w b1 S1 n f') (ht : IsSet w b2 S2 m g) (hy : IsRef w b4 S4 m g) (hb : Below w0.heap.size w0 w) (hx : IsRef w' b3 S3 n f') (hT : Touch S3 w w') :
    Four w0 w' b1 b2 b3 b4 S1 S2 S3 S4 n m f' g :=
  ⟨hs.touch hT (fun k a b => ap.d13 k a b), ht.touch hT (fun k a b => ap.d23 k a b), hx, hy.touch hT (fun k a b => ap.d34 k b a), hT.toBelow (fun k hk => ap.old k (.inr (.inr (.inl hk)))) hb hb.size⟩
theorem second_turned {w0 w w' : World} {b1 b2 b3 b4 : Nat} {S1 S2 S3 S4 : Nat → Prop} {n m : Nat} {f g : Nat → Bool} (h : Four w0 w b1 b2 b3 b4 S1 S2 S3 S4 n m f g) (ap : Apart w0 S1 S2 S3 S4) (ht : Touch S2 w w') :
    IsSet w' b1 S1 n f ∧ IsRef w' b3 S3 n f ∧ IsRef w' b4 S4 m g ∧ Below w0.heap.size w0 w' :=
  ⟨h.s.touch ht (fun k a b => ap.d12 k a b), h.x.touch ht (fun k a b => ap.d23 k b a), h.y.touch ht (fun k a b => ap.d24 k b a), ht.toBelow (fun k hk => ap.old k (.inr (.inl hk))) h.below h.below.size⟩
theorem both_turned2 {w0 w w' : World} {b1 b2 b3 b4 : Nat} {S1 S2 S3 S4 : Nat → Prop} {n m : Nat} {f g' : Nat → Bool} (ap : Apart w0 S1 S2 S3 S4) (hs : IsSet w b1 S1 n f) (ht : IsSet w b2 S2 m g') (hx : IsRef w b3 S3 n f) (hb : Below w0.heap.size w0 w) (hy : IsRef w' b4 S4 m g') (hT : Touch S4 w w') :
    Four w0 w' b1 b2 b3 b4 S1 S2 S3 S4 n m f g' :=
  ⟨hs.touch hT (fun k a b => ap.d14 k a b), ht.touch hT (fun k a b => ap.d24 k a b), hx.touch hT (fun k a b => ap.d34 k a b), hy, hT.toBelow (fun k hk => ap.old k (.inr (.inr (.inr hk)))) hb hb.size⟩

theorem set_drop_any {w : World} {b n : Nat} {f : Nat → Bool} {S : Nat → Prop} (h : IsSet w b S n f) (i : Int) :
    Calls Try.prog 30 #[.pointer (some ⟨b, 0, none⟩), .int .i64 i] w (OrPost w b S n (dropSet n f i) (dropAns n f i)) := by
  cases hp : dropAns n f i
  · refine (set_drop_no h i hp).mono ?_
    rintro e w' ⟨rfl, rfl⟩
    refine ⟨rfl, h.ext fun j => ?_, Touch.refl _ _⟩
    unfold dropAns at hp
    unfold dropSet
    cases hd : (decide (0 ≤ i) && decide (i < (n : Int))) with
    | false => simp
    | true =>
      rw [hd] at hp
      simp at hp
      simp at hd
      by_cases e : (j : Int) = i
      · have : i.toNat = j := by omega
        rw [this] at hp
        simp [hp]
      · simp [e]
  · refine (set_drop_yes h i hp).mono ?_
    rintro e w' ⟨rfl, h1, h2⟩
    exact ⟨rfl, h1, h2⟩

set_option maxHeartbeats 8000000 in
set_option maxRecDepth 100000 in
theorem walk_BitsDoes (n m : Int) (v : Value) (l : List (Int × Int)) (w : World) (_ : (Lit.int .i64 n).wf = true) (_ : (Lit.int .i64 m).wf = true) (hl : RdL w (· < w.heap.size) 2 EOp v l) :
    Calls Try.prog 7 #[.int .i64 n, .int .i64 m, v] w fun e w' => e = .returned (.bool true) ∧ Below w.heap.size w w' := by
  obtain ⟨A, c, rfl, _⟩ := id hl
  obtain ⟨L, hL⟩ : ∃ L, L = l.length := ⟨_, rfl⟩
  rw [← hL] at hl ⊢
  obtain ⟨hLL, hnc, hcm, hcell⟩ := hl.cells2
  clear hLL
  unfold maxLen at hcm
  obtain ⟨N, hN⟩ : ∃ N, N = (min (max n 0) 4096).toNat := ⟨_, rfl⟩
  obtain ⟨M, hM⟩ : ∃ M, M = (min (max m 0) 4096).toNat := ⟨_, rfl⟩
  have HL := hide hL
  have HN := hide hN
  have HM := hide hM
  clear hL hN hM hl
  go_enter Try.func7, Try.ntmps7
  go_wp2_with fail
  refine (set_new _ _).mono ?_
  rintro e w1 ⟨rfl, s1, c1⟩
  rw [← HN.out] at s1
  have z1 := c1.size
  go_wp2_with fail
  refine (set_new _ _).mono ?_
  rintro e w2 ⟨rfl, t2, c2⟩
  rw [← HM.out] at t2
  have z2 := c2.size
  go_wp2_with fail
  refine (rset_new _ _).mono ?_
  rintro e w3 ⟨rfl, x3, c3⟩
  rw [← HN.out] at x3
  have z3 := c3.size
  go_wp2_with fail
  refine (rset_new _ _).mono ?_
  rintro e w4 ⟨rfl, y4, c4⟩
  rw [← HM.out] at y4
  have z4 := c4.size
  have four : Four w w4 (w.heap.size + 1) (w1.heap.size + 1) (w2.heap.size + 1) (w3.heap.size + 1) (New (fun _ => False) w w1) (New (fun _ => False) w1 w2) (New (fun _ => False) w2 w3) (New (fun _ => False) w3 w4) N M noBits noBits :=
    ⟨((s1.keep c2).keep c3).keep c4, (t2.keep c3).keep c4, x3.touch (Touch.of_size c4 (fun _ => False)) (fun _ _ hf => hf), y4, c1.trans ((c2.mono z1).trans ((c3.mono (by omega)).trans (c4.mono (by omega))))⟩
  have apart : Apart w (New (fun _ => False) w w1) (New (fun _ => False) w1 w2) (New (fun _ => False) w2 w3) (New (fun _ => False) w3 w4) := by
    constructor
    · rintro k ((h | h) | (h | h) | (h | h) | (h | h)) <;> first | exact h.elim | omega
    all_goals
      rintro k (h | h) (h' | h') <;> first | exact h.elim | exact h'.elim | omega
  obtain ⟨b1, hb1⟩ : ∃ b, b = w.heap.size + 1 := ⟨_, rfl⟩
  obtain ⟨b2, hb2⟩ : ∃ b, b = w1.heap.size + 1 := ⟨_, rfl⟩
  obtain ⟨b3, hb3⟩ : ∃ b, b = w2.heap.size + 1 := ⟨_, rfl⟩
  obtain ⟨b4, hb4⟩ : ∃ b, b = w3.heap.size + 1 := ⟨_, rfl⟩
  obtain ⟨S1, hS1⟩ : ∃ S, S = New (fun _ => False) w w1 := ⟨_, rfl⟩
  obtain ⟨S2, hS2⟩ : ∃ S, S = New (fun _ => False) w1 w2 := ⟨_, rfl⟩
  obtain ⟨S3, hS3⟩ : ∃ S, S = New (fun _ => False) w2 w3 := ⟨_, rfl⟩
  obtain ⟨S4, hS4⟩ : ∃ S, S = New (fun _ => False) w3 w4 := ⟨_, rfl⟩
  rw [← hb1, ← hb2, ← hb3, ← hb4, ← hS1, ← hS2, ← hS3, ← hS4] at four
  rw [← hS1, ← hS2, ← hS3, ← hS4] at apart
  rw [← hb1, ← hb2, ← hb3, ← hb4]
  have AP := hide apart
  clear apart hb1 hb2 hb3 hb4 hS1 hS2 hS3 hS4 s1 t2 x3 y4 c1 c2 c3 c4 z1 z2 z3 z4
  go_wp2_with fail
  go_loopw [11, 12, 13] (fun i _ _ wr => ∃ (k : Nat) (f g : Nat → Bool), k ≤ L ∧ k ≤ 60 ∧ i = .int .i64 k ∧ Four w wr b1 b2 b3 b4 S1 S2 S3 S4 N M f g) (fun i _ _ _ => L - (intOf i).toNat)
  case atStart => exact ⟨0, noBits, noBits, Nat.zero_le _, Nat.zero_le _, rfl, four⟩
  case round =>
    clear four
    obtain ⟨k, f, g, hk, hk60, rfl, four⟩ := hrel
    by_cases hkn : k < L ∧ k < 60
    · obtain ⟨hkn, hk6⟩ := hkn
      obtain ⟨b', off, rfl, hbl, hc⟩ := hcell (by omega)
      obtain ⟨⟨K, N'⟩, hx⟩ : ∃ x, l[k]? = some x := ⟨_, List.getElem?_eq_getElem (by rw [← HL.out]; omega)⟩
      obtain ⟨hcK, hcN, hwf⟩ := hc k _ hx
      have hkni : (k : Int) < L := by omega
      have hk6i : (k : Int) < 60 := by omega
      have LD : ∀ w' : World, Below w.heap.size w w' → w'.cell? ⟨b', off + k * 2, none⟩ = some (.int .i64 K) ∧ w'.cell? ⟨b', off + k * 2 + 1, none⟩ = some (.int .i64 N') := fun w' hw =>
        ⟨(hw.cell (p := ⟨b', off + k * 2, none⟩) hbl).trans hcK, (hw.cell (p := ⟨b', off + k * 2 + 1, none⟩) hbl).trans hcN⟩
      have HLD := hide LD
      have FOUR := hide four
      obtain ⟨lK, lN⟩ := LD wr four.below
      clear hcell hc hx hcK hcN LD four
      by_cases k0 : K = 0
      · have kb : (K == 0) = true := by simpa using k0
        subst k0
        go_wp2_with fail
        have fourd := FOUR.out.drew
        go_region_held3 (fun w' => w'.cell? ⟨b', off + k * 2 + 1, none⟩ = some (.int .i64 N'))
          (first | go_keep | assumption)
          (first
            | (go_at_call 28; refine (set_put_any fourd.s N').mono ?_; rintro e w5 ⟨rfl, s5, o5⟩; obtain ⟨t5, x5, y5, c5⟩ := first_turned fourd AP.out o5; have k5 := (HLD.out w5 c5).2)
            | (go_at_call 29; refine (rset_put x5 N').mono ?_; rintro e w6 ⟨rfl, x6, o6⟩; have four6 := both_turned AP.out s5 t5 y5 c5 x6 o6; have k6 := (HLD.out w6 four6.below).2))
        have F6 := hide four6
        have kk6 := (HLD.out _ four6.below).2
        clear four6
        go_wp2_with fail
        have four7 := F6.out.drew
        go_region_held3 (fun w' => w'.cell? ⟨b', off + k * 2 + 1, none⟩ = some (.int .i64 N'))
          (first | go_keep | assumption)
          (first
            | (go_at_call 33; refine (set_has four7.s N').mono ?_; rintro e w' ⟨rfl, rfl⟩)
            | (go_at_call 34; refine (rset_has four7.x N').mono ?_; rintro e w' ⟨rfl, rfl⟩)
            | (go_at_call 35; refine (set_next four7.s N' hwf).mono ?_; rintro e w' ⟨rfl, rfl⟩)
            | (go_at_call 36; refine (rset_next four7.x N' hwf).mono ?_; rintro e w' ⟨rfl, rfl⟩)
            | (go_at_call 37; refine (set_meet four7.s four7.t).mono ?_; rintro e w8 ⟨rfl, o8⟩; have four8 := four7.keep o8; have k8 := (HLD.out w8 four8.below).2)
            | (go_at_call 38; refine (rset_meet four8.x four8.y).mono ?_; rintro e w' ⟨rfl, rfl⟩))
        go_wp2_with fail
        go_roundw
        case rel => exact ⟨k + 1, _, _, by omega, by omega, by go_num, four8⟩
        case measure => simp [intOf]; omega
      by_cases k1 : K = 1
      · subst k1
        go_wp2_with fail
        have fourd := FOUR.out.drew
        go_region_held3 (fun w' => w'.cell? ⟨b', off + k * 2 + 1, none⟩ = some (.int .i64 N'))
          (first | go_keep | assumption)
          (first
            | (go_at_call 30; refine (set_drop_any fourd.s N').mono ?_; rintro e w5 ⟨rfl, s5, o5⟩; obtain ⟨t5, x5, y5, c5⟩ := first_turned fourd AP.out o5; have k5 := (HLD.out w5 c5).2)
            | (go_at_call 31; refine (rset_drop x5 N').mono ?_; rintro e w6 ⟨rfl, x6, o6⟩; have four6 := both_turned AP.out s5 t5 y5 c5 x6 o6; have k6 := (HLD.out w6 four6.below).2))
        have F6 := hide four6
        have kk6 := (HLD.out _ four6.below).2
        clear four6
        go_wp2_with fail
        have four7 := F6.out.drew
        go_region_held3 (fun w' => w'.cell? ⟨b', off + k * 2 + 1, none⟩ = some (.int .i64 N'))
          (first | go_keep | assumption)
          (first
            | (go_at_call 33; refine (set_has four7.s N').mono ?_; rintro e w' ⟨rfl, rfl⟩)
            | (go_at_call 34; refine (rset_has four7.x N').mono ?_; rintro e w' ⟨rfl, rfl⟩)
            | (go_at_call 35; refine (set_next four7.s N' hwf).mono ?_; rintro e w' ⟨rfl, rfl⟩)
            | (go_at_call 36; refine (rset_next four7.x N' hwf).mono ?_; rintro e w' ⟨rfl, rfl⟩)
            | (go_at_call 37; refine (set_meet four7.s four7.t).mono ?_; rintro e w8 ⟨rfl, o8⟩; have four8 := four7.keep o8; have k8 := (HLD.out w8 four8.below).2)
            | (go_at_call 38; refine (rset_meet four8.x four8.y).mono ?_; rintro e w' ⟨rfl, rfl⟩))
        go_wp2_with fail
        go_roundw
        case rel => exact ⟨k + 1, _, _, by omega, by omega, by go_num, four8⟩
        case measure => simp [intOf]; omega
      by_cases k2 : K = 2
      · subst k2
        go_wp2_with fail
        refine (set_or FOUR.out.s FOUR.out.t).mono ?_
        rintro e w5 ⟨rfl, s5, o5⟩
        obtain ⟨t5, x5, y5, c5⟩ := first_turned FOUR.out AP.out o5
        go_wp2_with fail
        refine (rset_or x5 y5 AP.out.d34).mono ?_
        rintro e w6 ⟨rfl, x6, o6⟩
        have four6 := both_turned AP.out s5 t5 y5 c5 x6 o6
        have F6 := hide four6
        have kk6 := (HLD.out _ four6.below).2
        clear four6
        go_wp2_with fail
        have four7 := F6.out.drew
        go_region_held3 (fun w' => w'.cell? ⟨b', off + k * 2 + 1, none⟩ = some (.int .i64 N'))
          (first | go_keep | assumption)
          (first
            | (go_at_call 33; refine (set_has four7.s N').mono ?_; rintro e w' ⟨rfl, rfl⟩)
            | (go_at_call 34; refine (rset_has four7.x N').mono ?_; rintro e w' ⟨rfl, rfl⟩)
            | (go_at_call 35; refine (set_next four7.s N' hwf).mono ?_; rintro e w' ⟨rfl, rfl⟩)
            | (go_at_call 36; refine (rset_next four7.x N' hwf).mono ?_; rintro e w' ⟨rfl, rfl⟩)
            | (go_at_call 37; refine (set_meet four7.s four7.t).mono ?_; rintro e w8 ⟨rfl, o8⟩; have four8 := four7.keep o8; have k8 := (HLD.out w8 four8.below).2)
            | (go_at_call 38; refine (rset_meet four8.x four8.y).mono ?_; rintro e w' ⟨rfl, rfl⟩))
        go_wp2_with fail
        go_roundw
        case rel => exact ⟨k + 1, _, _, by omega, by omega, by go_num, four8⟩
        case measure => simp [intOf]; omega
      by_cases k3 : K = 3
      · subst k3
        go_wp2_with fail
        have fourd := FOUR.out.drew
        go_region_held3 (fun w' => w'.cell? ⟨b', off + k * 2 + 1, none⟩ = some (.int .i64 N'))
          (first | go_keep | assumption)
          (first
            | (go_at_call 28; refine (set_put_any fourd.t N').mono ?_; rintro e w5 ⟨rfl, t5, o5⟩; obtain ⟨s5, x5, y5, c5⟩ := second_turned fourd AP.out o5; have k5 := (HLD.out w5 c5).2)
            | (go_at_call 29; refine (rset_put y5 N').mono ?_; rintro e w6 ⟨rfl, y6, o6⟩; have four6 := both_turned2 AP.out s5 t5 x5 c5 y6 o6; have k6 := (HLD.out w6 four6.below).2))
        have F6 := hide four6
        have kk6 := (HLD.out _ four6.below).2
        clear four6
        go_wp2_with fail
        have four7 := F6.out.drew
        go_region_held3 (fun w' => w'.cell? ⟨b', off + k * 2 + 1, none⟩ = some (.int .i64 N'))
          (first | go_keep | assumption)
          (first
            | (go_at_call 33; refine (set_has four7.s N').mono ?_; rintro e w' ⟨rfl, rfl⟩)
            | (go_at_call 34; refine (rset_has four7.x N').mono ?_; rintro e w' ⟨rfl, rfl⟩)
            | (go_at_call 35; refine (set_next four7.s N' hwf).mono ?_; rintro e w' ⟨rfl, rfl⟩)
            | (go_at_call 36; refine (rset_next four7.x N' hwf).mono ?_; rintro e w' ⟨rfl, rfl⟩)
            | (go_at_call 37; refine (set_meet four7.s four7.t).mono ?_; rintro e w8 ⟨rfl, o8⟩; have four8 := four7.keep o8; have k8 := (HLD.out w8 four8.below).2)
            | (go_at_call 38; refine (rset_meet four8.x four8.y).mono ?_; rintro e w' ⟨rfl, rfl⟩))
        go_wp2_with fail
        go_roundw
        case rel => exact ⟨k + 1, _, _, by omega, by omega, by go_num, four8⟩
        case measure => simp [intOf]; omega
      · have kb0 : (K == 0) = false := by simpa using k0
        have kb1 : (K == 1) = false := by simpa using k1
        have kb2 : (K == 2) = false := by simpa using k2
        have kb3 : (K == 3) = false := by simpa using k3
        have four6 := FOUR.out
        have F6 := hide four6
        have kk6 := (HLD.out _ four6.below).2
        clear four6
        go_wp2_with fail
        have four7 := F6.out.drew
        go_region_held3 (fun w' => w'.cell? ⟨b', off + k * 2 + 1, none⟩ = some (.int .i64 N'))
          (first | go_keep | assumption)
          (first
            | (go_at_call 33; refine (set_has four7.s N').mono ?_; rintro e w' ⟨rfl, rfl⟩)
            | (go_at_call 34; refine (rset_has four7.x N').mono ?_; rintro e w' ⟨rfl, rfl⟩)
            | (go_at_call 35; refine (set_next four7.s N' hwf).mono ?_; rintro e w' ⟨rfl, rfl⟩)
            | (go_at_call 36; refine (rset_next four7.x N' hwf).mono ?_; rintro e w' ⟨rfl, rfl⟩)
            | (go_at_call 37; refine (set_meet four7.s four7.t).mono ?_; rintro e w8 ⟨rfl, o8⟩; have four8 := four7.keep o8; have k8 := (HLD.out w8 four8.below).2)
            | (go_at_call 38; refine (rset_meet four8.x four8.y).mono ?_; rintro e w' ⟨rfl, rfl⟩))
        go_wp2_with fail
        go_roundw
        case rel => exact ⟨k + 1, _, _, by omega, by omega, by go_num, four8⟩
        case measure => simp [intOf]; omega
    · by_cases h60 : k = 60
      · have hk6i : ¬ (k : Int) < 60 := by omega
        subst h60
        by_cases h60n : 60 < L
        · have hfin : True := trivial
          clear hcell
          have hkni : (60 : Int) < L := by omega
          go_wp2_with fail
          refine (set_room four.s).mono ?_
          rintro e w' ⟨rfl, rfl⟩
          go_wp2_with fail
          refine (rset_room four.x).mono ?_
          rintro e w' ⟨rfl, rfl⟩
          go_wp2_with fail
          refine (set_list four.s).mono ?_
          rintro e v1 ⟨A1, d1, rfl, own1, o1⟩
          have f1 := four.keep o1
          go_wp2_with fail
          refine (rset_list f1.x).mono ?_
          rintro e v2 ⟨A2, d2, rfl, own2, o2⟩
          have f2 := f1.keep o2
          rw [map_I64] at own1 own2
          have i1 := ref_ints ((Rd.of_own own1).below o2 (fun q h => (own1.lt q h).2)) (Rd.of_own own2)
          rw [decide_eq_true rfl] at i1
          have I1 := hide i1
          clear i1 own1 own2
          go_wp2_with fail
          refine I1.out.mono ?_
          rintro e v3 ⟨rfl, o3⟩
          have f3 := f2.keep o3
          go_wp2_with fail
          refine (set_list f3.t).mono ?_
          rintro e v4 ⟨A4, d4, rfl, own4, o4⟩
          have f4 := f3.keep o4
          go_wp2_with fail
          refine (rset_list f4.y).mono ?_
          rintro e v5 ⟨A5, d5, rfl, own5, o5⟩
          have f5 := f4.keep o5
          rw [map_I64] at own4 own5
          have i2 := ref_ints ((Rd.of_own own4).below o5 (fun q h => (own4.lt q h).2)) (Rd.of_own own5)
          rw [decide_eq_true rfl] at i2
          have I2 := hide i2
          clear i2 own4 own5
          go_wp2_with fail
          refine I2.out.mono ?_
          rintro e v6 ⟨rfl, o6⟩
          have f6 := f5.keep o6
          clear f1 f2 f3 f4 f5 o1 o2 o3 o4 o5 o6 I1 I2
          go_wp2_with fail
          refine (set_count f6.s).mono ?_
          rintro e v7 ⟨rfl, o7⟩
          have f7 := f6.keep o7
          go_wp2_with fail
          refine (rset_list f7.x).mono ?_
          rintro e v8 ⟨A8, d8, rfl, own8, o8⟩
          have f8 := f7.keep o8
          clear own8
          go_wp2_with fail
          refine (set_same f8.s f8.t).mono ?_
          rintro e v9 ⟨rfl, o9⟩
          have f9 := f8.keep o9
          clear f6 f7 f8 o7 o8 o9
          go_wp2_with fail
          refine (rset_list f9.x).mono ?_
          rintro e v10 ⟨A10, d10, rfl, own10, o10⟩
          have f10 := f9.keep o10
          go_wp2_with fail
          refine (rset_list f10.y).mono ?_
          rintro e v11 ⟨A11, d11, rfl, own11, o11⟩
          have f11 := f10.keep o11
          rw [map_I64] at own10 own11
          have i3 := ref_ints ((Rd.of_own own10).below o11 (fun q h => (own10.lt q h).2)) (Rd.of_own own11)
          have e3 : decide ((below f N).map (fun n : Nat => (n : Int)) = (below g M).map (fun n : Nat => (n : Int))) = decide (below f N = below g M) := decide_eq_decide.2 below_eq
          rw [e3] at i3
          have I3 := hide i3
          clear i3 e3 own10 own11
          go_wp2_with fail
          refine I3.out.mono ?_
          rintro e v12 ⟨rfl, o12⟩
          have f12 := f11.keep o12
          clear f9 f10 f11 o10 o11 o12 I3
          go_wp2_with fail
          refine (bits_awake _).mono ?_
          rintro e v13 ⟨rfl, o13⟩
          go_wp2_with fail
          go_ret
          exact ⟨by simp, f12.below.trans (o13.mono f12.below.size)⟩
          
        · have hfin : True := trivial
          clear hcell
          have hkni : ¬ (60 : Int) < L := by omega
          go_wp2_with fail
          refine (set_room four.s).mono ?_
          rintro e w' ⟨rfl, rfl⟩
          go_wp2_with fail
          refine (rset_room four.x).mono ?_
          rintro e w' ⟨rfl, rfl⟩
          go_wp2_with fail
          refine (set_list four.s).mono ?_
          rintro e v1 ⟨A1, d1, rfl, own1, o1⟩
          have f1 := four.keep o1
          go_wp2_with fail
          refine (rset_list f1.x).mono ?_
          rintro e v2 ⟨A2, d2, rfl, own2, o2⟩
          have f2 := f1.keep o2
          rw [map_I64] at own1 own2
          have i1 := ref_ints ((Rd.of_own own1).below o2 (fun q h => (own1.lt q h).2)) (Rd.of_own own2)
          rw [decide_eq_true rfl] at i1
          have I1 := hide i1
          clear i1 own1 own2
          go_wp2_with fail
          refine I1.out.mono ?_
          rintro e v3 ⟨rfl, o3⟩
          have f3 := f2.keep o3
          go_wp2_with fail
          refine (set_list f3.t).mono ?_
          rintro e v4 ⟨A4, d4, rfl, own4, o4⟩
          have f4 := f3.keep o4
          go_wp2_with fail
          refine (rset_list f4.y).mono ?_
          rintro e v5 ⟨A5, d5, rfl, own5, o5⟩
          have f5 := f4.keep o5
          rw [map_I64] at own4 own5
          have i2 := ref_ints ((Rd.of_own own4).below o5 (fun q h => (own4.lt q h).2)) (Rd.of_own own5)
          rw [decide_eq_true rfl] at i2
          have I2 := hide i2
          clear i2 own4 own5
          go_wp2_with fail
          refine I2.out.mono ?_
          rintro e v6 ⟨rfl, o6⟩
          have f6 := f5.keep o6
          clear f1 f2 f3 f4 f5 o1 o2 o3 o4 o5 o6 I1 I2
          go_wp2_with fail
          refine (set_count f6.s).mono ?_
          rintro e v7 ⟨rfl, o7⟩
          have f7 := f6.keep o7
          go_wp2_with fail
          refine (rset_list f7.x).mono ?_
          rintro e v8 ⟨A8, d8, rfl, own8, o8⟩
          have f8 := f7.keep o8
          clear own8
          go_wp2_with fail
          refine (set_same f8.s f8.t).mono ?_
          rintro e v9 ⟨rfl, o9⟩
          have f9 := f8.keep o9
          clear f6 f7 f8 o7 o8 o9
          go_wp2_with fail
          refine (rset_list f9.x).mono ?_
          rintro e v10 ⟨A10, d10, rfl, own10, o10⟩
          have f10 := f9.keep o10
          go_wp2_with fail
          refine (rset_list f10.y).mono ?_
          rintro e v11 ⟨A11, d11, rfl, own11, o11⟩
          have f11 := f10.keep o11
          rw [map_I64] at own10 own11
          have i3 := ref_ints ((Rd.of_own own10).below o11 (fun q h => (own10.lt q h).2)) (Rd.of_own own11)
          have e3 : decide ((below f N).map (fun n : Nat => (n : Int)) = (below g M).map (fun n : Nat => (n : Int))) = decide (below f N = below g M) := decide_eq_decide.2 below_eq
          rw [e3] at i3
          have I3 := hide i3
          clear i3 e3 own10 own11
          go_wp2_with fail
          refine I3.out.mono ?_
          rintro e v12 ⟨rfl, o12⟩
          have f12 := f11.keep o12
          clear f9 f10 f11 o10 o11 o12 I3
          go_wp2_with fail
          refine (bits_awake _).mono ?_
          rintro e v13 ⟨rfl, o13⟩
          go_wp2_with fail
          go_ret
          exact ⟨by simp, f12.below.trans (o13.mono f12.below.size)⟩
          
      · have hkni : ¬ (k : Int) < L := by omega
        have hfin : ¬ ((k : Int) < L ∧ (k : Int) < 60) := by omega
        clear hcell
        have hx : True := trivial
        go_wp2_with fail
        refine (set_room four.s).mono ?_
        rintro e w' ⟨rfl, rfl⟩
        go_wp2_with fail
        refine (rset_room four.x).mono ?_
        rintro e w' ⟨rfl, rfl⟩
        go_wp2_with fail
        refine (set_list four.s).mono ?_
        rintro e v1 ⟨A1, d1, rfl, own1, o1⟩
        have f1 := four.keep o1
        go_wp2_with fail
        refine (rset_list f1.x).mono ?_
        rintro e v2 ⟨A2, d2, rfl, own2, o2⟩
        have f2 := f1.keep o2
        rw [map_I64] at own1 own2
        have i1 := ref_ints ((Rd.of_own own1).below o2 (fun q h => (own1.lt q h).2)) (Rd.of_own own2)
        rw [decide_eq_true rfl] at i1
        have I1 := hide i1
        clear i1 own1 own2
        go_wp2_with fail
        refine I1.out.mono ?_
        rintro e v3 ⟨rfl, o3⟩
        have f3 := f2.keep o3
        go_wp2_with fail
        refine (set_list f3.t).mono ?_
        rintro e v4 ⟨A4, d4, rfl, own4, o4⟩
        have f4 := f3.keep o4
        go_wp2_with fail
        refine (rset_list f4.y).mono ?_
        rintro e v5 ⟨A5, d5, rfl, own5, o5⟩
        have f5 := f4.keep o5
        rw [map_I64] at own4 own5
        have i2 := ref_ints ((Rd.of_own own4).below o5 (fun q h => (own4.lt q h).2)) (Rd.of_own own5)
        rw [decide_eq_true rfl] at i2
        have I2 := hide i2
        clear i2 own4 own5
        go_wp2_with fail
        refine I2.out.mono ?_
        rintro e v6 ⟨rfl, o6⟩
        have f6 := f5.keep o6
        clear f1 f2 f3 f4 f5 o1 o2 o3 o4 o5 o6 I1 I2
        go_wp2_with fail
        refine (set_count f6.s).mono ?_
        rintro e v7 ⟨rfl, o7⟩
        have f7 := f6.keep o7
        go_wp2_with fail
        refine (rset_list f7.x).mono ?_
        rintro e v8 ⟨A8, d8, rfl, own8, o8⟩
        have f8 := f7.keep o8
        clear own8
        go_wp2_with fail
        refine (set_same f8.s f8.t).mono ?_
        rintro e v9 ⟨rfl, o9⟩
        have f9 := f8.keep o9
        clear f6 f7 f8 o7 o8 o9
        go_wp2_with fail
        refine (rset_list f9.x).mono ?_
        rintro e v10 ⟨A10, d10, rfl, own10, o10⟩
        have f10 := f9.keep o10
        go_wp2_with fail
        refine (rset_list f10.y).mono ?_
        rintro e v11 ⟨A11, d11, rfl, own11, o11⟩
        have f11 := f10.keep o11
        rw [map_I64] at own10 own11
        have i3 := ref_ints ((Rd.of_own own10).below o11 (fun q h => (own10.lt q h).2)) (Rd.of_own own11)
        have e3 : decide ((below f N).map (fun n : Nat => (n : Int)) = (below g M).map (fun n : Nat => (n : Int))) = decide (below f N = below g M) := decide_eq_decide.2 below_eq
        rw [e3] at i3
        have I3 := hide i3
        clear i3 e3 own10 own11
        go_wp2_with fail
        refine I3.out.mono ?_
        rintro e v12 ⟨rfl, o12⟩
        have f12 := f11.keep o12
        clear f9 f10 f11 o10 o11 o12 I3
        go_wp2_with fail
        refine (bits_awake _).mono ?_
        rintro e v13 ⟨rfl, o13⟩
        go_wp2_with fail
        go_ret
        exact ⟨by simp, f12.below.trans (o13.mono f12.below.size)⟩
end Go.Proofs.Ytighpdnodehdcaa

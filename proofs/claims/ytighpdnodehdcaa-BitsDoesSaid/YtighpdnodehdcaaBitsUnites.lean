/- The walk of BitsUnites. -/
import Derived.Test.YtighpdnodehdcaaBitsAwake
import Derived.Test.YtighpdnodehdcaaOpen
namespace Go.Proofs.Ytighpdnodehdcaa
set_option linter.unusedVariables false
open Go.RowKit

/-- numbers put one by one -/
def putList (n : Nat) (f : Nat → Bool) (l : List Int) : Nat → Bool := l.foldl (fun f i => putSet n f i) f
theorem putList_snoc (n : Nat) (f : Nat → Bool) (l : List Int) (i : Int) : putList n f (l ++ [i]) = putSet n (putList n f l) i := by simp [putList, List.foldl_append]

abbrev EInt (cs : List Value) (x : Int) : Prop := cs = [.int .i64 x] ∧ (Lit.int .i64 x).wf = true

theorem set_put_any {w : World} {b n : Nat} {f : Nat → Bool} {S : Nat → Prop} (h : IsSet w b S n f) (i : Int) :
    Calls Try.prog 28 #[.pointer (some ⟨b, 0, none⟩), .int .i64 i] w (OrPost w b S n (putSet n f i) (putAns n f i)) := by
  cases hp : putAns n f i
  · refine (set_put_no h i hp).mono ?_
    rintro e w' ⟨rfl, rfl⟩
    refine ⟨rfl, h.ext fun j => ?_, Touch.refl _ _⟩
    unfold putAns at hp
    unfold putSet
    cases hd : (decide (0 ≤ i) && decide (i < (n : Int))) with
    | false => simp
    | true =>
      rw [hd] at hp
      simp at hp
      simp at hd
      by_cases e : (j : Int) = i
      · have : i.toNat = j := by omega
        rw [this] at hp
        simp [hp]
      · simp [e]
  · refine (set_put_yes h i hp).mono ?_
    rintro e w' ⟨rfl, h1, h2⟩
    exact ⟨rfl, h1, h2⟩

theorem law_of {w : World} {F : Nat → Prop} {v : Value} {l : List Int} (m : Int) (hl : RdI w F v l) (hF : ∀ k, F k → k < w.heap.size) :
    Calls Try.prog 20 #[.int .i64 m, v] w (NewPost' w (min (max m 0) 4096).toNat (putList (min (max m 0) 4096).toNat noBits (l.take 60))) := by
  obtain ⟨N, hN⟩ : ∃ N, N = (min (max m 0) 4096).toNat := ⟨_, rfl⟩
  obtain ⟨A, n, c, rfl, _⟩ := id hl
  obtain ⟨hn, hnc, hcm, hcell⟩ := hl.at_
  unfold maxLen at hcm
  have HN := hide hN
  have HL := hide hn
  have HF := hide hF
  rw [← hN]
  clear hN hn hF hl
  go_enter Try.func20, Try.ntmps20
  go_wp2_with fail
  refine (set_new _ _).mono ?_
  rintro e w1 ⟨rfl, n1, b1⟩
  rw [← HN.out] at n1
  have z1 := b1.size
  obtain ⟨b, hb⟩ : ∃ b, b = w.heap.size + 1 := ⟨_, rfl⟩
  obtain ⟨S, hS⟩ : ∃ S, S = New (fun _ => False) w w1 := ⟨_, rfl⟩
  have hSb : ∀ k, S k → w.heap.size ≤ k := by rw [hS]; exact New.lt (fun _ hf => hf.elim) (Nat.le_refl _)
  rw [← hb, ← hS] at n1
  rw [← hb]
  clear hb hS
  go_wp2_with fail
  go_loopw [6] (fun i wr => ∃ k : Nat, k ≤ n ∧ k ≤ 60 ∧ i = .int .i64 k ∧ IsSet wr b S N (putList N noBits (l.take k)) ∧ Below w.heap.size w wr) (fun i _ => n - (intOf i).toNat)
  case atStart => exact ⟨0, Nat.zero_le _, Nat.zero_le _, rfl, by simpa [putList] using n1, b1⟩
  case round =>
    obtain ⟨k, hk, hk60, rfl, hs, hbel⟩ := hrel
    have hz := hbel.size
    by_cases hkn : k < n ∧ k < 60
    · obtain ⟨hkn, hk6⟩ := hkn
      obtain ⟨b', off, rfl, hbl, hc⟩ := hcell (by omega)
      obtain ⟨x, hx⟩ : ∃ x, l[k]? = some x := ⟨_, List.getElem?_eq_getElem (by rw [← HL.out]; omega)⟩
      have hcx := (hbel.cell (p := ⟨b', off + k, none⟩) (HF.out _ hbl)).trans (hc k x hx)
      have hkni : (k : Int) < n := by omega
      have hk6i : (k : Int) < 60 := by omega
      have HX := hide hx
      have HS := hide hs
      have HB := hide hbel
      clear hcell hc hx hs hbel
      go_wp2_with (go_at_call 28; refine (set_put_any HS.out x).mono ?_; rintro e w2 ⟨rfl, n2, t2⟩)
      go_roundw
      case rel =>
        refine ⟨k + 1, by omega, by omega, by go_num, ?_, t2.toBelow hSb HB.out hz⟩
        have : l.take (k + 1) = l.take k ++ [x] := by rw [List.take_add_one, HX.out]; rfl
        rw [this, putList_snoc]
        exact n2.more (fun _ h => h) (fun j hj => n2.lt j hj)
      case measure => simp [intOf]; omega
    · have HE : Hid (l.take k = l.take 60) := by
        show _ = _
        by_cases h : k = 60
        · rw [h]
        · have : k = l.length := by have := HL.out; omega
          rw [List.take_of_length_le (by omega), List.take_of_length_le (by omega)]
      clear hcell
      by_cases h60 : k = 60
      · have hk6i : ¬ (k : Int) < 60 := by omega
        subst h60
        by_cases h60n : 60 < n
        · have hkni : (60 : Int) < n := by omega
          go_wp2_with fail
          go_ret
          have fin : NewPost' w N (putList N noBits (l.take 60)) (.returned (.pointer (some ⟨b, 0, none⟩))) wr := ⟨b, rfl, hs.more (fun k h => .inr ⟨hSb k h, hs.lt k h⟩) (fun k h => by rcases h with h | h; exact h.elim; exact h.2), hbel⟩
          exact fin
        · have hkni : ¬ (60 : Int) < n := by omega
          go_wp2_with fail
          go_ret
          have fin : NewPost' w N (putList N noBits (l.take 60)) (.returned (.pointer (some ⟨b, 0, none⟩))) wr := ⟨b, rfl, hs.more (fun k h => .inr ⟨hSb k h, hs.lt k h⟩) (fun k h => by rcases h with h | h; exact h.elim; exact h.2), hbel⟩
          exact fin
      · have hkni : ¬ (k : Int) < n := by omega
        go_wp2_with fail
        go_ret
        have fin : NewPost' w N (putList N noBits (l.take 60)) (.returned (.pointer (some ⟨b, 0, none⟩))) wr := ⟨b, rfl, by rw [← HE.out]; exact hs.more (fun k h => .inr ⟨hSb k h, hs.lt k h⟩) (fun k h => by rcases h with h | h; exact h.elim; exact h.2), hbel⟩
        exact fin

theorem or_high {f g : Nat → Bool} {n : Nat} (hg : ∀ j, n ≤ j → g j = false) (j : Nat) : orSet (min n n) f g j = (f j || g j) := by
  unfold orSet
  by_cases h : j < n
  · simp [h]
  · simp [h, hg j (by omega)]
theorem orAns_sub {f g : Nat → Bool} {n : Nat} (h : ∀ j, g j = true → f j = true) : orAns (min n n) f g = false := by
  unfold orAns
  rw [List.any_eq_false]
  intro j _
  cases hg : g j
  · simp
  · simp [h j hg]
theorem below_congr {f g : Nat → Bool} (n : Nat) (h : ∀ j, f j = g j) : below f n = below g n := by rw [show f = g from funext h]
theorem below_mono {f g : Nat → Bool} (n : Nat) (h : ∀ j, f j = true → g j = true) : (below f n).length ≤ (below g n).length := by
  induction n with
  | zero => simp [below]
  | succ n ih =>
    rw [below_succ, below_succ, List.length_append, List.length_append]
    cases hf : f n
    · cases g n <;> simp <;> omega
    · rw [h n hf]; simp; omega

theorem IsSet.keep {w w' : World} {b n : Nat} {f : Nat → Bool} {S : Nat → Prop} (h : IsSet w b S n f) (hb : Below w.heap.size w w') : IsSet w' b S n f := h.touch (Touch.of_size hb (fun _ => False)) (fun _ _ hf => hf)

set_option maxHeartbeats 4000000 in
set_option maxRecDepth 100000 in
theorem walk_BitsUnites (n : Int) (va : Value) (a : List Int) (vb : Value) (b : List Int) (vc : Value) (c : List Int) (w : World) (_ : (Lit.int .i64 n).wf = true)
    (ha : RdL w (· < w.heap.size) 1 EInt va a) (hb : RdL w (· < w.heap.size) 1 EInt vb b) (hc : RdL w (· < w.heap.size) 1 EInt vc c) :
    Calls Try.prog 6 #[.int .i64 n, va, vb, vc] w fun e w' => e = .returned (.bool true) ∧ Below w.heap.size w w' := by
  have ra := ha.parts.1.rd
  have rb := hb.parts.1.rd
  have rc := hc.parts.1.rd
  clear ha hb hc
  obtain ⟨N, hN⟩ : ∃ N, N = (min (max n 0) 4096).toNat := ⟨_, rfl⟩
  obtain ⟨A, hA⟩ : ∃ A, A = putList N noBits (a.take 60) := ⟨_, rfl⟩
  obtain ⟨B, hB⟩ : ∃ B, B = putList N noBits (b.take 60) := ⟨_, rfl⟩
  obtain ⟨C, hC⟩ : ∃ C, C = putList N noBits (c.take 60) := ⟨_, rfl⟩
  have ofA : ∀ w', Below w.heap.size w w' → Calls Try.prog 20 #[.int .i64 n, va] w' (NewPost' w' N A) := fun w' hw => by
    rw [hA, hN]; exact law_of n (ra.below hw (fun _ h => h)) (fun k h => Nat.lt_of_lt_of_le h hw.size)
  have ofB : ∀ w', Below w.heap.size w w' → Calls Try.prog 20 #[.int .i64 n, vb] w' (NewPost' w' N B) := fun w' hw => by
    rw [hB, hN]; exact law_of n (rb.below hw (fun _ h => h)) (fun k h => Nat.lt_of_lt_of_le h hw.size)
  have ofC : ∀ w', Below w.heap.size w w' → Calls Try.prog 20 #[.int .i64 n, vc] w' (NewPost' w' N C) := fun w' hw => by
    rw [hC, hN]; exact law_of n (rc.below hw (fun _ h => h)) (fun k h => Nat.lt_of_lt_of_le h hw.size)
  have OA := hide ofA
  have OB := hide ofB
  have OC := hide ofC
  clear ra rb rc hN hA hB hC ofA ofB ofC
  go_enter Try.func6, Try.ntmps6
  go_wp2_with fail
  refine (OA.out _ (Below.refl _ _)).mono ?_
  rintro e w1 ⟨x, rfl, x1, b1⟩
  have z1 := b1.size
  go_wp2_with fail
  refine (OC.out _ b1).mono ?_
  rintro e w2 ⟨y, rfl, y2, b2⟩
  have z2 := b2.size
  have x2 := x1.keep b2
  have c2 := b1.trans (b2.mono z1)
  go_wp2_with fail
  refine (set_twin x2).mono ?_
  rintro e w3 ⟨t, rfl, t3, b3⟩
  have z3 := b3.size
  have x3 := x2.keep b3
  have y3 := y2.keep b3
  have c3 := c2.trans (b3.mono c2.size)
  -- names for the three footprints
  have hX : ∀ k, New (fun _ => False) w w1 k → w.heap.size ≤ k ∧ k < w1.heap.size := fun k h => by rcases h with h | h; exact h.elim; exact h
  have hY : ∀ k, New (fun _ => False) w1 w2 k → w1.heap.size ≤ k ∧ k < w2.heap.size := fun k h => by rcases h with h | h; exact h.elim; exact h
  have hT : ∀ k, New (fun _ => False) w2 w3 k → w2.heap.size ≤ k ∧ k < w3.heap.size := fun k h => by rcases h with h | h; exact h.elim; exact h
  obtain ⟨SX, hSX⟩ : ∃ S, S = New (fun _ => False) w w1 := ⟨_, rfl⟩
  obtain ⟨SY, hSY⟩ : ∃ S, S = New (fun _ => False) w1 w2 := ⟨_, rfl⟩
  obtain ⟨ST, hST⟩ : ∃ S, S = New (fun _ => False) w2 w3 := ⟨_, rfl⟩
  rw [← hSX] at x3 hX
  rw [← hSY] at y3 hY
  rw [← hST] at t3 hT
  have dXY : ∀ k, SX k → ¬ SY k := fun k h h' => by have := hX k h; have := hY k h'; omega
  have dYX : ∀ k, SY k → ¬ SX k := fun k h h' => by have := hX k h'; have := hY k h; omega
  have dTX : ∀ k, ST k → ¬ SX k := fun k h h' => by have := hX k h'; have := hT k h; omega
  have dTY : ∀ k, ST k → ¬ SY k := fun k h h' => by have := hY k h'; have := hT k h; omega
  have lX : ∀ k, SX k → w.heap.size ≤ k := fun k h => (hX k h).1
  have lY : ∀ k, SY k → w.heap.size ≤ k := fun k h => Nat.le_trans z1 (hY k h).1
  clear hSX hSY hST x1 x2 y2 b1 b2 b3 c2 hX hY hT z1 z2 z3
  go_wp2_with fail
  refine (OB.out _ c3).mono ?_
  rintro e w4 ⟨p4, rfl, q4, b4⟩
  have c4 := c3.trans (b4.mono c3.size)
  have x4 := x3.keep b4
  have y4 := y3.keep b4
  have t4 := t3.keep b4
  go_wp2_with fail
  refine (set_or x4 q4).mono ?_
  rintro e w5 ⟨rfl, x5, o5⟩
  have c5 := o5.toBelow lX c4 c4.size
  have y5 := y4.touch o5 dYX
  have t5 := t4.touch o5 dTX
  have x5' := x5.ext (or_high q4.high)
  clear x3 x4 x5 y3 y4 t3 t4 b4 o5 c3 c4
  go_wp2_with fail
  refine (OC.out _ c5).mono ?_
  rintro e w6 ⟨p6, rfl, q6, b6⟩
  have c6 := c5.trans (b6.mono c5.size)
  have x6 := x5'.keep b6
  have y6 := y5.keep b6
  have t6 := t5.keep b6
  go_wp2_with fail
  refine (set_or x6 q6).mono ?_
  rintro e w7 ⟨rfl, x7, o7⟩
  have c7 := o7.toBelow lX c6 c6.size
  have y7 := y6.touch o7 dYX
  have t7 := t6.touch o7 dTX
  have x7' := x7.ext (or_high q6.high)
  clear x5' x6 x7 y5 y6 t5 t6 b6 o7 c5 c6
  go_wp2_with fail
  refine (OB.out _ c7).mono ?_
  rintro e w8 ⟨p8, rfl, q8, b8⟩
  have c8 := c7.trans (b8.mono c7.size)
  have x8 := x7'.keep b8
  have y8 := y7.keep b8
  have t8 := t7.keep b8
  go_wp2_with fail
  refine (set_or y8 q8).mono ?_
  rintro e w9 ⟨rfl, y9, o9⟩
  have c9 := o9.toBelow lY c8 c8.size
  have x9 := x8.touch o9 dXY
  have t9 := t8.touch o9 dTY
  have y9' := y9.ext (or_high q8.high)
  clear x7' x8 y7 y8 y9 t7 t8 b8 o9 c7 c8
  go_wp2_with fail
  refine (OA.out _ c9).mono ?_
  rintro e w10 ⟨p10, rfl, q10, b10⟩
  have c10 := c9.trans (b10.mono c9.size)
  have x10 := x9.keep b10
  have y10 := y9'.keep b10
  have t10 := t9.keep b10
  go_wp2_with fail
  refine (set_or y10 q10).mono ?_
  rintro e w11 ⟨rfl, y11, o11⟩
  have c11 := o11.toBelow lY c10 c10.size
  have x11 := x10.touch o11 dXY
  have t11 := t10.touch o11 dTY
  have y11' := y11.ext (or_high q10.high)
  clear x9 x10 y9' y10 y11 t9 t10 b10 o11 c9 c10
  go_wp2_with fail
  refine (OA.out _ c11).mono ?_
  rintro e w12 ⟨p12, rfl, q12, b12⟩
  have c12 := c11.trans (b12.mono c11.size)
  have x12 := x11.keep b12
  have y12 := y11'.keep b12
  have t12 := t11.keep b12
  go_wp2_with fail
  have hagain : orAns (min N N) (fun j => (A j || B j) || C j) A = false := orAns_sub fun j h => by simp [h]
  have hor := set_or x12 q12
  rw [hagain] at hor
  refine hor.mono ?_
  rintro e w13 ⟨rfl, x13, o13⟩
  have c13 := o13.toBelow lX c12 c12.size
  have y13 := y12.touch o13 dYX
  have t13 := t12.touch o13 dTX
  have x13' := x13.ext (or_high q12.high)
  clear x11 x12 y11' y12 x13 t11 t12 b12 o13 c11 c12 hor hagain
  have e1 : below (fun j => ((A j || B j) || C j) || A j) N = below (fun j => (C j || B j) || A j) N := below_congr N fun j => by cases A j <;> cases B j <;> cases C j <;> rfl
  have e2 : (below A N).length ≤ (below (fun j => ((A j || B j) || C j) || A j) N).length := below_mono N fun j h => by simp [h]
  have E1 := hide e1
  clear e1
  go_wp2_with fail
  have hsame := set_same x13' y13
  rw [E1.out, decide_eq_true rfl] at hsame
  refine hsame.mono ?_
  rintro e w14 ⟨rfl, b14⟩
  have c14 := c13.trans (b14.mono c13.size)
  have x14 := x13'.keep b14
  have t14 := t13.keep b14
  clear hsame x13' y13 t13 c13 b14
  go_wp2_with fail
  refine (OA.out _ c14).mono ?_
  rintro e w15 ⟨p15, rfl, q15, b15⟩
  have c15 := c14.trans (b15.mono c14.size)
  have x15 := x14.keep b15
  have t15 := t14.keep b15
  go_wp2_with fail
  have hsame := set_same t15 q15
  rw [decide_eq_true rfl] at hsame
  refine hsame.mono ?_
  rintro e w16 ⟨rfl, b16⟩
  have c16 := c15.trans (b16.mono c15.size)
  have x16 := x15.keep b16
  have t16 := t15.keep b16
  clear hsame x14 x15 t14 t15 c14 c15 b15 b16 q15
  have hcx := set_count x16
  obtain ⟨lx, hlx⟩ : ∃ l, l = (below (fun j => ((A j || B j) || C j) || A j) N).length := ⟨_, rfl⟩
  obtain ⟨lt, hlt⟩ : ∃ l, l = (below A N).length := ⟨_, rfl⟩
  rw [← hlx] at hcx e2
  rw [← hlt] at e2
  have HLT := hide hlt
  have HCX := hide hcx
  clear hcx hlx hlt x16 E1
  go_wp2_with fail
  refine HCX.out.mono ?_
  rintro e w17 ⟨rfl, b17⟩
  have c17 := c16.trans (b17.mono c16.size)
  have hct := set_count (t16.keep b17)
  rw [← HLT.out] at hct
  have HCT := hide hct
  clear hct t16 b17 c16
  go_wp2_with fail
  refine HCT.out.mono ?_
  rintro e w18 ⟨rfl, b18⟩
  have c18 := c17.trans (b18.mono c17.size)
  have e2i : (lt : Int) ≤ lx := by omega
  go_wp2_with fail
  refine (bits_awake _).mono ?_
  rintro e w19 ⟨rfl, b19⟩
  go_wp2_with fail
  go_ret
  exact ⟨rfl, c18.trans (b19.mono c18.size)⟩
end Go.Proofs.Ytighpdnodehdcaa

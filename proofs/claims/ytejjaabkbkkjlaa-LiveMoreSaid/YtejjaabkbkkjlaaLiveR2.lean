/- conchref09: sort, Productive. -/
import Derived.Test.YtejjaabkbkkjlaaLiveR1
namespace Go.Proofs.Ytejjaabkbkkjlaa
set_option linter.unusedVariables false
open Go.RowKit
attribute [local irreducible] wpStill wpOne wpPh

/-- symbols that are in a list, rising -/
def sortOf (n : Nat) (l : List Int) : List Int := ((List.range n).map (fun i : Nat => (i : Int) + 1)).filter (fun s => decide (s ∈ l))
theorem sortOf_succ (n : Nat) (l : List Int) : sortOf (n + 1) l = sortOf n l ++ (if (n : Int) + 1 ∈ l then [(n : Int) + 1] else []) := by
  unfold sortOf
  rw [List.range_succ, List.map_append, List.filter_append]
  congr 1
  by_cases h : (n : Int) + 1 ∈ l <;> simp [h]
theorem sortOf_len (n : Nat) (l : List Int) : (sortOf n l).length ≤ n := by
  unfold sortOf
  exact Nat.le_trans (List.length_filter_le _ _) (by simp)
theorem sortOf_below {n : Nat} {l : List Int} {f : Nat → Bool} (h0 : f 0 = false) (h : ∀ s : Int, s ∈ l ↔ hasI (n + 1) f s = true) : sortOf n l = (below f (n + 1)).map (fun n : Nat => (n : Int)) := by
  unfold sortOf below
  rw [List.range_succ_eq_map, List.filter_cons_of_neg (by simp [h0]), List.filter_map, List.filter_map, List.map_map]
  have e1 : (fun i : Nat => (i : Int) + 1) = ((fun n : Nat => (n : Int)) ∘ Nat.succ) := by funext i; simp
  rw [e1]
  congr 1
  refine List.filter_congr fun i hi => ?_
  have hi := List.mem_range.1 hi
  simp only [Function.comp]
  rw [Bool.eq_iff_iff, decide_eq_true_eq, h]
  rw [hasI_nat (by omega)]

structure SSt (w wr : World) (F : Nat → Prop) (A1 : Option Addr) (c1 : Nat) (A2 : Option Addr) (c2 : Nat) (A3 : Option Addr) (c3 T N R : Nat) (st : Int) (G : GramD) (F1 : Nat → Prop) (vl : Value) (l : List Int) (A : Option Addr) (m c : Nat) (o : List Int) : Prop where
  g : GBox wr F w.heap.size A1 c1 A2 c2 A3 c3 T N R st G
  l : RdI wr F1 vl l
  o : wr.ownsRow (w.heap.size + 1) 3 1 (.slice A m c) m (o.map I64)
  b : Below w.heap.size w wr
  hF : ∀ k, F k → k < w.heap.size
  hl : ∀ k, F1 k → k < w.heap.size
section
variable {w wr wr' : World} {F : Nat → Prop} {A1 : Option Addr} {c1 : Nat} {A2 : Option Addr} {c2 : Nat} {A3 : Option Addr} {c3 T N R : Nat} {st : Int} {G : GramD} {F1 : Nat → Prop} {vl : Value} {l : List Int} {A : Option Addr} {m c : Nat} {o : List Int}
theorem SSt.below (h : SSt w wr F A1 c1 A2 c2 A3 c3 T N R st G F1 vl l A m c o) (hb : Below wr.heap.size wr wr') : SSt w wr' F A1 c1 A2 c2 A3 c3 T N R st G F1 vl l A m c o :=
  ⟨h.g.below hb, h.l.below hb (fun k hk => Nat.lt_of_lt_of_le (h.hl k hk) h.b.size), own_below' h.o hb, h.b.trans (hb.mono h.b.size), h.hF, h.hl⟩
theorem SSt.push {x : Int} {B : Option Addr} {d : Nat} (h : SSt w wr F A1 c1 A2 c2 A3 c3 T N R st G F1 vl l A m c o) (hg : wr.grownBy wr' (Value.slice A m c).ownBlock) (ho : wr'.ownsRow (w.heap.size + 1) 3 1 (.slice B (m + 1) d) (m + 1) (o.map I64 ++ [I64 x])) :
    SSt w wr' F A1 c1 A2 c2 A3 c3 T N R st G F1 vl l B (m + 1) d (o ++ [x]) := by
  have ht : Touch (fun k => w.heap.size + 1 ≤ k) wr wr' := (Touch.refl _ wr).grown hg (fun k hk _ => (h.o.lt k hk).1)
  exact ⟨h.g.touch ht (fun k hk hk' => by have := h.hF k hk; omega) (by omega), h.l.touch ht (fun k hk hk' => by have := h.hl k hk; omega), by rw [List.map_append]; exact ho, h.b.trans (ht.below (fun k hk _ hk' => by omega) h.b.size), h.hF, h.hl⟩
end

set_option maxRecDepth 100000 in
set_option maxHeartbeats 4000000 in
theorem ref_sort {w : World} {F F1 : Nat → Prop} {vt vn vr vl : Value} {G : GramD} (h : IsGram w F vt vn vr G) (st : Int) {l : List Int} (hl : RdI w F1 vl l) (hF1 : ∀ k, F1 k → k < w.heap.size) (hT : G.terms.length ≤ 120) (hN : G.nons.length ≤ 120) :
    Calls Try.prog 113 #[GV vt vn vr st, vl] w (IntsPost w (sortOf (G.terms.length + G.nons.length) l)) := by
  obtain ⟨A1, c1, A2, c2, A3, c3, rfl, rfl, rfl, -⟩ := h.slices
  obtain ⟨w1, hw1⟩ : ∃ w1, w1 = w.alloc (.cells #[.slice A1 G.terms.length c1, .slice A2 G.nons.length c2, .slice A3 G.rules.length c3, .int .i64 st] 25) := ⟨_, rfl⟩
  have g1 := GBox.new h st
  have b1 : Below w.heap.size w w1 := by rw [hw1]; exact (Below.refl _ w).alloc (Nat.le_refl _) _
  have z1 : w1.heap.size = w.heap.size + 1 := by rw [hw1]; simp
  rw [← hw1] at g1
  have ctop : ∀ wr, GBox wr F w.heap.size A1 c1 A2 c2 A3 c3 G.terms.length G.nons.length G.rules.length st G → Calls Try.prog 23 #[GV (.slice A1 G.terms.length c1) (.slice A2 G.nons.length c2) (.slice A3 G.rules.length c3) st] wr (Quiet wr (.int .i64 ((G.terms.length : Int) + (G.nons.length : Int)))) := fun wr g => by
    have := ref_top g.gram st
    rwa [show ((topOf G : Nat) : Int) = (G.terms.length : Int) + (G.nons.length : Int) by unfold topOf; omega] at this
  have s1 : SSt w w1 F A1 c1 A2 c2 A3 c3 G.terms.length G.nons.length G.rules.length st G F1 vl l none 0 0 [] := ⟨g1, hl.below b1 hF1, World.ownsRow_nil _ _ _ _, b1, h.lt, hF1⟩
  obtain ⟨Al, nl, cl, rfl, -⟩ := id hl
  generalize G.terms.length = T at *
  generalize G.nons.length = N at *
  generalize G.rules.length = R at *
  rw [hw1] at s1
  clear h hl g1 b1 z1 hw1
  have Xs1 := hide s1
  have Xctop := hide ctop
  have XhF1 := hide hF1
  clear s1 ctop hF1
  go_enter Try.func113, Try.ntmps113
  go_wp2_with fail
  go_loopw [5, 6] (fun o i wr => ∃ (k : Nat) (A : Option Addr) (m c : Nat), k ≤ T + N ∧ i = .int .i64 ((k : Int) + 1) ∧ o = .slice A m c ∧ m ≤ k ∧ SSt w wr F A1 c1 A2 c2 A3 c3 T N R st G F1 (.slice Al nl cl) l A m c (sortOf k l)) (fun _ i _ => (T + N + 1) - (intOf i).toNat)
  case atStart => exact ⟨0, none, 0, 0, Nat.zero_le _, rfl, rfl, Nat.le_refl _, Xs1.out⟩
  case round =>
    clear Xs1
    obtain ⟨k, A, m, c, hk, rfl, rfl, hmk, s⟩ := hrel
    have ct := Xctop.out _ s.g
    obtain ⟨q0, q1, q2, q3⟩ := s.g.cells
    have Xs := hide s
    have Xct := hide ct
    clear s ct
    go_wp2_with fail
    with_reducible refine Xct.out.mono ?_
    rintro e w5 ⟨rfl, b5⟩
    have s5 := Xs.out.below b5
    clear Xs Xct b5 q0 q1 q2 q3
    by_cases hlt : k < T + N
    · have hlt' : (k : Int) + 1 ≤ (T : Int) + (N : Int) := by omega
      have ch := ref_has s5.l ((k : Int) + 1)
      have hsu := sortOf_succ k l
      by_cases hm : (k : Int) + 1 ∈ l
      · rw [decide_eq_true hm] at ch
        rw [if_pos hm] at hsu
        have s6 := s5.below ((Below.refl _ w5).alloc (Nat.le_refl _) (.cells #[I64 ((k : Int) + 1)] 3))
        have ho6 := s6.o
        have r6 : Rd (w5.alloc (.cells #[I64 ((k : Int) + 1)] 3)) (fun _ => True) (.slice (some ⟨w5.heap.size, 0, none⟩) 1 1) 1 [I64 ((k : Int) + 1)] := Rd.one (w := w5) (e := 3) [I64 ((k : Int) + 1)] 1 rfl
        have hz6 : w.heap.size + 1 ≤ (w5.alloc (.cells #[I64 ((k : Int) + 1)] 3)).heap.size := by have := s5.g.blk.lt; simp; omega
        generalize sortOf k l = so at *
        have Xs5 := hide s5
        have Xch := hide ch
        have Xhm := hide hm
        have Xhsu := hide hsu
        have Xs6 := hide s6
        clear s5 ch hm hsu s6
        go_wp2_with fail
        with_reducible refine Xch.out.mono ?_
        rintro e w6 ⟨rfl, rfl⟩
        go_wp2_with (at_builtin; refine wp_append _ rfl (.tmp 16) (.tmp 18) _ rfl Try.elemInt (w.heap.size + 1) _ m (so.map I64) rfl ho6 _ _ [I64 ((k : Int) + 1)] 1 rfl rfl r6 (by simp [Value.oneCell']) (by unfold maxLen; omega) (by omega) hz6 ?_)
        intro A7 c7 w7 h7 g7 _
        have s7 := Xs6.out.push g7 h7
        rw [← Xhsu.out] at s7
        clear ho6 r6 h7 g7 Xs6 Xs5
        have Xs7 := hide s7
        clear s7
        go_wp2_with fail
        go_roundw
        case rel => exact ⟨k + 1, A7, m + 1, c7, by omega, by go_num, rfl, by omega, Xs7.out⟩
        case measure => simp [intOf]; omega
      · rw [decide_eq_false hm] at ch
        rw [if_neg hm, List.append_nil] at hsu
        have Xs5 := hide s5
        have Xch := hide ch
        have Xhm := hide hm
        have Xhsu := hide hsu
        clear s5 ch hm hsu
        go_wp2_with fail
        with_reducible refine Xch.out.mono ?_
        rintro e w6 ⟨rfl, rfl⟩
        go_wp2_with fail
        go_roundw
        case rel => exact ⟨k + 1, A, m, c, by omega, by go_num, rfl, by omega, by rw [Xhsu.out]; exact Xs5.out⟩
        case measure => simp [intOf]; omega
    · have hlt' : ¬ (k : Int) + 1 ≤ (T : Int) + (N : Int) := by omega
      have hkk : k = T + N := by omega
      subst hkk
      have fin : IntsPost w (sortOf (T + N) l) (.returned (.slice A m c)) w5 := ⟨A, m, c, rfl, (Rd.of_own s5.o).mono (fun k hk => by have := s5.o.lt k hk; omega), s5.b⟩
      have Xfin := hide fin
      have Xs5 := hide s5
      clear fin s5
      go_wp2_with fail
      go_ret
      exact Xfin.out

/-! ### a list as a set -/
def memF (l : List Int) (j : Nat) : Bool := decide ((j : Int) ∈ l)
theorem unset_mem {l : List Int} {x : Int} {n : Nat} (h0 : 0 ≤ x) (h1 : x < n) (h : x ∉ l) : unset (memF (l ++ [x])) n < unset (memF l) n := by
  unfold unset
  refine filt_lt n (fun j hj => ?_) (i := x.toNat) (by omega) ?_ ?_
  · unfold memF at hj ⊢
    simp only [Bool.not_eq_true', decide_eq_false_iff_not] at hj ⊢
    exact fun hh => hj (by simp [hh])
  · unfold memF
    rw [show ((x.toNat : Nat) : Int) = x by omega]
    simp [h]
  · unfold memF
    rw [show ((x.toNat : Nat) : Int) = x by omega]
    simp
theorem prdL_of {G : GramD} {st : Int} (hk : Kn G st) {l : List Int} (hs : ∀ s ∈ l, PrdG G s) (hc : ∀ r ∈ G.rules, fineB G (memB l) r.2 = true → r.1 ∈ l) : sortOf (G.terms.length + G.nons.length) l = prdL G := by
  refine sortOf_below ?_ fun s => ⟨fun h => ?_, fun h => ?_⟩
  · cases e : prdB G 0 with
    | false => rfl
    | true => have := hk.prd (toB_iff.1 e); rw [isNon_iff] at this; omega
  · have h1 := hs s h
    have := hk.prd h1
    rw [isNon_iff] at this
    unfold hasI
    simp only [Bool.and_eq_true, decide_eq_true_eq]
    exact ⟨⟨by omega, by omega⟩, toB_iff.2 (by rw [show ((s.toNat : Nat) : Int) = s by omega]; exact h1)⟩
  · unfold hasI at h
    simp only [Bool.and_eq_true, decide_eq_true_eq] at h
    have h1 := toB_iff.1 h.2
    rw [show ((s.toNat : Nat) : Int) = s by omega] at h1
    have := prd_closed (p := memB l) (fun r hr hf => by unfold memB; exact decide_eq_true (hc r hr hf)) h1
    unfold memB at this
    exact of_decide_eq_true this
theorem rchL_of {G : GramD} {st : Int} (hk : Kn G st) {l : List Int} (hs : ∀ s ∈ l, Rch G.rules st s) (h0 : st ∈ l) (hc : ∀ r ∈ G.rules, r.1 ∈ l → ∀ x ∈ r.2, x ∈ l) : sortOf (G.terms.length + G.nons.length) l = rchL G st := by
  refine sortOf_below (rchB_zero hk) fun s => ⟨fun h => ?_, fun h => ?_⟩
  · have h1 := hs s h
    have := hk.rch h1
    unfold hasI
    simp only [Bool.and_eq_true, decide_eq_true_eq]
    exact ⟨⟨by omega, by omega⟩, toB_iff.2 (by rw [show ((s.toNat : Nat) : Int) = s by omega]; exact h1)⟩
  · unfold hasI at h
    simp only [Bool.and_eq_true, decide_eq_true_eq] at h
    have h1 := toB_iff.1 h.2
    rw [show ((s.toNat : Nat) : Int) = s by omega] at h1
    have := rch_closed (p := memB l) (by unfold memB; exact decide_eq_true h0) (fun r hr hf x hx => by unfold memB at hf ⊢; exact decide_eq_true (hc r hr (of_decide_eq_true hf) x hx)) h1
    unfold memB at this
    exact of_decide_eq_true this
end Go.Proofs.Ytejjaabkbkkjlaa

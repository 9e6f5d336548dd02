/- Items in memory: lists of two cells an element. -/
import Derived.Test.YtlpokomfljmogaaGreatItemPlain
import Derived.Test.YtlpokomfljmogaaGreatOpenZ
import Derived.Test.YtlpokomfljmogaaGreatG7
import Derived.Test.YtlpokomfljmogaaGreatRegion
import Derived.Laws.StructEq
import Derived.Shelf.SlicesE.Kit
namespace Go.Proofs.YtlpokomfljmogaaGreat
set_option linter.unusedVariables false
section
open Go.RowKit
def itCells : List It → List Value
 | [] => []
 | x :: r => I64 x.1 :: I64 x.2 :: itCells r
theorem itCells_length : ∀ l : List It, (itCells l).length = l.length * 2
 | [] => rfl
 | x :: r => by simp [itCells, itCells_length r]; omega
theorem itCells_append : ∀ a b : List It, itCells (a ++ b) = itCells a ++ itCells b
 | [], b => rfl
 | x :: r, b => by simp [itCells, itCells_append r b]
theorem itCells_get : ∀ {l : List It} {k : Nat} {x : It}, l[k]? = some x → (itCells l)[k * 2]? = some (I64 x.1) ∧ (itCells l)[k * 2 + 1]? = some (I64 x.2)
 | [], k, x, h => by simp at h
 | y :: r, 0, x, h => by simp at h; subst h; exact ⟨rfl, rfl⟩
 | y :: r, k + 1, x, h => by
  have := itCells_get (l := r) (k := k) (x := x) (by simpa using h)
  rw [show (k + 1) * 2 = k * 2 + 1 + 1 by omega]
  simpa [itCells] using this
theorem itCells_one (l : List It) : ∀ u ∈ itCells l, u.oneCell' = true := by
 induction l with
 | nil => simp [itCells]
 | cons x r ih =>
  intro u hu
  simp only [itCells, List.mem_cons] at hu
  rcases hu with rfl | rfl | hu
  ·rfl
  ·rfl
  ·exact ih u hu
theorem itCells_at {l : List It} {j : Nat} {u : Value} (h : (itCells l)[j]? = some u) : ∃ k x, l[k]? = some x ∧ ((j = k * 2 ∧ u = I64 x.1) ∨ (j = k * 2 + 1 ∧ u = I64 x.2)) := by
 induction l generalizing j with
 | nil => simp [itCells] at h
 | cons y r ih =>
  match j, h with
  | 0, h => simp [itCells] at h; exact ⟨0, y, rfl, .inl ⟨rfl, h.symm⟩⟩
  | 1, h => simp [itCells] at h; exact ⟨0, y, rfl, .inr ⟨rfl, h.symm⟩⟩
  | j + 2, h =>
   simp [itCells] at h
   obtain ⟨k, x, h1, h2⟩ := ih h
   refine ⟨k + 1, x, by simpa using h1, ?_⟩
   rcases h2 with ⟨e1, e2⟩ | ⟨e1, e2⟩
   ·exact .inl ⟨by omega, e2⟩
   ·exact .inr ⟨by omega, e2⟩
abbrev RdIt (w : World) (F : Nat → Prop) (v : Value) (l : List It) : Prop := Rd w F v 2 (itCells l)
theorem RdIt.at_ {w : World} {F : Nat → Prop} {A : Option Addr} {n c : Nat} {l : List It} (h : RdIt w F (.slice A n c) l) : n = l.length ∧ n ≤ c ∧ c ≤ maxLen ∧ (0 < n → ∃ b off, A = some ⟨b, off, none⟩ ∧ F b ∧ ∀ k x, l[k]? = some x → w.cell? ⟨b, off + k * 2, none⟩ = some (.int .i64 x.1) ∧ w.cell? ⟨b, off + k * 2 + 1, none⟩ = some (.int .i64 x.2)) := by
 obtain ⟨A', n', c', hv, h1, h2, hl, hr⟩ := h
 injection hv with e1 e2 e3
 subst e1 e2 e3
 rw [itCells_length] at hl
 refine ⟨by omega, h1, h2, fun hn => ?_⟩
 obtain ⟨b, off, hA, hF, hc⟩ := hr hn
 refine ⟨b, off, hA, hF, fun k x hx => ?_⟩
 obtain ⟨k1, k2⟩ := itCells_get hx
 exact ⟨hc _ _ k1, by rw [Nat.add_assoc]; exact hc _ _ k2⟩
theorem RdIt.mk {w : World} {F : Nat → Prop} {b off n c : Nat} {l : List It} (hn : n = l.length) (hc : n ≤ c) (hm : c ≤ maxLen) (hF : F b) (h : ∀ k x, l[k]? = some x → w.cell? ⟨b, off + k * 2, none⟩ = some (.int .i64 x.1) ∧ w.cell? ⟨b, off + k * 2 + 1, none⟩ = some (.int .i64 x.2)) : RdIt w F (.slice (some ⟨b, off, none⟩) n c) l := by
 refine ⟨_, _, _, rfl, hc, hm, by rw [itCells_length, hn], fun _ => ⟨b, off, rfl, hF, fun j u hu => ?_⟩⟩
 obtain ⟨k, x, hx, h2 | h2⟩ := itCells_at hu
 ·rw [h2.1, h2.2]; exact (h k x hx).1
 ·rw [h2.1, h2.2, ← Nat.add_assoc]; exact (h k x hx).2
theorem RdIt.one {w : World} {e : TypeId} (x : It) : RdIt (w.alloc (.cells #[.int .i64 x.1, .int .i64 x.2] e)) (fun b => b = w.heap.size) (.slice (some ⟨w.heap.size, 0, none⟩) 1 1) [x] := Rd.one' (w := w) (e := e) [I64 x.1, I64 x.2] 2 rfl
section
open Go.ChangeShapes Go.WideShapes Go.ChangeAt Go.RowKit Go.Deep
variable {H : Type} {enc : TypeId × Value → H} {w : World} {sp : Nat → Bool}
end
def WfI (x : It) : Prop := (-9223372036854775808 ≤ x.1 ∧ x.1 ≤ 9223372036854775807) ∧ (-9223372036854775808 ≤ x.2 ∧ x.2 ≤ 9223372036854775807)
end
section
open Go.RowKit
attribute [local irreducible] wpStill wpOne wpPh
abbrev ItV (x : It) : Value := .agg #[.int .i64 x.1, .int .i64 x.2]
theorem two_boxes {w : World} {F : Nat → Prop} {A1 : Option Addr} {c1 : Nat} {A2 : Option Addr} {c2 : Nat} {A3 : Option Addr} {c3 T N R : Nat} {G : GramD} (h : IsGram w F (.slice A1 T c1) (.slice A2 N c2) (.slice A3 R c3) G) (st a d : Int) :
  ∃ w2, w2 = (w.alloc (.cells #[.slice A1 T c1, .slice A2 N c2, .slice A3 R c3, .int .i64 st] 25)).alloc (.cells #[.int .i64 a, .int .i64 d] 34) ∧ GBox w2 F w.heap.size A1 c1 A2 c2 A3 c3 T N R st G ∧ Blk w2 (w.heap.size + 1) 34 #[.int .i64 a, .int .i64 d] ∧ Below w.heap.size w w2 := by
 have g1 := GBox.new h st
 obtain ⟨w1, hw1⟩ : ∃ w1, w1 = w.alloc (.cells #[.slice A1 T c1, .slice A2 N c2, .slice A3 R c3, .int .i64 st] 25) := ⟨_, rfl⟩
 have hs : w1.heap.size = w.heap.size + 1 := by rw [hw1]; simp
 rw [← hw1] at g1
 have b1 : Below w.heap.size w w1 := by rw [hw1]; exact (Below.refl _ w).alloc (Nat.le_refl _) _
 have b2 : Below w1.heap.size w1 (w1.alloc (.cells #[.int .i64 a, .int .i64 d] 34)) := (Below.refl _ _).alloc (Nat.le_refl _) _
 refine ⟨_, rfl, ?_, ?_, ?_⟩
 ·rw [← hw1]; exact g1.below b2
 ·rw [← hw1, ← hs]; exact Blk.new _ _ _
 ·rw [← hw1]; exact b1.trans (b2.mono b1.size)
set_option maxRecDepth 100000 in
set_option maxHeartbeats 2000000 in
theorem ref12_right {w : World} {F : Nat → Prop} {vt vn vr : Value} {G : GramD} (h : IsGram w F vt vn vr G) (st : Int) (x : It) :
  Calls Tryz.prog 22 #[GV vt vn vr st, ItV x] w (Quiet w (.bool (rightI G st x))) := by
 have n1 : (ruleOf G st x.1).2 = (ruleOf G st x.1).2 := rfl
 have n2 := n1
 obtain ⟨A1, c1, A2, c2, A3, c3, rfl, rfl, rfl, -⟩ := h.slices
 obtain ⟨a, d⟩ := x
 obtain ⟨w2, hw2, g2, k2, hb2⟩ := two_boxes h st a d
 have hc := ref_rule g2.gram st a
 obtain ⟨q0, q1, q2, q3⟩ := g2.cells
 have d0 := (k2.cell 0).trans rfl
 have d1 := (k2.cell 1).trans rfl
 have hv : rightI G st (a, d) = ((ruleOf G st a).2 && (decide (0 ≤ d) && decide (d ≤ (ruleOf G st a).1.2.length))) := rfl
 generalize ruleOf G st a = r at *
 obtain ⟨⟨l, xs⟩, ok⟩ := r
 (try simp only at hv n1 n2)
 rw [hw2] at hc q0 q1 q2 q3 d0 d1
 generalize G.terms.length = T at *
 generalize G.nons.length = N at *
 generalize G.rules.length = R at *
 have Xg2 := hide g2
 have Xk2 := hide k2
 have Xhb2 := hide hb2
 have Xhc := hide hc
 have Xhv := hide hv
 have Xh := hide h
 have Xn1 := hide n1
 have Xn2 := hide n2
 clear g2 k2 hb2 hc hv h n1 n2
 go_enter Tryz.func22, Tryz.ntmps22
 go_wp2_with fail
 refine Xhc.out.mono ?_
 rintro e w3 ⟨A, n, c, rfl, hrd, b3⟩
 rw [← hw2] at b3
 have hb3 := Xhb2.out.trans (b3.mono Xhb2.out.size)
 have k3 := Xk2.out.below b3 Xk2.out.lt
 clear hw2 q0 q1 q2 q3 d0 d1 Xhc
 obtain ⟨hn, hnc, hcm, -⟩ := RdI.at_ hrd
 obtain ⟨w4, hw4⟩ : ∃ w4, w4 = w3.alloc (.cells #[.int .i64 l, .slice A n c] 80) := ⟨_, rfl⟩
 have b4 : Below w3.heap.size w3 w4 := by rw [hw4]; exact (Below.refl _ _).alloc (Nat.le_refl _) _
 have k4 := k3.below b4 k3.lt
 have hb4 := hb3.trans (b4.mono hb3.size)
 have d0 := (k4.cell 0).trans rfl
 have d1 := (k4.cell 1).trans rfl
 have hrd4 := hrd.below b4 (fun b hb => hb)
 rw [← hn] at Xhv
 rw [hw4] at d0 d1
 clear hnc hcm hn b3 b4 k3 k4 hb3 Xk2 Xhb2 Xg2
 have Xhrd := hide hrd
 have Xhrd4 := hide hrd4
 have Xhb4 := hide hb4
 clear hrd hrd4 hb4
 cases ok with
 | false =>
  go_wp2_with fail
  go_ret
  rw [← hw4]
  exact ⟨ret_bool (by rw [Xhv.out]; rfl), Xhb4.out⟩
 | true =>
  by_cases h0 : (0 : Int) ≤ d
  ·by_cases h1 : d ≤ (n : Int)
   ·go_wp2_with fail
    go_ret
    rw [← hw4]
    exact ⟨ret_bool (by rw [Xhv.out, decide_eq_true h0, decide_eq_true h1]; rfl), Xhb4.out⟩
   ·go_wp2_with fail
    go_ret
    rw [← hw4]
    exact ⟨ret_bool (by rw [Xhv.out, decide_eq_true h0, decide_eq_false (by omega)]; rfl), Xhb4.out⟩
  ·go_wp2_with fail
   go_ret
   rw [← hw4]
   exact ⟨ret_bool (by rw [Xhv.out, decide_eq_false (by omega)]; rfl), Xhb4.out⟩
def BehindPost (w : World) (r : Int × Bool) (e : Ending) (w' : World) : Prop := e = .returned (.tuple #[.int .i64 r.1, .bool r.2]) ∧ Below w.heap.size w w'
theorem behind_no {G : GramD} {st a d : Int} (h : (ruleOf G st a).2 = false ∨ d < 0 ∨ ((ruleOf G st a).1.2.length : Int) ≤ d) : behindI G st (a, d) = (0, false) := by
 unfold behindI rightI
 rw [if_neg]
 rintro ⟨h1, h2⟩
 simp only [Bool.and_eq_true, decide_eq_true_eq] at h1 h2
 rcases h with h | h | h
 ·rw [h] at h1; exact absurd h1.1 (by simp)
 ·omega
 ·omega
theorem behind_yes {G : GramD} {st a : Int} {k : Nat} {s : Int} (h : (ruleOf G st a).2 = true) (hs : (ruleOf G st a).1.2[k]? = some s) : behindI G st (a, (k : Int)) = (s, true) := by
 have hk := (List.getElem?_eq_some_iff.1 hs).1
 unfold behindI rightI
 rw [if_pos, Int.toNat_natCast, hs]; rfl
 simp only [h, Bool.true_and, Bool.and_eq_true, decide_eq_true_eq]
 omega
set_option maxRecDepth 100000 in
set_option maxHeartbeats 2000000 in
theorem ref12_behind {w : World} {F : Nat → Prop} {vt vn vr : Value} {G : GramD} (h : IsGram w F vt vn vr G) (st : Int) (x : It) :
  Calls Tryz.prog 21 #[GV vt vn vr st, ItV x] w (BehindPost w (behindI G st x)) := by
 obtain ⟨A1, c1, A2, c2, A3, c3, rfl, rfl, rfl, -⟩ := h.slices
 obtain ⟨a, d⟩ := x
 obtain ⟨w2, hw2, g2, k2, hb2⟩ := two_boxes h st a d
 have hc := ref_rule g2.gram st a
 obtain ⟨q0, q1, q2, q3⟩ := g2.cells
 have d0 := (k2.cell 0).trans rfl
 have d1 := (k2.cell 1).trans rfl
 have cr : ∀ wr, GBox wr F w.heap.size A1 c1 A2 c2 A3 c3 G.terms.length G.nons.length G.rules.length st G → Calls Tryz.prog 22 #[GV (.slice A1 G.terms.length c1) (.slice A2 G.nons.length c2) (.slice A3 G.rules.length c3) st, .agg #[.int .i64 a, .int .i64 d]] wr (Quiet wr (.bool (rightI G st (a, d)))) := fun wr g => ref12_right g.gram st (a, d)
 have n0 : rightI G st (a, d) = false → behindI G st (a, d) = (0, false) := fun e => by unfold behindI; rw [if_neg (by rw [e]; simp)]
 have n1 : ((ruleOf G st a).1.2.length : Int) ≤ d → behindI G st (a, d) = (0, false) := fun e => behind_no (.inr (.inr e))
 have n2 : ∀ (k : Nat) (s : Int), d = k → (ruleOf G st a).2 = true → (ruleOf G st a).1.2[k]? = some s → behindI G st (a, d) = (s, true) := fun k s e h1 h2 => by rw [e]; exact behind_yes h1 h2
 have n3 : rightI G st (a, d) = true → (ruleOf G st a).2 = true ∧ 0 ≤ d := fun e => by
  unfold rightI at e
  simp only [Bool.and_eq_true, decide_eq_true_eq] at e
  exact ⟨e.1, e.2.1⟩
 generalize ruleOf G st a = r at *
 obtain ⟨⟨l, xs⟩, ok⟩ := r
 generalize rightI G st (a, d) = rt at *
 rw [hw2] at hc q0 q1 q2 q3 d0 d1
 generalize G.terms.length = T at *
 generalize G.nons.length = N at *
 generalize G.rules.length = R at *
 simp only at n1 n2 n3
 have Xg2 := hide g2
 have Xk2 := hide k2
 have Xhb2 := hide hb2
 have Xhc := hide hc
 have Xh := hide h
 have Xn0 := hide n0
 have Xn1 := hide n1
 have Xn2 := hide n2
 have Xn3 := hide n3
 have Xcr := hide cr
 clear g2 k2 hb2 hc h n0 n1 n2 n3 cr
 go_enter Tryz.func21, Tryz.ntmps21
 go_wp2_with fail
 refine Xhc.out.mono ?_
 rintro e w3 ⟨A, n, c, rfl, hrd, b3⟩
 rw [← hw2] at b3
 have hb3 := Xhb2.out.trans (b3.mono Xhb2.out.size)
 have k3 := Xk2.out.below b3 Xk2.out.lt
 have g3 := Xg2.out.below b3
 clear hw2 q0 q1 q2 q3 d0 d1 Xhc Xg2 Xk2 Xhb2
 obtain ⟨hn, hnc, hcm, -⟩ := RdI.at_ hrd
 obtain ⟨w4, hw4⟩ : ∃ w4, w4 = w3.alloc (.cells #[.int .i64 l, .slice A n c] 80) := ⟨_, rfl⟩
 have b4 : Below w3.heap.size w3 w4 := by rw [hw4]; exact (Below.refl _ _).alloc (Nat.le_refl _) _
 have k4 := k3.below b4 k3.lt
 have g4 := g3.below b4
 have r4 : Blk w4 w3.heap.size 80 #[.int .i64 l, .slice A n c] := by rw [hw4]; exact Blk.new _ _ _
 have hb4 := hb3.trans (b4.mono hb3.size)
 have d0 := (k4.cell 0).trans rfl
 have d1 := (k4.cell 1).trans rfl
 have hrd4 := hrd.below b4 (fun b hb => hb)
 obtain ⟨q0, q1, q2, q3⟩ := g4.cells
 have hc4 := Xcr.out _ g4
 rw [hw4] at d0 d1 q0 q1 q2 q3 hc4
 clear Xcr b3 k3 g3 hb3 g4
 have Xk4 := hide k4
 have Xr4 := hide r4
 have Xhb4 := hide hb4
 have Xhrd4 := hide hrd4
 have Xhc4 := hide hc4
 have Xhn := hide hn
 have Xhrd := hide hrd
 clear k4 r4 hb4 hrd4 hc4 hn hrd
 go_wp2_with fail
 with_reducible refine Xhc4.out.mono ?_
 rintro e w5 ⟨rfl, b5⟩
 rw [← hw4] at b5
 have k5 := Xk4.out.below b5 Xk4.out.lt
 have r5 := Xr4.out.below b5 Xr4.out.lt
 have hb5 := Xhb4.out.trans (b5.mono Xhb4.out.size)
 have hrd5 := Xhrd4.out.below b5 (fun b hb => Nat.lt_of_lt_of_le hb b4.size)
 have d0 := (k5.cell 0).trans rfl
 have d1 := (k5.cell 1).trans rfl
 have e0 := (r5.cell 0).trans rfl
 have e1 := (r5.cell 1).trans rfl
 clear hw4 b4 b5 k5 r5 Xk4 Xr4 Xhb4 Xhrd4 Xhc4 Xhrd q0 q1 q2 q3
 have Xhb5 := hide hb5
 clear hb5
 cases rt with
 | false =>
  have hf := Xn0.out rfl
  have Xhf := hide hf
  have Xhrd5 := hide hrd5
  clear hf hrd5
  go_wp2_with fail
  go_ret2
  exact ⟨by rw [Xhf.out]; rfl, Xhb5.out⟩
 | true =>
  obtain ⟨h1, h0⟩ := Xn3.out rfl
  by_cases h2 : (n : Int) ≤ d
  ·have hf := Xn1.out (by rw [← Xhn.out]; exact h2)
   have Xhf := hide hf
   have Xhrd5 := hide hrd5
   have Xh1 := hide h1
   clear hf hrd5 h1
   go_wp2_with fail
   go_ret2
   exact ⟨by rw [Xhf.out]; rfl, Xhb5.out⟩
  ·obtain ⟨k, rfl⟩ := Int.eq_ofNat_of_zero_le h0
   have hk : k < n := by omega
   obtain ⟨-, -, -, hcell⟩ := RdI.at_ hrd5
   obtain ⟨b, off, rfl, -, hcc⟩ := hcell (by omega)
   obtain ⟨s, hs⟩ : ∃ s, xs[k]? = some s := ⟨_, List.getElem?_eq_getElem (by rw [← Xhn.out]; exact hk)⟩
   have hcs := hcc k s hs
   have hf := Xn2.out k s rfl h1 hs
   clear hrd5 hcell hcc
   have Xhf := hide hf
   have Xhs := hide hs
   have Xh1 := hide h1
   clear hf hs h1
   go_wp2_with fail
   go_ret2
   exact ⟨by rw [Xhf.out]; rfl, Xhb5.out⟩
def mayB (G : GramD) (st : Int) : Bool := decide (checkOf G st = 0)
set_option maxRecDepth 100000 in
set_option maxHeartbeats 2000000 in
theorem item_may {w : World} {F : Nat → Prop} {vt vn vr : Value} {G : GramD} (h : IsGram w F vt vn vr G) (st : Int) :
  Calls Tryz.prog 58 #[GV vt vn vr st] w (Quiet w (.bool (mayB G st))) := by
 obtain ⟨A1, c1, A2, c2, A3, c3, rfl, rfl, rfl, -⟩ := h.slices
 obtain ⟨w1, hw1⟩ : ∃ w1, w1 = w.alloc (.cells #[.slice A1 G.terms.length c1, .slice A2 G.nons.length c2, .slice A3 G.rules.length c3, .int .i64 st] 25) := ⟨_, rfl⟩
 have g1 := GBox.new h st
 have b1 : Below w.heap.size w w1 := by rw [hw1]; exact (Below.refl _ w).alloc (Nat.le_refl _) _
 rw [← hw1] at g1
 have hc := gram_check g1.gram st
 have hm : mayB G st = decide (checkOf G st = 0) := rfl
 obtain ⟨q0, q1, q2, q3⟩ := g1.cells
 generalize checkOf G st = cz at *
 generalize G.terms.length = T at *
 generalize G.nons.length = N at *
 generalize G.rules.length = R at *
 rw [hw1] at hc q0 q1 q2 q3
 have Xhc := hide hc
 have Xb1 := hide b1
 have Xg1 := hide g1
 have Xh := hide h
 have Xhm := hide hm
 clear hc b1 g1 h hm
 go_enter Tryz.func58, Tryz.ntmps58
 go_wp2_with fail
 with_reducible refine Xhc.out.mono ?_
 rintro e w2 ⟨rfl, b2⟩
 rw [← hw1] at b2
 clear hw1 q0 q1 q2 q3
 have hb2 := Xb1.out.trans (b2.mono Xb1.out.size)
 by_cases hz : cz = 0
 ·subst hz
  go_wp2_with fail
  go_ret
  exact ⟨ret_bool (by rw [Xhm.out]; rfl), hb2⟩
 ·have hz' : (cz == 0) = false := by simpa using hz
  go_wp2_with fail
  go_ret
  exact ⟨ret_bool (by rw [Xhm.out, decide_eq_false hz]), hb2⟩
end
section
open Go.RowKit
attribute [local irreducible] wpStill wpOne wpPh
def ItPost (w : World) (l : List It) (e : Ending) (w' : World) : Prop := ∃ A n c, e = .returned (.slice A n c) ∧ RdIt w' (fun b => w.heap.size ≤ b ∧ b < w'.heap.size) (.slice A n c) l ∧ Below w.heap.size w w'
theorem ItPost.nil {w w' : World} (h : Below w.heap.size w w') : ItPost w [] (.returned (.slice none 0 0)) w' := ⟨none, 0, 0, rfl, Rd.nil _ _ _, h⟩
set_option maxRecDepth 100000 in
set_option maxHeartbeats 2000000 in
theorem item_Begin {w : World} {F : Nat → Prop} {vt vn vr : Value} {G : GramD} (h : IsGram w F vt vn vr G) (st : Int) :
  Calls Tryz.prog 17 #[GV vt vn vr st] w (ItPost w (if mayB G st = true then [((G.rules.length : Int), 0)] else [])) := by
 obtain ⟨A1, c1, A2, c2, A3, c3, rfl, rfl, rfl, -⟩ := h.slices
 obtain ⟨w1, hw1⟩ : ∃ w1, w1 = w.alloc (.cells #[.slice A1 G.terms.length c1, .slice A2 G.nons.length c2, .slice A3 G.rules.length c3, .int .i64 st] 25) := ⟨_, rfl⟩
 have g1 := GBox.new h st
 have b1 : Below w.heap.size w w1 := by rw [hw1]; exact (Below.refl _ w).alloc (Nat.le_refl _) _
 rw [← hw1] at g1
 have hc := item_may g1.gram st
 obtain ⟨q0, q1, q2, q3⟩ := g1.cells
 generalize mayB G st = mb at *
 generalize G.terms.length = T at *
 generalize G.nons.length = N at *
 generalize G.rules.length = R at *
 obtain ⟨rs, hrs⟩ : ∃ r, r = (if mb = true then [((R : Int), (0 : Int))] else []) := ⟨_, rfl⟩
 rw [← hrs]
 rw [hw1] at hc q0 q1 q2 q3
 have Xhc := hide hc
 have Xb1 := hide b1
 have Xg1 := hide g1
 have Xh := hide h
 have Xhrs := hide hrs
 clear hc b1 g1 h hrs
 go_enter Tryz.func17, Tryz.ntmps17
 go_wp2_with fail
 with_reducible refine Xhc.out.mono ?_
 rintro e w2 ⟨rfl, b2⟩
 rw [← hw1] at b2
 have g2 := Xg1.out.below b2
 have hb2 := Xb1.out.trans (b2.mono Xb1.out.size)
 clear hw1 q0 q1 q2 q3 Xhc Xb1 Xg1 b2
 obtain ⟨q0, q1, q2, q3⟩ := g2.cells
 cases mb with
 | false =>
  have Xhb2 := hide hb2
  have Xg2 := hide g2
  clear hb2 g2
  go_wp2_with fail
  go_ret
  rw [Xhrs.out]
  exact ItPost.nil Xhb2.out
 | true =>
  have Xhb2 := hide hb2
  have Xg2 := hide g2
  clear hb2 g2
  go_wp2_with fail
  go_ret
  rw [Xhrs.out]
  exact ⟨_, _, _, rfl, Rd.mono (RdIt.one (w := w2) (e := 34) ((R : Int), 0)) (fun b e => by rw [e]; exact ⟨Xhb2.out.size, by simp⟩), Xhb2.out.alloc Xhb2.out.size _⟩
set_option maxRecDepth 100000 in
set_option maxHeartbeats 2000000 in
theorem ref12_Begin {w : World} {F : Nat → Prop} {vt vn vr : Value} {G : GramD} (h : IsGram w F vt vn vr G) (st : Int) :
  Calls Tryz.prog 24 #[GV vt vn vr st] w (ItPost w [((G.rules.length : Int), 0)]) := by
 obtain ⟨A1, c1, A2, c2, A3, c3, rfl, rfl, rfl, -⟩ := h.slices
 obtain ⟨w1, hw1⟩ : ∃ w1, w1 = w.alloc (.cells #[.slice A1 G.terms.length c1, .slice A2 G.nons.length c2, .slice A3 G.rules.length c3, .int .i64 st] 25) := ⟨_, rfl⟩
 have g1 := GBox.new h st
 have b1 : Below w.heap.size w w1 := by rw [hw1]; exact (Below.refl _ w).alloc (Nat.le_refl _) _
 rw [← hw1] at g1
 obtain ⟨q0, q1, q2, q3⟩ := g1.cells
 generalize G.terms.length = T at *
 generalize G.nons.length = N at *
 generalize G.rules.length = R at *
 rw [hw1] at q0 q1 q2 q3
 have Xb1 := hide b1
 have Xg1 := hide g1
 have Xh := hide h
 clear b1 g1 h
 go_enter Tryz.func24, Tryz.ntmps24
 go_wp2_with fail
 go_ret
 rw [← hw1]
 have hs : w.heap.size + 1 = w1.heap.size := by rw [hw1]; simp
 rw [hs]
 exact ⟨_, _, _, rfl, Rd.mono (RdIt.one (w := w1) (e := 34) ((R : Int), 0)) (fun b e => by rw [e]; exact ⟨Xb1.out.size, by simp⟩), Xb1.out.alloc Xb1.out.size _⟩
theorem Tryz.fieldsItem : Tryz.prog.underlying 34 = some (.struct (Tryz.prog.fieldsOf 34)) := by kernel_rfl
theorem Tryz.stoodItem : Tryz.prog.stoodInHeld 34 = false := by kernel_rfl
theorem Tryz.guardItem : Tryz.prog.eqGuardType Tryz.prog.depth 34 = false := by kernel_rfl
theorem eql_item (a b c d : Int) (w : World) : Sem.run Tryz.prog (binOp .eql 34 (.agg #[.int .i64 a, .int .i64 b]) (.agg #[.int .i64 c, .int .i64 d])) w = .ok (.bool (decide (((a, b) : It) = (c, d)))) w := by
 have u3 := Tryz.underlying3
 have hS := Tryz.fieldsItem
 have hp := Tryz.stoodItem
 rw [run_eql_struct, show (10000 : Nat) = 9999 + 1 from rfl, run_equalIn_agg w 9999 34 _ _ hS hp]
 simp only [Program.fieldsOf, Tryz.underlying34]
 have a3 := Tryz.isAgg3
 have z3 := Tryz.sizeOf3
 go_simp
 by_cases h1 : a = c <;> by_cases h2 : b = d <;> simp [h1, h2]
theorem neq_item (a b c d : Int) (w : World) : Sem.run Tryz.prog (binOp .neq 34 (.agg #[.int .i64 a, .int .i64 b]) (.agg #[.int .i64 c, .int .i64 d])) w = .ok (.bool (!decide (((a, b) : It) = (c, d)))) w := by
 have h := eql_item a b c d w
 rw [run_eql_struct] at h
 rw [run_neq_struct]
 generalize Sem.run Tryz.prog (Op.equalIn 10000 34 (.agg #[.int .i64 a, .int .i64 b]) (.agg #[.int .i64 c, .int .i64 d])) w = r at h ⊢
 cases r <;> simp_all [Result.andThen]
theorem guard_item (op : BinOp) (p q : Operand) (x y : It) (w : World) : (eqGuard op 34 p q (ItV x) (ItV y)).run Tryz.prog w = .ok () w := run_eqGuard_agg w op 34 p q _ _ Tryz.guardItem
end
section
open Go.RowKit
attribute [local irreducible] wpStill wpOne wpPh
theorem boxes_it {w : World} (a b c d : Int) : ∃ w2, w2 = (w.alloc (.cells #[.int .i64 a, .int .i64 b] 34)).alloc (.cells #[.int .i64 c, .int .i64 d] 34) ∧ Blk w2 w.heap.size 34 #[.int .i64 a, .int .i64 b] ∧ Blk w2 (w.heap.size + 1) 34 #[.int .i64 c, .int .i64 d] ∧ Below w.heap.size w w2 := by
 obtain ⟨w1, hw1⟩ : ∃ w1, w1 = w.alloc (.cells #[.int .i64 a, .int .i64 b] 34) := ⟨_, rfl⟩
 have hs : w1.heap.size = w.heap.size + 1 := by rw [hw1]; simp
 have k1 : Blk w1 w.heap.size 34 #[.int .i64 a, .int .i64 b] := by rw [hw1]; exact Blk.new _ _ _
 have b1 : Below w.heap.size w w1 := by rw [hw1]; exact (Below.refl _ w).alloc (Nat.le_refl _) _
 have b2 : Below w1.heap.size w1 (w1.alloc (.cells #[.int .i64 c, .int .i64 d] 34)) := (Below.refl _ _).alloc (Nat.le_refl _) _
 refine ⟨_, rfl, ?_, ?_, ?_⟩
 ·rw [← hw1]; exact k1.below b2 k1.lt
 ·rw [← hw1, ← hs]; exact Blk.new _ _ _
 ·rw [← hw1]; exact b1.trans (b2.mono b1.size)
set_option maxRecDepth 100000 in
set_option maxHeartbeats 2000000 in
theorem ref12_less (x y : It) (w : World) : Calls Tryz.prog 111 #[ItV x, ItV y] w (Quiet w (.bool (itLt x y))) := by
 obtain ⟨a, b⟩ := x
 obtain ⟨c, d⟩ := y
 have hv : itLt (a, b) (c, d) = (decide (a < c) || (decide (a = c) && decide (b < d))) := rfl
 obtain ⟨w2, hw2, k1, k2, hb2⟩ := boxes_it (w := w) a b c d
 have d0 := (k1.cell 0).trans rfl
 have d1 := (k1.cell 1).trans rfl
 have e0 := (k2.cell 0).trans rfl
 have e1 := (k2.cell 1).trans rfl
 rw [hw2] at d0 d1 e0 e1
 by_cases h1 : a < c
 ·have Xhb2 := hide hb2
  have Xhv := hide hv
  clear hb2 hv
  clear k1 k2
  go_enter Tryz.func111, Tryz.ntmps111
  go_wp2_with fail
  go_ret
  rw [← hw2]
  exact ⟨ret_bool (by rw [Xhv.out]; simp; try omega), Xhb2.out⟩
 ·by_cases h2 : a = c
  ·have h2' : (a == c) = true := by simpa using h2
   by_cases h3 : b < d
   ·have Xhb2 := hide hb2
    have Xhv := hide hv
    have Xh2 := hide h2
    clear hb2 hv h2
    clear k1 k2
    go_enter Tryz.func111, Tryz.ntmps111
    go_wp2_with fail
    go_ret
    rw [← hw2]
    exact ⟨ret_bool (by rw [Xhv.out, decide_eq_true Xh2.out, decide_eq_true h3]; simp), Xhb2.out⟩
   ·have Xhb2 := hide hb2
    have Xhv := hide hv
    have Xh2 := hide h2
    clear hb2 hv h2
    clear k1 k2
    go_enter Tryz.func111, Tryz.ntmps111
    go_wp2_with fail
    go_ret
    rw [← hw2]
    exact ⟨ret_bool (by rw [Xhv.out, decide_eq_false (show ¬ a < c by omega), decide_eq_false (show ¬ b < d by omega)]; simp), Xhb2.out⟩
  ·have h2' : (a == c) = false := by simpa using h2
   have Xhb2 := hide hb2
   have Xhv := hide hv
   have Xh2 := hide h2
   clear hb2 hv h2
   clear k1 k2
   go_enter Tryz.func111, Tryz.ntmps111
   go_wp2_with fail
   go_ret
   rw [← hw2]
   exact ⟨ret_bool (by rw [Xhv.out, decide_eq_false (show ¬ a < c by omega), decide_eq_false Xh2.out]; simp), Xhb2.out⟩
set_option maxRecDepth 100000 in
set_option maxHeartbeats 2000000 in
theorem ref12_Same {w : World} {F G : Nat → Prop} {v u : Value} {xs ys : List It} (h : RdIt w F v xs) (g : RdIt w G u ys) :
  Calls Tryz.prog 23 #[v, u] w (Quiet w (.bool (decide (xs = ys)))) := by
 obtain ⟨A, n, c, rfl, -⟩ := id h
 obtain ⟨B, m, d, rfl, -⟩ := id g
 obtain ⟨hn, hnc, hcm, hcell⟩ := RdIt.at_ h
 obtain ⟨hm, hmd, hdm, hcell'⟩ := RdIt.at_ g
 unfold maxLen at hcm hdm
 clear h g
 by_cases hnm : n = m
 ·subst hnm
  have hall : (∀ j : Nat, j < n → xs[j]? = ys[j]?) → xs = ys := fun hh => List.ext_getElem? fun j => by
   by_cases hj : j < n
   ·exact hh j hj
   ·rw [List.getElem?_eq_none (by omega), List.getElem?_eq_none (by omega)]
  have Xhn := hide hn
  have Xhm := hide hm
  have Xhall := hide hall
  clear hn hm hall
  go_enter Tryz.func23, Tryz.ntmps23
  go_wp2_with fail
  go_loopw [5] (fun i wr => ∃ k q : Nat, k ≤ n ∧ i = .int .i64 k ∧ wr = w.drewN q ∧ ∀ j : Nat, j < k → xs[j]? = ys[j]?) (fun i _ => n - (intOf i).toNat)
  case atStart => exact ⟨0, 0, Nat.zero_le _, rfl, rfl, fun j hj => absurd hj (by omega)⟩
  case round =>
   obtain ⟨k, q, hk, rfl, rfl, hb⟩ := hrel
   by_cases hlt : k < n
   ·have hlt' : (k : Int) < (n : Int) := by omega
    obtain ⟨b, off, rfl, -, hc1⟩ := hcell (by omega)
    obtain ⟨b', off', rfl, -, hc2⟩ := hcell' (by omega)
    obtain ⟨⟨x0, x1⟩, hx⟩ : ∃ x, xs[k]? = some x := ⟨_, List.getElem?_eq_getElem (by rw [← Xhn.out]; exact hlt)⟩
    obtain ⟨⟨y0, y1⟩, hy⟩ : ∃ x, ys[k]? = some x := ⟨_, List.getElem?_eq_getElem (by rw [← Xhm.out]; exact hlt)⟩
    obtain ⟨p0, p1⟩ := hc1 k _ hx
    obtain ⟨r0, r1⟩ := hc2 k _ hy
    simp only at p0 p1 r0 r1
    have hne := neq_item x0 x1 y0 y1
    have hgd := fun op p q => guard_item op p q (x0, x1) (y0, y1)
    clear hcell hcell' hc1 hc2
    by_cases he : ((x0, x1) : It) = (y0, y1)
    ·rw [decide_eq_true he] at hne
     have hb2 : ∀ j : Nat, j < k + 1 → xs[j]? = ys[j]? := fun j hj => by
      by_cases e : j = k
      ·subst e; rw [hx, hy, he]
      ·exact hb j (by omega)
     have Xhx := hide hx
     have Xhy := hide hy
     have Xhe := hide he
     have Xhb := hide hb
     have Xhb2 := hide hb2
     clear hx hy he hb hb2
     go_wp2_with fail
     refine region_reads (by kernel_rfl) (by kernel_rfl) ?_
     repeat still_step
     refine wpStill_nil ?_
     go_wp2_with fail
     go_roundw
     case rel => exact ⟨k + 1, q + 1, by omega, by go_num, rfl, Xhb2.out⟩
     case measure => simp [intOf]; omega
    ·rw [decide_eq_false he] at hne
     have hfin : ¬ xs = ys := fun e => he (by rw [e, hy] at hx; injection hx with hx; exact hx.symm)
     have Xhx := hide hx
     have Xhy := hide hy
     have Xhe := hide he
     have Xhb := hide hb
     have Xhfin := hide hfin
     clear hx hy he hb hfin
     go_wp2_with fail
     refine region_reads (by kernel_rfl) (by kernel_rfl) ?_
     repeat still_step
     refine wpStill_nil ?_
     go_wp2_with fail
     go_ret
     exact ⟨ret_bool (decide_eq_false Xhfin.out).symm, below_drewN (Below.refl _ w) (q + 1)⟩
   ·have hlt' : ¬ (k : Int) < (n : Int) := by omega
    have hfin := Xhall.out fun j hj => hb j (by omega)
    have Xhb := hide hb
    have Xhfin := hide hfin
    clear hb hfin
    clear hcell hcell'
    go_wp2_with fail
    go_ret
    exact ⟨ret_bool (decide_eq_true Xhfin.out).symm, below_drewN (Below.refl _ w) q⟩
 ·have hnm' : ((n : Int) != (m : Int)) = true := by simp; omega
  have hfin : ¬ xs = ys := fun e => hnm (by rw [hn, hm, e])
  have Xhn := hide hn
  have Xhm := hide hm
  have Xhfin := hide hfin
  have Xhnm := hide hnm
  clear hn hm hfin hnm
  clear hcell hcell'
  go_enter Tryz.func23, Tryz.ntmps23
  go_wp2_with fail
  go_ret
  exact ⟨ret_bool (decide_eq_false Xhfin.out).symm, Below.refl _ w⟩
end
end Go.Proofs.YtlpokomfljmogaaGreat

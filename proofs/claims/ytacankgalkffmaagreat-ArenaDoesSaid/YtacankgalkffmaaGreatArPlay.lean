/- The tree and the reference's, by the same calls: Play. -/
import Derived.Test.YtacankgalkffmaaGreatArR7
import Derived.Test.YtacankgalkffmaaGreatArena16
import Derived.Test.YtacankgalkffmaaGreatArOps
namespace Go.Proofs.YtacankgalkffmaaGreat
set_option linter.unusedVariables false
set_option linter.unusedSimpArgs false
open Go.RowKit
attribute [local irreducible] wpStill wpOne wpPh
theorem rar_new (w : World) : RAr (w.alloc (.cells #[.slice none 0 0, .slice none 0 0, .slice none 0 0] 46)) w.heap.size (fun b => b = w.heap.size) [] := RAr.none _ (Blk.new _ _ _)
def Two2 (B : Nat) (w wr : World) (bt bx : Nat) (L M : List Nd) : Prop := ∃ S T, Ar wr bt S L ∧ RAr wr bx T M ∧ (∀ b, S b → B ≤ b ∧ ¬ T b) ∧ (∀ b, T b → B ≤ b) ∧ Below B w wr ∧ B ≤ w.heap.size
section
variable {B bt bx : Nat} {w wr W : World} {L M : List Nd}
theorem Two2.bel (h : Two2 B w wr bt bx L M) : Below B w wr := by obtain ⟨S, T, -, -, -, -, h, -⟩ := h; exact h
theorem Two2.sz (h : Two2 B w wr bt bx L M) : B ≤ wr.heap.size := by obtain ⟨S, T, -, -, -, -, h, h'⟩ := h; exact Nat.le_trans h' h.size
theorem Two2.below (h : Two2 B w wr bt bx L M) (b : Below wr.heap.size wr W) : Two2 B w W bt bx L M := by
 have hs := h.sz
 obtain ⟨S, T, h1, h2, h3, h4, h5, h6⟩ := h
 exact ⟨S, T, h1.below b, h2.below b, h3, h4, h5.trans (b.mono hs), h6⟩
theorem Two2.turnA {L' : List Nd} (h : Two2 B w wr bt bx L M) {S : Nat → Prop} (hS : ∀ b, S b → B ≤ b) (hT : ∃ T, RAr wr bx T M ∧ (∀ b, S b → ¬ T b) ∧ ∀ b, T b → B ≤ b) (h1 : Ar W bt (New S wr W) L') (t : Touch S wr W) : Two2 B w W bt bx L' M := by
 have hs := h.sz
 obtain ⟨-, -, -, -, -, -, h5, h6⟩ := h
 obtain ⟨T, h2, h3, h4⟩ := hT
 refine ⟨_, T, h1, h2.touch t fun b hb c => h3 b c hb, fun b hb => ?_, h4, t.toBelow hS h5 hs, h6⟩
 rcases hb with hb | hb
 ·exact ⟨hS b hb, h3 b hb⟩
 ·exact ⟨by omega, fun c => by have := h2.lt b c; omega⟩
theorem Two2.lA (h : Two2 B w wr bt bx L M) (hl : L.length ≤ 100000) (s n : Int) : Calls Tryz.prog 15 #[.pointer (some ⟨bt, 0, none⟩), .int .i64 s, .int .i64 n] wr fun e W => e = .returned (.int .i64 (L.length : Int)) ∧ Two2 B w W bt bx (leafL L s n) M := by
 obtain ⟨S, T, h1, h2, h3, h4, -, -⟩ := id h
 exact (arena_Leaf h1 hl s n).mono fun e W ⟨a, b, c⟩ => ⟨a, h.turnA (fun b hb => (h3 b hb).1) ⟨T, h2, fun b hb => (h3 b hb).2, h4⟩ b c⟩
theorem Two2.jA (h : Two2 B w wr bt bx L M) (hl : L.length ≤ 100000) {u : Value} {kids : List Int} (hk : RdI wr (· < B) u kids) (hkl : kids.length ≤ 20) (s r : Int) : Calls Tryz.prog 25 #[.pointer (some ⟨bt, 0, none⟩), .int .i64 s, .int .i64 r, u] wr fun e W => e = .returned (.int .i64 (joinA L kids)) ∧ Two2 B w W bt bx (joinL' L s r kids) M := by
 obtain ⟨S, T, h1, h2, h3, h4, -, -⟩ := id h
 exact (arena_Join h1 hl hk (fun b hb c => by have := (h3 b c).1; omega) (by omega) s r).mono fun e W ⟨a, b, c⟩ => ⟨a, h.turnA (fun b hb => (h3 b hb).1) ⟨T, h2, fun b hb => (h3 b hb).2, h4⟩ b c⟩
theorem Two2.turnX {M' : List Nd} (h : Two2 B w wr bt bx L M) {T : Nat → Prop} (hT : ∀ b, T b → B ≤ b) (hS : ∃ S, Ar wr bt S L ∧ (∀ b, S b → ¬ T b) ∧ ∀ b, S b → B ≤ b) (h1 : RAr W bx (New T wr W) M') (t : Touch T wr W) : Two2 B w W bt bx L M' := by
 have hs := h.sz
 obtain ⟨-, -, -, -, -, -, h5, h6⟩ := h
 obtain ⟨S, h2, h3, h4⟩ := hS
 refine ⟨S, _, h2.touch t fun b hb c => h3 b hb c, h1, fun b hb => ⟨h4 b hb, fun c => ?_⟩, fun b hb => ?_, t.toBelow hT h5 hs, h6⟩
 ·rcases c with c | c
  ·exact h3 b hb c
  ·have := h2.lt b hb; omega
 ·rcases hb with hb | hb
  ·exact hT b hb
  ·omega
theorem Two2.lX (h : Two2 B w wr bt bx L M) (hl : M.length ≤ 100000) (s n : Int) : Calls Tryz.prog 26 #[.pointer (some ⟨bx, 0, none⟩), .int .i64 s, .int .i64 n] wr fun e W => e = .returned (.int .i64 (M.length : Int)) ∧ Two2 B w W bt bx L (leafL M s n) := by
 obtain ⟨S, T, h1, h2, h3, h4, -, -⟩ := id h
 exact (ref19_Leaf h2 hl s n).mono fun e W ⟨a, b, c⟩ => ⟨a, h.turnX h4 ⟨S, h1, fun b hb => (h3 b hb).2, fun b hb => (h3 b hb).1⟩ b c⟩
theorem Two2.jX (h : Two2 B w wr bt bx L M) (hl : M.length ≤ 100000) {u : Value} {kids : List Int} (hk : RdI wr (· < B) u kids) (hkl : kids.length ≤ 20) (s r : Int) : Calls Tryz.prog 27 #[.pointer (some ⟨bx, 0, none⟩), .int .i64 s, .int .i64 r, u] wr fun e W => e = .returned (.int .i64 (joinA M kids)) ∧ Two2 B w W bt bx L (joinL' M s r kids) := by
 obtain ⟨S, T, h1, h2, h3, h4, -, -⟩ := id h
 exact (ref19_Join h2 hl hk (fun b hb c => by have := h4 b c; omega) (by omega) s r).mono fun e W ⟨a, b, c⟩ => ⟨a, h.turnX h4 ⟨S, h1, fun b hb => (h3 b hb).2, fun b hb => (h3 b hb).1⟩ b c⟩
theorem Two2.len (h : Two2 B w wr bt bx L M) : Calls Tryz.prog 16 #[.pointer (some ⟨bt, 0, none⟩)] wr fun e w' => e = .returned (.int .i64 (L.length : Int)) ∧ wr = w' := by
 obtain ⟨S, T, h1, -⟩ := h
 exact arena_Len h1
theorem Two2.row (h : Two2 B w wr bt bx L M) : ∃ A c, wr.cell? ⟨bx, 0, none⟩ = some (.slice A M.length c) ∧ M.length ≤ c ∧ c ≤ 9223372036854775807 := by
 obtain ⟨S, T, -, h2, -⟩ := h
 obtain ⟨v, iv, bv, N, hN, h⟩ := h2
 obtain ⟨A, c, rfl, h1, h2⟩ := own_shape63 h.own
 rw [RAr.len hN] at h1
 refine ⟨A, c, ?_, h1, h2⟩
 have : wr.cell? ⟨bx, 0, none⟩ = some (.slice A N.length c) := h.box.cell 0
 rw [this, RAr.len hN]
end
structure GoodL (L : List Nd) (k : Nat) : Prop where
 tr : Tr L
 len : L.length ≤ k
 kids : ∀ x ∈ L, x.kids.length ≤ 20
theorem GoodL.leaf {L : List Nd} {k : Nat} (h : GoodL L k) (s n : Int) : GoodL (leafL L s n) (k + 1) := by
 refine ⟨h.tr.leaf s n, by unfold leafL; rw [List.length_append, List.length_singleton]; have := h.len; omega, fun x hx => ?_⟩
 rcases List.mem_append.1 hx with hx | hx
 ·exact h.kids x hx
 ·rw [List.mem_singleton] at hx; subst hx; exact Nat.zero_le _
theorem markL_short : ∀ (ks : List Int) {L : List Nd}, (∀ x ∈ L, x.kids.length ≤ 20) → ∀ x ∈ markL L ks, x.kids.length ≤ 20
 | [], L, h => h
 | k :: ks, L, h => by
  rw [markL_cons]
  refine markL_short ks fun x hx => ?_
  obtain ⟨i, hi⟩ := List.mem_iff_getElem?.1 hx
  rw [mark1_get] at hi
  obtain ⟨y, hy, hyx⟩ := Option.map_eq_some_iff.1 hi
  have := h y (List.mem_of_getElem? hy)
  subst hyx
  split <;> exact this
theorem joinL_len2 (L : List Nd) (s r : Int) (kids : List Int) : (joinL' L s r kids).length ≤ L.length + 1 := by
 unfold joinL'
 split
 ·rw [List.length_append, markL_len, List.length_singleton]; omega
 ·omega
theorem GoodL.join {L : List Nd} {k : Nat} (h : GoodL L k) (s r : Int) {kids : List Int} (hk : kids.length ≤ 20) : GoodL (joinL' L s r kids) (k + 1) := by
 refine ⟨h.tr.join s r kids, by have := joinL_len2 L s r kids; have := h.len; omega, fun x hx => ?_⟩
 unfold joinL' at hx
 split at hx
 ·rcases List.mem_append.1 hx with hx | hx
  ·exact markL_short kids h.kids x hx
  ·rw [List.mem_singleton] at hx; subst hx; exact hk
 ·exact h.kids x hx
theorem GoodL.more {L : List Nd} {k : Nat} (h : GoodL L k) : GoodL L (k + 1) := ⟨h.tr, by have := h.len; omega, h.kids⟩
def PlayPost (w : World) (e : Ending) (w' : World) : Prop := ∃ bt bx L, e = .returned (.tuple #[.pointer (some ⟨bt, 0, none⟩), .pointer (some ⟨bx, 0, none⟩), .bool true]) ∧ Two2 w.heap.size w w' bt bx L L ∧ GoodL L 60
set_option maxRecDepth 100000 in
set_option maxHeartbeats 4000000 in
theorem law19_Play {v : Value} {ops : List OpD} {w : World} (hv : RdOp w (· < w.heap.size) v ops) : Calls Tryz.prog 6 #[v] w (PlayPost w) := by
 obtain ⟨A, c, rfl, hnc, hcm⟩ := hv.shape
 obtain ⟨n, hn⟩ : ∃ n, n = ops.length := ⟨_, rfl⟩
 rw [← hn] at hnc ⊢
 obtain ⟨w1, hw1⟩ : ∃ q, w.alloc (.cells #[.slice none 0 0] 62) = q := ⟨_, rfl⟩
 have b1 : Below w.heap.size w w1 := by rw [← hw1]; exact (Below.refl _ _).alloc (Nat.le_refl _) _
 have z1 : w1.heap.size = w.heap.size + 1 := by rw [← hw1]; simp
 obtain ⟨w2, hw2⟩ : ∃ q, w1.alloc (.cells #[.slice none 0 0, .slice none 0 0, .slice none 0 0] 46) = q := ⟨_, rfl⟩
 have b2 : Below w1.heap.size w1 w2 := by rw [← hw2]; exact (Below.refl _ _).alloc (Nat.le_refl _) _
 have cN := arena_New w
 rw [hw1] at cN
 have a1 : Ar w1 w.heap.size (fun b => b = w.heap.size) [] := by rw [← hw1]; exact Ar.new w
 have x2 : RAr w2 (w.heap.size + 1) (fun b => b = w.heap.size + 1) [] := by rw [← hw2, ← z1]; exact rar_new w1
 have h0 : Two2 w.heap.size w w2 w.heap.size (w.heap.size + 1) [] [] := ⟨_, _, a1.below b2, x2, fun b e => ⟨by omega, by omega⟩, fun b e => by omega, b1.trans (b2.mono b1.size), Nat.le_refl _⟩
 clear a1 x2 b1 b2
 have XcN := hide cN
 have Xh0 := hide h0
 have Xhv := hide hv
 have Xhn := hide hn
 clear cN h0 hv hn
 clear hw1
 go_enter Tryz.func6, Tryz.ntmps6
 go_wp2_with fail
 refine XcN.out.mono ?_
 rintro e w' ⟨rfl, rfl⟩
 clear XcN
 go_wp2_with fail
 go_loopw [7] (fun iv wr => ∃ (k : Nat) (L : List Nd), k ≤ n ∧ iv = .int .i64 (k : Int) ∧ k ≤ 60 ∧ Two2 w.heap.size w wr w.heap.size (w.heap.size + 1) L L ∧ GoodL L k) (fun iv _ => n - (intOf iv).toNat)
 case atStart => exact ⟨0, [], Nat.zero_le _, rfl, Nat.zero_le _, Xh0.out, Tr.nil, Nat.le_refl _, fun x hx => (by cases hx)⟩
 case round =>
  obtain ⟨k, L, hk, rfl, hk60, hA, hG⟩ := hrel
  by_cases l1 : k < n
  ·have l1' : (k : Int) < (n : Int) := by omega
   by_cases l2 : k < 60
   ·have l2' : (k : Int) < 60 := by omega
    obtain ⟨x, hx⟩ : ∃ x, ops[k]? = some x := ⟨_, List.getElem?_eq_getElem (by rw [← Xhn.out]; exact l1)⟩
    have next : ∀ W, Below w.heap.size w W → ∃ b off z, A = some ⟨b, off, none⟩ ∧ W.cell? ⟨b, off + k * 4, none⟩ = some (.bool x.leaf) ∧ W.cell? ⟨b, off + k * 4 + 1, none⟩ = some (.int .i64 x.sym) ∧ W.cell? ⟨b, off + k * 4 + 2, none⟩ = some (.int .i64 x.n) ∧ W.cell? ⟨b, off + k * 4 + 3, none⟩ = some z ∧ RdI W (· < w.heap.size) z x.kids := fun W bW => by
     obtain ⟨b, off, c', z, hv', -, p0, p1, p2, p3, hz⟩ := RdOp.at_ (RdOp.touch Xhv.out (Touch.of_below bW) (fun b hb c => by omega)) hx
     injection hv' with hv1
     exact ⟨b, off, z, hv1, p0, p1, p2, p3, hz⟩
    obtain ⟨bo, off, z, rfl, p0, p1, p2, p3, hz⟩ := next wr hA.bel
    obtain ⟨xl, xs, xn, kids⟩ := x
    simp only at p0 p1 p2 p3 hz next
    obtain ⟨Az, nz, cz, rfl, -⟩ := id hz
    obtain ⟨hnz, hncz, hcz, -⟩ := RdI.at_ hz
    unfold maxLen at hcz
    have next2 : ∀ W, Below w.heap.size w W → W.cell? ⟨bo, off + k * 4 + 1, none⟩ = some (.int .i64 xs) ∧ W.cell? ⟨bo, off + k * 4 + 2, none⟩ = some (.int .i64 xn) ∧ W.cell? ⟨bo, off + k * 4 + 3, none⟩ = some (.slice Az nz cz) ∧ RdI W (· < w.heap.size) (.slice Az nz cz) kids := fun W bW => by
     obtain ⟨b, off', z, e, -, q1, q2, q3, hz2⟩ := next W bW
     injection e with e
     injection e with e1 e2
     subst e1 e2
     have hq : z = .slice Az nz cz := by
      obtain ⟨b, off', z', e, -, -, -, q3', -⟩ := next w (Below.refl _ _)
      injection e with e
      injection e with e1 e2
      subst e1 e2
      have t1 := (Touch.of_below bW).cell q3' (by have := World.block_lt_of_cell? w _ q3'; show ¬ w.heap.size ≤ bo; have h2 : bo < w.heap.size := this; omega)
      have t2 := (Touch.of_below hA.bel).cell q3' (by have := World.block_lt_of_cell? w _ q3'; show ¬ w.heap.size ≤ bo; have h2 : bo < w.heap.size := this; omega)
      rw [q3] at t1
      rw [p3] at t2
      injection t1 with t1
      injection t2 with t2
      rw [t1, ← t2]
     subst hq
     exact ⟨q1, q2, q3, hz2⟩
    clear next hx
    have hgl0 := hG.len
    by_cases l3 : nz ≤ 20
    ·have l3' : ¬ (20 : Int) < (nz : Int) := by omega
     cases xl with
     | true =>
      have cA := (hA.below ((Below.refl _ _).drew)).lA (by omega) xs xn
      have hg2 := hG.leaf xs xn
      have hgk : L.length ≤ 60 := by omega
      obtain ⟨ll, hll⟩ : ∃ ll, ll = L.length := ⟨_, rfl⟩
      have S1 : wr.drew.cell? ⟨bo, off + k * 4 + 1, none⟩ = some (.int .i64 xs) ∧ wr.drew.cell? ⟨bo, off + k * 4 + 2, none⟩ = some (.int .i64 xn) := ⟨p1, p2⟩
      clear hz hG hnz
      have XcA := hide cA
      have Xhg2 := hide hg2
      have XhA := hide hA
      have Xnext2 := hide next2
      have Xhll := hide hll
      have Xhgk := hide hgk
      clear cA hg2 hA next2 hll hgk
      go_wp2_with fail
      go_region_held3 (fun W => W.cell? ⟨bo, off + k * 4 + 1, none⟩ = some (.int .i64 xs) ∧ W.cell? ⟨bo, off + k * 4 + 2, none⟩ = some (.int .i64 xn))
       (first | assumption | go_keep)
       (first
        | (go_at_call 15; (with_reducible refine XcA.out.mono ?_); rintro e wa ⟨rfl, ha⟩; have na := Xnext2.out wa ha.bel; have sa := And.intro na.1 na.2.1; have cX := ha.lX (by have := Xhgk.out; omega) xs xn; clear S1)
        | (go_at_call 26; (with_reducible refine cX.mono ?_); rintro e wb ⟨rfl, hb⟩; have nb := Xnext2.out wb hb.bel; have sb := And.intro nb.1 nb.2.1; clear cX))
      have h2 := hb
      clear ha na sa hb nb sb p0 p1 p2 p3
      replace hg2 := Xhg2.out
      clear Xhg2 XhA
      obtain ⟨Ax, cx, r0, r1, r2⟩ := h2.row
      have cN := (h2.below ((Below.refl _ _).drew)).len
      have h2d := h2.below ((Below.refl _ _).drew)
      have hne : (((L.length : Int) : Int) != (L.length : Int)) = false := by simp
      have hgl := hg2.len
      generalize hmm : (leafL L xs xn).length = mm at *
      have hne2 : ((mm : Int) != (mm : Int)) = false := by simp
      have XcN := hide cN
      have Xh2d := hide h2d
      have Xhg2 := hide hg2
      have Xhmm := hide hmm
      have Xh2 := hide h2
      clear cN h2d hg2 hmm h2
      go_wp2_with fail
      go_region_held3 (fun W => W.cell? ⟨w.heap.size + 1, 0, none⟩ = some (.slice Ax mm cx))
       (first | assumption | go_keep)
       (first
        | (go_at_call 16; (with_reducible refine XcN.out.mono ?_); rintro e wc ⟨rfl, rfl⟩))
      go_wp2_with fail
      go_roundw
      case rel => exact ⟨k + 1, _, by omega, by go_num, by omega, Xh2d.out, Xhg2.out⟩
      case measure => simp [intOf]; omega
     | false =>
      have cA := (hA.below ((Below.refl _ _).drew)).jA (by omega) (hz.touch ((Touch.refl (fun _ => False) wr).drew) (fun _ _ c => c)) (by rw [← hnz]; exact l3) xs xn
      have hkl : kids.length ≤ 20 := by rw [← hnz]; exact l3
      have hg2 := hG.join xs xn hkl
      have hgk : L.length ≤ 60 := by omega
      have S1 : wr.drew.cell? ⟨bo, off + k * 4 + 1, none⟩ = some (.int .i64 xs) ∧ wr.drew.cell? ⟨bo, off + k * 4 + 2, none⟩ = some (.int .i64 xn) ∧ wr.drew.cell? ⟨bo, off + k * 4 + 3, none⟩ = some (.slice Az nz cz) := ⟨p1, p2, p3⟩
      clear hz hG hnz
      have XcA := hide cA
      have Xhg2 := hide hg2
      have XhA := hide hA
      have Xnext2 := hide next2
      have Xhgk := hide hgk
      have Xhkl := hide hkl
      clear cA hg2 hA next2 hgk hkl
      go_wp2_with fail
      go_region_held3 (fun W => W.cell? ⟨bo, off + k * 4 + 1, none⟩ = some (.int .i64 xs) ∧ W.cell? ⟨bo, off + k * 4 + 2, none⟩ = some (.int .i64 xn) ∧ W.cell? ⟨bo, off + k * 4 + 3, none⟩ = some (.slice Az nz cz))
       (first | assumption | go_keep)
       (first
        | (go_at_call 25; (with_reducible refine XcA.out.mono ?_); rintro e wa ⟨rfl, ha⟩; have na := Xnext2.out wa ha.bel; have sa := And.intro na.1 (And.intro na.2.1 na.2.2.1); have cX := ha.jX (by have := Xhgk.out; omega) na.2.2.2 Xhkl.out xs xn; clear S1)
        | (go_at_call 27; (with_reducible refine cX.mono ?_); rintro e wb ⟨rfl, hb⟩; have nb := Xnext2.out wb hb.bel; have sb := And.intro nb.1 (And.intro nb.2.1 nb.2.2.1); clear cX))
      have h2 := hb
      clear ha na sa hb nb sb p0 p1 p2 p3
      replace hg2 := Xhg2.out
      clear Xhg2 XhA
      obtain ⟨Ax, cx, r0, r1, r2⟩ := h2.row
      have cN := (h2.below ((Below.refl _ _).drew)).len
      have h2d := h2.below ((Below.refl _ _).drew)
      have hne : ((joinA L kids : Int) != joinA L kids) = false := by simp
      have hgl := hg2.len
      generalize hmm : (joinL' L xs xn kids).length = mm at *
      have hne2 : ((mm : Int) != (mm : Int)) = false := by simp
      have XcN := hide cN
      have Xh2d := hide h2d
      have Xhg2 := hide hg2
      have Xhmm := hide hmm
      have Xh2 := hide h2
      clear cN h2d hg2 hmm h2
      go_wp2_with fail
      go_region_held3 (fun W => W.cell? ⟨w.heap.size + 1, 0, none⟩ = some (.slice Ax mm cx))
       (first | assumption | go_keep)
       (first
        | (go_at_call 16; (with_reducible refine XcN.out.mono ?_); rintro e wc ⟨rfl, rfl⟩))
      go_wp2_with fail
      go_roundw
      case rel => exact ⟨k + 1, _, by omega, by go_num, by omega, Xh2d.out, Xhg2.out⟩
      case measure => simp [intOf]; omega
    ·have l3' : (20 : Int) < (nz : Int) := by omega
     have hg2 := hG.more
     clear hz hG hnz next2
     have Xhg2 := hide hg2
     have XhA := hide hA
     clear hg2 hA
     go_wp2_with fail
     go_roundw
     case rel => exact ⟨k + 1, L, by omega, by go_num, by omega, XhA.out, Xhg2.out⟩
     case measure => simp [intOf]; omega
   ·have l2' : ¬ (k : Int) < 60 := by omega
    have XhA := hide hA
    have XhG := hide hG
    clear hA hG
    go_wp2_with fail
    go_ret3
    exact ⟨_, _, L, rfl, XhA.out, XhG.out.tr, by have := XhG.out.len; omega, XhG.out.kids⟩
  ·have l1' : ¬ (k : Int) < (n : Int) := by omega
   have XhA := hide hA
   have XhG := hide hG
   clear hA hG
   go_wp2_with fail
   go_ret3
   exact ⟨_, _, L, rfl, XhA.out, XhG.out.tr, by have := XhG.out.len; omega, XhG.out.kids⟩
end Go.Proofs.YtacankgalkffmaaGreat

/- Name, of both. -/
import Derived.Test.YtejjaabkbkkjlaaGram7
namespace Go.Proofs.Ytejjaabkbkkjlaa
set_option linter.unusedVariables false
open Go.RowKit

def nameOf (G : GramD) (s : Int) : ByteArray := if s = 0 then ⟨#[36]⟩ else if 1 ≤ s ∧ s ≤ (topOf G : Int) then ((G.terms ++ G.nons)[(s - 1).toNat]?).getD ⟨#[]⟩ else ⟨#[]⟩

theorem isNon_iff {G : GramD} {s : Int} : isNon G s = true ↔ (G.terms.length : Int) < s ∧ s ≤ (G.terms.length : Int) + G.nons.length := by
  unfold isNon
  rw [Bool.and_eq_true, decide_eq_true_eq, decide_eq_true_eq]
  unfold topOf
  omega
theorem isTerm_iff {G : GramD} {s : Int} : isTerm G s = true ↔ 1 ≤ s ∧ s ≤ (G.terms.length : Int) := by
  unfold isTerm
  rw [Bool.and_eq_true, decide_eq_true_eq, decide_eq_true_eq]
theorem ret_str {a b : ByteArray} (h : a = b) : Ending.returned (.string a) = .returned (.string b) := by rw [h]

set_option maxHeartbeats 2000000 in
theorem gram_name {w : World} {F : Nat → Prop} {vt vn vr : Value} {G : GramD} (h : IsGram w F vt vn vr G) (st s : Int) :
    Calls Try.prog 29 #[GV vt vn vr st, .int .i64 s] w (Quiet w (.string (nameOf G s))) := by
  have h1 := h.blk (.cells #[vt, vn, vr, .int .i64 st] 25)
  have B1 : Below w.heap.size w (w.alloc (.cells #[vt, vn, vr, .int .i64 st] 25)) := (Below.refl _ w).alloc (Nat.le_refl _) _
  have k1 : Blk (w.alloc (.cells #[vt, vn, vr, .int .i64 st] 25)) w.heap.size 25 #[vt, vn, vr, .int .i64 st] := Blk.new w _ _
  have ct := gram_term h1 st s
  have cn : ∀ wr, Below (w.heap.size + 1) (w.alloc (.cells #[vt, vn, vr, .int .i64 st] 25)) wr → Calls Try.prog 26 #[GV vt vn vr st, .int .i64 s] wr (Quiet wr (.bool (isNon G s))) := fun wr hb => gram_non (h1.below (hb.mono (by simp))) st s
  have cl : ∀ wr, Below (w.heap.size + 1) (w.alloc (.cells #[vt, vn, vr, .int .i64 st] 25)) wr → ∀ i v, (#[vt, vn, vr, Value.int .i64 st] : Array Value)[i]? = some v → wr.cell? ⟨w.heap.size, i, none⟩ = some v := fun wr hb i v e => ((k1.below hb (by omega)).cell i).trans e
  have te : ∀ wr, Below (w.heap.size + 1) (w.alloc (.cells #[vt, vn, vr, .int .i64 st] 25)) wr → RdS wr F vt G.terms ∧ RdS wr F vn G.nons := fun wr hb => ⟨(h1.below (hb.mono (by simp))).terms, (h1.below (hb.mono (by simp))).nons⟩
  have hsm := h.small
  obtain ⟨A1, c1, A2, c2, A3, c3, rfl, rfl, rfl, l1, l2, _, m1, m2, _⟩ := h.slices
  have f1 : s = 0 → nameOf G s = ⟨#[36]⟩ := fun e => by simp [nameOf, e]
  have f2 : isTerm G s = true → ∃ k : Nat, s = (k : Int) + 1 ∧ k < G.terms.length ∧ ∀ x, G.terms[k]? = some x → nameOf G s = x := fun e => by
    simp [isTerm] at e
    refine ⟨(s - 1).toNat, by omega, by omega, fun x hx => ?_⟩
    unfold nameOf topOf
    rw [if_neg (by omega), if_pos (by omega), List.getElem?_append_left (by omega), hx]; rfl
  have f3 : isNon G s = true → ∃ k : Nat, s = (G.terms.length : Int) + k + 1 ∧ k < G.nons.length ∧ ∀ x, G.nons[k]? = some x → nameOf G s = x := fun e => by
    have e := isNon_iff.1 e
    refine ⟨(s - 1 - G.terms.length).toNat, by omega, by omega, fun x hx => ?_⟩
    unfold nameOf topOf
    rw [if_neg (by omega), if_pos (by omega), List.getElem?_append_right (by omega)]
    rw [show (s - 1).toNat - G.terms.length = (s - 1 - G.terms.length).toNat by omega, hx]; rfl
  have f4 : s ≠ 0 → isTerm G s = false → isNon G s = false → nameOf G s = ⟨#[]⟩ := fun e0 e1 e2 => by
    unfold nameOf
    rw [if_neg e0, if_neg]
    have n1 : ¬ isTerm G s = true := by simp [e1]
    have n2 : ¬ isNon G s = true := by simp [e2]
    rw [isTerm_iff] at n1
    rw [isNon_iff] at n2
    unfold topOf
    omega
  obtain ⟨T, hT⟩ : ∃ T, T = G.terms.length := ⟨_, rfl⟩
  obtain ⟨N, hN⟩ : ∃ N, N = G.nons.length := ⟨_, rfl⟩
  rw [← hT] at hsm f2 f3 l1 te ct cn cl B1 ⊢
  rw [← hN] at hsm f3 l2 te ct cn cl B1 ⊢
  generalize hit : isTerm G s = it at *
  generalize hin : isNon G s = ino at *
  have HT := hide hT
  have HN := hide hN
  have F1 := hide f1
  have F2 := hide f2
  have F3 := hide f3
  have F4 := hide f4
  have CT := hide ct
  have CN := hide cn
  have CL := hide cl
  have TE := hide te
  have HB := hide B1
  obtain ⟨s1, s2, s3⟩ := hsm
  clear hT hN f1 f2 f3 f4 ct cn cl te B1 k1 h1 h hit hin
  by_cases h0 : s = 0
  · have hz : (s == 0) = true := by simpa using h0
    have H0 := hide h0
    clear h0
    go_enter Try.func29, Try.ntmps29
    go_wp2_with fail
    go_ret
    exact ⟨ret_str (F1.out H0.out).symm, HB.out⟩
  · have hz : (s == 0) = false := by simpa using h0
    have H0 := hide h0
    clear h0
    go_enter Try.func29, Try.ntmps29
    go_wp2_with fail
    refine CT.out.mono ?_
    rintro e w2 ⟨rfl, b2⟩
    have b2' : Below (w.heap.size + 1) (w.alloc (.cells #[.slice A1 T c1, .slice A2 N c2, .slice A3 G.rules.length c3, .int .i64 st] 25)) w2 := by simpa using b2
    have q0 := CL.out w2 b2' 0 _ rfl
    have q1 := CL.out w2 b2' 1 _ rfl
    have q2 := CL.out w2 b2' 2 _ rfl
    have q3 := CL.out w2 b2' 3 _ rfl
    cases it with
    | true =>
      obtain ⟨k, hk, hkT, hx⟩ := F2.out rfl
      obtain ⟨-, -, -, hcell⟩ := (TE.out w2 b2').1.at_
      obtain ⟨b, off, rfl, _, hc⟩ := hcell (by omega)
      obtain ⟨x, hxx⟩ : ∃ x, G.terms[k]? = some x := ⟨_, List.getElem?_eq_getElem (by rw [← HT.out]; omega)⟩
      have hcx := hc k x hxx
      have HX := hide (hx x hxx)
      have e1 : (s - 1 : Int) = (k : Int) := by omega
      clear hc hxx hx hcell
      subst hk
      go_wp2_with fail
      go_ret
      exact ⟨ret_str HX.out.symm, HB.out.trans (b2'.mono (by omega))⟩
    | false =>
      go_wp2_with fail
      refine (CN.out _ b2').mono ?_
      rintro e w3 ⟨rfl, b3⟩
      have b3' := b2'.trans (b3.mono (by simpa using b2'.size))
      have q0 := CL.out w3 b3' 0 _ rfl
      have q1 := CL.out w3 b3' 1 _ rfl
      have q2 := CL.out w3 b3' 2 _ rfl
      have q3 := CL.out w3 b3' 3 _ rfl
      cases ino with
      | true =>
        obtain ⟨k, hk, hkT, hx⟩ := F3.out rfl
        obtain ⟨-, -, -, hcell⟩ := (TE.out w3 b3').2.at_
        obtain ⟨b, off, rfl, _, hc⟩ := hcell (by omega)
        obtain ⟨x, hxx⟩ : ∃ x, G.nons[k]? = some x := ⟨_, List.getElem?_eq_getElem (by rw [← HN.out]; omega)⟩
        have hcx := hc k x hxx
        have HX := hide (hx x hxx)
        clear hc hxx hx hcell
        subst hk
        go_wp2_with fail
        go_ret
        exact ⟨ret_str HX.out.symm, HB.out.trans (b3'.mono (by omega))⟩
      | false =>
        go_wp2_with fail
        go_ret
        exact ⟨ret_str (F4.out H0.out (by first | rfl | trivial) (by first | rfl | trivial)).symm, HB.out.trans (b3'.mono (by omega))⟩

set_option maxHeartbeats 2000000 in
theorem ref_name {w : World} {F : Nat → Prop} {vt vn vr : Value} {G : GramD} (h : IsGram w F vt vn vr G) (st s : Int) (hsml : G.terms.length + G.nons.length ≤ 65536) :
    Calls Try.prog 30 #[GV vt vn vr st, .int .i64 s] w (Quiet w (.string (nameOf G s))) := by
  have h1 := h.blk (.cells #[vt, vn, vr, .int .i64 st] 25)
  have B1 : Below w.heap.size w (w.alloc (.cells #[vt, vn, vr, .int .i64 st] 25)) := (Below.refl _ w).alloc (Nat.le_refl _) _
  have k1 : Blk (w.alloc (.cells #[vt, vn, vr, .int .i64 st] 25)) w.heap.size 25 #[vt, vn, vr, .int .i64 st] := Blk.new w _ _
  have ct := ref_top h1 st
  have cn : ∀ wr, Below (w.heap.size + 1) (w.alloc (.cells #[vt, vn, vr, .int .i64 st] 25)) wr → Calls Try.prog 87 #[GV vt vn vr st] wr (OwnPost wr 9 ((G.terms ++ G.nons).map Value.string) (topOf G)) := fun wr hb => ref_names (h1.below (hb.mono (by simp))) st hsml
  have cl : ∀ wr, Below (w.heap.size + 1) (w.alloc (.cells #[vt, vn, vr, .int .i64 st] 25)) wr → ∀ i v, (#[vt, vn, vr, Value.int .i64 st] : Array Value)[i]? = some v → wr.cell? ⟨w.heap.size, i, none⟩ = some v := fun wr hb i v e => ((k1.below hb (by omega)).cell i).trans e
  have hsm := h.small
  obtain ⟨A1, c1, A2, c2, A3, c3, rfl, rfl, rfl, l1, l2, _, m1, m2, _⟩ := h.slices
  have f1 : s = 0 → nameOf G s = ⟨#[36]⟩ := fun e => by simp [nameOf, e]
  have f2 : 1 ≤ s → s ≤ (topOf G : Int) → ∃ k : Nat, s = (k : Int) + 1 ∧ k < topOf G ∧ ∃ x, (G.terms ++ G.nons)[k]? = some x ∧ nameOf G s = x := fun e e' => by
    have hlt : (s - 1).toNat < (G.terms ++ G.nons).length := by rw [List.length_append]; unfold topOf at e'; omega
    refine ⟨(s - 1).toNat, by omega, by omega, _, List.getElem?_eq_getElem hlt, ?_⟩
    unfold nameOf
    rw [if_neg (by omega), if_pos (by omega), List.getElem?_eq_getElem hlt]; rfl
  have f4 : s ≠ 0 → (s < 1 ∨ (topOf G : Int) < s) → nameOf G s = ⟨#[]⟩ := fun e0 e1 => by
    unfold nameOf
    rw [if_neg e0, if_neg (by omega)]
  have htop : topOf G ≤ 65536 := hsml
  generalize hP : topOf G = P at *
  have F1 := hide f1
  have F2 := hide f2
  have F4 := hide f4
  have CT := hide ct
  have CN := hide cn
  have CL := hide cl
  have HB := hide B1
  clear hsm f1 f2 f4 ct cn cl B1 k1 h1 h hP hsml l1 l2 m1 m2
  by_cases h0 : s = 0
  · have hz : (s == 0) = true := by simpa using h0
    have H0 := hide h0
    clear h0
    go_enter Try.func30, Try.ntmps30
    go_wp2_with fail
    go_ret
    exact ⟨ret_str (F1.out H0.out).symm, HB.out⟩
  · have hz : (s == 0) = false := by simpa using h0
    have H0 := hide h0
    clear h0
    by_cases hs1 : s < 1
    · go_enter Try.func30, Try.ntmps30
      go_wp2_with fail
      go_ret
      exact ⟨ret_str (F4.out H0.out (.inl hs1)).symm, HB.out⟩
    · by_cases hs2 : (P : Int) < s
      · go_enter Try.func30, Try.ntmps30
        go_wp2_with fail
        refine CT.out.mono ?_
        rintro e w2 ⟨rfl, b2⟩
        go_wp2_with fail
        go_ret
        exact ⟨ret_str (F4.out H0.out (.inr hs2)).symm, HB.out.trans (b2.mono (by simp))⟩
      · obtain ⟨k, hk, hkP, x, hx, hnm⟩ := F2.out (by omega) (by omega)
        have HX := hide hx
        have HNM := hide hnm
        clear hx hnm
        go_enter Try.func30, Try.ntmps30
        go_wp2_with fail
        refine CT.out.mono ?_
        rintro e w2 ⟨rfl, b2⟩
        have b2' : Below (w.heap.size + 1) (w.alloc (.cells #[.slice A1 G.terms.length c1, .slice A2 G.nons.length c2, .slice A3 G.rules.length c3, .int .i64 st] 25)) w2 := by simpa using b2
        have q0 := CL.out w2 b2' 0 _ rfl
        have q1 := CL.out w2 b2' 1 _ rfl
        have q2 := CL.out w2 b2' 2 _ rfl
        have q3 := CL.out w2 b2' 3 _ rfl
        go_wp2_with fail
        refine (CN.out _ b2').mono ?_
        rintro e w3 ⟨A, c, rfl, hown, b3⟩
        have b3' := b2'.trans (b3.mono (by simpa using b2'.size))
        obtain ⟨-, -, -, hcell⟩ := RdS.at_ (xs := G.terms ++ G.nons) (Rd.of_own hown)
        obtain ⟨b, off, rfl, _, hc⟩ := hcell (by omega)
        have hcx := hc k x HX.out
        clear hc hcell hown
        have e1 : (s - 1 : Int) = (k : Int) := by omega
        subst hk
        go_wp2_with fail
        go_ret
        exact ⟨ret_str HNM.out.symm, HB.out.trans (b3'.mono (by omega))⟩
end Go.Proofs.Ytejjaabkbkkjlaa

/- The reference's Ordered: the walk. -/
import Derived.Test.YtejjaabkbkkjlaaGram17
namespace Go.Proofs.Ytejjaabkbkkjlaa
set_option linter.unusedVariables false
open Go.RowKit

set_option maxRecDepth 100000 in
set_option maxHeartbeats 2000000 in
theorem ref_ordered {w : World} {F : Nat → Prop} {vt vn vr : Value} {G : GramD} (h : IsGram w F vt vn vr G) (st : Int) :
    Calls Try.prog 37 #[GV vt vn vr st] w (Quiet w (.bool (sortedL (firstsOf G G.nons.length)))) := by
  have B1 : Below w.heap.size w (w.alloc (.cells #[vt, vn, vr, .int .i64 st] 25)) := (Below.refl _ w).alloc (Nat.le_refl _) _
  have k1 : Blk (w.alloc (.cells #[vt, vn, vr, .int .i64 st] 25)) w.heap.size 25 #[vt, vn, vr, .int .i64 st] := Blk.new w _ _
  have hsm := h.small
  have ix : ∀ (wr : World) (s : Int), Below w.heap.size w wr → Calls Try.prog 35 #[GV vt vn vr st, .int .i64 s] wr (OwnPost wr 3 ((ofOf G s).map I64) (ofOf G s).length) := fun wr s hb => ref_of (h.below hb) st s
  obtain ⟨A1, c1, A2, c2, A3, c3, rfl, rfl, rfl, l1, l2, l3, m1, m2, m3⟩ := h.slices
  have hfo : ∀ k : Nat, (ofOf G ((G.terms.length : Int) + 1 + k) = [] ∧ firstAt G k = (G.rules.length : Int)) ∨ ((ofOf G ((G.terms.length : Int) + 1 + k))[0]? = some (firstAt G k) ∧ 0 ≤ firstAt G k ∧ firstAt G k < (G.rules.length : Int)) := fun k => first_of
  have hso : ∀ N, sortedL (firstsOf G N) = true ↔ ∀ j : Nat, j + 1 < N → firstAt G j ≤ firstAt G (j + 1) := fun N => by rw [sorted_firsts]; simp only [Int.not_lt]
  obtain ⟨T, eT⟩ : ∃ n, n = G.terms.length := ⟨_, rfl⟩
  obtain ⟨N, eN⟩ : ∃ n, n = G.nons.length := ⟨_, rfl⟩
  obtain ⟨R, eR⟩ : ∃ n, n = G.rules.length := ⟨_, rfl⟩
  rw [← eT, ← eN, ← eR] at k1 B1 hsm ix
  rw [← eT] at l1 hfo ⊢
  rw [← eN] at l2 ⊢
  rw [← eR] at l3 hfo ⊢
  obtain ⟨s1, s2, s3⟩ := hsm
  have HB := hide B1
  have K1 := hide k1
  have IX := hide ix
  have HFO := hide hfo
  have HSO := hide hso
  clear hfo hso ix k1 B1 h eT eN eR
  go_enter Try.func37, Try.ntmps37
  go_wp2_with fail
  go_loopw [3, 4] (fun o i wr => ∃ k : Nat, k ≤ N ∧ i = .int .i64 k ∧ o = .int .i64 (lastAt G k) ∧ (∀ j : Nat, j + 1 < k → firstAt G j ≤ firstAt G (j + 1)) ∧ Below w.heap.size w wr ∧ Blk wr w.heap.size 25 #[.slice A1 T c1, .slice A2 N c2, .slice A3 R c3, .int .i64 st]) (fun _ i _ => N - (intOf i).toNat)
  case atStart => exact ⟨0, Nat.zero_le _, rfl, rfl, fun j hj => absurd hj (by omega), HB.out, K1.out⟩
  case round =>
    obtain ⟨k, hk, rfl, rfl, hbef, hw, hbl⟩ := hrel
    have q0 : wr.cell? ⟨w.heap.size, 0, none⟩ = some (.slice A1 T c1) := (hbl.cell 0).trans rfl
    have q1 : wr.cell? ⟨w.heap.size, 1, none⟩ = some (.slice A2 N c2) := (hbl.cell 1).trans rfl
    have q2 : wr.cell? ⟨w.heap.size, 2, none⟩ = some (.slice A3 R c3) := (hbl.cell 2).trans rfl
    have q3 : wr.cell? ⟨w.heap.size, 3, none⟩ = some (.int .i64 st) := (hbl.cell 3).trans rfl
    have hwz := hw.size
    have hbz := hbl.lt
    have HBL := hide hbl
    have HW := hide hw
    have HBE := hide hbef
    by_cases hlt : k < N
    · have hi := IX.out wr ((T : Int) + 1 + k) hw
      have hfo := HFO.out k
      obtain ⟨l, hl⟩ : ∃ l, l = ofOf G ((T : Int) + 1 + k) := ⟨_, rfl⟩
      rw [← hl] at hi hfo
      have hla : lastAt G (k + 1) = firstAt G k := by simp [lastAt]
      have hll : ∀ j, k = j + 1 → lastAt G k = firstAt G j := fun j e => by subst e; simp [lastAt]
      have hl0 : k = 0 → lastAt G k = -1 := fun e => by subst e; rfl
      obtain ⟨f, hf⟩ : ∃ f, f = firstAt G k := ⟨_, rfl⟩
      obtain ⟨p, hp⟩ : ∃ p, p = lastAt G k := ⟨_, rfl⟩
      rw [← hf] at hfo hla
      rw [← hp] at hll hl0 ⊢
      have hf0 : 0 ≤ f := by rcases hfo with ⟨_, e⟩ | ⟨_, e, _⟩ <;> omega
      have HI := hide hi
      have HLA := hide hla
      have HLL := hide hll
      have HL0 := hide hl0
      have HFF := hide hf
      clear hl hi hla hll hl0 hf hp hbef hw hbl
      -- what follows the list
      have yes : f < p → sortedL (firstsOf G N) = false := fun hlt' => by
        rw [← Bool.not_eq_true, HSO.out]
        intro hh
        rcases Nat.eq_zero_or_pos k with e | e
        · have := HL0.out e; omega
        · have hj : k = (k - 1) + 1 := by omega
          have a := HLL.out (k - 1) hj
          have b := hh (k - 1) (by omega)
          rw [← hj, ← a, ← HFF.out] at b
          omega
      have nox : ¬ f < p → ∀ j : Nat, j + 1 < k + 1 → firstAt G j ≤ firstAt G (j + 1) := fun hge j hj => by
        by_cases hjk : j + 1 = k
        · have a := HLL.out j hjk.symm
          rw [hjk, ← a, ← HFF.out]; omega
        · exact HBE.out j (by omega)
      have YES := hide yes
      have NOX := hide nox
      clear yes nox
      rcases hfo with ⟨he, hfR⟩ | ⟨h0, _, hfR⟩
      · subst he
        have HFR := hide hfR
        clear hfR
        by_cases hlp : (R : Int) < p
        · go_wp2_with fail
          refine HI.out.mono ?_
          rintro e w2 ⟨A, c, rfl, hown, b2⟩
          have hbl2 := HBL.out.below b2 hbz
          have q2 : w2.cell? ⟨w.heap.size, 2, none⟩ = some (.slice A3 R c3) := (hbl2.cell 2).trans rfl
          clear hown hbl2
          go_wp2_with fail
          go_ret
          exact ⟨ret_bool (YES.out (by rw [HFR.out]; exact hlp)).symm, HW.out.trans (b2.mono hwz)⟩
        · go_wp2_with fail
          refine HI.out.mono ?_
          rintro e w2 ⟨A, c, rfl, hown, b2⟩
          have hbl2 := HBL.out.below b2 hbz
          have q2 : w2.cell? ⟨w.heap.size, 2, none⟩ = some (.slice A3 R c3) := (hbl2.cell 2).trans rfl
          have HBL2 := hide hbl2
          clear hown hbl2
          go_wp2_with fail
          go_roundw
          case rel => exact ⟨k + 1, by omega, by go_num, by rw [HLA.out, HFR.out], NOX.out (by rw [HFR.out]; exact hlp), HW.out.trans (b2.mono hwz), HBL2.out⟩
          case measure => simp [intOf]; omega
      · have hpos : 0 < l.length := (List.getElem?_eq_some_iff.1 h0).1
        have HH0 := hide h0
        clear h0
        by_cases hlp : f < p
        · go_wp2_with fail
          refine HI.out.mono ?_
          rintro e w2 ⟨A, c, rfl, hown, b2⟩
          have hbl2 := HBL.out.below b2 hbz
          have q2 : w2.cell? ⟨w.heap.size, 2, none⟩ = some (.slice A3 R c3) := (hbl2.cell 2).trans rfl
          obtain ⟨-, -, -, hcell⟩ := RdI.at_ (xs := l) (Rd.of_own hown)
          obtain ⟨b, off, rfl, _, hc⟩ := hcell hpos
          have hcx : w2.cell? ⟨b, off, none⟩ = some (.int .i64 f) := by simpa using hc 0 f HH0.out
          clear hown hbl2 hc hcell
          go_wp2_with fail
          go_ret
          exact ⟨ret_bool (YES.out hlp).symm, HW.out.trans (b2.mono hwz)⟩
        · go_wp2_with fail
          refine HI.out.mono ?_
          rintro e w2 ⟨A, c, rfl, hown, b2⟩
          have hbl2 := HBL.out.below b2 hbz
          have q2 : w2.cell? ⟨w.heap.size, 2, none⟩ = some (.slice A3 R c3) := (hbl2.cell 2).trans rfl
          obtain ⟨-, -, -, hcell⟩ := RdI.at_ (xs := l) (Rd.of_own hown)
          obtain ⟨b, off, rfl, _, hc⟩ := hcell hpos
          have hcx : w2.cell? ⟨b, off, none⟩ = some (.int .i64 f) := by simpa using hc 0 f HH0.out
          have HBL2 := hide hbl2
          clear hown hbl2 hc hcell
          go_wp2_with fail
          go_roundw
          case rel => exact ⟨k + 1, by omega, by go_num, by rw [HLA.out], NOX.out hlp, HW.out.trans (b2.mono hwz), HBL2.out⟩
          case measure => simp [intOf]; omega
    · have hkn : k = N := by omega
      subst hkn
      have hs : sortedL (firstsOf G k) = true := (HSO.out k).2 HBE.out
      have HS := hide hs
      clear hs hw hbl hbef
      go_wp2_with fail
      go_ret
      exact ⟨ret_bool HS.out.symm, HW.out⟩
end Go.Proofs.Ytejjaabkbkkjlaa

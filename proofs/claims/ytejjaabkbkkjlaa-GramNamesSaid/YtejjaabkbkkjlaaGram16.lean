/- gram.Ordered. -/
import Derived.Test.YtejjaabkbkkjlaaGram15
namespace Go.Proofs.Ytejjaabkbkkjlaa
set_option linter.unusedVariables false
open Go.RowKit

set_option maxRecDepth 100000 in
set_option maxHeartbeats 2000000 in
theorem gram_ordered {w : World} {F : Nat → Prop} {vt vn vr : Value} {G : GramD} (h : IsGram w F vt vn vr G) (st : Int) :
    Calls Try.prog 36 #[GV vt vn vr st] w (Quiet w (.bool (sortedL (firstsOf G G.nons.length)))) := by
  have h1 := h.blk (.cells #[vt, vn, vr, .int .i64 st] 25)
  have B1 : Below w.heap.size w (w.alloc (.cells #[vt, vn, vr, .int .i64 st] 25)) := (Below.refl _ w).alloc (Nat.le_refl _) _
  have k1 : Blk (w.alloc (.cells #[vt, vn, vr, .int .i64 st] 25)) w.heap.size 25 #[vt, vn, vr, .int .i64 st] := Blk.new w _ _
  have hF := h.lt
  have hsm := h.small
  have ix : ∀ (wr : World) (s : Int), Below w.heap.size w wr → Calls Try.prog 92 #[vr, .func (.func 93) #[] #[.pointer (some ⟨wr.heap.size, 0, none⟩)]] (wr.alloc (.cells #[.int .i64 s] 3)) (Quiet (wr.alloc (.cells #[.int .i64 s] 3)) (.int .i64 (firstBy (fun r => decide (r.1 = s)) G.rules))) := fun wr s hb => by
    have hb' := hb.alloc hb.size (.cells #[.int .i64 s] 3)
    exact index_rules (h.below hb').rules (h.below hb').lt Try.enters_ordered (ordered_clo (Blk.new wr _ _))
  obtain ⟨A1, c1, A2, c2, A3, c3, rfl, rfl, rfl, l1, l2, l3, m1, m2, m3⟩ := h.slices
  have hat : ∀ k : Nat, firstAt G k = (if firstBy (fun r => decide (r.1 = (G.terms.length : Int) + 1 + k)) G.rules < 0 then (G.rules.length : Int) else firstBy (fun r => decide (r.1 = (G.terms.length : Int) + 1 + k)) G.rules) := fun k => rfl
  have hflt : ∀ p : Int × List Int → Bool, -1 ≤ firstBy p G.rules ∧ firstBy p G.rules < G.rules.length := fun p => firstBy_lt
  have hsu := firstsOf_succ G
  have hln := firstsOf_len G
  obtain ⟨T, eT⟩ : ∃ n, n = G.terms.length := ⟨_, rfl⟩
  obtain ⟨N, eN⟩ : ∃ n, n = G.nons.length := ⟨_, rfl⟩
  obtain ⟨R, eR⟩ : ∃ n, n = G.rules.length := ⟨_, rfl⟩
  rw [← eT, ← eN, ← eR] at k1 B1 hsm
  rw [← eT] at l1
  rw [← eN] at l2 ⊢
  rw [← eR] at l3 ix hflt
  rw [← eT] at ⊢
  rw [← eR] at ⊢
  have hat' : ∀ k : Nat, firstAt G k = (if firstBy (fun r => decide (r.1 = (T : Int) + 1 + k)) G.rules < 0 then (R : Int) else firstBy (fun r => decide (r.1 = (T : Int) + 1 + k)) G.rules) := fun k => by rw [eT, eR]; exact hat k
  obtain ⟨s1, s2, s3⟩ := hsm
  have HB := hide B1
  have K1 := hide k1
  have IX := hide ix
  have HAT := hide hat'
  have HFL := hide hflt
  have HSU := hide hsu
  have HLN := hide hln
  clear hat hat' hflt hsu hln ix k1 B1 h1 h eT eN eR hF
  go_enter Try.func36, Try.ntmps36
  go_wp2_with fail
  go_loopw [3, 10] (fun o i wr => ∃ (k : Nat) (A : Option Addr) (c : Nat), k ≤ N ∧ i = .int .i64 k ∧ o = .slice A k c ∧ wr.ownsRow w.heap.size 3 1 (.slice A k c) k ((firstsOf G k).map I64) ∧ Below w.heap.size w wr ∧ Blk wr w.heap.size 25 #[.slice A1 T c1, .slice A2 N c2, .slice A3 R c3, .int .i64 st]) (fun _ i _ => N - (intOf i).toNat)
  case atStart => exact ⟨0, none, 0, Nat.zero_le _, rfl, rfl, World.ownsRow_nil _ _ _ _, HB.out, K1.out⟩
  case round =>
    obtain ⟨k, A, c, hk, rfl, rfl, hown, hw, hbl⟩ := hrel
    have q0 : wr.cell? ⟨w.heap.size, 0, none⟩ = some (.slice A1 T c1) := (hbl.cell 0).trans rfl
    have hwz := hw.size
    have hbz := hbl.lt
    have HBL := hide hbl
    have HW := hide hw
    have HO := hide hown
    by_cases hlt : k < N
    · have hi := IX.out wr ((T : Int) + 1 + k) hw
      have hat := HAT.out k
      have hfl := HFL.out (fun r => decide (r.1 = (T : Int) + 1 + k))
      obtain ⟨q, hq⟩ : ∃ q, q = firstBy (fun r => decide (r.1 = (T : Int) + 1 + k)) G.rules := ⟨_, rfl⟩
      rw [← hq] at hi hat hfl
      obtain ⟨hq1, hq2⟩ := hfl
      have HI := hide hi
      have HA := hide hat
      have q2' : (wr.alloc (.cells #[.int .i64 ((T : Int) + 1 + k)] 3)).cell? ⟨w.heap.size, 2, none⟩ = some (.slice A3 R c3) := ((hbl.alloc _).cell 2).trans rfl
      clear hi hat hq hw hbl hown
      go_wp2_with fail
      refine HI.out.mono ?_
      rintro e w2 ⟨rfl, b2⟩
      have b1' : Below wr.heap.size wr (wr.alloc (.cells #[.int .i64 ((T : Int) + 1 + k)] 3)) := (Below.refl _ wr).alloc (Nat.le_refl _) _
      have b2' : Below wr.heap.size wr w2 := b1'.trans (b2.mono b1'.size)
      have hown2 : w2.ownsRow w.heap.size 3 1 (.slice A k c) k ((firstsOf G k).map I64) := (Touch.of_size b2' (fun _ => False)).own HO.out (fun _ _ hf => hf)
      have hbl2 := HBL.out.below b2' hbz
      have q2 : w2.cell? ⟨w.heap.size, 2, none⟩ = some (.slice A3 R c3) := (hbl2.cell 2).trans rfl
      have hno := hbl2.ne_own hown2 (by decide)
      have hz2 := b2'.size
      have HW2 := hide (HW.out.trans (b2'.mono hwz))
      have HBL2 := hide hbl2
      have HO2 := hide hown2
      have HNO := hide hno
      have hln := HLN.out k
      have ln : ((firstsOf G k).map I64).length = k * 1 := by rw [List.length_map, hln]; omega
      clear b1' b2' b2 hown2 hbl2 hno q2' hln
      by_cases hneg : q < 0
      · have r1 := Rd.one (w := w2) (e := 3) [I64 R] 1 rfl
        have hav : firstAt G k = (R : Int) := by rw [HA.out, if_pos hneg]
        have HAV := hide hav
        clear hav
        go_wp2_with (at_builtin; refine wp_append _ rfl (.tmp 28) (.tmp 30) _ rfl Try.elemInt w.heap.size _ k ((firstsOf G k).map I64) rfl (HO2.out.alloc _) _ _ [I64 R] 1 rfl rfl r1 (by simp [Value.oneCell']) (by unfold maxLen; omega) (by omega) (by simp; omega) ?_)
        intro A' c' w3 hown3 hg3 _
        have ho3 : w3.ownsRow w.heap.size 3 1 (.slice A' (k + 1) c') (k + 1) ((firstsOf G k).map I64 ++ [I64 R]) := hown3
        clear hown3
        go_wp2_with fail
        go_roundw
        case rel =>
          refine ⟨k + 1, A', c', by omega, by go_num, rfl, ?_, (HW2.out.alloc (by omega) _).grown hg3 (by simp; omega) (fun q hq => (HO2.out.lt q hq).1), (HBL2.out.alloc _).grown hg3 (fun e => HNO.out e.symm)⟩
          rw [HSU.out, HAV.out, List.map_append]
          exact ho3
        case measure => simp [intOf]; omega
      · have r1 := Rd.one (w := w2) (e := 3) [I64 q] 1 rfl
        have hav : firstAt G k = q := by rw [HA.out, if_neg hneg]
        have HAV := hide hav
        clear hav
        go_wp2_with (at_builtin; refine wp_append _ rfl (.tmp 28) (.tmp 30) _ rfl Try.elemInt w.heap.size _ k ((firstsOf G k).map I64) rfl (HO2.out.alloc _) _ _ [I64 q] 1 rfl rfl r1 (by simp [Value.oneCell']) (by unfold maxLen; omega) (by omega) (by simp; omega) ?_)
        intro A' c' w3 hown3 hg3 _
        have ho3 : w3.ownsRow w.heap.size 3 1 (.slice A' (k + 1) c') (k + 1) ((firstsOf G k).map I64 ++ [I64 q]) := hown3
        clear hown3
        go_wp2_with fail
        go_roundw
        case rel =>
          refine ⟨k + 1, A', c', by omega, by go_num, rfl, ?_, (HW2.out.alloc (by omega) _).grown hg3 (by simp; omega) (fun q hq => (HO2.out.lt q hq).1), (HBL2.out.alloc _).grown hg3 (fun e => HNO.out e.symm)⟩
          rw [HSU.out, HAV.out, List.map_append]
          exact ho3
        case measure => simp [intOf]; omega
    · have hkn : k = N := by omega
      subst hkn
      have hs := is_sorted (xs := firstsOf G k) (Rd.of_own hown)
      have HS := hide hs
      clear hs hown hbl hw
      go_wp2_with fail
      refine HS.out.mono ?_
      rintro e w2 ⟨rfl, b2⟩
      go_wp2_with fail
      go_ret
      exact ⟨rfl, HW.out.trans (b2.mono hwz)⟩
end Go.Proofs.Ytejjaabkbkkjlaa

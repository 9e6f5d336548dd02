/- Of, the reference's. -/
import Derived.Test.YtejjaabkbkkjlaaGram9
namespace Go.Proofs.Ytejjaabkbkkjlaa
set_option linter.unusedVariables false
open Go.RowKit

set_option maxRecDepth 100000 in
set_option maxHeartbeats 2000000 in
theorem ref_of {w : World} {F : Nat → Prop} {vt vn vr : Value} {G : GramD} (h : IsGram w F vt vn vr G) (st s : Int) :
    Calls Try.prog 35 #[GV vt vn vr st, .int .i64 s] w (OwnPost w 3 ((ofOf G s).map I64) (ofOf G s).length) := by
  have h1 := h.blk (.cells #[vt, vn, vr, .int .i64 st] 25)
  have B1 : Below w.heap.size w (w.alloc (.cells #[vt, vn, vr, .int .i64 st] 25)) := (Below.refl _ w).alloc (Nat.le_refl _) _
  have hF := h.lt
  have k1 : Blk (w.alloc (.cells #[vt, vn, vr, .int .i64 st] 25)) w.heap.size 25 #[vt, vn, vr, .int .i64 st] := Blk.new w _ _
  have hsm := h.small
  obtain ⟨A1, c1, A2, c2, A3, c3, rfl, rfl, rfl, l1, l2, l3, m1, m2, m3⟩ := h.slices
  obtain ⟨-, -, -, hcell⟩ := ERule.at_ h.rules
  have hend : ofUpto G.rules s G.rules.length = ofOf G s := rfl
  obtain ⟨n, en⟩ : ∃ n, n = G.rules.length := ⟨_, rfl⟩
  rw [← en] at hsm hcell B1 l3 hend k1 ⊢
  obtain ⟨s1, s2, s3⟩ := hsm
  have HN := hide en
  have HC := hide hcell
  have HF := hide hF
  have HB := hide B1
  have K1 := hide k1
  have HE := hide hend
  clear en hcell hF B1 h1 h hend k1
  go_enter Try.func35, Try.ntmps35
  go_wp2
  go_loopw [5, 6] (fun o i wr => ∃ (k : Nat) (A : Option Addr) (c : Nat), k ≤ n ∧ i = .int .i64 k ∧ o = .slice A (ofUpto G.rules s k).length c ∧ wr.ownsRow w.heap.size 3 1 (.slice A (ofUpto G.rules s k).length c) (ofUpto G.rules s k).length ((ofUpto G.rules s k).map I64) ∧ Below w.heap.size w wr ∧ Blk wr w.heap.size 25 #[.slice A1 G.terms.length c1, .slice A2 G.nons.length c2, .slice A3 n c3, .int .i64 st]) (fun _ i _ => n - (intOf i).toNat)
  case atStart => exact ⟨0, none, 0, Nat.zero_le _, rfl, rfl, World.ownsRow_nil _ _ _ _, HB.out, K1.out⟩
  case round =>
    obtain ⟨k, A, c, hk, rfl, rfl, hown, hw, hbl⟩ := hrel
    have q2 : wr.cell? ⟨w.heap.size, 2, none⟩ = some (.slice A3 n c3) := (hbl.cell 2).trans rfl
    have hbz := hbl.lt
    have HBL := hide hbl
    have hno := hbl.ne_own hown (by decide)
    have HNO := hide hno
    clear hbl hno
    have hlk := ofUpto_len (rs := G.rules) (s := s) (k := k)
    have HW := hide hw
    have hwz := hw.size
    by_cases hlt : k < n
    · obtain ⟨b, off, rfl, hb, hc⟩ := HC.out (by omega)
      obtain ⟨l0, x, vx, hx, hx0, hx1, hxr⟩ := RdR.get (n := n) HF.out hb hw hc (k := k) (by rw [← HN.out]; omega)
      obtain ⟨A5, n5, c5, rfl, _⟩ := id hxr
      have HX := hide hx
      clear hc hx hxr hw
      by_cases he : l0 = s
      · subst he
        have hnx := ofUpto_yes HX.out
        obtain ⟨l, hl⟩ : ∃ l, l = ofUpto G.rules l0 k := ⟨_, rfl⟩
        rw [← hl] at hnx hown hlk HNO ⊢
        have HNX := hide hnx
        have HO := hide hown
        clear hl hnx
        have r1 := Rd.one (w := wr) (e := 3) [I64 k] 1 rfl
        clear hown
        go_wp2_with (at_builtin; refine wp_append _ rfl (.tmp 22) (.tmp 24) _ rfl Try.elemInt w.heap.size _ l.length (l.map I64) rfl (HO.out.alloc _) _ _ [I64 k] 1 rfl rfl r1 (by simp [Value.oneCell']) (by unfold maxLen; omega) (by omega) (by simp; omega) ?_)
        intro A' c' w2 hown2 hg2 _
        have ho2 : w2.ownsRow w.heap.size 3 1 (.slice A' (l.length + 1) c') (l.length + 1) (l.map I64 ++ [I64 k]) := hown2
        clear hown2
        go_wp2
        go_roundw
        case rel =>
          refine ⟨k + 1, A', c', by omega, by go_num, ?_, ?_, ?_⟩
          · rw [HNX.out]; simp
          · rw [HNX.out]; simpa using ho2
          · exact ⟨((HW.out.alloc hwz _).grown hg2 (by simp; omega) (fun q hq => (HO.out.lt q hq).1)), (HBL.out.alloc _).grown hg2 (fun e => HNO.out e.symm)⟩
        case measure => simp [intOf]; omega
      · have hb' : (l0 == s) = false := by simpa using he
        have hnx := ofUpto_no HX.out he
        have HNX := hide hnx
        clear he hnx
        go_wp2
        go_roundw
        case rel => exact ⟨k + 1, A, c, by omega, by go_num, by rw [HNX.out], by rw [HNX.out]; exact hown, HW.out, HBL.out⟩
        case measure => simp [intOf]; omega
    · have hkn : k = n := by omega
      subst hkn
      rw [HE.out] at hown
      have hlen := HE
      rw [HE.out]
      clear hlk
      go_wp2
      go_ret
      exact ⟨A, c, rfl, hown, HW.out⟩
end Go.Proofs.Ytejjaabkbkkjlaa

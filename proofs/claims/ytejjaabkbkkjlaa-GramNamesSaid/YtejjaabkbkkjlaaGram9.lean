/- Of, of both. -/
import Derived.Test.YtejjaabkbkkjlaaGram8
namespace Go.Proofs.Ytejjaabkbkkjlaa
set_option linter.unusedVariables false
open Go.RowKit

def ofUpto (rs : List (Int × List Int)) (s : Int) (k : Nat) : List Int := ((List.range k).filter (fun (i : Nat) => decide ((rs[i]?).map (·.1) = some s))).map (fun (i : Nat) => (i : Int))
def ofOf (G : GramD) (s : Int) : List Int := ofUpto G.rules s G.rules.length
theorem ofUpto_yes {rs : List (Int × List Int)} {s : Int} {k : Nat} {x : List Int} (h : rs[k]? = some (s, x)) : ofUpto rs s (k + 1) = ofUpto rs s k ++ [(k : Int)] := by
  unfold ofUpto
  rw [List.range_succ, List.filter_append, List.map_append]
  simp [h]
theorem ofUpto_no {rs : List (Int × List Int)} {s l : Int} {k : Nat} {x : List Int} (h : rs[k]? = some (l, x)) (hne : l ≠ s) : ofUpto rs s (k + 1) = ofUpto rs s k := by
  unfold ofUpto
  rw [List.range_succ, List.filter_append, List.map_append]
  simp [h, hne]
theorem ofUpto_len {rs : List (Int × List Int)} {s : Int} {k : Nat} : (ofUpto rs s k).length ≤ k := by
  unfold ofUpto
  rw [List.length_map]
  exact Nat.le_trans (List.length_filter_le _ _) (by simp)

abbrev I64 (x : Int) : Value := .int .i64 x

set_option maxRecDepth 100000 in
set_option maxHeartbeats 2000000 in
theorem gram_of {w : World} {F : Nat → Prop} {vt vn vr : Value} {G : GramD} (h : IsGram w F vt vn vr G) (st s : Int) :
    Calls Try.prog 34 #[GV vt vn vr st, .int .i64 s] w (OwnPost w 3 ((ofOf G s).map I64) (ofOf G s).length) := by
  have h1 := h.blk (.cells #[vt, vn, vr, .int .i64 st] 25)
  have B1 : Below w.heap.size w (w.alloc (.cells #[vt, vn, vr, .int .i64 st] 25)) := (Below.refl _ w).alloc (Nat.le_refl _) _
  have hF := h.lt
  have hsm := h.small
  obtain ⟨A1, c1, A2, c2, A3, c3, rfl, rfl, rfl, l1, l2, l3, m1, m2, m3⟩ := h.slices
  obtain ⟨-, -, -, hcell⟩ := ERule.at_ h.rules
  have hend : ofUpto G.rules s G.rules.length = ofOf G s := rfl
  obtain ⟨n, en⟩ : ∃ n, n = G.rules.length := ⟨_, rfl⟩
  rw [← en] at hsm hcell B1 l3 hend ⊢
  obtain ⟨s1, s2, s3⟩ := hsm
  have HN := hide en
  have HC := hide hcell
  have HF := hide hF
  have HB := hide B1
  have HE := hide hend
  clear en hcell hF B1 h1 h hend
  go_enter Try.func34, Try.ntmps34
  go_wp2
  go_loopw [5, 11] (fun o i wr => ∃ (k : Nat) (A : Option Addr) (c : Nat), k ≤ n ∧ i = .int .i64 k ∧ o = .slice A (ofUpto G.rules s k).length c ∧ wr.ownsRow w.heap.size 3 1 (.slice A (ofUpto G.rules s k).length c) (ofUpto G.rules s k).length ((ofUpto G.rules s k).map I64) ∧ Below w.heap.size w wr) (fun _ i _ => n - (intOf i).toNat)
  case atStart => exact ⟨0, none, 0, Nat.zero_le _, rfl, rfl, World.ownsRow_nil _ _ _ _, HB.out⟩
  case round =>
    obtain ⟨k, A, c, hk, rfl, rfl, hown, hw⟩ := hrel
    have hlk := ofUpto_len (rs := G.rules) (s := s) (k := k)
    have HW := hide hw
    have hwz := hw.size
    by_cases hlt : k < n
    · obtain ⟨b, off, rfl, hb, hc⟩ := HC.out (by omega)
      obtain ⟨l0, x, vx, hx, hx0, hx1, hxr⟩ := RdR.get (n := n) HF.out hb hw hc (k := k) (by rw [← HN.out]; omega)
      obtain ⟨A5, n5, c5, rfl, _⟩ := id hxr
      have HX := hide hx
      clear hc hx hxr hw
      by_cases he : l0 = s
      · subst he
        have hnx := ofUpto_yes HX.out
        obtain ⟨l, hl⟩ : ∃ l, l = ofUpto G.rules l0 k := ⟨_, rfl⟩
        rw [← hl] at hnx hown hlk ⊢
        have HNX := hide hnx
        have HO := hide hown
        clear hl hnx
        obtain ⟨w1, hw1⟩ : ∃ w1, w1 = wr.alloc (.cells #[.int .i64 l0, .slice A5 n5 c5] 30) := ⟨_, rfl⟩
        have ho1 : w1.ownsRow w.heap.size 3 1 (.slice A l.length c) l.length (l.map I64) := by rw [hw1]; exact hown.alloc _
        have HB1 : Below w.heap.size w w1 := by rw [hw1]; exact HW.out.alloc hwz _
        have hz1 := HB1.size
        have HH := hide HB1
        rw [hw1] at ho1 HH hz1
        clear hown HB1 hw1 w1
        have r1 : Rd ((wr.alloc (.cells #[.int .i64 l0, .slice A5 n5 c5] 30)).alloc (.cells #[I64 k] 3)) (fun _ => True) (.slice (some ⟨wr.heap.size + 1, 0, none⟩) 1 1) 1 [I64 k] := by
          have := Rd.one (w := wr.alloc (.cells #[.int .i64 l0, .slice A5 n5 c5] 30)) (e := 3) [I64 k] 1 rfl
          simpa using this
        go_wp2_with (at_builtin; refine wp_append _ rfl (.tmp 20) (.tmp 22) _ rfl Try.elemInt w.heap.size _ l.length (l.map I64) rfl (ho1.alloc _) _ _ [I64 k] 1 rfl rfl r1 (by simp [Value.oneCell']) (by unfold maxLen; omega) (by omega) (by simp; omega) ?_)
        intro A' c' w2 hown2 hg2 _
        have ho2 : w2.ownsRow w.heap.size 3 1 (.slice A' (l.length + 1) c') (l.length + 1) (l.map I64 ++ [I64 k]) := hown2
        clear hown2
        go_wp2
        go_roundw
        case rel =>
          refine ⟨k + 1, A', c', by omega, by go_num, ?_, ?_, ?_⟩
          · rw [HNX.out]; simp
          · rw [HNX.out]; simpa using ho2
          · exact ((HH.out.alloc hz1 _).grown hg2 (by simp; omega) (fun q hq => (ho1.lt q hq).1))
        case measure => simp [intOf]; omega
      · have hb' : (l0 == s) = false := by simpa using he
        have hnx := ofUpto_no HX.out he
        have HNX := hide hnx
        clear he hnx
        go_wp2
        go_roundw
        case rel => exact ⟨k + 1, A, c, by omega, by go_num, by rw [HNX.out], by rw [HNX.out]; exact hown.alloc _, HW.out.alloc hwz _⟩
        case measure => simp [intOf]; omega
    · have hkn : k = n := by omega
      subst hkn
      rw [HE.out] at hown
      have hlen := HE
      rw [HE.out]
      clear hlk
      go_wp2
      go_ret
      exact ⟨A, c, rfl, hown, HW.out⟩
end Go.Proofs.Ytejjaabkbkkjlaa

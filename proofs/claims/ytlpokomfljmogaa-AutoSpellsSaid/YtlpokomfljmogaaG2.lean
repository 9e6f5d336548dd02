/- Same, Name, Of, Rule. -/
import Derived.Test.YtlpokomfljmogaaG1
namespace Go.Proofs.Ytlpokomfljmogaa
set_option linter.unusedVariables false

section
open Go.RowKit

theorem below_drewN {B : Nat} {a b : World} (h : Below B a b) (n : Nat) : Below B a (b.drewN n) := ⟨h.os, h.tape, h.output, h.size, h.block⟩

end

section
open Go.RowKit

def nameOf (G : GramD) (s : Int) : ByteArray := if s = 0 then ⟨#[36]⟩ else if 1 ≤ s ∧ s ≤ (topOf G : Int) then ((G.terms ++ G.nons)[(s - 1).toNat]?).getD ⟨#[]⟩ else ⟨#[]⟩

theorem isNon_iff {G : GramD} {s : Int} : isNon G s = true ↔ (G.terms.length : Int) < s ∧ s ≤ (G.terms.length : Int) + G.nons.length := by
  unfold isNon
  rw [Bool.and_eq_true, decide_eq_true_eq, decide_eq_true_eq]
  unfold topOf
  omega
theorem isTerm_iff {G : GramD} {s : Int} : isTerm G s = true ↔ 1 ≤ s ∧ s ≤ (G.terms.length : Int) := by
  unfold isTerm
  rw [Bool.and_eq_true, decide_eq_true_eq, decide_eq_true_eq]
theorem ret_str {a b : ByteArray} (h : a = b) : Ending.returned (.string a) = .returned (.string b) := by rw [h]

end

section
open Go.RowKit

def ofUpto (rs : List (Int × List Int)) (s : Int) (k : Nat) : List Int := ((List.range k).filter (fun (i : Nat) => decide ((rs[i]?).map (·.1) = some s))).map (fun (i : Nat) => (i : Int))
def ofOf (G : GramD) (s : Int) : List Int := ofUpto G.rules s G.rules.length
theorem ofUpto_yes {rs : List (Int × List Int)} {s : Int} {k : Nat} {x : List Int} (h : rs[k]? = some (s, x)) : ofUpto rs s (k + 1) = ofUpto rs s k ++ [(k : Int)] := by
  unfold ofUpto
  rw [List.range_succ, List.filter_append, List.map_append]
  simp [h]
theorem ofUpto_no {rs : List (Int × List Int)} {s l : Int} {k : Nat} {x : List Int} (h : rs[k]? = some (l, x)) (hne : l ≠ s) : ofUpto rs s (k + 1) = ofUpto rs s k := by
  unfold ofUpto
  rw [List.range_succ, List.filter_append, List.map_append]
  simp [h, hne]
theorem ofUpto_len {rs : List (Int × List Int)} {s : Int} {k : Nat} : (ofUpto rs s k).length ≤ k := by
  unfold ofUpto
  rw [List.length_map]
  exact Nat.le_trans (List.length_filter_le _ _) (by simp)

abbrev I64 (x : Int) : Value := .int .i64 x

set_option maxRecDepth 100000 in
set_option maxHeartbeats 2000000 in
theorem gram_of {w : World} {F : Nat → Prop} {vt vn vr : Value} {G : GramD} (h : IsGram w F vt vn vr G) (st s : Int) :
    Calls Try.prog 45 #[GV vt vn vr st, .int .i64 s] w (OwnPost w 3 ((ofOf G s).map I64) (ofOf G s).length) := by
  have h1 := h.blk (.cells #[vt, vn, vr, .int .i64 st] 36)
  have B1 : Below w.heap.size w (w.alloc (.cells #[vt, vn, vr, .int .i64 st] 36)) := (Below.refl _ w).alloc (Nat.le_refl _) _
  have hF := h.lt
  have hsm := h.small
  obtain ⟨A1, c1, A2, c2, A3, c3, rfl, rfl, rfl, l1, l2, l3, m1, m2, m3⟩ := h.slices
  obtain ⟨-, -, -, hcell⟩ := ERule.at_ h.rules
  have hend : ofUpto G.rules s G.rules.length = ofOf G s := rfl
  obtain ⟨n, en⟩ : ∃ n, n = G.rules.length := ⟨_, rfl⟩
  rw [← en] at hsm hcell B1 l3 hend ⊢
  obtain ⟨s1, s2, s3⟩ := hsm
  have HN := hide en
  have HC := hide hcell
  have HF := hide hF
  have HB := hide B1
  have HE := hide hend
  clear en hcell hF B1 h1 h hend
  go_enter Try.func45, Try.ntmps45
  go_wp2
  go_loopw [5, 11] (fun o i wr => ∃ (k : Nat) (A : Option Addr) (c : Nat), k ≤ n ∧ i = .int .i64 k ∧ o = .slice A (ofUpto G.rules s k).length c ∧ wr.ownsRow w.heap.size 3 1 (.slice A (ofUpto G.rules s k).length c) (ofUpto G.rules s k).length ((ofUpto G.rules s k).map I64) ∧ Below w.heap.size w wr) (fun _ i _ => n - (intOf i).toNat)
  case atStart => exact ⟨0, none, 0, Nat.zero_le _, rfl, rfl, World.ownsRow_nil _ _ _ _, HB.out⟩
  case round =>
    obtain ⟨k, A, c, hk, rfl, rfl, hown, hw⟩ := hrel
    have hlk := ofUpto_len (rs := G.rules) (s := s) (k := k)
    have HW := hide hw
    have hwz := hw.size
    by_cases hlt : k < n
    · obtain ⟨b, off, rfl, hb, hc⟩ := HC.out (by omega)
      obtain ⟨l0, x, vx, hx, hx0, hx1, hxr⟩ := RdR.get (n := n) HF.out hb hw hc (k := k) (by rw [← HN.out]; omega)
      obtain ⟨A5, n5, c5, rfl, _⟩ := id hxr
      have HX := hide hx
      clear hc hx hxr hw
      by_cases he : l0 = s
      · subst he
        have hnx := ofUpto_yes HX.out
        obtain ⟨l, hl⟩ : ∃ l, l = ofUpto G.rules l0 k := ⟨_, rfl⟩
        rw [← hl] at hnx hown hlk ⊢
        have HNX := hide hnx
        have HO := hide hown
        clear hl hnx
        obtain ⟨w1, hw1⟩ : ∃ w1, w1 = wr.alloc (.cells #[.int .i64 l0, .slice A5 n5 c5] 47) := ⟨_, rfl⟩
        have ho1 : w1.ownsRow w.heap.size 3 1 (.slice A l.length c) l.length (l.map I64) := by rw [hw1]; exact hown.alloc _
        have HB1 : Below w.heap.size w w1 := by rw [hw1]; exact HW.out.alloc hwz _
        have hz1 := HB1.size
        have HH := hide HB1
        rw [hw1] at ho1 HH hz1
        clear hown HB1 hw1 w1
        have r1 : Rd ((wr.alloc (.cells #[.int .i64 l0, .slice A5 n5 c5] 47)).alloc (.cells #[I64 k] 3)) (fun _ => True) (.slice (some ⟨wr.heap.size + 1, 0, none⟩) 1 1) 1 [I64 k] := by
          have := Rd.one (w := wr.alloc (.cells #[.int .i64 l0, .slice A5 n5 c5] 47)) (e := 3) [I64 k] 1 rfl
          simpa using this
        go_wp2_with (at_builtin; refine wp_append _ rfl (.tmp 20) (.tmp 22) _ rfl Try.elemInt w.heap.size _ l.length (l.map I64) rfl (ho1.alloc _) _ _ [I64 k] 1 rfl rfl r1 (by simp [Value.oneCell']) (by unfold maxLen; omega) (by omega) (by simp; omega) ?_)
        intro A' c' w2 hown2 hg2 _
        have ho2 : w2.ownsRow w.heap.size 3 1 (.slice A' (l.length + 1) c') (l.length + 1) (l.map I64 ++ [I64 k]) := hown2
        clear hown2
        go_wp2
        go_roundw
        case rel =>
          refine ⟨k + 1, A', c', by omega, by go_num, ?_, ?_, ?_⟩
          · rw [HNX.out]; simp
          · rw [HNX.out]; simpa using ho2
          · exact ((HH.out.alloc hz1 _).grown hg2 (by simp; omega) (fun q hq => (ho1.lt q hq).1))
        case measure => simp [intOf]; omega
      · have hb' : (l0 == s) = false := by simpa using he
        have hnx := ofUpto_no HX.out he
        have HNX := hide hnx
        clear he hnx
        go_wp2
        go_roundw
        case rel => exact ⟨k + 1, A, c, by omega, by go_num, by rw [HNX.out], by rw [HNX.out]; exact hown.alloc _, HW.out.alloc hwz _⟩
        case measure => simp [intOf]; omega
    · have hkn : k = n := by omega
      subst hkn
      rw [HE.out] at hown
      have hlen := HE
      rw [HE.out]
      clear hlk
      go_wp2
      go_ret
      exact ⟨A, c, rfl, hown, HW.out⟩
end

section
open Go.RowKit

set_option maxRecDepth 100000 in
set_option maxHeartbeats 2000000 in
theorem ref_of {w : World} {F : Nat → Prop} {vt vn vr : Value} {G : GramD} (h : IsGram w F vt vn vr G) (st s : Int) :
    Calls Try.prog 32 #[GV vt vn vr st, .int .i64 s] w (OwnPost w 3 ((ofOf G s).map I64) (ofOf G s).length) := by
  have h1 := h.blk (.cells #[vt, vn, vr, .int .i64 st] 36)
  have B1 : Below w.heap.size w (w.alloc (.cells #[vt, vn, vr, .int .i64 st] 36)) := (Below.refl _ w).alloc (Nat.le_refl _) _
  have hF := h.lt
  have k1 : Blk (w.alloc (.cells #[vt, vn, vr, .int .i64 st] 36)) w.heap.size 36 #[vt, vn, vr, .int .i64 st] := Blk.new w _ _
  have hsm := h.small
  obtain ⟨A1, c1, A2, c2, A3, c3, rfl, rfl, rfl, l1, l2, l3, m1, m2, m3⟩ := h.slices
  obtain ⟨-, -, -, hcell⟩ := ERule.at_ h.rules
  have hend : ofUpto G.rules s G.rules.length = ofOf G s := rfl
  obtain ⟨n, en⟩ : ∃ n, n = G.rules.length := ⟨_, rfl⟩
  rw [← en] at hsm hcell B1 l3 hend k1 ⊢
  obtain ⟨s1, s2, s3⟩ := hsm
  have HN := hide en
  have HC := hide hcell
  have HF := hide hF
  have HB := hide B1
  have K1 := hide k1
  have HE := hide hend
  clear en hcell hF B1 h1 h hend k1
  go_enter Try.func32, Try.ntmps32
  go_wp2
  go_loopw [5, 6] (fun o i wr => ∃ (k : Nat) (A : Option Addr) (c : Nat), k ≤ n ∧ i = .int .i64 k ∧ o = .slice A (ofUpto G.rules s k).length c ∧ wr.ownsRow w.heap.size 3 1 (.slice A (ofUpto G.rules s k).length c) (ofUpto G.rules s k).length ((ofUpto G.rules s k).map I64) ∧ Below w.heap.size w wr ∧ Blk wr w.heap.size 36 #[.slice A1 G.terms.length c1, .slice A2 G.nons.length c2, .slice A3 n c3, .int .i64 st]) (fun _ i _ => n - (intOf i).toNat)
  case atStart => exact ⟨0, none, 0, Nat.zero_le _, rfl, rfl, World.ownsRow_nil _ _ _ _, HB.out, K1.out⟩
  case round =>
    obtain ⟨k, A, c, hk, rfl, rfl, hown, hw, hbl⟩ := hrel
    have q2 : wr.cell? ⟨w.heap.size, 2, none⟩ = some (.slice A3 n c3) := (hbl.cell 2).trans rfl
    have hbz := hbl.lt
    have HBL := hide hbl
    have hno := hbl.ne_own hown (by decide)
    have HNO := hide hno
    clear hbl hno
    have hlk := ofUpto_len (rs := G.rules) (s := s) (k := k)
    have HW := hide hw
    have hwz := hw.size
    by_cases hlt : k < n
    · obtain ⟨b, off, rfl, hb, hc⟩ := HC.out (by omega)
      obtain ⟨l0, x, vx, hx, hx0, hx1, hxr⟩ := RdR.get (n := n) HF.out hb hw hc (k := k) (by rw [← HN.out]; omega)
      obtain ⟨A5, n5, c5, rfl, _⟩ := id hxr
      have HX := hide hx
      clear hc hx hxr hw
      by_cases he : l0 = s
      · subst he
        have hnx := ofUpto_yes HX.out
        obtain ⟨l, hl⟩ : ∃ l, l = ofUpto G.rules l0 k := ⟨_, rfl⟩
        rw [← hl] at hnx hown hlk HNO ⊢
        have HNX := hide hnx
        have HO := hide hown
        clear hl hnx
        have r1 := Rd.one (w := wr) (e := 3) [I64 k] 1 rfl
        clear hown
        go_wp2_with (at_builtin; refine wp_append _ rfl (.tmp 22) (.tmp 24) _ rfl Try.elemInt w.heap.size _ l.length (l.map I64) rfl (HO.out.alloc _) _ _ [I64 k] 1 rfl rfl r1 (by simp [Value.oneCell']) (by unfold maxLen; omega) (by omega) (by simp; omega) ?_)
        intro A' c' w2 hown2 hg2 _
        have ho2 : w2.ownsRow w.heap.size 3 1 (.slice A' (l.length + 1) c') (l.length + 1) (l.map I64 ++ [I64 k]) := hown2
        clear hown2
        go_wp2
        go_roundw
        case rel =>
          refine ⟨k + 1, A', c', by omega, by go_num, ?_, ?_, ?_⟩
          · rw [HNX.out]; simp
          · rw [HNX.out]; simpa using ho2
          · exact ⟨((HW.out.alloc hwz _).grown hg2 (by simp; omega) (fun q hq => (HO.out.lt q hq).1)), (HBL.out.alloc _).grown hg2 (fun e => HNO.out e.symm)⟩
        case measure => simp [intOf]; omega
      · have hb' : (l0 == s) = false := by simpa using he
        have hnx := ofUpto_no HX.out he
        have HNX := hide hnx
        clear he hnx
        go_wp2
        go_roundw
        case rel => exact ⟨k + 1, A, c, by omega, by go_num, by rw [HNX.out], by rw [HNX.out]; exact hown, HW.out, HBL.out⟩
        case measure => simp [intOf]; omega
    · have hkn : k = n := by omega
      subst hkn
      rw [HE.out] at hown
      have hlen := HE
      rw [HE.out]
      clear hlk
      go_wp2
      go_ret
      exact ⟨A, c, rfl, hown, HW.out⟩
end

section
open Go.RowKit

theorem Rd.one' {w : World} {e : TypeId} (us : List Value) (size : Nat) (hl : us.length = size) : Rd (w.alloc (.cells us.toArray e)) (fun b => b = w.heap.size) (.slice (some ⟨w.heap.size, 0, none⟩) 1 1) size us :=
  ⟨_, 1, 1, rfl, Nat.le_refl _, by decide, by simpa using hl, fun _ => ⟨_, 0, rfl, rfl, fun j u hu => by
    rw [(Blk.new w e us.toArray).cell]; simpa using hu⟩⟩

def ruleOf (G : GramD) (st i : Int) : (Int × List Int) × Bool := if i < 0 ∨ (G.rules.length : Int) < i then ((0, []), false) else if i = (G.rules.length : Int) then ((0, [st]), true) else ((G.rules[i.toNat]?).getD (0, []), true)

def RulePost (w : World) (r : (Int × List Int) × Bool) (e : Ending) (w' : World) : Prop :=
  ∃ A n c, e = .returned (.tuple #[.agg #[.int .i64 r.1.1, .slice A n c], .bool r.2]) ∧ RdI w' (fun b => b < w'.heap.size) (.slice A n c) r.1.2 ∧ Below w.heap.size w w'

theorem RulePost.mk {w w' : World} {r : (Int × List Int) × Bool} {l : Int} {A : Option Addr} {n c : Nat} {xs : List Int} {ok : Bool} {e : Ending} (he : e = .returned (.tuple #[.agg #[.int .i64 l, .slice A n c], .bool ok])) (hr : r = ((l, xs), ok)) (h : RdI w' (fun b => b < w'.heap.size) (.slice A n c) xs) (hb : Below w.heap.size w w') : RulePost w r e w' := by
  subst hr he
  exact ⟨A, n, c, rfl, h, hb⟩

set_option maxRecDepth 100000 in
set_option maxHeartbeats 2000000 in
theorem gram_rule {w : World} {F : Nat → Prop} {vt vn vr : Value} {G : GramD} (h : IsGram w F vt vn vr G) (st i : Int) :
    Calls Try.prog 65 #[GV vt vn vr st, .int .i64 i] w (RulePost w (ruleOf G st i)) := by
  have hF := h.lt
  have hsm := h.small
  obtain ⟨A1, c1, A2, c2, A3, c3, rfl, rfl, rfl, l1, l2, l3, m1, m2, m3⟩ := h.slices
  obtain ⟨-, -, -, hcell⟩ := ERule.at_ h.rules
  obtain ⟨n, en⟩ : ∃ n, n = G.rules.length := ⟨_, rfl⟩
  have f1 : (i < 0 ∨ (n : Int) < i) → ruleOf G st i = ((0, []), false) := fun e => by unfold ruleOf; rw [← en, if_pos e]
  have f2 : i = (n : Int) → ruleOf G st i = ((0, [st]), true) := fun e => by unfold ruleOf; rw [← en, if_neg (by omega), if_pos e]
  have f3 : ∀ (k : Nat) (l : Int) (x : List Int), i = (k : Int) → k < n → G.rules[k]? = some (l, x) → ruleOf G st i = ((l, x), true) := fun k l x e e' hx => by
    unfold ruleOf; rw [← en, if_neg (by omega), if_neg (by omega), show i.toNat = k by omega, hx]; rfl
  rw [← en] at hsm hcell l3 ⊢
  obtain ⟨s1, s2, s3⟩ := hsm
  have HN := hide en
  have HC := hide hcell
  have HF := hide hF
  have F1 := hide f1
  have F2 := hide f2
  have F3 := hide f3
  clear en hcell hF h f1 f2 f3
  by_cases h0 : i < 0
  · go_enter Try.func65, Try.ntmps65
    go_wp2_with fail
    refine bodyPost_ret (v := .tuple #[.agg #[.int .i64 0, .slice none 0 0], .bool false]) (by simp [results, Try.results65, go_sem]) rfl ?_
    exact RulePost.mk rfl (F1.out (.inl h0)) (Rd.nil _ _ _) (((Below.refl _ w).alloc (Nat.le_refl _) _).alloc (by simp) _)
  · by_cases h1 : (n : Int) < i
    · go_enter Try.func65, Try.ntmps65
      go_wp2_with fail
      refine bodyPost_ret (v := .tuple #[.agg #[.int .i64 0, .slice none 0 0], .bool false]) (by simp [results, Try.results65, go_sem]) rfl ?_
      exact RulePost.mk rfl (F1.out (.inr h1)) (Rd.nil _ _ _) (((Below.refl _ w).alloc (Nat.le_refl _) _).alloc (by simp) _)
    · by_cases h2 : i = (n : Int)
      · subst h2
        have r1 : Rd (((w.alloc (.cells #[.slice A1 G.terms.length c1, .slice A2 G.nons.length c2, .slice A3 n c3, .int .i64 st] 36)).alloc (.cells #[.int .i64 0, .slice (some ⟨w.heap.size + 2, 0, none⟩) 1 1] 47)).alloc (.cells #[.int .i64 st] 3)) (fun b => b = w.heap.size + 2) (.slice (some ⟨w.heap.size + 2, 0, none⟩) 1 1) 1 [.int .i64 st] := by
          have := Rd.one' (w := ((w.alloc (.cells #[.slice A1 G.terms.length c1, .slice A2 G.nons.length c2, .slice A3 n c3, .int .i64 st] 36)).alloc (.cells #[.int .i64 0, .slice (some ⟨w.heap.size + 2, 0, none⟩) 1 1] 47))) (e := 3) [.int .i64 st] 1 rfl
          simpa using this
        go_enter Try.func65, Try.ntmps65
        go_wp2_with fail
        refine bodyPost_ret (v := .tuple #[.agg #[.int .i64 0, .slice (some ⟨w.heap.size + 2, 0, none⟩) 1 1], .bool true]) (by simp [results, Try.results65, go_sem]) rfl ?_
        exact RulePost.mk rfl (F2.out (by first | rfl | trivial)) (r1.mono (fun b hb => by simp; omega)) ((((Below.refl _ w).alloc (Nat.le_refl _) _).alloc (by simp) _).alloc (by simp; omega) _)
      · obtain ⟨k, rfl⟩ := Int.eq_ofNat_of_zero_le (by omega : 0 ≤ i)
        have hlt : k < n := by omega
        obtain ⟨b, off, rfl, hb, hc⟩ := HC.out (by omega)
        obtain ⟨l0, x, vx, hx, hx0, hx1, hxr⟩ := RdR.get (n := n) HF.out hb (Below.refl _ w) hc (k := k) (by rw [← HN.out]; omega)
        obtain ⟨A5, n5, c5, rfl, _⟩ := id hxr
        have hbw := HF.out b hb
        have hx0' := fun o => cell_a hx0 o
        have hx1' := fun o => cell_a hx1 o
        have hfin := F3.out k l0 x rfl hlt hx
        have HFIN := hide hfin
        have HXR := hide hxr
        have hki : ((k : Int) == (n : Int)) = false := by simpa using (by omega : ¬ (k : Int) = (n : Int))
        clear hc hx hxr hfin h2
        go_enter Try.func65, Try.ntmps65
        go_wp2_with fail
        refine bodyPost_ret (v := .tuple #[.agg #[.int .i64 l0, .slice A5 n5 c5], .bool true]) (by simp [results, Try.results65, go_sem]) rfl ?_
        have B2 : Below w.heap.size w ((w.alloc (.cells #[.slice A1 G.terms.length c1, .slice A2 G.nons.length c2, .slice (some ⟨b, off, none⟩) n c3, .int .i64 st] 36)).alloc (.cells #[.int .i64 l0, .slice A5 n5 c5] 47)) := ((Below.refl _ w).alloc (Nat.le_refl _) _).alloc (by simp) _
        exact RulePost.mk rfl HFIN.out ((HXR.out.below B2 HF.out).mono (fun b hb => Nat.lt_of_lt_of_le (HF.out b hb) B2.size)) B2

set_option maxRecDepth 100000 in
set_option maxHeartbeats 2000000 in
theorem ref_rule {w : World} {F : Nat → Prop} {vt vn vr : Value} {G : GramD} (h : IsGram w F vt vn vr G) (st i : Int) :
    Calls Try.prog 17 #[GV vt vn vr st, .int .i64 i] w (RulePost w (ruleOf G st i)) := by
  have hF := h.lt
  have hsm := h.small
  obtain ⟨A1, c1, A2, c2, A3, c3, rfl, rfl, rfl, l1, l2, l3, m1, m2, m3⟩ := h.slices
  obtain ⟨-, -, -, hcell⟩ := ERule.at_ h.rules
  obtain ⟨n, en⟩ : ∃ n, n = G.rules.length := ⟨_, rfl⟩
  have f1 : (i < 0 ∨ (n : Int) < i) → ruleOf G st i = ((0, []), false) := fun e => by unfold ruleOf; rw [← en, if_pos e]
  have f2 : i = (n : Int) → ruleOf G st i = ((0, [st]), true) := fun e => by unfold ruleOf; rw [← en, if_neg (by omega), if_pos e]
  have f3 : ∀ (k : Nat) (l : Int) (x : List Int), i = (k : Int) → k < n → G.rules[k]? = some (l, x) → ruleOf G st i = ((l, x), true) := fun k l x e e' hx => by
    unfold ruleOf; rw [← en, if_neg (by omega), if_neg (by omega), show i.toNat = k by omega, hx]; rfl
  rw [← en] at hsm hcell l3 ⊢
  obtain ⟨s1, s2, s3⟩ := hsm
  have HN := hide en
  have HC := hide hcell
  have HF := hide hF
  have F1 := hide f1
  have F2 := hide f2
  have F3 := hide f3
  clear en hcell hF h f1 f2 f3
  by_cases h0 : i < 0
  · go_enter Try.func17, Try.ntmps17
    go_wp2_with fail
    refine bodyPost_ret (v := .tuple #[.agg #[.int .i64 0, .slice none 0 0], .bool false]) (by simp [results, Try.results17, go_sem]) rfl ?_
    exact RulePost.mk rfl (F1.out (.inl h0)) (Rd.nil _ _ _) (((Below.refl _ w).alloc (Nat.le_refl _) _).alloc (by simp) _)
  · by_cases h1 : (n : Int) < i
    · go_enter Try.func17, Try.ntmps17
      go_wp2_with fail
      refine bodyPost_ret (v := .tuple #[.agg #[.int .i64 0, .slice none 0 0], .bool false]) (by simp [results, Try.results17, go_sem]) rfl ?_
      exact RulePost.mk rfl (F1.out (.inr h1)) (Rd.nil _ _ _) (((Below.refl _ w).alloc (Nat.le_refl _) _).alloc (by simp) _)
    · by_cases h2 : i = (n : Int)
      · subst h2
        have r1 : Rd (((w.alloc (.cells #[.slice A1 G.terms.length c1, .slice A2 G.nons.length c2, .slice A3 n c3, .int .i64 st] 36)).alloc (.cells #[.int .i64 0, .slice (some ⟨w.heap.size + 2, 0, none⟩) 1 1] 47)).alloc (.cells #[.int .i64 st] 3)) (fun b => b = w.heap.size + 2) (.slice (some ⟨w.heap.size + 2, 0, none⟩) 1 1) 1 [.int .i64 st] := by
          have := Rd.one' (w := ((w.alloc (.cells #[.slice A1 G.terms.length c1, .slice A2 G.nons.length c2, .slice A3 n c3, .int .i64 st] 36)).alloc (.cells #[.int .i64 0, .slice (some ⟨w.heap.size + 2, 0, none⟩) 1 1] 47))) (e := 3) [.int .i64 st] 1 rfl
          simpa using this
        go_enter Try.func17, Try.ntmps17
        go_wp2_with fail
        refine bodyPost_ret (v := .tuple #[.agg #[.int .i64 0, .slice (some ⟨w.heap.size + 2, 0, none⟩) 1 1], .bool true]) (by simp [results, Try.results17, go_sem]) rfl ?_
        exact RulePost.mk rfl (F2.out (by first | rfl | trivial)) (r1.mono (fun b hb => by simp; omega)) ((((Below.refl _ w).alloc (Nat.le_refl _) _).alloc (by simp) _).alloc (by simp; omega) _)
      · obtain ⟨k, rfl⟩ := Int.eq_ofNat_of_zero_le (by omega : 0 ≤ i)
        have hlt : k < n := by omega
        obtain ⟨b, off, rfl, hb, hc⟩ := HC.out (by omega)
        obtain ⟨l0, x, vx, hx, hx0, hx1, hxr⟩ := RdR.get (n := n) HF.out hb (Below.refl _ w) hc (k := k) (by rw [← HN.out]; omega)
        obtain ⟨A5, n5, c5, rfl, _⟩ := id hxr
        have hbw := HF.out b hb
        have hx0' := fun o => cell_a hx0 o
        have hx1' := fun o => cell_a hx1 o
        have hfin := F3.out k l0 x rfl hlt hx
        have HFIN := hide hfin
        have HXR := hide hxr
        have hki : ((k : Int) == (n : Int)) = false := by simpa using (by omega : ¬ (k : Int) = (n : Int))
        clear hc hx hxr hfin h2
        go_enter Try.func17, Try.ntmps17
        go_wp2_with fail
        refine bodyPost_ret (v := .tuple #[.agg #[.int .i64 l0, .slice A5 n5 c5], .bool true]) (by simp [results, Try.results17, go_sem]) rfl ?_
        have B2 : Below w.heap.size w ((w.alloc (.cells #[.slice A1 G.terms.length c1, .slice A2 G.nons.length c2, .slice (some ⟨b, off, none⟩) n c3, .int .i64 st] 36)).alloc (.cells #[.int .i64 l0, .slice A5 n5 c5] 47)) := ((Below.refl _ w).alloc (Nat.le_refl _) _).alloc (by simp) _
        exact RulePost.mk rfl HFIN.out ((HXR.out.below B2 HF.out).mono (fun b hb => Nat.lt_of_lt_of_le (HF.out b hb) B2.size)) B2
end
end Go.Proofs.Ytlpokomfljmogaa

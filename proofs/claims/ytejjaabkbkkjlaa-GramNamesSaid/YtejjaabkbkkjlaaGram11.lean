/- Rule, of both. -/
import Derived.Test.YtejjaabkbkkjlaaGram10
namespace Go.Proofs.Ytejjaabkbkkjlaa
set_option linter.unusedVariables false
open Go.RowKit

theorem Rd.one' {w : World} {e : TypeId} (us : List Value) (size : Nat) (hl : us.length = size) : Rd (w.alloc (.cells us.toArray e)) (fun b => b = w.heap.size) (.slice (some ⟨w.heap.size, 0, none⟩) 1 1) size us :=
  ⟨_, 1, 1, rfl, Nat.le_refl _, by decide, by simpa using hl, fun _ => ⟨_, 0, rfl, rfl, fun j u hu => by
    rw [(Blk.new w e us.toArray).cell]; simpa using hu⟩⟩

def ruleOf (G : GramD) (st i : Int) : (Int × List Int) × Bool := if i < 0 ∨ (G.rules.length : Int) < i then ((0, []), false) else if i = (G.rules.length : Int) then ((0, [st]), true) else ((G.rules[i.toNat]?).getD (0, []), true)

def RulePost (w : World) (r : (Int × List Int) × Bool) (e : Ending) (w' : World) : Prop :=
  ∃ A n c, e = .returned (.tuple #[.agg #[.int .i64 r.1.1, .slice A n c], .bool r.2]) ∧ RdI w' (fun b => b < w'.heap.size) (.slice A n c) r.1.2 ∧ Below w.heap.size w w'

theorem RulePost.mk {w w' : World} {r : (Int × List Int) × Bool} {l : Int} {A : Option Addr} {n c : Nat} {xs : List Int} {ok : Bool} {e : Ending} (he : e = .returned (.tuple #[.agg #[.int .i64 l, .slice A n c], .bool ok])) (hr : r = ((l, xs), ok)) (h : RdI w' (fun b => b < w'.heap.size) (.slice A n c) xs) (hb : Below w.heap.size w w') : RulePost w r e w' := by
  subst hr he
  exact ⟨A, n, c, rfl, h, hb⟩

set_option maxRecDepth 100000 in
set_option maxHeartbeats 2000000 in
theorem gram_rule {w : World} {F : Nat → Prop} {vt vn vr : Value} {G : GramD} (h : IsGram w F vt vn vr G) (st i : Int) :
    Calls Try.prog 18 #[GV vt vn vr st, .int .i64 i] w (RulePost w (ruleOf G st i)) := by
  have hF := h.lt
  have hsm := h.small
  obtain ⟨A1, c1, A2, c2, A3, c3, rfl, rfl, rfl, l1, l2, l3, m1, m2, m3⟩ := h.slices
  obtain ⟨-, -, -, hcell⟩ := ERule.at_ h.rules
  obtain ⟨n, en⟩ : ∃ n, n = G.rules.length := ⟨_, rfl⟩
  have f1 : (i < 0 ∨ (n : Int) < i) → ruleOf G st i = ((0, []), false) := fun e => by unfold ruleOf; rw [← en, if_pos e]
  have f2 : i = (n : Int) → ruleOf G st i = ((0, [st]), true) := fun e => by unfold ruleOf; rw [← en, if_neg (by omega), if_pos e]
  have f3 : ∀ (k : Nat) (l : Int) (x : List Int), i = (k : Int) → k < n → G.rules[k]? = some (l, x) → ruleOf G st i = ((l, x), true) := fun k l x e e' hx => by
    unfold ruleOf; rw [← en, if_neg (by omega), if_neg (by omega), show i.toNat = k by omega, hx]; rfl
  rw [← en] at hsm hcell l3 ⊢
  obtain ⟨s1, s2, s3⟩ := hsm
  have HN := hide en
  have HC := hide hcell
  have HF := hide hF
  have F1 := hide f1
  have F2 := hide f2
  have F3 := hide f3
  clear en hcell hF h f1 f2 f3
  by_cases h0 : i < 0
  · go_enter Try.func18, Try.ntmps18
    go_wp2_with fail
    refine bodyPost_ret (v := .tuple #[.agg #[.int .i64 0, .slice none 0 0], .bool false]) (by simp [results, Try.results18, go_sem]) rfl ?_
    exact RulePost.mk rfl (F1.out (.inl h0)) (Rd.nil _ _ _) (((Below.refl _ w).alloc (Nat.le_refl _) _).alloc (by simp) _)
  · by_cases h1 : (n : Int) < i
    · go_enter Try.func18, Try.ntmps18
      go_wp2_with fail
      refine bodyPost_ret (v := .tuple #[.agg #[.int .i64 0, .slice none 0 0], .bool false]) (by simp [results, Try.results18, go_sem]) rfl ?_
      exact RulePost.mk rfl (F1.out (.inr h1)) (Rd.nil _ _ _) (((Below.refl _ w).alloc (Nat.le_refl _) _).alloc (by simp) _)
    · by_cases h2 : i = (n : Int)
      · subst h2
        have r1 : Rd (((w.alloc (.cells #[.slice A1 G.terms.length c1, .slice A2 G.nons.length c2, .slice A3 n c3, .int .i64 st] 25)).alloc (.cells #[.int .i64 0, .slice (some ⟨w.heap.size + 2, 0, none⟩) 1 1] 30)).alloc (.cells #[.int .i64 st] 3)) (fun b => b = w.heap.size + 2) (.slice (some ⟨w.heap.size + 2, 0, none⟩) 1 1) 1 [.int .i64 st] := by
          have := Rd.one' (w := ((w.alloc (.cells #[.slice A1 G.terms.length c1, .slice A2 G.nons.length c2, .slice A3 n c3, .int .i64 st] 25)).alloc (.cells #[.int .i64 0, .slice (some ⟨w.heap.size + 2, 0, none⟩) 1 1] 30))) (e := 3) [.int .i64 st] 1 rfl
          simpa using this
        go_enter Try.func18, Try.ntmps18
        go_wp2_with fail
        refine bodyPost_ret (v := .tuple #[.agg #[.int .i64 0, .slice (some ⟨w.heap.size + 2, 0, none⟩) 1 1], .bool true]) (by simp [results, Try.results18, go_sem]) rfl ?_
        exact RulePost.mk rfl (F2.out (by first | rfl | trivial)) (r1.mono (fun b hb => by simp; omega)) ((((Below.refl _ w).alloc (Nat.le_refl _) _).alloc (by simp) _).alloc (by simp; omega) _)
      · obtain ⟨k, rfl⟩ := Int.eq_ofNat_of_zero_le (by omega : 0 ≤ i)
        have hlt : k < n := by omega
        obtain ⟨b, off, rfl, hb, hc⟩ := HC.out (by omega)
        obtain ⟨l0, x, vx, hx, hx0, hx1, hxr⟩ := RdR.get (n := n) HF.out hb (Below.refl _ w) hc (k := k) (by rw [← HN.out]; omega)
        obtain ⟨A5, n5, c5, rfl, _⟩ := id hxr
        have hbw := HF.out b hb
        have hx0' := fun o => cell_a hx0 o
        have hx1' := fun o => cell_a hx1 o
        have hfin := F3.out k l0 x rfl hlt hx
        have HFIN := hide hfin
        have HXR := hide hxr
        have hki : ((k : Int) == (n : Int)) = false := by simpa using (by omega : ¬ (k : Int) = (n : Int))
        clear hc hx hxr hfin h2
        go_enter Try.func18, Try.ntmps18
        go_wp2_with fail
        refine bodyPost_ret (v := .tuple #[.agg #[.int .i64 l0, .slice A5 n5 c5], .bool true]) (by simp [results, Try.results18, go_sem]) rfl ?_
        have B2 : Below w.heap.size w ((w.alloc (.cells #[.slice A1 G.terms.length c1, .slice A2 G.nons.length c2, .slice (some ⟨b, off, none⟩) n c3, .int .i64 st] 25)).alloc (.cells #[.int .i64 l0, .slice A5 n5 c5] 30)) := ((Below.refl _ w).alloc (Nat.le_refl _) _).alloc (by simp) _
        exact RulePost.mk rfl HFIN.out ((HXR.out.below B2 HF.out).mono (fun b hb => Nat.lt_of_lt_of_le (HF.out b hb) B2.size)) B2

set_option maxRecDepth 100000 in
set_option maxHeartbeats 2000000 in
theorem ref_rule {w : World} {F : Nat → Prop} {vt vn vr : Value} {G : GramD} (h : IsGram w F vt vn vr G) (st i : Int) :
    Calls Try.prog 19 #[GV vt vn vr st, .int .i64 i] w (RulePost w (ruleOf G st i)) := by
  have hF := h.lt
  have hsm := h.small
  obtain ⟨A1, c1, A2, c2, A3, c3, rfl, rfl, rfl, l1, l2, l3, m1, m2, m3⟩ := h.slices
  obtain ⟨-, -, -, hcell⟩ := ERule.at_ h.rules
  obtain ⟨n, en⟩ : ∃ n, n = G.rules.length := ⟨_, rfl⟩
  have f1 : (i < 0 ∨ (n : Int) < i) → ruleOf G st i = ((0, []), false) := fun e => by unfold ruleOf; rw [← en, if_pos e]
  have f2 : i = (n : Int) → ruleOf G st i = ((0, [st]), true) := fun e => by unfold ruleOf; rw [← en, if_neg (by omega), if_pos e]
  have f3 : ∀ (k : Nat) (l : Int) (x : List Int), i = (k : Int) → k < n → G.rules[k]? = some (l, x) → ruleOf G st i = ((l, x), true) := fun k l x e e' hx => by
    unfold ruleOf; rw [← en, if_neg (by omega), if_neg (by omega), show i.toNat = k by omega, hx]; rfl
  rw [← en] at hsm hcell l3 ⊢
  obtain ⟨s1, s2, s3⟩ := hsm
  have HN := hide en
  have HC := hide hcell
  have HF := hide hF
  have F1 := hide f1
  have F2 := hide f2
  have F3 := hide f3
  clear en hcell hF h f1 f2 f3
  by_cases h0 : i < 0
  · go_enter Try.func19, Try.ntmps19
    go_wp2_with fail
    refine bodyPost_ret (v := .tuple #[.agg #[.int .i64 0, .slice none 0 0], .bool false]) (by simp [results, Try.results19, go_sem]) rfl ?_
    exact RulePost.mk rfl (F1.out (.inl h0)) (Rd.nil _ _ _) (((Below.refl _ w).alloc (Nat.le_refl _) _).alloc (by simp) _)
  · by_cases h1 : (n : Int) < i
    · go_enter Try.func19, Try.ntmps19
      go_wp2_with fail
      refine bodyPost_ret (v := .tuple #[.agg #[.int .i64 0, .slice none 0 0], .bool false]) (by simp [results, Try.results19, go_sem]) rfl ?_
      exact RulePost.mk rfl (F1.out (.inr h1)) (Rd.nil _ _ _) (((Below.refl _ w).alloc (Nat.le_refl _) _).alloc (by simp) _)
    · by_cases h2 : i = (n : Int)
      · subst h2
        have r1 : Rd (((w.alloc (.cells #[.slice A1 G.terms.length c1, .slice A2 G.nons.length c2, .slice A3 n c3, .int .i64 st] 25)).alloc (.cells #[.int .i64 0, .slice (some ⟨w.heap.size + 2, 0, none⟩) 1 1] 30)).alloc (.cells #[.int .i64 st] 3)) (fun b => b = w.heap.size + 2) (.slice (some ⟨w.heap.size + 2, 0, none⟩) 1 1) 1 [.int .i64 st] := by
          have := Rd.one' (w := ((w.alloc (.cells #[.slice A1 G.terms.length c1, .slice A2 G.nons.length c2, .slice A3 n c3, .int .i64 st] 25)).alloc (.cells #[.int .i64 0, .slice (some ⟨w.heap.size + 2, 0, none⟩) 1 1] 30))) (e := 3) [.int .i64 st] 1 rfl
          simpa using this
        go_enter Try.func19, Try.ntmps19
        go_wp2_with fail
        refine bodyPost_ret (v := .tuple #[.agg #[.int .i64 0, .slice (some ⟨w.heap.size + 2, 0, none⟩) 1 1], .bool true]) (by simp [results, Try.results19, go_sem]) rfl ?_
        exact RulePost.mk rfl (F2.out (by first | rfl | trivial)) (r1.mono (fun b hb => by simp; omega)) ((((Below.refl _ w).alloc (Nat.le_refl _) _).alloc (by simp) _).alloc (by simp; omega) _)
      · obtain ⟨k, rfl⟩ := Int.eq_ofNat_of_zero_le (by omega : 0 ≤ i)
        have hlt : k < n := by omega
        obtain ⟨b, off, rfl, hb, hc⟩ := HC.out (by omega)
        obtain ⟨l0, x, vx, hx, hx0, hx1, hxr⟩ := RdR.get (n := n) HF.out hb (Below.refl _ w) hc (k := k) (by rw [← HN.out]; omega)
        obtain ⟨A5, n5, c5, rfl, _⟩ := id hxr
        have hbw := HF.out b hb
        have hx0' := fun o => cell_a hx0 o
        have hx1' := fun o => cell_a hx1 o
        have hfin := F3.out k l0 x rfl hlt hx
        have HFIN := hide hfin
        have HXR := hide hxr
        have hki : ((k : Int) == (n : Int)) = false := by simpa using (by omega : ¬ (k : Int) = (n : Int))
        clear hc hx hxr hfin h2
        go_enter Try.func19, Try.ntmps19
        go_wp2_with fail
        refine bodyPost_ret (v := .tuple #[.agg #[.int .i64 l0, .slice A5 n5 c5], .bool true]) (by simp [results, Try.results19, go_sem]) rfl ?_
        have B2 : Below w.heap.size w ((w.alloc (.cells #[.slice A1 G.terms.length c1, .slice A2 G.nons.length c2, .slice (some ⟨b, off, none⟩) n c3, .int .i64 st] 25)).alloc (.cells #[.int .i64 l0, .slice A5 n5 c5] 30)) := ((Below.refl _ w).alloc (Nat.le_refl _) _).alloc (by simp) _
        exact RulePost.mk rfl HFIN.out ((HXR.out.below B2 HF.out).mono (fun b hb => Nat.lt_of_lt_of_le (HF.out b hb) B2.size)) B2
end Go.Proofs.Ytejjaabkbkkjlaa

/- Ordered. -/
import Derived.Test.YtejjaabkbkkjlaaG3
namespace Go.Proofs.Ytejjaabkbkkjlaa
set_option linter.unusedVariables false

section
open Go.RowKit

theorem Try.enters_ordered : Enters Try.prog 93 := enters_of Try.func93 (by kernel_rfl) rfl

theorem ordered_clo {w : World} {F : Nat → Prop} {s : Int} {B : Nat} (k1 : Blk w B 3 #[.int .i64 s]) :
    PredR w F 93 #[.pointer (some ⟨B, 0, none⟩)] (fun r => decide (r.1 = s)) := by
  intro W v r hW hr
  have hcell : W.cell? ⟨B, 0, none⟩ = some (.int .i64 s) := ((k1.below hW k1.lt).cell 0).trans rfl
  have hcell' := fun o => cell_a hcell o
  have hB : B < W.heap.size := Nat.lt_of_lt_of_le k1.lt hW.size
  obtain ⟨A, n, c, rfl, _⟩ := id hr
  have b2 : Below W.heap.size W (W.alloc (.cells #[.int .i64 r.1, .slice A n c] 30)) := (Below.refl _ W).alloc (Nat.le_refl _) _
  have HB := hide b2
  show Calls Try.prog 93 #[.agg #[.int .i64 r.1, .slice A n c], .pointer (some ⟨B, 0, none⟩)] W _
  obtain ⟨l, hl⟩ : ∃ l, l = r.1 := ⟨_, rfl⟩
  rw [← hl] at HB ⊢
  have HL := hide hl
  clear k1 hW b2 hr hl
  go_enter Try.func93, Try.ntmps93
  go_wp2
  go_ret
  exact ⟨ret_bool (show (l == s) = decide (r.1 = s) by rw [← HL.out]; by_cases e : l = s <;> simp [e]), HB.out⟩

/-- the first rule's place of each nonterminal, or the end -/
def firstAt (G : GramD) (i : Nat) : Int := if firstBy (fun r => decide (r.1 = (G.terms.length : Int) + 1 + i)) G.rules < 0 then (G.rules.length : Int) else firstBy (fun r => decide (r.1 = (G.terms.length : Int) + 1 + i)) G.rules
def firstsOf (G : GramD) (k : Nat) : List Int := (List.range k).map (firstAt G)
theorem firstsOf_succ (G : GramD) (k : Nat) : firstsOf G (k + 1) = firstsOf G k ++ [firstAt G k] := by
  unfold firstsOf; rw [List.range_succ, List.map_append]; rfl
theorem firstsOf_len (G : GramD) (k : Nat) : (firstsOf G k).length = k := by unfold firstsOf; simp
end

section
open Go.RowKit

set_option maxRecDepth 100000 in
set_option maxHeartbeats 2000000 in
theorem gram_ordered {w : World} {F : Nat → Prop} {vt vn vr : Value} {G : GramD} (h : IsGram w F vt vn vr G) (st : Int) :
    Calls Try.prog 36 #[GV vt vn vr st] w (Quiet w (.bool (sortedL (firstsOf G G.nons.length)))) := by
  have h1 := h.blk (.cells #[vt, vn, vr, .int .i64 st] 25)
  have B1 : Below w.heap.size w (w.alloc (.cells #[vt, vn, vr, .int .i64 st] 25)) := (Below.refl _ w).alloc (Nat.le_refl _) _
  have k1 : Blk (w.alloc (.cells #[vt, vn, vr, .int .i64 st] 25)) w.heap.size 25 #[vt, vn, vr, .int .i64 st] := Blk.new w _ _
  have hF := h.lt
  have hsm := h.small
  have ix : ∀ (wr : World) (s : Int), Below w.heap.size w wr → Calls Try.prog 92 #[vr, .func (.func 93) #[] #[.pointer (some ⟨wr.heap.size, 0, none⟩)]] (wr.alloc (.cells #[.int .i64 s] 3)) (Quiet (wr.alloc (.cells #[.int .i64 s] 3)) (.int .i64 (firstBy (fun r => decide (r.1 = s)) G.rules))) := fun wr s hb => by
    have hb' := hb.alloc hb.size (.cells #[.int .i64 s] 3)
    exact index_rules (h.below hb').rules (h.below hb').lt Try.enters_ordered (ordered_clo (Blk.new wr _ _))
  obtain ⟨A1, c1, A2, c2, A3, c3, rfl, rfl, rfl, l1, l2, l3, m1, m2, m3⟩ := h.slices
  have hat : ∀ k : Nat, firstAt G k = (if firstBy (fun r => decide (r.1 = (G.terms.length : Int) + 1 + k)) G.rules < 0 then (G.rules.length : Int) else firstBy (fun r => decide (r.1 = (G.terms.length : Int) + 1 + k)) G.rules) := fun k => rfl
  have hflt : ∀ p : Int × List Int → Bool, -1 ≤ firstBy p G.rules ∧ firstBy p G.rules < G.rules.length := fun p => firstBy_lt
  have hsu := firstsOf_succ G
  have hln := firstsOf_len G
  obtain ⟨T, eT⟩ : ∃ n, n = G.terms.length := ⟨_, rfl⟩
  obtain ⟨N, eN⟩ : ∃ n, n = G.nons.length := ⟨_, rfl⟩
  obtain ⟨R, eR⟩ : ∃ n, n = G.rules.length := ⟨_, rfl⟩
  rw [← eT, ← eN, ← eR] at k1 B1 hsm
  rw [← eT] at l1
  rw [← eN] at l2 ⊢
  rw [← eR] at l3 ix hflt
  rw [← eT] at ⊢
  rw [← eR] at ⊢
  have hat' : ∀ k : Nat, firstAt G k = (if firstBy (fun r => decide (r.1 = (T : Int) + 1 + k)) G.rules < 0 then (R : Int) else firstBy (fun r => decide (r.1 = (T : Int) + 1 + k)) G.rules) := fun k => by rw [eT, eR]; exact hat k
  obtain ⟨s1, s2, s3⟩ := hsm
  have HB := hide B1
  have K1 := hide k1
  have IX := hide ix
  have HAT := hide hat'
  have HFL := hide hflt
  have HSU := hide hsu
  have HLN := hide hln
  clear hat hat' hflt hsu hln ix k1 B1 h1 h eT eN eR hF
  go_enter Try.func36, Try.ntmps36
  go_wp2_with fail
  go_loopw [3, 10] (fun o i wr => ∃ (k : Nat) (A : Option Addr) (c : Nat), k ≤ N ∧ i = .int .i64 k ∧ o = .slice A k c ∧ wr.ownsRow w.heap.size 3 1 (.slice A k c) k ((firstsOf G k).map I64) ∧ Below w.heap.size w wr ∧ Blk wr w.heap.size 25 #[.slice A1 T c1, .slice A2 N c2, .slice A3 R c3, .int .i64 st]) (fun _ i _ => N - (intOf i).toNat)
  case atStart => exact ⟨0, none, 0, Nat.zero_le _, rfl, rfl, World.ownsRow_nil _ _ _ _, HB.out, K1.out⟩
  case round =>
    obtain ⟨k, A, c, hk, rfl, rfl, hown, hw, hbl⟩ := hrel
    have q0 : wr.cell? ⟨w.heap.size, 0, none⟩ = some (.slice A1 T c1) := (hbl.cell 0).trans rfl
    have hwz := hw.size
    have hbz := hbl.lt
    have HBL := hide hbl
    have HW := hide hw
    have HO := hide hown
    by_cases hlt : k < N
    · have hi := IX.out wr ((T : Int) + 1 + k) hw
      have hat := HAT.out k
      have hfl := HFL.out (fun r => decide (r.1 = (T : Int) + 1 + k))
      obtain ⟨q, hq⟩ : ∃ q, q = firstBy (fun r => decide (r.1 = (T : Int) + 1 + k)) G.rules := ⟨_, rfl⟩
      rw [← hq] at hi hat hfl
      obtain ⟨hq1, hq2⟩ := hfl
      have HI := hide hi
      have HA := hide hat
      have q2' : (wr.alloc (.cells #[.int .i64 ((T : Int) + 1 + k)] 3)).cell? ⟨w.heap.size, 2, none⟩ = some (.slice A3 R c3) := ((hbl.alloc _).cell 2).trans rfl
      clear hi hat hq hw hbl hown
      go_wp2_with fail
      refine HI.out.mono ?_
      rintro e w2 ⟨rfl, b2⟩
      have b1' : Below wr.heap.size wr (wr.alloc (.cells #[.int .i64 ((T : Int) + 1 + k)] 3)) := (Below.refl _ wr).alloc (Nat.le_refl _) _
      have b2' : Below wr.heap.size wr w2 := b1'.trans (b2.mono b1'.size)
      have hown2 : w2.ownsRow w.heap.size 3 1 (.slice A k c) k ((firstsOf G k).map I64) := (Touch.of_size b2' (fun _ => False)).own HO.out (fun _ _ hf => hf)
      have hbl2 := HBL.out.below b2' hbz
      have q2 : w2.cell? ⟨w.heap.size, 2, none⟩ = some (.slice A3 R c3) := (hbl2.cell 2).trans rfl
      have hno := hbl2.ne_own hown2 (by decide)
      have hz2 := b2'.size
      have HW2 := hide (HW.out.trans (b2'.mono hwz))
      have HBL2 := hide hbl2
      have HO2 := hide hown2
      have HNO := hide hno
      have hln := HLN.out k
      have ln : ((firstsOf G k).map I64).length = k * 1 := by rw [List.length_map, hln]; omega
      clear b1' b2' b2 hown2 hbl2 hno q2' hln
      by_cases hneg : q < 0
      · have r1 := Rd.one (w := w2) (e := 3) [I64 R] 1 rfl
        have hav : firstAt G k = (R : Int) := by rw [HA.out, if_pos hneg]
        have HAV := hide hav
        clear hav
        go_wp2_with (at_builtin; refine wp_append _ rfl (.tmp 28) (.tmp 30) _ rfl Try.elemInt w.heap.size _ k ((firstsOf G k).map I64) rfl (HO2.out.alloc _) _ _ [I64 R] 1 rfl rfl r1 (by simp [Value.oneCell']) (by unfold maxLen; omega) (by omega) (by simp; omega) ?_)
        intro A' c' w3 hown3 hg3 _
        have ho3 : w3.ownsRow w.heap.size 3 1 (.slice A' (k + 1) c') (k + 1) ((firstsOf G k).map I64 ++ [I64 R]) := hown3
        clear hown3
        go_wp2_with fail
        go_roundw
        case rel =>
          refine ⟨k + 1, A', c', by omega, by go_num, rfl, ?_, (HW2.out.alloc (by omega) _).grown hg3 (by simp; omega) (fun q hq => (HO2.out.lt q hq).1), (HBL2.out.alloc _).grown hg3 (fun e => HNO.out e.symm)⟩
          rw [HSU.out, HAV.out, List.map_append]
          exact ho3
        case measure => simp [intOf]; omega
      · have r1 := Rd.one (w := w2) (e := 3) [I64 q] 1 rfl
        have hav : firstAt G k = q := by rw [HA.out, if_neg hneg]
        have HAV := hide hav
        clear hav
        go_wp2_with (at_builtin; refine wp_append _ rfl (.tmp 28) (.tmp 30) _ rfl Try.elemInt w.heap.size _ k ((firstsOf G k).map I64) rfl (HO2.out.alloc _) _ _ [I64 q] 1 rfl rfl r1 (by simp [Value.oneCell']) (by unfold maxLen; omega) (by omega) (by simp; omega) ?_)
        intro A' c' w3 hown3 hg3 _
        have ho3 : w3.ownsRow w.heap.size 3 1 (.slice A' (k + 1) c') (k + 1) ((firstsOf G k).map I64 ++ [I64 q]) := hown3
        clear hown3
        go_wp2_with fail
        go_roundw
        case rel =>
          refine ⟨k + 1, A', c', by omega, by go_num, rfl, ?_, (HW2.out.alloc (by omega) _).grown hg3 (by simp; omega) (fun q hq => (HO2.out.lt q hq).1), (HBL2.out.alloc _).grown hg3 (fun e => HNO.out e.symm)⟩
          rw [HSU.out, HAV.out, List.map_append]
          exact ho3
        case measure => simp [intOf]; omega
    · have hkn : k = N := by omega
      subst hkn
      have hs := is_sorted (xs := firstsOf G k) (Rd.of_own hown)
      have HS := hide hs
      clear hs hown hbl hw
      go_wp2_with fail
      refine HS.out.mono ?_
      rintro e w2 ⟨rfl, b2⟩
      go_wp2_with fail
      go_ret
      exact ⟨rfl, HW.out.trans (b2.mono hwz)⟩
end

section
open Go.RowKit

theorem ofUpto_head {rs : List (Int × List Int)} {s : Int} : ∀ k : Nat, k ≤ rs.length →
    (ofUpto rs s k = [] ∧ ∀ (j : Nat) y, j < k → rs[j]? = some y → y.1 ≠ s) ∨
    (∃ i : Nat, i < k ∧ (ofUpto rs s k)[0]? = some (i : Int) ∧ (∃ x, rs[i]? = some (s, x)) ∧ ∀ (j : Nat) y, j < i → rs[j]? = some y → y.1 ≠ s)
  | 0, _ => .inl ⟨rfl, fun j y hj => absurd hj (by omega)⟩
  | k + 1, hk => by
    obtain ⟨⟨l, x⟩, hx⟩ : ∃ x, rs[k]? = some x := ⟨_, List.getElem?_eq_getElem (by omega)⟩
    rcases ofUpto_head (rs := rs) (s := s) k (by omega) with ⟨he, hno⟩ | ⟨i, hi, h0, hs, hno⟩
    · by_cases hl : l = s
      · subst hl
        refine .inr ⟨k, by omega, ?_, ⟨x, hx⟩, fun j y hj hy => hno j y hj hy⟩
        rw [ofUpto_yes hx, he]; rfl
      · refine .inl ⟨by rw [ofUpto_no hx hl, he], fun j y hj hy => ?_⟩
        by_cases hjk : j = k
        · subst hjk; rw [hx] at hy; injection hy with hy; rw [← hy]; exact hl
        · exact hno j y (by omega) hy
    · refine .inr ⟨i, by omega, ?_, hs, hno⟩
      by_cases hl : l = s
      · subst hl
        have hne : 0 < (ofUpto rs l k).length := (List.getElem?_eq_some_iff.1 h0).1
        rw [ofUpto_yes hx, List.getElem?_append_left hne, h0]
      · rw [ofUpto_no hx hl, h0]

/-- the first rule of a left side, by Of -/
theorem first_of {G : GramD} {k : Nat} : (ofOf G ((G.terms.length : Int) + 1 + k) = [] ∧ firstAt G k = (G.rules.length : Int)) ∨ ((ofOf G ((G.terms.length : Int) + 1 + k))[0]? = some (firstAt G k) ∧ 0 ≤ firstAt G k ∧ firstAt G k < (G.rules.length : Int)) := by
  have hd : firstAt G k = (if firstBy (fun r => decide (r.1 = (G.terms.length : Int) + 1 + k)) G.rules < 0 then (G.rules.length : Int) else firstBy (fun r => decide (r.1 = (G.terms.length : Int) + 1 + k)) G.rules) := rfl
  rcases ofUpto_head (rs := G.rules) (s := (G.terms.length : Int) + 1 + k) G.rules.length (Nat.le_refl _) with ⟨he, hno⟩ | ⟨i, hi, h0, ⟨x, hx⟩, hno⟩
  · left
    refine ⟨he, ?_⟩
    have := firstBy_miss (p := fun r : Int × List Int => decide (r.1 = (G.terms.length : Int) + 1 + k)) (xs := G.rules) (fun j y hy => by
      have := hno j y (List.getElem?_eq_some_iff.1 hy).1 hy
      simpa using this)
    rw [hd, this]; rfl
  · right
    have := firstBy_hit (p := fun r : Int × List Int => decide (r.1 = (G.terms.length : Int) + 1 + k)) (xs := G.rules) hx (by simp) (fun j y hj hy => by
      have := hno j y hj hy
      simpa using this)
    have e : firstAt G k = (i : Int) := by rw [hd, this, if_neg (by omega)]
    rw [e]
    exact ⟨h0, by omega, by omega⟩

def lastAt (G : GramD) (k : Nat) : Int := if k = 0 then -1 else firstAt G (k - 1)
theorem sorted_firsts {G : GramD} {N : Nat} : sortedL (firstsOf G N) = true ↔ ∀ j : Nat, j + 1 < N → ¬ firstAt G (j + 1) < firstAt G j := by
  rw [sortedL_iff, firstsOf_len]
  unfold firstsOf
  constructor
  · intro h j hj
    have := h j hj
    rw [List.getElem?_map, List.getElem?_map, List.getElem?_range (by omega), List.getElem?_range (by omega)] at this
    exact this
  · intro h j hj
    rw [List.getElem?_map, List.getElem?_map, List.getElem?_range (by omega), List.getElem?_range (by omega)]
    exact h j hj
end

section
open Go.RowKit

set_option maxRecDepth 100000 in
set_option maxHeartbeats 2000000 in
theorem ref_ordered {w : World} {F : Nat → Prop} {vt vn vr : Value} {G : GramD} (h : IsGram w F vt vn vr G) (st : Int) :
    Calls Try.prog 37 #[GV vt vn vr st] w (Quiet w (.bool (sortedL (firstsOf G G.nons.length)))) := by
  have B1 : Below w.heap.size w (w.alloc (.cells #[vt, vn, vr, .int .i64 st] 25)) := (Below.refl _ w).alloc (Nat.le_refl _) _
  have k1 : Blk (w.alloc (.cells #[vt, vn, vr, .int .i64 st] 25)) w.heap.size 25 #[vt, vn, vr, .int .i64 st] := Blk.new w _ _
  have hsm := h.small
  have ix : ∀ (wr : World) (s : Int), Below w.heap.size w wr → Calls Try.prog 35 #[GV vt vn vr st, .int .i64 s] wr (OwnPost wr 3 ((ofOf G s).map I64) (ofOf G s).length) := fun wr s hb => ref_of (h.below hb) st s
  obtain ⟨A1, c1, A2, c2, A3, c3, rfl, rfl, rfl, l1, l2, l3, m1, m2, m3⟩ := h.slices
  have hfo : ∀ k : Nat, (ofOf G ((G.terms.length : Int) + 1 + k) = [] ∧ firstAt G k = (G.rules.length : Int)) ∨ ((ofOf G ((G.terms.length : Int) + 1 + k))[0]? = some (firstAt G k) ∧ 0 ≤ firstAt G k ∧ firstAt G k < (G.rules.length : Int)) := fun k => first_of
  have hso : ∀ N, sortedL (firstsOf G N) = true ↔ ∀ j : Nat, j + 1 < N → firstAt G j ≤ firstAt G (j + 1) := fun N => by rw [sorted_firsts]; simp only [Int.not_lt]
  obtain ⟨T, eT⟩ : ∃ n, n = G.terms.length := ⟨_, rfl⟩
  obtain ⟨N, eN⟩ : ∃ n, n = G.nons.length := ⟨_, rfl⟩
  obtain ⟨R, eR⟩ : ∃ n, n = G.rules.length := ⟨_, rfl⟩
  rw [← eT, ← eN, ← eR] at k1 B1 hsm ix
  rw [← eT] at l1 hfo ⊢
  rw [← eN] at l2 ⊢
  rw [← eR] at l3 hfo ⊢
  obtain ⟨s1, s2, s3⟩ := hsm
  have HB := hide B1
  have K1 := hide k1
  have IX := hide ix
  have HFO := hide hfo
  have HSO := hide hso
  clear hfo hso ix k1 B1 h eT eN eR
  go_enter Try.func37, Try.ntmps37
  go_wp2_with fail
  go_loopw [3, 4] (fun o i wr => ∃ k : Nat, k ≤ N ∧ i = .int .i64 k ∧ o = .int .i64 (lastAt G k) ∧ (∀ j : Nat, j + 1 < k → firstAt G j ≤ firstAt G (j + 1)) ∧ Below w.heap.size w wr ∧ Blk wr w.heap.size 25 #[.slice A1 T c1, .slice A2 N c2, .slice A3 R c3, .int .i64 st]) (fun _ i _ => N - (intOf i).toNat)
  case atStart => exact ⟨0, Nat.zero_le _, rfl, rfl, fun j hj => absurd hj (by omega), HB.out, K1.out⟩
  case round =>
    obtain ⟨k, hk, rfl, rfl, hbef, hw, hbl⟩ := hrel
    have q0 : wr.cell? ⟨w.heap.size, 0, none⟩ = some (.slice A1 T c1) := (hbl.cell 0).trans rfl
    have q1 : wr.cell? ⟨w.heap.size, 1, none⟩ = some (.slice A2 N c2) := (hbl.cell 1).trans rfl
    have q2 : wr.cell? ⟨w.heap.size, 2, none⟩ = some (.slice A3 R c3) := (hbl.cell 2).trans rfl
    have q3 : wr.cell? ⟨w.heap.size, 3, none⟩ = some (.int .i64 st) := (hbl.cell 3).trans rfl
    have hwz := hw.size
    have hbz := hbl.lt
    have HBL := hide hbl
    have HW := hide hw
    have HBE := hide hbef
    by_cases hlt : k < N
    · have hi := IX.out wr ((T : Int) + 1 + k) hw
      have hfo := HFO.out k
      obtain ⟨l, hl⟩ : ∃ l, l = ofOf G ((T : Int) + 1 + k) := ⟨_, rfl⟩
      rw [← hl] at hi hfo
      have hla : lastAt G (k + 1) = firstAt G k := by simp [lastAt]
      have hll : ∀ j, k = j + 1 → lastAt G k = firstAt G j := fun j e => by subst e; simp [lastAt]
      have hl0 : k = 0 → lastAt G k = -1 := fun e => by subst e; rfl
      obtain ⟨f, hf⟩ : ∃ f, f = firstAt G k := ⟨_, rfl⟩
      obtain ⟨p, hp⟩ : ∃ p, p = lastAt G k := ⟨_, rfl⟩
      rw [← hf] at hfo hla
      rw [← hp] at hll hl0 ⊢
      have hf0 : 0 ≤ f := by rcases hfo with ⟨_, e⟩ | ⟨_, e, _⟩ <;> omega
      have HI := hide hi
      have HLA := hide hla
      have HLL := hide hll
      have HL0 := hide hl0
      have HFF := hide hf
      clear hl hi hla hll hl0 hf hp hbef hw hbl
      -- what follows the list
      have yes : f < p → sortedL (firstsOf G N) = false := fun hlt' => by
        rw [← Bool.not_eq_true, HSO.out]
        intro hh
        rcases Nat.eq_zero_or_pos k with e | e
        · have := HL0.out e; omega
        · have hj : k = (k - 1) + 1 := by omega
          have a := HLL.out (k - 1) hj
          have b := hh (k - 1) (by omega)
          rw [← hj, ← a, ← HFF.out] at b
          omega
      have nox : ¬ f < p → ∀ j : Nat, j + 1 < k + 1 → firstAt G j ≤ firstAt G (j + 1) := fun hge j hj => by
        by_cases hjk : j + 1 = k
        · have a := HLL.out j hjk.symm
          rw [hjk, ← a, ← HFF.out]; omega
        · exact HBE.out j (by omega)
      have YES := hide yes
      have NOX := hide nox
      clear yes nox
      rcases hfo with ⟨he, hfR⟩ | ⟨h0, _, hfR⟩
      · subst he
        have HFR := hide hfR
        clear hfR
        by_cases hlp : (R : Int) < p
        · go_wp2_with fail
          refine HI.out.mono ?_
          rintro e w2 ⟨A, c, rfl, hown, b2⟩
          have hbl2 := HBL.out.below b2 hbz
          have q2 : w2.cell? ⟨w.heap.size, 2, none⟩ = some (.slice A3 R c3) := (hbl2.cell 2).trans rfl
          clear hown hbl2
          go_wp2_with fail
          go_ret
          exact ⟨ret_bool (YES.out (by rw [HFR.out]; exact hlp)).symm, HW.out.trans (b2.mono hwz)⟩
        · go_wp2_with fail
          refine HI.out.mono ?_
          rintro e w2 ⟨A, c, rfl, hown, b2⟩
          have hbl2 := HBL.out.below b2 hbz
          have q2 : w2.cell? ⟨w.heap.size, 2, none⟩ = some (.slice A3 R c3) := (hbl2.cell 2).trans rfl
          have HBL2 := hide hbl2
          clear hown hbl2
          go_wp2_with fail
          go_roundw
          case rel => exact ⟨k + 1, by omega, by go_num, by rw [HLA.out, HFR.out], NOX.out (by rw [HFR.out]; exact hlp), HW.out.trans (b2.mono hwz), HBL2.out⟩
          case measure => simp [intOf]; omega
      · have hpos : 0 < l.length := (List.getElem?_eq_some_iff.1 h0).1
        have HH0 := hide h0
        clear h0
        by_cases hlp : f < p
        · go_wp2_with fail
          refine HI.out.mono ?_
          rintro e w2 ⟨A, c, rfl, hown, b2⟩
          have hbl2 := HBL.out.below b2 hbz
          have q2 : w2.cell? ⟨w.heap.size, 2, none⟩ = some (.slice A3 R c3) := (hbl2.cell 2).trans rfl
          obtain ⟨-, -, -, hcell⟩ := RdI.at_ (xs := l) (Rd.of_own hown)
          obtain ⟨b, off, rfl, _, hc⟩ := hcell hpos
          have hcx : w2.cell? ⟨b, off, none⟩ = some (.int .i64 f) := by simpa using hc 0 f HH0.out
          clear hown hbl2 hc hcell
          go_wp2_with fail
          go_ret
          exact ⟨ret_bool (YES.out hlp).symm, HW.out.trans (b2.mono hwz)⟩
        · go_wp2_with fail
          refine HI.out.mono ?_
          rintro e w2 ⟨A, c, rfl, hown, b2⟩
          have hbl2 := HBL.out.below b2 hbz
          have q2 : w2.cell? ⟨w.heap.size, 2, none⟩ = some (.slice A3 R c3) := (hbl2.cell 2).trans rfl
          obtain ⟨-, -, -, hcell⟩ := RdI.at_ (xs := l) (Rd.of_own hown)
          obtain ⟨b, off, rfl, _, hc⟩ := hcell hpos
          have hcx : w2.cell? ⟨b, off, none⟩ = some (.int .i64 f) := by simpa using hc 0 f HH0.out
          have HBL2 := hide hbl2
          clear hown hbl2 hc hcell
          go_wp2_with fail
          go_roundw
          case rel => exact ⟨k + 1, by omega, by go_num, by rw [HLA.out], NOX.out hlp, HW.out.trans (b2.mono hwz), HBL2.out⟩
          case measure => simp [intOf]; omega
    · have hkn : k = N := by omega
      subst hkn
      have hs : sortedL (firstsOf G k) = true := (HSO.out k).2 HBE.out
      have HS := hide hs
      clear hs hw hbl hbef
      go_wp2_with fail
      go_ret
      exact ⟨ret_bool HS.out.symm, HW.out⟩
end
end Go.Proofs.Ytejjaabkbkkjlaa

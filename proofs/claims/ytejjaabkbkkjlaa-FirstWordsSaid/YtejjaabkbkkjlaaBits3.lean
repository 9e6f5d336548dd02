/- Contracts of package bits, part 3: Or, Meet. -/
import Derived.Test.YtejjaabkbkkjlaaBits2
namespace Go.Proofs.Ytejjaabkbkkjlaa
set_option linter.unusedVariables false
open Go.RowKit

theorem getD_get {ws : List (BitVec 64)} {i : Nat} {x : BitVec 64} (h : ws[i]? = some x) : ws.getD i 0#64 = x := by simp [List.getD, h]

/-- the first k words joined -/
def Joined (ws vs us : List (BitVec 64)) (k : Nat) : Prop := us.length = ws.length ∧ ∀ i, us.getD i 0#64 = if i < k then ws.getD i 0#64 ||| vs.getD i 0#64 else ws.getD i 0#64
theorem Joined.zero (ws vs : List (BitVec 64)) : Joined ws vs ws 0 := ⟨rfl, fun i => by simp⟩
theorem or_of_andNot {x y : BitVec 64} (h : x &&& ~~~y = 0#64) : y ||| x = y := by
  apply BitVec.eq_of_getLsbD_eq
  intro i hi
  have := congrArg (fun z => z.getLsbD i) h
  simp only [BitVec.getLsbD_and, BitVec.getLsbD_not, hi, decide_true, Bool.true_and, BitVec.getLsbD_zero] at this
  rw [BitVec.getLsbD_or]
  cases hy : y.getLsbD i
  · rw [hy] at this; simpa using this
  · simp
theorem Joined.stay {ws vs us : List (BitVec 64)} {k : Nat} (h : Joined ws vs us k) (h0 : vs.getD k 0#64 &&& ~~~ws.getD k 0#64 = 0#64) : Joined ws vs us (k + 1) := by
  refine ⟨h.1, fun i => ?_⟩
  rw [h.2]
  by_cases e : i = k
  · subst e; rw [if_neg (by omega), if_pos (by omega), or_of_andNot h0]
  · by_cases hi : i < k
    · rw [if_pos hi, if_pos (by omega)]
    · rw [if_neg hi, if_neg (by omega)]
theorem Joined.step {ws vs us : List (BitVec 64)} {k : Nat} (h : Joined ws vs us k) (hk : k < ws.length) : Joined ws vs (us.set k (ws.getD k 0#64 ||| vs.getD k 0#64)) (k + 1) := by
  refine ⟨by simpa using h.1, fun i => ?_⟩
  by_cases e : i = k
  · subst e; rw [if_pos (by omega)]; simp [List.getD, h.1, hk]
  · have : (us.set k (ws.getD k 0#64 ||| vs.getD k 0#64)).getD i 0#64 = us.getD i 0#64 := by simp [List.getD, List.getElem?_set_ne (Ne.symm e)]
    rw [this, h.2]
    by_cases hi : i < k
    · rw [if_pos hi, if_pos (by omega)]
    · rw [if_neg hi, if_neg (by omega)]
theorem Joined.bits {ws vs us : List (BitVec 64)} {k : Nat} (h : Joined ws vs us k) (j : Nat) : bitOf us j = (bitOf ws j || (decide (j / 64 < k) && bitOf vs j)) := by
  unfold bitOf
  rw [h.2]
  by_cases hj : j / 64 < k
  · rw [if_pos hj, BitVec.getLsbD_or]; simp [hj]
  · rw [if_neg hj]; simp [hj]

/-- does word i bring something new? -/
def brings (ws vs : List (BitVec 64)) (i : Nat) : Bool := decide (vs.getD i 0#64 &&& ~~~ws.getD i 0#64 ≠ 0#64)
theorem brings_iff (ws vs : List (BitVec 64)) (i : Nat) : brings ws vs i = true ↔ ∃ j, j / 64 = i ∧ bitOf vs j = true ∧ bitOf ws j = false := by
  unfold brings
  rw [decide_eq_true_eq]
  constructor
  · intro h
    have : ∃ k, k < 64 ∧ (vs.getD i 0#64 &&& ~~~ws.getD i 0#64).getLsbD k = true := by
      apply Classical.byContradiction
      intro hn
      apply h
      apply BitVec.eq_of_getLsbD_eq
      intro k hk
      cases hb : (vs.getD i 0#64 &&& ~~~ws.getD i 0#64).getLsbD k
      · simp
      · exact absurd ⟨k, hk, hb⟩ hn
    obtain ⟨k, hk, hb⟩ := this
    rw [BitVec.getLsbD_and, BitVec.getLsbD_not, decide_eq_true hk, Bool.true_and, Bool.and_eq_true, Bool.not_eq_true'] at hb
    refine ⟨i * 64 + k, by omega, ?_, ?_⟩
    · unfold bitOf; rw [show (i * 64 + k) / 64 = i by omega, show (i * 64 + k) % 64 = k by omega]; exact hb.1
    · unfold bitOf; rw [show (i * 64 + k) / 64 = i by omega, show (i * 64 + k) % 64 = k by omega]; exact hb.2
  · rintro ⟨j, rfl, hv, hw⟩ h0
    have := congrArg (fun z => z.getLsbD (j % 64)) h0
    unfold bitOf at hv hw
    have hlt : j % 64 < 64 := Nat.mod_lt _ (by decide)
    simp only [BitVec.getLsbD_and, BitVec.getLsbD_not, hv, hw, hlt] at this
    simp at this

/-- Or's answer, and what is there then -/
def orAns (k : Nat) (f g : Nat → Bool) : Bool := (List.range k).any fun j => g j && !f j
def orSet (k : Nat) (f g : Nat → Bool) (j : Nat) : Bool := f j || (g j && decide (j < k))

theorem any_brings {ws vs : List (BitVec 64)} {f g : Nat → Bool} {k : Nat} (hf : ∀ j, bitOf ws j = f j) (hg : ∀ j, bitOf vs j = (g j && decide (j < k))) (L : Nat) (hL : L = (k + 63) / 64) : (List.range L).any (brings ws vs) = orAns k f g := by
  rw [Bool.eq_iff_iff, orAns, List.any_eq_true, List.any_eq_true]
  constructor
  · rintro ⟨i, hi, hb⟩
    obtain ⟨j, rfl, hv, hw⟩ := (brings_iff ws vs i).1 hb
    rw [hg] at hv
    rw [hf] at hw
    simp at hv
    exact ⟨j, List.mem_range.2 hv.2, by simp [hv.1, hw]⟩
  · rintro ⟨j, hj, hb⟩
    have hj := List.mem_range.1 hj
    simp at hb
    exact ⟨j / 64, List.mem_range.2 (by omega), (brings_iff ws vs _).2 ⟨j, rfl, by rw [hg]; simp [hb.1, hj], by rw [hf]; exact hb.2⟩⟩

def OrPost (w : World) (b : Nat) (S : Nat → Prop) (n : Nat) (f : Nat → Bool) (r : Bool) (e : Ending) (w' : World) : Prop := e = .returned (.bool r) ∧ IsSet w' b S n f ∧ Touch S w w'

theorem or_nil_right {w : World} {b n : Nat} {f : Nat → Bool} {S : Nat → Prop} (h : IsSet w b S n f) :
    Calls Try.prog 147 #[.pointer (some ⟨b, 0, none⟩), .pointer none] w fun e w' => e = .returned (.bool false) ∧ w = w' := by
  go_enter Try.func147, Try.ntmps147
  go_wp2_with (first
    | (go_at_call 163; refine (set_room h).mono ?_; rintro e w' ⟨rfl, rfl⟩)
    | (go_at_call 164; refine (words_nil _ _).mono ?_; rintro e w' ⟨rfl, rfl⟩))
  go_loop [5, 13] (fun ch i => ch = .bool false ∧ i = .int .i64 0) (fun _ _ => 0)
  case atStart => exact ⟨rfl, rfl⟩
  case round =>
    obtain ⟨rfl, rfl⟩ := hrel
    go_wp2
    go_ret
    exact ⟨rfl, rfl⟩

set_option maxRecDepth 100000 in
set_option maxHeartbeats 1000000 in
theorem set_or {w : World} {b n b2 n2 : Nat} {f g : Nat → Bool} {S S2 : Nat → Prop} (h : IsSet w b S n f) (h2 : IsSet w b2 S2 n2 g) :
    Calls Try.prog 147 #[.pointer (some ⟨b, 0, none⟩), .pointer (some ⟨b2, 0, none⟩)] w (OrPost w b S n (orSet (min n n2) f g) (orAns (min n n2) f g)) := by
  have hn := h.room
  have H := hide h
  have H2 := hide h2
  clear h h2
  go_enter Try.func147, Try.ntmps147
  go_wp2_with fail
  refine (set_room H.out).mono ?_
  rintro e w' ⟨rfl, rfl⟩
  go_wp2_with fail
  refine (set_words H2.out n hn).mono ?_
  rintro e w1 ⟨A, c, vs, rfl, hown, hbel, hvl, hvb⟩
  obtain ⟨⟨r, ws, hi, hr, hf⟩, hb, hlt⟩ := H.out
  obtain ⟨L, hL⟩ : ∃ L, L = vs.length := ⟨_, rfl⟩
  have hLk : L = (min n n2 + 63) / 64 := by omega
  have hlen := hi.len
  have hLw : L ≤ ws.length := by omega
  have h1 : SetAt w1 b r n ws := hi.touch (Touch.of_size hbel (fun _ => False)) (fun hf => hf) (fun hf => hf)
  have hne : b ≠ r := by obtain ⟨c, hbk, _⟩ := hi.blk; exact hbk.ne hi.words (by decide)
  have hrlt := hlt r hr
  rw [← hL] at hown ⊢
  have HV := hide hvb
  have HL := hide hL
  have HK := hide hLk
  have HF := hide hf
  have hrd := Rd.of_own hown
  have hbase : ∀ k, (Value.slice A L c).ownBlock = some k → w.heap.size ≤ k := fun k hk => (hown.lt k hk).1
  obtain ⟨A', n', c', hv', hnc, hcm, _, hcell⟩ := hrd
  injection hv' with e1 e2 e3
  subst e1 e2 e3
  unfold maxLen at hcm
  have hn0 := hi.high
  have HN := hide hn0
  clear hvb hL hLk hf hvl hi hn0 hown
  go_wp2_with fail
  go_loopw [5, 13] (fun ch i wr => ∃ (k : Nat) (us : List (BitVec 64)), k ≤ L ∧ i = .int .i64 k ∧ ch = .bool ((List.range k).any (brings ws vs)) ∧ SetAt wr b r n us ∧ Joined ws vs us k ∧ Touch (fun j => j = r) w1 wr) (fun _ i _ => L - (intOf i).toNat)
  case atStart => exact ⟨0, ws, Nat.zero_le _, rfl, rfl, h1, Joined.zero _ _, Touch.refl _ _⟩
  case round =>
    clear h1
    obtain ⟨k, us, hk, rfl, rfl, hs, hj, ht⟩ := hrel
    have HJ := hide hj
    have HS := hide hs
    obtain ⟨c', hbk, hlc, hcm'⟩ := hs.blk
    have c1 := hbk.cell 1
    simp at c1
    unfold maxLen at hcm'
    have hul := hj.1
    by_cases hkl : k < L
    · obtain ⟨b', off, rfl, hob, hcl⟩ := hcell (by omega)
      have hob' := hbase b' hob
      obtain ⟨x, hx⟩ : ∃ x, vs[k]? = some x := ⟨_, List.getElem?_eq_getElem (by have := HL.out; omega)⟩
      obtain ⟨y, hy⟩ : ∃ y, us[k]? = some y := ⟨_, List.getElem?_eq_getElem (by omega)⟩
      have hyw : ws.getD k 0#64 = y := by
        have := hj.2 k
        rw [if_neg (by omega), getD_get hy] at this
        exact this.symm
      have hcx := ht.cell (hcl k (U64 x) (by simp [hx])) (by simp; omega)
      have hcy : wr.cell? ⟨r, k, none⟩ = some (U64 y) := by rw [hs.words.cell]; simp [hy]
      have hfr := hs.words.frozen k
      have hand := u64_andNot_bv x y
      have hor := u64_or_bv y x
      have hkn : (k : Int) < us.length := by omega
      have hkL : (k : Int) < L := by omega
      have hbr : brings ws vs k = decide (x &&& ~~~y ≠ 0#64) := by unfold brings; rw [hyw, getD_get hx]
      have hrange : (List.range (k + 1)).any (brings ws vs) = ((List.range k).any (brings ws vs) || brings ws vs k) := by rw [List.range_succ, List.any_append]; simp
      have HX := hide hx
      have HY := hide hy
      have HYW := hide hyw
      have HBR := hide hbr
      have HRG := hide hrange
      have HT := hide ht
      have HUL := hide hul
      generalize hz : x &&& ~~~y = z at *
      generalize ho : y ||| x = o at *
      have HO := hide ho
      have HZ := hide hz
      clear hx hy hyw hbr hrange ht hj hs hbk hcl hcell hul ho hz
      by_cases hz0 : z = 0#64
      · have hzt : ((z.toNat : Int) == 0) = true := by rw [zero_iff]; exact decide_eq_true hz0
        have hzn : z.toNat = 0 := by rw [hz0]; rfl
        have HZ0 := hide hz0
        clear hz0
        go_wp2
        go_roundw
        case rel =>
          refine ⟨k + 1, us, by omega, by go_num, ?_, HS.out, HJ.out.stay ?_, HT.out⟩
          · rw [HRG.out, HBR.out, HZ0.out]; simp
          · rw [HYW.out, getD_get HX.out, HZ.out, HZ0.out]
        case measure => simp [intOf]; omega
      · have hzt : ((z.toNat : Int) == 0) = false := by rw [zero_iff]; exact decide_eq_false hz0
        have hzn : ¬ z.toNat = 0 := fun e => hz0 (BitVec.eq_of_toNat_eq (by simpa using e))
        have HZ0 := hide hz0
        clear hz0
        go_wp2
        go_roundw
        case rel =>
          have hj' := HJ.out.step (k := k) (by have := HUL.out; omega)
          rw [HYW.out, getD_get HX.out, HO.out] at hj'
          have hs' := HS.out.stored' (i := k) o hne (fun j hjn => by
            rw [hj'.bits, HV.out]
            have := HN.out j hjn
            rw [this]
            have : ¬ j < min n n2 := by omega
            simp [this])
          refine ⟨k + 1, us.set k o, by omega, by go_num, ?_, hs', hj', HT.out.setCell (fun _ => rfl) _⟩
          rw [HRG.out, HBR.out]
          simp [HZ0.out]
        case measure => simp [intOf]; omega
    · have hkL : ¬ (k : Int) < L := by omega
      have hkE : k = L := by omega
      have HKE := hide hkE
      have HT := hide ht
      clear hkE hj hs hbk hcell ht
      go_wp2
      go_ret
      have hT : Touch S w wr := (Touch.of_size hbel S).trans HT.out (fun j hj e => by subst e; exact hr)
      refine ⟨ret_bool ?_, ⟨⟨r, us, HS.out, hr, fun j => ?_⟩, hb, fun j hj => Nat.lt_of_lt_of_le (hlt j hj) hT.size⟩, hT⟩
      · rw [HKE.out]; exact any_brings HF.out HV.out L HK.out
      · rw [HJ.out.bits, HF.out, HV.out]
        unfold orSet
        by_cases hj : j < min n n2
        · have : j / 64 < k := by have := HK.out; have := HKE.out; omega
          simp [this, hj]
        · simp [hj]

/-! ### Meet -/
def meets (ws vs : List (BitVec 64)) (i : Nat) : Bool := decide (vs.getD i 0#64 &&& ws.getD i 0#64 ≠ 0#64)
theorem meets_iff (ws vs : List (BitVec 64)) (i : Nat) : meets ws vs i = true ↔ ∃ j, j / 64 = i ∧ bitOf vs j = true ∧ bitOf ws j = true := by
  unfold meets
  rw [decide_eq_true_eq]
  constructor
  · intro h
    have : ∃ k, k < 64 ∧ (vs.getD i 0#64 &&& ws.getD i 0#64).getLsbD k = true := by
      apply Classical.byContradiction
      intro hn
      apply h
      apply BitVec.eq_of_getLsbD_eq
      intro k hk
      cases hb : (vs.getD i 0#64 &&& ws.getD i 0#64).getLsbD k
      · simp
      · exact absurd ⟨k, hk, hb⟩ hn
    obtain ⟨k, hk, hb⟩ := this
    rw [BitVec.getLsbD_and, Bool.and_eq_true] at hb
    refine ⟨i * 64 + k, by omega, ?_, ?_⟩
    · unfold bitOf; rw [show (i * 64 + k) / 64 = i by omega, show (i * 64 + k) % 64 = k by omega]; exact hb.1
    · unfold bitOf; rw [show (i * 64 + k) / 64 = i by omega, show (i * 64 + k) % 64 = k by omega]; exact hb.2
  · rintro ⟨j, rfl, hv, hw⟩ h0
    have := congrArg (fun z => z.getLsbD (j % 64)) h0
    unfold bitOf at hv hw
    simp only [BitVec.getLsbD_and, hv, hw] at this
    simp at this

def meetAns (k : Nat) (f g : Nat → Bool) : Bool := (List.range k).any fun j => g j && f j
theorem any_meets {ws vs : List (BitVec 64)} {f g : Nat → Bool} {k : Nat} (hf : ∀ j, bitOf ws j = f j) (hg : ∀ j, bitOf vs j = (g j && decide (j < k))) (L : Nat) (hL : L = (k + 63) / 64) : (List.range L).any (meets ws vs) = meetAns k f g := by
  rw [Bool.eq_iff_iff, meetAns, List.any_eq_true, List.any_eq_true]
  constructor
  · rintro ⟨i, hi, hb⟩
    obtain ⟨j, rfl, hv, hw⟩ := (meets_iff ws vs i).1 hb
    rw [hg] at hv
    rw [hf] at hw
    simp at hv
    exact ⟨j, List.mem_range.2 hv.2, by simp [hv.1, hw]⟩
  · rintro ⟨j, hj, hb⟩
    have hj := List.mem_range.1 hj
    simp at hb
    exact ⟨j / 64, List.mem_range.2 (by omega), (meets_iff ws vs _).2 ⟨j, rfl, by rw [hg]; simp [hb.1, hj], by rw [hf]; exact hb.2⟩⟩

end Go.Proofs.Ytejjaabkbkkjlaa

/- The law FirstRules: within, the plain law. -/
import Derived.Test.YtejjaabkbkkjlaaFirstAwake
import Derived.Test.YtejjaabkbkkjlaaReads
namespace Go.Proofs.Ytejjaabkbkkjlaa
set_option linter.unusedVariables false
open Go.RowKit
attribute [local irreducible] wpStill wpOne wpPh

def within11 (a b : List Int) : Bool := a.all fun x => decide (x ∈ b)
theorem within11_no {a b : List Int} {k : Nat} {x : Int} (h : a[k]? = some x) (hn : x ∉ b) : within11 a b = false := by
  unfold within11
  rw [List.all_eq_false]
  exact ⟨x, List.mem_of_getElem? h, by simpa using hn⟩
theorem within11_yes {a b : List Int} (h : ∀ (j : Nat) (x : Int), a[j]? = some x → x ∈ b) : within11 a b = true := by
  unfold within11
  rw [List.all_eq_true]
  intro x hx
  obtain ⟨j, hj, e⟩ := List.getElem_of_mem hx
  exact decide_eq_true (h j x (by rw [List.getElem?_eq_getElem hj, e]))

set_option maxRecDepth 100000 in
set_option maxHeartbeats 2000000 in
theorem law11_within {w : World} {F G : Nat → Prop} {v u : Value} {xs ys : List Int} (h : RdI w F v xs) (g : RdI w G u ys) :
    Calls Try.prog 72 #[v, u] w (Quiet w (.bool (within11 xs ys))) := by
  obtain ⟨A, n, c, rfl, -⟩ := id h
  obtain ⟨B, m, d, rfl, -⟩ := id g
  obtain ⟨hn, hnc, hcm, hcell⟩ := h.at_
  obtain ⟨hm, hmd, hdm, hcell'⟩ := g.at_
  unfold maxLen at hcm hdm
  clear h g
  have Xhn := hide hn
  have Xhm := hide hm
  clear hn hm
  go_enter Try.func72, Try.ntmps72
  go_wp2_with fail
  go_loopw [5] (fun i wr => ∃ k q : Nat, k ≤ n ∧ i = .int .i64 k ∧ (∀ (j : Nat) (x : Int), j < k → xs[j]? = some x → x ∈ ys) ∧ wr = w.drewN q) (fun i _ => n - (intOf i).toNat)
  case atStart => exact ⟨0, 0, Nat.zero_le _, rfl, fun j x hj => absurd hj (by omega), rfl⟩
  case round =>
    obtain ⟨k, q, hk, rfl, hb, rfl⟩ := hrel
    by_cases hlt : k < n
    · have hlt' : (k : Int) < (n : Int) := by omega
      obtain ⟨b, off, rfl, -, hc1⟩ := hcell (by omega)
      obtain ⟨x, hx⟩ : ∃ x, xs[k]? = some x := ⟨_, List.getElem?_eq_getElem (by rw [← Xhn.out]; exact hlt)⟩
      have hcx := hc1 k x hx
      have Xhb := hide hb
      have Xhx := hide hx
      clear hb hx
      clear hc1 hcell
      go_wp2_with fail
      go_loopw [6, 7] (fun th i wr => ∃ (p q' : Nat) (t : Bool), p ≤ m ∧ i = .int .i64 p ∧ th = .bool t ∧ (t = true → x ∈ ys) ∧ (t = false → ∀ (j : Nat) (y : Int), j < p → ys[j]? = some y → y ≠ x) ∧ wr = w.drewN q') (fun _ i _ => m - (intOf i).toNat)
      case atStart => exact ⟨0, q, false, Nat.zero_le _, rfl, rfl, fun h => (by cases h), fun _ j y hj => absurd hj (by omega), rfl⟩
      case round =>
        obtain ⟨p, q', t, hp, rfl, rfl, ht1, ht2, rfl⟩ := hrel
        by_cases hpm : p < m
        · have hpm' : (p : Int) < (m : Int) := by omega
          obtain ⟨b', off', rfl, -, hc2⟩ := hcell' (by omega)
          obtain ⟨y, hy⟩ : ∃ y, ys[p]? = some y := ⟨_, List.getElem?_eq_getElem (by rw [← Xhm.out]; exact hpm)⟩
          have hcy := hc2 p y hy
          clear hc2 hcell'
          cases t with
          | true =>
            have hin := ht1 rfl
            have Xhy := hide hy
            have Xhin := hide hin
            have Xht1 := hide ht1
            have Xht2 := hide ht2
            clear hy hin ht1 ht2
            go_wp2_with fail
            refine region_reads (by kernel_rfl) (by kernel_rfl) ?_
            repeat still_step
            refine wpStill_nil ?_
            go_wp2_with fail
            go_roundw
            case rel => exact ⟨p + 1, q' + 1, true, by omega, by go_num, rfl, fun _ => Xhin.out, fun h => (by cases h), rfl⟩
            case measure => simp [intOf]; omega
          | false =>
            have hno := ht2 rfl
            by_cases he : x = y
            · have heq : (x == y) = true := by simpa using he
              have hin : x ∈ ys := by rw [he]; exact List.mem_of_getElem? hy
              have Xhy := hide hy
              have Xhno := hide hno
              have Xhe := hide he
              have Xht1 := hide ht1
              have Xht2 := hide ht2
              have Xhin := hide hin
              clear hy hno he ht1 ht2 hin
              go_wp2_with fail
              refine region_reads (by kernel_rfl) (by kernel_rfl) ?_
              repeat still_step
              refine wpStill_nil ?_
              go_wp2_with fail
              go_roundw
              case rel => exact ⟨p + 1, q' + 1, true, by omega, by go_num, rfl, fun _ => Xhin.out, fun h => (by cases h), rfl⟩
              case measure => simp [intOf]; omega
            · have heq : (x == y) = false := by simpa using he
              have hno2 : ∀ (j : Nat) (z : Int), j < p + 1 → ys[j]? = some z → z ≠ x := fun j z hj hz => by
                by_cases e : j = p
                · subst e; rw [hy] at hz; injection hz with hz; rw [← hz]; exact fun h => he h.symm
                · exact hno j z (by omega) hz
              have Xhy := hide hy
              have Xhno := hide hno
              have Xhe := hide he
              have Xht1 := hide ht1
              have Xht2 := hide ht2
              have Xhno2 := hide hno2
              clear hy hno he ht1 ht2 hno2
              go_wp2_with fail
              refine region_reads (by kernel_rfl) (by kernel_rfl) ?_
              repeat still_step
              refine wpStill_nil ?_
              go_wp2_with fail
              go_roundw
              case rel => exact ⟨p + 1, q' + 1, false, by omega, by go_num, rfl, fun h => (by cases h), fun _ => Xhno2.out, rfl⟩
              case measure => simp [intOf]; omega
        · have hpe : p = m := by omega
          have hpm' : ¬ (p : Int) < (m : Int) := by omega
          cases t with
          | true =>
            have hb2 : ∀ (j : Nat) (z : Int), j < k + 1 → xs[j]? = some z → z ∈ ys := fun j z hj hz => by
              by_cases e : j = k
              · subst e; rw [Xhx.out] at hz; injection hz with hz; rw [← hz]; exact ht1 rfl
              · exact Xhb.out j z (by omega) hz
            have Xht1 := hide ht1
            have Xht2 := hide ht2
            have Xhb2 := hide hb2
            clear ht1 ht2 hb2
            clear hcell'
            go_wp2_with fail
            go_roundw
            case rel => exact ⟨k + 1, q', by omega, by go_num, Xhb2.out, rfl⟩
            case measure => simp [intOf]; omega
          | false =>
            have fin := within11_no (b := ys) Xhx.out fun hin => by
              obtain ⟨j, hj, e⟩ := List.getElem_of_mem hin
              exact ht2 rfl j x (by have := Xhm.out; omega) (by rw [List.getElem?_eq_getElem hj, e]) rfl
            have Xht1 := hide ht1
            have Xht2 := hide ht2
            have Xfin := hide fin
            clear ht1 ht2 fin
            clear hcell'
            go_wp2_with fail
            go_ret
            exact ⟨ret_bool Xfin.out.symm, below_drewN (Below.refl _ w) q'⟩
    · have hlt' : ¬ (k : Int) < (n : Int) := by omega
      have fin := within11_yes fun j x hx => hb j x (by have := (List.getElem?_eq_some_iff.1 hx).1; have := Xhn.out; omega) hx
      have Xhb := hide hb
      have Xfin := hide fin
      clear hb fin
      clear hcell hcell'
      go_wp2_with fail
      go_ret
      exact ⟨ret_bool Xfin.out.symm, below_drewN (Below.refl _ w) q⟩


theorem within11_iff {a b : List Int} : within11 a b = true ↔ ∀ x ∈ a, x ∈ b := by
  unfold within11
  rw [List.all_eq_true]
  exact ⟨fun h x hx => of_decide_eq_true (h x hx), fun h x hx => decide_eq_true (h x hx)⟩
theorem mem_famL {n M : Nat} {F : Nat → Nat → Bool} {x y : Int} : y ∈ famL n M F x ↔ (0 ≤ x ∧ x < n) ∧ hasI M (F x.toNat) y = true := by
  unfold famL
  split
  · rename_i h; rw [mem_below]; exact ⟨fun hh => ⟨h, hh⟩, fun hh => hh.2⟩
  · rename_i h; exact ⟨fun hh => (by cases hh), fun hh => absurd hh.1 h⟩
theorem mem_folL {T p n : Nat} {F : Nat → Nat → Bool} {x y : Int} : y ∈ folL T p n F x ↔ nonB T p x = true ∧ hasI (T + 1) (F x.toNat) y = true := by
  unfold folL
  split
  · rename_i h; rw [mem_below]; exact ⟨fun hh => ⟨h, hh⟩, fun hh => hh.2⟩
  · rename_i h; exact ⟨fun hh => (by cases hh), fun hh => absurd hh.1 h⟩
theorem mem_lineL {M : Nat} {e : Int → Bool} {b : Int → Nat → Bool} {l : List Int} {y : Int} : y ∈ lineL M e b l ↔ hasI M (lineB e b l) y = true := by
  unfold lineL; exact mem_below
theorem hasI_iff {n : Nat} {f : Nat → Bool} {y : Int} : hasI n f y = true ↔ (0 ≤ y ∧ y < n) ∧ f y.toNat = true := by
  unfold hasI; simp [and_assoc]
section
variable {G : GramD} {st : Int} (hk : Kn G st)
noncomputable def lineG (G : GramD) (l : List Int) : List Int := lineL (G.terms.length + 1) (hasI (topN G) (empB G)) (famI (topN G) (begB G)) l
noncomputable def firstG (G : GramD) (x : Int) : List Int := famL (topN G) (G.terms.length + 1) (begB G) x
noncomputable def followG (G : GramD) (st x : Int) : List Int := folL G.terms.length (topOf G) (topN G) (behB G st) x
theorem beg_in {r : Int × List Int} {t : Nat} (hr : r ∈ G.rules) (h : BegLG G r.2 t) : BegG G r.1 t := by
  obtain ⟨pre, x, post, e1, e2, e3⟩ := h
  exact Beg.step r x t pre post hr e1 e2 e3
include hk
theorem rules_first {r : Int × List Int} (hr : r ∈ G.rules) : within11 (lineG G r.2) (firstG G r.1) = true := by
  rw [within11_iff]
  intro y hy
  unfold lineG at hy
  rw [mem_lineL, hasI_iff] at hy
  obtain ⟨h0, h1⟩ := hy
  unfold firstG
  rw [mem_famL, hasI_iff]
  have hl := hk.left hr
  have hb := (fam_beg hk).2 (beg_in hr ((line_beg hk).1 h1))
  exact ⟨hl, h0, (famI_in hb).2.2⟩
theorem rules_empty {r : Int × List Int} (hr : r ∈ G.rules) (h : r.2.all (hasI (topN G) (empB G)) = true) : hasI (topN G) (empB G) r.1 = true :=
  (has_emp hk).2 (Emp.mk r hr ((all_emp hk).1 h))
theorem rules_next {r : Int × List Int} (hr : r ∈ G.rules) {k : Nat} {x : Int} (hx : r.2[k]? = some x) (hn : isNon G x = true) : within11 (lineG G (r.2.drop (k + 1))) (followG G st x) = true := by
  rw [within11_iff]
  intro y hy
  unfold lineG at hy
  rw [mem_lineL, hasI_iff] at hy
  obtain ⟨h0, h1⟩ := hy
  unfold followG
  rw [mem_folL, hasI_iff]
  have hxr := (hk.k r hr).2 x (List.mem_of_getElem? hx)
  have hb : BehG G st x y.toNat := Beh.next r x y.toNat _ _ hr (at_split hx) (isNon_iff'.1 hn) ((line_beg hk).1 h1)
  exact ⟨hn, h0, (famI_in ((fam_beh (by omega) (by unfold topN; omega)).2 hb)).2.2⟩
theorem rules_last {r : Int × List Int} (hr : r ∈ G.rules) {k : Nat} {x : Int} (hx : r.2[k]? = some x) (hn : isNon G x = true) (hall : (r.2.drop (k + 1)).all (hasI (topN G) (empB G)) = true) : within11 (followG G st r.1) (followG G st x) = true := by
  rw [within11_iff]
  intro y hy
  unfold followG at hy
  rw [mem_folL, hasI_iff] at hy
  obtain ⟨hl, h0, h1⟩ := hy
  unfold followG
  rw [mem_folL, hasI_iff]
  have hxr := (hk.k r hr).2 x (List.mem_of_getElem? hx)
  have hlr := hk.left hr
  have hb : BehG G st x y.toNat := Beh.last r x y.toNat _ _ hr (at_split hx) (isNon_iff'.1 hn) ((all_emp hk).1 hall) ((fam_beh hlr.1 hlr.2).1 (famI_mk hlr.1 hlr.2 h1))
  exact ⟨hn, h0, (famI_in ((fam_beh (by omega) (by unfold topN; omega)).2 hb)).2.2⟩
theorem rules_start : within11 [0] (followG G st st) = true := by
  rw [within11_iff]
  intro y hy
  obtain rfl : y = 0 := by simpa using hy
  unfold followG
  rw [mem_folL, hasI_iff]
  have hs := hk.st
  have hs' := hs
  rw [isNon_iff] at hs'
  have hb : BehG G st st 0 := Beh.start
  exact ⟨hs, ⟨by omega, by omega⟩, (famI_in ((fam_beh (by omega) (by unfold topN; omega)).2 hb)).2.2⟩
end
end Go.Proofs.Ytejjaabkbkkjlaa

/- Grammars in memory: the plainest contracts. -/
import Derived.Test.YtlpokomfljmogaaProg
import Derived.Test.YtlpokomfljmogaaOpenZ
import Derived.Shelf.Abstract
namespace Go.Proofs.Ytlpokomfljmogaa
set_option linter.unusedVariables false

section
open Go.RowKit

/-- a grammar -/
structure GramD where
  terms : List ByteArray
  nons : List ByteArray
  rules : List (Int × List Int)
  start : Int

abbrev RdS (w : World) (F : Nat → Prop) (v : Value) (xs : List ByteArray) : Prop := Rd w F v 1 (xs.map Value.string)
abbrev RdI (w : World) (F : Nat → Prop) (v : Value) (xs : List Int) : Prop := Rd w F v 1 (xs.map (Value.int .i64))

/-- a rule's two cells -/
def ERule (w : World) (F : Nat → Prop) (cs : List Value) (r : Int × List Int) : Prop := ∃ v, cs = [.int .i64 r.1, v] ∧ RdI w F v r.2
theorem ERule.below {w w' : World} {F : Nat → Prop} {B : Nat} {cs : List Value} {r : Int × List Int} (h : ERule w F cs r) (hb : Below B w w') (hF : ∀ b, F b → b < B) : ERule w' F cs r := by
  obtain ⟨v, e, hv⟩ := h
  exact ⟨v, e, hv.below hb hF⟩

/-- the value V is the grammar G -/
structure IsGram (w : World) (F : Nat → Prop) (vt vn vr : Value) (G : GramD) : Prop where
  terms : RdS w F vt G.terms
  nons : RdS w F vn G.nons
  rules : RdL w F 2 (ERule w F) vr G.rules
  lt : ∀ b, F b → b < w.heap.size
  /-- nothing in it is longer than the form's reach lets it be -/
  small : G.terms.length ≤ 8796093022207 ∧ G.nons.length ≤ 8796093022207 ∧ G.rules.length ≤ 4398046511103
  /-- texts and numbers are Go's -/
  sizes : (∀ s ∈ G.terms, s.size ≤ maxLen) ∧ (∀ s ∈ G.nons, s.size ≤ maxLen)
  reach : (∀ s ∈ G.terms, s.size ≤ 140737488351232) ∧ (∀ s ∈ G.nons, s.size ≤ 140737488351232)
  wfs : ∀ r ∈ G.rules, (-9223372036854775808 ≤ r.1 ∧ r.1 ≤ 9223372036854775807) ∧ r.2.length ≤ 17592186044416 ∧ ∀ x ∈ r.2, -9223372036854775808 ≤ x ∧ x ≤ 9223372036854775807

theorem IsGram.below {w w' : World} {F : Nat → Prop} {vt vn vr : Value} {G : GramD} (h : IsGram w F vt vn vr G) (hb : Below w.heap.size w w') : IsGram w' F vt vn vr G :=
  ⟨h.terms.below hb h.lt, h.nons.below hb h.lt, h.rules.below hb h.lt fun cs x _ e => e.below hb h.lt, fun b hF => Nat.lt_of_lt_of_le (h.lt b hF) hb.size, h.small, h.sizes, h.reach, h.wfs⟩

abbrev GV (vt vn vr : Value) (st : Int) : Value := .agg #[vt, vn, vr, .int .i64 st]

/-- the values of a grammar's slices -/
theorem IsGram.slices {w : World} {F : Nat → Prop} {vt vn vr : Value} {G : GramD} (h : IsGram w F vt vn vr G) : ∃ A1 c1 A2 c2 A3 c3, vt = .slice A1 G.terms.length c1 ∧ vn = .slice A2 G.nons.length c2 ∧ vr = .slice A3 G.rules.length c3 ∧ G.terms.length ≤ c1 ∧ G.nons.length ≤ c2 ∧ G.rules.length ≤ c3 ∧ c1 ≤ 9223372036854775807 ∧ c2 ≤ 9223372036854775807 ∧ c3 ≤ 9223372036854775807 := by
  obtain ⟨A1, n1, c1, e1, h1, m1, l1, _⟩ := h.terms
  obtain ⟨A2, n2, c2, e2, h2, m2, l2, _⟩ := h.nons
  obtain ⟨A3, c3, e3, h3, m3, _⟩ := h.rules
  have l1' : n1 = G.terms.length := by simpa using l1.symm
  have l2' : n2 = G.nons.length := by simpa using l2.symm
  subst l1' l2'
  unfold maxLen at m1 m2 m3
  exact ⟨A1, c1, A2, c2, A3, c3, e1, e2, e3, h1, h2, h3, by omega, by omega, by omega⟩

def topOf (G : GramD) : Nat := G.terms.length + G.nons.length
def isTerm (G : GramD) (s : Int) : Bool := decide (1 ≤ s) && decide (s ≤ G.terms.length)
def isNon (G : GramD) (s : Int) : Bool := decide (G.terms.length < s) && decide (s ≤ topOf G)

def Quiet (w : World) (r : Value) (e : Ending) (w' : World) : Prop := e = .returned r ∧ Below w.heap.size w w'

theorem gram_top {w : World} {F : Nat → Prop} {vt vn vr : Value} {G : GramD} (h : IsGram w F vt vn vr G) (st : Int) :
    Calls Try.prog 28 #[GV vt vn vr st] w (Quiet w (.int .i64 (topOf G))) := by
  obtain ⟨A1, c1, A2, c2, A3, c3, rfl, rfl, rfl, _⟩ := h.slices
  have hs := h.small
  obtain ⟨T, hT⟩ : ∃ T, T = G.terms.length := ⟨_, rfl⟩
  obtain ⟨N, hN⟩ : ∃ N, N = G.nons.length := ⟨_, rfl⟩
  rw [← hT, ← hN] at hs ⊢
  have H1 := hide hT
  have H2 := hide hN
  obtain ⟨s1, s2, s3⟩ := hs
  clear hT hN h
  go_enter Try.func28, Try.ntmps28
  go_wp2
  go_ret
  exact ⟨ret_int (by unfold topOf; rw [← H1.out, ← H2.out]; omega), (Below.refl _ _).alloc (Nat.le_refl _) _⟩
theorem gram_term {w : World} {F : Nat → Prop} {vt vn vr : Value} {G : GramD} (h : IsGram w F vt vn vr G) (st s : Int) :
    Calls Try.prog 62 #[GV vt vn vr st, .int .i64 s] w (Quiet w (.bool (isTerm G s))) := by
  obtain ⟨A1, c1, A2, c2, A3, c3, rfl, rfl, rfl, _⟩ := h.slices
  have hs := h.small
  have hsp : isTerm G s = (decide (1 ≤ s) && decide (s ≤ (G.terms.length : Int))) := rfl
  obtain ⟨T, hT⟩ : ∃ T, T = G.terms.length := ⟨_, rfl⟩
  rw [← hT] at hs hsp ⊢
  have HS := hide hsp
  obtain ⟨s1, s2, s3⟩ := hs
  clear hT h hsp
  by_cases h1 : 1 ≤ s
  · go_enter Try.func62, Try.ntmps62
    go_wp2
    go_ret
    exact ⟨ret_bool (by rw [HS.out, decide_eq_true h1]; rfl), (Below.refl _ _).alloc (Nat.le_refl _) _⟩
  · go_enter Try.func62, Try.ntmps62
    go_wp2
    go_ret
    exact ⟨ret_bool (by rw [HS.out, decide_eq_false (by omega)]; rfl), (Below.refl _ _).alloc (Nat.le_refl _) _⟩
theorem gram_non {w : World} {F : Nat → Prop} {vt vn vr : Value} {G : GramD} (h : IsGram w F vt vn vr G) (st s : Int) :
    Calls Try.prog 40 #[GV vt vn vr st, .int .i64 s] w (Quiet w (.bool (isNon G s))) := by
  have hs := h.small
  have hsp : isNon G s = (decide ((G.terms.length : Int) < s) && decide (s ≤ (topOf G : Int))) := rfl
  have H := hide h
  obtain ⟨A1, c1, A2, c2, A3, c3, e1, e2, e3, _⟩ := h.slices
  have h4 := h.below ((Below.refl _ w).alloc (Nat.le_refl _) (.cells #[vt, vn, vr, .int .i64 st] 36))
  subst e1 e2 e3
  obtain ⟨T, hT⟩ : ∃ T, T = G.terms.length := ⟨_, rfl⟩
  have H4 := hide h4
  rw [← hT] at hs hsp H4 ⊢
  have HS := hide hsp
  obtain ⟨s1, s2, s3⟩ := hs
  clear hT h hsp h4 H
  by_cases h1 : (T : Int) < s
  · go_enter Try.func40, Try.ntmps40
    go_wp2_with fail
    refine (gram_top H4.out _).mono ?_
    rintro e w1 ⟨rfl, b1⟩
    go_wp2_with fail
    go_ret
    exact ⟨ret_bool (by rw [HS.out, decide_eq_true h1]; rfl), ((Below.refl _ _).alloc (Nat.le_refl _) _).trans (b1.mono (by simp))⟩
  · go_enter Try.func40, Try.ntmps40
    go_wp2_with fail
    go_ret
    exact ⟨ret_bool (by rw [HS.out, decide_eq_false (by omega)]; rfl), (Below.refl _ _).alloc (Nat.le_refl _) _⟩
end

section
open Go.RowKit

theorem Try.infoStr : (Try.prog.info? 9).map (fun i => (i.zero, i.size, i.bytes)) = some (some (.string ByteArray.empty), 1, 16) := by kernel_rfl
theorem Try.elemStr : Elem Try.prog 33 9 (.string ByteArray.empty) 1 16 := ⟨Try.underlying33, Try.infoStr, rfl, by decide⟩
theorem Try.infoInt : (Try.prog.info? 3).map (fun i => (i.zero, i.size, i.bytes)) = some (some (.int .i64 0), 1, 8) := by kernel_rfl
theorem Try.elemInt : Elem Try.prog 24 3 (.int .i64 0) 1 8 := ⟨Try.underlying24, Try.infoInt, rfl, by decide⟩

theorem RdS.at_ {w : World} {F : Nat → Prop} {A : Option Addr} {n c : Nat} {xs : List ByteArray} (h : RdS w F (.slice A n c) xs) : n = xs.length ∧ n ≤ c ∧ c ≤ maxLen ∧ (0 < n → ∃ b off, A = some ⟨b, off, none⟩ ∧ F b ∧ ∀ k x, xs[k]? = some x → w.cell? ⟨b, off + k, none⟩ = some (.string x)) := by
  obtain ⟨A', n', c', hv, h1, h2, hl, hr⟩ := h
  injection hv with e1 e2 e3
  subst e1 e2 e3
  refine ⟨by simpa using hl.symm, h1, h2, fun hn => ?_⟩
  obtain ⟨b, off, hA, hF, hc⟩ := hr hn
  exact ⟨b, off, hA, hF, fun k x hx => hc k _ (by simp [hx])⟩
theorem RdI.at_ {w : World} {F : Nat → Prop} {A : Option Addr} {n c : Nat} {xs : List Int} (h : RdI w F (.slice A n c) xs) : n = xs.length ∧ n ≤ c ∧ c ≤ maxLen ∧ (0 < n → ∃ b off, A = some ⟨b, off, none⟩ ∧ F b ∧ ∀ k x, xs[k]? = some x → w.cell? ⟨b, off + k, none⟩ = some (.int .i64 x)) := by
  obtain ⟨A', n', c', hv, h1, h2, hl, hr⟩ := h
  injection hv with e1 e2 e3
  subst e1 e2 e3
  refine ⟨by simpa using hl.symm, h1, h2, fun hn => ?_⟩
  obtain ⟨b, off, hA, hF, hc⟩ := hr hn
  exact ⟨b, off, hA, hF, fun k x hx => hc k _ (by simp [hx])⟩
theorem ERule.at_ {w : World} {F : Nat → Prop} {A : Option Addr} {n c : Nat} {rs : List (Int × List Int)} (h : RdL w F 2 (ERule w F) (.slice A n c) rs) : n = rs.length ∧ n ≤ c ∧ c ≤ maxLen ∧ (0 < n → ∃ b off, A = some ⟨b, off, none⟩ ∧ F b ∧ ∀ (k : Nat) (r : Int × List Int), rs[k]? = some r → ∃ v, w.cell? ⟨b, off + k * 2, none⟩ = some (.int .i64 r.1) ∧ w.cell? ⟨b, off + k * 2 + 1, none⟩ = some v ∧ RdI w F v r.2) := by
  obtain ⟨A', c', hv, h1, h2, hr⟩ := h
  injection hv with e1 e2 e3
  subst e1 e2 e3
  refine ⟨rfl, h1, h2, fun hn => ?_⟩
  obtain ⟨b, off, hA, hF, hc⟩ := hr hn
  refine ⟨b, off, hA, hF, fun k r hk => ?_⟩
  obtain ⟨cs, _, ⟨v, rfl, hv⟩, hcell⟩ := hc k r hk
  exact ⟨v, hcell 0 _ rfl, hcell 1 _ rfl, hv⟩

/-- what Find answers -/
def findOf (G : GramD) (s : ByteArray) : Int := place (G.terms ++ G.nons) s + 1
theorem place_app_right {xs ys : List ByteArray} {s : ByteArray} (h : s ∉ xs) (hy : s ∈ ys) : place (xs ++ ys) s = xs.length + place ys s := by
  obtain ⟨i, hi, hf, hp⟩ := place_some hy
  rw [hp]
  have : place (xs ++ ys) s = ((xs.length + i : Nat) : Int) := place_first (by rw [List.getElem?_append_right (by omega)]; simpa using hi) fun j hj e => by
    by_cases hjx : j < xs.length
    · rw [List.getElem?_append_left hjx] at e; exact h (List.mem_of_getElem? e)
    · rw [List.getElem?_append_right (by omega)] at e; exact hf (j - xs.length) (by omega) e
  rw [this]; omega

end

section
open Go.RowKit

def OwnPost (w : World) (e : TypeId) (xs : List Value) (n : Nat) (en : Ending) (w' : World) : Prop :=
  ∃ A c, en = .returned (.slice A n c) ∧ w'.ownsRow w.heap.size e 1 (.slice A n c) n xs ∧ Below w.heap.size w w'

theorem rds_ones {xs : List ByteArray} : ∀ u ∈ xs.map Value.string, u.oneCell' = true := by
  intro u hu; obtain ⟨x, _, rfl⟩ := List.mem_map.1 hu; rfl

end

section
open Go.RowKit

theorem equal_ints {w : World} {F G : Nat → Prop} {v u : Value} {xs ys : List Int} (h : RdI w F v xs) (g : RdI w G u ys) :
    Calls Try.prog 64 #[v, u] w (Quiet w (.bool (decide (xs = ys)))) := by
  obtain ⟨A, n, c, rfl, _⟩ := id h
  obtain ⟨B, m, d, rfl, _⟩ := id g
  obtain ⟨hn, hnc, hcm, hcell⟩ := h.at_
  obtain ⟨hm, hmd, hdm, hcell'⟩ := g.at_
  unfold maxLen at hcm hdm
  by_cases hnm : n = m
  · subst hnm
    have HN := hide hn
    have HM := hide hm
    clear hn hm
    go_enter Try.func64, Try.ntmps64
    go_wp2
    go_loopw [13] (fun i wr => ∃ k q : Nat, k ≤ n ∧ i = .int .i64 k ∧ wr = w.drewN q ∧ ∀ j : Nat, j < k → xs[j]? = ys[j]?) (fun i _ => n - (intOf i).toNat)
    case atStart => exact ⟨0, 0, Nat.zero_le _, rfl, rfl, fun j hj => absurd hj (by omega)⟩
    case round =>
      obtain ⟨k, q, hk, rfl, rfl, hbefore⟩ := hrel
      have HB := hide hbefore
      clear hbefore
      by_cases hlt : k < n
      · obtain ⟨b, off, rfl, _, hc⟩ := hcell (by omega)
        obtain ⟨b', off', rfl, _, hc'⟩ := hcell' (by omega)
        obtain ⟨x, hx⟩ : ∃ x, xs[k]? = some x := ⟨_, List.getElem?_eq_getElem (by rw [← HN.out]; omega)⟩
        obtain ⟨y, hy⟩ : ∃ y, ys[k]? = some y := ⟨_, List.getElem?_eq_getElem (by rw [← HM.out]; omega)⟩
        have hcx := hc k x hx
        have hcy := hc' k y hy
        have HX := hide hx
        have HY := hide hy
        clear hcell hc hx hcell' hc' hy
        by_cases he : x = y
        · have HE := hide he
          have he' : (x == y) = true := by subst he; simp
          clear he
          go_wp2_with fail
          go_quiet (fail)
          go_wp2
          go_roundw
          case rel =>
            refine ⟨k + 1, q + nq, by omega, by go_num, rfl, fun j hj => ?_⟩
            by_cases hjk : j = k
            · subst hjk; rw [HX.out, HY.out, HE.out]
            · exact HB.out j (by omega)
          case measure => simp [intOf]; omega
        · have HE := hide he
          have he' : (x == y) = false := by simpa using he
          clear he
          go_wp2_with fail
          go_quiet (fail)
          go_wp2
          go_ret
          refine ⟨ret_bool ?_, ⟨rfl, rfl, rfl, Nat.le_refl _, fun _ _ => rfl⟩⟩
          symm
          rw [decide_eq_false_iff_not]
          rintro rfl
          rw [HX.out] at HY
          have := HY.out
          injection this with this
          exact HE.out this
      · go_wp2
        go_ret
        refine ⟨ret_bool ?_, ⟨rfl, rfl, rfl, Nat.le_refl _, fun _ _ => rfl⟩⟩
        symm
        rw [decide_eq_true_eq]
        apply List.ext_getElem?
        intro j
        by_cases hj : j < n
        · exact HB.out j (by omega)
        · rw [List.getElem?_eq_none (by rw [← HN.out]; omega), List.getElem?_eq_none (by rw [← HM.out]; omega)]
  · have hne : ((n : Int) == (m : Int)) = false := by simpa using (by omega : ¬ (n : Int) = (m : Int))
    have HN := hide hn
    have HM := hide hm
    clear hn hm
    go_enter Try.func64, Try.ntmps64
    go_wp2
    go_ret
    refine ⟨ret_bool ?_, ⟨rfl, rfl, rfl, Nat.le_refl _, fun _ _ => rfl⟩⟩
    symm
    rw [decide_eq_false_iff_not]
    rintro rfl
    exact hnm (by rw [HN.out, HM.out])

end

section
open Go.RowKit

/-- gram.sameRule -/
theorem same_rule {w : World} {F G : Nat → Prop} {l m : Int} {v u : Value} {xs ys : List Int} (h : RdI w F v xs) (g : RdI w G u ys) (hF : ∀ b, F b → b < w.heap.size) (hG : ∀ b, G b → b < w.heap.size) :
    Calls Try.prog 44 #[.agg #[.int .i64 l, v], .agg #[.int .i64 m, u]] w (Quiet w (.bool (decide ((l, xs) = (m, ys))))) := by
  have b2 := ((Below.refl _ w).alloc (Nat.le_refl _) (.cells #[.int .i64 l, v] 47)).alloc (by simp) (.cells #[.int .i64 m, u] 47)
  have he := equal_ints (h.below b2 hF) (g.below b2 hG)
  obtain ⟨A, n, c, rfl, _⟩ := id h
  obtain ⟨B, n', d, rfl, _⟩ := id g
  have B2 := hide b2
  have HE := hide he
  clear h g he b2
  by_cases hlm : l = m
  · have hb : (l == m) = true := by simpa using hlm
    have HL := hide hlm
    clear hlm
    go_enter Try.func44, Try.ntmps44
    go_wp2_with fail
    refine HE.out.mono ?_
    rintro e w1 ⟨rfl, b1⟩
    go_wp2_with fail
    go_ret
    exact ⟨ret_bool (by have e := HL.out; subst e; simp), B2.out.trans (b1.mono (by simp; omega))⟩
  · have hb : (l == m) = false := by simpa using hlm
    have HL := hide hlm
    clear hlm
    go_enter Try.func44, Try.ntmps44
    go_wp2_with fail
    go_ret
    exact ⟨ret_bool (by simp; intro e; exact absurd e HL.out), B2.out⟩

end

section
open Go.RowKit

theorem Try.enters_same : ∀ args w, (callFunc 44 args).run Try.prog w = .ok (.enter 44 args) w := enters_of Try.func44 (by kernel_rfl) rfl

abbrev RdR (w : World) (F : Nat → Prop) (v : Value) (rs : List (Int × List Int)) : Prop := RdL w F 2 (ERule w F) v rs
theorem RdR.below {w w' : World} {F : Nat → Prop} {v : Value} {rs : List (Int × List Int)} (h : RdR w F v rs) (hb : Below w.heap.size w w') (hF : ∀ b, F b → b < w.heap.size) : RdR w' F v rs :=
  RdL.below h hb hF fun cs x _ e => e.below hb hF

/-- a rule's cells, in any later world -/
theorem RdR.get {w wr : World} {F : Nat → Prop} {b off n : Nat} {rs : List (Int × List Int)} (hF : ∀ b, F b → b < w.heap.size) (hb : F b) (hw : Below w.heap.size w wr)
    (hc : ∀ (k : Nat) (r : Int × List Int), rs[k]? = some r → ∃ v, w.cell? ⟨b, off + k * 2, none⟩ = some (.int .i64 r.1) ∧ w.cell? ⟨b, off + k * 2 + 1, none⟩ = some v ∧ RdI w F v r.2) {k : Nat} (hk : k < rs.length) :
    ∃ l xs v, rs[k]? = some (l, xs) ∧ wr.cell? ⟨b, off + k * 2, none⟩ = some (.int .i64 l) ∧ wr.cell? ⟨b, off + k * 2 + 1, none⟩ = some v ∧ RdI wr F v xs := by
  obtain ⟨v, h1, h2, h3⟩ := hc k _ (List.getElem?_eq_getElem hk)
  refine ⟨_, _, v, List.getElem?_eq_getElem hk, ?_, ?_, h3.below hw hF⟩
  · rw [hw.cell (p := ⟨b, _, none⟩) (hF b hb)]; exact h1
  · rw [hw.cell (p := ⟨b, _, none⟩) (hF b hb)]; exact h2

end

section
open Go.RowKit

def sameOf (G K : GramD) (st su : Int) : Bool := decide (G.terms = K.terms) && (decide (G.nons = K.nons) && (decide (st = su) && decide (G.rules = K.rules)))

theorem IsGram.blk {w : World} {F : Nat → Prop} {vt vn vr : Value} {G : GramD} (h : IsGram w F vt vn vr G) (o : Obj) : IsGram (w.alloc o) F vt vn vr G := h.below ((Below.refl _ w).alloc (Nat.le_refl _) o)

end
end Go.Proofs.Ytlpokomfljmogaa

/- The reference's tree: is it derived; Same; numbers compared. -/
import Derived.Test.YtacankgalkffmaaGreatArR5
import Derived.Test.YtacankgalkffmaaGreatArena12
namespace Go.Proofs.YtacankgalkffmaaGreat
set_option linter.unusedVariables false
set_option linter.unusedSimpArgs false
open Go.RowKit
attribute [local irreducible] wpStill wpOne wpPh
theorem ref_ints3A {w : World} {F G : Nat → Prop} {v u : Value} {xs ys : List Int} (h : RdI w F v xs) (g : RdI w G u ys) :
  Calls Tryz.prog 17 #[v, u] w (Quiet w (.bool (decide (xs = ys)))) := by
 obtain ⟨A, n, c, rfl, _⟩ := id h
 obtain ⟨B, m, d, rfl, _⟩ := id g
 obtain ⟨hn, hnc, hcm, hcell⟩ := h.at_
 obtain ⟨hm, hmd, hdm, hcell'⟩ := g.at_
 unfold maxLen at hcm hdm
 by_cases hnm : n = m
 ·subst hnm
  have HN := hide hn
  have HM := hide hm
  clear hn hm
  go_enter Tryz.func17, Tryz.ntmps17
  go_wp2
  go_loopw [5] (fun i wr => ∃ k q : Nat, k ≤ n ∧ i = .int .i64 k ∧ wr = w.drewN q ∧ ∀ j : Nat, j < k → xs[j]? = ys[j]?) (fun i _ => n - (intOf i).toNat)
  case atStart => exact ⟨0, 0, Nat.zero_le _, rfl, rfl, fun j hj => absurd hj (by omega)⟩
  case round =>
   obtain ⟨k, q, hk, rfl, rfl, hbefore⟩ := hrel
   have HB := hide hbefore
   clear hbefore
   by_cases hlt : k < n
   ·obtain ⟨b, off, rfl, _, hc⟩ := hcell (by omega)
    obtain ⟨b', off', rfl, _, hc'⟩ := hcell' (by omega)
    obtain ⟨x, hx⟩ : ∃ x, xs[k]? = some x := ⟨_, List.getElem?_eq_getElem (by rw [← HN.out]; omega)⟩
    obtain ⟨y, hy⟩ : ∃ y, ys[k]? = some y := ⟨_, List.getElem?_eq_getElem (by rw [← HM.out]; omega)⟩
    have hcx := hc k x hx
    have hcy := hc' k y hy
    have HX := hide hx
    have HY := hide hy
    clear hcell hc hx hcell' hc' hy
    by_cases he : x = y
    ·have HE := hide he
     have he' : (x == y) = true := by subst he; simp
     clear he
     go_wp2_with fail
     go_quiet (fail)
     go_wp2
     go_roundw
     case rel =>
      refine ⟨k + 1, q + nq, by omega, by go_num, rfl, fun j hj => ?_⟩
      by_cases hjk : j = k
      ·subst hjk; rw [HX.out, HY.out, HE.out]
      ·exact HB.out j (by omega)
     case measure => simp [intOf]; omega
    ·have HE := hide he
     have he' : (x == y) = false := by simpa using he
     clear he
     go_wp2_with fail
     go_quiet (fail)
     go_wp2
     go_ret
     refine ⟨ret_bool ?_, ⟨rfl, rfl, rfl, Nat.le_refl _, fun _ _ => rfl⟩⟩
     symm
     rw [decide_eq_false_iff_not]
     rintro rfl
     rw [HX.out] at HY
     have := HY.out
     injection this with this
     exact HE.out this
   ·go_wp2
    go_ret
    refine ⟨ret_bool ?_, ⟨rfl, rfl, rfl, Nat.le_refl _, fun _ _ => rfl⟩⟩
    symm
    rw [decide_eq_true_eq]
    apply List.ext_getElem?
    intro j
    by_cases hj : j < n
    ·exact HB.out j (by omega)
    ·rw [List.getElem?_eq_none (by rw [← HN.out]; omega), List.getElem?_eq_none (by rw [← HM.out]; omega)]
 ·have hne : ((n : Int) == (m : Int)) = false := by simpa using (by omega : ¬ (n : Int) = (m : Int))
  have HN := hide hn
  have HM := hide hm
  clear hn hm
  go_enter Tryz.func17, Tryz.ntmps17
  go_wp2
  go_ret
  refine ⟨ret_bool ?_, ⟨rfl, rfl, rfl, Nat.le_refl _, fun _ _ => rfl⟩⟩
  symm
  rw [decide_eq_false_iff_not]
  rintro rfl
  exact hnm (by rw [HN.out, HM.out])
def cmpI (a b : Int) : Int := if a < b then -1 else if b < a then 1 else 0
section
variable {w w' : World} {bt : Nat} {S F : Nat → Prop} {L : List Nd} {vt vn vr : Value} {G : GramD}
theorem ref19_Same {F' : Nat → Prop} {z z' : Value} {ks : List Int} (s l r : Int) (hz : RdI w F z ks) (hz' : RdI w F' z' ks) : Calls Tryz.prog 9 #[.agg #[.int .i64 s, .int .i64 l, .int .i64 r, z], .agg #[.int .i64 s, .int .i64 l, .int .i64 r, z']] w (Quiet w (.bool true)) := by
 obtain ⟨A, n, c, rfl, -⟩ := id hz
 obtain ⟨A', n', c', rfl, -⟩ := id hz'
 obtain ⟨w1, hw1⟩ : ∃ x, w.alloc (.cells #[.int .i64 s, .int .i64 l, .int .i64 r, .slice A n c] 35) = x := ⟨_, rfl⟩
 obtain ⟨w2, hw2⟩ : ∃ x, w1.alloc (.cells #[.int .i64 s, .int .i64 l, .int .i64 r, .slice A' n' c'] 35) = x := ⟨_, rfl⟩
 have z1 : w1.heap.size = w.heap.size + 1 := by rw [← hw1]; simp
 have b1 : Below w.heap.size w w1 := by rw [← hw1]; exact (Below.refl _ _).alloc (Nat.le_refl _) _
 have b2 : Below w1.heap.size w1 w2 := by rw [← hw2]; exact (Below.refl _ _).alloc (Nat.le_refl _) _
 have k1 : Blk w2 w.heap.size 35 #[.int .i64 s, .int .i64 l, .int .i64 r, .slice A n c] := by rw [← hw2, ← hw1]; exact (Blk.new _ _ _).alloc _
 have k2 : Blk w2 (w.heap.size + 1) 35 #[.int .i64 s, .int .i64 l, .int .i64 r, .slice A' n' c'] := by rw [← hw2, ← z1]; exact Blk.new _ _ _
 have b02 := b1.trans (b2.mono b1.size)
 have cI := ref_ints (Rd.touch hz (Touch.of_size b02 (fun _ => False)) (fun _ _ c => c)) (Rd.touch hz' (Touch.of_size b02 (fun _ => False)) (fun _ _ c => c))
 rw [decide_eq_true rfl] at cI
 have p0 : w2.cell? ⟨w.heap.size, 0, none⟩ = some (.int .i64 s) := k1.cell 0
 have p1 : w2.cell? ⟨w.heap.size, 1, none⟩ = some (.int .i64 l) := k1.cell 1
 have p2 : w2.cell? ⟨w.heap.size, 2, none⟩ = some (.int .i64 r) := k1.cell 2
 have p3 : w2.cell? ⟨w.heap.size, 3, none⟩ = some (.slice A n c) := k1.cell 3
 have q0 : w2.cell? ⟨w.heap.size + 1, 0, none⟩ = some (.int .i64 s) := k2.cell 0
 have q1 : w2.cell? ⟨w.heap.size + 1, 1, none⟩ = some (.int .i64 l) := k2.cell 1
 have q2 : w2.cell? ⟨w.heap.size + 1, 2, none⟩ = some (.int .i64 r) := k2.cell 2
 have q3 : w2.cell? ⟨w.heap.size + 1, 3, none⟩ = some (.slice A' n' c') := k2.cell 3
 have es : (s == s) = true := by simp
 have el : (l == l) = true := by simp
 have er : (r == r) = true := by simp
 clear hz hz' b1 b2 k1 k2
 have XcI := hide cI
 have Xb02 := hide b02
 clear cI b02
 go_enter Tryz.func9, Tryz.ntmps9
 go_wp2_with fail
 refine XcI.out.mono ?_
 rintro e w' ⟨rfl, b⟩
 have bb := Xb02.out.trans (b.mono Xb02.out.size)
 clear XcI b
 have Xbb := hide bb
 clear bb
 go_wp2_with fail
 go_ret
 exact ⟨rfl, Xbb.out⟩
set_option maxRecDepth 100000 in
set_option maxHeartbeats 2000000 in
theorem ref19_derived_step (hL : Tr L) (st : Int) (f : Nat) (IH0 : ∀ (i : Int) (w : World), i.toNat < f → inN L.length i = true → RAr w bt S L → IsGram w F vt vn vr G → Calls Tryz.prog 42 #[.pointer (some ⟨bt, 0, none⟩), GV vt vn vr st, .int .i64 i] w (Quiet w (.bool (derO G L i)))) (i : Int) (w : World) (hf : i.toNat < f + 1) (hi : inN L.length i = true) (hr : RAr w bt S L) (hg : IsGram w F vt vn vr G) : Calls Tryz.prog 42 #[.pointer (some ⟨bt, 0, none⟩), GV vt vn vr st, .int .i64 i] w (Quiet w (.bool (derO G L i))) := by
 obtain ⟨A1, c1, A2, c2, A3, c3, rfl, rfl, rfl, -⟩ := hg.slices
 obtain ⟨w1, hw1⟩ : ∃ x, w.alloc (.cells #[.slice A1 G.terms.length c1, .slice A2 G.nons.length c2, .slice A3 G.rules.length c3, .int .i64 st] 26) = x := ⟨_, rfl⟩
 have b1 : Below w.heap.size w w1 := by rw [← hw1]; exact (Below.refl _ _).alloc (Nat.le_refl _) _
 have hr1 := hr.below b1
 have hg1 := hg.below b1
 have k1 : Blk w1 w.heap.size 26 #[.slice A1 G.terms.length c1, .slice A2 G.nons.length c2, .slice A3 G.rules.length c3, .int .i64 st] := by rw [← hw1]; exact Blk.new _ _ _
 have z1 : w1.heap.size = w.heap.size + 1 := by rw [← hw1]; simp
 obtain ⟨g0, g1⟩ := inN_iff.1 hi
 obtain ⟨v, iv, bv, M, hML, h⟩ := id hr1
 have hlen := RAr.len hML
 obtain ⟨n, hn⟩ : ∃ n, n = L.length := ⟨_, rfl⟩
 have hli : (L.map Nd.il).length = n := by rw [List.length_map]; exact hn.symm
 obtain ⟨pb, hpb⟩ : ∃ pb, (L.map Nd.il)[i.toNat]? = some pb := ⟨_, List.getElem?_eq_getElem (by rw [hli]; omega)⟩
 obtain ⟨gi, ci, rfl, hci, -⟩ := own_bool h.owi hpb
 rw [hli] at h
 have hil : (ndAt L i).il = pb := by
  have e : ((i.toNat : Nat) : Int) = i := by omega
  rw [List.getElem?_map] at hpb
  obtain ⟨y, hy, hyx⟩ := Option.map_eq_some_iff.1 hpb
  rw [← e, ndAt_get hy]; exact hyx
 obtain ⟨p, hp, es, el, er, ek⟩ := tnX_at hML hi
 obtain ⟨g, c, rfl, d0, d1, d2, d3, rk⟩ := h.at_ hp
 rw [es] at d0
 rw [el] at d1
 rw [er] at d2
 rw [ek] at rk
 rw [hlen, ← hn] at h
 rw [← hn] at g1
 have hb0 : w1.cell? ⟨bt, 0, none⟩ = some (.slice (some ⟨g, 0, none⟩) n c) := h.box.cell 0
 have hb1 : w1.cell? ⟨bt, 1, none⟩ = some (.slice (some ⟨gi, 0, none⟩) n ci) := h.box.cell 1
 have hkid := fun k (hk : k ∈ (ndAt L i).kids) => hL.kid hk
 obtain ⟨⟨ps, pl, pr, pk, pi, pb'⟩, z⟩ := p
 simp only at d0 d1 d2 d3 rk
 obtain ⟨Az, nz, cz, rfl, -⟩ := id rk
 have hx : ∃ x, x = ndAt L i := ⟨_, rfl⟩
 obtain ⟨x, hx⟩ := hx
 rw [← hx] at d0 d1 d2 rk hil hkid
 obtain ⟨w2, hw2⟩ : ∃ q, w1.alloc (.cells #[.int .i64 x.sym, .int .i64 x.leaf, .int .i64 x.rule, .slice Az nz cz] 35) = q := ⟨_, rfl⟩
 have b2 : Below w1.heap.size w1 w2 := by rw [← hw2]; exact (Below.refl _ _).alloc (Nat.le_refl _) _
 have k2 : Blk w2 w1.heap.size 35 #[.int .i64 x.sym, .int .i64 x.leaf, .int .i64 x.rule, .slice Az nz cz] := by rw [← hw2]; exact Blk.new _ _ _
 have hr2 := hr1.below b2
 have hg2 := hg1.below b2
 rw [z1] at k2
 have k12 := k1.below b2 (by omega)
 have e0 : w2.cell? ⟨w.heap.size + 1, 0, none⟩ = some (.int .i64 x.sym) := k2.cell 0
 have e2 : w2.cell? ⟨w.heap.size + 1, 2, none⟩ = some (.int .i64 x.rule) := k2.cell 2
 have e3 : w2.cell? ⟨w.heap.size + 1, 3, none⟩ = some (.slice Az nz cz) := k2.cell 3
 have q0 : w2.cell? ⟨w.heap.size, 0, none⟩ = some (.slice A1 G.terms.length c1) := k12.cell 0
 have q1 : w2.cell? ⟨w.heap.size, 1, none⟩ = some (.slice A2 G.nons.length c2) := k12.cell 1
 have q2 : w2.cell? ⟨w.heap.size, 2, none⟩ = some (.slice A3 G.rules.length c3) := k12.cell 2
 have q3 : w2.cell? ⟨w.heap.size, 3, none⟩ = some (.int .i64 st) := k12.cell 3
 have cT := ref_term hg2 st x.sym
 have cR := ref_rule hg2 st x.rule
 have hb1' := upA_cell b2 hb1
 have hci' := upA_cell b2 hci
 have b02 := b1.trans (b2.mono b1.size)
 have hde := derO_eq (G := G) hL i
 rw [← hx] at hde
 have hkids : ∀ k ∈ x.kids, inN L.length k = true := fun k hk => by
  have := hkid k hk
  exact inN_iff.2 ⟨this.1, by omega⟩
 cases pb with
 | true =>
  have hnk : x.kids = [] := by rw [hx]; exact hL.nokid _ _ (ndAt_of g0 (by rw [← hn]; exact g1)) (by rw [← hx]; exact hil)
  have hfi : derO G L i = isTerm G x.sym := by rw [hde, hnk]; unfold fineN; rw [if_pos hil]; simp
  rw [hfi]
  clear IH0 hpb hML hlen hp es el er ek hkid hr1 hg1 hr2 hg2 h hr hg rk k1 k12 k2 b1 b2 hkids hde hnk hfi cR
  have Xhn := hide hn
  have Xhli := hide hli
  have Xb02 := hide b02
  have Xhx := hide hx
  have Xhil := hide hil
  have XcT := hide cT
  clear hn hli b02 hx hil cT
  go_enter Tryz.func42, Tryz.ntmps42
  go_wp2_with fail
  refine XcT.out.mono ?_
  rintro e w' ⟨rfl, b⟩
  have bb := Xb02.out.trans (b.mono Xb02.out.size)
  clear XcT b
  have Xbb := hide bb
  clear bb
  go_wp2_with fail
  go_ret
  exact ⟨rfl, Xbb.out⟩
 | false =>
  have hfn : fineN G L x = ((decide (0 ≤ x.rule) && decide (x.rule < G.rules.length)) && (decide ((G.rules.getD x.rule.toNat (0, [])).1 = x.sym) && decide ((G.rules.getD x.rule.toNat (0, [])).2 = x.kids.map fun k => (ndAt L k).sym))) := by unfold fineN; rw [if_neg (by rw [hil]; decide)]
  have hro : ruleOf G st x.rule = if x.rule < 0 ∨ (G.rules.length : Int) < x.rule then ((0, []), false) else if x.rule = (G.rules.length : Int) then ((0, [st]), true) else ((G.rules[x.rule.toNat]?).getD (0, []), true) := rfl
  rw [← List.getD_eq_getElem?_getD] at hro
  obtain ⟨rl, hrl⟩ : ∃ rl, rl = ruleOf G st x.rule := ⟨_, rfl⟩
  rw [← hrl] at cR hro
  have IH := fun k (hk : k ∈ x.kids) wr hr' hg' => IH0 k wr (by have := hkid k hk; omega) (hkids k hk) hr' hg'
  have hall := fun k (hk : k ∈ x.kids) => inN_iff.1 (hkids k hk)
  have hsy : ∀ k ∈ x.kids, ∃ q, M[k.toNat]? = some q ∧ q.1.sym = (ndAt L k).sym := fun k hk => by
   obtain ⟨q, hq, e, -⟩ := tnX_at hML (hkids k hk)
   exact ⟨q, hq, e⟩
  obtain ⟨xs, xl, xr, kids, xi, xb⟩ := x
  simp only at *
  obtain ⟨hnz, hncz, hcz, -⟩ := RdI.at_ rk
  unfold maxLen at hcz
  have rk2 := Rd.touch rk (Touch.of_size b2 (fun _ => False)) (fun _ _ c => c)
  have z2 : w2.heap.size = w.heap.size + 2 := by rw [← hw2]; simp [z1]
  have h2 := h.below b2
  obtain ⟨R, hR⟩ : ∃ R, R = G.rules.length := ⟨_, rfl⟩
  rw [← hR] at hfn hro
  obtain ⟨⟨l, rt⟩, ok⟩ := rl
  clear IH0 hpb hlen hp es el er ek hkid hr1 hg1 h hr hg rk k1 b1 b2 hkids cT hML hrl
  have Xhn := hide hn
  have Xhli := hide hli
  have Xb02 := hide b02
  have Xhx := hide hx
  have Xhil := hide hil
  have XcR := hide cR
  have Xhfn := hide hfn
  have Xhro := hide hro
  have XIH := hide IH
  have Xhall := hide hall
  have Xhsy := hide hsy
  have Xrk2 := hide rk2
  have Xh2 := hide h2
  have Xhr2 := hide hr2
  have Xhg2 := hide hg2
  have Xk12 := hide k12
  have Xk2 := hide k2
  have Xhnz := hide hnz
  have Xhde := hide hde
  have XhR := hide hR
  clear hn hli b02 hx hil cR hfn hro IH hall hsy rk2 h2 hr2 hg2 k12 k2 hnz hde hR
  go_enter Tryz.func42, Tryz.ntmps42
  go_wp2_with fail
  refine XcR.out.mono ?_
  rintro e w3 ⟨Ar, nr, cr, rfl, rr, b3⟩
  clear XcR
  have hr3 := Xhr2.out.below b3
  have hg3 := Xhg2.out.below b3
  have h3 := Xh2.out.below b3
  have rk3 := Rd.touch Xrk2.out (Touch.of_size b3 (fun _ => False)) (fun _ _ c => c)
  have k3 := Xk2.out.below b3 (by omega)
  have k13 := Xk12.out.below b3 (by omega)
  have b03 := Xb02.out.trans (b3.mono Xb02.out.size)
  have z3 := b3.size
  rw [z2] at z3
  have p0 : w3.cell? ⟨w.heap.size + 1, 0, none⟩ = some (.int .i64 xs) := k3.cell 0
  have p2 : w3.cell? ⟨w.heap.size + 1, 2, none⟩ = some (.int .i64 xr) := k3.cell 2
  have p3 : w3.cell? ⟨w.heap.size + 1, 3, none⟩ = some (.slice Az nz cz) := k3.cell 3
  have q2 : w3.cell? ⟨w.heap.size, 2, none⟩ = some (.slice A3 G.rules.length c3) := k13.cell 2
  obtain ⟨hnr, -, hcr, -⟩ := RdI.at_ rr
  unfold maxLen at hcr
  simp only at hnr
  rw [← XhR.out] at q2
  have Xhnr := hide hnr
  clear hnr
  clear Xhr2 Xhg2 Xh2 Xrk2 Xk2 Xk12 b3
  obtain ⟨w4, hw4⟩ : ∃ q, w3.alloc (.cells #[.int .i64 l, .slice Ar nr cr] 53) = q := ⟨_, rfl⟩
  have a4 : Below w3.heap.size w3 w4 := by rw [← hw4]; exact (Below.refl _ _).alloc (Nat.le_refl _) _
  have k4 : Blk w4 w3.heap.size 53 #[.int .i64 l, .slice Ar nr cr] := by rw [← hw4]; exact Blk.new _ _ _
  have b04 := b03.trans (a4.mono b03.size)
  have s0 : w4.cell? ⟨w3.heap.size, 0, none⟩ = some (.int .i64 l) := k4.cell 0
  have s1 : w4.cell? ⟨w3.heap.size, 1, none⟩ = some (.slice Ar nr cr) := k4.cell 1
  have p0' := upA_cell a4 p0
  have p2' := upA_cell a4 p2
  have p3' := upA_cell a4 p3
  have q2' := upA_cell a4 q2
  cases ok with
  | false =>
   have hno : derO G L i = false := by
    have hc : xr < 0 ∨ (R : Int) < xr := by
     have := Xhro.out
     split at this
     ·assumption
     ·split at this <;> simp at this
    rw [Xhde.out, Xhfn.out]
    rcases hc with hc | hc
    ·rw [decide_eq_false (show ¬ 0 ≤ xr by omega)]; rfl
    ·rw [decide_eq_false (show ¬ xr < (R : Int) by omega), Bool.and_false]; rfl
   clear hr3 hg3 h3 rk3 k3 k13 b03 rr a4 k4
   have Xb04 := hide b04
   have Xhno := hide hno
   clear b04 hno
   go_wp2_with fail
   go_ret
   exact ⟨ret_bool Xhno.out.symm, Xb04.out⟩
  | true =>
   have hc : ¬ (xr < 0 ∨ (R : Int) < xr) := fun c => by
    have := Xhro.out
    rw [if_pos c] at this
    simp at this
   have hc0 : 0 ≤ xr := by omega
   have hro2 := Xhro.out
   rw [if_neg hc] at hro2
   by_cases hB : xr = (R : Int)
   ·have hno : derO G L i = false := by
     rw [Xhde.out, Xhfn.out, decide_eq_false (show ¬ xr < (R : Int) by omega), Bool.and_false]; rfl
    have he : (xr == (R : Int)) = true := by simp [hB]
    clear hr3 hg3 h3 rk3 k3 k13 b03 rr a4 k4 hro2 hB hc hc0
    have Xb04 := hide b04
    have Xhno := hide hno
    clear b04 hno
    go_wp2_with fail
    go_ret
    exact ⟨ret_bool Xhno.out.symm, Xb04.out⟩
   ·have he : (xr == (R : Int)) = false := by simpa using hB
    rw [if_neg hB] at hro2
    obtain ⟨hro3, -⟩ := Prod.mk.inj hro2
    have hl3 : (G.rules.getD xr.toNat (0, [])).1 = l := by rw [← hro3]
    have hr3' : (G.rules.getD xr.toNat (0, [])).2 = rt := by rw [← hro3]
    have hde2 : derO G L i = ((decide (l = xs) && decide (rt = kids.map fun k => (ndAt L k).sym)) && kids.all (derO G L)) := by
     rw [Xhde.out, Xhfn.out, decide_eq_true hc0, decide_eq_true (show xr < (R : Int) by omega), hl3, hr3', Bool.true_and, Bool.true_and]
    clear hro2 hro3 hl3 hr3' hc hB
    by_cases hC : l = xs
    ·subst hC
     have heC : (l == l) = true := by simp
     rw [decide_eq_true rfl, Bool.true_and] at hde2
     by_cases hD : nr = nz
     ·subst hD
      have heD : ((nr : Int) == (nr : Int)) = true := by simp
      have h4 := h3.below a4
      have hr4 := hr3.below a4
      have hg4 := hg3.below a4
      have rk4 := Rd.touch rk3 (Touch.of_size a4 (fun _ => False)) (fun _ _ c => c)
      have rr4 := Rd.touch rr (Touch.of_size a4 (fun _ => False)) (fun _ _ c => c)
      have k34 := k3.below a4 (by omega)
      have k134 := k13.below a4 (by omega)
      have z4 := a4.size
      obtain ⟨-, -, -, hcell⟩ := RdI.at_ rk4
      obtain ⟨-, -, -, hcell2⟩ := RdI.at_ rr4
      clear hr3 hg3 h3 rk3 k3 k13 b03 rr a4 rk4 rr4
      have Xb04 := hide b04
      have Xhde2 := hide hde2
      have Xh4 := hide h4
      have Xhr4 := hide hr4
      have Xhg4 := hide hg4
      have Xk34 := hide k34
      have Xk134 := hide k134
      have Xk4 := hide k4
      have Xhcell := hide hcell
      have Xhcell2 := hide hcell2
      clear b04 hde2 h4 hr4 hg4 k34 k134 k4 hcell hcell2
      go_wp2_with fail
      go_loopw [10] (fun iv wr => ∃ k : Nat, k ≤ nr ∧ iv = .int .i64 (k : Int) ∧ Below w4.heap.size w4 wr ∧ rt.take k = (kids.take k).map (fun k => (ndAt L k).sym) ∧ (kids.take k).all (derO G L) = true) (fun iv _ => nr - (intOf iv).toNat)
      case atStart => exact ⟨0, Nat.zero_le _, rfl, Below.refl _ _, by simp, by simp⟩
      case round =>
       obtain ⟨k, hk, rfl, le, hrt, hal⟩ := hrel
       have p35 := upA_cell le p3'
       have s15 := upA_cell le s1
       clear d0 d1 d2 d3 hci hb0 hb1 hb1' hci' e0 e2 e3 q0 q1 q2 q3 p0 p2 p3 p0' p2' p3' q2' s0 s1 hw1 hw2 hw4 he heC heD
       by_cases hlt : k < nr
       ·have hlt' : (k : Int) < (nr : Int) := by omega
        obtain ⟨bb, off, rfl, hFb, hcc⟩ := Xhcell.out (by omega)
        obtain ⟨b2, off2, rfl, hFb2, hcc2⟩ := Xhcell2.out (by omega)
        obtain ⟨j, hj⟩ : ∃ j, kids[k]? = some j := ⟨_, List.getElem?_eq_getElem (by rw [← Xhnz.out]; exact hlt)⟩
        obtain ⟨y, hy⟩ : ∃ y, rt[k]? = some y := ⟨_, List.getElem?_eq_getElem (by rw [← Xhnr.out]; exact hlt)⟩
        have hcx := upA_cell le (hcc k j hj)
        have hcy := upA_cell le (hcc2 k y hy)
        have hjm := List.mem_of_getElem? hj
        obtain ⟨q, hq, hqs⟩ := Xhsy.out j hjm
        obtain ⟨j0, j1⟩ := Xhall.out j hjm
        rw [← Xhn.out] at j1
        have h5 := Xh4.out.below le
        obtain ⟨g', c', hv, n0, -, -, -, -⟩ := h5.at_ hq
        have hgg : g' = g := by
         injection hv with h1
         injection h1 with h1
         injection h1 with h1
         exact h1.symm
        rw [hgg] at n0
        clear hv hgg
        have hb5 : wr.cell? ⟨bt, 0, none⟩ = some (.slice (some ⟨g, 0, none⟩) n c) := h5.box.cell 0
        rw [hqs] at n0
        by_cases hsy2 : (ndAt L j).sym = y
        ·subst hsy2
         have he5 : ((ndAt L j).sym != (ndAt L j).sym) = false := by simp
         have cD := XIH.out j hjm wr.drew (Xhr4.out.below le.drew) (Xhg4.out.below le.drew)
         have k5 := Xk134.out.below le (by omega)
         have g0' : wr.cell? ⟨w.heap.size, 0, none⟩ = some (.slice A1 G.terms.length c1) := k5.cell 0
         have g1' : wr.cell? ⟨w.heap.size, 1, none⟩ = some (.slice A2 G.nons.length c2) := k5.cell 1
         have g2' : wr.cell? ⟨w.heap.size, 2, none⟩ = some (.slice A3 G.rules.length c3) := k5.cell 2
         have g3' : wr.cell? ⟨w.heap.size, 3, none⟩ = some (.int .i64 st) := k5.cell 3
         have hrt2 : rt.take (k + 1) = (kids.take (k + 1)).map (fun k => (ndAt L k).sym) := by
          rw [List.take_add_one, List.take_add_one, hj, hy, List.map_append, hrt]; rfl
         have hal2 : (kids.take (k + 1)).all (derO G L) = derO G L j := by
          rw [List.take_add_one, hj, List.all_append, hal]; simp
         obtain ⟨dj, hdj⟩ : ∃ dj, dj = derO G L j := ⟨_, rfl⟩
         rw [← hdj] at cD hal2
         generalize (ndAt L j).sym = sj at *
         have led := le.drew
         clear hcc hcc2 hq hqs h5 le hrt hal k5
         have XcD := hide cD
         have Xhrt2 := hide hrt2
         have Xhal2 := hide hal2
         have Xhj := hide hj
         have Xhy := hide hy
         have Xhjm := hide hjm
         have Xled := hide led
         have Xhdj := hide hdj
         clear cD hrt2 hal2 hj hy hjm led hdj
         cases dj with
         | true =>
          go_wp2_with fail
          refine region_tail 26 (by kernel_rfl) (by kernel_rfl) ?_
          simp only [List.take_succ_cons, List.take_zero, List.drop_succ_cons, List.drop_zero]
          repeat still_step
          refine wpStill_nil ?_
          go_wp2_with fail
          refine XcD.out.mono ?_
          rintro e w6 ⟨rfl, b6⟩
          have le6 := Xled.out.trans (b6.mono Xled.out.size)
          clear XcD b6
          have Xle6 := hide le6
          clear le6
          go_wp2_with fail
          go_roundw
          case rel => exact ⟨k + 1, by omega, by go_num, Xle6.out, Xhrt2.out, Xhal2.out⟩
          case measure => simp [intOf]; omega
         | false =>
          have hno : derO G L i = false := by
           rw [Xhde2.out]
           have : kids.all (derO G L) = false := List.all_eq_false.2 ⟨j, Xhjm.out, by rw [← Xhdj.out]; decide⟩
           rw [this, Bool.and_false]
          have Xhno := hide hno
          clear hno
          go_wp2_with fail
          refine region_tail 26 (by kernel_rfl) (by kernel_rfl) ?_
          simp only [List.take_succ_cons, List.take_zero, List.drop_succ_cons, List.drop_zero]
          repeat still_step
          refine wpStill_nil ?_
          go_wp2_with fail
          refine XcD.out.mono ?_
          rintro e w6 ⟨rfl, b6⟩
          have le6 := Xb04.out.trans ((Xled.out.trans (b6.mono Xled.out.size)).mono Xb04.out.size)
          clear XcD b6
          have Xle6 := hide le6
          clear le6
          go_wp2_with fail
          go_ret
          exact ⟨ret_bool Xhno.out.symm, Xle6.out⟩
        ·have he5 : ((ndAt L j).sym == y) = false := by simpa using hsy2
         have hno : derO G L i = false := by
          rw [Xhde2.out, decide_eq_false (fun c => ?_)]
          ·rfl
          ·have e1 : (kids.map fun k => (ndAt L k).sym)[k]? = some y := by rw [← c]; exact hy
           rw [List.getElem?_map, hj] at e1
           injection e1 with e1
           exact hsy2 e1
         have he6 : ((ndAt L j).sym != y) = true := by simpa using hsy2
         generalize (ndAt L j).sym = sj at *
         have le5 := Xb04.out.trans (le.drew.mono Xb04.out.size)
         clear hcc hcc2 hq hqs h5 hsy2 le hrt hal hj hy hjm
         have Xhno := hide hno
         have Xle5 := hide le5
         clear hno le5
         go_wp2_with fail
         have SS : wr.drew.cell? ⟨bt, 0, none⟩ = some (.slice (some ⟨g, 0, none⟩) n c) ∧ wr.drew.cell? ⟨w.heap.size + 1, 3, none⟩ = some (.slice (some ⟨bb, off, none⟩) nr cz) ∧ wr.drew.cell? ⟨bb, off + k, none⟩ = some (.int .i64 j) ∧ wr.drew.cell? ⟨g, j.toNat * 4, none⟩ = some (.int .i64 sj) ∧ wr.drew.cell? ⟨w3.heap.size, 1, none⟩ = some (.slice (some ⟨b2, off2, none⟩) nr cr) ∧ wr.drew.cell? ⟨b2, off2 + k, none⟩ = some (.int .i64 y) := ⟨hb5, p35, hcx, n0, s15, hcy⟩
         clear hb5 p35 hcx n0 s15 hcy
         refine region_late2 (fun W => W.cell? ⟨bt, 0, none⟩ = some (.slice (some ⟨g, 0, none⟩) n c) ∧ W.cell? ⟨w.heap.size + 1, 3, none⟩ = some (.slice (some ⟨bb, off, none⟩) nr cz) ∧ W.cell? ⟨bb, off + k, none⟩ = some (.int .i64 j) ∧ W.cell? ⟨g, j.toNat * 4, none⟩ = some (.int .i64 sj) ∧ W.cell? ⟨w3.heap.size, 1, none⟩ = some (.slice (some ⟨b2, off2, none⟩) nr cr) ∧ W.cell? ⟨b2, off2 + k, none⟩ = some (.int .i64 y)) [0, 1, 2, 3, 4, 5, 6, 7, 8, 9, 10, 11, 12, 13, 14, 15, 16, 17, 18, 19, 20, 21, 22, 23, 24, 25] [] 26 (by kernel_rfl) (by kernel_rfl) SS ?_
         simp only [pickO, List.getElem?_cons_succ, List.getElem?_cons_zero, List.drop_succ_cons, List.drop_zero]
         refine wpHeld_cons ?_ (by rfl) (fun wS hwS => ?_) ?_
         rotate_left
         ·(try dsimp only at hwS)
          go_simp
          all_goals with_reducible rfl
         simp only [Act.put, List.setIfInBounds_toArray, List.set_cons_zero, List.set_cons_succ]
         refine wpHeld_cons ?_ (by rfl) (fun wS hwS => ?_) ?_
         rotate_left
         ·(try dsimp only at hwS)
          go_simp
          all_goals with_reducible rfl
         simp only [Act.put, List.setIfInBounds_toArray, List.set_cons_zero, List.set_cons_succ]
         refine wpHeld_cons ?_ (by rfl) (fun wS hwS => ?_) ?_
         rotate_left
         ·(try dsimp only at hwS)
          go_simp
          all_goals with_reducible rfl
         simp only [Act.put, List.setIfInBounds_toArray, List.set_cons_zero, List.set_cons_succ]
         refine wpHeld_cons ?_ (by rfl) (fun wS hwS => ?_) ?_
         rotate_left
         ·(try dsimp only at hwS)
          go_simp
          all_goals with_reducible rfl
         simp only [Act.put, List.setIfInBounds_toArray, List.set_cons_zero, List.set_cons_succ]
         refine wpHeld_cons ?_ (by rfl) (fun wS hwS => ?_) ?_
         rotate_left
         ·(try dsimp only at hwS)
          go_simp
          all_goals with_reducible rfl
         simp only [Act.put, List.setIfInBounds_toArray, List.set_cons_zero, List.set_cons_succ]
         refine wpHeld_cons ?_ (by rfl) (fun wS hwS => ?_) ?_
         rotate_left
         ·(try dsimp only at hwS)
          go_simp
          all_goals with_reducible rfl
         simp only [Act.put, List.setIfInBounds_toArray, List.set_cons_zero, List.set_cons_succ]
         refine wpHeld_cons ?_ (by rfl) (fun wS hwS => ?_) ?_
         rotate_left
         ·(try dsimp only at hwS)
          go_simp
          all_goals with_reducible rfl
         simp only [Act.put, List.setIfInBounds_toArray, List.set_cons_zero, List.set_cons_succ]
         refine wpHeld_cons ?_ (by rfl) (fun wS hwS => ?_) ?_
         rotate_left
         ·(try dsimp only at hwS)
          go_simp
          all_goals with_reducible rfl
         simp only [Act.put, List.setIfInBounds_toArray, List.set_cons_zero, List.set_cons_succ]
         refine wpHeld_cons ?_ (by rfl) (fun wS hwS => ?_) ?_
         rotate_left
         ·(try dsimp only at hwS)
          go_simp
          all_goals with_reducible rfl
         simp only [Act.put, List.setIfInBounds_toArray, List.set_cons_zero, List.set_cons_succ]
         refine wpHeld_cons ?_ (by rfl) (fun wS hwS => ?_) ?_
         rotate_left
         ·(try dsimp only at hwS)
          go_simp
          all_goals with_reducible rfl
         simp only [Act.put, List.setIfInBounds_toArray, List.set_cons_zero, List.set_cons_succ]
         refine wpHeld_cons ?_ (by rfl) (fun wS hwS => ?_) ?_
         rotate_left
         ·(try dsimp only at hwS)
          go_simp
          all_goals with_reducible rfl
         simp only [Act.put, List.setIfInBounds_toArray, List.set_cons_zero, List.set_cons_succ]
         refine wpHeld_cons ?_ (by rfl) (fun wS hwS => ?_) ?_
         rotate_left
         ·(try dsimp only at hwS)
          go_simp
          all_goals with_reducible rfl
         simp only [Act.put, List.setIfInBounds_toArray, List.set_cons_zero, List.set_cons_succ]
         refine wpHeld_cons ?_ (by rfl) (fun wS hwS => ?_) ?_
         rotate_left
         ·(try dsimp only at hwS)
          go_simp
          all_goals with_reducible rfl
         simp only [Act.put, List.setIfInBounds_toArray, List.set_cons_zero, List.set_cons_succ]
         refine wpHeld_cons ?_ (by rfl) (fun wS hwS => ?_) ?_
         rotate_left
         ·(try dsimp only at hwS)
          go_simp
          all_goals with_reducible rfl
         simp only [Act.put, List.setIfInBounds_toArray, List.set_cons_zero, List.set_cons_succ]
         refine wpHeld_cons ?_ (by rfl) (fun wS hwS => ?_) ?_
         rotate_left
         ·(try dsimp only at hwS)
          go_simp
          all_goals with_reducible rfl
         simp only [Act.put, List.setIfInBounds_toArray, List.set_cons_zero, List.set_cons_succ]
         refine wpHeld_cons ?_ (by rfl) (fun wS hwS => ?_) ?_
         rotate_left
         ·(try dsimp only at hwS)
          go_simp
          all_goals with_reducible rfl
         simp only [Act.put, List.setIfInBounds_toArray, List.set_cons_zero, List.set_cons_succ]
         refine wpHeld_cons ?_ (by rfl) (fun wS hwS => ?_) ?_
         rotate_left
         ·(try dsimp only at hwS)
          go_simp
          all_goals with_reducible rfl
         simp only [Act.put, List.setIfInBounds_toArray, List.set_cons_zero, List.set_cons_succ]
         refine wpHeld_cons ?_ (by rfl) (fun wS hwS => ?_) ?_
         rotate_left
         ·(try dsimp only at hwS)
          go_simp
          all_goals with_reducible rfl
         simp only [Act.put, List.setIfInBounds_toArray, List.set_cons_zero, List.set_cons_succ]
         refine wpHeld_cons ?_ (by rfl) (fun wS hwS => ?_) ?_
         rotate_left
         ·(try dsimp only at hwS)
          go_simp
          all_goals with_reducible rfl
         simp only [Act.put, List.setIfInBounds_toArray, List.set_cons_zero, List.set_cons_succ]
         refine wpHeld_off (by rfl) ?_
         simp only [Act.put, List.setIfInBounds_toArray, List.set_cons_zero, List.set_cons_succ]
         refine wpHeld_off (by rfl) ?_
         simp only [Act.put, List.setIfInBounds_toArray, List.set_cons_zero, List.set_cons_succ]
         refine wpHeld_off (by rfl) ?_
         simp only [Act.put, List.setIfInBounds_toArray, List.set_cons_zero, List.set_cons_succ]
         refine wpHeld_off (by rfl) ?_
         simp only [Act.put, List.setIfInBounds_toArray, List.set_cons_zero, List.set_cons_succ]
         refine wpHeld_off (by rfl) ?_
         simp only [Act.put, List.setIfInBounds_toArray, List.set_cons_zero, List.set_cons_succ]
         refine wpHeld_off (by rfl) ?_
         simp only [Act.put, List.setIfInBounds_toArray, List.set_cons_zero, List.set_cons_succ]
         refine wpHeld_off (by rfl) ?_
         simp only [Act.put, List.setIfInBounds_toArray, List.set_cons_zero, List.set_cons_succ]
         refine wpHeld_nil ?_
         refine wpMid_nil ?_
         clear SS
         go_wp2_with fail
         refine NoPanic.normal ?_
         go_wp2_with fail
         go_ret
         exact ⟨ret_bool Xhno.out.symm, Xle5.out⟩
       ·have hlt' : ¬ (k : Int) < (nr : Int) := by omega
        have e1 : rt.take k = rt := List.take_of_length_le (by have := Xhnr.out; omega)
        have e2 : kids.take k = kids := List.take_of_length_le (by have := Xhnz.out; omega)
        have hyes : derO G L i = true := by
         rw [e1, e2] at hrt
         rw [e2] at hal
         rw [Xhde2.out, hal, decide_eq_true hrt]; rfl
        have le5 := Xb04.out.trans (le.mono Xb04.out.size)
        clear le hrt hal e1 e2
        have Xhyes := hide hyes
        have Xle5 := hide le5
        clear hyes le5
        go_wp2_with fail
        go_ret
        exact ⟨ret_bool Xhyes.out.symm, Xle5.out⟩
     ·have heD : ((nr : Int) == (nz : Int)) = false := by simp; omega
      have hno : derO G L i = false := by
       rw [hde2, decide_eq_false (fun c => hD (by rw [Xhnr.out, c, List.length_map]; exact Xhnz.out.symm))]; rfl
      clear hr3 hg3 h3 rk3 k3 k13 b03 rr a4 k4 hde2
      have Xb04 := hide b04
      have Xhno := hide hno
      clear b04 hno
      go_wp2_with fail
      go_ret
      exact ⟨ret_bool Xhno.out.symm, Xb04.out⟩
    ·have heC : (l == xs) = false := by simpa using hC
     have hno : derO G L i = false := by rw [hde2, decide_eq_false hC]; rfl
     clear hr3 hg3 h3 rk3 k3 k13 b03 rr a4 k4 hde2 hC
     have Xb04 := hide b04
     have Xhno := hide hno
     clear b04 hno
     go_wp2_with fail
     go_ret
     exact ⟨ret_bool Xhno.out.symm, Xb04.out⟩
theorem ref19_derived (hL : Tr L) (st : Int) : ∀ (f : Nat) (i : Int) (w : World), i.toNat < f → inN L.length i = true → RAr w bt S L → IsGram w F vt vn vr G → Calls Tryz.prog 42 #[.pointer (some ⟨bt, 0, none⟩), GV vt vn vr st, .int .i64 i] w (Quiet w (.bool (derO G L i)))
 | 0, i, w, hf, _, h, hg => absurd hf (by omega)
 | f + 1, i, w, hf, hi, hr, hg => ref19_derived_step hL st f (fun i w => ref19_derived hL st f i w) i w hf hi hr hg
end
end Go.Proofs.YtacankgalkffmaaGreat

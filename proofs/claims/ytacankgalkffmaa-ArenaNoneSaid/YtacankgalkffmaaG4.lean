/- Ordered. -/
import Derived.Test.YtacankgalkffmaaG1
import Derived.Test.YtacankgalkffmaaRegion
namespace Go.Proofs.Ytacankgalkffmaa
set_option linter.unusedVariables false
section
section
open Go.RowKit
def firstAt (G : GramD) (i : Nat) : Int := if firstBy (fun r => decide (r.1 = (G.terms.length : Int) + 1 + i)) G.rules < 0 then (G.rules.length : Int) else firstBy (fun r => decide (r.1 = (G.terms.length : Int) + 1 + i)) G.rules
def firstsOf (G : GramD) (k : Nat) : List Int := (List.range k).map (firstAt G)
theorem firstsOf_succ (G : GramD) (k : Nat) : firstsOf G (k + 1) = firstsOf G k ++ [firstAt G k] := by
 unfold firstsOf; rw [List.range_succ, List.map_append]; rfl
theorem firstsOf_len (G : GramD) (k : Nat) : (firstsOf G k).length = k := by unfold firstsOf; simp
end
section
open Go.RowKit
end
section
open Go.RowKit
theorem ofUpto_head {rs : List (Int × List Int)} {s : Int} : ∀ k : Nat, k ≤ rs.length →
  (ofUpto rs s k = [] ∧ ∀ (j : Nat) y, j < k → rs[j]? = some y → y.1 ≠ s) ∨
  (∃ i : Nat, i < k ∧ (ofUpto rs s k)[0]? = some (i : Int) ∧ (∃ x, rs[i]? = some (s, x)) ∧ ∀ (j : Nat) y, j < i → rs[j]? = some y → y.1 ≠ s)
 | 0, _ => .inl ⟨rfl, fun j y hj => absurd hj (by omega)⟩
 | k + 1, hk => by
  obtain ⟨⟨l, x⟩, hx⟩ : ∃ x, rs[k]? = some x := ⟨_, List.getElem?_eq_getElem (by omega)⟩
  rcases ofUpto_head (rs := rs) (s := s) k (by omega) with ⟨he, hno⟩ | ⟨i, hi, h0, hs, hno⟩
  ·by_cases hl : l = s
   ·subst hl
    refine .inr ⟨k, by omega, ?_, ⟨x, hx⟩, fun j y hj hy => hno j y hj hy⟩
    rw [ofUpto_yes hx, he]; rfl
   ·refine .inl ⟨by rw [ofUpto_no hx hl, he], fun j y hj hy => ?_⟩
    by_cases hjk : j = k
    ·subst hjk; rw [hx] at hy; injection hy with hy; rw [← hy]; exact hl
    ·exact hno j y (by omega) hy
  ·refine .inr ⟨i, by omega, ?_, hs, hno⟩
   by_cases hl : l = s
   ·subst hl
    have hne : 0 < (ofUpto rs l k).length := (List.getElem?_eq_some_iff.1 h0).1
    rw [ofUpto_yes hx, List.getElem?_append_left hne, h0]
   ·rw [ofUpto_no hx hl, h0]
theorem first_of {G : GramD} {k : Nat} : (ofOf G ((G.terms.length : Int) + 1 + k) = [] ∧ firstAt G k = (G.rules.length : Int)) ∨ ((ofOf G ((G.terms.length : Int) + 1 + k))[0]? = some (firstAt G k) ∧ 0 ≤ firstAt G k ∧ firstAt G k < (G.rules.length : Int)) := by
 have hd : firstAt G k = (if firstBy (fun r => decide (r.1 = (G.terms.length : Int) + 1 + k)) G.rules < 0 then (G.rules.length : Int) else firstBy (fun r => decide (r.1 = (G.terms.length : Int) + 1 + k)) G.rules) := rfl
 rcases ofUpto_head (rs := G.rules) (s := (G.terms.length : Int) + 1 + k) G.rules.length (Nat.le_refl _) with ⟨he, hno⟩ | ⟨i, hi, h0, ⟨x, hx⟩, hno⟩
 ·left
  refine ⟨he, ?_⟩
  have := firstBy_miss (p := fun r : Int × List Int => decide (r.1 = (G.terms.length : Int) + 1 + k)) (xs := G.rules) (fun j y hy => by
   have := hno j y (List.getElem?_eq_some_iff.1 hy).1 hy
   simpa using this)
  rw [hd, this]; rfl
 ·right
  have := firstBy_hit (p := fun r : Int × List Int => decide (r.1 = (G.terms.length : Int) + 1 + k)) (xs := G.rules) hx (by simp) (fun j y hj hy => by
   have := hno j y hj hy
   simpa using this)
  have e : firstAt G k = (i : Int) := by rw [hd, this, if_neg (by omega)]
  rw [e]
  exact ⟨h0, by omega, by omega⟩
def lastAt (G : GramD) (k : Nat) : Int := if k = 0 then -1 else firstAt G (k - 1)
theorem sorted_firsts {G : GramD} {N : Nat} : sortedL (firstsOf G N) = true ↔ ∀ j : Nat, j + 1 < N → ¬ firstAt G (j + 1) < firstAt G j := by
 rw [sortedL_iff, firstsOf_len]
 unfold firstsOf
 constructor
 ·intro h j hj
  have := h j hj
  rw [List.getElem?_map, List.getElem?_map, List.getElem?_range (by omega), List.getElem?_range (by omega)] at this
  exact this
 ·intro h j hj
  rw [List.getElem?_map, List.getElem?_map, List.getElem?_range (by omega), List.getElem?_range (by omega)]
  exact h j hj
end
section
open Go.RowKit
end
end
section
section
open Go.RowKit
theorem Try.enters_short : Enters Try.prog 33 := enters_of Try.func33 (by kernel_rfl) rfl
theorem short_clo {w : World} {F : Nat → Prop} : PredR w F 33 #[] (fun r => decide (r.2.length ≤ 8)) := by
 intro W v r hW hr
 obtain ⟨A, n, c, rfl, _⟩ := id hr
 obtain ⟨hn, hnc, hcm, _⟩ := hr.at_
 unfold maxLen at hcm
 have b2 : Below W.heap.size W (W.alloc (.cells #[.int .i64 r.1, .slice A n c] 57)) := (Below.refl _ W).alloc (Nat.le_refl _) _
 have HB := hide b2
 have HN := hide hn
 show Calls Try.prog 33 #[.agg #[.int .i64 r.1, .slice A n c]] W _
 obtain ⟨l, hl⟩ : ∃ l, l = r.1 := ⟨_, rfl⟩
 rw [← hl] at HB ⊢
 clear hW b2 hr hl hn
 go_enter Try.func33, Try.ntmps33
 go_wp2
 go_ret
 exact ⟨ret_bool (by rw [← HN.out]; by_cases e : n ≤ 8 <;> simp [e] <;> omega), HB.out⟩
theorem Try.enters_known1 : Enters Try.prog 61 := enters_of Try.func61 (by kernel_rfl) rfl
theorem known_clo {w : World} {F : Nat → Prop} {vt vn vr : Value} {G : GramD} {st : Int} {B : Nat} (h : IsGram w F vt vn vr G) (k1 : Blk w B 43 #[vt, vn, vr, .int .i64 st]) :
  PredV w 61 #[.pointer (some ⟨B, 0, none⟩)] (Value.int .i64) (fun s => isTerm G s || isNon G s) := by
 intro W s hW
 have h1 := h.below hW
 have ct := gram_term h1 st s
 have cn : ∀ wr, Below W.heap.size W wr → Calls Try.prog 40 #[GV vt vn vr st, .int .i64 s] wr (Quiet wr (.bool (isNon G s))) := fun wr hb => gram_non (h1.below hb) st s
 have k2 := k1.below hW k1.lt
 have hB := k2.lt
 have cl : ∀ wr, Below W.heap.size W wr → ∀ i v, (#[vt, vn, vr, Value.int .i64 st] : Array Value)[i]? = some v → wr.cell? ⟨B, i, none⟩ = some v := fun wr hb i v e => ((k2.below hb hB).cell i).trans e
 have p0 := cl W (Below.refl _ _) 0 _ rfl
 have p1 := cl W (Below.refl _ _) 1 _ rfl
 have p2 := cl W (Below.refl _ _) 2 _ rfl
 have p3 := cl W (Below.refl _ _) 3 _ rfl
 show Calls Try.prog 61 #[.int .i64 s, .pointer (some ⟨B, 0, none⟩)] W (Quiet W (.bool (isTerm G s || isNon G s)))
 obtain ⟨A1, c1, A2, c2, A3, c3, rfl, rfl, rfl, _⟩ := h.slices
 generalize isTerm G s = it at *
 generalize isNon G s = ino at *
 have CT := hide ct
 have CN := hide cn
 have CL := hide cl
 clear ct cn cl k1 k2 h1 h hW
 go_enter Try.func61, Try.ntmps61
 go_wp2_with fail
 refine CT.out.mono ?_
 rintro e w2 ⟨rfl, b2⟩
 have q0 := CL.out w2 b2 0 _ rfl
 have q1 := CL.out w2 b2 1 _ rfl
 have q2 := CL.out w2 b2 2 _ rfl
 have q3 := CL.out w2 b2 3 _ rfl
 cases it with
 | true =>
  go_wp2_with fail
  go_ret
  exact ⟨rfl, b2⟩
 | false =>
  go_wp2_with fail
  refine (CN.out w2 b2).mono ?_
  rintro e w3 ⟨rfl, b3⟩
  go_wp2_with fail
  go_ret
  exact ⟨ret_bool (by cases ino <;> rfl), b2.trans (b3.mono b2.size)⟩
end
section
open Go.RowKit
def knownOf (G : GramD) (r : Int × List Int) : Bool := isNon G r.1 && r.2.all (fun s => isTerm G s || isNon G s)
set_option maxHeartbeats 1000000 in
theorem gram_known {w : World} {F F' : Nat → Prop} {vt vn vr v : Value} {G : GramD} {l : Int} {xs : List Int} (h : IsGram w F vt vn vr G) (st : Int) (hr : RdI w F' v xs) (hF : ∀ b, F' b → b < w.heap.size) :
  Calls Try.prog 42 #[GV vt vn vr st, .agg #[.int .i64 l, v]] w (Quiet w (.bool (knownOf G (l, xs)))) := by
 obtain ⟨w2, hw2⟩ : ∃ w2, w2 = (w.alloc (.cells #[vt, vn, vr, .int .i64 st] 43)).alloc (.cells #[.int .i64 l, v] 57) := ⟨_, rfl⟩
 have B0 : Below w.heap.size w w2 := by rw [hw2]; exact ((Below.refl _ w).alloc (Nat.le_refl _) _).alloc (by simp) _
 have h2 := h.below B0
 have r2 := hr.below B0 hF
 have k1 : Blk w2 w.heap.size 43 #[vt, vn, vr, .int .i64 st] := by rw [hw2]; exact (Blk.new w _ _).alloc _
 have k2 : Blk w2 (w.heap.size + 1) 57 #[.int .i64 l, v] := by
  rw [hw2]
  have := Blk.new (w.alloc (.cells #[vt, vn, vr, .int .i64 st] 43)) 57 #[.int .i64 l, v]
  simpa using this
 have cn := gram_non h2 st l
 have ca : ∀ wr, Below w2.heap.size w2 wr → Calls Try.prog 60 #[v, .func (.func 61) #[] #[.pointer (some ⟨w.heap.size, 0, none⟩)]] wr (Quiet wr (.bool (xs.all (fun s => isTerm G s || isNon G s)))) := fun wr hb =>
  all_ints (r2.below (hb.mono B0.size) hF) (fun b e => Nat.lt_of_lt_of_le (hF b e) (Nat.le_trans B0.size hb.size)) Try.enters_known1 (known_clo (h2.below hb) (k1.below hb k1.lt))
 have cl2 : ∀ wr, Below w2.heap.size w2 wr → ∀ i v', (#[Value.int .i64 l, v] : Array Value)[i]? = some v' → wr.cell? ⟨w.heap.size + 1, i, none⟩ = some v' := fun wr hb i v e => ((k2.below hb k2.lt).cell i).trans e
 have hko : knownOf G (l, xs) = (isNon G l && xs.all (fun s => isTerm G s || isNon G s)) := rfl
 obtain ⟨A1, c1, A2, c2, A3, c3, rfl, rfl, rfl, _⟩ := h.slices
 obtain ⟨A, n, c, rfl, _⟩ := id hr
 generalize isNon G l = q1 at *
 generalize xs.all (fun s => isTerm G s || isNon G s) = q2 at *
 have HKO := hide hko
 have CN := hide cn
 have CA := hide ca
 have C2 := hide cl2
 have HB := hide B0
 have hz := B0.size
 have hmf : ∀ (fn : Fn) (first cap : Array Value) (w : World), (Instr.makeFunc fn first cap).run Try.prog w = .ok (.func fn first cap) w := fun _ _ _ _ => rfl
 clear hko cn ca cl2 k1 k2 h2 h r2 hr B0
 rw [hw2] at CN CA C2 HB
 clear hw2 hz
 go_enter Try.func42, Try.ntmps42
 go_wp2_with fail
 refine CN.out.mono ?_
 rintro e w3 ⟨rfl, b3⟩
 have m1 := C2.out w3 b3 1 _ rfl
 cases q1 with
 | false =>
  go_wp2_with fail
  go_ret
  exact ⟨ret_bool (by rw [HKO.out]; rfl), HB.out.trans (b3.mono HB.out.size)⟩
 | true =>
  go_wp2_with fail
  refine (CA.out _ b3).mono ?_
  rintro e w4 ⟨rfl, b4⟩
  go_wp2_with fail
  go_ret
  exact ⟨ret_bool (by rw [HKO.out]; cases q2 <;> rfl), HB.out.trans ((b3.trans (b4.mono b3.size)).mono HB.out.size)⟩
theorem Try.enters_known3 : Enters Try.prog 41 := enters_of Try.func41 (by kernel_rfl) rfl
theorem known3_clo {w : World} {F F' : Nat → Prop} {vt vn vr : Value} {G : GramD} {st : Int} {B : Nat} (h : IsGram w F vt vn vr G) (k1 : Blk w B 43 #[vt, vn, vr, .int .i64 st]) (hF : ∀ b, F' b → b < w.heap.size) :
  PredR w F' 41 #[.pointer (some ⟨B, 0, none⟩)] (fun r => knownOf G r) := by
 intro W v r hW hr
 obtain ⟨W2, hW2⟩ : ∃ W2, W2 = W.alloc (.cells #[.int .i64 r.1, v] 57) := ⟨_, rfl⟩
 have b2 : Below W.heap.size W W2 := by rw [hW2]; exact (Below.refl _ W).alloc (Nat.le_refl _) _
 have hFW : ∀ b, F' b → b < W.heap.size := fun b e => Nat.lt_of_lt_of_le (hF b e) hW.size
 have hk := gram_known (l := r.1) (h.below (hW.trans (b2.mono hW.size))) st (hr.below b2 hFW) (fun b e => Nat.lt_of_lt_of_le (hFW b e) b2.size)
 have k2 := (k1.below hW k1.lt).below b2 (k1.below hW k1.lt).lt
 have k3 := k1.below hW k1.lt
 have hB := k3.lt
 have cl : ∀ i v', (#[vt, vn, vr, Value.int .i64 st] : Array Value)[i]? = some v' → W2.cell? ⟨B, i, none⟩ = some v' := fun i v e => (k2.cell i).trans e
 have p0 := cl 0 _ rfl
 have p1 := cl 1 _ rfl
 have p2 := cl 2 _ rfl
 have p3 := cl 3 _ rfl
 obtain ⟨A1, c1, A2, c2, A3, c3, rfl, rfl, rfl, _⟩ := h.slices
 obtain ⟨A, n, c, rfl, _⟩ := id hr
 rw [hW2] at hk p0 p1 p2 p3 b2
 show Calls Try.prog 41 #[.agg #[.int .i64 r.1, .slice A n c], .pointer (some ⟨B, 0, none⟩)] W (Quiet W (.bool (knownOf G (r.1, r.2))))
 obtain ⟨l, hl⟩ : ∃ l, l = r.1 := ⟨_, rfl⟩
 rw [← hl] at hk p0 p1 p2 p3 b2 ⊢
 generalize knownOf G (l, r.2) = q at *
 have HK := hide hk
 have HB := hide b2
 clear hW b2 hr hl hk k1 k2 k3 h cl hW2 hF hFW
 go_enter Try.func41, Try.ntmps41
 go_wp2_with fail
 refine HK.out.mono ?_
 rintro e w3 ⟨rfl, b3⟩
 go_wp2_with fail
 go_ret
 exact ⟨rfl, HB.out.trans (b3.mono HB.out.size)⟩
end
section
open Go.RowKit
def shortOf (G : GramD) : Bool := G.rules.all (fun r => decide (r.2.length ≤ 8))
def manyOf (G : GramD) : Bool := !shortOf G || (decide (120 < G.terms.length) || (decide (120 < G.nons.length) || decide (300 < G.rules.length)))
end
section
open Go.RowKit
theorem Try.enters_unlike1 : Enters Try.prog 62 := enters_of Try.func62 (by kernel_rfl) rfl
set_option maxRecDepth 100000 in
set_option maxHeartbeats 1000000 in
theorem unlike_clo {w : World} {F F' : Nat → Prop} {rs : List (Int × List Int)} {v : Value} {i : Nat} {ri : Int × List Int} {C1 C2 C3 : Nat} (k1 : Blk w C1 84 #[.func (.func 44) #[] #[]]) (k2 : Blk w C2 41 #[v]) (k3 : Blk w C3 3 #[.int .i64 i])
  (h : RdR w F' v rs) (hi : rs[i]? = some ri) (hF : ∀ b, F b → b < w.heap.size) (hF' : ∀ b, F' b → b < w.heap.size) :
  PredR w F 62 #[.pointer (some ⟨C1, 0, none⟩), .pointer (some ⟨C2, 0, none⟩), .pointer (some ⟨C3, 0, none⟩)] (fun r => decide (r = ri)) := by
 intro W u r hW hr
 have hil := (List.getElem?_eq_some_iff.1 hi).1
 obtain ⟨W2, hW2⟩ : ∃ W2, W2 = W.alloc (.cells #[.int .i64 r.1, u] 57) := ⟨_, rfl⟩
 have b2 : Below W.heap.size W W2 := by rw [hW2]; exact (Below.refl _ W).alloc (Nat.le_refl _) _
 have hb2 := hW.trans (b2.mono hW.size)
 have p1 : W2.cell? ⟨C1, 0, none⟩ = some (.func (.func 44) #[] #[]) := ((k1.below hb2 k1.lt).cell 0).trans rfl
 have p2 : W2.cell? ⟨C2, 0, none⟩ = some v := ((k2.below hb2 k2.lt).cell 0).trans rfl
 have p3 : W2.cell? ⟨C3, 0, none⟩ = some (.int .i64 i) := ((k3.below hb2 k3.lt).cell 0).trans rfl
 obtain ⟨A3, c3, rfl, _⟩ := id h
 obtain ⟨-, hnc, hcm, hcell⟩ := ERule.at_ h
 obtain ⟨b, off, rfl, hb, hc⟩ := hcell (by omega)
 obtain ⟨l, x, vx, hx, hx0, hx1, hxr⟩ := RdR.get (n := rs.length) hF' hb hb2 hc (k := i) hil
 rw [hi] at hx
 injection hx with hx
 obtain ⟨A5, n5, c5, rfl, _⟩ := id hxr
 obtain ⟨A, n, c, rfl, _⟩ := id hr
 have hzW : w.heap.size ≤ W2.heap.size := hb2.size
 have hs : ∀ q, Calls Try.prog 44 #[.agg #[.int .i64 r.1, .slice A n c], .agg #[.int .i64 l, .slice A5 n5 c5]] (W2.drewN q) (Quiet (W2.drewN q) (.bool (decide ((r.1, r.2) = (l, x))))) := fun q =>
  same_rule ((hr.below b2 (fun b e => Nat.lt_of_lt_of_le (hF b e) hW.size)).drewN q) (hxr.drewN q) (fun b e => Nat.lt_of_lt_of_le (hF b e) hzW) (fun b e => Nat.lt_of_lt_of_le (hF' b e) hzW)
 have hR : decide ((r.1, r.2) = (l, x)) = decide (r = ri) := by rw [hx]
 have eg := Try.enters_same
 have hl1 : (i : Int) < (rs.length : Int) := by omega
 show Calls Try.prog 62 #[.agg #[.int .i64 r.1, .slice A n c], .pointer (some ⟨C1, 0, none⟩), .pointer (some ⟨C2, 0, none⟩), .pointer (some ⟨C3, 0, none⟩)] W (Quiet W (.bool (decide (r = ri))))
 rw [hR] at hs
 generalize decide (r = ri) = q at *
 obtain ⟨rl, hrl⟩ : ∃ rl, rl = r.1 := ⟨_, rfl⟩
 rw [← hrl] at hs hW2 ⊢
 obtain ⟨R, hRR⟩ : ∃ R, R = rs.length := ⟨_, rfl⟩
 rw [← hRR] at p2 hl1 hnc
 have HS := hide hs
 have HB := hide b2
 unfold maxLen at hcm
 clear hs hR hx hi hil hr hxr hrl hRR k1 k2 k3 hc hcell h hb hW b2 hF hF' hb2 hzW
 rw [hW2] at HS HB p1 p2 p3 hx0 hx1
 clear hW2
 go_enter Try.func62, Try.ntmps62
 go_wp2_with fail
 refine region_tail 6 (by kernel_rfl) (by kernel_rfl) ?_
 simp only [List.take_succ_cons, List.take_zero, List.drop_succ_cons, List.drop_zero]
 repeat still_step
 refine wpStill_nil ?_
 go_wp2_with (go_at_call 44; refine (HS.out _).mono ?_; rintro e w5 ⟨rfl, b5⟩)
 go_ret
 exact ⟨rfl, (below_drewN HB.out 1).trans (b5.mono HB.out.size)⟩
end
section
open Go.RowKit
theorem RdR.take {w : World} {F : Nat → Prop} {A : Option Addr} {n c k : Nat} {rs : List (Int × List Int)} (h : RdR w F (.slice A n c) rs) (hk : k ≤ n) : RdR w F (.slice A k c) (rs.take k) := by
 obtain ⟨A', c', e, h1, h2, hr⟩ := h
 injection e with e1 e2 e3
 subst e1 e2 e3
 refine ⟨A, c, by rw [List.length_take, Nat.min_eq_left hk], by rw [List.length_take]; omega, h2, fun hn => ?_⟩
 rw [List.length_take] at hn
 obtain ⟨b, off, hA, hF, hc⟩ := hr (by omega)
 refine ⟨b, off, hA, hF, fun i x hx => hc i x ?_⟩
 have hi := (List.getElem?_eq_some_iff.1 hx).1
 rw [List.length_take] at hi
 rw [List.getElem?_take_of_lt (by omega)] at hx
 exact hx
def unlikeUpto (rs : List (Int × List Int)) (k : Nat) : Bool := (List.range k).all (fun i => !(rs.take i).any (fun r => decide (some r = rs[i]?)))
def unlikeOf (rs : List (Int × List Int)) : Bool := unlikeUpto rs rs.length
theorem unlikeUpto_succ {rs : List (Int × List Int)} {k : Nat} {ri : Int × List Int} (h : rs[k]? = some ri) : unlikeUpto rs (k + 1) = (unlikeUpto rs k && !(rs.take k).any (fun r => decide (r = ri))) := by
 unfold unlikeUpto
 rw [List.range_succ, List.all_append]
 simp [h]
end
section
open Go.RowKit
theorem unlikeUpto_mono {rs : List (Int × List Int)} {k n : Nat} (hk : k ≤ n) (h : unlikeUpto rs k = false) : unlikeUpto rs n = false := by
 unfold unlikeUpto at *
 rw [List.all_eq_false] at *
 obtain ⟨i, hi, e⟩ := h
 rw [List.mem_range] at hi
 exact ⟨i, List.mem_range.2 (by omega), e⟩
set_option maxRecDepth 100000 in
set_option maxHeartbeats 1000000 in
theorem gram_unlike {w : World} {F : Nat → Prop} {v : Value} {rs : List (Int × List Int)} (h : RdR w F v rs) (hF : ∀ b, F b → b < w.heap.size) :
  Calls Try.prog 43 #[v, .func (.func 44) #[] #[]] w (Quiet w (.bool (unlikeOf rs))) := by
 obtain ⟨A, c, rfl, _⟩ := id h
 obtain ⟨-, hnc, hcm, -⟩ := ERule.at_ h
 obtain ⟨n, en⟩ : ∃ n, n = rs.length := ⟨_, rfl⟩
 have hend : unlikeUpto rs n = unlikeOf rs := by rw [en]; rfl
 rw [← en] at hnc h ⊢
 unfold maxLen at hcm
 obtain ⟨w2, hw2⟩ : ∃ w2, w2 = (w.alloc (.cells #[.slice A n c] 41)).alloc (.cells #[.func (.func 44) #[] #[]] 84) := ⟨_, rfl⟩
 have B0 : Below w.heap.size w w2 := by rw [hw2]; exact ((Below.refl _ w).alloc (Nat.le_refl _) _).alloc (by simp) _
 have k1 : Blk w2 w.heap.size 41 #[.slice A n c] := by rw [hw2]; exact (Blk.new w _ _).alloc _
 have k2 : Blk w2 (w.heap.size + 1) 84 #[.func (.func 44) #[] #[]] := by
  rw [hw2]
  have := Blk.new (w.alloc (.cells #[.slice A n c] 41)) 84 #[.func (.func 44) #[] #[]]
  simpa using this
 have con : ∀ (wr : World) (k : Nat) (ri : Int × List Int), k ≤ n → rs[k]? = some ri → Below w2.heap.size w2 wr → Calls Try.prog 53 #[.slice A k c, .func (.func 62) #[] #[.pointer (some ⟨w.heap.size + 1, 0, none⟩), .pointer (some ⟨w.heap.size, 0, none⟩), .pointer (some ⟨wr.heap.size, 0, none⟩)]] (wr.alloc (.cells #[.int .i64 k] 3)) (Quiet (wr.alloc (.cells #[.int .i64 k] 3)) (.bool ((rs.take k).any (fun r => decide (r = ri))))) := fun wr k ri hk hi hb => by
  have hb' := hb.alloc hb.size (.cells #[.int .i64 k] 3)
  have h3 := h.below (B0.trans (hb'.mono B0.size)) hF
  have hl : ∀ b, F b → b < (wr.alloc (.cells #[.int .i64 k] 3)).heap.size := fun b e => Nat.lt_of_lt_of_le (hF b e) (Nat.le_trans B0.size hb'.size)
  exact contains_rules (h3.take hk) hl Try.enters_unlike1 (unlike_clo (k2.below hb' k2.lt) (k1.below hb' k1.lt) (Blk.new wr _ _) h3 hi hl hl)
 have q1 : ∀ wr, Below w2.heap.size w2 wr → wr.cell? ⟨w.heap.size, 0, none⟩ = some (.slice A n c) := fun wr hb => ((k1.below hb k1.lt).cell 0).trans rfl
 have z0 : w2.heap.size = w.heap.size + 2 := by rw [hw2]; simp
 have HN := hide en
 have HE := hide hend
 have CON := hide con
 have Q1 := hide q1
 have HB := hide B0
 have HW2 := hide hw2
 clear h en hend con q1 k1 k2 B0 hF
 go_enter Try.func43, Try.ntmps43
 go_wp2_with fail
 rw [← hw2]
 clear hw2
 go_loopw [8] (fun i wr => ∃ k : Nat, k ≤ n ∧ i = .int .i64 k ∧ unlikeUpto rs k = true ∧ Below w2.heap.size w2 wr) (fun i _ => n - (intOf i).toNat)
 case atStart => exact ⟨0, Nat.zero_le _, rfl, rfl, Below.refl _ _⟩
 case round =>
  obtain ⟨k, hk, rfl, hu, hw⟩ := hrel
  have HU := hide hu
  have HW := hide hw
  have r1 := Q1.out wr hw
  have hwz := hw.size
  have r2 := cell_a r1 (.cells #[.int .i64 k] 3)
  clear hu
  by_cases hlt : k < n
  ·obtain ⟨ri, hi⟩ : ∃ x, rs[k]? = some x := ⟨_, List.getElem?_eq_getElem (by rw [← HN.out]; omega)⟩
   have hc := CON.out wr k ri hk hi hw
   have hsu := unlikeUpto_succ hi
   rw [HU.out] at hsu
   have HI := hide hi
   generalize (rs.take k).any (fun r => decide (r = ri)) = q at hc hsu
   have HC := hide hc
   have HS := hide hsu
   have b1 : Below wr.heap.size wr (wr.alloc (.cells #[.int .i64 k] 3)) := (Below.refl _ wr).alloc (Nat.le_refl _) _
   have HB1 := hide b1
   have hmf : ∀ (fn : Fn) (first cap : Array Value) (w : World), (Instr.makeFunc fn first cap).run Try.prog w = .ok (.func fn first cap) w := fun _ _ _ _ => rfl
   clear hc hsu hi hw b1
   go_wp2_with fail
   refine HC.out.mono ?_
   rintro e w3 ⟨rfl, b3⟩
   have b4 := HB1.out.trans (b3.mono HB1.out.size)
   cases q with
   | true =>
    go_wp2_with fail
    go_ret
    exact ⟨ret_bool (by rw [← HE.out]; exact (unlikeUpto_mono (k := k + 1) (by omega) (by rw [HS.out]; rfl)).symm), HB.out.trans ((HW.out.trans (b4.mono hwz)).mono HB.out.size)⟩
   | false =>
    go_wp2_with fail
    go_roundw
    case rel => exact ⟨k + 1, by omega, by go_num, by rw [HS.out]; rfl, HW.out.trans (b4.mono hwz)⟩
    case measure => simp [intOf]; omega
  ·have hkn : k = n := by omega
   clear hw
   go_wp2_with fail
   go_ret
   exact ⟨ret_bool (by rw [← HE.out, ← hkn]; exact HU.out.symm), HB.out.trans (HW.out.mono HB.out.size)⟩
end
end
section
section
open Go.RowKit
structure GBox (w : World) (F : Nat → Prop) (B : Nat) (A1 : Option Addr) (c1 : Nat) (A2 : Option Addr) (c2 : Nat) (A3 : Option Addr) (c3 T N R : Nat) (st : Int) (G : GramD) : Prop where
 gram : IsGram w F (.slice A1 T c1) (.slice A2 N c2) (.slice A3 R c3) G
 blk : Blk w B 43 #[.slice A1 T c1, .slice A2 N c2, .slice A3 R c3, .int .i64 st]
 t : T = G.terms.length
 n : N = G.nons.length
 r : R = G.rules.length
 tc : T ≤ c1
 nc : N ≤ c2
 rc : R ≤ c3
 c1m : c1 ≤ 9223372036854775807
 c2m : c2 ≤ 9223372036854775807
 c3m : c3 ≤ 9223372036854775807
 ts : T ≤ 8796093022207
 ns : N ≤ 8796093022207
 rs : R ≤ 4398046511103
section
variable {w w' : World} {F : Nat → Prop} {B : Nat} {A1 A2 A3 : Option Addr} {c1 c2 c3 T N R : Nat} {st : Int} {G : GramD}
theorem GBox.below (h : GBox w F B A1 c1 A2 c2 A3 c3 T N R st G) (hb : Below w.heap.size w w') : GBox w' F B A1 c1 A2 c2 A3 c3 T N R st G :=
 ⟨h.gram.below hb, h.blk.below hb h.blk.lt, h.t, h.n, h.r, h.tc, h.nc, h.rc, h.c1m, h.c2m, h.c3m, h.ts, h.ns, h.rs⟩
theorem GBox.drewN (h : GBox w F B A1 c1 A2 c2 A3 c3 T N R st G) (q : Nat) : GBox (w.drewN q) F B A1 c1 A2 c2 A3 c3 T N R st G :=
 h.below (below_drewN (Below.refl _ _) q)
theorem GBox.cells (h : GBox w F B A1 c1 A2 c2 A3 c3 T N R st G) : w.cell? ⟨B, 0, none⟩ = some (.slice A1 T c1) ∧ w.cell? ⟨B, 1, none⟩ = some (.slice A2 N c2) ∧ w.cell? ⟨B, 2, none⟩ = some (.slice A3 R c3) ∧ w.cell? ⟨B, 3, none⟩ = some (.int .i64 st) :=
 ⟨(h.blk.cell 0).trans rfl, (h.blk.cell 1).trans rfl, (h.blk.cell 2).trans rfl, (h.blk.cell 3).trans rfl⟩
theorem GBox.rule (h : GBox w F B A1 c1 A2 c2 A3 c3 T N R st G) {k : Nat} (hk : k < R) : ∃ (b off : Nat) (l : Int) (x : List Int) (A : Option Addr) (n c : Nat), A3 = some ⟨b, off, none⟩ ∧ b < w.heap.size ∧ G.rules[k]? = some (l, x) ∧ w.cell? ⟨b, off + k * 2, none⟩ = some (.int .i64 l) ∧ w.cell? ⟨b, off + k * 2 + 1, none⟩ = some (.slice A n c) ∧ RdI w F (.slice A n c) x ∧ n = x.length ∧ n ≤ c ∧ c ≤ 9223372036854775807 := by
 obtain ⟨-, -, -, hcell⟩ := ERule.at_ h.gram.rules
 obtain ⟨b, off, hA, hb, hc⟩ := hcell (by omega)
 obtain ⟨l, x, v, hx, h0, h1, hr⟩ := RdR.get (n := R) h.gram.lt hb (Below.refl _ w) hc (k := k) (by rw [← h.r]; exact hk)
 obtain ⟨A, n, c, rfl, _⟩ := id hr
 obtain ⟨hn, hnc, hcm, -⟩ := RdI.at_ hr
 exact ⟨b, off, l, x, A, n, c, hA, h.gram.lt b hb, hx, h0, h1, hr, hn, hnc, hcm⟩
theorem GBox.new (h : IsGram w F (.slice A1 T c1) (.slice A2 N c2) (.slice A3 R c3) G) (st : Int) : GBox (w.alloc (.cells #[.slice A1 T c1, .slice A2 N c2, .slice A3 R c3, .int .i64 st] 43)) F w.heap.size A1 c1 A2 c2 A3 c3 T N R st G := by
 have hb : Below w.heap.size w (w.alloc (.cells #[.slice A1 T c1, .slice A2 N c2, .slice A3 R c3, .int .i64 st] 43)) := (Below.refl _ w).alloc (Nat.le_refl _) _
 obtain ⟨a1, d1, a2, d2, a3, d3, e1, e2, e3, l1, l2, l3, m1, m2, m3⟩ := h.slices
 injection e1 with e1 f1 g1
 injection e2 with e2 f2 g2
 injection e3 with e3 f3 g3
 obtain ⟨s1, s2, s3⟩ := h.small
 exact ⟨h.below hb, Blk.new w _ _, f1, f2, f3, by omega, by omega, by omega, by omega, by omega, by omega, by omega, by omega, by omega⟩
end
theorem unlikeOf_false {rs : List (Int × List Int)} {k i : Nat} {r : Int × List Int} (hi : i < k) (hk : rs[k]? = some r) (hir : rs[i]? = some r) : unlikeOf rs = false := by
 have hl := (List.getElem?_eq_some_iff.1 hk).1
 refine unlikeUpto_mono (k := k + 1) (by omega) ?_
 rw [unlikeUpto_succ hk]
 have : (rs.take k).any (fun x => decide (x = r)) = true := by
  rw [List.any_eq_true]
  exact ⟨r, List.mem_of_getElem? (i := i) (by rw [List.getElem?_take_of_lt hi]; exact hir), by simp⟩
 rw [this]; simp
theorem unlikeUpto_next {rs : List (Int × List Int)} {k : Nat} {r : Int × List Int} (h : unlikeUpto rs k = true) (hk : rs[k]? = some r) (hd : ∀ j : Nat, j < k → rs[j]? ≠ some r) : unlikeUpto rs (k + 1) = true := by
 rw [unlikeUpto_succ hk, h]
 have : (rs.take k).any (fun x => decide (x = r)) = false := by
  rw [List.any_eq_false]
  intro x hx
  obtain ⟨j, hj, e⟩ := List.getElem_of_mem hx
  rw [List.length_take] at hj
  rw [List.getElem_take] at e
  have := hd j (by omega)
  rw [List.getElem?_eq_getElem (by omega), e] at this
  simpa using this
 rw [this]; rfl
end
section
open Go.RowKit
attribute [local irreducible] wpStill wpOne wpPh
def allKnown (G : GramD) (st : Int) : Bool := isNon G st && G.rules.all (fun r => knownOf G r)
theorem allKnown_no {G : GramD} {st : Int} {k : Nat} {r : Int × List Int} (hk : G.rules[k]? = some r) (h : knownOf G r = false) : allKnown G st = false := by
 unfold allKnown
 have : G.rules.all (fun r => knownOf G r) = false := by
  rw [List.all_eq_false]
  exact ⟨r, List.mem_of_getElem? hk, by simp [h]⟩
 rw [this]; simp
theorem knownOf_no {G : GramD} {l : Int} {xs : List Int} {j : Nat} {s : Int} (hj : xs[j]? = some s) (ht : isTerm G s = false) (hn : isNon G s = false) : knownOf G (l, xs) = false := by
 unfold knownOf
 have : xs.all (fun s => isTerm G s || isNon G s) = false := by
  rw [List.all_eq_false]
  exact ⟨s, List.mem_of_getElem? hj, by simp [ht, hn]⟩
 simp only [this]; simp
theorem knownOf_yes {G : GramD} {l : Int} {xs : List Int} (hl : isNon G l = true) (h : ∀ (j : Nat) (s : Int), xs[j]? = some s → (isTerm G s || isNon G s) = true) : knownOf G (l, xs) = true := by
 unfold knownOf
 rw [Bool.and_eq_true]
 refine ⟨hl, ?_⟩
 show xs.all (fun s => isTerm G s || isNon G s) = true
 rw [List.all_eq_true]
 intro s hs
 obtain ⟨j, hj, e⟩ := List.getElem_of_mem hs
 exact h j s (by rw [List.getElem?_eq_getElem hj, e])
end
end
end Go.Proofs.Ytacankgalkffmaa

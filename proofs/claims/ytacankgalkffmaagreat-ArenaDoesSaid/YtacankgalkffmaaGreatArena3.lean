/- Trees of nodes: Contains, Clone; Node, Roots. -/
import Derived.Test.YtacankgalkffmaaGreatArena2
namespace Go.Proofs.YtacankgalkffmaaGreat
set_option linter.unusedVariables false
set_option linter.unusedSimpArgs false
open Go.RowKit
def idxA (xs : List Int) (s : Int) : Int := if s ∈ xs then ((xs.idxOf s : Nat) : Int) else -1
theorem idxA_first {xs : List Int} {s : Int} {i : Nat} (h : xs[i]? = some s) (hf : ∀ j : Nat, j < i → xs[j]? ≠ some s) : idxA xs s = i := by
 have hm := List.mem_of_getElem? h
 have hi := (List.getElem?_eq_some_iff.1 h).1
 unfold idxA
 rw [if_pos hm]
 have h1 : xs.idxOf s < xs.length := List.idxOf_lt_length_of_mem hm
 have h2 : xs[xs.idxOf s]? = some s := by rw [List.getElem?_eq_getElem h1, List.getElem_idxOf h1]
 have h3 : xs.idxOf s ≤ i := by
  rcases Nat.lt_or_ge i (xs.idxOf s) with e | e
  ·exact absurd (List.getElem?_eq_some_iff.1 h).2 (by have := List.not_of_lt_findIdx (p := fun x => x == s) (xs := xs) (i := i) e; simpa using this)
  ·exact e
 rcases Nat.lt_or_ge (xs.idxOf s) i with e | e
 ·exact absurd h2 (hf _ e)
 ·omega
theorem idxA_not {xs : List Int} {s : Int} (h : s ∉ xs) : idxA xs s = -1 := if_neg h
theorem idxA_mem {xs : List Int} {s : Int} : decide (idxA xs s ≥ 0) = decide (s ∈ xs) := by
 unfold idxA
 by_cases h : s ∈ xs
 ·rw [if_pos h, decide_eq_true h]; exact decide_eq_true (by omega)
 ·rw [if_neg h, decide_eq_false h]; rfl
theorem indexA_ints {w : World} {F : Nat → Prop} {v : Value} {xs : List Int} (h : RdI w F v xs) (s : Int) :
  Calls Tryz.prog 79 #[v, .int .i64 s] w fun e w' => e = .returned (.int .i64 (idxA xs s)) ∧ w = w' := by
 obtain ⟨A, n, c, rfl, _⟩ := id h
 obtain ⟨hn, hnc, hcm, hcell⟩ := RdI.at_ h
 unfold maxLen at hcm
 have HN := hide hn
 clear hn
 go_enter Tryz.func79, Tryz.ntmps79
 go_wp2
 go_loop [8] (fun i => ∃ k : Nat, k ≤ n ∧ i = .int .i64 k ∧ ∀ j : Nat, j < k → xs[j]? ≠ some s) (fun i => n - (intOf i).toNat)
 case atStart => exact ⟨0, Nat.zero_le _, rfl, fun j hj => absurd hj (by omega)⟩
 case round =>
  obtain ⟨k, hk, rfl, hbefore⟩ := hrel
  have HB := hide hbefore
  clear hbefore
  by_cases hlt : k < n
  ·obtain ⟨b, off, rfl, _, hc⟩ := hcell (by omega)
   obtain ⟨x, hx⟩ : ∃ x, xs[k]? = some x := ⟨_, List.getElem?_eq_getElem (by rw [← HN.out]; omega)⟩
   have hcx := hc k x hx
   have HX := hide hx
   clear hcell hc hx
   by_cases he : s = x
   ·have HE := hide he
    subst he
    have he' : (s == s) = true := by simp
    go_wp2
    go_ret
    exact ⟨ret_int (idxA_first HX.out HB.out).symm, rfl⟩
   ·have HE := hide he
    have he' : (s == x) = false := by simpa using he
    clear he
    go_wp2
    go_round
    case rel =>
     refine ⟨k + 1, by omega, by go_num, fun j hj => ?_⟩
     by_cases hjk : j = k
     ·subst hjk; rw [HX.out]; intro e; injection e with e; exact HE.out e.symm
     ·exact HB.out j (by omega)
    case measure => simp [intOf]; omega
  ·go_wp2
   go_ret
   refine ⟨ret_int (idxA_not ?_).symm, rfl⟩
   intro hm
   obtain ⟨j, hj, e⟩ := List.getElem_of_mem hm
   exact HB.out j (by have := HN.out; omega) (by rw [List.getElem?_eq_getElem hj, e])
theorem hasA_ints {w : World} {F : Nat → Prop} {v : Value} {xs : List Int} (h : RdI w F v xs) (s : Int) :
  Calls Tryz.prog 48 #[v, .int .i64 s] w fun e w' => e = .returned (.bool (decide (s ∈ xs))) ∧ w = w' := by
 have cI := indexA_ints h s
 have hm := idxA_mem (xs := xs) (s := s)
 generalize decide (s ∈ xs) = r at *
 generalize idxA xs s = i at *
 clear h
 have XcI := hide cI
 have Xhm := hide hm
 clear cI hm
 go_enter Tryz.func48, Tryz.ntmps48
 go_wp2_with fail
 refine XcI.out.mono ?_
 rintro e w' ⟨rfl, rfl⟩
 clear XcI
 go_wp2_with fail
 go_ret
 exact ⟨ret_bool Xhm.out, rfl⟩
theorem eqlA_ints_nil (A : Option Addr) (n c : Nat) (w : World) : Sem.run Tryz.prog (binOp .eql 33 (.slice A n c) (.slice none 0 0)) w = .ok (.bool A.isNone) w := by
 have := Lib.run_eql_slice_nil (P := Tryz.prog) w 33 3 A n c 0 0 Tryz.underlying33
 cases A <;> simpa using this
theorem ints_one (xs : List Int) : ∀ u ∈ xs.map (Value.int .i64), u.oneCell' = true := by
 intro u hu; obtain ⟨x, -, rfl⟩ := List.mem_map.1 hu; rfl
theorem cloneA_ints {w : World} {F : Nat → Prop} {v : Value} {xs : List Int} (h : RdI w F v xs) (hl : xs.length ≤ 65536) :
  Calls Tryz.prog 29 #[v] w fun e w' => ∃ A c, e = .returned (.slice A xs.length c) ∧ w'.ownsRow w.heap.size 3 1 (.slice A xs.length c) xs.length (xs.map (Value.int .i64)) ∧ Below w.heap.size w w' := by
 obtain ⟨A, m, c, rfl, hnc, hcm, hm, hcell⟩ := id h
 have hm' : m = xs.length := (RdI.at_ h).1
 have hnil := eqlA_ints_nil A m c
 rcases A with _ | ad
 ·obtain rfl : m = 0 := by
   rcases Nat.eq_zero_or_pos m with h0 | h0
   ·exact h0
   ·obtain ⟨_, _, hA, _⟩ := hcell h0; cases hA
  obtain rfl : xs = [] := List.eq_nil_of_length_eq_zero (by omega)
  clear hl h hcell hm hm'
  go_enter Tryz.func29, Tryz.ntmps29
  go_wp2_with fail
  go_ret
  exact ⟨none, 0, rfl, World.ownsRow_nil _ _ _ _, Below.refl _ _⟩
 ·rw [← hm'] at hl
  have H := hide h
  have HN := hide hm
  have HM := hide hm'
  clear h hcell hm hm'
  go_enter Tryz.func29, Tryz.ntmps29
  go_wp2_with (at_builtin; refine wp_append _ rfl (.tmp 5) (.tmp 6) _ rfl Tryz.elemInt w.heap.size _ 0 [] rfl (World.ownsRow_made w #[] 0 (Nat.le_refl _) (by decide) rfl) _ _ (xs.map (Value.int .i64)) m rfl HN.out (H.out.touch ((Touch.refl (fun _ => False) _).alloc _) (fun _ _ hf => hf)) (ints_one xs) (by unfold maxLen; omega) (by omega) (by simp) ?_)
  intro A c2 w2 hown hg _
  go_wp2_with fail
  go_ret
  refine ⟨A, c2, by rw [← HM.out]; simp, ?_, (((Below.refl _ w).alloc (Nat.le_refl _) _).grown hg (by simp) (fun k e => by simp [Value.ownBlock] at e; omega))⟩
  rw [← HM.out]; simpa using hown
theorem blk_put4 {w : World} {b : Nat} {t : TypeId} {x0 x1 x2 x3 : Value} (h : Blk w b t #[x0, x1, x2, x3]) (u0 u1 u2 u3 : Value) : Blk ((((w.setCell ⟨b, 0, none⟩ u0).setCell ⟨b, 1, none⟩ u1).setCell ⟨b, 2, none⟩ u2).setCell ⟨b, 3, none⟩ u3) b t #[u0, u1, u2, u3] := (((h.put 0 u0).put 1 u1).put 2 u2).put 3 u3
theorem touch_four (W : World) (z : Nat) (u0 u1 u2 u3 : Value) : Touch (fun k => k = z) W ((((W.setCell ⟨z, 0, none⟩ u0).setCell ⟨z, 1, none⟩ u1).setCell ⟨z, 2, none⟩ u2).setCell ⟨z, 3, none⟩ u3) := (((touch_set _ _ _ _).trans' (touch_set _ _ _ _)).trans' (touch_set _ _ _ _)).trans' (touch_set _ _ _ _)
def NodePost (w : World) (L : List Nd) (i : Int) (e : Ending) (w' : World) : Prop := Below w.heap.size w w' ∧ ∃ z, e = .returned (.tuple #[.agg #[.int .i64 (if inN L.length i = true then (ndAt L i).sym else 0), .int .i64 (if inN L.length i = true then (ndAt L i).leaf else 0), .int .i64 (if inN L.length i = true then (ndAt L i).rule else 0), z], .bool (inN L.length i)]) ∧ RdI w' (fun b => w.heap.size ≤ b ∧ b < w'.heap.size) z (if inN L.length i = true then (ndAt L i).kids else [])
theorem arena_Node0 (i : Int) (w : World) : Calls Tryz.prog 7 #[.pointer none, .int .i64 i] w (NodePost w [] i) := by
 have cI := arena_in0 i (w.alloc (.cells #[.int .i64 0, .int .i64 0, .int .i64 0, .slice none 0 0] 35))
 have al : Below w.heap.size w (w.alloc (.cells #[.int .i64 0, .int .i64 0, .int .i64 0, .slice none 0 0] 35)) := (Below.refl _ _).alloc (Nat.le_refl _) _
 have hr : inN ([] : List Nd).length i = false := by unfold inN; simp
 unfold NodePost
 rw [hr]
 have XcI := hide cI
 have Xal := hide al
 have Xhr := hide hr
 clear cI al hr
 go_enter Tryz.func7, Tryz.ntmps7
 go_wp2_with fail
 refine XcI.out.mono ?_
 rintro e w' ⟨rfl, b⟩
 have kb : Blk w' w.heap.size 35 #[.int .i64 0, .int .i64 0, .int .i64 0, .slice none 0 0] := (Blk.new w 35 _).below b (by simp)
 have q0 := (kb.cell 0).trans rfl
 have q1 := (kb.cell 1).trans rfl
 have q2 := (kb.cell 2).trans rfl
 have q3 := (kb.cell 3).trans rfl
 have f0 := kb.frozen 0
 have f1 := kb.frozen 1
 have f2 := kb.frozen 2
 have f3 := kb.frozen 3
 have bb := Xal.out.trans (b.mono Xal.out.size)
 clear XcI b
 have Xbb := hide bb
 have Xkb := hide kb
 clear bb kb
 go_wp2_with fail
 have k4 := blk_put4 Xkb.out (.int .i64 0) (.int .i64 0) (.int .i64 0) (.slice none 0 0)
 have e0 := (k4.cell 0).trans rfl
 have e1 := (k4.cell 1).trans rfl
 have e2 := (k4.cell 2).trans rfl
 have e3 := (k4.cell 3).trans rfl
 refine bodyPost_ret (v := .tuple #[.agg #[.int .i64 0, .int .i64 0, .int .i64 0, .slice none 0 0], .bool false]) (by simp [results, Tryz.results7, go_sem, e0, e1, e2, e3]) rfl ?_
 exact ⟨(touch_four w' w.heap.size _ _ _ _).toBelow (fun k e => by omega) Xbb.out Xbb.out.size, _, rfl, Rd.nil _ _ _⟩
section
variable {w w' : World} {bt : Nat} {S : Nat → Prop} {L : List Nd}
theorem arena_Node (h : Ar w bt S L) (hk : ∀ x ∈ L, x.kids.length ≤ 65536) (i : Int) : Calls Tryz.prog 7 #[.pointer (some ⟨bt, 0, none⟩), .int .i64 i] w (NodePost w L i) := by
 have al : Below w.heap.size w (w.alloc (.cells #[.int .i64 0, .int .i64 0, .int .i64 0, .slice none 0 0] 35)) := (Below.refl _ _).alloc (Nat.le_refl _) _
 have h1 := h.below al
 have kb : Blk (w.alloc (.cells #[.int .i64 0, .int .i64 0, .int .i64 0, .slice none 0 0] 35)) w.heap.size 35 #[.int .i64 0, .int .i64 0, .int .i64 0, .slice none 0 0] := Blk.new _ _ _
 have cI := arena_in h1 i
 have f0 := kb.frozen 0
 have f1 := kb.frozen 1
 have f2 := kb.frozen 2
 have f3 := kb.frozen 3
 have q0 := (kb.cell 0).trans rfl
 have q1 := (kb.cell 1).trans rfl
 have q2 := (kb.cell 2).trans rfl
 have q3 := (kb.cell 3).trans rfl
 by_cases hi : inN L.length i = true
 ·obtain ⟨g0, g1⟩ := inN_iff.1 hi
  unfold NodePost
  rw [hi] at cI ⊢
  obtain ⟨v, M, hML, hA⟩ := h
  have hA1 := hA.below al
  have hx := ndAt_of g0 g1
  rw [← hML, List.getElem?_map] at hx
  obtain ⟨p, hp, hpx⟩ := Option.map_eq_some_iff.1 hx
  have hlen : M.length = L.length := by rw [← hML, List.length_map]
  have hkp := hk p.1 (by rw [← hML]; exact List.mem_map_of_mem (List.mem_of_getElem? hp))
  obtain ⟨g, c, rfl, hSg, hgb, c0, c1, c2, c3, c4, c5, rk⟩ := hA1.at_ hp
  have hbx := (hA1.box.cell 0).trans rfl
  rw [hlen] at hbx
  rw [← hML, ← hpx]
  obtain ⟨k, rfl⟩ := Int.eq_ofNat_of_zero_le g0
  rw [Int.toNat_natCast] at hp c0 c1 c2 c3
  generalize L.length = n at *
  obtain ⟨⟨xs, xl, xr, xk, xi, xb⟩, z⟩ := p
  simp only at c0 c1 c2 c3 rk hkp ⊢
  obtain ⟨Az, nz, cz, rfl, -⟩ := id rk
  have cC := fun wr (b : Below (w.alloc (.cells #[.int .i64 0, .int .i64 0, .int .i64 0, .slice none 0 0] 35)).heap.size (w.alloc (.cells #[.int .i64 0, .int .i64 0, .int .i64 0, .slice none 0 0] 35)) wr) => cloneA_ints (Rd.touch rk (Touch.of_size b (fun _ => False)) (fun _ _ c => c)) hkp
  clear h1 hA hA1 hx hML hpx hk c4 c5
  have XcI := hide cI
  have Xal := hide al
  have Xkb := hide kb
  have Xrk := hide rk
  have Xhp := hide hp
  have XcC := hide cC
  clear cI al kb rk hp cC
  go_enter Tryz.func7, Tryz.ntmps7
  go_wp2_with fail
  refine XcI.out.mono ?_
  rintro e w' ⟨rfl, rfl⟩
  clear XcI
  go_wp2_with fail
  obtain ⟨w1, hw1⟩ : ∃ x, x = w.alloc (.cells #[.int .i64 0, .int .i64 0, .int .i64 0, .slice none 0 0] 35) := ⟨_, rfl⟩
  obtain ⟨w2, hw2⟩ : ∃ x, x = w1.alloc (.cells #[.int .i64 xs, .int .i64 xl, .int .i64 xr, .slice Az nz cz] 35) := ⟨_, rfl⟩
  have b2 : Below w1.heap.size w1 w2 := by rw [hw2]; exact (Below.refl _ _).alloc (Nat.le_refl _) _
  have z1 : w1.heap.size = w.heap.size + 1 := by rw [hw1]; simp
  have cC := XcC.out w2 (by rw [← hw1]; exact b2)
  rw [← hw1] at Xal Xkb ⊢
  rw [← hw2]
  have b02 := Xal.out.trans (b2.mono Xal.out.size)
  have kb2 := Xkb.out.below b2 (by omega)
  have kx2 : Blk w2 (w.heap.size + 1) 35 #[.int .i64 xs, .int .i64 xl, .int .i64 xr, .slice Az nz cz] := by rw [hw2, ← z1]; exact Blk.new _ _ _
  have z2 : w2.heap.size = w.heap.size + 2 := by rw [hw2]; simp [z1]
  clear XcC hw1 hw2 b2 Xal Xkb q0 q1 q2 q3 f0 f1 f2 f3 hbx c0 c1 c2 c3
  have XcC := hide cC
  have Xb02 := hide b02
  have Xkb2 := hide kb2
  have Xkx2 := hide kx2
  have Xz2 := hide z2
  have Xz1 := hide z1
  clear cC b02 kb2 kx2 z2 z1
  refine XcC.out.mono ?_
  rintro e w3 ⟨A3, c3, rfl, own3, b3⟩
  have kb3 := Xkb2.out.below b3 (by rw [Xz2.out]; omega)
  have kx3 := Xkx2.out.below b3 (by rw [Xz2.out]; omega)
  have b03 := Xb02.out.trans (b3.mono Xb02.out.size)
  have x3 := (kx3.cell 3).trans rfl
  have fx3 := kx3.frozen 3
  have x0 := (kx3.cell 0).trans rfl
  have x1 := (kx3.cell 1).trans rfl
  have x2 := (kx3.cell 2).trans rfl
  have q0 := (kb3.cell 0).trans rfl
  have q1 := (kb3.cell 1).trans rfl
  have q2 := (kb3.cell 2).trans rfl
  have q3 := (kb3.cell 3).trans rfl
  have f0 := kb3.frozen 0
  have f1 := kb3.frozen 1
  have f2 := kb3.frozen 2
  have f3 := kb3.frozen 3
  have r3 := (Rd.of_own own3).mono (F' := fun b => w.heap.size ≤ b ∧ b < w3.heap.size) (fun k hk => by have h1 := own3.lt k hk; have h2 := Xz2.out; omega)
  have r3b := (Rd.of_own own3).mono (F' := fun b => w2.heap.size ≤ b ∧ b < w3.heap.size) (fun k hk => by have h1 := own3.lt k hk; omega)
  clear XcC Xb02 Xkb2 Xkx2 own3 b3
  have Xkb3 := hide kb3
  have Xkx3 := hide kx3
  have Xb03 := hide b03
  have Xr3 := hide r3
  have Xr3b := hide r3b
  clear kb3 kx3 b03 r3 r3b
  go_wp2_with fail
  have k0 : Blk (w3.setCell ⟨w.heap.size + 1, 3, none⟩ (.slice A3 xk.length c3)) w.heap.size 35 _ := Xkb3.out.far (p := ⟨w.heap.size + 1, 3, none⟩) (by simp) (.slice A3 xk.length c3)
  have k4 := blk_put4 k0 (.int .i64 xs) (.int .i64 xl) (.int .i64 xr) (.slice A3 xk.length c3)
  have e0 := (k4.cell 0).trans rfl
  have e1 := (k4.cell 1).trans rfl
  have e2 := (k4.cell 2).trans rfl
  have e3 := (k4.cell 3).trans rfl
  have t4 := ((touch_set w3 (w.heap.size + 1) 3 (.slice A3 xk.length c3)).mono (S' := fun k => k = w.heap.size ∨ k = w.heap.size + 1) (fun _ _ e => .inr e)).trans (touch_four _ w.heap.size (.int .i64 xs) (.int .i64 xl) (.int .i64 xr) (.slice A3 xk.length c3)) fun _ _ e => .inl e
  refine bodyPost_ret (v := .tuple #[.agg #[.int .i64 xs, .int .i64 xl, .int .i64 xr, .slice A3 xk.length c3], .bool true]) (by simp [results, Tryz.results7, go_sem, e0, e1, e2, e3]) rfl ?_
  refine ⟨t4.toBelow (fun k e => by rcases e with rfl | rfl <;> omega) Xb03.out Xb03.out.size, _, rfl, ?_⟩
  have hz2 := Xz2.out
  exact (Rd.touch Xr3b.out t4 fun b hb e => by rcases e with rfl | rfl <;> omega).mono fun b hb => by
   have := t4.size
   exact ⟨by omega, by omega⟩
 ·have hi : inN L.length i = false := by simpa using hi
  unfold NodePost
  rw [hi] at cI ⊢
  clear h h1
  have XcI := hide cI
  have Xal := hide al
  have Xkb := hide kb
  clear cI al kb
  go_enter Tryz.func7, Tryz.ntmps7
  go_wp2_with fail
  refine XcI.out.mono ?_
  rintro e w' ⟨rfl, rfl⟩
  clear XcI
  go_wp2_with fail
  have k4 := blk_put4 Xkb.out (.int .i64 0) (.int .i64 0) (.int .i64 0) (.slice none 0 0)
  have e0 := (k4.cell 0).trans rfl
  have e1 := (k4.cell 1).trans rfl
  have e2 := (k4.cell 2).trans rfl
  have e3 := (k4.cell 3).trans rfl
  refine bodyPost_ret (v := .tuple #[.agg #[.int .i64 0, .int .i64 0, .int .i64 0, .slice none 0 0], .bool false]) (by simp [results, Tryz.results7, go_sem, e0, e1, e2, e3]) rfl ?_
  exact ⟨Xal.out, _, rfl, Rd.nil _ _ _⟩
end
end Go.Proofs.YtacankgalkffmaaGreat

/- Trees of nodes: no tree; Leaves, Yield. -/
import Derived.Test.YtacankgalkffmaaGreatArena12
import Derived.Test.YtacankgalkffmaaGreatArena10
namespace Go.Proofs.YtacankgalkffmaaGreat
set_option linter.unusedVariables false
set_option linter.unusedSimpArgs false
open Go.RowKit Go.Shelf
attribute [local go_sem] Oper.semAt_some
attribute [local irreducible] wpStill wpOne wpPh
theorem arena_Len0e (w : World) : Calls Tryz.prog 16 #[.pointer none] w fun e w' => e = .returned (.int .i64 0) ∧ w = w' := by
 go_enter Tryz.func16, Tryz.ntmps16
 go_wp2_with fail
 go_ret
 exact ⟨rfl, rfl⟩
theorem arena_in0e (i : Int) (w : World) : Calls Tryz.prog 28 #[.pointer none, .int .i64 i] w fun e w' => e = .returned (.bool false) ∧ w = w' := by
 have cL := arena_Len0e w
 have XcL := hide cL
 clear cL
 by_cases h0 : 0 ≤ i
 ·have h1 : ¬ i < 0 := by omega
  go_enter Tryz.func28, Tryz.ntmps28
  go_wp2_with fail
  refine XcL.out.mono ?_
  rintro e w' ⟨rfl, rfl⟩
  clear XcL
  go_wp2_with fail
  go_ret
  exact ⟨ret_bool (decide_eq_false (by omega)), rfl⟩
 ·have h1 : i < 0 := by omega
  go_enter Tryz.func28, Tryz.ntmps28
  go_wp2_with fail
  go_ret
  exact ⟨rfl, rfl⟩
set_option maxRecDepth 100000 in
set_option maxHeartbeats 4000000 in
theorem under_out0 {w : World} {R : Nat → Prop} {bb bi : Nat} {i : Int} (kb : Blk w bb 29 #[.pointer none]) (ki : Blk w bi 3 #[.int .i64 i])
  (hR : ∀ b, b = bb ∨ b = bi → R b) (hlt : ∀ b, R b → b < w.heap.size) (n : Nat) (hn : 4 ≤ n) :
  SeqOwn Fence.wide n Tryz.prog 67 #[.pointer (some ⟨bi, 0, none⟩), .pointer (some ⟨bb, 0, none⟩)] (fun k : Int => #[.int .i64 k]) R (fun ys => ys = []) (fun pre => pre <+: []) w := by
 intro l J Jx W hW hA hAx hY h0
 have kb0 := kb.below hW (hlt _ (hR _ (.inl rfl)))
 have ki0 := ki.below hW (hlt _ (hR _ (.inr rfl)))
 have hlt0 : ∀ b, R b → b < W.heap.size := fun b hb => Nat.lt_of_lt_of_le (hlt b hb) hW.size
 clear kb ki hlt hW
 have q1 : W.cell? ⟨bi, 0, none⟩ = some (.int .i64 i) := ki0.cell 0
 have al1 : Below W.heap.size W (W.alloc (.cells #[.int .i64 i] 3)) := (Below.refl _ _).alloc (Nat.le_refl _) _
 have al : Below W.heap.size W ((W.alloc (.cells #[.int .i64 i] 3)).alloc (.cells #[.slice (some ⟨W.heap.size, 0, none⟩) 1 1] 33)) := al1.alloc al1.size _
 obtain ⟨Wa, hWa⟩ : ∃ x, x = (W.alloc (.cells #[.int .i64 i] 3)).alloc (.cells #[.slice (some ⟨W.heap.size, 0, none⟩) 1 1] 33) := ⟨_, rfl⟩
 rw [← hWa] at al
 have cI := arena_in0e i Wa
 have kba := kb0.below al (hlt0 _ (hR _ (.inl rfl)))
 have kia := ki0.below al (hlt0 _ (hR _ (.inr rfl)))
 have p1 : Wa.cell? ⟨bi, 0, none⟩ = some (.int .i64 i) := kia.cell 0
 have p2 : Wa.cell? ⟨bb, 0, none⟩ = some (.pointer none) := kba.cell 0
 have kT : Blk Wa (W.heap.size + 1) 33 #[.slice (some ⟨W.heap.size, 0, none⟩) 1 1] := by
  rw [hWa]
  have := Blk.new (W.alloc (.cells #[.int .i64 i] 3)) 33 #[.slice (some ⟨W.heap.size, 0, none⟩) 1 1]
  rwa [World.size_alloc] at this
 have fT := kT.frozen 0
 have cT : Wa.cell? ⟨W.heap.size + 1, 0, none⟩ = some (.slice (some ⟨W.heap.size, 0, none⟩) 1 1) := kT.cell 0
 have p1e : ((W.alloc (.cells #[.int .i64 i] 3)).alloc (.cells #[.slice (some ⟨W.heap.size, 0, none⟩) 1 1] 33)).cell? ⟨bi, 0, none⟩ = some (.int .i64 i) := by rw [← hWa]; exact p1
 have p2e : ((W.alloc (.cells #[.int .i64 i] 3)).alloc (.cells #[.slice (some ⟨W.heap.size, 0, none⟩) 1 1] 33)).cell? ⟨bb, 0, none⟩ = some (.pointer none) := by rw [← hWa]; exact p2
 have hJ := hA _ _ (fun b => b = W.heap.size + 1) _ (Wa.setCell ⟨W.heap.size + 1, 0, none⟩ (.slice none 0 0)) (hA _ _ (fun b => b = W.heap.size + 1) _ Wa h0 (Touch.of_size al _) (fun b h => h.elim) (fun b h => .inr (by omega))) (touch_set _ _ _ _) (fun b h => h) (fun b h => .inl h)
 have kT2 := kT.put 0 (.slice none 0 0)
 have XcI := hide cI
 have XhJ := hide hJ
 have XkT2 := hide kT2
 have XhA := hide hA
 clear cI hJ kT2 hA
 clear h0 hAx hY kb0 ki0 hlt0 al kba kia kT
 refine callsIn_of_wp_marks Tryz.func67 rfl trivial ?_ rfl
 simp only [Tryz.ntmps67, List.size_toArray, List.length_cons, List.length_nil, Nat.reduceAdd, Nat.reduceSub, Array.replicate_succ, Array.replicate_zero, List.push_toArray, List.append_toArray, List.nil_append, List.cons_append]
 gi_wp2_with fail
 rw [← hWa]
 clear hWa q1 al1 p1e p2e
 refine ⟨trivial, fun _ => by omega, (callsIn_wide.2 XcI.out).mono ?_⟩
 rintro e w' ⟨rfl, rfl⟩
 clear XcI
 gi_wp2_with fail
 refine loop_under (fun ds mu W' => ds = [] ∧ Blk W' (W.heap.size + 1) 33 #[.slice none 0 0] ∧ J [] (fun b => b = W.heap.size + 1) W') 0 ⟨rfl, XkT2.out, XhJ.out⟩ ?_
 intro y5 y14 y15 y16 y17 y18 y19 y20 y21 y22 y23 y24 y25 y26 y27 y28 y29 y30 y31 y32 y33 y34 y35 y36 y37 y38 y39 y40 y41 ds mu wr hrel K hK
 obtain ⟨rfl, kT3, hJ3⟩ := hrel
 have hbx : wr.cell? ⟨W.heap.size + 1, 0, none⟩ = some (.slice none 0 0) := kT3.cell 0
 clear kT3 XkT2 XhJ
 have XhJ3 := hide hJ3
 clear hJ3
 gi_wp2_with fail
 refine (MkO.nil (fun b => b = W.heap.size + 1) wr).leaves fun w' t => ⟨_, results_none rfl _ _ _, ⟨_, rfl⟩, .inl ⟨fun b => b = W.heap.size + 1, ?_⟩⟩
 exact XhA.out _ _ _ _ _ XhJ3.out t (fun b h => h) (fun b h => .inl h)
set_option maxRecDepth 100000 in
set_option maxHeartbeats 4000000 in
theorem gather_leaves0 (i : Int) (w : World) : Calls Tryz.prog 44 #[.pointer none, .int .i64 i, .func (.func 45) #[] #[]] w (IntsRd w []) := by
 refine (callsIn_wide (n := 7)).1 ?_
 refine callsIn_of_wp_marks Tryz.func44 rfl trivial ?_ rfl
 simp only [Tryz.ntmps44, List.size_toArray, List.length_cons, List.length_nil, Nat.reduceAdd, Nat.reduceSub, Array.replicate_succ, Array.replicate_zero, List.push_toArray, List.append_toArray, List.nil_append, List.cons_append]
 gi_wp2_with fail
 refine ⟨trivial, (callsIn_wide.2 (arena_under _ _ _)).mono ?_⟩
 rintro e wl ⟨rfl, hwl⟩
 obtain ⟨w1, hw1⟩ : ∃ x, x = w.alloc (.cells #[.pointer none] 29) := ⟨_, rfl⟩
 obtain ⟨w2, hw2⟩ : ∃ x, x = w1.alloc (.cells #[.func (.func 45) #[] #[]] 83) := ⟨_, rfl⟩
 obtain ⟨w3, hw3⟩ : ∃ x, x = w2.alloc (.cells #[.slice none 0 0] 33) := ⟨_, rfl⟩
 obtain ⟨w4, hw4⟩ : ∃ x, x = w3.alloc (.cells #[.pointer none] 29) := ⟨_, rfl⟩
 rw [← hw1, ← hw2, ← hw3] at hwl ⊢
 rw [← hw4] at hwl
 have z1 : w1.heap.size = w.heap.size + 1 := by rw [hw1]; simp
 have z2 : w2.heap.size = w.heap.size + 2 := by rw [hw2]; simp [z1]
 have z3 : w3.heap.size = w.heap.size + 3 := by rw [hw3]; simp [z2]
 have z4 : w4.heap.size = w.heap.size + 4 := by rw [hw4]; simp [z3]
 have zl : wl.heap.size = w.heap.size + 5 := by rw [hwl]; simp [z4]
 have kt : Blk wl w.heap.size 29 #[.pointer none] := by rw [hwl, hw4, hw3, hw2, hw1]; exact ((((Blk.new _ _ _).alloc _).alloc _).alloc _).alloc _
 have kw : Blk wl (w.heap.size + 1) 83 #[.func (.func 45) #[] #[]] := by rw [hwl, hw4, hw3, hw2, ← z1]; exact (((Blk.new _ _ _).alloc _).alloc _).alloc _
 have ko : Blk wl (w.heap.size + 2) 33 #[.slice none 0 0] := by rw [hwl, hw4, hw3, ← z2]; exact ((Blk.new _ _ _).alloc _).alloc _
 have kb : Blk wl (w.heap.size + 3) 29 #[.pointer none] := by rw [hwl, hw4, ← z3]; exact (Blk.new _ _ _).alloc _
 have ki : Blk wl (w.heap.size + 4) 3 #[.int .i64 i] := by rw [hwl, ← z4]; exact Blk.new _ _ _
 have bl : Below w.heap.size w wl := by rw [hwl, hw4, hw3, hw2, hw1]; exact (((((Below.refl _ w).alloc (Nat.le_refl _) _).alloc (by simp) _).alloc (by simp; omega) _).alloc (by simp; omega) _).alloc (by simp; omega) _
 rw [z3, show w.heap.size + 3 + 1 = w.heap.size + 4 from rfl]
 clear hwl hw1 hw2 hw3 hw4 z1 z2 z3 z4
 have cU := under_out0 (R := fun b => b = w.heap.size + 3 ∨ b = w.heap.size + 4) kb ki (fun b hb => hb) (fun b hb => by rcases hb with q | q; omega; omega) 6 (by omega)
 have XcU := hide cU
 have Xkt := hide kt
 have Xkw := hide kw
 have Xko := hide ko
 have Xkb := hide kb
 have Xki := hide ki
 have Xbl := hide bl
 clear cU kt kw ko kb ki bl
 gi_wp2_with fail
 refine wpIn_rangeFunc_ownO rfl (by omega) (gf := 67) (lb := #[.pointer (some ⟨w.heap.size + 4, 0, none⟩), .pointer (some ⟨w.heap.size + 3, 0, none⟩)]) rfl trivial (enters_of Tryz.func67 (by kernel_rfl) rfl) XcU.out (fun b hb => by rcases hb with q | q; omega; omega) (Below.refl _ _) (fun _ => rfl)
  (fun pre O W => Touch (fun _ => False) wl W ∧ ∀ b, O b → w.heap.size + 5 ≤ b)
  (fun _ _ _ _ => False) ?hI (fun _ _ _ _ _ _ h _ _ => h) ?h0
  (fun x => { tmps := #[.pointer none, .int .i64 i, .func (.func 45) #[] #[], .pointer (some ⟨w.heap.size, 0, none⟩), undef, .pointer (some ⟨w.heap.size + 1, 0, none⟩), .slice none 0 0, .pointer (some ⟨w.heap.size + 1 + 1, 0, none⟩), .int .i64 x, .pointer none, .int .i64 i, .func (.func 67) #[] #[.pointer (some ⟨w.heap.size + 4, 0, none⟩), .pointer (some ⟨w.heap.size + 3, 0, none⟩)], .int .i64 x, undef, undef, undef, undef, undef, undef, undef, undef, undef, undef, undef, undef, undef, undef, undef, undef, undef, undef, undef, undef, undef, undef], defers := [] })
  ?assign ?body ?done ?stop
 case hI =>
  rintro pre O1 O2 X A B ⟨t5, ho5⟩ tX hX h12 h21
  have zA := t5.size
  refine ⟨t5.trans tX fun b hb c => ?_, fun b hb => ?_⟩
  ·rcases hX _ c with q | q | q
   ·have := ho5 _ q; omega
   ·omega
   ·omega
  ·rcases h21 b hb with q | q
   ·exact ho5 b q
   ·omega
 case h0 => exact ⟨Touch.refl _ _, fun b h => h.elim⟩
 case assign =>
  intro l x Wx K hK
  gi_wp2
  exact hK
 case body =>
  rintro l2 pre O x W - hO hz hSp
  have := List.prefix_nil.1 hSp
  simp at this
 case done =>
  rintro D xs O W hD rfl ⟨t5, ho5⟩ hDm
  have koW := Xko.out.touch t5 (fun c => c)
  have p2 : W.cell? ⟨w.heap.size + 2, 0, none⟩ = some (.slice none 0 0) := koW.cell 0
  have bW : Below w.heap.size w W := Xbl.out.trans (t5.below (fun k hk _ e => e) (by omega))
  have mk : MkO (fun b => b = D) [mark D] W := (MkO.nil (fun _ => False) wl).cons (fun _ h => h.elim) (fun _ h => h.elim) rfl hD hDm
  clear koW t5 ho5
  have XbW := hide bW
  have Xmk := hide mk
  clear bW mk
  gi_wp2_with fail
  refine Xmk.out.leaves fun w' t => ⟨_, results_tmp rfl _ _ _, ?_⟩
  exact ⟨t.toBelow (fun k e => by omega) XbW.out XbW.out.size, none, 0, rfl, Rd.nil _ _ _⟩
 case stop =>
  intro D c pre O W hD hSp h
  exact h.elim
set_option maxRecDepth 100000 in
set_option maxHeartbeats 4000000 in
theorem gather_yield0 (i : Int) (w : World) : Calls Tryz.prog 44 #[.pointer none, .int .i64 i, .func (.func 47) #[] #[]] w (IntsRd w []) := by
 refine (callsIn_wide (n := 7)).1 ?_
 refine callsIn_of_wp_marks Tryz.func44 rfl trivial ?_ rfl
 simp only [Tryz.ntmps44, List.size_toArray, List.length_cons, List.length_nil, Nat.reduceAdd, Nat.reduceSub, Array.replicate_succ, Array.replicate_zero, List.push_toArray, List.append_toArray, List.nil_append, List.cons_append]
 gi_wp2_with fail
 refine ⟨trivial, (callsIn_wide.2 (arena_under _ _ _)).mono ?_⟩
 rintro e wl ⟨rfl, hwl⟩
 obtain ⟨w1, hw1⟩ : ∃ x, x = w.alloc (.cells #[.pointer none] 29) := ⟨_, rfl⟩
 obtain ⟨w2, hw2⟩ : ∃ x, x = w1.alloc (.cells #[.func (.func 47) #[] #[]] 83) := ⟨_, rfl⟩
 obtain ⟨w3, hw3⟩ : ∃ x, x = w2.alloc (.cells #[.slice none 0 0] 33) := ⟨_, rfl⟩
 obtain ⟨w4, hw4⟩ : ∃ x, x = w3.alloc (.cells #[.pointer none] 29) := ⟨_, rfl⟩
 rw [← hw1, ← hw2, ← hw3] at hwl ⊢
 rw [← hw4] at hwl
 have z1 : w1.heap.size = w.heap.size + 1 := by rw [hw1]; simp
 have z2 : w2.heap.size = w.heap.size + 2 := by rw [hw2]; simp [z1]
 have z3 : w3.heap.size = w.heap.size + 3 := by rw [hw3]; simp [z2]
 have z4 : w4.heap.size = w.heap.size + 4 := by rw [hw4]; simp [z3]
 have zl : wl.heap.size = w.heap.size + 5 := by rw [hwl]; simp [z4]
 have kt : Blk wl w.heap.size 29 #[.pointer none] := by rw [hwl, hw4, hw3, hw2, hw1]; exact ((((Blk.new _ _ _).alloc _).alloc _).alloc _).alloc _
 have kw : Blk wl (w.heap.size + 1) 83 #[.func (.func 47) #[] #[]] := by rw [hwl, hw4, hw3, hw2, ← z1]; exact (((Blk.new _ _ _).alloc _).alloc _).alloc _
 have ko : Blk wl (w.heap.size + 2) 33 #[.slice none 0 0] := by rw [hwl, hw4, hw3, ← z2]; exact ((Blk.new _ _ _).alloc _).alloc _
 have kb : Blk wl (w.heap.size + 3) 29 #[.pointer none] := by rw [hwl, hw4, ← z3]; exact (Blk.new _ _ _).alloc _
 have ki : Blk wl (w.heap.size + 4) 3 #[.int .i64 i] := by rw [hwl, ← z4]; exact Blk.new _ _ _
 have bl : Below w.heap.size w wl := by rw [hwl, hw4, hw3, hw2, hw1]; exact (((((Below.refl _ w).alloc (Nat.le_refl _) _).alloc (by simp) _).alloc (by simp; omega) _).alloc (by simp; omega) _).alloc (by simp; omega) _
 rw [z3, show w.heap.size + 3 + 1 = w.heap.size + 4 from rfl]
 clear hwl hw1 hw2 hw3 hw4 z1 z2 z3 z4
 have cU := under_out0 (R := fun b => b = w.heap.size + 3 ∨ b = w.heap.size + 4) kb ki (fun b hb => hb) (fun b hb => by rcases hb with q | q; omega; omega) 6 (by omega)
 have XcU := hide cU
 have Xkt := hide kt
 have Xkw := hide kw
 have Xko := hide ko
 have Xkb := hide kb
 have Xki := hide ki
 have Xbl := hide bl
 clear cU kt kw ko kb ki bl
 gi_wp2_with fail
 refine wpIn_rangeFunc_ownO rfl (by omega) (gf := 67) (lb := #[.pointer (some ⟨w.heap.size + 4, 0, none⟩), .pointer (some ⟨w.heap.size + 3, 0, none⟩)]) rfl trivial (enters_of Tryz.func67 (by kernel_rfl) rfl) XcU.out (fun b hb => by rcases hb with q | q; omega; omega) (Below.refl _ _) (fun _ => rfl)
  (fun pre O W => Touch (fun _ => False) wl W ∧ ∀ b, O b → w.heap.size + 5 ≤ b)
  (fun _ _ _ _ => False) ?hI (fun _ _ _ _ _ _ h _ _ => h) ?h0
  (fun x => { tmps := #[.pointer none, .int .i64 i, .func (.func 47) #[] #[], .pointer (some ⟨w.heap.size, 0, none⟩), undef, .pointer (some ⟨w.heap.size + 1, 0, none⟩), .slice none 0 0, .pointer (some ⟨w.heap.size + 1 + 1, 0, none⟩), .int .i64 x, .pointer none, .int .i64 i, .func (.func 67) #[] #[.pointer (some ⟨w.heap.size + 4, 0, none⟩), .pointer (some ⟨w.heap.size + 3, 0, none⟩)], .int .i64 x, undef, undef, undef, undef, undef, undef, undef, undef, undef, undef, undef, undef, undef, undef, undef, undef, undef, undef, undef, undef, undef, undef], defers := [] })
  ?assign ?body ?done ?stop
 case hI =>
  rintro pre O1 O2 X A B ⟨t5, ho5⟩ tX hX h12 h21
  have zA := t5.size
  refine ⟨t5.trans tX fun b hb c => ?_, fun b hb => ?_⟩
  ·rcases hX _ c with q | q | q
   ·have := ho5 _ q; omega
   ·omega
   ·omega
  ·rcases h21 b hb with q | q
   ·exact ho5 b q
   ·omega
 case h0 => exact ⟨Touch.refl _ _, fun b h => h.elim⟩
 case assign =>
  intro l x Wx K hK
  gi_wp2
  exact hK
 case body =>
  rintro l2 pre O x W - hO hz hSp
  have := List.prefix_nil.1 hSp
  simp at this
 case done =>
  rintro D xs O W hD rfl ⟨t5, ho5⟩ hDm
  have koW := Xko.out.touch t5 (fun c => c)
  have p2 : W.cell? ⟨w.heap.size + 2, 0, none⟩ = some (.slice none 0 0) := koW.cell 0
  have bW : Below w.heap.size w W := Xbl.out.trans (t5.below (fun k hk _ e => e) (by omega))
  have mk : MkO (fun b => b = D) [mark D] W := (MkO.nil (fun _ => False) wl).cons (fun _ h => h.elim) (fun _ h => h.elim) rfl hD hDm
  clear koW t5 ho5
  have XbW := hide bW
  have Xmk := hide mk
  clear bW mk
  gi_wp2_with fail
  refine Xmk.out.leaves fun w' t => ⟨_, results_tmp rfl _ _ _, ?_⟩
  exact ⟨t.toBelow (fun k e => by omega) XbW.out XbW.out.size, none, 0, rfl, Rd.nil _ _ _⟩
 case stop =>
  intro D c pre O W hD hSp h
  exact h.elim
theorem gat_nums (L : List Nd) (i : Int) : gatL Nd.leaf L (undL L i) = numsO L i := by
 unfold gatL undL numsO plcI plcO
 split <;> rfl
theorem gat_syms (L : List Nd) (i : Int) : gatL Nd.sym L (undL L i) = symsO L i := by
 unfold gatL undL symsO plcI plcO
 split <;> rfl
theorem arena_Leaves {w : World} {bt : Nat} {S : Nat → Prop} {L : List Nd} (h : Ar w bt S L) (hL : Tr L) (hl : L.length ≤ 100000) (i : Int) : Calls Tryz.prog 18 #[.pointer (some ⟨bt, 0, none⟩), .int .i64 i] w (IntsRd w (numsO L i)) := by
 have c := gather_leaves h hL hl i
 rw [gat_nums] at c
 have Xc := hide c
 clear c
 clear h hL hl
 go_enter Tryz.func18, Tryz.ntmps18
 go_wp2_with fail
 refine Xc.out.mono ?_
 rintro e w' ⟨b, A, c', rfl, hr⟩
 have Xb := hide b
 have Xhr := hide hr
 clear b hr
 clear Xc
 go_wp2_with fail
 go_ret
 exact ⟨Xb.out, A, c', rfl, Xhr.out⟩
theorem arena_Leaves0 (i : Int) (w : World) : Calls Tryz.prog 18 #[.pointer none, .int .i64 i] w (IntsRd w []) := by
 have c := gather_leaves0 i w
 have Xc := hide c
 clear c
 go_enter Tryz.func18, Tryz.ntmps18
 go_wp2_with fail
 refine Xc.out.mono ?_
 rintro e w' ⟨b, A, c', rfl, hr⟩
 have Xb := hide b
 have Xhr := hide hr
 clear b hr
 clear Xc
 go_wp2_with fail
 go_ret
 exact ⟨Xb.out, A, c', rfl, Xhr.out⟩
theorem arena_Yield {w : World} {bt : Nat} {S : Nat → Prop} {L : List Nd} (h : Ar w bt S L) (hL : Tr L) (hl : L.length ≤ 100000) (i : Int) : Calls Tryz.prog 22 #[.pointer (some ⟨bt, 0, none⟩), .int .i64 i] w (IntsRd w (symsO L i)) := by
 have c := gather_yield h hL hl i
 rw [gat_syms] at c
 have Xc := hide c
 clear c
 clear h hL hl
 go_enter Tryz.func22, Tryz.ntmps22
 go_wp2_with fail
 refine Xc.out.mono ?_
 rintro e w' ⟨b, A, c', rfl, hr⟩
 have Xb := hide b
 have Xhr := hide hr
 clear b hr
 clear Xc
 go_wp2_with fail
 go_ret
 exact ⟨Xb.out, A, c', rfl, Xhr.out⟩
theorem arena_Yield0 (i : Int) (w : World) : Calls Tryz.prog 22 #[.pointer none, .int .i64 i] w (IntsRd w []) := by
 have c := gather_yield0 i w
 have Xc := hide c
 clear c
 go_enter Tryz.func22, Tryz.ntmps22
 go_wp2_with fail
 refine Xc.out.mono ?_
 rintro e w' ⟨b, A, c', rfl, hr⟩
 have Xb := hide b
 have Xhr := hide hr
 clear b hr
 clear Xc
 go_wp2_with fail
 go_ret
 exact ⟨Xb.out, A, c', rfl, Xhr.out⟩
theorem arena_Check0 (vt vn vr : Value) (st i : Int) (w : World) (hs : ∃ A1 n1 c1 A2 n2 c2 A3 n3 c3, vt = .slice A1 n1 c1 ∧ vn = .slice A2 n2 c2 ∧ vr = .slice A3 n3 c3) : Calls Tryz.prog 12 #[.pointer none, GV vt vn vr st, .int .i64 i] w (Quiet w (.bool false)) := by
 obtain ⟨A1, n1, c1, A2, n2, c2, A3, n3, c3, rfl, rfl, rfl⟩ := hs
 obtain ⟨w1, hw1⟩ : ∃ x, x = w.alloc (.cells #[.pointer none] 29) := ⟨_, rfl⟩
 obtain ⟨w2, hw2⟩ : ∃ x, x = w1.alloc (.cells #[.slice A1 n1 c1, .slice A2 n2 c2, .slice A3 n3 c3, .int .i64 st] 26) := ⟨_, rfl⟩
 obtain ⟨w3, hw3⟩ : ∃ x, w2.alloc (.cells #[.bool false] 4) = x := ⟨_, rfl⟩
 have hw4 : ((w.alloc (.cells #[.pointer none] 29)).alloc (.cells #[.slice A1 n1 c1, .slice A2 n2 c2, .slice A3 n3 c3, .int .i64 st] 26)).alloc (.cells #[.bool false] 4) = w3 := by rw [← hw3, hw2, hw1]
 have z1 : w1.heap.size = w.heap.size + 1 := by rw [hw1]; simp
 have z2 : w2.heap.size = w.heap.size + 2 := by rw [hw2]; simp [z1]
 have z3 : w3.heap.size = w.heap.size + 3 := by rw [← hw3]; simp [z2]
 have b3 : Below w.heap.size w w3 := by rw [← hw3, hw2, hw1]; exact ((((Below.refl _ w).alloc (Nat.le_refl _) _).alloc (by simp) _).alloc (by simp; omega) _)
 have kt3 : Blk w3 w.heap.size 29 #[.pointer none] := by rw [← hw3, hw2, hw1]; exact ((Blk.new _ _ _).alloc _).alloc _
 have ko3 : Blk w3 (w.heap.size + 1 + 1) 4 #[.bool false] := by rw [← hw3, ← z2]; exact Blk.new _ _ _
 have p0 : w3.cell? ⟨w.heap.size, 0, none⟩ = some (.pointer none) := kt3.cell 0
 have q5 : w3.cell? ⟨w.heap.size + 1 + 1, 0, none⟩ = some (.bool false) := ko3.cell 0
 have f5 := ko3.frozen 0
 have cI := arena_in0e i w3
 clear hw1 hw2 hw3 z1 z2
 have XcI := hide cI
 have Xkt3 := hide kt3
 have Xko3 := hide ko3
 have Xb3 := hide b3
 clear cI kt3 ko3 b3
 go_enter Tryz.func12, Tryz.ntmps12
 go_wp2_with fail
 refine XcI.out.mono ?_
 rintro e w' ⟨rfl, rfl⟩
 clear XcI
 go_wp2_with fail
 have e0 := ((Xko3.out.put 0 (.bool false)).cell 0).trans rfl
 refine bodyPost_ret (v := .bool false) (by simp [results, Tryz.results12, go_sem, e0]) rfl ?_
 exact ⟨rfl, (touch_set w3 (w.heap.size + 1 + 1) 0 (.bool false)).toBelow (fun k e => by omega) Xb3.out Xb3.out.size⟩
end Go.Proofs.YtacankgalkffmaaGreat

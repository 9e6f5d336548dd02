/- Trees of nodes: no node to go under; gather, walked. -/
import Derived.Test.YtacankgalkffmaaGreatArena8
import Derived.Test.YtacankgalkffmaaGreatRound
namespace Go.Proofs.YtacankgalkffmaaGreat
set_option linter.unusedVariables false
set_option linter.unusedSimpArgs false
open Go.RowKit Go.Shelf
attribute [local go_sem] Oper.semAt_some
attribute [local irreducible] wpStill wpOne wpPh
set_option maxRecDepth 100000 in
set_option maxHeartbeats 4000000 in
theorem under_out {w : World} {R S : Nat → Prop} {bt bb bi : Nat} {L : List Nd} {i : Int} (ar : Ar w bt S L) (kb : Blk w bb 29 #[.pointer (some ⟨bt, 0, none⟩)]) (ki : Blk w bi 3 #[.int .i64 i])
  (hR : ∀ b, S b ∨ b = bb ∨ b = bi → R b) (hlt : ∀ b, R b → b < w.heap.size) (n : Nat) (hn : 4 ≤ n) (hin : inN L.length i = false) :
  SeqOwn Fence.wide n Tryz.prog 67 #[.pointer (some ⟨bi, 0, none⟩), .pointer (some ⟨bb, 0, none⟩)] (fun k : Int => #[.int .i64 k]) R (fun ys => ys = undL L i) (fun pre => pre <+: undL L i) w := by
 intro l J Jx W hW hA hAx hY h0
 have ar0 := Ar.touch ar (Touch.of_below hW) (fun b hb e => by have := ar.lt b hb; omega)
 have kb0 := kb.below hW (hlt _ (hR _ (.inr (.inl rfl))))
 have ki0 := ki.below hW (hlt _ (hR _ (.inr (.inr rfl))))
 have hlt0 : ∀ b, R b → b < W.heap.size := fun b hb => Nat.lt_of_lt_of_le (hlt b hb) hW.size
 clear ar kb ki hlt hW
 have q1 : W.cell? ⟨bi, 0, none⟩ = some (.int .i64 i) := ki0.cell 0
 have al1 : Below W.heap.size W (W.alloc (.cells #[.int .i64 i] 3)) := (Below.refl _ _).alloc (Nat.le_refl _) _
 have al : Below W.heap.size W ((W.alloc (.cells #[.int .i64 i] 3)).alloc (.cells #[.slice (some ⟨W.heap.size, 0, none⟩) 1 1] 33)) := al1.alloc al1.size _
 obtain ⟨Wa, hWa⟩ : ∃ x, x = (W.alloc (.cells #[.int .i64 i] 3)).alloc (.cells #[.slice (some ⟨W.heap.size, 0, none⟩) 1 1] 33) := ⟨_, rfl⟩
 rw [← hWa] at al
 have ara := Ar.touch ar0 (Touch.of_size al (fun _ => False)) (fun _ _ c => c)
 have cI := arena_in ara i
 rw [hin] at cI
 have kba := kb0.below al (hlt0 _ (hR _ (.inr (.inl rfl))))
 have kia := ki0.below al (hlt0 _ (hR _ (.inr (.inr rfl))))
 have p1 : Wa.cell? ⟨bi, 0, none⟩ = some (.int .i64 i) := kia.cell 0
 have p2 : Wa.cell? ⟨bb, 0, none⟩ = some (.pointer (some ⟨bt, 0, none⟩)) := kba.cell 0
 have kT : Blk Wa (W.heap.size + 1) 33 #[.slice (some ⟨W.heap.size, 0, none⟩) 1 1] := by
  rw [hWa]
  have := Blk.new (W.alloc (.cells #[.int .i64 i] 3)) 33 #[.slice (some ⟨W.heap.size, 0, none⟩) 1 1]
  rwa [World.size_alloc] at this
 have fT := kT.frozen 0
 have cT : Wa.cell? ⟨W.heap.size + 1, 0, none⟩ = some (.slice (some ⟨W.heap.size, 0, none⟩) 1 1) := kT.cell 0
 have p1e : ((W.alloc (.cells #[.int .i64 i] 3)).alloc (.cells #[.slice (some ⟨W.heap.size, 0, none⟩) 1 1] 33)).cell? ⟨bi, 0, none⟩ = some (.int .i64 i) := by rw [← hWa]; exact p1
 have p2e : ((W.alloc (.cells #[.int .i64 i] 3)).alloc (.cells #[.slice (some ⟨W.heap.size, 0, none⟩) 1 1] 33)).cell? ⟨bb, 0, none⟩ = some (.pointer (some ⟨bt, 0, none⟩)) := by rw [← hWa]; exact p2
 have hund : undL L i = [] := by unfold undL; rw [hin]; rfl
 have hJ := hA _ _ (fun b => b = W.heap.size + 1) _ (Wa.setCell ⟨W.heap.size + 1, 0, none⟩ (.slice none 0 0)) (hA _ _ (fun b => b = W.heap.size + 1) _ Wa h0 (Touch.of_size al _) (fun b h => h.elim) (fun b h => .inr (by omega))) (touch_set _ _ _ _) (fun b h => h) (fun b h => .inl h)
 have kT2 := kT.put 0 (.slice none 0 0)
 have XcI := hide cI
 have Xhund := hide hund
 have XhJ := hide hJ
 have XkT2 := hide kT2
 have XhA := hide hA
 clear cI hund hJ kT2 hA
 clear h0 hAx hY ar0 kb0 ki0 hlt0 al ara kba kia kT
 refine callsIn_of_wp_marks Tryz.func67 rfl trivial ?_ rfl
 simp only [Tryz.ntmps67, List.size_toArray, List.length_cons, List.length_nil, Nat.reduceAdd, Nat.reduceSub, Array.replicate_succ, Array.replicate_zero, List.push_toArray, List.append_toArray, List.nil_append, List.cons_append]
 gi_wp2_with fail
 rw [← hWa]
 clear hWa q1 al1 p1e p2e
 refine ⟨trivial, fun _ => by omega, (callsIn_wide.2 XcI.out).mono ?_⟩
 rintro e w' ⟨rfl, rfl⟩
 clear XcI
 gi_wp2_with fail
 refine loop_under (fun ds mu W' => ds = [] ∧ Blk W' (W.heap.size + 1) 33 #[.slice none 0 0] ∧ J [] (fun b => b = W.heap.size + 1) W') 0 ⟨rfl, XkT2.out, XhJ.out⟩ ?_
 intro y5 y14 y15 y16 y17 y18 y19 y20 y21 y22 y23 y24 y25 y26 y27 y28 y29 y30 y31 y32 y33 y34 y35 y36 y37 y38 y39 y40 y41 ds mu wr hrel K hK
 obtain ⟨rfl, kT3, hJ3⟩ := hrel
 have hbx : wr.cell? ⟨W.heap.size + 1, 0, none⟩ = some (.slice none 0 0) := kT3.cell 0
 clear kT3 XkT2 XhJ
 have XhJ3 := hide hJ3
 clear hJ3
 gi_wp2_with fail
 refine (MkO.nil (fun b => b = W.heap.size + 1) wr).leaves fun w' t => ⟨_, results_none rfl _ _ _, ⟨_, rfl⟩, .inl ⟨fun b => b = W.heap.size + 1, ?_⟩⟩
 rw [Xhund.out]
 exact XhA.out _ _ _ _ _ XhJ3.out t (fun b h => h) (fun b h => .inl h)
theorem under_any {w : World} {R S : Nat → Prop} {bt bb bi : Nat} {L : List Nd} {i : Int} (hL : Tr L) (hl : L.length ≤ 100000) (ar : Ar w bt S L) (kb : Blk w bb 29 #[.pointer (some ⟨bt, 0, none⟩)]) (ki : Blk w bi 3 #[.int .i64 i])
  (hR : ∀ b, S b ∨ b = bb ∨ b = bi → R b) (hlt : ∀ b, R b → b < w.heap.size) (n : Nat) (hn : 4 ≤ n) :
  SeqOwn Fence.wide n Tryz.prog 67 #[.pointer (some ⟨bi, 0, none⟩), .pointer (some ⟨bb, 0, none⟩)] (fun k : Int => #[.int .i64 k]) R (fun ys => ys = undL L i) (fun pre => pre <+: undL L i) w := by
 rcases h : inN L.length i with _ | _
 ·exact under_out ar kb ki hR hlt n hn h
 ·exact under_own hL hl ar kb ki hR hlt n hn h
theorem undL_in {L : List Nd} (h : Tr L) {i k : Int} (hk : k ∈ undL L i) : 0 ≤ k ∧ k < L.length := by
 unfold undL at hk
 split at hk
 ·rename_i hi
  obtain ⟨h0, h1⟩ := inN_iff.1 hi
  have := preO_lt h.acyc h0 hk
  omega
 ·cases hk
theorem undL_len {L : List Nd} (h : Tr L) (i : Int) : (undL L i).length ≤ L.length := by
 unfold undL
 split
 ·rename_i hi
  obtain ⟨h0, h1⟩ := inN_iff.1 hi
  exact h.wt i h0 h1
 ·exact Nat.zero_le _
end Go.Proofs.YtacankgalkffmaaGreat

/- Trees of nodes: New, Len, in, Leaf. -/
import Derived.Test.YtacankgalkffmaaGreatArena1
namespace Go.Proofs.YtacankgalkffmaaGreat
set_option linter.unusedVariables false
set_option linter.unusedSimpArgs false
open Go.RowKit
theorem arena_New (w : World) : Calls Tryz.prog 24 #[] w fun e w' => e = .returned (.pointer (some ⟨w.heap.size, 0, none⟩)) ∧ w' = w.alloc (.cells #[.slice none 0 0] 62) := by
 go_enter Tryz.func24, Tryz.ntmps24
 go_wp2_with fail
 go_ret
 exact ⟨rfl, rfl⟩
theorem Ar.new (w : World) : Ar (w.alloc (.cells #[.slice none 0 0] 62)) w.heap.size (fun b => b = w.heap.size) [] :=
 ⟨.slice none 0 0, [], rfl, Blk.new _ _ _, World.ownsRow_nil _ _ _ _, rfl, fun k e => (by cases e), fun p hp => (by cases hp), fun b e => by subst e; simp⟩
theorem arena_Len0 (w : World) : Calls Tryz.prog 16 #[.pointer none] w (Quiet w (.int .i64 0)) := by
 go_enter Tryz.func16, Tryz.ntmps16
 go_wp2_with fail
 go_ret
 exact ⟨rfl, Below.refl _ _⟩
theorem arena_in0 (i : Int) (w : World) : Calls Tryz.prog 28 #[.pointer none, .int .i64 i] w (Quiet w (.bool false)) := by
 have cL := arena_Len0 w
 have XcL := hide cL
 clear cL
 by_cases h0 : 0 ≤ i
 ·have h1 : ¬ i < 0 := by omega
  go_enter Tryz.func28, Tryz.ntmps28
  go_wp2_with fail
  refine XcL.out.mono ?_
  rintro e w' ⟨rfl, b⟩
  have Xb := hide b
  clear b
  clear XcL
  go_wp2_with fail
  go_ret
  exact ⟨ret_bool (decide_eq_false (by omega)), Xb.out⟩
 ·have h1 : i < 0 := by omega
  go_enter Tryz.func28, Tryz.ntmps28
  go_wp2_with fail
  go_ret
  exact ⟨rfl, Below.refl _ _⟩
section
variable {w w' : World} {bt : Nat} {S : Nat → Prop} {L : List Nd}
theorem arena_Len (h : Ar w bt S L) : Calls Tryz.prog 16 #[.pointer (some ⟨bt, 0, none⟩)] w fun e w' => e = .returned (.int .i64 (L.length : Int)) ∧ w = w' := by
 obtain ⟨v, M, rfl, h⟩ := h
 obtain ⟨A, c, rfl, hc, hm⟩ := h.shape
 have hb := (h.box.cell 0).trans rfl
 rw [List.length_map]
 generalize M.length = n at *
 clear h
 go_enter Tryz.func16, Tryz.ntmps16
 go_wp2_with fail
 go_ret
 exact ⟨rfl, rfl⟩
theorem arena_in (h : Ar w bt S L) (i : Int) : Calls Tryz.prog 28 #[.pointer (some ⟨bt, 0, none⟩), .int .i64 i] w fun e w' => e = .returned (.bool (inN L.length i)) ∧ w = w' := by
 have cL := arena_Len h
 have hr : inN L.length i = (decide (0 ≤ i) && decide (i < (L.length : Int))) := rfl
 generalize inN L.length i = r at *
 generalize L.length = n at *
 clear h
 have XcL := hide cL
 have Xhr := hide hr
 clear cL hr
 by_cases h0 : 0 ≤ i
 ·have h1 : ¬ i < 0 := by omega
  go_enter Tryz.func28, Tryz.ntmps28
  go_wp2_with fail
  refine XcL.out.mono ?_
  rintro e w' ⟨rfl, rfl⟩
  clear XcL
  go_wp2_with fail
  go_ret
  exact ⟨ret_bool (by rw [Xhr.out]; simp [h0]), rfl⟩
 ·have h1 : i < 0 := by omega
  go_enter Tryz.func28, Tryz.ntmps28
  go_wp2_with fail
  go_ret
  exact ⟨ret_bool (by rw [Xhr.out, decide_eq_false (show ¬ 0 ≤ i by omega)]; rfl), rfl⟩
theorem arena_Leaf0 (s n : Int) (w : World) : Calls Tryz.prog 15 #[.pointer none, .int .i64 s, .int .i64 n] w (Quiet w (.int .i64 (-1))) := by
 go_enter Tryz.func15, Tryz.ntmps15
 go_wp2_with fail
 go_ret
 exact ⟨rfl, Below.refl _ _⟩
theorem arena_Leaf (h : Ar w bt S L) (hl : L.length ≤ 100000) (s n : Int) : Calls Tryz.prog 15 #[.pointer (some ⟨bt, 0, none⟩), .int .i64 s, .int .i64 n] w fun e w' => e = .returned (.int .i64 (L.length : Int)) ∧ Ar w' bt (New S w w') (leafL L s n) ∧ Touch S w w' := by
 obtain ⟨v, M, rfl, h⟩ := h
 rw [List.length_map] at hl
 obtain ⟨A, c, rfl, hc, hm⟩ := h.shape
 have hb := (h.box.cell 0).trans rfl
 have al : Below w.heap.size w (w.alloc (.cells #[.int .i64 s, .int .i64 n, .int .i64 (-1), .slice none 0 0, .bool true, .bool false] 59)) := (Below.refl _ _).alloc (Nat.le_refl _) _
 have h1 := h.below al
 have rone : Rd (w.alloc (.cells #[.int .i64 s, .int .i64 n, .int .i64 (-1), .slice none 0 0, .bool true, .bool false] 59)) (fun _ => True) (.slice (some ⟨w.heap.size, 0, none⟩) 1 1) 6 (ndC (leafN s n, .slice none 0 0)) := Rd.one (w := w) (e := 59) (ndC (leafN s n, .slice none 0 0)) 6 rfl
 have hone : ∀ u ∈ ndC (leafN s n, .slice none 0 0), u.oneCell' = true := by intro u hu; simp [ndC] at hu; rcases hu with rfl | rfl | rfl | rfl | rfl | rfl <;> rfl
 have hfr := h.box.frozen 0
 obtain ⟨m, hM⟩ : ∃ m, m = M.length := ⟨_, rfl⟩
 rw [List.length_map, ← hM]
 rw [← hM] at hb hl hc h h1
 have own1 := h1.own
 rw [← hM] at own1
 have Xh := hide h
 have XhM := hide hM
 have Xal := hide al
 have Xh1 := hide h1
 have Xrone := hide rone
 have Xhone := hide hone
 have Xown1 := hide own1
 clear h hM al h1 rone hone own1
 go_enter Tryz.func15, Tryz.ntmps15
 go_wp2_with (at_builtin; refine wp_append _ rfl (.tmp 13) (.tmp 18) _ rfl Tryz.elemNode 0 (.slice A m c) m _ rfl Xown1.out _ _ (ndC (leafN s n, .slice none 0 0)) 1 rfl rfl Xrone.out Xhone.out (by unfold maxLen; omega) (by omega) (Nat.zero_le _) ?_)
 intro A4 c4 w4 own4 g4 ho4
 have t4 : Touch (fun k => (Value.slice A m c).ownBlock = some k) w w4 := (Touch.of_size Xal.out _).trans' ((Touch.refl _ _).grown g4 (fun k e _ => e))
 have z4 := g4.size
 have kb4 := Xh.out.box.touch t4 (fun e => (Xh.out.sv bt e).2 rfl)
 have hb4 := (kb4.cell 0).trans rfl
 have hf4 := kb4.frozen 0
 have P := Xh.out.push (z := .slice none 0 0) (x := leafN s n) t4 (fun b e => e) (by rw [← XhM.out]; exact own4) (by
  rcases ho4 with q | q
  ·exact .inl q
  ·exact .inr ⟨_, q, Nat.le_add_right _ _⟩) (Rd.nil _ _ _)
 have T : Touch S w (w4.setCell ⟨bt, 0, none⟩ (.slice A4 (m + 1) c4)) := (t4.mono (fun k _ e => (Xh.out.sv k e).1)).setCell (p := ⟨bt, 0, none⟩) (fun _ => Xh.out.sb) _
 have hN : New S w (w4.setCell ⟨bt, 0, none⟩ (.slice A4 (m + 1) c4)) = New S w w4 := by unfold New; rw [setc_size]
 clear own4 g4 ho4 z4 kb4 t4 Xown1 Xrone Xhone Xh1 Xal hb hfr
 have XP := hide P
 have XT := hide T
 have XhN := hide hN
 clear P T hN
 go_wp2_with fail
 go_ret
 refine ⟨ret_int (by omega), ⟨_, _, ?_, by rw [XhN.out]; exact XP.out⟩, XT.out⟩
 rw [List.map_append]; rfl
end
end Go.Proofs.YtacankgalkffmaaGreat

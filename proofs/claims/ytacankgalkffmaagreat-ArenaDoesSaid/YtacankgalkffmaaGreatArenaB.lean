/- strings.Builder, at this program: String; the copy check; WriteString, WriteByte. -/
import Derived.Test.YtacankgalkffmaaGreatArena12
import Derived.Shelf.Strings.Builder1
namespace Go.Proofs.YtacankgalkffmaaGreat
set_option linter.unusedVariables false
set_option linter.unusedSimpArgs false
section
open Go.Shelf
def Tryz.bStringA_ren : Go.Shelf.Ren := ⟨fun | 169 => 36 | n => n, fun | 70 => 64 | 9 => 9 | 0 => 0 | 72 => 67 | 37 => 65 | 127 => 85 | 3 => 3 | 5 => 5 | n => n, fun | n => n⟩
theorem Tryz.bStringA : Go.Proofs.Lays.n169 Tryz.prog Tryz.bStringA_ren := {
 mixed := by kernel_rfl
 f169 := Tryz.func36.trans (congrArg some (by kernel_rfl))
 t0 := Tryz.underlying0
 a0 := Tryz.isAgg0
 z0 := Tryz.sizeOf0
 v0 := Tryz.zeroValue0
 t3 := Tryz.underlying3
 a3 := Tryz.isAgg3
 z3 := Tryz.sizeOf3
 v3 := Tryz.zeroValue3
 t9 := Tryz.underlying9
 a9 := Tryz.isAgg9
 z9 := Tryz.sizeOf9
 v9 := Tryz.zeroValue9
 t37 := Tryz.underlying65
 a37 := Tryz.isAgg65
 z37 := Tryz.sizeOf65
 v37 := Tryz.zeroValue65
 t70 := Tryz.underlying64
 a70 := Tryz.isAgg64
 z70 := Tryz.sizeOf64
 v70 := Tryz.zeroValue64
 t72 := Tryz.underlying67
 a72 := Tryz.isAgg67
 z72 := Tryz.sizeOf67
 v72 := Tryz.zeroValue67
 t127 := Tryz.underlying85
 a127 := Tryz.isAgg85
 z127 := Tryz.sizeOf85
 v127 := Tryz.zeroValue85 }
end
section
open Go.RowKit
attribute [local irreducible] wpStill wpOne wpPh
theorem Tryz.sizeBuilderA : (Tryz.prog.info? 67).map (·.size) = some 2 := by kernel_rfl
theorem Tryz.liesBuilderA : liesAt Tryz.prog Tryz.prog.depth 67 (2 / Tryz.prog.cellsOf 67) 0 67 1 = true := by kernel_rfl
set_option maxHeartbeats 1000000 in
set_option maxRecDepth 100000 in
theorem check_usedA (b : Nat) (w : World) (h0 : w.cell? ⟨b, 0, none⟩ = some (.pointer (some ⟨b, 0, none⟩))) :
  Calls Tryz.prog 49 #[.pointer (some ⟨b, 0, none⟩)] w fun e w' => e = .returned (.tuple #[]) ∧ w' = w := by
 obtain ⟨j, hj, _⟩ := Option.map_eq_some_iff.1 Tryz.sizeBuilderA
 have X := hide hj
 clear hj
 go_enter Tryz.func49, Tryz.ntmps49
 go_wp2
 rw [Lib.run_neq_ptr_same w _ Tryz.underlying64 X.out]
 go_wp2
 go_end0
 exact ⟨rfl, rfl⟩
set_option maxHeartbeats 1000000 in
set_option maxRecDepth 100000 in
theorem check_freshA (b : Nat) (w : World) (h0 : w.cell? ⟨b, 0, none⟩ = some (.pointer none)) (hsh : w.shape? b = some (67, 2)) (hfz : w.frozen? ⟨b, 0, none⟩ = false) :
  Calls Tryz.prog 49 #[.pointer (some ⟨b, 0, none⟩)] w fun e w' => e = .returned (.tuple #[]) ∧ w' = w.setCell ⟨b, 0, none⟩ (.pointer (some ⟨b, 0, none⟩)) := by
 obtain ⟨j, hj, hjs⟩ := Option.map_eq_some_iff.1 Tryz.sizeBuilderA
 have X := hide hj
 have Y := hide hjs
 have S := hide hsh
 clear hj hjs hsh
 go_enter Tryz.func49, Tryz.ntmps49
 go_wp2
 rw [Lib.run_to_unsafe w ⟨b, 0, none⟩ Tryz.underlying64 Tryz.underlying105 X.out (by rw [Y.out]; decide) S.out (Nat.zero_lt_succ 1)]
 simp only [Result.andThen]
 rw [Oper.upon_value]
 go_wp2
 rw [run_callFunc_extern Tryz.func80 (by kernel_rfl) (by kernel_rfl) (by kernel_rfl) (e := Extern.AbiNoEscape.same) (by kernel_rfl)]
 rw [Lib.run_noEscape]
 simp only [Result.andThen]
 rw [Oper.upon_value]
 go_wp2
 rw [Lib.run_from_unsafe w ⟨b, 0, none⟩ Tryz.underlying105 Tryz.underlying64 X.out S.out Tryz.liesBuilderA]
 simp only [Result.andThen]
 rw [Oper.upon_value]
 go_wp2
 go_end0
 exact ⟨rfl, rfl⟩
theorem Tryz.infoByteA : (Tryz.prog.info? 5).map (fun i => (i.zero, i.size, i.bytes)) = some (some (.int .u8 0), 1, 1) := by kernel_rfl
theorem Tryz.elemByteA : Elem Tryz.prog 65 5 (.int .u8 0) 1 1 := ⟨Tryz.underlying65, Tryz.infoByteA, rfl, by decide⟩
set_option maxRecDepth 100000 in
theorem Tryz.extraA : Builder.Extra Tryz.prog Tryz.bStringA_ren where
 sizeBuilder := by kernel_rfl
 liesBuilder := by kernel_rfl
 t5 := Tryz.underlying5
 a5 := Tryz.isAgg5
 z5 := Tryz.sizeOf5
 v5 := Tryz.zeroValue5
 infoByte := Tryz.infoByteA
 cellsByte := by kernel_rfl
 sizeByte := by kernel_rfl
 neB5 := by decide
theorem builder_stringA (B b : Nat) (l : List UInt8) (w : World) (h : Lib.IsBuilder 67 5 B b (Lib.byteCells l) w) (hB : B ≤ w.heap.size) :
  Calls Tryz.prog 36 #[.pointer (some ⟨b, 0, none⟩)] w fun e w' => e = .returned (.string ⟨l.toArray⟩) ∧ Below B w w' := Any.Builder_String_any Tryz.bStringA Tryz.extraA B b l w h hB
theorem check_anyA {B b : Nat} {bs : List Value} {w : World} (h : Lib.IsBuilder 67 5 B b bs w) :
  Calls Tryz.prog 49 #[.pointer (some ⟨b, 0, none⟩)] w fun e w' => e = .returned (.tuple #[]) ∧ Lib.BuilderAt 67 5 B b (.pointer (some ⟨b, 0, none⟩)) bs w' ∧ Touch (fun k => k = b) w w' := by
 rcases h with h | h
 ·refine (check_freshA b w h.cell0 h.shape h.frozen0).mono ?_
  rintro e w' ⟨rfl, rfl⟩
  exact ⟨rfl, h.used _, (Touch.refl (fun k => k = b) w).setCell (p := ⟨b, 0, none⟩) (fun _ => rfl) _⟩
 ·refine (check_usedA b w h.cell0).mono ?_
  rintro e w' ⟨rfl, rfl⟩
  exact ⟨rfl, h, Touch.refl _ _⟩
theorem builder_belowA {T e : TypeId} {B b : Nat} {bs : List Value} {w w' : World} (h : Lib.IsBuilder T e B b bs w) (hb : Below w.heap.size w w') : Lib.IsBuilder T e B b bs w' := by
 have key : ∀ p, Lib.BuilderAt T e B b p bs w → Lib.BuilderAt T e B b p bs w' := fun p ⟨h1, v, h2, h3, h4⟩ => ⟨h1, v, (hb.block b (Array.getElem?_eq_some_iff.1 h2).1).trans h2, own_below' h3 hb, h4⟩
 exact h.imp (key _) (key _)
set_option maxRecDepth 100000 in
set_option maxHeartbeats 2000000 in
def BdM (M b : Nat) (l : List UInt8) (w : World) : Prop := b < M ∧ M ≤ w.heap.size ∧ ∃ p v, Blk w b 67 #[p, v] ∧ (p = .pointer none ∨ p = .pointer (some ⟨b, 0, none⟩)) ∧ w.ownsRow M 5 1 v l.length (Lib.byteCells l)
theorem BdM.is {M b : Nat} {l : List UInt8} {w : World} (h : BdM M b l w) : Lib.IsBuilder 67 5 b b (Lib.byteCells l) w := by
 obtain ⟨h1, h2, p, v, kb, hp, own⟩ := h
 have hne : v.ownBlock ≠ some b := fun e => by have := (own.lt b e).1; omega
 have o2 : w.ownsRow b 5 1 v (Lib.byteCells l).length (Lib.byteCells l) := by rw [Lib.byteCells_length]; exact ownsRow_base own fun k e => by have := (own.lt k e).1; omega
 rcases hp with rfl | rfl
 ·exact .inl ⟨Nat.le_refl _, v, kb, o2, hne⟩
 ·exact .inr ⟨Nat.le_refl _, v, kb, o2, hne⟩
theorem BdM.below {M b : Nat} {l : List UInt8} {w w' : World} (h : BdM M b l w) (bl : Below w.heap.size w w') : BdM M b l w' := by
 obtain ⟨h1, h2, p, v, kb, hp, own⟩ := h
 exact ⟨h1, Nat.le_trans h2 bl.size, p, v, kb.below bl (by omega), hp, own_below' own bl⟩
theorem BdM.drew {M b : Nat} {l : List UInt8} {w : World} (h : BdM M b l w) : BdM M b l w.drew := h
theorem bd_check {M b : Nat} {l : List UInt8} {w : World} (h : BdM M b l w) : Calls Tryz.prog 49 #[.pointer (some ⟨b, 0, none⟩)] w fun e w' => e = .returned (.tuple #[]) ∧ (∃ v, Blk w' b 67 #[.pointer (some ⟨b, 0, none⟩), v] ∧ w'.ownsRow M 5 1 v l.length (Lib.byteCells l)) ∧ Touch (fun k => k = b) w w' := by
 have hi := h.is
 obtain ⟨h1, h2, p, v, kb, hp, own⟩ := h
 have c0 : w.cell? ⟨b, 0, none⟩ = some p := kb.cell 0
 have hne : v.ownBlock ≠ some b := fun e => by have := (own.lt b e).1; omega
 rcases hp with rfl | rfl
 ·have hB : Lib.BuilderAt 67 5 b b (.pointer none) (Lib.byteCells l) w := ⟨Nat.le_refl _, v, kb, by rw [Lib.byteCells_length]; exact ownsRow_base own fun k e => by have := (own.lt k e).1; omega, hne⟩
  refine (check_freshA b w c0 hB.shape hB.frozen0).mono ?_
  rintro e w' ⟨rfl, rfl⟩
  exact ⟨rfl, ⟨v, kb.put 0 _, own_far own (p := ⟨b, 0, none⟩) hne _⟩, touch_set _ _ _ _⟩
 ·refine (check_usedA b w c0).mono ?_
  rintro e w' ⟨rfl, rfl⟩
  exact ⟨rfl, ⟨v, kb, own⟩, Touch.refl _ _⟩
theorem byteCells_app (a b : List UInt8) : Lib.byteCells (a ++ b) = Lib.byteCells a ++ Lib.byteCells b := Lib.byteCells_append a b
set_option maxRecDepth 100000 in
set_option maxHeartbeats 2000000 in
theorem bd_byte {M b : Nat} {l : List UInt8} {w : World} (h : BdM M b l w) (hlen : l.length ≤ 100000000) (c : UInt8) : Calls Tryz.prog 35 #[.pointer (some ⟨b, 0, none⟩), .int .u8 (c.toNat : Int)] w fun e w' => e = .returned .nilIface ∧ BdM M b (l ++ [c]) w' ∧ Touch (fun k => k = b ∨ M ≤ k) w w' := by
 have cc := bd_check h
 have h1 := h.1
 have h2 := h.2.1
 obtain ⟨cn, hcn⟩ : ∃ n, n = (c.toNat : Int) := ⟨_, rfl⟩
 rw [← hcn]
 have Xcc := hide cc
 have Xh := hide h
 have Xhcn := hide hcn
 clear cc h hcn
 go_enter Tryz.func35, Tryz.ntmps35
 go_wp2_with fail
 refine Xcc.out.mono ?_
 rintro e w2 ⟨rfl, ⟨v, k2, own2⟩, t2⟩
 obtain ⟨A, cA, rfl, -, -⟩ := ownsRow_shape own2
 have d1 : w2.cell? ⟨b, 1, none⟩ = some (.slice A l.length cA) := k2.cell 1
 have z2 := t2.size
 have al : Below w2.heap.size w2 (w2.alloc (.cells #[.int .u8 cn] 5)) := (Below.refl _ _).alloc (Nat.le_refl _) _
 have own3 := own_below' own2 al
 have rone : Rd (w2.alloc (.cells #[.int .u8 cn] 5)) (fun _ => True) (.slice (some ⟨w2.heap.size, 0, none⟩) 1 1) 1 [.int .u8 cn] := Rd.one (w := w2) (e := 5) [.int .u8 cn] 1 rfl
 have k3 := k2.below al k2.lt
 have hlo := own2.lt
 have d3 : (w2.alloc (.cells #[.int .u8 cn] 5)).cell? ⟨b, 1, none⟩ = some (.slice A l.length cA) := k3.cell 1
 obtain ⟨n, hn⟩ : ∃ n, n = l.length := ⟨_, rfl⟩
 rw [← hn] at d1 own3 hlen d3 k3 k2 hlo
 have hB : M ≤ (w2.alloc (.cells #[.int .u8 cn] 5)).heap.size := by have := al.size; omega
 clear Xcc own2 k2
 have Xt2 := hide t2
 have Xal := hide al
 have Xown3 := hide own3
 have Xrone := hide rone
 have Xk3 := hide k3
 have Xhlo := hide hlo
 have Xhn := hide hn
 clear t2 al own3 rone k3 hlo hn
 go_wp2_with (at_builtin; refine wp_append _ rfl (.tmp 11) (.tmp 13) _ rfl Tryz.elemByteA M (.slice A n cA) n _ rfl Xown3.out _ _ [.int .u8 cn] 1 rfl rfl Xrone.out (by intro u hu; obtain rfl := List.mem_singleton.1 hu; rfl) (by unfold maxLen; omega) (by omega) hB ?_)
 intro A4 c4 w4 own4 g4 ho4
 have t4 : Touch (fun k => (Value.slice A n cA).ownBlock = some k) (w2.alloc (.cells #[.int .u8 cn] 5)) w4 := (Touch.refl _ _).grown g4 (fun k e _ => e)
 have k4 := Xk3.out.touch t4 (fun e => by have := (Xhlo.out b e).1; omega)
 have z4 := t4.size
 have d4 : w4.cell? ⟨b, 1, none⟩ = some (.slice A n cA) := k4.cell 1
 have f4 := k4.frozen 1
 have k5 := k4.put 1 (.slice A4 (n + 1) c4)
 have own5 := own_far own4 (p := ⟨b, 1, none⟩) (fun e => by have := (own4.lt b e).1; omega) (.slice A4 (n + 1) c4)
 have tF : Touch (fun k => k = b ∨ M ≤ k) w (w4.setCell ⟨b, 1, none⟩ (.slice A4 (n + 1) c4)) := by
  refine (((Xt2.out.mono fun k _ e => .inl e).trans' (Touch.of_size Xal.out _)).trans t4 fun k _ e => .inr (Xhlo.out k e).1).trans (touch_set _ _ _ _) fun k _ e => .inl e
 have hcl : Lib.byteCells l ++ [.int .u8 cn] = Lib.byteCells (l ++ [c]) := by rw [byteCells_app, Xhcn.out]; rfl
 rw [hcl] at own5
 have hM4 : M ≤ (w4.setCell ⟨b, 1, none⟩ (.slice A4 (n + 1) c4)).heap.size := by rw [setc_size]; omega
 clear own4 g4 ho4 t4 k4 hcl Xown3 Xrone Xk3 Xal Xt2
 have Xk5 := hide k5
 have Xown5 := hide own5
 have XtF := hide tF
 have XhM4 := hide hM4
 clear k5 own5 tF hM4
 go_wp2_with fail
 go_ret
 exact ⟨rfl, ⟨h1, XhM4.out, _, _, Xk5.out, .inr rfl, by rw [List.length_append, ← Xhn.out]; exact Xown5.out⟩, XtF.out⟩
set_option maxRecDepth 100000 in
set_option maxHeartbeats 2000000 in
theorem bd_text {M b : Nat} {l : List UInt8} {w : World} (h : BdM M b l w) (hlen : l.length ≤ 100000000) (s : ByteArray) (hs : s.size ≤ 100000000) : Calls Tryz.prog 33 #[.pointer (some ⟨b, 0, none⟩), .string s] w fun e w' => e = .returned (.tuple #[.int .i64 (s.size : Int), .nilIface]) ∧ BdM M b (l ++ s.toList) w' ∧ Touch (fun k => k = b ∨ M ≤ k) w w' ∧ ∀ k t cs, 5 ≠ t → k ≠ b → Blk w k t cs → Blk w' k t cs := by
 have cc := bd_check h
 have h1 := h.1
 have h2 := h.2.1
 obtain ⟨i0, hi, hz0, hz1, hz2⟩ := info_parts Tryz.infoByteA
 have Xcc := hide cc
 have Xh := hide h
 clear cc h
 go_enter Tryz.func33, Tryz.ntmps33
 go_wp2_with fail
 refine Xcc.out.mono ?_
 rintro e w2 ⟨rfl, ⟨v, k2, own2⟩, t2⟩
 obtain ⟨A, cA, rfl, -, -⟩ := ownsRow_shape own2
 have d1 : w2.cell? ⟨b, 1, none⟩ = some (.slice A l.length cA) := k2.cell 1
 have z2 := t2.size
 have hlo := own2.lt
 obtain ⟨n, hn⟩ : ∃ n, n = l.length := ⟨_, rfl⟩
 rw [← hn] at d1 own2 hlen k2 hlo
 have hB : M ≤ w2.heap.size := by omega
 clear Xcc
 have Xt2 := hide t2
 have Xown2 := hide own2
 have Xk2 := hide k2
 have Xhlo := hide hlo
 have Xhn := hide hn
 clear t2 own2 k2 hlo hn
 go_wp2_with (at_builtin; refine Lib.wpList_append_own_string _ rfl (.tmp 12) (.tmp 13) 65 9 rfl M 5 i0 Tryz.underlying65 Tryz.underlying9 hi hz0 hz1 hz2 (.slice A n cA) n _ rfl Xown2.out s rfl (by unfold maxLen; omega) (by omega) hB ?_)
 intro v4 w4 own4 g4 ho4
 obtain ⟨A4, c4, rfl, -, -⟩ := ownsRow_shape own4
 have t4 : Touch (fun k => (Value.slice A n cA).ownBlock = some k) w2 w4 := (Touch.refl _ _).grown g4 (fun k e _ => e)
 have k4 := Xk2.out.touch t4 (fun e => by have := (Xhlo.out b e).1; omega)
 have z4 := t4.size
 have d4 : w4.cell? ⟨b, 1, none⟩ = some (.slice A n cA) := k4.cell 1
 have f4 := k4.frozen 1
 have k5 := k4.put 1 (.slice A4 (n + s.size) c4)
 have own5 := own_far own4 (p := ⟨b, 1, none⟩) (fun e => by have := (own4.lt b e).1; omega) (.slice A4 (n + s.size) c4)
 have tF : Touch (fun k => k = b ∨ M ≤ k) w (w4.setCell ⟨b, 1, none⟩ (.slice A4 (n + s.size) c4)) := by
  refine ((Xt2.out.mono fun k _ e => .inl e).trans t4 fun k _ e => .inr (Xhlo.out k e).1).trans (touch_set _ _ _ _) fun k _ e => .inl e
 have hO : ∀ k t cs, 5 ≠ t → k ≠ b → Blk w k t cs → Blk (w4.setCell ⟨b, 1, none⟩ (.slice A4 (n + s.size) c4)) k t cs := fun k t cs ht hk hb => by
  have h2 := hb.touch Xt2.out hk
  exact (h2.touch t4 (fun e => h2.ne_own Xown2.out ht e)).touch (touch_set _ _ _ _) hk
 have hcl : Lib.byteCells l ++ Lib.strCells s = Lib.byteCells (l ++ s.toList) := by rw [byteCells_app, Lib.strCells_eq, ByteArray.toList_eq]
 rw [hcl] at own5
 have hM4 : M ≤ (w4.setCell ⟨b, 1, none⟩ (.slice A4 (n + s.size) c4)).heap.size := by rw [setc_size]; omega
 clear own4 g4 ho4 t4 k4 hcl Xown2 Xk2 Xt2
 have Xk5 := hide k5
 have Xown5 := hide own5
 have XtF := hide tF
 have XhM4 := hide hM4
 have XhO := hide hO
 clear k5 own5 tF hM4 hO
 go_wp2_with fail
 go_ret2
 exact ⟨rfl, ⟨h1, XhM4.out, _, _, Xk5.out, .inr rfl, by rw [List.length_append, toList_len, ← Xhn.out]; exact Xown5.out⟩, XtF.out, XhO.out⟩
end
end Go.Proofs.YtacankgalkffmaaGreat

/- conchref10.Of: the walk. -/
import Derived.Test.YtlpokomfljmogaaGreatLeast6
import Derived.Deep.CutRange
import Derived.BigRegion
namespace Go.Proofs.YtlpokomfljmogaaGreat
set_option linter.unusedVariables false
open Go.RowKit
attribute [local irreducible] wpStill wpOne wpPh
def RefLeastPost (G : GramD) (st : Int) (w : World) (e : Ending) (w' : World) : Prop :=
 Below w.heap.size w w' ∧ ((checkOf G st ≠ 0 ∧ e = .returned (.pointer none)) ∨ (checkOf G st = 0 ∧ ∃ (S : List FoundD) (b gl gi gm : Nat), e = .returned (.pointer (some ⟨b, 0, none⟩)) ∧ Fixed G.rules (startW G.terms.length G.nons.length) S ∧
  RefWords w' (fun q => w.heap.size ≤ q ∧ q < w'.heap.size ∧ q ≠ gl ∧ q ≠ gi ∧ q ≠ gm) b gl gi gm S ∧ w.heap.size ≤ b ∧ w.heap.size ≤ gl ∧ w.heap.size ≤ gi ∧ w.heap.size ≤ gm ∧ GoodS G.terms.length S ∧ S.length = G.terms.length + G.nons.length + 1))
structure RCtx (w wr : World) (F : Nat → Prop) (A1 : Option Addr) (c1 : Nat) (A2 : Option Addr) (c2 : Nat) (A3 : Option Addr) (c3 T N R : Nat) (st : Int) (G : GramD) (bz gl gi gm : Nat) (S : List FoundD) : Prop where
 g : GBox wr F w.heap.size A1 c1 A2 c2 A3 c3 T N R st G
 ws : RefWords wr (fun q => bz < q ∧ q < wr.heap.size) bz gl gi gm S
 b : Below w.heap.size w wr
 z : w.heap.size < gl ∧ w.heap.size < gi ∧ w.heap.size < gm ∧ gl < bz ∧ gi < bz ∧ gm < bz
 f : ∀ b, F b → b < w.heap.size
section
variable {w wr wr' : World} {F : Nat → Prop} {A1 : Option Addr} {c1 : Nat} {A2 : Option Addr} {c2 : Nat} {A3 : Option Addr} {c3 T N R : Nat} {st : Int} {G : GramD} {bz gl gi gm : Nat} {S : List FoundD}
theorem RCtx.below (h : RCtx w wr F A1 c1 A2 c2 A3 c3 T N R st G bz gl gi gm S) (b : Below wr.heap.size wr wr') : RCtx w wr' F A1 c1 A2 c2 A3 c3 T N R st G bz gl gi gm S := by
 obtain ⟨z1, z2, z3, z4, z5, z6⟩ := h.z
 exact ⟨h.g.below b, (h.ws.below b).mono (fun k hk => ⟨hk.1, Nat.lt_of_lt_of_le hk.2 b.size⟩) (fun k hk => hk.2) (fun k hk => ⟨fun e => by omega, fun e => by omega, fun e => by omega⟩), h.b.trans (b.mono h.b.size), h.z, h.f⟩
theorem RCtx.turn {S' : List FoundD} (h : RCtx w wr F A1 c1 A2 c2 A3 c3 T N R st G bz gl gi gm S) (t : Touch (fun q => q = gl ∨ q = gi ∨ q = gm) wr wr') (hs : wr'.heap.size = wr.heap.size) (ws : RefWords wr' (fun q => bz < q ∧ q < wr.heap.size) bz gl gi gm S') : RCtx w wr' F A1 c1 A2 c2 A3 c3 T N R st G bz gl gi gm S' := by
 obtain ⟨z1, z2, z3, z4, z5, z6⟩ := h.z
 refine ⟨h.g.touch t (fun k hk e => by have := h.f k hk; rcases e with e | e | e <;> omega) (fun e => by rcases e with e | e | e <;> omega), ws.mono (fun k hk => ⟨hk.1, by omega⟩) (fun k hk => hk.2) (fun k hk => ⟨fun e => by omega, fun e => by omega, fun e => by omega⟩), h.b.trans (t.below (fun k hk _ e => by rcases e with e | e | e <;> omega) h.b.size), ⟨z1, z2, z3, z4, z5, z6⟩, h.f⟩
end
theorem four_blocks (w : World) (x0 x1 x2 x3 : Array Value) (t0 t1 t2 t3 : TypeId) (w' : World) (h : w' = ((((w.alloc (.cells x0 t0)).alloc (.cells x1 t1)).alloc (.cells x2 t2)).alloc (.cells x3 t3)).drew) :
  Blk w' w.heap.size t0 x0 ∧ Blk w' (w.heap.size + 1) t1 x1 ∧ Blk w' (w.heap.size + 1 + 1) t2 x2 ∧ Blk w' (w.heap.size + 1 + 1 + 1) t3 x3 ∧ Below w.heap.size w w' ∧ w'.heap.size = w.heap.size + 1 + 1 + 1 + 1 := by
 have s1 : (w.alloc (.cells x0 t0)).heap.size = w.heap.size + 1 := by simp
 have s2 : ((w.alloc (.cells x0 t0)).alloc (.cells x1 t1)).heap.size = w.heap.size + 1 + 1 := by simp
 have s3 : (((w.alloc (.cells x0 t0)).alloc (.cells x1 t1)).alloc (.cells x2 t2)).heap.size = w.heap.size + 1 + 1 + 1 := by simp
 subst h
 refine ⟨(((Blk.new w t0 x0).alloc _).alloc _).alloc _, ?_, ?_, ?_, ((((Below.refl _ w).alloc (Nat.le_refl _) _).alloc (by rw [s1]; omega) _).alloc (by rw [s2]; omega) _).alloc (by rw [s3]; omega) _ |>.drew, by simp [World.drew]⟩
 ·have := ((Blk.new (w.alloc (.cells x0 t0)) t1 x1).alloc (.cells x2 t2)).alloc (.cells x3 t3)
  rw [s1] at this; exact this
 ·have := (Blk.new ((w.alloc (.cells x0 t0)).alloc (.cells x1 t1)) t2 x2).alloc (.cells x3 t3)
  rw [s2] at this; exact this
 ·have := Blk.new (((w.alloc (.cells x0 t0)).alloc (.cells x1 t1)).alloc (.cells x2 t2)) t3 x3
  rw [s3] at this; exact this
def Made (z n : Nat) (wr : World) (v : Value) (wx : World) : Prop := v = .pointer (some ⟨z + 1 + 1 + 1, 0, none⟩) ∧ Below z wr wx ∧ wx.heap.size = z + 1 + 1 + 1 + 1 ∧ ∃ gl gi gm, Blk wx (z + 1 + 1 + 1) 171 #[.slice (some ⟨gl, 0, none⟩) n n, .slice (some ⟨gi, 0, none⟩) n n, .slice (some ⟨gm, 0, none⟩) n n] ∧ (z ≤ gl ∧ gl < z + 3) ∧ (z ≤ gi ∧ gi < z + 3) ∧ (z ≤ gm ∧ gm < z + 3) ∧ gi ≠ gm ∧
 Blk wx gl 51 (madeCells #[.slice none 0 0] n) ∧ Blk wx gi 4 (madeCells #[.bool false] n) ∧ Blk wx gm 4 (madeCells #[.bool false] n)
theorem startTo_get {T N k : Nat} (h : k < T) : (startTo T N k)[k + 1]? = some noFound := by
 unfold startTo
 rw [List.getElem?_cons_succ, List.getElem?_append_right (by simp)]
 simp only [List.length_map, List.length_range, Nat.sub_self]
 rw [List.getElem?_replicate, if_pos (by omega)]
theorem put2_alloc (w : World) (o : Obj) (g g' a b : Nat) (u v : Value) (hg : g < w.heap.size) (hg' : g' < w.heap.size) : ((w.alloc o).setCell ⟨g, a, none⟩ u).setCell ⟨g', b, none⟩ v = ((w.setCell ⟨g, a, none⟩ u).setCell ⟨g', b, none⟩ v).alloc o := by
 rw [World.setCell_alloc_past _ _ _ _ hg, World.setCell_alloc_past _ _ _ _ (by simpa [World.setCell] using hg')]
set_option maxRecDepth 100000 in
set_option maxHeartbeats 4000000 in
theorem ref_least {w : World} {F : Nat → Prop} {vt vn vr : Value} {G : GramD} (h : IsGram w F vt vn vr G) (st : Int) :
  Calls Tryz.prog 83 #[GV vt vn vr st] w (RefLeastPost G st w) := by
 obtain ⟨A1, c1, A2, c2, A3, c3, rfl, rfl, rfl, -⟩ := h.slices
 obtain ⟨w1, hw1⟩ : ∃ w1, w1 = w.alloc (.cells #[.slice A1 G.terms.length c1, .slice A2 G.nons.length c2, .slice A3 G.rules.length c3, .int .i64 st] 25) := ⟨_, rfl⟩
 have g1 := GBox.new h st
 have b1 : Below w.heap.size w w1 := by rw [hw1]; exact (Below.refl _ w).alloc (Nat.le_refl _) _
 have z1 : w1.heap.size = w.heap.size + 1 := by rw [hw1]; simp
 rw [← hw1] at g1
 have hc := ref_check g1.gram st
 obtain ⟨q0, q1, q2, q3⟩ := g1.cells
 have hFw := h.lt
 by_cases hz : checkOf G st = 0
 ·obtain ⟨hmany, -, -, hkn, -, -⟩ := checkOf_zero hz
  obtain ⟨hT1, hN1, hR1, -⟩ := manyOf_no hmany
  rw [hz] at hc
  have hcT := fun wr (g : GBox wr F w.heap.size A1 c1 A2 c2 A3 c3 G.terms.length G.nons.length G.rules.length st G) => ref_top g.gram st
  have htop : topOf G = G.terms.length + G.nons.length := rfl
  rw [htop] at hcT
  generalize hT : G.terms.length = T at *
  generalize hN : G.nons.length = N at *
  generalize hR : G.rules.length = R at *
  have hmkL : ∀ w : World, (Instr.makeSlice 103 (.int .i64 ((T : Int) + (N : Int) + 1)) (.int .i64 ((T : Int) + (N : Int) + 1))).run Tryz.prog w = .ok (.slice (some ⟨w.heap.size, 0, none⟩) (T + N + 1) (T + N + 1)) (w.alloc (.cells (madeCells #[.slice none 0 0] (T + N + 1)) 51)) := fun w => by
   have := make_ints (T + N + 1) (by omega) w
   rw [show ((T + N + 1 : Nat) : Int) = (T : Int) + (N : Int) + 1 by omega] at this
   exact this
  have hmkB : ∀ w : World, (Instr.makeSlice 117 (.int .i64 ((T : Int) + (N : Int) + 1)) (.int .i64 ((T : Int) + (N : Int) + 1))).run Tryz.prog w = .ok (.slice (some ⟨w.heap.size, 0, none⟩) (T + N + 1) (T + N + 1)) (w.alloc (.cells (madeCells #[.bool false] (T + N + 1)) 4)) := fun w => by
   have := make_bools (T + N + 1) (by omega) w
   rw [show ((T + N + 1 : Nat) : Int) = (T : Int) + (N : Int) + 1 by omega] at this
   exact this
  rw [hw1] at hc q0 q1 q2 q3
  clear h
  have Xhc := hide hc
  have Xhz := hide hz
  have XhFw := hide hFw
  have Xhkn := hide hkn
  have Xhmany := hide hmany
  have XhcT := hide hcT
  have XhT := hide hT
  have XhN := hide hN
  have XhR := hide hR
  have Xhtop := hide htop
  have Xb1 := hide b1
  have Xz1 := hide z1
  clear hc hz hFw hkn hmany hcT hT hN hR htop b1 z1
  go_enter Tryz.func83, Tryz.ntmps83
  go_wp2_with fail
  refine Xhc.out.mono ?_
  rintro e w2 ⟨rfl, b2⟩
  rw [← hw1] at b2
  have g2 := g1.below b2
  have hb2 := Xb1.out.trans (b2.mono Xb1.out.size)
  have z2 : w.heap.size + 1 ≤ w2.heap.size := by have := b2.size; have := Xz1.out; omega
  clear hw1 q0 q1 q2 q3 Xhc g1 b2
  obtain ⟨q0, q1, q2, q3⟩ := g2.cells
  go_wp2_with fail
  refine (XhcT.out _ g2).mono ?_
  rintro e w3 ⟨rfl, b3⟩
  have g3 := g2.below b3
  have hb3 := hb2.trans (b3.mono hb2.size)
  have z3 : w.heap.size + 1 ≤ w3.heap.size := by have := b3.size; omega
  clear q0 q1 q2 q3 g2 hb2 b3 z2
  go_upto_region 4 with fail
  go_cut [4] from 18 to 26 (fun p wx => Made w3.heap.size (T + N + 1) w3 p wx)
  case first =>
   clear Xhz XhFw Xhkn Xhmany XhcT XhT XhN XhR Xhtop Xb1 Xz1 g3 hb3 z3
   go_region
   all_goals (go_wp2_with fail; go_meet; obtain ⟨k0, k1, k2, k3, kb, ks⟩ := four_blocks _ _ _ _ _ _ _ _ _ _ rfl; refine ⟨rfl, kb, ks, _, _, _, k3, by omega, by omega, by omega, by omega, ?_, ?_, ?_⟩)
   all_goals first | assumption
  case rest =>
   obtain ⟨hp, b5, z5, gl, gi, gm, kw, hgl, hgi, hgm, hne, kl, ki, km⟩ := hcut
   subst hp
   clear hmkL hmkB
   have g5 := g3.below b5
   have hb5 := hb3.trans (b5.mono hb3.size)
   clear b5 g3 hb3
   obtain ⟨bz, hbz⟩ : ∃ bz, bz = w3.heap.size + 1 + 1 + 1 := ⟨_, rfl⟩
   rw [← hbz] at kw ⊢
   have ws5 : RefWords wc (fun q => bz < q ∧ q < wc.heap.size) bz gl gi gm (List.replicate (T + N + 1) noFound) := RefWords.made kw kl ki km hne (by omega) (fun k hk => ⟨hk.2, by omega, by omega, by omega⟩)
   have ctx5 : RCtx w wc F A1 c1 A2 c2 A3 c3 T N R st G bz gl gi gm (List.replicate (T + N + 1) noFound) := ⟨g5, ws5, hb5, by omega, XhFw.out⟩
   have ht : Touch (fun q => q = gl ∨ q = gi ∨ q = gm) wc (wc.setCell ⟨gi, 0, none⟩ (.bool true)) := (Touch.refl _ wc).setCell (p := ⟨gi, 0, none⟩) (fun _ => .inr (.inl rfl)) _
   have ctx6 := ctx5.turn (S' := startTo T N 0) ht (setCell_size _ _ _) (by rw [startTo_zero]; exact (ws5.putI (k := 0) (x := noFound) (by rw [List.getElem?_replicate]; simp) true).1)
   obtain ⟨hp0, hp1, hp2⟩ := ws5.ptr
   rw [List.length_replicate] at hp0 hp1 hp2
   have e0 : wc.cell? ⟨gi, 0, none⟩ = some (.bool false) := (ki.cell 0).trans (made_one _ _ _ (by omega))
   have f0 := ki.frozen 0
   clear kw kl ki km g5 hb5 ws5 ctx5 ht z5 hgl hgi hgm hne z3
   have Xctx6 := hide ctx6
   have Xhbz := hide hbz
   clear ctx6 hbz
   go_wp2_with fail
   go_loopw [5] (fun i wr => ∃ k : Nat, k ≤ T ∧ i = .int .i64 ((k : Int) + 1) ∧ RCtx w wr F A1 c1 A2 c2 A3 c3 T N R st G bz gl gi gm (startTo T N k)) (fun i _ => (T + 1) - (intOf i).toNat)
   case atStart => exact ⟨0, Nat.zero_le _, rfl, Xctx6.out⟩
   case round =>
    clear Xctx6 e0 f0 hp0 hp1 hp2
    obtain ⟨k, hk, rfl, ctx⟩ := hrel
    obtain ⟨q0, q1, q2, q3⟩ := ctx.g.cells
    have hlen := startTo_len (N := N) hk
    by_cases hlt : k < T
    ·have hle : ((k : Int) + 1) ≤ (T : Int) := by omega
     obtain ⟨hp0, hp1, hp2⟩ := ctx.ws.ptr
     rw [hlen] at hp0 hp1 hp2
     obtain ⟨x, Ax, nx, cx, hx, e0, e1, e2, -⟩ := ctx.ws.at_ (k := k + 1) (by rw [hlen]; omega)
     have fl : wr.frozen? ⟨gl, k + 1, none⟩ = false := by obtain ⟨cells, hg, _⟩ := ctx.ws.rowL; exact hg.frozen _
     have fi : wr.frozen? ⟨gi, k + 1, none⟩ = false := by obtain ⟨cells, hg, _⟩ := ctx.ws.rowI; exact hg.frozen _
     have ll : gl < wr.heap.size := by obtain ⟨cells, hg, _⟩ := ctx.ws.rowL; exact hg.lt
     have li : gi < wr.heap.size := by obtain ⟨cells, hg, _⟩ := ctx.ws.rowI; exact hg.lt
     have k1 : (k : Int) + 1 < (T : Int) + (N : Int) + 1 := by omega
     have n4 : gl ≠ gi := ctx.ws.nes.2.2.2.1
     have n4' : gi ≠ gl := fun e => n4 e.symm
     have hp0' := cell_a hp0
     have hp1' := cell_a hp1
     have e0' := cell_a e0
     have e2' := cell_a e2
     have fl' : ∀ o, (wr.alloc o).frozen? ⟨gl, k + 1, none⟩ = false := fun o => by obtain ⟨cells, hg, _⟩ := ctx.ws.rowL; exact (hg.alloc o).frozen _
     have fi' : ∀ o, (wr.alloc o).frozen? ⟨gi, k + 1, none⟩ = false := fun o => by obtain ⟨cells, hg, _⟩ := ctx.ws.rowI; exact (hg.alloc o).frozen _
     have fin : RCtx w ((((wr.setCell ⟨gl, k + 1, none⟩ (.slice (some ⟨wr.heap.size, 0, none⟩) 1 1)).setCell ⟨gi, k + 1, none⟩ (.bool true)).alloc (.cells #[.int .i64 ((k : Int) + 1)] 3)).drew) F A1 c1 A2 c2 A3 c3 T N R st G bz gl gi gm (startTo T N (k + 1)) := by
      have ba : Below wr.heap.size wr (wr.alloc (.cells #[.int .i64 ((k : Int) + 1)] 3)) := (Below.refl _ _).alloc (Nat.le_refl _) _
      have c7 := ctx.below ba
      have hv : RdI (wr.alloc (.cells #[.int .i64 ((k : Int) + 1)] 3)) (fun q => bz < q ∧ q < (wr.alloc (.cells #[.int .i64 ((k : Int) + 1)] 3)).heap.size) (.slice (some ⟨wr.heap.size, 0, none⟩) 1 1) [(k : Int) + 1] := by
       have hbl := ctx.ws.blk.lt
       exact (Rd.one' (w := wr) (e := 3) [I64 ((k : Int) + 1)] 1 rfl).mono (fun q hq => ⟨by omega, by rw [hq]; simp⟩)
      have hp := c7.ws.put2 (k := k + 1) (startTo_get hlt) true hv (by simp)
      have c8 := c7.turn hp.2 (by simp [World.setCell]) hp.1
      have hss := startTo_succ (N := N) hlt
      rw [put2_alloc _ _ _ _ _ _ _ _ ll li] at c8
      rw [← hss]
      exact c8.below ((Below.refl _ _).drew)
     have Xctx := hide ctx
     have Xhx := hide hx
     have Xhlen := hide hlen
     have Xfin := hide fin
     clear ctx hx hlen fin
     clear q1 q2 q3
     go_upto_region 9 with fail
     clear q0
     go_region
     go_wp2_with fail
     go_roundw
     case rel => exact ⟨k + 1, by omega, by go_num, Xfin.out⟩
     case measure => simp [intOf]; omega
    ·have hle : ¬ ((k : Int) + 1) ≤ (T : Int) := by omega
     obtain rfl : k = T := by omega
     have ctx8 : RCtx w wr F A1 c1 A2 c2 A3 c3 k N R st G bz gl gi gm (startW k N) := by
      have c := ctx
      rw [startTo_end] at c
      exact c
     have hrl : ∀ r ∈ G.rules, (k : Int) < r.1 ∧ r.1 ≤ (k : Int) + (N : Int) := fun r hr => by
      have hk2 := Xhkn.out
      unfold allKnown at hk2
      rw [Bool.and_eq_true, List.all_eq_true] at hk2
      have := hk2.2 r hr
      unfold knownOf at this
      rw [Bool.and_eq_true, isNon_iff, XhT.out, XhN.out] at this
      exact this.1
     have hRl : G.rules.length = R := XhR.out
     clear ctx q1 q2 q3
     have Xctx8 := hide ctx8
     have Xhrl := hide hrl
     have XhRl := hide hRl
     have Xhlen := hide hlen
     clear ctx8 hrl hRl hlen
     go_wp2_with fail
     clear q0
     go_loopg [6] (totalW (k + 1) (startW k N) + 1) (fun κ more wr => ∃ (S : List FoundD) (j : Nat) (m : Bool), more = .bool m ∧ S = iter (fun S => (passTo G.rules S).1) j (startW k N) ∧ GoodS k S ∧ S.length = k + N + 1 ∧ RCtx w wr F A1 c1 A2 c2 A3 c3 k N R st G bz gl gi gm S ∧ (m = false → (passTo G.rules S).2 = false) ∧ (m = true → totalW (k + 1) S + 1 ≤ κ))
     case atStart => exact ⟨startW k N, 0, true, rfl, rfl, (startW_good k N).1, (startW_good k N).2, Xctx8.out, fun h => (by cases h), fun _ => Nat.le_refl _⟩
     case round =>
      clear Xctx8
      obtain ⟨S, j, m, rfl, hS, hgood, hlen, ctx, hm1, hm2⟩ := hrel
      cases m with
      | false =>
       have hfix := hm1 rfl
       have hfin : RefLeastPost G st w (.returned (.pointer (some ⟨bz, 0, none⟩))) wr :=
        ⟨ctx.b, .inr ⟨Xhz.out, S, bz, gl, gi, gm, rfl, ⟨⟨j, by rw [XhT.out, XhN.out]; exact hS⟩, hfix⟩, ctx.ws.mono (fun q hq => ⟨by have := ctx.z; omega, hq.2, by have := ctx.z; omega, by have := ctx.z; omega, by have := ctx.z; omega⟩) (fun q hq => hq.2.1) (fun q hq => hq.2.2), by have := ctx.z; omega, by have := ctx.z; omega, by have := ctx.z; omega, by have := ctx.z; omega, by rw [XhT.out]; exact hgood, by rw [XhT.out, XhN.out]; exact hlen⟩⟩
       clear hm1 hm2
       have Xhfin := hide hfin
       have Xhfix := hide hfix
       have XhS := hide hS
       have Xhgood := hide hgood
       have Xhlen := hide hlen
       have Xctx := hide ctx
       clear hfin hfix hS hgood hlen ctx
       go_wp2_with fail
       go_ret
       exact Xhfin.out
      | true =>
       have hκ := hm2 rfl
       clear hm1 hm2
       obtain ⟨q0, q1, q2, q3⟩ := ctx.g.cells
       have hpass := passK_good (B := k + 1) rfl hgood hlen (fun r hr => ⟨by have := (Xhrl.out r hr).1; omega, by have := (Xhrl.out r hr).2; omega⟩)
       have r0 := ctx.g.rs
       have r1 := ctx.g.rc
       have r2 := ctx.g.c3m
       have XhS := hide hS
       have Xhgood := hide hgood
       have Xhlen := hide hlen
       have Xhκ := hide hκ
       have Xhpass := hide hpass
       clear hS hgood hlen hκ hpass
       obtain ⟨wo, rfl⟩ : ∃ wo : World, wo = wr := ⟨_, rfl⟩
       go_wp2_with fail
       clear q0 q1 q2 q3
       go_loopw [6, 7] (fun more i wr => ∃ q : Nat, q ≤ R ∧ i = .int .i64 q ∧ more = .bool (passK G.rules S q).2 ∧ RCtx w wr F A1 c1 A2 c2 A3 c3 k N R st G bz gl gi gm (passK G.rules S q).1) (fun _ i _ => R - (intOf i).toNat)
       case atStart => exact ⟨0, Nat.zero_le _, rfl, rfl, ctx⟩
       case round =>
        clear ctx
        obtain ⟨q, hq, rfl, rfl, ctx⟩ := hrel
        obtain ⟨hg1, hl1, ho1⟩ := Xhpass.out q (by rw [XhRl.out]; exact hq)
        obtain ⟨P, hP⟩ : ∃ P, P = passK G.rules S q := ⟨_, rfl⟩
        rw [← hP] at ctx hg1 hl1 ho1 ⊢
        obtain ⟨q0, q1, q2, q3⟩ := ctx.g.cells
        by_cases hlt : q < R
        ·obtain ⟨b, off, l, x, A, n, c, rfl, hbl, hx, h0, h1, hr, hn, hnc, hcm⟩ := ctx.g.rule hlt
         have hlr := Xhrl.out _ (List.mem_of_getElem? hx)
         obtain ⟨ln, rfl⟩ := Int.eq_ofNat_of_zero_le (by have := hlr.1; simp only at this; omega : 0 ≤ l)
         have hln : ln < P.1.length := by have := hlr.2; simp only at this; omega
         have hnext := passK_succ (S := S) hx
         rw [← hP] at hnext
         have hq' : (q : Int) < (R : Int) := by omega
         have hln' : (ln : Int) < (k : Int) + (N : Int) + 1 := by omega
         have hj := ref_join ctx.ws hr ctx.g.gram.lt (fun i => (jTo_good hg1 _).1)
         have hxg := joinOf_good hg1 x
         obtain ⟨xj, hxj⟩ : ∃ xj, xj = joinOf P.1 x := ⟨_, rfl⟩
         rw [← hxj] at hj hxg
         obtain ⟨y, hy⟩ : ∃ y, P.1[ln]? = some y := ⟨_, List.getElem?_eq_getElem hln⟩
         have hlk := lookW_nat hy
         have hstep : stepR P.1 ((ln : Int), x) = if betterB xj y = true then (P.1.set ln xj, true) else (P.1, false) := by
          unfold stepR; simp only [hlk, ← hxj, Int.toNat_natCast]
         rw [hstep] at hnext
         have Xhx := hide hx
         have Xhr := hide hr
         have Xhn := hide hn
         have Xhlr := hide hlr
         have Xhnext := hide hnext
         have Xhj := hide hj
         have Xhxg := hide hxg
         have Xhxj := hide hxj
         have Xhy := hide hy
         have Xhlk := hide hlk
         have Xhstep := hide hstep
         have XhP := hide hP
         have Xhg1 := hide hg1
         have Xhl1 := hide hl1
         have Xho1 := hide ho1
         have Xctx := hide ctx
         clear hx hr hn hlr hnext hj hxg hxj hy hlk hstep hP hg1 hl1 ho1 ctx
         go_wp2_with fail
         refine Xhj.out.mono ?_
         rintro e w9 ⟨Aj, nj, cj, rfl, hrj, b9⟩
         have h0' := (b9.cell (p := ⟨b, off + q * 2, none⟩) hbl).trans h0
         have ctx9 := Xctx.out.below b9
         clear h0 h1 q0 q1 q2 q3 Xhj
         obtain ⟨q0, q1, q2, q3⟩ := ctx9.g.cells
         have hbz9 := b9.size
         have wrz : bz < wr.heap.size := Xctx.out.ws.blk.lt
         cases hxi : xj.is with
         | false =>
          have hbf : betterB xj y = false := by unfold betterB; rw [hxi]; rfl
          rw [hbf, if_neg (by decide), Bool.or_false] at Xhnext
          have Xctx9 := hide ctx9
          have Xhrj := hide hrj
          have Xhbf := hide hbf
          have Xhxi := hide hxi
          clear ctx9 hrj hbf hxi
          go_wp2_with fail
          go_roundw
          case rel => exact ⟨q + 1, by omega, by go_num, by rw [Xhnext.out], by rw [Xhnext.out]; exact Xctx9.out⟩
          case measure => simp [intOf]; omega
         | true =>
          have hbt := betterR_eq xj y hxi
          have hb := ref_better ctx9.ws xj (s := ln) (y := y) Xhy.out hrj
          rw [← hbt] at hb
          clear hbt
          generalize hbb : betterB xj y = bb at *
          have Xhb := hide hb
          have Xctx9 := hide ctx9
          have Xhrj := hide hrj
          have Xhbb := hide hbb
          have Xhxi := hide hxi
          clear hb ctx9 hrj hbb hxi
          go_wp2_with fail
          refine Xhb.out.mono ?_
          rintro e w10 ⟨rfl, qn, hw10⟩
          have b10 : Below w9.heap.size w9 w10 := by rw [hw10]; exact below_drewN (Below.refl _ _) qn
          have ctx10 := Xctx9.out.below b10
          have hrj10 := Xhrj.out.below b10 (fun i hi => hi.2)
          have hz10 := b10.size
          clear q0 q1 q2 q3 hw10 Xhb h0'
          cases bb with
          | false =>
           rw [if_neg (by decide), Bool.or_false] at Xhnext
           have Xctx10 := hide ctx10
           have Xhrj10 := hide hrj10
           clear ctx10 hrj10
           go_wp2_with fail
           go_roundw
           case rel => exact ⟨q + 1, by omega, by go_num, by rw [Xhnext.out], by rw [Xhnext.out]; exact Xctx10.out⟩
           case measure => simp [intOf]; omega
          | true =>
           rw [if_pos rfl, Bool.or_true] at Xhnext
           obtain ⟨q0, q1, q2, q3⟩ := ctx10.g.cells
           obtain ⟨hp0, hp1, hp2⟩ := ctx10.ws.ptr
           rw [Xhl1.out] at hp0 hp1 hp2
           obtain ⟨y', Ay, ny, cy, hy', e0, e1, e2, -⟩ := ctx10.ws.at_ (k := ln) (by have := Xhl1.out; omega)
           obtain ⟨n1, n2, n3, n4, n5, n6⟩ := ctx10.ws.nes
           have n4' : gi ≠ gl := fun e => n4 e.symm
           have n5' : gm ≠ gl := fun e => n5 e.symm
           have n6' : gm ≠ gi := fun e => n6 e.symm
           have fl : w10.frozen? ⟨gl, ln, none⟩ = false := by obtain ⟨cells, hg, _⟩ := ctx10.ws.rowL; exact hg.frozen _
           have fi : w10.frozen? ⟨gi, ln, none⟩ = false := by obtain ⟨cells, hg, _⟩ := ctx10.ws.rowI; exact hg.frozen _
           have fm : w10.frozen? ⟨gm, ln, none⟩ = false := by obtain ⟨cells, hg, _⟩ := ctx10.ws.rowM; exact hg.frozen _
           have hp := ctx10.ws.put (k := ln) Xhy.out xj (v := .slice Aj nj cj) (hrj10.mono (fun i hi => by omega)) Xhxg.out.len
           rw [Xhxi.out] at hp
           have fin := (ctx10.turn hp.2 (by simp [World.setCell]) hp.1).below ((Below.refl _ _).drew)
           have n1' : gl ≠ bz := fun e => n1 e.symm
           have n2' : gi ≠ bz := fun e => n2 e.symm
           have n3' : gm ≠ bz := fun e => n3 e.symm
           clear hp q0 q1 q2 q3
           have Xfin := hide fin
           have Xctx10 := hide ctx10
           have Xhrj10 := hide hrj10
           have Xhy' := hide hy'
           clear fin ctx10 hrj10 hy'
           go_wp2_with fail
           go_region
           go_wp2_with fail
           go_roundw
           case rel => exact ⟨q + 1, by omega, by go_num, by rw [Xhnext.out], by rw [Xhnext.out]; exact Xfin.out⟩
           case measure => simp [intOf]; omega
        ·have hqR : q = R := by omega
         have hPe : P = passTo G.rules S := by rw [hP, hqR, ← XhRl.out]; exact passK_end _ _
         have hlt' : ¬ ((q : Int) < (R : Int)) := by omega
         have hnx : P.1 = iter (fun S => (passTo G.rules S).1) (j + 1) (startW k N) := by
          show _ = (passTo G.rules (iter (fun S => (passTo G.rules S).1) j (startW k N))).1
          rw [← XhS.out, hPe]
         have hκ := Xhκ.out
         rcases ho1 with ⟨h2, hPS⟩ | ⟨h2, htot⟩
         ·have hf : (passTo G.rules P.1).2 = false := by rw [hPS, ← hPe]; exact h2
          rw [h2]
          have XhP := hide hP
          have XhPe := hide hPe
          have Xhnx := hide hnx
          have XhPS := hide hPS
          have Xhf := hide hf
          have Xh2 := hide h2
          have Xhg1 := hide hg1
          have Xhl1 := hide hl1
          have Xctx := hide ctx
          have XhqR := hide hqR
          have Xhκ := hide hκ
          clear hP hPe hnx hPS hf h2 hg1 hl1 ctx hqR hκ
          go_wp2_with fail
          go_roundg 0
          case measure => have := Xhκ.out; omega
          case rel => exact ⟨P.1, j + 1, false, rfl, Xhnx.out, Xhg1.out, Xhl1.out, Xctx.out, fun _ => Xhf.out, fun h => (by cases h)⟩
         ·rw [h2]
          have hm : totalW (k + 1) P.1 + 1 < gk := by omega
          have XhP := hide hP
          have XhPe := hide hPe
          have Xhnx := hide hnx
          have Xh2 := hide h2
          have Xhtot := hide htot
          have Xhm := hide hm
          have Xhg1 := hide hg1
          have Xhl1 := hide hl1
          have Xctx := hide ctx
          have XhqR := hide hqR
          have Xhκ := hide hκ
          clear hP hPe hnx h2 htot hm hg1 hl1 ctx hqR hκ
          go_wp2_with fail
          go_roundg (totalW (k + 1) P.1 + 1)
          case measure => exact Xhm.out
          case rel => exact ⟨P.1, j + 1, true, rfl, Xhnx.out, Xhg1.out, Xhl1.out, Xctx.out, fun h => (by cases h), fun _ => Nat.le_refl _⟩
 ·have hcn : (checkOf G st != 0) = true := by simpa using hz
  rw [hw1] at hc q0 q1 q2 q3
  have fin : ∀ w2, Below w1.heap.size w1 w2 → RefLeastPost G st w (.returned (.pointer none)) w2 := fun w2 b2 => ⟨b1.trans (b2.mono b1.size), .inl ⟨hz, rfl⟩⟩
  rw [hw1] at fin
  clear hw1 g1 b1 z1
  have Xhc := hide hc
  have Xfin := hide fin
  have Xhz := hide hz
  have XhFw := hide hFw
  clear hc fin hz hFw
  generalize checkOf G st = ck at *
  clear h
  go_enter Tryz.func83, Tryz.ntmps83
  go_wp2_with fail
  refine Xhc.out.mono ?_
  rintro e w2 ⟨rfl, b2⟩
  have hf := Xfin.out w2 b2
  clear q0 q1 q2 q3 Xhc Xfin b2
  have Xhf := hide hf
  clear hf
  go_wp2_with fail
  go_ret
  exact Xhf.out
end Go.Proofs.YtlpokomfljmogaaGreat

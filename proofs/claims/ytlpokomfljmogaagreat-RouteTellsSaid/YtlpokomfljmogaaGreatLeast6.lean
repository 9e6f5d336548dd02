/- Least words in memory, the reference's: three rows; join. -/
import Derived.Test.YtlpokomfljmogaaGreatLeast4
import Derived.Test.YtlpokomfljmogaaGreatLeast2
import Derived.Deep.OwnRows
namespace Go.Proofs.YtlpokomfljmogaaGreat
set_option linter.unusedVariables false
section
open Go.RowKit
attribute [local irreducible] wpStill wpOne wpPh
structure RefWords (w : World) (F : Nat → Prop) (b gl gi gm : Nat) (S : List FoundD) : Prop where
 blk : Blk w b 171 #[.slice (some ⟨gl, 0, none⟩) S.length S.length, .slice (some ⟨gi, 0, none⟩) S.length S.length, .slice (some ⟨gm, 0, none⟩) S.length S.length]
 rowL : ∃ cells, Blk w gl 51 cells ∧ cells.size = S.length ∧ ∀ (i : Nat) (x : FoundD), S[i]? = some x → ∃ v, cells[i]? = some v ∧ RdI w F v x.l
 rowI : ∃ cells, Blk w gi 4 cells ∧ cells.size = S.length ∧ ∀ (i : Nat) (x : FoundD), S[i]? = some x → cells[i]? = some (.bool x.is)
 rowM : ∃ cells, Blk w gm 4 cells ∧ cells.size = S.length ∧ ∀ (i : Nat) (x : FoundD), S[i]? = some x → cells[i]? = some (.bool x.long)
 apart : gi ≠ gm
 lt : ∀ k, F k → k < w.heap.size
 far : ∀ k, F k → k ≠ gl ∧ k ≠ gi ∧ k ≠ gm
 lens : ∀ x ∈ S, x.l.length ≤ 4096
 size : S.length ≤ 65536
section
variable {w w' : World} {F : Nat → Prop} {b gl gi gm : Nat} {S : List FoundD}
theorem RefWords.below (h : RefWords w F b gl gi gm S) (hb : Below w.heap.size w w') : RefWords w' F b gl gi gm S := by
 obtain ⟨cL, hL, sL, eL⟩ := h.rowL
 obtain ⟨cI, hI, sI, eI⟩ := h.rowI
 obtain ⟨cM, hM, sM, eM⟩ := h.rowM
 exact ⟨h.blk.below hb h.blk.lt, ⟨cL, hL.below hb hL.lt, sL, fun i x hx => by
  obtain ⟨v, h1, h2⟩ := eL i x hx
  exact ⟨v, h1, h2.below hb h.lt⟩⟩, ⟨cI, hI.below hb hI.lt, sI, eI⟩, ⟨cM, hM.below hb hM.lt, sM, eM⟩, h.apart, fun k hk => Nat.lt_of_lt_of_le (h.lt k hk) hb.size, h.far, h.lens, h.size⟩
theorem RefWords.mono {F' : Nat → Prop} (h : RefWords w F b gl gi gm S) (hF : ∀ k, F k → F' k) (hl : ∀ k, F' k → k < w.heap.size) (hg : ∀ k, F' k → k ≠ gl ∧ k ≠ gi ∧ k ≠ gm) : RefWords w F' b gl gi gm S := by
 obtain ⟨cL, hL, sL, eL⟩ := h.rowL
 exact ⟨h.blk, ⟨cL, hL, sL, fun i x hx => by
  obtain ⟨v, h1, h2⟩ := eL i x hx
  exact ⟨v, h1, h2.mono hF⟩⟩, h.rowI, h.rowM, h.apart, hl, hg, h.lens, h.size⟩
theorem RefWords.at_ (h : RefWords w F b gl gi gm S) {k : Nat} (hk : k < S.length) : ∃ (x : FoundD) (A : Option Addr) (n c : Nat), S[k]? = some x ∧ w.cell? ⟨gi, k, none⟩ = some (.bool x.is) ∧ w.cell? ⟨gm, k, none⟩ = some (.bool x.long) ∧ w.cell? ⟨gl, k, none⟩ = some (.slice A n c) ∧ RdI w F (.slice A n c) x.l ∧ n = x.l.length ∧ n ≤ c ∧ c ≤ 9223372036854775807 ∧ n ≤ 4096 := by
 obtain ⟨cL, hL, sL, eL⟩ := h.rowL
 obtain ⟨cI, hI, sI, eI⟩ := h.rowI
 obtain ⟨cM, hM, sM, eM⟩ := h.rowM
 have hx : S[k]? = some S[k] := List.getElem?_eq_getElem hk
 obtain ⟨v, h3, h4⟩ := eL k _ hx
 obtain ⟨A, n, c, rfl, _⟩ := id h4
 obtain ⟨hn, hnc, hcm, -⟩ := RdI.at_ h4
 exact ⟨_, A, n, c, hx, (hI.cell _).trans (eI k _ hx), (hM.cell _).trans (eM k _ hx), (hL.cell _).trans h3, h4, hn, hnc, hcm, by rw [hn]; exact h.lens _ (List.getElem_mem hk)⟩
theorem RefWords.ptr (h : RefWords w F b gl gi gm S) : w.cell? ⟨b, 0, none⟩ = some (.slice (some ⟨gl, 0, none⟩) S.length S.length) ∧ w.cell? ⟨b, 1, none⟩ = some (.slice (some ⟨gi, 0, none⟩) S.length S.length) ∧ w.cell? ⟨b, 2, none⟩ = some (.slice (some ⟨gm, 0, none⟩) S.length S.length) := ⟨(h.blk.cell 0).trans rfl, (h.blk.cell 1).trans rfl, (h.blk.cell 2).trans rfl⟩
end
theorem wrap_in {n : Int} (h0 : -9223372036854775808 ≤ n) (h1 : n ≤ 9223372036854775807) : IntKind.i64.wrap n = n := by
 rw [IntKind.wrap_i64]; omega
def RefJoinPost (w : World) (x : FoundD) (e : Ending) (w' : World) : Prop := ∃ A n c, e = .returned (.tuple #[.slice A n c, .bool x.is, .bool x.long]) ∧ RdI w' (fun k => w.heap.size ≤ k ∧ k < w'.heap.size) (.slice A n c) x.l ∧ Below w.heap.size w w'
theorem RefJoinPost.no {w w' : World} {S : List FoundD} {l : List Int} {k : Nat} {s : Int} (hs : l[k]? = some s) (h : (lookW S s).is = false) (hb : Below w.heap.size w w') : RefJoinPost w (joinOf S l) (.returned (.tuple #[.slice none 0 0, .bool false, .bool false])) w' := by
 have : joinOf S l = noFound := by
  unfold joinOf
  rw [if_neg]
  rw [Bool.not_eq_true, List.all_eq_false]
  exact ⟨s, List.mem_of_getElem? hs, by simp [h]⟩
 rw [this]
 exact ⟨none, 0, 0, rfl, Rd.nil _ _ _, hb⟩
set_option maxRecDepth 100000 in
set_option maxHeartbeats 4000000 in
theorem ref_join {w : World} {F G : Nat → Prop} {b gl gi gm : Nat} {S : List FoundD} {v : Value} {l : List Int} (h : RefWords w F b gl gi gm S) (hl : RdI w G v l) (hG : ∀ k, G k → k < w.heap.size) (hT : ∀ k, (jTo S (l.take k)).2.length ≤ 4096) :
  Calls Tryz.prog 137 #[.pointer (some ⟨b, 0, none⟩), v] w (RefJoinPost w (joinOf S l)) := by
 obtain ⟨A, n, c, rfl, -⟩ := id hl
 obtain ⟨hn, hnc, hcm, -⟩ := RdI.at_ hl
 unfold maxLen at hcm
 have own0 : w.ownsRow w.heap.size 3 1 (.slice none 0 0) 0 [] := World.ownsRow_nil _ _ _ _
 have Xhn := hide hn
 have Xh := hide h
 have Xhl := hide hl
 have XhG := hide hG
 have XhT := hide hT
 have Xown0 := hide own0
 clear hn h hl hG hT own0
 go_enter Tryz.func137, Tryz.ntmps137
 go_wp2_with fail
 go_loopw [7, 8, 9] (fun o lg i wr => ∃ (k : Nat) (B : Option Addr) (m d : Nat), k ≤ n ∧ i = .int .i64 k ∧ o = .slice B m d ∧ lg = .bool (jTo S (l.take k)).1 ∧ m = (jTo S (l.take k)).2.length ∧ (∀ (j : Nat) (s : Int), j < k → l[j]? = some s → (lookW S s).is = true) ∧ wr.ownsRow w.heap.size 3 1 (.slice B m d) m ((jTo S (l.take k)).2.map I64) ∧ Below w.heap.size w wr) (fun _ _ i _ => n - (intOf i).toNat)
 case atStart => exact ⟨0, none, 0, 0, Nat.zero_le _, rfl, rfl, rfl, rfl, fun j s hj => absurd hj (by omega), Xown0.out, Below.refl _ _⟩
 case round =>
  clear Xown0
  obtain ⟨k, B, m, d, hk, rfl, rfl, rfl, hm, hall, own, hb⟩ := hrel
  obtain ⟨p, hp⟩ : ∃ p, p = jTo S (l.take k) := ⟨_, rfl⟩
  rw [← hp] at hm own ⊢
  have hpl : p.2.length ≤ 4096 := by rw [hp]; exact XhT.out k
  have hml : m ≤ 4096 := by omega
  by_cases hlt : k < n
  ·have hw := Xh.out.below hb
   have hlr := Xhl.out.below hb XhG.out
   obtain ⟨-, -, -, hcell⟩ := RdI.at_ hlr
   obtain ⟨bl, off, rfl, hbl, hcc⟩ := hcell (by omega)
   obtain ⟨s, hs⟩ : ∃ s, l[k]? = some s := ⟨_, List.getElem?_eq_getElem (by rw [← Xhn.out]; exact hlt)⟩
   have hcs := hcc k s hs
   have hnext := jTo_next (S := S) hs
   rw [← hp] at hnext
   obtain ⟨hp0, hp1, hp2⟩ := hw.ptr
   have hsz := hw.size
   have hlt' : (k : Int) < (n : Int) := by omega
   by_cases hs0 : s < 0
   ·have hfin := fun w' => RefJoinPost.no (w := w) (w' := w') (S := S) hs (by rw [lookW_neg hs0]; rfl)
    have Xhfin := hide hfin
    have Xhall := hide hall
    have Xhm := hide hm
    have Xhp := hide hp
    have Xown := hide own
    have Xhb := hide hb
    have Xhw := hide hw
    have Xhlr := hide hlr
    have Xhs := hide hs
    have Xhnext := hide hnext
    clear hfin hall hm hp own hb hw hlr hs hnext
    clear hcell hcc
    go_wp2_with fail
    refine region_reads (by kernel_rfl) (by kernel_rfl) ?_
    repeat still_step
    refine wpStill_nil ?_
    go_wp2_with fail
    go_ret3
    exact Xhfin.out _ (Xhb.out.drew)
   ·by_cases hs1 : (S.length : Int) ≤ s
    ·have hfin := fun w' => RefJoinPost.no (w := w) (w' := w') (S := S) hs (by rw [lookW_big hs1]; rfl)
     have Xhfin := hide hfin
     have Xhall := hide hall
     have Xhm := hide hm
     have Xhp := hide hp
     have Xown := hide own
     have Xhb := hide hb
     have Xhw := hide hw
     have Xhlr := hide hlr
     have Xhs := hide hs
     have Xhnext := hide hnext
     clear hfin hall hm hp own hb hw hlr hs hnext
     clear hcell hcc
     go_wp2_with fail
     refine region_reads (by kernel_rfl) (by kernel_rfl) ?_
     repeat still_step
     refine wpStill_nil ?_
     go_wp2_with fail
     go_ret3
     exact Xhfin.out _ (Xhb.out.drew)
    ·obtain ⟨sn, rfl⟩ := Int.eq_ofNat_of_zero_le (by omega : 0 ≤ s)
     have hsn : sn < S.length := by omega
     have hs1' : (sn : Int) < (S.length : Int) := by omega
     obtain ⟨x, Ax, nx, cx, hx, e0, e1, e2, hxr, hnx, hnxc, hcx, hnx4⟩ := hw.at_ hsn
     have hlk := lookW_nat hx
     cases hxi : x.is with
     | false =>
      rw [hxi] at e0
      have hfin := fun w' => RefJoinPost.no (w := w) (w' := w') (S := S) hs (by rw [hlk]; exact hxi)
      have Xhfin := hide hfin
      have Xhall := hide hall
      have Xhm := hide hm
      have Xhp := hide hp
      have Xown := hide own
      have Xhb := hide hb
      have Xhw := hide hw
      have Xhlr := hide hlr
      have Xhs := hide hs
      have Xhnext := hide hnext
      have Xhx := hide hx
      have Xhxr := hide hxr
      have Xhnx := hide hnx
      have Xhlk := hide hlk
      have Xhxi := hide hxi
      clear hfin hall hm hp own hb hw hlr hs hnext hx hxr hnx hlk hxi
      clear hcell hcc
      go_wp2_with fail
      refine region_reads (by kernel_rfl) (by kernel_rfl) ?_
      repeat still_step
      refine wpStill_nil ?_
      go_wp2_with fail
      go_ret3
      exact Xhfin.out _ (Xhb.out.drew)
     | true =>
      rw [hxi] at e0
      have hstep : jStep S p (sn : Int) = (p.1 || (x.long || decide (4096 < m + nx)), if (p.1 || (x.long || decide (4096 < m + nx))) = true then p.2 else p.2 ++ x.l) := by
       unfold jStep; rw [hlk, hm, hnx]
      rw [hstep] at hnext
      have hall2 : ∀ (j : Nat) (s : Int), j < k + 1 → l[j]? = some s → (lookW S s).is = true := fun j s' hj hs' => by
       by_cases e : j = k
       ·subst e; rw [hs] at hs'; injection hs' with hs'; rw [← hs', hlk]; exact hxi
       ·exact hall j s' (by omega) hs'
      have hwrap : IntKind.i64.wrap ((m : Int) + (nx : Int)) = (m : Int) + (nx : Int) := wrap_in (by omega) (by omega)
      cases hxl : x.long with
      | true =>
       have hj : jTo S (l.take (k + 1)) = (true, p.2) := by rw [hnext, hxl]; simp
       rw [hxl] at e1
       have Xhall := hide hall
       have Xhall2 := hide hall2
       have Xhm := hide hm
       have Xhp := hide hp
       have Xown := hide own
       have Xhb := hide hb
       have Xhw := hide hw
       have Xhlr := hide hlr
       have Xhs := hide hs
       have Xhnext := hide hnext
       have Xhx := hide hx
       have Xhxr := hide hxr
       have Xhnx := hide hnx
       have Xhlk := hide hlk
       have Xhxi := hide hxi
       have Xhxl := hide hxl
       have Xhj := hide hj
       have Xhstep := hide hstep
       clear hall hall2 hm hp own hb hw hlr hs hnext hx hxr hnx hlk hxi hxl hj hstep
       clear hcell hcc
       go_wp2_with fail
       refine region_reads (by kernel_rfl) (by kernel_rfl) ?_
       repeat still_step
       refine wpStill_nil ?_
       go_wp2_with fail
       refine region_reads (by kernel_rfl) (by kernel_rfl) ?_
       repeat still_step
       refine wpStill_nil ?_
       go_wp2_with fail
       go_roundw
       case rel => exact ⟨k + 1, B, m, d, by omega, by go_num, rfl, by rw [Xhj.out], by rw [Xhj.out]; exact Xhm.out, Xhall2.out, by rw [Xhj.out]; exact Xown.out, Xhb.out.drew.drew⟩
       case measure => simp [intOf]; omega
      | false =>
       rw [hxl] at e1
       by_cases hbig : 4096 < m + nx
       ·have hbig' : (4096 : Int) < (m : Int) + (nx : Int) := by omega
        have hj : jTo S (l.take (k + 1)) = (true, p.2) := by rw [hnext, decide_eq_true hbig]; simp
        have Xhall := hide hall
        have Xhall2 := hide hall2
        have Xhm := hide hm
        have Xhp := hide hp
        have Xown := hide own
        have Xhb := hide hb
        have Xhw := hide hw
        have Xhlr := hide hlr
        have Xhs := hide hs
        have Xhnext := hide hnext
        have Xhx := hide hx
        have Xhxr := hide hxr
        have Xhnx := hide hnx
        have Xhlk := hide hlk
        have Xhxi := hide hxi
        have Xhxl := hide hxl
        have Xhj := hide hj
        have Xhstep := hide hstep
        clear hall hall2 hm hp own hb hw hlr hs hnext hx hxr hnx hlk hxi hxl hj hstep
        clear hcell hcc
        go_wp2_with fail
        refine region_reads (by kernel_rfl) (by kernel_rfl) ?_
        repeat still_step
        refine wpStill_nil ?_
        go_wp2_with fail
        refine region_reads (by kernel_rfl) (by kernel_rfl) ?_
        repeat still_step
        refine wpStill_nil ?_
        go_wp2_with fail
        go_roundw
        case rel => exact ⟨k + 1, B, m, d, by omega, by go_num, rfl, by rw [Xhj.out], by rw [Xhj.out]; exact Xhm.out, Xhall2.out, by rw [Xhj.out]; exact Xown.out, Xhb.out.drew.drew⟩
        case measure => simp [intOf]; omega
       ·have hbig' : ¬ (4096 : Int) < (m : Int) + (nx : Int) := by omega
        cases hp1v : p.1 with
        | true =>
         have hj : jTo S (l.take (k + 1)) = (true, p.2) := by rw [hnext, hp1v]; simp
         have Xhall := hide hall
         have Xhall2 := hide hall2
         have Xhm := hide hm
         have Xhp := hide hp
         have Xown := hide own
         have Xhb := hide hb
         have Xhw := hide hw
         have Xhlr := hide hlr
         have Xhs := hide hs
         have Xhnext := hide hnext
         have Xhx := hide hx
         have Xhxr := hide hxr
         have Xhnx := hide hnx
         have Xhlk := hide hlk
         have Xhxi := hide hxi
         have Xhxl := hide hxl
         have Xhj := hide hj
         have Xhstep := hide hstep
         have Xhp1v := hide hp1v
         clear hall hall2 hm hp own hb hw hlr hs hnext hx hxr hnx hlk hxi hxl hj hstep hp1v
         clear hcell hcc
         go_wp2_with fail
         refine region_reads (by kernel_rfl) (by kernel_rfl) ?_
         repeat still_step
         refine wpStill_nil ?_
         go_wp2_with fail
         refine region_reads (by kernel_rfl) (by kernel_rfl) ?_
         repeat still_step
         refine wpStill_nil ?_
         go_wp2_with fail
         go_roundw
         case rel => exact ⟨k + 1, B, m, d, by omega, by go_num, rfl, by rw [Xhj.out], by rw [Xhj.out]; exact Xhm.out, Xhall2.out, by rw [Xhj.out]; exact Xown.out, Xhb.out.drew.drew⟩
         case measure => simp [intOf]; omega
        | false =>
         have hj : jTo S (l.take (k + 1)) = (false, p.2 ++ x.l) := by rw [hnext, hp1v, hxl, decide_eq_false hbig]; simp
         have hxln : (x.l.map I64).length = nx * 1 := by simp; exact hnx.symm
         have hones : ∀ u ∈ x.l.map I64, u.oneCell' = true := fun u hu => by obtain ⟨y, _, rfl⟩ := List.mem_map.1 hu; rfl
         have hbz := hb.size
         have Xhall := hide hall
         have Xhall2 := hide hall2
         have Xhm := hide hm
         have Xhp := hide hp
         have Xown := hide own
         have Xhb := hide hb
         have Xhw := hide hw
         have Xhlr := hide hlr
         have Xhs := hide hs
         have Xhnext := hide hnext
         have Xhx := hide hx
         have Xhxr := hide hxr
         have Xhnx := hide hnx
         have Xhlk := hide hlk
         have Xhxi := hide hxi
         have Xhxl := hide hxl
         have Xhj := hide hj
         have Xhstep := hide hstep
         have Xhp1v := hide hp1v
         have Xhxln := hide hxln
         have Xhones := hide hones
         clear hall hall2 hm hp own hb hw hlr hs hnext hx hxr hnx hlk hxi hxl hj hstep hp1v hxln hones
         clear hcell hcc
         go_wp2_with fail
         refine region_reads (by kernel_rfl) (by kernel_rfl) ?_
         repeat still_step
         refine wpStill_nil ?_
         go_wp2_with fail
         refine region_reads (by kernel_rfl) (by kernel_rfl) ?_
         repeat still_step
         refine wpStill_nil ?_
         go_wp2_with fail
         refine region_tail 11 (by kernel_rfl) (by kernel_rfl) ?_
         simp only [List.take_succ_cons, List.take_zero, List.drop_succ_cons, List.drop_zero]
         repeat still_step
         refine wpStill_nil ?_
         go_wp2_with (at_builtin; refine wp_append _ rfl (.tmp 75) (.tmp 85) _ rfl Tryz.elemInt w.heap.size _ m (p.2.map I64) rfl Xown.out F _ (x.l.map I64) nx rfl Xhxln.out Xhxr.out Xhones.out (by unfold maxLen; omega) (by omega) hbz ?_)
         intro A' c' w6 hown6 hg6 _
         go_wp2_with fail
         go_roundw
         case rel => exact ⟨k + 1, A', m + nx, c', by omega, by go_num, rfl, by rw [Xhj.out], by rw [Xhj.out]; simp only [List.length_append]; have := Xhm.out; have := Xhnx.out; omega, Xhall2.out, by rw [Xhj.out]; simp only [List.map_append]; exact hown6, (Xhb.out.drew.drew.drew).grown hg6 hbz (fun q hq => (Xown.out.lt q hq).1)⟩
         case measure => simp [intOf]; omega
  ·have hkn : k = l.length := by have := Xhn.out; omega
   have hjo := joinOf_yes (S := S) (l := l) (fun j s hs => hall j s (by have := (List.getElem?_eq_some_iff.1 hs).1; omega) hs)
   have hpe : jTo S l = p := by rw [hp, hkn, List.take_length]
   rw [hpe] at hjo
   have hrd : RdI wr (fun q => w.heap.size ≤ q ∧ q < wr.heap.size) (.slice B m d) p.2 := (Rd.of_own own).mono (fun q hq => own.lt q hq)
   have hlt' : ¬ (k : Int) < (n : Int) := by omega
   cases hp1 : p.1 with
   | true =>
    have Xhall := hide hall
    have Xhm := hide hm
    have Xhp := hide hp
    have Xown := hide own
    have Xhb := hide hb
    have Xhjo := hide hjo
    have Xhpe := hide hpe
    have Xhrd := hide hrd
    have Xhp1 := hide hp1
    have Xhkn := hide hkn
    clear hall hm hp own hb hjo hpe hrd hp1 hkn
    go_wp2_with fail
    go_ret3
    exact ⟨none, 0, 0, by rw [Xhjo.out, Xhp1.out]; rfl, by rw [Xhjo.out, Xhp1.out]; exact Rd.nil _ _ _, Xhb.out⟩
   | false =>
    have Xhall := hide hall
    have Xhm := hide hm
    have Xhp := hide hp
    have Xown := hide own
    have Xhb := hide hb
    have Xhjo := hide hjo
    have Xhpe := hide hpe
    have Xhrd := hide hrd
    have Xhp1 := hide hp1
    have Xhkn := hide hkn
    clear hall hm hp own hb hjo hpe hrd hp1 hkn
    go_wp2_with fail
    go_ret3
    exact ⟨B, m, d, by rw [Xhjo.out, Xhp1.out]; rfl, by rw [Xhjo.out, Xhp1.out]; exact Xhrd.out, Xhb.out⟩
end
section
open Go.RowKit
attribute [local irreducible] wpStill wpOne wpPh
def betterR (x y : FoundD) : Bool := (!y.is || (y.long && !x.long)) || (!x.long && !y.long && lessB x.l y.l)
theorem betterR_eq (x y : FoundD) (h : x.is = true) : betterB x y = betterR x y := by
 unfold betterB betterR
 rw [h]
 cases y.is <;> cases x.long <;> cases y.long <;> simp
set_option maxRecDepth 100000 in
set_option maxHeartbeats 2000000 in
theorem ref_better {w : World} {F G : Nat → Prop} {b gl gi gm : Nat} {S : List FoundD} {v : Value} (h : RefWords w F b gl gi gm S) (x : FoundD) {s : Nat} {y : FoundD} (hs : S[s]? = some y) (hx : RdI w G v x.l) :
  Calls Tryz.prog 138 #[.pointer (some ⟨b, 0, none⟩), .int .i64 s, v, .bool x.long] w fun e w' => e = .returned (.bool (betterR x y)) ∧ ∃ q, w' = w.drewN q := by
 have hv : betterR x y = ((!y.is || (y.long && !x.long)) || (!x.long && !y.long && lessB x.l y.l)) := rfl
 have hsl := (List.getElem?_eq_some_iff.1 hs).1
 obtain ⟨y', Ay, ny, cy, hy', e0, e1, e2, hyr, hny, hnyc, hcy, hny4⟩ := h.at_ hsl
 rw [hs] at hy'
 injection hy' with hy'
 subst hy'
 obtain ⟨hp0, hp1, hp2⟩ := h.ptr
 have hsz := h.size
 have hsl' : (s : Int) < (S.length : Int) := by omega
 have hl := ref_less hx hyr
 obtain ⟨A, n, c, rfl, -⟩ := id hx
 generalize lessB x.l y.l = q at *
 cases hyi : y.is with
 | false =>
  rw [hyi] at e0 hv
  cases hxl : x.long with
  | true => 
   rw [hxl] at hv
   have Xhv := hide hv
   have Xh := hide h
   have Xhs := hide hs
   have Xhx := hide hx
   have Xhyr := hide hyr
   have Xhny := hide hny
   have Xhl := hide hl
   have Xhyi := hide hyi
   have Xhxl := hide hxl
   clear hv h hs hx hyr hny hl hyi hxl
   go_enter Tryz.func138, Tryz.ntmps138
   go_wp2_with fail
   go_ret
   exact ⟨ret_bool (by rw [Xhv.out]; first | rfl | simp), 0, rfl⟩
  | false =>
   rw [hxl] at hv
   have Xhv := hide hv
   have Xh := hide h
   have Xhs := hide hs
   have Xhx := hide hx
   have Xhyr := hide hyr
   have Xhny := hide hny
   have Xhl := hide hl
   have Xhyi := hide hyi
   have Xhxl := hide hxl
   clear hv h hs hx hyr hny hl hyi hxl
   go_enter Tryz.func138, Tryz.ntmps138
   go_wp2_with fail
   go_ret
   exact ⟨ret_bool (by rw [Xhv.out]; first | rfl | simp), 0, rfl⟩
 | true =>
  rw [hyi] at e0 hv
  cases hyl : y.long with
  | true =>
   rw [hyl] at e1 hv
   cases hxl : x.long with
   | true =>
    rw [hxl] at hv
    have Xhv := hide hv
    have Xh := hide h
    have Xhs := hide hs
    have Xhx := hide hx
    have Xhyr := hide hyr
    have Xhny := hide hny
    have Xhl := hide hl
    have Xhyi := hide hyi
    have Xhxl := hide hxl
    have Xhyl := hide hyl
    clear hv h hs hx hyr hny hl hyi hxl hyl
    go_enter Tryz.func138, Tryz.ntmps138
    go_wp2_with fail
    go_ret
    exact ⟨ret_bool (by rw [Xhv.out]; first | rfl | simp), 0, rfl⟩
   | false =>
    rw [hxl] at hv
    have Xhv := hide hv
    have Xh := hide h
    have Xhs := hide hs
    have Xhx := hide hx
    have Xhyr := hide hyr
    have Xhny := hide hny
    have Xhl := hide hl
    have Xhyi := hide hyi
    have Xhxl := hide hxl
    have Xhyl := hide hyl
    clear hv h hs hx hyr hny hl hyi hxl hyl
    go_enter Tryz.func138, Tryz.ntmps138
    go_wp2_with fail
    go_ret
    exact ⟨ret_bool (by rw [Xhv.out]; first | rfl | simp), 0, rfl⟩
  | false =>
   rw [hyl] at e1 hv
   cases hxl : x.long with
   | true =>
    rw [hxl] at hv
    have Xhv := hide hv
    have Xh := hide h
    have Xhs := hide hs
    have Xhx := hide hx
    have Xhyr := hide hyr
    have Xhny := hide hny
    have Xhl := hide hl
    have Xhyi := hide hyi
    have Xhxl := hide hxl
    have Xhyl := hide hyl
    clear hv h hs hx hyr hny hl hyi hxl hyl
    go_enter Tryz.func138, Tryz.ntmps138
    go_wp2_with fail
    go_ret
    exact ⟨ret_bool (by rw [Xhv.out]; first | rfl | simp), 0, rfl⟩
   | false =>
    rw [hxl] at hv
    have Xhv := hide hv
    have Xh := hide h
    have Xhs := hide hs
    have Xhx := hide hx
    have Xhyr := hide hyr
    have Xhny := hide hny
    have Xhl := hide hl
    have Xhyi := hide hyi
    have Xhxl := hide hxl
    have Xhyl := hide hyl
    clear hv h hs hx hyr hny hl hyi hxl hyl
    go_enter Tryz.func138, Tryz.ntmps138
    go_wp2_with fail
    refine Xhl.out.mono ?_
    rintro e w1 ⟨rfl, q1, rfl⟩
    go_wp2_with fail
    go_ret
    exact ⟨ret_bool (by rw [Xhv.out]; first | rfl | simp), q1, rfl⟩
theorem ref_line_nil (v : Value) (w : World) : Calls Tryz.prog 86 #[.pointer none, v] w fun e w' => e = .returned (.tuple #[.slice none 0 0, .bool false]) ∧ w = w' := by
 go_enter Tryz.func86, Tryz.ntmps86
 go_wp2_with fail
 go_ret2
 exact ⟨rfl, by first | rfl | trivial⟩
set_option maxRecDepth 100000 in
theorem ref_line {w : World} {F G : Nat → Prop} {b gl gi gm : Nat} {S : List FoundD} {v : Value} {l : List Int} (h : RefWords w F b gl gi gm S) (hl : RdI w G v l) (hG : ∀ k, G k → k < w.heap.size) (hT : ∀ k, (jTo S (l.take k)).2.length ≤ 4096) :
  Calls Tryz.prog 86 #[.pointer (some ⟨b, 0, none⟩), v] w (LinePost w (joinOf S l)) := by
 have hj := ref_join h hl hG hT
 obtain ⟨A, n, c, rfl, -⟩ := id hl
 obtain ⟨x, hx⟩ : ∃ x, x = joinOf S l := ⟨_, rfl⟩
 rw [← hx] at hj ⊢
 have Xhj := hide hj
 have Xhx := hide hx
 clear hj hx
 clear h hl hG hT
 go_enter Tryz.func86, Tryz.ntmps86
 go_wp2_with fail
 refine Xhj.out.mono ?_
 rintro e w1 ⟨B, m, d, rfl, hr, hb⟩
 cases hxi : x.is with
 | false =>
  have Xhr := hide hr
  have Xhb := hide hb
  have Xhxi := hide hxi
  clear hr hb hxi
  go_wp2_with fail
  go_ret2
  exact ⟨B, m, d, by rw [Xhxi.out]; rfl, Xhr.out, Xhb.out⟩
 | true =>
  have Xhr := hide hr
  have Xhb := hide hb
  have Xhxi := hide hxi
  clear hr hb hxi
  go_wp2_with fail
  go_ret2
  exact ⟨B, m, d, by rw [Xhxi.out]; simp, Xhr.out, Xhb.out⟩
end
section
open Go.RowKit
attribute [local irreducible] wpStill wpOne wpPh
theorem Tryz.infoInts : (Tryz.prog.info? 51).map (fun i => (i.zero, i.size, i.bytes)) = some (some (.slice none 0 0), 1, 24) := by kernel_rfl
theorem Tryz.infoBool : (Tryz.prog.info? 4).map (fun i => (i.zero, i.size, i.bytes)) = some (some (.bool false), 1, 1) := by kernel_rfl
theorem make_ints (n : Nat) (hn : n ≤ 65536) (w : World) : (Instr.makeSlice 103 (.int .i64 (n : Int)) (.int .i64 (n : Int))).run Tryz.prog w = .ok (.slice (some ⟨w.heap.size, 0, none⟩) n n) (w.alloc (.cells (madeCells #[.slice none 0 0] n) 51)) :=
 run_make_row' _ _ _ 24 Tryz.underlying103 Tryz.infoInts rfl .i64 .i64 n (by omega) (by omega) w
theorem make_bools (n : Nat) (hn : n ≤ 65536) (w : World) : (Instr.makeSlice 117 (.int .i64 (n : Int)) (.int .i64 (n : Int))).run Tryz.prog w = .ok (.slice (some ⟨w.heap.size, 0, none⟩) n n) (w.alloc (.cells (madeCells #[.bool false] n) 4)) :=
 run_make_row' _ _ _ 1 Tryz.underlying117 Tryz.infoBool rfl .i64 .i64 n (by omega) (by omega) w
theorem made_one (z : Value) (n i : Nat) (hi : i < n) : (madeCells #[z] n)[i]? = some z := by
 rw [made_at _ _ _ (by simp) hi]
 have : i % (#[z] : Array Value).size = 0 := by simp [Nat.mod_one]
 rw [this]; rfl
theorem RefWords.made {w : World} {F : Nat → Prop} {b gl gi gm n : Nat} (hb : Blk w b 171 #[.slice (some ⟨gl, 0, none⟩) n n, .slice (some ⟨gi, 0, none⟩) n n, .slice (some ⟨gm, 0, none⟩) n n])
  (hL : Blk w gl 51 (madeCells #[.slice none 0 0] n)) (hI : Blk w gi 4 (madeCells #[.bool false] n)) (hM : Blk w gm 4 (madeCells #[.bool false] n)) (ha : gi ≠ gm) (hn : n ≤ 65536)
  (hF : ∀ k, F k → k < w.heap.size ∧ k ≠ gl ∧ k ≠ gi ∧ k ≠ gm) : RefWords w F b gl gi gm (List.replicate n noFound) := by
 have at_ : ∀ (i : Nat) (x : FoundD), (List.replicate n noFound)[i]? = some x → x = noFound ∧ i < n := fun i x hx => by
  have hi := (List.getElem?_eq_some_iff.1 hx).1
  rw [List.length_replicate] at hi
  exact ⟨(List.mem_replicate.1 (List.mem_of_getElem? hx)).2, hi⟩
 refine ⟨by simpa using hb, ⟨_, hL, by simp [size_madeCells], fun i x hx => ?_⟩, ⟨_, hI, by simp [size_madeCells], fun i x hx => ?_⟩, ⟨_, hM, by simp [size_madeCells], fun i x hx => ?_⟩, ha, fun k hk => (hF k hk).1, fun k hk => (hF k hk).2, fun x hx => by rw [(List.mem_replicate.1 hx).2]; simp [noFound], by simpa using hn⟩
 all_goals obtain ⟨rfl, hi⟩ := at_ i x hx
 ·exact ⟨_, made_one _ _ _ hi, Rd.nil _ _ _⟩
 ·exact made_one _ _ _ hi
 ·exact made_one _ _ _ hi
section
variable {w : World} {F : Nat → Prop} {b gl gi gm : Nat} {S : List FoundD} {k : Nat} {x : FoundD}
theorem set_at {S : List FoundD} {k i : Nat} {x y : FoundD} (hk : k < S.length) (h : (S.set k x)[i]? = some y) : (i = k ∧ y = x) ∨ (i ≠ k ∧ S[i]? = some y) := by
 by_cases e : i = k
 ·subst e
  rw [List.getElem?_set_self hk] at h
  injection h with h
  exact .inl ⟨rfl, h.symm⟩
 ·rw [List.getElem?_set_ne (fun e' => e e'.symm)] at h
  exact .inr ⟨e, h⟩
theorem RefWords.nes (h : RefWords w F b gl gi gm S) : b ≠ gl ∧ b ≠ gi ∧ b ≠ gm ∧ gl ≠ gi ∧ gl ≠ gm ∧ gi ≠ gm := by
 obtain ⟨cL, hL, sL, eL⟩ := h.rowL
 obtain ⟨cI, hI, sI, eI⟩ := h.rowI
 obtain ⟨cM, hM, sM, eM⟩ := h.rowM
 exact ⟨h.blk.ne hL (by decide), h.blk.ne hI (by decide), h.blk.ne hM (by decide), hL.ne hI (by decide), hL.ne hM (by decide), h.apart⟩
theorem RefWords.putL (h : RefWords w F b gl gi gm S) (hk : S[k]? = some x) {l : List Int} {v : Value} (hv : RdI w F v l) (hl : l.length ≤ 4096) :
  RefWords (w.setCell ⟨gl, k, none⟩ v) F b gl gi gm (S.set k ⟨x.is, x.long, l⟩) ∧ Touch (fun q => q = gl) w (w.setCell ⟨gl, k, none⟩ v) := by
 have t : Touch (fun q => q = gl) w (w.setCell ⟨gl, k, none⟩ v) := (Touch.refl (fun q => q = gl) w).setCell (p := ⟨gl, k, none⟩) (fun _ => rfl) _
 obtain ⟨n1, n2, n3, n4, n5, n6⟩ := h.nes
 obtain ⟨cL, hL, sL, eL⟩ := h.rowL
 obtain ⟨cI, hI, sI, eI⟩ := h.rowI
 obtain ⟨cM, hM, sM, eM⟩ := h.rowM
 have hkl := (List.getElem?_eq_some_iff.1 hk).1
 refine ⟨⟨by rw [List.length_set]; exact h.blk.touch t n1, ⟨_, hL.put _ _, by simp [sL], fun j y hy => ?_⟩, ⟨cI, hI.touch t (fun e => n4 e.symm), by rw [List.length_set]; exact sI, fun j y hy => ?_⟩, ⟨cM, hM.touch t (fun e => n5 e.symm), by rw [List.length_set]; exact sM, fun j y hy => ?_⟩, n6, fun q hq => Nat.lt_of_lt_of_le (h.lt q hq) t.size, h.far, fun y hy => ?_, by rw [List.length_set]; exact h.size⟩, t⟩
 ·rcases set_at hkl hy with ⟨rfl, rfl⟩ | ⟨e, hy⟩
  ·exact ⟨v, set_same _ _ _ (by omega), hv.touch t (fun q hq => (h.far q hq).1)⟩
  ·obtain ⟨u, h1, h2⟩ := eL j y hy
   exact ⟨u, (set_other _ _ _ _ (fun e' => e e'.symm)).trans h1, h2.touch t (fun q hq => (h.far q hq).1)⟩
 ·rcases set_at hkl hy with ⟨rfl, rfl⟩ | ⟨e, hy⟩
  ·exact eI j x hk
  ·exact eI j y hy
 ·rcases set_at hkl hy with ⟨rfl, rfl⟩ | ⟨e, hy⟩
  ·exact eM j x hk
  ·exact eM j y hy
 ·rcases List.mem_or_eq_of_mem_set hy with hy | rfl
  ·exact h.lens y hy
  ·exact hl
theorem RefWords.putI (h : RefWords w F b gl gi gm S) (hk : S[k]? = some x) (i : Bool) :
  RefWords (w.setCell ⟨gi, k, none⟩ (.bool i)) F b gl gi gm (S.set k ⟨i, x.long, x.l⟩) ∧ Touch (fun q => q = gi) w (w.setCell ⟨gi, k, none⟩ (.bool i)) := by
 have t : Touch (fun q => q = gi) w (w.setCell ⟨gi, k, none⟩ (.bool i)) := (Touch.refl (fun q => q = gi) w).setCell (p := ⟨gi, k, none⟩) (fun _ => rfl) _
 obtain ⟨n1, n2, n3, n4, n5, n6⟩ := h.nes
 obtain ⟨cL, hL, sL, eL⟩ := h.rowL
 obtain ⟨cI, hI, sI, eI⟩ := h.rowI
 obtain ⟨cM, hM, sM, eM⟩ := h.rowM
 have hkl := (List.getElem?_eq_some_iff.1 hk).1
 refine ⟨⟨by rw [List.length_set]; exact h.blk.touch t n2, ⟨cL, hL.touch t n4, by rw [List.length_set]; exact sL, fun j y hy => ?_⟩, ⟨_, hI.put _ _, by simp [sI], fun j y hy => ?_⟩, ⟨cM, hM.touch t (fun e => n6 e.symm), by rw [List.length_set]; exact sM, fun j y hy => ?_⟩, n6, fun q hq => Nat.lt_of_lt_of_le (h.lt q hq) t.size, h.far, fun y hy => ?_, by rw [List.length_set]; exact h.size⟩, t⟩
 ·rcases set_at hkl hy with ⟨rfl, rfl⟩ | ⟨e, hy⟩
  ·obtain ⟨u, h1, h2⟩ := eL j x hk
   exact ⟨u, h1, h2.touch t (fun q hq => (h.far q hq).2.1)⟩
  ·obtain ⟨u, h1, h2⟩ := eL j y hy
   exact ⟨u, h1, h2.touch t (fun q hq => (h.far q hq).2.1)⟩
 ·rcases set_at hkl hy with ⟨rfl, rfl⟩ | ⟨e, hy⟩
  ·exact set_same _ _ _ (by omega)
  ·exact (set_other _ _ _ _ (fun e' => e e'.symm)).trans (eI j y hy)
 ·rcases set_at hkl hy with ⟨rfl, rfl⟩ | ⟨e, hy⟩
  ·exact eM j x hk
  ·exact eM j y hy
 ·rcases List.mem_or_eq_of_mem_set hy with hy | rfl
  ·exact h.lens y hy
  ·exact h.lens x (List.mem_of_getElem? hk)
theorem RefWords.putM (h : RefWords w F b gl gi gm S) (hk : S[k]? = some x) (i : Bool) :
  RefWords (w.setCell ⟨gm, k, none⟩ (.bool i)) F b gl gi gm (S.set k ⟨x.is, i, x.l⟩) ∧ Touch (fun q => q = gm) w (w.setCell ⟨gm, k, none⟩ (.bool i)) := by
 have t : Touch (fun q => q = gm) w (w.setCell ⟨gm, k, none⟩ (.bool i)) := (Touch.refl (fun q => q = gm) w).setCell (p := ⟨gm, k, none⟩) (fun _ => rfl) _
 obtain ⟨n1, n2, n3, n4, n5, n6⟩ := h.nes
 obtain ⟨cL, hL, sL, eL⟩ := h.rowL
 obtain ⟨cI, hI, sI, eI⟩ := h.rowI
 obtain ⟨cM, hM, sM, eM⟩ := h.rowM
 have hkl := (List.getElem?_eq_some_iff.1 hk).1
 refine ⟨⟨by rw [List.length_set]; exact h.blk.touch t n3, ⟨cL, hL.touch t n5, by rw [List.length_set]; exact sL, fun j y hy => ?_⟩, ⟨cI, hI.touch t n6, by rw [List.length_set]; exact sI, fun j y hy => ?_⟩, ⟨_, hM.put _ _, by simp [sM], fun j y hy => ?_⟩, n6, fun q hq => Nat.lt_of_lt_of_le (h.lt q hq) t.size, h.far, fun y hy => ?_, by rw [List.length_set]; exact h.size⟩, t⟩
 ·rcases set_at hkl hy with ⟨rfl, rfl⟩ | ⟨e, hy⟩
  ·obtain ⟨u, h1, h2⟩ := eL j x hk
   exact ⟨u, h1, h2.touch t (fun q hq => (h.far q hq).2.2)⟩
  ·obtain ⟨u, h1, h2⟩ := eL j y hy
   exact ⟨u, h1, h2.touch t (fun q hq => (h.far q hq).2.2)⟩
 ·rcases set_at hkl hy with ⟨rfl, rfl⟩ | ⟨e, hy⟩
  ·exact eI j x hk
  ·exact eI j y hy
 ·rcases set_at hkl hy with ⟨rfl, rfl⟩ | ⟨e, hy⟩
  ·exact set_same _ _ _ (by omega)
  ·exact (set_other _ _ _ _ (fun e' => e e'.symm)).trans (eM j y hy)
 ·rcases List.mem_or_eq_of_mem_set hy with hy | rfl
  ·exact h.lens y hy
  ·exact h.lens x (List.mem_of_getElem? hk)
end
theorem RefWords.put {w : World} {F : Nat → Prop} {b gl gi gm : Nat} {S : List FoundD} {k : Nat} {x : FoundD} (h : RefWords w F b gl gi gm S) (hk : S[k]? = some x) (y : FoundD) {v : Value} (hv : RdI w F v y.l) (hl : y.l.length ≤ 4096) :
  RefWords (((w.setCell ⟨gl, k, none⟩ v).setCell ⟨gi, k, none⟩ (.bool y.is)).setCell ⟨gm, k, none⟩ (.bool y.long)) F b gl gi gm (S.set k y) ∧ Touch (fun q => q = gl ∨ q = gi ∨ q = gm) w (((w.setCell ⟨gl, k, none⟩ v).setCell ⟨gi, k, none⟩ (.bool y.is)).setCell ⟨gm, k, none⟩ (.bool y.long)) := by
 have hkl := (List.getElem?_eq_some_iff.1 hk).1
 obtain ⟨h1, -⟩ := h.putL hk hv hl
 obtain ⟨h2, -⟩ := h1.putI (k := k) (x := ⟨x.is, x.long, y.l⟩) (by rw [List.getElem?_set_self hkl]) y.is
 obtain ⟨h3, -⟩ := h2.putM (k := k) (x := ⟨y.is, x.long, y.l⟩) (by rw [List.getElem?_set_self (by rw [List.length_set]; exact hkl)]) y.long
 rw [List.set_set, List.set_set] at h3
 exact ⟨h3, (((Touch.refl _ w).setCell (p := ⟨gl, k, none⟩) (fun _ => .inl rfl) _).setCell (p := ⟨gi, k, none⟩) (fun _ => .inr (.inl rfl)) _).setCell (p := ⟨gm, k, none⟩) (fun _ => .inr (.inr rfl)) _⟩
theorem RefWords.put2 {w : World} {F : Nat → Prop} {b gl gi gm : Nat} {S : List FoundD} {k : Nat} {x : FoundD} (h : RefWords w F b gl gi gm S) (hk : S[k]? = some x) {l : List Int} (i : Bool) {v : Value} (hv : RdI w F v l) (hl : l.length ≤ 4096) :
  RefWords ((w.setCell ⟨gl, k, none⟩ v).setCell ⟨gi, k, none⟩ (.bool i)) F b gl gi gm (S.set k ⟨i, x.long, l⟩) ∧ Touch (fun q => q = gl ∨ q = gi ∨ q = gm) w ((w.setCell ⟨gl, k, none⟩ v).setCell ⟨gi, k, none⟩ (.bool i)) := by
 have hkl := (List.getElem?_eq_some_iff.1 hk).1
 obtain ⟨h1, -⟩ := h.putL hk hv hl
 obtain ⟨h2, -⟩ := h1.putI (k := k) (x := ⟨x.is, x.long, l⟩) (by rw [List.getElem?_set_self hkl]) i
 rw [List.set_set] at h2
 exact ⟨h2, ((Touch.refl _ w).setCell (p := ⟨gl, k, none⟩) (fun _ => .inl rfl) _).setCell (p := ⟨gi, k, none⟩) (fun _ => .inr (.inl rfl)) _⟩
end
end Go.Proofs.YtlpokomfljmogaaGreat

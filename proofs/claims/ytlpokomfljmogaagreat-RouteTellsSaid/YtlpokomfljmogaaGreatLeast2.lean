/- Least words in memory, the program's: join. -/
import Derived.Test.YtlpokomfljmogaaGreatLeast1
import Derived.Laws.EntriesVeiled
namespace Go.Proofs.YtlpokomfljmogaaGreat
set_option linter.unusedVariables false
section
open Go.RowKit
attribute [local irreducible] wpStill wpOne wpPh
structure IsWords (w : World) (F : Nat → Prop) (b g : Nat) (S : List FoundD) : Prop where
 blk : Blk w b 159 #[.slice (some ⟨g, 0, none⟩) S.length S.length]
 row : ∃ cells, Blk w g 161 cells ∧ cells.size = S.length * 3 ∧ ∀ (i : Nat) (x : FoundD), S[i]? = some x → cells[i * 3]? = some (.bool x.is) ∧ cells[i * 3 + 1]? = some (.bool x.long) ∧ ∃ v, cells[i * 3 + 2]? = some v ∧ RdI w F v x.l
 lt : ∀ k, F k → k < w.heap.size
 far : ∀ k, F k → k ≠ g
 lens : ∀ x ∈ S, x.l.length ≤ 4096
 size : S.length ≤ 65536
section
variable {w w' : World} {F : Nat → Prop} {b g : Nat} {S : List FoundD}
theorem IsWords.below (h : IsWords w F b g S) (hb : Below w.heap.size w w') : IsWords w' F b g S := by
 obtain ⟨cells, hg, hs, hc⟩ := h.row
 exact ⟨h.blk.below hb h.blk.lt, ⟨cells, hg.below hb hg.lt, hs, fun i x hx => by
  obtain ⟨h1, h2, v, h3, h4⟩ := hc i x hx
  exact ⟨h1, h2, v, h3, h4.below hb h.lt⟩⟩, fun k hk => Nat.lt_of_lt_of_le (h.lt k hk) hb.size, h.far, h.lens, h.size⟩
theorem IsWords.at_ (h : IsWords w F b g S) {k : Nat} (hk : k < S.length) : ∃ (x : FoundD) (A : Option Addr) (n c : Nat), S[k]? = some x ∧ w.cell? ⟨g, k * 3, none⟩ = some (.bool x.is) ∧ w.cell? ⟨g, k * 3 + 1, none⟩ = some (.bool x.long) ∧ w.cell? ⟨g, k * 3 + 2, none⟩ = some (.slice A n c) ∧ RdI w F (.slice A n c) x.l ∧ n = x.l.length ∧ n ≤ c ∧ c ≤ 9223372036854775807 ∧ n ≤ 4096 := by
 obtain ⟨cells, hg, hs, hc⟩ := h.row
 have hx : S[k]? = some S[k] := List.getElem?_eq_getElem hk
 obtain ⟨h1, h2, v, h3, h4⟩ := hc k _ hx
 obtain ⟨A, n, c, rfl, _⟩ := id h4
 obtain ⟨hn, hnc, hcm, -⟩ := RdI.at_ h4
 exact ⟨_, A, n, c, hx, (hg.cell _).trans h1, (hg.cell _).trans h2, (hg.cell _).trans h3, h4, hn, hnc, hcm, by rw [hn]; exact h.lens _ (List.getElem_mem hk)⟩
theorem IsWords.ptr (h : IsWords w F b g S) : w.cell? ⟨b, 0, none⟩ = some (.slice (some ⟨g, 0, none⟩) S.length S.length) := (h.blk.cell 0).trans rfl
end
theorem lookW_nat {S : List FoundD} {k : Nat} {x : FoundD} (h : S[k]? = some x) : lookW S k = x := by
 unfold lookW
 rw [if_pos (by omega), Int.toNat_natCast, h]; rfl
theorem lookW_neg {S : List FoundD} {s : Int} (h : s < 0) : lookW S s = noFound := by unfold lookW; rw [if_neg (by omega)]
theorem lookW_big {S : List FoundD} {s : Int} (h : (S.length : Int) ≤ s) : lookW S s = noFound := by
 unfold lookW
 rw [if_pos (by omega), List.getElem?_eq_none (by omega)]; rfl
def JoinPost (w : World) (x : FoundD) (e : Ending) (w' : World) : Prop := ∃ A n c, e = .returned (.agg #[.bool x.is, .bool x.long, .slice A n c]) ∧ RdI w' (fun k => w.heap.size ≤ k ∧ k < w'.heap.size) (.slice A n c) x.l ∧ Below w.heap.size w w'
def JoinOwn (w : World) (x : FoundD) (e : Ending) (w' : World) : Prop := ∃ A n c, e = .returned (.agg #[.bool x.is, .bool x.long, .slice A n c]) ∧ w'.ownsRow w.heap.size 3 1 (.slice A n c) n (x.l.map I64) ∧ Below w.heap.size w w'
theorem JoinOwn.post {w w' : World} {x : FoundD} {e : Ending} (h : JoinOwn w x e w') : JoinPost w x e w' := by
 obtain ⟨A, n, c, h1, h2, h3⟩ := h
 exact ⟨A, n, c, h1, (Rd.of_own h2).mono (fun q hq => h2.lt q hq), h3⟩
theorem JoinOwn.no {w w' : World} {S : List FoundD} {l : List Int} {k : Nat} {s : Int} (hs : l[k]? = some s) (h : (lookW S s).is = false) (hb : Below w.heap.size w w') : JoinOwn w (joinOf S l) (.returned (.agg #[.bool false, .bool false, .slice none 0 0])) w' := by
 have : joinOf S l = noFound := by
  unfold joinOf
  rw [if_neg]
  rw [Bool.not_eq_true, List.all_eq_false]
  exact ⟨s, List.mem_of_getElem? hs, by simp [h]⟩
 rw [this]
 exact ⟨none, 0, 0, rfl, World.ownsRow_nil _ _ _ _, hb⟩
theorem joinOf_yes {S : List FoundD} {l : List Int} (h : ∀ (j : Nat) (s : Int), l[j]? = some s → (lookW S s).is = true) : joinOf S l = ⟨true, (jTo S l).1, if (jTo S l).1 = true then [] else (jTo S l).2⟩ := by
 unfold joinOf
 rw [if_pos]
 rw [List.all_eq_true]
 intro s hs
 obtain ⟨j, hj, e⟩ := List.getElem_of_mem hs
 exact h j s (by rw [List.getElem?_eq_getElem hj, e])
theorem jTo_next {S : List FoundD} {l : List Int} {k : Nat} {s : Int} (hs : l[k]? = some s) : jTo S (l.take (k + 1)) = jStep S (jTo S (l.take k)) s := by
 rw [List.take_add_one, hs]
 exact jTo_snoc S (l.take k) s
set_option maxRecDepth 100000 in
set_option maxHeartbeats 4000000 in
theorem least_join_own {w : World} {F G : Nat → Prop} {b g : Nat} {S : List FoundD} {v : Value} {l : List Int} (h : IsWords w F b g S) (hl : RdI w G v l) (hG : ∀ k, G k → k < w.heap.size) (hT : ∀ k, (jTo S (l.take k)).2.length ≤ 4096) :
  Calls Tryz.prog 133 #[.pointer (some ⟨b, 0, none⟩), v] w (JoinOwn w (joinOf S l)) := by
 obtain ⟨A, n, c, rfl, -⟩ := id hl
 obtain ⟨hn, hnc, hcm, -⟩ := RdI.at_ hl
 unfold maxLen at hcm
 obtain ⟨w2, hw2⟩ : ∃ w2, w2 = (w.alloc (.cells #[.bool false, .bool false, .slice none 0 0] 161)).alloc (.cells #[.bool true, .bool false, .slice none 0 0] 161) := ⟨_, rfl⟩
 have hb2 : Below w.heap.size w w2 := by rw [hw2]; exact ((Below.refl _ w).alloc (Nat.le_refl _) _).alloc (by simp) _
 have k0 : Blk w2 w.heap.size 161 #[.bool false, .bool false, .slice none 0 0] := by rw [hw2]; exact (Blk.new w _ _).alloc _
 have k1 : Blk w2 (w.heap.size + 1) 161 #[.bool true, .bool false, .slice none 0 0] := by
  rw [hw2]
  have := Blk.new (w.alloc (.cells #[.bool false, .bool false, .slice none 0 0] 161)) 161 #[.bool true, .bool false, .slice none 0 0]
  simpa using this
 have z2 : w2.heap.size = w.heap.size + 2 := by rw [hw2]; simp
 have own0 : w2.ownsRow w.heap.size 3 1 (.slice none 0 0) 0 [] := World.ownsRow_nil _ _ _ _
 have Xhn := hide hn
 have Xhb2 := hide hb2
 have Xk0 := hide k0
 have Xk1 := hide k1
 have Xown0 := hide own0
 have Xh := hide h
 have Xhl := hide hl
 have XhG := hide hG
 have XhT := hide hT
 clear hn hb2 k0 k1 own0 h hl hG hT
 go_enter Tryz.func133, Tryz.ntmps133
 go_wp2_with fail
 rw [← hw2]
 clear hw2
 go_loopw [12] (fun i wr => ∃ (k : Nat) (B : Option Addr) (m d : Nat), k ≤ n ∧ i = .int .i64 k ∧ (∀ (j : Nat) (s : Int), j < k → l[j]? = some s → (lookW S s).is = true) ∧ m = (jTo S (l.take k)).2.length ∧ Blk wr w.heap.size 161 #[.bool false, .bool false, .slice none 0 0] ∧ Blk wr (w.heap.size + 1) 161 #[.bool true, .bool (jTo S (l.take k)).1, .slice B m d] ∧ wr.ownsRow w.heap.size 3 1 (.slice B m d) m ((jTo S (l.take k)).2.map I64) ∧ Below w.heap.size w wr) (fun i _ => n - (intOf i).toNat)
 case atStart => exact ⟨0, none, 0, 0, Nat.zero_le _, rfl, fun j s hj => absurd hj (by omega), rfl, Xk0.out, Xk1.out, Xown0.out, Xhb2.out⟩
 case round =>
  clear z2 Xk0 Xk1 Xown0 Xhb2
  obtain ⟨k, B, m, d, hk, rfl, hall, hm, k0, k1, own, hb⟩ := hrel
  obtain ⟨p, hp⟩ : ∃ p, p = jTo S (l.take k) := ⟨_, rfl⟩
  rw [← hp] at hm k1 own
  have hpl : p.2.length ≤ 4096 := by rw [hp]; exact XhT.out k
  have hz := k1.lt
  have q0 := (k0.cell 0).trans rfl
  have q1 := (k0.cell 1).trans rfl
  have q2 := (k0.cell 2).trans rfl
  have f0 := k0.frozen 0
  have f1 := k0.frozen 1
  have f2 := k0.frozen 2
  have o0 := (k1.cell 0).trans rfl
  have o1 := (k1.cell 1).trans rfl
  have o2 := (k1.cell 2).trans rfl
  have g0 := k1.frozen 0
  have g1 := k1.frozen 1
  have g2 := k1.frozen 2
  have hml : m ≤ 4096 := by omega
  by_cases hlt : k < n
  ·have hw := Xh.out.below hb
   have hlr := Xhl.out.below hb XhG.out
   obtain ⟨-, -, -, hcell⟩ := RdI.at_ hlr
   obtain ⟨bl, off, rfl, hbl, hcc⟩ := hcell (by omega)
   obtain ⟨s, hs⟩ : ∃ s, l[k]? = some s := ⟨_, List.getElem?_eq_getElem (by rw [← Xhn.out]; exact hlt)⟩
   have hcs := hcc k s hs
   have hnext := jTo_next (S := S) hs
   rw [← hp] at hnext
   have hptr := hw.ptr
   have hsz := hw.size
   have hlt' : (k : Int) < (n : Int) := by omega
   by_cases hs0 : s < 0
   ·have hfin := fun w' => JoinOwn.no (w := w) (w' := w') (S := S) hs (by rw [lookW_neg hs0]; rfl)
    have Xhfin := hide hfin
    have Xhall := hide hall
    have Xhm := hide hm
    have Xhp := hide hp
    have Xk0 := hide k0
    have Xk1 := hide k1
    have Xown := hide own
    have Xhb := hide hb
    have Xhw := hide hw
    have Xhlr := hide hlr
    have Xhs := hide hs
    have Xhnext := hide hnext
    clear hfin hall hm hp k0 k1 own hb hw hlr hs hnext
    clear hcell hcc
    go_wp2_with fail
    refine bodyPost_ret (v := .agg #[.bool false, .bool false, .slice none 0 0]) (by simp [results, Tryz.results133, go_sem, q0, q1, q2]) rfl ?_
    exact Xhfin.out _ (((Xhb.out.setCell (by simp) _).setCell (by simp) _).setCell (by simp) _)
   ·by_cases hs1 : (S.length : Int) ≤ s
    ·have hfin := fun w' => JoinOwn.no (w := w) (w' := w') (S := S) hs (by rw [lookW_big hs1]; rfl)
     have Xhfin := hide hfin
     have Xhall := hide hall
     have Xhm := hide hm
     have Xhp := hide hp
     have Xk0 := hide k0
     have Xk1 := hide k1
     have Xown := hide own
     have Xhb := hide hb
     have Xhw := hide hw
     have Xhlr := hide hlr
     have Xhs := hide hs
     have Xhnext := hide hnext
     clear hfin hall hm hp k0 k1 own hb hw hlr hs hnext
     clear hcell hcc
     go_wp2_with fail
     refine bodyPost_ret (v := .agg #[.bool false, .bool false, .slice none 0 0]) (by simp [results, Tryz.results133, go_sem, q0, q1, q2]) rfl ?_
     exact Xhfin.out _ (((Xhb.out.setCell (by simp) _).setCell (by simp) _).setCell (by simp) _)
    ·obtain ⟨sn, rfl⟩ := Int.eq_ofNat_of_zero_le (by omega : 0 ≤ s)
     have hsn : sn < S.length := by omega
     have hs1' : (sn : Int) < (S.length : Int) := by omega
     obtain ⟨x, Ax, nx, cx, hx, e0, e1, e2, hxr, hnx, hnxc, hcx, hnx4⟩ := hw.at_ hsn
     have hlk := lookW_nat hx
     cases hxi : x.is with
     | false =>
      rw [hxi] at e0
      have hfin := fun w' => JoinOwn.no (w := w) (w' := w') (S := S) hs (by rw [hlk]; exact hxi)
      have Xhfin := hide hfin
      have Xhall := hide hall
      have Xhm := hide hm
      have Xhp := hide hp
      have Xk0 := hide k0
      have Xk1 := hide k1
      have Xown := hide own
      have Xhb := hide hb
      have Xhw := hide hw
      have Xhlr := hide hlr
      have Xhs := hide hs
      have Xhnext := hide hnext
      have Xhx := hide hx
      have Xhxr := hide hxr
      have Xhnx := hide hnx
      have Xhlk := hide hlk
      have Xhxi := hide hxi
      clear hfin hall hm hp k0 k1 own hb hw hlr hs hnext hx hxr hnx hlk hxi
      clear hcell hcc
      go_wp2_with fail
      refine bodyPost_ret (v := .agg #[.bool false, .bool false, .slice none 0 0]) (by simp [results, Tryz.results133, go_sem, q0, q1, q2]) rfl ?_
      exact Xhfin.out _ (((Xhb.out.setCell (by simp) _).setCell (by simp) _).setCell (by simp) _)
     | true =>
      rw [hxi] at e0
      have hstep : jStep S p (sn : Int) = (p.1 || (x.long || decide (4096 < m + nx)), if (p.1 || (x.long || decide (4096 < m + nx))) = true then p.2 else p.2 ++ x.l) := by
       unfold jStep; rw [hlk, hm, hnx]
      rw [hstep] at hnext
      have hall2 : ∀ (j : Nat) (s : Int), j < k + 1 → l[j]? = some s → (lookW S s).is = true := fun j s' hj hs' => by
       by_cases e : j = k
       ·subst e; rw [hs] at hs'; injection hs' with hs'; rw [← hs', hlk]; exact hxi
       ·exact hall j s' (by omega) hs'
      have hxz : ∀ k', F k' → k' < w.heap.size := Xh.out.lt
      have hne : w.heap.size ≠ w.heap.size + 1 := by omega
      have hbz0 := hb.size
      -- what is there behind the new mark
      have mark : ∀ lg : Bool, Blk ((wr.setCell ⟨w.heap.size + 1, 1, none⟩ (.bool lg)).alloc (.cells #[.bool true, .bool x.long, .slice Ax nx cx] 161)) (w.heap.size + 1) 161 #[.bool true, .bool lg, .slice B m d] ∧ Blk ((wr.setCell ⟨w.heap.size + 1, 1, none⟩ (.bool lg)).alloc (.cells #[.bool true, .bool x.long, .slice Ax nx cx] 161)) w.heap.size 161 #[.bool false, .bool false, .slice none 0 0] ∧ ((wr.setCell ⟨w.heap.size + 1, 1, none⟩ (.bool lg)).alloc (.cells #[.bool true, .bool x.long, .slice Ax nx cx] 161)).ownsRow w.heap.size 3 1 (.slice B m d) m (p.2.map I64) ∧ Below w.heap.size w ((wr.setCell ⟨w.heap.size + 1, 1, none⟩ (.bool lg)).alloc (.cells #[.bool true, .bool x.long, .slice Ax nx cx] 161)) ∧ RdI ((wr.setCell ⟨w.heap.size + 1, 1, none⟩ (.bool lg)).alloc (.cells #[.bool true, .bool x.long, .slice Ax nx cx] 161)) F (.slice Ax nx cx) x.l ∧ ((wr.setCell ⟨w.heap.size + 1, 1, none⟩ (.bool lg)).alloc (.cells #[.bool true, .bool x.long, .slice Ax nx cx] 161)).cell? ⟨wr.heap.size, 2, none⟩ = some (.slice Ax nx cx) := fun lg => by
       have t : Touch (fun q => q = w.heap.size + 1) wr (wr.setCell ⟨w.heap.size + 1, 1, none⟩ (.bool lg)) := (Touch.refl (fun q => q = w.heap.size + 1) wr).setCell (p := ⟨w.heap.size + 1, 1, none⟩) (fun _ => rfl) _
       have zz : (wr.setCell ⟨w.heap.size + 1, 1, none⟩ (.bool lg)).heap.size = wr.heap.size := by simp [World.setCell]
       have t2 := t.alloc (.cells #[.bool true, .bool x.long, .slice Ax nx cx] 161)
       refine ⟨(k1.put 1 _).alloc _, k0.touch t2 hne, t2.own own (fun q hq e => k1.ne_own own (by decide) (by rw [hq, e])), hb.trans (t2.below (fun q hq _ e => by omega) hbz0), hxr.touch t2 (fun q hq e => by have := hxz q hq; omega), ?_⟩
       have kn := Blk.new (wr.setCell ⟨w.heap.size + 1, 1, none⟩ (.bool lg)) 161 #[.bool true, .bool x.long, .slice Ax nx cx]
       rw [zz] at kn
       exact (kn.cell 2).trans rfl
      have Xhall := hide hall
      have Xhall2 := hide hall2
      have Xhp := hide hp
      have Xk0 := hide k0
      have Xk1 := hide k1
      have Xown := hide own
      have Xhb := hide hb
      have Xhw := hide hw
      have Xhlr := hide hlr
      have Xhs := hide hs
      have Xhnext := hide hnext
      have Xhx := hide hx
      have Xhxr := hide hxr
      have Xhlk := hide hlk
      have Xhxi := hide hxi
      have Xhstep := hide hstep
      have Xhxz := hide hxz
      have Xmark := hide mark
      have Xhm := hide hm
      have Xhnx := hide hnx
      clear hall hall2 hp k0 k1 own hb hw hlr hs hnext hx hxr hlk hxi hstep hxz mark hm hnx
      clear hcell hcc
      have marked : ∀ W, (jTo S (l.take (k + 1)) = (true, p.2)) → W = (wr.setCell ⟨w.heap.size + 1, 1, none⟩ (.bool true)).alloc (.cells #[.bool true, .bool x.long, .slice Ax nx cx] 161) → ∃ (k' : Nat) (B' : Option Addr) (m' d' : Nat), k' ≤ n ∧ Value.int .i64 ((k : Int) + 1) = .int .i64 k' ∧ (∀ (j : Nat) (s : Int), j < k' → l[j]? = some s → (lookW S s).is = true) ∧ m' = (jTo S (l.take k')).2.length ∧ Blk W w.heap.size 161 #[.bool false, .bool false, .slice none 0 0] ∧ Blk W (w.heap.size + 1) 161 #[.bool true, .bool (jTo S (l.take k')).1, .slice B' m' d'] ∧ W.ownsRow w.heap.size 3 1 (.slice B' m' d') m' ((jTo S (l.take k')).2.map I64) ∧ Below w.heap.size w W := fun W hj hW => by
       subst hW
       obtain ⟨z1, z2, z3, z4, -, -⟩ := Xmark.out true
       exact ⟨k + 1, B, m, d, by omega, by go_num, Xhall2.out, by rw [hj]; exact Xhm.out, z2, by rw [hj]; exact z1, by rw [hj]; exact z3, z4⟩
      have Xmarked := hide marked
      clear marked
      have lens : (nx : Int) + (m : Int) ≤ 8192 := by omega
      cases hp1 : p.1 with
      | true =>
       have hj : jTo S (l.take (k + 1)) = (true, p.2) := by rw [Xhnext.out, hp1]; simp
       have hres := Xmarked.out _ hj rfl
       rw [hp1] at o1
       have Xhj := hide hj
       have Xhres := hide hres
       have Xhp1 := hide hp1
       clear hj hres hp1
       go_wp2_with fail
       go_roundw
       case rel => exact Xhres.out
       case measure => simp [intOf]; omega
      | false =>
       rw [hp1] at o1
       cases hxl : x.long with
       | true =>
        have hj : jTo S (l.take (k + 1)) = (true, p.2) := by rw [Xhnext.out, hxl]; simp
        have hres := Xmarked.out _ hj rfl
        rw [hxl] at e1 hres
        have Xhj := hide hj
        have Xhres := hide hres
        have Xhp1 := hide hp1
        have Xhxl := hide hxl
        clear hj hres hp1 hxl
        go_wp2_with fail
        go_roundw
        case rel => exact Xhres.out
        case measure => simp [intOf]; omega
       | false =>
        by_cases hbig : 4096 < m + nx
        ·have hbig' : (4096 : Int) < (m : Int) + (nx : Int) := by omega
         have hj : jTo S (l.take (k + 1)) = (true, p.2) := by rw [Xhnext.out, decide_eq_true hbig]; simp
         have hres := Xmarked.out _ hj rfl
         rw [hxl] at e1 hres
         have Xhj := hide hj
         have Xhres := hide hres
         have Xhp1 := hide hp1
         have Xhxl := hide hxl
         clear hj hres hp1 hxl
         go_wp2_with fail
         go_roundw
         case rel => exact Xhres.out
         case measure => simp [intOf]; omega
        ·have hbig' : ¬ (4096 : Int) < (m : Int) + (nx : Int) := by omega
         have hj : jTo S (l.take (k + 1)) = (false, p.2 ++ x.l) := by rw [Xhnext.out, hp1, hxl, decide_eq_false hbig]; simp
         obtain ⟨mk1, mk0, mko, mkb, mkr, mkc⟩ := Xmark.out false
         rw [hxl] at e1 mk1 mk0 mko mkb mkr mkc
         have v2 := (mk1.cell 2).trans rfl
         have n1 := mk1.ne_own mko (by decide)
         have n0 := mk0.ne_own mko (by decide)
         have hxln : (x.l.map I64).length = nx * 1 := by simp; exact Xhnx.out.symm
         have hones : ∀ u ∈ x.l.map I64, u.oneCell' = true := fun u hu => by obtain ⟨y, _, rfl⟩ := List.mem_map.1 hu; rfl
         have hbz := mkb.size
         have Xhj := hide hj
         have Xhp1 := hide hp1
         have Xhxl := hide hxl
         have Xmk1 := hide mk1
         have Xmk0 := hide mk0
         have Xmko := hide mko
         have Xmkb := hide mkb
         have Xmkr := hide mkr
         have Xn1 := hide n1
         have Xn0 := hide n0
         have Xhxln := hide hxln
         have Xhones := hide hones
         clear hj hp1 hxl mk1 mk0 mko mkb mkr n1 n0 hxln hones
         go_wp2_with (at_builtin; refine wp_append _ rfl (.tmp 67) (.tmp 69) _ rfl Tryz.elemInt w.heap.size _ m (p.2.map I64) rfl Xmko.out F _ (x.l.map I64) nx rfl Xhxln.out Xmkr.out Xhones.out (by unfold maxLen; omega) (by omega) hbz ?_)
         intro A' c' w6 hown6 hg6 _
         have kk6 := Xmk1.out.grown hg6 (fun e => Xn1.out e.symm)
         have k06 := Xmk0.out.grown hg6 (fun e => Xn0.out e.symm)
         have d2 := (kk6.cell 2).trans rfl
         have f6 := kk6.frozen 2
         have hb6 := Xmkb.out.grown hg6 hbz (fun q hq => (Xmko.out.lt q hq).1)
         have t6 : Touch (fun q => q = w.heap.size + 1) w6 (w6.setCell ⟨w.heap.size + 1, 2, none⟩ (.slice A' (m + nx) c')) := (Touch.refl (fun q => q = w.heap.size + 1) w6).setCell (p := ⟨w.heap.size + 1, 2, none⟩) (fun _ => rfl) _
         have n6 := kk6.ne_own hown6 (by decide)
         have own6 : (w6.setCell ⟨w.heap.size + 1, 2, none⟩ (.slice A' (m + nx) c')).ownsRow w.heap.size 3 1 (.slice A' (m + nx) c') (m + nx) ((p.2 ++ x.l).map I64) := by
          have := t6.own hown6 (fun q hq e => n6 (by rw [hq, e]))
          rw [List.map_append]; exact this
         have fin6 := And.intro (kk6.put 2 (.slice A' (m + nx) c')) (And.intro (k06.touch t6 (by omega)) (And.intro own6 (hb6.setCell (p := ⟨w.heap.size + 1, 2, none⟩) (by simp) (.slice A' (m + nx) c'))))
         clear hown6 hg6
         have Xfin6 := hide fin6
         have Xkk6 := hide kk6
         have Xk06 := hide k06
         have Xhb6 := hide hb6
         have Xt6 := hide t6
         have Xn6 := hide n6
         have Xown6 := hide own6
         clear fin6 kk6 k06 hb6 t6 n6 own6
         go_wp2_with fail
         go_roundw
         case rel => exact ⟨k + 1, A', m + nx, c', by omega, by go_num, Xhall2.out, by rw [Xhj.out]; simp only [List.length_append]; have := Xhm.out; have := Xhnx.out; omega, Xfin6.out.2.1, by rw [Xhj.out]; exact Xfin6.out.1, by rw [Xhj.out]; exact Xfin6.out.2.2.1, Xfin6.out.2.2.2⟩
         case measure => simp [intOf]; omega
  ·have hkn : k = l.length := by have := Xhn.out; omega
   have hjo := joinOf_yes (S := S) (l := l) (fun j s hs => hall j s (by have := (List.getElem?_eq_some_iff.1 hs).1; omega) hs)
   have hpe : jTo S l = p := by rw [hp, hkn, List.take_length]
   rw [hpe] at hjo
   have hrd : RdI wr (fun q => w.heap.size ≤ q ∧ q < wr.heap.size) (.slice B m d) p.2 := (Rd.of_own own).mono (fun q hq => own.lt q hq)
   cases hp1 : p.1 with
   | true =>
    rw [hp1] at o1
    have Xhall := hide hall
    have Xhm := hide hm
    have Xhp := hide hp
    have Xk0 := hide k0
    have Xk1 := hide k1
    have Xown := hide own
    have Xhb := hide hb
    have Xhjo := hide hjo
    have Xhpe := hide hpe
    have Xhrd := hide hrd
    have Xhp1 := hide hp1
    have Xhkn := hide hkn
    clear hall hm hp k0 k1 own hb hjo hpe hrd hp1 hkn
    go_wp2_with fail
    refine bodyPost_ret (v := .agg #[.bool true, .bool true, .slice none 0 0]) (by simp [results, Tryz.results133, go_sem, q0, q1, q2]) rfl ?_
    refine ⟨none, 0, 0, by rw [Xhjo.out, Xhp1.out], by rw [Xhjo.out, Xhp1.out]; exact World.ownsRow_nil _ _ _ _, ((((Xhb.out.setCell (by simp) _).setCell (by simp) _).setCell (by simp) _).setCell (by simp) _)⟩
   | false =>
    rw [hp1] at o1
    have Xhall := hide hall
    have Xhm := hide hm
    have Xhp := hide hp
    have Xk0 := hide k0
    have Xk1 := hide k1
    have Xown := hide own
    have Xhb := hide hb
    have Xhjo := hide hjo
    have Xhpe := hide hpe
    have Xhrd := hide hrd
    have Xhp1 := hide hp1
    have Xhkn := hide hkn
    clear hall hm hp k0 k1 own hb hjo hpe hrd hp1 hkn
    go_wp2_with fail
    refine bodyPost_ret (v := .agg #[.bool true, .bool false, .slice B m d]) (by simp [results, Tryz.results133, go_sem, q0, q1, q2]) rfl ?_
    have t3 : ∀ u1 u2 u3, Touch (fun q => q = w.heap.size) wr (((wr.setCell ⟨w.heap.size, 0, none⟩ u1).setCell ⟨w.heap.size, 1, none⟩ u2).setCell ⟨w.heap.size, 2, none⟩ u3) := fun u1 u2 u3 => (((Touch.refl (fun q => q = w.heap.size) wr).setCell (p := ⟨w.heap.size, 0, none⟩) (fun _ => rfl) u1).setCell (p := ⟨w.heap.size, 1, none⟩) (fun _ => rfl) u2).setCell (p := ⟨w.heap.size, 2, none⟩) (fun _ => rfl) u3
    have n3 := Xk0.out.ne_own Xown.out (by decide)
    have hown3 := fun u1 u2 u3 => (t3 u1 u2 u3).own Xown.out (fun q hq e => n3 (by rw [hq, e]))
    refine ⟨B, m, d, by rw [Xhjo.out, Xhp1.out], by rw [Xhjo.out, Xhp1.out]; exact hown3 _ _ _, (((Xhb.out.setCell (by simp) _).setCell (by simp) _).setCell (by simp) _)⟩
theorem least_join {w : World} {F G : Nat → Prop} {b g : Nat} {S : List FoundD} {v : Value} {l : List Int} (h : IsWords w F b g S) (hl : RdI w G v l) (hG : ∀ k, G k → k < w.heap.size) (hT : ∀ k, (jTo S (l.take k)).2.length ≤ 4096) :
  Calls Tryz.prog 133 #[.pointer (some ⟨b, 0, none⟩), v] w (JoinPost w (joinOf S l)) := (least_join_own h hl hG hT).mono fun e w' h => h.post
end
section
open Go.RowKit
attribute [local irreducible] wpStill wpOne wpPh
theorem least_shortlex (w : World) : Calls Tryz.prog 132 #[] w (Quiet w (.agg #[.func (.func 170) #[] #[]])) := by
 go_enter Tryz.func132, Tryz.ntmps132
 go_wp2_with fail
 refine bodyPost_ret (v := .agg #[.func (.func 170) #[] #[]]) (by simp [results, Tryz.results132, go_sem]) rfl ?_
 exact ⟨rfl, (Below.refl _ w).alloc (Nat.le_refl _) _⟩
theorem least_better {w : World} {F G : Nat → Prop} {v u : Value} (x y : FoundD) (hx : RdI w F v x.l) (hy : RdI w G u y.l) (hF : ∀ k, F k → k < w.heap.size) (hG : ∀ k, G k → k < w.heap.size) :
  Calls Tryz.prog 134 #[.agg #[.func (.func 170) #[] #[]], .agg #[.bool x.is, .bool x.long, v], .agg #[.bool y.is, .bool y.long, u]] w (Quiet w (.bool (betterB x y))) := by
 have hv : betterB x y = (x.is && (!y.is || (if (x.long || y.long) = true then y.long && !x.long else lessB x.l y.l))) := rfl
 obtain ⟨w3, hw3⟩ : ∃ w3, w3 = ((w.alloc (.cells #[.func (.func 170) #[] #[]] 163)).alloc (.cells #[.bool x.is, .bool x.long, v] 161)).alloc (.cells #[.bool y.is, .bool y.long, u] 161) := ⟨_, rfl⟩
 have hb : Below w.heap.size w w3 := by rw [hw3]; exact (((Below.refl _ w).alloc (Nat.le_refl _) _).alloc (by simp) _).alloc (by simp; omega) _
 have hc := less_clo (hx.below hb hF) (hy.below hb hG)
 obtain ⟨A, n, c, rfl, -⟩ := id hx
 obtain ⟨B, m, d, rfl, -⟩ := id hy
 have eg := Tryz.enters_less
 have eg' : ∀ args w, (callFunc 170 args).run Tryz.prog w = .ok (.enter 170 args) w := eg
 rw [hw3] at hb hc
 generalize x.is = xi at *
 generalize y.is = yi at *
 generalize x.long = xl at *
 generalize y.long = yl at *
 generalize lessB x.l y.l = q at *
 clear hx hy hF hG eg hw3
 cases xi with
 | false =>
  have Xhv := hide hv
  have Xhb := hide hb
  have Xhc := hide hc
  clear hv hb hc
  go_enter Tryz.func134, Tryz.ntmps134
  go_wp2_with fail
  go_ret
  exact ⟨ret_bool (by rw [Xhv.out]; first | rfl | simp), Xhb.out⟩
 | true =>
  cases yi with
  | false =>
   have Xhv := hide hv
   have Xhb := hide hb
   have Xhc := hide hc
   clear hv hb hc
   go_enter Tryz.func134, Tryz.ntmps134
   go_wp2_with fail
   go_ret
   exact ⟨ret_bool (by rw [Xhv.out]; first | rfl | simp), Xhb.out⟩
  | true =>
   cases xl with
   | true =>
    cases yl with
    | true =>
     have Xhv := hide hv
     have Xhb := hide hb
     have Xhc := hide hc
     clear hv hb hc
     go_enter Tryz.func134, Tryz.ntmps134
     go_wp2_with fail
     go_ret
     exact ⟨ret_bool (by rw [Xhv.out]; first | rfl | simp), Xhb.out⟩
    | false =>
     have Xhv := hide hv
     have Xhb := hide hb
     have Xhc := hide hc
     clear hv hb hc
     go_enter Tryz.func134, Tryz.ntmps134
     go_wp2_with fail
     go_ret
     exact ⟨ret_bool (by rw [Xhv.out]; first | rfl | simp), Xhb.out⟩
   | false =>
    cases yl with
    | true =>
     have Xhv := hide hv
     have Xhb := hide hb
     have Xhc := hide hc
     clear hv hb hc
     go_enter Tryz.func134, Tryz.ntmps134
     go_wp2_with fail
     go_ret
     exact ⟨ret_bool (by rw [Xhv.out]; first | rfl | simp), Xhb.out⟩
    | false =>
     have Xhv := hide hv
     have Xhb := hide hb
     have Xhc := hide hc
     clear hv hb hc
     go_enter Tryz.func134, Tryz.ntmps134
     go_wp2_with (go_at_fn 170; refine Xhc.out.mono ?_; rintro e w' ⟨rfl, rfl⟩)
     go_ret
     exact ⟨ret_bool (by rw [Xhv.out]; simp), Xhb.out⟩
def lengthOf (S : List FoundD) (s : Int) : Int := if (lookW S s).is = false then -1 else if (lookW S s).long = true then 4097 else ((lookW S s).l.length : Int)
def LinePost (w : World) (x : FoundD) (e : Ending) (w' : World) : Prop := ∃ A n c, e = .returned (.tuple #[.slice A n c, .bool (x.is && !x.long)]) ∧ RdI w' (fun k => w.heap.size ≤ k ∧ k < w'.heap.size) (.slice A n c) x.l ∧ Below w.heap.size w w'
def LineOwn (w : World) (x : FoundD) (e : Ending) (w' : World) : Prop := ∃ A n c, e = .returned (.tuple #[.slice A n c, .bool (x.is && !x.long)]) ∧ w'.ownsRow w.heap.size 3 1 (.slice A n c) n (x.l.map I64) ∧ Below w.heap.size w w'
theorem LineOwn.post {w w' : World} {x : FoundD} {e : Ending} (h : LineOwn w x e w') : LinePost w x e w' := by
 obtain ⟨A, n, c, h1, h2, h3⟩ := h
 exact ⟨A, n, c, h1, (Rd.of_own h2).mono (fun q hq => h2.lt q hq), h3⟩
set_option maxRecDepth 100000 in
theorem least_line_own {w : World} {F G : Nat → Prop} {b g : Nat} {S : List FoundD} {v : Value} {l : List Int} (h : IsWords w F b g S) (hl : RdI w G v l) (hG : ∀ k, G k → k < w.heap.size) (hT : ∀ k, (jTo S (l.take k)).2.length ≤ 4096) :
  Calls Tryz.prog 85 #[.pointer (some ⟨b, 0, none⟩), v] w (LineOwn w (joinOf S l)) := by
 have hj := least_join_own h hl hG hT
 obtain ⟨A, n, c, rfl, -⟩ := id hl
 obtain ⟨x, hx⟩ : ∃ x, x = joinOf S l := ⟨_, rfl⟩
 rw [← hx] at hj ⊢
 have Xhj := hide hj
 have Xhx := hide hx
 clear hj hx
 clear h hl hG hT
 go_enter Tryz.func85, Tryz.ntmps85
 go_wp2_with fail
 refine Xhj.out.mono ?_
 rintro e w1 ⟨B, m, d, rfl, hr, hb⟩
 have hr2 := fun o => (hr.alloc o).drew
 have hb2 := fun o => hb.alloc hb.size o
 cases hxi : x.is with
 | false =>
  have Xhr := hide hr
  have Xhb := hide hb
  have Xhxi := hide hxi
  have Xhr2 := hide hr2
  have Xhb2 := hide hb2
  clear hr hb hxi hr2 hb2
  go_wp2_with fail
  refine region_reads (by kernel_rfl) (by kernel_rfl) ?_
  repeat still_step
  refine wpStill_nil ?_
  go_wp2_with fail
  go_ret2
  exact ⟨B, m, d, by rw [Xhxi.out]; rfl, Xhr2.out _, (Xhb2.out _).drew⟩
 | true =>
  have Xhr := hide hr
  have Xhb := hide hb
  have Xhxi := hide hxi
  have Xhr2 := hide hr2
  have Xhb2 := hide hb2
  clear hr hb hxi hr2 hb2
  go_wp2_with fail
  refine region_reads (by kernel_rfl) (by kernel_rfl) ?_
  repeat still_step
  refine wpStill_nil ?_
  go_wp2_with fail
  go_ret2
  exact ⟨B, m, d, by rw [Xhxi.out]; simp, Xhr2.out _, (Xhb2.out _).drew⟩
theorem least_line {w : World} {F G : Nat → Prop} {b g : Nat} {S : List FoundD} {v : Value} {l : List Int} (h : IsWords w F b g S) (hl : RdI w G v l) (hG : ∀ k, G k → k < w.heap.size) (hT : ∀ k, (jTo S (l.take k)).2.length ≤ 4096) :
  Calls Tryz.prog 85 #[.pointer (some ⟨b, 0, none⟩), v] w (LinePost w (joinOf S l)) := (least_line_own h hl hG hT).mono fun e w' h => h.post
end
end Go.Proofs.YtlpokomfljmogaaGreat

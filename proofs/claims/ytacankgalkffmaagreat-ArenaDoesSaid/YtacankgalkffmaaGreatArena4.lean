/- Trees of nodes: Roots, Join. -/
import Derived.Test.YtacankgalkffmaaGreatArena3
namespace Go.Proofs.YtacankgalkffmaaGreat
set_option linter.unusedVariables false
set_option linter.unusedSimpArgs false
open Go.RowKit
def IntsPost (w : World) (xs : List Int) (e : Ending) (w' : World) : Prop := Below w.heap.size w w' ∧ ∃ A c, e = .returned (.slice A xs.length c) ∧ w'.ownsRow w.heap.size 3 1 (.slice A xs.length c) xs.length (xs.map (Value.int .i64))
theorem IntsPost.rd {w w' : World} {xs : List Int} {e : Ending} (h : IntsPost w xs e w') : ∃ v, e = .returned v ∧ RdI w' (fun b => w.heap.size ≤ b ∧ b < w'.heap.size) v xs := by
 obtain ⟨b, A, c, he, own⟩ := h
 exact ⟨_, he, (Rd.of_own own).mono fun k hk => own.lt k hk⟩
def rootsK (L : List Nd) (k : Nat) : List Int := (List.range k).filterMap fun (i : Nat) => if (ndAt L (i : Int)).below = true then none else some (i : Int)
theorem rootsK_all (L : List Nd) : rootsK L L.length = rootsL L := rfl
theorem rootsK_yes {L : List Nd} {k : Nat} (h : (ndAt L (k : Int)).below = true) : rootsK L (k + 1) = rootsK L k := by
 unfold rootsK
 rw [List.range_succ, List.filterMap_append]
 simp [h]
theorem rootsK_no {L : List Nd} {k : Nat} (h : (ndAt L (k : Int)).below = false) : rootsK L (k + 1) = rootsK L k ++ [(k : Int)] := by
 unfold rootsK
 rw [List.range_succ, List.filterMap_append]
 simp [h]
theorem rootsK_len (L : List Nd) (k : Nat) : (rootsK L k).length ≤ k := by
 unfold rootsK
 have := List.length_filterMap_le (fun (i : Nat) => if (ndAt L (i : Int)).below = true then none else some (i : Int)) (List.range k)
 rwa [List.length_range] at this
theorem arena_Roots0 (w : World) : Calls Tryz.prog 20 #[.pointer none] w (Quiet w (.slice none 0 0)) := by
 have cL := arena_Len0 w
 have XcL := hide cL
 clear cL
 go_enter Tryz.func20, Tryz.ntmps20
 go_wp2_with fail
 refine XcL.out.mono ?_
 rintro e w' ⟨rfl, b⟩
 have Xb := hide b
 clear b
 clear XcL
 go_wp2_with fail
 go_loopw [3, 7] (fun o i wr => o = .slice none 0 0 ∧ i = .int .i64 0 ∧ wr = w') (fun _ _ _ => 0)
 case atStart => exact ⟨rfl, rfl, rfl⟩
 case round =>
  obtain ⟨rfl, rfl, rfl⟩ := hrel
  go_wp2_with fail
  go_ret
  exact ⟨rfl, Xb.out⟩
section
variable {w w' : World} {bt : Nat} {S : Nat → Prop} {L : List Nd}
set_option maxHeartbeats 1000000 in
theorem arena_Roots (h : Ar w bt S L) (hl : L.length ≤ 100000) : Calls Tryz.prog 20 #[.pointer (some ⟨bt, 0, none⟩)] w (IntsPost w (rootsL L)) := by
 have cL := arena_Len h
 obtain ⟨v, M, rfl, h⟩ := h
 obtain ⟨A, c, rfl, hc, hm⟩ := h.shape
 rw [List.length_map] at cL hl
 obtain ⟨n, hn⟩ : ∃ n, n = M.length := ⟨_, rfl⟩
 rw [← hn] at cL hl hc h
 have XcL := hide cL
 have Xh := hide h
 have Xhn := hide hn
 clear cL h hn
 go_enter Tryz.func20, Tryz.ntmps20
 go_wp2_with fail
 refine XcL.out.mono ?_
 rintro e w' ⟨rfl, rfl⟩
 clear XcL
 go_wp2_with fail
 go_loopw [3, 7] (fun ov iv wr => ∃ (k : Nat) (B : Option Addr) (m d : Nat), k ≤ n ∧ iv = .int .i64 (k : Int) ∧ ov = .slice B m d ∧ m = (rootsK (M.map Prod.fst) k).length ∧ wr.ownsRow w.heap.size 3 1 (.slice B m d) m ((rootsK (M.map Prod.fst) k).map (Value.int .i64)) ∧ Below w.heap.size w wr) (fun _ iv _ => n - (intOf iv).toNat)
 case atStart => exact ⟨0, none, 0, 0, Nat.zero_le _, rfl, rfl, rfl, World.ownsRow_nil _ _ _ _, Below.refl _ _⟩
 case round =>
  obtain ⟨k, B, m, d, hk, rfl, rfl, hm, own0, le⟩ := hrel
  have h1 := Xh.out.below le
  have hb := (h1.box.cell 0).trans rfl
  have hml := rootsK_len (M.map Prod.fst) k
  rw [← hm] at hml
  by_cases hlt : k < n
  ·have hlt' : (k : Int) < (n : Int) := by omega
   obtain ⟨p, hp⟩ : ∃ p, M[k]? = some p := ⟨_, List.getElem?_eq_getElem (by rw [← Xhn.out]; exact hlt)⟩
   obtain ⟨g, c', hv, hSg, hgb, c0, c1, c2, c3, c4, c5, rk⟩ := h1.at_ hp
   rw [← Xhn.out] at hv
   injection hv with hv1 _ hv3
   subst hv1 hv3
   have hx : ndAt (M.map Prod.fst) (k : Int) = p.1 := ndAt_get (by rw [List.getElem?_map, hp]; rfl)
   obtain ⟨pb, hpb⟩ : ∃ b, b = p.1.below := ⟨_, rfl⟩
   rw [← hpb] at c5
   clear c0 c1 c2 c3 c4 rk h1 hSg hgb
   cases pb with
   | true =>
    have hs := rootsK_yes (L := M.map Prod.fst) (k := k) (by rw [hx, ← hpb])
    rw [← hs] at hm own0
    clear hx hpb hs hp
    have Xhm := hide hm
    have Xown0 := hide own0
    have Xle := hide le
    clear hm own0 le
    go_wp2_with fail
    go_roundw
    case rel => exact ⟨k + 1, B, m, d, by omega, by go_num, rfl, Xhm.out, Xown0.out, Xle.out⟩
    case measure => simp [intOf]; omega
   | false =>
    have hs := rootsK_no (L := M.map Prod.fst) (k := k) (by rw [hx, ← hpb])
    have al : Below wr.heap.size wr (wr.alloc (.cells #[.int .i64 (k : Int)] 3)) := (Below.refl _ _).alloc (Nat.le_refl _) _
    have own1 := own_below' own0 al
    have rone : Rd (wr.alloc (.cells #[.int .i64 (k : Int)] 3)) (fun _ => True) (.slice (some ⟨wr.heap.size, 0, none⟩) 1 1) 1 ([(k : Int)].map (Value.int .i64)) := Rd.one (w := wr) (e := 3) ([(k : Int)].map (Value.int .i64)) 1 rfl
    have hz := le.size
    clear hx hpb hp
    have Xhm := hide hm
    have Xown1 := hide own1
    have Xown0 := hide own0
    have Xle := hide le
    have Xal := hide al
    have Xrone := hide rone
    have Xhs := hide hs
    have Xhz := hide hz
    clear hm own1 own0 le al rone hs hz
    go_wp2_with (at_builtin; refine wp_append _ rfl (.tmp 19) (.tmp 21) _ rfl Tryz.elemInt w.heap.size (.slice B m d) m _ rfl Xown1.out _ _ ([(k : Int)].map (Value.int .i64)) 1 rfl rfl Xrone.out (ints_one [(k : Int)]) (by unfold maxLen; omega) (by omega) (Nat.le_trans Xhz.out Xal.out.size) ?_)
    intro A4 c4 w4 own4 g4 ho4
    have b4 : Below w.heap.size w w4 := (Xle.out.trans (Xal.out.mono Xhz.out)).trans ((Touch.refl (fun k => (Value.slice B m d).ownBlock = some k) _).grown g4 (fun k e _ => e) |>.below (fun k hk _ e => by have := (Xown0.out.lt k e).1; omega) (Nat.le_trans Xhz.out Xal.out.size))
    have he : (rootsK (M.map Prod.fst) k).map (Value.int .i64) ++ [Value.int .i64 (k : Int)] = (rootsK (M.map Prod.fst) (k + 1)).map (Value.int .i64) := by rw [Xhs.out, List.map_append]; rfl
    rw [he] at own4
    have hm4 : m + 1 = (rootsK (M.map Prod.fst) (k + 1)).length := by rw [Xhs.out, List.length_append, ← Xhm.out]; rfl
    clear Xown0 Xown1 Xle Xal Xrone g4 ho4 Xhm Xhs
    have Xown4 := hide own4
    have Xb4 := hide b4
    have Xhm4 := hide hm4
    clear own4 b4 hm4
    go_wp2_with fail
    go_roundw
    case rel => exact ⟨k + 1, A4, m + 1, c4, by omega, by go_num, rfl, Xhm4.out, Xown4.out, Xb4.out⟩
    case measure => simp [intOf]; omega
  ·have hlt' : ¬ (k : Int) < (n : Int) := by omega
   obtain rfl : k = n := by omega
   have hL : rootsK (M.map Prod.fst) k = rootsL (M.map Prod.fst) := by rw [← rootsK_all, List.length_map, ← Xhn.out]
   rw [hL] at hm own0
   clear h1 hb hL hml
   have Xhm := hide hm
   have Xown0 := hide own0
   have Xle := hide le
   clear hm own0 le
   go_wp2_with fail
   go_ret
   exact ⟨Xle.out, B, d, by rw [← Xhm.out]; rfl, by rw [← Xhm.out]; exact Xown0.out⟩
end
end Go.Proofs.YtacankgalkffmaaGreat

/- The ways in memory: compared, made longer, sorted. -/
import Derived.Test.YtlpokomfljmogaaGreatRoutePlain
import Derived.Test.YtlpokomfljmogaaGreatLeast1
import Derived.Test.YtlpokomfljmogaaGreatItemLay
import Derived.Test.YtlpokomfljmogaaGreatItem8
import Derived.Test.YtlpokomfljmogaaGreatAuto4
import Derived.Test.YtlpokomfljmogaaGreatGramAwake
import Derived.Laws.CopyOwn
import Derived.Test.YtlpokomfljmogaaGreatLeast4
namespace Go.Proofs.YtlpokomfljmogaaGreat
set_option linter.unusedVariables false
section
set_option linter.unusedSimpArgs false
section
open Go.RowKit
attribute [local irreducible] wpStill wpOne wpPh
def cmpL : List Int → List Int → Int
 | x :: r, y :: t => if x = y then cmpL r t else cmpI x y
 | _, _ => 0
theorem cmpL_at : ∀ {xs ys : List Int} {k : Nat} {a b : Int}, (∀ j : Nat, j < k → xs[j]? = ys[j]?) → xs[k]? = some a → ys[k]? = some b → a ≠ b → cmpL xs ys = cmpI a b
 | x :: r, y :: t, 0, a, b, _, hx, hy, hne => by
  simp at hx hy
  subst hx hy
  unfold cmpL
  rw [if_neg hne]
 | x :: r, y :: t, k + 1, a, b, hb, hx, hy, hne => by
  have h0 := hb 0 (by omega)
  simp at h0
  unfold cmpL
  rw [if_pos h0]
  exact cmpL_at (k := k) (fun j hj => by have := hb (j + 1) (by omega); simpa using this) (by simpa using hx) (by simpa using hy) hne
 | [], _, _, _, _, _, hx, _, _ => by simp at hx
 | _ :: _, [], _, _, _, _, _, hy, _ => by simp at hy
theorem cmpL_same : ∀ (xs : List Int), cmpL xs xs = 0
 | [] => rfl
 | x :: r => by unfold cmpL; rw [if_pos rfl]; exact cmpL_same r
theorem cmpL_lex : ∀ {xs ys : List Int}, xs.length = ys.length → cmpL xs ys = if lexB xs ys = true then -1 else if lexB ys xs = true then 1 else 0
 | [], [], _ => by simp [cmpL, lexB]
 | [], _ :: _, h => by simp at h
 | _ :: _, [], h => by simp at h
 | x :: r, y :: t, h => by
  have h' : r.length = t.length := by simpa using h
  have ih := cmpL_lex h'
  simp only [cmpL, lexB]
  by_cases e : x = y
  ·have e' : y = x := e.symm
   simp only [if_pos e, if_pos e']
   exact ih
  ·have e' : ¬ y = x := fun h => e h.symm
   simp only [if_neg e, if_neg e']
   unfold cmpI
   by_cases h1 : x < y
   ·simp [h1]
   ·have h2 : y < x := by omega
    simp [h1, h2]
def cmpN (a b : Nat) : Int := if a < b then -1 else if b < a then 1 else 0
theorem cmpL_nm {T : Nat} {xs ys : List Int} (hx : OkW T xs) (hy : OkW T ys) (h : xs.length = ys.length) : cmpL xs ys = cmpN (nm T xs) (nm T ys) := by
 have h1 := less_nm hx hy
 have h2 := less_nm hy hx
 unfold lessB at h1 h2
 rw [if_pos h] at h1
 rw [if_pos h.symm] at h2
 rw [cmpL_lex h, h1, h2]
 unfold cmpN
 simp only [decide_eq_true_eq]
set_option maxRecDepth 100000 in
set_option maxHeartbeats 2000000 in
theorem compare_ints2 {w : World} {F G : Nat → Prop} {v u : Value} {xs ys : List Int} (h : RdI w F v xs) (g : RdI w G u ys) (hlen : xs.length = ys.length) :
  Calls Tryz.prog 80 #[v, u] w fun e w' => e = .returned (.int .i64 (cmpL xs ys)) ∧ w = w' := by
 obtain ⟨A, n, c, rfl, -⟩ := id h
 obtain ⟨B, m, d, rfl, -⟩ := id g
 obtain ⟨hn, hnc, hcm, hcell⟩ := h.at_
 obtain ⟨hm, hmd, hdm, hcell'⟩ := g.at_
 have hnm : m = n := by omega
 subst hnm
 unfold maxLen at hcm hdm
 have hc : ∀ a b, Calls Tryz.prog 109 #[.int .i64 a, .int .i64 b] w fun e w' => e = .returned (.int .i64 (cmpI a b)) ∧ w = w' := fun a b => cmp_compare a b w
 have hat : ∀ (k : Nat) (a b : Int), (∀ j : Nat, j < k → xs[j]? = ys[j]?) → xs[k]? = some a → ys[k]? = some b → a ≠ b → cmpL xs ys = cmpI a b := fun k a b => cmpL_at
 have hall : (∀ j : Nat, j < m → xs[j]? = ys[j]?) → cmpL xs ys = 0 := fun hh => by
  have : xs = ys := List.ext_getElem? fun j => by
   by_cases hj : j < m
   ·exact hh j hj
   ·rw [List.getElem?_eq_none (by omega), List.getElem?_eq_none (by omega)]
  rw [this]; exact cmpL_same ys
 have Xhn := hide hn
 have Xhm := hide hm
 have Xhlen := hide hlen
 have Xhc := hide hc
 have Xhat := hide hat
 have Xhall := hide hall
 clear hn hm hlen hc hat hall
 clear h g
 go_enter Tryz.func80, Tryz.ntmps80
 go_wp2_with fail
 go_loopw [11] (fun i wr => ∃ k : Nat, k ≤ m ∧ i = .int .i64 k ∧ (∀ j : Nat, j < k → xs[j]? = ys[j]?) ∧ w = wr) (fun i _ => m - (intOf i).toNat)
 case atStart => exact ⟨0, Nat.zero_le _, rfl, fun j hj => absurd hj (by omega), rfl⟩
 case round =>
  obtain ⟨k, hk, rfl, hb, rfl⟩ := hrel
  have Xhb := hide hb
  clear hb
  by_cases hlt : k < m
  ·obtain ⟨b, off, rfl, -, hc1⟩ := hcell (by omega)
   obtain ⟨b', off', rfl, -, hc2⟩ := hcell' (by omega)
   obtain ⟨x, hx⟩ : ∃ x, xs[k]? = some x := ⟨_, List.getElem?_eq_getElem (by rw [← Xhn.out]; exact hlt)⟩
   obtain ⟨y, hy⟩ : ∃ x, ys[k]? = some x := ⟨_, List.getElem?_eq_getElem (by rw [← Xhm.out]; exact hlt)⟩
   have q1 := hc1 k x hx
   have q2 := hc2 k y hy
   have hcc := Xhc.out x y
   have hlt' : (k : Int) < (m : Int) := by omega
   by_cases he : x = y
   ·have hz : cmpI x y = 0 := by unfold cmpI; rw [if_neg (by omega), if_neg (by omega)]
    rw [hz] at hcc
    have Xhx := hide hx
    have Xhy := hide hy
    have Xhcc := hide hcc
    have Xhe := hide he
    have Xhz := hide hz
    clear hx hy hcc he hz
    clear hcell hcell' hc1 hc2
    go_wp2_with fail
    refine Xhcc.out.mono ?_
    rintro e w' ⟨rfl, rfl⟩
    go_wp2_with fail
    go_roundw
    case rel => exact ⟨k + 1, by omega, by go_num, fun j hj => by
     by_cases e : j = k
     ·subst e; rw [Xhx.out, Xhy.out, Xhe.out]
     ·exact Xhb.out j (by omega), by first | rfl | trivial⟩
    case measure => simp [intOf]; omega
   ·have hz : (cmpI x y != 0) = true := by
     unfold cmpI
     by_cases h1 : x < y
     ·rw [if_pos h1]; rfl
     ·rw [if_neg h1, if_pos (by omega)]; rfl
    have hfin := Xhat.out k x y Xhb.out hx hy he
    generalize cmpI x y = cv at *
    have Xhx := hide hx
    have Xhy := hide hy
    have Xhcc := hide hcc
    have Xhe := hide he
    have Xhfin := hide hfin
    clear hx hy hcc he hfin
    clear hcell hcell' hc1 hc2
    go_wp2_with fail
    refine Xhcc.out.mono ?_
    rintro e w' ⟨rfl, rfl⟩
    go_wp2_with fail
    go_ret
    exact ⟨ret_int Xhfin.out.symm, by first | rfl | trivial⟩
  ·clear hcell hcell'
   go_wp2_with fail
   go_ret
   exact ⟨ret_int (Xhall.out fun j hj => Xhb.out j (by omega)).symm, by first | rfl | trivial⟩
set_option maxRecDepth 100000 in
set_option maxHeartbeats 2000000 in
theorem ref16_less {w : World} {F G : Nat → Prop} {v u : Value} {xs ys : List Int} (h : RdI w F v xs) (g : RdI w G u ys) :
  Calls Tryz.prog 84 #[v, u] w fun e w' => e = .returned (.bool (lessB xs ys)) ∧ ∃ q, w' = w.drewN q := by
 have hl : lessB xs ys = if xs.length = ys.length then lexB xs ys else decide (xs.length < ys.length) := rfl
 obtain ⟨A, n, c, rfl, -⟩ := id h
 obtain ⟨B, m, d, rfl, -⟩ := id g
 obtain ⟨hn, hnc, hcm, hcell⟩ := h.at_
 obtain ⟨hm, hmd, hdm, hcell'⟩ := g.at_
 unfold maxLen at hcm hdm
 rw [← hn, ← hm] at hl
 clear h g
 by_cases e : n = m
 ·subst e
  rw [if_pos rfl] at hl
  have hat : ∀ (k : Nat) (a b : Int), (∀ j : Nat, j < k → xs[j]? = ys[j]?) → xs[k]? = some a → ys[k]? = some b → a ≠ b → lexB xs ys = decide (a < b) := fun k a b => lexB_at
  have hall : (∀ j : Nat, j < n → xs[j]? = ys[j]?) → lexB xs ys = false := fun hh => by
   have : xs = ys := List.ext_getElem? fun j => by
    by_cases hj : j < n
    ·exact hh j hj
    ·rw [List.getElem?_eq_none (by omega), List.getElem?_eq_none (by omega)]
   rw [this]; exact lexB_same ys
  have Xhl := hide hl
  have Xhn := hide hn
  have Xhm := hide hm
  have Xhat := hide hat
  have Xhall := hide hall
  clear hl hn hm hat hall
  go_enter Tryz.func84, Tryz.ntmps84
  go_wp2_with fail
  go_loopw [5] (fun i wr => ∃ k q : Nat, k ≤ n ∧ i = .int .i64 k ∧ (∀ j : Nat, j < k → xs[j]? = ys[j]?) ∧ wr = w.drewN q) (fun i _ => n - (intOf i).toNat)
  case atStart => exact ⟨0, 0, Nat.zero_le _, rfl, fun j hj => absurd hj (by omega), rfl⟩
  case round =>
   obtain ⟨k, q, hk, rfl, hb, rfl⟩ := hrel
   have Xhb := hide hb
   clear hb
   by_cases hlt : k < n
   ·obtain ⟨b, off, rfl, -, hc1⟩ := hcell (by omega)
    obtain ⟨b', off', rfl, -, hc2⟩ := hcell' (by omega)
    obtain ⟨x, hx⟩ : ∃ x, xs[k]? = some x := ⟨_, List.getElem?_eq_getElem (by rw [← Xhn.out]; exact hlt)⟩
    obtain ⟨y, hy⟩ : ∃ x, ys[k]? = some x := ⟨_, List.getElem?_eq_getElem (by rw [← Xhm.out]; exact hlt)⟩
    have q1 := hc1 k x hx
    have q2 := hc2 k y hy
    have hlt' : (k : Int) < (n : Int) := by omega
    have hk0 : (0 : Int) ≤ (k : Int) := by omega
    by_cases he : x = y
    ·have hne : (x != y) = false := by simp [he]
     have Xhx := hide hx
     have Xhy := hide hy
     have Xhe := hide he
     clear hx hy he
     clear hcell hcell' hc1 hc2
     go_wp2_with fail
     refine region_reads (by kernel_rfl) (by kernel_rfl) ?_
     repeat still_step
     refine wpStill_nil ?_
     go_wp2_with fail
     go_roundw
     case rel => exact ⟨k + 1, q + 1, by omega, by go_num, fun j hj => by
      by_cases e : j = k
      ·subst e; rw [Xhx.out, Xhy.out, Xhe.out]
      ·exact Xhb.out j (by omega), rfl⟩
     case measure => simp [intOf]; omega
    ·have hne : (x != y) = true := by simpa using he
     have hfin := Xhat.out k x y Xhb.out hx hy he
     have Xhx := hide hx
     have Xhy := hide hy
     have Xhe := hide he
     have Xhfin := hide hfin
     clear hx hy he hfin
     clear hcell hcell' hc1 hc2
     go_wp2_with fail
     refine region_reads (by kernel_rfl) (by kernel_rfl) ?_
     repeat still_step
     refine wpStill_nil ?_
     go_wp2_with fail
     refine region_reads (by kernel_rfl) (by kernel_rfl) ?_
     repeat still_step
     refine wpStill_nil ?_
     go_wp2_with fail
     go_ret
     exact ⟨ret_bool (by rw [Xhl.out, Xhfin.out]), q + 2, rfl⟩
   ·clear hcell hcell'
    go_wp2_with fail
    go_ret
    exact ⟨ret_bool (by rw [Xhl.out, Xhall.out fun j hj => Xhb.out j (by omega)]), q, rfl⟩
 ·have hne : ((n : Int) != (m : Int)) = true := by simpa using (by omega : ¬ (n : Int) = (m : Int))
  rw [if_neg e] at hl
  have Xhl := hide hl
  have Xhn := hide hn
  have Xhm := hide hm
  clear hl hn hm
  clear hcell hcell'
  go_enter Tryz.func84, Tryz.ntmps84
  go_wp2_with fail
  go_ret
  exact ⟨ret_bool (by rw [Xhl.out]), 0, rfl⟩
theorem madeCells_list (z : Value) (n : Nat) : madeCells #[z] n = (List.replicate n z).toArray := Array.toList_inj.1 (by rw [toList_madeCells_one])
theorem make_row1 (n : Nat) (hn : n ≤ 65536) (w : World) : (Instr.makeSlice 51 (.int .i64 (n : Int)) (.int .i64 (n : Int))).run Tryz.prog w = .ok (.slice (some ⟨w.heap.size, 0, none⟩) n n) (w.alloc (.cells (List.replicate n (.int .i64 0)).toArray 3)) := by
 rw [← madeCells_list]
 exact run_make_row' _ _ _ 8 Tryz.underlying51 Tryz.infoInt rfl .i64 .i64 n (by omega) (by omega) w
def NewRow (w : World) (xs : List Int) (e : Ending) (w' : World) : Prop := ∃ q n c, e = .returned (.slice (some ⟨q, 0, none⟩) n c) ∧ RdI w' (fun b => b = q) (.slice (some ⟨q, 0, none⟩) n c) xs ∧ w.heap.size ≤ q ∧ q < w'.heap.size ∧ Below w.heap.size w w'
set_option maxRecDepth 100000 in
set_option maxHeartbeats 4000000 in
theorem route_longer {w : World} {F : Nat → Prop} {v : Value} {xs : List Int} (h : RdI w F v xs) (hF : ∀ b, F b → b < w.heap.size) (hl : xs.length ≤ 65000) (s : Int) :
  Calls Tryz.prog 77 #[v, .int .i64 s] w (NewRow w (xs ++ [s])) := by
 obtain ⟨A, n, c, rfl, -⟩ := id h
 obtain ⟨hn, hnc, hcm, hcell⟩ := h.at_
 unfold maxLen at hcm
 have hn1 : n ≤ 65000 := by omega
 have hmk : ∀ w : World, (Instr.makeSlice 51 (.int .i64 ((n : Int) + 1)) (.int .i64 ((n : Int) + 1))).run Tryz.prog w = .ok (.slice (some ⟨w.heap.size, 0, none⟩) (n + 1) (n + 1)) (w.alloc (.cells (List.replicate (n + 1) (.int .i64 0)).toArray 3)) := fun w => make_row1 (n + 1) (by omega) w
 have hw1 : IntKind.i64.wrap ((n : Int) + 1) = (n : Int) + 1 := by rw [IntKind.wrap_i64]; omega
 obtain ⟨rep, hrep⟩ : ∃ r, r = List.replicate (n + 1) (Value.int .i64 0) := ⟨_, rfl⟩
 rw [← hrep] at hmk
 have hrl : rep.length = n + 1 := by rw [hrep]; simp
 have Xh := hide h
 have XhF := hide hF
 have Xhn := hide hn
 have Xhrl := hide hrl
 have Xhrep := hide hrep
 have Xhcell := hide hcell
 clear h hF hn hrl hrep hcell
 go_enter Tryz.func77, Tryz.ntmps77
 go_wp2_with (refine wpList_copy_splice rfl (.tmp 10) (.tmp 11) 51 51 rfl 3 Tryz.underlying51 (by kernel_rfl) (some ⟨w.heap.size, 0, none⟩) A (n + 1) (n + 1) n c rfl rfl w.heap.size 0 rep 3 (Blk.new w 3 rep.toArray) (xs.map (Value.int .i64)) ?len ?cells ?fit ?ones w.heap.size w ((Below.refl _ _).alloc (Nat.le_refl _) _) (Nat.le_refl _) ?_)
 case len => rw [List.length_map, ← Xhn.out]; exact (Nat.min_eq_left (by omega)).symm
 case fit => rw [List.length_map, ← Xhn.out, Xhrl.out]; omega
 case ones => intro u hu; obtain ⟨x, _, rfl⟩ := List.mem_map.1 hu; rfl
 case cells =>
  intro hp
  (try rw [List.length_map] at hp)
  rw [← Xhn.out] at hp
  obtain ⟨b, off, rfl, hb, hcc⟩ := Xhcell.out hp
  (first | refine ⟨_, rfl, fun j v hj => ?_⟩ | refine ⟨rfl, _, rfl, fun j v hj => ?_⟩)
  have := (((Below.refl w.heap.size w).alloc (Nat.le_refl _) (.cells rep.toArray 3)).cell (p := ⟨b, off + j, none⟩) (XhF.out b hb)).trans (hcc j v hj)
  first | exact this | simpa [add_none] using this
 intro w2 hg2 hb2
 have hsp : splice rep 0 (xs.map (Value.int .i64)) = xs.map (Value.int .i64) ++ [Value.int .i64 0] := by
  unfold splice
  rw [Xhrep.out, List.length_map, ← Xhn.out]
  simp
 have k2 : Blk w2 w.heap.size 3 (xs.map (Value.int .i64) ++ [Value.int .i64 0]).toArray := by have := hg2.out; rw [hsp] at this; exact this
 have hlen : (xs.map (Value.int .i64)).length = n := by rw [List.length_map, ← Xhn.out]
 have c2 : w2.cell? ⟨w.heap.size, n, none⟩ = some (.int .i64 0) := by rw [k2.cell]; simp [hlen]
 have z2 := k2.frozen n
 have k3 := k2.put n (.int .i64 s)
 have e3 : (xs.map (Value.int .i64) ++ [Value.int .i64 0]).toArray.setIfInBounds n (.int .i64 s) = ((xs ++ [s]).map (Value.int .i64)).toArray := by
  apply Array.toList_inj.1
  simp [hlen, List.set_append]
 rw [e3] at k3
 have b3 : Below w.heap.size w (w2.setCell ⟨w.heap.size, n, none⟩ (.int .i64 s)) := hb2.setCell (p := ⟨w.heap.size, n, none⟩) (Nat.le_refl _) _
 have hrd : RdI (w2.setCell ⟨w.heap.size, n, none⟩ (.int .i64 s)) (fun b => b = w.heap.size) (.slice (some ⟨w.heap.size, 0, none⟩) (n + 1) (n + 1)) (xs ++ [s]) := Rd.of_blk k3 rfl (by simp [← Xhn.out]) (by unfold maxLen; omega)
 have hlt := k3.lt
 clear hmk hsp e3 hlen hg2 hb2 Xhcell
 have Xk2 := hide k2
 have Xk3 := hide k3
 have Xb3 := hide b3
 have Xhrd := hide hrd
 have Xhlt := hide hlt
 clear k2 k3 b3 hrd hlt
 go_wp2_with fail
 go_ret
 exact ⟨_, _, _, rfl, Xhrd.out, Nat.le_refl _, Xhlt.out, Xb3.out⟩
end
end
section
set_option linter.unusedSimpArgs false
section
open Go.RowKit
attribute [local irreducible] wpStill wpOne wpPh
theorem setCell_size' (w : World) (p : Addr) (v : Value) : (w.setCell p v).heap.size = w.heap.size := by simp [World.setCell]
structure WaysW (V : World) (F : Nat → Prop) (P n : Nat) (W : Wos) : Prop where
 len : W.length = n
 un : ∀ k : Nat, W[k]? = some none → V.cell? ⟨P, k, none⟩ = some (.slice none 0 0)
 row : ∀ (k : Nat) l, W[k]? = some (some l) → ∃ g off m c, V.cell? ⟨P, k, none⟩ = some (.slice (some ⟨g, off, none⟩) m c) ∧ RdI V F (.slice (some ⟨g, off, none⟩) m c) l
 frz : ∀ k : Nat, k < n → V.frozen? ⟨P, k, none⟩ = false
 lt : P < V.heap.size
theorem IsWords.touch {w w' : World} {F S' : Nat → Prop} {b g : Nat} {S : List FoundD} (h : IsWords w F b g S) (t : Touch S' w w') (hF : ∀ k, F k → ¬ S' k) (hb : ¬ S' b) (hg : ¬ S' g) : IsWords w' F b g S := by
 obtain ⟨cells, h1, h2, h3⟩ := h.row
 refine ⟨h.blk.touch t hb, ⟨cells, h1.touch t hg, h2, fun i x hx => ?_⟩, fun k hk => Nat.lt_of_lt_of_le (h.lt k hk) t.size, h.far, h.lens, h.size⟩
 obtain ⟨a, b, v, c, d⟩ := h3 i x hx
 exact ⟨a, b, v, c, d.touch t hF⟩
def WordsIn (V : World) (F : Nat → Prop) (pw : Value) (S : List FoundD) : Prop := ∃ b g Fw, pw = .pointer (some ⟨b, 0, none⟩) ∧ IsWords V Fw b g S ∧ (∀ k, Fw k → F k) ∧ F b ∧ F g
theorem WordsIn.touch {w w' : World} {F S' : Nat → Prop} {pw : Value} {S : List FoundD} (h : WordsIn w F pw S) (t : Touch S' w w') (hF : ∀ k, F k → ¬ S' k) : WordsIn w' F pw S := by
 obtain ⟨b, g, Fw, e, h1, h2, h3, h4⟩ := h
 exact ⟨b, g, Fw, e, h1.touch t (fun k hk => hF k (h2 k hk)) (hF b h3) (hF g h4), h2, h3, h4⟩
theorem WordsIn.mono {w : World} {F F' : Nat → Prop} {pw : Value} {S : List FoundD} (h : WordsIn w F pw S) (hF : ∀ k, F k → F' k) : WordsIn w F' pw S := by
 obtain ⟨b, g, Fw, e, h1, h2, h3, h4⟩ := h
 exact ⟨b, g, Fw, e, h1, fun k hk => hF k (h2 k hk), hF b h3, hF g h4⟩
structure RC (V : World) (F : Nat → Prop) (B R P n : Nat) (pw : Value) (S : List FoundD) (W : Wos) : Prop where
 wd : WordsIn V F pw S
 box : Blk V B 47 #[.pointer (some ⟨R, 0, none⟩)]
 st : Blk V R 107 #[.slice (some ⟨P, 0, none⟩) n n, pw]
 ways : WaysW V F P n W
 flt : ∀ b, F b → b < V.heap.size
 fp : ∀ b, F b → b ≠ P
 br : B ≠ P ∧ R ≠ P
section
variable {V V' : World} {F S' : Nat → Prop} {B R P n : Nat} {pw : Value} {S : List FoundD} {W : Wos}
theorem WaysW.touch (h : WaysW V F P n W) (t : Touch S' V V') (hF : ∀ b, F b → ¬ S' b) (hP : ¬ S' P) : WaysW V' F P n W :=
 ⟨h.len, fun k hk => t.cell (h.un k hk) hP, fun k l hk => by
  obtain ⟨g, off, m, c, h1, h2⟩ := h.row k l hk
  exact ⟨g, off, m, c, t.cell h1 hP, h2.touch t hF⟩, fun k hk => (World.frozen?_of_block (a := ⟨P, k, none⟩) (t.block P h.lt hP)).trans (h.frz k hk), Nat.lt_of_lt_of_le h.lt t.size⟩
theorem RC.touch (h : RC V F B R P n pw S W) (t : Touch S' V V') (hF : ∀ b, F b → ¬ S' b) (hP : ¬ S' P) (hB : ¬ S' B) (hR : ¬ S' R) : RC V' F B R P n pw S W :=
 ⟨h.wd.touch t hF, h.box.touch t hB, h.st.touch t hR, h.ways.touch t hF hP, fun b hb => Nat.lt_of_lt_of_le (h.flt b hb) t.size, h.fp, h.br⟩
theorem RC.below (h : RC V F B R P n pw S W) (b : Below V.heap.size V V') : RC V' F B R P n pw S W :=
 h.touch (S' := fun _ => False) (Touch.of_size b _) (fun _ _ h => h) id id id
theorem WaysW.put (h : WaysW V F P n W) {t : Nat} (ht : t < n) {l : List Int} {g off m c : Nat} {F' : Nat → Prop} (hr : RdI V F' (.slice (some ⟨g, off, none⟩) m c) l) (hF : ∀ b, F b → b ≠ P) (hF' : ∀ b, F' b → b ≠ P) : WaysW (V.setCell ⟨P, t, none⟩ (.slice (some ⟨g, off, none⟩) m c)) (fun b => F b ∨ F' b) P n (W.set t (some l)) := by
 have htW : t < W.length := by rw [h.len]; exact ht
 have tc : Touch (fun b => b = P) V (V.setCell ⟨P, t, none⟩ (.slice (some ⟨g, off, none⟩) m c)) := (Touch.refl (fun b => b = P) V).setCell (p := ⟨P, t, none⟩) (fun _ => rfl) _
 have other : ∀ k : Nat, k ≠ t → (V.setCell ⟨P, t, none⟩ (.slice (some ⟨g, off, none⟩) m c)).cell? ⟨P, k, none⟩ = V.cell? ⟨P, k, none⟩ := fun k hk => World.cell?_setCell_other _ _ _ _ (fun e => by injection e with _ e; exact hk e.symm)
 have self : (V.setCell ⟨P, t, none⟩ (.slice (some ⟨g, off, none⟩) m c)).cell? ⟨P, t, none⟩ = some (.slice (some ⟨g, off, none⟩) m c) := by
  refine World.cell?_setCell_same' _ _ _ ?_
  cases e : W[t]? with
  | none => rw [List.getElem?_eq_none_iff] at e; omega
  | some o =>
   cases o with
   | none => rw [h.un t e]; rfl
   | some l' => obtain ⟨g', o', m', c', h1, -⟩ := h.row t l' e; rw [h1]; rfl
 refine ⟨by rw [List.length_set]; exact h.len, fun k hk => ?_, fun k l' hk => ?_, fun k hk => by rw [World.frozen?_setCell]; exact h.frz k hk, by rw [setCell_size']; exact h.lt⟩
 ·by_cases e : k = t
  ·subst e; rw [List.getElem?_set_self htW] at hk; injection hk with hk; cases hk
  ·rw [List.getElem?_set_ne (fun e' => e e'.symm)] at hk
   rw [other k e]; exact h.un k hk
 ·by_cases e : k = t
  ·subst e
   rw [List.getElem?_set_self htW] at hk
   injection hk with hk
   injection hk with hk
   subst hk
   exact ⟨g, off, m, c, self, (hr.touch tc (fun b hb => hF' b hb)).mono (fun b hb => .inr hb)⟩
  ·rw [List.getElem?_set_ne (fun e' => e e'.symm)] at hk
   obtain ⟨g', o', m', c', h1, h2⟩ := h.row k l' hk
   exact ⟨g', o', m', c', by rw [other k e]; exact h1, (h2.touch tc (fun b hb => hF b hb)).mono (fun b hb => .inl hb)⟩
theorem RC.put (h : RC V F B R P n pw S W) {t : Nat} (ht : t < n) {l : List Int} {g off m c : Nat} {F' : Nat → Prop} (hr : RdI V F' (.slice (some ⟨g, off, none⟩) m c) l) (hF' : ∀ b, F' b → b ≠ P ∧ b < V.heap.size) : RC (V.setCell ⟨P, t, none⟩ (.slice (some ⟨g, off, none⟩) m c)) (fun b => F b ∨ F' b) B R P n pw S (W.set t (some l)) := by
 have tc : Touch (fun b => b = P) V (V.setCell ⟨P, t, none⟩ (.slice (some ⟨g, off, none⟩) m c)) := (Touch.refl (fun b => b = P) V).setCell (p := ⟨P, t, none⟩) (fun _ => rfl) _
 refine ⟨(h.wd.touch tc h.fp).mono (fun b hb => .inl hb), h.box.touch tc h.br.1, h.st.touch tc h.br.2, h.ways.put ht hr h.fp (fun b hb => (hF' b hb).1), fun b hb => ?_, fun b hb => ?_, h.br⟩
 ·rw [setCell_size']
  rcases hb with hb | hb
  ·exact h.flt b hb
  ·exact (hF' b hb).2
 ·rcases hb with hb | hb
  ·exact h.fp b hb
  ·exact (hF' b hb).1
theorem RC.cells (h : RC V F B R P n pw S W) : V.cell? ⟨B, 0, none⟩ = some (.pointer (some ⟨R, 0, none⟩)) ∧ V.cell? ⟨R, 0, none⟩ = some (.slice (some ⟨P, 0, none⟩) n n) ∧ V.cell? ⟨R, 1, none⟩ = some pw := ⟨(h.box.cell 0).trans rfl, (h.st.cell 0).trans rfl, (h.st.cell 1).trans rfl⟩
end
theorem Tryz.enters_ways : Enters Tryz.prog 79 := enters_of Tryz.func79 (by kernel_rfl) rfl
set_option maxRecDepth 100000 in
set_option maxHeartbeats 4000000 in
theorem way_clo {V : World} {F : Nat → Prop} {B R P n : Nat} {pw : Value} {S : List FoundD} {W : Wos} (h : RC V F B R P n pw S W) (hn : n ≤ 2000) {a b : Nat} {wa wb : List Int} (ha : W[a]? = some (some wa)) (hb : W[b]? = some (some wb)) (hl : wa.length = wb.length) :
  Calls Tryz.prog 79 #[.int .i64 (a : Int), .int .i64 (b : Int), .pointer (some ⟨B, 0, none⟩)] V fun e w' => e = .returned (.int .i64 (cmpL wa wb)) ∧ ∃ q, w' = V.drewN q := by
 obtain ⟨k0, k1, -⟩ := h.cells
 obtain ⟨g1, o1, m1, c1, e1, r1⟩ := h.ways.row a wa ha
 obtain ⟨g2, o2, m2, c2, e2, r2⟩ := h.ways.row b wb hb
 have ha' : a < n := by rw [← h.ways.len]; exact (List.getElem?_eq_some_iff.1 ha).1
 have hb' : b < n := by rw [← h.ways.len]; exact (List.getElem?_eq_some_iff.1 hb).1
 have ha2 : (a : Int) < (n : Int) := by omega
 have hb2 : (b : Int) < (n : Int) := by omega
 have dr := (Below.refl V.heap.size V).drew
 have cc := compare_ints2 (r1.below dr h.flt) (r2.below dr h.flt) hl
 generalize cmpL wa wb = r at *
 clear h ha hb
 have Xcc := hide cc
 have Xr1 := hide r1
 have Xr2 := hide r2
 have Xdr := hide dr
 clear cc r1 r2 dr
 go_enter Tryz.func79, Tryz.ntmps79
 go_wp2_with fail
 refine region_tail 14 (by kernel_rfl) (by kernel_rfl) ?_
 simp only [List.take_succ_cons, List.take_zero, List.drop_succ_cons, List.drop_zero]
 repeat still_step
 refine wpStill_nil ?_
 go_wp2_with fail
 with_reducible refine Xcc.out.mono ?_
 rintro e w' ⟨rfl, rfl⟩
 go_wp2_with fail
 go_ret
 exact ⟨rfl, 1, rfl⟩
end
section
open Go.RowKit Go.Shelf Go.Lib Go.Sort
theorem SomeW.key_inj {T : Nat} {D : Sts} (hD : DW T D) {W : Wos} (h : SomeW D W) {d : Nat} {x y : Int} (hx : OfLen W d x) (hy : OfLen W d y) (e : keyW T W x = keyW T W y) : x = y := by
 obtain ⟨a, wa, rfl, ha, -⟩ := hx
 obtain ⟨b, wb, rfl, hb, -⟩ := hy
 rw [keyW_at ha, keyW_at hb] at e
 have pa := h.path a wa ha
 have pb := h.path b wb hb
 have := nm_inj (pa.ok hD) (pb.ok hD) e
 subst this
 exact (pa.walk hD).symm.trans (pb.walk hD)
def cfN {α : Type} (key : α → Nat) (x y : α) : Int := cmpN (key x) (key y)
theorem lt_cfN {α : Type} (key : α → Nat) (x y : α) : ltOf (cfN key) x y = decide (key x < key y) := by
 unfold ltOf cfN cmpN
 by_cases h1 : key x < key y
 ·simp [h1]
 ·by_cases h2 : key y < key x
  ·simp [h1, h2]
  ·simp [h1, h2]
theorem swoN {α : Type} (key : α → Nat) : SWO (ltOf (cfN key)) where
 irrefl x := by rw [lt_cfN]; simp
 trans x y z h1 h2 := by rw [lt_cfN, decide_eq_true_eq] at *; omega
 ntrans x y z h1 h2 := by rw [lt_cfN, decide_eq_false_iff_not] at *; omega
theorem sort_touch1 {α : Type} [Inhabited α] (enc : α → Value) (w : World) (g n : Nat) (d : Array α) (os : Array Obj) : Touch (fun b => b = g) w (sortWorld enc w g 0 n d os) := by
 refine ⟨rfl, rfl, rfl, ?_, fun i hi hn => ?_⟩
 ·unfold sortWorld grow putRow mapBlock Sort.ahead
  simp
 ·unfold sortWorld grow putRow mapBlock Sort.ahead
  simp only
  rw [Array.getElem?_append_left (by simpa using hi), Array.getElem?_modify, if_neg (fun e => hn e.symm)]
theorem below_same {α : Type} [Inhabited α] (enc : α → Value) (w : World) (g n : Nat) (d : Array α) (os : Array Obj) (h : Holds enc w g 0 d) : Below w.heap.size w (sortWorld enc w g 0 n d os) := by
 have e : sortWorld enc w g 0 n d os = grow (Sort.ahead w n) os := by
  unfold sortWorld
  rw [putRow_self enc (Sort.ahead w n) g 0 d h]
 rw [e]
 refine ⟨rfl, rfl, rfl, ?_, fun i hi => ?_⟩
 ·unfold grow Sort.ahead
  simp
 ·unfold grow Sort.ahead
  simp only
  rw [Array.getElem?_append_left (by simpa using hi)]
set_option maxHeartbeats 1000000 in
theorem sort_ways {V : World} {F : Nat → Prop} {B R P n : Nat} {pw : Value} {S : List FoundD} {W : Wos} {T d : Nat} {D : Sts} (h : RC V F B R P n pw S W) (hn : n ≤ 2000) (hD : DW T D) (hsom : SomeW D W) {l : List Int} (hs : l.Pairwise (fun a b => keyW T W a < keyW T W b)) (hl : ∀ x ∈ l, OfLen W d x) {base : Nat} {v : Value} {m : Nat} (own : V.ownsRow base 3 1 v m (l.map (Value.int .i64))) (hm : m = l.length) (hm2 : m ≤ 2000) (hap : ∀ g, v.ownBlock = some g → ¬ F g ∧ g ≠ B ∧ g ≠ R ∧ g ≠ P) :
  Calls Tryz.prog 78 #[v, .func (.func 79) #[] #[.pointer (some ⟨B, 0, none⟩)]] V fun e w' => e = .returned (.tuple #[]) ∧ Below V.heap.size V w' := by
 obtain ⟨A, c, rfl, hnc, hcm⟩ := ownsRow_shape own
 by_cases h0 : l = []
 ·subst h0
  have hm0 : m = 0 := by simpa using hm
  subst hm0
  have := AnyF.slices_SortFunc_none { Tryz.sortInt with } A c (.func (.func 79) #[] #[.pointer (some ⟨B, 0, none⟩)]) V
  refine Calls.mono this ?_
  rintro e w' ⟨he, rfl⟩
  exact ⟨he, Below.refl _ _⟩
 ·obtain ⟨x0, hx0⟩ := List.exists_mem_of_ne_nil l h0
  have hpos : 0 < l.length := List.length_pos_of_mem hx0
  have hg : ∃ (g : Nat) (cur : Array Value), A = some ⟨g, 0, none⟩ ∧ base ≤ g ∧ V.heap[g]? = some (.cells cur 3 (0, 0)) ∧ cur.toList.take (l.length) = l.map (Value.int .i64) := by
   rcases own.2 with ⟨h1, -⟩ | ⟨g', cap, cur, h1, hb, hh, hnn, hc, hz, ht⟩
   ·injection h1 with _ h1 _; omega
   ·injection h1 with h1 _ _
    exact ⟨g', cur, h1, hb, hh, by rw [Nat.mul_one, hm] at ht; exact ht⟩
  obtain ⟨g, cur, rfl, -, hh, ht⟩ := hg
  obtain ⟨a1, a2, a3, a4⟩ := hap g rfl
  let α := {x : Int // OfLen W d x}
  letI : Inhabited α := ⟨⟨x0, hl x0 hx0⟩⟩
  let enc : α → Value := fun x => .int .i64 x.1
  let key : α → Nat := fun x => keyW T W x.1
  obtain ⟨dl, hdl⟩ : ∃ dl : List α, dl.map Subtype.val = l := ⟨l.attach.map (fun x => ⟨x.1, hl x.1 x.2⟩), by rw [List.map_map]; exact List.attach_map_subtype_val l⟩
  have hdlen : dl.length = l.length := by rw [← hdl, List.length_map]
  have hH : Holds enc V g 0 dl.toArray := by
   intro j hj
   have hj' : j < dl.length := by simpa using hj
   have e1 : dl.toArray[j]! = dl[j] := by simp [hj']
   have e2 : l[j]? = some (dl[j]).1 := by rw [← hdl, List.getElem?_map, List.getElem?_eq_getElem hj']; rfl
   rw [e1, Nat.zero_add]
   constructor
   ·rw [cell_of_row V g j cur 3 (0, 0) hh]
    have e3 : (l.map (Value.int .i64))[j]? = some (enc dl[j]) := by rw [List.getElem?_map, e2]; rfl
    rw [← ht, List.getElem?_take] at e3
    split at e3
    ·simpa using e3
    ·cases e3
   ·unfold World.frozen?
    rw [hh]
    simp
  have hcmp : CmpLays1 Tryz.prog 79 #[.pointer (some ⟨B, 0, none⟩)] enc (cfN key) g 0 dl.toArray.size V := by
   intro q os dk _ x y
   obtain ⟨x, a, wa, rfl, ha, hla⟩ := x
   obtain ⟨y, b, wb, rfl, hb, hlb⟩ := y
   have tt := sort_touch1 enc V g q dk os
   have h2 := h.touch tt (fun z hz e => a1 (e ▸ hz)) (fun e => a4 e.symm) (fun e => a2 e.symm) (fun e => a3 e.symm)
   have := way_clo h2 hn ha hb (by omega)
   refine Calls.mono this ?_
   rintro e w' ⟨he, k, rfl⟩
   have hval : cmpL wa wb = cfN key ⟨(a : Int), a, wa, rfl, ha, hla⟩ ⟨(b : Int), b, wb, rfl, hb, hlb⟩ := by
    unfold cfN
    rw [cmpL_nm ((hsom.path a wa ha).ok hD) ((hsom.path b wb hb).ok hD) (by omega)]
    show cmpN _ _ = cmpN (keyW T W (a : Int)) (keyW T W (b : Int))
    rw [keyW_at ha, keyW_at hb]
   exact ⟨by rw [he, hval], k, #[], by rw [grow_empty]⟩
  have eg : ∀ args w, (callFunc 79 args).run Tryz.prog w = .ok (.enter 79 args) w := enters_of Tryz.func79 (by kernel_rfl) rfl
  have hlt : g < V.heap.size := (Array.getElem?_eq_some_iff.1 hh).1
  have main := Any.slices_SortFunc_total Tryz.sortInt enc (fun _ => rfl) (cfN key) (swoN key) 79 #[.pointer (some ⟨B, 0, none⟩)] g 0 c dl.toArray V eg hcmp hH hlt (by simp; omega) (fun x y e1 e2 => by
   rw [lt_cfN, decide_eq_false_iff_not] at e1 e2
   exact Subtype.ext (hsom.key_inj hD x.2 y.2 (show key x = key y by omega)))
  have hsz : dl.toArray.size = m := by rw [hm, ← hdlen]; simp
  rw [hsz] at main
  refine Calls.mono main ?_
  rintro e w' ⟨he, q, os, hw⟩
  refine ⟨he, ?_⟩
  have hp : dl.Pairwise (fun x y => (!(ltOf (cfN key)) y x) = true) := by
   rw [← hdl, List.pairwise_map] at hs
   refine List.Pairwise.imp (fun {x y} hxy => ?_) hs
   rw [lt_cfN, Bool.not_eq_true', decide_eq_false_iff_not]
   show ¬ keyW T W y.1 < keyW T W x.1
   omega
  have e1 : (dl.toArray.toList.mergeSort fun x y => !(ltOf (cfN key)) y x) = dl := List.mergeSort_of_pairwise hp
  rw [hw, e1]
  exact below_same enc V g q dl.toArray os hH
end
end
end Go.Proofs.YtlpokomfljmogaaGreat

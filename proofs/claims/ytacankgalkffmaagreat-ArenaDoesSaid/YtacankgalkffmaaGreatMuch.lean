/- How many names, bytes, rules and symbols there are: no name is longer than that tells. -/
import Derived.Test.YtacankgalkffmaaGreatG7
namespace Go.Proofs.YtacankgalkffmaaGreat
set_option linter.unusedVariables false
set_option linter.unusedSimpArgs false
open Go.RowKit
def SzB (l : List ByteArray) (k : Nat) (a : Int) : Prop := ∀ j, j < k → ∀ s, l[j]? = some s → (s.size : Int) ≤ 20 * a + 19
theorem SzB.zero (l : List ByteArray) (a : Int) : SzB l 0 a := fun j hj => absurd hj (by omega)
theorem SzB.mono {l : List ByteArray} {k : Nat} {a b : Int} (h : SzB l k a) (hab : a ≤ b) : SzB l k b := fun j hj s hs => by have := h j hj s hs; omega
theorem SzB.step {l : List ByteArray} {k : Nat} {a : Int} {x : ByteArray} (h : SzB l k a) (hx : l[k]? = some x) (ha : 0 ≤ a := by omega) : SzB l (k + 1) (a + (x.size : Int) / 20) := fun j hj s hs => by
 by_cases e : j = k
 ·subst e
  rw [hx] at hs
  injection hs with hs
  subst hs
  omega
 ·have := h j (by omega) s hs
  omega
theorem SzB.all {l : List ByteArray} {k : Nat} {a : Int} (h : SzB l k a) (hk : 200 ≤ k ∨ l.length ≤ k) : SzB l 200 a := fun j hj s hs => by
 have := (List.getElem?_eq_some_iff.1 hs).1
 exact h j (by omega) s hs
def MuchS (G : GramD) (w : World) (e : Ending) (w' : World) : Prop := ∃ r : Int, ((G.terms.length + G.nons.length + G.rules.length : Nat) : Int) ≤ r ∧ SzB G.terms 200 r ∧ SzB G.nons 200 r ∧ e = .returned (.int .i64 r) ∧ Below w.heap.size w w'
set_option maxRecDepth 100000 in
set_option maxHeartbeats 2000000 in
theorem law_muchS {w : World} {F : Nat → Prop} {vt vn vr : Value} {G : GramD} (h : IsGram w F vt vn vr G) (st : Int) :
  Calls Tryz.prog 4 #[GV vt vn vr st] w (MuchS G w) := by
 obtain ⟨A1, c1, A2, c2, A3, c3, rfl, rfl, rfl, -⟩ := h.slices
 have g := GBox.new h st
 have hb0 : Below w.heap.size w (w.alloc (.cells #[.slice A1 G.terms.length c1, .slice A2 G.nons.length c2, .slice A3 G.rules.length c3, .int .i64 st] 26)) := (Below.refl _ w).alloc (Nat.le_refl _) _
 generalize hT : G.terms.length = T at *
 generalize hN : G.nons.length = N at *
 generalize hR : G.rules.length = R at *
 have t0 := g.ts
 have t1 := g.tc
 have t2 := g.c1m
 have n0 := g.ns
 have n1 := g.nc
 have n2 := g.c2m
 have r0 := g.rs
 have r1 := g.rc
 have r2 := g.c3m
 obtain ⟨q0, q1, q2, q3⟩ := g.cells
 have hrl := g.gram.wfs
 have hre := g.gram.reach
 have hterm := fun (k : Nat) (hk : k < T) => g.term hk
 have hnon := fun (k : Nat) (hk : k < N) => g.non hk
 have hrule := fun (k : Nat) (hk : k < R) => g.rule hk
 clear h
 have XhT := hide hT
 have XhN := hide hN
 have XhR := hide hR
 have Xg := hide g
 have Xhrl := hide hrl
 have Xhre := hide hre
 have Xhterm := hide hterm
 have Xhnon := hide hnon
 have Xhrule := hide hrule
 have Xhb0 := hide hb0
 clear hT hN hR g hrl hre hterm hnon hrule hb0
 go_enter Tryz.func4, Tryz.ntmps4
 go_wp2_with fail
 go_loop [3, 4] (fun n i => ∃ (k : Nat) (a : Int), k ≤ T ∧ k ≤ 200 ∧ i = .int .i64 k ∧ n = .int .i64 a ∧ (T : Int) + N + R ≤ a ∧ SzB G.terms k a ∧ a ≤ 26388279066621 + 7036874417762 * (k : Int)) (fun _ i => T - (intOf i).toNat)
 case atStart => exact ⟨0, _, Nat.zero_le _, Nat.zero_le _, rfl, rfl, by omega, SzB.zero _ _, by omega⟩
 case round =>
  obtain ⟨k, a, hk, hk2, rfl, rfl, ha1, hsz, ha2⟩ := hrel
  have Xhsz := hide hsz
  clear hsz
  by_cases hlt : k < T ∧ k < 200
  ·obtain ⟨l1, l2⟩ := hlt
   obtain ⟨b, off, x, rfl, hbl, hx, hxs, hc⟩ := Xhterm.out k l1
   have hs := Xhre.out.1 x (List.mem_of_getElem? hx)
   have l1' : (k : Int) < (T : Int) := by omega
   have l2' : (k : Int) < 200 := by omega
   have Xhx := hide hx
   have Xhxs := hide hxs
   clear hx hxs
   go_wp2_with fail
   go_round
   case rel => exact ⟨k + 1, _, by omega, by omega, by go_num, rfl, by omega, Xhsz.out.step Xhx.out, by omega⟩
   case measure => simp [intOf]; omega
  ·by_cases l1 : k < T
   ·have l2 : ¬ k < 200 := fun e => hlt ⟨l1, e⟩
    have l1' : (k : Int) < (T : Int) := by omega
    have l2' : ¬ (k : Int) < 200 := by omega
    clear hlt
    go_wp2_with fail
    have pT := Xhsz.out.all (by have := XhT.out; omega)
    obtain ⟨a2, ha2q⟩ : ∃ a2, a2 = a := ⟨_, rfl⟩
    subst ha2q
    have XpT := hide pT
    clear pT
    go_loop [3, 5] (fun n i => ∃ (k : Nat) (a : Int), k ≤ N ∧ k ≤ 200 ∧ i = .int .i64 k ∧ n = .int .i64 a ∧ (T : Int) + N + R ≤ a ∧ a2 ≤ a ∧ SzB G.nons k a ∧ a ≤ 1433763330619021 + 7036874417762 * (k : Int)) (fun _ i => N - (intOf i).toNat)
    case atStart => exact ⟨0, _, Nat.zero_le _, Nat.zero_le _, rfl, rfl, by omega, Int.le_refl _, SzB.zero _ _, by omega⟩
    case round =>
     obtain ⟨k, a, hk, hk2, rfl, rfl, ha1, ha0, hsz, ha2⟩ := hrel
     have Xhsz := hide hsz
     clear hsz
     by_cases l1 : k < N
     ·by_cases l2 : k < 200
      ·obtain ⟨b, off, x, rfl, hbl, hx, hxs, hc⟩ := Xhnon.out k l1
       have hs := Xhre.out.2 x (List.mem_of_getElem? hx)
       have l1' : (k : Int) < (N : Int) := by omega
       have l2' : (k : Int) < 200 := by omega
       have Xhx := hide hx
       have Xhxs := hide hxs
       clear hx hxs
       go_wp2_with fail
       go_round
       case rel => exact ⟨k + 1, _, by omega, by omega, by go_num, rfl, by omega, by omega, Xhsz.out.step Xhx.out, by omega⟩
       case measure => simp [intOf]; omega
      ·have l1' : (k : Int) < (N : Int) := by omega
       have l2' : ¬ (k : Int) < 200 := by omega
       go_wp2_with fail
       have qT := XpT.out.mono (show a2 ≤ a from ha0)
       have qN := Xhsz.out.all (by have := XhN.out; omega)
       obtain ⟨a3, ha3⟩ : ∃ a3, a3 = a := ⟨_, rfl⟩
       subst ha3
       have XqT := hide qT
       have XqN := hide qN
       clear qT qN
       go_loop [3, 6] (fun n i => ∃ (k : Nat) (a : Int), a3 ≤ a ∧ k ≤ R ∧ k ≤ 400 ∧ i = .int .i64 k ∧ n = .int .i64 a ∧ (T : Int) + N + R ≤ a ∧ a ≤ 2841138214171421 + 1954687338269 * (k : Int)) (fun _ i => R - (intOf i).toNat)
       case atStart => exact ⟨0, _, Int.le_refl _, Nat.zero_le _, Nat.zero_le _, rfl, rfl, by omega, by omega⟩
       case round =>
        obtain ⟨k, a, ha0, hk, hk2, rfl, rfl, ha1, ha2⟩ := hrel
        by_cases l1 : k < R
        ·by_cases l2 : k < 400
         ·obtain ⟨b, off, l, x, A, n, c, rfl, hbl, hx, h0, h1, hr, hn, hnc, hcm⟩ := Xhrule.out k l1
          have hs := (Xhrl.out _ (List.mem_of_getElem? hx)).2.1
          have hs2 : n ≤ 17592186044416 := by rw [hn]; exact hs
          have l1' : (k : Int) < (R : Int) := by omega
          have l2' : (k : Int) < 400 := by omega
          have Xhx := hide hx
          have Xhr := hide hr
          have Xhn := hide hn
          have Xhs := hide hs
          clear hx hr hn hs
          go_wp2_with fail
          go_round
          case rel => exact ⟨k + 1, _, by omega, by omega, by omega, by go_num, rfl, by omega, by omega⟩
          case measure => simp [intOf]; omega
         ·have l1' : (k : Int) < (R : Int) := by omega
          have l2' : ¬ (k : Int) < 400 := by omega
          go_wp2_with fail
          go_ret
          exact ⟨a, by have := XhT.out; have := XhN.out; have := XhR.out; omega, XqT.out.mono (by omega), XqN.out.mono (by omega), rfl, Xhb0.out⟩
        ·have l1' : ¬ (k : Int) < (R : Int) := by omega
         go_wp2_with fail
         go_ret
         exact ⟨a, by have := XhT.out; have := XhN.out; have := XhR.out; omega, XqT.out.mono (by omega), XqN.out.mono (by omega), rfl, Xhb0.out⟩
     ·have l1' : ¬ (k : Int) < (N : Int) := by omega
      go_wp2_with fail
      have qT := XpT.out.mono (show a2 ≤ a from ha0)
      have qN := Xhsz.out.all (by have := XhN.out; omega)
      obtain ⟨a3, ha3⟩ : ∃ a3, a3 = a := ⟨_, rfl⟩
      subst ha3
      have XqT := hide qT
      have XqN := hide qN
      clear qT qN
      go_loop [3, 6] (fun n i => ∃ (k : Nat) (a : Int), a3 ≤ a ∧ k ≤ R ∧ k ≤ 400 ∧ i = .int .i64 k ∧ n = .int .i64 a ∧ (T : Int) + N + R ≤ a ∧ a ≤ 2841138214171421 + 1954687338269 * (k : Int)) (fun _ i => R - (intOf i).toNat)
      case atStart => exact ⟨0, _, Int.le_refl _, Nat.zero_le _, Nat.zero_le _, rfl, rfl, by omega, by omega⟩
      case round =>
       obtain ⟨k, a, ha0, hk, hk2, rfl, rfl, ha1, ha2⟩ := hrel
       by_cases l1 : k < R
       ·by_cases l2 : k < 400
        ·obtain ⟨b, off, l, x, A, n, c, rfl, hbl, hx, h0, h1, hr, hn, hnc, hcm⟩ := Xhrule.out k l1
         have hs := (Xhrl.out _ (List.mem_of_getElem? hx)).2.1
         have hs2 : n ≤ 17592186044416 := by rw [hn]; exact hs
         have l1' : (k : Int) < (R : Int) := by omega
         have l2' : (k : Int) < 400 := by omega
         have Xhx := hide hx
         have Xhr := hide hr
         have Xhn := hide hn
         have Xhs := hide hs
         clear hx hr hn hs
         go_wp2_with fail
         go_round
         case rel => exact ⟨k + 1, _, by omega, by omega, by omega, by go_num, rfl, by omega, by omega⟩
         case measure => simp [intOf]; omega
        ·have l1' : (k : Int) < (R : Int) := by omega
         have l2' : ¬ (k : Int) < 400 := by omega
         go_wp2_with fail
         go_ret
         exact ⟨a, by have := XhT.out; have := XhN.out; have := XhR.out; omega, XqT.out.mono (by omega), XqN.out.mono (by omega), rfl, Xhb0.out⟩
       ·have l1' : ¬ (k : Int) < (R : Int) := by omega
        go_wp2_with fail
        go_ret
        exact ⟨a, by have := XhT.out; have := XhN.out; have := XhR.out; omega, XqT.out.mono (by omega), XqN.out.mono (by omega), rfl, Xhb0.out⟩
   ·have l1' : ¬ (k : Int) < (T : Int) := by omega
    clear hlt
    go_wp2_with fail
    have pT := Xhsz.out.all (by have := XhT.out; omega)
    obtain ⟨a2, ha2q⟩ : ∃ a2, a2 = a := ⟨_, rfl⟩
    subst ha2q
    have XpT := hide pT
    clear pT
    go_loop [3, 5] (fun n i => ∃ (k : Nat) (a : Int), k ≤ N ∧ k ≤ 200 ∧ i = .int .i64 k ∧ n = .int .i64 a ∧ (T : Int) + N + R ≤ a ∧ a2 ≤ a ∧ SzB G.nons k a ∧ a ≤ 1433763330619021 + 7036874417762 * (k : Int)) (fun _ i => N - (intOf i).toNat)
    case atStart => exact ⟨0, _, Nat.zero_le _, Nat.zero_le _, rfl, rfl, by omega, Int.le_refl _, SzB.zero _ _, by omega⟩
    case round =>
     obtain ⟨k, a, hk, hk2, rfl, rfl, ha1, ha0, hsz, ha2⟩ := hrel
     have Xhsz := hide hsz
     clear hsz
     by_cases l1 : k < N
     ·by_cases l2 : k < 200
      ·obtain ⟨b, off, x, rfl, hbl, hx, hxs, hc⟩ := Xhnon.out k l1
       have hs := Xhre.out.2 x (List.mem_of_getElem? hx)
       have l1' : (k : Int) < (N : Int) := by omega
       have l2' : (k : Int) < 200 := by omega
       have Xhx := hide hx
       have Xhxs := hide hxs
       clear hx hxs
       go_wp2_with fail
       go_round
       case rel => exact ⟨k + 1, _, by omega, by omega, by go_num, rfl, by omega, by omega, Xhsz.out.step Xhx.out, by omega⟩
       case measure => simp [intOf]; omega
      ·have l1' : (k : Int) < (N : Int) := by omega
       have l2' : ¬ (k : Int) < 200 := by omega
       go_wp2_with fail
       have qT := XpT.out.mono (show a2 ≤ a from ha0)
       have qN := Xhsz.out.all (by have := XhN.out; omega)
       obtain ⟨a3, ha3⟩ : ∃ a3, a3 = a := ⟨_, rfl⟩
       subst ha3
       have XqT := hide qT
       have XqN := hide qN
       clear qT qN
       go_loop [3, 6] (fun n i => ∃ (k : Nat) (a : Int), a3 ≤ a ∧ k ≤ R ∧ k ≤ 400 ∧ i = .int .i64 k ∧ n = .int .i64 a ∧ (T : Int) + N + R ≤ a ∧ a ≤ 2841138214171421 + 1954687338269 * (k : Int)) (fun _ i => R - (intOf i).toNat)
       case atStart => exact ⟨0, _, Int.le_refl _, Nat.zero_le _, Nat.zero_le _, rfl, rfl, by omega, by omega⟩
       case round =>
        obtain ⟨k, a, ha0, hk, hk2, rfl, rfl, ha1, ha2⟩ := hrel
        by_cases l1 : k < R
        ·by_cases l2 : k < 400
         ·obtain ⟨b, off, l, x, A, n, c, rfl, hbl, hx, h0, h1, hr, hn, hnc, hcm⟩ := Xhrule.out k l1
          have hs := (Xhrl.out _ (List.mem_of_getElem? hx)).2.1
          have hs2 : n ≤ 17592186044416 := by rw [hn]; exact hs
          have l1' : (k : Int) < (R : Int) := by omega
          have l2' : (k : Int) < 400 := by omega
          have Xhx := hide hx
          have Xhr := hide hr
          have Xhn := hide hn
          have Xhs := hide hs
          clear hx hr hn hs
          go_wp2_with fail
          go_round
          case rel => exact ⟨k + 1, _, by omega, by omega, by omega, by go_num, rfl, by omega, by omega⟩
          case measure => simp [intOf]; omega
         ·have l1' : (k : Int) < (R : Int) := by omega
          have l2' : ¬ (k : Int) < 400 := by omega
          go_wp2_with fail
          go_ret
          exact ⟨a, by have := XhT.out; have := XhN.out; have := XhR.out; omega, XqT.out.mono (by omega), XqN.out.mono (by omega), rfl, Xhb0.out⟩
        ·have l1' : ¬ (k : Int) < (R : Int) := by omega
         go_wp2_with fail
         go_ret
         exact ⟨a, by have := XhT.out; have := XhN.out; have := XhR.out; omega, XqT.out.mono (by omega), XqN.out.mono (by omega), rfl, Xhb0.out⟩
     ·have l1' : ¬ (k : Int) < (N : Int) := by omega
      go_wp2_with fail
      have qT := XpT.out.mono (show a2 ≤ a from ha0)
      have qN := Xhsz.out.all (by have := XhN.out; omega)
      obtain ⟨a3, ha3⟩ : ∃ a3, a3 = a := ⟨_, rfl⟩
      subst ha3
      have XqT := hide qT
      have XqN := hide qN
      clear qT qN
      go_loop [3, 6] (fun n i => ∃ (k : Nat) (a : Int), a3 ≤ a ∧ k ≤ R ∧ k ≤ 400 ∧ i = .int .i64 k ∧ n = .int .i64 a ∧ (T : Int) + N + R ≤ a ∧ a ≤ 2841138214171421 + 1954687338269 * (k : Int)) (fun _ i => R - (intOf i).toNat)
      case atStart => exact ⟨0, _, Int.le_refl _, Nat.zero_le _, Nat.zero_le _, rfl, rfl, by omega, by omega⟩
      case round =>
       obtain ⟨k, a, ha0, hk, hk2, rfl, rfl, ha1, ha2⟩ := hrel
       by_cases l1 : k < R
       ·by_cases l2 : k < 400
        ·obtain ⟨b, off, l, x, A, n, c, rfl, hbl, hx, h0, h1, hr, hn, hnc, hcm⟩ := Xhrule.out k l1
         have hs := (Xhrl.out _ (List.mem_of_getElem? hx)).2.1
         have hs2 : n ≤ 17592186044416 := by rw [hn]; exact hs
         have l1' : (k : Int) < (R : Int) := by omega
         have l2' : (k : Int) < 400 := by omega
         have Xhx := hide hx
         have Xhr := hide hr
         have Xhn := hide hn
         have Xhs := hide hs
         clear hx hr hn hs
         go_wp2_with fail
         go_round
         case rel => exact ⟨k + 1, _, by omega, by omega, by omega, by go_num, rfl, by omega, by omega⟩
         case measure => simp [intOf]; omega
        ·have l1' : (k : Int) < (R : Int) := by omega
         have l2' : ¬ (k : Int) < 400 := by omega
         go_wp2_with fail
         go_ret
         exact ⟨a, by have := XhT.out; have := XhN.out; have := XhR.out; omega, XqT.out.mono (by omega), XqN.out.mono (by omega), rfl, Xhb0.out⟩
       ·have l1' : ¬ (k : Int) < (R : Int) := by omega
        go_wp2_with fail
        go_ret
        exact ⟨a, by have := XhT.out; have := XhN.out; have := XhR.out; omega, XqT.out.mono (by omega), XqN.out.mono (by omega), rfl, Xhb0.out⟩
theorem toList_size (s : ByteArray) : s.toList.length = s.size := by rw [ByteArray.toList_eq, Array.length_toList]; rfl
theorem names_short {G : GramD} {r : Int} (h : ((G.terms.length + G.nons.length + G.rules.length : Nat) : Int) ≤ r) (hr : r ≤ 60) (h1 : SzB G.terms 200 r) (h2 : SzB G.nons 200 r) : ∀ s, (nameOf G s).toList.length ≤ 10000 := by
 intro s
 rw [toList_size]
 unfold nameOf
 split
 ·decide
 ·split
  ·rcases e : (G.terms ++ G.nons)[(s - 1).toNat]? with _ | x
   ·exact Nat.zero_le _
   ·show x.size ≤ 10000
    rcases List.mem_append.1 (List.mem_of_getElem? e) with hx | hx
    ·obtain ⟨j, hj⟩ := List.mem_iff_getElem?.1 hx
     have := h1 j (by have := (List.getElem?_eq_some_iff.1 hj).1; omega) x hj
     omega
    ·obtain ⟨j, hj⟩ := List.mem_iff_getElem?.1 hx
     have := h2 j (by have := (List.getElem?_eq_some_iff.1 hj).1; omega) x hj
     omega
  ·exact Nat.zero_le _
end Go.Proofs.YtacankgalkffmaaGreat

/- How much there is: conchlaw06.Much. -/
import Derived.Test.YtejjaabkbkkjlaaGram27
namespace Go.Proofs.Ytejjaabkbkkjlaa
set_option linter.unusedVariables false
open Go.RowKit

def MuchPost (lo : Nat) (w : World) (e : Ending) (w' : World) : Prop := ∃ r : Int, (lo : Int) ≤ r ∧ e = .returned (.int .i64 r) ∧ Below w.heap.size w w'

set_option maxRecDepth 100000 in
set_option maxHeartbeats 2000000 in
theorem law_much {w : World} {F : Nat → Prop} {vt vn vr : Value} {G : GramD} (h : IsGram w F vt vn vr G) (st : Int) :
    Calls Try.prog 16 #[GV vt vn vr st] w (MuchPost (G.terms.length + G.nons.length + G.rules.length) w) := by
  obtain ⟨A1, c1, A2, c2, A3, c3, rfl, rfl, rfl, -⟩ := h.slices
  have g := GBox.new h st
  have hb0 : Below w.heap.size w (w.alloc (.cells #[.slice A1 G.terms.length c1, .slice A2 G.nons.length c2, .slice A3 G.rules.length c3, .int .i64 st] 25)) := (Below.refl _ w).alloc (Nat.le_refl _) _
  generalize hT : G.terms.length = T at *
  generalize hN : G.nons.length = N at *
  generalize hR : G.rules.length = R at *
  have t0 := g.ts
  have t1 := g.tc
  have t2 := g.c1m
  have n0 := g.ns
  have n1 := g.nc
  have n2 := g.c2m
  have r0 := g.rs
  have r1 := g.rc
  have r2 := g.c3m
  obtain ⟨q0, q1, q2, q3⟩ := g.cells
  have hrl := g.gram.wfs
  have hre := g.gram.reach
  have hterm := fun (k : Nat) (hk : k < T) => g.term hk
  have hnon := fun (k : Nat) (hk : k < N) => g.non hk
  have hrule := fun (k : Nat) (hk : k < R) => g.rule hk
  clear h
  have XhT := hide hT
  have XhN := hide hN
  have XhR := hide hR
  have Xg := hide g
  have Xhrl := hide hrl
  have Xhre := hide hre
  have Xhterm := hide hterm
  have Xhnon := hide hnon
  have Xhrule := hide hrule
  have Xhb0 := hide hb0
  clear hT hN hR g hrl hre hterm hnon hrule hb0
  go_enter Try.func16, Try.ntmps16
  go_wp2_with fail
  go_loop [3, 4] (fun n i => ∃ (k : Nat) (a : Int), k ≤ T ∧ k ≤ 200 ∧ i = .int .i64 k ∧ n = .int .i64 a ∧ (T : Int) + N + R ≤ a ∧ a ≤ 26388279066621 + 7036874417762 * (k : Int)) (fun _ i => T - (intOf i).toNat)
  case atStart => exact ⟨0, _, Nat.zero_le _, Nat.zero_le _, rfl, rfl, by omega, by omega⟩
  case round =>
    obtain ⟨k, a, hk, hk2, rfl, rfl, ha1, ha2⟩ := hrel
    by_cases hlt : k < T ∧ k < 200
    · obtain ⟨l1, l2⟩ := hlt
      obtain ⟨b, off, x, rfl, hbl, hx, hxs, hc⟩ := Xhterm.out k l1
      have hs := Xhre.out.1 x (List.mem_of_getElem? hx)
      have l1' : (k : Int) < (T : Int) := by omega
      have l2' : (k : Int) < 200 := by omega
      have Xhx := hide hx
      have Xhxs := hide hxs
      clear hx hxs
      go_wp2_with fail
      go_round
      case rel => exact ⟨k + 1, _, by omega, by omega, by go_num, rfl, by omega, by omega⟩
      case measure => simp [intOf]; omega
    · by_cases l1 : k < T
      · have l2 : ¬ k < 200 := fun e => hlt ⟨l1, e⟩
        have l1' : (k : Int) < (T : Int) := by omega
        have l2' : ¬ (k : Int) < 200 := by omega
        clear hlt
        go_wp2_with fail
        go_loop [3, 5] (fun n i => ∃ (k : Nat) (a : Int), k ≤ N ∧ k ≤ 200 ∧ i = .int .i64 k ∧ n = .int .i64 a ∧ (T : Int) + N + R ≤ a ∧ a ≤ 1433763330619021 + 7036874417762 * (k : Int)) (fun _ i => N - (intOf i).toNat)
        case atStart => exact ⟨0, _, Nat.zero_le _, Nat.zero_le _, rfl, rfl, by omega, by omega⟩
        case round =>
          obtain ⟨k, a, hk, hk2, rfl, rfl, ha1, ha2⟩ := hrel
          by_cases l1 : k < N
          · by_cases l2 : k < 200
            · obtain ⟨b, off, x, rfl, hbl, hx, hxs, hc⟩ := Xhnon.out k l1
              have hs := Xhre.out.2 x (List.mem_of_getElem? hx)
              have l1' : (k : Int) < (N : Int) := by omega
              have l2' : (k : Int) < 200 := by omega
              have Xhx := hide hx
              have Xhxs := hide hxs
              clear hx hxs
              go_wp2_with fail
              go_round
              case rel => exact ⟨k + 1, _, by omega, by omega, by go_num, rfl, by omega, by omega⟩
              case measure => simp [intOf]; omega
            · have l1' : (k : Int) < (N : Int) := by omega
              have l2' : ¬ (k : Int) < 200 := by omega
              go_wp2_with fail
              go_loop [3, 6] (fun n i => ∃ (k : Nat) (a : Int), k ≤ R ∧ k ≤ 400 ∧ i = .int .i64 k ∧ n = .int .i64 a ∧ (T : Int) + N + R ≤ a ∧ a ≤ 2841138214171421 + 1954687338269 * (k : Int)) (fun _ i => R - (intOf i).toNat)
              case atStart => exact ⟨0, _, Nat.zero_le _, Nat.zero_le _, rfl, rfl, by omega, by omega⟩
              case round =>
                obtain ⟨k, a, hk, hk2, rfl, rfl, ha1, ha2⟩ := hrel
                by_cases l1 : k < R
                · by_cases l2 : k < 400
                  · obtain ⟨b, off, l, x, A, n, c, rfl, hbl, hx, h0, h1, hr, hn, hnc, hcm⟩ := Xhrule.out k l1
                    have hs := (Xhrl.out _ (List.mem_of_getElem? hx)).2.1
                    have hs2 : n ≤ 17592186044416 := by rw [hn]; exact hs
                    have l1' : (k : Int) < (R : Int) := by omega
                    have l2' : (k : Int) < 400 := by omega
                    have Xhx := hide hx
                    have Xhr := hide hr
                    have Xhn := hide hn
                    have Xhs := hide hs
                    clear hx hr hn hs
                    go_wp2_with fail
                    go_round
                    case rel => exact ⟨k + 1, _, by omega, by omega, by go_num, rfl, by omega, by omega⟩
                    case measure => simp [intOf]; omega
                  · have l1' : (k : Int) < (R : Int) := by omega
                    have l2' : ¬ (k : Int) < 400 := by omega
                    go_wp2_with fail
                    go_ret
                    exact ⟨a, by omega, rfl, Xhb0.out⟩
                · have l1' : ¬ (k : Int) < (R : Int) := by omega
                  go_wp2_with fail
                  go_ret
                  exact ⟨a, by omega, rfl, Xhb0.out⟩
          · have l1' : ¬ (k : Int) < (N : Int) := by omega
            go_wp2_with fail
            go_loop [3, 6] (fun n i => ∃ (k : Nat) (a : Int), k ≤ R ∧ k ≤ 400 ∧ i = .int .i64 k ∧ n = .int .i64 a ∧ (T : Int) + N + R ≤ a ∧ a ≤ 2841138214171421 + 1954687338269 * (k : Int)) (fun _ i => R - (intOf i).toNat)
            case atStart => exact ⟨0, _, Nat.zero_le _, Nat.zero_le _, rfl, rfl, by omega, by omega⟩
            case round =>
              obtain ⟨k, a, hk, hk2, rfl, rfl, ha1, ha2⟩ := hrel
              by_cases l1 : k < R
              · by_cases l2 : k < 400
                · obtain ⟨b, off, l, x, A, n, c, rfl, hbl, hx, h0, h1, hr, hn, hnc, hcm⟩ := Xhrule.out k l1
                  have hs := (Xhrl.out _ (List.mem_of_getElem? hx)).2.1
                  have hs2 : n ≤ 17592186044416 := by rw [hn]; exact hs
                  have l1' : (k : Int) < (R : Int) := by omega
                  have l2' : (k : Int) < 400 := by omega
                  have Xhx := hide hx
                  have Xhr := hide hr
                  have Xhn := hide hn
                  have Xhs := hide hs
                  clear hx hr hn hs
                  go_wp2_with fail
                  go_round
                  case rel => exact ⟨k + 1, _, by omega, by omega, by go_num, rfl, by omega, by omega⟩
                  case measure => simp [intOf]; omega
                · have l1' : (k : Int) < (R : Int) := by omega
                  have l2' : ¬ (k : Int) < 400 := by omega
                  go_wp2_with fail
                  go_ret
                  exact ⟨a, by omega, rfl, Xhb0.out⟩
              · have l1' : ¬ (k : Int) < (R : Int) := by omega
                go_wp2_with fail
                go_ret
                exact ⟨a, by omega, rfl, Xhb0.out⟩
      · have l1' : ¬ (k : Int) < (T : Int) := by omega
        clear hlt
        go_wp2_with fail
        go_loop [3, 5] (fun n i => ∃ (k : Nat) (a : Int), k ≤ N ∧ k ≤ 200 ∧ i = .int .i64 k ∧ n = .int .i64 a ∧ (T : Int) + N + R ≤ a ∧ a ≤ 1433763330619021 + 7036874417762 * (k : Int)) (fun _ i => N - (intOf i).toNat)
        case atStart => exact ⟨0, _, Nat.zero_le _, Nat.zero_le _, rfl, rfl, by omega, by omega⟩
        case round =>
          obtain ⟨k, a, hk, hk2, rfl, rfl, ha1, ha2⟩ := hrel
          by_cases l1 : k < N
          · by_cases l2 : k < 200
            · obtain ⟨b, off, x, rfl, hbl, hx, hxs, hc⟩ := Xhnon.out k l1
              have hs := Xhre.out.2 x (List.mem_of_getElem? hx)
              have l1' : (k : Int) < (N : Int) := by omega
              have l2' : (k : Int) < 200 := by omega
              have Xhx := hide hx
              have Xhxs := hide hxs
              clear hx hxs
              go_wp2_with fail
              go_round
              case rel => exact ⟨k + 1, _, by omega, by omega, by go_num, rfl, by omega, by omega⟩
              case measure => simp [intOf]; omega
            · have l1' : (k : Int) < (N : Int) := by omega
              have l2' : ¬ (k : Int) < 200 := by omega
              go_wp2_with fail
              go_loop [3, 6] (fun n i => ∃ (k : Nat) (a : Int), k ≤ R ∧ k ≤ 400 ∧ i = .int .i64 k ∧ n = .int .i64 a ∧ (T : Int) + N + R ≤ a ∧ a ≤ 2841138214171421 + 1954687338269 * (k : Int)) (fun _ i => R - (intOf i).toNat)
              case atStart => exact ⟨0, _, Nat.zero_le _, Nat.zero_le _, rfl, rfl, by omega, by omega⟩
              case round =>
                obtain ⟨k, a, hk, hk2, rfl, rfl, ha1, ha2⟩ := hrel
                by_cases l1 : k < R
                · by_cases l2 : k < 400
                  · obtain ⟨b, off, l, x, A, n, c, rfl, hbl, hx, h0, h1, hr, hn, hnc, hcm⟩ := Xhrule.out k l1
                    have hs := (Xhrl.out _ (List.mem_of_getElem? hx)).2.1
                    have hs2 : n ≤ 17592186044416 := by rw [hn]; exact hs
                    have l1' : (k : Int) < (R : Int) := by omega
                    have l2' : (k : Int) < 400 := by omega
                    have Xhx := hide hx
                    have Xhr := hide hr
                    have Xhn := hide hn
                    have Xhs := hide hs
                    clear hx hr hn hs
                    go_wp2_with fail
                    go_round
                    case rel => exact ⟨k + 1, _, by omega, by omega, by go_num, rfl, by omega, by omega⟩
                    case measure => simp [intOf]; omega
                  · have l1' : (k : Int) < (R : Int) := by omega
                    have l2' : ¬ (k : Int) < 400 := by omega
                    go_wp2_with fail
                    go_ret
                    exact ⟨a, by omega, rfl, Xhb0.out⟩
                · have l1' : ¬ (k : Int) < (R : Int) := by omega
                  go_wp2_with fail
                  go_ret
                  exact ⟨a, by omega, rfl, Xhb0.out⟩
          · have l1' : ¬ (k : Int) < (N : Int) := by omega
            go_wp2_with fail
            go_loop [3, 6] (fun n i => ∃ (k : Nat) (a : Int), k ≤ R ∧ k ≤ 400 ∧ i = .int .i64 k ∧ n = .int .i64 a ∧ (T : Int) + N + R ≤ a ∧ a ≤ 2841138214171421 + 1954687338269 * (k : Int)) (fun _ i => R - (intOf i).toNat)
            case atStart => exact ⟨0, _, Nat.zero_le _, Nat.zero_le _, rfl, rfl, by omega, by omega⟩
            case round =>
              obtain ⟨k, a, hk, hk2, rfl, rfl, ha1, ha2⟩ := hrel
              by_cases l1 : k < R
              · by_cases l2 : k < 400
                · obtain ⟨b, off, l, x, A, n, c, rfl, hbl, hx, h0, h1, hr, hn, hnc, hcm⟩ := Xhrule.out k l1
                  have hs := (Xhrl.out _ (List.mem_of_getElem? hx)).2.1
                  have hs2 : n ≤ 17592186044416 := by rw [hn]; exact hs
                  have l1' : (k : Int) < (R : Int) := by omega
                  have l2' : (k : Int) < 400 := by omega
                  have Xhx := hide hx
                  have Xhr := hide hr
                  have Xhn := hide hn
                  have Xhs := hide hs
                  clear hx hr hn hs
                  go_wp2_with fail
                  go_round
                  case rel => exact ⟨k + 1, _, by omega, by omega, by go_num, rfl, by omega, by omega⟩
                  case measure => simp [intOf]; omega
                · have l1' : (k : Int) < (R : Int) := by omega
                  have l2' : ¬ (k : Int) < 400 := by omega
                  go_wp2_with fail
                  go_ret
                  exact ⟨a, by omega, rfl, Xhb0.out⟩
              · have l1' : ¬ (k : Int) < (R : Int) := by omega
                go_wp2_with fail
                go_ret
                exact ⟨a, by omega, rfl, Xhb0.out⟩
end Go.Proofs.Ytejjaabkbkkjlaa

/- Much, openings, what a grammar that may be is. -/
import Derived.Test.YtlpokomfljmogaaG7
import Derived.Test.YtlpokomfljmogaaG1
import Derived.Test.YtlpokomfljmogaaG8
namespace Go.Proofs.Ytlpokomfljmogaa
set_option linter.unusedVariables false

section
open Go.RowKit

def MuchPost (lo : Nat) (w : World) (e : Ending) (w' : World) : Prop := ∃ r : Int, (lo : Int) ≤ r ∧ e = .returned (.int .i64 r) ∧ Below w.heap.size w w'

set_option maxRecDepth 100000 in
set_option maxHeartbeats 2000000 in
theorem law_much {w : World} {F : Nat → Prop} {vt vn vr : Value} {G : GramD} (h : IsGram w F vt vn vr G) (st : Int) :
    Calls Try.prog 13 #[GV vt vn vr st] w (MuchPost (G.terms.length + G.nons.length + G.rules.length) w) := by
  obtain ⟨A1, c1, A2, c2, A3, c3, rfl, rfl, rfl, -⟩ := h.slices
  have g := GBox.new h st
  have hb0 : Below w.heap.size w (w.alloc (.cells #[.slice A1 G.terms.length c1, .slice A2 G.nons.length c2, .slice A3 G.rules.length c3, .int .i64 st] 36)) := (Below.refl _ w).alloc (Nat.le_refl _) _
  generalize hT : G.terms.length = T at *
  generalize hN : G.nons.length = N at *
  generalize hR : G.rules.length = R at *
  have t0 := g.ts
  have t1 := g.tc
  have t2 := g.c1m
  have n0 := g.ns
  have n1 := g.nc
  have n2 := g.c2m
  have r0 := g.rs
  have r1 := g.rc
  have r2 := g.c3m
  obtain ⟨q0, q1, q2, q3⟩ := g.cells
  have hrl := g.gram.wfs
  have hre := g.gram.reach
  have hterm := fun (k : Nat) (hk : k < T) => g.term hk
  have hnon := fun (k : Nat) (hk : k < N) => g.non hk
  have hrule := fun (k : Nat) (hk : k < R) => g.rule hk
  clear h
  have XhT := hide hT
  have XhN := hide hN
  have XhR := hide hR
  have Xg := hide g
  have Xhrl := hide hrl
  have Xhre := hide hre
  have Xhterm := hide hterm
  have Xhnon := hide hnon
  have Xhrule := hide hrule
  have Xhb0 := hide hb0
  clear hT hN hR g hrl hre hterm hnon hrule hb0
  go_enter Try.func13, Try.ntmps13
  go_wp2_with fail
  go_loop [3, 4] (fun n i => ∃ (k : Nat) (a : Int), k ≤ T ∧ k ≤ 200 ∧ i = .int .i64 k ∧ n = .int .i64 a ∧ (T : Int) + N + R ≤ a ∧ a ≤ 26388279066621 + 7036874417762 * (k : Int)) (fun _ i => T - (intOf i).toNat)
  case atStart => exact ⟨0, _, Nat.zero_le _, Nat.zero_le _, rfl, rfl, by omega, by omega⟩
  case round =>
    obtain ⟨k, a, hk, hk2, rfl, rfl, ha1, ha2⟩ := hrel
    by_cases hlt : k < T ∧ k < 200
    · obtain ⟨l1, l2⟩ := hlt
      obtain ⟨b, off, x, rfl, hbl, hx, hxs, hc⟩ := Xhterm.out k l1
      have hs := Xhre.out.1 x (List.mem_of_getElem? hx)
      have l1' : (k : Int) < (T : Int) := by omega
      have l2' : (k : Int) < 200 := by omega
      have Xhx := hide hx
      have Xhxs := hide hxs
      clear hx hxs
      go_wp2_with fail
      go_round
      case rel => exact ⟨k + 1, _, by omega, by omega, by go_num, rfl, by omega, by omega⟩
      case measure => simp [intOf]; omega
    · by_cases l1 : k < T
      · have l2 : ¬ k < 200 := fun e => hlt ⟨l1, e⟩
        have l1' : (k : Int) < (T : Int) := by omega
        have l2' : ¬ (k : Int) < 200 := by omega
        clear hlt
        go_wp2_with fail
        go_loop [3, 5] (fun n i => ∃ (k : Nat) (a : Int), k ≤ N ∧ k ≤ 200 ∧ i = .int .i64 k ∧ n = .int .i64 a ∧ (T : Int) + N + R ≤ a ∧ a ≤ 1433763330619021 + 7036874417762 * (k : Int)) (fun _ i => N - (intOf i).toNat)
        case atStart => exact ⟨0, _, Nat.zero_le _, Nat.zero_le _, rfl, rfl, by omega, by omega⟩
        case round =>
          obtain ⟨k, a, hk, hk2, rfl, rfl, ha1, ha2⟩ := hrel
          by_cases l1 : k < N
          · by_cases l2 : k < 200
            · obtain ⟨b, off, x, rfl, hbl, hx, hxs, hc⟩ := Xhnon.out k l1
              have hs := Xhre.out.2 x (List.mem_of_getElem? hx)
              have l1' : (k : Int) < (N : Int) := by omega
              have l2' : (k : Int) < 200 := by omega
              have Xhx := hide hx
              have Xhxs := hide hxs
              clear hx hxs
              go_wp2_with fail
              go_round
              case rel => exact ⟨k + 1, _, by omega, by omega, by go_num, rfl, by omega, by omega⟩
              case measure => simp [intOf]; omega
            · have l1' : (k : Int) < (N : Int) := by omega
              have l2' : ¬ (k : Int) < 200 := by omega
              go_wp2_with fail
              go_loop [3, 6] (fun n i => ∃ (k : Nat) (a : Int), k ≤ R ∧ k ≤ 400 ∧ i = .int .i64 k ∧ n = .int .i64 a ∧ (T : Int) + N + R ≤ a ∧ a ≤ 2841138214171421 + 1954687338269 * (k : Int)) (fun _ i => R - (intOf i).toNat)
              case atStart => exact ⟨0, _, Nat.zero_le _, Nat.zero_le _, rfl, rfl, by omega, by omega⟩
              case round =>
                obtain ⟨k, a, hk, hk2, rfl, rfl, ha1, ha2⟩ := hrel
                by_cases l1 : k < R
                · by_cases l2 : k < 400
                  · obtain ⟨b, off, l, x, A, n, c, rfl, hbl, hx, h0, h1, hr, hn, hnc, hcm⟩ := Xhrule.out k l1
                    have hs := (Xhrl.out _ (List.mem_of_getElem? hx)).2.1
                    have hs2 : n ≤ 17592186044416 := by rw [hn]; exact hs
                    have l1' : (k : Int) < (R : Int) := by omega
                    have l2' : (k : Int) < 400 := by omega
                    have Xhx := hide hx
                    have Xhr := hide hr
                    have Xhn := hide hn
                    have Xhs := hide hs
                    clear hx hr hn hs
                    go_wp2_with fail
                    go_round
                    case rel => exact ⟨k + 1, _, by omega, by omega, by go_num, rfl, by omega, by omega⟩
                    case measure => simp [intOf]; omega
                  · have l1' : (k : Int) < (R : Int) := by omega
                    have l2' : ¬ (k : Int) < 400 := by omega
                    go_wp2_with fail
                    go_ret
                    exact ⟨a, by omega, rfl, Xhb0.out⟩
                · have l1' : ¬ (k : Int) < (R : Int) := by omega
                  go_wp2_with fail
                  go_ret
                  exact ⟨a, by omega, rfl, Xhb0.out⟩
          · have l1' : ¬ (k : Int) < (N : Int) := by omega
            go_wp2_with fail
            go_loop [3, 6] (fun n i => ∃ (k : Nat) (a : Int), k ≤ R ∧ k ≤ 400 ∧ i = .int .i64 k ∧ n = .int .i64 a ∧ (T : Int) + N + R ≤ a ∧ a ≤ 2841138214171421 + 1954687338269 * (k : Int)) (fun _ i => R - (intOf i).toNat)
            case atStart => exact ⟨0, _, Nat.zero_le _, Nat.zero_le _, rfl, rfl, by omega, by omega⟩
            case round =>
              obtain ⟨k, a, hk, hk2, rfl, rfl, ha1, ha2⟩ := hrel
              by_cases l1 : k < R
              · by_cases l2 : k < 400
                · obtain ⟨b, off, l, x, A, n, c, rfl, hbl, hx, h0, h1, hr, hn, hnc, hcm⟩ := Xhrule.out k l1
                  have hs := (Xhrl.out _ (List.mem_of_getElem? hx)).2.1
                  have hs2 : n ≤ 17592186044416 := by rw [hn]; exact hs
                  have l1' : (k : Int) < (R : Int) := by omega
                  have l2' : (k : Int) < 400 := by omega
                  have Xhx := hide hx
                  have Xhr := hide hr
                  have Xhn := hide hn
                  have Xhs := hide hs
                  clear hx hr hn hs
                  go_wp2_with fail
                  go_round
                  case rel => exact ⟨k + 1, _, by omega, by omega, by go_num, rfl, by omega, by omega⟩
                  case measure => simp [intOf]; omega
                · have l1' : (k : Int) < (R : Int) := by omega
                  have l2' : ¬ (k : Int) < 400 := by omega
                  go_wp2_with fail
                  go_ret
                  exact ⟨a, by omega, rfl, Xhb0.out⟩
              · have l1' : ¬ (k : Int) < (R : Int) := by omega
                go_wp2_with fail
                go_ret
                exact ⟨a, by omega, rfl, Xhb0.out⟩
      · have l1' : ¬ (k : Int) < (T : Int) := by omega
        clear hlt
        go_wp2_with fail
        go_loop [3, 5] (fun n i => ∃ (k : Nat) (a : Int), k ≤ N ∧ k ≤ 200 ∧ i = .int .i64 k ∧ n = .int .i64 a ∧ (T : Int) + N + R ≤ a ∧ a ≤ 1433763330619021 + 7036874417762 * (k : Int)) (fun _ i => N - (intOf i).toNat)
        case atStart => exact ⟨0, _, Nat.zero_le _, Nat.zero_le _, rfl, rfl, by omega, by omega⟩
        case round =>
          obtain ⟨k, a, hk, hk2, rfl, rfl, ha1, ha2⟩ := hrel
          by_cases l1 : k < N
          · by_cases l2 : k < 200
            · obtain ⟨b, off, x, rfl, hbl, hx, hxs, hc⟩ := Xhnon.out k l1
              have hs := Xhre.out.2 x (List.mem_of_getElem? hx)
              have l1' : (k : Int) < (N : Int) := by omega
              have l2' : (k : Int) < 200 := by omega
              have Xhx := hide hx
              have Xhxs := hide hxs
              clear hx hxs
              go_wp2_with fail
              go_round
              case rel => exact ⟨k + 1, _, by omega, by omega, by go_num, rfl, by omega, by omega⟩
              case measure => simp [intOf]; omega
            · have l1' : (k : Int) < (N : Int) := by omega
              have l2' : ¬ (k : Int) < 200 := by omega
              go_wp2_with fail
              go_loop [3, 6] (fun n i => ∃ (k : Nat) (a : Int), k ≤ R ∧ k ≤ 400 ∧ i = .int .i64 k ∧ n = .int .i64 a ∧ (T : Int) + N + R ≤ a ∧ a ≤ 2841138214171421 + 1954687338269 * (k : Int)) (fun _ i => R - (intOf i).toNat)
              case atStart => exact ⟨0, _, Nat.zero_le _, Nat.zero_le _, rfl, rfl, by omega, by omega⟩
              case round =>
                obtain ⟨k, a, hk, hk2, rfl, rfl, ha1, ha2⟩ := hrel
                by_cases l1 : k < R
                · by_cases l2 : k < 400
                  · obtain ⟨b, off, l, x, A, n, c, rfl, hbl, hx, h0, h1, hr, hn, hnc, hcm⟩ := Xhrule.out k l1
                    have hs := (Xhrl.out _ (List.mem_of_getElem? hx)).2.1
                    have hs2 : n ≤ 17592186044416 := by rw [hn]; exact hs
                    have l1' : (k : Int) < (R : Int) := by omega
                    have l2' : (k : Int) < 400 := by omega
                    have Xhx := hide hx
                    have Xhr := hide hr
                    have Xhn := hide hn
                    have Xhs := hide hs
                    clear hx hr hn hs
                    go_wp2_with fail
                    go_round
                    case rel => exact ⟨k + 1, _, by omega, by omega, by go_num, rfl, by omega, by omega⟩
                    case measure => simp [intOf]; omega
                  · have l1' : (k : Int) < (R : Int) := by omega
                    have l2' : ¬ (k : Int) < 400 := by omega
                    go_wp2_with fail
                    go_ret
                    exact ⟨a, by omega, rfl, Xhb0.out⟩
                · have l1' : ¬ (k : Int) < (R : Int) := by omega
                  go_wp2_with fail
                  go_ret
                  exact ⟨a, by omega, rfl, Xhb0.out⟩
          · have l1' : ¬ (k : Int) < (N : Int) := by omega
            go_wp2_with fail
            go_loop [3, 6] (fun n i => ∃ (k : Nat) (a : Int), k ≤ R ∧ k ≤ 400 ∧ i = .int .i64 k ∧ n = .int .i64 a ∧ (T : Int) + N + R ≤ a ∧ a ≤ 2841138214171421 + 1954687338269 * (k : Int)) (fun _ i => R - (intOf i).toNat)
            case atStart => exact ⟨0, _, Nat.zero_le _, Nat.zero_le _, rfl, rfl, by omega, by omega⟩
            case round =>
              obtain ⟨k, a, hk, hk2, rfl, rfl, ha1, ha2⟩ := hrel
              by_cases l1 : k < R
              · by_cases l2 : k < 400
                · obtain ⟨b, off, l, x, A, n, c, rfl, hbl, hx, h0, h1, hr, hn, hnc, hcm⟩ := Xhrule.out k l1
                  have hs := (Xhrl.out _ (List.mem_of_getElem? hx)).2.1
                  have hs2 : n ≤ 17592186044416 := by rw [hn]; exact hs
                  have l1' : (k : Int) < (R : Int) := by omega
                  have l2' : (k : Int) < 400 := by omega
                  have Xhx := hide hx
                  have Xhr := hide hr
                  have Xhn := hide hn
                  have Xhs := hide hs
                  clear hx hr hn hs
                  go_wp2_with fail
                  go_round
                  case rel => exact ⟨k + 1, _, by omega, by omega, by go_num, rfl, by omega, by omega⟩
                  case measure => simp [intOf]; omega
                · have l1' : (k : Int) < (R : Int) := by omega
                  have l2' : ¬ (k : Int) < 400 := by omega
                  go_wp2_with fail
                  go_ret
                  exact ⟨a, by omega, rfl, Xhb0.out⟩
              · have l1' : ¬ (k : Int) < (R : Int) := by omega
                go_wp2_with fail
                go_ret
                exact ⟨a, by omega, rfl, Xhb0.out⟩
end

section
open Go.ChangeShapes Go.WideShapes Go.ChangeAt Go.RowKit Go.Deep

section
variable {H : Type} {enc : TypeId × Value → H} {w : World} {sp : Nat → Bool}

theorem opens_textZ {t : TypeId} (ht : Try.prog.underlying t = some .string) : OpensZ enc Try.prog w sp t (fun cs (s : ByteArray) => cs = [.string s] ∧ (s.size ≤ maxLen ∧ s.size ≤ 140737488351232)) := by
  intro fuel cs y h hr
  obtain ⟨n, h1, h3, h2⟩ := DataW.trod_string ht h
  refine ⟨n, h1, h2, ?_⟩
  have := hr n.data.toList.length (by rw [h3]; simp [DataW.weights])
  simpa using this
theorem opens_textsZ : OpensZ enc Try.prog w sp 33 (fun cs (xs : List ByteArray) => ∃ v, cs = [v] ∧ RdL w (· < w.heap.size) 1 (fun cs s => cs = [.string s] ∧ (s.size ≤ maxLen ∧ s.size ≤ 140737488351232)) v xs ∧ xs.length * 16 ≤ 140737488351232) :=
  opens_listZ Try.underlying33 (by kernel_rfl) (by decide) (by kernel_rfl) (opens_textZ Try.underlying9)
theorem opens_intsZ : OpensZ enc Try.prog w sp 24 (fun cs (xs : List Int) => ∃ v, cs = [v] ∧ RdL w (· < w.heap.size) 1 (fun cs n => cs = [.int .i64 n] ∧ (Lit.int .i64 n).wf = true) v xs ∧ xs.length * 8 ≤ 140737488351232) :=
  opens_listZ Try.underlying24 (by kernel_rfl) (by decide) (by kernel_rfl) (OpensZ.of (opens_int Try.underlying3))
theorem opens_ruleZ : OpensZ enc Try.prog w sp 47 (fun cs (x : Int × List Int) => ∃ c0 c1, cs = [c0, c1] ∧ ([c0] = [Value.int .i64 x.1] ∧ (Lit.int .i64 x.1).wf = true) ∧ ∃ v, [c1] = [v] ∧ RdL w (· < w.heap.size) 1 (fun cs n => cs = [.int .i64 n] ∧ (Lit.int .i64 n).wf = true) v x.2 ∧ x.2.length * 8 ≤ 140737488351232) :=
  opens_struct2Z Try.underlying47 (by kernel_rfl) (by kernel_rfl) (OpensZ.of (opens_int Try.underlying3)) opens_intsZ
theorem opens_rulesZ : OpensZ enc Try.prog w sp 34 (fun cs (xs : List (Int × List Int)) => ∃ v, cs = [v] ∧ RdL w (· < w.heap.size) 2 (fun cs x => ∃ c0 c1, cs = [c0, c1] ∧ ([c0] = [Value.int .i64 x.1] ∧ (Lit.int .i64 x.1).wf = true) ∧ ∃ v, [c1] = [v] ∧ RdL w (· < w.heap.size) 1 (fun cs n => cs = [.int .i64 n] ∧ (Lit.int .i64 n).wf = true) v x.2 ∧ x.2.length * 8 ≤ 140737488351232) v xs ∧ xs.length * 32 ≤ 140737488351232) :=
  opens_listZ Try.underlying34 (by kernel_rfl) (by decide) (by kernel_rfl) opens_ruleZ

/-- a grammar's four cells -/
def GramCells (w : World) (cs : List Value) (G : GramD) : Prop := ∃ vt vn vr, cs = [vt, vn, vr, .int .i64 G.start] ∧ IsGram w (· < w.heap.size) vt vn vr G ∧ (Lit.int .i64 G.start).wf = true
theorem wf_i64_iff {n : Int} (h : (Lit.int .i64 n).wf = true) : -9223372036854775808 ≤ n ∧ n ≤ 9223372036854775807 := by
  simp [Lit.wf, IntKind.min, IntKind.max, IntKind.signed, IntKind.bits] at h
  omega
theorem rdl_texts {v : Value} {xs : List ByteArray} (h : RdL w (· < w.heap.size) 1 (fun cs s => cs = [.string s] ∧ (s.size ≤ maxLen ∧ s.size ≤ 140737488351232)) v xs) : RdS w (· < w.heap.size) v xs ∧ (∀ s ∈ xs, s.size ≤ maxLen ∧ s.size ≤ 140737488351232) := by
  obtain ⟨h1, h2⟩ := RdL.parts (E := fun cs (s : ByteArray) => cs = [.string s]) (p := fun s => s.size ≤ maxLen ∧ s.size ≤ 140737488351232) h
  exact ⟨RdL.rd h1, h2⟩
theorem rdl_ints {v : Value} {xs : List Int} (h : RdL w (· < w.heap.size) 1 (fun cs n => cs = [.int .i64 n] ∧ (Lit.int .i64 n).wf = true) v xs) : RdI w (· < w.heap.size) v xs ∧ (∀ n ∈ xs, (Lit.int .i64 n).wf = true) := by
  obtain ⟨h1, h2⟩ := RdL.parts (E := fun cs (n : Int) => cs = [.int .i64 n]) (p := fun n => (Lit.int .i64 n).wf = true) h
  exact ⟨RdL.rd h1, h2⟩
theorem RdL.also {X : Type} {F : Nat → Prop} {k : Nat} {E E' : List Value → X → Prop} {p : X → Prop} {v : Value} {xs : List X} (h : RdL w F k E v xs) (hE : ∀ cs x, E cs x → E' cs x ∧ p x) : RdL w F k (fun cs x => E' cs x ∧ p x) v xs := by
  obtain ⟨A, c, hv, hc, hm, hr⟩ := h
  refine ⟨A, c, hv, hc, hm, fun hn => ?_⟩
  obtain ⟨b, off, hA, hb, hcell⟩ := hr hn
  refine ⟨b, off, hA, hb, fun i x hx => ?_⟩
  obtain ⟨cs, hl, he, hu⟩ := hcell i x hx
  exact ⟨cs, hl, hE cs x he, hu⟩
theorem opens_gramZ : OpensZ enc Try.prog w sp 36 (GramCells w) := by
  intro fuel cs y h hr
  obtain ⟨⟨a, b, c, d⟩, c0, c1, c2, c3, rfl, ⟨vt, e1, ht, lt⟩, ⟨vn, e2, hn, ln⟩, ⟨vr, e3, hrl, lr⟩, e4, hwf⟩ := opens_struct4Z Try.underlying36 (by kernel_rfl) (by kernel_rfl) opens_textsZ opens_textsZ opens_rulesZ (OpensZ.of (opens_int Try.underlying3)) fuel cs y h hr
  injection e1 with e1
  injection e2 with e2
  injection e3 with e3
  injection e4 with e4
  subst e1 e2 e3 e4
  obtain ⟨ht, st⟩ := rdl_texts ht
  obtain ⟨hn, sn⟩ := rdl_texts hn
  obtain ⟨h1, h2⟩ := RdL.parts (RdL.also (E' := ERule w (· < w.heap.size)) (p := fun r => ((-9223372036854775808 ≤ r.1 ∧ r.1 ≤ 9223372036854775807) ∧ r.2.length ≤ 17592186044416 ∧ ∀ x ∈ r.2, -9223372036854775808 ≤ x ∧ x ≤ 9223372036854775807)) hrl (fun cs x he => by
    obtain ⟨a0, a1, rfl, ⟨f0, w0⟩, v, f1, hv, hl⟩ := he
    injection f0 with f0
    injection f1 with f1
    subst f0 f1
    obtain ⟨hv, hw⟩ := rdl_ints hv
    exact ⟨⟨a1, rfl, hv⟩, wf_i64_iff w0, by omega, fun x hx => wf_i64_iff (hw x hx)⟩))
  exact ⟨⟨a, b, c, d⟩, c0, c1, c2, rfl, ⟨ht, hn, h1, fun b hb => hb, ⟨by simp only at lt ⊢; omega, by simp only at ln ⊢; omega, by simp only at lr ⊢; omega⟩, ⟨fun s hs => (st s hs).1, fun s hs => (sn s hs).1⟩, ⟨fun s hs => (st s hs).2, fun s hs => (sn s hs).2⟩, h2⟩, hwf⟩
end
end

section
open Go.RowKit

/-- what a grammar that may be is -/
theorem checkOf_zero {G : GramD} {st : Int} (h : checkOf G st = 0) : manyOf G = false ∧ formOf G = true ∧ (namesOf G).Nodup ∧ allKnown G st = true ∧ unlikeOf G.rules = true ∧ haveUpto G G.nons.length = true := by
  unfold checkOf at h
  by_cases h1 : manyOf G = true
  · rw [if_pos h1] at h; omega
  rw [if_neg h1] at h
  by_cases h2 : formOf G = false
  · rw [if_pos h2] at h; omega
  rw [if_neg h2] at h
  by_cases h3 : ¬ (namesOf G).Nodup
  · rw [if_pos h3] at h; omega
  rw [if_neg h3] at h
  by_cases h4 : allKnown G st = false
  · rw [if_pos h4] at h; omega
  rw [if_neg h4] at h
  by_cases h5 : unlikeOf G.rules = false
  · rw [if_pos h5] at h; omega
  rw [if_neg h5] at h
  by_cases h6 : haveUpto G G.nons.length = false
  · rw [if_pos h6] at h; omega
  exact ⟨by simpa using h1, by simpa using h2, by simpa using h3, by simpa using h4, by simpa using h5, by simpa using h6⟩

theorem nameOf_sym {G : GramD} {k : Nat} (h1 : 1 ≤ k) (h2 : k ≤ topOf G) : (namesOf G)[k - 1]? = some (nameOf G k) := by
  have hl : (namesOf G).length = topOf G := by unfold namesOf topOf; simp
  unfold nameOf
  rw [if_neg (by omega), if_pos (by omega)]
  rw [show ((k : Int) - 1).toNat = k - 1 by omega]
  show (namesOf G)[k - 1]? = some (((namesOf G)[k - 1]?).getD ⟨#[]⟩)
  rw [List.getElem?_eq_getElem (by omega)]
  rfl
theorem find_name {G : GramD} {k : Nat} (hn : (namesOf G).Nodup) (h1 : 1 ≤ k) (h2 : k ≤ topOf G) : findOf G (nameOf G k) = k := by
  unfold findOf
  have := place_nodup hn (nameOf_sym h1 h2)
  show place (namesOf G) (nameOf G k) + 1 = k
  rw [this]
  omega
theorem term_non {G : GramD} {k : Nat} (h1 : 1 ≤ k) (h2 : k ≤ topOf G) : isTerm G k = !isNon G k := by
  unfold isTerm isNon
  unfold topOf at *
  by_cases h : k ≤ G.terms.length
  · rw [decide_eq_true (by omega), decide_eq_true (by omega), decide_eq_false (by omega)]; rfl
  · rw [decide_eq_true (by omega), decide_eq_false (by omega), decide_eq_true (by omega), decide_eq_true (by omega)]; rfl
theorem ofOf_mem {G : GramD} {s i : Int} (h : i ∈ ofOf G s) : ∃ k : Nat, i = k ∧ k < G.rules.length ∧ ∃ x, G.rules[k]? = some (s, x) := by
  unfold ofOf ofUpto at h
  obtain ⟨k, hk, rfl⟩ := List.mem_map.1 h
  obtain ⟨hk, hd⟩ := List.mem_filter.1 hk
  have hk := List.mem_range.1 hk
  have hd := of_decide_eq_true hd
  rw [List.getElem?_eq_getElem hk] at hd
  simp at hd
  exact ⟨k, rfl, hk, (G.rules[k]).2, by rw [List.getElem?_eq_getElem hk, ← hd]⟩
theorem non_rules {G : GramD} {st : Int} (h : checkOf G st = 0) {k : Nat} (h1 : 1 ≤ k) (h2 : k ≤ topOf G) : isNon G k = decide (0 < (ofOf G k).length) := by
  obtain ⟨_, _, _, hk, _, hh⟩ := checkOf_zero h
  rw [Bool.eq_iff_iff, decide_eq_true_eq, isNon_iff]
  unfold topOf at h2
  constructor
  · rintro ⟨a, b⟩
    unfold haveUpto at hh
    rw [List.all_eq_true] at hh
    have := hh (k - 1 - G.terms.length) (List.mem_range.2 (by omega))
    rw [decide_eq_true_eq] at this
    rw [show (G.terms.length : Int) + 1 + ((k - 1 - G.terms.length : Nat) : Int) = k by omega] at this
    omega
  · intro hp
    obtain ⟨i, hi⟩ : ∃ i, i ∈ ofOf G k := by
      cases hl : ofOf G k with
      | nil => rw [hl] at hp; simp at hp
      | cons a r => exact ⟨a, by simp⟩
    obtain ⟨j, _, hj, x, hx⟩ := ofOf_mem hi
    unfold allKnown at hk
    rw [Bool.and_eq_true, List.all_eq_true] at hk
    have := hk.2 _ (List.mem_of_getElem? hx)
    unfold knownOf at this
    rw [Bool.and_eq_true, isNon_iff] at this
    have h3 := this.1
    simp only at h3
    omega
theorem rule_of {G : GramD} {st s i : Int} (h : i ∈ ofOf G s) : ∃ x, ruleOf G st i = ((s, x), true) := by
  obtain ⟨k, rfl, hk, x, hx⟩ := ofOf_mem h
  refine ⟨x, ?_⟩
  unfold ruleOf
  rw [if_neg (by omega), if_neg (by omega), Int.toNat_natCast, hx]
  rfl

/-- all rules, left side by left side, up to a symbol -/
def countUpto (G : GramD) (n : Nat) : Nat := ((List.range n).map (fun (s : Nat) => (ofOf G (s : Int)).length)).sum
theorem countUpto_succ (G : GramD) (n : Nat) : countUpto G (n + 1) = countUpto G n + (ofOf G (n : Int)).length := by unfold countUpto; rw [List.range_succ, List.map_append, List.sum_append]; simp
theorem ofUpto_lenS {rs : List (Int × List Int)} {s : Int} {k : Nat} {l : Int} {x : List Int} (h : rs[k]? = some (l, x)) : (ofUpto rs s (k + 1)).length = (ofUpto rs s k).length + if l = s then 1 else 0 := by
  by_cases e : l = s
  · subst e; rw [ofUpto_yes h]; simp
  · rw [ofUpto_no h e]; simp [e]
theorem sum_one : ∀ (n : Nat) (l : Int), ((List.range n).map (fun (s : Nat) => if l = (s : Int) then 1 else 0)).sum = if 0 ≤ l ∧ l < n then 1 else 0
  | 0, l => by rw [if_neg (by omega)]; rfl
  | n + 1, l => by
    rw [List.range_succ, List.map_append, List.sum_append, sum_one n l]
    simp only [List.map_cons, List.map_nil, List.sum_cons, List.sum_nil]
    by_cases e : l = (n : Int)
    · rw [if_pos e, if_neg (by omega), if_pos (by omega)]; rfl
    · by_cases e2 : 0 ≤ l ∧ l < n
      · rw [if_neg e, if_pos e2, if_pos (by omega)]; rfl
      · rw [if_neg e, if_neg e2, if_neg (by omega)]; rfl
theorem sum_add : ∀ (l : List Nat) (f g : Nat → Nat), (l.map (fun s => f s + g s)).sum = (l.map f).sum + (l.map g).sum
  | [], _, _ => rfl
  | a :: r, f, g => by simp only [List.map_cons, List.sum_cons, sum_add r f g]; omega
theorem count_rules {rs : List (Int × List Int)} {n : Nat} (hl : ∀ r ∈ rs, 0 ≤ r.1 ∧ r.1 < n) : ∀ k : Nat, k ≤ rs.length → ((List.range n).map (fun (s : Nat) => (ofUpto rs (s : Int) k).length)).sum = k
  | 0, _ => by
    have : ∀ m : Nat, ((List.range m).map (fun (s : Nat) => (ofUpto rs (s : Int) 0).length)).sum = 0 := fun m => by
      induction m with
      | zero => rfl
      | succ m ih => rw [List.range_succ, List.map_append, List.sum_append, ih]; rfl
    exact this n
  | k + 1, hk => by
    have hx : rs[k]? = some (rs[k].1, rs[k].2) := List.getElem?_eq_getElem (by omega)
    have h := hl rs[k] (List.getElem_mem _)
    have : (fun (s : Nat) => (ofUpto rs (s : Int) (k + 1)).length) = fun (s : Nat) => (ofUpto rs (s : Int) k).length + if rs[k].1 = (s : Int) then 1 else 0 := by
      funext s; exact ofUpto_lenS hx
    rw [this, sum_add, count_rules hl k (by omega), sum_one, if_pos h]
theorem count_all {G : GramD} {st : Int} (h : checkOf G st = 0) : countUpto G (topOf G + 1) = G.rules.length := by
  obtain ⟨_, _, _, hk, _, _⟩ := checkOf_zero h
  refine count_rules (fun r hr => ?_) _ (Nat.le_refl _)
  unfold allKnown at hk
  rw [Bool.and_eq_true, List.all_eq_true] at hk
  have := hk.2 r hr
  unfold knownOf at this
  rw [Bool.and_eq_true, isNon_iff] at this
  unfold topOf
  omega
theorem countUpto_le {G : GramD} {n : Nat} : countUpto G n ≤ n * G.rules.length := by
  induction n with
  | zero => simp [countUpto]
  | succ n ih =>
    rw [countUpto_succ]
    have : (ofOf G (n : Int)).length ≤ G.rules.length := ofUpto_len
    rw [Nat.add_mul]
    omega
end
end Go.Proofs.Ytlpokomfljmogaa

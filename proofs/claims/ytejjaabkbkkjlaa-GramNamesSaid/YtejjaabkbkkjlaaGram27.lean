/- The forms of names: gram.Check's closure, the reference's form. -/
import Derived.Test.YtejjaabkbkkjlaaGram25
import Derived.Test.YtejjaabkbkkjlaaChar5
import Derived.Test.YtejjaabkbkkjlaaQuoted2
import Derived.Test.YtejjaabkbkkjlaaQuoted3
namespace Go.Proofs.Ytejjaabkbkkjlaa
set_option linter.unusedVariables false
open Go.RowKit

theorem Try.enters_plain : Enters Try.prog 77 := enters_of Try.func77 (by kernel_rfl) rfl
theorem plain_clo {w : World} : PredS w 77 #[] plainB := fun W x hx hW => gram_plain x hx W
theorem Try.enters_form : Enters Try.prog 76 := enters_of Try.func76 (by kernel_rfl) rfl
theorem form_clo {w : World} : PredS w 76 #[] (fun s => plainB s || quotedB s) := by
  intro W x hx hW
  have hp := gram_plain x hx W
  have hq := fun wr => gtok_isquoted x hx wr
  show Calls Try.prog 76 #[.string x] W (Quiet W (.bool (plainB x || quotedB x)))
  generalize plainB x = p at *
  generalize quotedB x = q at *
  have Xhp := hide hp
  have Xhq := hide hq
  clear hp hq
  clear hW hx
  cases p with
  | true =>
    go_enter Try.func76, Try.ntmps76
    go_wp2_with fail
    refine Xhp.out.mono ?_
    rintro e w2 ⟨rfl, b2⟩
    go_wp2_with fail
    go_ret
    exact ⟨rfl, b2⟩
  | false =>
    go_enter Try.func76, Try.ntmps76
    go_wp2_with fail
    refine Xhp.out.mono ?_
    rintro e w2 ⟨rfl, b2⟩
    go_wp2_with fail
    refine (Xhq.out _).mono ?_
    rintro e w3 ⟨rfl, b3⟩
    go_wp2_with fail
    go_ret
    exact ⟨ret_bool (by cases q <;> rfl), b2.trans (b3.mono b2.size)⟩

def formOf (G : GramD) : Bool := G.terms.all (fun s => plainB s || quotedB s) && G.nons.all plainB
theorem all_no {X : Type} {p : X → Bool} {l : List X} {k : Nat} {x : X} (hx : l[k]? = some x) (h : p x = false) : l.all p = false := by
  rw [List.all_eq_false]
  exact ⟨x, List.mem_of_getElem? hx, by simp [h]⟩
theorem all_yes {X : Type} {p : X → Bool} {l : List X} (h : ∀ (j : Nat) (x : X), l[j]? = some x → p x = true) : l.all p = true := by
  rw [List.all_eq_true]
  intro x hx
  obtain ⟨j, hj, e⟩ := List.getElem_of_mem hx
  exact h j x (by rw [List.getElem?_eq_getElem hj, e])

/-- a name, where it lies -/
theorem GBox.term {w : World} {F : Nat → Prop} {B : Nat} {A1 A2 A3 : Option Addr} {c1 c2 c3 T N R : Nat} {st : Int} {G : GramD} (h : GBox w F B A1 c1 A2 c2 A3 c3 T N R st G) {k : Nat} (hk : k < T) : ∃ (b off : Nat) (x : ByteArray), A1 = some ⟨b, off, none⟩ ∧ b < w.heap.size ∧ G.terms[k]? = some x ∧ x.size ≤ maxLen ∧ w.cell? ⟨b, off + k, none⟩ = some (.string x) := by
  obtain ⟨-, -, -, hcell⟩ := h.gram.terms.at_
  obtain ⟨b, off, hA, hb, hc⟩ := hcell (by omega)
  obtain ⟨x, hx⟩ : ∃ x, G.terms[k]? = some x := ⟨_, List.getElem?_eq_getElem (by rw [← h.t]; exact hk)⟩
  exact ⟨b, off, x, hA, h.gram.lt b hb, hx, h.gram.sizes.1 x (List.mem_of_getElem? hx), hc k x hx⟩
theorem GBox.non {w : World} {F : Nat → Prop} {B : Nat} {A1 A2 A3 : Option Addr} {c1 c2 c3 T N R : Nat} {st : Int} {G : GramD} (h : GBox w F B A1 c1 A2 c2 A3 c3 T N R st G) {k : Nat} (hk : k < N) : ∃ (b off : Nat) (x : ByteArray), A2 = some ⟨b, off, none⟩ ∧ b < w.heap.size ∧ G.nons[k]? = some x ∧ x.size ≤ maxLen ∧ w.cell? ⟨b, off + k, none⟩ = some (.string x) := by
  obtain ⟨-, -, -, hcell⟩ := h.gram.nons.at_
  obtain ⟨b, off, hA, hb, hc⟩ := hcell (by omega)
  obtain ⟨x, hx⟩ : ∃ x, G.nons[k]? = some x := ⟨_, List.getElem?_eq_getElem (by rw [← h.n]; exact hk)⟩
  exact ⟨b, off, x, hA, h.gram.lt b hb, hx, h.gram.sizes.2 x (List.mem_of_getElem? hx), hc k x hx⟩

set_option maxRecDepth 100000 in
set_option maxHeartbeats 2000000 in
theorem ref_form {w : World} {F : Nat → Prop} {vt vn vr : Value} {G : GramD} (h : IsGram w F vt vn vr G) (st : Int) :
    Calls Try.prog 85 #[GV vt vn vr st] w (Quiet w (.bool (formOf G))) := by
  obtain ⟨A1, c1, A2, c2, A3, c3, rfl, rfl, rfl, -⟩ := h.slices
  have g := GBox.new h st
  have hb0 : Below w.heap.size w (w.alloc (.cells #[.slice A1 G.terms.length c1, .slice A2 G.nons.length c2, .slice A3 G.rules.length c3, .int .i64 st] 25)) := (Below.refl _ w).alloc (Nat.le_refl _) _
  obtain ⟨w1, hw1⟩ : ∃ w1, w1 = w.alloc (.cells #[.slice A1 G.terms.length c1, .slice A2 G.nons.length c2, .slice A3 G.rules.length c3, .int .i64 st] 25) := ⟨_, rfl⟩
  rw [← hw1] at g hb0
  have f1 : ∀ (k : Nat) (x : ByteArray), G.terms[k]? = some x → plainB x = false → quotedB x = false → formOf G = false := fun k x hx h1 h2 => by
    unfold formOf; rw [all_no hx (by rw [h1, h2]; rfl)]; rfl
  have f2 : ∀ (k : Nat) (x : ByteArray), G.nons[k]? = some x → plainB x = false → formOf G = false := fun k x hx h1 => by
    unfold formOf; rw [all_no hx h1]; simp
  have f3 : (∀ (k : Nat) (x : ByteArray), G.terms[k]? = some x → (plainB x || quotedB x) = true) → (∀ (k : Nat) (x : ByteArray), G.nons[k]? = some x → plainB x = true) → formOf G = true := fun h1 h2 => by
    unfold formOf; rw [all_yes h1, all_yes h2]; rfl
  generalize hT : G.terms.length = T at *
  generalize hN : G.nons.length = N at *
  generalize hR : G.rules.length = R at *
  have t0 := g.ts
  have t1 := g.tc
  have t2 := g.c1m
  have n0 := g.ns
  have n1 := g.nc
  have n2 := g.c2m
  have XhR := hide hR
  have XhT := hide hT
  have XhN := hide hN
  have Xf1 := hide f1
  have Xf2 := hide f2
  have Xf3 := hide f3
  clear hR hT hN f1 f2 f3
  go_enter Try.func85, Try.ntmps85
  go_wp2_with fail
  rw [← hw1]
  clear hw1
  go_loopw [3] (fun i wr => ∃ k : Nat, k ≤ T ∧ i = .int .i64 k ∧ (∀ (j : Nat) (x : ByteArray), j < k → G.terms[j]? = some x → (plainB x || quotedB x) = true) ∧ GBox wr F w.heap.size A1 c1 A2 c2 A3 c3 T N R st G ∧ Below w.heap.size w wr) (fun i _ => T - (intOf i).toNat)
  case atStart => exact ⟨0, Nat.zero_le _, rfl, fun j r hj => absurd hj (by omega), g, hb0⟩
  case round =>
    clear g hb0
    obtain ⟨k, hk, rfl, hu, g, hb⟩ := hrel
    obtain ⟨q0, q1, q2, q3⟩ := g.cells
    have Xhu := hide hu
    clear hu
    by_cases hlt : k < T
    · obtain ⟨b, off, x, rfl, hbl, hx, hxs, hc⟩ := g.term hlt
      have hp := ref_plain x hxs wr
      have hq := fun wr => ref_isquoted x hxs wr
      have hlt' : (k : Int) < (T : Int) := by omega
      have hf := Xf1.out k x hx
      have next : ∀ wr', Below wr.heap.size wr wr' → GBox wr' F w.heap.size (some ⟨b, off, none⟩) c1 A2 c2 A3 c3 T N R st G ∧ Below w.heap.size w wr' ∧ wr'.cell? ⟨b, off + k, none⟩ = some (.string x) ∧ wr'.cell? ⟨w.heap.size, 0, none⟩ = some (.slice (some ⟨b, off, none⟩) T c1) := fun wr' h => ⟨g.below h, hb.trans (h.mono hb.size), (h.cell (p := ⟨b, off + k, none⟩) hbl).trans hc, (g.below h).cells.1⟩
      cases hpx : plainB x with
      | true =>
        rw [hpx] at hp
        have Xhp := hide hp
        have Xhq := hide hq
        have Xhf := hide hf
        have Xhx := hide hx
        have Xhpx := hide hpx
        have Xnext := hide next
        clear hp hq hf hx hpx next
        go_wp2_with fail
        refine Xhp.out.mono ?_
        rintro e w2 ⟨rfl, b2⟩
        obtain ⟨g2, hb2, -, -⟩ := Xnext.out w2 b2
        go_wp2_with fail
        go_roundw
        case rel => exact ⟨k + 1, by omega, by go_num, fun j y hj hy => by
          by_cases e : j = k
          · subst e; rw [Xhx.out] at hy; injection hy with hy; rw [← hy, Xhpx.out]; rfl
          · exact Xhu.out j y (by omega) hy, g2, hb2⟩
        case measure => simp [intOf]; omega
      | false =>
        rw [hpx] at hp
        cases hqx : quotedB x with
        | true =>
          rw [hqx] at hq
          have Xhp := hide hp
          have Xhq := hide hq
          have Xhf := hide hf
          have Xhx := hide hx
          have Xhpx := hide hpx
          have Xnext := hide next
          have Xhqx := hide hqx
          clear hp hq hf hx hpx next hqx
          go_wp2_with fail
          refine Xhp.out.mono ?_
          rintro e w2 ⟨rfl, b2⟩
          obtain ⟨g2, hb2, m0, m1⟩ := Xnext.out w2 b2
          go_wp2_with fail
          refine (Xhq.out _).mono ?_
          rintro e w3 ⟨rfl, b3⟩
          obtain ⟨g3, hb3, -, -⟩ := Xnext.out w3 (b2.trans (b3.mono b2.size))
          go_wp2_with fail
          go_roundw
          case rel => exact ⟨k + 1, by omega, by go_num, fun j y hj hy => by
            by_cases e : j = k
            · subst e; rw [Xhx.out] at hy; injection hy with hy; rw [← hy, Xhqx.out]; simp
            · exact Xhu.out j y (by omega) hy, g3, hb3⟩
          case measure => simp [intOf]; omega
        | false =>
          rw [hqx] at hq
          have hfin := hf hpx hqx
          have Xhp := hide hp
          have Xhq := hide hq
          have Xhf := hide hf
          have Xhx := hide hx
          have Xhpx := hide hpx
          have Xnext := hide next
          have Xhqx := hide hqx
          have Xhfin := hide hfin
          clear hp hq hf hx hpx next hqx hfin
          go_wp2_with fail
          refine Xhp.out.mono ?_
          rintro e w2 ⟨rfl, b2⟩
          obtain ⟨g2, hb2, m0, m1⟩ := Xnext.out w2 b2
          go_wp2_with fail
          refine (Xhq.out _).mono ?_
          rintro e w3 ⟨rfl, b3⟩
          obtain ⟨g3, hb3, -, -⟩ := Xnext.out w3 (b2.trans (b3.mono b2.size))
          go_wp2_with fail
          go_ret
          exact ⟨ret_bool Xhfin.out.symm, hb3⟩
    · have hall : ∀ (j : Nat) (x : ByteArray), G.terms[j]? = some x → (plainB x || quotedB x) = true := fun j x hx => Xhu.out j x (by have := (List.getElem?_eq_some_iff.1 hx).1; have := XhT.out; omega) hx
      have hyes := Xf3.out hall
      have Xhall := hide hall
      have Xhyes := hide hyes
      clear hall hyes
      go_wp2_with fail
      clear q0 q1 q2 q3
      go_loopw [4] (fun i wr => ∃ k : Nat, k ≤ N ∧ i = .int .i64 k ∧ (∀ (j : Nat) (x : ByteArray), j < k → G.nons[j]? = some x → plainB x = true) ∧ GBox wr F w.heap.size A1 c1 A2 c2 A3 c3 T N R st G ∧ Below w.heap.size w wr) (fun i _ => N - (intOf i).toNat)
      case atStart => exact ⟨0, Nat.zero_le _, rfl, fun j r hj => absurd hj (by omega), g, hb⟩
      case round =>
        clear g hb
        obtain ⟨k, hk, rfl, hu, g, hb⟩ := hrel
        obtain ⟨q0, q1, q2, q3⟩ := g.cells
        have Xhu := hide hu
        clear hu
        by_cases hlt : k < N
        · obtain ⟨b, off, x, rfl, hbl, hx, hxs, hc⟩ := g.non hlt
          have hp := ref_plain x hxs wr
          have hlt' : (k : Int) < (N : Int) := by omega
          have hf := Xf2.out k x hx
          cases hpx : plainB x with
          | true =>
            rw [hpx] at hp
            have Xhp := hide hp
            have Xhf := hide hf
            have Xhx := hide hx
            have Xhpx := hide hpx
            clear hp hf hx hpx
            go_wp2_with fail
            refine Xhp.out.mono ?_
            rintro e w2 ⟨rfl, b2⟩
            go_wp2_with fail
            go_roundw
            case rel => exact ⟨k + 1, by omega, by go_num, fun j y hj hy => by
              by_cases e : j = k
              · subst e; rw [Xhx.out] at hy; injection hy with hy; rw [← hy, Xhpx.out]
              · exact Xhu.out j y (by omega) hy, g.below b2, hb.trans (b2.mono hb.size)⟩
            case measure => simp [intOf]; omega
          | false =>
            rw [hpx] at hp
            have hfin := hf hpx
            have Xhp := hide hp
            have Xhf := hide hf
            have Xhx := hide hx
            have Xhpx := hide hpx
            have Xhfin := hide hfin
            clear hp hf hx hpx hfin
            go_wp2_with fail
            refine Xhp.out.mono ?_
            rintro e w2 ⟨rfl, b2⟩
            go_wp2_with fail
            go_ret
            exact ⟨ret_bool Xhfin.out.symm, hb.trans (b2.mono hb.size)⟩
        · go_wp2_with fail
          go_ret
          exact ⟨ret_bool (Xhyes.out (fun j x hx => Xhu.out j x (by have := (List.getElem?_eq_some_iff.1 hx).1; have := XhN.out; omega) hx)).symm, hb⟩
end Go.Proofs.Ytejjaabkbkkjlaa

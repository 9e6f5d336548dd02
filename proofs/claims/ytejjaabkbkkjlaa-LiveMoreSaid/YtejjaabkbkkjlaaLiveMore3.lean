/- The law LiveMore: the walk. -/
import Derived.Test.YtejjaabkbkkjlaaLiveMore2
namespace Go.Proofs.Ytejjaabkbkkjlaa
set_option linter.unusedVariables false
open Go.RowKit
attribute [local irreducible] wpStill wpOne wpPh

structure MSt (w W : World) (A1 : Option Addr) (c1 : Nat) (A2 : Option Addr) (c2 : Nat) (A3 : Option Addr) (c3 T N R : Nat) (st l : Int) (u : Value) : Prop where
  b : Below w.heap.size w W
  z : w.heap.size + 1 + 1 + 1 ≤ W.heap.size
  g : Blk W w.heap.size 25 #[.slice A1 T c1, .slice A2 N c2, .slice A3 R c3, .int .i64 st]
  r : Blk W (w.heap.size + 1) 30 #[.int .i64 l, u]
  h : Blk W (w.heap.size + 1 + 1) 25 #[.slice A1 T c1, .slice A2 N c2, .slice A3 R c3, .int .i64 st]
section
variable {w W W' : World} {A1 : Option Addr} {c1 : Nat} {A2 : Option Addr} {c2 : Nat} {A3 : Option Addr} {c3 T N R : Nat} {st l : Int} {u : Value}
theorem MSt.alloc (h : MSt w W A1 c1 A2 c2 A3 c3 T N R st l u) (o : Obj) : MSt w (W.alloc o) A1 c1 A2 c2 A3 c3 T N R st l u :=
  ⟨h.b.trans ((Below.refl _ W).alloc h.b.size o), Nat.le_trans h.z (by simp), h.g.alloc o, h.r.alloc o, h.h.alloc o⟩
theorem MSt.drew (h : MSt w W A1 c1 A2 c2 A3 c3 T N R st l u) : MSt w W.drew A1 c1 A2 c2 A3 c3 T N R st l u := ⟨h.b.drew, h.z, h.g.drew, h.r.drew, h.h.drew⟩
theorem MSt.grown {row : Option Nat} (h : MSt w W A1 c1 A2 c2 A3 c3 T N R st l u) (hg : W.grownBy W' row) (hr : ∀ k, row = some k → w.heap.size + 3 ≤ k) : MSt w W' A1 c1 A2 c2 A3 c3 T N R st l u :=
  ⟨h.b.grown hg h.b.size (fun k hk => by have := hr k hk; omega), ((Below.refl (w.heap.size + 3) W).grown hg h.z (fun k hk => hr k hk)).size |> Nat.le_trans h.z,
    h.g.grown hg (fun e => by have := hr _ e.symm; omega), h.r.grown hg (fun e => by have := hr _ e.symm; omega), h.h.grown hg (fun e => by have := hr _ e.symm; omega)⟩
theorem MSt.cells (h : MSt w W A1 c1 A2 c2 A3 c3 T N R st l u) : W.cell? ⟨w.heap.size, 2, none⟩ = some (.slice A3 R c3) ∧ W.cell? ⟨w.heap.size + 1, 0, none⟩ = some (.int .i64 l) ∧ W.cell? ⟨w.heap.size + 1, 1, none⟩ = some u ∧ W.cell? ⟨w.heap.size + 1 + 1, 2, none⟩ = some (.slice A3 R c3) ∧ W.frozen? ⟨w.heap.size + 1 + 1, 2, none⟩ = false :=
  ⟨by simpa using h.g.cell 2, by simpa using h.r.cell 0, by simpa using h.r.cell 1, by simpa using h.h.cell 2, h.h.frozen 2⟩
theorem MSt.put (h : MSt w W A1 c1 A2 c2 A3 c3 T N R st l u) (v : Value) : (W.setCell ⟨w.heap.size + 1 + 1, 2, none⟩ v).cell? ⟨w.heap.size, 2, none⟩ = some (.slice A3 R c3) ∧ (W.setCell ⟨w.heap.size + 1 + 1, 2, none⟩ v).cell? ⟨w.heap.size + 1, 0, none⟩ = some (.int .i64 l) ∧ (W.setCell ⟨w.heap.size + 1 + 1, 2, none⟩ v).cell? ⟨w.heap.size + 1, 1, none⟩ = some u ∧ (W.setCell ⟨w.heap.size + 1 + 1, 2, none⟩ v).cell? ⟨w.heap.size, 0, none⟩ = some (.slice A1 T c1) := by
  have t := (Touch.refl (fun k => k = w.heap.size + 1 + 1) W).setCell (p := ⟨w.heap.size + 1 + 1, 2, none⟩) (fun _ => rfl) v
  have g := h.g.touch t (by omega)
  have r := h.r.touch t (by omega)
  exact ⟨by simpa using g.cell 2, by simpa using r.cell 0, by simpa using r.cell 1, by simpa using g.cell 0⟩
/-- behind the store of the new row of rules -/
theorem MSt.done {A5 : Option Addr} {m c5 : Nat} {ys : List Value} (h : MSt w W A1 c1 A2 c2 A3 c3 T N R st l u) (ho : W.ownsRow (w.heap.size + 3) 30 2 (.slice A5 m c5) m ys) :
    Below w.heap.size w (W.setCell ⟨w.heap.size + 1 + 1, 2, none⟩ (.slice A5 m c5)) ∧ Blk (W.setCell ⟨w.heap.size + 1 + 1, 2, none⟩ (.slice A5 m c5)) w.heap.size 25 #[.slice A1 T c1, .slice A2 N c2, .slice A3 R c3, .int .i64 st] ∧ Blk (W.setCell ⟨w.heap.size + 1 + 1, 2, none⟩ (.slice A5 m c5)) (w.heap.size + 1) 30 #[.int .i64 l, u] ∧ Blk (W.setCell ⟨w.heap.size + 1 + 1, 2, none⟩ (.slice A5 m c5)) (w.heap.size + 1 + 1) 25 #[.slice A1 T c1, .slice A2 N c2, .slice A5 m c5, .int .i64 st] ∧ (W.setCell ⟨w.heap.size + 1 + 1, 2, none⟩ (.slice A5 m c5)).ownsRow (w.heap.size + 3) 30 2 (.slice A5 m c5) m ys := by
  have t := (Touch.refl (fun k => k = w.heap.size + 1 + 1) W).setCell (p := ⟨w.heap.size + 1 + 1, 2, none⟩) (fun _ => rfl) (.slice A5 m c5)
  exact ⟨h.b.trans (t.below (fun k hk e => by have := h.z; omega) h.b.size), h.g.touch t (by omega), h.r.touch t (by omega), h.h.put 2 _, own_far ho (h.h.ne_own ho (by decide)) _⟩
theorem rd_blk {k : Nat} {t : TypeId} {x y : Value} (h : Blk W k t #[x, y]) : Rd W (fun _ => True) (.slice (some ⟨k, 0, none⟩) 1 1) 2 [x, y] :=
  ⟨_, 1, 1, rfl, Nat.le_refl _, by decide, rfl, fun _ => ⟨k, 0, rfl, trivial, fun j v hv => by
    rw [h.cell]; simpa using hv⟩⟩
end

/-- a grammar that may take a rule more -/
theorem opens_gramM {H : Type} {enc : TypeId × Value → H} {w : World} {sp : Nat → Bool} : OpensZ enc Try.prog w sp 25 (fun cs G => GramCells w cs G ∧ G.rules.length ≤ 4398046511102) := by
  intro fuel cs y h hr
  obtain ⟨G, hg⟩ := opens_gramZ (enc := enc) (w := w) (sp := sp) fuel cs y h hr
  refine ⟨G, hg, ?_⟩
  obtain ⟨⟨a, b, c, d⟩, c0, c1, c2, c3, rfl, -, -, ⟨vr, e3, hrl, lr⟩, -⟩ := opens_struct4Z Try.underlying25 (by kernel_rfl) (by kernel_rfl) opens_textsZ opens_textsZ opens_rulesZ (OpensZ.of (opens_int Try.underlying3)) fuel cs y h hr
  obtain ⟨vt, vn, vr', e, hI, -⟩ := hg
  obtain ⟨A1, d1, A2, d2, A3, d3, rfl, rfl, rfl, -⟩ := hI.slices
  obtain ⟨A, cc, rfl, -⟩ := hrl
  injection e3 with e3
  subst e3
  simp only [List.cons.injEq, Value.slice.injEq] at e
  simp only at lr e
  omega
theorem box_at {w : World} {F : Nat → Prop} {B T N R : Nat} {A1 A2 A3 : Option Addr} {c1 c2 c3 : Nat} {G : GramD} {st : Int} (h : IsGram w F (.slice A1 T c1) (.slice A2 N c2) (.slice A3 R c3) G) (k : Blk w B 25 #[.slice A1 T c1, .slice A2 N c2, .slice A3 R c3, .int .i64 st]) : GBox w F B A1 c1 A2 c2 A3 c3 T N R st G := by
  have x := GBox.new h st
  exact ⟨h, k, x.t, x.n, x.r, x.tc, x.nc, x.rc, x.c1m, x.c2m, x.c3m, x.ts, x.ns, x.rs⟩
/-- the two grammars and the rule, boxed -/
structure MTwo (w wr : World) (A1 : Option Addr) (c1 : Nat) (A2 : Option Addr) (c2 : Nat) (A3 : Option Addr) (c3 T N R : Nat) (st : Int) (G : GramD) (l : Int) (xs : List Int) (Au : Option Addr) (nu cu : Nat) (F' : Nat → Prop) (A5 : Option Addr) (c5 : Nat) : Prop where
  g : GBox wr (· < w.heap.size) w.heap.size A1 c1 A2 c2 A3 c3 T N R st G
  h : GBox wr F' (w.heap.size + 1 + 1) A1 c1 A2 c2 A5 c5 T N (R + 1) st (moreG G (l, xs) st)
  r : Blk wr (w.heap.size + 1) 30 #[.int .i64 l, .slice Au nu cu]
  u : nu ≤ cu ∧ cu ≤ 9223372036854775807
  b : Below w.heap.size w wr
section
variable {w wr wr' : World} {A1 : Option Addr} {c1 : Nat} {A2 : Option Addr} {c2 : Nat} {A3 : Option Addr} {c3 T N R : Nat} {st : Int} {G : GramD} {l : Int} {xs : List Int} {Au : Option Addr} {nu cu : Nat} {F' : Nat → Prop} {A5 : Option Addr} {c5 : Nat}
theorem MTwo.below (h : MTwo w wr A1 c1 A2 c2 A3 c3 T N R st G l xs Au nu cu F' A5 c5) (b : Below wr.heap.size wr wr') : MTwo w wr' A1 c1 A2 c2 A3 c3 T N R st G l xs Au nu cu F' A5 c5 :=
  ⟨h.g.below b, h.h.below b, h.r.below b h.r.lt, h.u, h.b.trans (b.mono h.b.size)⟩
theorem MTwo.cells (h : MTwo w wr A1 c1 A2 c2 A3 c3 T N R st G l xs Au nu cu F' A5 c5) : (wr.cell? ⟨w.heap.size, 0, none⟩ = some (.slice A1 T c1) ∧ wr.cell? ⟨w.heap.size, 1, none⟩ = some (.slice A2 N c2) ∧ wr.cell? ⟨w.heap.size, 2, none⟩ = some (.slice A3 R c3) ∧ wr.cell? ⟨w.heap.size, 3, none⟩ = some (.int .i64 st)) ∧
    (wr.cell? ⟨w.heap.size + 1 + 1, 0, none⟩ = some (.slice A1 T c1) ∧ wr.cell? ⟨w.heap.size + 1 + 1, 1, none⟩ = some (.slice A2 N c2) ∧ wr.cell? ⟨w.heap.size + 1 + 1, 2, none⟩ = some (.slice A5 (R + 1) c5) ∧ wr.cell? ⟨w.heap.size + 1 + 1, 3, none⟩ = some (.int .i64 st)) ∧
    (wr.cell? ⟨w.heap.size + 1, 0, none⟩ = some (.int .i64 l) ∧ wr.cell? ⟨w.heap.size + 1, 1, none⟩ = some (.slice Au nu cu)) :=
  ⟨h.g.cells, h.h.cells, (h.r.cell 0).trans rfl, (h.r.cell 1).trans rfl⟩
theorem MTwo.make {rvs : List ((Int × List Int) × Value)} (hg : IsGram w (· < w.heap.size) (.slice A1 T c1) (.slice A2 N c2) (.slice A3 R c3) G) (hu : RdI w (· < w.heap.size) (.slice Au nu cu) xs) (er : rvs.map (·.1) = G.rules) (hrv : ∀ p ∈ rvs, RdI w (· < w.heap.size) p.2 p.1.2) (el : rvs.length = R) (hT : G.terms.length = T) (hN : G.nons.length = N) (hR : G.rules.length = R) (s3 : R ≤ 4398046511102)
    (hl : -9223372036854775808 ≤ l ∧ l ≤ 9223372036854775807) (hx : xs.length ≤ 17592186044416 ∧ ∀ x ∈ xs, -9223372036854775808 ≤ x ∧ x ≤ 9223372036854775807)
    (d1 : Below w.heap.size w wr) (d2 : Blk wr w.heap.size 25 #[.slice A1 T c1, .slice A2 N c2, .slice A3 R c3, .int .i64 st]) (d3 : Blk wr (w.heap.size + 1) 30 #[.int .i64 l, .slice Au nu cu]) (d4 : Blk wr (w.heap.size + 1 + 1) 25 #[.slice A1 T c1, .slice A2 N c2, .slice A5 (R + 1) c5, .int .i64 st])
    (d5 : wr.ownsRow (w.heap.size + 3) 30 2 (.slice A5 (R + 1) c5) (R + 1) (flatR rvs ++ [.int .i64 l, .slice Au nu cu])) (hF : F' = fun k => k < wr.heap.size) : MTwo w wr A1 c1 A2 c2 A3 c3 T N R st G l xs Au nu cu F' A5 c5 := by
  subst hF
  obtain ⟨hn, hnc, hcm, -⟩ := hu.at_
  exact ⟨box_at (hg.below d1) d2, box_at (IsGram.more hg hu er (by omega) hrv d5 d1 (by omega) hl hx) d4, d3, ⟨hnc, by unfold maxLen at hcm; omega⟩, d1⟩
end

set_option maxRecDepth 100000 in
set_option maxHeartbeats 8000000 in
theorem walk_LiveMore0 (C : Array Value) (G : GramD) (D : Array Value) (l : Int) (xs : List Int) (u : Value) (w : World) (hg : GramCells w C.toList G) (hgl : G.rules.length ≤ 4398046511102) (hD : D = #[.int .i64 l, u]) (hu : RdI w (· < w.heap.size) u xs) (hl : -9223372036854775808 ≤ l ∧ l ≤ 9223372036854775807) (hx : xs.length ≤ 17592186044416 ∧ ∀ x ∈ xs, -9223372036854775808 ≤ x ∧ x ≤ 9223372036854775807) :
    Calls Try.prog 12 #[.agg C, .agg D] w (Quiet w (.bool true)) := by
  obtain ⟨vt, vn, vr, hC, hg, -⟩ := hg
  obtain rfl : C = #[vt, vn, vr, .int .i64 G.start] := Array.toList_inj.1 hC
  subst hD
  clear hC
  generalize G.start = st at *
  obtain ⟨A1, c1, A2, c2, A3, c3, rfl, rfl, rfl, -⟩ := hg.slices
  obtain ⟨Au, nu, cu, rfl, -⟩ := id hu
  obtain ⟨rvs, er, el, hrv, hrd⟩ := rules_flat hg.rules
  obtain ⟨gb, hgb⟩ : ∃ gb : Obj, gb = .cells #[.slice A1 G.terms.length c1, .slice A2 G.nons.length c2, .slice A3 G.rules.length c3, .int .i64 st] 25 := ⟨_, rfl⟩
  obtain ⟨rb, hrb⟩ : ∃ rb : Obj, rb = .cells #[.int .i64 l, .slice Au nu cu] 30 := ⟨_, rfl⟩
  have s0 : MSt w (((w.alloc gb).alloc rb).alloc gb) A1 c1 A2 c2 A3 c3 G.terms.length G.nons.length G.rules.length st l (.slice Au nu cu) :=
    ⟨((((Below.refl _ w).alloc (Nat.le_refl _) _).alloc (by simp) _).alloc (by simp; omega) _), by simp, by rw [hgb, hrb]; exact (((Blk.new w _ _).alloc _).alloc _), by
      rw [hgb, hrb]; have := ((Blk.new (w.alloc gb) 30 #[.int .i64 l, .slice Au nu cu]).alloc gb); rw [hgb] at this; simpa using this, by
      rw [hgb, hrb]; have := (Blk.new ((w.alloc gb).alloc rb) 25 #[.slice A1 G.terms.length c1, .slice A2 G.nons.length c2, .slice A3 G.rules.length c3, .int .i64 st]); rw [hgb, hrb] at this; simpa using this⟩
  have ln1 : (flatR rvs).length = G.rules.length * 2 := by rw [flatR_length, el]
  have ones := flatR_oneCell rvs _ w hrv
  have s3 := hgl
  clear hgl
  generalize hT : G.terms.length = T at *
  generalize hN : G.nons.length = N at *
  generalize hR : G.rules.length = R at *
  have m1 : 0 + R ≤ maxLen := by unfold maxLen; omega
  have m2 : (0 + R) * 32 ≤ 140737488355328 := by omega
  have m3 : R + 1 ≤ maxLen := by unfold maxLen; omega
  have m4 : (R + 1) * 32 ≤ 140737488355328 := by omega
  have own0 : ∀ W : World, w.heap.size + 3 ≤ W.heap.size → World.ownsRow (W.alloc (.cells #[] 30)) (w.heap.size + 3) 30 2 (.slice (some ⟨W.heap.size, 0, none⟩) 0 0) 0 [] := fun W hW => by
    have := World.ownsRow_made (base := w.heap.size + 3) (e := 30) (size := 2) W #[] 0 hW (by decide) rfl
    exact this
  rw [hgb, hrb] at s0
  obtain ⟨W0, hW0⟩ : ∃ W0 : World, W0 = ((w.alloc (.cells #[.slice A1 T c1, .slice A2 N c2, .slice A3 R c3, .int .i64 st] 25)).alloc (.cells #[.int .i64 l, .slice Au nu cu] 30)).alloc (.cells #[.slice A1 T c1, .slice A2 N c2, .slice A3 R c3, .int .i64 st] 25) := ⟨_, rfl⟩
  rw [← hW0] at s0
  have hz0 : W0.heap.size = w.heap.size + 1 + 1 + 1 := by rw [hW0]; simp
  have sA := (s0.alloc (.cells #[] 30)).drew
  have sB := ((s0.alloc (.cells #[.int .i64 l, .slice Au nu cu] 30)).alloc (.cells #[] 30)).drew
  have sC := ((s0.alloc (.cells #[] 30)).alloc (.cells #[.int .i64 l, .slice Au nu cu] 30)).drew
  have o1 := own0 W0 (by omega)
  have o2 := own0 (W0.alloc (.cells #[.int .i64 l, .slice Au nu cu] 30)) (by simp; omega)
  have o3 := own_below' o1 ((Below.refl _ (W0.alloc (.cells #[] 30))).alloc (Nat.le_refl _) (.cells #[.int .i64 l, .slice Au nu cu] 30))
  have kB := ((Blk.new W0 30 #[.int .i64 l, .slice Au nu cu]).alloc (.cells #[] 30)).drew
  have kC := (Blk.new (W0.alloc (.cells #[] 30)) 30 #[.int .i64 l, .slice Au nu cu]).drew
  simp only [World.size_alloc, hz0] at o1 o2 o3 kB kC
  have r1 := hrd.below sA.b (fun k hk => hk)
  have r2 := hrd.below sB.b (fun k hk => hk)
  have r3 := hrd.below sC.b (fun k hk => hk)
  have q := s0.drew.cells
  have qA := (s0.alloc (.cells #[] 30)).drew.cells
  have qB := (s0.alloc (.cells #[.int .i64 l, .slice Au nu cu] 30)).drew.cells
  have qAB := sB.cells
  have qAC := sC.cells
  replace q := And.intro q.1 (And.intro q.2.1 q.2.2.1)
  replace qA := And.intro qA.1 (And.intro qA.2.1 qA.2.2.1)
  replace qB := And.intro qB.1 (And.intro qB.2.1 qB.2.2.1)
  replace qAB := And.intro qAB.1 (And.intro qAB.2.1 qAB.2.2.1)
  replace qAC := And.intro qAC.1 (And.intro qAC.2.1 qAC.2.2.1)
  rw [hW0] at q qA qB qAB qAC s0 sA sB sC o1 o2 o3 kB kC r1 r2 r3
  clear hW0 hz0
  clear own0
  have Xs0 := hide s0
  have Xln1 := hide ln1
  have Xones := hide ones
  have Xs3 := hide s3
  have XhT := hide hT
  have XhN := hide hN
  have XhR := hide hR
  have Xhg := hide hg
  have Xhu := hide hu
  have Xhrv := hide hrv
  have Xhrd := hide hrd
  have Xer := hide er
  have Xel := hide el
  have Xhl := hide hl
  have Xhx := hide hx
  have Xm1 := hide m1
  have Xm2 := hide m2
  have Xm3 := hide m3
  have Xm4 := hide m4
  have XsA := hide sA
  have XsB := hide sB
  have XsC := hide sC
  have Xo1 := hide o1
  have Xo2 := hide o2
  have Xo3 := hide o3
  have XkB := hide kB
  have XkC := hide kC
  have Xr1 := hide r1
  have Xr2 := hide r2
  have Xr3 := hide r3
  clear s0 ln1 ones s3 hT hN hR hg hu hrv hrd er el hl hx m1 m2 m3 m4 sA sB sC o1 o2 o3 kB kC r1 r2 r3
  clear hgb hrb
  go_enter Try.func12, Try.ntmps12
  go_wp2_with fail
  go_region_held3 (fun w' => w'.cell? ⟨w.heap.size, 2, none⟩ = some (.slice A3 R c3) ∧ w'.cell? ⟨w.heap.size + 1, 0, none⟩ = some (.int .i64 l) ∧ w'.cell? ⟨w.heap.size + 1, 1, none⟩ = some (.slice Au nu cu))
    (first | assumption | go_keep)
    (first
      | (refine step_append _ rfl (.tmp 7) (.tmp 9) _ rfl Try.elemRule (w.heap.size + 3) (.slice (some ⟨w.heap.size + 1 + 1 + 1, 0, none⟩) 0 0) 0 [] rfl Xo1.out _ _ _ R rfl Xln1.out Xr1.out Xones.out Xm1.out Xm2.out XsA.out.z ?_; intro A4 c4 w4 hown4 hg4 hb4; have hown4' := hown4; rw [Nat.zero_add] at hown4; have st4 := XsA.out.grown hg4 (fun k hk => (Xo1.out.lt k hk).1); obtain ⟨i1, i2, i3, -⟩ := st4.cells; have k4 := And.intro i1 (And.intro i2 i3); obtain ⟨j1, j2, j3, -⟩ := (st4.alloc (.cells #[.int .i64 l, .slice Au nu cu] 30)).cells; have k4b := And.intro j1 (And.intro j2 j3))
      | (refine step_append _ rfl (.tmp 7) (.tmp 9) _ rfl Try.elemRule (w.heap.size + 3) (.slice (some ⟨w.heap.size + 1 + 1 + 1 + 1, 0, none⟩) 0 0) 0 [] rfl Xo2.out _ _ _ R rfl Xln1.out Xr2.out Xones.out Xm1.out Xm2.out XsB.out.z ?_; intro A4 c4 w4 hown4 hg4 hb4; have hown4' := hown4; rw [Nat.zero_add] at hown4; have st4 := XsB.out.grown hg4 (fun k hk => (Xo2.out.lt k hk).1); obtain ⟨i1, i2, i3, -⟩ := st4.cells; have k4 := And.intro i1 (And.intro i2 i3); have rb4 := rd_blk (Blk.grown XkB.out hg4 (by simp [Value.ownBlock])))
      | (refine step_append _ rfl (.tmp 7) (.tmp 9) _ rfl Try.elemRule (w.heap.size + 3) (.slice (some ⟨w.heap.size + 1 + 1 + 1, 0, none⟩) 0 0) 0 [] rfl Xo3.out _ _ _ R rfl Xln1.out Xr3.out Xones.out Xm1.out Xm2.out XsC.out.z ?_; intro A4 c4 w4 hown4 hg4 hb4; have hown4' := hown4; rw [Nat.zero_add] at hown4; have st4 := XsC.out.grown hg4 (fun k hk => (Xo3.out.lt k hk).1); obtain ⟨i1, i2, i3, -⟩ := st4.cells; have k4 := And.intro i1 (And.intro i2 i3); have rb4 := rd_blk (Blk.grown XkC.out hg4 (by simp [Value.ownBlock])))
      | (refine step_append _ rfl (.tmp 10) (.tmp 12) _ rfl Try.elemRule (w.heap.size + 3) _ (0 + R) _ rfl hown4' _ _ [.int .i64 l, .slice Au nu cu] 1 rfl rfl rb4 (by simp [Value.oneCell']) (by rw [Nat.zero_add]; exact Xm3.out) (by rw [Nat.zero_add]; exact Xm4.out) st4.z ?_; intro A5 c5 w5 hown5 hg5 hb5; rw [Nat.zero_add] at hown5; have st5 := st4.grown hg5 (fun k hk => (hown4'.lt k hk).1); obtain ⟨p1, p2, p3, p4, p5⟩ := st5.cells; have k5 := And.intro p1 (And.intro p2 p3); have st6 := st5.put (.slice A5 (R + 1) c5); obtain ⟨t1, t2, t3, -⟩ := st6; obtain ⟨v1, v2, v3, -⟩ := st5.put (.slice A5 (0 + R + 1) c5); have k7 := And.intro v1 (And.intro v2 v3); have k6 := And.intro t1 (And.intro t2 t3))
      | (refine step_append _ rfl (.tmp 10) (.tmp 12) _ rfl Try.elemRule (w.heap.size + 3) _ R _ rfl (own_below' hown4 ((Below.refl _ w4).alloc (Nat.le_refl _) _)) _ _ [.int .i64 l, .slice Au nu cu] 1 rfl rfl (Rd.one [.int .i64 l, .slice Au nu cu] 2 rfl) (by simp [Value.oneCell']) Xm3.out Xm4.out (st4.alloc _).z ?_; intro A5 c5 w5 hown5 hg5 hb5; have st5 := (st4.alloc _).grown hg5 (fun k hk => (hown4.lt k hk).1); obtain ⟨p1, p2, p3, p4, p5⟩ := st5.cells; have k5 := And.intro p1 (And.intro p2 p3); have st6 := st5.put (.slice A5 (R + 1) c5); obtain ⟨t1, t2, t3, -⟩ := st6; have k6 := And.intro t1 (And.intro t2 t3)))
  all_goals
    obtain ⟨d1, d2, d3, d4, d5⟩ := st5.done hown5
    obtain ⟨w6, hw6⟩ : ∃ w6 : World, w6 = w5.setCell ⟨w.heap.size + 1 + 1, 2, none⟩ (.slice A5 (R + 1) c5) := ⟨_, rfl⟩
    rw [← hw6] at d1 d2 d3 d4 d5 ⊢
    have u0 := d2.cell 0
    have u1 := d2.cell 1
    have u2 := d2.cell 2
    have u3 := d2.cell 3
    clear p1 p2 p3 p4 p5 k5 k6 t1 t2 t3 hg5 hb5 hw6 st5 q qA qB qAB qAC
    obtain ⟨F', hF⟩ : ∃ F' : Nat → Prop, F' = fun k => k < w6.heap.size := ⟨_, rfl⟩
    have x6 := MTwo.make Xhg.out Xhu.out Xer.out Xhrv.out Xel.out XhT.out XhN.out XhR.out Xs3.out Xhl.out Xhx.out d1 d2 d3 d4 d5 hF
    have hm := law_much x6.g.gram st
    have cK := fun wr (g : MTwo w wr A1 c1 A2 c2 A3 c3 T N R st G l xs Au nu cu F' A5 c5) => ref_check g.g.gram st
    have cK2 := fun wr (g : MTwo w wr A1 c1 A2 c2 A3 c3 T N R st G l xs Au nu cu F' A5 c5) => ref_check g.h.gram st
    have cP := fun wr (g : MTwo w wr A1 c1 A2 c2 A3 c3 T N R st G l xs Au nu cu F' A5 c5) => live_productives g.g.gram st
    have cP2 := fun wr (g : MTwo w wr A1 c1 A2 c2 A3 c3 T N R st G l xs Au nu cu F' A5 c5) => live_productives g.h.gram st
    have cR := fun wr (g : MTwo w wr A1 c1 A2 c2 A3 c3 T N R st G l xs Au nu cu F' A5 c5) => live_reacheds g.g.gram st
    have cR2 := fun wr (g : MTwo w wr A1 c1 A2 c2 A3 c3 T N R st G l xs Au nu cu F' A5 c5) => live_reacheds g.h.gram st
    have hpp := @more_productive G (l, xs) st
    have hrr := @more_reached G (l, xs) st
    clear Xhg Xhu Xer Xhrv Xhrd Xel XhT XhN XhR Xs3 Xhl Xhx Xln1 Xones Xm1 Xm2 Xm3 Xm4 XsA XsB XsC Xo1 Xo2 Xo3 XkB XkC Xr1 Xr2 Xr3 Xs0
    clear d1 d2 d3 d4 d5 hF
    generalize productiveOf G st = p1 at *
    generalize productiveOf (moreG G (l, xs) st) st = p2 at *
    generalize reachedOf G st = r1 at *
    generalize reachedOf (moreG G (l, xs) st) st = r2 at *
    generalize checkOf G st = k1 at *
    generalize checkOf (moreG G (l, xs) st) st = k2 at *
    have Xx6 := hide x6
    have Xhm := hide hm
    have XcK := hide cK
    have XcK2 := hide cK2
    have XcP := hide cP
    have XcP2 := hide cP2
    have XcR := hide cR
    have XcR2 := hide cR2
    have Xhpp := hide hpp
    have Xhrr := hide hrr
    clear x6 hm cK cK2 cP cP2 cR cR2 hpp hrr
    go_wp2_with fail
    with_reducible refine Xhm.out.mono ?_
    rintro e w7 ⟨r, hr, rfl, b7⟩
    have x7 := Xx6.out.below b7
    clear u0 u1 u2 u3 Xhm hr b7 Xx6
    obtain ⟨⟨u0, u1, u2, u3⟩, ⟨y0, y1, y2, y3⟩, z0, z1⟩ := x7.cells
    obtain ⟨hu1, hu2⟩ := x7.u
    by_cases hbig : 200 < r
    · have Xx7 := hide x7
      clear x7
      go_wp2_with fail
      with_reducible refine (law09_awake _).mono ?_
      rintro e w8 ⟨rfl, b8⟩
      have hb8 := Xx7.out.b.trans (b8.mono Xx7.out.b.size)
      go_wp2_with fail
      go_ret
      exact ⟨rfl, hb8⟩
    by_cases hlong : 20 < nu
    · have Xx7 := hide x7
      clear x7
      go_wp2_with fail
      with_reducible refine (law09_awake _).mono ?_
      rintro e w8 ⟨rfl, b8⟩
      have hb8 := Xx7.out.b.trans (b8.mono Xx7.out.b.size)
      go_wp2_with fail
      go_ret
      exact ⟨rfl, hb8⟩
    have Xx7 := hide x7
    clear x7
    go_wp2_with fail
    with_reducible refine (XcK.out _ Xx7.out).mono ?_
    rintro e w8 ⟨rfl, b8⟩
    have x8 := Xx7.out.below b8
    clear u0 u1 u2 u3 y0 y1 y2 y3 z0 z1 XcK b8 Xx7
    obtain ⟨⟨u0, u1, u2, u3⟩, ⟨y0, y1, y2, y3⟩, z0, z1⟩ := x8.cells
    by_cases hk1 : k1 = 0
    case neg =>
      have hk1' : (k1 != 0) = true := by simpa using hk1
      have Xx8 := hide x8
      clear x8
      go_wp2_with fail
      with_reducible refine (law09_awake _).mono ?_
      rintro e w9 ⟨rfl, b9⟩
      have hb9 := Xx8.out.b.trans (b9.mono Xx8.out.b.size)
      go_wp2_with fail
      go_ret
      exact ⟨rfl, hb9⟩
    subst hk1
    have Xx8 := hide x8
    clear x8
    go_wp2_with fail
    with_reducible refine (XcK2.out _ Xx8.out).mono ?_
    rintro e w9 ⟨rfl, b9⟩
    have x9 := Xx8.out.below b9
    clear u0 u1 u2 u3 y0 y1 y2 y3 z0 z1 XcK2 b9 Xx8
    obtain ⟨⟨u0, u1, u2, u3⟩, ⟨y0, y1, y2, y3⟩, z0, z1⟩ := x9.cells
    by_cases hk2 : k2 = 0
    case neg =>
      have hk2' : (k2 != 0) = true := by simpa using hk2
      have Xx9 := hide x9
      clear x9
      go_wp2_with fail
      with_reducible refine (law09_awake _).mono ?_
      rintro e w10 ⟨rfl, b10⟩
      have hb10 := Xx9.out.b.trans (b10.mono Xx9.out.b.size)
      go_wp2_with fail
      go_ret
      exact ⟨rfl, hb10⟩
    subst hk2
    have e1 := Xhpp.out (by first | rfl | trivial) (by first | rfl | trivial)
    have e2 := Xhrr.out (by first | rfl | trivial) (by first | rfl | trivial)
    clear Xhpp Xhrr
    have Xe1 := hide e1
    have Xe2 := hide e2
    have Xx9 := hide x9
    clear e1 e2 x9
    go_upto_region 5 with fail
    have td := Xx9.out.below ((Below.refl _ w9).drew)
    clear u0 u1 u2 u3 y0 y1 y2 y3 z0 z1
    obtain ⟨⟨u0, u1, u2, u3⟩, ⟨y0, y1, y2, y3⟩, z0, z1⟩ := td.cells
    have Xtd := hide td
    clear td
    go_region_held3 (fun w' => (w'.cell? ⟨w.heap.size, 0, none⟩ = some (.slice A1 T c1) ∧ w'.cell? ⟨w.heap.size, 1, none⟩ = some (.slice A2 N c2) ∧ w'.cell? ⟨w.heap.size, 2, none⟩ = some (.slice A3 R c3) ∧ w'.cell? ⟨w.heap.size, 3, none⟩ = some (.int .i64 st)) ∧
        (w'.cell? ⟨w.heap.size + 1 + 1, 0, none⟩ = some (.slice A1 T c1) ∧ w'.cell? ⟨w.heap.size + 1 + 1, 1, none⟩ = some (.slice A2 N c2) ∧ w'.cell? ⟨w.heap.size + 1 + 1, 2, none⟩ = some (.slice A5 (R + 1) c5) ∧ w'.cell? ⟨w.heap.size + 1 + 1, 3, none⟩ = some (.int .i64 st)) ∧
        (w'.cell? ⟨w.heap.size + 1, 0, none⟩ = some (.int .i64 l) ∧ w'.cell? ⟨w.heap.size + 1, 1, none⟩ = some (.slice Au nu cu)))
      (first | assumption | exact Xtd.out.cells | go_keep)
      (first
        | (go_at_call 56; (with_reducible refine (XcP.out _ Xtd.out).mono ?_); rintro e wa ⟨Aa, na, ca, rfl, hra, ba⟩; have ta := Xtd.out.below ba; have ka := ta.cells)
        | (go_at_call 56; (with_reducible refine (XcP2.out _ ta).mono ?_); rintro e wb ⟨Ab, nb, cb, rfl, hrb, bb⟩; have tb := ta.below bb; have kb := tb.cells; have hI1 := law_within (hra.below bb (fun k hk => hk.2)) hrb; rw [Xe1.out] at hI1)
        | (go_at_call 60; (with_reducible refine hI1.mono ?_); rintro e wc ⟨rfl, bc⟩; have tc := tb.below bc; have kc := tc.cells)
        | (go_at_call 58; (with_reducible refine (XcR.out _ tc).mono ?_); rintro e wd ⟨Ad, nd, cd, rfl, hrd, bd⟩; have te := tc.below bd; have ke := te.cells)
        | (go_at_call 58; (with_reducible refine (XcR2.out _ te).mono ?_); rintro e wf ⟨Af, nf, cf, rfl, hrf, bf⟩; have tf := te.below bf; have kf := tf.cells; have hI2 := law_within (hrd.below bf (fun k hk => hk.2)) hrf; rw [Xe2.out] at hI2)
        | (go_at_call 60; (with_reducible refine hI2.mono ?_); rintro e wi ⟨rfl, bi⟩; have ti := tf.below bi; have ki := ti.cells)
        | (go_at_call 50; (with_reducible refine (law09_awake _).mono ?_); rintro e wl ⟨rfl, bl⟩; have tl := ti.below bl; have kl := tl.cells))
    go_wp2_with fail
    go_ret
    exact ⟨rfl, tl.b⟩
theorem walk_LiveMore (C : Array Value) (G : GramD) (D : Array Value) (r : Int × List Int) (w : World) (hg : GramCells w C.toList G ∧ G.rules.length ≤ 4398046511102)
    (hr : ∃ c0 c1, D.toList = [c0, c1] ∧ ([c0] = [Value.int .i64 r.1] ∧ (Lit.int .i64 r.1).wf = true) ∧ ∃ v, [c1] = [v] ∧ RdL w (· < w.heap.size) 1 (fun cs n => cs = [.int .i64 n] ∧ (Lit.int .i64 n).wf = true) v r.2 ∧ r.2.length * 8 ≤ 140737488351232) :
    Calls Try.prog 12 #[.agg C, .agg D] w (Quiet w (.bool true)) := by
  obtain ⟨c0, c1, hD, ⟨e0, w0⟩, v, e1, hv, hl⟩ := hr
  injection e0 with e0
  injection e1 with e1
  subst e0 e1
  obtain ⟨hv, hw⟩ := rdl_ints hv
  exact walk_LiveMore0 C G D r.1 r.2 c1 w hg.1 hg.2 (Array.toList_inj.1 hD) hv (wf_i64_iff w0) ⟨by omega, fun x hx => wf_i64_iff (hw x hx)⟩
end Go.Proofs.Ytejjaabkbkkjlaa

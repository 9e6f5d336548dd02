/- conchref09: only. -/
import Derived.Test.YtejjaabkbkkjlaaLiveR5
namespace Go.Proofs.Ytejjaabkbkkjlaa
set_option linter.unusedVariables false
open Go.RowKit
attribute [local irreducible] wpStill wpOne wpPh

structure OStL (w wr : World) (F : Nat → Prop) (A1 : Option Addr) (c1 : Nat) (A2 : Option Addr) (c2 : Nat) (A3 : Option Addr) (c3 T N R : Nat) (st : Int) (G : GramD) (F1 : Nat → Prop) (lv : Value) (l : List Int) (vt vn vr : Value) (s' : Int) (ts ns : List ByteArray) (rvs : List ((Int × List Int) × Value)) : Prop where
  t : GBox wr F w.heap.size A1 c1 A2 c2 A3 c3 T N R st G
  b : Below w.heap.size w wr
  zero : Blk wr (w.heap.size + 1) 25 #[.slice none 0 0, .slice none 0 0, .slice none 0 0, .int .i64 0]
  lst : RdI wr F1 lv l
  g : Grow wr (w.heap.size + 3) (w.heap.size + 2) vt vn vr s' ts ns rvs
  hF : ∀ k, F k → k < w.heap.size
  hl : ∀ k, F1 k → k < w.heap.size
  hz : w.heap.size + 3 ≤ wr.heap.size
section
variable {w wr wr' w2 : World} {F : Nat → Prop} {A1 : Option Addr} {c1 : Nat} {A2 : Option Addr} {c2 : Nat} {A3 : Option Addr} {c3 T N R : Nat} {st : Int} {G : GramD} {F1 : Nat → Prop} {lv : Value} {l : List Int} {vt vn vr v : Value} {s' : Int} {ts ns : List ByteArray} {rvs : List ((Int × List Int) × Value)}
theorem OStL.below (h : OStL w wr F A1 c1 A2 c2 A3 c3 T N R st G F1 lv l vt vn vr s' ts ns rvs) (hb : Below wr.heap.size wr wr') : OStL w wr' F A1 c1 A2 c2 A3 c3 T N R st G F1 lv l vt vn vr s' ts ns rvs :=
  ⟨h.t.below hb, h.b.trans (hb.mono h.b.size), h.zero.below hb h.zero.lt, h.lst.below hb (fun k hk => Nat.lt_of_lt_of_le (h.hl k hk) h.b.size), h.g.below hb, h.hF, h.hl, Nat.le_trans h.hz hb.size⟩
theorem OStL.turned {vt' vn' vr' : Value} {s2 : Int} {ts' ns' : List ByteArray} {rvs' : List ((Int × List Int) × Value)} (h : OStL w wr F A1 c1 A2 c2 A3 c3 T N R st G F1 lv l vt vn vr s' ts ns rvs) (ht : Touch (fun k => w.heap.size + 2 ≤ k) wr wr') (hg : Grow wr' (w.heap.size + 3) (w.heap.size + 2) vt' vn' vr' s2 ts' ns' rvs') :
    OStL w wr' F A1 c1 A2 c2 A3 c3 T N R st G F1 lv l vt' vn' vr' s2 ts' ns' rvs' :=
  ⟨h.t.touch ht (fun k hk hk' => by have := h.hF k hk; omega) (by omega), h.b.trans (ht.below (fun k hk _ hk' => by omega) h.b.size), h.zero.touch ht (by omega), h.lst.touch ht (fun k hk hk' => by have := h.hl k hk; omega), hg, h.hF, h.hl, Nat.le_trans h.hz ht.size⟩
theorem OStL.grownBoxes (h : OStL w wr F A1 c1 A2 c2 A3 c3 T N R st G F1 lv l vt vn vr s' ts ns rvs) {row : Option Nat} (hg : wr.grownBy w2 row) (hr : ∀ k, row = some k → w.heap.size + 3 ≤ k) : Blk w2 (w.heap.size + 2) 25 #[vt, vn, vr, .int .i64 s'] := by
  have ht : Touch (fun k => w.heap.size + 3 ≤ k) wr w2 := (Touch.refl _ wr).grown hg (fun k hk _ => hr k hk)
  exact h.g.blk.touch ht (by omega)
theorem OStL.touch_row (h : OStL w wr F A1 c1 A2 c2 A3 c3 T N R st G F1 lv l vt vn vr s' ts ns rvs) {row : Option Nat} (hg : wr.grownBy w2 row) (hr : ∀ k, row = some k → w.heap.size + 3 ≤ k) (i : Nat) : Touch (fun k => w.heap.size + 2 ≤ k) wr (w2.setCell ⟨w.heap.size + 2, i, none⟩ v) :=
  ((Touch.refl (fun k => w.heap.size + 2 ≤ k) wr).grown hg (fun k hk _ => by have := hr k hk; omega)).setCell (fun _ => Nat.le_refl _) v
theorem OStL.addT {s : ByteArray} (h : OStL w wr F A1 c1 A2 c2 A3 c3 T N R st G F1 lv l vt vn vr s' ts ns rvs) (hg : wr.grownBy w2 vt.ownBlock) (ho : w2.ownsRow (w.heap.size + 3) 9 1 v (ts.length + 1) (ts.map Value.string ++ [.string s])) (hv : v.ownBlock = vt.ownBlock ∨ v.ownBlock = some wr.heap.size) :
    OStL w (w2.setCell ⟨w.heap.size + 2, 0, none⟩ v) F A1 c1 A2 c2 A3 c3 T N R st G F1 lv l v vn vr s' (ts ++ [s]) ns rvs :=
  h.turned (h.touch_row hg (fun k hk => (h.g.t.lt k hk).1) 0) (h.g.addT hg ho hv)
theorem OStL.addN {s : ByteArray} (h : OStL w wr F A1 c1 A2 c2 A3 c3 T N R st G F1 lv l vt vn vr s' ts ns rvs) (hg : wr.grownBy w2 vn.ownBlock) (ho : w2.ownsRow (w.heap.size + 3) 9 1 v (ns.length + 1) (ns.map Value.string ++ [.string s])) (hv : v.ownBlock = vn.ownBlock ∨ v.ownBlock = some wr.heap.size) :
    OStL w (w2.setCell ⟨w.heap.size + 2, 1, none⟩ v) F A1 c1 A2 c2 A3 c3 T N R st G F1 lv l vt v vr s' ts (ns ++ [s]) rvs :=
  h.turned (h.touch_row hg (fun k hk => (h.g.n.lt k hk).1) 1) (h.g.addN hg ho hv)
theorem OStL.addR {x : Int} {xs : List Int} {u : Value} (h : OStL w wr F A1 c1 A2 c2 A3 c3 T N R st G F1 lv l vt vn vr s' ts ns rvs) (hg : wr.grownBy w2 vr.ownBlock) (ho : w2.ownsRow (w.heap.size + 3) 30 2 v (rvs.length + 1) (flatR rvs ++ [.int .i64 x, u])) (hu : wr.ownsRow (w.heap.size + 3) 3 1 u xs.length (xs.map I64)) :
    OStL w (w2.setCell ⟨w.heap.size + 2, 2, none⟩ v) F A1 c1 A2 c2 A3 c3 T N R st G F1 lv l vt vn v s' ts ns (rvs ++ [((x, xs), u)]) :=
  h.turned (h.touch_row hg (fun k hk => (h.g.r.lt k hk).1) 2) (h.g.addR hg ho hu)
theorem OStL.start (h : OStL w wr F A1 c1 A2 c2 A3 c3 T N R st G F1 lv l vt vn vr s' ts ns rvs) (x : Int) :
    OStL w (wr.setCell ⟨w.heap.size + 2, 3, none⟩ (.int .i64 x)) F A1 c1 A2 c2 A3 c3 T N R st G F1 lv l vt vn vr x ts ns rvs :=
  h.turned ((Touch.refl (fun k => w.heap.size + 2 ≤ k) wr).setCell (fun _ => Nat.le_refl _) _) (h.g.start x)
end

set_option maxRecDepth 100000 in
set_option maxHeartbeats 8000000 in
theorem ref_only {w : World} {F F1 : Nat → Prop} {vt vn vr lv : Value} {G : GramD} (h : IsGram w F vt vn vr G) (st : Int) (hk : Kn G st) {l : List Int} (hl : RdI w F1 lv l) (hF1 : ∀ k, F1 k → k < w.heap.size) (hlr : ∀ x ∈ l, 1 ≤ x ∧ x ≤ (G.terms.length : Int) + G.nons.length) (hll : l.length ≤ 241) :
    Calls Try.prog 111 #[GV vt vn vr st, lv] w (GramPost w (onlyG G st l)) := by
  obtain ⟨A1, c1, A2, c2, A3, c3, rfl, rfl, rfl, -⟩ := h.slices
  obtain ⟨w1, hw1⟩ : ∃ w1, w1 = w.alloc (.cells #[.slice A1 G.terms.length c1, .slice A2 G.nons.length c2, .slice A3 G.rules.length c3, .int .i64 st] 25) := ⟨_, rfl⟩
  have g1 := GBox.new h st
  have b1 : Below w.heap.size w w1 := by rw [hw1]; exact (Below.refl _ w).alloc (Nat.le_refl _) _
  have z1 : w1.heap.size = w.heap.size + 1 := by rw [hw1]; simp
  rw [← hw1] at g1
  obtain ⟨w2, hw2⟩ : ∃ w2, w2 = w1.alloc (.cells #[.slice none 0 0, .slice none 0 0, .slice none 0 0, .int .i64 0] 25) := ⟨_, rfl⟩
  have b2 : Below w1.heap.size w1 w2 := by rw [hw2]; exact (Below.refl _ _).alloc (Nat.le_refl _) _
  have k2 : Blk w2 (w.heap.size + 1) 25 #[.slice none 0 0, .slice none 0 0, .slice none 0 0, .int .i64 0] := by rw [hw2, ← z1]; exact Blk.new _ _ _
  have z2 : w2.heap.size = w.heap.size + 2 := by rw [hw2]; simp; omega
  obtain ⟨w3, hw3⟩ : ∃ w3, w3 = w2.alloc (.cells #[.slice none 0 0, .slice none 0 0, .slice none 0 0, .int .i64 0] 25) := ⟨_, rfl⟩
  have b3 : Below w2.heap.size w2 w3 := by rw [hw3]; exact (Below.refl _ _).alloc (Nat.le_refl _) _
  have k3 : Blk w3 (w.heap.size + 2) 25 #[.slice none 0 0, .slice none 0 0, .slice none 0 0, .int .i64 0] := by rw [hw3, ← z2]; exact Blk.new _ _ _
  have z3 : w3.heap.size = w.heap.size + 3 := by rw [hw3]; simp; omega
  have bw3 : Below w.heap.size w w3 := (b1.trans (b2.mono b1.size)).trans (b3.mono (by omega))
  have o3 : OStL w w3 F A1 c1 A2 c2 A3 c3 G.terms.length G.nons.length G.rules.length st G F1 lv l (.slice none 0 0) (.slice none 0 0) (.slice none 0 0) 0 [] [] [] :=
    ⟨(g1.below b2).below b3, bw3, k2.below b3 k2.lt, hl.below bw3 hF1, ⟨k3, World.ownsRow_nil _ _ _ _, World.ownsRow_nil _ _ _ _, World.ownsRow_nil _ _ _ _, fun p hp => absurd hp (by simp), fun k hk => by simp [Value.ownBlock] at hk⟩, h.lt, hF1, by omega⟩
  obtain ⟨Al, nl, cl, rfl, -⟩ := id hl
  obtain ⟨hnl, hnc, hncm, -⟩ := RdI.at_ hl
  unfold maxLen at hncm
  have t0 := hk.t
  have t1 := hk.n
  have t2 := hk.r
  have hreach := h.reach
  have hwfs := h.wfs
  have hsm : G.terms.length + G.nons.length ≤ 65536 := by omega
  have hkr : ∀ r ∈ G.rules, (1 ≤ r.1 ∧ r.1 ≤ (G.terms.length : Int) + G.nons.length) ∧ ∀ x ∈ r.2, 1 ≤ x ∧ x ≤ (G.terms.length : Int) + G.nons.length := fun r hr => by
    obtain ⟨k1, k2⟩ := hk.k r hr
    rw [isNon_iff] at k1
    exact ⟨by omega, k2⟩
  have hfinG : onlyG G st l = ⟨tsq G l l.length, nsq G l l.length, rsq G l G.rules.length, placeOf l st⟩ := by
    unfold onlyG tsq nsq rsq
    rw [List.take_length, List.take_length]
  have htn : ∀ x, isTerm G x = true → nameOf G x ∈ G.terms := fun x => nameOf_term
  have hnn : ∀ x, (1 ≤ x ∧ x ≤ (G.terms.length : Int) + G.nons.length) → isTerm G x = false → nameOf G x ∈ G.nons := fun x hx hn => nameOf_non (by
    rw [isNon_iff]
    have : ¬ (isTerm G x = true) := by rw [hn]; simp
    rw [isTerm_iff] at this
    omega)
  generalize hT : G.terms.length = T at *
  generalize hN : G.nons.length = N at *
  generalize hR : G.rules.length = R at *
  subst hnl
  rw [hw3, hw2, hw1] at o3
  clear h hl k2 g1 b1 b2 b3 z1 z2 hk bw3 k3 z3 hw1 hw2 hw3
  have Xhreach := hide hreach
  have Xhwfs := hide hwfs
  have Xhkr := hide hkr
  have Xhlr := hide hlr
  have XhfinG := hide hfinG
  have Xhtn := hide htn
  have Xhnn := hide hnn
  have XhT := hide hT
  have XhN := hide hN
  have XhR := hide hR
  have Xo3 := hide o3
  have XhF1 := hide hF1
  have Xhsm := hide hsm
  clear hreach hwfs hkr hlr hfinG htn hnn hT hN hR o3 hF1 hsm
  go_enter Try.func111, Try.ntmps111
  go_wp2_with fail
  go_loopw [6] (fun i wr => ∃ (q : Nat) (At : Option Addr) (ct : Nat) (An : Option Addr) (cn : Nat), q ≤ l.length ∧ i = .int .i64 q ∧ OStL w wr F A1 c1 A2 c2 A3 c3 T N R st G F1 (.slice Al l.length cl) l (.slice At (tsq G l q).length ct) (.slice An (nsq G l q).length cn) (.slice none 0 0) 0 (tsq G l q) (nsq G l q) []) (fun i _ => l.length - (intOf i).toNat)
  case atStart => exact ⟨0, none, 0, none, 0, Nat.zero_le _, rfl, Xo3.out⟩
  case round =>
    clear Xo3
    obtain ⟨q, At, ct, An, cn, hq, rfl, o⟩ := hrel
    by_cases hlq : q < l.length
    · obtain ⟨-, -, -, hcell⟩ := RdI.at_ o.lst
      obtain ⟨bl, off, rfl, hbl, hcc⟩ := hcell (by omega)
      obtain ⟨x, hx⟩ : ∃ x, l[q]? = some x := ⟨_, List.getElem?_eq_getElem hlq⟩
      have hcx := hcc q x hx
      have hxm := List.mem_of_getElem? hx
      have hlq' : (q : Int) < (l.length : Int) := by omega
      have hlen := tsq_len G l q
      have hq2 : q ≤ 241 := by omega
      have od := o.below ((Below.refl _ wr).drew)
      have cm := ref_term od.t.gram st x
      obtain ⟨q0, q1, q2, q3⟩ := o.t.cells
      have kx : ∀ W, Below wr.drew.heap.size wr.drew W → W.cell? ⟨bl, off + q, none⟩ = some (.int .i64 x) := fun W hW => (hW.cell (p := ⟨bl, off + q, none⟩) (World.block_lt_of_cell? wr _ hcx)).trans hcx
      obtain ⟨l1, l2⟩ := hlen
      have hlen : True := trivial
      clear hcell hcc o
      cases ht : isTerm G x with
      | true =>
        rw [ht] at cm
        obtain ⟨u1, u2⟩ := tsq_yes hx ht
        have hpost : ∀ wr At' ct', OStL w wr F A1 c1 A2 c2 A3 c3 T N R st G F1 (.slice (some ⟨bl, off, none⟩) l.length cl) l (.slice At' ((tsq G l q).length + 1) ct') (.slice An (nsq G l q).length cn) (.slice none 0 0) 0 (tsq G l q ++ [nameOf G x]) (nsq G l q) [] → OStL w wr F A1 c1 A2 c2 A3 c3 T N R st G F1 (.slice (some ⟨bl, off, none⟩) l.length cl) l (.slice At' (tsq G l (q + 1)).length ct') (.slice An (nsq G l (q + 1)).length cn) (.slice none 0 0) 0 (tsq G l (q + 1)) (nsq G l (q + 1)) [] := fun wr At' ct' h => by
          rw [u1, u2, List.length_append]; exact h
        have Xod := hide od
        have Xkx := hide kx
        have Xhx := hide hx
        have Xhxm := hide hxm
        have Xhlen := hide hlen
        clear od kx hx hxm hlen
        generalize tsq G l q = ts at *
        generalize nsq G l q = ns at *
        clear u1 u2
        have Xcm := hide cm
        have Xht := hide ht
        have Xhpost := hide hpost
        clear cm ht hpost
        clear Xhlen
        go_wp2_with fail
        refine region_tail 5 (by kernel_rfl) (by kernel_rfl) ?_
        simp only [List.take_succ_cons, List.take_zero, List.drop_succ_cons, List.drop_zero]
        repeat still_step
        refine wpStill_nil ?_
        go_wp2_with fail
        with_reducible refine Xcm.out.mono ?_
        rintro e w6 ⟨rfl, b6⟩
        have o6 := Xod.out.below b6
        have cnm := ref_name (o6.below ((Below.refl _ w6).drew)).t.gram st x (by rw [XhT.out, XhN.out]; exact Xhsm.out)
        obtain ⟨nm, hnm⟩ : ∃ nm, nm = nameOf G x := ⟨_, rfl⟩
        rw [← hnm] at cnm
        obtain ⟨v0, v1, v2, v3⟩ := o6.g.box
        have hcx6 := (Xkx.out _ b6)
        clear q0 q1 q2 q3 Xcm hcx
        obtain ⟨q0, q1, q2, q3⟩ := o6.t.cells
        have Xo6 := hide o6
        have Xcnm := hide cnm
        have Xhnm := hide hnm
        clear o6 cnm hnm
        clear b6
        go_wp2_with fail
        refine region_late (fun w' => w'.cell? ⟨w.heap.size, 0, none⟩ = some (.slice A1 T c1) ∧ w'.cell? ⟨w.heap.size, 1, none⟩ = some (.slice A2 N c2) ∧ w'.cell? ⟨w.heap.size, 2, none⟩ = some (.slice A3 R c3) ∧ w'.cell? ⟨w.heap.size, 3, none⟩ = some (.int .i64 st) ∧ w'.cell? ⟨w.heap.size + 1 + 1, 0, none⟩ = some (.slice At ts.length ct) ∧ w'.cell? ⟨bl, off + q, none⟩ = some (.int .i64 x)) 7 9 (by kernel_rfl) (by kernel_rfl) ⟨q0, q1, q2, q3, v0, hcx6⟩ ?_
        simp only [List.take_succ_cons, List.take_zero, List.drop_succ_cons, List.drop_zero]
        refine wpHeld_cons ?_ (by rfl) (fun wS hwS => ?_) ?_
        rotate_left
        · (try dsimp only at hwS)
          go_simp
          all_goals with_reducible rfl
        simp only [Act.put, List.setIfInBounds_toArray, List.set_cons_zero, List.set_cons_succ]
        refine wpHeld_cons ?_ (by rfl) (fun wS hwS => ?_) ?_
        rotate_left
        · (try dsimp only at hwS)
          go_simp
          all_goals with_reducible rfl
        simp only [Act.put, List.setIfInBounds_toArray, List.set_cons_zero, List.set_cons_succ]
        refine wpHeld_cons ?_ (by rfl) (fun wS hwS => ?_) ?_
        rotate_left
        · (try dsimp only at hwS)
          go_simp
          all_goals with_reducible rfl
        simp only [Act.put, List.setIfInBounds_toArray, List.set_cons_zero, List.set_cons_succ]
        refine wpHeld_cons ?_ (by rfl) (fun wS hwS => ?_) ?_
        rotate_left
        · (try dsimp only at hwS)
          go_simp
          all_goals with_reducible rfl
        simp only [Act.put, List.setIfInBounds_toArray, List.set_cons_zero, List.set_cons_succ]
        refine wpHeld_cons ?_ (by rfl) (fun wS hwS => ?_) ?_
        rotate_left
        · (try dsimp only at hwS)
          go_simp
          all_goals with_reducible rfl
        simp only [Act.put, List.setIfInBounds_toArray, List.set_cons_zero, List.set_cons_succ]
        refine wpHeld_cons ?_ (by rfl) (fun wS hwS => ?_) ?_
        rotate_left
        · (try dsimp only at hwS)
          go_simp
          all_goals with_reducible rfl
        simp only [Act.put, List.setIfInBounds_toArray, List.set_cons_zero, List.set_cons_succ]
        refine wpHeld_cons ?_ (by rfl) (fun wS hwS => ?_) ?_
        rotate_left
        · (try dsimp only at hwS)
          go_simp
          all_goals with_reducible rfl
        simp only [Act.put, List.setIfInBounds_toArray, List.set_cons_zero, List.set_cons_succ]
        refine wpHeld_nil ?_
        refine wpMid_cons ?_
        go_wp2_with fail
        with_reducible refine Xcnm.out.mono ?_
        rintro e w7 ⟨rfl, b7⟩
        have o7 := (Xo6.out.below ((Below.refl _ _).drew)).below b7
        have hbl7 := World.block_lt_of_cell? w6 _ hcx6
        have s7 : ∀ W, Below w7.heap.size w7 W → W.cell? ⟨w.heap.size, 0, none⟩ = some (.slice A1 T c1) ∧ W.cell? ⟨w.heap.size, 1, none⟩ = some (.slice A2 N c2) ∧ W.cell? ⟨w.heap.size, 2, none⟩ = some (.slice A3 R c3) ∧ W.cell? ⟨w.heap.size, 3, none⟩ = some (.int .i64 st) ∧ W.cell? ⟨w.heap.size + 1 + 1, 0, none⟩ = some (.slice At ts.length ct) ∧ W.cell? ⟨bl, off + q, none⟩ = some (.int .i64 x) := fun W hW => by
          have oW := o7.below hW
          obtain ⟨y0, y1, y2, y3⟩ := oW.t.cells
          have h7 : w7.cell? ⟨bl, off + q, none⟩ = some (.int .i64 x) := (b7.cell (p := ⟨bl, off + q, none⟩) hbl7).trans hcx6
          exact ⟨y0, y1, y2, y3, oW.g.box.1, (hW.cell (p := ⟨bl, off + q, none⟩) (World.block_lt_of_cell? w7 _ h7)).trans h7⟩
        have o8 := o7.below ((Below.refl _ w7).alloc (Nat.le_refl _) (.cells #[.string nm] 9))
        have ho8 := o8.g.t
        have hz8 := o8.hz
        have r8 : Rd (w7.alloc (.cells #[.string nm] 9)) (fun _ => True) (.slice (some ⟨w7.heap.size, 0, none⟩) 1 1) 1 [.string nm] := Rd.one (w := w7) (e := 9) [.string nm] 1 rfl
        clear q0 q1 q2 q3 v0 v1 v2 v3 b7 Xo6 Xcnm hcx6 hbl7
        have Xo7 := hide o7
        have Xo8 := hide o8
        have Xs7 := hide s7
        clear o7 o8 s7
        go_wp2_with fail
        refine ⟨Xs7.out w7 (Below.refl _ _), wpMid_cons ?_⟩
        go_wp2_with fail
        refine ⟨Xs7.out _ ((Below.refl _ w7).alloc (Nat.le_refl _) _), wpMid_nil ?_⟩
        go_wp2_with (at_builtin; refine wp_append _ rfl (.tmp 23) (.tmp 30) _ rfl Try.elemStr (w.heap.size + 3) _ ts.length (ts.map Value.string) rfl ho8 _ _ [.string nm] 1 rfl rfl r8 (by simp [Value.oneCell']) (by unfold maxLen; omega) (by omega) hz8 ?_)
        intro A9 c9 w9 ho9 hg9 hv9
        have o9 := Xo8.out.addT (s := nm) hg9 ho9 (hv9.imp id fun e => by rw [e]; simp)
        have hb9 := Xo8.out.grownBoxes hg9 (fun k hk => (ho8.lt k hk).1)
        have p1 := (hb9.cell 0).trans rfl
        have p2 := hb9.frozen 0
        clear ho8 r8 ho9 hg9 hv9 Xo8 Xo7 hb9
        rw [Xhnm.out] at o9
        have o9 := Xhpost.out _ _ _ o9
        clear Xhpost
        have Xo9 := hide o9
        clear o9
        go_wp2_with fail
        refine NoPanic.normal ?_
        go_wp2_with fail
        go_roundw
        case rel => exact ⟨q + 1, _, _, _, _, by omega, by go_num, Xo9.out⟩
        case measure => simp [intOf]; omega
      | false =>
        rw [ht] at cm
        obtain ⟨u1, u2⟩ := tsq_no hx ht
        have hpost : ∀ wr An' cn', OStL w wr F A1 c1 A2 c2 A3 c3 T N R st G F1 (.slice (some ⟨bl, off, none⟩) l.length cl) l (.slice At (tsq G l q).length ct) (.slice An' ((nsq G l q).length + 1) cn') (.slice none 0 0) 0 (tsq G l q) (nsq G l q ++ [nameOf G x]) [] → OStL w wr F A1 c1 A2 c2 A3 c3 T N R st G F1 (.slice (some ⟨bl, off, none⟩) l.length cl) l (.slice At (tsq G l (q + 1)).length ct) (.slice An' (nsq G l (q + 1)).length cn') (.slice none 0 0) 0 (tsq G l (q + 1)) (nsq G l (q + 1)) [] := fun wr An' cn' h => by
          rw [u1, u2, List.length_append]; exact h
        have Xod := hide od
        have Xkx := hide kx
        have Xhx := hide hx
        have Xhxm := hide hxm
        have Xhlen := hide hlen
        clear od kx hx hxm hlen
        generalize tsq G l q = ts at *
        generalize nsq G l q = ns at *
        clear u1 u2
        have Xcm := hide cm
        have Xht := hide ht
        have Xhpost := hide hpost
        clear cm ht hpost
        clear Xhlen
        go_wp2_with fail
        refine region_tail 5 (by kernel_rfl) (by kernel_rfl) ?_
        simp only [List.take_succ_cons, List.take_zero, List.drop_succ_cons, List.drop_zero]
        repeat still_step
        refine wpStill_nil ?_
        go_wp2_with fail
        with_reducible refine Xcm.out.mono ?_
        rintro e w6 ⟨rfl, b6⟩
        have o6 := Xod.out.below b6
        have cnm := ref_name (o6.below ((Below.refl _ w6).drew)).t.gram st x (by rw [XhT.out, XhN.out]; exact Xhsm.out)
        obtain ⟨nm, hnm⟩ : ∃ nm, nm = nameOf G x := ⟨_, rfl⟩
        rw [← hnm] at cnm
        obtain ⟨v0, v1, v2, v3⟩ := o6.g.box
        have hcx6 := (Xkx.out _ b6)
        clear q0 q1 q2 q3 Xcm hcx
        obtain ⟨q0, q1, q2, q3⟩ := o6.t.cells
        have Xo6 := hide o6
        have Xcnm := hide cnm
        have Xhnm := hide hnm
        clear o6 cnm hnm
        clear b6
        go_wp2_with fail
        refine region_late (fun w' => w'.cell? ⟨w.heap.size, 0, none⟩ = some (.slice A1 T c1) ∧ w'.cell? ⟨w.heap.size, 1, none⟩ = some (.slice A2 N c2) ∧ w'.cell? ⟨w.heap.size, 2, none⟩ = some (.slice A3 R c3) ∧ w'.cell? ⟨w.heap.size, 3, none⟩ = some (.int .i64 st) ∧ w'.cell? ⟨w.heap.size + 1 + 1, 1, none⟩ = some (.slice An ns.length cn) ∧ w'.cell? ⟨bl, off + q, none⟩ = some (.int .i64 x)) 7 9 (by kernel_rfl) (by kernel_rfl) ⟨q0, q1, q2, q3, v1, hcx6⟩ ?_
        simp only [List.take_succ_cons, List.take_zero, List.drop_succ_cons, List.drop_zero]
        refine wpHeld_cons ?_ (by rfl) (fun wS hwS => ?_) ?_
        rotate_left
        · (try dsimp only at hwS)
          go_simp
          all_goals with_reducible rfl
        simp only [Act.put, List.setIfInBounds_toArray, List.set_cons_zero, List.set_cons_succ]
        refine wpHeld_cons ?_ (by rfl) (fun wS hwS => ?_) ?_
        rotate_left
        · (try dsimp only at hwS)
          go_simp
          all_goals with_reducible rfl
        simp only [Act.put, List.setIfInBounds_toArray, List.set_cons_zero, List.set_cons_succ]
        refine wpHeld_cons ?_ (by rfl) (fun wS hwS => ?_) ?_
        rotate_left
        · (try dsimp only at hwS)
          go_simp
          all_goals with_reducible rfl
        simp only [Act.put, List.setIfInBounds_toArray, List.set_cons_zero, List.set_cons_succ]
        refine wpHeld_cons ?_ (by rfl) (fun wS hwS => ?_) ?_
        rotate_left
        · (try dsimp only at hwS)
          go_simp
          all_goals with_reducible rfl
        simp only [Act.put, List.setIfInBounds_toArray, List.set_cons_zero, List.set_cons_succ]
        refine wpHeld_cons ?_ (by rfl) (fun wS hwS => ?_) ?_
        rotate_left
        · (try dsimp only at hwS)
          go_simp
          all_goals with_reducible rfl
        simp only [Act.put, List.setIfInBounds_toArray, List.set_cons_zero, List.set_cons_succ]
        refine wpHeld_cons ?_ (by rfl) (fun wS hwS => ?_) ?_
        rotate_left
        · (try dsimp only at hwS)
          go_simp
          all_goals with_reducible rfl
        simp only [Act.put, List.setIfInBounds_toArray, List.set_cons_zero, List.set_cons_succ]
        refine wpHeld_cons ?_ (by rfl) (fun wS hwS => ?_) ?_
        rotate_left
        · (try dsimp only at hwS)
          go_simp
          all_goals with_reducible rfl
        simp only [Act.put, List.setIfInBounds_toArray, List.set_cons_zero, List.set_cons_succ]
        refine wpHeld_nil ?_
        refine wpMid_cons ?_
        go_wp2_with fail
        with_reducible refine Xcnm.out.mono ?_
        rintro e w7 ⟨rfl, b7⟩
        have o7 := (Xo6.out.below ((Below.refl _ _).drew)).below b7
        have hbl7 := World.block_lt_of_cell? w6 _ hcx6
        have s7 : ∀ W, Below w7.heap.size w7 W → W.cell? ⟨w.heap.size, 0, none⟩ = some (.slice A1 T c1) ∧ W.cell? ⟨w.heap.size, 1, none⟩ = some (.slice A2 N c2) ∧ W.cell? ⟨w.heap.size, 2, none⟩ = some (.slice A3 R c3) ∧ W.cell? ⟨w.heap.size, 3, none⟩ = some (.int .i64 st) ∧ W.cell? ⟨w.heap.size + 1 + 1, 1, none⟩ = some (.slice An ns.length cn) ∧ W.cell? ⟨bl, off + q, none⟩ = some (.int .i64 x) := fun W hW => by
          have oW := o7.below hW
          obtain ⟨y0, y1, y2, y3⟩ := oW.t.cells
          have h7 : w7.cell? ⟨bl, off + q, none⟩ = some (.int .i64 x) := (b7.cell (p := ⟨bl, off + q, none⟩) hbl7).trans hcx6
          exact ⟨y0, y1, y2, y3, oW.g.box.2.1, (hW.cell (p := ⟨bl, off + q, none⟩) (World.block_lt_of_cell? w7 _ h7)).trans h7⟩
        have o8 := o7.below ((Below.refl _ w7).alloc (Nat.le_refl _) (.cells #[.string nm] 9))
        have ho8 := o8.g.n
        have hz8 := o8.hz
        have r8 : Rd (w7.alloc (.cells #[.string nm] 9)) (fun _ => True) (.slice (some ⟨w7.heap.size, 0, none⟩) 1 1) 1 [.string nm] := Rd.one (w := w7) (e := 9) [.string nm] 1 rfl
        clear q0 q1 q2 q3 v0 v1 v2 v3 b7 Xo6 Xcnm hcx6 hbl7
        have Xo7 := hide o7
        have Xo8 := hide o8
        have Xs7 := hide s7
        clear o7 o8 s7
        go_wp2_with fail
        refine ⟨Xs7.out w7 (Below.refl _ _), wpMid_cons ?_⟩
        go_wp2_with fail
        refine ⟨Xs7.out _ ((Below.refl _ w7).alloc (Nat.le_refl _) _), wpMid_nil ?_⟩
        go_wp2_with (at_builtin; refine wp_append _ rfl (.tmp 34) (.tmp 41) _ rfl Try.elemStr (w.heap.size + 3) _ ns.length (ns.map Value.string) rfl ho8 _ _ [.string nm] 1 rfl rfl r8 (by simp [Value.oneCell']) (by unfold maxLen; omega) (by omega) hz8 ?_)
        intro A9 c9 w9 ho9 hg9 hv9
        have o9 := Xo8.out.addN (s := nm) hg9 ho9 (hv9.imp id fun e => by rw [e]; simp)
        have hb9 := Xo8.out.grownBoxes hg9 (fun k hk => (ho8.lt k hk).1)
        have p1 := (hb9.cell 1).trans rfl
        have p2 := hb9.frozen 1
        clear ho8 r8 ho9 hg9 hv9 Xo8 Xo7 hb9
        rw [Xhnm.out] at o9
        have o9 := Xhpost.out _ _ _ o9
        clear Xhpost
        have Xo9 := hide o9
        clear o9
        go_wp2_with fail
        refine NoPanic.normal ?_
        go_wp2_with fail
        go_roundw
        case rel => exact ⟨q + 1, _, _, _, _, by omega, by go_num, Xo9.out⟩
        case measure => simp [intOf]; omega
    · have hql : q = l.length := by omega
      subst hql
      have hlq' : ¬ (l.length : Int) < (l.length : Int) := by omega
      have hfz := o.g.blk.frozen 3
      have o1 := o.start (placeOf l st)
      have cpl := ref_placeI o.lst st
      obtain ⟨q0, q1, q2, q3⟩ := o.t.cells
      obtain ⟨v0, v1, v2, v3⟩ := o.g.box
      have hlens := tsq_len G l l.length
      have r0 := o.t.rs
      have r1 := o.t.rc
      have r2 := o.t.c3m
      have htz : ∀ s ∈ tsq G l l.length, s.size ≤ 140737488351232 := fun s hs => by
        unfold tsq at hs
        obtain ⟨x, hx, rfl⟩ := List.mem_map.1 hs
        rw [List.mem_filter] at hx
        exact Xhreach.out.1 _ (Xhtn.out x hx.2)
      have hnz : ∀ s ∈ nsq G l l.length, s.size ≤ 140737488351232 := fun s hs => by
        unfold nsq at hs
        obtain ⟨x, hx, rfl⟩ := List.mem_map.1 hs
        rw [List.mem_filter] at hx
        exact Xhreach.out.2 _ (Xhnn.out x (Xhlr.out x (List.mem_of_mem_take hx.1)) (by simpa using hx.2))
      have Xhtz := hide htz
      have Xhnz := hide hnz
      clear htz hnz
      generalize tsq G l l.length = ts at *
      generalize nsq G l l.length = ns at *
      have Xo := hide o
      have Xo1 := hide o1
      have Xcpl := hide cpl
      clear o o1 cpl
      go_wp2_with fail
      with_reducible refine Xcpl.out.mono ?_
      rintro e w' ⟨rfl, rfl⟩
      go_upto_region 9 with fail
      obtain ⟨w5, hw5⟩ : ∃ w5, w5 = wr.setCell ⟨w.heap.size + 1 + 1, 3, none⟩ (.int .i64 (placeOf l st)) := ⟨_, rfl⟩
      have o5 : OStL w w5 F A1 c1 A2 c2 A3 c3 T N R st G F1 (.slice Al l.length cl) l (.slice At ts.length ct) (.slice An ns.length cn) (.slice none 0 0) (placeOf l st) ts ns [] := by rw [hw5]; exact Xo1.out
      rw [← hw5]
      clear hw5 Xo Xo1 q0 q1 q2 q3 v0 v1 v2 v3 hfz Xcpl
      have Xo5 := hide o5
      clear o5
      go_wp2_with fail
      go_loopw [7] (fun i wr => ∃ (q : Nat) (Ar : Option Addr) (cr : Nat) (rvs : List ((Int × List Int) × Value)), q ≤ R ∧ i = .int .i64 q ∧ OStL w wr F A1 c1 A2 c2 A3 c3 T N R st G F1 (.slice Al l.length cl) l (.slice At ts.length ct) (.slice An ns.length cn) (.slice Ar rvs.length cr) (placeOf l st) ts ns rvs ∧ rvs.map (·.1) = rsq G l q) (fun i _ => R - (intOf i).toNat)
      case atStart => exact ⟨0, none, 0, [], Nat.zero_le _, rfl, Xo5.out, rfl⟩
      case round =>
        clear Xo5
        obtain ⟨q, Ar, cr, rvs, hq, rfl, o, hrv⟩ := hrel
        obtain ⟨q0, q1, q2, q3⟩ := o.t.cells
        have hrl : rvs.length ≤ q := by
          have := congrArg List.length hrv
          have h2 := rsq_len G l q
          rw [List.length_map] at this
          omega
        by_cases hqR : q < R
        · obtain ⟨bb, off, l0, xs, Ax, nx, cx, rfl, hbl, hx, h0, h1, hr, hnx, hnc, hcm⟩ := o.t.rule hqR
          have hq' : (q : Int) < (R : Int) := by omega
          have ch := ref_has o.lst l0
          obtain ⟨hk0, hkx⟩ := Xhkr.out _ (List.mem_of_getElem? hx)
          simp only at hk0 hkx
          by_cases hin : l0 ∈ l
          · rw [decide_eq_true hin] at ch
            have hrv2 := rsq_yes hx hin
            simp only at hrv2
            rw [← hrv] at hrv2
            have cpl := ref_placeI o.lst l0
            have Xo := hide o
            have Xhr := hide hr
            have Xhx := hide hx
            have Xhrv := hide hrv
            have Xhrv2 := hide hrv2
            have Xch := hide ch
            have Xhin := hide hin
            have Xhnx := hide hnx
            have Xhkx := hide hkx
            have Xcpl := hide cpl
            clear o hr hx hrv hrv2 ch hin hnx hkx cpl
            go_wp2_with fail
            with_reducible refine Xch.out.mono ?_
            rintro e w6 ⟨rfl, rfl⟩
            go_wp2_with fail
            with_reducible refine Xcpl.out.mono ?_
            rintro e w6 ⟨rfl, rfl⟩
            have hkb : Blk (wr.alloc (.cells #[.int .i64 (placeOf l l0), .slice none 0 0] 30)) wr.heap.size 30 #[.int .i64 (placeOf l l0), .slice none 0 0] := Blk.new _ _ _
            have hbb : Below wr.heap.size wr (wr.alloc (.cells #[.int .i64 (placeOf l l0), .slice none 0 0] 30)) := (Below.refl _ _).alloc (Nat.le_refl _) _
            have hsb : wr.heap.size + 1 ≤ (wr.alloc (.cells #[.int .i64 (placeOf l l0), .slice none 0 0] 30)).heap.size := by simp
            have hab := Xo.out.hz
            have hgb := Xo.out.t.blk.lt
            have Xhkb := hide hkb
            have Xhbb := hide hbb
            clear hkb hbb
            go_wp2_with fail
            generalize hy : wr.heap.size = y at *
            have hfa : ∀ k, F k → k < y := fun k hk => by have h1 := Xo.out.hF k hk; omega
            obtain ⟨wa, hwa⟩ : ∃ wa, wa = wr := ⟨_, rfl⟩
            rw [← hwa] at Xo h0 h1 Xhr hy q0 q1 q2 q3
            have keep : ∀ W, Below y wa W → (W.cell? ⟨w.heap.size, 2, none⟩ = some (.slice (some ⟨bb, off, none⟩) R c3) ∧ W.cell? ⟨bb, off + q * 2 + 1, none⟩ = some (.slice Ax nx cx) ∧ RdI W F (.slice Ax nx cx) xs) := fun W hW =>
              ⟨(hW.cell (p := ⟨w.heap.size, 2, none⟩) hgb).trans q2, (hW.cell (p := ⟨bb, off + q * 2 + 1, none⟩) hbl).trans h1, (show RdI wa F _ xs from Xhr.out).below hW hfa⟩
            clear q0 q1 q2 q3 h0 h1
            have Xkeep := hide keep
            clear keep
            go_loopw [9] (fun i wr => ∃ (p : Nat) (A : Option Addr) (c : Nat), p ≤ nx ∧ i = .int .i64 p ∧ Blk wr y 30 #[.int .i64 (placeOf l l0), .slice A p c] ∧ wr.ownsRow (y + 1) 3 1 (.slice A p c) p (((xs.take p).map (placeOf l)).map I64) ∧ Below y wa wr ∧ y + 1 ≤ wr.heap.size) (fun i _ => nx - (intOf i).toNat)
            case atStart => exact ⟨0, none, 0, Nat.zero_le _, rfl, Xhkb.out, World.ownsRow_nil _ _ _ _, by rw [hwa]; exact Xhbb.out, hsb⟩
            case round =>
              clear Xhkb Xhbb hsb Xch Xcpl hwa
              obtain ⟨p, A, c, hp, rfl, hk, ho, hb, hs⟩ := hrel
              have oW : ∀ W, Below y wa W → OStL w W F A1 c1 A2 c2 (some ⟨bb, off, none⟩) c3 T N R st G F1 (.slice Al l.length cl) l (.slice At ts.length ct) (.slice An ns.length cn) (.slice Ar rvs.length cr) (placeOf l st) ts ns rvs := fun W hW => Xo.out.below (by rw [hy]; exact hW)
              obtain ⟨q2, h1, hr4⟩ := Xkeep.out wr hb
              by_cases hpx : p < nx
              · obtain ⟨-, -, -, hcell⟩ := RdI.at_ hr4
                obtain ⟨xb, xoff, rfl, hxb, hcc⟩ := hcell (by omega)
                obtain ⟨x, hxp⟩ : ∃ x, xs[p]? = some x := ⟨_, List.getElem?_eq_getElem (by have := Xhnx.out; omega)⟩
                have hcx := hcc p x hxp
                have hpx' : (p : Int) < (nx : Int) := by omega
                have e1 := (hk.cell 1).trans rfl
                have hnxl : nx ≤ 17592186044416 := by
                  have := (Xhwfs.out _ (List.mem_of_getElem? Xhx.out)).2.1
                  have h2 := Xhnx.out
                  simp only at this
                  omega
                have cpl := ref_placeI (oW _ hb.drew).lst x
                have ho4 : (wr.drew.alloc (.cells #[I64 (placeOf l x)] 3)).ownsRow (y + 1) 3 1 (.slice A p c) p (((xs.take p).map (placeOf l)).map I64) := own_below' ho (((Below.refl _ wr).drew).alloc (Nat.le_refl _) _)
                have hk4 : Blk (wr.drew.alloc (.cells #[I64 (placeOf l x)] 3)) y 30 #[.int .i64 (placeOf l l0), .slice A p c] := (hk.drew).alloc _
                have r4 : Rd (wr.drew.alloc (.cells #[I64 (placeOf l x)] 3)) (fun _ => True) (.slice (some ⟨wr.heap.size, 0, none⟩) 1 1) 1 [I64 (placeOf l x)] := Rd.one (w := wr.drew) (e := 3) [I64 (placeOf l x)] 1 rfl
                have hb4 : Below y wa (wr.drew.alloc (.cells #[I64 (placeOf l x)] 3)) := (hb.drew).alloc (by show y ≤ wr.heap.size; omega) _
                have e4 := (hk4.cell 1).trans rfl
                obtain ⟨q24, h14, hr44⟩ := Xkeep.out _ hb4
                have x4 : (wr.drew.alloc (.cells #[I64 (placeOf l x)] 3)).cell? ⟨xb, xoff + p, none⟩ = some (.int .i64 x) := by
                  obtain ⟨-, -, -, hcW⟩ := RdI.at_ hr44
                  obtain ⟨b2, o2, e2, -, hcW⟩ := hcW (by omega)
                  injection e2 with e2
                  injection e2 with e3 e5
                  subst e3 e5
                  exact hcW p x hxp
                have hz4 : y + 1 ≤ (wr.drew.alloc (.cells #[I64 (placeOf l x)] 3)).heap.size := Nat.le_trans hs (((Below.refl wr.heap.size wr).drew).alloc (Nat.le_refl _) _).size
                have fin : ∀ (A' : Option Addr) (c' : Nat) (w5 : World), w5.ownsRow (y + 1) 3 1 (.slice A' (p + 1) c') (p + 1) (((xs.take p).map (placeOf l)).map I64 ++ [I64 (placeOf l x)]) → (wr.drew.alloc (.cells #[I64 (placeOf l x)] 3)).grownBy w5 (Value.slice A p c).ownBlock →
                    (w5.cell? ⟨y, 1, none⟩ = some (.slice A p c) ∧ w5.frozen? ⟨y, 1, none⟩ = false) ∧ Blk (w5.setCell ⟨y, 1, none⟩ (.slice A' (p + 1) c')) y 30 #[.int .i64 (placeOf l l0), .slice A' (p + 1) c'] ∧ (w5.setCell ⟨y, 1, none⟩ (.slice A' (p + 1) c')).ownsRow (y + 1) 3 1 (.slice A' (p + 1) c') (p + 1) (((xs.take (p + 1)).map (placeOf l)).map I64) ∧ Below y wa (w5.setCell ⟨y, 1, none⟩ (.slice A' (p + 1) c')) ∧ y + 1 ≤ (w5.setCell ⟨y, 1, none⟩ (.slice A' (p + 1) c')).heap.size := fun A' c' w5 h1 h2 => by
                  have hk5 := hk4.grown h2 (fun e => by have := (ho4.lt _ e.symm).1; omega)
                  have hb5 : Below y wa w5 := hb4.grown h2 (by omega) (fun q hq => by have := (ho4.lt q hq).1; omega)
                  refine ⟨⟨(hk5.cell 1).trans rfl, hk5.frozen 1⟩, hk5.put 1 _, ?_, hb5.setCell (Nat.le_refl _) _, ?_⟩
                  · rw [List.take_add_one, hxp, List.map_append, List.map_append]
                    exact own_far h1 (fun e => by have := (h1.lt _ e).1; simp at this; omega) _
                  · have := h2.size
                    simp [World.setCell] at this ⊢
                    have h3 : wr.drew.heap.size = wr.heap.size := rfl
                    omega
                clear hcell hcc hr4 hr44
                have Xfin := hide fin
                have Xhk := hide hk
                have Xho := hide ho
                have Xhb := hide hb
                have Xhk4 := hide hk4
                have Xhb4 := hide hb4
                have Xhxp := hide hxp
                have XoW := hide oW
                have Xcpl := hide cpl
                clear fin hk ho hb hk4 hb4 hxp oW cpl
                go_wp2_with fail
                refine region_late (fun w' => w'.cell? ⟨y, 1, none⟩ = some (.slice A p c) ∧ w'.cell? ⟨w.heap.size, 2, none⟩ = some (.slice (some ⟨bb, off, none⟩) R c3) ∧ w'.cell? ⟨bb, off + q * 2 + 1, none⟩ = some (.slice (some ⟨xb, xoff, none⟩) nx cx) ∧ w'.cell? ⟨xb, xoff + p, none⟩ = some (.int .i64 x)) 12 14 (by kernel_rfl) (by kernel_rfl) ⟨e1, q2, h1, hcx⟩ ?_
                simp only [List.take_succ_cons, List.take_zero, List.drop_succ_cons, List.drop_zero]
                refine wpHeld_cons ?_ (by rfl) (fun wS hwS => ?_) ?_
                rotate_left
                · (try dsimp only at hwS)
                  go_simp
                  all_goals with_reducible rfl
                simp only [Act.put, List.setIfInBounds_toArray, List.set_cons_zero, List.set_cons_succ]
                refine wpHeld_cons ?_ (by rfl) (fun wS hwS => ?_) ?_
                rotate_left
                · (try dsimp only at hwS)
                  go_simp
                  all_goals with_reducible rfl
                simp only [Act.put, List.setIfInBounds_toArray, List.set_cons_zero, List.set_cons_succ]
                refine wpHeld_cons ?_ (by rfl) (fun wS hwS => ?_) ?_
                rotate_left
                · (try dsimp only at hwS)
                  go_simp
                  all_goals with_reducible rfl
                simp only [Act.put, List.setIfInBounds_toArray, List.set_cons_zero, List.set_cons_succ]
                refine wpHeld_cons ?_ (by rfl) (fun wS hwS => ?_) ?_
                rotate_left
                · (try dsimp only at hwS)
                  go_simp
                  all_goals with_reducible rfl
                simp only [Act.put, List.setIfInBounds_toArray, List.set_cons_zero, List.set_cons_succ]
                refine wpHeld_cons ?_ (by rfl) (fun wS hwS => ?_) ?_
                rotate_left
                · (try dsimp only at hwS)
                  go_simp
                  all_goals with_reducible rfl
                simp only [Act.put, List.setIfInBounds_toArray, List.set_cons_zero, List.set_cons_succ]
                refine wpHeld_cons ?_ (by rfl) (fun wS hwS => ?_) ?_
                rotate_left
                · (try dsimp only at hwS)
                  go_simp
                  all_goals with_reducible rfl
                simp only [Act.put, List.setIfInBounds_toArray, List.set_cons_zero, List.set_cons_succ]
                refine wpHeld_cons ?_ (by rfl) (fun wS hwS => ?_) ?_
                rotate_left
                · (try dsimp only at hwS)
                  go_simp
                  all_goals with_reducible rfl
                simp only [Act.put, List.setIfInBounds_toArray, List.set_cons_zero, List.set_cons_succ]
                refine wpHeld_cons ?_ (by rfl) (fun wS hwS => ?_) ?_
                rotate_left
                · (try dsimp only at hwS)
                  go_simp
                  all_goals with_reducible rfl
                simp only [Act.put, List.setIfInBounds_toArray, List.set_cons_zero, List.set_cons_succ]
                refine wpHeld_cons ?_ (by rfl) (fun wS hwS => ?_) ?_
                rotate_left
                · (try dsimp only at hwS)
                  go_simp
                  all_goals with_reducible rfl
                simp only [Act.put, List.setIfInBounds_toArray, List.set_cons_zero, List.set_cons_succ]
                refine wpHeld_cons ?_ (by rfl) (fun wS hwS => ?_) ?_
                rotate_left
                · (try dsimp only at hwS)
                  go_simp
                  all_goals with_reducible rfl
                simp only [Act.put, List.setIfInBounds_toArray, List.set_cons_zero, List.set_cons_succ]
                refine wpHeld_cons ?_ (by rfl) (fun wS hwS => ?_) ?_
                rotate_left
                · (try dsimp only at hwS)
                  go_simp
                  all_goals with_reducible rfl
                simp only [Act.put, List.setIfInBounds_toArray, List.set_cons_zero, List.set_cons_succ]
                refine wpHeld_cons ?_ (by rfl) (fun wS hwS => ?_) ?_
                rotate_left
                · (try dsimp only at hwS)
                  go_simp
                  all_goals with_reducible rfl
                simp only [Act.put, List.setIfInBounds_toArray, List.set_cons_zero, List.set_cons_succ]
                refine wpHeld_nil ?_
                refine wpMid_cons ?_
                go_wp2_with fail
                with_reducible refine Xcpl.out.mono ?_
                rintro e w6 ⟨rfl, rfl⟩
                go_wp2_with fail
                refine ⟨⟨e1, q2, h1, hcx⟩, wpMid_cons ?_⟩
                go_wp2_with fail
                refine ⟨⟨e4, q24, h14, x4⟩, wpMid_nil ?_⟩
                go_wp2_with (at_builtin; refine wp_append _ rfl (.tmp 86) (.tmp 98) _ rfl Try.elemInt (y + 1) _ p (((xs.take p).map (placeOf l)).map I64) rfl ho4 _ _ [I64 (placeOf l x)] 1 rfl rfl r4 (by simp [Value.oneCell']) (by unfold maxLen; omega) (by omega) hz4 ?_)
                intro A5 c5 w5 h5 g5 _
                obtain ⟨⟨p1, p2⟩, k5, o5, b5, s5⟩ := Xfin.out _ _ w5 (by first | exact h5 | (rw [List.map_map, List.map_take]; exact h5)) g5
                clear Xfin h5 g5 e1 q2 h1 e4 q24 h14 x4 hcx r4 ho4
                have Xk5 := hide k5
                have Xo5 := hide o5
                have Xb5 := hide b5
                clear k5 o5 b5
                go_wp2_with fail
                refine NoPanic.normal ?_
                go_wp2_with fail
                go_roundw
                case rel => exact ⟨p + 1, A5, c5, by omega, by go_num, Xk5.out, Xo5.out, Xb5.out, s5⟩
                case measure => simp [intOf]; omega
              · have hpn : p = nx := by omega
                subst hpn
                have og := oW wr hb
                have htk : xs.take p = xs := by rw [Xhnx.out, List.take_length]
                rw [htk] at ho
                have b6 : Below wr.heap.size wr (wr.alloc (.cells #[.int .i64 (placeOf l l0), .slice A p c] 30)) := (Below.refl _ _).alloc (Nat.le_refl _) _
                have o6 := og.below b6
                have hr6 := o6.g.r
                have r6 : Rd (wr.alloc (.cells #[.int .i64 (placeOf l l0), .slice A p c] 30)) (fun _ => True) (.slice (some ⟨wr.heap.size, 0, none⟩) 1 1) 2 [.int .i64 (placeOf l l0), .slice A p c] := Rd.one (w := wr) (e := 30) [.int .i64 (placeOf l l0), .slice A p c] 2 rfl
                have hu6 : (wr.alloc (.cells #[.int .i64 (placeOf l l0), .slice A p c] 30)).ownsRow (w.heap.size + 3) 3 1 (.slice A p c) (xs.map (placeOf l)).length ((xs.map (placeOf l)).map I64) := by
                  rw [List.length_map, ← Xhnx.out]
                  exact ownsRow_base (own_below' ho b6) (fun k hk => by have := (ho.lt k hk).1; omega)
                obtain ⟨v0, v1, v2, v3⟩ := og.g.box
                have e0 := (hk.cell 0).trans rfl
                have e1 := (hk.cell 1).trans rfl
                have hz6 := o6.hz
                have hgb2 := og.g.blk.lt
                have fin : ∀ (A7 : Option Addr) (c7 : Nat) (w7 : World), w7.ownsRow (w.heap.size + 3) 30 2 (.slice A7 (rvs.length + 1) c7) (rvs.length + 1) (flatR rvs ++ [.int .i64 (placeOf l l0), .slice A p c]) → (wr.alloc (.cells #[.int .i64 (placeOf l l0), .slice A p c] 30)).grownBy w7 (Value.slice Ar rvs.length cr).ownBlock →
                    (w7.cell? ⟨w.heap.size + 1 + 1, 2, none⟩ = some (.slice Ar rvs.length cr) ∧ w7.frozen? ⟨w.heap.size + 1 + 1, 2, none⟩ = false) ∧ OStL w (w7.setCell ⟨w.heap.size + 1 + 1, 2, none⟩ (.slice A7 (rvs.length + 1) c7)) F A1 c1 A2 c2 (some ⟨bb, off, none⟩) c3 T N R st G F1 (.slice Al l.length cl) l (.slice At ts.length ct) (.slice An ns.length cn) (.slice A7 (rvs ++ [((placeOf l l0, xs.map (placeOf l)), Value.slice A p c)]).length c7) (placeOf l st) ts ns (rvs ++ [((placeOf l l0, xs.map (placeOf l)), Value.slice A p c)]) := fun A7 c7 w7 h7 g7 => by
                  have k7 := o6.grownBoxes g7 (fun k hk => (hr6.lt k hk).1)
                  refine ⟨⟨(k7.cell 2).trans rfl, k7.frozen 2⟩, ?_⟩
                  rw [List.length_append]
                  exact o6.addR g7 h7 hu6
                have hrv3 : (rvs ++ [((placeOf l l0, xs.map (placeOf l)), Value.slice A p c)]).map (·.1) = rsq G l (q + 1) := by
                  rw [Xhrv2.out, List.map_append]; rfl
                generalize (rvs ++ [((placeOf l l0, xs.map (placeOf l)), Value.slice A p c)]) = rvs' at *
                have hp' : ¬ (p : Int) < (p : Int) := by omega
                clear oW hr4
                have Xfin := hide fin
                have Xhrv3 := hide hrv3
                have Xhk := hide hk
                have Xho := hide ho
                have Xhb := hide hb
                have Xog := hide og
                have Xo6 := hide o6
                have Xhu6 := hide hu6
                have Xb6 := hide b6
                clear fin hrv3 hk ho hb og o6 hu6 b6
                go_wp2_with (at_builtin; refine wp_append _ rfl (.tmp 102) (.tmp 104) _ rfl Try.elemRule (w.heap.size + 3) _ rvs.length (flatR rvs) rfl hr6 _ _ [.int .i64 (placeOf l l0), .slice A p c] 1 rfl rfl r6 (by simp [Value.oneCell']) (by unfold maxLen; omega) (by omega) hz6 ?_)
                intro A7 c7 w7 h7 g7 _
                obtain ⟨⟨x1, x2⟩, o7⟩ := Xfin.out A7 c7 w7 h7 g7
                clear Xfin h7 g7 e0 e1 v0 v1 v2 v3 hr6 r6 q2 h1
                have Xo7 := hide o7
                clear o7
                go_wp2_with fail
                go_roundw
                case rel => exact ⟨q + 1, A7, c7, rvs', by omega, by go_num, Xo7.out, Xhrv3.out⟩
                case measure => simp [intOf]; omega
          · rw [decide_eq_false hin] at ch
            have hrv2 : rvs.map (·.1) = rsq G l (q + 1) := by rw [rsq_no hx hin]; exact hrv
            have Xo := hide o
            have Xhr := hide hr
            have Xhx := hide hx
            have Xhrv := hide hrv
            have Xhrv2 := hide hrv2
            have Xch := hide ch
            have Xhin := hide hin
            have Xhnx := hide hnx
            have Xhkx := hide hkx
            clear o hr hx hrv hrv2 ch hin hnx hkx
            go_wp2_with fail
            with_reducible refine Xch.out.mono ?_
            rintro e w6 ⟨rfl, rfl⟩
            go_wp2_with fail
            go_roundw
            case rel => exact ⟨q + 1, Ar, cr, rvs, by omega, by go_num, Xo.out, Xhrv2.out⟩
            case measure => simp [intOf]; omega
        · have hqe : q = R := by omega
          subst hqe
          have hlt' : ¬ (q : Int) < (q : Int) := by omega
          obtain ⟨v0, v1, v2, v3⟩ := o.g.box
          have k2 := o.zero
          have f0 := k2.frozen 0
          have f1 := k2.frozen 1
          have f2 := k2.frozen 2
          have f3 := k2.frozen 3
          have y0 := (k2.cell 0).trans rfl
          have y1 := (k2.cell 1).trans rfl
          have y2 := (k2.cell 2).trans rfl
          have y3 := (k2.cell 3).trans rfl
          have Xo := hide o
          have Xhrv := hide hrv
          have Xk2 := hide k2
          clear o hrv k2
          go_wp2_with fail
          have kF : Blk ((((wr.setCell ⟨w.heap.size + 1, 0, none⟩ (.slice At ts.length ct)).setCell ⟨w.heap.size + 1, 1, none⟩ (.slice An ns.length cn)).setCell ⟨w.heap.size + 1, 2, none⟩ (.slice Ar rvs.length cr)).setCell ⟨w.heap.size + 1, 3, none⟩ (.int .i64 (placeOf l st))) (w.heap.size + 1) 25 #[.slice At ts.length ct, .slice An ns.length cn, .slice Ar rvs.length cr, .int .i64 (placeOf l st)] := (((Xk2.out.put 0 _).put 1 _).put 2 _).put 3 _
          have tF : Touch (fun k => k = w.heap.size + 1) wr ((((wr.setCell ⟨w.heap.size + 1, 0, none⟩ (.slice At ts.length ct)).setCell ⟨w.heap.size + 1, 1, none⟩ (.slice An ns.length cn)).setCell ⟨w.heap.size + 1, 2, none⟩ (.slice Ar rvs.length cr)).setCell ⟨w.heap.size + 1, 3, none⟩ (.int .i64 (placeOf l st))) := ((((Touch.refl (fun k => k = w.heap.size + 1) wr).setCell (fun _ => rfl) _).setCell (fun _ => rfl) _).setCell (fun _ => rfl) _).setCell (fun _ => rfl) _
          generalize ((((wr.setCell ⟨w.heap.size + 1, 0, none⟩ (.slice At ts.length ct)).setCell ⟨w.heap.size + 1, 1, none⟩ (.slice An ns.length cn)).setCell ⟨w.heap.size + 1, 2, none⟩ (.slice Ar rvs.length cr)).setCell ⟨w.heap.size + 1, 3, none⟩ (.int .i64 (placeOf l st))) = wF at *
          have fin : GramPost w (onlyG G st l) (.returned (GV (.slice At ts.length ct) (.slice An ns.length cn) (.slice Ar rvs.length cr) (placeOf l st))) wF := by
            have o := Xo.out
            have g := o.g
            have gF : Grow wF (w.heap.size + 3) (w.heap.size + 2) (.slice At ts.length ct) (.slice An ns.length cn) (.slice Ar rvs.length cr) (placeOf l st) ts ns rvs :=
              ⟨g.blk.touch tF (by omega), tF.own g.t (fun k hk e => by have := (g.t.lt k hk).1; omega), tF.own g.n (fun k hk e => by have := (g.n.lt k hk).1; omega), tF.own g.r (fun k hk e => by have := (g.r.lt k hk).1; omega), fun p hp => tF.own (g.q p hp) (fun k hk e => by have := ((g.q p hp).lt k hk).1; omega), g.apart⟩
            have gg := gF.gram ⟨by omega, by omega, by omega⟩ ⟨Xhtz.out, Xhnz.out⟩ (fun p hp => by
              have hp1 : p.1 ∈ rvs.map (·.1) := List.mem_map.2 ⟨p, hp, rfl⟩
              rw [Xhrv.out] at hp1
              unfold rsq at hp1
              obtain ⟨r, hr, e⟩ := List.mem_map.1 hp1
              rw [List.mem_filter] at hr
              have hw := (Xhwfs.out r (List.mem_of_mem_take hr.1)).2.1
              rw [← e]
              have hpl := placeOf_range l r.1
              refine ⟨by simp only; omega, by simpa using hw, fun x hx => ?_⟩
              obtain ⟨y, _, rfl⟩ := List.mem_map.1 hx
              have := placeOf_range l y
              omega) (placeOf l st)
            rw [Xhrv.out, ← XhfinG.out] at gg
            exact ⟨_, _, _, by rw [XhfinG.out], gg.mono (fun k hk => ⟨by omega, hk.2⟩) (fun k hk => hk.2), o.b.trans (tF.below (fun k hk _ e => by omega) o.b.size)⟩
          have c0 := (kF.cell 0).trans rfl
          have c1' := (kF.cell 1).trans rfl
          have c2' := (kF.cell 2).trans rfl
          have c3' := (kF.cell 3).trans rfl
          clear f0 f1 f2 f3 y0 y1 y2 y3 v0 v1 v2 v3
          have Xfin := hide fin
          have XkF := hide kF
          have XtF := hide tF
          clear fin kF tF
          refine bodyPost_ret (v := .agg #[.slice At ts.length ct, .slice An ns.length cn, .slice Ar rvs.length cr, .int .i64 (placeOf l st)]) (by simp [results, Try.results111, go_sem, c0, c1', c2', c3']) rfl ?_
          exact Xfin.out
end Go.Proofs.Ytejjaabkbkkjlaa

/- live.only. -/
import Derived.Test.YtejjaabkbkkjlaaLive6
import Derived.Test.YtejjaabkbkkjlaaLate
import Derived.Deep.Cut
namespace Go.Proofs.Ytejjaabkbkkjlaa
set_option linter.unusedVariables false
open Go.RowKit
attribute [local irreducible] wpStill wpOne wpPh

def GramPost (w : World) (G : GramD) (e : Ending) (w' : World) : Prop := ∃ vt vn vr, e = .returned (GV vt vn vr G.start) ∧ IsGram w' (fun k => w.heap.size ≤ k ∧ k < w'.heap.size) vt vn vr G ∧ Below w.heap.size w w'

def tsq (G : GramD) (l : List Int) (q : Nat) : List ByteArray := ((l.take q).filter (fun s => isTerm G s)).map (nameOf G)
def nsq (G : GramD) (l : List Int) (q : Nat) : List ByteArray := ((l.take q).filter (fun s => !isTerm G s)).map (nameOf G)
def rsq (G : GramD) (l : List Int) (q : Nat) : List (Int × List Int) := ((G.rules.take q).filter (fun r => decide (r.1 ∈ l))).map (fun r => (placeOf l r.1, r.2.map (placeOf l)))
theorem tsq_yes {G : GramD} {l : List Int} {q : Nat} {x : Int} (hx : l[q]? = some x) (h : isTerm G x = true) : tsq G l (q + 1) = tsq G l q ++ [nameOf G x] ∧ nsq G l (q + 1) = nsq G l q := by
  unfold tsq nsq
  rw [List.take_add_one, hx]
  simp [List.filter_append, h]
theorem tsq_no {G : GramD} {l : List Int} {q : Nat} {x : Int} (hx : l[q]? = some x) (h : isTerm G x = false) : nsq G l (q + 1) = nsq G l q ++ [nameOf G x] ∧ tsq G l (q + 1) = tsq G l q := by
  unfold tsq nsq
  rw [List.take_add_one, hx]
  simp [List.filter_append, h]
theorem rsq_yes {G : GramD} {l : List Int} {q : Nat} {r : Int × List Int} (hx : G.rules[q]? = some r) (h : r.1 ∈ l) : rsq G l (q + 1) = rsq G l q ++ [(placeOf l r.1, r.2.map (placeOf l))] := by
  unfold rsq
  rw [List.take_add_one, hx]
  simp [List.filter_append, h]
theorem rsq_no {G : GramD} {l : List Int} {q : Nat} {r : Int × List Int} (hx : G.rules[q]? = some r) (h : r.1 ∉ l) : rsq G l (q + 1) = rsq G l q := by
  unfold rsq
  rw [List.take_add_one, hx]
  simp [List.filter_append, h]
theorem tsq_len (G : GramD) (l : List Int) (q : Nat) : (tsq G l q).length ≤ q ∧ (nsq G l q).length ≤ q := by
  unfold tsq nsq
  constructor <;> rw [List.length_map] <;> exact Nat.le_trans (List.length_filter_le _ _) (by simp; omega)
theorem rsq_len (G : GramD) (l : List Int) (q : Nat) : (rsq G l q).length ≤ q := by
  unfold rsq
  rw [List.length_map]
  exact Nat.le_trans (List.length_filter_le _ _) (by simp; omega)

theorem oa_sz {w wr : World} {F : Nat → Prop} {A1 : Option Addr} {c1 : Nat} {A2 : Option Addr} {c2 : Nat} {A3 : Option Addr} {c3 T N R : Nat} {st : Int} {G : GramD} {b : Nat} {S : Nat → Prop} {n : Nat} {f : Nat → Bool} {base zb : Nat} {nf : Int → Int} {lv : Value} {l : List Int} {vt vn vr : Value} {s' : Int} {ts ns : List ByteArray} {rvs : List ((Int × List Int) × Value)} (h : OSt w wr F A1 c1 A2 c2 A3 c3 T N R st G b S n f base zb nf lv l vt vn vr s' ts ns rvs) : base ≤ wr.heap.size := h.hz.2.2

set_option maxRecDepth 100000 in
set_option maxHeartbeats 8000000 in
theorem live_only {w : World} {F : Nat → Prop} {vt vn vr : Value} {G : GramD} (h : IsGram w F vt vn vr G) (st : Int) (hk : Kn G st) {b : Nat} {S : Nat → Prop} {f : Nat → Bool} (hs : IsSet w b S (G.terms.length + G.nons.length + 1) f) (hf0 : f 0 = false) :
    Calls Try.prog 108 #[GV vt vn vr st, .pointer (some ⟨b, 0, none⟩)] w (GramPost w (onlyG G st ((below f (G.terms.length + G.nons.length + 1)).map (fun n : Nat => (n : Int))))) := by
  obtain ⟨A1, c1, A2, c2, A3, c3, rfl, rfl, rfl, -⟩ := h.slices
  obtain ⟨w1, hw1⟩ : ∃ w1, w1 = w.alloc (.cells #[.slice A1 G.terms.length c1, .slice A2 G.nons.length c2, .slice A3 G.rules.length c3, .int .i64 st] 25) := ⟨_, rfl⟩
  have g1 := GBox.new h st
  have b1 : Below w.heap.size w w1 := by rw [hw1]; exact (Below.refl _ w).alloc (Nat.le_refl _) _
  have z1 : w1.heap.size = w.heap.size + 1 := by rw [hw1]; simp
  rw [← hw1] at g1
  obtain ⟨w2, hw2⟩ : ∃ w2, w2 = w1.alloc (.cells #[.slice none 0 0, .slice none 0 0, .slice none 0 0, .int .i64 0] 25) := ⟨_, rfl⟩
  have b2 : Below w1.heap.size w1 w2 := by rw [hw2]; exact (Below.refl _ _).alloc (Nat.le_refl _) _
  have k2 : Blk w2 (w.heap.size + 1) 25 #[.slice none 0 0, .slice none 0 0, .slice none 0 0, .int .i64 0] := by rw [hw2, ← z1]; exact Blk.new _ _ _
  have z2 : w2.heap.size = w.heap.size + 2 := by rw [hw2]; simp; omega
  obtain ⟨w3, hw3⟩ : ∃ w3, w3 = w2.alloc (.cells #[.slice none 0 0, .slice none 0 0, .slice none 0 0, .int .i64 0] 25) := ⟨_, rfl⟩
  have b3 : Below w2.heap.size w2 w3 := by rw [hw3]; exact (Below.refl _ _).alloc (Nat.le_refl _) _
  have k3 : Blk w3 (w.heap.size + 2) 25 #[.slice none 0 0, .slice none 0 0, .slice none 0 0, .int .i64 0] := by rw [hw3, ← z2]; exact Blk.new _ _ _
  have z3 : w3.heap.size = w.heap.size + 3 := by rw [hw3]; simp; omega
  have g3 := (g1.below b2).below b3
  have k23 := k2.below b3 k2.lt
  have bw3 : Below w.heap.size w w3 := (b1.trans (b2.mono b1.size)).trans (b3.mono (by omega))
  have hs3 := hs.keep bw3
  have hSl := hs.lt
  have ct := gram_top g3.gram st
  rw [show topOf G = G.terms.length + G.nons.length from rfl] at ct
  have hF := h.lt
  have t0 := hk.t
  have t1 := hk.n
  have t2 := hk.r
  have hreach := h.reach
  have hwfs := h.wfs
  have hkst := hk.st
  rw [isNon_iff] at hkst
  obtain ⟨stn, rfl⟩ := Int.eq_ofNat_of_zero_le (show 0 ≤ st by omega)
  have hkr : ∀ r ∈ G.rules, (1 ≤ r.1 ∧ r.1 ≤ (G.terms.length : Int) + G.nons.length) ∧ ∀ x ∈ r.2, 1 ≤ x ∧ x ≤ (G.terms.length : Int) + G.nons.length := fun r hr => by
    obtain ⟨k1, k2⟩ := hk.k r hr
    rw [isNon_iff] at k1
    exact ⟨by omega, k2⟩
  have hlr : ∀ x ∈ (below f (G.terms.length + G.nons.length + 1)).map (fun n : Nat => (n : Int)), 1 ≤ x ∧ x ≤ (G.terms.length : Int) + G.nons.length := fun x hx => by
    rw [mem_below] at hx
    unfold hasI at hx
    simp only [Bool.and_eq_true, decide_eq_true_eq] at hx
    by_cases e : x = 0
    · subst e
      rw [show (0 : Int).toNat = 0 from rfl, hf0] at hx
      cases hx.2
    · omega
  have hnd := below_nodup f (G.terms.length + G.nons.length + 1)
  have hll : ((below f (G.terms.length + G.nons.length + 1)).map (fun n : Nat => (n : Int))).length ≤ G.terms.length + G.nons.length + 1 := by rw [List.length_map]; exact below_le _ _
  have hmem : ∀ x, hasI (G.terms.length + G.nons.length + 1) f x = true ↔ x ∈ (below f (G.terms.length + G.nons.length + 1)).map (fun n : Nat => (n : Int)) := fun x => mem_below.symm
  have hfinG : ∀ l : List Int, onlyG G stn l = ⟨tsq G l l.length, nsq G l l.length, rsq G l G.rules.length, placeOf l stn⟩ := fun l => by
    unfold onlyG tsq nsq rsq
    rw [List.take_length, List.take_length]
  have hmk := make_rows (P := Try.prog) Try.elemInt rfl (G.terms.length + G.nons.length + 1) (by omega) (by omega) .i64 .i64
  have htn : ∀ x, isTerm G x = true → nameOf G x ∈ G.terms := fun x => nameOf_term
  have hnn : ∀ x, (1 ≤ x ∧ x ≤ (G.terms.length : Int) + G.nons.length) → isTerm G x = false → nameOf G x ∈ G.nons := fun x hx hn => nameOf_non (by
    rw [isNon_iff]
    have : ¬ (isTerm G x = true) := by rw [hn]; simp
    rw [isTerm_iff] at this
    omega)
  generalize hT : G.terms.length = T at *
  generalize hN : G.nons.length = N at *
  generalize hR : G.rules.length = R at *
  have hmk : ∀ w : World, (Instr.makeSlice 28 (.int .i64 ((T : Int) + (N : Int) + 1)) (.int .i64 ((T : Int) + (N : Int) + 1))).run Try.prog w = .ok (.slice (some ⟨w.heap.size, 0, none⟩) (T + N + 1) (T + N + 1)) (w.alloc (.cells (List.replicate (T + N + 1) (I64 0)).toArray 3)) := fun w => by
    have := hmk w
    rw [show ((T + N + 1 : Nat) : Int) = (T : Int) + (N : Int) + 1 by omega] at this
    exact this
  generalize hn : T + N + 1 = n at *
  have hlst := fun (W : World) (hb : Below w.heap.size w W) => set_list (hs.keep hb)
  have hlst2 : ∀ W (e : Ending) w', ListPost W (below f n) e w' → ∃ A c, e = .returned (.slice A ((below f n).map (fun n : Nat => (n : Int))).length c) ∧ w'.ownsRow W.heap.size 3 1 (.slice A ((below f n).map (fun n : Nat => (n : Int))).length c) ((below f n).map (fun n : Nat => (n : Int))).length (((below f n).map (fun n : Nat => (n : Int))).map I64) ∧ Below W.heap.size W w' := fun W e w' h => by
    obtain ⟨A, c, e1, e2, e3⟩ := h
    refine ⟨A, c, by rw [List.length_map]; exact e1, ?_, e3⟩
    rw [List.length_map, List.map_map]
    exact e2
  generalize hl : (below f n).map (fun n : Nat => (n : Int)) = l at *
  obtain ⟨q0, q1, q2, q3⟩ := g3.cells
  rw [hw3, hw2, hw1] at ct q0 q1 q2 q3
  clear h hs k2 g1 b1 b2 b3 z1 z2 hk
  have XhF := hide hF
  have Xct := hide ct
  have Xg3 := hide g3
  have Xk23 := hide k23
  have Xk3 := hide k3
  have Xbw3 := hide bw3
  have Xhs3 := hide hs3
  have XhSl := hide hSl
  have Xhreach := hide hreach
  have Xhwfs := hide hwfs
  have Xhkr := hide hkr
  have Xhlr := hide hlr
  have Xhnd := hide hnd
  have Xhll := hide hll
  have Xhmem := hide hmem
  have XhfinG := hide hfinG
  have Xhtn := hide htn
  have Xhnn := hide hnn
  have XhT := hide hT
  have XhN := hide hN
  have XhR := hide hR
  have Xhn := hide hn
  have Xhl := hide hl
  have Xhlst := hide hlst
  have Xhlst2 := hide hlst2
  have Xz3 := hide z3
  have Xhf0 := hide hf0
  clear hF ct g3 k23 k3 bw3 hs3 hSl hreach hwfs hkr hlr hnd hll hmem hfinG htn hnn hT hN hR hn hl hlst hlst2 z3 hf0
  go_enter Try.func108, Try.ntmps108
  go_wp2_with fail
  with_reducible refine Xct.out.mono ?_
  rintro e w4 ⟨rfl, b4⟩
  rw [← hw1, ← hw2, ← hw3] at b4
  have g4 := Xg3.out.below b4
  have k24 := Xk23.out.below b4 Xk23.out.lt
  have k34 := Xk3.out.below b4 Xk3.out.lt
  have hb4 := Xbw3.out.trans (b4.mono Xbw3.out.size)
  have hs4 := Xhs3.out.keep b4
  have z4 : w.heap.size + 2 < w4.heap.size := by have := b4.size; have := Xz3.out; omega
  clear hw1 hw2 hw3 q0 q1 q2 q3 Xct Xg3 Xk23 Xk3 Xbw3 Xhs3 b4 Xz3
  have Xg4 := hide g4
  have Xk24 := hide k24
  have Xk34 := hide k34
  have Xhb4 := hide hb4
  have Xhs4 := hide hs4
  clear g4 k24 k34 hb4 hs4
  go_wp2_with fail
  have b5 : Below w4.heap.size w4 (w4.alloc (.cells (Array.replicate n (I64 0)) 3)) := (Below.refl _ _).alloc (Nat.le_refl _) _
  have hb5 := Xhb4.out.trans (b5.mono Xhb4.out.size)
  have kn5 : Blk (w4.alloc (.cells (Array.replicate n (I64 0)) 3)) w4.heap.size 3 (Array.replicate n (I64 0)) := Blk.new _ _ _
  have z5 : (w4.alloc (.cells (Array.replicate n (I64 0)) 3)).heap.size = w4.heap.size + 1 := by simp
  with_reducible refine (Xhlst.out _ hb5).mono ?_
  intro e w6 h6
  obtain ⟨A6, c6, rfl, ho6, b6⟩ := Xhlst2.out _ _ _ h6
  rw [z5] at ho6
  have z6 : w4.heap.size + 1 ≤ w6.heap.size := by have := b6.size; omega
  have b46 := b5.trans (b6.mono b5.size)
  have hno : ∀ j : Nat, j < n → placeOf (l.take 0) (j : Int) = 0 := fun j _ => placeOf_not (by simp)
  have o6 : OSt w w6 F A1 c1 A2 c2 A3 c3 T N R stn G b S n f w6.heap.size w4.heap.size (placeOf (l.take 0)) (.slice A6 l.length c6) l (.slice none 0 0) (.slice none 0 0) (.slice none 0 0) 0 [] [] [] := by
    refine ⟨⟨Xg4.out.below b46, Xhs4.out.keep b46, Xhb4.out.trans (b46.mono Xhb4.out.size)⟩, Xk24.out.below b46 Xk24.out.lt, ⟨_, kn5.below b6 kn5.lt, by simp, fun x hx => ?_⟩, (Rd.of_own ho6).mono (fun k hk => by have := ho6.lt k hk; omega), ⟨Xk34.out.below b46 Xk34.out.lt, World.ownsRow_nil _ _ _ _, World.ownsRow_nil _ _ _ _, World.ownsRow_nil _ _ _ _, fun p hp => absurd hp (by simp), fun k hk => by simp [Value.ownBlock] at hk⟩, XhF.out, XhSl.out, ⟨by omega, by omega, Nat.le_refl _⟩⟩
    rw [hno x hx]
    simp [hx]
  have hlv := RdI.at_ o6.lst
  generalize w6.heap.size = base at o6
  generalize w4.heap.size = zb at *
  have hncap : l.length ≤ c6 := hlv.2.1
  have hcap : c6 ≤ 9223372036854775807 := by have := hlv.2.2.1; unfold maxLen at this; omega
  clear hlv h6 ho6 b6 b46 b5 hb5 kn5 z5 z6 hno Xg4 Xk24 Xk34 Xhb4 Xhs4 Xhlst Xhlst2 z4 hmk
  have Xo6 := hide o6
  clear o6
  go_wp2_with fail
  go_loopw [21] (fun i wr => ∃ (q : Nat) (At : Option Addr) (ct : Nat) (An : Option Addr) (cn : Nat), q ≤ l.length ∧ i = .int .i64 q ∧ OSt w wr F A1 c1 A2 c2 A3 c3 T N R stn G b S n f base zb (placeOf (l.take q)) (.slice A6 l.length c6) l (.slice At (tsq G l q).length ct) (.slice An (nsq G l q).length cn) (.slice none 0 0) 0 (tsq G l q) (nsq G l q) []) (fun i _ => l.length - (intOf i).toNat)
  case atStart => exact ⟨0, none, 0, none, 0, Nat.zero_le _, rfl, Xo6.out⟩
  case round =>
    clear Xo6
    obtain ⟨q, At, ct, An, cn, hq, rfl, o⟩ := hrel
    have hll := Xhll.out
    by_cases hlq : q < l.length
    · obtain ⟨-, -, -, hcell⟩ := RdI.at_ o.lst
      obtain ⟨bl, off, rfl, hbl, hcc⟩ := hcell (by omega)
      obtain ⟨x, hx⟩ : ∃ x, l[q]? = some x := ⟨_, List.getElem?_eq_getElem hlq⟩
      have hcx := hcc q x hx
      have hxm := List.mem_of_getElem? hx
      have hxr := Xhlr.out x hxm
      obtain ⟨xn, rfl⟩ := Int.eq_ofNat_of_zero_le (show 0 ≤ x by omega)
      have hxn : xn < n := by have := Xhn.out; omega
      obtain ⟨e1, e2, e3⟩ := o.nowAt hxn
      have o5 := o.setNow (nf' := placeOf (l.take (q + 1))) (u := (q : Int) + 1) hxn (fun y hy => placeOf_take Xhnd.out hx y)
      have hlq' : (q : Int) < (l.length : Int) := by omega
      have hxn' : (xn : Int) < (n : Int) := by omega
      have hlen := tsq_len G l q
      have hq2 : q ≤ 241 := by have := Xhn.out; omega
      clear hcell hcc hll
      have Xo := hide o
      have Xo5 := hide o5
      have Xhx := hide hx
      have Xhxm := hide hxm
      have Xhlen := hide hlen
      clear o o5 hx hxm hlen
      go_upto_region 7 with fail
      obtain ⟨w5, hw5⟩ : ∃ w5, w5 = wr.setCell ⟨zb, xn, none⟩ (.int .i64 ((q : Int) + 1)) := ⟨_, rfl⟩
      rw [← hw5] at Xo5 ⊢
      clear hw5 hcx e1 e2 e3 Xo
      have o5 := Xo5.out
      obtain ⟨q0, q1, q2, q3⟩ := o5.t.g.cells
      have cm := gram_term o5.t.g.gram stn (xn : Int)
      cases ht : isTerm G (xn : Int) with
      | true =>
        rw [ht] at cm
        obtain ⟨u1, u2⟩ := tsq_yes Xhx.out ht
        obtain ⟨l1, l2⟩ := Xhlen.out
        have hpost : ∀ wr At' ct', OSt w wr F A1 c1 A2 c2 A3 c3 T N R stn G b S n f base zb (placeOf (l.take (q + 1))) (.slice (some ⟨bl, off, none⟩) l.length c6) l (.slice At' ((tsq G l q).length + 1) ct') (.slice An (nsq G l q).length cn) (.slice none 0 0) 0 (tsq G l q ++ [nameOf G (xn : Int)]) (nsq G l q) [] → OSt w wr F A1 c1 A2 c2 A3 c3 T N R stn G b S n f base zb (placeOf (l.take (q + 1))) (.slice (some ⟨bl, off, none⟩) l.length c6) l (.slice At' (tsq G l (q + 1)).length ct') (.slice An (nsq G l (q + 1)).length cn) (.slice none 0 0) 0 (tsq G l (q + 1)) (nsq G l (q + 1)) [] := fun wr At' ct' h => by
          rw [u1, u2, List.length_append]; exact h
        generalize tsq G l q = ts at *
        generalize nsq G l q = ns at *
        clear u1 u2 o5
        have Xcm := hide cm
        have Xht := hide ht
        have Xhpost := hide hpost
        clear cm ht hpost
        clear Xhlen
        go_wp2_with fail
        with_reducible refine Xcm.out.mono ?_
        rintro e w6 ⟨rfl, b6⟩
        have o6 := Xo5.out.below b6
        have cnm := gram_name (o6.below ((Below.refl _ w6).drew)).t.g.gram stn (xn : Int)
        obtain ⟨nm, hnm⟩ : ∃ nm, nm = nameOf G (xn : Int) := ⟨_, rfl⟩
        rw [← hnm] at cnm
        obtain ⟨v0, v1, v2, v3⟩ := o6.g.box
        clear q0 q1 q2 q3 b6 Xcm Xo5
        obtain ⟨q0, q1, q2, q3⟩ := o6.t.g.cells
        have Xo6 := hide o6
        have Xcnm := hide cnm
        have Xhnm := hide hnm
        clear o6 cnm hnm
        go_wp2_with fail
        refine region_late (fun w' => w'.cell? ⟨w.heap.size, 0, none⟩ = some (.slice A1 T c1) ∧ w'.cell? ⟨w.heap.size, 1, none⟩ = some (.slice A2 N c2) ∧ w'.cell? ⟨w.heap.size, 2, none⟩ = some (.slice A3 R c3) ∧ w'.cell? ⟨w.heap.size, 3, none⟩ = some (.int .i64 stn) ∧ w'.cell? ⟨w.heap.size + 1 + 1, 0, none⟩ = some (.slice At ts.length ct)) 4 6 (by kernel_rfl) (by kernel_rfl) ⟨q0, q1, q2, q3, v0⟩ ?_
        simp only [List.take_succ_cons, List.take_zero, List.drop_succ_cons, List.drop_zero]
        refine wpHeld_cons ?_ (by rfl) (fun wS hwS => ?_) ?_
        rotate_left
        · (try dsimp only at hwS)
          go_simp
          all_goals with_reducible rfl
        simp only [Act.put, List.setIfInBounds_toArray, List.set_cons_zero, List.set_cons_succ]
        refine wpHeld_cons ?_ (by rfl) (fun wS hwS => ?_) ?_
        rotate_left
        · (try dsimp only at hwS)
          go_simp
          all_goals with_reducible rfl
        simp only [Act.put, List.setIfInBounds_toArray, List.set_cons_zero, List.set_cons_succ]
        refine wpHeld_cons ?_ (by rfl) (fun wS hwS => ?_) ?_
        rotate_left
        · (try dsimp only at hwS)
          go_simp
          all_goals with_reducible rfl
        simp only [Act.put, List.setIfInBounds_toArray, List.set_cons_zero, List.set_cons_succ]
        refine wpHeld_cons ?_ (by rfl) (fun wS hwS => ?_) ?_
        rotate_left
        · (try dsimp only at hwS)
          go_simp
          all_goals with_reducible rfl
        simp only [Act.put, List.setIfInBounds_toArray, List.set_cons_zero, List.set_cons_succ]
        refine wpHeld_nil ?_
        refine wpMid_cons ?_
        go_wp2_with fail
        with_reducible refine Xcnm.out.mono ?_
        rintro e w7 ⟨rfl, b7⟩
        have o7 := (Xo6.out.below ((Below.refl _ _).drew)).below b7
        clear q0 q1 q2 q3 v0 v1 v2 v3 b7 Xo6 Xcnm
        have s7 : ∀ W, Below w7.heap.size w7 W → W.cell? ⟨w.heap.size, 0, none⟩ = some (.slice A1 T c1) ∧ W.cell? ⟨w.heap.size, 1, none⟩ = some (.slice A2 N c2) ∧ W.cell? ⟨w.heap.size, 2, none⟩ = some (.slice A3 R c3) ∧ W.cell? ⟨w.heap.size, 3, none⟩ = some (.int .i64 stn) ∧ W.cell? ⟨w.heap.size + 1 + 1, 0, none⟩ = some (.slice At ts.length ct) := fun W hW => by
          have oW := o7.below hW
          obtain ⟨y0, y1, y2, y3⟩ := oW.t.g.cells
          exact ⟨y0, y1, y2, y3, oW.g.box.1⟩
        have o8 := o7.below ((Below.refl _ w7).alloc (Nat.le_refl _) (.cells #[.string nm] 9))
        have ho8 := o8.g.t
        have hz8 := o8.hz.2.2
        have r8 : Rd (w7.alloc (.cells #[.string nm] 9)) (fun _ => True) (.slice (some ⟨w7.heap.size, 0, none⟩) 1 1) 1 [.string nm] := Rd.one (w := w7) (e := 9) [.string nm] 1 rfl
        have Xo7 := hide o7
        have Xo8 := hide o8
        have Xs7 := hide s7
        clear o7 o8 s7
        go_wp2_with fail
        refine ⟨Xs7.out w7 (Below.refl _ _), wpMid_cons ?_⟩
        go_wp2_with fail
        refine ⟨Xs7.out _ ((Below.refl _ w7).alloc (Nat.le_refl _) _), wpMid_nil ?_⟩
        go_wp2_with (at_builtin; refine wp_append _ rfl (.tmp 35) (.tmp 39) _ rfl Try.elemStr base _ ts.length (ts.map Value.string) rfl ho8 _ _ [.string nm] 1 rfl rfl r8 (by simp [Value.oneCell']) (by unfold maxLen; omega) (by omega) hz8 ?_)
        intro A9 c9 w9 ho9 hg9 hv9
        have o9 := Xo8.out.addT (s := nm) hg9 ho9 (hv9.imp id fun e => by rw [e]; simp)
        have hb9 : Blk w9 (w.heap.size + 2) 25 _ := (Xo8.out.grownBoxes hg9 (fun k hk => (ho8.lt k hk).1)).2
        have p1 := (hb9.cell 0).trans rfl
        have p2 := hb9.frozen 0
        clear ho8 r8 ho9 hg9 hv9 Xo8 Xo7 hb9
        rw [Xhnm.out] at o9
        have o9 := Xhpost.out _ _ _ o9
        clear Xhpost
        have Xo9 := hide o9
        clear o9
        go_wp2_with fail
        refine NoPanic.normal ?_
        go_wp2_with fail
        go_roundw
        case rel => exact ⟨q + 1, _, _, _, _, by omega, by go_num, Xo9.out⟩
        case measure => simp [intOf]; omega
      | false =>
        rw [ht] at cm
        obtain ⟨u1, u2⟩ := tsq_no Xhx.out ht
        obtain ⟨l1, l2⟩ := Xhlen.out
        have hpost : ∀ wr An' cn', OSt w wr F A1 c1 A2 c2 A3 c3 T N R stn G b S n f base zb (placeOf (l.take (q + 1))) (.slice (some ⟨bl, off, none⟩) l.length c6) l (.slice At (tsq G l q).length ct) (.slice An' ((nsq G l q).length + 1) cn') (.slice none 0 0) 0 (tsq G l q) (nsq G l q ++ [nameOf G (xn : Int)]) [] → OSt w wr F A1 c1 A2 c2 A3 c3 T N R stn G b S n f base zb (placeOf (l.take (q + 1))) (.slice (some ⟨bl, off, none⟩) l.length c6) l (.slice At (tsq G l (q + 1)).length ct) (.slice An' (nsq G l (q + 1)).length cn') (.slice none 0 0) 0 (tsq G l (q + 1)) (nsq G l (q + 1)) [] := fun wr An' cn' h => by
          rw [u1, u2, List.length_append]; exact h
        generalize tsq G l q = ts at *
        generalize nsq G l q = ns at *
        clear u1 u2 o5
        have Xcm := hide cm
        have Xht := hide ht
        have Xhpost := hide hpost
        clear cm ht hpost
        clear Xhlen
        go_wp2_with fail
        with_reducible refine Xcm.out.mono ?_
        rintro e w6 ⟨rfl, b6⟩
        have o6 := Xo5.out.below b6
        have cnm := gram_name (o6.below ((Below.refl _ w6).drew)).t.g.gram stn (xn : Int)
        obtain ⟨nm, hnm⟩ : ∃ nm, nm = nameOf G (xn : Int) := ⟨_, rfl⟩
        rw [← hnm] at cnm
        obtain ⟨v0, v1, v2, v3⟩ := o6.g.box
        clear q0 q1 q2 q3 b6 Xcm Xo5
        obtain ⟨q0, q1, q2, q3⟩ := o6.t.g.cells
        have Xo6 := hide o6
        have Xcnm := hide cnm
        have Xhnm := hide hnm
        clear o6 cnm hnm
        go_wp2_with fail
        refine region_late (fun w' => w'.cell? ⟨w.heap.size, 0, none⟩ = some (.slice A1 T c1) ∧ w'.cell? ⟨w.heap.size, 1, none⟩ = some (.slice A2 N c2) ∧ w'.cell? ⟨w.heap.size, 2, none⟩ = some (.slice A3 R c3) ∧ w'.cell? ⟨w.heap.size, 3, none⟩ = some (.int .i64 stn) ∧ w'.cell? ⟨w.heap.size + 1 + 1, 1, none⟩ = some (.slice An ns.length cn)) 4 6 (by kernel_rfl) (by kernel_rfl) ⟨q0, q1, q2, q3, v1⟩ ?_
        simp only [List.take_succ_cons, List.take_zero, List.drop_succ_cons, List.drop_zero]
        refine wpHeld_cons ?_ (by rfl) (fun wS hwS => ?_) ?_
        rotate_left
        · (try dsimp only at hwS)
          go_simp
          all_goals with_reducible rfl
        simp only [Act.put, List.setIfInBounds_toArray, List.set_cons_zero, List.set_cons_succ]
        refine wpHeld_cons ?_ (by rfl) (fun wS hwS => ?_) ?_
        rotate_left
        · (try dsimp only at hwS)
          go_simp
          all_goals with_reducible rfl
        simp only [Act.put, List.setIfInBounds_toArray, List.set_cons_zero, List.set_cons_succ]
        refine wpHeld_cons ?_ (by rfl) (fun wS hwS => ?_) ?_
        rotate_left
        · (try dsimp only at hwS)
          go_simp
          all_goals with_reducible rfl
        simp only [Act.put, List.setIfInBounds_toArray, List.set_cons_zero, List.set_cons_succ]
        refine wpHeld_cons ?_ (by rfl) (fun wS hwS => ?_) ?_
        rotate_left
        · (try dsimp only at hwS)
          go_simp
          all_goals with_reducible rfl
        simp only [Act.put, List.setIfInBounds_toArray, List.set_cons_zero, List.set_cons_succ]
        refine wpHeld_nil ?_
        refine wpMid_cons ?_
        go_wp2_with fail
        with_reducible refine Xcnm.out.mono ?_
        rintro e w7 ⟨rfl, b7⟩
        have o7 := (Xo6.out.below ((Below.refl _ _).drew)).below b7
        clear q0 q1 q2 q3 v0 v1 v2 v3 b7 Xo6 Xcnm
        have s7 : ∀ W, Below w7.heap.size w7 W → W.cell? ⟨w.heap.size, 0, none⟩ = some (.slice A1 T c1) ∧ W.cell? ⟨w.heap.size, 1, none⟩ = some (.slice A2 N c2) ∧ W.cell? ⟨w.heap.size, 2, none⟩ = some (.slice A3 R c3) ∧ W.cell? ⟨w.heap.size, 3, none⟩ = some (.int .i64 stn) ∧ W.cell? ⟨w.heap.size + 1 + 1, 1, none⟩ = some (.slice An ns.length cn) := fun W hW => by
          have oW := o7.below hW
          obtain ⟨y0, y1, y2, y3⟩ := oW.t.g.cells
          exact ⟨y0, y1, y2, y3, oW.g.box.2.1⟩
        have o8 := o7.below ((Below.refl _ w7).alloc (Nat.le_refl _) (.cells #[.string nm] 9))
        have ho8 := o8.g.n
        have hz8 := o8.hz.2.2
        have r8 : Rd (w7.alloc (.cells #[.string nm] 9)) (fun _ => True) (.slice (some ⟨w7.heap.size, 0, none⟩) 1 1) 1 [.string nm] := Rd.one (w := w7) (e := 9) [.string nm] 1 rfl
        have Xo7 := hide o7
        have Xo8 := hide o8
        have Xs7 := hide s7
        clear o7 o8 s7
        go_wp2_with fail
        refine ⟨Xs7.out w7 (Below.refl _ _), wpMid_cons ?_⟩
        go_wp2_with fail
        refine ⟨Xs7.out _ ((Below.refl _ w7).alloc (Nat.le_refl _) _), wpMid_nil ?_⟩
        go_wp2_with (at_builtin; refine wp_append _ rfl (.tmp 43) (.tmp 47) _ rfl Try.elemStr base _ ns.length (ns.map Value.string) rfl ho8 _ _ [.string nm] 1 rfl rfl r8 (by simp [Value.oneCell']) (by unfold maxLen; omega) (by omega) hz8 ?_)
        intro A9 c9 w9 ho9 hg9 hv9
        have o9 := Xo8.out.addN (s := nm) hg9 ho9 (hv9.imp id fun e => by rw [e]; simp)
        have hb9 : Blk w9 (w.heap.size + 2) 25 _ := (Xo8.out.grownBoxes hg9 (fun k hk => (ho8.lt k hk).1)).2
        have p1 := (hb9.cell 1).trans rfl
        have p2 := hb9.frozen 1
        clear ho8 r8 ho9 hg9 hv9 Xo8 Xo7 hb9
        rw [Xhnm.out] at o9
        have o9 := Xhpost.out _ _ _ o9
        clear Xhpost
        have Xo9 := hide o9
        clear o9
        go_wp2_with fail
        refine NoPanic.normal ?_
        go_wp2_with fail
        go_roundw
        case rel => exact ⟨q + 1, _, _, _, _, by omega, by go_num, Xo9.out⟩
        case measure => simp [intOf]; omega
    · have hql : q = l.length := by omega
      subst hql
      rw [List.take_length] at o
      have hlq' : ¬ (l.length : Int) < (l.length : Int) := by omega
      have hsn : stn < n := by have := Xhn.out; omega
      obtain ⟨e1, e2, e3⟩ := o.nowAt hsn
      have hfz := o.g.blk.frozen 3
      have o1 := o.start (placeOf l (stn : Int))
      obtain ⟨q0, q1, q2, q3⟩ := o.t.g.cells
      obtain ⟨v0, v1, v2, v3⟩ := o.g.box
      have hsn' : (stn : Int) < (n : Int) := by omega
      have hlens := tsq_len G l l.length
      have r0 := o.t.g.rs
      have r1 := o.t.g.rc
      have r2 := o.t.g.c3m
      have htz : ∀ s ∈ tsq G l l.length, s.size ≤ 140737488351232 := fun s hs => by
        unfold tsq at hs
        obtain ⟨x, hx, rfl⟩ := List.mem_map.1 hs
        rw [List.mem_filter] at hx
        exact Xhreach.out.1 _ (Xhtn.out x hx.2)
      have hnz : ∀ s ∈ nsq G l l.length, s.size ≤ 140737488351232 := fun s hs => by
        unfold nsq at hs
        obtain ⟨x, hx, rfl⟩ := List.mem_map.1 hs
        rw [List.mem_filter] at hx
        exact Xhreach.out.2 _ (Xhnn.out x (Xhlr.out x (List.mem_of_mem_take hx.1)) (by simpa using hx.2))
      have hfg := XhfinG.out l
      clear hll
      have Xhtz := hide htz
      have Xhnz := hide hnz
      have Xhfg := hide hfg
      clear htz hnz hfg
      generalize tsq G l l.length = ts at *
      generalize nsq G l l.length = ns at *
      have Xo := hide o
      have Xo1 := hide o1
      clear o o1
      go_upto_region 12 with fail
      obtain ⟨w5, hw5⟩ : ∃ w5, w5 = wr.setCell ⟨w.heap.size + 1 + 1, 3, none⟩ (.int .i64 (placeOf l (stn : Int))) := ⟨_, rfl⟩
      have o5 : OSt w w5 F A1 c1 A2 c2 A3 c3 T N R stn G b S n f base zb (placeOf l) (.slice A6 l.length c6) l (.slice At ts.length ct) (.slice An ns.length cn) (.slice none 0 0) (placeOf l (stn : Int)) ts ns [] := by rw [hw5]; exact Xo1.out
      rw [← hw5]
      clear hw5 Xo Xo1 e1 e2 e3 q0 q1 q2 q3 v0 v1 v2 v3 hfz
      obtain ⟨q0, q1, q2, q3⟩ := o5.t.g.cells
      have Xo5 := hide o5
      clear o5
      go_wp2_with fail
      clear q0 q1 q2 q3
      go_loopw [60] (fun i wr => ∃ (q : Nat) (Ar : Option Addr) (cr : Nat) (rvs : List ((Int × List Int) × Value)), q ≤ R ∧ i = .int .i64 q ∧ OSt w wr F A1 c1 A2 c2 A3 c3 T N R stn G b S n f base zb (placeOf l) (.slice A6 l.length c6) l (.slice At ts.length ct) (.slice An ns.length cn) (.slice Ar rvs.length cr) (placeOf l (stn : Int)) ts ns rvs ∧ rvs.map (·.1) = rsq G l q) (fun i _ => R - (intOf i).toNat)
      case atStart => exact ⟨0, none, 0, [], Nat.zero_le _, rfl, Xo5.out, rfl⟩
      case round =>
        clear Xo5
        obtain ⟨q, Ar, cr, rvs, hq, rfl, o, hrv⟩ := hrel
        by_cases hqR : q < R
        · obtain ⟨bb, off, l0, xs, Ax, nx, cx, rfl, hbl, hx, h0, h1, hr, hnx, hnc, hcm⟩ := o.t.g.rule hqR
          have hq' : (q : Int) < (R : Int) := by omega
          obtain ⟨wa, hwa⟩ : ∃ wa, wa = wr.alloc (.cells #[.int .i64 l0, .slice Ax nx cx] 30) := ⟨_, rfl⟩
          have ba : Below wr.heap.size wr wa := by rw [hwa]; exact (Below.refl _ _).alloc (Nat.le_refl _) _
          have ka : Blk wa wr.heap.size 30 #[.int .i64 l0, .slice Ax nx cx] := by rw [hwa]; exact Blk.new _ _ _
          have oa := o.below ba
          have hra := hr.below ba o.t.g.gram.lt
          have ch := set_has oa.t.s l0
          rw [hwa] at ch
          have hmm := Xhmem.out l0
          have hll := rsq_len G l q
          have hrl : rvs.length ≤ q := by
            have := congrArg List.length hrv
            rw [List.length_map] at this
            omega
          obtain ⟨hk0, hkx⟩ := Xhkr.out _ (List.mem_of_getElem? hx)
          simp only at hk0 hkx
          clear hll
          cases hh : hasI n f l0 with
          | false =>
            rw [hh] at ch
            have hrv2 : rvs.map (·.1) = rsq G l (q + 1) := by
              rw [rsq_no hx (fun e => by rw [hmm.2 e] at hh; cases hh)]
              exact hrv
            have Xo := hide o
            have Xoa := hide oa
            have Xka := hide ka
            have Xhra := hide hra
            have Xhr := hide hr
            have Xhx := hide hx
            have Xhmm := hide hmm
            have Xhrv := hide hrv
            have Xhrv2 := hide hrv2
            have Xch := hide ch
            have Xhh := hide hh
            have Xhnx := hide hnx
            have Xhkx := hide hkx
            clear o oa ka hra hr hx hmm hrv hrv2 ch hh hnx hkx
            go_wp2_with fail
            with_reducible refine Xch.out.mono ?_
            rintro e w6 ⟨rfl, rfl⟩
            rw [← hwa]
            clear hwa h0 h1
            go_wp2_with fail
            go_roundw
            case rel => exact ⟨q + 1, Ar, cr, rvs, by omega, by go_num, Xoa.out, Xhrv2.out⟩
            case measure => simp [intOf]; omega
          | true =>
            rw [hh] at ch
            obtain ⟨ln, rfl⟩ := Int.eq_ofNat_of_zero_le (show 0 ≤ l0 by omega)
            have hln : ln < n := by have := Xhn.out; omega
            obtain ⟨n1, n2, n3⟩ := oa.nowAt hln
            have hln' : (ln : Int) < (n : Int) := by omega
            have hrv2 := rsq_yes hx (hmm.1 hh)
            simp only at hrv2
            rw [← hrv] at hrv2
            have p0 := (ka.cell 0).trans rfl
            have p1 := (ka.cell 1).trans rfl
            have hwz := ka.lt
            have Xo := hide o
            have Xoa := hide oa
            have Xka := hide ka
            have Xhra := hide hra
            have Xhr := hide hr
            have Xhx := hide hx
            have Xhmm := hide hmm
            have Xhrv := hide hrv
            have Xhrv2 := hide hrv2
            have Xch := hide ch
            have Xhh := hide hh
            have Xhnx := hide hnx
            have Xhkx := hide hkx
            clear o oa ka hra hr hx hmm hrv hrv2 ch hh hnx hkx
            go_wp2_with fail
            with_reducible refine Xch.out.mono ?_
            rintro e w6 ⟨rfl, rfl⟩
            rw [← hwa]
            clear hwa h0 h1
            have hkb : Blk (wa.alloc (.cells #[.int .i64 (placeOf l (ln : Int)), .slice none 0 0] 30)) wa.heap.size 30 #[.int .i64 (placeOf l (ln : Int)), .slice none 0 0] := Blk.new _ _ _
            have hbb : Below wa.heap.size wa (wa.alloc (.cells #[.int .i64 (placeOf l (ln : Int)), .slice none 0 0] 30)) := (Below.refl _ _).alloc (Nat.le_refl _) _
            have hsb : wa.heap.size + 1 ≤ (wa.alloc (.cells #[.int .i64 (placeOf l (ln : Int)), .slice none 0 0] 30)).heap.size := by simp
            have hab := oa_sz Xoa.out
            have Xhkb := hide hkb
            have Xhbb := hide hbb
            clear hkb hbb
            go_wp2_with fail
            generalize hy : wa.heap.size = y at *
            have hfa : ∀ k, F k → k < y := fun k hk => by have h1 := XhF.out k hk; have h2 := Xoa.out.hz; omega
            clear n1 n2 n3 p0 p1
            go_loopw [78] (fun i wr => ∃ (p : Nat) (A : Option Addr) (c : Nat), p ≤ nx ∧ i = .int .i64 p ∧ Blk wr y 30 #[.int .i64 (placeOf l (ln : Int)), .slice A p c] ∧ wr.ownsRow (y + 1) 3 1 (.slice A p c) p (((xs.take p).map (placeOf l)).map I64) ∧ Below y wa wr ∧ y + 1 ≤ wr.heap.size) (fun i _ => nx - (intOf i).toNat)
            case atStart => exact ⟨0, none, 0, Nat.zero_le _, rfl, Xhkb.out, World.ownsRow_nil _ _ _ _, Xhbb.out, hsb⟩
            case round =>
              clear Xhkb Xhbb hsb
              obtain ⟨p, A, c, hp, rfl, hk, ho, hb, hs⟩ := hrel
              have oW : ∀ W, Below y wa W → OSt w W F A1 c1 A2 c2 (some ⟨bb, off, none⟩) c3 T N R stn G b S n f base zb (placeOf l) (.slice A6 l.length c6) l (.slice At ts.length ct) (.slice An ns.length cn) (.slice Ar rvs.length cr) (placeOf l (stn : Int)) ts ns rvs := fun W hW => Xoa.out.below (by rw [hy]; exact hW)
              by_cases hpx : p < nx
              · have hr4 := (show RdI wa F (.slice Ax nx cx) xs from Xhra.out).below hb hfa
                obtain ⟨-, -, -, hcell⟩ := RdI.at_ hr4
                obtain ⟨xb, xoff, rfl, hxb, hcc⟩ := hcell (by omega)
                obtain ⟨x, hxp⟩ : ∃ x, xs[p]? = some x := ⟨_, List.getElem?_eq_getElem (by have := Xhnx.out; omega)⟩
                have hcx := hcc p x hxp
                have hrng := Xhkx.out x (List.mem_of_getElem? hxp)
                obtain ⟨xn, rfl⟩ := Int.eq_ofNat_of_zero_le (show 0 ≤ x by omega)
                have hxn : xn < n := by have := Xhn.out; omega
                have hxn' : (xn : Int) < (n : Int) := by omega
                have hpx' : (p : Int) < (nx : Int) := by omega
                obtain ⟨n1, -, -⟩ := (oW wr hb).nowAt hxn
                have e1 := (hk.cell 1).trans rfl
                have hnxl : nx ≤ 17592186044416 := by
                  have := (Xhwfs.out _ (List.mem_of_getElem? Xhx.out)).2.1
                  have h2 := Xhnx.out
                  simp only at this
                  omega
                have ho4 : (wr.drew.alloc (.cells #[I64 (placeOf l (xn : Int))] 3)).ownsRow (y + 1) 3 1 (.slice A p c) p (((xs.take p).map (placeOf l)).map I64) := own_below' ho (((Below.refl _ wr).drew).alloc (Nat.le_refl _) _)
                have hk4 : Blk (wr.drew.alloc (.cells #[I64 (placeOf l (xn : Int))] 3)) y 30 #[.int .i64 (placeOf l (ln : Int)), .slice A p c] := (hk.drew).alloc _
                have r4 : Rd (wr.drew.alloc (.cells #[I64 (placeOf l (xn : Int))] 3)) (fun _ => True) (.slice (some ⟨wr.heap.size, 0, none⟩) 1 1) 1 [I64 (placeOf l (xn : Int))] := Rd.one (w := wr.drew) (e := 3) [I64 (placeOf l (xn : Int))] 1 rfl
                have hb4 : Below y wa (wr.drew.alloc (.cells #[I64 (placeOf l (xn : Int))] 3)) := (hb.drew).alloc (by show y ≤ wr.heap.size; omega) _
                have n4 := ((oW _ hb4).nowAt hxn).1
                have e4 := (hk4.cell 1).trans rfl
                have hz4 : y + 1 ≤ (wr.drew.alloc (.cells #[I64 (placeOf l (xn : Int))] 3)).heap.size := Nat.le_trans hs (((Below.refl wr.heap.size wr).drew).alloc (Nat.le_refl _) _).size
                have fin : ∀ (A' : Option Addr) (c' : Nat) (w5 : World), w5.ownsRow (y + 1) 3 1 (.slice A' (p + 1) c') (p + 1) (((xs.take p).map (placeOf l)).map I64 ++ [I64 (placeOf l (xn : Int))]) → (wr.drew.alloc (.cells #[I64 (placeOf l (xn : Int))] 3)).grownBy w5 (Value.slice A p c).ownBlock →
                    (w5.cell? ⟨y, 1, none⟩ = some (.slice A p c) ∧ w5.frozen? ⟨y, 1, none⟩ = false) ∧ Blk (w5.setCell ⟨y, 1, none⟩ (.slice A' (p + 1) c')) y 30 #[.int .i64 (placeOf l (ln : Int)), .slice A' (p + 1) c'] ∧ (w5.setCell ⟨y, 1, none⟩ (.slice A' (p + 1) c')).ownsRow (y + 1) 3 1 (.slice A' (p + 1) c') (p + 1) (((xs.take (p + 1)).map (placeOf l)).map I64) ∧ Below y wa (w5.setCell ⟨y, 1, none⟩ (.slice A' (p + 1) c')) ∧ y + 1 ≤ (w5.setCell ⟨y, 1, none⟩ (.slice A' (p + 1) c')).heap.size := fun A' c' w5 h1 h2 => by
                  have hk5 := hk4.grown h2 (fun e => by have := (ho4.lt _ e.symm).1; omega)
                  have hb5 : Below y wa w5 := hb4.grown h2 (by simp; show y ≤ wr.heap.size + 1; omega) (fun q hq => by have := (ho4.lt q hq).1; omega)
                  refine ⟨⟨(hk5.cell 1).trans rfl, hk5.frozen 1⟩, hk5.put 1 _, ?_, hb5.setCell (Nat.le_refl _) _, ?_⟩
                  · rw [List.take_add_one, hxp, List.map_append, List.map_append]
                    exact own_far h1 (fun e => by have := (h1.lt _ e).1; simp at this; omega) _
                  · have := h2.size
                    simp [World.setCell] at this ⊢
                    have h3 : wr.drew.heap.size = wr.heap.size := rfl
                    omega
                clear hcell hcc hr4
                have Xfin := hide fin
                have Xhk := hide hk
                have Xho := hide ho
                have Xhb := hide hb
                have Xhk4 := hide hk4
                have Xhb4 := hide hb4
                have Xhxp := hide hxp
                have XoW := hide oW
                clear fin hk ho hb hk4 hb4 hxp oW
                go_wp2_with fail
                refine region_late (fun w' => w'.cell? ⟨y, 1, none⟩ = some (.slice A p c) ∧ w'.cell? ⟨zb, xn, none⟩ = some (I64 (placeOf l (xn : Int)))) 6 7 (by kernel_rfl) (by kernel_rfl) ⟨e1, n1⟩ ?_
                simp only [List.take_succ_cons, List.take_zero, List.drop_succ_cons, List.drop_zero]
                refine wpHeld_cons ?_ (by rfl) (fun wS hwS => ?_) ?_
                rotate_left
                · (try dsimp only at hwS)
                  go_simp
                  all_goals with_reducible rfl
                simp only [Act.put, List.setIfInBounds_toArray, List.set_cons_zero, List.set_cons_succ]
                refine wpHeld_cons ?_ (by rfl) (fun wS hwS => ?_) ?_
                rotate_left
                · (try dsimp only at hwS)
                  go_simp
                  all_goals with_reducible rfl
                simp only [Act.put, List.setIfInBounds_toArray, List.set_cons_zero, List.set_cons_succ]
                refine wpHeld_cons ?_ (by rfl) (fun wS hwS => ?_) ?_
                rotate_left
                · (try dsimp only at hwS)
                  go_simp
                  all_goals with_reducible rfl
                simp only [Act.put, List.setIfInBounds_toArray, List.set_cons_zero, List.set_cons_succ]
                refine wpHeld_cons ?_ (by rfl) (fun wS hwS => ?_) ?_
                rotate_left
                · (try dsimp only at hwS)
                  go_simp
                  all_goals with_reducible rfl
                simp only [Act.put, List.setIfInBounds_toArray, List.set_cons_zero, List.set_cons_succ]
                refine wpHeld_cons ?_ (by rfl) (fun wS hwS => ?_) ?_
                rotate_left
                · (try dsimp only at hwS)
                  go_simp
                  all_goals with_reducible rfl
                simp only [Act.put, List.setIfInBounds_toArray, List.set_cons_zero, List.set_cons_succ]
                refine wpHeld_cons ?_ (by rfl) (fun wS hwS => ?_) ?_
                rotate_left
                · (try dsimp only at hwS)
                  go_simp
                  all_goals with_reducible rfl
                simp only [Act.put, List.setIfInBounds_toArray, List.set_cons_zero, List.set_cons_succ]
                refine wpHeld_nil ?_
                refine wpMid_cons ?_
                go_wp2_with fail
                refine ⟨⟨e4, n4⟩, wpMid_nil ?_⟩
                go_wp2_with (at_builtin; refine wp_append _ rfl (.tmp 83) (.tmp 88) _ rfl Try.elemInt (y + 1) _ p (((xs.take p).map (placeOf l)).map I64) rfl ho4 _ _ [I64 (placeOf l (xn : Int))] 1 rfl rfl r4 (by simp [Value.oneCell']) (by unfold maxLen; omega) (by omega) hz4 ?_)
                intro A5 c5 w5 h5 g5 _
                obtain ⟨⟨p1, p2⟩, k5, o5, b5, s5⟩ := Xfin.out _ _ w5 (by first | exact h5 | (rw [List.map_map, List.map_take]; exact h5)) g5
                clear Xfin h5 g5 e1 n1 e4 n4 hcx r4 ho4
                have Xk5 := hide k5
                have Xo5 := hide o5
                have Xb5 := hide b5
                clear k5 o5 b5
                go_wp2_with fail
                refine NoPanic.normal ?_
                go_wp2_with fail
                go_roundw
                case rel => exact ⟨p + 1, A5, c5, by omega, by go_num, Xk5.out, Xo5.out, Xb5.out, s5⟩
                case measure => simp [intOf]; omega
              · have hpn : p = nx := by omega
                subst hpn
                have og := oW wr hb
                have htk : xs.take p = xs := by rw [Xhnx.out, List.take_length]
                rw [htk] at ho
                have b6 : Below wr.heap.size wr (wr.alloc (.cells #[.int .i64 (placeOf l (ln : Int)), .slice A p c] 30)) := (Below.refl _ _).alloc (Nat.le_refl _) _
                have o6 := og.below b6
                have hr6 := o6.g.r
                have r6 : Rd (wr.alloc (.cells #[.int .i64 (placeOf l (ln : Int)), .slice A p c] 30)) (fun _ => True) (.slice (some ⟨wr.heap.size, 0, none⟩) 1 1) 2 [.int .i64 (placeOf l (ln : Int)), .slice A p c] := Rd.one (w := wr) (e := 30) [.int .i64 (placeOf l (ln : Int)), .slice A p c] 2 rfl
                have hu6 : (wr.alloc (.cells #[.int .i64 (placeOf l (ln : Int)), .slice A p c] 30)).ownsRow base 3 1 (.slice A p c) (xs.map (placeOf l)).length ((xs.map (placeOf l)).map I64) := by
                  rw [List.length_map, ← Xhnx.out]
                  exact ownsRow_base (own_below' ho b6) (fun k hk => by have := (ho.lt k hk).1; omega)
                obtain ⟨v0, v1, v2, v3⟩ := og.g.box
                have e0 := (hk.cell 0).trans rfl
                have e1 := (hk.cell 1).trans rfl
                have hz6 := o6.hz.2.2
                have hgb := og.g.blk.lt
                have fin : ∀ (A7 : Option Addr) (c7 : Nat) (w7 : World), w7.ownsRow base 30 2 (.slice A7 (rvs.length + 1) c7) (rvs.length + 1) (flatR rvs ++ [.int .i64 (placeOf l (ln : Int)), .slice A p c]) → (wr.alloc (.cells #[.int .i64 (placeOf l (ln : Int)), .slice A p c] 30)).grownBy w7 (Value.slice Ar rvs.length cr).ownBlock →
                    (w7.cell? ⟨w.heap.size + 1 + 1, 2, none⟩ = some (.slice Ar rvs.length cr) ∧ w7.frozen? ⟨w.heap.size + 1 + 1, 2, none⟩ = false) ∧ OSt w (w7.setCell ⟨w.heap.size + 1 + 1, 2, none⟩ (.slice A7 (rvs.length + 1) c7)) F A1 c1 A2 c2 (some ⟨bb, off, none⟩) c3 T N R stn G b S n f base zb (placeOf l) (.slice A6 l.length c6) l (.slice At ts.length ct) (.slice An ns.length cn) (.slice A7 (rvs ++ [((placeOf l (ln : Int), xs.map (placeOf l)), Value.slice A p c)]).length c7) (placeOf l (stn : Int)) ts ns (rvs ++ [((placeOf l (ln : Int), xs.map (placeOf l)), Value.slice A p c)]) := fun A7 c7 w7 h7 g7 => by
                  obtain ⟨-, k7⟩ := o6.grownBoxes g7 (fun k hk => (hr6.lt k hk).1)
                  refine ⟨⟨(k7.cell 2).trans rfl, k7.frozen 2⟩, ?_⟩
                  rw [List.length_append]
                  exact o6.addR g7 h7 hu6
                have hrv3 : (rvs ++ [((placeOf l (ln : Int), xs.map (placeOf l)), Value.slice A p c)]).map (·.1) = rsq G l (q + 1) := by
                  rw [Xhrv2.out, List.map_append]; rfl
                generalize (rvs ++ [((placeOf l (ln : Int), xs.map (placeOf l)), Value.slice A p c)]) = rvs' at *
                clear oW
                have Xfin := hide fin
                have Xhrv3 := hide hrv3
                have Xhk := hide hk
                have Xho := hide ho
                have Xhb := hide hb
                have Xog := hide og
                have Xo6 := hide o6
                have Xhu6 := hide hu6
                have Xb6 := hide b6
                clear fin hrv3 hk ho hb og o6 hu6 b6
                go_wp2_with (at_builtin; refine wp_append _ rfl (.tmp 93) (.tmp 95) _ rfl Try.elemRule base _ rvs.length (flatR rvs) rfl hr6 _ _ [.int .i64 (placeOf l (ln : Int)), .slice A p c] 1 rfl rfl r6 (by simp [Value.oneCell']) (by unfold maxLen; omega) (by omega) hz6 ?_)
                intro A7 c7 w7 h7 g7 _
                obtain ⟨⟨x1, x2⟩, o7⟩ := Xfin.out A7 c7 w7 h7 g7
                clear Xfin h7 g7 e0 e1 v0 v1 v2 v3 hr6 r6
                have Xo7 := hide o7
                clear o7
                go_wp2_with fail
                go_roundw
                case rel => exact ⟨q + 1, A7, c7, rvs', by omega, by go_num, Xo7.out, Xhrv3.out⟩
                case measure => simp [intOf]; omega
        · have hqe : q = R := by omega
          subst hqe
          have hlt' : ¬ (q : Int) < (q : Int) := by omega
          have hrl : rvs.length ≤ q := by
            have := congrArg List.length hrv
            have h2 := rsq_len G l q
            rw [List.length_map] at this
            omega
          obtain ⟨v0, v1, v2, v3⟩ := o.g.box
          have k2 := o.zero
          have f0 := k2.frozen 0
          have f1 := k2.frozen 1
          have f2 := k2.frozen 2
          have f3 := k2.frozen 3
          have y0 := (k2.cell 0).trans rfl
          have y1 := (k2.cell 1).trans rfl
          have y2 := (k2.cell 2).trans rfl
          have y3 := (k2.cell 3).trans rfl
          have Xo := hide o
          have Xhrv := hide hrv
          have Xk2 := hide k2
          clear o hrv k2
          go_wp2_with fail
          have kF : Blk ((((wr.setCell ⟨w.heap.size + 1, 0, none⟩ (.slice At ts.length ct)).setCell ⟨w.heap.size + 1, 1, none⟩ (.slice An ns.length cn)).setCell ⟨w.heap.size + 1, 2, none⟩ (.slice Ar rvs.length cr)).setCell ⟨w.heap.size + 1, 3, none⟩ (.int .i64 (placeOf l (stn : Int)))) (w.heap.size + 1) 25 #[.slice At ts.length ct, .slice An ns.length cn, .slice Ar rvs.length cr, .int .i64 (placeOf l (stn : Int))] := (((Xk2.out.put 0 _).put 1 _).put 2 _).put 3 _
          have tF : Touch (fun k => k = w.heap.size + 1) wr ((((wr.setCell ⟨w.heap.size + 1, 0, none⟩ (.slice At ts.length ct)).setCell ⟨w.heap.size + 1, 1, none⟩ (.slice An ns.length cn)).setCell ⟨w.heap.size + 1, 2, none⟩ (.slice Ar rvs.length cr)).setCell ⟨w.heap.size + 1, 3, none⟩ (.int .i64 (placeOf l (stn : Int)))) := ((((Touch.refl (fun k => k = w.heap.size + 1) wr).setCell (fun _ => rfl) _).setCell (fun _ => rfl) _).setCell (fun _ => rfl) _).setCell (fun _ => rfl) _
          generalize ((((wr.setCell ⟨w.heap.size + 1, 0, none⟩ (.slice At ts.length ct)).setCell ⟨w.heap.size + 1, 1, none⟩ (.slice An ns.length cn)).setCell ⟨w.heap.size + 1, 2, none⟩ (.slice Ar rvs.length cr)).setCell ⟨w.heap.size + 1, 3, none⟩ (.int .i64 (placeOf l (stn : Int)))) = wF at *
          have fin : GramPost w (onlyG G stn l) (.returned (GV (.slice At ts.length ct) (.slice An ns.length cn) (.slice Ar rvs.length cr) (placeOf l (stn : Int)))) wF := by
            have o := Xo.out
            have hz := o.hz
            have g := o.g
            have gF : Grow wF base (w.heap.size + 2) (.slice At ts.length ct) (.slice An ns.length cn) (.slice Ar rvs.length cr) (placeOf l (stn : Int)) ts ns rvs :=
              ⟨g.blk.touch tF (by omega), tF.own g.t (fun k hk e => by have := (g.t.lt k hk).1; omega), tF.own g.n (fun k hk e => by have := (g.n.lt k hk).1; omega), tF.own g.r (fun k hk e => by have := (g.r.lt k hk).1; omega), fun p hp => tF.own (g.q p hp) (fun k hk e => by have := ((g.q p hp).lt k hk).1; omega), g.apart⟩
            have hll := Xhll.out
            have hnn := Xhn.out
            have gg := gF.gram ⟨by omega, by omega, by omega⟩ ⟨Xhtz.out, Xhnz.out⟩ (fun p hp => by
              have hp1 : p.1 ∈ rvs.map (·.1) := List.mem_map.2 ⟨p, hp, rfl⟩
              rw [Xhrv.out] at hp1
              unfold rsq at hp1
              obtain ⟨r, hr, e⟩ := List.mem_map.1 hp1
              rw [List.mem_filter] at hr
              have hw := (Xhwfs.out r (List.mem_of_mem_take hr.1)).2.1
              rw [← e]
              have hpl := placeOf_range l r.1
              refine ⟨by simp only; omega, by simpa using hw, fun x hx => ?_⟩
              obtain ⟨y, _, rfl⟩ := List.mem_map.1 hx
              have := placeOf_range l y
              omega) (placeOf l (stn : Int))
            rw [Xhrv.out, ← Xhfg.out] at gg
            exact ⟨_, _, _, by rw [Xhfg.out], gg.mono (fun k hk => ⟨by omega, hk.2⟩) (fun k hk => hk.2), o.t.b.trans (tF.below (fun k hk _ e => by omega) o.t.b.size)⟩
          have c0 := (kF.cell 0).trans rfl
          have c1' := (kF.cell 1).trans rfl
          have c2' := (kF.cell 2).trans rfl
          have c3' := (kF.cell 3).trans rfl
          clear f0 f1 f2 f3 y0 y1 y2 y3 v0 v1 v2 v3
          have Xfin := hide fin
          have XkF := hide kF
          have XtF := hide tF
          clear fin kF tF
          refine bodyPost_ret (v := .agg #[.slice At ts.length ct, .slice An ns.length cn, .slice Ar rvs.length cr, .int .i64 (placeOf l (stn : Int))]) (by simp [results, Try.results108, go_sem, c0, c1', c2', c3']) rfl ?_
          exact Xfin.out
end Go.Proofs.Ytejjaabkbkkjlaa

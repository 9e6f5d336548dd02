/- The least ways of a grammar's automaton: the reference's walk. -/
import Derived.Test.YtlpokomfljmogaaGreatRoute3
import Derived.Test.YtlpokomfljmogaaGreatLeast9
import Derived.Test.YtlpokomfljmogaaGreatRoutePlain
namespace Go.Proofs.YtlpokomfljmogaaGreat
set_option linter.unusedVariables false
set_option linter.unusedSimpArgs false
open Go.RowKit
attribute [local irreducible] wpStill wpOne wpPh
theorem RefWords.touch {w w' : World} {F S' : Nat → Prop} {b gl gi gm : Nat} {S : List FoundD} (h : RefWords w F b gl gi gm S) (t : Touch S' w w') (hF : ∀ k, F k → ¬ S' k) (hb : ¬ S' b) (h1 : ¬ S' gl) (h2 : ¬ S' gi) (h3 : ¬ S' gm) : RefWords w' F b gl gi gm S := by
 obtain ⟨cL, hL, sL, eL⟩ := h.rowL
 obtain ⟨cI, hI, sI, eI⟩ := h.rowI
 obtain ⟨cM, hM, sM, eM⟩ := h.rowM
 exact ⟨h.blk.touch t hb, ⟨cL, hL.touch t h1, sL, fun i x hx => by
  obtain ⟨v, a, c⟩ := eL i x hx
  exact ⟨v, a, c.touch t hF⟩⟩, ⟨cI, hI.touch t h2, sI, eI⟩, ⟨cM, hM.touch t h3, sM, eM⟩, h.apart, fun k hk => Nat.lt_of_lt_of_le (h.lt k hk) t.size, h.far, h.lens, h.size⟩
def RWordsIn (V : World) (F : Nat → Prop) (pw : Value) (S : List FoundD) : Prop := ∃ b gl gi gm Fw, pw = .pointer (some ⟨b, 0, none⟩) ∧ RefWords V Fw b gl gi gm S ∧ (∀ k, Fw k → F k) ∧ F b ∧ F gl ∧ F gi ∧ F gm
theorem RWordsIn.touch {w w' : World} {F S' : Nat → Prop} {pw : Value} {S : List FoundD} (h : RWordsIn w F pw S) (t : Touch S' w w') (hF : ∀ k, F k → ¬ S' k) : RWordsIn w' F pw S := by
 obtain ⟨b, gl, gi, gm, Fw, e, h1, h2, h3, h4, h5, h6⟩ := h
 exact ⟨b, gl, gi, gm, Fw, e, h1.touch t (fun k hk => hF k (h2 k hk)) (hF b h3) (hF gl h4) (hF gi h5) (hF gm h6), h2, h3, h4, h5, h6⟩
theorem RWordsIn.mono {w : World} {F F' : Nat → Prop} {pw : Value} {S : List FoundD} (h : RWordsIn w F pw S) (hF : ∀ k, F k → F' k) : RWordsIn w F' pw S := by
 obtain ⟨b, gl, gi, gm, Fw, e, h1, h2, h3, h4, h5, h6⟩ := h
 exact ⟨b, gl, gi, gm, Fw, e, h1, fun k hk => hF k (h2 k hk), hF b h3, hF gl h4, hF gi h5, hF gm h6⟩
def RLeastIn (G : GramD) (w : World) (e : Ending) (w' : World) : Prop := ∃ S pb, e = .returned (.pointer (some ⟨pb, 0, none⟩)) ∧ Below w.heap.size w w' ∧ RWordsIn w' (fun q => w.heap.size ≤ q ∧ q < w'.heap.size) (.pointer (some ⟨pb, 0, none⟩)) S ∧ WordsOf G S
theorem RefLeastPost.in_ {G : GramD} {st : Int} {w w' : World} {e : Ending} (h : RefLeastPost G st w e w') (hc : checkOf G st = 0) : RLeastIn G w e w' := by
 obtain ⟨hb, ⟨h1, -⟩ | ⟨-, S, b, gl, gi, gm, rfl, h1, h2, h3, h4, h5, h6, h7, h8⟩⟩ := h
 ·exact absurd hc h1
 ·obtain ⟨cL, hL, -⟩ := h2.rowL
  obtain ⟨cI, hI, -⟩ := h2.rowI
  obtain ⟨cM, hM, -⟩ := h2.rowM
  exact ⟨S, _, rfl, hb, ⟨b, gl, gi, gm, _, rfl, h2, fun k hk => ⟨hk.1, hk.2.1⟩, ⟨h3, h2.blk.lt⟩, ⟨h4, hL.lt⟩, ⟨h5, hI.lt⟩, ⟨h6, hM.lt⟩⟩, h1, h7, h8⟩
def RMade16 (G : GramD) (wd : World) (Z n : Nat) (v : Value) (wx : World) : Prop := ∃ R P z1 z2 pb S, v = .pointer (some ⟨R, 0, none⟩) ∧ Blk wx R 116 #[.slice (some ⟨P, 0, none⟩) n n, .pointer (some ⟨pb, 0, none⟩)] ∧ Blk wx P 51 (madeCells #[.slice none 0 0] n) ∧ RWordsIn wx (fun q => z1 ≤ q ∧ q < z2) (.pointer (some ⟨pb, 0, none⟩)) S ∧ WordsOf G S ∧ Z ≤ P ∧ P ≠ R ∧ (∀ q, z1 ≤ q ∧ q < z2 → q ≠ P) ∧ z2 ≤ wx.heap.size ∧ Below Z wd wx
def isCells (W : Wos) : Array Value := (W.map (fun o => Value.bool o.isSome)).toArray
theorem isCells_at {W : Wos} {k : Nat} {o : Option (List Int)} (h : W[k]? = some o) : (isCells W)[k]? = some (.bool o.isSome) := by
 unfold isCells
 rw [List.getElem?_toArray, List.getElem?_map, h]; rfl
theorem isCells_set {W : Wos} {k : Nat} (l : List Int) : (isCells W).setIfInBounds k (.bool true) = isCells (W.set k (some l)) := by
 unfold isCells
 rw [List.map_set, List.setIfInBounds_toArray]
 rfl
theorem isCells_made (n : Nat) : madeCells #[.bool false] n = isCells (List.replicate n none) := by
 unfold isCells
 rw [madeCells_list, List.map_replicate]
 rfl
structure WaysX (V : World) (F : Nat → Prop) (P n : Nat) (W : Wos) : Prop where
 len : W.length = n
 row : ∀ (k : Nat) o, W[k]? = some o → ∃ A m c, V.cell? ⟨P, k, none⟩ = some (.slice A m c) ∧ ∀ l, o = some l → RdI V F (.slice A m c) l
 frz : ∀ k : Nat, k < n → V.frozen? ⟨P, k, none⟩ = false
 lt : P < V.heap.size
theorem WaysX.touch {V V' : World} {F S' : Nat → Prop} {P n : Nat} {W : Wos} (h : WaysX V F P n W) (t : Touch S' V V') (hF : ∀ b, F b → ¬ S' b) (hP : ¬ S' P) : WaysX V' F P n W :=
 ⟨h.len, fun k o hk => by
  obtain ⟨A, m, c, h1, h2⟩ := h.row k o hk
  exact ⟨A, m, c, t.cell h1 hP, fun l e => (h2 l e).touch t hF⟩, fun k hk => (World.frozen?_of_block (a := ⟨P, k, none⟩) (t.block P h.lt hP)).trans (h.frz k hk), Nat.lt_of_lt_of_le h.lt t.size⟩
theorem WaysX.put {V : World} {F : Nat → Prop} {P n : Nat} {W : Wos} (h : WaysX V F P n W) {t : Nat} (ht : t < n) {l : List Int} {A : Option Addr} {m c : Nat} {F' : Nat → Prop} (hr : RdI V F' (.slice A m c) l) (hF : ∀ b, F b → b ≠ P) (hF' : ∀ b, F' b → b ≠ P) : WaysX (V.setCell ⟨P, t, none⟩ (.slice A m c)) (fun b => F b ∨ F' b) P n (W.set t (some l)) := by
 have htW : t < W.length := by rw [h.len]; exact ht
 have tc : Touch (fun b => b = P) V (V.setCell ⟨P, t, none⟩ (.slice A m c)) := (Touch.refl (fun b => b = P) V).setCell (p := ⟨P, t, none⟩) (fun _ => rfl) _
 have other : ∀ k : Nat, k ≠ t → (V.setCell ⟨P, t, none⟩ (.slice A m c)).cell? ⟨P, k, none⟩ = V.cell? ⟨P, k, none⟩ := fun k hk => World.cell?_setCell_other _ _ _ _ (fun e => by injection e with _ e; exact hk e.symm)
 have self : (V.setCell ⟨P, t, none⟩ (.slice A m c)).cell? ⟨P, t, none⟩ = some (.slice A m c) := by
  refine World.cell?_setCell_same' _ _ _ ?_
  obtain ⟨A', m', c', h1, -⟩ := h.row t _ (List.getElem?_eq_getElem htW)
  rw [h1]; rfl
 refine ⟨by rw [List.length_set]; exact h.len, fun k o hk => ?_, fun k hk => by rw [World.frozen?_setCell]; exact h.frz k hk, by rw [setCell_size']; exact h.lt⟩
 by_cases e : k = t
 ·subst e
  rw [List.getElem?_set_self htW] at hk
  injection hk with hk
  subst hk
  exact ⟨A, m, c, self, fun l' e' => by injection e' with e'; subst e'; exact (hr.touch tc (fun b hb => hF' b hb)).mono (fun b hb => .inr hb)⟩
 ·rw [List.getElem?_set_ne (fun e' => e e'.symm)] at hk
  obtain ⟨A', m', c', h1, h2⟩ := h.row k o hk
  exact ⟨A', m', c', by rw [other k e]; exact h1, fun l' e' => ((h2 l' e').touch tc (fun b hb => hF b hb)).mono (fun b hb => .inl hb)⟩
theorem WaysX.made {V : World} {F : Nat → Prop} {P n : Nat} (hn : 0 < n) (k : Blk V P 51 (madeCells #[.slice none 0 0] n)) : WaysX V F P n (some [] :: List.replicate (n - 1) none) := by
 refine ⟨by simp; omega, fun i o hi => ?_, fun i _ => k.frozen i, k.lt⟩
 have hin : i < n := by have := (List.getElem?_eq_some_iff.1 hi).1; simp at this; omega
 refine ⟨none, 0, 0, (k.cell i).trans (made_item _ n i hin), fun l e => ?_⟩
 subst e
 cases i with
 | zero => simp at hi; subst hi; exact Rd.nil _ _ _
 | succ i =>
  rw [List.getElem?_cons_succ, List.getElem?_replicate] at hi
  split at hi <;> simp at hi
structure RX (V : World) (F : Nat → Prop) (R P Q n : Nat) (pw : Value) (S : List FoundD) (W : Wos) : Prop where
 wd : RWordsIn V F pw S
 st : Blk V R 116 #[.slice (some ⟨P, 0, none⟩) n n, pw]
 ways : WaysX V F P n W
 is_ : Blk V Q 4 (isCells W)
 flt : ∀ b, F b → b < V.heap.size
 fp : ∀ b, F b → b ≠ P ∧ b ≠ Q
 rp : R ≠ P ∧ R ≠ Q ∧ Q ≠ P
section
variable {V V' : World} {F S' : Nat → Prop} {R P Q n : Nat} {pw : Value} {S : List FoundD} {W : Wos}
theorem RX.touch (h : RX V F R P Q n pw S W) (t : Touch S' V V') (hF : ∀ b, F b → ¬ S' b) (hR : ¬ S' R) (hP : ¬ S' P) (hQ : ¬ S' Q) : RX V' F R P Q n pw S W :=
 ⟨h.wd.touch t hF, h.st.touch t hR, h.ways.touch t hF hP, h.is_.touch t hQ, fun b hb => Nat.lt_of_lt_of_le (h.flt b hb) t.size, h.fp, h.rp⟩
theorem RX.below (h : RX V F R P Q n pw S W) (b : Below V.heap.size V V') : RX V' F R P Q n pw S W :=
 h.touch (S' := fun _ => False) (Touch.of_size b _) (fun _ _ h => h) id id id
theorem RX.cells (h : RX V F R P Q n pw S W) : V.cell? ⟨R, 0, none⟩ = some (.slice (some ⟨P, 0, none⟩) n n) ∧ V.cell? ⟨R, 1, none⟩ = some pw := ⟨(h.st.cell 0).trans rfl, (h.st.cell 1).trans rfl⟩
theorem RX.put (h : RX V F R P Q n pw S W) {t : Nat} (ht : t < n) {l : List Int} {A : Option Addr} {m c : Nat} {F' : Nat → Prop} (hr : RdI V F' (.slice A m c) l) (hF' : ∀ b, F' b → (b ≠ P ∧ b ≠ Q) ∧ b < V.heap.size) : RX ((V.setCell ⟨P, t, none⟩ (.slice A m c)).setCell ⟨Q, t, none⟩ (.bool true)) (fun b => F b ∨ F' b) R P Q n pw S (W.set t (some l)) := by
 have tc : Touch (fun b => b = P) V (V.setCell ⟨P, t, none⟩ (.slice A m c)) := (Touch.refl (fun b => b = P) V).setCell (p := ⟨P, t, none⟩) (fun _ => rfl) _
 have td : Touch (fun b => b = Q) (V.setCell ⟨P, t, none⟩ (.slice A m c)) ((V.setCell ⟨P, t, none⟩ (.slice A m c)).setCell ⟨Q, t, none⟩ (.bool true)) := (Touch.refl (fun b => b = Q) _).setCell (p := ⟨Q, t, none⟩) (fun _ => rfl) _
 refine ⟨((h.wd.touch tc (fun b hb => (h.fp b hb).1)).touch td (fun b hb => (h.fp b hb).2)).mono (fun b hb => .inl hb), (h.st.touch tc h.rp.1).touch td h.rp.2.1, (h.ways.put ht hr (fun b hb => (h.fp b hb).1) (fun b hb => (hF' b hb).1.1)).touch td (fun b hb => ?_) (fun e => h.rp.2.2 e.symm), ?_, fun b hb => ?_, fun b hb => ?_, h.rp⟩
 ·rcases hb with hb | hb
  ·exact (h.fp b hb).2
  ·exact (hF' b hb).1.2
 ·have := (h.is_.touch tc h.rp.2.2).put t (.bool true)
  rwa [isCells_set l] at this
 ·rw [setCell_size', setCell_size']
  rcases hb with hb | hb
  ·exact h.flt b hb
  ·exact (hF' b hb).2
 ·rcases hb with hb | hb
  ·exact h.fp b hb
  ·exact (hF' b hb).1
end
def RRoutesIn (V : World) (R : Nat) (S : List FoundD) (L : List (List Int)) : Prop := ∃ F P Q n pw, RX V F R P Q n pw S (L.map some) ∧ n ≤ 2000 ∧ L.length = n ∧ ∀ l ∈ L, l.length ≤ 2000
def RRoutePost (G : GramD) (st ck : Int) (w : World) (e : Ending) (w' : World) : Prop := Below w.heap.size w w' ∧ ∃ ev D, AutoIs G st ck ev D ∧ ((ev ≠ 0 ∧ e = .returned (.tuple #[.pointer none, .int .i64 ev])) ∨ (ev = 0 ∧ ∃ R S L, e = .returned (.tuple #[.pointer (some ⟨R, 0, none⟩), .int .i64 0]) ∧ WordsOf G S ∧ FamW (topOf G) D L ∧ RRoutesIn w' R S L))
structure PW (T : Nat) (D : Sts) (W0 : Wos) (Z : Nat) (w3 : World) (R P Q n : Nat) (pw : Value) (S : List FoundD) (b : Bool) (W : Wos) (Fr : Nat → Prop) (i k : Nat) (wr : World) : Prop where
 som : SomeW D W
 rx : RX wr Fr R P Q n pw S W
 bz : Below Z w3 wr
 up : (b = false ∧ W = W0 ∧ UptoW T D W i k) ∨ (b = true ∧ totO T W < totO T W0)
section
variable {T : Nat} {D : Sts} {W0 : Wos} {Z : Nat} {w3 : World} {R P Q n : Nat} {pw : Value} {S : List FoundD} {b : Bool} {W : Wos} {Fr : Nat → Prop} {i k : Nat} {wr wq : World}
theorem PW.below (h : PW T D W0 Z w3 R P Q n pw S b W Fr i k wr) (hZ : Z = w3.heap.size) (hb : Below wr.heap.size wr wq) : PW T D W0 Z w3 R P Q n pw S b W Fr i k wq :=
 ⟨h.som, h.rx.below hb, h.bz.trans (hb.mono (by rw [hZ]; exact h.bz.size)), h.up⟩
theorem PW.row {d : List It × List It} (h : PW T D W0 Z w3 R P Q n pw S b W Fr i k wr) (hd : D[i]? = some d) (hk : d.2.length ≤ k ∨ W[i]? = some none) : PW T D W0 Z w3 R P Q n pw S b W Fr (i + 1) 0 wr :=
 ⟨h.som, h.rx, h.bz, h.up.imp (fun ⟨a, c, e⟩ => ⟨a, c, e.row hd hk⟩) id⟩
theorem PW.skip {d : List It × List It} {w wt : List Int} {s : Int} {t : Nat} (hD : DW T D) (h : PW T D W0 Z w3 R P Q n pw S b W Fr i k wr) (hw : W[i]? = some (some w)) (hd : D[i]? = some d) (hx : d.2[k]? = some (s, (t : Int))) (ht : W[t]? = some (some wt)) (hl : lessB (w ++ [s]) wt = false) : PW T D W0 Z w3 R P Q n pw S b W Fr i (k + 1) wr := by
 refine ⟨h.som, h.rx, h.bz, h.up.imp (fun ⟨a, c, e⟩ => ⟨a, c, e.step hw hd hx ⟨t, wt, rfl, ht, ?_⟩⟩) id⟩
 have hp : PathD D (w ++ [s]) t := .snoc w i d s t (h.som.path i w hw) hd (List.mem_of_getElem? hx)
 rw [less_nm (hp.ok hD) ((h.som.path t wt ht).ok hD), decide_eq_false_iff_not] at hl
 show nm T wt ≤ nm T (w ++ [s])
 omega
theorem PW.put {d : List It × List It} {w : List Int} {s : Int} {t : Nat} {o : Option (List Int)} {i' k' : Nat} (hD : DW T D) (h : PW T D W0 Z w3 R P Q n pw S b W Fr i k wr) (hw : W[i]? = some (some w)) (hd : D[i]? = some d) (hx : d.2[k]? = some (s, (t : Int))) (ht : W[t]? = some o) (hl : ∀ wt, o = some wt → lessB (w ++ [s]) wt = true)
  (htn : t < n) {A : Option Addr} {m c : Nat} {F' : Nat → Prop} (hr : RdI wr F' (.slice A m c) (w ++ [s])) (hF' : ∀ b, F' b → (b ≠ P ∧ b ≠ Q) ∧ b < wr.heap.size) (hP : Z ≤ P) (hQ : Z ≤ Q) :
  PW T D W0 Z w3 R P Q n pw S true (W.set t (some (w ++ [s]))) (fun b => Fr b ∨ F' b) i' k' ((wr.setCell ⟨P, t, none⟩ (.slice A m c)).setCell ⟨Q, t, none⟩ (.bool true)) := by
 have hm := List.mem_of_getElem? hx
 have hle : totO T W ≤ totO T W0 := by
  rcases h.up with ⟨-, e, -⟩ | ⟨-, e⟩
  ·rw [e]; exact Nat.le_refl _
  ·omega
 have hp : PathD D (w ++ [s]) t := .snoc w i d s t (h.som.path i w hw) hd hm
 have key : SomeW D (W.set t (some (w ++ [s]))) ∧ rankO T (some (w ++ [s])) < rankO T o := by
  cases o with
  | none =>
   have h1 := h.som.new hw hd hm ht
   refine ⟨h1, (h1.rank hD (n := t) (w := w ++ [s]) ?_).1⟩
   rw [List.getElem?_set_self (List.getElem?_eq_some_iff.1 ht).1]
  | some wt =>
   have h2 := hl wt rfl
   rw [less_nm (hp.ok hD) ((h.som.path t wt ht).ok hD), decide_eq_true_eq] at h2
   exact ⟨h.som.less hD hw hd hm ht h2, h2⟩
 exact ⟨key.1, h.rx.put htn hr hF', (h.bz.setCell (p := ⟨P, t, none⟩) hP _).setCell (p := ⟨Q, t, none⟩) hQ _, .inr ⟨rfl, Nat.lt_of_lt_of_le (totO_set ht key.2) hle⟩⟩
end
set_option maxRecDepth 100000 in
set_option maxHeartbeats 8000000 in
theorem ref16_Of {w : World} {F : Nat → Prop} {vt vn vr : Value} {G : GramD} (h : IsGram w F vt vn vr G) (st : Int) :
  Calls Tryz.prog 37 #[GV vt vn vr st] w (RRoutePost G st (checkOf G st) w) := by
 obtain ⟨w1, hw1⟩ : ∃ w1, w1 = w.alloc (.cells #[vt, vn, vr, .int .i64 st] 25) := ⟨_, rfl⟩
 have b1 : Below w.heap.size w w1 := by rw [hw1]; exact (Below.refl _ w).alloc (Nat.le_refl _) _
 have k1 : Blk w1 w.heap.size 25 #[vt, vn, vr, .int .i64 st] := by rw [hw1]; exact Blk.new _ _ _
 have g1 := h.below b1
 have cb := ref13_Build g1 g1.lt st
 have cl := fun wr (g : IsGram wr F vt vn vr G) => ref_least g st
 have hck : ∀ D, AutoIs G st (checkOf G st) 0 D → checkOf G st = 0 := fun D h => h.bld.1
 obtain ⟨ck, eck⟩ : ∃ q, q = checkOf G st := ⟨_, rfl⟩
 rw [← eck] at cb hck ⊢
 have q0 := (k1.cell 0).trans rfl
 have q1 := (k1.cell 1).trans rfl
 have q2 := (k1.cell 2).trans rfl
 have q3 := (k1.cell 3).trans rfl
 rw [hw1] at q0 q1 q2 q3
 clear h
 have Xcb := hide cb
 have Xcl := hide cl
 have Xg1 := hide g1
 have Xb1 := hide b1
 have Xk1 := hide k1
 have Xhck := hide hck
 have Xeck := hide eck
 clear cb cl g1 b1 k1 hck eck
 go_enter Tryz.func37, Tryz.ntmps37
 go_wp2_with fail
 rw [← hw1]
 refine Xcb.out.mono ?_
 rintro e w3 hp
 obtain ⟨b3, A, n, c, ev, D, rfl, rd3, hai⟩ := hp.flat
 have hs1 : w.heap.size ≤ w1.heap.size := Xb1.out.size
 have t : ES w F vt vn vr st G (.slice A n c) D w3 := ⟨Xg1.out.below b3, Xk1.out.below b3 Xk1.out.lt, rd3.mono (fun b hb => hb.2), Xb1.out.trans (b3.mono Xb1.out.size)⟩
 clear q0 q1 q2 q3 hw1 hp Xcb Xg1 Xb1 Xk1 b3 rd3 hs1
 by_cases hev : ev = 0
 ·subst hev
  have hc0 := Xhck.out _ hai
  have hD := hai.dw
  obtain ⟨hn, hnc, hcm, hcell⟩ := t.rd.at_
  unfold maxLen at hcm
  have hn0 : 0 < n := by rw [hn]; exact hD.pos
  have hn2 : n ≤ 2000 := by rw [hn]; exact hD.small
  obtain ⟨bS, oS, rfl, -, -⟩ := hcell hn0
  have hmk := make_ways n (by omega)
  have hmb := make_bools n (by omega)
  obtain ⟨q0, q1, q2, q3⟩ := t.cells
  clear hcell
  obtain ⟨Z, hZ⟩ : ∃ q, q = w3.heap.size := ⟨_, rfl⟩
  have Xt := hide t
  have Xhai := hide hai
  have XhD := hide hD
  have Xhn := hide hn
  have Xhc0 := hide hc0
  have XhZ := hide hZ
  clear t hai hD hn hc0 hZ
  go_wp2_with fail
  go_cut [6] from 21 to 112 (fun v wx => RMade16 G w3 Z n v wx)
  case first =>
   refine wp_region_held_drew (S := (fun W => W.cell? ⟨w.heap.size, 0, none⟩ = some vt ∧ W.cell? ⟨w.heap.size, 1, none⟩ = some vn ∧ W.cell? ⟨w.heap.size, 2, none⟩ = some vr ∧ W.cell? ⟨w.heap.size, 3, none⟩ = some (.int .i64 st))) (by kernel_rfl) ?_ (fun hHeld => ?_)
   ·exact ⟨q0, q1, q2, q3⟩
   have dr := (Below.refl w3.heap.size w3).drew
   have td := Xt.out.next dr
   have hZ := XhZ.out
   have hZl : Z ≤ w3.drew.heap.size := by rw [hZ]; exact dr.size
   have hZe : w3.drew.heap.size = Z := by rw [hZ]; rfl
   have bk : Below Z w3 w3.drew := by rw [hZ]; exact dr
   have hS : ∀ W, Below Z w3 W → W.cell? ⟨w.heap.size, 0, none⟩ = some vt ∧ W.cell? ⟨w.heap.size, 1, none⟩ = some vn ∧ W.cell? ⟨w.heap.size, 2, none⟩ = some vr ∧ W.cell? ⟨w.heap.size, 3, none⟩ = some (.int .i64 st) := fun W hb => by
    rw [hZ] at hb
    exact (Xt.out.next hb).cells
   have cls : ∀ wr, Below Z w3 wr → Calls Tryz.prog 83 #[GV vt vn vr st] wr (RLeastIn G wr) := fun wr hb => by
    rw [hZ] at hb
    exact (Xcl.out wr (Xt.out.next hb).g).mono fun e w' hl => hl.in_ (by rw [← Xeck.out]; exact Xhc0.out)
   clear q0 q1 q2 q3 dr td hZe Xcl
   have Xcl := hide cls
   clear cls hZ hmb
   generalize w3.drew = wd at *
   have Xbk := hide bk
   have XhZl := hide hZl
   have XhS := hide hS
   clear bk hZl hS
   refine tk (i := 0) (oi := ?_) (v := ?_) ?_ (by kernel_rfl) ?_ (Or.inl ⟨?_, ?_⟩) (by assumption) ?_; rotate_left 2; (focus ((try simp only [gT, gs, gz]); try rfl)); exact fun _ _ _ h => h; rfl; (focus (intro wS hwS; (try dsimp only at hwS); go_simp; all_goals with_reducible rfl)); try simp only [Act.put, sT, s0, s1]
   refine tk (i := 1) (oi := ?_) (v := ?_) ?_ (by kernel_rfl) ?_ (Or.inl ⟨?_, ?_⟩) (by assumption) ?_; rotate_left 2; (focus ((try simp only [gT, gs, gz]); try rfl)); exact fun _ _ _ h => h; rfl; (focus (intro wS hwS; (try dsimp only at hwS); go_simp; all_goals with_reducible rfl)); try simp only [Act.put, sT, s0, s1]
   refine tk (i := 3) (oi := ?_) (v := ?_) ?_ (by kernel_rfl) ?_ (Or.inl ⟨?_, ?_⟩) (by assumption) ?_; rotate_left 2; (focus ((try simp only [gT, gs, gz]); try rfl)); exact fun _ _ _ h => h; rfl; (focus (intro wS hwS; (try dsimp only at hwS); go_simp; all_goals with_reducible rfl)); try simp only [Act.put, sT, s0, s1]
   refine wpAnyH_ready (rs := [2, 4]) (by kernel_rfl) (by simp) ?_
   refine AllReadyH.cons (o := ?_) ?_ (fun K hK => ?_) ?_; rotate_left 1; (focus ((try simp only [gT, gs, gz]); try rfl))
   ·skip
    go_simp
    have al : Below wd.heap.size wd (wd.alloc (.cells (madeCells #[.slice none 0 0] n) 51)) := (Below.refl _ wd).alloc (Nat.le_refl _) _
    have kP : Blk (wd.alloc (.cells (madeCells #[.slice none 0 0] n) 51)) wd.heap.size 51 (madeCells #[.slice none 0 0] n) := Blk.new _ _ _
    have hnew : Z ≤ wd.heap.size := XhZl.out
    have bk := Xbk.out.trans (al.mono XhZl.out)
    have hZl := Nat.le_trans XhZl.out al.size
    have hP : Z ≤ wd.heap.size := hnew
    have kPlt : wd.heap.size < (wd.alloc (.cells (madeCells #[.slice none 0 0] n) 51)).heap.size := kP.lt
    clear al hnew
    have XkP := hide kP
    have XkPlt := hide kPlt
    have XhP := hide hP
    clear kP kPlt hP
    generalize wd.heap.size = P at *
    generalize wd.alloc (.cells (madeCells #[.slice none 0 0] n) 51) = w46 at *
    clear Xbk XhZl
    have Xbk := hide bk
    have XhZl := hide hZl
    clear bk hZl
    refine hK.out _ _ ?_ (fun hHeld => ?_)
    ·exact XhS.out _ Xbk.out
    clear hK K
    try simp only [Act.put, sT, s0, s1]
    refine wpAnyH_ready (rs := [4]) (by kernel_rfl) (by simp) ?_
    refine AllReadyH.cons (o := ?_) ?_ (fun K hK => ?_) ?_; rotate_left 1; (focus ((try simp only [gT, gs, gz]); try rfl))
    ·skip
     go_simp
     go_at_call 83
     refine (Xcl.out w46 Xbk.out).mono ?_
     rintro e w47 ⟨S, pb, rfl, al, ws, hfs⟩
     have kP := XkP.out.below al XkP.out.lt
     have kPlt := kP.lt
     have bk := Xbk.out.trans (al.mono XhZl.out)
     have hZl := Nat.le_trans XhZl.out al.size
     obtain ⟨z1, hz1⟩ : ∃ q, q = w46.heap.size := ⟨_, rfl⟩
     obtain ⟨z2, hz2⟩ : ∃ q, q = w47.heap.size := ⟨_, rfl⟩
     have hzz : z1 ≤ z2 ∧ z2 ≤ w47.heap.size := ⟨by rw [hz1, hz2]; exact al.size, Nat.le_of_eq hz2⟩
     have dPW : ∀ q, z1 ≤ q ∧ q < z2 → q ≠ P := fun q hq e => by have := XkPlt.out; omega
     rw [← hz1, ← hz2] at ws
     clear hz1 hz2 al
     have Xws := hide ws
     have Xhfs := hide hfs
     have Xhzz := hide hzz
     have XdPW := hide dPW
     clear ws hfs hzz dPW
     clear XkP XkPlt
     clear Xbk XhZl
     have XkP := hide kP
     have XkPlt := hide kPlt
     have Xbk := hide bk
     have XhZl := hide hZl
     clear kP kPlt bk hZl
     refine hK.out _ _ ?_ (fun hHeld => ?_)
     ·exact XhS.out _ Xbk.out
     clear hK K
     try simp only [Act.put, sT, s0, s1]
     refine tk (i := 5) (oi := ?_) (v := ?_) ?_ (by kernel_rfl) ?_ (Or.inl ⟨?_, ?_⟩) (by assumption) ?_; rotate_left 2; (focus ((try simp only [gT, gs, gz]); try rfl)); exact fun _ _ _ h => h; rfl; (focus (intro wS hwS; (try dsimp only at hwS); go_simp; all_goals with_reducible rfl)); try simp only [Act.put, sT, s0, s1]
     refine wpAnyH_ready (rs := [6]) (by kernel_rfl) (by simp) ?_
     refine AllReadyH.cons (o := ?_) ?_ (fun K hK => ?_) ?_; rotate_left 1; (focus ((try simp only [gT, gs, gz]); try rfl))
     ·skip
      go_simp
      have al : Below w47.heap.size w47 (w47.alloc (.cells #[.slice (some ⟨P, 0, none⟩) n n, .pointer (some ⟨pb, 0, none⟩)] 116)) := (Below.refl _ w47).alloc (Nat.le_refl _) _
      have kR : Blk (w47.alloc (.cells #[.slice (some ⟨P, 0, none⟩) n n, .pointer (some ⟨pb, 0, none⟩)] 116)) w47.heap.size 116 #[.slice (some ⟨P, 0, none⟩) n n, .pointer (some ⟨pb, 0, none⟩)] := Blk.new _ _ _
      have hnew : Z ≤ w47.heap.size := XhZl.out
      have dPR : P ≠ w47.heap.size := fun e => by have := XkPlt.out; omega
      have hzz : z1 ≤ z2 ∧ z2 ≤ (w47.alloc (.cells #[.slice (some ⟨P, 0, none⟩) n n, .pointer (some ⟨pb, 0, none⟩)] 116)).heap.size := ⟨Xhzz.out.1, Nat.le_trans Xhzz.out.2 al.size⟩
      have kP := XkP.out.below al XkP.out.lt
      have kPlt := kP.lt
      have ws := Xws.out.touch (Touch.of_size al (fun _ => False)) (fun _ _ h => h)
      have bk := Xbk.out.trans (al.mono XhZl.out)
      have hZl := Nat.le_trans XhZl.out al.size
      have kRlt : w47.heap.size < (w47.alloc (.cells #[.slice (some ⟨P, 0, none⟩) n n, .pointer (some ⟨pb, 0, none⟩)] 116)).heap.size := kR.lt
      clear Xhzz
      clear al hnew
      have XkR := hide kR
      have XkRlt := hide kRlt
      have XdPR := hide dPR
      have Xhzz := hide hzz
      clear kR kRlt dPR hzz
      generalize w47.heap.size = Rq at *
      generalize w47.alloc (.cells #[.slice (some ⟨P, 0, none⟩) n n, .pointer (some ⟨pb, 0, none⟩)] 116) = w48 at *
      clear XkP XkPlt
      clear Xws
      clear Xbk XhZl
      have XkP := hide kP
      have XkPlt := hide kPlt
      have Xws := hide ws
      have Xbk := hide bk
      have XhZl := hide hZl
      clear kP kPlt ws bk hZl
      refine hK.out _ _ ?_ (fun hHeld => ?_)
      ·exact XhS.out _ Xbk.out
      clear hK K
      try simp only [Act.put, sT, s0, s1]
      refine tk (i := 7) (oi := ?_) (v := ?_) ?_ (by kernel_rfl) ?_ (Or.inl ⟨?_, ?_⟩) (by assumption) ?_; rotate_left 2; (focus ((try simp only [gT, gs, gz]); try rfl)); exact fun _ _ _ h => h; rfl; (focus (intro wS hwS; (try dsimp only at hwS); go_simp; all_goals with_reducible rfl)); try simp only [Act.put, sT, s0, s1]
      refine wpAnyH_done (by kernel_rfl) ?_ _
      go_wp2_with fail
      go_meet
      exact ⟨Rq, P, z1, z2, pb, S, rfl, XkR.out, XkP.out, Xws.out, Xhfs.out, XhP.out, by have := XdPR.out; omega, XdPW.out, Xhzz.out.2, Xbk.out⟩
     ·exact AllReadyH.nil
    ·exact AllReadyH.nil
   ·skip
    refine AllReadyH.cons (o := ?_) ?_ (fun K hK => ?_) ?_; rotate_left 1; (focus ((try simp only [gT, gs, gz]); try rfl))
    ·skip
     go_simp
     go_at_call 83
     refine (Xcl.out wd Xbk.out).mono ?_
     rintro e w49 ⟨S, pb, rfl, al, ws, hfs⟩
     have bk := Xbk.out.trans (al.mono XhZl.out)
     have hZl := Nat.le_trans XhZl.out al.size
     obtain ⟨z1, hz1⟩ : ∃ q, q = wd.heap.size := ⟨_, rfl⟩
     obtain ⟨z2, hz2⟩ : ∃ q, q = w49.heap.size := ⟨_, rfl⟩
     have hzz : z1 ≤ z2 ∧ z2 ≤ w49.heap.size := ⟨by rw [hz1, hz2]; exact al.size, Nat.le_of_eq hz2⟩
     rw [← hz1, ← hz2] at ws
     clear hz1 hz2 al
     have Xws := hide ws
     have Xhfs := hide hfs
     have Xhzz := hide hzz
     clear ws hfs hzz
     clear Xbk XhZl
     have Xbk := hide bk
     have XhZl := hide hZl
     clear bk hZl
     refine hK.out _ _ ?_ (fun hHeld => ?_)
     ·exact XhS.out _ Xbk.out
     clear hK K
     try simp only [Act.put, sT, s0, s1]
     refine wpAnyH_ready (rs := [2]) (by kernel_rfl) (by simp) ?_
     refine AllReadyH.cons (o := ?_) ?_ (fun K hK => ?_) ?_; rotate_left 1; (focus ((try simp only [gT, gs, gz]); try rfl))
     ·skip
      go_simp
      have al : Below w49.heap.size w49 (w49.alloc (.cells (madeCells #[.slice none 0 0] n) 51)) := (Below.refl _ w49).alloc (Nat.le_refl _) _
      have kP : Blk (w49.alloc (.cells (madeCells #[.slice none 0 0] n) 51)) w49.heap.size 51 (madeCells #[.slice none 0 0] n) := Blk.new _ _ _
      have hnew : Z ≤ w49.heap.size := XhZl.out
      have dPW : ∀ q, z1 ≤ q ∧ q < z2 → q ≠ w49.heap.size := fun q hq e => by have := Xhzz.out; omega
      have hzz : z1 ≤ z2 ∧ z2 ≤ (w49.alloc (.cells (madeCells #[.slice none 0 0] n) 51)).heap.size := ⟨Xhzz.out.1, Nat.le_trans Xhzz.out.2 al.size⟩
      have ws := Xws.out.touch (Touch.of_size al (fun _ => False)) (fun _ _ h => h)
      have bk := Xbk.out.trans (al.mono XhZl.out)
      have hZl := Nat.le_trans XhZl.out al.size
      have hP : Z ≤ w49.heap.size := hnew
      have kPlt : w49.heap.size < (w49.alloc (.cells (madeCells #[.slice none 0 0] n) 51)).heap.size := kP.lt
      clear Xhzz
      clear al hnew
      have XkP := hide kP
      have XkPlt := hide kPlt
      have XdPW := hide dPW
      have XhP := hide hP
      have Xhzz := hide hzz
      clear kP kPlt dPW hP hzz
      generalize w49.heap.size = P at *
      generalize w49.alloc (.cells (madeCells #[.slice none 0 0] n) 51) = w50 at *
      clear Xws
      clear Xbk XhZl
      have Xws := hide ws
      have Xbk := hide bk
      have XhZl := hide hZl
      clear ws bk hZl
      refine hK.out _ _ ?_ (fun hHeld => ?_)
      ·exact XhS.out _ Xbk.out
      clear hK K
      try simp only [Act.put, sT, s0, s1]
      refine tk (i := 5) (oi := ?_) (v := ?_) ?_ (by kernel_rfl) ?_ (Or.inl ⟨?_, ?_⟩) (by assumption) ?_; rotate_left 2; (focus ((try simp only [gT, gs, gz]); try rfl)); exact fun _ _ _ h => h; rfl; (focus (intro wS hwS; (try dsimp only at hwS); go_simp; all_goals with_reducible rfl)); try simp only [Act.put, sT, s0, s1]
      refine wpAnyH_ready (rs := [6]) (by kernel_rfl) (by simp) ?_
      refine AllReadyH.cons (o := ?_) ?_ (fun K hK => ?_) ?_; rotate_left 1; (focus ((try simp only [gT, gs, gz]); try rfl))
      ·skip
       go_simp
       have al : Below w50.heap.size w50 (w50.alloc (.cells #[.slice (some ⟨P, 0, none⟩) n n, .pointer (some ⟨pb, 0, none⟩)] 116)) := (Below.refl _ w50).alloc (Nat.le_refl _) _
       have kR : Blk (w50.alloc (.cells #[.slice (some ⟨P, 0, none⟩) n n, .pointer (some ⟨pb, 0, none⟩)] 116)) w50.heap.size 116 #[.slice (some ⟨P, 0, none⟩) n n, .pointer (some ⟨pb, 0, none⟩)] := Blk.new _ _ _
       have hnew : Z ≤ w50.heap.size := XhZl.out
       have dPR : P ≠ w50.heap.size := fun e => by have := XkPlt.out; omega
       have hzz : z1 ≤ z2 ∧ z2 ≤ (w50.alloc (.cells #[.slice (some ⟨P, 0, none⟩) n n, .pointer (some ⟨pb, 0, none⟩)] 116)).heap.size := ⟨Xhzz.out.1, Nat.le_trans Xhzz.out.2 al.size⟩
       have kP := XkP.out.below al XkP.out.lt
       have kPlt := kP.lt
       have ws := Xws.out.touch (Touch.of_size al (fun _ => False)) (fun _ _ h => h)
       have bk := Xbk.out.trans (al.mono XhZl.out)
       have hZl := Nat.le_trans XhZl.out al.size
       have kRlt : w50.heap.size < (w50.alloc (.cells #[.slice (some ⟨P, 0, none⟩) n n, .pointer (some ⟨pb, 0, none⟩)] 116)).heap.size := kR.lt
       clear Xhzz
       clear al hnew
       have XkR := hide kR
       have XkRlt := hide kRlt
       have XdPR := hide dPR
       have Xhzz := hide hzz
       clear kR kRlt dPR hzz
       generalize w50.heap.size = Rq at *
       generalize w50.alloc (.cells #[.slice (some ⟨P, 0, none⟩) n n, .pointer (some ⟨pb, 0, none⟩)] 116) = w51 at *
       clear XkP XkPlt
       clear Xws
       clear Xbk XhZl
       have XkP := hide kP
       have XkPlt := hide kPlt
       have Xws := hide ws
       have Xbk := hide bk
       have XhZl := hide hZl
       clear kP kPlt ws bk hZl
       refine hK.out _ _ ?_ (fun hHeld => ?_)
       ·exact XhS.out _ Xbk.out
       clear hK K
       try simp only [Act.put, sT, s0, s1]
       refine tk (i := 7) (oi := ?_) (v := ?_) ?_ (by kernel_rfl) ?_ (Or.inl ⟨?_, ?_⟩) (by assumption) ?_; rotate_left 2; (focus ((try simp only [gT, gs, gz]); try rfl)); exact fun _ _ _ h => h; rfl; (focus (intro wS hwS; (try dsimp only at hwS); go_simp; all_goals with_reducible rfl)); try simp only [Act.put, sT, s0, s1]
       refine wpAnyH_done (by kernel_rfl) ?_ _
       go_wp2_with fail
       go_meet
       exact ⟨Rq, P, z1, z2, pb, S, rfl, XkR.out, XkP.out, Xws.out, Xhfs.out, XhP.out, by have := XdPR.out; omega, XdPW.out, Xhzz.out.2, Xbk.out⟩
      ·exact AllReadyH.nil
     ·exact AllReadyH.nil
    ·exact AllReadyH.nil
  case rest =>
   obtain ⟨R, P, z1, z2, pb, S, rfl, kR, kP, ws, hfs, hP, hPR, hPW, hz2, b5⟩ := hcut
   obtain ⟨we, hwe⟩ : ∃ q, q = wc.alloc (.cells (madeCells #[.bool false] n) 4) := ⟨_, rfl⟩
   have al : Below wc.heap.size wc we := by rw [hwe]; exact (Below.refl _ _).alloc (Nat.le_refl _) _
   have kQ : Blk we wc.heap.size 4 (madeCells #[.bool false] n) := by rw [hwe]; exact Blk.new _ _ _
   obtain ⟨Q, hQ⟩ : ∃ q, q = wc.heap.size := ⟨_, rfl⟩
   have hZw : Z ≤ wc.heap.size := by rw [XhZ.out]; exact b5.size
   have hPl := kP.lt
   have hRl := kR.lt
   have hQZ : Z ≤ Q := by rw [hQ]; exact hZw
   have hQlt := kQ.lt
   rw [← hQ] at kQ hQlt
   have b6 : Below Z w3 we := b5.trans (al.mono hZw)
   have tq : Touch (fun b => b = Q) we (we.setCell ⟨Q, 0, none⟩ (.bool true)) := (Touch.refl (fun b => b = Q) we).setCell (p := ⟨Q, 0, none⟩) (fun _ => rfl) _
   have rx : RX (we.setCell ⟨Q, 0, none⟩ (.bool true)) (fun q => z1 ≤ q ∧ q < z2) R P Q n (.pointer (some ⟨pb, 0, none⟩)) S (some [] :: List.replicate (n - 1) none) := by
    refine ⟨(ws.touch (Touch.of_size al (fun _ => False)) (fun _ _ h => h)).touch tq (fun b hb e => by have := hb.2; omega), (kR.below al kR.lt).touch tq (by omega), (WaysX.made hn0 (kP.below al kP.lt)).touch tq (fun b hb e => by have := hb.2; omega) (by omega), ?_, fun b hb => Nat.lt_of_lt_of_le hb.2 (Nat.le_trans hz2 (Nat.le_trans al.size tq.size)), fun b hb => ⟨hPW b hb, by have := hb.2; omega⟩, ⟨fun e => hPR e.symm, by omega, by omega⟩⟩
    have h1 := kQ.put 0 (.bool true)
    rwa [isCells_made, isCells_set [], set_start n hn0] at h1
   have bz : Below Z w3 (we.setCell ⟨Q, 0, none⟩ (.bool true)) := b6.setCell (p := ⟨Q, 0, none⟩) hQZ _
   have cq : we.cell? ⟨Q, 0, none⟩ = some (.bool false) := (kQ.cell 0).trans (made_one _ n 0 hn0)
   have fq := kQ.frozen 0
   clear al kR kP ws kQ hPW hz2 b5 b6 tq hPl hRl hQlt q0 q1 q2 q3 hmk hZw hPR
   have Xrx := hide rx
   have Xbz := hide bz
   have Xhfs := hide hfs
   have XhP := hide hP
   have XhQZ := hide hQZ
   clear rx bz hfs hP hQZ
   go_upto_region 6 with fail
   rw [← hwe, ← hQ]
   clear hwe hQ hmb
   go_wp2_with fail
   clear cq fq
   generalize we.setCell ⟨Q, 0, none⟩ (.bool true) = w6 at *
   have som := (LevW.start XhD.out).som
   rw [← Xhn.out] at som
   have Xsom := hide som
   clear som
   obtain ⟨W0, hW0⟩ : ∃ q : Wos, q = some [] :: List.replicate (n - 1) none := ⟨_, rfl⟩
   rw [← hW0] at Xrx Xsom
   clear hW0
   go_loopg [8] (totO (topOf G) W0 + 1) (fun κ mo wr => ∃ (b : Bool) (W : Wos) (Fr : Nat → Prop), mo = .bool b ∧ SomeW D W ∧ RX wr Fr R P Q n (.pointer (some ⟨pb, 0, none⟩)) S W ∧ Below Z w3 wr ∧ (b = false → UptoW (topOf G) D W n 0) ∧ κ = totO (topOf G) W + (if b = true then 1 else 0))
   case atStart => exact ⟨true, W0, _, rfl, Xsom.out, Xrx.out, Xbz.out, fun e => (by cases e), rfl⟩
   case round =>
    clear Xrx Xsom Xbz
    obtain ⟨b, W, Fr, rfl, som, rx, bz, hup, hκ⟩ := hrel
    cases b with
    | false =>
     obtain ⟨L, hL, fam⟩ := som.fam' XhD.out (fun i w d hw hd j x hx => hup rfl i w d hw hd j x hx (.inl (by rw [Xhn.out]; exact (List.getElem?_eq_some_iff.1 hd).1)))
     subst hL
     have hLn : L.length = n ∧ ∀ l ∈ L, l.length ≤ 2000 := ⟨by rw [Xhn.out]; exact fam.len, lens_of XhD.out som⟩
     have hbw := (Xt.out.next (by rw [← XhZ.out]; exact bz)).le
     clear som bz hup hκ
     have Xrx := hide rx
     have Xfam := hide fam
     have XhLn := hide hLn
     have Xhbw := hide hbw
     clear rx fam hLn hbw
     go_wp2_with fail
     go_ret2
     exact ⟨Xhbw.out, 0, D, Xhai.out, .inr ⟨rfl, R, S, L, rfl, Xhfs.out, Xfam.out, ⟨_, P, Q, n, _, Xrx.out, hn2, XhLn.out⟩⟩⟩
    | true =>
     have hκ : gk = totO (topOf G) W + 1 := hκ
     have pw0 : PW (topOf G) D W Z w3 R P Q n (.pointer (some ⟨pb, 0, none⟩)) S false W Fr 0 0 wr := ⟨som, rx, bz, .inl ⟨rfl, rfl, UptoW.start W⟩⟩
     clear som rx bz hup
     have Xpw0 := hide pw0
     have Xhκ := hide hκ
     clear pw0 hκ
     go_wp2_with fail
     go_loopw [8, 9] (fun mo ix wr => ∃ (b : Bool) (i : Nat) (W' : Wos) (Fr : Nat → Prop), i ≤ n ∧ mo = .bool b ∧ ix = .int .i64 i ∧ PW (topOf G) D W Z w3 R P Q n (.pointer (some ⟨pb, 0, none⟩)) S b W' Fr i 0 wr) (fun _ ix _ => n - (intOf ix).toNat)
     case atStart => exact ⟨false, 0, W, Fr, Nat.zero_le _, rfl, rfl, Xpw0.out⟩
     case round =>
      clear Xpw0
      obtain ⟨b, i, W', Fr, hi, rfl, rfl, p⟩ := hrel
      by_cases hlti : i < n
      ·have hlti' : (i : Int) < (n : Int) := by omega
       obtain ⟨di, hdi⟩ : ∃ di, D[i]? = some di := ⟨_, List.getElem?_eq_getElem (by rw [← Xhn.out]; exact hlti)⟩
       obtain ⟨-, -, -, hcell3⟩ := Xt.out.rd.at_
       obtain ⟨bT, oT, eA, -, hcs⟩ := hcell3 (by omega)
       cases eA
       obtain ⟨y1, y2, u1, u2, s1, s2⟩ := hcs i di hdi
       obtain ⟨A5, n5, c5, rfl, -⟩ := id s2
       obtain ⟨hn5, hnc5, hcm5, -⟩ := RdIt.at_ s2
       unfold maxLen at hcm5
       have u2s : ∀ wq, Below Z w3 wq → wq.cell? ⟨bS, oS + i * 2 + 1, none⟩ = some (.slice A5 n5 c5) := fun wq b => (b.cell (p := ⟨bS, oS + i * 2 + 1, none⟩) (by rw [XhZ.out]; exact World.block_lt_of_cell? _ _ u2)).trans u2
       have tr : ∀ wq, Below Z w3 wq → RdIt wq (fun b => b < w3.heap.size) (.slice A5 n5 c5) di.2 := fun wq b => by
        rw [XhZ.out] at b
        exact s2.below b (fun z hz => hz)
       clear hcell3 hcs s1 s2 u1 u2
       have Xp := hide p
       have Xhdi := hide hdi
       have Xhn5 := hide hn5
       have Xtr := hide tr
       have Xu2s := hide u2s
       clear p hdi hn5 tr u2s
       go_wp2_with fail
       go_loopw [8, 10] (fun mo kx wr => ∃ (b : Bool) (k : Nat) (W' : Wos) (Fr : Nat → Prop), k ≤ n5 ∧ mo = .bool b ∧ kx = .int .i64 k ∧ PW (topOf G) D W Z w3 R P Q n (.pointer (some ⟨pb, 0, none⟩)) S b W' Fr i k wr) (fun _ kx _ => n5 - (intOf kx).toNat)
       case atStart => exact ⟨b, 0, W', Fr, Nat.zero_le _, rfl, rfl, Xp.out⟩
       case round =>
        clear Xp
        obtain ⟨b, k, W', Fr, hk, rfl, rfl, p⟩ := hrel
        have u2 := Xu2s.out _ p.bz
        by_cases hltk : k < n5
        ·have hltk' : (k : Int) < (n5 : Int) := by omega
         obtain ⟨o, ho⟩ : ∃ o, W'[i]? = some o := ⟨_, List.getElem?_eq_getElem (by rw [p.rx.ways.len]; exact hlti)⟩
         have ci := (p.rx.is_.cell i).trans (isCells_at ho)
         cases o with
         | none =>
          have ci : wr.cell? ⟨Q, i, none⟩ = some (.bool false) := ci
          have p2 := p.row Xhdi.out (.inr ho)
          clear p ho
          have Xp2 := hide p2
          clear p2
          go_wp2_with fail
          go_roundw
          case rel => exact ⟨b, i + 1, W', Fr, by omega, rfl, by go_num, Xp2.out⟩
          case measure => simp [intOf]; omega
         | some wi =>
          have ci : wr.cell? ⟨Q, i, none⟩ = some (.bool true) := ci
          have trW := Xtr.out wr p.bz
          obtain ⟨-, -, -, hcell5⟩ := RdIt.at_ trW
          obtain ⟨b5, o5, rfl, -, hcc5⟩ := hcell5 (by omega)
          obtain ⟨⟨s, tt⟩, hy⟩ : ∃ y, di.2[k]? = some y := ⟨_, List.getElem?_eq_getElem (by rw [← Xhn5.out]; exact hltk)⟩
          obtain ⟨p0, p1⟩ := hcc5 k _ hy
          simp only at p0 p1
          obtain ⟨hs1, hs2, t, rfl, htl⟩ := XhD.out.tr i di Xhdi.out s tt (List.mem_of_getElem? hy)
          rw [← Xhn.out] at htl
          have htl' : (t : Int) < (n : Int) := by omega
          obtain ⟨A1, m1, c1, hcI, hrI⟩ := p.rx.ways.row i _ ho
          have rI := hrI wi rfl
          have lk : (wi.map (Value.int .i64)).length = m1 * 1 := by rw [List.length_map, Nat.mul_one]; exact (RdI.at_ rI).1.symm
          have hm1 : m1 < 2000 := by
           have h1 := (p.som.rank XhD.out ho).2
           have h2 := (RdI.at_ rI).1
           omega
          have cR := p.rx.cells.1
          have hlR : R < wr.heap.size ∧ P < wr.heap.size ∧ Q < wr.heap.size := ⟨p.rx.st.lt, p.rx.ways.lt, p.rx.is_.lt⟩
          have hflt := p.rx.flt
          obtain ⟨lo, hlo⟩ : ∃ q, q = wr.heap.size := ⟨_, rfl⟩
          clear hcell5 hcc5 trW hrI
          have Xp := hide p
          have Xhy := hide hy
          have Xhs1 := hide hs1
          have Xhs2 := hide hs2
          have Xho := hide ho
          have Xlk := hide lk
          have XhlR := hide hlR
          have XrI := hide rI
          have Xhflt := hide hflt
          have Xhlo := hide hlo
          clear p hy hs1 hs2 ho lk hlR rI hflt hlo
          go_wp2_with fail
          go_cut [12] from 40 to 110 (fun v wx => ∃ A c, v = .slice A (m1 + 1) c ∧ wx.ownsRow lo 3 1 (.slice A (m1 + 1) c) (m1 + 1) ((wi ++ [s]).map (Value.int .i64)) ∧ Below lo wr wx)
          case first =>
           refine wp_region_held_drew (S := (fun V => V.cell? ⟨R, 0, none⟩ = some (.slice (some ⟨P, 0, none⟩) n n) ∧ V.cell? ⟨P, i, none⟩ = some (.slice A1 m1 c1) ∧ V.cell? ⟨bS, oS + i * 2 + 1, none⟩ = some (.slice (some ⟨b5, o5, none⟩) n5 c5) ∧ V.cell? ⟨b5, o5 + k * 2, none⟩ = some (.int .i64 s))) (by kernel_rfl) ?_ (fun hHeld => ?_)
           ·exact ⟨cR, hcI, u2, p0⟩
           have bd : Below lo wr wr.drew := by rw [Xhlo.out]; exact (Below.refl _ _).drew
           have lole : lo ≤ wr.drew.heap.size := by rw [Xhlo.out]; exact Nat.le_refl _
           have kx : ∀ V, Below wr.drew.heap.size wr.drew V → V.cell? ⟨R, 0, none⟩ = some (.slice (some ⟨P, 0, none⟩) n n) ∧ V.cell? ⟨P, i, none⟩ = some (.slice A1 m1 c1) ∧ V.cell? ⟨bS, oS + i * 2 + 1, none⟩ = some (.slice (some ⟨b5, o5, none⟩) n5 c5) ∧ V.cell? ⟨b5, o5 + k * 2, none⟩ = some (.int .i64 s) := fun V hV => by
            obtain ⟨h1, h2, h3, h4⟩ := hHeld
            exact ⟨(hV.cell (World.block_lt_of_cell? _ _ h1)).trans h1, (hV.cell (World.block_lt_of_cell? _ _ h2)).trans h2, (hV.cell (World.block_lt_of_cell? _ _ h3)).trans h3, (hV.cell (World.block_lt_of_cell? _ _ h4)).trans h4⟩
           have r1 : ∀ V, Below wr.drew.heap.size wr.drew V → RdI V Fr (.slice A1 m1 c1) wi := fun V hV => (XrI.out.below (Below.refl _ _).drew Xhflt.out).below hV Xhflt.out
           clear cR hcI u2 p0 ci p1
           generalize wr.drew = wd at *
           have Xkx := hide kx
           have Xr1 := hide r1
           have Xbd := hide bd
           have Xlole := hide lole
           clear kx r1 bd lole
           refine tk (i := 1) (oi := ?_) (v := ?_) ?_ (by kernel_rfl) ?_ (Or.inl ⟨?_, ?_⟩) (by assumption) ?_; rotate_left 2; (focus ((try simp only [gT, gs, gz]); try rfl)); exact fun _ _ _ h => h; rfl; (focus (intro wS hwS; (try dsimp only at hwS); go_simp; all_goals with_reducible rfl)); try simp only [Act.put, sT, s0, s1]
           refine tk (i := 2) (oi := ?_) (v := ?_) ?_ (by kernel_rfl) ?_ (Or.inl ⟨?_, ?_⟩) (by assumption) ?_; rotate_left 2; (focus ((try simp only [gT, gs, gz]); try rfl)); exact fun _ _ _ h => h; rfl; (focus (intro wS hwS; (try dsimp only at hwS); go_simp; all_goals with_reducible rfl)); try simp only [Act.put, sT, s0, s1]
           refine tk (i := 3) (oi := ?_) (v := ?_) ?_ (by kernel_rfl) ?_ (Or.inl ⟨?_, ?_⟩) (by assumption) ?_; rotate_left 2; (focus ((try simp only [gT, gs, gz]); try rfl)); exact fun _ _ _ h => h; rfl; (focus (intro wS hwS; (try dsimp only at hwS); go_simp; all_goals with_reducible rfl)); try simp only [Act.put, sT, s0, s1]
           refine tk (i := 4) (oi := ?_) (v := ?_) ?_ (by kernel_rfl) ?_ (Or.inl ⟨?_, ?_⟩) (by assumption) ?_; rotate_left 2; (focus ((try simp only [gT, gs, gz]); try rfl)); exact fun _ _ _ h => h; rfl; (focus (intro wS hwS; (try dsimp only at hwS); go_simp; all_goals with_reducible rfl)); try simp only [Act.put, sT, s0, s1]
           refine tk (i := 5) (oi := ?_) (v := ?_) ?_ (by kernel_rfl) ?_ (Or.inl ⟨?_, ?_⟩) (by assumption) ?_; rotate_left 2; (focus ((try simp only [gT, gs, gz]); try rfl)); exact fun _ _ _ h => h; rfl; (focus (intro wS hwS; (try dsimp only at hwS); go_simp; all_goals with_reducible rfl)); try simp only [Act.put, sT, s0, s1]
           refine tk (i := 6) (oi := ?_) (v := ?_) ?_ (by kernel_rfl) ?_ (Or.inl ⟨?_, ?_⟩) (by assumption) ?_; rotate_left 2; (focus ((try simp only [gT, gs, gz]); try rfl)); exact fun _ _ _ h => h; rfl; (focus (intro wS hwS; (try dsimp only at hwS); go_simp; all_goals with_reducible rfl)); try simp only [Act.put, sT, s0, s1]
           refine tk (i := 7) (oi := ?_) (v := ?_) ?_ (by kernel_rfl) ?_ (Or.inl ⟨?_, ?_⟩) (by assumption) ?_; rotate_left 2; (focus ((try simp only [gT, gs, gz]); try rfl)); exact fun _ _ _ h => h; rfl; (focus (intro wS hwS; (try dsimp only at hwS); go_simp; all_goals with_reducible rfl)); try simp only [Act.put, sT, s0, s1]
           refine tk (i := 9) (oi := ?_) (v := ?_) ?_ (by kernel_rfl) ?_ (Or.inl ⟨?_, ?_⟩) (by assumption) ?_; rotate_left 2; (focus ((try simp only [gT, gs, gz]); try rfl)); exact fun _ _ _ h => h; rfl; (focus (intro wS hwS; (try dsimp only at hwS); go_simp; all_goals with_reducible rfl)); try simp only [Act.put, sT, s0, s1]
           refine tk (i := 10) (oi := ?_) (v := ?_) ?_ (by kernel_rfl) ?_ (Or.inl ⟨?_, ?_⟩) (by assumption) ?_; rotate_left 2; (focus ((try simp only [gT, gs, gz]); try rfl)); exact fun _ _ _ h => h; rfl; (focus (intro wS hwS; (try dsimp only at hwS); go_simp; all_goals with_reducible rfl)); try simp only [Act.put, sT, s0, s1]
           refine tk (i := 11) (oi := ?_) (v := ?_) ?_ (by kernel_rfl) ?_ (Or.inl ⟨?_, ?_⟩) (by assumption) ?_; rotate_left 2; (focus ((try simp only [gT, gs, gz]); try rfl)); exact fun _ _ _ h => h; rfl; (focus (intro wS hwS; (try dsimp only at hwS); go_simp; all_goals with_reducible rfl)); try simp only [Act.put, sT, s0, s1]
           refine tk (i := 12) (oi := ?_) (v := ?_) ?_ (by kernel_rfl) ?_ (Or.inl ⟨?_, ?_⟩) (by assumption) ?_; rotate_left 2; (focus ((try simp only [gT, gs, gz]); try rfl)); exact fun _ _ _ h => h; rfl; (focus (intro wS hwS; (try dsimp only at hwS); go_simp; all_goals with_reducible rfl)); try simp only [Act.put, sT, s0, s1]
           refine tk (i := 13) (oi := ?_) (v := ?_) ?_ (by kernel_rfl) ?_ (Or.inl ⟨?_, ?_⟩) (by assumption) ?_; rotate_left 2; (focus ((try simp only [gT, gs, gz]); try rfl)); exact fun _ _ _ h => h; rfl; (focus (intro wS hwS; (try dsimp only at hwS); go_simp; all_goals with_reducible rfl)); try simp only [Act.put, sT, s0, s1]
           refine tk (i := 14) (oi := ?_) (v := ?_) ?_ (by kernel_rfl) ?_ (Or.inl ⟨?_, ?_⟩) (by assumption) ?_; rotate_left 2; (focus ((try simp only [gT, gs, gz]); try rfl)); exact fun _ _ _ h => h; rfl; (focus (intro wS hwS; (try dsimp only at hwS); go_simp; all_goals with_reducible rfl)); try simp only [Act.put, sT, s0, s1]
           refine tk (i := 15) (oi := ?_) (v := ?_) ?_ (by kernel_rfl) ?_ (Or.inl ⟨?_, ?_⟩) (by assumption) ?_; rotate_left 2; (focus ((try simp only [gT, gs, gz]); try rfl)); exact fun _ _ _ h => h; rfl; (focus (intro wS hwS; (try dsimp only at hwS); go_simp; all_goals with_reducible rfl)); try simp only [Act.put, sT, s0, s1]
           refine tk (i := 16) (oi := ?_) (v := ?_) ?_ (by kernel_rfl) ?_ (Or.inl ⟨?_, ?_⟩) (by assumption) ?_; rotate_left 2; (focus ((try simp only [gT, gs, gz]); try rfl)); exact fun _ _ _ h => h; rfl; (focus (intro wS hwS; (try dsimp only at hwS); go_simp; all_goals with_reducible rfl)); try simp only [Act.put, sT, s0, s1]
           refine tk (i := 17) (oi := ?_) (v := ?_) ?_ (by kernel_rfl) ?_ (Or.inl ⟨?_, ?_⟩) (by assumption) ?_; rotate_left 2; (focus ((try simp only [gT, gs, gz]); try rfl)); exact fun _ _ _ h => h; rfl; (focus (intro wS hwS; (try dsimp only at hwS); go_simp; all_goals with_reducible rfl)); try simp only [Act.put, sT, s0, s1]
           refine wpAnyH_ready (rs := [0, 18]) (by kernel_rfl) (by simp) ?_
           refine AllReadyH.cons (o := ?_) ?_ (fun K hK => ?_) ?_; rotate_left 1; (focus ((try simp only [gT, gs, gz]); try rfl))
           ·go_simp
            have B1 : Below wd.heap.size wd (wd.alloc (.cells #[] 3)) := (Below.refl _ wd).alloc (Nat.le_refl _) _
            have o1 := own_empty wd 3 1
            refine hK.out _ _ ?_ (fun hHeld => ?_)
            ·exact Xkx.out _ B1
            clear hK K
            try simp only [Act.put, sT, s0, s1]
            refine wpAnyH_ready (rs := [8, 18]) (by kernel_rfl) (by simp) ?_
            refine AllReadyH.cons (o := ?_) ?_ (fun K hK => ?_) ?_; rotate_left 1; (focus ((try simp only [gT, gs, gz]); try rfl))
            ·skip
             refine step_append _ rfl (.tmp 65) (.tmp 72) _ rfl Tryz.elemInt wd.heap.size _ 0 [] rfl o1 _ _ (wi.map (Value.int .i64)) m1 rfl Xlk.out (Xr1.out _ B1) (by intro u hu; obtain ⟨x, -, rfl⟩ := List.mem_map.1 hu; rfl) (by unfold maxLen; omega) (by omega) (B1).size ?_
             intro A4 c4 w4 own4 hg4 hb4
             rw [Nat.zero_add] at own4 ⊢
             have hg4 : World.grownBy _ w4 (some (wd.heap.size)) := hg4
             have B4 := (B1).grown hg4 (B1).size (fun q hq => (World.ownsRow.lt o1 q hq).1)
             refine hK.out _ _ ?_ (fun hHeld => ?_)
             ·exact Xkx.out _ B4
             clear hK K
             try simp only [Act.put, sT, s0, s1]
             refine wpAnyH_ready (rs := [18]) (by kernel_rfl) (by simp) ?_
             refine AllReadyH.cons (o := ?_) ?_ (fun K hK => ?_) ?_; rotate_left 1; (focus ((try simp only [gT, gs, gz]); try rfl))
             ·go_simp
              have B5 : Below wd.heap.size wd (w4.alloc (.cells #[.int .i64 s] 3)) := B4.alloc B4.size _
              have o5 := own_alloc own4 (.cells #[.int .i64 s] 3)
              refine hK.out _ _ ?_ (fun hHeld => ?_)
              ·exact Xkx.out _ B5
              clear hK K
              try simp only [Act.put, sT, s0, s1]
              refine wpAnyH_ready (rs := [19]) (by kernel_rfl) (by simp) ?_
              refine AllReadyH.cons (o := ?_) ?_ (fun K hK => ?_) ?_; rotate_left 1; (focus ((try simp only [gT, gs, gz]); try rfl))
              rotate_left 1
              ·exact AllReadyH.nil
              refine step_append _ rfl (.tmp 73) (.tmp 83) _ rfl Tryz.elemInt wd.heap.size _ m1 _ rfl o5 _ _ [.int .i64 s] 1 rfl rfl (Rd.one' (w := w4) (e := 3) [.int .i64 s] 1 rfl) (by intro u hu; obtain rfl := List.mem_singleton.1 hu; rfl) (by unfold maxLen; omega) (by omega) (B5).size ?_
              intro A6 c6 w6 own6 hg6 hb6
              have B6 := (B5).grown hg6 (B5).size (fun q hq => (World.ownsRow.lt o5 q hq).1)
              refine hK.out _ _ ?_ (fun hHeld => ?_)
              ·exact Xkx.out _ B6
              clear hK K
              try simp only [Act.put, sT, s0, s1]
              refine tk (i := 20) (oi := ?_) (v := ?_) ?_ (by kernel_rfl) ?_ (Or.inl ⟨?_, ?_⟩) (by assumption) ?_; rotate_left 2; (focus ((try simp only [gT, gs, gz]); try rfl)); exact fun _ _ _ h => h; rfl; (focus (intro wS hwS; (try dsimp only at hwS); go_simp; all_goals with_reducible rfl)); try simp only [Act.put, sT, s0, s1]
              refine wpAnyH_done (by kernel_rfl) ?_ _
              go_wp2_with fail
              go_meet
              refine ⟨A6, c6, rfl, ?_, Xbd.out.trans (B6.mono Xlole.out)⟩
              have hcells : ([] ++ wi.map (Value.int .i64)) ++ [.int .i64 s] = (wi ++ [s]).map (Value.int .i64) := by simp
              rw [hcells] at own6
              exact ownsRow_base own6 (fun q hq => Nat.le_trans Xlole.out (World.ownsRow.lt own6 q hq).1)
             ·exact AllReadyH.nil
            ·refine AllReadyH.cons (o := ?_) ?_ (fun K hK => ?_) ?_; rotate_left 1; (focus ((try simp only [gT, gs, gz]); try rfl))
             ·go_simp
              have B2 : Below wd.heap.size wd ((wd.alloc (.cells #[] 3)).alloc (.cells #[.int .i64 s] 3)) := B1.alloc B1.size _
              have o2 := own_alloc o1 (.cells #[.int .i64 s] 3)
              have k2 : Blk ((wd.alloc (.cells #[] 3)).alloc (.cells #[.int .i64 s] 3)) (wd.heap.size + 1) 3 #[.int .i64 s] := by have := Blk.new (wd.alloc (.cells #[] 3)) 3 #[.int .i64 s]; simpa using this
              refine hK.out _ _ ?_ (fun hHeld => ?_)
              ·exact Xkx.out _ B2
              clear hK K
              try simp only [Act.put, sT, s0, s1]
              refine wpAnyH_ready (rs := [8]) (by kernel_rfl) (by simp) ?_
              refine AllReadyH.cons (o := ?_) ?_ (fun K hK => ?_) ?_; rotate_left 1; (focus ((try simp only [gT, gs, gz]); try rfl))
              rotate_left 1
              ·exact AllReadyH.nil
              refine step_append _ rfl (.tmp 65) (.tmp 72) _ rfl Tryz.elemInt wd.heap.size _ 0 [] rfl o2 _ _ (wi.map (Value.int .i64)) m1 rfl Xlk.out (Xr1.out _ B2) (by intro u hu; obtain ⟨x, -, rfl⟩ := List.mem_map.1 hu; rfl) (by unfold maxLen; omega) (by omega) (B2).size ?_
              intro A4 c4 w4 own4 hg4 hb4
              rw [Nat.zero_add] at own4 ⊢
              have hg4 : World.grownBy _ w4 (some (wd.heap.size)) := hg4
              have B4 := (B2).grown hg4 (B2).size (fun q hq => (World.ownsRow.lt o2 q hq).1)
              have k4 := k2.grown hg4 (by simp)
              refine hK.out _ _ ?_ (fun hHeld => ?_)
              ·exact Xkx.out _ B4
              clear hK K
              try simp only [Act.put, sT, s0, s1]
              refine wpAnyH_ready (rs := [19]) (by kernel_rfl) (by simp) ?_
              refine AllReadyH.cons (o := ?_) ?_ (fun K hK => ?_) ?_; rotate_left 1; (focus ((try simp only [gT, gs, gz]); try rfl))
              rotate_left 1
              ·exact AllReadyH.nil
              refine step_append _ rfl (.tmp 73) (.tmp 83) _ rfl Tryz.elemInt wd.heap.size _ m1 _ rfl own4 _ _ [.int .i64 s] 1 rfl rfl (Rd.of_blk (F := fun b => b = wd.heap.size + 1) (us := [.int .i64 s]) (n := 1) k4 rfl rfl (by decide)) (by intro u hu; obtain rfl := List.mem_singleton.1 hu; rfl) (by unfold maxLen; omega) (by omega) (B4).size ?_
              intro A6 c6 w6 own6 hg6 hb6
              have B6 := (B4).grown hg6 (B4).size (fun q hq => (World.ownsRow.lt own4 q hq).1)
              refine hK.out _ _ ?_ (fun hHeld => ?_)
              ·exact Xkx.out _ B6
              clear hK K
              try simp only [Act.put, sT, s0, s1]
              refine tk (i := 20) (oi := ?_) (v := ?_) ?_ (by kernel_rfl) ?_ (Or.inl ⟨?_, ?_⟩) (by assumption) ?_; rotate_left 2; (focus ((try simp only [gT, gs, gz]); try rfl)); exact fun _ _ _ h => h; rfl; (focus (intro wS hwS; (try dsimp only at hwS); go_simp; all_goals with_reducible rfl)); try simp only [Act.put, sT, s0, s1]
              refine wpAnyH_done (by kernel_rfl) ?_ _
              go_wp2_with fail
              go_meet
              refine ⟨A6, c6, rfl, ?_, Xbd.out.trans (B6.mono Xlole.out)⟩
              have hcells : ([] ++ wi.map (Value.int .i64)) ++ [.int .i64 s] = (wi ++ [s]).map (Value.int .i64) := by simp
              rw [hcells] at own6
              exact ownsRow_base own6 (fun q hq => Nat.le_trans Xlole.out (World.ownsRow.lt own6 q hq).1)
             ·exact AllReadyH.nil
           ·refine AllReadyH.cons (o := ?_) ?_ (fun K hK => ?_) ?_; rotate_left 1; (focus ((try simp only [gT, gs, gz]); try rfl))
            ·go_simp
             have B1 : Below wd.heap.size wd (wd.alloc (.cells #[.int .i64 s] 3)) := (Below.refl _ wd).alloc (Nat.le_refl _) _
             have k1 : Blk (wd.alloc (.cells #[.int .i64 s] 3)) wd.heap.size 3 #[.int .i64 s] := Blk.new _ _ _
             refine hK.out _ _ ?_ (fun hHeld => ?_)
             ·exact Xkx.out _ B1
             clear hK K
             try simp only [Act.put, sT, s0, s1]
             refine wpAnyH_ready (rs := [0]) (by kernel_rfl) (by simp) ?_
             refine AllReadyH.cons (o := ?_) ?_ (fun K hK => ?_) ?_; rotate_left 1; (focus ((try simp only [gT, gs, gz]); try rfl))
             rotate_left 1
             ·exact AllReadyH.nil
             go_simp
             have B2 : Below wd.heap.size wd ((wd.alloc (.cells #[.int .i64 s] 3)).alloc (.cells #[] 3)) := B1.alloc B1.size _
             have o2 : World.ownsRow ((wd.alloc (.cells #[.int .i64 s] 3)).alloc (.cells #[] 3)) wd.heap.size 3 1 (.slice (some ⟨wd.heap.size + 1, 0, none⟩) 0 0) 0 [] := by
              have := own_empty (wd.alloc (.cells #[.int .i64 s] 3)) 3 1
              rw [World.size_alloc] at this
              exact ownsRow_base this (fun q hq => by simp [Value.ownBlock] at hq; omega)
             have k2 := k1.alloc (.cells #[] 3)
             refine hK.out _ _ ?_ (fun hHeld => ?_)
             ·exact Xkx.out _ B2
             clear hK K
             try simp only [Act.put, sT, s0, s1]
             refine wpAnyH_ready (rs := [8]) (by kernel_rfl) (by simp) ?_
             refine AllReadyH.cons (o := ?_) ?_ (fun K hK => ?_) ?_; rotate_left 1; (focus ((try simp only [gT, gs, gz]); try rfl))
             rotate_left 1
             ·exact AllReadyH.nil
             refine step_append _ rfl (.tmp 65) (.tmp 72) _ rfl Tryz.elemInt wd.heap.size _ 0 [] rfl o2 _ _ (wi.map (Value.int .i64)) m1 rfl Xlk.out (Xr1.out _ B2) (by intro u hu; obtain ⟨x, -, rfl⟩ := List.mem_map.1 hu; rfl) (by unfold maxLen; omega) (by omega) (B2).size ?_
             intro A4 c4 w4 own4 hg4 hb4
             rw [Nat.zero_add] at own4 ⊢
             have hg4 : World.grownBy _ w4 (some (wd.heap.size+1)) := hg4
             have B4 := (B2).grown hg4 (B2).size (fun q hq => (World.ownsRow.lt o2 q hq).1)
             have k4 := k2.grown hg4 (by simp)
             refine hK.out _ _ ?_ (fun hHeld => ?_)
             ·exact Xkx.out _ B4
             clear hK K
             try simp only [Act.put, sT, s0, s1]
             refine wpAnyH_ready (rs := [19]) (by kernel_rfl) (by simp) ?_
             refine AllReadyH.cons (o := ?_) ?_ (fun K hK => ?_) ?_; rotate_left 1; (focus ((try simp only [gT, gs, gz]); try rfl))
             rotate_left 1
             ·exact AllReadyH.nil
             refine step_append _ rfl (.tmp 73) (.tmp 83) _ rfl Tryz.elemInt wd.heap.size _ m1 _ rfl own4 _ _ [.int .i64 s] 1 rfl rfl (Rd.of_blk (F := fun b => b = wd.heap.size) (us := [.int .i64 s]) (n := 1) k4 rfl rfl (by decide)) (by intro u hu; obtain rfl := List.mem_singleton.1 hu; rfl) (by unfold maxLen; omega) (by omega) (B4).size ?_
             intro A6 c6 w6 own6 hg6 hb6
             have B6 := (B4).grown hg6 (B4).size (fun q hq => (World.ownsRow.lt own4 q hq).1)
             refine hK.out _ _ ?_ (fun hHeld => ?_)
             ·exact Xkx.out _ B6
             clear hK K
             try simp only [Act.put, sT, s0, s1]
             refine tk (i := 20) (oi := ?_) (v := ?_) ?_ (by kernel_rfl) ?_ (Or.inl ⟨?_, ?_⟩) (by assumption) ?_; rotate_left 2; (focus ((try simp only [gT, gs, gz]); try rfl)); exact fun _ _ _ h => h; rfl; (focus (intro wS hwS; (try dsimp only at hwS); go_simp; all_goals with_reducible rfl)); try simp only [Act.put, sT, s0, s1]
             refine wpAnyH_done (by kernel_rfl) ?_ _
             go_wp2_with fail
             go_meet
             refine ⟨A6, c6, rfl, ?_, Xbd.out.trans (B6.mono Xlole.out)⟩
             have hcells : ([] ++ wi.map (Value.int .i64)) ++ [.int .i64 s] = (wi ++ [s]).map (Value.int .i64) := by simp
             rw [hcells] at own6
             exact ownsRow_base own6 (fun q hq => Nat.le_trans Xlole.out (World.ownsRow.lt own6 q hq).1)
            ·exact AllReadyH.nil
          case rest =>
           obtain ⟨A6, c6, rfl, own6, b6⟩ := hcut
           rw [Xhlo.out] at b6
           have p6 := Xp.out.below XhZ.out b6
           obtain ⟨h1R, h1P, h1Q⟩ := XhlR.out
           rw [← Xhlo.out] at h1R h1P h1Q
           have hown : ∀ q, (Value.slice A6 (m1 + 1) c6).ownBlock = some q → (q ≠ P ∧ q ≠ Q) ∧ q < wc.heap.size := fun q hq => by
            have := own6.lt q hq
            exact ⟨⟨by omega, by omega⟩, this.2⟩
           have r6 : RdI wc (fun q => (Value.slice A6 (m1 + 1) c6).ownBlock = some q) (.slice A6 (m1 + 1) c6) (wi ++ [s]) := Rd.of_own own6
           obtain ⟨ot, hot⟩ : ∃ o, W'[t]? = some o := ⟨_, List.getElem?_eq_getElem (by rw [p6.rx.ways.len]; exact htl)⟩
           have ct := (p6.rx.is_.cell t).trans (isCells_at hot)
           have cR := p6.rx.cells.1
           have fP := p6.rx.ways.frz t htl
           have fQ := p6.rx.is_.frozen t
           obtain ⟨At, mt, ct', hcT, hrT⟩ := p6.rx.ways.row t _ hot
           have hne : Q ≠ P := p6.rx.rp.2.2
           have cR7 : (wc.setCell ⟨P, t, none⟩ (.slice A6 (m1 + 1) c6)).cell? ⟨Q, t, none⟩ = wc.cell? ⟨Q, t, none⟩ := World.cell?_setCell_other _ _ _ _ (fun e => by injection e with e; exact hne e.symm)
           clear b6 h1R h1P h1Q p0 p1 u2 hcI ci
           cases ot with
           | none =>
            have ct : wc.cell? ⟨Q, t, none⟩ = some (.bool false) := ct
            rw [ct] at cR7
            have p7 := p6.put (i' := i) (k' := k + 1) XhD.out Xho.out Xhdi.out Xhy.out hot (fun _ e => by cases e) htl r6 hown XhP.out XhQZ.out
            clear p6 hot hrT own6
            have Xp7 := hide p7
            have Xhown := hide hown
            have Xr6 := hide r6
            have Xhne := hide hne
            clear p7 hown r6 hne
            go_wp2_with fail
            go_roundw
            case rel => exact ⟨true, k + 1, _, _, by omega, rfl, by go_num, Xp7.out⟩
            case measure => simp [intOf]; omega
           | some wt =>
            have ct : wc.cell? ⟨Q, t, none⟩ = some (.bool true) := ct
            have cL := ref16_less r6 (hrT wt rfl)
            clear hrT own6 fP fQ cR7
            cases hle : lessB (wi ++ [s]) wt with
            | true =>
             rw [hle] at cL
             have Xp6 := hide p6
             have Xhot := hide hot
             have Xr6 := hide r6
             have Xhown := hide hown
             have XcL := hide cL
             have Xhle := hide hle
             have Xhne := hide hne
             clear p6 hot r6 hown cL hle hne
             go_wp2_with fail
             refine XcL.out.mono ?_
             rintro e w7 ⟨rfl, q, rfl⟩
             have b7 : Below wc.heap.size wc (wc.drewN q) := below_drewN (Below.refl _ _) q
             have p7 := Xp6.out.below XhZ.out b7
             have r7 := Xr6.out.below b7 (fun k hk => (Xhown.out k hk).2)
             have p8 := p7.put (i' := i) (k' := k + 1) XhD.out Xho.out Xhdi.out Xhy.out Xhot.out (fun _ e => by injection e with e; rw [← e]; exact Xhle.out) htl r7 (fun q hq => ⟨(Xhown.out q hq).1, Nat.lt_of_lt_of_le (Xhown.out q hq).2 b7.size⟩) XhP.out XhQZ.out
             have cR := p7.rx.cells.1
             have fP := p7.rx.ways.frz t htl
             have fQ := p7.rx.is_.frozen t
             have ct := (p7.rx.is_.cell t).trans (isCells_at Xhot.out)
             have ct : (wc.drewN q).cell? ⟨Q, t, none⟩ = some (.bool true) := ct
             have cT := b7.cell (p := ⟨P, t, none⟩) Xp6.out.rx.ways.lt
             rw [hcT] at cT
             have cR7 : ((wc.drewN q).setCell ⟨P, t, none⟩ (.slice A6 (m1 + 1) c6)).cell? ⟨Q, t, none⟩ = (wc.drewN q).cell? ⟨Q, t, none⟩ := World.cell?_setCell_other _ _ _ _ (fun e => by injection e with e; exact Xhne.out e.symm)
             rw [ct] at cR7
             clear p7 r7 b7 Xp6 Xr6 XcL hcT
             generalize wc.drewN q = w7 at *
             have Xp8 := hide p8
             clear p8
             go_wp2_with fail
             go_roundw
             case rel => exact ⟨true, k + 1, _, _, by omega, rfl, by go_num, Xp8.out⟩
             case measure => simp [intOf]; omega
            | false =>
             rw [hle] at cL
             have Xp6 := hide p6
             have Xhot := hide hot
             have Xr6 := hide r6
             have Xhown := hide hown
             have XcL := hide cL
             have Xhle := hide hle
             have Xhne := hide hne
             clear p6 hot r6 hown cL hle hne
             go_wp2_with fail
             refine XcL.out.mono ?_
             rintro e w7 ⟨rfl, q, rfl⟩
             have b7 : Below wc.heap.size wc (wc.drewN q) := below_drewN (Below.refl _ _) q
             have p7 := Xp6.out.below XhZ.out b7
             have p8 := p7.skip XhD.out Xho.out Xhdi.out Xhy.out Xhot.out Xhle.out
             clear p7 b7 Xp6 Xr6 XcL
             have Xp8 := hide p8
             clear p8
             go_wp2_with fail
             go_roundw
             case rel => exact ⟨b, k + 1, W', Fr, by omega, rfl, by go_num, Xp8.out⟩
             case measure => simp [intOf]; omega
        ·have hltk' : ¬ (k : Int) < (n5 : Int) := by omega
         have p2 := p.row Xhdi.out (.inl (by rw [← Xhn5.out]; omega))
         clear p
         have Xp2 := hide p2
         clear p2
         go_wp2_with fail
         go_roundw
         case rel => exact ⟨b, i + 1, W', Fr, by omega, rfl, by go_num, Xp2.out⟩
         case measure => simp [intOf]; omega
      ·have hlti' : ¬ (i : Int) < (n : Int) := by omega
       have hin : i = n := by omega
       subst hin
       have hdone : SomeW D W' ∧ RX wr Fr R P Q i (.pointer (some ⟨pb, 0, none⟩)) S W' ∧ Below Z w3 wr ∧ (b = false → UptoW (topOf G) D W' i 0) ∧ totO (topOf G) W' + (if b = true then 1 else 0) < gk := by
        refine ⟨p.som, p.rx, p.bz, fun e => ?_, ?_⟩
        ·rcases p.up with ⟨-, -, h⟩ | ⟨h, -⟩
         ·exact h
         ·rw [e] at h; cases h
        ·have hκ := Xhκ.out
         rcases p.up with ⟨rfl, rfl, -⟩ | ⟨rfl, h⟩
         ·simp; omega
         ·simp; omega
       clear p
       have Xhdone := hide hdone
       clear hdone
       go_wp2_with fail
       go_roundg (totO (topOf G) W' + (if b = true then 1 else 0))
       case rel => exact ⟨b, W', Fr, rfl, Xhdone.out.1, Xhdone.out.2.1, Xhdone.out.2.2.1, Xhdone.out.2.2.2.1, rfl⟩
       case measure => exact Nat.lt_of_lt_of_le Xhdone.out.2.2.2.2 (Nat.le_of_eq Xhκ.out)
 ·have hee : (ev != 0) = true := by simpa using hev
  have hbw := t.le
  clear t
  have Xhai := hide hai
  have Xhbw := hide hbw
  have Xhev := hide hev
  clear hai hbw hev
  go_wp2_with fail
  go_ret2
  exact ⟨Xhbw.out, ev, D, Xhai.out, .inl ⟨Xhev.out, rfl⟩⟩
end Go.Proofs.YtlpokomfljmogaaGreat

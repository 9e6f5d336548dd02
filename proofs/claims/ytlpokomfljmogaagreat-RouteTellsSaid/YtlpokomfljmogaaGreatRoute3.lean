/- The least ways of a grammar's automaton: the program's walk. -/
import Derived.Test.YtlpokomfljmogaaGreatRoute1
import Derived.Test.YtlpokomfljmogaaGreatAuto15
import Derived.Test.YtlpokomfljmogaaGreatAuto21
import Derived.Lib.SliceRun
import Derived.Deep.Cut
import Derived.Deep.CutRange
namespace Go.Proofs.YtlpokomfljmogaaGreat
set_option linter.unusedVariables false
set_option linter.unusedSimpArgs false
open Go.RowKit
attribute [local irreducible] wpStill wpOne wpPh
theorem AutoIs.bld {G : GramD} {st ck : Int} {D : List (List It × List It)} (h : AutoIs G st ck 0 D) : ck = 0 ∧ ∃ L T, BldF G st L.length L T ∧ D = stD L T := by
 rcases h with ⟨h1, h2, -⟩ | ⟨-, -, h2, -⟩ | ⟨h0, L, T, h1, -, h2⟩
 ·exact absurd h2.symm h1
 ·exact absurd h2 (by decide)
 ·cases h1 with
  | ok _ _ hb => exact ⟨h0, L, T, hb.f, h2⟩
theorem AutoIs.nil {G : GramD} {st ck ev : Int} {D : List (List It × List It)} (h : AutoIs G st ck ev D) (he : ev ≠ 0) : D = [] := by
 rcases h with ⟨-, -, h⟩ | ⟨-, -, -, h⟩ | ⟨-, L, T, -, h, -⟩
 ·exact h
 ·exact h
 ·exact absurd h he
theorem BldF.at_ {G : GramD} {st : Int} {L T : List (List It)} (h : BldF G st L.length L T) {k : Nat} {d : List It × List It} (hd : (stD L T)[k]? = some d) : L[k]? = some d.1 ∧ T[k]? = some d.2 := by
 rw [stD_get] at hd
 obtain ⟨q, hq, rfl⟩ := Option.map_eq_some_iff.1 hd
 refine ⟨hq, ?_⟩
 have hk : k < T.length := by rw [h.len]; exact (List.getElem?_eq_some_iff.1 hq).1
 simp only [List.getElem?_eq_getElem hk, Option.getD_some]
theorem AutoIs.dw {G : GramD} {st ck : Int} {D : Sts} (h : AutoIs G st ck 0 D) : DW (topOf G) D := by
 obtain ⟨-, L, T, hb, rfl⟩ := h.bld
 have hl := (List.getElem?_eq_some_iff.1 hb.first).1
 refine ⟨by rw [stD_len]; exact hl, by rw [stD_len]; exact hb.small, fun i d hd s tt hm => ?_, fun i d hd => ?_, fun n h0 h1 => ?_⟩
 ·obtain ⟨e1, e2⟩ := hb.at_ hd
  obtain ⟨h1, h2, -, h4, h5⟩ := hb.mem i d.2 d.1 e2 e1 s tt hm
  exact ⟨h1, h2, tt.toNat, by omega, by rw [stD_len]; exact (List.getElem?_eq_some_iff.1 h5).1⟩
 ·exact hb.sort _ (List.mem_of_getElem? (hb.at_ hd).2)
 ·rw [stD_len] at h1
  obtain ⟨j, t, s, a, b, c, d⟩ := hb.early n h0 h1
  have hjl : j < L.length := by omega
  refine ⟨j, (L[j], t), s, a, ?_, d⟩
  rw [stD_get, List.getElem?_eq_getElem hjl, c]
  rfl
def WordsOf (G : GramD) (S : List FoundD) : Prop := Fixed G.rules (startW G.terms.length G.nons.length) S ∧ GoodS G.terms.length S ∧ S.length = G.terms.length + G.nons.length + 1
def LeastIn (G : GramD) (w : World) (e : Ending) (w' : World) : Prop := ∃ S pb, e = .returned (.pointer (some ⟨pb, 0, none⟩)) ∧ Below w.heap.size w w' ∧ WordsIn w' (fun q => w.heap.size ≤ q ∧ q < w'.heap.size) (.pointer (some ⟨pb, 0, none⟩)) S ∧ WordsOf G S
theorem LeastPost.in_ {G : GramD} {st : Int} {w w' : World} {e : Ending} (h : LeastPost G st w e w') (hc : checkOf G st = 0) : LeastIn G w e w' := by
 obtain ⟨hb, ⟨h1, -⟩ | ⟨-, S, b, g, rfl, h1, h2, h3, h4, h5, h6⟩⟩ := h
 ·exact absurd hc h1
 ·refine ⟨S, _, rfl, hb, ⟨b, g, _, rfl, h2, fun k hk => ⟨hk.1, hk.2.1⟩, ⟨h3, h2.blk.lt⟩, h4, ?_⟩, h1, h5, h6⟩
  obtain ⟨cells, hg, -⟩ := h2.row
  exact hg.lt
def Made16 (G : GramD) (wd : World) (Z n : Nat) (v : Value) (wx : World) : Prop := ∃ B R P z1 z2 pb S, v = .pointer (some ⟨B, 0, none⟩) ∧ Blk wx B 47 #[.pointer (some ⟨R, 0, none⟩)] ∧ Blk wx R 107 #[.slice (some ⟨P, 0, none⟩) n n, .pointer (some ⟨pb, 0, none⟩)] ∧ Blk wx P 51 (madeCells #[.slice none 0 0] n) ∧ WordsIn wx (fun q => z1 ≤ q ∧ q < z2) (.pointer (some ⟨pb, 0, none⟩)) S ∧ WordsOf G S ∧ Z ≤ P ∧ (B ≠ P ∧ R ≠ P) ∧ (∀ q, z1 ≤ q ∧ q < z2 → q ≠ P) ∧ z2 ≤ wx.heap.size ∧ Below Z wd wx
theorem Tryz.infoInts2 : (Tryz.prog.info? 51).map (fun i => (i.zero, i.size, i.bytes)) = some (some (.slice none 0 0), 1, 24) := by kernel_rfl
theorem make_ways (n : Nat) (hn : n ≤ 65536) (w : World) : (Instr.makeSlice 103 (.int .i64 (n : Int)) (.int .i64 (n : Int))).run Tryz.prog w = .ok (.slice (some ⟨w.heap.size, 0, none⟩) n n) (w.alloc (.cells (madeCells #[.slice none 0 0] n) 51)) :=
 run_make_row' _ _ _ 24 Tryz.underlying103 Tryz.infoInts2 rfl .i64 .i64 n (by omega) (by omega) w
structure ES (w : World) (F : Nat → Prop) (v1 v2 v3 : Value) (st : Int) (G : GramD) (v : Value) (D : Sts) (wr : World) : Prop where
 g : IsGram wr F v1 v2 v3 G
 k : Blk wr w.heap.size 25 #[v1, v2, v3, .int .i64 st]
 rd : RdSt wr (fun b => b < wr.heap.size) v D
 le : Below w.heap.size w wr
theorem ES.next {w : World} {F : Nat → Prop} {v1 v2 v3 : Value} {st : Int} {G : GramD} {v : Value} {D : Sts} {wr wq : World} (h : ES w F v1 v2 v3 st G v D wr) (b : Below wr.heap.size wr wq) : ES w F v1 v2 v3 st G v D wq :=
 ⟨h.g.below b, h.k.below b h.k.lt, (h.rd.below b (fun b hb => hb)).mono (fun z hz => Nat.lt_of_lt_of_le hz b.size), h.le.trans (b.mono h.le.size)⟩
theorem ES.cells {w : World} {F : Nat → Prop} {v1 v2 v3 : Value} {st : Int} {G : GramD} {v : Value} {D : Sts} {wr : World} (h : ES w F v1 v2 v3 st G v D wr) : wr.cell? ⟨w.heap.size, 0, none⟩ = some v1 ∧ wr.cell? ⟨w.heap.size, 1, none⟩ = some v2 ∧ wr.cell? ⟨w.heap.size, 2, none⟩ = some v3 ∧ wr.cell? ⟨w.heap.size, 3, none⟩ = some (.int .i64 st) :=
 ⟨(h.k.cell 0).trans rfl, (h.k.cell 1).trans rfl, (h.k.cell 2).trans rfl, (h.k.cell 3).trans rfl⟩
theorem set_start (n : Nat) (h : 0 < n) (x : List Int) : (List.replicate n (none : Option (List Int))).set 0 (some x) = some x :: List.replicate (n - 1) none := by
 obtain ⟨m, rfl⟩ : ∃ m, n = m + 1 := ⟨n - 1, by omega⟩
 simp [List.replicate_succ]
theorem WaysW.made {V : World} {F : Nat → Prop} {P n : Nat} (k : Blk V P 51 (madeCells #[.slice none 0 0] n)) : WaysW V F P n (List.replicate n none) := by
 refine ⟨by simp, fun i hi => ?_, fun i l hi => ?_, fun i _ => k.frozen i, k.lt⟩
 ·have hin : i < n := by simpa using (List.getElem?_eq_some_iff.1 hi).1
  exact (k.cell i).trans (made_item _ n i hin)
 ·rw [List.getElem?_replicate] at hi
  split at hi <;> simp at hi
structure LW (w3 : World) (Z : Nat) (B R P n : Nat) (pw : Value) (S : List FoundD) (W : Wos) (F : Nat → Prop) (wr : World) : Prop where
 rc : RC wr F B R P n pw S W
 bz : Below Z w3 wr
 hp : Z ≤ P
structure IL (T : Nat) (D : Sts) (d : Nat) (now : List Int) (lo : Nat) (w3 : World) (Z B R P n : Nat) (pw : Value) (S : List FoundD) (vnow : Value) (W : Wos) (Fr : Nat → Prop) (next : List Int) (v : Value) (m p k : Nat) (wr : World) : Prop where
 len : m = next.length
 own : wr.ownsRow lo 3 1 v m (next.map (Value.int .i64))
 inw : InW T D W d now next p k
 rc : RC wr Fr B R P n pw S W
 bz : Below Z w3 wr
 rn : RdI wr (fun b => b < lo ∧ b ≠ P) vnow now
 lo_ : lo ≤ wr.heap.size
 ap : ∀ b, Fr b → ¬ v.ownBlock = some b
theorem own_touch' {w w' : World} {S' : Nat → Prop} {base : Nat} {e : TypeId} {size n : Nat} {v : Value} {xs : List Value} (h : w.ownsRow base e size v n xs) (t : Touch S' w w') (hv : ∀ g, v.ownBlock = some g → ¬ S' g) : w'.ownsRow base e size v n xs := by
 refine ⟨h.1, ?_⟩
 rcases h.2 with h2 | ⟨g, cap, cur, rfl, hb, hh, hr⟩
 ·exact .inl h2
 ·exact .inr ⟨g, cap, cur, rfl, hb, (t.block g (Array.getElem?_eq_some_iff.1 hh).1 (hv g rfl)).trans hh, hr⟩
section
variable {T : Nat} {D : Sts} {d : Nat} {now : List Int} {lo : Nat} {w3 : World} {Z B R P n : Nat} {pw : Value} {S : List FoundD} {vnow : Value} {W : Wos} {Fr : Nat → Prop} {next : List Int} {v : Value} {m p k : Nat} {wr wq : World}
theorem IL.below (h : IL T D d now lo w3 Z B R P n pw S vnow W Fr next v m p k wr) (hZ : Z ≤ wr.heap.size) (b : Below wr.heap.size wr wq) : IL T D d now lo w3 Z B R P n pw S vnow W Fr next v m p k wq :=
 ⟨h.len, own_touch' h.own (Touch.of_size b (fun _ => False)) (fun _ _ h => h), h.inw, h.rc.below b, h.bz.trans (b.mono hZ), h.rn.below b (fun z hz => Nat.lt_of_lt_of_le hz.1 h.lo_), Nat.le_trans h.lo_ b.size, h.ap⟩
theorem IL.zle (h : IL T D d now lo w3 Z B R P n pw S vnow W Fr next v m p k wr) (hZ : Z = w3.heap.size) : Z ≤ wr.heap.size := by rw [hZ]; exact h.bz.size
end
theorem eql_nil_no (a : Addr) (n c : Nat) (w : World) : Sem.run Tryz.prog (binOp .eql 51 (.slice (some a) n c) (.slice none 0 0)) w = .ok (.bool false) w := by
 have := Lib.run_eql_slice_nil (P := Tryz.prog) w 51 3 (some a) n c 0 0 Tryz.underlying51
 simpa using this
theorem eql_nil_yes (w : World) : Sem.run Tryz.prog (binOp .eql 51 (.slice none 0 0) (.slice none 0 0)) w = .ok (.bool true) w := by
 have := Lib.run_eql_slice_nil (P := Tryz.prog) w 51 3 none 0 0 0 0 Tryz.underlying51
 simpa using this
def RoutesIn (V : World) (R : Nat) (S : List FoundD) (L : List (List Int)) : Prop := ∃ F B P n pw, RC V F B R P n pw S (L.map some) ∧ n ≤ 2000 ∧ L.length = n ∧ ∀ l ∈ L, l.length ≤ 2000
def RoutePost (G : GramD) (st ck : Int) (w : World) (e : Ending) (w' : World) : Prop := Below w.heap.size w w' ∧ ∃ ev D, AutoIs G st ck ev D ∧ ((ev ≠ 0 ∧ e = .returned (.tuple #[.pointer none, .int .i64 ev])) ∨ (ev = 0 ∧ ∃ R S L, e = .returned (.tuple #[.pointer (some ⟨R, 0, none⟩), .int .i64 0]) ∧ WordsOf G S ∧ FamW (topOf G) D L ∧ RoutesIn w' R S L))
set_option maxRecDepth 100000 in
set_option maxHeartbeats 8000000 in
theorem route_Of {w : World} {F : Nat → Prop} {vt vn vr : Value} {G : GramD} (h : IsGram w F vt vn vr G) (st : Int) :
  Calls Tryz.prog 33 #[GV vt vn vr st] w (RoutePost G st (checkOf G st) w) := by
 obtain ⟨w1, hw1⟩ : ∃ w1, w1 = w.alloc (.cells #[vt, vn, vr, .int .i64 st] 25) := ⟨_, rfl⟩
 have b1 : Below w.heap.size w w1 := by rw [hw1]; exact (Below.refl _ w).alloc (Nat.le_refl _) _
 have k1 : Blk w1 w.heap.size 25 #[vt, vn, vr, .int .i64 st] := by rw [hw1]; exact Blk.new _ _ _
 have g1 := h.below b1
 have cb := auto_build g1 g1.lt st
 have cl := fun wr (g : IsGram wr F vt vn vr G) => least_of g st
 have hck : ∀ D, AutoIs G st (checkOf G st) 0 D → checkOf G st = 0 := fun D h => h.bld.1
 obtain ⟨ck, eck⟩ : ∃ q, q = checkOf G st := ⟨_, rfl⟩
 rw [← eck] at cb hck ⊢
 have q0 := (k1.cell 0).trans rfl
 have q1 := (k1.cell 1).trans rfl
 have q2 := (k1.cell 2).trans rfl
 have q3 := (k1.cell 3).trans rfl
 rw [hw1] at q0 q1 q2 q3
 clear h
 have Xcb := hide cb
 have Xcl := hide cl
 have Xg1 := hide g1
 have Xb1 := hide b1
 have Xk1 := hide k1
 have Xhck := hide hck
 have Xeck := hide eck
 clear cb cl g1 b1 k1 hck eck
 go_enter Tryz.func33, Tryz.ntmps33
 go_wp2_with fail
 rw [← hw1]
 refine Xcb.out.mono ?_
 rintro e w3 hp
 obtain ⟨b3, A, n, c, ev, D, rfl, rd3, hai⟩ := hp.flat
 have hs1 : w.heap.size ≤ w1.heap.size := Xb1.out.size
 have t : ES w F vt vn vr st G (.slice A n c) D w3 := ⟨Xg1.out.below b3, Xk1.out.below b3 Xk1.out.lt, rd3.mono (fun b hb => hb.2), Xb1.out.trans (b3.mono Xb1.out.size)⟩
 clear q0 q1 q2 q3 hw1 hp Xcb Xg1 Xb1 Xk1 b3 rd3 hs1
 by_cases hev : ev = 0
 ·subst hev
  have hc0 := Xhck.out _ hai
  have hD := hai.dw
  obtain ⟨hn, hnc, hcm, hcell⟩ := t.rd.at_
  unfold maxLen at hcm
  have hn0 : 0 < n := by rw [hn]; exact hD.pos
  have hn2 : n ≤ 2000 := by rw [hn]; exact hD.small
  obtain ⟨bS, oS, rfl, -, -⟩ := hcell hn0
  have hmk := make_ways n (by omega)
  obtain ⟨q0, q1, q2, q3⟩ := t.cells
  clear hcell
  obtain ⟨Z, hZ⟩ : ∃ q, q = w3.heap.size := ⟨_, rfl⟩
  have Xt := hide t
  have Xhai := hide hai
  have XhD := hide hD
  have Xhn := hide hn
  have Xhc0 := hide hc0
  have XhZ := hide hZ
  clear t hai hD hn hc0 hZ
  go_wp2_with fail
  go_cut [6] from 28 to 92 (fun v wx => Made16 G w3 Z n v wx)
  case first =>
   refine wp_region_held_drew (S := (fun W => W.cell? ⟨w.heap.size, 0, none⟩ = some vt ∧ W.cell? ⟨w.heap.size, 1, none⟩ = some vn ∧ W.cell? ⟨w.heap.size, 2, none⟩ = some vr ∧ W.cell? ⟨w.heap.size, 3, none⟩ = some (.int .i64 st))) (by kernel_rfl) ?_ (fun hHeld => ?_)
   ·exact ⟨q0, q1, q2, q3⟩
   have dr := (Below.refl w3.heap.size w3).drew
   have td := Xt.out.next dr
   have hZ := XhZ.out
   have hZl : Z ≤ w3.drew.heap.size := by rw [hZ]; exact dr.size
   have hZe : w3.drew.heap.size = Z := by rw [hZ]; rfl
   have bk : Below Z w3 w3.drew := by rw [hZ]; exact dr
   have hS : ∀ W, Below Z w3 W → W.cell? ⟨w.heap.size, 0, none⟩ = some vt ∧ W.cell? ⟨w.heap.size, 1, none⟩ = some vn ∧ W.cell? ⟨w.heap.size, 2, none⟩ = some vr ∧ W.cell? ⟨w.heap.size, 3, none⟩ = some (.int .i64 st) := fun W hb => by
    rw [hZ] at hb
    exact (Xt.out.next hb).cells
   have cls : ∀ wr, Below Z w3 wr → Calls Tryz.prog 76 #[GV vt vn vr st] wr (LeastIn G wr) := fun wr hb => by
    rw [hZ] at hb
    exact (Xcl.out wr (Xt.out.next hb).g).mono fun e w' hl => hl.in_ (by rw [← Xeck.out]; exact Xhc0.out)
   clear q0 q1 q2 q3 dr td hZe Xcl
   have Xcl := hide cls
   clear cls hZ
   generalize w3.drew = wd at *
   have Xbk := hide bk
   have XhZl := hide hZl
   have XhS := hide hS
   clear bk hZl hS
   refine tk (i := 0) (oi := ?_) (v := ?_) ?_ (by kernel_rfl) ?_ (Or.inl ⟨?_, ?_⟩) (by assumption) ?_; rotate_left 2; (focus ((try simp only [gT, gs, gz]); try rfl)); exact fun _ _ _ h => h; rfl; (focus (intro wS hwS; (try dsimp only at hwS); go_simp; all_goals with_reducible rfl)); try simp only [Act.put, sT, s0, s1]
   refine tk (i := 1) (oi := ?_) (v := ?_) ?_ (by kernel_rfl) ?_ (Or.inl ⟨?_, ?_⟩) (by assumption) ?_; rotate_left 2; (focus ((try simp only [gT, gs, gz]); try rfl)); exact fun _ _ _ h => h; rfl; (focus (intro wS hwS; (try dsimp only at hwS); go_simp; all_goals with_reducible rfl)); try simp only [Act.put, sT, s0, s1]
   refine tk (i := 3) (oi := ?_) (v := ?_) ?_ (by kernel_rfl) ?_ (Or.inl ⟨?_, ?_⟩) (by assumption) ?_; rotate_left 2; (focus ((try simp only [gT, gs, gz]); try rfl)); exact fun _ _ _ h => h; rfl; (focus (intro wS hwS; (try dsimp only at hwS); go_simp; all_goals with_reducible rfl)); try simp only [Act.put, sT, s0, s1]
   refine wpAnyH_ready (rs := [2, 4, 7]) (by kernel_rfl) (by simp) ?_
   refine AllReadyH.cons (o := ?_) ?_ (fun K hK => ?_) ?_; rotate_left 1; (focus ((try simp only [gT, gs, gz]); try rfl))
   ·skip
    go_simp
    have al : Below wd.heap.size wd (wd.alloc (.cells (madeCells #[.slice none 0 0] n) 51)) := (Below.refl _ wd).alloc (Nat.le_refl _) _
    have kP : Blk (wd.alloc (.cells (madeCells #[.slice none 0 0] n) 51)) wd.heap.size 51 (madeCells #[.slice none 0 0] n) := Blk.new _ _ _
    have hnew : Z ≤ wd.heap.size := XhZl.out
    have bk := Xbk.out.trans (al.mono XhZl.out)
    have hZl := Nat.le_trans XhZl.out al.size
    have hP : Z ≤ wd.heap.size := hnew
    have kPlt : wd.heap.size < (wd.alloc (.cells (madeCells #[.slice none 0 0] n) 51)).heap.size := kP.lt
    clear al hnew
    have XkP := hide kP
    have XkPlt := hide kPlt
    have XhP := hide hP
    clear kP kPlt hP
    generalize wd.heap.size = P at *
    generalize wd.alloc (.cells (madeCells #[.slice none 0 0] n) 51) = w21 at *
    clear Xbk XhZl
    have Xbk := hide bk
    have XhZl := hide hZl
    clear bk hZl
    refine hK.out _ _ ?_ (fun hHeld => ?_)
    ·exact XhS.out _ Xbk.out
    clear hK K
    try simp only [Act.put, sT, s0, s1]
    refine wpAnyH_ready (rs := [4, 7]) (by kernel_rfl) (by simp) ?_
    refine AllReadyH.cons (o := ?_) ?_ (fun K hK => ?_) ?_; rotate_left 1; (focus ((try simp only [gT, gs, gz]); try rfl))
    ·skip
     go_simp
     go_at_call 76
     refine (Xcl.out w21 Xbk.out).mono ?_
     rintro e w22 ⟨S, pb, rfl, al, ws, hfs⟩
     have kP := XkP.out.below al XkP.out.lt
     have kPlt := kP.lt
     have bk := Xbk.out.trans (al.mono XhZl.out)
     have hZl := Nat.le_trans XhZl.out al.size
     obtain ⟨z1, hz1⟩ : ∃ q, q = w21.heap.size := ⟨_, rfl⟩
     obtain ⟨z2, hz2⟩ : ∃ q, q = w22.heap.size := ⟨_, rfl⟩
     have hzz : z1 ≤ z2 ∧ z2 ≤ w22.heap.size := ⟨by rw [hz1, hz2]; exact al.size, Nat.le_of_eq hz2⟩
     have dPW : ∀ q, z1 ≤ q ∧ q < z2 → q ≠ P := fun q hq e => by have := XkPlt.out; omega
     rw [← hz1, ← hz2] at ws
     clear hz1 hz2 al
     have Xws := hide ws
     have Xhfs := hide hfs
     have Xhzz := hide hzz
     have XdPW := hide dPW
     clear ws hfs hzz dPW
     clear XkP XkPlt
     clear Xbk XhZl
     have XkP := hide kP
     have XkPlt := hide kPlt
     have Xbk := hide bk
     have XhZl := hide hZl
     clear kP kPlt bk hZl
     refine hK.out _ _ ?_ (fun hHeld => ?_)
     ·exact XhS.out _ Xbk.out
     clear hK K
     try simp only [Act.put, sT, s0, s1]
     refine tk (i := 5) (oi := ?_) (v := ?_) ?_ (by kernel_rfl) ?_ (Or.inl ⟨?_, ?_⟩) (by assumption) ?_; rotate_left 2; (focus ((try simp only [gT, gs, gz]); try rfl)); exact fun _ _ _ h => h; rfl; (focus (intro wS hwS; (try dsimp only at hwS); go_simp; all_goals with_reducible rfl)); try simp only [Act.put, sT, s0, s1]
     refine wpAnyH_ready (rs := [6, 7]) (by kernel_rfl) (by simp) ?_
     refine AllReadyH.cons (o := ?_) ?_ (fun K hK => ?_) ?_; rotate_left 1; (focus ((try simp only [gT, gs, gz]); try rfl))
     ·skip
      go_simp
      have al : Below w22.heap.size w22 (w22.alloc (.cells #[.slice (some ⟨P, 0, none⟩) n n, .pointer (some ⟨pb, 0, none⟩)] 107)) := (Below.refl _ w22).alloc (Nat.le_refl _) _
      have kR : Blk (w22.alloc (.cells #[.slice (some ⟨P, 0, none⟩) n n, .pointer (some ⟨pb, 0, none⟩)] 107)) w22.heap.size 107 #[.slice (some ⟨P, 0, none⟩) n n, .pointer (some ⟨pb, 0, none⟩)] := Blk.new _ _ _
      have hnew : Z ≤ w22.heap.size := XhZl.out
      have dPR : P ≠ w22.heap.size := fun e => by have := XkPlt.out; omega
      have hzz : z1 ≤ z2 ∧ z2 ≤ (w22.alloc (.cells #[.slice (some ⟨P, 0, none⟩) n n, .pointer (some ⟨pb, 0, none⟩)] 107)).heap.size := ⟨Xhzz.out.1, Nat.le_trans Xhzz.out.2 al.size⟩
      have kP := XkP.out.below al XkP.out.lt
      have kPlt := kP.lt
      have ws := Xws.out.touch (Touch.of_size al (fun _ => False)) (fun _ _ h => h)
      have bk := Xbk.out.trans (al.mono XhZl.out)
      have hZl := Nat.le_trans XhZl.out al.size
      have kRlt : w22.heap.size < (w22.alloc (.cells #[.slice (some ⟨P, 0, none⟩) n n, .pointer (some ⟨pb, 0, none⟩)] 107)).heap.size := kR.lt
      clear Xhzz
      clear al hnew
      have XkR := hide kR
      have XkRlt := hide kRlt
      have XdPR := hide dPR
      have Xhzz := hide hzz
      clear kR kRlt dPR hzz
      generalize w22.heap.size = Rq at *
      generalize w22.alloc (.cells #[.slice (some ⟨P, 0, none⟩) n n, .pointer (some ⟨pb, 0, none⟩)] 107) = w23 at *
      clear XkP XkPlt
      clear Xws
      clear Xbk XhZl
      have XkP := hide kP
      have XkPlt := hide kPlt
      have Xws := hide ws
      have Xbk := hide bk
      have XhZl := hide hZl
      clear kP kPlt ws bk hZl
      refine hK.out _ _ ?_ (fun hHeld => ?_)
      ·exact XhS.out _ Xbk.out
      clear hK K
      try simp only [Act.put, sT, s0, s1]
      refine wpAnyH_ready (rs := [7]) (by kernel_rfl) (by simp) ?_
      refine AllReadyH.cons (o := ?_) ?_ (fun K hK => ?_) ?_; rotate_left 1; (focus ((try simp only [gT, gs, gz]); try rfl))
      ·skip
       go_simp
       have al : Below w23.heap.size w23 (w23.alloc (.cells #[.pointer none] 47)) := (Below.refl _ w23).alloc (Nat.le_refl _) _
       have kB : Blk (w23.alloc (.cells #[.pointer none] 47)) w23.heap.size 47 #[.pointer none] := Blk.new _ _ _
       have hnew : Z ≤ w23.heap.size := XhZl.out
       have dPB : P ≠ w23.heap.size := fun e => by have := XkPlt.out; omega
       have dBR : w23.heap.size ≠ Rq := fun e => by have := XkRlt.out; omega
       have dBW : w23.heap.size < z1 ∨ z2 ≤ w23.heap.size := .inr Xhzz.out.2
       have hzz : z1 ≤ z2 ∧ z2 ≤ (w23.alloc (.cells #[.pointer none] 47)).heap.size := ⟨Xhzz.out.1, Nat.le_trans Xhzz.out.2 al.size⟩
       have kP := XkP.out.below al XkP.out.lt
       have kPlt := kP.lt
       have kR := XkR.out.below al XkR.out.lt
       have kRlt := kR.lt
       have ws := Xws.out.touch (Touch.of_size al (fun _ => False)) (fun _ _ h => h)
       have bk := Xbk.out.trans (al.mono XhZl.out)
       have hZl := Nat.le_trans XhZl.out al.size
       have hBd : Z ≤ w23.heap.size := hnew
       have kBlt : w23.heap.size < (w23.alloc (.cells #[.pointer none] 47)).heap.size := kB.lt
       clear Xhzz
       clear al hnew
       have XkB := hide kB
       have XkBlt := hide kBlt
       have XdPB := hide dPB
       have XdBR := hide dBR
       have XdBW := hide dBW
       have XhBd := hide hBd
       have Xhzz := hide hzz
       clear kB kBlt dPB dBR dBW hBd hzz
       generalize w23.heap.size = Bq at *
       generalize w23.alloc (.cells #[.pointer none] 47) = w24 at *
       clear XkP XkPlt
       clear XkR XkRlt
       clear Xws
       clear Xbk XhZl
       have XkP := hide kP
       have XkPlt := hide kPlt
       have XkR := hide kR
       have XkRlt := hide kRlt
       have Xws := hide ws
       have Xbk := hide bk
       have XhZl := hide hZl
       clear kP kPlt kR kRlt ws bk hZl
       refine hK.out _ _ ?_ (fun hHeld => ?_)
       ·exact XhS.out _ Xbk.out
       clear hK K
       try simp only [Act.put, sT, s0, s1]
       have c0 := (XkB.out.cell 0).trans rfl
       have z0 := XkB.out.frozen 0
       have tk : Touch (fun b => b = Bq) w24 (w24.setCell ⟨Bq, 0, none⟩ (.pointer (some ⟨Rq, 0, none⟩))) := (Touch.refl (fun b => b = Bq) _).setCell (p := ⟨Bq, 0, none⟩) (fun _ => rfl) _
       have kB2 := XkB.out.put 0 (.pointer (some ⟨Rq, 0, none⟩))
       have kP2 := XkP.out.touch tk (fun e => by have := XdPB.out; omega)
       have kR2 := XkR.out.touch tk (fun e => by have := XdBR.out; omega)
       have ws2 := Xws.out.touch tk (fun q hq e => by have h1 := XdBW.out; have h2 := hq.1; have h3 := hq.2; have h4 := Xhzz.out; omega)
       have bk2 := Xbk.out.setCell (p := ⟨Bq, 0, none⟩) XhBd.out (.pointer (some ⟨Rq, 0, none⟩))
       have hz2 : z2 ≤ (w24.setCell ⟨Bq, 0, none⟩ (.pointer (some ⟨Rq, 0, none⟩))).heap.size := by rw [setCell_size']; exact Xhzz.out.2
       have XkB2 := hide kB2
       have XkP2 := hide kP2
       have XkR2 := hide kR2
       have Xws2 := hide ws2
       have Xbk2 := hide bk2
       have Xhz2 := hide hz2
       clear kB2 kP2 kR2 ws2 bk2 hz2
       clear Xbk XkP XkB XkR Xws
       refine wpAnyH_ready (rs := [8]) (by kernel_rfl) (by simp) ?_
       refine AllReadyH.cons (o := ?_) ?_ (fun K hK => ?_) AllReadyH.nil; rotate_left 1; (focus ((try simp only [gT, gs, gz]); try rfl))
       go_simp
       refine hK.out _ _ ?_ (fun hHeld => ?_)
       ·exact XhS.out _ Xbk2.out
       clear hK K
       try simp only [Act.put, sT, s0, s1]
       refine wpAnyH_done (by kernel_rfl) ?_ _
       go_wp2_with fail
       go_meet
       exact ⟨Bq, Rq, P, z1, z2, pb, S, rfl, XkB2.out, XkR2.out, XkP2.out, Xws2.out, Xhfs.out, XhP.out, ⟨by have := XdPB.out; omega, by have := XdPR.out; omega⟩, XdPW.out, Xhz2.out, Xbk2.out⟩
      ·exact AllReadyH.nil
     ·skip
      refine AllReadyH.cons (o := ?_) ?_ (fun K hK => ?_) ?_; rotate_left 1; (focus ((try simp only [gT, gs, gz]); try rfl))
      ·skip
       go_simp
       have al : Below w22.heap.size w22 (w22.alloc (.cells #[.pointer none] 47)) := (Below.refl _ w22).alloc (Nat.le_refl _) _
       have kB : Blk (w22.alloc (.cells #[.pointer none] 47)) w22.heap.size 47 #[.pointer none] := Blk.new _ _ _
       have hnew : Z ≤ w22.heap.size := XhZl.out
       have dPB : P ≠ w22.heap.size := fun e => by have := XkPlt.out; omega
       have dBW : w22.heap.size < z1 ∨ z2 ≤ w22.heap.size := .inr Xhzz.out.2
       have hzz : z1 ≤ z2 ∧ z2 ≤ (w22.alloc (.cells #[.pointer none] 47)).heap.size := ⟨Xhzz.out.1, Nat.le_trans Xhzz.out.2 al.size⟩
       have kP := XkP.out.below al XkP.out.lt
       have kPlt := kP.lt
       have ws := Xws.out.touch (Touch.of_size al (fun _ => False)) (fun _ _ h => h)
       have bk := Xbk.out.trans (al.mono XhZl.out)
       have hZl := Nat.le_trans XhZl.out al.size
       have hBd : Z ≤ w22.heap.size := hnew
       have kBlt : w22.heap.size < (w22.alloc (.cells #[.pointer none] 47)).heap.size := kB.lt
       clear Xhzz
       clear al hnew
       have XkB := hide kB
       have XkBlt := hide kBlt
       have XdPB := hide dPB
       have XdBW := hide dBW
       have XhBd := hide hBd
       have Xhzz := hide hzz
       clear kB kBlt dPB dBW hBd hzz
       generalize w22.heap.size = Bq at *
       generalize w22.alloc (.cells #[.pointer none] 47) = w25 at *
       clear XkP XkPlt
       clear Xws
       clear Xbk XhZl
       have XkP := hide kP
       have XkPlt := hide kPlt
       have Xws := hide ws
       have Xbk := hide bk
       have XhZl := hide hZl
       clear kP kPlt ws bk hZl
       refine hK.out _ _ ?_ (fun hHeld => ?_)
       ·exact XhS.out _ Xbk.out
       clear hK K
       try simp only [Act.put, sT, s0, s1]
       refine wpAnyH_ready (rs := [6]) (by kernel_rfl) (by simp) ?_
       refine AllReadyH.cons (o := ?_) ?_ (fun K hK => ?_) ?_; rotate_left 1; (focus ((try simp only [gT, gs, gz]); try rfl))
       ·skip
        go_simp
        have al : Below w25.heap.size w25 (w25.alloc (.cells #[.slice (some ⟨P, 0, none⟩) n n, .pointer (some ⟨pb, 0, none⟩)] 107)) := (Below.refl _ w25).alloc (Nat.le_refl _) _
        have kR : Blk (w25.alloc (.cells #[.slice (some ⟨P, 0, none⟩) n n, .pointer (some ⟨pb, 0, none⟩)] 107)) w25.heap.size 107 #[.slice (some ⟨P, 0, none⟩) n n, .pointer (some ⟨pb, 0, none⟩)] := Blk.new _ _ _
        have hnew : Z ≤ w25.heap.size := XhZl.out
        have dPR : P ≠ w25.heap.size := fun e => by have := XkPlt.out; omega
        have dBR : Bq ≠ w25.heap.size := fun e => by have := XkBlt.out; omega
        have hzz : z1 ≤ z2 ∧ z2 ≤ (w25.alloc (.cells #[.slice (some ⟨P, 0, none⟩) n n, .pointer (some ⟨pb, 0, none⟩)] 107)).heap.size := ⟨Xhzz.out.1, Nat.le_trans Xhzz.out.2 al.size⟩
        have kP := XkP.out.below al XkP.out.lt
        have kPlt := kP.lt
        have kB := XkB.out.below al XkB.out.lt
        have kBlt := kB.lt
        have ws := Xws.out.touch (Touch.of_size al (fun _ => False)) (fun _ _ h => h)
        have bk := Xbk.out.trans (al.mono XhZl.out)
        have hZl := Nat.le_trans XhZl.out al.size
        have kRlt : w25.heap.size < (w25.alloc (.cells #[.slice (some ⟨P, 0, none⟩) n n, .pointer (some ⟨pb, 0, none⟩)] 107)).heap.size := kR.lt
        clear Xhzz
        clear al hnew
        have XkR := hide kR
        have XkRlt := hide kRlt
        have XdPR := hide dPR
        have XdBR := hide dBR
        have Xhzz := hide hzz
        clear kR kRlt dPR dBR hzz
        generalize w25.heap.size = Rq at *
        generalize w25.alloc (.cells #[.slice (some ⟨P, 0, none⟩) n n, .pointer (some ⟨pb, 0, none⟩)] 107) = w26 at *
        clear XkP XkPlt
        clear XkB XkBlt
        clear Xws
        clear Xbk XhZl
        have XkP := hide kP
        have XkPlt := hide kPlt
        have XkB := hide kB
        have XkBlt := hide kBlt
        have Xws := hide ws
        have Xbk := hide bk
        have XhZl := hide hZl
        clear kP kPlt kB kBlt ws bk hZl
        refine hK.out _ _ ?_ (fun hHeld => ?_)
        ·exact XhS.out _ Xbk.out
        clear hK K
        try simp only [Act.put, sT, s0, s1]
        have c0 := (XkB.out.cell 0).trans rfl
        have z0 := XkB.out.frozen 0
        have tk : Touch (fun b => b = Bq) w26 (w26.setCell ⟨Bq, 0, none⟩ (.pointer (some ⟨Rq, 0, none⟩))) := (Touch.refl (fun b => b = Bq) _).setCell (p := ⟨Bq, 0, none⟩) (fun _ => rfl) _
        have kB2 := XkB.out.put 0 (.pointer (some ⟨Rq, 0, none⟩))
        have kP2 := XkP.out.touch tk (fun e => by have := XdPB.out; omega)
        have kR2 := XkR.out.touch tk (fun e => by have := XdBR.out; omega)
        have ws2 := Xws.out.touch tk (fun q hq e => by have h1 := XdBW.out; have h2 := hq.1; have h3 := hq.2; have h4 := Xhzz.out; omega)
        have bk2 := Xbk.out.setCell (p := ⟨Bq, 0, none⟩) XhBd.out (.pointer (some ⟨Rq, 0, none⟩))
        have hz2 : z2 ≤ (w26.setCell ⟨Bq, 0, none⟩ (.pointer (some ⟨Rq, 0, none⟩))).heap.size := by rw [setCell_size']; exact Xhzz.out.2
        have XkB2 := hide kB2
        have XkP2 := hide kP2
        have XkR2 := hide kR2
        have Xws2 := hide ws2
        have Xbk2 := hide bk2
        have Xhz2 := hide hz2
        clear kB2 kP2 kR2 ws2 bk2 hz2
        clear Xbk XkP XkB XkR Xws
        refine wpAnyH_ready (rs := [8]) (by kernel_rfl) (by simp) ?_
        refine AllReadyH.cons (o := ?_) ?_ (fun K hK => ?_) AllReadyH.nil; rotate_left 1; (focus ((try simp only [gT, gs, gz]); try rfl))
        go_simp
        refine hK.out _ _ ?_ (fun hHeld => ?_)
        ·exact XhS.out _ Xbk2.out
        clear hK K
        try simp only [Act.put, sT, s0, s1]
        refine wpAnyH_done (by kernel_rfl) ?_ _
        go_wp2_with fail
        go_meet
        exact ⟨Bq, Rq, P, z1, z2, pb, S, rfl, XkB2.out, XkR2.out, XkP2.out, Xws2.out, Xhfs.out, XhP.out, ⟨by have := XdPB.out; omega, by have := XdPR.out; omega⟩, XdPW.out, Xhz2.out, Xbk2.out⟩
       ·exact AllReadyH.nil
      ·exact AllReadyH.nil
    ·skip
     refine AllReadyH.cons (o := ?_) ?_ (fun K hK => ?_) ?_; rotate_left 1; (focus ((try simp only [gT, gs, gz]); try rfl))
     ·skip
      go_simp
      have al : Below w21.heap.size w21 (w21.alloc (.cells #[.pointer none] 47)) := (Below.refl _ w21).alloc (Nat.le_refl _) _
      have kB : Blk (w21.alloc (.cells #[.pointer none] 47)) w21.heap.size 47 #[.pointer none] := Blk.new _ _ _
      have hnew : Z ≤ w21.heap.size := XhZl.out
      have dPB : P ≠ w21.heap.size := fun e => by have := XkPlt.out; omega
      have kP := XkP.out.below al XkP.out.lt
      have kPlt := kP.lt
      have bk := Xbk.out.trans (al.mono XhZl.out)
      have hZl := Nat.le_trans XhZl.out al.size
      have hBd : Z ≤ w21.heap.size := hnew
      have kBlt : w21.heap.size < (w21.alloc (.cells #[.pointer none] 47)).heap.size := kB.lt
      clear al hnew
      have XkB := hide kB
      have XkBlt := hide kBlt
      have XdPB := hide dPB
      have XhBd := hide hBd
      clear kB kBlt dPB hBd
      generalize w21.heap.size = Bq at *
      generalize w21.alloc (.cells #[.pointer none] 47) = w27 at *
      clear XkP XkPlt
      clear Xbk XhZl
      have XkP := hide kP
      have XkPlt := hide kPlt
      have Xbk := hide bk
      have XhZl := hide hZl
      clear kP kPlt bk hZl
      refine hK.out _ _ ?_ (fun hHeld => ?_)
      ·exact XhS.out _ Xbk.out
      clear hK K
      try simp only [Act.put, sT, s0, s1]
      refine wpAnyH_ready (rs := [4]) (by kernel_rfl) (by simp) ?_
      refine AllReadyH.cons (o := ?_) ?_ (fun K hK => ?_) ?_; rotate_left 1; (focus ((try simp only [gT, gs, gz]); try rfl))
      ·skip
       go_simp
       go_at_call 76
       refine (Xcl.out w27 Xbk.out).mono ?_
       rintro e w28 ⟨S, pb, rfl, al, ws, hfs⟩
       have kP := XkP.out.below al XkP.out.lt
       have kPlt := kP.lt
       have kB := XkB.out.below al XkB.out.lt
       have kBlt := kB.lt
       have bk := Xbk.out.trans (al.mono XhZl.out)
       have hZl := Nat.le_trans XhZl.out al.size
       obtain ⟨z1, hz1⟩ : ∃ q, q = w27.heap.size := ⟨_, rfl⟩
       obtain ⟨z2, hz2⟩ : ∃ q, q = w28.heap.size := ⟨_, rfl⟩
       have hzz : z1 ≤ z2 ∧ z2 ≤ w28.heap.size := ⟨by rw [hz1, hz2]; exact al.size, Nat.le_of_eq hz2⟩
       have dPW : ∀ q, z1 ≤ q ∧ q < z2 → q ≠ P := fun q hq e => by have := XkPlt.out; omega
       have dBW : Bq < z1 ∨ z2 ≤ Bq := .inl (by rw [hz1]; exact XkBlt.out)
       rw [← hz1, ← hz2] at ws
       clear hz1 hz2 al
       have Xws := hide ws
       have Xhfs := hide hfs
       have Xhzz := hide hzz
       have XdPW := hide dPW
       have XdBW := hide dBW
       clear ws hfs hzz dPW dBW
       clear XkP XkPlt
       clear XkB XkBlt
       clear Xbk XhZl
       have XkP := hide kP
       have XkPlt := hide kPlt
       have XkB := hide kB
       have XkBlt := hide kBlt
       have Xbk := hide bk
       have XhZl := hide hZl
       clear kP kPlt kB kBlt bk hZl
       refine hK.out _ _ ?_ (fun hHeld => ?_)
       ·exact XhS.out _ Xbk.out
       clear hK K
       try simp only [Act.put, sT, s0, s1]
       refine tk (i := 5) (oi := ?_) (v := ?_) ?_ (by kernel_rfl) ?_ (Or.inl ⟨?_, ?_⟩) (by assumption) ?_; rotate_left 2; (focus ((try simp only [gT, gs, gz]); try rfl)); exact fun _ _ _ h => h; rfl; (focus (intro wS hwS; (try dsimp only at hwS); go_simp; all_goals with_reducible rfl)); try simp only [Act.put, sT, s0, s1]
       refine wpAnyH_ready (rs := [6]) (by kernel_rfl) (by simp) ?_
       refine AllReadyH.cons (o := ?_) ?_ (fun K hK => ?_) ?_; rotate_left 1; (focus ((try simp only [gT, gs, gz]); try rfl))
       ·skip
        go_simp
        have al : Below w28.heap.size w28 (w28.alloc (.cells #[.slice (some ⟨P, 0, none⟩) n n, .pointer (some ⟨pb, 0, none⟩)] 107)) := (Below.refl _ w28).alloc (Nat.le_refl _) _
        have kR : Blk (w28.alloc (.cells #[.slice (some ⟨P, 0, none⟩) n n, .pointer (some ⟨pb, 0, none⟩)] 107)) w28.heap.size 107 #[.slice (some ⟨P, 0, none⟩) n n, .pointer (some ⟨pb, 0, none⟩)] := Blk.new _ _ _
        have hnew : Z ≤ w28.heap.size := XhZl.out
        have dPR : P ≠ w28.heap.size := fun e => by have := XkPlt.out; omega
        have dBR : Bq ≠ w28.heap.size := fun e => by have := XkBlt.out; omega
        have hzz : z1 ≤ z2 ∧ z2 ≤ (w28.alloc (.cells #[.slice (some ⟨P, 0, none⟩) n n, .pointer (some ⟨pb, 0, none⟩)] 107)).heap.size := ⟨Xhzz.out.1, Nat.le_trans Xhzz.out.2 al.size⟩
        have kP := XkP.out.below al XkP.out.lt
        have kPlt := kP.lt
        have kB := XkB.out.below al XkB.out.lt
        have kBlt := kB.lt
        have ws := Xws.out.touch (Touch.of_size al (fun _ => False)) (fun _ _ h => h)
        have bk := Xbk.out.trans (al.mono XhZl.out)
        have hZl := Nat.le_trans XhZl.out al.size
        have kRlt : w28.heap.size < (w28.alloc (.cells #[.slice (some ⟨P, 0, none⟩) n n, .pointer (some ⟨pb, 0, none⟩)] 107)).heap.size := kR.lt
        clear Xhzz
        clear al hnew
        have XkR := hide kR
        have XkRlt := hide kRlt
        have XdPR := hide dPR
        have XdBR := hide dBR
        have Xhzz := hide hzz
        clear kR kRlt dPR dBR hzz
        generalize w28.heap.size = Rq at *
        generalize w28.alloc (.cells #[.slice (some ⟨P, 0, none⟩) n n, .pointer (some ⟨pb, 0, none⟩)] 107) = w29 at *
        clear XkP XkPlt
        clear XkB XkBlt
        clear Xws
        clear Xbk XhZl
        have XkP := hide kP
        have XkPlt := hide kPlt
        have XkB := hide kB
        have XkBlt := hide kBlt
        have Xws := hide ws
        have Xbk := hide bk
        have XhZl := hide hZl
        clear kP kPlt kB kBlt ws bk hZl
        refine hK.out _ _ ?_ (fun hHeld => ?_)
        ·exact XhS.out _ Xbk.out
        clear hK K
        try simp only [Act.put, sT, s0, s1]
        have c0 := (XkB.out.cell 0).trans rfl
        have z0 := XkB.out.frozen 0
        have tk : Touch (fun b => b = Bq) w29 (w29.setCell ⟨Bq, 0, none⟩ (.pointer (some ⟨Rq, 0, none⟩))) := (Touch.refl (fun b => b = Bq) _).setCell (p := ⟨Bq, 0, none⟩) (fun _ => rfl) _
        have kB2 := XkB.out.put 0 (.pointer (some ⟨Rq, 0, none⟩))
        have kP2 := XkP.out.touch tk (fun e => by have := XdPB.out; omega)
        have kR2 := XkR.out.touch tk (fun e => by have := XdBR.out; omega)
        have ws2 := Xws.out.touch tk (fun q hq e => by have h1 := XdBW.out; have h2 := hq.1; have h3 := hq.2; have h4 := Xhzz.out; omega)
        have bk2 := Xbk.out.setCell (p := ⟨Bq, 0, none⟩) XhBd.out (.pointer (some ⟨Rq, 0, none⟩))
        have hz2 : z2 ≤ (w29.setCell ⟨Bq, 0, none⟩ (.pointer (some ⟨Rq, 0, none⟩))).heap.size := by rw [setCell_size']; exact Xhzz.out.2
        have XkB2 := hide kB2
        have XkP2 := hide kP2
        have XkR2 := hide kR2
        have Xws2 := hide ws2
        have Xbk2 := hide bk2
        have Xhz2 := hide hz2
        clear kB2 kP2 kR2 ws2 bk2 hz2
        clear Xbk XkP XkB XkR Xws
        refine wpAnyH_ready (rs := [8]) (by kernel_rfl) (by simp) ?_
        refine AllReadyH.cons (o := ?_) ?_ (fun K hK => ?_) AllReadyH.nil; rotate_left 1; (focus ((try simp only [gT, gs, gz]); try rfl))
        go_simp
        refine hK.out _ _ ?_ (fun hHeld => ?_)
        ·exact XhS.out _ Xbk2.out
        clear hK K
        try simp only [Act.put, sT, s0, s1]
        refine wpAnyH_done (by kernel_rfl) ?_ _
        go_wp2_with fail
        go_meet
        exact ⟨Bq, Rq, P, z1, z2, pb, S, rfl, XkB2.out, XkR2.out, XkP2.out, Xws2.out, Xhfs.out, XhP.out, ⟨by have := XdPB.out; omega, by have := XdPR.out; omega⟩, XdPW.out, Xhz2.out, Xbk2.out⟩
       ·exact AllReadyH.nil
      ·exact AllReadyH.nil
     ·exact AllReadyH.nil
   ·skip
    refine AllReadyH.cons (o := ?_) ?_ (fun K hK => ?_) ?_; rotate_left 1; (focus ((try simp only [gT, gs, gz]); try rfl))
    ·skip
     go_simp
     go_at_call 76
     refine (Xcl.out wd Xbk.out).mono ?_
     rintro e w30 ⟨S, pb, rfl, al, ws, hfs⟩
     have bk := Xbk.out.trans (al.mono XhZl.out)
     have hZl := Nat.le_trans XhZl.out al.size
     obtain ⟨z1, hz1⟩ : ∃ q, q = wd.heap.size := ⟨_, rfl⟩
     obtain ⟨z2, hz2⟩ : ∃ q, q = w30.heap.size := ⟨_, rfl⟩
     have hzz : z1 ≤ z2 ∧ z2 ≤ w30.heap.size := ⟨by rw [hz1, hz2]; exact al.size, Nat.le_of_eq hz2⟩
     rw [← hz1, ← hz2] at ws
     clear hz1 hz2 al
     have Xws := hide ws
     have Xhfs := hide hfs
     have Xhzz := hide hzz
     clear ws hfs hzz
     clear Xbk XhZl
     have Xbk := hide bk
     have XhZl := hide hZl
     clear bk hZl
     refine hK.out _ _ ?_ (fun hHeld => ?_)
     ·exact XhS.out _ Xbk.out
     clear hK K
     try simp only [Act.put, sT, s0, s1]
     refine wpAnyH_ready (rs := [2, 7]) (by kernel_rfl) (by simp) ?_
     refine AllReadyH.cons (o := ?_) ?_ (fun K hK => ?_) ?_; rotate_left 1; (focus ((try simp only [gT, gs, gz]); try rfl))
     ·skip
      go_simp
      have al : Below w30.heap.size w30 (w30.alloc (.cells (madeCells #[.slice none 0 0] n) 51)) := (Below.refl _ w30).alloc (Nat.le_refl _) _
      have kP : Blk (w30.alloc (.cells (madeCells #[.slice none 0 0] n) 51)) w30.heap.size 51 (madeCells #[.slice none 0 0] n) := Blk.new _ _ _
      have hnew : Z ≤ w30.heap.size := XhZl.out
      have dPW : ∀ q, z1 ≤ q ∧ q < z2 → q ≠ w30.heap.size := fun q hq e => by have := Xhzz.out; omega
      have hzz : z1 ≤ z2 ∧ z2 ≤ (w30.alloc (.cells (madeCells #[.slice none 0 0] n) 51)).heap.size := ⟨Xhzz.out.1, Nat.le_trans Xhzz.out.2 al.size⟩
      have ws := Xws.out.touch (Touch.of_size al (fun _ => False)) (fun _ _ h => h)
      have bk := Xbk.out.trans (al.mono XhZl.out)
      have hZl := Nat.le_trans XhZl.out al.size
      have hP : Z ≤ w30.heap.size := hnew
      have kPlt : w30.heap.size < (w30.alloc (.cells (madeCells #[.slice none 0 0] n) 51)).heap.size := kP.lt
      clear Xhzz
      clear al hnew
      have XkP := hide kP
      have XkPlt := hide kPlt
      have XdPW := hide dPW
      have XhP := hide hP
      have Xhzz := hide hzz
      clear kP kPlt dPW hP hzz
      generalize w30.heap.size = P at *
      generalize w30.alloc (.cells (madeCells #[.slice none 0 0] n) 51) = w31 at *
      clear Xws
      clear Xbk XhZl
      have Xws := hide ws
      have Xbk := hide bk
      have XhZl := hide hZl
      clear ws bk hZl
      refine hK.out _ _ ?_ (fun hHeld => ?_)
      ·exact XhS.out _ Xbk.out
      clear hK K
      try simp only [Act.put, sT, s0, s1]
      refine tk (i := 5) (oi := ?_) (v := ?_) ?_ (by kernel_rfl) ?_ (Or.inl ⟨?_, ?_⟩) (by assumption) ?_; rotate_left 2; (focus ((try simp only [gT, gs, gz]); try rfl)); exact fun _ _ _ h => h; rfl; (focus (intro wS hwS; (try dsimp only at hwS); go_simp; all_goals with_reducible rfl)); try simp only [Act.put, sT, s0, s1]
      refine wpAnyH_ready (rs := [6, 7]) (by kernel_rfl) (by simp) ?_
      refine AllReadyH.cons (o := ?_) ?_ (fun K hK => ?_) ?_; rotate_left 1; (focus ((try simp only [gT, gs, gz]); try rfl))
      ·skip
       go_simp
       have al : Below w31.heap.size w31 (w31.alloc (.cells #[.slice (some ⟨P, 0, none⟩) n n, .pointer (some ⟨pb, 0, none⟩)] 107)) := (Below.refl _ w31).alloc (Nat.le_refl _) _
       have kR : Blk (w31.alloc (.cells #[.slice (some ⟨P, 0, none⟩) n n, .pointer (some ⟨pb, 0, none⟩)] 107)) w31.heap.size 107 #[.slice (some ⟨P, 0, none⟩) n n, .pointer (some ⟨pb, 0, none⟩)] := Blk.new _ _ _
       have hnew : Z ≤ w31.heap.size := XhZl.out
       have dPR : P ≠ w31.heap.size := fun e => by have := XkPlt.out; omega
       have hzz : z1 ≤ z2 ∧ z2 ≤ (w31.alloc (.cells #[.slice (some ⟨P, 0, none⟩) n n, .pointer (some ⟨pb, 0, none⟩)] 107)).heap.size := ⟨Xhzz.out.1, Nat.le_trans Xhzz.out.2 al.size⟩
       have kP := XkP.out.below al XkP.out.lt
       have kPlt := kP.lt
       have ws := Xws.out.touch (Touch.of_size al (fun _ => False)) (fun _ _ h => h)
       have bk := Xbk.out.trans (al.mono XhZl.out)
       have hZl := Nat.le_trans XhZl.out al.size
       have kRlt : w31.heap.size < (w31.alloc (.cells #[.slice (some ⟨P, 0, none⟩) n n, .pointer (some ⟨pb, 0, none⟩)] 107)).heap.size := kR.lt
       clear Xhzz
       clear al hnew
       have XkR := hide kR
       have XkRlt := hide kRlt
       have XdPR := hide dPR
       have Xhzz := hide hzz
       clear kR kRlt dPR hzz
       generalize w31.heap.size = Rq at *
       generalize w31.alloc (.cells #[.slice (some ⟨P, 0, none⟩) n n, .pointer (some ⟨pb, 0, none⟩)] 107) = w32 at *
       clear XkP XkPlt
       clear Xws
       clear Xbk XhZl
       have XkP := hide kP
       have XkPlt := hide kPlt
       have Xws := hide ws
       have Xbk := hide bk
       have XhZl := hide hZl
       clear kP kPlt ws bk hZl
       refine hK.out _ _ ?_ (fun hHeld => ?_)
       ·exact XhS.out _ Xbk.out
       clear hK K
       try simp only [Act.put, sT, s0, s1]
       refine wpAnyH_ready (rs := [7]) (by kernel_rfl) (by simp) ?_
       refine AllReadyH.cons (o := ?_) ?_ (fun K hK => ?_) ?_; rotate_left 1; (focus ((try simp only [gT, gs, gz]); try rfl))
       ·skip
        go_simp
        have al : Below w32.heap.size w32 (w32.alloc (.cells #[.pointer none] 47)) := (Below.refl _ w32).alloc (Nat.le_refl _) _
        have kB : Blk (w32.alloc (.cells #[.pointer none] 47)) w32.heap.size 47 #[.pointer none] := Blk.new _ _ _
        have hnew : Z ≤ w32.heap.size := XhZl.out
        have dPB : P ≠ w32.heap.size := fun e => by have := XkPlt.out; omega
        have dBR : w32.heap.size ≠ Rq := fun e => by have := XkRlt.out; omega
        have dBW : w32.heap.size < z1 ∨ z2 ≤ w32.heap.size := .inr Xhzz.out.2
        have hzz : z1 ≤ z2 ∧ z2 ≤ (w32.alloc (.cells #[.pointer none] 47)).heap.size := ⟨Xhzz.out.1, Nat.le_trans Xhzz.out.2 al.size⟩
        have kP := XkP.out.below al XkP.out.lt
        have kPlt := kP.lt
        have kR := XkR.out.below al XkR.out.lt
        have kRlt := kR.lt
        have ws := Xws.out.touch (Touch.of_size al (fun _ => False)) (fun _ _ h => h)
        have bk := Xbk.out.trans (al.mono XhZl.out)
        have hZl := Nat.le_trans XhZl.out al.size
        have hBd : Z ≤ w32.heap.size := hnew
        have kBlt : w32.heap.size < (w32.alloc (.cells #[.pointer none] 47)).heap.size := kB.lt
        clear Xhzz
        clear al hnew
        have XkB := hide kB
        have XkBlt := hide kBlt
        have XdPB := hide dPB
        have XdBR := hide dBR
        have XdBW := hide dBW
        have XhBd := hide hBd
        have Xhzz := hide hzz
        clear kB kBlt dPB dBR dBW hBd hzz
        generalize w32.heap.size = Bq at *
        generalize w32.alloc (.cells #[.pointer none] 47) = w33 at *
        clear XkP XkPlt
        clear XkR XkRlt
        clear Xws
        clear Xbk XhZl
        have XkP := hide kP
        have XkPlt := hide kPlt
        have XkR := hide kR
        have XkRlt := hide kRlt
        have Xws := hide ws
        have Xbk := hide bk
        have XhZl := hide hZl
        clear kP kPlt kR kRlt ws bk hZl
        refine hK.out _ _ ?_ (fun hHeld => ?_)
        ·exact XhS.out _ Xbk.out
        clear hK K
        try simp only [Act.put, sT, s0, s1]
        have c0 := (XkB.out.cell 0).trans rfl
        have z0 := XkB.out.frozen 0
        have tk : Touch (fun b => b = Bq) w33 (w33.setCell ⟨Bq, 0, none⟩ (.pointer (some ⟨Rq, 0, none⟩))) := (Touch.refl (fun b => b = Bq) _).setCell (p := ⟨Bq, 0, none⟩) (fun _ => rfl) _
        have kB2 := XkB.out.put 0 (.pointer (some ⟨Rq, 0, none⟩))
        have kP2 := XkP.out.touch tk (fun e => by have := XdPB.out; omega)
        have kR2 := XkR.out.touch tk (fun e => by have := XdBR.out; omega)
        have ws2 := Xws.out.touch tk (fun q hq e => by have h1 := XdBW.out; have h2 := hq.1; have h3 := hq.2; have h4 := Xhzz.out; omega)
        have bk2 := Xbk.out.setCell (p := ⟨Bq, 0, none⟩) XhBd.out (.pointer (some ⟨Rq, 0, none⟩))
        have hz2 : z2 ≤ (w33.setCell ⟨Bq, 0, none⟩ (.pointer (some ⟨Rq, 0, none⟩))).heap.size := by rw [setCell_size']; exact Xhzz.out.2
        have XkB2 := hide kB2
        have XkP2 := hide kP2
        have XkR2 := hide kR2
        have Xws2 := hide ws2
        have Xbk2 := hide bk2
        have Xhz2 := hide hz2
        clear kB2 kP2 kR2 ws2 bk2 hz2
        clear Xbk XkP XkB XkR Xws
        refine wpAnyH_ready (rs := [8]) (by kernel_rfl) (by simp) ?_
        refine AllReadyH.cons (o := ?_) ?_ (fun K hK => ?_) AllReadyH.nil; rotate_left 1; (focus ((try simp only [gT, gs, gz]); try rfl))
        go_simp
        refine hK.out _ _ ?_ (fun hHeld => ?_)
        ·exact XhS.out _ Xbk2.out
        clear hK K
        try simp only [Act.put, sT, s0, s1]
        refine wpAnyH_done (by kernel_rfl) ?_ _
        go_wp2_with fail
        go_meet
        exact ⟨Bq, Rq, P, z1, z2, pb, S, rfl, XkB2.out, XkR2.out, XkP2.out, Xws2.out, Xhfs.out, XhP.out, ⟨by have := XdPB.out; omega, by have := XdPR.out; omega⟩, XdPW.out, Xhz2.out, Xbk2.out⟩
       ·exact AllReadyH.nil
      ·skip
       refine AllReadyH.cons (o := ?_) ?_ (fun K hK => ?_) ?_; rotate_left 1; (focus ((try simp only [gT, gs, gz]); try rfl))
       ·skip
        go_simp
        have al : Below w31.heap.size w31 (w31.alloc (.cells #[.pointer none] 47)) := (Below.refl _ w31).alloc (Nat.le_refl _) _
        have kB : Blk (w31.alloc (.cells #[.pointer none] 47)) w31.heap.size 47 #[.pointer none] := Blk.new _ _ _
        have hnew : Z ≤ w31.heap.size := XhZl.out
        have dPB : P ≠ w31.heap.size := fun e => by have := XkPlt.out; omega
        have dBW : w31.heap.size < z1 ∨ z2 ≤ w31.heap.size := .inr Xhzz.out.2
        have hzz : z1 ≤ z2 ∧ z2 ≤ (w31.alloc (.cells #[.pointer none] 47)).heap.size := ⟨Xhzz.out.1, Nat.le_trans Xhzz.out.2 al.size⟩
        have kP := XkP.out.below al XkP.out.lt
        have kPlt := kP.lt
        have ws := Xws.out.touch (Touch.of_size al (fun _ => False)) (fun _ _ h => h)
        have bk := Xbk.out.trans (al.mono XhZl.out)
        have hZl := Nat.le_trans XhZl.out al.size
        have hBd : Z ≤ w31.heap.size := hnew
        have kBlt : w31.heap.size < (w31.alloc (.cells #[.pointer none] 47)).heap.size := kB.lt
        clear Xhzz
        clear al hnew
        have XkB := hide kB
        have XkBlt := hide kBlt
        have XdPB := hide dPB
        have XdBW := hide dBW
        have XhBd := hide hBd
        have Xhzz := hide hzz
        clear kB kBlt dPB dBW hBd hzz
        generalize w31.heap.size = Bq at *
        generalize w31.alloc (.cells #[.pointer none] 47) = w34 at *
        clear XkP XkPlt
        clear Xws
        clear Xbk XhZl
        have XkP := hide kP
        have XkPlt := hide kPlt
        have Xws := hide ws
        have Xbk := hide bk
        have XhZl := hide hZl
        clear kP kPlt ws bk hZl
        refine hK.out _ _ ?_ (fun hHeld => ?_)
        ·exact XhS.out _ Xbk.out
        clear hK K
        try simp only [Act.put, sT, s0, s1]
        refine wpAnyH_ready (rs := [6]) (by kernel_rfl) (by simp) ?_
        refine AllReadyH.cons (o := ?_) ?_ (fun K hK => ?_) ?_; rotate_left 1; (focus ((try simp only [gT, gs, gz]); try rfl))
        ·skip
         go_simp
         have al : Below w34.heap.size w34 (w34.alloc (.cells #[.slice (some ⟨P, 0, none⟩) n n, .pointer (some ⟨pb, 0, none⟩)] 107)) := (Below.refl _ w34).alloc (Nat.le_refl _) _
         have kR : Blk (w34.alloc (.cells #[.slice (some ⟨P, 0, none⟩) n n, .pointer (some ⟨pb, 0, none⟩)] 107)) w34.heap.size 107 #[.slice (some ⟨P, 0, none⟩) n n, .pointer (some ⟨pb, 0, none⟩)] := Blk.new _ _ _
         have hnew : Z ≤ w34.heap.size := XhZl.out
         have dPR : P ≠ w34.heap.size := fun e => by have := XkPlt.out; omega
         have dBR : Bq ≠ w34.heap.size := fun e => by have := XkBlt.out; omega
         have hzz : z1 ≤ z2 ∧ z2 ≤ (w34.alloc (.cells #[.slice (some ⟨P, 0, none⟩) n n, .pointer (some ⟨pb, 0, none⟩)] 107)).heap.size := ⟨Xhzz.out.1, Nat.le_trans Xhzz.out.2 al.size⟩
         have kP := XkP.out.below al XkP.out.lt
         have kPlt := kP.lt
         have kB := XkB.out.below al XkB.out.lt
         have kBlt := kB.lt
         have ws := Xws.out.touch (Touch.of_size al (fun _ => False)) (fun _ _ h => h)
         have bk := Xbk.out.trans (al.mono XhZl.out)
         have hZl := Nat.le_trans XhZl.out al.size
         have kRlt : w34.heap.size < (w34.alloc (.cells #[.slice (some ⟨P, 0, none⟩) n n, .pointer (some ⟨pb, 0, none⟩)] 107)).heap.size := kR.lt
         clear Xhzz
         clear al hnew
         have XkR := hide kR
         have XkRlt := hide kRlt
         have XdPR := hide dPR
         have XdBR := hide dBR
         have Xhzz := hide hzz
         clear kR kRlt dPR dBR hzz
         generalize w34.heap.size = Rq at *
         generalize w34.alloc (.cells #[.slice (some ⟨P, 0, none⟩) n n, .pointer (some ⟨pb, 0, none⟩)] 107) = w35 at *
         clear XkP XkPlt
         clear XkB XkBlt
         clear Xws
         clear Xbk XhZl
         have XkP := hide kP
         have XkPlt := hide kPlt
         have XkB := hide kB
         have XkBlt := hide kBlt
         have Xws := hide ws
         have Xbk := hide bk
         have XhZl := hide hZl
         clear kP kPlt kB kBlt ws bk hZl
         refine hK.out _ _ ?_ (fun hHeld => ?_)
         ·exact XhS.out _ Xbk.out
         clear hK K
         try simp only [Act.put, sT, s0, s1]
         have c0 := (XkB.out.cell 0).trans rfl
         have z0 := XkB.out.frozen 0
         have tk : Touch (fun b => b = Bq) w35 (w35.setCell ⟨Bq, 0, none⟩ (.pointer (some ⟨Rq, 0, none⟩))) := (Touch.refl (fun b => b = Bq) _).setCell (p := ⟨Bq, 0, none⟩) (fun _ => rfl) _
         have kB2 := XkB.out.put 0 (.pointer (some ⟨Rq, 0, none⟩))
         have kP2 := XkP.out.touch tk (fun e => by have := XdPB.out; omega)
         have kR2 := XkR.out.touch tk (fun e => by have := XdBR.out; omega)
         have ws2 := Xws.out.touch tk (fun q hq e => by have h1 := XdBW.out; have h2 := hq.1; have h3 := hq.2; have h4 := Xhzz.out; omega)
         have bk2 := Xbk.out.setCell (p := ⟨Bq, 0, none⟩) XhBd.out (.pointer (some ⟨Rq, 0, none⟩))
         have hz2 : z2 ≤ (w35.setCell ⟨Bq, 0, none⟩ (.pointer (some ⟨Rq, 0, none⟩))).heap.size := by rw [setCell_size']; exact Xhzz.out.2
         have XkB2 := hide kB2
         have XkP2 := hide kP2
         have XkR2 := hide kR2
         have Xws2 := hide ws2
         have Xbk2 := hide bk2
         have Xhz2 := hide hz2
         clear kB2 kP2 kR2 ws2 bk2 hz2
         clear Xbk XkP XkB XkR Xws
         refine wpAnyH_ready (rs := [8]) (by kernel_rfl) (by simp) ?_
         refine AllReadyH.cons (o := ?_) ?_ (fun K hK => ?_) AllReadyH.nil; rotate_left 1; (focus ((try simp only [gT, gs, gz]); try rfl))
         go_simp
         refine hK.out _ _ ?_ (fun hHeld => ?_)
         ·exact XhS.out _ Xbk2.out
         clear hK K
         try simp only [Act.put, sT, s0, s1]
         refine wpAnyH_done (by kernel_rfl) ?_ _
         go_wp2_with fail
         go_meet
         exact ⟨Bq, Rq, P, z1, z2, pb, S, rfl, XkB2.out, XkR2.out, XkP2.out, Xws2.out, Xhfs.out, XhP.out, ⟨by have := XdPB.out; omega, by have := XdPR.out; omega⟩, XdPW.out, Xhz2.out, Xbk2.out⟩
        ·exact AllReadyH.nil
       ·exact AllReadyH.nil
     ·skip
      refine AllReadyH.cons (o := ?_) ?_ (fun K hK => ?_) ?_; rotate_left 1; (focus ((try simp only [gT, gs, gz]); try rfl))
      ·skip
       go_simp
       have al : Below w30.heap.size w30 (w30.alloc (.cells #[.pointer none] 47)) := (Below.refl _ w30).alloc (Nat.le_refl _) _
       have kB : Blk (w30.alloc (.cells #[.pointer none] 47)) w30.heap.size 47 #[.pointer none] := Blk.new _ _ _
       have hnew : Z ≤ w30.heap.size := XhZl.out
       have dBW : w30.heap.size < z1 ∨ z2 ≤ w30.heap.size := .inr Xhzz.out.2
       have hzz : z1 ≤ z2 ∧ z2 ≤ (w30.alloc (.cells #[.pointer none] 47)).heap.size := ⟨Xhzz.out.1, Nat.le_trans Xhzz.out.2 al.size⟩
       have ws := Xws.out.touch (Touch.of_size al (fun _ => False)) (fun _ _ h => h)
       have bk := Xbk.out.trans (al.mono XhZl.out)
       have hZl := Nat.le_trans XhZl.out al.size
       have hBd : Z ≤ w30.heap.size := hnew
       have kBlt : w30.heap.size < (w30.alloc (.cells #[.pointer none] 47)).heap.size := kB.lt
       clear Xhzz
       clear al hnew
       have XkB := hide kB
       have XkBlt := hide kBlt
       have XdBW := hide dBW
       have XhBd := hide hBd
       have Xhzz := hide hzz
       clear kB kBlt dBW hBd hzz
       generalize w30.heap.size = Bq at *
       generalize w30.alloc (.cells #[.pointer none] 47) = w36 at *
       clear Xws
       clear Xbk XhZl
       have Xws := hide ws
       have Xbk := hide bk
       have XhZl := hide hZl
       clear ws bk hZl
       refine hK.out _ _ ?_ (fun hHeld => ?_)
       ·exact XhS.out _ Xbk.out
       clear hK K
       try simp only [Act.put, sT, s0, s1]
       refine wpAnyH_ready (rs := [2]) (by kernel_rfl) (by simp) ?_
       refine AllReadyH.cons (o := ?_) ?_ (fun K hK => ?_) ?_; rotate_left 1; (focus ((try simp only [gT, gs, gz]); try rfl))
       ·skip
        go_simp
        have al : Below w36.heap.size w36 (w36.alloc (.cells (madeCells #[.slice none 0 0] n) 51)) := (Below.refl _ w36).alloc (Nat.le_refl _) _
        have kP : Blk (w36.alloc (.cells (madeCells #[.slice none 0 0] n) 51)) w36.heap.size 51 (madeCells #[.slice none 0 0] n) := Blk.new _ _ _
        have hnew : Z ≤ w36.heap.size := XhZl.out
        have dPB : w36.heap.size ≠ Bq := fun e => by have := XkBlt.out; omega
        have dPW : ∀ q, z1 ≤ q ∧ q < z2 → q ≠ w36.heap.size := fun q hq e => by have := Xhzz.out; omega
        have hzz : z1 ≤ z2 ∧ z2 ≤ (w36.alloc (.cells (madeCells #[.slice none 0 0] n) 51)).heap.size := ⟨Xhzz.out.1, Nat.le_trans Xhzz.out.2 al.size⟩
        have kB := XkB.out.below al XkB.out.lt
        have kBlt := kB.lt
        have ws := Xws.out.touch (Touch.of_size al (fun _ => False)) (fun _ _ h => h)
        have bk := Xbk.out.trans (al.mono XhZl.out)
        have hZl := Nat.le_trans XhZl.out al.size
        have hP : Z ≤ w36.heap.size := hnew
        have kPlt : w36.heap.size < (w36.alloc (.cells (madeCells #[.slice none 0 0] n) 51)).heap.size := kP.lt
        clear Xhzz
        clear al hnew
        have XkP := hide kP
        have XkPlt := hide kPlt
        have XdPB := hide dPB
        have XdPW := hide dPW
        have XhP := hide hP
        have Xhzz := hide hzz
        clear kP kPlt dPB dPW hP hzz
        generalize w36.heap.size = P at *
        generalize w36.alloc (.cells (madeCells #[.slice none 0 0] n) 51) = w37 at *
        clear XkB XkBlt
        clear Xws
        clear Xbk XhZl
        have XkB := hide kB
        have XkBlt := hide kBlt
        have Xws := hide ws
        have Xbk := hide bk
        have XhZl := hide hZl
        clear kB kBlt ws bk hZl
        refine hK.out _ _ ?_ (fun hHeld => ?_)
        ·exact XhS.out _ Xbk.out
        clear hK K
        try simp only [Act.put, sT, s0, s1]
        refine tk (i := 5) (oi := ?_) (v := ?_) ?_ (by kernel_rfl) ?_ (Or.inl ⟨?_, ?_⟩) (by assumption) ?_; rotate_left 2; (focus ((try simp only [gT, gs, gz]); try rfl)); exact fun _ _ _ h => h; rfl; (focus (intro wS hwS; (try dsimp only at hwS); go_simp; all_goals with_reducible rfl)); try simp only [Act.put, sT, s0, s1]
        refine wpAnyH_ready (rs := [6]) (by kernel_rfl) (by simp) ?_
        refine AllReadyH.cons (o := ?_) ?_ (fun K hK => ?_) ?_; rotate_left 1; (focus ((try simp only [gT, gs, gz]); try rfl))
        ·skip
         go_simp
         have al : Below w37.heap.size w37 (w37.alloc (.cells #[.slice (some ⟨P, 0, none⟩) n n, .pointer (some ⟨pb, 0, none⟩)] 107)) := (Below.refl _ w37).alloc (Nat.le_refl _) _
         have kR : Blk (w37.alloc (.cells #[.slice (some ⟨P, 0, none⟩) n n, .pointer (some ⟨pb, 0, none⟩)] 107)) w37.heap.size 107 #[.slice (some ⟨P, 0, none⟩) n n, .pointer (some ⟨pb, 0, none⟩)] := Blk.new _ _ _
         have hnew : Z ≤ w37.heap.size := XhZl.out
         have dPR : P ≠ w37.heap.size := fun e => by have := XkPlt.out; omega
         have dBR : Bq ≠ w37.heap.size := fun e => by have := XkBlt.out; omega
         have hzz : z1 ≤ z2 ∧ z2 ≤ (w37.alloc (.cells #[.slice (some ⟨P, 0, none⟩) n n, .pointer (some ⟨pb, 0, none⟩)] 107)).heap.size := ⟨Xhzz.out.1, Nat.le_trans Xhzz.out.2 al.size⟩
         have kP := XkP.out.below al XkP.out.lt
         have kPlt := kP.lt
         have kB := XkB.out.below al XkB.out.lt
         have kBlt := kB.lt
         have ws := Xws.out.touch (Touch.of_size al (fun _ => False)) (fun _ _ h => h)
         have bk := Xbk.out.trans (al.mono XhZl.out)
         have hZl := Nat.le_trans XhZl.out al.size
         have kRlt : w37.heap.size < (w37.alloc (.cells #[.slice (some ⟨P, 0, none⟩) n n, .pointer (some ⟨pb, 0, none⟩)] 107)).heap.size := kR.lt
         clear Xhzz
         clear al hnew
         have XkR := hide kR
         have XkRlt := hide kRlt
         have XdPR := hide dPR
         have XdBR := hide dBR
         have Xhzz := hide hzz
         clear kR kRlt dPR dBR hzz
         generalize w37.heap.size = Rq at *
         generalize w37.alloc (.cells #[.slice (some ⟨P, 0, none⟩) n n, .pointer (some ⟨pb, 0, none⟩)] 107) = w38 at *
         clear XkP XkPlt
         clear XkB XkBlt
         clear Xws
         clear Xbk XhZl
         have XkP := hide kP
         have XkPlt := hide kPlt
         have XkB := hide kB
         have XkBlt := hide kBlt
         have Xws := hide ws
         have Xbk := hide bk
         have XhZl := hide hZl
         clear kP kPlt kB kBlt ws bk hZl
         refine hK.out _ _ ?_ (fun hHeld => ?_)
         ·exact XhS.out _ Xbk.out
         clear hK K
         try simp only [Act.put, sT, s0, s1]
         have c0 := (XkB.out.cell 0).trans rfl
         have z0 := XkB.out.frozen 0
         have tk : Touch (fun b => b = Bq) w38 (w38.setCell ⟨Bq, 0, none⟩ (.pointer (some ⟨Rq, 0, none⟩))) := (Touch.refl (fun b => b = Bq) _).setCell (p := ⟨Bq, 0, none⟩) (fun _ => rfl) _
         have kB2 := XkB.out.put 0 (.pointer (some ⟨Rq, 0, none⟩))
         have kP2 := XkP.out.touch tk (fun e => by have := XdPB.out; omega)
         have kR2 := XkR.out.touch tk (fun e => by have := XdBR.out; omega)
         have ws2 := Xws.out.touch tk (fun q hq e => by have h1 := XdBW.out; have h2 := hq.1; have h3 := hq.2; have h4 := Xhzz.out; omega)
         have bk2 := Xbk.out.setCell (p := ⟨Bq, 0, none⟩) XhBd.out (.pointer (some ⟨Rq, 0, none⟩))
         have hz2 : z2 ≤ (w38.setCell ⟨Bq, 0, none⟩ (.pointer (some ⟨Rq, 0, none⟩))).heap.size := by rw [setCell_size']; exact Xhzz.out.2
         have XkB2 := hide kB2
         have XkP2 := hide kP2
         have XkR2 := hide kR2
         have Xws2 := hide ws2
         have Xbk2 := hide bk2
         have Xhz2 := hide hz2
         clear kB2 kP2 kR2 ws2 bk2 hz2
         clear Xbk XkP XkB XkR Xws
         refine wpAnyH_ready (rs := [8]) (by kernel_rfl) (by simp) ?_
         refine AllReadyH.cons (o := ?_) ?_ (fun K hK => ?_) AllReadyH.nil; rotate_left 1; (focus ((try simp only [gT, gs, gz]); try rfl))
         go_simp
         refine hK.out _ _ ?_ (fun hHeld => ?_)
         ·exact XhS.out _ Xbk2.out
         clear hK K
         try simp only [Act.put, sT, s0, s1]
         refine wpAnyH_done (by kernel_rfl) ?_ _
         go_wp2_with fail
         go_meet
         exact ⟨Bq, Rq, P, z1, z2, pb, S, rfl, XkB2.out, XkR2.out, XkP2.out, Xws2.out, Xhfs.out, XhP.out, ⟨by have := XdPB.out; omega, by have := XdPR.out; omega⟩, XdPW.out, Xhz2.out, Xbk2.out⟩
        ·exact AllReadyH.nil
       ·exact AllReadyH.nil
      ·exact AllReadyH.nil
    ·skip
     refine AllReadyH.cons (o := ?_) ?_ (fun K hK => ?_) ?_; rotate_left 1; (focus ((try simp only [gT, gs, gz]); try rfl))
     ·skip
      go_simp
      have al : Below wd.heap.size wd (wd.alloc (.cells #[.pointer none] 47)) := (Below.refl _ wd).alloc (Nat.le_refl _) _
      have kB : Blk (wd.alloc (.cells #[.pointer none] 47)) wd.heap.size 47 #[.pointer none] := Blk.new _ _ _
      have hnew : Z ≤ wd.heap.size := XhZl.out
      have bk := Xbk.out.trans (al.mono XhZl.out)
      have hZl := Nat.le_trans XhZl.out al.size
      have hBd : Z ≤ wd.heap.size := hnew
      have kBlt : wd.heap.size < (wd.alloc (.cells #[.pointer none] 47)).heap.size := kB.lt
      clear al hnew
      have XkB := hide kB
      have XkBlt := hide kBlt
      have XhBd := hide hBd
      clear kB kBlt hBd
      generalize wd.heap.size = Bq at *
      generalize wd.alloc (.cells #[.pointer none] 47) = w39 at *
      clear Xbk XhZl
      have Xbk := hide bk
      have XhZl := hide hZl
      clear bk hZl
      refine hK.out _ _ ?_ (fun hHeld => ?_)
      ·exact XhS.out _ Xbk.out
      clear hK K
      try simp only [Act.put, sT, s0, s1]
      refine wpAnyH_ready (rs := [2, 4]) (by kernel_rfl) (by simp) ?_
      refine AllReadyH.cons (o := ?_) ?_ (fun K hK => ?_) ?_; rotate_left 1; (focus ((try simp only [gT, gs, gz]); try rfl))
      ·skip
       go_simp
       have al : Below w39.heap.size w39 (w39.alloc (.cells (madeCells #[.slice none 0 0] n) 51)) := (Below.refl _ w39).alloc (Nat.le_refl _) _
       have kP : Blk (w39.alloc (.cells (madeCells #[.slice none 0 0] n) 51)) w39.heap.size 51 (madeCells #[.slice none 0 0] n) := Blk.new _ _ _
       have hnew : Z ≤ w39.heap.size := XhZl.out
       have dPB : w39.heap.size ≠ Bq := fun e => by have := XkBlt.out; omega
       have kB := XkB.out.below al XkB.out.lt
       have kBlt := kB.lt
       have bk := Xbk.out.trans (al.mono XhZl.out)
       have hZl := Nat.le_trans XhZl.out al.size
       have hP : Z ≤ w39.heap.size := hnew
       have kPlt : w39.heap.size < (w39.alloc (.cells (madeCells #[.slice none 0 0] n) 51)).heap.size := kP.lt
       clear al hnew
       have XkP := hide kP
       have XkPlt := hide kPlt
       have XdPB := hide dPB
       have XhP := hide hP
       clear kP kPlt dPB hP
       generalize w39.heap.size = P at *
       generalize w39.alloc (.cells (madeCells #[.slice none 0 0] n) 51) = w40 at *
       clear XkB XkBlt
       clear Xbk XhZl
       have XkB := hide kB
       have XkBlt := hide kBlt
       have Xbk := hide bk
       have XhZl := hide hZl
       clear kB kBlt bk hZl
       refine hK.out _ _ ?_ (fun hHeld => ?_)
       ·exact XhS.out _ Xbk.out
       clear hK K
       try simp only [Act.put, sT, s0, s1]
       refine wpAnyH_ready (rs := [4]) (by kernel_rfl) (by simp) ?_
       refine AllReadyH.cons (o := ?_) ?_ (fun K hK => ?_) ?_; rotate_left 1; (focus ((try simp only [gT, gs, gz]); try rfl))
       ·skip
        go_simp
        go_at_call 76
        refine (Xcl.out w40 Xbk.out).mono ?_
        rintro e w41 ⟨S, pb, rfl, al, ws, hfs⟩
        have kP := XkP.out.below al XkP.out.lt
        have kPlt := kP.lt
        have kB := XkB.out.below al XkB.out.lt
        have kBlt := kB.lt
        have bk := Xbk.out.trans (al.mono XhZl.out)
        have hZl := Nat.le_trans XhZl.out al.size
        obtain ⟨z1, hz1⟩ : ∃ q, q = w40.heap.size := ⟨_, rfl⟩
        obtain ⟨z2, hz2⟩ : ∃ q, q = w41.heap.size := ⟨_, rfl⟩
        have hzz : z1 ≤ z2 ∧ z2 ≤ w41.heap.size := ⟨by rw [hz1, hz2]; exact al.size, Nat.le_of_eq hz2⟩
        have dPW : ∀ q, z1 ≤ q ∧ q < z2 → q ≠ P := fun q hq e => by have := XkPlt.out; omega
        have dBW : Bq < z1 ∨ z2 ≤ Bq := .inl (by rw [hz1]; exact XkBlt.out)
        rw [← hz1, ← hz2] at ws
        clear hz1 hz2 al
        have Xws := hide ws
        have Xhfs := hide hfs
        have Xhzz := hide hzz
        have XdPW := hide dPW
        have XdBW := hide dBW
        clear ws hfs hzz dPW dBW
        clear XkP XkPlt
        clear XkB XkBlt
        clear Xbk XhZl
        have XkP := hide kP
        have XkPlt := hide kPlt
        have XkB := hide kB
        have XkBlt := hide kBlt
        have Xbk := hide bk
        have XhZl := hide hZl
        clear kP kPlt kB kBlt bk hZl
        refine hK.out _ _ ?_ (fun hHeld => ?_)
        ·exact XhS.out _ Xbk.out
        clear hK K
        try simp only [Act.put, sT, s0, s1]
        refine tk (i := 5) (oi := ?_) (v := ?_) ?_ (by kernel_rfl) ?_ (Or.inl ⟨?_, ?_⟩) (by assumption) ?_; rotate_left 2; (focus ((try simp only [gT, gs, gz]); try rfl)); exact fun _ _ _ h => h; rfl; (focus (intro wS hwS; (try dsimp only at hwS); go_simp; all_goals with_reducible rfl)); try simp only [Act.put, sT, s0, s1]
        refine wpAnyH_ready (rs := [6]) (by kernel_rfl) (by simp) ?_
        refine AllReadyH.cons (o := ?_) ?_ (fun K hK => ?_) ?_; rotate_left 1; (focus ((try simp only [gT, gs, gz]); try rfl))
        ·skip
         go_simp
         have al : Below w41.heap.size w41 (w41.alloc (.cells #[.slice (some ⟨P, 0, none⟩) n n, .pointer (some ⟨pb, 0, none⟩)] 107)) := (Below.refl _ w41).alloc (Nat.le_refl _) _
         have kR : Blk (w41.alloc (.cells #[.slice (some ⟨P, 0, none⟩) n n, .pointer (some ⟨pb, 0, none⟩)] 107)) w41.heap.size 107 #[.slice (some ⟨P, 0, none⟩) n n, .pointer (some ⟨pb, 0, none⟩)] := Blk.new _ _ _
         have hnew : Z ≤ w41.heap.size := XhZl.out
         have dPR : P ≠ w41.heap.size := fun e => by have := XkPlt.out; omega
         have dBR : Bq ≠ w41.heap.size := fun e => by have := XkBlt.out; omega
         have hzz : z1 ≤ z2 ∧ z2 ≤ (w41.alloc (.cells #[.slice (some ⟨P, 0, none⟩) n n, .pointer (some ⟨pb, 0, none⟩)] 107)).heap.size := ⟨Xhzz.out.1, Nat.le_trans Xhzz.out.2 al.size⟩
         have kP := XkP.out.below al XkP.out.lt
         have kPlt := kP.lt
         have kB := XkB.out.below al XkB.out.lt
         have kBlt := kB.lt
         have ws := Xws.out.touch (Touch.of_size al (fun _ => False)) (fun _ _ h => h)
         have bk := Xbk.out.trans (al.mono XhZl.out)
         have hZl := Nat.le_trans XhZl.out al.size
         have kRlt : w41.heap.size < (w41.alloc (.cells #[.slice (some ⟨P, 0, none⟩) n n, .pointer (some ⟨pb, 0, none⟩)] 107)).heap.size := kR.lt
         clear Xhzz
         clear al hnew
         have XkR := hide kR
         have XkRlt := hide kRlt
         have XdPR := hide dPR
         have XdBR := hide dBR
         have Xhzz := hide hzz
         clear kR kRlt dPR dBR hzz
         generalize w41.heap.size = Rq at *
         generalize w41.alloc (.cells #[.slice (some ⟨P, 0, none⟩) n n, .pointer (some ⟨pb, 0, none⟩)] 107) = w42 at *
         clear XkP XkPlt
         clear XkB XkBlt
         clear Xws
         clear Xbk XhZl
         have XkP := hide kP
         have XkPlt := hide kPlt
         have XkB := hide kB
         have XkBlt := hide kBlt
         have Xws := hide ws
         have Xbk := hide bk
         have XhZl := hide hZl
         clear kP kPlt kB kBlt ws bk hZl
         refine hK.out _ _ ?_ (fun hHeld => ?_)
         ·exact XhS.out _ Xbk.out
         clear hK K
         try simp only [Act.put, sT, s0, s1]
         have c0 := (XkB.out.cell 0).trans rfl
         have z0 := XkB.out.frozen 0
         have tk : Touch (fun b => b = Bq) w42 (w42.setCell ⟨Bq, 0, none⟩ (.pointer (some ⟨Rq, 0, none⟩))) := (Touch.refl (fun b => b = Bq) _).setCell (p := ⟨Bq, 0, none⟩) (fun _ => rfl) _
         have kB2 := XkB.out.put 0 (.pointer (some ⟨Rq, 0, none⟩))
         have kP2 := XkP.out.touch tk (fun e => by have := XdPB.out; omega)
         have kR2 := XkR.out.touch tk (fun e => by have := XdBR.out; omega)
         have ws2 := Xws.out.touch tk (fun q hq e => by have h1 := XdBW.out; have h2 := hq.1; have h3 := hq.2; have h4 := Xhzz.out; omega)
         have bk2 := Xbk.out.setCell (p := ⟨Bq, 0, none⟩) XhBd.out (.pointer (some ⟨Rq, 0, none⟩))
         have hz2 : z2 ≤ (w42.setCell ⟨Bq, 0, none⟩ (.pointer (some ⟨Rq, 0, none⟩))).heap.size := by rw [setCell_size']; exact Xhzz.out.2
         have XkB2 := hide kB2
         have XkP2 := hide kP2
         have XkR2 := hide kR2
         have Xws2 := hide ws2
         have Xbk2 := hide bk2
         have Xhz2 := hide hz2
         clear kB2 kP2 kR2 ws2 bk2 hz2
         clear Xbk XkP XkB XkR Xws
         refine wpAnyH_ready (rs := [8]) (by kernel_rfl) (by simp) ?_
         refine AllReadyH.cons (o := ?_) ?_ (fun K hK => ?_) AllReadyH.nil; rotate_left 1; (focus ((try simp only [gT, gs, gz]); try rfl))
         go_simp
         refine hK.out _ _ ?_ (fun hHeld => ?_)
         ·exact XhS.out _ Xbk2.out
         clear hK K
         try simp only [Act.put, sT, s0, s1]
         refine wpAnyH_done (by kernel_rfl) ?_ _
         go_wp2_with fail
         go_meet
         exact ⟨Bq, Rq, P, z1, z2, pb, S, rfl, XkB2.out, XkR2.out, XkP2.out, Xws2.out, Xhfs.out, XhP.out, ⟨by have := XdPB.out; omega, by have := XdPR.out; omega⟩, XdPW.out, Xhz2.out, Xbk2.out⟩
        ·exact AllReadyH.nil
       ·exact AllReadyH.nil
      ·skip
       refine AllReadyH.cons (o := ?_) ?_ (fun K hK => ?_) ?_; rotate_left 1; (focus ((try simp only [gT, gs, gz]); try rfl))
       ·skip
        go_simp
        go_at_call 76
        refine (Xcl.out w39 Xbk.out).mono ?_
        rintro e w43 ⟨S, pb, rfl, al, ws, hfs⟩
        have kB := XkB.out.below al XkB.out.lt
        have kBlt := kB.lt
        have bk := Xbk.out.trans (al.mono XhZl.out)
        have hZl := Nat.le_trans XhZl.out al.size
        obtain ⟨z1, hz1⟩ : ∃ q, q = w39.heap.size := ⟨_, rfl⟩
        obtain ⟨z2, hz2⟩ : ∃ q, q = w43.heap.size := ⟨_, rfl⟩
        have hzz : z1 ≤ z2 ∧ z2 ≤ w43.heap.size := ⟨by rw [hz1, hz2]; exact al.size, Nat.le_of_eq hz2⟩
        have dBW : Bq < z1 ∨ z2 ≤ Bq := .inl (by rw [hz1]; exact XkBlt.out)
        rw [← hz1, ← hz2] at ws
        clear hz1 hz2 al
        have Xws := hide ws
        have Xhfs := hide hfs
        have Xhzz := hide hzz
        have XdBW := hide dBW
        clear ws hfs hzz dBW
        clear XkB XkBlt
        clear Xbk XhZl
        have XkB := hide kB
        have XkBlt := hide kBlt
        have Xbk := hide bk
        have XhZl := hide hZl
        clear kB kBlt bk hZl
        refine hK.out _ _ ?_ (fun hHeld => ?_)
        ·exact XhS.out _ Xbk.out
        clear hK K
        try simp only [Act.put, sT, s0, s1]
        refine wpAnyH_ready (rs := [2]) (by kernel_rfl) (by simp) ?_
        refine AllReadyH.cons (o := ?_) ?_ (fun K hK => ?_) ?_; rotate_left 1; (focus ((try simp only [gT, gs, gz]); try rfl))
        ·skip
         go_simp
         have al : Below w43.heap.size w43 (w43.alloc (.cells (madeCells #[.slice none 0 0] n) 51)) := (Below.refl _ w43).alloc (Nat.le_refl _) _
         have kP : Blk (w43.alloc (.cells (madeCells #[.slice none 0 0] n) 51)) w43.heap.size 51 (madeCells #[.slice none 0 0] n) := Blk.new _ _ _
         have hnew : Z ≤ w43.heap.size := XhZl.out
         have dPB : w43.heap.size ≠ Bq := fun e => by have := XkBlt.out; omega
         have dPW : ∀ q, z1 ≤ q ∧ q < z2 → q ≠ w43.heap.size := fun q hq e => by have := Xhzz.out; omega
         have hzz : z1 ≤ z2 ∧ z2 ≤ (w43.alloc (.cells (madeCells #[.slice none 0 0] n) 51)).heap.size := ⟨Xhzz.out.1, Nat.le_trans Xhzz.out.2 al.size⟩
         have kB := XkB.out.below al XkB.out.lt
         have kBlt := kB.lt
         have ws := Xws.out.touch (Touch.of_size al (fun _ => False)) (fun _ _ h => h)
         have bk := Xbk.out.trans (al.mono XhZl.out)
         have hZl := Nat.le_trans XhZl.out al.size
         have hP : Z ≤ w43.heap.size := hnew
         have kPlt : w43.heap.size < (w43.alloc (.cells (madeCells #[.slice none 0 0] n) 51)).heap.size := kP.lt
         clear Xhzz
         clear al hnew
         have XkP := hide kP
         have XkPlt := hide kPlt
         have XdPB := hide dPB
         have XdPW := hide dPW
         have XhP := hide hP
         have Xhzz := hide hzz
         clear kP kPlt dPB dPW hP hzz
         generalize w43.heap.size = P at *
         generalize w43.alloc (.cells (madeCells #[.slice none 0 0] n) 51) = w44 at *
         clear XkB XkBlt
         clear Xws
         clear Xbk XhZl
         have XkB := hide kB
         have XkBlt := hide kBlt
         have Xws := hide ws
         have Xbk := hide bk
         have XhZl := hide hZl
         clear kB kBlt ws bk hZl
         refine hK.out _ _ ?_ (fun hHeld => ?_)
         ·exact XhS.out _ Xbk.out
         clear hK K
         try simp only [Act.put, sT, s0, s1]
         refine tk (i := 5) (oi := ?_) (v := ?_) ?_ (by kernel_rfl) ?_ (Or.inl ⟨?_, ?_⟩) (by assumption) ?_; rotate_left 2; (focus ((try simp only [gT, gs, gz]); try rfl)); exact fun _ _ _ h => h; rfl; (focus (intro wS hwS; (try dsimp only at hwS); go_simp; all_goals with_reducible rfl)); try simp only [Act.put, sT, s0, s1]
         refine wpAnyH_ready (rs := [6]) (by kernel_rfl) (by simp) ?_
         refine AllReadyH.cons (o := ?_) ?_ (fun K hK => ?_) ?_; rotate_left 1; (focus ((try simp only [gT, gs, gz]); try rfl))
         ·skip
          go_simp
          have al : Below w44.heap.size w44 (w44.alloc (.cells #[.slice (some ⟨P, 0, none⟩) n n, .pointer (some ⟨pb, 0, none⟩)] 107)) := (Below.refl _ w44).alloc (Nat.le_refl _) _
          have kR : Blk (w44.alloc (.cells #[.slice (some ⟨P, 0, none⟩) n n, .pointer (some ⟨pb, 0, none⟩)] 107)) w44.heap.size 107 #[.slice (some ⟨P, 0, none⟩) n n, .pointer (some ⟨pb, 0, none⟩)] := Blk.new _ _ _
          have hnew : Z ≤ w44.heap.size := XhZl.out
          have dPR : P ≠ w44.heap.size := fun e => by have := XkPlt.out; omega
          have dBR : Bq ≠ w44.heap.size := fun e => by have := XkBlt.out; omega
          have hzz : z1 ≤ z2 ∧ z2 ≤ (w44.alloc (.cells #[.slice (some ⟨P, 0, none⟩) n n, .pointer (some ⟨pb, 0, none⟩)] 107)).heap.size := ⟨Xhzz.out.1, Nat.le_trans Xhzz.out.2 al.size⟩
          have kP := XkP.out.below al XkP.out.lt
          have kPlt := kP.lt
          have kB := XkB.out.below al XkB.out.lt
          have kBlt := kB.lt
          have ws := Xws.out.touch (Touch.of_size al (fun _ => False)) (fun _ _ h => h)
          have bk := Xbk.out.trans (al.mono XhZl.out)
          have hZl := Nat.le_trans XhZl.out al.size
          have kRlt : w44.heap.size < (w44.alloc (.cells #[.slice (some ⟨P, 0, none⟩) n n, .pointer (some ⟨pb, 0, none⟩)] 107)).heap.size := kR.lt
          clear Xhzz
          clear al hnew
          have XkR := hide kR
          have XkRlt := hide kRlt
          have XdPR := hide dPR
          have XdBR := hide dBR
          have Xhzz := hide hzz
          clear kR kRlt dPR dBR hzz
          generalize w44.heap.size = Rq at *
          generalize w44.alloc (.cells #[.slice (some ⟨P, 0, none⟩) n n, .pointer (some ⟨pb, 0, none⟩)] 107) = w45 at *
          clear XkP XkPlt
          clear XkB XkBlt
          clear Xws
          clear Xbk XhZl
          have XkP := hide kP
          have XkPlt := hide kPlt
          have XkB := hide kB
          have XkBlt := hide kBlt
          have Xws := hide ws
          have Xbk := hide bk
          have XhZl := hide hZl
          clear kP kPlt kB kBlt ws bk hZl
          refine hK.out _ _ ?_ (fun hHeld => ?_)
          ·exact XhS.out _ Xbk.out
          clear hK K
          try simp only [Act.put, sT, s0, s1]
          have c0 := (XkB.out.cell 0).trans rfl
          have z0 := XkB.out.frozen 0
          have tk : Touch (fun b => b = Bq) w45 (w45.setCell ⟨Bq, 0, none⟩ (.pointer (some ⟨Rq, 0, none⟩))) := (Touch.refl (fun b => b = Bq) _).setCell (p := ⟨Bq, 0, none⟩) (fun _ => rfl) _
          have kB2 := XkB.out.put 0 (.pointer (some ⟨Rq, 0, none⟩))
          have kP2 := XkP.out.touch tk (fun e => by have := XdPB.out; omega)
          have kR2 := XkR.out.touch tk (fun e => by have := XdBR.out; omega)
          have ws2 := Xws.out.touch tk (fun q hq e => by have h1 := XdBW.out; have h2 := hq.1; have h3 := hq.2; have h4 := Xhzz.out; omega)
          have bk2 := Xbk.out.setCell (p := ⟨Bq, 0, none⟩) XhBd.out (.pointer (some ⟨Rq, 0, none⟩))
          have hz2 : z2 ≤ (w45.setCell ⟨Bq, 0, none⟩ (.pointer (some ⟨Rq, 0, none⟩))).heap.size := by rw [setCell_size']; exact Xhzz.out.2
          have XkB2 := hide kB2
          have XkP2 := hide kP2
          have XkR2 := hide kR2
          have Xws2 := hide ws2
          have Xbk2 := hide bk2
          have Xhz2 := hide hz2
          clear kB2 kP2 kR2 ws2 bk2 hz2
          clear Xbk XkP XkB XkR Xws
          refine wpAnyH_ready (rs := [8]) (by kernel_rfl) (by simp) ?_
          refine AllReadyH.cons (o := ?_) ?_ (fun K hK => ?_) AllReadyH.nil; rotate_left 1; (focus ((try simp only [gT, gs, gz]); try rfl))
          go_simp
          refine hK.out _ _ ?_ (fun hHeld => ?_)
          ·exact XhS.out _ Xbk2.out
          clear hK K
          try simp only [Act.put, sT, s0, s1]
          refine wpAnyH_done (by kernel_rfl) ?_ _
          go_wp2_with fail
          go_meet
          exact ⟨Bq, Rq, P, z1, z2, pb, S, rfl, XkB2.out, XkR2.out, XkP2.out, Xws2.out, Xhfs.out, XhP.out, ⟨by have := XdPB.out; omega, by have := XdPR.out; omega⟩, XdPW.out, Xhz2.out, Xbk2.out⟩
         ·exact AllReadyH.nil
        ·exact AllReadyH.nil
       ·exact AllReadyH.nil
     ·exact AllReadyH.nil
  case rest =>
   obtain ⟨B, R, P, z1, z2, pb, S, rfl, kB, kR, kP, ws, hfs, hP, hBR, hPW, hz2, b5⟩ := hcut
   obtain ⟨we, hwe⟩ : ∃ q, q = wc.alloc (.cells #[] 3) := ⟨_, rfl⟩
   have al : Below wc.heap.size wc we := by rw [hwe]; exact (Below.refl _ _).alloc (Nat.le_refl _) _
   have hsz : we.heap.size = wc.heap.size + 1 := by rw [hwe]; simp
   have hPl := kP.lt
   have rc0 : RC we (fun q => z1 ≤ q ∧ q < z2) B R P n (.pointer (some ⟨pb, 0, none⟩)) S (List.replicate n none) := by
    have kB2 := kB.below al kB.lt
    have kR2 := kR.below al kR.lt
    exact ⟨ws.touch (Touch.of_size al (fun _ => False)) (fun _ _ h => h), kB2, kR2, WaysW.made (kP.below al kP.lt), fun b hb => Nat.lt_of_lt_of_le hb.2 (Nat.le_trans hz2 al.size), hPW, hBR⟩
   have re : RdI we (fun b => b = wc.heap.size) (.slice (some ⟨wc.heap.size, 0, none⟩) 0 0) [] := ⟨_, 0, 0, rfl, Nat.le_refl _, by decide, rfl, fun h => absurd h (by omega)⟩
   have rc1 := rc0.put (t := 0) hn0 re (fun b hb => ⟨by omega, by omega⟩)
   rw [set_start n hn0] at rc1
   have hZw : Z ≤ wc.heap.size := by rw [XhZ.out]; exact b5.size
   have be : Below Z w3 (we.setCell ⟨P, 0, none⟩ (.slice (some ⟨wc.heap.size, 0, none⟩) 0 0)) := (b5.trans (al.mono hZw)).setCell (p := ⟨P, 0, none⟩) hP _
   have al2 : Below (we.setCell ⟨P, 0, none⟩ (.slice (some ⟨wc.heap.size, 0, none⟩) 0 0)).heap.size (we.setCell ⟨P, 0, none⟩ (.slice (some ⟨wc.heap.size, 0, none⟩) 0 0)) ((we.setCell ⟨P, 0, none⟩ (.slice (some ⟨wc.heap.size, 0, none⟩) 0 0)).alloc (.cells #[.int .i64 0] 3)) := (Below.refl _ _).alloc (Nat.le_refl _) _
   have rc2 := rc1.below al2
   have be2 := be.trans (al2.mono (by rw [setCell_size', hsz]; omega))
   have kn : Blk ((we.setCell ⟨P, 0, none⟩ (.slice (some ⟨wc.heap.size, 0, none⟩) 0 0)).alloc (.cells #[.int .i64 0] 3)) (we.setCell ⟨P, 0, none⟩ (.slice (some ⟨wc.heap.size, 0, none⟩) 0 0)).heap.size 3 #[.int .i64 0] := Blk.new _ _ _
   have c0 := (kB.cell 0).trans rfl
   have c1 := (kR.cell 0).trans rfl
   have c2 : wc.cell? ⟨P, 0, none⟩ = some (.slice none 0 0) := (kP.cell 0).trans (made_item _ n 0 hn0)
   have c3 := kP.frozen 0
   have eq5 : we.setCell ⟨P, 0, none⟩ (.slice (some ⟨wc.heap.size, 0, none⟩) 0 0) = (wc.setCell ⟨P, 0, none⟩ (.slice (some ⟨wc.heap.size, 0, none⟩) 0 0)).alloc (.cells #[] 3) := by rw [hwe]; exact World.setCell_alloc_past _ _ _ _ hPl
   have hs5 : (we.setCell ⟨P, 0, none⟩ (.slice (some ⟨wc.heap.size, 0, none⟩) 0 0)).heap.size = wc.heap.size + 1 := by rw [setCell_size', hsz]
   rw [hs5] at kn
   rw [eq5] at rc2 be2 kn
   obtain ⟨w6, hw6⟩ : ∃ q, q = ((wc.setCell ⟨P, 0, none⟩ (.slice (some ⟨wc.heap.size, 0, none⟩) 0 0)).alloc (.cells #[] 3)).alloc (.cells #[.int .i64 0] 3) := ⟨_, rfl⟩
   rw [← hw6] at rc2 be2 kn
   clear rc0 rc1 al al2 be kB kR kP ws re q0 q1 q2 q3 hmk eq5 hs5 hwe hsz hZw
   have hPn : wc.heap.size + 1 ≠ P := by omega
   have Xrc2 := hide rc2
   have Xbe2 := hide be2
   have Xkn := hide kn
   have Xhfs := hide hfs
   have XhP := hide hP
   have XhBR := hide hBR
   have XhPW := hide hPW
   have Xhz2 := hide hz2
   have Xb5 := hide b5
   have XhPn := hide hPn
   clear rc2 be2 kn hfs hP hBR hPW hz2 b5 hPn
   go_wp2_with fail
   rw [← hw6]
   clear hw6 c0 c1 c2 c3 hPl Xb5 Xhz2
   have rn : RdI w6 (fun b => b < w6.heap.size ∧ b ≠ P) (.slice (some ⟨wc.heap.size + 1, 0, none⟩) 1 1) [0] := Rd.of_blk (us := [Value.int .i64 0]) Xkn.out ⟨Xkn.out.lt, XhPn.out⟩ rfl (by decide)
   have lv := LevW.start XhD.out
   rw [← Xhn.out] at lv
   generalize some (⟨wc.heap.size + 1, 0, none⟩ : Addr) = An at *
   have Xrn := hide rn
   have Xlv := hide lv
   clear rn lv
   clear Xkn XhPn
   go_loopg [7] n (fun κ nw wr => ∃ (d : Nat) (W : Wos) (Fr : Nat → Prop) (now : List Int) (An : Option Addr) (ln cn : Nat), nw = .slice An ln cn ∧ ln = now.length ∧ RdI wr (fun b => b < wr.heap.size ∧ b ≠ P) (.slice An ln cn) now ∧ LevW (topOf G) D W d now ∧ RC wr Fr B R P n (.pointer (some ⟨pb, 0, none⟩)) S W ∧ Below Z w3 wr ∧ κ + d = n)
   case atStart => exact ⟨0, _, _, [0], An, 1, 1, rfl, rfl, Xrn.out, Xlv.out, Xrc2.out, Xbe2.out, rfl⟩
   case round =>
    clear Xrn Xlv Xrc2 Xbe2
    obtain ⟨d, W, Fr, now, An', ln, cn, rfl, hln, rn, lv, rc, bz, hκ⟩ := hrel
    by_cases h0 : 0 < ln
    ·have h0' : (ln : Int) > 0 := by omega
     have hdn : d < n := by rw [Xhn.out]; exact lv.lt (by omega)
     have inw0 := lv.in_
     obtain ⟨lo, hlo⟩ : ∃ q, q = wr.heap.size := ⟨_, rfl⟩
     rw [← hlo] at rn
     have hlB : B < lo ∧ R < lo ∧ P < lo := by rw [hlo]; exact ⟨rc.box.lt, rc.st.lt, rc.ways.lt⟩
     have il0 : IL (topOf G) D d now lo w3 Z B R P n (.pointer (some ⟨pb, 0, none⟩)) S (.slice An' ln cn) W Fr [] (.slice none 0 0) 0 0 0 wr := ⟨rfl, World.ownsRow_nil _ _ _ _, inw0, rc, bz, rn, Nat.le_of_eq hlo, fun b _ e => by cases e⟩
     obtain ⟨-, hlnc, hcn, -⟩ := RdI.at_ rn
     unfold maxLen at hcn
     have hln2 : ln ≤ 2000 := by
      have h1 := lv.cnt
      have h2 := cnt_le W
      have h3 := lv.som.len
      have h4 := XhD.out.small
      omega
     clear rn lv rc bz inw0 hlo
     have Xil0 := hide il0
     have Xhln := hide hln
     have XhlB := hide hlB
     have Xhκ := hide hκ
     have Xhdn := hide hdn
     clear il0 hln hlB hκ hdn
     go_wp2_with fail
     go_loopw [8, 40] (fun nx ix wr => ∃ (p : Nat) (W : Wos) (Fr : Nat → Prop) (next : List Int) (A2 : Option Addr) (m c2 : Nat), p ≤ ln ∧ ix = .int .i64 p ∧ nx = .slice A2 m c2 ∧ IL (topOf G) D d now lo w3 Z B R P n (.pointer (some ⟨pb, 0, none⟩)) S (.slice An' ln cn) W Fr next (.slice A2 m c2) m p 0 wr) (fun _ ix _ => ln - (intOf ix).toNat)
     case atStart => exact ⟨0, W, Fr, [], none, 0, 0, Nat.zero_le _, rfl, rfl, Xil0.out⟩
     case round =>
      clear Xil0
      obtain ⟨p, W, Fr, next, A2, m, c2, hp, rfl, rfl, il⟩ := hrel
      by_cases hltp : p < ln
      ·have hltp' : (p : Int) < (ln : Int) := by omega
       obtain ⟨x, hx⟩ : ∃ x, now[p]? = some x := ⟨_, List.getElem?_eq_getElem (by rw [← Xhln.out]; exact hltp)⟩
       obtain ⟨i, wi, rfl, hwi, hwl⟩ := il.inw.at_ hx
       obtain ⟨-, -, -, hcellN⟩ := RdI.at_ il.rn
       obtain ⟨bN, oN, rfl, -, hcN⟩ := hcellN (by omega)
       have hcx := hcN p _ hx
       have hin : i < n := by rw [← il.rc.ways.len]; exact (List.getElem?_eq_some_iff.1 hwi).1
       have hin' : (i : Int) < (n : Int) := by omega
       obtain ⟨di, hdi⟩ : ∃ di, D[i]? = some di := ⟨_, List.getElem?_eq_getElem (by rw [← Xhn.out]; exact hin)⟩
       obtain ⟨-, -, -, hcell3⟩ := Xt.out.rd.at_
       obtain ⟨bT, oT, eA, -, hcs⟩ := hcell3 (by omega)
       cases eA
       obtain ⟨y1, y2, u1, u2, s1, s2⟩ := hcs i di hdi
       obtain ⟨A5, n5, c5, rfl, -⟩ := id s2
       obtain ⟨hn5, hnc5, hcm5, -⟩ := RdIt.at_ s2
       unfold maxLen at hcm5
       have u2' := (il.bz.cell (p := ⟨bS, oS + i * 2 + 1, none⟩) (by rw [XhZ.out]; exact World.block_lt_of_cell? _ _ u2)).trans u2
       have tr : ∀ wq, Below Z w3 wq → RdIt wq (fun b => b < w3.heap.size) (.slice A5 n5 c5) di.2 := fun wq b => by
        rw [XhZ.out] at b
        exact s2.below b (fun z hz => hz)
       clear hcellN hcN hcell3 hcs s1 s2 u1 u2
       have Xil := hide il
       have Xhx := hide hx
       have Xhdi := hide hdi
       have Xhn5 := hide hn5
       have Xhwi := hide hwi
       have Xhwl := hide hwl
       have Xtr := hide tr
       clear il hx hdi hn5 hwi hwl tr
       go_wp2_with fail
       go_loopw [8, 50] (fun nx ix wr => ∃ (k : Nat) (W : Wos) (Fr : Nat → Prop) (next : List Int) (A2 : Option Addr) (m c2 : Nat), k ≤ n5 ∧ ix = .int .i64 k ∧ nx = .slice A2 m c2 ∧ W[i]? = some (some wi) ∧ IL (topOf G) D d now lo w3 Z B R P n (.pointer (some ⟨pb, 0, none⟩)) S (.slice (some ⟨bN, oN, none⟩) ln cn) W Fr next (.slice A2 m c2) m p k wr) (fun _ ix _ => n5 - (intOf ix).toNat)
       case atStart => exact ⟨0, W, Fr, next, A2, m, c2, Nat.zero_le _, rfl, rfl, Xhwi.out, Xil.out⟩
       case round =>
        clear Xil Xhwi u2' hcx
        obtain ⟨k, W, Fr, next, A2, m, c2, hk, rfl, rfl, hwi, il⟩ := hrel
        by_cases hltk : k < n5
        ·have hltk' : (k : Int) < (n5 : Int) := by omega
         have trW := Xtr.out wr il.bz
         obtain ⟨-, -, -, hcell5⟩ := RdIt.at_ trW
         obtain ⟨b5, o5, rfl, -, hcc5⟩ := hcell5 (by omega)
         obtain ⟨⟨s, tt⟩, hy⟩ : ∃ y, di.2[k]? = some y := ⟨_, List.getElem?_eq_getElem (by rw [← Xhn5.out]; exact hltk)⟩
         obtain ⟨p0, p1⟩ := hcc5 k _ hy
         simp only at p0 p1
         obtain ⟨hs1, hs2, t, rfl, htl⟩ := XhD.out.tr i di Xhdi.out s tt (List.mem_of_getElem? hy)
         rw [← Xhn.out] at htl
         have htl' : (t : Int) < (n : Int) := by omega
         have hZl := il.zle XhZ.out
         have alA : Below wr.heap.size wr (wr.alloc (.cells #[.int .i64 s, .int .i64 (t : Int)] 59)) := (Below.refl _ _).alloc (Nat.le_refl _) _
         have ilA := il.below hZl alA
         have kA : Blk (wr.alloc (.cells #[.int .i64 s, .int .i64 (t : Int)] 59)) wr.heap.size 59 #[.int .i64 s, .int .i64 (t : Int)] := Blk.new _ _ _
         have hAlo : lo ≤ wr.heap.size := il.lo_
         obtain ⟨o, ho⟩ : ∃ o, W[t]? = some o := ⟨_, List.getElem?_eq_getElem (by rw [il.rc.ways.len]; exact htl)⟩
         clear hcell5 hcc5 trW il alA
         cases o with
         | some wt =>
          obtain ⟨gg, og, mg, cg, hcP, -⟩ := ilA.rc.ways.row t wt ho
          have inw2 := ilA.inw.skip XhD.out Xhx.out hwi Xhwl.out Xhdi.out hy ho
          obtain ⟨cB, cR, -⟩ := ilA.rc.cells
          have dr := (Below.refl (wr.alloc (.cells #[.int .i64 s, .int .i64 (t : Int)] 59)).heap.size (wr.alloc (.cells #[.int .i64 s, .int .i64 (t : Int)] 59))).drew
          have ilB := ilA.below (ilA.zle XhZ.out) dr
          have il2 : IL (topOf G) D d now lo w3 Z B R P n (.pointer (some ⟨pb, 0, none⟩)) S (.slice (some ⟨bN, oN, none⟩) ln cn) W Fr next (.slice A2 m c2) m p (k + 1) (wr.alloc (.cells #[.int .i64 s, .int .i64 (t : Int)] 59)).drew := ⟨ilB.len, ilB.own, inw2, ilB.rc, ilB.bz, ilB.rn, ilB.lo_, ilB.ap⟩
          have kA1 := (kA.cell 1).trans rfl
          have hel := fun W => eql_nil_no ⟨gg, og, none⟩ mg cg W
          clear ilA ilB inw2 dr hZl
          have Xil2 := hide il2
          have Xhwi := hide hwi
          have Xhy := hide hy
          have Xhs1 := hide hs1
          have Xhs2 := hide hs2
          have XkA := hide kA
          have Xho := hide ho
          have XhAlo := hide hAlo
          have XhcP := hide hcP
          have XcB := hide cB
          have XcR := hide cR
          have XkA1 := hide kA1
          clear il2 hwi hy hs1 hs2 kA ho hAlo hcP cB cR kA1
          go_wp2_with fail
          have hcP := XhcP.out
          have cB := XcB.out
          have cR := XcR.out
          have kA1 := XkA1.out
          clear p0 p1
          generalize wr.alloc (.cells #[.int .i64 s, .int .i64 (t : Int)] 59) = wA at *
          refine region_reads (by kernel_rfl) (by kernel_rfl) ?_
          repeat still_step
          refine wpStill_nil ?_
          go_wp2_with fail
          go_roundw
          case rel => exact ⟨k + 1, W, Fr, next, A2, m, c2, by omega, by go_num, rfl, Xhwi.out, Xil2.out⟩
          case measure => simp [intOf]; omega
         | none =>
          have hcP := ilA.rc.ways.un t ho
          obtain ⟨g1, o1, m1, c1, hcI, rI⟩ := ilA.rc.ways.row i wi hwi
          obtain ⟨cB, cR, -⟩ := ilA.rc.cells
          have dr := ((Below.refl (wr.alloc (.cells #[.int .i64 s, .int .i64 (t : Int)] 59)).heap.size (wr.alloc (.cells #[.int .i64 s, .int .i64 (t : Int)] 59))).drew).drew
          have ilB := ilA.below (ilA.zle XhZ.out) dr
          have kA0 := (kA.cell 0).trans rfl
          have kA1 := (kA.cell 1).trans rfl
          have kB := kA.below dr kA.lt
          have hel := fun W => eql_nil_yes W
          have hwl6 : wi.length ≤ 65000 := by
           have h1 := ilA.inw.som.short i wi hwi
           have h2 := cnt_le W
           have h3 := ilA.inw.som.len
           have h4 := XhD.out.small
           omega
          have cL := route_longer (rI.below dr ilA.rc.flt) (fun b hb => Nat.lt_of_lt_of_le (ilA.rc.flt b hb) dr.size) hwl6 s
          clear ilA dr hZl rI
          have Xhwi := hide hwi
          have Xhy := hide hy
          have Xhs1 := hide hs1
          have Xhs2 := hide hs2
          have XkA := hide kA
          have Xho := hide ho
          have XhAlo := hide hAlo
          have XhcP := hide hcP
          have XcB := hide cB
          have XcR := hide cR
          have XkA1 := hide kA1
          have XkA0 := hide kA0
          have XhcI := hide hcI
          have XilB := hide ilB
          have XkB := hide kB
          have XcL := hide cL
          clear hwi hy hs1 hs2 kA ho hAlo hcP cB cR kA1 kA0 hcI ilB kB cL
          go_wp2_with fail
          have hcP := XhcP.out
          have hcI := XhcI.out
          have cB := XcB.out
          have cR := XcR.out
          have kA1 := XkA1.out
          have kA0 := XkA0.out
          clear p0 p1
          generalize wr.alloc (.cells #[.int .i64 s, .int .i64 (t : Int)] 59) = wA at *
          refine region_reads (by kernel_rfl) (by kernel_rfl) ?_
          repeat still_step
          refine wpStill_nil ?_
          go_wp2_with fail
          refine wp_region_held_drew (S := (fun V => V.cell? ⟨B, 0, none⟩ = some (.pointer (some ⟨R, 0, none⟩)) ∧ V.cell? ⟨R, 0, none⟩ = some (.slice (some ⟨P, 0, none⟩) n n) ∧ V.cell? ⟨P, i, none⟩ = some (.slice (some ⟨g1, o1, none⟩) m1 c1) ∧ V.cell? ⟨wr.heap.size, 0, none⟩ = some (.int .i64 s) ∧ V.cell? ⟨wr.heap.size, 1, none⟩ = some (.int .i64 (t : Int)))) (by kernel_rfl) ?_ (fun hHeld => ?_)
          ·exact ⟨cB, cR, hcI, kA0, kA1⟩
          refine tk (i := 0) (oi := ?_) (v := ?_) ?_ (by kernel_rfl) ?_ (Or.inl ⟨?_, ?_⟩) (by assumption) ?_; rotate_left 2; (focus ((try simp only [gT, gs, gz]); try rfl)); exact fun _ _ _ h => h; rfl; (focus (intro wS hwS; (try dsimp only at hwS); go_simp; all_goals with_reducible rfl)); try simp only [Act.put, sT, s0, s1]
          refine tk (i := 1) (oi := ?_) (v := ?_) ?_ (by kernel_rfl) ?_ (Or.inl ⟨?_, ?_⟩) (by assumption) ?_; rotate_left 2; (focus ((try simp only [gT, gs, gz]); try rfl)); exact fun _ _ _ h => h; rfl; (focus (intro wS hwS; (try dsimp only at hwS); go_simp; all_goals with_reducible rfl)); try simp only [Act.put, sT, s0, s1]
          refine tk (i := 2) (oi := ?_) (v := ?_) ?_ (by kernel_rfl) ?_ (Or.inl ⟨?_, ?_⟩) (by assumption) ?_; rotate_left 2; (focus ((try simp only [gT, gs, gz]); try rfl)); exact fun _ _ _ h => h; rfl; (focus (intro wS hwS; (try dsimp only at hwS); go_simp; all_goals with_reducible rfl)); try simp only [Act.put, sT, s0, s1]
          refine tk (i := 3) (oi := ?_) (v := ?_) ?_ (by kernel_rfl) ?_ (Or.inl ⟨?_, ?_⟩) (by assumption) ?_; rotate_left 2; (focus ((try simp only [gT, gs, gz]); try rfl)); exact fun _ _ _ h => h; rfl; (focus (intro wS hwS; (try dsimp only at hwS); go_simp; all_goals with_reducible rfl)); try simp only [Act.put, sT, s0, s1]
          refine tk (i := 4) (oi := ?_) (v := ?_) ?_ (by kernel_rfl) ?_ (Or.inl ⟨?_, ?_⟩) (by assumption) ?_; rotate_left 2; (focus ((try simp only [gT, gs, gz]); try rfl)); exact fun _ _ _ h => h; rfl; (focus (intro wS hwS; (try dsimp only at hwS); go_simp; all_goals with_reducible rfl)); try simp only [Act.put, sT, s0, s1]
          refine tk (i := 5) (oi := ?_) (v := ?_) ?_ (by kernel_rfl) ?_ (Or.inl ⟨?_, ?_⟩) (by assumption) ?_; rotate_left 2; (focus ((try simp only [gT, gs, gz]); try rfl)); exact fun _ _ _ h => h; rfl; (focus (intro wS hwS; (try dsimp only at hwS); go_simp; all_goals with_reducible rfl)); try simp only [Act.put, sT, s0, s1]
          refine tk (i := 6) (oi := ?_) (v := ?_) ?_ (by kernel_rfl) ?_ (Or.inl ⟨?_, ?_⟩) (by assumption) ?_; rotate_left 2; (focus ((try simp only [gT, gs, gz]); try rfl)); exact fun _ _ _ h => h; rfl; (focus (intro wS hwS; (try dsimp only at hwS); go_simp; all_goals with_reducible rfl)); try simp only [Act.put, sT, s0, s1]
          refine tk (i := 7) (oi := ?_) (v := ?_) ?_ (by kernel_rfl) ?_ (Or.inl ⟨?_, ?_⟩) (by assumption) ?_; rotate_left 2; (focus ((try simp only [gT, gs, gz]); try rfl)); exact fun _ _ _ h => h; rfl; (focus (intro wS hwS; (try dsimp only at hwS); go_simp; all_goals with_reducible rfl)); try simp only [Act.put, sT, s0, s1]
          refine tk (i := 8) (oi := ?_) (v := ?_) ?_ (by kernel_rfl) ?_ (Or.inl ⟨?_, ?_⟩) (by assumption) ?_; rotate_left 2; (focus ((try simp only [gT, gs, gz]); try rfl)); exact fun _ _ _ h => h; rfl; (focus (intro wS hwS; (try dsimp only at hwS); go_simp; all_goals with_reducible rfl)); try simp only [Act.put, sT, s0, s1]
          refine tk (i := 9) (oi := ?_) (v := ?_) ?_ (by kernel_rfl) ?_ (Or.inl ⟨?_, ?_⟩) (by assumption) ?_; rotate_left 2; (focus ((try simp only [gT, gs, gz]); try rfl)); exact fun _ _ _ h => h; rfl; (focus (intro wS hwS; (try dsimp only at hwS); go_simp; all_goals with_reducible rfl)); try simp only [Act.put, sT, s0, s1]
          refine tk (i := 10) (oi := ?_) (v := ?_) ?_ (by kernel_rfl) ?_ (Or.inl ⟨?_, ?_⟩) (by assumption) ?_; rotate_left 2; (focus ((try simp only [gT, gs, gz]); try rfl)); exact fun _ _ _ h => h; rfl; (focus (intro wS hwS; (try dsimp only at hwS); go_simp; all_goals with_reducible rfl)); try simp only [Act.put, sT, s0, s1]
          refine tk (i := 11) (oi := ?_) (v := ?_) ?_ (by kernel_rfl) ?_ (Or.inl ⟨?_, ?_⟩) (by assumption) ?_; rotate_left 2; (focus ((try simp only [gT, gs, gz]); try rfl)); exact fun _ _ _ h => h; rfl; (focus (intro wS hwS; (try dsimp only at hwS); go_simp; all_goals with_reducible rfl)); try simp only [Act.put, sT, s0, s1]
          refine tk (i := 12) (oi := ?_) (v := ?_) ?_ (by kernel_rfl) ?_ (Or.inl ⟨?_, ?_⟩) (by assumption) ?_; rotate_left 2; (focus ((try simp only [gT, gs, gz]); try rfl)); exact fun _ _ _ h => h; rfl; (focus (intro wS hwS; (try dsimp only at hwS); go_simp; all_goals with_reducible rfl)); try simp only [Act.put, sT, s0, s1]
          refine tk (i := 13) (oi := ?_) (v := ?_) ?_ (by kernel_rfl) ?_ (Or.inl ⟨?_, ?_⟩) (by assumption) ?_; rotate_left 2; (focus ((try simp only [gT, gs, gz]); try rfl)); exact fun _ _ _ h => h; rfl; (focus (intro wS hwS; (try dsimp only at hwS); go_simp; all_goals with_reducible rfl)); try simp only [Act.put, sT, s0, s1]
          refine tk (i := 14) (oi := ?_) (v := ?_) ?_ (by kernel_rfl) ?_ (Or.inl ⟨?_, ?_⟩) (by assumption) ?_; rotate_left 2; (focus ((try simp only [gT, gs, gz]); try rfl)); exact fun _ _ _ h => h; rfl; (focus (intro wS hwS; (try dsimp only at hwS); go_simp; all_goals with_reducible rfl)); try simp only [Act.put, sT, s0, s1]
          refine wpAnyH_ready (rs := [15]) (by kernel_rfl) (by simp) ?_
          refine AllReadyH.cons (o := ?_) ?_ (fun K hK => ?_) AllReadyH.nil; rotate_left 1; (focus ((try simp only [gT, gs, gz]); try rfl))
          go_simp
          go_at_call 77
          refine XcL.out.mono ?_
          rintro e w7 ⟨q, nq, cq, rfl, rq, hq1, hq2, b7⟩
          obtain ⟨-, -, hI, -, -⟩ := id hHeld
          have ilC := XilB.out.below (XilB.out.zle XhZ.out) b7
          have kC := XkB.out.below b7 XkB.out.lt
          have hcP7 := ilC.rc.ways.un t Xho.out
          have hfz := ilC.rc.ways.frz t htl
          have hI7 := (b7.cell (World.block_lt_of_cell? _ _ hI)).trans hI
          have S7 : w7.cell? ⟨B, 0, none⟩ = some (.pointer (some ⟨R, 0, none⟩)) ∧ w7.cell? ⟨R, 0, none⟩ = some (.slice (some ⟨P, 0, none⟩) n n) ∧ w7.cell? ⟨P, i, none⟩ = some (.slice (some ⟨g1, o1, none⟩) m1 c1) ∧ w7.cell? ⟨wr.heap.size, 0, none⟩ = some (.int .i64 s) ∧ w7.cell? ⟨wr.heap.size, 1, none⟩ = some (.int .i64 (t : Int)) := ⟨ilC.rc.cells.1, ilC.rc.cells.2.1, hI7, (kC.cell 0).trans rfl, (kC.cell 1).trans rfl⟩
          have hqo : ∀ g, (Value.slice A2 m c2).ownBlock = some g → g ≠ q := fun g hg e => by have := (XilB.out.own.lt g hg).2; omega
          have hqP : q ≠ P := by have := XilB.out.rc.ways.lt; omega
          have hrB : Touch (fun b => b = P) w7 (w7.setCell ⟨P, t, none⟩ (.slice (some ⟨q, 0, none⟩) nq cq)) := (Touch.refl (fun b => b = P) w7).setCell (p := ⟨P, t, none⟩) (fun _ => rfl) _
          have hit : i ≠ t := fun e => by have h1 := Xhwi.out; rw [e, Xho.out] at h1; cases h1
          have hxP : wr.heap.size ≠ P := by have := XhlB.out; have := XhAlo.out; omega
          have S8 : (w7.setCell ⟨P, t, none⟩ (.slice (some ⟨q, 0, none⟩) nq cq)).cell? ⟨B, 0, none⟩ = some (.pointer (some ⟨R, 0, none⟩)) ∧ (w7.setCell ⟨P, t, none⟩ (.slice (some ⟨q, 0, none⟩) nq cq)).cell? ⟨R, 0, none⟩ = some (.slice (some ⟨P, 0, none⟩) n n) ∧ (w7.setCell ⟨P, t, none⟩ (.slice (some ⟨q, 0, none⟩) nq cq)).cell? ⟨P, i, none⟩ = some (.slice (some ⟨g1, o1, none⟩) m1 c1) ∧ (w7.setCell ⟨P, t, none⟩ (.slice (some ⟨q, 0, none⟩) nq cq)).cell? ⟨wr.heap.size, 0, none⟩ = some (.int .i64 s) ∧ (w7.setCell ⟨P, t, none⟩ (.slice (some ⟨q, 0, none⟩) nq cq)).cell? ⟨wr.heap.size, 1, none⟩ = some (.int .i64 (t : Int)) := by
           refine ⟨hrB.cell S7.1 XhBR.out.1, hrB.cell S7.2.1 XhBR.out.2, ?_, hrB.cell S7.2.2.2.1 hxP, hrB.cell S7.2.2.2.2 hxP⟩
           rw [World.cell?_setCell_other _ _ _ _ (fun e => by injection e with _ e; exact hit e.symm)]
           exact hI7
          have kD := kC.touch hrB hxP
          clear hI cB cR hcI kA0 kA1 hcP XilB XkB XcL
          have XilC := hide ilC
          have XkC := hide kC
          have Xrq := hide rq
          have Xhq1 := hide hq1
          have Xhq2 := hide hq2
          have Xb7 := hide b7
          have XS7 := hide S7
          have XS8 := hide S8
          have Xhqo := hide hqo
          have XhqP := hide hqP
          have XhrB := hide hrB
          have Xhit := hide hit
          have XhxP := hide hxP
          have XhI7 := hide hI7
          have XkD := hide kD
          clear ilC kC rq hq1 hq2 b7 S7 S8 hqo hqP hrB hit hxP hI7 kD
          refine hK.out _ _ ?_ (fun hHeld => ?_)
          ·exact XS7.out
          clear hK K
          try simp only [Act.put, sT, s0, s1]
          refine tk (i := 16) (oi := ?_) (v := ?_) ?_ (by kernel_rfl) ?_ (Or.inl ⟨?_, ?_⟩) (by assumption) ?_; rotate_left 2; (focus ((try simp only [gT, gs, gz]); try rfl)); exact fun _ _ _ h => h; rfl; (focus (intro wS hwS; (try dsimp only at hwS); go_simp; all_goals with_reducible rfl)); try simp only [Act.put, sT, s0, s1]
          refine wpAnyH_ready (rs := [17]) (by kernel_rfl) (by simp) ?_
          refine AllReadyH.cons (o := ?_) ?_ (fun K hK => ?_) AllReadyH.nil; rotate_left 1; (focus ((try simp only [gT, gs, gz]); try rfl))
          go_simp
          refine hK.out _ _ ?_ (fun hHeld => ?_)
          ·exact XS8.out
          clear hK K
          try simp only [Act.put, sT, s0, s1]
          refine wpAnyH_done (by kernel_rfl) ?_ _
          have hPl := XilC.out.rc.ways.lt
          have rc8 := XilC.out.rc.put htl Xrq.out (fun b hb => by rw [hb]; exact ⟨XhqP.out, Xhq2.out⟩)
          have inw8 := XilC.out.inw.put XhD.out Xhx.out Xhwi.out Xhwl.out Xhdi.out Xhy.out Xho.out
          have own8 := XhrB.out.own XilC.out.own (fun g hg e => by have h1 := (XilC.out.own.lt g hg).1; have h2 := XhlB.out; omega)
          have bz8 := XilC.out.bz.setCell (p := ⟨P, t, none⟩) XhP.out (.slice (some ⟨q, 0, none⟩) nq cq)
          have rn8 := XilC.out.rn.touch XhrB.out (fun b hb e => hb.2 e)
          have lo8 := Nat.le_trans XilC.out.lo_ XhrB.out.size
          have apq : ∀ b, (Fr b ∨ b = q) → ¬ (Value.slice A2 m c2).ownBlock = some b := fun b hb e => by
           rcases hb with hb | hb
           ·exact XilC.out.ap b hb e
           ·exact Xhqo.out b e hb
          have hlm := XilC.out.len
          have kx := XkD.out
          have hwit : (W.set t (some (wi ++ [s])))[i]? = some (some wi) := by rw [List.getElem?_set_ne (fun e => Xhit.out e.symm)]; exact Xhwi.out
          clear XilC XkC Xrq Xb7 XS7 XS8 XhrB XhI7 XkD hHeld
          generalize w7.setCell ⟨P, t, none⟩ (.slice (some ⟨q, 0, none⟩) nq cq) = w8 at *
          have al9 : Below w8.heap.size w8 (w8.alloc (.cells #[.int .i64 (t : Int)] 3)) := (Below.refl _ _).alloc (Nat.le_refl _) _
          have kx1 := (kx.cell 1).trans rfl
          have hm3 : m ≤ 2000 := by
           have h1 := inw8.cnt
           have h2 := cnt_le (W.set t (some (wi ++ [s])))
           have h3 := inw8.som.len
           have h4 := XhD.out.small
           simp only [List.length_append, List.length_singleton] at h1
           omega
          have rone : RdI (w8.alloc (.cells #[.int .i64 (t : Int)] 3)) (fun b => b = w8.heap.size) (.slice (some ⟨w8.heap.size, 0, none⟩) 1 1) [(t : Int)] := Rd.of_blk (us := [Value.int .i64 (t : Int)]) (Blk.new _ _ _) rfl rfl (by decide)
          have own9 := own8.alloc (.cells #[.int .i64 (t : Int)] 3)
          have lo9 := Nat.le_trans lo8 al9.size
          have Xrc8 := hide rc8
          have Xinw8 := hide inw8
          have Xown8 := hide own8
          have Xbz8 := hide bz8
          have Xrn8 := hide rn8
          have Xlo8 := hide lo8
          have Xapq := hide apq
          have Xhlm := hide hlm
          have Xkx := hide kx
          have Xhwit := hide hwit
          have Xal9 := hide al9
          have Xrone := hide rone
          have Xown9 := hide own9
          have Xlo9 := hide lo9
          clear rc8 inw8 own8 bz8 rn8 lo8 apq hlm kx hwit al9 rone own9 lo9
          go_wp2_with (at_builtin; refine wp_append _ rfl (.tmp 80) (.tmp 83) _ rfl Tryz.elemInt lo _ m (next.map (Value.int .i64)) rfl Xown9.out _ _ [.int .i64 (t : Int)] 1 rfl rfl Xrone.out (by intro u hu; obtain rfl := List.mem_singleton.1 hu; rfl) (by unfold maxLen; omega) (by omega) Xlo9.out ?_)
          intro A9 c9 w9 o9 gr9 hb9
          have hown : ∀ g, (Value.slice A2 m c2).ownBlock = some g → lo ≤ g := fun g hg => (Xown9.out.lt g hg).1
          have t9 : Touch (fun k => (Value.slice A2 m c2).ownBlock = some k) (w8.alloc (.cells #[.int .i64 (t : Int)] 3)) w9 := (Touch.refl _ _).grown gr9 (fun k e _ => e)
          have rcA := Xrc8.out.below Xal9.out
          have hPA := rcA.ways.lt
          have hlB := XhlB.out
          have hZP := XhP.out
          have rc9 := rcA.touch t9 (fun b hb => Xapq.out b hb) (fun e => by have := hown _ e; omega) (fun e => by have := hown _ e; omega) (fun e => by have := hown _ e; omega)
          have hP8 := Xrc8.out.ways.lt
          have bz9 := (Xbz8.out.trans (Xal9.out.mono (by omega))).grown gr9 (by omega) (fun z hz => by have := hown z hz; omega)
          have rn9 := (Xrn8.out.below Xal9.out (fun b hb => Nat.lt_of_lt_of_le hb.1 Xlo8.out)).touch t9 (fun b hb e => by have := hown b e; have := hb.1; omega)
          have lo10 := Nat.le_trans Xlo9.out t9.size
          have ap9 : ∀ b, (Fr b ∨ b = q) → ¬ (Value.slice A9 (m + 1) c9).ownBlock = some b := fun b hb e => by
           rcases hb9 with h | h
           ·exact Xapq.out b hb (h.symm.trans e)
           ·rw [h] at e
            injection e with e
            have h1 := Xrc8.out.flt b hb
            have h2 := Xal9.out.size
            omega
          have il9 : IL (topOf G) D d now lo w3 Z B R P n (.pointer (some ⟨pb, 0, none⟩)) S (.slice (some ⟨bN, oN, none⟩) ln cn) (W.set t (some (wi ++ [s]))) (fun b => Fr b ∨ b = q) (next ++ [(t : Int)]) (.slice A9 (m + 1) c9) (m + 1) p (k + 1) w9 := ⟨by rw [List.length_append, ← Xhlm.out]; rfl, by rw [List.map_append]; exact o9, Xinw8.out, rc9, bz9, rn9, lo10, ap9⟩
          clear rc9 bz9 rn9 lo10 ap9 rcA hPA hlB hZP hP8 t9 hown o9 gr9 hb9 kx1
          have Xil9 := hide il9
          clear il9
          go_wp2_with fail
          go_roundw
          case rel => exact ⟨k + 1, W.set t (some (wi ++ [s])), _, next ++ [(t : Int)], A9, m + 1, c9, by omega, by go_num, rfl, Xhwit.out, Xil9.out⟩
          case measure => simp [intOf]; omega
        ·have hltk' : ¬ (k : Int) < (n5 : Int) := by omega
         have inw2 := il.inw.row XhD.out Xhx.out hwi Xhdi.out (by rw [← Xhn5.out]; omega)
         have il2 : IL (topOf G) D d now lo w3 Z B R P n (.pointer (some ⟨pb, 0, none⟩)) S (.slice (some ⟨bN, oN, none⟩) ln cn) W Fr next (.slice A2 m c2) m (p + 1) 0 wr := ⟨il.len, il.own, inw2, il.rc, il.bz, il.rn, il.lo_, il.ap⟩
         clear il inw2
         have Xil2 := hide il2
         have Xhwi := hide hwi
         clear il2 hwi
         go_wp2_with fail
         go_roundw
         case rel => exact ⟨p + 1, W, Fr, next, A2, m, c2, by omega, by go_num, rfl, Xil2.out⟩
         case measure => simp [intOf]; omega
      ·have hltp' : ¬ (p : Int) < (ln : Int) := by omega
       have lvn := il.inw.out (by rw [← Xhln.out]; omega) (by rw [← Xhln.out]; omega)
       have hm2 : m ≤ 2000 := by
        have h1 := lvn.cnt
        have h2 := cnt_le W
        have h3 := lvn.som.len
        have h4 := XhD.out.small
        have h5 := il.len
        omega
       have hZl := il.zle XhZ.out
       have cs := sort_ways il.rc hn2 XhD.out lvn.som lvn.sort (fun x hx => (lvn.now_ x).1 hx) il.own il.len hm2 (fun g hg => by
        have h1 := (il.own.lt g hg).1
        have h2 := XhlB.out
        exact ⟨fun hf => il.ap g hf hg, by omega, by omega, by omega⟩)
       have rn2 := (Rd.of_own il.own).mono (F' := fun b => b < wr.heap.size ∧ b ≠ P) (fun b hb => by
        have h1 := il.own.lt b hb
        have h2 := XhlB.out
        exact ⟨h1.2, by omega⟩)
       have hlm := il.len
       have rc2 := il.rc
       have bz2 := il.bz
       clear il
       have Xlvn := hide lvn
       have Xcs := hide cs
       have Xrn2 := hide rn2
       have Xhlm := hide hlm
       have Xrc2 := hide rc2
       have Xbz2 := hide bz2
       have XhZl := hide hZl
       clear lvn cs rn2 hlm rc2 bz2 hZl
       go_wp2_with fail
       with_reducible refine Xcs.out.mono ?_
       rintro e w8 ⟨rfl, b8⟩
       have rc3 := Xrc2.out.below b8
       have bz3 := Xbz2.out.trans (b8.mono XhZl.out)
       have rn3 := (Xrn2.out.below b8 (fun b hb => hb.1)).mono (F' := fun b => b < w8.heap.size ∧ b ≠ P) (fun b hb => ⟨Nat.lt_of_lt_of_le hb.1 b8.size, hb.2⟩)
       clear b8 Xcs Xrc2 Xbz2 Xrn2
       have Xrc3 := hide rc3
       have Xbz3 := hide bz3
       have Xrn3 := hide rn3
       clear rc3 bz3 rn3
       go_wp2_with fail
       go_roundg (gk - 1)
       case rel => exact ⟨d + 1, W, Fr, next, A2, m, c2, rfl, Xhlm.out, Xrn3.out, Xlvn.out, Xrc3.out, Xbz3.out, by have := Xhκ.out; have := Xhdn.out; omega⟩
       case measure => have := Xhκ.out; have := Xhdn.out; omega
    ·have h0' : ¬ (ln : Int) > 0 := by omega
     have hnow : now = [] := List.eq_nil_of_length_eq_zero (by omega)
     subst hnow
     obtain ⟨L, hL, fam⟩ := lv.done XhD.out
     subst hL
     have hLn : L.length = n ∧ ∀ l ∈ L, l.length ≤ 2000 := ⟨by rw [Xhn.out]; exact fam.len, lens_of XhD.out lv.som⟩
     have hbw := (Xt.out.next (by rw [← XhZ.out]; exact bz)).le
     have c0 := rc.cells.1
     clear rn lv bz
     have Xrc := hide rc
     have Xfam := hide fam
     have XhLn := hide hLn
     have Xhbw := hide hbw
     clear rc fam hLn hbw
     go_wp2_with fail
     go_ret2
     exact ⟨Xhbw.out, 0, D, Xhai.out, .inr ⟨rfl, R, S, L, rfl, Xhfs.out, Xfam.out, ⟨_, B, P, n, _, Xrc.out, hn2, XhLn.out⟩⟩⟩
 ·have hee : (ev != 0) = true := by simpa using hev
  have hbw := t.le
  clear t
  have Xhai := hide hai
  have Xhbw := hide hbw
  have Xhev := hide hev
  clear hai hbw hev
  go_wp2_with fail
  go_ret2
  exact ⟨Xhbw.out, ev, D, Xhai.out, .inl ⟨Xhev.out, rfl⟩⟩
end Go.Proofs.YtlpokomfljmogaaGreat

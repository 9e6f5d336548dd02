/- The statement RouteWalks: the walk. -/
import Derived.Test.YtlpokomfljmogaaGreatRoute5
namespace Go.Proofs.YtlpokomfljmogaaGreat
set_option linter.unusedVariables false
set_option linter.unusedSimpArgs false
open Go.RowKit
attribute [local irreducible] wpStill wpOne wpPh
structure RwSt (w wr : World) (a : Option Addr) (S : List FoundD) (L : List (List Int)) (v : Value) (D : Sts) : Prop where
 rt : RtIs wr a S L
 rd : RdSt wr (fun b => b < wr.heap.size) v D
 le : Below w.heap.size w wr
theorem RwSt.below {w wr wq : World} {a : Option Addr} {S : List FoundD} {L : List (List Int)} {v : Value} {D : Sts} (h : RwSt w wr a S L v D) (b : Below wr.heap.size wr wq) : RwSt w wq a S L v D :=
 ⟨h.rt.below b, (h.rd.below b (fun b hb => hb)).mono (fun z hz => Nat.lt_of_lt_of_le hz b.size), h.le.trans (b.mono h.le.size)⟩
set_option maxRecDepth 100000 in
set_option maxHeartbeats 8000000 in
theorem walk_RouteWalks (C : Array Value) (G : GramD) (w : World) (hg : GramCells w C.toList G) :
  Calls Tryz.prog 7 #[.agg C] w (Quiet w (.bool true)) := by
 obtain ⟨vt, vn, vr, hC, hg, -⟩ := hg
 obtain rfl : C = #[vt, vn, vr, .int .i64 G.start] := Array.toList_inj.1 hC
 clear hC
 generalize G.start = st at *
 obtain ⟨A1, c1, A2, c2, A3, c3, rfl, rfl, rfl, -⟩ := hg.slices
 obtain ⟨w1, hw1⟩ : ∃ w1, w1 = w.alloc (.cells #[.slice A1 G.terms.length c1, .slice A2 G.nons.length c2, .slice A3 G.rules.length c3, .int .i64 st] 25) := ⟨_, rfl⟩
 have g1 := GBox.new hg st
 have b1 : Below w.heap.size w w1 := by rw [hw1]; exact (Below.refl _ w).alloc (Nat.le_refl _) _
 rw [← hw1] at g1
 have hm := law_much g1.gram st
 have rb := fun wr (g : GBox wr (· < w.heap.size) w.heap.size A1 c1 A2 c2 A3 c3 G.terms.length G.nons.length G.rules.length st G) => ref13_Build g.gram g.gram.lt st
 have ro := fun wr (g : GBox wr (· < w.heap.size) w.heap.size A1 c1 A2 c2 A3 c3 G.terms.length G.nons.length G.rules.length st G) => route_Of g.gram st
 obtain ⟨q0, q1, q2, q3⟩ := g1.cells
 generalize G.terms.length = T at *
 generalize G.nons.length = N at *
 generalize G.rules.length = R at *
 obtain ⟨F, hF⟩ : ∃ F : Nat → Prop, F = fun b => b < w.heap.size := ⟨_, rfl⟩
 rw [← hF] at g1 rb ro
 rw [hw1] at q0 q1 q2 q3 hm
 clear hg hF
 generalize checkOf G st = ck at *
 have Xhm := hide hm
 have Xrb := hide rb
 have Xro := hide ro
 have Xg1 := hide g1
 have Xb1 := hide b1
 clear hm rb ro g1 b1
 go_enter Tryz.func7, Tryz.ntmps7
 go_wp2_with fail
 refine Xhm.out.mono ?_
 rintro e w2 ⟨r, hr, rfl, b2⟩
 rw [← hw1] at b2
 have g2 := Xg1.out.below b2
 have bb2 := Xb1.out.trans (b2.mono Xb1.out.size)
 clear q0 q1 q2 q3 hw1 Xhm Xg1 Xb1 b2 hr
 by_cases hbig : 60 < r
 ·have Xbb2 := hide bb2
  have Xg2 := hide g2
  clear bb2 g2
  go_wp2_with fail
  refine (law16_awake _).mono ?_
  rintro e w3 ⟨rfl, b3⟩
  have bb3 := Xbb2.out.trans (b3.mono Xbb2.out.size)
  clear b3
  have Xbb3 := hide bb3
  clear bb3
  go_wp2_with fail
  go_ret
  exact ⟨rfl, Xbb3.out⟩
 ·have c2' := Xrb.out _ g2
  obtain ⟨q0, q1, q2, q3⟩ := g2.cells
  have Xbb2 := hide bb2
  have Xg2 := hide g2
  have Xc2' := hide c2'
  clear bb2 g2 c2'
  go_wp2_with fail
  refine Xc2'.out.mono ?_
  rintro e w3 hp
  obtain ⟨b3, Aa, na, ca, ev, D, rfl, rd3, hai⟩ := hp.flat
  have g3 := Xg2.out.below b3
  have bb3 := Xbb2.out.trans (b3.mono Xbb2.out.size)
  have rd3 := rd3.mono (F' := fun b => b < w3.heap.size) (fun b hb => hb.2)
  clear q0 q1 q2 q3 hp Xc2' Xg2 Xbb2 b3
  have c3' := Xro.out _ g3
  obtain ⟨q0, q1, q2, q3⟩ := g3.cells
  have Xbb3 := hide bb3
  have Xg3 := hide g3
  have Xc3' := hide c3'
  have Xrd3 := hide rd3
  have Xhai := hide hai
  clear bb3 g3 c3' rd3 hai
  go_wp2_with fail
  refine Xc3'.out.mono ?_
  rintro e w4 hp
  obtain ⟨b4, a, ev', D', S, L, rfl, hai', rt4, hor⟩ := hp.flat
  obtain ⟨rfl, rfl⟩ := Xhai.out.unique hai'
  have p4 : RwSt w w4 a S L (.slice Aa na ca) D := ⟨rt4, (Xrd3.out.below b4 (fun b hb => hb)).mono (fun z hz => Nat.lt_of_lt_of_le hz b4.size), Xbb3.out.trans (b4.mono Xbb3.out.size)⟩
  have hna : na = D.length := (p4.rd.at_).1
  have hnc := (p4.rd.at_).2.1
  have hcm := (p4.rd.at_).2.2.1
  unfold maxLen at hcm
  have hgood : (∃ (k : Nat), k < na) → DW (topOf G) D ∧ FamW (topOf G) D L := by
   rintro ⟨k, hk⟩
   rcases hor with ⟨h, -⟩ | ⟨h, -, hf⟩
   ·have := hai'.nil h
    rw [hna, this] at hk
    cases hk
   ·subst h
    exact ⟨hai'.dw, hf⟩
  have hLn : L.length = na := by
   rcases hor with ⟨h, -, rfl⟩ | ⟨h, -, hf⟩
   ·rw [hna, hai'.nil h]; rfl
   ·rw [hna]; exact hf.len
  have cl := route_Len p4.rt
  rw [hLn] at cl
  have hee : (ev != ev) = false := by simp
  clear q0 q1 q2 q3 hp Xc3' Xg3 Xbb3 b4 Xrd3 hai' hor rt4 Xhai
  have Xp4 := hide p4
  have Xhna := hide hna
  have Xhgood := hide hgood
  have XhLn := hide hLn
  have Xcl := hide cl
  clear p4 hna hgood hLn cl
  go_wp2_with fail
  refine Xcl.out.mono ?_
  rintro e w' ⟨rfl, rfl⟩
  clear Xcl
  go_wp2_with fail
  go_loopw [7] (fun ix wr => ∃ i : Nat, i ≤ na ∧ ix = .int .i64 i ∧ RwSt w wr a S L (.slice Aa na ca) D) (fun ix _ => na - (intOf ix).toNat)
  case atStart => exact ⟨0, Nat.zero_le _, rfl, Xp4.out⟩
  case round =>
   clear Xp4
   obtain ⟨i, hi, rfl, p⟩ := hrel
   by_cases hlti : i < na
   ·have hlti' : (i : Int) < (na : Int) := by omega
    obtain ⟨hD, fam⟩ := Xhgood.out ⟨i, hlti⟩
    obtain ⟨l, hl⟩ : ∃ l, L[i]? = some l := ⟨_, List.getElem?_eq_getElem (by rw [XhLn.out]; exact hlti)⟩
    obtain ⟨di, hdi⟩ : ∃ di, D[i]? = some di := ⟨_, List.getElem?_eq_getElem (by rw [← Xhna.out]; exact hlti)⟩
    have cw := route_Way p.rt (i : Int)
    rw [wayR_in hl] at cw
    have Xp := hide p
    have XhD := hide hD
    have Xfam := hide fam
    have Xhl := hide hl
    have Xhdi := hide hdi
    have Xcw := hide cw
    clear p hD fam hl hdi cw
    go_wp2_with fail
    refine Xcw.out.mono ?_
    rintro e w5 ho
    obtain ⟨A5, n5, c5, rfl, hn5, r5, b5⟩ := ho.flat
    have p5 := Xp.out.below b5
    have ck := ref13_Walk p5.rd (fun b hb => hb) r5 (fun b hb => hb) 0
    have hw5 := (Xfam.out.path i l Xhl.out).walk XhD.out
    rw [hw5] at ck
    have hnl : n5 = l.length := hn5
    clear ho b5 Xp Xcw hn5 r5 hw5
    have Xp5 := hide p5
    have Xck := hide ck
    have Xhnl := hide hnl
    clear p5 ck hnl
    go_wp2_with fail
    refine Xck.out.mono ?_
    rintro e w6 ⟨rfl, b6⟩
    have p6 := Xp5.out.below b6
    clear b6 Xck Xp5
    have hii : ((i : Int) != (i : Int)) = false := by simp
    have Xp6 := hide p6
    clear p6
    go_wp2_with fail
    obtain ⟨-, -, -, hcell⟩ := Xp6.out.rd.at_
    obtain ⟨bS, oS, rfl, -, hcs⟩ := hcell (by omega)
    obtain ⟨y1, y2, cu1, cu2, s1, s2⟩ := hcs i di Xhdi.out
    obtain ⟨At, nt, ct, rfl, -⟩ := id s2
    obtain ⟨hnt, hntc, hctm, -⟩ := RdIt.at_ s2
    unfold maxLen at hctm
    have hlt6 := World.block_lt_of_cell? _ _ cu2
    clear hcell hcs s1 cu1
    have Xhnt := hide hnt
    clear hnt
    go_loopw [10] (fun kx wr => ∃ k : Nat, k ≤ nt ∧ kx = .int .i64 k ∧ RwSt w wr a S L (.slice (some ⟨bS, oS, none⟩) na ca) D ∧ Below w6.heap.size w6 wr) (fun kx _ => nt - (intOf kx).toNat)
    case atStart => exact ⟨0, Nat.zero_le _, rfl, Xp6.out, Below.refl _ _⟩
    case round =>
     clear Xp6
     obtain ⟨k, hk, rfl, p, bz⟩ := hrel
     have cu2' := (bz.cell (p := ⟨bS, oS + i * 2 + 1, none⟩) hlt6).trans cu2
     by_cases hltk : k < nt
     ·have hltk' : (k : Int) < (nt : Int) := by omega
      have s2' := s2.below bz (fun b hb => hb)
      obtain ⟨-, -, -, hcell5⟩ := RdIt.at_ s2'
      obtain ⟨b5, o5, rfl, -, hcc5⟩ := hcell5 (by omega)
      obtain ⟨⟨s, tt⟩, hy⟩ : ∃ y, di.2[k]? = some y := ⟨_, List.getElem?_eq_getElem (by rw [← Xhnt.out]; exact hltk)⟩
      obtain ⟨p0, p1⟩ := hcc5 k _ hy
      simp only at p0 p1
      obtain ⟨-, -, t, rfl, htl⟩ := XhD.out.tr i di Xhdi.out s tt (List.mem_of_getElem? hy)
      obtain ⟨lt, hlt⟩ : ∃ l, L[t]? = some l := ⟨_, List.getElem?_eq_getElem (by rw [Xfam.out.len]; exact htl)⟩
      have cw := route_Way p.rt (t : Int)
      rw [wayR_in hlt] at cw
      have hle : lt.length ≤ l.length + 1 := by
       have h1 := Xfam.out.closed i l di Xhl.out Xhdi.out s t lt (List.mem_of_getElem? hy) hlt
       have h2 : PathD D (l ++ [s]) t := .snoc l i di s t (Xfam.out.path i l Xhl.out) Xhdi.out (List.mem_of_getElem? hy)
       have := nm_len ((Xfam.out.path t lt hlt).ok XhD.out) (h2.ok XhD.out) h1
       simpa using this
      clear hcell5 hcc5 s2' p0
      have Xp := hide p
      have Xbz := hide bz
      have Xhy := hide hy
      have Xhlt := hide hlt
      have Xcw := hide cw
      have Xhle := hide hle
      clear p bz hy hlt cw hle
      go_wp2_with fail
      refine Xcw.out.mono ?_
      rintro e w7 ho
      obtain ⟨A7, n7, c7, rfl, hn7, -, b7⟩ := ho.flat
      have p7 := Xp.out.below b7
      have bz7 := Xbz.out.trans (b7.mono Xbz.out.size)
      have hn7' : n7 = lt.length := hn7
      have hlong : ¬ ((n7 : Int) > (n5 : Int) + 1) := by have := Xhle.out; have := Xhnl.out; omega
      have hwr : IntKind.i64.wrap ((n5 : Int) + 1) = (n5 : Int) + 1 := by
       have h1 : l.length ≤ 2000 := by
        rcases p7.rt with ⟨-, h⟩ | ⟨_, _, -, ⟨_, _, _, _, _, -, -, -, h⟩, -⟩
        ·have := Xhl.out; rw [h] at this; cases this
        ·exact h l (List.mem_of_getElem? Xhl.out)
       have := Xhnl.out
       rw [IntKind.wrap_i64]; omega
      clear ho b7 Xp Xbz Xcw hn7 hn7' cu2' p1
      have Xp7 := hide p7
      have Xbz7 := hide bz7
      clear p7 bz7
      go_wp2_with fail
      go_roundw
      case rel => exact ⟨k + 1, by omega, by go_num, Xp7.out, Xbz7.out⟩
      case measure => simp [intOf]; omega
     ·have hltk' : ¬ (k : Int) < (nt : Int) := by omega
      have Xp := hide p
      clear p
      go_wp2_with fail
      go_roundw
      case rel => exact ⟨i + 1, by omega, by go_num, Xp.out⟩
      case measure => simp [intOf]; omega
   ·have hlti' : ¬ (i : Int) < (na : Int) := by omega
    have Xp := hide p
    clear p
    go_wp2_with fail
    refine (law16_awake _).mono ?_
    rintro e w6 ⟨rfl, b6⟩
    have bb6 := Xp.out.le.trans (b6.mono Xp.out.le.size)
    clear b6
    have Xbb6 := hide bb6
    clear bb6
    go_wp2_with fail
    go_ret
    exact ⟨rfl, Xbb6.out⟩
end Go.Proofs.YtlpokomfljmogaaGreat

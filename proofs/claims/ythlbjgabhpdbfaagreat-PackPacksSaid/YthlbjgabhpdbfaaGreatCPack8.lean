/- Packed tables: opened, right, unpacked. -/
import Derived.Test.YthlbjgabhpdbfaaGreatCPack7
import Derived.Test.YthlbjgabhpdbfaaGreatCPack5
import Derived.Test.YthlbjgabhpdbfaaGreatCRs1
namespace Go.Proofs.YthlbjgabhpdbfaaGreat
set_option linter.unusedVariables false
set_option linter.unusedSimpArgs false
open Go.RowKit Go.Shelf
attribute [local irreducible] wpStill wpOne wpPh
def OpenedPost (w:World) (F:Nat->Prop) (p:PackD) (e:Ending) (w':World):Prop:=Below w.heap.size w w'/\ ∃vr va vg,e= .returned (.tuple #[TV vr (unpackP p).terms (unpackP p).nons va vg,.bool (rightP p)])/\IsTab w' (fun b=>(F b\/w.heap.size<=b)/\b<w'.heap.size) vr va vg (unpackP p)
theorem lenT_open {p:PackD} (h:LenP p):LenT (openT p):=by
 have key: ∀(L:List (List Int)) (x:Int),(∀r∈L,r.length<=70000)->(L.getD x.toNat []).length<=70000:=fun L x hL=>by
  rw [List.getD_eq_getElem?_getD]
  cases hx:L[x.toNat]? with
  |none=>simp
  |some r=>exact hL r (List.mem_of_getElem? hx)
 refine⟨fun r hr=> ?_,fun r hr=> ?_⟩
 ·obtain⟨x,-,rfl⟩:=List.mem_map.1 hr
  rw [List.length_map];exact key _ _ h.2.1
 ·obtain⟨x,-,rfl⟩:=List.mem_map.1 hr
  rw [List.length_map];exact key _ _ h.2.2
theorem un_no {p:PackD} (h:rightP p=false):unpackP p=noTab:=by unfold unpackP;rw [h];rfl
theorem un_yes {p:PackD} (h:rightP p=true):unpackP p=openT p:=by unfold unpackP;rw [if_pos h]
set_option maxRecDepth 100000 in
set_option maxHeartbeats 8000000 in
theorem pack_opened {w:World} {F:Nat->Prop} {v1 v2 v3 v4 v5:Value} {p:PackD} (h:IsPack w F v1 v2 v3 v4 v5 p) (hl:LenP p):
  Calls Tryz.prog 89 #[PV v1 p.terms p.nons v2 v3 v4 v5] w (OpenedPost w F p):=by
 obtain⟨A1,c1,A2,c2,A3,c3,A4,c4,A5,c5,rfl,rfl,rfl,rfl,rfl,k1,k2,k3,k4,k5⟩:=h.slices
 have hF:=h.lt
 obtain⟨T,hT⟩: ∃q,q=p.terms:=⟨_,rfl⟩
 obtain⟨N,hN⟩: ∃q,q=p.nons:=⟨_,rfl⟩
 obtain⟨w1,hw1⟩: ∃q,q=w.alloc (.cells #[.slice A1 p.rules.length c1,.int .i64 p.terms,.int .i64 p.nons,.slice A2 p.row.length c2,.slice A3 p.rows.length c3,.slice A4 p.gow.length c4,.slice A5 p.gows.length c5] 52):=⟨_,rfl⟩
 have g1:=PBox.new h p.terms p.nons
 rw [<-hw1]at g1
 obtain⟨n1,hn1⟩: ∃q,q=p.rules.length:=⟨_,rfl⟩
 obtain⟨n2,hn2⟩: ∃q,q=p.row.length:=⟨_,rfl⟩
 obtain⟨n3,hn3⟩: ∃q,q=p.rows.length:=⟨_,rfl⟩
 obtain⟨n4,hn4⟩: ∃q,q=p.gow.length:=⟨_,rfl⟩
 obtain⟨n5,hn5⟩: ∃q,q=p.gows.length:=⟨_,rfl⟩
 rw [<-hT,<-hN,<-hn1,<-hn2,<-hn3,<-hn4,<-hn5]at g1 hw1
 rw [<-hT,<-hN,<-hn1,<-hn2,<-hn3,<-hn4,<-hn5]
 have b1:Below w.heap.size w w1:=by rw [hw1];exact(Below.refl _ w).alloc (Nat.le_refl _) _
 have hz1:w1.heap.size=w.heap.size+1:=by rw [hw1];simp
 obtain⟨w2,hw2⟩: ∃q,q=w1.alloc (.cells #[.slice none 0 0,.int .i64 0,.int .i64 0,.slice none 0 0,.slice none 0 0] 35):=⟨_,rfl⟩
 have b2:Below w1.heap.size w1 w2:=by rw [hw2];exact(Below.refl _ _).alloc (Nat.le_refl _) _
 have kr2:Blk w2 w1.heap.size 35 #[.slice none 0 0,.int .i64 0,.int .i64 0,.slice none 0 0,.slice none 0 0]:=by rw [hw2];exact Blk.new _ _ _
 rw [hz1]at kr2
 have hz2:w2.heap.size=w.heap.size+2:=by rw [hw2,World.size_alloc,hz1]
 have g2:=g1.below b2
 have bw2:=b1.trans (b2.mono b1.size)
 have cO:=pack_open g2.pk hl
 have hL:=lenT_open hl
 have hRP:rightP p=(rowsP p&&(fitT (openT p)&&sameP p (packT (openT p)))):=rfl
 have hOO:openO p=if rowsP p=true then openT p else noTab:=rfl
 have hUn:unpackP p=if rightP p=true then openT p else noTab:=rfl
 have hUno:= @un_no p
 have hUyes:= @un_yes p
 unfold OpenPost at cO
 obtain⟨U,hU⟩: ∃q,q=unpackP p:=⟨_,rfl⟩
 obtain⟨rP,hrP⟩: ∃q,q=rightP p:=⟨_,rfl⟩
 unfold OpenedPost
 rw [<-hU,<-hrP]
 rw [<-hrP,<-hU]at hUno hUyes
 rw [<-hrP]at hRP
 rw [<-hT,<-hN]at cO
 rw [hw1]at hw2
 have hsP:sameP p (packT (openT p))=(decide (p.row=(packT (openT p)).row)&&(decide (p.gow=(packT (openT p)).gow)&&(decide (p.rows=(packT (openT p)).rows)&&decide (p.gows=(packT (openT p)).gows)))):=rfl
 have hTT:(openT p).terms=T/\(openT p).nons=N:=⟨hT.symm,hN.symm⟩
 clear h k1 k2 k3 k4 k5 hw1 hz1 b1 b2 g1 hU hrP hUn
 generalize openT p=t at *
 obtain⟨Xg2,XhT,XhN,Xhn1,Xhn2,Xhn3,Xhn4,Xhn5,Xkr2,Xbw2,XcO,XhL,XhRP,XhOO⟩:=HqZ14 g2 hT hN hn1 hn2 hn3 hn4 hn5 kr2 bw2 cO hL hRP hOO;obtain⟨XhUno,XhUyes,XhF,Xhz2,XhsP,XhTT,Xhl⟩:=HqZ7 hUno hUyes hF hz2 hsP hTT hl;clear g2 hT hN hn1 hn2 hn3 hn4 hn5 kr2 bw2 cO hL hRP hOO hUno hUyes hF hz2 hsP hTT hl
 go_enter Tryz.func89,Tryz.ntmps89
 go_wp2_with fail
 rw [<-hw2]
 refine XcO.out.mono ?_
 rintro e w4 ⟨b4,vr,va,vg,rfl,ht⟩
 cases hr:rowsP p with
 |false=>
  generalize openO p=tO at *
  obtain⟨B1,d1,B2,d2,B3,d3,rfl,rfl,rfl,-,-,-,-,-,-⟩:=ht.slices
  have kr4:=Xkr2.out.below b4 Xkr2.out.lt
  have bw4:=Xbw2.out.trans (b4.mono Xbw2.out.size)
  generalize tO.rules.length=m1 at *
  generalize tO.acts.length=m2 at *
  generalize tO.goto.length=m3 at *
  generalize tO.terms=TO at *
  generalize tO.nons=NO at *
  obtain⟨w5,hw5⟩: ∃q,q=w4.alloc (.cells #[.slice B1 m1 d1,.int .i64 TO,.int .i64 NO,.slice B2 m2 d2,.slice B3 m3 d3] 35):=⟨_,rfl⟩
  have b5:Below w4.heap.size w4 w5:=by rw [hw5];exact(Below.refl _ _).alloc (Nat.le_refl _) _
  have kr5:=kr4.below b5 kr4.lt
  have bw5:=bw4.trans (b5.mono bw4.size)
  have d0:=(kr5.cell 0).trans rfl
  have d1:=(kr5.cell 1).trans rfl
  have d2:=(kr5.cell 2).trans rfl
  have d3:=(kr5.cell 3).trans rfl
  have d4:=(kr5.cell 4).trans rfl
  have f0:=kr5.frozen 0
  have f1:=kr5.frozen 1
  have f2:=kr5.frozen 2
  have f3:=kr5.frozen 3
  have f4:=kr5.frozen 4
  obtain⟨Xkr,Xbw⟩:=HqZ2 kr5 bw5
  rw [hw5]at d0 d1 d2 d3 d4 f0 f1 f2 f3 f4
  clear ht kr4 bw4 b4 b5 kr5 bw5
  have Xhr:=hide hr;clear hr
  go_wp2_with fail
  rw [<-hw5]
  have hno:rP=false:=by
   rw [XhRP.out]
   rw [Xhr.out];rfl
  have hnu:=XhUno.out hno
  have k5:=((((Xkr.out.put 0 (.slice none 0 0)).put 1 (.int .i64 0)).put 2 (.int .i64 0)).put 3 (.slice none 0 0)).put 4 (.slice none 0 0)
  have e0:=(k5.cell 0).trans rfl
  have e1:=(k5.cell 1).trans rfl
  have e2:=(k5.cell 2).trans rfl
  have e3:=(k5.cell 3).trans rfl
  have e4:=(k5.cell 4).trans rfl
  have t5:=touch_five w5 (w.heap.size+1) (.slice none 0 0) (.int .i64 0) (.int .i64 0) (.slice none 0 0) (.slice none 0 0)
  refine bodyPost_ret (v:= .tuple #[TV (.slice none 0 0) 0 0 (.slice none 0 0) (.slice none 0 0),.bool false]) (by simp [results,Tryz.results89,go_sem,e0,e1,e2,e3,e4]) rfl ?_
  have b5:=t5.toBelow (fun k e=>by omega) Xbw.out Xbw.out.size
  refine⟨by first|exact b5|exact b5.drew,_,_,_,by rw [hno,hnu];rfl,?_⟩
  rw [hnu]
  exact IsTab.none _ _ (fun b hb=>hb.2)
 |true=>
  have hOt:openO p=t:=by rw [XhOO.out,if_pos hr]
  rw [hOt]at ht
  obtain⟨B1,u1,B2,u2,B3,u3,rfl,rfl,rfl,-,-,-,-,-,-⟩:=ht.slices
  rw [hOt,XhTT.out.1,XhTT.out.2]
  have kr4:=Xkr2.out.below b4 Xkr2.out.lt
  have bw4:=Xbw2.out.trans (b4.mono Xbw2.out.size)
  have g4:=Xg2.out.below b4
  have tb:=TBox.new ht T N
  obtain⟨w5,hw5⟩: ∃q,q=w4.alloc (.cells #[.slice B1 t.rules.length u1,.int .i64 T,.int .i64 N,.slice B2 t.acts.length u2,.slice B3 t.goto.length u3] 35):=⟨_,rfl⟩
  rw [<-hw5]at tb
  have b5:Below w4.heap.size w4 w5:=by rw [hw5];exact(Below.refl _ _).alloc (Nat.le_refl _) _
  have cP:=pack_Pack tb.tab XhL.out
  rw [XhTT.out.1,XhTT.out.2]at cP
  unfold PackPost at cP
  have g5:=g4.below b5
  have kr5:=kr4.below b5 kr4.lt
  have bw5:=bw4.trans (b5.mono bw4.size)
  obtain⟨m1,hm1⟩: ∃q,q=t.rules.length:=⟨_,rfl⟩
  obtain⟨m2,hm2⟩: ∃q,q=t.acts.length:=⟨_,rfl⟩
  obtain⟨m3,hm3⟩: ∃q,q=t.goto.length:=⟨_,rfl⟩
  rw [<-hm1,<-hm2,<-hm3]at hw5 tb cP
  rw [<-hm1,<-hm2,<-hm3]
  have h45:w4.heap.size<w5.heap.size:=by rw [hw5];simp
  clear ht g4 kr4 bw4 b4 b5 hOt
  obtain⟨Xhr,Xtb,XcP,Xg5,Xkr5,Xbw5,Xhm1,Xhm2,Xhm3,Xh45⟩:=HqZ10 hr tb cP g5 kr5 bw5 hm1 hm2 hm3 h45;clear hr tb cP g5 kr5 bw5 hm1 hm2 hm3 h45
  go_wp2_with fail
  rw [<-hw5]
  refine XcP.out.mono ?_
  rintro e w6 ⟨b6,vr6,vrow,vrows,vgow,vgows,rfl,hp⟩
  obtain⟨C1,x1,C2,x2,C3,x3,C4,x4,C5,x5,rfl,rfl,rfl,rfl,rfl,-,-,-,-,-⟩:=hp.slices
  obtain⟨q,hq⟩: ∃q,q=packO t:=⟨_,rfl⟩
  rw [<-hq]at hp⊢
  have qb:=PBox.new hp q.terms q.nons
  obtain⟨s1,hs1⟩: ∃n,n=q.rules.length:=⟨_,rfl⟩
  obtain⟨s2,hs2⟩: ∃n,n=q.row.length:=⟨_,rfl⟩
  obtain⟨s3,hs3⟩: ∃n,n=q.rows.length:=⟨_,rfl⟩
  obtain⟨s4,hs4⟩: ∃n,n=q.gow.length:=⟨_,rfl⟩
  obtain⟨s5,hs5⟩: ∃n,n=q.gows.length:=⟨_,rfl⟩
  obtain⟨qT,hqT⟩: ∃n,n=q.terms:=⟨_,rfl⟩
  obtain⟨qN,hqN⟩: ∃n,n=q.nons:=⟨_,rfl⟩
  rw [<-hs1,<-hs2,<-hs3,<-hs4,<-hs5,<-hqT,<-hqN]at qb⊢
  obtain⟨w7,hw7⟩: ∃q,q=w6.alloc (.cells #[.slice C1 s1 x1,.int .i64 qT,.int .i64 qN,.slice C2 s2 x2,.slice C3 s3 x3,.slice C4 s4 x4,.slice C5 s5 x5] 52):=⟨_,rfl⟩
  rw [<-hw7]at qb
  have b7:Below w6.heap.size w6 w7:=by rw [hw7];exact(Below.refl _ _).alloc (Nat.le_refl _) _
  have b67:=b6.trans (b7.mono b6.size)
  have g7:=Xg5.out.below b67
  have t7:=Xtb.out.below b67
  have kr7:=Xkr5.out.below b67 Xkr5.out.lt
  have bw7:=Xbw5.out.trans (b67.mono Xbw5.out.size)
  clear hp b7 b67 hs1 hs2 hs3 hs4 hs5 hqT hqN
  cases hf:fitT t with
  |false=>
   have d0:=(kr7.cell 0).trans rfl
   have d1:=(kr7.cell 1).trans rfl
   have d2:=(kr7.cell 2).trans rfl
   have d3:=(kr7.cell 3).trans rfl
   have d4:=(kr7.cell 4).trans rfl
   have f0:=kr7.frozen 0
   have f1:=kr7.frozen 1
   have f2:=kr7.frozen 2
   have f3:=kr7.frozen 3
   have f4:=kr7.frozen 4
   rw [hw7]at d0 d1 d2 d3 d4 f0 f1 f2 f3 f4
   obtain⟨Xkr,Xbw⟩:=HqZ2 kr7 bw7;clear kr7 bw7 b6;obtain⟨Xg7,Xt7,Xqb,Xhf,Xhq⟩:=HqZ5 g7 t7 qb hf hq;clear g7 t7 qb hf hq
   go_wp2_with fail
   rw [<-hw7]
   have hno:rP=false:=by
    rw [XhRP.out]
    rw [Xhr.out,Xhf.out];rfl
   have hnu:=XhUno.out hno
   have k5:=((((Xkr.out.put 0 (.slice none 0 0)).put 1 (.int .i64 0)).put 2 (.int .i64 0)).put 3 (.slice none 0 0)).put 4 (.slice none 0 0)
   have e0:=(k5.cell 0).trans rfl
   have e1:=(k5.cell 1).trans rfl
   have e2:=(k5.cell 2).trans rfl
   have e3:=(k5.cell 3).trans rfl
   have e4:=(k5.cell 4).trans rfl
   have t5:=touch_five w7 (w.heap.size+1) (.slice none 0 0) (.int .i64 0) (.int .i64 0) (.slice none 0 0) (.slice none 0 0)
   refine bodyPost_ret (v:= .tuple #[TV (.slice none 0 0) 0 0 (.slice none 0 0) (.slice none 0 0),.bool false]) (by simp [results,Tryz.results89,go_sem,e0,e1,e2,e3,e4]) rfl ?_
   have b5:=t5.toBelow (fun k e=>by omega) Xbw.out Xbw.out.size
   refine⟨by first|exact b5|exact b5.drew,_,_,_,by rw [hno,hnu];rfl,?_⟩
   rw [hnu]
   exact IsTab.none _ _ (fun b hb=>hb.2)
  |true=>
   have hqq:q=packT t:=by rw [hq];unfold packO;rw [if_pos hf]
   subst hqq
   obtain⟨z0,z1,z2,z3,z4,z5,z6⟩:=g7.cells
   obtain⟨y0,y1,y2,y3,y4,y5,y6⟩:=qb.cells
   rw [hw7]at z0 z1 z2 z3 z4 z5 z6 y0 y1 y2 y3 y4 y5 y6
   clear b6 hq
   obtain⟨Xg7,Xt7,Xqb,Xhf,Xkr7,Xbw7⟩:=HqZ6 g7 t7 qb hf kr7 bw7;clear g7 t7 qb hf kr7 bw7
   go_wp2_with fail
   rw [<-hw7]
   refine(equal_ints Xg7.out.pk.row Xqb.out.pk.row).mono ?_
   rintro e w8 ⟨rfl,b8⟩
   have g8:=Xg7.out.below b8
   have t8:=Xt7.out.below b8
   have q8:=Xqb.out.below b8
   have kr8:=Xkr7.out.below b8 Xkr7.out.lt
   have bw8:=Xbw7.out.trans (b8.mono Xbw7.out.size)
   clear z0 z1 z2 z3 z4 z5 z6 y0 y1 y2 y3 y4 y5 y6 b8 Xg7 Xt7 Xqb Xkr7 Xbw7
   by_cases e0:p.row=(packT t).row
   ·rw [decide_eq_true e0]
    obtain⟨z0,z1,z2,z3,z4,z5,z6⟩:=g8.cells
    obtain⟨y0,y1,y2,y3,y4,y5,y6⟩:=q8.cells
    obtain⟨Xg8,Xt8,Xq8,Xkr8,Xbw8,Xe0⟩:=HqZ6 g8 t8 q8 kr8 bw8 e0;clear g8 t8 q8 kr8 bw8 e0
    go_wp2_with fail
    refine(equal_ints Xg8.out.pk.gow Xq8.out.pk.gow).mono ?_
    rintro e w9 ⟨rfl,b9⟩
    have g9:=Xg8.out.below b9
    have t9:=Xt8.out.below b9
    have q9:=Xq8.out.below b9
    have kr9:=Xkr8.out.below b9 Xkr8.out.lt
    have bw9:=Xbw8.out.trans (b9.mono Xbw8.out.size)
    clear z0 z1 z2 z3 z4 z5 z6 y0 y1 y2 y3 y4 y5 y6 b9 Xg8 Xt8 Xq8 Xkr8 Xbw8
    by_cases e1:p.gow=(packT t).gow
    ·rw [decide_eq_true e1]
     obtain⟨z0,z1,z2,z3,z4,z5,z6⟩:=g9.cells
     obtain⟨y0,y1,y2,y3,y4,y5,y6⟩:=q9.cells
     obtain⟨Xg9,Xt9,Xq9,Xkr9,Xbw9,Xe1⟩:=HqZ6 g9 t9 q9 kr9 bw9 e1;clear g9 t9 q9 kr9 bw9 e1
     go_wp2_with fail
     refine(equal_rows Xg9.out.pk.rows Xq9.out.pk.rows Xg9.out.pk.lt Xq9.out.pk.lt).mono ?_
     rintro e w10 ⟨rfl,b10⟩
     have g10:=Xg9.out.below b10
     have t10:=Xt9.out.below b10
     have q10:=Xq9.out.below b10
     have kr10:=Xkr9.out.below b10 Xkr9.out.lt
     have bw10:=Xbw9.out.trans (b10.mono Xbw9.out.size)
     clear z0 z1 z2 z3 z4 z5 z6 y0 y1 y2 y3 y4 y5 y6 b10 Xg9 Xt9 Xq9 Xkr9 Xbw9
     by_cases e2:p.rows=(packT t).rows
     ·rw [decide_eq_true e2]
      obtain⟨z0,z1,z2,z3,z4,z5,z6⟩:=g10.cells
      obtain⟨y0,y1,y2,y3,y4,y5,y6⟩:=q10.cells
      obtain⟨Xg10,Xt10,Xq10,Xkr10,Xbw10,Xe2⟩:=HqZ6 g10 t10 q10 kr10 bw10 e2;clear g10 t10 q10 kr10 bw10 e2
      go_wp2_with fail
      refine(equal_rows Xg10.out.pk.gows Xq10.out.pk.gows Xg10.out.pk.lt Xq10.out.pk.lt).mono ?_
      rintro e w11 ⟨rfl,b11⟩
      have g11:=Xg10.out.below b11
      have t11:=Xt10.out.below b11
      have q11:=Xq10.out.below b11
      have kr11:=Xkr10.out.below b11 Xkr10.out.lt
      have bw11:=Xbw10.out.trans (b11.mono Xbw10.out.size)
      clear z0 z1 z2 z3 z4 z5 z6 y0 y1 y2 y3 y4 y5 y6 b11 Xg10 Xt10 Xq10 Xkr10 Xbw10
      by_cases e3:p.gows=(packT t).gows
      ·rw [decide_eq_true e3]
       have d0:=(kr11.cell 0).trans rfl
       have d1:=(kr11.cell 1).trans rfl
       have d2:=(kr11.cell 2).trans rfl
       have d3:=(kr11.cell 3).trans rfl
       have d4:=(kr11.cell 4).trans rfl
       have f0:=kr11.frozen 0
       have f1:=kr11.frozen 1
       have f2:=kr11.frozen 2
       have f3:=kr11.frozen 3
       have f4:=kr11.frozen 4
       obtain⟨z0,z1,z2,z3,z4⟩:=t11.cells
       obtain⟨Xg11,Xt11,Xq11,Xkr11,Xbw11,Xe3⟩:=HqZ6 g11 t11 q11 kr11 bw11 e3;clear g11 t11 q11 kr11 bw11 e3
       go_wp2_with fail
       have hyes:rP=true:=by
        rw [XhRP.out,Xhr.out,Xhf.out,XhsP.out,decide_eq_true Xe0.out,decide_eq_true Xe1.out,decide_eq_true Xe2.out,decide_eq_true Xe3.out]
        rfl
       have hut:=XhUyes.out hyes
       have k5:=((((Xkr11.out.put 0 (.slice B1 m1 u1)).put 1 (.int .i64 T)).put 2 (.int .i64 N)).put 3 (.slice B2 m2 u2)).put 4 (.slice B3 m3 u3)
       have e0:=(k5.cell 0).trans rfl
       have e1:=(k5.cell 1).trans rfl
       have e2:=(k5.cell 2).trans rfl
       have e3:=(k5.cell 3).trans rfl
       have e4:=(k5.cell 4).trans rfl
       have t5:=touch_five w11 (w.heap.size+1) (.slice B1 m1 u1) (.int .i64 T) (.int .i64 N) (.slice B2 m2 u2) (.slice B3 m3 u3)
       refine bodyPost_ret (v:= .tuple #[TV (.slice B1 m1 u1) T N (.slice B2 m2 u2) (.slice B3 m3 u3),.bool true]) (by simp [results,Tryz.results89,go_sem,e0,e1,e2,e3,e4]) rfl ?_
       have b5:=t5.toBelow (fun k e=>by omega) Xbw11.out Xbw11.out.size
       refine⟨by first|exact b5|exact b5.drew,_,_,_,by rw [hyes,hut,XhTT.out.1,XhTT.out.2],?_⟩
       rw [hut]
       have hz:=Xhz2.out
       refine tab_cw (t:=t) Xt11.out.tab.rules Xt11.out.tab.acts Xt11.out.tab.goto (by first|exact t5|exact t5.drew) (fun b hb e=> ?_) (CW.refl _) (fun b hb=> ?_) (fun b hb=>hb.2) Xt11.out.tab.tn Xt11.out.tab.wr
       ·rcases hb.1 with h|h
        ·have:=XhF.out b h;omega
        ·omega
       ·refine⟨?_,Nat.lt_of_lt_of_le (Xt11.out.tab.lt b hb) t5.size⟩
        rcases hb.1 with h|h
        ·exact .inl h
        ·exact .inr (by omega)
      ·rw [decide_eq_false e3]
       have d0:=(kr11.cell 0).trans rfl
       have d1:=(kr11.cell 1).trans rfl
       have d2:=(kr11.cell 2).trans rfl
       have d3:=(kr11.cell 3).trans rfl
       have d4:=(kr11.cell 4).trans rfl
       have f0:=kr11.frozen 0
       have f1:=kr11.frozen 1
       have f2:=kr11.frozen 2
       have f3:=kr11.frozen 3
       have f4:=kr11.frozen 4
       obtain⟨Xkr,Xbw⟩:=HqZ2 kr11 bw11;clear kr11 bw11;obtain⟨Xg11,Xt11,Xq11,Xe3⟩:=HqZ4 g11 t11 q11 e3;clear g11 t11 q11 e3
       go_wp2_with fail
       have hno:rP=false:=by
        rw [XhRP.out]
        rw [Xhr.out,Xhf.out,XhsP.out,decide_eq_true Xe0.out,decide_eq_true Xe1.out,decide_eq_true Xe2.out,decide_eq_false Xe3.out];rfl
       have hnu:=XhUno.out hno
       have k5:=((((Xkr.out.put 0 (.slice none 0 0)).put 1 (.int .i64 0)).put 2 (.int .i64 0)).put 3 (.slice none 0 0)).put 4 (.slice none 0 0)
       have e0:=(k5.cell 0).trans rfl
       have e1:=(k5.cell 1).trans rfl
       have e2:=(k5.cell 2).trans rfl
       have e3:=(k5.cell 3).trans rfl
       have e4:=(k5.cell 4).trans rfl
       have t5:=touch_five w11 (w.heap.size+1) (.slice none 0 0) (.int .i64 0) (.int .i64 0) (.slice none 0 0) (.slice none 0 0)
       refine bodyPost_ret (v:= .tuple #[TV (.slice none 0 0) 0 0 (.slice none 0 0) (.slice none 0 0),.bool false]) (by simp [results,Tryz.results89,go_sem,e0,e1,e2,e3,e4]) rfl ?_
       have b5:=t5.toBelow (fun k e=>by omega) Xbw.out Xbw.out.size
       refine⟨by first|exact b5|exact b5.drew,_,_,_,by rw [hno,hnu];rfl,?_⟩
       rw [hnu]
       exact IsTab.none _ _ (fun b hb=>hb.2)
     ·rw [decide_eq_false e2]
      have d0:=(kr10.cell 0).trans rfl
      have d1:=(kr10.cell 1).trans rfl
      have d2:=(kr10.cell 2).trans rfl
      have d3:=(kr10.cell 3).trans rfl
      have d4:=(kr10.cell 4).trans rfl
      have f0:=kr10.frozen 0
      have f1:=kr10.frozen 1
      have f2:=kr10.frozen 2
      have f3:=kr10.frozen 3
      have f4:=kr10.frozen 4
      obtain⟨Xkr,Xbw⟩:=HqZ2 kr10 bw10;clear kr10 bw10;obtain⟨Xg10,Xt10,Xq10,Xe2⟩:=HqZ4 g10 t10 q10 e2;clear g10 t10 q10 e2
      go_wp2_with fail
      have hno:rP=false:=by
       rw [XhRP.out]
       rw [Xhr.out,Xhf.out,XhsP.out,decide_eq_true Xe0.out,decide_eq_true Xe1.out,decide_eq_false Xe2.out];rfl
      have hnu:=XhUno.out hno
      have k5:=((((Xkr.out.put 0 (.slice none 0 0)).put 1 (.int .i64 0)).put 2 (.int .i64 0)).put 3 (.slice none 0 0)).put 4 (.slice none 0 0)
      have e0:=(k5.cell 0).trans rfl
      have e1:=(k5.cell 1).trans rfl
      have e2:=(k5.cell 2).trans rfl
      have e3:=(k5.cell 3).trans rfl
      have e4:=(k5.cell 4).trans rfl
      have t5:=touch_five w10 (w.heap.size+1) (.slice none 0 0) (.int .i64 0) (.int .i64 0) (.slice none 0 0) (.slice none 0 0)
      refine bodyPost_ret (v:= .tuple #[TV (.slice none 0 0) 0 0 (.slice none 0 0) (.slice none 0 0),.bool false]) (by simp [results,Tryz.results89,go_sem,e0,e1,e2,e3,e4]) rfl ?_
      have b5:=t5.toBelow (fun k e=>by omega) Xbw.out Xbw.out.size
      refine⟨by first|exact b5|exact b5.drew,_,_,_,by rw [hno,hnu];rfl,?_⟩
      rw [hnu]
      exact IsTab.none _ _ (fun b hb=>hb.2)
    ·rw [decide_eq_false e1]
     have d0:=(kr9.cell 0).trans rfl
     have d1:=(kr9.cell 1).trans rfl
     have d2:=(kr9.cell 2).trans rfl
     have d3:=(kr9.cell 3).trans rfl
     have d4:=(kr9.cell 4).trans rfl
     have f0:=kr9.frozen 0
     have f1:=kr9.frozen 1
     have f2:=kr9.frozen 2
     have f3:=kr9.frozen 3
     have f4:=kr9.frozen 4
     obtain⟨Xkr,Xbw⟩:=HqZ2 kr9 bw9;clear kr9 bw9;obtain⟨Xg9,Xt9,Xq9,Xe1⟩:=HqZ4 g9 t9 q9 e1;clear g9 t9 q9 e1
     go_wp2_with fail
     have hno:rP=false:=by
      rw [XhRP.out]
      rw [Xhr.out,Xhf.out,XhsP.out,decide_eq_true Xe0.out,decide_eq_false Xe1.out];rfl
     have hnu:=XhUno.out hno
     have k5:=((((Xkr.out.put 0 (.slice none 0 0)).put 1 (.int .i64 0)).put 2 (.int .i64 0)).put 3 (.slice none 0 0)).put 4 (.slice none 0 0)
     have e0:=(k5.cell 0).trans rfl
     have e1:=(k5.cell 1).trans rfl
     have e2:=(k5.cell 2).trans rfl
     have e3:=(k5.cell 3).trans rfl
     have e4:=(k5.cell 4).trans rfl
     have t5:=touch_five w9 (w.heap.size+1) (.slice none 0 0) (.int .i64 0) (.int .i64 0) (.slice none 0 0) (.slice none 0 0)
     refine bodyPost_ret (v:= .tuple #[TV (.slice none 0 0) 0 0 (.slice none 0 0) (.slice none 0 0),.bool false]) (by simp [results,Tryz.results89,go_sem,e0,e1,e2,e3,e4]) rfl ?_
     have b5:=t5.toBelow (fun k e=>by omega) Xbw.out Xbw.out.size
     refine⟨by first|exact b5|exact b5.drew,_,_,_,by rw [hno,hnu];rfl,?_⟩
     rw [hnu]
     exact IsTab.none _ _ (fun b hb=>hb.2)
   ·rw [decide_eq_false e0]
    have d0:=(kr8.cell 0).trans rfl
    have d1:=(kr8.cell 1).trans rfl
    have d2:=(kr8.cell 2).trans rfl
    have d3:=(kr8.cell 3).trans rfl
    have d4:=(kr8.cell 4).trans rfl
    have f0:=kr8.frozen 0
    have f1:=kr8.frozen 1
    have f2:=kr8.frozen 2
    have f3:=kr8.frozen 3
    have f4:=kr8.frozen 4
    obtain⟨Xkr,Xbw⟩:=HqZ2 kr8 bw8;clear kr8 bw8;obtain⟨Xg8,Xt8,Xq8,Xe0⟩:=HqZ4 g8 t8 q8 e0;clear g8 t8 q8 e0
    go_wp2_with fail
    have hno:rP=false:=by
     rw [XhRP.out]
     rw [Xhr.out,Xhf.out,XhsP.out,decide_eq_false Xe0.out];rfl
    have hnu:=XhUno.out hno
    have k5:=((((Xkr.out.put 0 (.slice none 0 0)).put 1 (.int .i64 0)).put 2 (.int .i64 0)).put 3 (.slice none 0 0)).put 4 (.slice none 0 0)
    have e0:=(k5.cell 0).trans rfl
    have e1:=(k5.cell 1).trans rfl
    have e2:=(k5.cell 2).trans rfl
    have e3:=(k5.cell 3).trans rfl
    have e4:=(k5.cell 4).trans rfl
    have t5:=touch_five w8 (w.heap.size+1) (.slice none 0 0) (.int .i64 0) (.int .i64 0) (.slice none 0 0) (.slice none 0 0)
    refine bodyPost_ret (v:= .tuple #[TV (.slice none 0 0) 0 0 (.slice none 0 0) (.slice none 0 0),.bool false]) (by simp [results,Tryz.results89,go_sem,e0,e1,e2,e3,e4]) rfl ?_
    have b5:=t5.toBelow (fun k e=>by omega) Xbw.out Xbw.out.size
    refine⟨by first|exact b5|exact b5.drew,_,_,_,by rw [hno,hnu];rfl,?_⟩
    rw [hnu]
    exact IsTab.none _ _ (fun b hb=>hb.2)
theorem pack_Right {w:World} {F:Nat->Prop} {v1 v2 v3 v4 v5:Value} {p:PackD} (h:IsPack w F v1 v2 v3 v4 v5 p) (hl:LenP p):
  Calls Tryz.prog 32 #[PV v1 p.terms p.nons v2 v3 v4 v5] w (Quiet w (.bool (rightP p))):=by
 obtain⟨A1,c1,A2,c2,A3,c3,A4,c4,A5,c5,rfl,rfl,rfl,rfl,rfl,-⟩:=h.slices
 obtain⟨w1,hw1⟩: ∃q,q=w.alloc (.cells #[.slice A1 p.rules.length c1,.int .i64 p.terms,.int .i64 p.nons,.slice A2 p.row.length c2,.slice A3 p.rows.length c3,.slice A4 p.gow.length c4,.slice A5 p.gows.length c5] 52):=⟨_,rfl⟩
 have g1:=PBox.new h p.terms p.nons
 have b1:Below w.heap.size w w1:=by rw [hw1];exact(Below.refl _ w).alloc (Nat.le_refl _) _
 rw [<-hw1]at g1
 have cO:=pack_opened g1.pk hl
 unfold OpenedPost at cO
 generalize p.terms=T at *
 generalize p.nons=N at *
 generalize p.rules.length=n1 at *
 generalize p.row.length=n2 at *
 generalize p.rows.length=n3 at *
 generalize p.gow.length=n4 at *
 generalize p.gows.length=n5 at *
 generalize rightP p=r at *
 generalize unpackP p=t at *
 clear h g1
 obtain⟨XcO,Xb1⟩:=HqZ2 cO b1;clear cO b1
 go_enter Tryz.func32,Tryz.ntmps32
 go_wp2_with fail
 rw [<-hw1]
 refine XcO.out.mono ?_
 rintro e w2 ⟨b2,vr,va,vg,rfl,ht⟩
 obtain⟨B1,u1,B2,u2,B3,u3,rfl,rfl,rfl,-⟩:=ht.slices
 clear ht
 generalize t.rules.length=m1 at *
 generalize t.acts.length=m2 at *
 generalize t.goto.length=m3 at *
 have bw:=Xb1.out.trans (b2.mono Xb1.out.size)
 have bw3:=bw.alloc bw.size (.cells #[.slice B1 m1 u1,.int .i64 t.terms,.int .i64 t.nons,.slice B2 m2 u2,.slice B3 m3 u3] 35)
 clear b2 bw
 have Xbw3:=hide bw3;clear bw3
 go_wp2_with fail
 go_ret
 exact⟨ret_bool rfl,by first|exact Xbw3.out|exact Xbw3.out.drew⟩
def UnpackPost (w:World) (F:Nat->Prop) (p:PackD) (e:Ending) (w':World):Prop:=Below w.heap.size w w'/\ ∃vr va vg,e= .returned (TV vr (unpackP p).terms (unpackP p).nons va vg)/\IsTab w' (fun b=>(F b\/w.heap.size<=b)/\b<w'.heap.size) vr va vg (unpackP p)
theorem pack_Unpack {w:World} {F:Nat->Prop} {v1 v2 v3 v4 v5:Value} {p:PackD} (h:IsPack w F v1 v2 v3 v4 v5 p) (hl:LenP p):
  Calls Tryz.prog 34 #[PV v1 p.terms p.nons v2 v3 v4 v5] w (UnpackPost w F p):=by
 obtain⟨A1,c1,A2,c2,A3,c3,A4,c4,A5,c5,rfl,rfl,rfl,rfl,rfl,-⟩:=h.slices
 obtain⟨w1,hw1⟩: ∃q,q=w.alloc (.cells #[.slice A1 p.rules.length c1,.int .i64 p.terms,.int .i64 p.nons,.slice A2 p.row.length c2,.slice A3 p.rows.length c3,.slice A4 p.gow.length c4,.slice A5 p.gows.length c5] 52):=⟨_,rfl⟩
 have g1:=PBox.new h p.terms p.nons
 have b1:Below w.heap.size w w1:=by rw [hw1];exact(Below.refl _ w).alloc (Nat.le_refl _) _
 rw [<-hw1]at g1
 have hF:=h.lt
 have hz1:w1.heap.size=w.heap.size+1:=by rw [hw1];simp
 obtain⟨w2,hw2⟩: ∃q,q=w1.alloc (.cells #[.slice none 0 0,.int .i64 0,.int .i64 0,.slice none 0 0,.slice none 0 0] 35):=⟨_,rfl⟩
 have b2:Below w1.heap.size w1 w2:=by rw [hw2];exact(Below.refl _ _).alloc (Nat.le_refl _) _
 have kr2:Blk w2 w1.heap.size 35 #[.slice none 0 0,.int .i64 0,.int .i64 0,.slice none 0 0,.slice none 0 0]:=by rw [hw2];exact Blk.new _ _ _
 rw [hz1]at kr2
 have hz2:w2.heap.size=w.heap.size+2:=by rw [hw2,World.size_alloc,hz1]
 have g2:=g1.below b2
 have bw2:=b1.trans (b2.mono b1.size)
 have cO:=pack_opened g2.pk hl
 unfold OpenedPost at cO
 unfold UnpackPost
 rw [hw1]at hw2
 generalize p.terms=T at *
 generalize p.nons=N at *
 generalize p.rules.length=n1 at *
 generalize p.row.length=n2 at *
 generalize p.rows.length=n3 at *
 generalize p.gow.length=n4 at *
 generalize p.gows.length=n5 at *
 generalize rightP p=r at *
 generalize unpackP p=t at *
 clear h g1 g2 hw1 b1 b2 hz1
 obtain⟨XcO,Xbw2,Xkr2,XhF,Xhz2⟩:=HqZ5 cO bw2 kr2 hF hz2;clear cO bw2 kr2 hF hz2
 go_enter Tryz.func34,Tryz.ntmps34
 go_wp2_with fail
 rw [<-hw2]
 refine XcO.out.mono ?_
 rintro e w4 ⟨b4,vr,va,vg,rfl,ht⟩
 obtain⟨B1,u1,B2,u2,B3,u3,rfl,rfl,rfl,-⟩:=ht.slices
 have kr4:=Xkr2.out.below b4 Xkr2.out.lt
 have bw4:=Xbw2.out.trans (b4.mono Xbw2.out.size)
 have tb:=TBox.new ht t.terms t.nons
 obtain⟨T',hT'⟩: ∃q,q=t.terms:=⟨_,rfl⟩
 obtain⟨N',hN'⟩: ∃q,q=t.nons:=⟨_,rfl⟩
 obtain⟨m1,hm1⟩: ∃q,q=t.rules.length:=⟨_,rfl⟩
 obtain⟨m2,hm2⟩: ∃q,q=t.acts.length:=⟨_,rfl⟩
 obtain⟨m3,hm3⟩: ∃q,q=t.goto.length:=⟨_,rfl⟩
 rw [<-hT',<-hN',<-hm1,<-hm2,<-hm3]at tb
 rw [<-hT',<-hN',<-hm1,<-hm2,<-hm3]
 obtain⟨w5,hw5⟩: ∃q,q=w4.alloc (.cells #[.slice B1 m1 u1,.int .i64 T',.int .i64 N',.slice B2 m2 u2,.slice B3 m3 u3] 35):=⟨_,rfl⟩
 rw [<-hw5]at tb
 have b5:Below w4.heap.size w4 w5:=by rw [hw5];exact(Below.refl _ _).alloc (Nat.le_refl _) _
 have kr5:=kr4.below b5 kr4.lt
 have bw5:=bw4.trans (b5.mono bw4.size)
 obtain⟨z0,z1,z2,z3,z4⟩:=tb.cells
 have d0:=(kr5.cell 0).trans rfl
 have d1:=(kr5.cell 1).trans rfl
 have d2:=(kr5.cell 2).trans rfl
 have d3:=(kr5.cell 3).trans rfl
 have d4:=(kr5.cell 4).trans rfl
 have f0:=kr5.frozen 0
 have f1:=kr5.frozen 1
 have f2:=kr5.frozen 2
 have f3:=kr5.frozen 3
 have f4:=kr5.frozen 4
 rw [hw5]at d0 d1 d2 d3 d4 f0 f1 f2 f3 f4 z0 z1 z2 z3 z4
 clear ht b4 b5 kr4 bw4
 obtain⟨Xkr5,Xbw5,Xtb,XhT',XhN',Xhm1,Xhm2,Xhm3⟩:=HqZ8 kr5 bw5 tb hT' hN' hm1 hm2 hm3;clear kr5 bw5 tb hT' hN' hm1 hm2 hm3
 go_wp2_with fail
 rw [<-hw5]
 have k5:=((((Xkr5.out.put 0 (.slice B1 m1 u1)).put 1 (.int .i64 T')).put 2 (.int .i64 N')).put 3 (.slice B2 m2 u2)).put 4 (.slice B3 m3 u3)
 have e0:=(k5.cell 0).trans rfl
 have e1:=(k5.cell 1).trans rfl
 have e2:=(k5.cell 2).trans rfl
 have e3:=(k5.cell 3).trans rfl
 have e4:=(k5.cell 4).trans rfl
 have t5:=touch_five w5 (w.heap.size+1) (.slice B1 m1 u1) (.int .i64 T') (.int .i64 N') (.slice B2 m2 u2) (.slice B3 m3 u3)
 refine bodyPost_ret (v:=TV (.slice B1 m1 u1) T' N' (.slice B2 m2 u2) (.slice B3 m3 u3)) (by simp [results,Tryz.results34,go_sem,e0,e1,e2,e3,e4]) rfl ?_
 have b5:=t5.toBelow (fun k e=>by omega) Xbw5.out Xbw5.out.size
 refine⟨by first|exact b5|exact b5.drew,_,_,_,by rw [XhT'.out,XhN'.out],?_⟩
 have hz:=Xhz2.out
 refine tab_cw (t:=t) Xtb.out.tab.rules Xtb.out.tab.acts Xtb.out.tab.goto (by first|exact t5|exact t5.drew) (fun b hb e=> ?_) (CW.refl _) (fun b hb=> ?_) (fun b hb=>hb.2) Xtb.out.tab.tn Xtb.out.tab.wr
 ·rcases hb.1 with h|h
  ·have:=XhF.out b h;omega
  ·omega
 ·refine⟨?_,Nat.lt_of_lt_of_le (Xtb.out.tab.lt b hb) t5.size⟩
  rcases hb.1 with h|h
  ·exact .inl h
  ·exact .inr (by omega)
end Go.Proofs.YthlbjgabhpdbfaaGreat
namespace Go.Proofs.YthlbjgabhpdbfaaGreat
set_option linter.unusedVariables false
set_option linter.unusedSimpArgs false
open Go.RowKit
attribute [local irreducible] wpStill wpOne wpPh
theorem LenP.of_packT {t:TabD} (h:LenT t) (hn:t.acts.length<=70000):LenP (packT t):=by
 have hA:=packU_ok (numsA t)
 have hG:=packU_ok (numsG t)
 refine⟨?_,fun r hr=> ?_,fun r hr=> ?_⟩
 ·have:=hA.len
  unfold numsA at this
  rw [List.length_map]at this
  show(packU (numsA t)).2.length<=70000
  unfold numsA
  omega
 ·have:=hA.mem r hr
  unfold numsA at this
  obtain⟨x,hx,rfl⟩:=List.mem_map.1 this
  rw [List.length_map];exact h.1 x hx
 ·have:=hG.mem r hr
  unfold numsG at this
  obtain⟨x,hx,rfl⟩:=List.mem_map.1 this
  rw [List.length_map];exact h.2 x hx
theorem lenP_no:LenP noPack:=⟨by decide,fun r h=>(by cases h),fun r h=>(by cases h)⟩
theorem rdl_rows {X:Type} {w:World} {F:Nat->Prop} {Q:Value->X->Prop} {v:Value} {l:List X} (h:RdL w F 1 (fun cs x=> ∃u,cs=[u]/\Q u x) v l):RdRw Q w F v l:=by
 obtain⟨A,c,hv,hc,hm,hr⟩:=h
 subst hv
 by_cases h0:0<l.length
 ·obtain⟨b,off,rfl,hb,hcell⟩:=hr h0
  obtain⟨Z,hZ,hP⟩:=list_choice (D:=l) (P:=fun i (z:Value)=>w.cell? ⟨b,off+i,none⟩=some z/\ ∀d,l[i]? =some d->Q z d) (fun i d hd=>by
   obtain⟨cs,hl,⟨u,rfl,hq⟩,hu⟩:=hcell i d hd
   refine⟨u,by have:=hu 0 u rfl;simpa using this,fun d' hd'=> ?_⟩
   rw [hd]at hd'
   injection hd' with hd'
   subst hd'
   exact hq)
  exact⟨Z,hZ,⟨_,l.length,c,rfl,hc,hm,by omega,fun _=>⟨b,off,rfl,hb,fun j u hu=>(hP j u hu).1⟩⟩,fun j z x hz hx=>(hP j z hz).2 x hx⟩
 ·have hD:l=[]:=List.eq_nil_of_length_eq_zero (by omega)
  subst hD
  exact⟨[],rfl,⟨A,0,c,rfl,Nat.zero_le _,hm,rfl,fun h=>absurd h (by omega)⟩,fun j z x hz hx=>by simp at hx⟩
section
open Go.ChangeShapes Go.WideShapes Go.ChangeAt Go.RowKit Go.Deep
variable {H : Type} {enc : TypeId × Value -> H} {w : World} {sp : Nat -> Bool}
theorem opens_actZ:OpensZ enc Tryz.prog w sp 46 (fun cs (x:It)=>ItemWf cs x):=
 opens_struct2Z Tryz.underlying46 (by kernel_rfl) (by kernel_rfl) (OpensZ.of (opens_int Tryz.underlying3)) (OpensZ.of (opens_int Tryz.underlying3))
theorem opens_actsZ:OpensZ enc Tryz.prog w sp 113 (fun cs (xs:List It)=> ∃v,cs=[v]/\RdL w (· <w.heap.size) 2 (fun cs x=>ItemWf cs x) v xs/\xs.length * 16<=140737488351232):=
 opens_listZ Tryz.underlying113 (by kernel_rfl) (by decide) (by kernel_rfl) opens_actZ
theorem opens_actssZ:OpensZ enc Tryz.prog w sp 32 (fun cs (xs:List (List It))=> ∃v,cs=[v]/\RdL w (· <w.heap.size) 1 (fun cs xs=> ∃v,cs=[v]/\RdL w (· <w.heap.size) 2 (fun cs x=>ItemWf cs x) v xs/\xs.length * 16<=140737488351232) v xs/\xs.length * 24<=140737488351232):=
 opens_listZ Tryz.underlying32 (by kernel_rfl) (by decide) (by kernel_rfl) opens_actsZ
theorem opens_intssZ:OpensZ enc Tryz.prog w sp 33 (fun cs (xs:List (List Int))=> ∃v,cs=[v]/\RdL w (· <w.heap.size) 1 (fun cs xs=> ∃v,cs=[v]/\RdL w (· <w.heap.size) 1 (fun cs n=>cs=[.int .i64 n]/\(Lit.int .i64 n).wf=true) v xs/\xs.length * 8<=140737488351232) v xs/\xs.length * 24<=140737488351232):=
 opens_listZ Tryz.underlying33 (by kernel_rfl) (by decide) (by kernel_rfl) opens_intsZ
def TableCells (w:World) (cs:List Value) (t:TabD):Prop:= ∃vr va vg,cs=[vr,.int .i64 t.terms,.int .i64 t.nons,va,vg]/\IsTab w (· <w.heap.size) vr va vg t
theorem rdl_rules {v:Value} {xs:List (Int×List Int)} (h:RdL w (· <w.heap.size) 2 (fun cs x=> ∃c0 c1,cs=[c0,c1]/\([c0]=[Value.int .i64 x.1]/\(Lit.int .i64 x.1).wf=true)/\ ∃v,[c1]=[v]/\RdL w (· <w.heap.size) 1 (fun cs n=>cs=[.int .i64 n]/\(Lit.int .i64 n).wf=true) v x.2/\x.2.length * 8<=140737488351232) v xs):
  RdL w (· <w.heap.size) 2 (ERule w (· <w.heap.size)) v xs/\ ∀r∈xs,W64 r.1:=by
 refine RdL.parts (RdL.also (E':=ERule w (· <w.heap.size)) (p:=fun r=>W64 r.1) h (fun cs x he=> ?_))
 obtain⟨a0,a1,rfl,⟨f0,w0⟩,v,f1,hv,hl⟩:=he
 injection f0 with f0
 injection f1 with f1
 subst f0 f1
 exact⟨⟨a1,rfl,(rdl_ints hv).1⟩,wf_i64_iff w0⟩
theorem opens_tableZ:OpensZ enc Tryz.prog w sp 35 (TableCells w):=by
 intro fuel cs y h hr
 have ht:=Tryz.underlying35
 have hone:oneCellFields Tryz.prog (Tryz.prog.fieldsOf 35)=true:=by kernel_rfl
 have hl:cs.length=5:=(struct_len ht h).trans (by kernel_rfl)
 simp only [Program.fieldsOf,ht]at hone
 match cs,hl with
 |[c0,c1,c2,c3,c4],_=>
  obtain⟨r,v0,e0,h0,-⟩:=field_open ht hone h hr 0 _ rfl (by simp) opens_rulesZ
  obtain⟨T,e1,w1⟩:=field_open ht hone h hr 1 _ rfl (by simp) (OpensZ.of (opens_int Tryz.underlying3))
  obtain⟨N,e2,w2⟩:=field_open ht hone h hr 2 _ rfl (by simp) (OpensZ.of (opens_int Tryz.underlying3))
  obtain⟨aa,v3,e3,h3,-⟩:=field_open ht hone h hr 3 _ rfl (by simp) opens_actssZ
  obtain⟨gg,v4,e4,h4,-⟩:=field_open ht hone h hr 4 _ rfl (by simp) opens_intssZ
  simp only [List.getElem_cons_zero,List.getElem_cons_succ]at e0 e1 e2 e3 e4
  injection e0 with e0
  injection e1 with e1
  injection e2 with e2
  injection e3 with e3
  injection e4 with e4
  subst e0 e1 e2 e3 e4
  obtain⟨q1,q2⟩:=rdl_rules h0
  refine⟨⟨r,T,N,aa,gg⟩,c0,c3,c4,rfl,q1,?_,?_,fun b hb=>hb,⟨wf_i64_iff w1,wf_i64_iff w2⟩,q2⟩
  ·refine rdl_rows ?_
   obtain⟨A,c,g1,g2,g3,g4⟩:=h3
   exact⟨A,c,g1,g2,g3,fun hn=>by
    obtain⟨b,off,k1,k2,k3⟩:=g4 hn
    exact⟨b,off,k1,k2,fun i x hx=>by
     obtain⟨cs,l1,⟨v,l2,l3,-⟩,l4⟩:=k3 i x hx
     exact⟨cs,l1,⟨v,l2,(rdl_items l3).1⟩,l4⟩⟩⟩
  ·refine rdl_rows ?_
   obtain⟨A,c,g1,g2,g3,g4⟩:=h4
   exact⟨A,c,g1,g2,g3,fun hn=>by
    obtain⟨b,off,k1,k2,k3⟩:=g4 hn
    exact⟨b,off,k1,k2,fun i x hx=>by
     obtain⟨cs,l1,⟨v,l2,l3,-⟩,l4⟩:=k3 i x hx
     exact⟨cs,l1,⟨v,l2,(rdl_ints l3).1⟩,l4⟩⟩⟩
end
def SmallPost (w:World) (t:TabD) (e:Ending) (w':World):Prop:= ∃r:Bool,e= .returned (.bool r)/\Below w.heap.size w w'/\(r=true->t.acts.length<=60/\LenT t)
theorem SmallPost.no {w w':World} {t:TabD} {e:Ending} (he:e= .returned (.bool false)) (b:Below w.heap.size w w'):SmallPost w t e w':=⟨false,he,b,fun h=>(by cases h)⟩
set_option maxRecDepth 100000 in
set_option maxHeartbeats 4000000 in
theorem law15_Small {w:World} {F:Nat->Prop} {v1 v2 v3:Value} {t:TabD} (h:IsTab w F v1 v2 v3 t):
  Calls Tryz.prog 27 #[TV v1 t.terms t.nons v2 v3] w (SmallPost w t):=by
 obtain⟨A1,c1,A2,c2,A3,c3,rfl,rfl,rfl,i1,i2,i3,j1,j2,j3⟩:=h.slices
 have u1:=Nat.le_trans i1 j1
 have u2:=Nat.le_trans i2 j2
 have u3:=Nat.le_trans i3 j3
 clear i1 j1 i2 j2 i3 j3
 obtain⟨w1,hw1⟩: ∃q',q'=w.alloc (.cells #[.slice A1 t.rules.length c1,.int .i64 t.terms,.int .i64 t.nons,.slice A2 t.acts.length c2,.slice A3 t.goto.length c3] 35):=⟨_,rfl⟩
 have gT:=TBox.new h t.terms t.nons
 have b1:Below w.heap.size w w1:=by rw [hw1];exact(Below.refl _ w).alloc (Nat.le_refl _) _
 rw [<-hw1]at gT
 obtain⟨T,g1⟩: ∃x,x=t.terms:=⟨_,rfl⟩
 obtain⟨N,g2⟩: ∃x,x=t.nons:=⟨_,rfl⟩
 obtain⟨R,gR⟩: ∃x,x=t.rules.length:=⟨_,rfl⟩
 obtain⟨n,gn⟩: ∃x,x=t.acts.length:=⟨_,rfl⟩
 obtain⟨m,gm⟩: ∃x,x=t.goto.length:=⟨_,rfl⟩
 rw [<-g1,<-g2,<-gR,<-gn,<-gm]at gT hw1
 rw [<-gR]at u1
 rw [<-gn]at u2
 rw [<-gm]at u3
 rw [<-g1,<-g2,<-gR,<-gn,<-gm]
 clear h g1 g2
 obtain⟨a0,a1,a2,a3,a4⟩:=gT.cells
 by_cases h1:n<=60
 ·have h1': ¬(60:Int)<(n:Int):=by omega
  by_cases h2:m<=60
  ·have h2': ¬(60:Int)<(m:Int):=by omega
   by_cases h3:R<=60
   ·have h3': ¬(60:Int)<(R:Int):=by omega
    rw [hw1]at a0 a1 a2 a3 a4
    obtain⟨XgT,Xb1,XgR,Xgn,Xgm,Xh1⟩:=HqZ6 gT b1 gR gn gm h1;clear gT b1 gR gn gm h1
    go_enter Tryz.func27,Tryz.ntmps27
    go_wp2_with fail
    rw [<-hw1]
    rw [<-hw1]at a0 a1 a2 a3 a4
    clear hw1
    go_loopw [3] (fun i wr=> ∃k:Nat,k<=n/\i= .int .i64 k/\wr=w1/\ ∀(j:Nat) x,j<k->t.acts[j]? =some x->x.length<=60) (fun i _=>n - (intOf i).toNat)
    case atStart=>exact⟨0,Nat.zero_le _,rfl,(by first|rfl|trivial),fun j x hj=>absurd hj (by omega)⟩
    case round=>
     obtain⟨k,hk,rfl,hwr,hbe⟩:=hrel
     obtain rfl:w1=wr:=hwr.symm
     by_cases hlt:k<n
     ·have hlt1:(k:Int)<(n:Int):=by omega
      obtain⟨x,hx⟩: ∃x,t.acts[k]? =some x:=⟨_,List.getElem?_eq_getElem (by rw [<-Xgn.out];exact hlt)⟩
      obtain⟨bk,off,V,cV,ea,-,z0,-,-,-⟩:=RdAs.row XgT.out.tab.acts hx
      subst ea
      by_cases hs:x.length<=60
      ·have hs1: ¬(60:Int)<((x.length:Nat):Int):=by omega
       obtain⟨Xhbe,Xhx,Xhs⟩:=HqZ3 hbe hx hs;clear hbe hx hs
       go_wp2_with fail
       go_roundw
       case rel=>
        refine⟨k+1,by omega,by go_num,(by first|rfl|trivial),fun j y hj hy=> ?_⟩
        by_cases hjk:j=k
        ·subst hjk;rw [Xhx.out]at hy;injection hy with hy;rw [<-hy];exact Xhs.out
        ·exact Xhbe.out j y (by omega) hy
       case measure=>simp [intOf];omega
      ·have hs1:(60:Int)<((x.length:Nat):Int):=by omega
       obtain⟨Xhbe,Xhx,Xhs⟩:=HqZ3 hbe hx hs;clear hbe hx hs
       go_wp2_with fail
       go_ret
       exact SmallPost.no rfl Xb1.out
     ·obtain rfl:n=k:=by omega
      have hacts: ∀x∈t.acts,x.length<=60:=fun x hx=>by
       obtain⟨j,hj⟩:=List.mem_iff_getElem?.1 hx
       exact hbe j x (by have:=(List.getElem?_eq_some_iff.1 hj).1;rw [<-Xgn.out]at this;exact this) hj
      clear hbe
      have Xhacts:=hide hacts;clear hacts
      go_wp2_with fail
      go_loopw [4] (fun i wr=> ∃k:Nat,k<=m/\i= .int .i64 k/\wr=w1/\ ∀(j:Nat) x,j<k->t.goto[j]? =some x->x.length<=60) (fun i _=>m - (intOf i).toNat)
      case atStart=>exact⟨0,Nat.zero_le _,rfl,(by first|rfl|trivial),fun j x hj=>absurd hj (by omega)⟩
      case round=>
       obtain⟨k,hk,rfl,hwr,hbe⟩:=hrel
       obtain rfl:w1=wr:=hwr.symm
       by_cases hlt:k<m
       ·have hlt1:(k:Int)<(m:Int):=by omega
        obtain⟨x,hx⟩: ∃x,t.goto[k]? =some x:=⟨_,List.getElem?_eq_getElem (by rw [<-Xgm.out];exact hlt)⟩
        obtain⟨bk,off,V,cV,ea,-,z0,-,-,-⟩:=RdIs.row XgT.out.tab.goto hx
        subst ea
        by_cases hs:x.length<=60
        ·have hs1: ¬(60:Int)<((x.length:Nat):Int):=by omega
         obtain⟨Xhbe,Xhx,Xhs⟩:=HqZ3 hbe hx hs;clear hbe hx hs
         go_wp2_with fail
         go_roundw
         case rel=>
          refine⟨k+1,by omega,by go_num,(by first|rfl|trivial),fun j y hj hy=> ?_⟩
          by_cases hjk:j=k
          ·subst hjk;rw [Xhx.out]at hy;injection hy with hy;rw [<-hy];exact Xhs.out
          ·exact Xhbe.out j y (by omega) hy
         case measure=>simp [intOf];omega
        ·have hs1:(60:Int)<((x.length:Nat):Int):=by omega
         obtain⟨Xhbe,Xhx,Xhs⟩:=HqZ3 hbe hx hs;clear hbe hx hs
         go_wp2_with fail
         go_ret
         exact SmallPost.no rfl Xb1.out
       ·obtain rfl:m=k:=by omega
        have hgoto: ∀x∈t.goto,x.length<=60:=fun x hx=>by
         obtain⟨j,hj⟩:=List.mem_iff_getElem?.1 hx
         exact hbe j x (by have:=(List.getElem?_eq_some_iff.1 hj).1;rw [<-Xgm.out]at this;exact this) hj
        clear hbe
        have Xhgoto:=hide hgoto;clear hgoto
        go_wp2_with fail
        go_loopw [5] (fun i wr=> ∃k:Nat,k<=R/\i= .int .i64 k/\wr=w1) (fun i _=>R - (intOf i).toNat)
        case atStart=>exact⟨0,Nat.zero_le _,rfl,(by first|rfl|trivial)⟩
        case round=>
         obtain⟨k,hk,rfl,hwr⟩:=hrel
         obtain rfl:w1=wr:=hwr.symm
         by_cases hlt:k<R
         ·have hlt1:(k:Int)<(R:Int):=by omega
          obtain⟨bk,off,l,x,vx,hx,ea,z0,z1,rx⟩:=rule_get XgT.out.tab.rules (i:=k) (by rw [<-XgR.out];exact hlt)
          obtain⟨V,nx,cx,rfl,-⟩:=id rx
          subst ea
          clear hx rx z0
          by_cases hs:nx<=60
          ·have hs1: ¬(60:Int)<(nx:Int):=by omega
           go_wp2_with fail
           go_roundw
           case rel=>exact⟨k+1,by omega,by go_num,(by first|rfl|trivial)⟩
           case measure=>simp [intOf];omega
          ·have hs1:(60:Int)<(nx:Int):=by omega
           go_wp2_with fail
           go_ret
           exact SmallPost.no rfl Xb1.out
         ·go_wp2_with fail
          go_ret
          exact⟨true,rfl,Xb1.out,fun _=>⟨by rw [<-Xgn.out];exact Xh1.out,fun r hr=>Nat.le_trans (Xhacts.out r hr) (by decide),fun r hr=>Nat.le_trans (Xhgoto.out r hr) (by decide)⟩⟩
   ·have h3':(60:Int)<(R:Int):=by omega
    rw [hw1]at a0 a1 a2 a3 a4 b1
    obtain⟨XgT,Xb1,XgR,Xgn,Xgm⟩:=HqZ5 gT b1 gR gn gm;clear gT b1 gR gn gm
    go_enter Tryz.func27,Tryz.ntmps27
    go_wp2_with fail
    go_ret
    exact SmallPost.no rfl Xb1.out
  ·have h2':(60:Int)<(m:Int):=by omega
   rw [hw1]at a0 a1 a2 a3 a4 b1
   obtain⟨XgT,Xb1,XgR,Xgn,Xgm⟩:=HqZ5 gT b1 gR gn gm;clear gT b1 gR gn gm
   go_enter Tryz.func27,Tryz.ntmps27
   go_wp2_with fail
   go_ret
   exact SmallPost.no rfl Xb1.out
 ·have h1':(60:Int)<(n:Int):=by omega
  rw [hw1]at a0 a1 a2 a3 a4 b1
  obtain⟨XgT,Xb1,XgR,Xgn,Xgm⟩:=HqZ5 gT b1 gR gn gm;clear gT b1 gR gn gm
  go_enter Tryz.func27,Tryz.ntmps27
  go_wp2_with fail
  go_ret
  exact SmallPost.no rfl Xb1.out
theorem touch_setP (w:World) (g i:Nat) (u:Value):Touch (fun b=>b=g) w (w.setCell ⟨g,i,none⟩ u):=Touch.setCell (S:=fun b=>b=g) (p:=⟨g,i,none⟩) (Touch.refl _ _) (fun _=>rfl) u
structure P7 (wr:World) (P:Nat) (vr:Value) (T N:Int) (va vR vb vG:Value) (R:List (List Int)) (I:List Int) (G:List (List Int)) (J:List Int):Prop where
 box:Blk wr P 52 #[vr,.int .i64 T,.int .i64 N,va,vR,vb,vG]
 row:wr.ownsRow (P+1) 3 1 va I.length (I.map (Value.int .i64))
 gow:wr.ownsRow (P+1) 3 1 vb J.length (J.map (Value.int .i64))
 ap: ∀k,va.ownBlock=some k->vb.ownBlock≠some k
 rows:RdUs wr (fun b=>P<b/\b<wr.heap.size/\va.ownBlock≠some b/\vb.ownBlock≠some b) vR R
 gows:RdUs wr (fun b=>P<b/\b<wr.heap.size/\va.ownBlock≠some b/\vb.ownBlock≠some b) vG G
section
variable {wr W w2 : World} {P : Nat} {vr va vR vb vG v : Value} {T N : Int} {R G : List (List Int)} {I J : List Int}
theorem P7.below (h:P7 wr P vr T N va vR vb vG R I G J) (b:Below wr.heap.size wr W):P7 W P vr T N va vR vb vG R I G J:=by
 have hs:=b.size
 exact⟨h.box.below b h.box.lt,own_below' h.row b,own_below' h.gow b,h.ap,(RdUs.below h.rows b fun k hk=>hk.2.1).mono fun k hk=>⟨hk.1,by omega,hk.2.2⟩,(RdUs.below h.gows b fun k hk=>hk.2.1).mono fun k hk=>⟨hk.1,by omega,hk.2.2⟩⟩
theorem P7.putR {R':List (List Int)} (h:P7 wr P vr T N va vR vb vG R I G J) (hv:RdUs wr (fun b=>P<b/\b<wr.heap.size/\va.ownBlock≠some b/\vb.ownBlock≠some b) v R'):P7 (wr.setCell ⟨P,4,none⟩ v) P vr T N va v vb vG R' I G J:=by
 have t:Touch (fun b=>b=P) wr (wr.setCell ⟨P,4,none⟩ v):=touch_setP _ _ _ _
 have hz:(wr.setCell ⟨P,4,none⟩ v).heap.size=wr.heap.size:=by simp [World.setCell]
 exact⟨h.box.put 4 v,t.own h.row fun k hk=>by have:=(h.row.lt k hk).1;omega,t.own h.gow fun k hk=>by have:=(h.gow.lt k hk).1;omega,h.ap,(RdUs.touch hv t fun k hk=>by omega).mono fun k hk=>by rw [hz];exact hk,(RdUs.touch h.gows t fun k hk=>by omega).mono fun k hk=>by rw [hz];exact hk⟩
theorem P7.putG {G':List (List Int)} (h:P7 wr P vr T N va vR vb vG R I G J) (hv:RdUs wr (fun b=>P<b/\b<wr.heap.size/\va.ownBlock≠some b/\vb.ownBlock≠some b) v G'):P7 (wr.setCell ⟨P,6,none⟩ v) P vr T N va vR vb v R I G' J:=by
 have t:Touch (fun b=>b=P) wr (wr.setCell ⟨P,6,none⟩ v):=touch_setP _ _ _ _
 have hz:(wr.setCell ⟨P,6,none⟩ v).heap.size=wr.heap.size:=by simp [World.setCell]
 exact⟨h.box.put 6 v,t.own h.row fun k hk=>by have:=(h.row.lt k hk).1;omega,t.own h.gow fun k hk=>by have:=(h.gow.lt k hk).1;omega,h.ap,(RdUs.touch h.rows t fun k hk=>by omega).mono fun k hk=>by rw [hz];exact hk,(RdUs.touch hv t fun k hk=>by omega).mono fun k hk=>by rw [hz];exact hk⟩
theorem P7.pushI {x:Int} (h:P7 wr P vr T N va vR vb vG R I G J) (hg:wr.grownBy w2 va.ownBlock) (ho:w2.ownsRow (P+1) 3 1 v (I.length+1) (I.map (Value.int .i64)++[.int .i64 x])) (hv:v.ownBlock=va.ownBlock\/v.ownBlock=some wr.heap.size):
  P7 (w2.setCell ⟨P,3,none⟩ v) P vr T N v vR vb vG R (I++[x]) G J:=by
 have tg:Touch (fun b=>va.ownBlock=some b) wr w2:=(Touch.refl _ _).grown hg (fun k e _=>e)
 have hP: ¬va.ownBlock=some P:=fun e=>by have:=(h.row.lt P e).1;omega
 have kb:=h.box.touch tg hP
 have t:Touch (fun b=>b=P) w2 (w2.setCell ⟨P,3,none⟩ v):=touch_setP _ _ _ _
 have hz:(w2.setCell ⟨P,3,none⟩ v).heap.size=w2.heap.size:=by simp [World.setCell]
 have hs:=tg.size
 have hne: ∀b,b<wr.heap.size->va.ownBlock≠some b->v.ownBlock≠some b:=fun b hb hk e=>by
  rcases hv with q|q
  ·exact hk (q▸e)
  ·rw [q]at e;injection e with e;omega
 refine⟨kb.put 3 v,?_,t.own (tg.own h.gow fun k hk e=>h.ap k e hk) fun k hk=>by have:=(h.gow.lt k hk).1;omega,fun k hk e=> ?_,?_,?_⟩
 ·rw [List.length_append,List.map_append]
  exact t.own ho fun k hk=>by have:=(ho.lt k hk).1;omega
 ·have:=(h.gow.lt k e).2
  exact hne k this (fun c=>h.ap k c e) hk
 ·exact(RdUs.touch (RdUs.touch h.rows tg fun k hk e=>hk.2.2.1 e) t fun k hk=>by omega).mono fun k hk=>⟨hk.1,by omega,hne k hk.2.1 hk.2.2.1,hk.2.2.2⟩
 ·exact(RdUs.touch (RdUs.touch h.gows tg fun k hk e=>hk.2.2.1 e) t fun k hk=>by omega).mono fun k hk=>⟨hk.1,by omega,hne k hk.2.1 hk.2.2.1,hk.2.2.2⟩
theorem P7.pushJ {x:Int} (h:P7 wr P vr T N va vR vb vG R I G J) (hg:wr.grownBy w2 vb.ownBlock) (ho:w2.ownsRow (P+1) 3 1 v (J.length+1) (J.map (Value.int .i64)++[.int .i64 x])) (hv:v.ownBlock=vb.ownBlock\/v.ownBlock=some wr.heap.size):
  P7 (w2.setCell ⟨P,5,none⟩ v) P vr T N va vR v vG R I G (J++[x]):=by
 have tg:Touch (fun b=>vb.ownBlock=some b) wr w2:=(Touch.refl _ _).grown hg (fun k e _=>e)
 have hP: ¬vb.ownBlock=some P:=fun e=>by have:=(h.gow.lt P e).1;omega
 have kb:=h.box.touch tg hP
 have t:Touch (fun b=>b=P) w2 (w2.setCell ⟨P,5,none⟩ v):=touch_setP _ _ _ _
 have hz:(w2.setCell ⟨P,5,none⟩ v).heap.size=w2.heap.size:=by simp [World.setCell]
 have hs:=tg.size
 have hne: ∀b,b<wr.heap.size->vb.ownBlock≠some b->v.ownBlock≠some b:=fun b hb hk e=>by
  rcases hv with q|q
  ·exact hk (q▸e)
  ·rw [q]at e;injection e with e;omega
 refine⟨kb.put 5 v,t.own (tg.own h.row fun k hk e=>h.ap k hk e) fun k hk=>by have:=(h.row.lt k hk).1;omega,?_,fun k hk e=> ?_,?_,?_⟩
 ·rw [List.length_append,List.map_append]
  exact t.own ho fun k hk=>by have:=(ho.lt k hk).1;omega
 ·have:=(h.row.lt k hk).2
  exact hne k this (fun c=>h.ap k hk c) e
 ·exact(RdUs.touch (RdUs.touch h.rows tg fun k hk e=>hk.2.2.2 e) t fun k hk=>by omega).mono fun k hk=>⟨hk.1,by omega,hk.2.2.1,hne k hk.2.1 hk.2.2.2⟩
 ·exact(RdUs.touch (RdUs.touch h.gows tg fun k hk e=>hk.2.2.2 e) t fun k hk=>by omega).mono fun k hk=>⟨hk.1,by omega,hk.2.2.1,hne k hk.2.1 hk.2.2.2⟩
theorem P7.pack {F:Nat->Prop} {vx vy:Value} {t:TabD} (h:P7 wr P vr T N va vR vb vG (packU (numsA t)).1 (packU (numsA t)).2 (packU (numsG t)).1 (packU (numsG t)).2) (g:IsTab wr F vr vx vy t) (hf:fitT t=true):IsPack wr (fun b=>(F b\/P<b)/\b<wr.heap.size) vr va vR vb vG (packT t):=by
 have hsm:=(fit_parts hf).2.1
 have hm:t.goto.length=t.acts.length:=by
  have h1:=(fit_parts hf).1
  unfold rightT headT at h1
  simp only [Bool.and_eq_true,decide_eq_true_eq]at h1
  exact h1.1.2.2.1.symm
 have wI: ∀{rs:List (List Int)},rs.length<=16383-> ∀x∈(packU rs).2,W64 x:=fun{rs} hl x hx=>by
  have h1:=(List.all_eq_true.1 (in_rows (rs:=rs))) x hx
  have h2:=(packU_ok rs).le
  unfold inR at h1
  simp only [Bool.and_eq_true,decide_eq_true_eq]at h1
  unfold W64
  omega
 have fF: ∀b,F b->(F b\/P<b)/\b<wr.heap.size:=fun b hb=>⟨.inl hb,g.lt b hb⟩
 refine⟨g.rules.mono fF fun cs x e=> ?_,(Rd.of_own h.row).mono fun k hk=> ?_,h.rows.mono fun k hk=>⟨.inr hk.1,hk.2.1⟩,(Rd.of_own h.gow).mono fun k hk=> ?_,h.gows.mono fun k hk=>⟨.inr hk.1,hk.2.1⟩,fun b hb=>hb.2,g.tn,g.wr,?_,?_,fun r hr=>nums_u16A hf r ((packU_ok (numsA t)).mem r hr),fun r hr=>nums_u16G hf r ((packU_ok (numsG t)).mem r hr)⟩
 ·obtain⟨v,h1,h2⟩:=e
  exact⟨v,h1,Rd.mono h2 fF⟩
 ·have:=h.row.lt k hk;exact⟨.inr (by omega),this.2⟩
 ·have:=h.gow.lt k hk;exact⟨.inr (by omega),this.2⟩
 ·exact wI (by unfold numsA;rw [List.length_map];exact hsm)
 ·exact wI (by unfold numsG;rw [List.length_map,hm];exact hsm)
end
end Go.Proofs.YthlbjgabhpdbfaaGreat

/- Packed tables: opened, right, unpacked. -/
import Derived.Test.YtlpipniclimgeaaGreatEPack7
import Derived.Test.YtlpipniclimgeaaGreatEPack5
import Derived.Test.YtlpipniclimgeaaGreatERs1
import Derived.Test.YtlpipniclimgeaaGreatETabs2
namespace Go.Proofs.YtlpipniclimgeaaGreat
set_option linter.unusedVariables false
set_option linter.unusedSimpArgs false
open Go.RowKit Go.Shelf
attribute [local irreducible] wpStill wpOne wpPh
def OpenedPost (w:World) (F:Nat->Prop) (p:PackD) (e:Ending) (w':World):Prop:=Below w.heap.size w w'/\ ∃vr va vg,e= .returned (.tuple #[TV vr (unpackP p).terms (unpackP p).nons va vg,.bool (rightP p)])/\IsTab w' (fun b=>(F b\/w.heap.size<=b)/\b<w'.heap.size) vr va vg (unpackP p)
theorem lenT_open {p:PackD} (h:LenP p):LenT (openT p):=by
 have key: ∀(L:List (List Int)) (x:Int),(∀r∈L,r.length<=70000)->(L.getD x.toNat []).length<=70000:=fun L x hL=>by
  rw [List.getD_eq_getElem?_getD]
  cases hx:L[x.toNat]? with
  |none=>simp
  |some r=>exact hL r (List.mem_of_getElem? hx)
 refine⟨fun r hr=> ?_,fun r hr=> ?_⟩
 ·obtain⟨x,-,rfl⟩:=List.mem_map.1 hr
  rw [List.length_map];exact key _ _ h.2.1
 ·obtain⟨x,-,rfl⟩:=List.mem_map.1 hr
  rw [List.length_map];exact key _ _ h.2.2
theorem un_no {p:PackD} (h:rightP p=false):unpackP p=noTab:=by unfold unpackP;rw [h];rfl
theorem un_yes {p:PackD} (h:rightP p=true):unpackP p=openT p:=by unfold unpackP;rw [if_pos h]
set_option maxRecDepth 100000 in
set_option maxHeartbeats 8000000 in
theorem pack_opened {w:World} {F:Nat->Prop} {v1 v2 v3 v4 v5:Value} {p:PackD} (h:IsPack w F v1 v2 v3 v4 v5 p) (hl:LenP p):
  Calls Tryz.prog 47 #[PV v1 p.terms p.nons v2 v3 v4 v5] w (OpenedPost w F p):=by
 obtain⟨A1,c1,A2,c2,A3,c3,A4,c4,A5,c5,rfl,rfl,rfl,rfl,rfl,k1,k2,k3,k4,k5⟩:=h.slices
 have hF:=h.lt
 obtain⟨T,hT⟩: ∃q,q=p.terms:=⟨_,rfl⟩
 obtain⟨N,hN⟩: ∃q,q=p.nons:=⟨_,rfl⟩
 obtain⟨w1,hw1⟩: ∃q,q=w.alloc (.cells #[.slice A1 p.rules.length c1,.int .i64 p.terms,.int .i64 p.nons,.slice A2 p.row.length c2,.slice A3 p.rows.length c3,.slice A4 p.gow.length c4,.slice A5 p.gows.length c5] 26):=⟨_,rfl⟩
 have g1:=PBox.new h p.terms p.nons
 rw [<-hw1]at g1
 obtain⟨n1,hn1⟩: ∃q,q=p.rules.length:=⟨_,rfl⟩
 obtain⟨n2,hn2⟩: ∃q,q=p.row.length:=⟨_,rfl⟩
 obtain⟨n3,hn3⟩: ∃q,q=p.rows.length:=⟨_,rfl⟩
 obtain⟨n4,hn4⟩: ∃q,q=p.gow.length:=⟨_,rfl⟩
 obtain⟨n5,hn5⟩: ∃q,q=p.gows.length:=⟨_,rfl⟩
 rw [<-hT,<-hN,<-hn1,<-hn2,<-hn3,<-hn4,<-hn5]at g1 hw1
 rw [<-hT,<-hN,<-hn1,<-hn2,<-hn3,<-hn4,<-hn5]
 have b1:Below w.heap.size w w1:=by rw [hw1];exact(Below.refl _ w).alloc (Nat.le_refl _) _
 have hz1:w1.heap.size=w.heap.size+1:=by rw [hw1];simp
 obtain⟨w2,hw2⟩: ∃q,q=w1.alloc (.cells #[.slice none 0 0,.int .i64 0,.int .i64 0,.slice none 0 0,.slice none 0 0] 44):=⟨_,rfl⟩
 have b2:Below w1.heap.size w1 w2:=by rw [hw2];exact(Below.refl _ _).alloc (Nat.le_refl _) _
 have kr2:Blk w2 w1.heap.size 44 #[.slice none 0 0,.int .i64 0,.int .i64 0,.slice none 0 0,.slice none 0 0]:=by rw [hw2];exact Blk.new _ _ _
 rw [hz1]at kr2
 have hz2:w2.heap.size=w.heap.size+2:=by rw [hw2,World.size_alloc,hz1]
 have g2:=g1.below b2
 have bw2:=b1.trans (b2.mono b1.size)
 have cO:=pack_open g2.pk hl
 have hL:=lenT_open hl
 have hRP:rightP p=(rowsP p&&(fitT (openT p)&&sameP p (packT (openT p)))):=rfl
 have hOO:openO p=if rowsP p=true then openT p else noTab:=rfl
 have hUn:unpackP p=if rightP p=true then openT p else noTab:=rfl
 have hUno:= @un_no p
 have hUyes:= @un_yes p
 unfold OpenPost at cO
 obtain⟨U,hU⟩: ∃q,q=unpackP p:=⟨_,rfl⟩
 obtain⟨rP,hrP⟩: ∃q,q=rightP p:=⟨_,rfl⟩
 unfold OpenedPost
 rw [<-hU,<-hrP]
 rw [<-hrP,<-hU]at hUno hUyes
 rw [<-hrP]at hRP
 rw [<-hT,<-hN]at cO
 rw [hw1]at hw2
 have hsP:sameP p (packT (openT p))=(decide (p.row=(packT (openT p)).row)&&(decide (p.gow=(packT (openT p)).gow)&&(decide (p.rows=(packT (openT p)).rows)&&decide (p.gows=(packT (openT p)).gows)))):=rfl
 have hTT:(openT p).terms=T/\(openT p).nons=N:=⟨hT.symm,hN.symm⟩
 clear h k1 k2 k3 k4 k5 hw1 hz1 b1 b2 g1 hU hrP hUn
 generalize openT p=t at *
 obtain⟨Xg2,XhT,XhN,Xhn1,Xhn2,Xhn3,Xhn4,Xhn5,Xkr2,Xbw2,XcO,XhL,XhRP,XhOO⟩:=HqZ14 g2 hT hN hn1 hn2 hn3 hn4 hn5 kr2 bw2 cO hL hRP hOO;obtain⟨XhUno,XhUyes,XhF,Xhz2,XhsP,XhTT,Xhl⟩:=HqZ7 hUno hUyes hF hz2 hsP hTT hl;clear g2 hT hN hn1 hn2 hn3 hn4 hn5 kr2 bw2 cO hL hRP hOO hUno hUyes hF hz2 hsP hTT hl
 go_enter Tryz.func47,Tryz.ntmps47
 go_wp2_with fail
 rw [<-hw2]
 refine XcO.out.mono ?_
 rintro e w4 ⟨b4,vr,va,vg,rfl,ht⟩
 cases hr:rowsP p with
 |false=>
  generalize openO p=tO at *
  obtain⟨B1,d1,B2,d2,B3,d3,rfl,rfl,rfl,-,-,-,-,-,-⟩:=ht.slices
  have kr4:=Xkr2.out.below b4 Xkr2.out.lt
  have bw4:=Xbw2.out.trans (b4.mono Xbw2.out.size)
  generalize tO.rules.length=m1 at *
  generalize tO.acts.length=m2 at *
  generalize tO.goto.length=m3 at *
  generalize tO.terms=TO at *
  generalize tO.nons=NO at *
  obtain⟨w5,hw5⟩: ∃q,q=w4.alloc (.cells #[.slice B1 m1 d1,.int .i64 TO,.int .i64 NO,.slice B2 m2 d2,.slice B3 m3 d3] 44):=⟨_,rfl⟩
  have b5:Below w4.heap.size w4 w5:=by rw [hw5];exact(Below.refl _ _).alloc (Nat.le_refl _) _
  have kr5:=kr4.below b5 kr4.lt
  have bw5:=bw4.trans (b5.mono bw4.size)
  have d0:=(kr5.cell 0).trans rfl
  have d1:=(kr5.cell 1).trans rfl
  have d2:=(kr5.cell 2).trans rfl
  have d3:=(kr5.cell 3).trans rfl
  have d4:=(kr5.cell 4).trans rfl
  have f0:=kr5.frozen 0
  have f1:=kr5.frozen 1
  have f2:=kr5.frozen 2
  have f3:=kr5.frozen 3
  have f4:=kr5.frozen 4
  obtain⟨Xkr,Xbw⟩:=HqZ2 kr5 bw5
  rw [hw5]at d0 d1 d2 d3 d4 f0 f1 f2 f3 f4
  clear ht kr4 bw4 b4 b5 kr5 bw5
  have Xhr:=hide hr;clear hr
  go_wp2_with fail
  rw [<-hw5]
  have hno:rP=false:=by
   rw [XhRP.out]
   rw [Xhr.out];rfl
  have hnu:=XhUno.out hno
  have k5:=((((Xkr.out.put 0 (.slice none 0 0)).put 1 (.int .i64 0)).put 2 (.int .i64 0)).put 3 (.slice none 0 0)).put 4 (.slice none 0 0)
  have e0:=(k5.cell 0).trans rfl
  have e1:=(k5.cell 1).trans rfl
  have e2:=(k5.cell 2).trans rfl
  have e3:=(k5.cell 3).trans rfl
  have e4:=(k5.cell 4).trans rfl
  have t5:=touch_five w5 (w.heap.size+1) (.slice none 0 0) (.int .i64 0) (.int .i64 0) (.slice none 0 0) (.slice none 0 0)
  refine bodyPost_ret (v:= .tuple #[TV (.slice none 0 0) 0 0 (.slice none 0 0) (.slice none 0 0),.bool false]) (by simp [results,Tryz.results47,go_sem,e0,e1,e2,e3,e4]) rfl ?_
  have b5:=t5.toBelow (fun k e=>by omega) Xbw.out Xbw.out.size
  refine⟨by first|exact b5|exact b5.drew,_,_,_,by rw [hno,hnu];rfl,?_⟩
  rw [hnu]
  exact IsTab.none _ _ (fun b hb=>hb.2)
 |true=>
  have hOt:openO p=t:=by rw [XhOO.out,if_pos hr]
  rw [hOt]at ht
  obtain⟨B1,u1,B2,u2,B3,u3,rfl,rfl,rfl,-,-,-,-,-,-⟩:=ht.slices
  rw [hOt,XhTT.out.1,XhTT.out.2]
  have kr4:=Xkr2.out.below b4 Xkr2.out.lt
  have bw4:=Xbw2.out.trans (b4.mono Xbw2.out.size)
  have g4:=Xg2.out.below b4
  have tb:=TBox.new ht T N
  obtain⟨w5,hw5⟩: ∃q,q=w4.alloc (.cells #[.slice B1 t.rules.length u1,.int .i64 T,.int .i64 N,.slice B2 t.acts.length u2,.slice B3 t.goto.length u3] 44):=⟨_,rfl⟩
  rw [<-hw5]at tb
  have b5:Below w4.heap.size w4 w5:=by rw [hw5];exact(Below.refl _ _).alloc (Nat.le_refl _) _
  have cP:=pack_Pack tb.tab XhL.out
  rw [XhTT.out.1,XhTT.out.2]at cP
  unfold PackPost at cP
  have g5:=g4.below b5
  have kr5:=kr4.below b5 kr4.lt
  have bw5:=bw4.trans (b5.mono bw4.size)
  obtain⟨m1,hm1⟩: ∃q,q=t.rules.length:=⟨_,rfl⟩
  obtain⟨m2,hm2⟩: ∃q,q=t.acts.length:=⟨_,rfl⟩
  obtain⟨m3,hm3⟩: ∃q,q=t.goto.length:=⟨_,rfl⟩
  rw [<-hm1,<-hm2,<-hm3]at hw5 tb cP
  rw [<-hm1,<-hm2,<-hm3]
  have h45:w4.heap.size<w5.heap.size:=by rw [hw5];simp
  clear ht g4 kr4 bw4 b4 b5 hOt
  obtain⟨Xhr,Xtb,XcP,Xg5,Xkr5,Xbw5,Xhm1,Xhm2,Xhm3,Xh45⟩:=HqZ10 hr tb cP g5 kr5 bw5 hm1 hm2 hm3 h45;clear hr tb cP g5 kr5 bw5 hm1 hm2 hm3 h45
  go_wp2_with fail
  rw [<-hw5]
  refine XcP.out.mono ?_
  rintro e w6 ⟨b6,vr6,vrow,vrows,vgow,vgows,rfl,hp⟩
  obtain⟨C1,x1,C2,x2,C3,x3,C4,x4,C5,x5,rfl,rfl,rfl,rfl,rfl,-,-,-,-,-⟩:=hp.slices
  obtain⟨q,hq⟩: ∃q,q=packO t:=⟨_,rfl⟩
  rw [<-hq]at hp⊢
  have qb:=PBox.new hp q.terms q.nons
  obtain⟨s1,hs1⟩: ∃n,n=q.rules.length:=⟨_,rfl⟩
  obtain⟨s2,hs2⟩: ∃n,n=q.row.length:=⟨_,rfl⟩
  obtain⟨s3,hs3⟩: ∃n,n=q.rows.length:=⟨_,rfl⟩
  obtain⟨s4,hs4⟩: ∃n,n=q.gow.length:=⟨_,rfl⟩
  obtain⟨s5,hs5⟩: ∃n,n=q.gows.length:=⟨_,rfl⟩
  obtain⟨qT,hqT⟩: ∃n,n=q.terms:=⟨_,rfl⟩
  obtain⟨qN,hqN⟩: ∃n,n=q.nons:=⟨_,rfl⟩
  rw [<-hs1,<-hs2,<-hs3,<-hs4,<-hs5,<-hqT,<-hqN]at qb⊢
  obtain⟨w7,hw7⟩: ∃q,q=w6.alloc (.cells #[.slice C1 s1 x1,.int .i64 qT,.int .i64 qN,.slice C2 s2 x2,.slice C3 s3 x3,.slice C4 s4 x4,.slice C5 s5 x5] 26):=⟨_,rfl⟩
  rw [<-hw7]at qb
  have b7:Below w6.heap.size w6 w7:=by rw [hw7];exact(Below.refl _ _).alloc (Nat.le_refl _) _
  have b67:=b6.trans (b7.mono b6.size)
  have g7:=Xg5.out.below b67
  have t7:=Xtb.out.below b67
  have kr7:=Xkr5.out.below b67 Xkr5.out.lt
  have bw7:=Xbw5.out.trans (b67.mono Xbw5.out.size)
  clear hp b7 b67 hs1 hs2 hs3 hs4 hs5 hqT hqN
  cases hf:fitT t with
  |false=>
   have d0:=(kr7.cell 0).trans rfl
   have d1:=(kr7.cell 1).trans rfl
   have d2:=(kr7.cell 2).trans rfl
   have d3:=(kr7.cell 3).trans rfl
   have d4:=(kr7.cell 4).trans rfl
   have f0:=kr7.frozen 0
   have f1:=kr7.frozen 1
   have f2:=kr7.frozen 2
   have f3:=kr7.frozen 3
   have f4:=kr7.frozen 4
   rw [hw7]at d0 d1 d2 d3 d4 f0 f1 f2 f3 f4
   obtain⟨Xkr,Xbw⟩:=HqZ2 kr7 bw7;clear kr7 bw7 b6;obtain⟨Xg7,Xt7,Xqb,Xhf,Xhq⟩:=HqZ5 g7 t7 qb hf hq;clear g7 t7 qb hf hq
   go_wp2_with fail
   rw [<-hw7]
   have hno:rP=false:=by
    rw [XhRP.out]
    rw [Xhr.out,Xhf.out];rfl
   have hnu:=XhUno.out hno
   have k5:=((((Xkr.out.put 0 (.slice none 0 0)).put 1 (.int .i64 0)).put 2 (.int .i64 0)).put 3 (.slice none 0 0)).put 4 (.slice none 0 0)
   have e0:=(k5.cell 0).trans rfl
   have e1:=(k5.cell 1).trans rfl
   have e2:=(k5.cell 2).trans rfl
   have e3:=(k5.cell 3).trans rfl
   have e4:=(k5.cell 4).trans rfl
   have t5:=touch_five w7 (w.heap.size+1) (.slice none 0 0) (.int .i64 0) (.int .i64 0) (.slice none 0 0) (.slice none 0 0)
   refine bodyPost_ret (v:= .tuple #[TV (.slice none 0 0) 0 0 (.slice none 0 0) (.slice none 0 0),.bool false]) (by simp [results,Tryz.results47,go_sem,e0,e1,e2,e3,e4]) rfl ?_
   have b5:=t5.toBelow (fun k e=>by omega) Xbw.out Xbw.out.size
   refine⟨by first|exact b5|exact b5.drew,_,_,_,by rw [hno,hnu];rfl,?_⟩
   rw [hnu]
   exact IsTab.none _ _ (fun b hb=>hb.2)
  |true=>
   have hqq:q=packT t:=by rw [hq];unfold packO;rw [if_pos hf]
   subst hqq
   obtain⟨z0,z1,z2,z3,z4,z5,z6⟩:=g7.cells
   obtain⟨y0,y1,y2,y3,y4,y5,y6⟩:=qb.cells
   rw [hw7]at z0 z1 z2 z3 z4 z5 z6 y0 y1 y2 y3 y4 y5 y6
   clear b6 hq
   obtain⟨Xg7,Xt7,Xqb,Xhf,Xkr7,Xbw7⟩:=HqZ6 g7 t7 qb hf kr7 bw7;clear g7 t7 qb hf kr7 bw7
   go_wp2_with fail
   rw [<-hw7]
   refine(equal_ints Xg7.out.pk.row Xqb.out.pk.row).mono ?_
   rintro e w8 ⟨rfl,b8⟩
   have g8:=Xg7.out.below b8
   have t8:=Xt7.out.below b8
   have q8:=Xqb.out.below b8
   have kr8:=Xkr7.out.below b8 Xkr7.out.lt
   have bw8:=Xbw7.out.trans (b8.mono Xbw7.out.size)
   clear z0 z1 z2 z3 z4 z5 z6 y0 y1 y2 y3 y4 y5 y6 b8 Xg7 Xt7 Xqb Xkr7 Xbw7
   by_cases e0:p.row=(packT t).row
   ·rw [decide_eq_true e0]
    obtain⟨z0,z1,z2,z3,z4,z5,z6⟩:=g8.cells
    obtain⟨y0,y1,y2,y3,y4,y5,y6⟩:=q8.cells
    obtain⟨Xg8,Xt8,Xq8,Xkr8,Xbw8,Xe0⟩:=HqZ6 g8 t8 q8 kr8 bw8 e0;clear g8 t8 q8 kr8 bw8 e0
    go_wp2_with fail
    refine(equal_ints Xg8.out.pk.gow Xq8.out.pk.gow).mono ?_
    rintro e w9 ⟨rfl,b9⟩
    have g9:=Xg8.out.below b9
    have t9:=Xt8.out.below b9
    have q9:=Xq8.out.below b9
    have kr9:=Xkr8.out.below b9 Xkr8.out.lt
    have bw9:=Xbw8.out.trans (b9.mono Xbw8.out.size)
    clear z0 z1 z2 z3 z4 z5 z6 y0 y1 y2 y3 y4 y5 y6 b9 Xg8 Xt8 Xq8 Xkr8 Xbw8
    by_cases e1:p.gow=(packT t).gow
    ·rw [decide_eq_true e1]
     obtain⟨z0,z1,z2,z3,z4,z5,z6⟩:=g9.cells
     obtain⟨y0,y1,y2,y3,y4,y5,y6⟩:=q9.cells
     obtain⟨Xg9,Xt9,Xq9,Xkr9,Xbw9,Xe1⟩:=HqZ6 g9 t9 q9 kr9 bw9 e1;clear g9 t9 q9 kr9 bw9 e1
     go_wp2_with fail
     refine(equal_rows Xg9.out.pk.rows Xq9.out.pk.rows Xg9.out.pk.lt Xq9.out.pk.lt).mono ?_
     rintro e w10 ⟨rfl,b10⟩
     have g10:=Xg9.out.below b10
     have t10:=Xt9.out.below b10
     have q10:=Xq9.out.below b10
     have kr10:=Xkr9.out.below b10 Xkr9.out.lt
     have bw10:=Xbw9.out.trans (b10.mono Xbw9.out.size)
     clear z0 z1 z2 z3 z4 z5 z6 y0 y1 y2 y3 y4 y5 y6 b10 Xg9 Xt9 Xq9 Xkr9 Xbw9
     by_cases e2:p.rows=(packT t).rows
     ·rw [decide_eq_true e2]
      obtain⟨z0,z1,z2,z3,z4,z5,z6⟩:=g10.cells
      obtain⟨y0,y1,y2,y3,y4,y5,y6⟩:=q10.cells
      obtain⟨Xg10,Xt10,Xq10,Xkr10,Xbw10,Xe2⟩:=HqZ6 g10 t10 q10 kr10 bw10 e2;clear g10 t10 q10 kr10 bw10 e2
      go_wp2_with fail
      refine(equal_rows Xg10.out.pk.gows Xq10.out.pk.gows Xg10.out.pk.lt Xq10.out.pk.lt).mono ?_
      rintro e w11 ⟨rfl,b11⟩
      have g11:=Xg10.out.below b11
      have t11:=Xt10.out.below b11
      have q11:=Xq10.out.below b11
      have kr11:=Xkr10.out.below b11 Xkr10.out.lt
      have bw11:=Xbw10.out.trans (b11.mono Xbw10.out.size)
      clear z0 z1 z2 z3 z4 z5 z6 y0 y1 y2 y3 y4 y5 y6 b11 Xg10 Xt10 Xq10 Xkr10 Xbw10
      by_cases e3:p.gows=(packT t).gows
      ·rw [decide_eq_true e3]
       have d0:=(kr11.cell 0).trans rfl
       have d1:=(kr11.cell 1).trans rfl
       have d2:=(kr11.cell 2).trans rfl
       have d3:=(kr11.cell 3).trans rfl
       have d4:=(kr11.cell 4).trans rfl
       have f0:=kr11.frozen 0
       have f1:=kr11.frozen 1
       have f2:=kr11.frozen 2
       have f3:=kr11.frozen 3
       have f4:=kr11.frozen 4
       obtain⟨z0,z1,z2,z3,z4⟩:=t11.cells
       obtain⟨Xg11,Xt11,Xq11,Xkr11,Xbw11,Xe3⟩:=HqZ6 g11 t11 q11 kr11 bw11 e3;clear g11 t11 q11 kr11 bw11 e3
       go_wp2_with fail
       have hyes:rP=true:=by
        rw [XhRP.out,Xhr.out,Xhf.out,XhsP.out,decide_eq_true Xe0.out,decide_eq_true Xe1.out,decide_eq_true Xe2.out,decide_eq_true Xe3.out]
        rfl
       have hut:=XhUyes.out hyes
       have k5:=((((Xkr11.out.put 0 (.slice B1 m1 u1)).put 1 (.int .i64 T)).put 2 (.int .i64 N)).put 3 (.slice B2 m2 u2)).put 4 (.slice B3 m3 u3)
       have e0:=(k5.cell 0).trans rfl
       have e1:=(k5.cell 1).trans rfl
       have e2:=(k5.cell 2).trans rfl
       have e3:=(k5.cell 3).trans rfl
       have e4:=(k5.cell 4).trans rfl
       have t5:=touch_five w11 (w.heap.size+1) (.slice B1 m1 u1) (.int .i64 T) (.int .i64 N) (.slice B2 m2 u2) (.slice B3 m3 u3)
       refine bodyPost_ret (v:= .tuple #[TV (.slice B1 m1 u1) T N (.slice B2 m2 u2) (.slice B3 m3 u3),.bool true]) (by simp [results,Tryz.results47,go_sem,e0,e1,e2,e3,e4]) rfl ?_
       have b5:=t5.toBelow (fun k e=>by omega) Xbw11.out Xbw11.out.size
       refine⟨by first|exact b5|exact b5.drew,_,_,_,by rw [hyes,hut,XhTT.out.1,XhTT.out.2],?_⟩
       rw [hut]
       have hz:=Xhz2.out
       refine tab_cw (t:=t) Xt11.out.tab.rules Xt11.out.tab.acts Xt11.out.tab.goto (by first|exact t5|exact t5.drew) (fun b hb e=> ?_) (CW.refl _) (fun b hb=> ?_) (fun b hb=>hb.2) Xt11.out.tab.tn Xt11.out.tab.wr
       ·rcases hb.1 with h|h
        ·have:=XhF.out b h;omega
        ·omega
       ·refine⟨?_,Nat.lt_of_lt_of_le (Xt11.out.tab.lt b hb) t5.size⟩
        rcases hb.1 with h|h
        ·exact .inl h
        ·exact .inr (by omega)
      ·rw [decide_eq_false e3]
       have d0:=(kr11.cell 0).trans rfl
       have d1:=(kr11.cell 1).trans rfl
       have d2:=(kr11.cell 2).trans rfl
       have d3:=(kr11.cell 3).trans rfl
       have d4:=(kr11.cell 4).trans rfl
       have f0:=kr11.frozen 0
       have f1:=kr11.frozen 1
       have f2:=kr11.frozen 2
       have f3:=kr11.frozen 3
       have f4:=kr11.frozen 4
       obtain⟨Xkr,Xbw⟩:=HqZ2 kr11 bw11;clear kr11 bw11;obtain⟨Xg11,Xt11,Xq11,Xe3⟩:=HqZ4 g11 t11 q11 e3;clear g11 t11 q11 e3
       go_wp2_with fail
       have hno:rP=false:=by
        rw [XhRP.out]
        rw [Xhr.out,Xhf.out,XhsP.out,decide_eq_true Xe0.out,decide_eq_true Xe1.out,decide_eq_true Xe2.out,decide_eq_false Xe3.out];rfl
       have hnu:=XhUno.out hno
       have k5:=((((Xkr.out.put 0 (.slice none 0 0)).put 1 (.int .i64 0)).put 2 (.int .i64 0)).put 3 (.slice none 0 0)).put 4 (.slice none 0 0)
       have e0:=(k5.cell 0).trans rfl
       have e1:=(k5.cell 1).trans rfl
       have e2:=(k5.cell 2).trans rfl
       have e3:=(k5.cell 3).trans rfl
       have e4:=(k5.cell 4).trans rfl
       have t5:=touch_five w11 (w.heap.size+1) (.slice none 0 0) (.int .i64 0) (.int .i64 0) (.slice none 0 0) (.slice none 0 0)
       refine bodyPost_ret (v:= .tuple #[TV (.slice none 0 0) 0 0 (.slice none 0 0) (.slice none 0 0),.bool false]) (by simp [results,Tryz.results47,go_sem,e0,e1,e2,e3,e4]) rfl ?_
       have b5:=t5.toBelow (fun k e=>by omega) Xbw.out Xbw.out.size
       refine⟨by first|exact b5|exact b5.drew,_,_,_,by rw [hno,hnu];rfl,?_⟩
       rw [hnu]
       exact IsTab.none _ _ (fun b hb=>hb.2)
     ·rw [decide_eq_false e2]
      have d0:=(kr10.cell 0).trans rfl
      have d1:=(kr10.cell 1).trans rfl
      have d2:=(kr10.cell 2).trans rfl
      have d3:=(kr10.cell 3).trans rfl
      have d4:=(kr10.cell 4).trans rfl
      have f0:=kr10.frozen 0
      have f1:=kr10.frozen 1
      have f2:=kr10.frozen 2
      have f3:=kr10.frozen 3
      have f4:=kr10.frozen 4
      obtain⟨Xkr,Xbw⟩:=HqZ2 kr10 bw10;clear kr10 bw10;obtain⟨Xg10,Xt10,Xq10,Xe2⟩:=HqZ4 g10 t10 q10 e2;clear g10 t10 q10 e2
      go_wp2_with fail
      have hno:rP=false:=by
       rw [XhRP.out]
       rw [Xhr.out,Xhf.out,XhsP.out,decide_eq_true Xe0.out,decide_eq_true Xe1.out,decide_eq_false Xe2.out];rfl
      have hnu:=XhUno.out hno
      have k5:=((((Xkr.out.put 0 (.slice none 0 0)).put 1 (.int .i64 0)).put 2 (.int .i64 0)).put 3 (.slice none 0 0)).put 4 (.slice none 0 0)
      have e0:=(k5.cell 0).trans rfl
      have e1:=(k5.cell 1).trans rfl
      have e2:=(k5.cell 2).trans rfl
      have e3:=(k5.cell 3).trans rfl
      have e4:=(k5.cell 4).trans rfl
      have t5:=touch_five w10 (w.heap.size+1) (.slice none 0 0) (.int .i64 0) (.int .i64 0) (.slice none 0 0) (.slice none 0 0)
      refine bodyPost_ret (v:= .tuple #[TV (.slice none 0 0) 0 0 (.slice none 0 0) (.slice none 0 0),.bool false]) (by simp [results,Tryz.results47,go_sem,e0,e1,e2,e3,e4]) rfl ?_
      have b5:=t5.toBelow (fun k e=>by omega) Xbw.out Xbw.out.size
      refine⟨by first|exact b5|exact b5.drew,_,_,_,by rw [hno,hnu];rfl,?_⟩
      rw [hnu]
      exact IsTab.none _ _ (fun b hb=>hb.2)
    ·rw [decide_eq_false e1]
     have d0:=(kr9.cell 0).trans rfl
     have d1:=(kr9.cell 1).trans rfl
     have d2:=(kr9.cell 2).trans rfl
     have d3:=(kr9.cell 3).trans rfl
     have d4:=(kr9.cell 4).trans rfl
     have f0:=kr9.frozen 0
     have f1:=kr9.frozen 1
     have f2:=kr9.frozen 2
     have f3:=kr9.frozen 3
     have f4:=kr9.frozen 4
     obtain⟨Xkr,Xbw⟩:=HqZ2 kr9 bw9;clear kr9 bw9;obtain⟨Xg9,Xt9,Xq9,Xe1⟩:=HqZ4 g9 t9 q9 e1;clear g9 t9 q9 e1
     go_wp2_with fail
     have hno:rP=false:=by
      rw [XhRP.out]
      rw [Xhr.out,Xhf.out,XhsP.out,decide_eq_true Xe0.out,decide_eq_false Xe1.out];rfl
     have hnu:=XhUno.out hno
     have k5:=((((Xkr.out.put 0 (.slice none 0 0)).put 1 (.int .i64 0)).put 2 (.int .i64 0)).put 3 (.slice none 0 0)).put 4 (.slice none 0 0)
     have e0:=(k5.cell 0).trans rfl
     have e1:=(k5.cell 1).trans rfl
     have e2:=(k5.cell 2).trans rfl
     have e3:=(k5.cell 3).trans rfl
     have e4:=(k5.cell 4).trans rfl
     have t5:=touch_five w9 (w.heap.size+1) (.slice none 0 0) (.int .i64 0) (.int .i64 0) (.slice none 0 0) (.slice none 0 0)
     refine bodyPost_ret (v:= .tuple #[TV (.slice none 0 0) 0 0 (.slice none 0 0) (.slice none 0 0),.bool false]) (by simp [results,Tryz.results47,go_sem,e0,e1,e2,e3,e4]) rfl ?_
     have b5:=t5.toBelow (fun k e=>by omega) Xbw.out Xbw.out.size
     refine⟨by first|exact b5|exact b5.drew,_,_,_,by rw [hno,hnu];rfl,?_⟩
     rw [hnu]
     exact IsTab.none _ _ (fun b hb=>hb.2)
   ·rw [decide_eq_false e0]
    have d0:=(kr8.cell 0).trans rfl
    have d1:=(kr8.cell 1).trans rfl
    have d2:=(kr8.cell 2).trans rfl
    have d3:=(kr8.cell 3).trans rfl
    have d4:=(kr8.cell 4).trans rfl
    have f0:=kr8.frozen 0
    have f1:=kr8.frozen 1
    have f2:=kr8.frozen 2
    have f3:=kr8.frozen 3
    have f4:=kr8.frozen 4
    obtain⟨Xkr,Xbw⟩:=HqZ2 kr8 bw8;clear kr8 bw8;obtain⟨Xg8,Xt8,Xq8,Xe0⟩:=HqZ4 g8 t8 q8 e0;clear g8 t8 q8 e0
    go_wp2_with fail
    have hno:rP=false:=by
     rw [XhRP.out]
     rw [Xhr.out,Xhf.out,XhsP.out,decide_eq_false Xe0.out];rfl
    have hnu:=XhUno.out hno
    have k5:=((((Xkr.out.put 0 (.slice none 0 0)).put 1 (.int .i64 0)).put 2 (.int .i64 0)).put 3 (.slice none 0 0)).put 4 (.slice none 0 0)
    have e0:=(k5.cell 0).trans rfl
    have e1:=(k5.cell 1).trans rfl
    have e2:=(k5.cell 2).trans rfl
    have e3:=(k5.cell 3).trans rfl
    have e4:=(k5.cell 4).trans rfl
    have t5:=touch_five w8 (w.heap.size+1) (.slice none 0 0) (.int .i64 0) (.int .i64 0) (.slice none 0 0) (.slice none 0 0)
    refine bodyPost_ret (v:= .tuple #[TV (.slice none 0 0) 0 0 (.slice none 0 0) (.slice none 0 0),.bool false]) (by simp [results,Tryz.results47,go_sem,e0,e1,e2,e3,e4]) rfl ?_
    have b5:=t5.toBelow (fun k e=>by omega) Xbw.out Xbw.out.size
    refine⟨by first|exact b5|exact b5.drew,_,_,_,by rw [hno,hnu];rfl,?_⟩
    rw [hnu]
    exact IsTab.none _ _ (fun b hb=>hb.2)
theorem pack_Right {w:World} {F:Nat->Prop} {v1 v2 v3 v4 v5:Value} {p:PackD} (h:IsPack w F v1 v2 v3 v4 v5 p) (hl:LenP p):
  Calls Tryz.prog 17 #[PV v1 p.terms p.nons v2 v3 v4 v5] w (Quiet w (.bool (rightP p))):=by
 obtain⟨A1,c1,A2,c2,A3,c3,A4,c4,A5,c5,rfl,rfl,rfl,rfl,rfl,-⟩:=h.slices
 obtain⟨w1,hw1⟩: ∃q,q=w.alloc (.cells #[.slice A1 p.rules.length c1,.int .i64 p.terms,.int .i64 p.nons,.slice A2 p.row.length c2,.slice A3 p.rows.length c3,.slice A4 p.gow.length c4,.slice A5 p.gows.length c5] 26):=⟨_,rfl⟩
 have g1:=PBox.new h p.terms p.nons
 have b1:Below w.heap.size w w1:=by rw [hw1];exact(Below.refl _ w).alloc (Nat.le_refl _) _
 rw [<-hw1]at g1
 have cO:=pack_opened g1.pk hl
 unfold OpenedPost at cO
 generalize p.terms=T at *
 generalize p.nons=N at *
 generalize p.rules.length=n1 at *
 generalize p.row.length=n2 at *
 generalize p.rows.length=n3 at *
 generalize p.gow.length=n4 at *
 generalize p.gows.length=n5 at *
 generalize rightP p=r at *
 generalize unpackP p=t at *
 clear h g1
 obtain⟨XcO,Xb1⟩:=HqZ2 cO b1;clear cO b1
 go_enter Tryz.func17,Tryz.ntmps17
 go_wp2_with fail
 rw [<-hw1]
 refine XcO.out.mono ?_
 rintro e w2 ⟨b2,vr,va,vg,rfl,ht⟩
 obtain⟨B1,u1,B2,u2,B3,u3,rfl,rfl,rfl,-⟩:=ht.slices
 clear ht
 generalize t.rules.length=m1 at *
 generalize t.acts.length=m2 at *
 generalize t.goto.length=m3 at *
 have bw:=Xb1.out.trans (b2.mono Xb1.out.size)
 have bw3:=bw.alloc bw.size (.cells #[.slice B1 m1 u1,.int .i64 t.terms,.int .i64 t.nons,.slice B2 m2 u2,.slice B3 m3 u3] 44)
 clear b2 bw
 have Xbw3:=hide bw3;clear bw3
 go_wp2_with fail
 go_ret
 exact⟨ret_bool rfl,by first|exact Xbw3.out|exact Xbw3.out.drew⟩
end Go.Proofs.YtlpipniclimgeaaGreat
namespace Go.Proofs.YtlpipniclimgeaaGreat
set_option linter.unusedVariables false
set_option linter.unusedSimpArgs false
open Go.RowKit
attribute [local irreducible] wpStill wpOne wpPh
theorem rdl_rows {X:Type} {w:World} {F:Nat->Prop} {Q:Value->X->Prop} {v:Value} {l:List X} (h:RdL w F 1 (fun cs x=> ∃u,cs=[u]/\Q u x) v l):RdRw Q w F v l:=by
 obtain⟨A,c,hv,hc,hm,hr⟩:=h
 subst hv
 by_cases h0:0<l.length
 ·obtain⟨b,off,rfl,hb,hcell⟩:=hr h0
  obtain⟨Z,hZ,hP⟩:=list_choice (D:=l) (P:=fun i (z:Value)=>w.cell? ⟨b,off+i,none⟩=some z/\ ∀d,l[i]? =some d->Q z d) (fun i d hd=>by
   obtain⟨cs,hl,⟨u,rfl,hq⟩,hu⟩:=hcell i d hd
   refine⟨u,by have:=hu 0 u rfl;simpa using this,fun d' hd'=> ?_⟩
   rw [hd]at hd'
   injection hd' with hd'
   subst hd'
   exact hq)
  exact⟨Z,hZ,⟨_,l.length,c,rfl,hc,hm,by omega,fun _=>⟨b,off,rfl,hb,fun j u hu=>(hP j u hu).1⟩⟩,fun j z x hz hx=>(hP j z hz).2 x hx⟩
 ·have hD:l=[]:=List.eq_nil_of_length_eq_zero (by omega)
  subst hD
  exact⟨[],rfl,⟨A,0,c,rfl,Nat.zero_le _,hm,rfl,fun h=>absurd h (by omega)⟩,fun j z x hz hx=>by simp at hx⟩
section
open Go.ChangeShapes Go.WideShapes Go.ChangeAt Go.RowKit Go.Deep
variable {H : Type} {enc : TypeId × Value -> H} {w : World} {sp : Nat -> Bool}
theorem rdl_rules {v:Value} {xs:List (Int×List Int)} (h:RdL w (· <w.heap.size) 2 (fun cs x=> ∃c0 c1,cs=[c0,c1]/\([c0]=[Value.int .i64 x.1]/\(Lit.int .i64 x.1).wf=true)/\ ∃v,[c1]=[v]/\RdL w (· <w.heap.size) 1 (fun cs n=>cs=[.int .i64 n]/\(Lit.int .i64 n).wf=true) v x.2/\x.2.length * 8<=140737488351232) v xs):
  RdL w (· <w.heap.size) 2 (ERule w (· <w.heap.size)) v xs/\ ∀r∈xs,W64 r.1:=by
 refine RdL.parts (RdL.also (E':=ERule w (· <w.heap.size)) (p:=fun r=>W64 r.1) h (fun cs x he=> ?_))
 obtain⟨a0,a1,rfl,⟨f0,w0⟩,v,f1,hv,hl⟩:=he
 injection f0 with f0
 injection f1 with f1
 subst f0 f1
 exact⟨⟨a1,rfl,(rdl_ints hv).1⟩,wf_i64_iff w0⟩
end
theorem flatT_get {X:Type} {k:Nat} {f:X->List Value} (hf: ∀x,(f x).length=k): ∀{l:List X} {i j:Nat} {x:X},l[i]? =some x->j<k->(l.flatMap f)[i * k+j]? =(f x)[j]?
 |[],i,j,x,h,_=>by simp at h
 |y::l,0,j,x,h,hj=>by
  injection h with h
  subst h
  rw [List.flatMap_cons,List.getElem?_append_left (by rw [hf];omega),Nat.zero_mul,Nat.zero_add]
 |y::l,i+1,j,x,h,hj=>by
  rw [List.flatMap_cons,List.getElem?_append_right (by rw [hf,Nat.add_mul];omega),hf,show(i+1) * k+j - k=i * k+j by rw [Nat.add_mul];omega]
  exact flatT_get hf (by simpa using h) hj
theorem RM.rdl {X:Type} {e:TypeId} {size:Nat} {pre:X->List Value} {E:World->(Nat->Prop)->Value->X->Prop} {base n:Nat} {w:World} {A:Option Addr} {c:Nat} {L:List X} (h:RM e size pre E (fun b=>base<=b) base w A n c L) (hE:Hands E) (hp: ∀x,(pre x).length+1=size):
  RdL w (fun b=>base<=b/\b<w.heap.size) size (fun cs x=> ∃z,cs=pre x++[z]/\E w (fun b=>base<=b/\b<w.heap.size) z x) (.slice A n c) L:=by
 obtain⟨Z,h1,h2,h3⟩:=h.ex
 have hn:=h.hn
 obtain⟨A',n',c',e1,g1,g2,g3,g4⟩:=Rd.of_own h2
 injection e1 with e1 e2 e3
 subst e1 e2 e3 hn
 refine⟨A,c,rfl,g1,g2,fun hn=> ?_⟩
 obtain⟨b,off,e4,e5,e6⟩:=g4 hn
 refine⟨b,off,e4,h2.lt b e5,fun i x hx=> ?_⟩
 obtain⟨z,hz⟩: ∃z,Z[i]? =some z:=⟨_,List.getElem?_eq_getElem (by have:=(List.getElem?_eq_some_iff.1 hx).1;omega)⟩
 have hzip:(List.zip L Z)[i]? =some (x,z):=by rw [List.getElem?_zip_eq_some];exact⟨hx,hz⟩
 have hlen: ∀p:X×Value,(pre p.1++[p.2]).length=size:=fun p=>by rw [List.length_append];exact hp p.1
 refine⟨pre x++[z],hlen (x,z),⟨z,rfl,hE.mono (h3 i z x hz hx) fun b hb=>⟨hb.1,hb.2.1⟩⟩,fun j u hu=> ?_⟩
 have hj:j<size:=by have:=(List.getElem?_eq_some_iff.1 hu).1;rw [hlen (x,z)]at this;exact this
 rw [Nat.add_assoc]
 refine e6 _ u ?_
 unfold rmCells
 rw [flatT_get (k:=size) (f:=fun p:X×Value=>pre p.1++[p.2]) hlen hzip hj]
 exact hu
def RdRuleP (w:World) (B:Nat) (F:Nat->Prop) (s:Rds) (e:Ending) (w':World):Prop:= ∃A c,e= .returned (.agg #[.int .i64 (ruleD s).1.1,.slice A (ruleD s).1.2.length c])/\RdI w' (fun b=>w.heap.size<=b/\b<w'.heap.size) (.slice A (ruleD s).1.2.length c) (ruleD s).1.2/\Rdr 66 w' B F (ruleD s).2/\Touch (fun b=>b=B) w w'
set_option maxRecDepth 100000 in
set_option maxHeartbeats 2000000 in
theorem reader_rule {w:World} {B:Nat} {F:Nat->Prop} {s:Rds} (h:Rdr 66 w B F s):
  Calls Tryz.prog 29 #[.pointer (some ⟨B,0,none⟩)] w (RdRuleP w B F s):=by
 have hB:=h.lt
 have hF:=h.data
 obtain⟨w1,hw1⟩: ∃q,w.alloc (.cells #[.int .i64 0,.slice none 0 0] 53)=q:=⟨_,rfl⟩
 have b1:Below w.heap.size w w1:=by rw [<-hw1];exact(Below.refl _ _).alloc (Nat.le_refl _) _
 have k1:Blk w1 w.heap.size 53 #[.int .i64 0,.slice none 0 0]:=by rw [<-hw1];exact Blk.new _ _ _
 have z1:w1.heap.size=w.heap.size+1:=by rw [<-hw1];simp
 have h1:=h.below b1
 have T1:=Touch.of_size b1 (fun b=>b=B)
 have c1:=reader_num h1
 have hr:ruleD s=(((numD s).1,(lineD numD (numD (numD s).2).1.toNat (numD (numD s).2).2).1),(lineD numD (numD (numD s).2).1.toNat (numD (numD s).2).2).2):=rfl
 unfold RdRuleP
 rw [hr]
 unfold NumP at c1
 have hb1:=num_range h.bytes
 obtain⟨a,s1,hq1⟩: ∃a' s',numD s=(a',s'):=⟨_,_,rfl⟩
 rw [hq1]at c1⊢
 simp only at c1⊢
 obtain⟨n,s2,hq2⟩: ∃a' s',numD s1=(a',s'):=⟨_,_,rfl⟩
 rw [hq2]
 simp only
 obtain⟨N,hN⟩: ∃N,N=n.toNat:=⟨_,rfl⟩
 rw [<-hN]
 obtain⟨xs,s3,hq3⟩: ∃a' s',lineD numD N s2=(a',s'):=⟨_,_,rfl⟩
 rw [hq3]
 simp only
 clear h h1 b1 hr hq1 hb1
 obtain⟨Xk1,Xz1,XT1,Xc1,XhB,XhF,Xhq2,XhN,Xhq3⟩:=HqZ9 k1 z1 T1 c1 hB hF hq2 hN hq3;clear k1 z1 T1 c1 hB hF hq2 hN hq3
 go_enter Tryz.func29,Tryz.ntmps29
 go_wp2_with fail
 refine Xc1.out.mono ?_
 rintro e w2 ⟨rfl,h2,t2⟩
 have T2:=XT1.out.trans' t2
 have k2:=Xk1.out.touch t2 (fun e=>by have:=XhB.out;omega)
 have z2:w.heap.size+1<=w2.heap.size:=by have:=t2.size;have:=Xz1.out;omega
 obtain⟨w3,hw3⟩: ∃q,q=w2.alloc (.cells #[.int .i64 a,.slice none 0 0] 53):=⟨_,rfl⟩
 have b3:Below w2.heap.size w2 w3:=by rw [hw3];exact(Below.refl _ _).alloc (Nat.le_refl _) _
 have m3:Blk w3 w2.heap.size 53 #[.int .i64 a,.slice none 0 0]:=by rw [hw3];exact Blk.new _ _ _
 have k3:=k2.below b3 k2.lt
 have h3:=h2.below b3
 have T3:=T2.trans' (Touch.of_size b3 _)
 have c2:=reader_num h3
 unfold NumP at c2
 have hrg:=num_range h2.bytes
 rw [Xhq2.out]at c2 hrg
 simp only at c2 hrg
 have z3:w2.heap.size+1=w3.heap.size:=by rw [hw3];simp
 clear hw1 Xk1 Xz1 XT1 Xc1 t2 T2 k2 b3 h2 h3
 obtain⟨Xk3,Xm3,XT3,Xc2,Xz2,Xz3,Xhrg⟩:=HqZ7 k3 m3 T3 c2 z2 z3 hrg;clear k3 m3 T3 c2 z2 z3 hrg
 go_wp2_with fail
 rw [<-hw3]
 refine Xc2.out.mono ?_
 rintro e w4 ⟨rfl,h4,t4⟩
 have T4:=XT3.out.trans' t4
 have k4:=Xk3.out.touch t4 (fun e=>by have:=XhB.out;omega)
 have m4:=Xm3.out.touch t4 (fun e=>by have:=XhB.out;have:=Xz2.out;omega)
 have z4:w2.heap.size+1<=w4.heap.size:=by have:=t4.size;have:=Xz3.out;omega
 have hn:n=(N:Int):=by have:=Xhrg.out;have:=XhN.out;omega
 have c5:=line_int h4 N (by have:=Xhrg.out;have:=XhN.out;omega)
 unfold LnP at c5
 rw [Xhq3.out]at c5
 simp only at c5
 rw [hn]
 clear hw3 Xk3 Xm3 XT3 Xc2 t4 h4 Xz3 Xhrg hn
 obtain⟨Xk4,Xm4,XT4,Xc5,Xz4⟩:=HqZ5 k4 m4 T4 c5 z4;clear k4 m4 T4 c5 z4
 go_wp2_with fail
 refine Xc5.out.mono ?_
 rintro e w5 ⟨A5,u5,rfl,rx,h5,t5⟩
 have T5:=XT4.out.trans' t5
 have k5:=Xk4.out.touch t5 (fun e=>by have:=XhB.out;omega)
 have m5:=Xm4.out.touch t5 (fun e=>by have:=XhB.out;have:=Xz2.out;omega)
 have z5:=t5.size
 have hlt5:B<w5.heap.size:=h5.lt
 obtain⟨v,hv⟩: ∃v,v=Value.slice A5 xs.length u5:=⟨_,rfl⟩
 have S1:Touch (fun b=>b=w2.heap.size\/b=w.heap.size) w5 (((w5.setCell ⟨w2.heap.size,1,none⟩ (.slice A5 xs.length u5)).setCell ⟨w.heap.size,0,none⟩ (.int .i64 a)).setCell ⟨w.heap.size,1,none⟩ (.slice A5 xs.length u5)):=(((Touch.refl _ _).setCell (fun _=> .inl rfl) _).setCell (fun _=> .inr rfl) _).setCell (fun _=> .inr rfl) _
 have fT:Touch (fun b=>b=B) w (((w5.setCell ⟨w2.heap.size,1,none⟩ (.slice A5 xs.length u5)).setCell ⟨w.heap.size,0,none⟩ (.int .i64 a)).setCell ⟨w.heap.size,1,none⟩ (.slice A5 xs.length u5)):=T5.trans S1 fun q hq e=>(by have:=Xz2.out;omega)
 have fR:RdI (((w5.setCell ⟨w2.heap.size,1,none⟩ (.slice A5 xs.length u5)).setCell ⟨w.heap.size,0,none⟩ (.int .i64 a)).setCell ⟨w.heap.size,1,none⟩ (.slice A5 xs.length u5)) (fun b=>w.heap.size<=b/\b<(((w5.setCell ⟨w2.heap.size,1,none⟩ (.slice A5 xs.length u5)).setCell ⟨w.heap.size,0,none⟩ (.int .i64 a)).setCell ⟨w.heap.size,1,none⟩ (.slice A5 xs.length u5)).heap.size) (.slice A5 xs.length u5) xs:=
  (Rd.touch (show RdI w5 _ _ xs from rx) S1 fun b hb e=>(by have:=Xz4.out;have:=Xz2.out;omega)).mono fun b hb=>⟨(by have:=Xz4.out;have:=Xz2.out;omega),Nat.lt_of_lt_of_le hb.2 S1.size⟩
 have fH:=h5.touch S1 fun b hb e=>(by
  have:=Xz2.out
  have:=XhB.out
  rcases hb with hb|hb
  ·have:=XhF.out b hb;omega
  ·omega)
 have q0:w5.cell? ⟨w2.heap.size,0,none⟩=some (.int .i64 a):=(m5.cell 0).trans rfl
 have q1:w5.cell? ⟨w2.heap.size,1,none⟩=some (.slice none 0 0):=(m5.cell 1).trans rfl
 have q2:w5.cell? ⟨w.heap.size,0,none⟩=some (.int .i64 0):=(k5.cell 0).trans rfl
 have q3:w5.cell? ⟨w.heap.size,1,none⟩=some (.slice none 0 0):=(k5.cell 1).trans rfl
 have hne1: ¬w2.heap.size=w.heap.size:=by have:=Xz2.out;omega
 have hne2: ¬w.heap.size=w2.heap.size:=by have:=Xz2.out;omega
 have fr:=m5.frozen 1
 have fr0:=k5.frozen 0
 have fr1:=k5.frozen 1
 have K:Blk (((w5.setCell ⟨w2.heap.size,1,none⟩ (.slice A5 xs.length u5)).setCell ⟨w.heap.size,0,none⟩ (.int .i64 a)).setCell ⟨w.heap.size,1,none⟩ (.slice A5 xs.length u5)) w.heap.size 53 #[.int .i64 a,.slice A5 xs.length u5]:=((k5.touch (touch_setT w5 w2.heap.size 1 (.slice A5 xs.length u5)) hne2).put 0 (.int .i64 a)).put 1 (.slice A5 xs.length u5)
 have e0:=(K.cell 0).trans rfl
 have e1:=(K.cell 1).trans rfl
 clear K
 obtain⟨Xe0,Xe1⟩:=HqZ2 e0 e1;clear e0 e1;clear rx h5 t5 T5 S1 z5 Xk4 Xm4 XT4 Xc5 hv v;obtain⟨XfT,XfR,XfH,Xk5,Xm5⟩:=HqZ5 fT fR fH k5 m5;clear fT fR fH k5 m5
 go_wp2_with fail
 have e0:=Xe0.out
 have e1:=Xe1.out
 refine bodyPost_ret (v:= .agg #[.int .i64 a,.slice A5 xs.length u5]) (by simp [results,Tryz.results29,go_sem,e0,e1]) rfl ?_
 exact⟨A5,u5,rfl,XfR.out,XfH.out,XfT.out⟩
def NxP {X:Type} (V:X->Value->Value) (E:World->(Nat->Prop)->Value->X->Prop) (T:TypeId) (w:World) (B:Nat) (F:Nat->Prop) (q:X×Rds) (e:Ending) (w':World):Prop:=
 ∃A n c,e= .returned (V q.1 (.slice A n c))/\E w' (fun b=>w.heap.size<=b/\b<w'.heap.size) (.slice A n c) q.1/\Rdr T w' B F q.2/\Touch (fun b=>b=B) w w'
abbrev ruleV (r:Int×List Int) (z:Value):Value:= .agg #[.int .i64 r.1,z]
abbrev rowV (r:List Int) (z:Value):Value:=z
def ruleE (w:World) (F:Nat->Prop) (z:Value) (r:Int×List Int):Prop:=RdI w F z r.2
def rowE (w:World) (F:Nat->Prop) (z:Value) (r:List Int):Prop:=RdU w F z r
theorem hands_rule:Hands ruleE:=⟨fun h m=>Rd.mono h m,fun h t m=>Rd.touch h t m⟩
theorem hands_row:Hands rowE:=⟨fun h m=>Rd.mono h m,fun h t m=>Rd.touch h t m⟩
theorem reader_ruleN {w:World} {B:Nat} {F:Nat->Prop} {s:Rds} (h:Rdr 66 w B F s):
  Calls Tryz.prog 29 #[.pointer (some ⟨B,0,none⟩)] w (NxP ruleV ruleE 66 w B F (ruleD s)):=
 (reader_rule h).mono fun e w' ⟨A,c,h1,h2,h3,h4⟩=>⟨A,_,c,h1,h2,h3,h4⟩
theorem LnP.mk2 {X:Type} {Q:World->(Nat->Prop)->Value->List X->Prop} {e:TypeId} {size:Nat} {pre:X->List Value} {E:World->(Nat->Prop)->Value->X->Prop} {T:TypeId} {w w':World} {B:Nat} {F:Nat->Prop} {acc:List X} {s:Rds} {q:List X×Rds} {A:Option Addr} {k c:Nat} (hE:Hands E) (hp: ∀x,(pre x).length+1=size)
  (hQ: ∀{F:Nat->Prop} {v:Value} {l:List X},RdL w' F size (fun cs x=> ∃z,cs=pre x++[z]/\E w' F z x) v l->Q w' F v l)
  (hq:q=(acc,s)) (hk:k=acc.length) (own:RM e size pre E (fun b=>w.heap.size<=b) w.heap.size w' A k c acc) (hr:Rdr T w' B F s) (t:Touch (fun b=>b=B) w w'):
  LnP Q T w B F q (.returned (.slice A k c)) w':=by
 subst hq hk
 exact⟨A,c,rfl,hQ (own.rdl hE hp),hr,t⟩
def preRule (r:Int×List Int):List Value:=[.int .i64 r.1]
def preRow (r:List Int):List Value:=[]
def RdRules (w:World) (F:Nat->Prop) (v:Value) (l:List (Int×List Int)):Prop:=RdL w F 2 (ERule w F) v l
set_option maxRecDepth 100000 in
set_option maxHeartbeats 2000000 in
theorem line_rule {w:World} {B:Nat} {F:Nat->Prop} {s:Rds} (h:Rdr 66 w B F s) (N:Nat) (hN:N<=70000):
  Calls Tryz.prog 28 #[.pointer (some ⟨B,0,none⟩),.int .i64 (N:Int),.func (.func 29) #[.pointer (some ⟨B,0,none⟩)] #[]] w (LnP RdRules 66 w B F (lineD ruleD N s)):=by
 have hB:=h.lt
 have hF:=h.data
 obtain⟨R,hR⟩: ∃R,R=lineD ruleD N s:=⟨_,rfl⟩
 rw [<-hR]
 have h0:RM 53 2 preRule ruleE (fun b=>w.heap.size<=b) w.heap.size w none 0 0 []:=RM.nil _ _ _
 obtain⟨Xh,XhR,Xh0,XhB,XhF⟩:=HqZ5 h hR h0 hB hF;clear h hR h0 hB hF
 go_enter Tryz.func28,Tryz.ntmps28
 go_wp2_with fail
 go_loopw [7,9] (fun ov iv wr=> ∃(acc:List (Int×List Int)) (t:Rds) (A:Option Addr) (k c:Nat),k=acc.length/\k<=N/\ov= .slice A k c/\iv= .int .i64 (k:Int)/\RM 53 2 preRule ruleE (fun b=>w.heap.size<=b) w.heap.size wr A k c acc/\Rdr 66 wr B F t/\Touch (fun b=>b=B) w wr/\R=(acc++(lineD ruleD (N - k) t).1,(lineD ruleD (N - k) t).2)) (fun _ iv _=>N - (intOf iv).toNat)
 case atStart=>exact⟨[],s,none,0,0,rfl,Nat.zero_le _,rfl,rfl,Xh0.out,Xh.out,Touch.refl _ _,XhR.out⟩
 case round=>
  clear Xh0 Xh XhR
  obtain⟨acc,⟨l,t⟩,A,k,c,hk,hkN,rfl,rfl,own,hr,hT,hE⟩:=hrel
  by_cases hlt:k<N
  ·have hlt1:(k:Int)<(N:Int):=by omega
   have p1:=hr.bit
   cases t with
   |true=>
    have hE2:R=(acc,(l,true)):=by rw [hE,line_stop,List.append_nil]
    clear hE
    obtain⟨Xhk,Xown,Xhr,XhT,XhE2⟩:=HqZ5 hk own hr hT hE2;clear hk own hr hT hE2
    go_wp2_with fail
    go_ret
    exact LnP.mk2 (size:=2) (pre:=preRule) hands_rule (fun _=>rfl) (fun h=>h) XhE2.out Xhk.out Xown.out Xhr.out XhT.out
   |false=>
    have cN:=reader_ruleN hr
    unfold NxP at cN
    have hE2:R=((acc++[(ruleD (l,false)).1])++(lineD ruleD (N - (k+1)) (ruleD (l,false)).2).1,(lineD ruleD (N - (k+1)) (ruleD (l,false)).2).2):=by
     rw [hE,show N - k=(N - (k+1))+1 by omega,line_go,List.append_assoc];rfl
    generalize ruleD (l,false)=y at *
    obtain⟨x,t⟩:=y
    simp only at cN hE2
    clear hE hr
    obtain⟨Xhk,Xown,XhT,XhE2,XcN⟩:=HqZ5 hk own hT hE2 cN;clear hk own hT hE2 cN
    go_wp2_with fail
    refine XcN.out.mono ?_
    rintro e w6 ⟨A6,n6,c6,rfl,rz,hr6,t6⟩
    have own6:=Xown.out.touch hands_rule t6 (fun q e=>by have:=(Xown.out.block q e).1;have:=XhB.out;omega) (fun q e _=>by have:=XhB.out;omega)
    have hsz0:=XhT.out.size
    have hne6: ∀q,wr.heap.size<=q->(Value.slice A k c).ownBlock≠some q:=fun q hq e=>by have:=(Xown.out.block q e).2;omega
    have T6:=XhT.out.trans' t6
    have al:Below w6.heap.size w6 (w6.alloc (.cells #[.int .i64 x.1,.slice A6 n6 c6] 53)):=(Below.refl _ _).alloc (Nat.le_refl _) _
    have hr7:=hr6.below al
    have T7:=T6.trans' (Touch.of_size al _)
    have rone:Rd (w6.alloc (.cells #[.int .i64 x.1,.slice A6 n6 c6] 53)) (fun x=>x=w6.heap.size) (.slice (some ⟨w6.heap.size,0,none⟩) 1 1) 2 [.int .i64 x.1,.slice A6 n6 c6]:=Rd.one' (w:=w6) (e:=53) [.int .i64 x.1,.slice A6 n6 c6] 2 rfl
    obtain⟨Z,g1,g2,g3⟩:=own6.ex
    have own7:=own_below' g2 al
    have hz:w.heap.size<=(w6.alloc (.cells #[.int .i64 x.1,.slice A6 n6 c6] 53)).heap.size:=T7.size
    obtain⟨us,hus⟩: ∃q,q=rmCells preRule acc Z:=⟨_,rfl⟩
    have own7':=own7
    rw [<-hus]at own7'
    have hzz:ruleE w6 (fun b=>w.heap.size<=b/\b<w6.heap.size/\(Value.slice A k c).ownBlock≠some b) (.slice A6 n6 c6) x:=hands_rule.mono rz fun b hb=>⟨Nat.le_trans hsz0 hb.1,hb.2,hne6 b hb.1⟩
    have h66:=T6.size
    clear T6 hr6 t6 XhT Xown XcN rz own7 hne6 hsz0 own6
    obtain⟨Xown7',Xhr7,XT7,Xrone,Xhz,Xg1,Xg2,Xg3,Xal,Xhzz,Xh66,Xhus⟩:=HqZ12 own7' hr7 T7 rone hz g1 g2 g3 al hzz h66 hus;clear own7' hr7 T7 rone hz g1 g2 g3 al hzz h66 hus
    go_wp2_with (at_builtin;refine wp_append _ rfl (.tmp 15) (.tmp 18) _ rfl Tryz.elemRule w.heap.size (.slice A k c) k _ rfl Xown7'.out _ _ [.int .i64 x.1,.slice A6 n6 c6] 1 rfl rfl Xrone.out (by simp [Value.oneCell']) (by unfold maxLen;omega) (by omega) Xhz.out ?_)
    intro A8 c8 w8 own8 g8 hb8
    have own9:=own8
    rw [Xhus.out]at own9
    obtain⟨P1,P2,P3⟩:=RM.push hands_rule (z:= .slice A6 n6 c6) (x:=x) Xhk.out Xg1.out Xg2.out Xg3.out Xh66.out Xhzz.out (Below.refl _ _) Xal.out own9 g8 (by rw [World.size_alloc];exact hb8)
    have T8:Touch (fun b=>b=B) w w8:=XT7.out.trans P3 fun q hq e=>(by have:=(Xown7'.out.lt q e).1;omega)
    have hr8:=Xhr7.out.touch P3 fun q hq e=>(by
     have:=(Xown7'.out.lt q e).1
     rcases hq with hq|hq
     ·have:=XhF.out q hq;omega
     ·have:=XhB.out;omega)
    clear g8 hb8 own8 own9 P2 P3 Xown7' XT7 Xrone Xhr7 Xhz Xg1 Xg2 Xg3 Xal Xhzz Xh66 Xhus
    obtain⟨XP1,Xhr8,XT8⟩:=HqZ3 P1 hr8 T8;clear P1 hr8 T8
    go_wp2_with fail
    go_roundw
    case rel=>exact⟨acc++[x],t,A8,k+1,c8,by rw [List.length_append,<-Xhk.out];rfl,by omega,rfl,by go_num,XP1.out,Xhr8.out,XT8.out,XhE2.out⟩
    case measure=>simp [intOf];omega
  ·have hlt1: ¬(k:Int)<(N:Int):=by omega
   have hE2:R=(acc,(l,t)):=by rw [hE,show N - k=0 by omega];show(acc++[],(l,t))=_;rw [List.append_nil]
   clear hE
   obtain⟨Xhk,Xown,Xhr,XhT,XhE2⟩:=HqZ5 hk own hr hT hE2;clear hk own hr hT hE2
   go_wp2_with fail
   go_ret
   exact LnP.mk2 (size:=2) (pre:=preRule) hands_rule (fun _=>rfl) (fun h=>h) XhE2.out Xhk.out Xown.out Xhr.out XhT.out
set_option maxRecDepth 100000 in
theorem rows_next {w:World} {B:Nat} {F:Nat->Prop} {s:Rds} (h:Rdr 66 w B F s) {d1 d2 W:Nat} (hW:W<=70000) (k1:Blk w d1 64 #[.pointer (some ⟨B,0,none⟩)]) (k2:Blk w d2 3 #[.int .i64 (W:Int)]):
  Calls Tryz.prog 52 #[.pointer (some ⟨d1,0,none⟩),.pointer (some ⟨d2,0,none⟩)] w (NxP rowV rowE 66 w B F (lineD numD W s)):=by
 have c1:=line_u16 h W hW
 have q1:=(k1.cell 0).trans rfl
 have q2:=(k2.cell 0).trans rfl
 unfold LnP at c1
 unfold NxP
 generalize lineD numD W s=q at *
 obtain⟨xs,s'⟩:=q
 simp only at c1⊢
 clear h k1 k2 hW
 have Xc1:=hide c1;clear c1
 go_enter Tryz.func52,Tryz.ntmps52
 go_wp2_with fail
 refine Xc1.out.mono ?_
 rintro e w1 ⟨A,c,rfl,r1,h1,t1⟩
 obtain⟨Xr1,Xh1,Xt1⟩:=HqZ3 r1 h1 t1;clear r1 h1 t1
 go_wp2_with fail
 go_ret
 exact⟨A,_,c,rfl,Xr1.out,Xh1.out,Xt1.out⟩
set_option maxRecDepth 100000 in
set_option maxHeartbeats 2000000 in
theorem line_rows {w:World} {B:Nat} {F:Nat->Prop} {s:Rds} (h:Rdr 66 w B F s) (N:Nat) (hN:N<=70000) {d1 d2 W:Nat} (hW:W<=70000) (k1:Blk w d1 64 #[.pointer (some ⟨B,0,none⟩)]) (k2:Blk w d2 3 #[.int .i64 (W:Int)]) (hd:d1≠B/\d2≠B):
  Calls Tryz.prog 51 #[.pointer (some ⟨B,0,none⟩),.int .i64 (N:Int),.func (.func 52) #[] #[.pointer (some ⟨d1,0,none⟩),.pointer (some ⟨d2,0,none⟩)]] w (LnP RdUs 66 w B F (lineD (lineD numD W) N s)):=by
 have hB:=h.lt
 have hF:=h.data
 obtain⟨R,hR⟩: ∃R,R=lineD (lineD numD W) N s:=⟨_,rfl⟩
 rw [<-hR]
 have h0:RM 51 1 preRow rowE (fun b=>w.heap.size<=b) w.heap.size w none 0 0 []:=RM.nil _ _ _
 obtain⟨Xh,XhR,Xh0,XhB,XhF,Xk1,Xk2,Xhd⟩:=HqZ8 h hR h0 hB hF k1 k2 hd;clear h hR h0 hB hF k1 k2 hd
 go_enter Tryz.func51,Tryz.ntmps51
 go_wp2_with fail
 go_loopw [7,9] (fun ov iv wr=> ∃(acc:List (List Int)) (t:Rds) (A:Option Addr) (k c:Nat),k=acc.length/\k<=N/\ov= .slice A k c/\iv= .int .i64 (k:Int)/\RM 51 1 preRow rowE (fun b=>w.heap.size<=b) w.heap.size wr A k c acc/\Rdr 66 wr B F t/\Touch (fun b=>b=B) w wr/\R=(acc++(lineD (lineD numD W) (N - k) t).1,(lineD (lineD numD W) (N - k) t).2)) (fun _ iv _=>N - (intOf iv).toNat)
 case atStart=>exact⟨[],s,none,0,0,rfl,Nat.zero_le _,rfl,rfl,Xh0.out,Xh.out,Touch.refl _ _,XhR.out⟩
 case round=>
  clear Xh0 Xh XhR
  obtain⟨acc,⟨l,t⟩,A,k,c,hk,hkN,rfl,rfl,own,hr,hT,hE⟩:=hrel
  by_cases hlt:k<N
  ·have hlt1:(k:Int)<(N:Int):=by omega
   have p1:=hr.bit
   cases t with
   |true=>
    have hE2:R=(acc,(l,true)):=by rw [hE,line_stop,List.append_nil]
    clear hE
    obtain⟨Xhk,Xown,Xhr,XhT,XhE2⟩:=HqZ5 hk own hr hT hE2;clear hk own hr hT hE2
    go_wp2_with fail
    go_ret
    exact LnP.mk2 (size:=1) (pre:=preRow) hands_row (fun _=>rfl) (fun h=>rdl_rows h) XhE2.out Xhk.out Xown.out Xhr.out XhT.out
   |false=>
    have cN:=rows_next hr hW (Xk1.out.touch hT (fun e=>Xhd.out.1 e)) (Xk2.out.touch hT (fun e=>Xhd.out.2 e))
    unfold NxP at cN
    have hE2:R=((acc++[((lineD numD W) (l,false)).1])++(lineD (lineD numD W) (N - (k+1)) ((lineD numD W) (l,false)).2).1,(lineD (lineD numD W) (N - (k+1)) ((lineD numD W) (l,false)).2).2):=by
     rw [hE,show N - k=(N - (k+1))+1 by omega,line_go,List.append_assoc];rfl
    generalize (lineD numD W) (l,false)=y at *
    obtain⟨x,t⟩:=y
    simp only at cN hE2
    clear hE hr
    obtain⟨Xhk,Xown,XhT,XhE2,XcN⟩:=HqZ5 hk own hT hE2 cN;clear hk own hT hE2 cN
    go_wp2_with fail
    refine XcN.out.mono ?_
    rintro e w6 ⟨A6,n6,c6,rfl,rz,hr6,t6⟩
    have own6:=Xown.out.touch hands_row t6 (fun q e=>by have:=(Xown.out.block q e).1;have:=XhB.out;omega) (fun q e _=>by have:=XhB.out;omega)
    have hsz0:=XhT.out.size
    have hne6: ∀q,wr.heap.size<=q->(Value.slice A k c).ownBlock≠some q:=fun q hq e=>by have:=(Xown.out.block q e).2;omega
    have T6:=XhT.out.trans' t6
    have al:Below w6.heap.size w6 (w6.alloc (.cells #[.slice A6 n6 c6] 51)):=(Below.refl _ _).alloc (Nat.le_refl _) _
    have hr7:=hr6.below al
    have T7:=T6.trans' (Touch.of_size al _)
    have rone:Rd (w6.alloc (.cells #[.slice A6 n6 c6] 51)) (fun x=>x=w6.heap.size) (.slice (some ⟨w6.heap.size,0,none⟩) 1 1) 1 [.slice A6 n6 c6]:=Rd.one' (w:=w6) (e:=51) [.slice A6 n6 c6] 1 rfl
    obtain⟨Z,g1,g2,g3⟩:=own6.ex
    have own7:=own_below' g2 al
    have hz:w.heap.size<=(w6.alloc (.cells #[.slice A6 n6 c6] 51)).heap.size:=T7.size
    obtain⟨us,hus⟩: ∃q,q=rmCells preRow acc Z:=⟨_,rfl⟩
    have own7':=own7
    rw [<-hus]at own7'
    have hzz:rowE w6 (fun b=>w.heap.size<=b/\b<w6.heap.size/\(Value.slice A k c).ownBlock≠some b) (.slice A6 n6 c6) x:=hands_row.mono rz fun b hb=>⟨Nat.le_trans hsz0 hb.1,hb.2,hne6 b hb.1⟩
    have h66:=T6.size
    clear T6 hr6 t6 XhT Xown XcN rz own7 hne6 hsz0 own6
    obtain⟨Xown7',Xhr7,XT7,Xrone,Xhz,Xg1,Xg2,Xg3,Xal,Xhzz,Xh66,Xhus⟩:=HqZ12 own7' hr7 T7 rone hz g1 g2 g3 al hzz h66 hus;clear own7' hr7 T7 rone hz g1 g2 g3 al hzz h66 hus
    go_wp2_with (at_builtin;refine wp_append _ rfl (.tmp 15) (.tmp 18) _ rfl Tryz.elemRU w.heap.size (.slice A k c) k _ rfl Xown7'.out _ _ [.slice A6 n6 c6] 1 rfl rfl Xrone.out (by simp [Value.oneCell']) (by unfold maxLen;omega) (by omega) Xhz.out ?_)
    intro A8 c8 w8 own8 g8 hb8
    have own9:=own8
    rw [Xhus.out]at own9
    obtain⟨P1,P2,P3⟩:=RM.push hands_row (z:= .slice A6 n6 c6) (x:=x) Xhk.out Xg1.out Xg2.out Xg3.out Xh66.out Xhzz.out (Below.refl _ _) Xal.out own9 g8 (by rw [World.size_alloc];exact hb8)
    have T8:Touch (fun b=>b=B) w w8:=XT7.out.trans P3 fun q hq e=>(by have:=(Xown7'.out.lt q e).1;omega)
    have hr8:=Xhr7.out.touch P3 fun q hq e=>(by
     have:=(Xown7'.out.lt q e).1
     rcases hq with hq|hq
     ·have:=XhF.out q hq;omega
     ·have:=XhB.out;omega)
    clear g8 hb8 own8 own9 P2 P3 Xown7' XT7 Xrone Xhr7 Xhz Xg1 Xg2 Xg3 Xal Xhzz Xh66 Xhus
    obtain⟨XP1,Xhr8,XT8⟩:=HqZ3 P1 hr8 T8;clear P1 hr8 T8
    go_wp2_with fail
    go_roundw
    case rel=>exact⟨acc++[x],t,A8,k+1,c8,by rw [List.length_append,<-Xhk.out];rfl,by omega,rfl,by go_num,XP1.out,Xhr8.out,XT8.out,XhE2.out⟩
    case measure=>simp [intOf];omega
  ·have hlt1: ¬(k:Int)<(N:Int):=by omega
   have hE2:R=(acc,(l,t)):=by rw [hE,show N - k=0 by omega];show(acc++[],(l,t))=_;rw [List.append_nil]
   clear hE
   obtain⟨Xhk,Xown,Xhr,XhT,XhE2⟩:=HqZ5 hk own hr hT hE2;clear hk own hr hT hE2
   go_wp2_with fail
   go_ret
   exact LnP.mk2 (size:=1) (pre:=preRow) hands_row (fun _=>rfl) (fun h=>rdl_rows h) XhE2.out Xhk.out Xown.out Xhr.out XhT.out
set_option maxRecDepth 100000 in
set_option maxHeartbeats 2000000 in
theorem reader_rows {w:World} {B:Nat} {F:Nat->Prop} {s:Rds} (h:Rdr 66 w B F s) (W:Nat) (hW:W<=70000):
  Calls Tryz.prog 31 #[.pointer (some ⟨B,0,none⟩),.int .i64 (W:Int)] w (LnP RdUs 66 w B F (rowsD W s)):=by
 have hB:=h.lt
 obtain⟨w2,hw2⟩: ∃q,q=(w.alloc (.cells #[.pointer (some ⟨B,0,none⟩)] 64)).alloc (.cells #[.int .i64 (W:Int)] 3):=⟨_,rfl⟩
 have k1':Blk (w.alloc (.cells #[.pointer (some ⟨B,0,none⟩)] 64)) w.heap.size 64 #[.pointer (some ⟨B,0,none⟩)]:=Blk.new _ _ _
 have b2:Below w.heap.size w w2:=by rw [hw2];exact((Below.refl _ w).alloc (Nat.le_refl _) _).alloc (by simp) _
 have k1:Blk w2 w.heap.size 64 #[.pointer (some ⟨B,0,none⟩)]:=by rw [hw2];exact k1'.alloc _
 have k2:Blk w2 (w.heap.size+1) 3 #[.int .i64 (W:Int)]:=by
  rw [hw2]
  have:=Blk.new (w.alloc (.cells #[.pointer (some ⟨B,0,none⟩)] 64)) 3 #[.int .i64 (W:Int)]
  rw [World.size_alloc]at this
  exact this
 have z2:w2.heap.size=w.heap.size+2:=by rw [hw2];simp
 have h2:=h.below b2
 have T2:=Touch.of_size b2 (fun b=>b=B)
 have hrow:rowsD W s=lineD (lineD numD W) (numD s).1.toNat (numD s).2:=rfl
 rw [hrow]
 have cN:=fun wr (l:Below w2.heap.size w2 wr)=>reader_num (h2.below l)
 have hrg:=num_range h.bytes
 have q1:=(k1.cell 0).trans rfl
 unfold NumP at cN
 obtain⟨n,s',hq⟩: ∃a' t',numD s=(a',t'):=⟨_,_,rfl⟩
 rw [hq]at cN hrg⊢
 simp only at cN hrg⊢
 obtain⟨N,rfl⟩:=Int.eq_ofNat_of_zero_le hrg.1
 rw [Int.toNat_natCast]
 rw [hw2]at q1
 clear h h2 k1' hq hrow
 have bd:Below w2.heap.size w2 w2.drew:=(Below.refl _ w2).drew
 obtain⟨Xk1,Xk2,Xb2,Xz2,XT2,XcN,XhB,Xhrg,Xbd⟩:=HqZ9 k1 k2 b2 z2 T2 cN hB hrg bd;clear k1 k2 b2 z2 T2 cN hB hrg bd
 go_enter Tryz.func31,Tryz.ntmps31
 go_wp2_with fail
 rw [<-hw2]
 rw [<-hw2]at q1
 refine wp_region_held_drew (S:=(fun W0=>W0.cell? ⟨w.heap.size,0,none⟩=some (.pointer (some ⟨B,0,none⟩)))) (by kernel_rfl) ?_ (fun hHeld=> ?_)
 ·exact q1
 generalize hwd:w2.drew=wd at *
 clear hw2 q1
 refine tZ 0 ?_;try simp only [Act.put,sT,s0,s1]
 refine tZ 1 ?_;try simp only [Act.put,sT,s0,s1]
 refine tZ 3 ?_;try simp only [Act.put,sT,s0,s1]
 refine wpAnyH_ready (rs:=[2]) (by kernel_rfl) (by simp) ?_
 refine AllReadyH.cons (o:= ?_) ?_ (fun K hK=> ?_) AllReadyH.nil;rotate_left 1;(focus((try simp only [gT,gs,gz]);try rfl))
 go_simp
 go_at_call 27
 refine(XcN.out _ Xbd.out).mono ?_
 rintro e w3 ⟨rfl,h3,t3⟩
 have k13:=(Xk1.out.below Xbd.out Xk1.out.lt).touch t3 (fun e=>by have:=XhB.out;omega)
 have k23:=(Xk2.out.below Xbd.out Xk2.out.lt).touch t3 (fun e=>by have:=XhB.out;omega)
 have T3:=(XT2.out.trans' (Touch.of_size Xbd.out _)).trans' t3
 have q3:=(k13.cell 0).trans rfl
 have cL:=line_rows h3 N (by have:=Xhrg.out;omega) hW k13 k23 ⟨by have:=XhB.out;omega,by have:=XhB.out;omega⟩
 unfold LnP at cL
 have z3:=T3.size
 clear hHeld h3 t3 Xbd XcN
 obtain⟨Xk13,Xk23,XT3,XcL,Xq3,Xz3⟩:=HqZ6 k13 k23 T3 cL q3 z3;clear k13 k23 T3 cL q3 z3
 refine hK.out _ _ ?_ (fun hHeld=> ?_)
 ·exact Xq3.out
 clear hK K
 try simp only [Act.put,sT,s0,s1]
 refine wpAnyH_ready (rs:=[4]) (by kernel_rfl) (by simp) ?_
 refine AllReadyH.cons (o:= ?_) ?_ (fun K hK=> ?_) AllReadyH.nil;rotate_left 1;(focus((try simp only [gT,gs,gz]);try rfl))
 go_simp
 go_at_call 51
 refine XcL.out.mono ?_
 rintro e w4 ⟨A,c,rfl,r4,h4,t4⟩
 have k14:=Xk13.out.touch t4 (fun e=>by have:=XhB.out;omega)
 have T4:=XT3.out.trans' t4
 have q4:=(k14.cell 0).trans rfl
 clear hHeld XcL t4
 obtain⟨Xr4,Xh4,XT4,Xq4⟩:=HqZ4 r4 h4 T4 q4;clear r4 h4 T4 q4
 refine hK.out _ _ ?_ (fun hHeld=> ?_)
 ·exact Xq4.out
 clear hK K
 try simp only [Act.put,sT,s0,s1]
 refine tZ 5 ?_;try simp only [Act.put,sT,s0,s1]
 refine wpAnyH_done (by kernel_rfl) ?_ _
 go_wp2_with fail
 go_ret
 exact⟨A,c,rfl,RdUs.mono Xr4.out fun b hb=>⟨Nat.le_trans Xz3.out hb.1,hb.2⟩,Xh4.out,XT4.out⟩
end Go.Proofs.YtlpipniclimgeaaGreat

/- Packed tables: opened, right, unpacked. -/
import Derived.Test.YthlbjgabhpdbfaaGreatBPack7
import Derived.Test.YthlbjgabhpdbfaaGreatBPack5
import Derived.Test.YthlbjgabhpdbfaaGreatBActs6
import Derived.Test.YthlbjgabhpdbfaaGreatBActsPlain
set_option linter.unusedVariables false
set_option linter.unusedSimpArgs false
set_option maxRecDepth 100000
set_option maxHeartbeats 8000000
namespace Go.Proofs.YthlbjgabhpdbfaaGreat
open Go.Proofs.Tryz
open List renaming length_map->Za,mem_map->Zb
open Nat renaming le_refl->Zc,lt_of_lt_of_le->Zd
open Go.RowKit Go.Shelf
attribute [local irreducible] wpStill aB aO
def kW (w:World) (F:Nat->Prop) (p:cq) (e:Ending) (w':World):Prop:=Below w.heap.size w w'/\ ∃vr va vg,e= .returned (.tuple #[TV vr (dX p).terms (dX p).nons va vg,.bool (gD p)])/\bL w' (λb=>(F b\/w.heap.size<=b)/\b<w'.heap.size) vr va vg (dX p)
theorem Ci {p:cq} (h:nL p):ug (dT p):=by
 have e: ∀(c:List (List Int)) (b:Int),(∀a∈c,a.length<=70000)->(c.getD b.toNat []).length<=70000:=λc b f=>by
  rw [List.getD_eq_getElem?_getD];cases g:c[b.toNat]? with
  |none=>simp
  |some a=>exact f a (List.mem_of_getElem? g)
 refine⟨λa d=> ?_,λa d=> ?_⟩
 ·obtain⟨b,-,rfl⟩:=Zb.1 d;rw [Za];exact e _ _ h.2.1
 ·obtain⟨b,-,rfl⟩:=Zb.1 d;rw [Za];exact e _ _ h.2.2
theorem FA {p:cq} (h:gD p=false):dX p=jh:=by unfold dX;rw [h];rfl
theorem F8 {p:cq} (h:gD p=true):dX p=dT p:=by unfold dX;rw [if_pos h]
theorem qH {w:World} {F:Nat->Prop} {ei ej el em en:Value} {p:cq} (h:dc w F ei ej el em en p) (cj:nL p):
  Calls prog 89 #[PV ei p.terms p.nons ej el em en] w (kW w F p):=by
 obtain⟨ep,fb,er,fc,es,fd,et,fg,ev,fh,rfl,rfl,rfl,rfl,rfl,fs,ft,fv,fw,b⟩:=h.slices;have dF:=h.lt;obtain⟨a4,hT⟩: ∃a,a=p.terms:=⟨_,rfl⟩;obtain⟨a3,bc⟩: ∃a,a=p.nons:=⟨_,rfl⟩;obtain⟨w1,be⟩: ∃a,a=w.alloc (.cells #[.slice ep p.rules.length fb,.int .i64 p.terms,.int .i64 p.nons,.slice er p.row.length fc,.slice es p.rows.length fd,.slice et p.gow.length fg,.slice ev p.gows.length fh] 52):=⟨_,rfl⟩;have ch:=fH.new h p.terms p.nons;rw [<-be]at ch;obtain⟨gA,cn⟩: ∃a,a=p.rules.length:=⟨_,rfl⟩;obtain⟨gB,co⟩: ∃a,a=p.row.length:=⟨_,rfl⟩;obtain⟨gE,cp⟩: ∃a,a=p.rows.length:=⟨_,rfl⟩;obtain⟨gF,cr⟩: ∃a,a=p.gow.length:=⟨_,rfl⟩;obtain⟨gM,cs⟩: ∃a,a=p.gows.length:=⟨_,rfl⟩;rw [<-hT,<-bc,<-cn,<-co,<-cp,<-cr,<-cs]at ch be;rw [<-hT,<-bc,<-cn,<-co,<-cp,<-cr,<-cs];have cS:Below w.heap.size w w1:=by rw [be];exact(Below.refl _ w).alloc (Zc _) _
 have c5:w1.heap.size=w.heap.size+1:=by rw [be];simp
 obtain⟨w2,bG⟩: ∃a,a=w1.alloc (.cells #[.slice none 0 0,.int .i64 0,.int .i64 0,.slice none 0 0,.slice none 0 0] 35):=⟨_,rfl⟩;have cT:Below w1.heap.size w1 w2:=by rw [bG];exact(Below.refl _ _).alloc (Zc _) _
 have c6:Blk w2 w1.heap.size 35 #[.slice none 0 0,.int .i64 0,.int .i64 0,.slice none 0 0,.slice none 0 0]:=by rw [bG];exact Blk.new _ _ _
 rw [c5]at c6;have eg:w2.heap.size=w.heap.size+2:=by rw [bG,World.size_alloc,c5]
 have cU:=ch.below cT;have dn:=cS.trans (cT.mono cS.size);have cg:=BX cU.pk cj;have dO:=Ci cj;have c1:gD p=(fN p&&(dE (dT p)&&vT p (aZ (dT p)))):=rfl;have dS:jN p=if fN p=true then dT p else jh:=rfl
 have fi:dX p=if gD p=true then dT p else jh:=rfl
 have c3:= @FA p;have c4:= @F8 p;unfold xy at cg;obtain⟨f6,c2⟩: ∃a,a=dX p:=⟨_,rfl⟩;obtain⟨aT,cu⟩: ∃a,a=gD p:=⟨_,rfl⟩;unfold kW;rw [<-c2,<-cu];rw [<-cu,<-c2]at c3 c4;rw [<-cu]at c1;rw [<-hT,<-bc]at cg;rw [be]at bG;have ec:vT p (aZ (dT p))=(decide (p.row=(aZ (dT p)).row)&&(decide (p.gow=(aZ (dT p)).gow)&&(decide (p.rows=(aZ (dT p)).rows)&&decide (p.gows=(aZ (dT p)).gows)))):=rfl;have d1:(dT p).terms=a4/\(dT p).nons=a3:=⟨hT.symm,bc.symm⟩;clear h fs ft fv fw b be c5 cS cT ch c2 cu fi;generalize dT p=r at *;obtain⟨eZ,ga,f9,gg,gh,gi,gk,gl,b7,b3,eQ,e2,ad,e3⟩:=dh cU hT bc cn co cp cr cs c6 dn cg dO c1 dS;obtain⟨a7,e4,e1,e5,bp,a6,gb⟩:=de c3 c4 dF eg ec d1 cj;clear cU hT bc cn co cp cr cs c6 dn cg dO c1 dS c3 c4 dF eg ec d1 cj
 go_enter func89,ntmps89
 go_wp2_with fail
 rw [<-bG];refine eQ.out.mono ?_;rintro e w4 ⟨al,g2,gO,gW,rfl,bd⟩;cases bE:fN p with
 |false=>
  generalize jN p=b1 at *;obtain⟨a0,B,a1,C,a2,D,rfl,rfl,rfl,-,-,-,-,-,-⟩:=bd.slices;have ap:=b7.out.below al b7.out.lt;have an:=b3.out.trans (al.mono b3.out.size);generalize b1.rules.length=bO at *;generalize b1.acts.length=bP at *;generalize b1.goto.length=bR at *;generalize b1.terms=eG at *;generalize b1.nons=eE at *;obtain⟨w5,E⟩: ∃a,a=w4.alloc (.cells #[.slice a0 bO B,.int .i64 eG,.int .i64 eE,.slice a1 bP C,.slice a2 bR D] 35):=⟨_,rfl⟩;have c:Below w4.heap.size w4 w5:=by rw [E];exact(Below.refl _ _).alloc (Zc _) _
  have q:=ap.below c ap.lt;have bt:=an.trans (c.mono an.size);have d0:=(q.cell 0).trans rfl;have B:=(q.cell 1).trans rfl;have C:=(q.cell 2).trans rfl;have D:=(q.cell 3).trans rfl;have M:=(q.cell 4).trans rfl;have N:=q.frozen 0;have O:=q.frozen 1;have P:=q.frozen 2;have Q:=q.frozen 3;have R:=q.frozen 4;obtain⟨z,l⟩:=av q bt;rw [E]at d0 B C D M N O P Q R;clear bd ap an al c q bt;have L:=ab bE;clear bE
  go_wp2_with fail
  rw [<-E];have m:aT=false:=by
   rw [ad.out];rw [L.out];rfl
  have n:=a7.out m;have b:=((((z.out.put 0 (.slice none 0 0)).put 1 (.int .i64 0)).put 2 (.int .i64 0)).put 3 (.slice none 0 0)).put 4 (.slice none 0 0);have f:=(b.cell 0).trans rfl;have g:=(b.cell 1).trans rfl;have i:=(b.cell 2).trans rfl;have j:=(b.cell 3).trans rfl;have x:=(b.cell 4).trans rfl;have o:=cZ w5 (w.heap.size+1) (.slice none 0 0) (.int .i64 0) (.int .i64 0) (.slice none 0 0) (.slice none 0 0);refine bodyPost_ret (v:= .tuple #[TV (.slice none 0 0) 0 0 (.slice none 0 0) (.slice none 0 0),.bool false]) (by simp [results,results89,go_sem,f,g,i,j,x]) rfl ?_;have c:=o.toBelow (λbh e=>by omega) l.out l.out.size;refine⟨by first|exact c|exact c.drew,_,_,_,by rw [m,n];rfl,?_⟩;rw [n];exact bL.none _ _ (λA k=>k.2)
 |true=>
  have c0:jN p=r:=by rw [e3.out,if_pos bE]
  rw [c0]at bd;obtain⟨a0,u1,a1,u2,a2,u3,rfl,rfl,rfl,-,-,-,-,-,-⟩:=bd.slices;rw [c0,a6.out.1,a6.out.2];have ap:=b7.out.below al b7.out.lt;have an:=b3.out.trans (al.mono b3.out.size);have dr:=eZ.out.below al;have b2:=eJ.new bd a4 a3;obtain⟨w5,E⟩: ∃a,a=w4.alloc (.cells #[.slice a0 r.rules.length u1,.int .i64 a4,.int .i64 a3,.slice a1 r.acts.length u2,.slice a2 r.goto.length u3] 35):=⟨_,rfl⟩;rw [<-E]at b2;have c:Below w4.heap.size w4 w5:=by rw [E];exact(Below.refl _ _).alloc (Zc _) _
  have bu:=pw b2.tab e2.out;rw [a6.out.1,a6.out.2]at bu;unfold ig at bu;have ds:=dr.below c;have q:=ap.below c ap.lt;have bt:=an.trans (c.mono an.size);obtain⟨bO,ck⟩: ∃a,a=r.rules.length:=⟨_,rfl⟩;obtain⟨bP,cl⟩: ∃a,a=r.acts.length:=⟨_,rfl⟩;obtain⟨bR,cm⟩: ∃a,a=r.goto.length:=⟨_,rfl⟩;rw [<-ck,<-cl,<-cm]at E b2 bu;rw [<-ck,<-cl,<-cm];have dt:w4.heap.size<w5.heap.size:=by rw [E];simp
  clear bd dr ap an al c c0;obtain⟨L,e9,eR,e0,c9,c8,gc,gd,gf,f8⟩:=fp bE b2 bu ds q bt ck cl cm dt;clear bE b2 bu ds q bt ck cl cm dt
  go_wp2_with fail
  rw [<-E];refine eR.out.mono ?_;rintro e w6 ⟨ca,g3,g4,g5,g0,g1,rfl,ct⟩;obtain⟨ew,f1,ex,f2,ey,f3,eA,f4,eB,f5,rfl,rfl,rfl,rfl,rfl,-,-,-,-,-⟩:=ct.slices;obtain⟨a,bC⟩: ∃a,a=e7 r:=⟨_,rfl⟩;rw [<-bC]at ct⊢;have aS:=fH.new ct a.terms a.nons;obtain⟨s1,d4⟩: ∃y,y=a.rules.length:=⟨_,rfl⟩;obtain⟨fF,d5⟩: ∃y,y=a.row.length:=⟨_,rfl⟩;obtain⟨fL,d6⟩: ∃y,y=a.rows.length:=⟨_,rfl⟩;obtain⟨fT,ea⟩: ∃y,y=a.gow.length:=⟨_,rfl⟩;obtain⟨f0,eb⟩: ∃y,y=a.gows.length:=⟨_,rfl⟩;obtain⟨fz,d3⟩: ∃y,y=a.terms:=⟨_,rfl⟩;obtain⟨fx,d2⟩: ∃y,y=a.nons:=⟨_,rfl⟩;rw [<-d4,<-d5,<-d6,<-ea,<-eb,<-d3,<-d2]at aS⊢;obtain⟨w7,bg⟩: ∃a,a=w6.alloc (.cells #[.slice ew s1 f1,.int .i64 fz,.int .i64 fx,.slice ex fF f2,.slice ey fL f3,.slice eA fT f4,.slice eB f0 f5] 52):=⟨_,rfl⟩;rw [<-bg]at aS;have dd:Below w6.heap.size w6 w7:=by rw [bg];exact(Below.refl _ _).alloc (Zc _) _
  have bs:=ca.trans (dd.mono ca.size);have bx:=e0.out.below bs;have cx:=e9.out.below bs;have t:=c9.out.below bs c9.out.lt;have cd:=c8.out.trans (bs.mono c8.out.size);clear ct dd bs d4 d5 d6 ea eb d3 d2;cases bB:dE r with
  |false=>
   have d0:=(t.cell 0).trans rfl;have B:=(t.cell 1).trans rfl;have C:=(t.cell 2).trans rfl;have D:=(t.cell 3).trans rfl;have M:=(t.cell 4).trans rfl;have N:=t.frozen 0;have O:=t.frozen 1;have P:=t.frozen 2;have Q:=t.frozen 3;have R:=t.frozen 4;rw [bg]at d0 B C D M N O P Q R;obtain⟨z,l⟩:=av t cd;clear t cd ca;obtain⟨b5,cO,b9,ai,gm⟩:=aX bx cx aS bB bC;clear bx cx aS bB bC
   go_wp2_with fail
   rw [<-bg];have m:aT=false:=by
    rw [ad.out];rw [L.out,ai.out];rfl
   have n:=a7.out m;have b:=((((z.out.put 0 (.slice none 0 0)).put 1 (.int .i64 0)).put 2 (.int .i64 0)).put 3 (.slice none 0 0)).put 4 (.slice none 0 0);have f:=(b.cell 0).trans rfl;have g:=(b.cell 1).trans rfl;have i:=(b.cell 2).trans rfl;have j:=(b.cell 3).trans rfl;have x:=(b.cell 4).trans rfl;have o:=cZ w7 (w.heap.size+1) (.slice none 0 0) (.int .i64 0) (.int .i64 0) (.slice none 0 0) (.slice none 0 0);refine bodyPost_ret (v:= .tuple #[TV (.slice none 0 0) 0 0 (.slice none 0 0) (.slice none 0 0),.bool false]) (by simp [results,results89,go_sem,f,g,i,j,x]) rfl ?_;have c:=o.toBelow (λbh e=>by omega) l.out l.out.size;refine⟨by first|exact c|exact c.drew,_,_,_,by rw [m,n];rfl,?_⟩;rw [n];exact bL.none _ _ (λA k=>k.2)
  |true=>
   have fn:a=aZ r:=by rw [bC];unfold e7;rw [if_pos bB]
   subst fn;obtain⟨G,H,I,J,K,Y,Z⟩:=bx.cells;obtain⟨y0,S,T,U,V,W,X⟩:=aS.cells;rw [bg]at G H I J K Y Z y0 S T U V W X;clear ca bC;obtain⟨b5,cO,b9,ai,cI,cB⟩:=aM bx cx aS bB t cd;clear bx cx aS bB t cd
   go_wp2_with fail
   rw [<-bg];refine(oV b5.out.pk.row b9.out.pk.row).mono ?_;rintro e w8 ⟨rfl,ba⟩;have bz:=b5.out.below ba;have cy:=cO.out.below ba;have bW:=b9.out.below ba;have u:=cI.out.below ba cI.out.lt;have ce:=cB.out.trans (ba.mono cB.out.size);clear G H I J K Y Z y0 S T U V W X ba b5 cO b9 cI cB;by_cases f:p.row=(aZ r).row
   ·rw [decide_eq_true f];obtain⟨G,H,I,J,K,Y,Z⟩:=bz.cells;obtain⟨y0,S,T,U,V,W,X⟩:=bW.cells;obtain⟨b6,cP,b8,cK,cC,a5⟩:=aM bz cy bW u ce f;clear bz cy bW u ce f
    go_wp2_with fail
    refine(oV b6.out.pk.gow b8.out.pk.gow).mono ?_;rintro e w9 ⟨rfl,bb⟩;have bA:=b6.out.below bb;have cz:=cP.out.below bb;have bY:=b8.out.below bb;have v:=cK.out.below bb cK.out.lt;have cf:=cC.out.trans (bb.mono cC.out.size);clear G H I J K Y Z y0 S T U V W X bb b6 cP b8 cK cC;by_cases g:p.gow=(aZ r).gow
    ·rw [decide_eq_true g];obtain⟨G,H,I,J,K,Y,Z⟩:=bA.cells;obtain⟨y0,S,T,U,V,W,X⟩:=bY.cells;obtain⟨bo,cR,br,cM,cE,bi⟩:=aM bA cz bY v cf g;clear bA cz bY v cf g
     go_wp2_with fail
     refine(sX bo.out.pk.rows br.out.pk.rows bo.out.pk.lt br.out.pk.lt).mono ?_;rintro e w10 ⟨rfl,a8⟩;have bw:=bo.out.below a8;have cw:=cR.out.below a8;have bS:=br.out.below a8;have s:=cM.out.below a8 cM.out.lt;have cb:=cE.out.trans (a8.mono cE.out.size);clear G H I J K Y Z y0 S T U V W X a8 bo cR br cM cE;by_cases i:p.rows=(aZ r).rows
     ·rw [decide_eq_true i];obtain⟨G,H,I,J,K,Y,Z⟩:=bw.cells;obtain⟨y0,S,T,U,V,W,X⟩:=bS.cells;obtain⟨bl,cN,bq,cH,cA,b4⟩:=aM bw cw bS s cb i;clear bw cw bS s cb i
      go_wp2_with fail
      refine(sX bl.out.pk.gows bq.out.pk.gows bl.out.pk.lt bq.out.pk.lt).mono ?_;rintro e w11 ⟨rfl,a9⟩;have ci:=bl.out.below a9;have b0:=cN.out.below a9;have cv:=bq.out.below a9;have d:=cH.out.below a9 cH.out.lt;have cc:=cA.out.trans (a9.mono cA.out.size);clear G H I J K Y Z y0 S T U V W X a9 bl cN bq cH cA;by_cases j:p.gows=(aZ r).gows
      ·rw [decide_eq_true j];have d0:=(d.cell 0).trans rfl;have B:=(d.cell 1).trans rfl;have C:=(d.cell 2).trans rfl;have D:=(d.cell 3).trans rfl;have M:=(d.cell 4).trans rfl;have N:=d.frozen 0;have O:=d.frozen 1;have P:=d.frozen 2;have Q:=d.frozen 3;have R:=d.frozen 4;obtain⟨G,H,I,J,K⟩:=b0.cells;obtain⟨eX,ak,e8,e6,c7,cG⟩:=aM ci b0 cv d cc j;clear ci b0 cv d cc j
       go_wp2_with fail
       have ee:aT=true:=by
        rw [ad.out,L.out,ai.out,bp.out,decide_eq_true a5.out,decide_eq_true bi.out,decide_eq_true b4.out,decide_eq_true cG.out];rfl
       have ed:=e4.out ee;have b:=((((e6.out.put 0 (.slice a0 bO u1)).put 1 (.int .i64 a4)).put 2 (.int .i64 a3)).put 3 (.slice a1 bP u2)).put 4 (.slice a2 bR u3);have f:=(b.cell 0).trans rfl;have g:=(b.cell 1).trans rfl;have i:=(b.cell 2).trans rfl;have j:=(b.cell 3).trans rfl;have x:=(b.cell 4).trans rfl;have o:=cZ w11 (w.heap.size+1) (.slice a0 bO u1) (.int .i64 a4) (.int .i64 a3) (.slice a1 bP u2) (.slice a2 bR u3);refine bodyPost_ret (v:= .tuple #[TV (.slice a0 bO u1) a4 a3 (.slice a1 bP u2) (.slice a2 bR u3),.bool true]) (by simp [results,results89,go_sem,f,g,i,j,x]) rfl ?_;have c:=o.toBelow (λbh e=>by omega) c7.out c7.out.size;refine⟨by first|exact c|exact c.drew,_,_,_,by rw [ee,ed,a6.out.1,a6.out.2],?_⟩;rw [ed];have gr:=e5.out;refine rL (t:=r) ak.out.tab.rules ak.out.tab.acts ak.out.tab.goto (by first|exact o|exact o.drew) (λA k e=> ?_) (CW.refl _) (λA k=> ?_) (λA k=>k.2) ak.out.tab.tn ak.out.tab.wr
       ·rcases k.1 with h|h
        ·have:=e1.out A h;omega
        ·omega
       ·refine⟨?_,Zd (ak.out.tab.lt A k) o.size⟩;rcases k.1 with h|h
        ·exact .inl h
        ·exact .inr (by omega)
      ·rw [decide_eq_false j];have d0:=(d.cell 0).trans rfl;have B:=(d.cell 1).trans rfl;have C:=(d.cell 2).trans rfl;have D:=(d.cell 3).trans rfl;have M:=(d.cell 4).trans rfl;have N:=d.frozen 0;have O:=d.frozen 1;have P:=d.frozen 2;have Q:=d.frozen 3;have R:=d.frozen 4;obtain⟨z,l⟩:=av d cc;clear d cc;obtain⟨eX,ak,e8,cG⟩:=aA ci b0 cv j;clear ci b0 cv j
       go_wp2_with fail
       have m:aT=false:=by
        rw [ad.out];rw [L.out,ai.out,bp.out,decide_eq_true a5.out,decide_eq_true bi.out,decide_eq_true b4.out,decide_eq_false cG.out];rfl
       have n:=a7.out m;have b:=((((z.out.put 0 (.slice none 0 0)).put 1 (.int .i64 0)).put 2 (.int .i64 0)).put 3 (.slice none 0 0)).put 4 (.slice none 0 0);have f:=(b.cell 0).trans rfl;have g:=(b.cell 1).trans rfl;have i:=(b.cell 2).trans rfl;have j:=(b.cell 3).trans rfl;have x:=(b.cell 4).trans rfl;have o:=cZ w11 (w.heap.size+1) (.slice none 0 0) (.int .i64 0) (.int .i64 0) (.slice none 0 0) (.slice none 0 0);refine bodyPost_ret (v:= .tuple #[TV (.slice none 0 0) 0 0 (.slice none 0 0) (.slice none 0 0),.bool false]) (by simp [results,results89,go_sem,f,g,i,j,x]) rfl ?_;have c:=o.toBelow (λbh e=>by omega) l.out l.out.size;refine⟨by first|exact c|exact c.drew,_,_,_,by rw [m,n];rfl,?_⟩;rw [n];exact bL.none _ _ (λA k=>k.2)
     ·rw [decide_eq_false i];have d0:=(s.cell 0).trans rfl;have B:=(s.cell 1).trans rfl;have C:=(s.cell 2).trans rfl;have D:=(s.cell 3).trans rfl;have M:=(s.cell 4).trans rfl;have N:=s.frozen 0;have O:=s.frozen 1;have P:=s.frozen 2;have Q:=s.frozen 3;have R:=s.frozen 4;obtain⟨z,l⟩:=av s cb;clear s cb;obtain⟨bl,cN,bq,b4⟩:=aA bw cw bS i;clear bw cw bS i
      go_wp2_with fail
      have m:aT=false:=by
       rw [ad.out];rw [L.out,ai.out,bp.out,decide_eq_true a5.out,decide_eq_true bi.out,decide_eq_false b4.out];rfl
      have n:=a7.out m;have b:=((((z.out.put 0 (.slice none 0 0)).put 1 (.int .i64 0)).put 2 (.int .i64 0)).put 3 (.slice none 0 0)).put 4 (.slice none 0 0);have f:=(b.cell 0).trans rfl;have g:=(b.cell 1).trans rfl;have i:=(b.cell 2).trans rfl;have j:=(b.cell 3).trans rfl;have x:=(b.cell 4).trans rfl;have o:=cZ w10 (w.heap.size+1) (.slice none 0 0) (.int .i64 0) (.int .i64 0) (.slice none 0 0) (.slice none 0 0);refine bodyPost_ret (v:= .tuple #[TV (.slice none 0 0) 0 0 (.slice none 0 0) (.slice none 0 0),.bool false]) (by simp [results,results89,go_sem,f,g,i,j,x]) rfl ?_;have c:=o.toBelow (λbh e=>by omega) l.out l.out.size;refine⟨by first|exact c|exact c.drew,_,_,_,by rw [m,n];rfl,?_⟩;rw [n];exact bL.none _ _ (λA k=>k.2)
    ·rw [decide_eq_false g];have d0:=(v.cell 0).trans rfl;have B:=(v.cell 1).trans rfl;have C:=(v.cell 2).trans rfl;have D:=(v.cell 3).trans rfl;have M:=(v.cell 4).trans rfl;have N:=v.frozen 0;have O:=v.frozen 1;have P:=v.frozen 2;have Q:=v.frozen 3;have R:=v.frozen 4;obtain⟨z,l⟩:=av v cf;clear v cf;obtain⟨bo,cR,br,bi⟩:=aA bA cz bY g;clear bA cz bY g
     go_wp2_with fail
     have m:aT=false:=by
      rw [ad.out];rw [L.out,ai.out,bp.out,decide_eq_true a5.out,decide_eq_false bi.out];rfl
     have n:=a7.out m;have b:=((((z.out.put 0 (.slice none 0 0)).put 1 (.int .i64 0)).put 2 (.int .i64 0)).put 3 (.slice none 0 0)).put 4 (.slice none 0 0);have f:=(b.cell 0).trans rfl;have g:=(b.cell 1).trans rfl;have i:=(b.cell 2).trans rfl;have j:=(b.cell 3).trans rfl;have x:=(b.cell 4).trans rfl;have o:=cZ w9 (w.heap.size+1) (.slice none 0 0) (.int .i64 0) (.int .i64 0) (.slice none 0 0) (.slice none 0 0);refine bodyPost_ret (v:= .tuple #[TV (.slice none 0 0) 0 0 (.slice none 0 0) (.slice none 0 0),.bool false]) (by simp [results,results89,go_sem,f,g,i,j,x]) rfl ?_;have c:=o.toBelow (λbh e=>by omega) l.out l.out.size;refine⟨by first|exact c|exact c.drew,_,_,_,by rw [m,n];rfl,?_⟩;rw [n];exact bL.none _ _ (λA k=>k.2)
   ·rw [decide_eq_false f];have d0:=(u.cell 0).trans rfl;have B:=(u.cell 1).trans rfl;have C:=(u.cell 2).trans rfl;have D:=(u.cell 3).trans rfl;have M:=(u.cell 4).trans rfl;have N:=u.frozen 0;have O:=u.frozen 1;have P:=u.frozen 2;have Q:=u.frozen 3;have R:=u.frozen 4;obtain⟨z,l⟩:=av u ce;clear u ce;obtain⟨b6,cP,b8,a5⟩:=aA bz cy bW f;clear bz cy bW f
    go_wp2_with fail
    have m:aT=false:=by
     rw [ad.out];rw [L.out,ai.out,bp.out,decide_eq_false a5.out];rfl
    have n:=a7.out m;have b:=((((z.out.put 0 (.slice none 0 0)).put 1 (.int .i64 0)).put 2 (.int .i64 0)).put 3 (.slice none 0 0)).put 4 (.slice none 0 0);have f:=(b.cell 0).trans rfl;have g:=(b.cell 1).trans rfl;have i:=(b.cell 2).trans rfl;have j:=(b.cell 3).trans rfl;have x:=(b.cell 4).trans rfl;have o:=cZ w8 (w.heap.size+1) (.slice none 0 0) (.int .i64 0) (.int .i64 0) (.slice none 0 0) (.slice none 0 0);refine bodyPost_ret (v:= .tuple #[TV (.slice none 0 0) 0 0 (.slice none 0 0) (.slice none 0 0),.bool false]) (by simp [results,results89,go_sem,f,g,i,j,x]) rfl ?_;have c:=o.toBelow (λbh e=>by omega) l.out l.out.size;refine⟨by first|exact c|exact c.drew,_,_,_,by rw [m,n];rfl,?_⟩;rw [n];exact bL.none _ _ (λA k=>k.2)
theorem sG {w:World} {F:Nat->Prop} {n o q r s:Value} {p:cq} (h:dc w F n o q r s p) (J:nL p):
  Calls prog 32 #[PV n p.terms p.nons o q r s] w (aI w (.bool (gD p))):=by
 obtain⟨t,D,u,E,v,G,x,H,y,I,rfl,rfl,rfl,rfl,rfl,-⟩:=h.slices;obtain⟨w1,f⟩: ∃N,N=w.alloc (.cells #[.slice t p.rules.length D,.int .i64 p.terms,.int .i64 p.nons,.slice u p.row.length E,.slice v p.rows.length G,.slice x p.gow.length H,.slice y p.gows.length I] 52):=⟨_,rfl⟩;have d:=fH.new h p.terms p.nons;have j:Below w.heap.size w w1:=by rw [f];exact(Below.refl _ w).alloc (Zc _) _
 rw [<-f]at d;have c:=qH d.pk J;unfold kW at c;generalize p.terms=P at *;generalize p.nons=O at *;generalize p.rules.length=Q at *;generalize p.row.length=R at *;generalize p.rows.length=S at *;generalize p.gow.length=T at *;generalize p.gows.length=U at *;generalize gD p=V at *;generalize dX p=a at *;clear h d;obtain⟨C,g⟩:=av c j;clear c j
 go_enter func32,ntmps32
 go_wp2_with fail
 rw [<-f];refine C.out.mono ?_;rintro e w2 ⟨k,Y,W,X,rfl,m⟩;obtain⟨z,u1,A,u2,B,u3,rfl,rfl,rfl,-⟩:=m.slices;clear m;generalize a.rules.length=K at *;generalize a.acts.length=L at *;generalize a.goto.length=M at *;have b:=g.out.trans (k.mono g.out.size);have l:=b.alloc b.size (.cells #[.slice z K u1,.int .i64 a.terms,.int .i64 a.nons,.slice A L u2,.slice B M u3] 35);clear k b;have i:=ab l;clear l
 go_wp2_with fail
 go_ret
 exact⟨af rfl,by first|exact i.out|exact i.out.drew⟩
def oY (w:World) (F:Nat->Prop) (p:cq) (e:Ending) (w':World):Prop:=Below w.heap.size w w'/\ ∃vr va vg,e= .returned (TV vr (dX p).terms (dX p).nons va vg)/\bL w' (λb=>(F b\/w.heap.size<=b)/\b<w'.heap.size) vr va vg (dX p)
theorem qI {w:World} {F:Nat->Prop} {X Y Z ad ai:Value} {p:cq} (h:dc w F X Y Z ad ai p) (bt:nL p):
  Calls prog 34 #[PV X p.terms p.nons Y Z ad ai] w (oY w F p):=by
 obtain⟨ak,a5,al,a6,an,a7,ap,a8,aS,a9,rfl,rfl,rfl,rfl,rfl,-⟩:=h.slices;obtain⟨w1,i⟩: ∃a,a=w.alloc (.cells #[.slice ak p.rules.length a5,.int .i64 p.terms,.int .i64 p.nons,.slice al p.row.length a6,.slice an p.rows.length a7,.slice ap p.gow.length a8,.slice aS p.gows.length a9] 52):=⟨_,rfl⟩;have K:=fH.new h p.terms p.nons;have E:Below w.heap.size w w1:=by rw [i];exact(Below.refl _ w).alloc (Zc _) _
 rw [<-i]at K;have V:=h.lt;have M:w1.heap.size=w.heap.size+1:=by rw [i];simp
 obtain⟨w2,j⟩: ∃a,a=w1.alloc (.cells #[.slice none 0 0,.int .i64 0,.int .i64 0,.slice none 0 0,.slice none 0 0] 35):=⟨_,rfl⟩;have G:Below w1.heap.size w1 w2:=by rw [j];exact(Below.refl _ _).alloc (Zc _) _
 have N:Blk w2 w1.heap.size 35 #[.slice none 0 0,.int .i64 0,.int .i64 0,.slice none 0 0,.slice none 0 0]:=by rw [j];exact Blk.new _ _ _
 rw [M]at N;have W:w2.heap.size=w.heap.size+2:=by rw [j,World.size_alloc,M]
 have U:=K.below G;have S:=E.trans (G.mono E.size);have J:=qH U.pk bt;unfold kW at J;unfold oY;rw [i]at j;generalize p.terms=bC at *;generalize p.nons=bB at *;generalize p.rules.length=bS at *;generalize p.row.length=bW at *;generalize p.rows.length=bY at *;generalize p.gow.length=b0 at *;generalize p.gows.length=b1 at *;generalize gD p=b2 at *;generalize dX p=c at *;clear h K U i E G M;obtain⟨aT,P,R,a0,a3⟩:=aX J S N V W;clear J S N V W
 go_enter func34,ntmps34
 go_wp2_with fail
 rw [<-j];refine aT.out.mono ?_;rintro e w4 ⟨H,b5,b3,b4,rfl,L⟩;obtain⟨m,u1,n,u2,o,u3,rfl,rfl,rfl,-⟩:=L.slices;have O:=R.out.below H R.out.lt;have I:=P.out.trans (H.mono P.out.size);have l:=eJ.new L c.terms c.nons;obtain⟨r,u⟩: ∃a,a=c.terms:=⟨_,rfl⟩;obtain⟨q,t⟩: ∃a,a=c.nons:=⟨_,rfl⟩;obtain⟨A,v⟩: ∃a,a=c.rules.length:=⟨_,rfl⟩;obtain⟨B,x⟩: ∃a,a=c.acts.length:=⟨_,rfl⟩;obtain⟨C,y⟩: ∃a,a=c.goto.length:=⟨_,rfl⟩;rw [<-u,<-t,<-v,<-x,<-y]at l;rw [<-u,<-t,<-v,<-x,<-y];obtain⟨w5,z⟩: ∃a,a=w4.alloc (.cells #[.slice m A u1,.int .i64 r,.int .i64 q,.slice n B u2,.slice o C u3] 35):=⟨_,rfl⟩;rw [<-z]at l;have f:Below w4.heap.size w4 w5:=by rw [z];exact(Below.refl _ _).alloc (Zc _) _
 have b:=O.below f O.lt;have T:=I.trans (f.mono I.size);obtain⟨bu,bw,bx,bz,bA⟩:=l.cells;have d0:=(b.cell 0).trans rfl;have ba:=(b.cell 1).trans rfl;have bb:=(b.cell 2).trans rfl;have bc:=(b.cell 3).trans rfl;have bd:=(b.cell 4).trans rfl;have bo:=b.frozen 0;have bp:=b.frozen 1;have bq:=b.frozen 2;have br:=b.frozen 3;have bs:=b.frozen 4;rw [z]at d0 ba bb bc bd bo bp bq br bs bu bw bx bz bA;clear L H f O I;obtain⟨a4,Q,d,a2,a1,bE,bG,bO⟩:=dA b T l u t v x y;clear b T l u t v x y
 go_wp2_with fail
 rw [<-z];have k:=((((a4.out.put 0 (.slice m A u1)).put 1 (.int .i64 r)).put 2 (.int .i64 q)).put 3 (.slice n B u2)).put 4 (.slice o C u3);have be:=(k.cell 0).trans rfl;have bg:=(k.cell 1).trans rfl;have bh:=(k.cell 2).trans rfl;have bi:=(k.cell 3).trans rfl;have bl:=(k.cell 4).trans rfl;have D:=cZ w5 (w.heap.size+1) (.slice m A u1) (.int .i64 r) (.int .i64 q) (.slice n B u2) (.slice o C u3);refine bodyPost_ret (v:=TV (.slice m A u1) r q (.slice n B u2) (.slice o C u3)) (by simp [results,results34,go_sem,be,bg,bh,bi,bl]) rfl ?_;have f:=D.toBelow (λbR e=>by omega) Q.out Q.out.size;refine⟨by first|exact f|exact f.drew,_,_,_,by rw [a2.out,a1.out],?_⟩;have bP:=a3.out;refine rL (t:=c) d.out.tab.rules d.out.tab.acts d.out.tab.goto (by first|exact D|exact D.drew) (λs g e=> ?_) (CW.refl _) (λs g=> ?_) (λs g=>g.2) d.out.tab.tn d.out.tab.wr
 ·rcases g.1 with h|h
  ·have:=a0.out s h;omega
  ·omega
 ·refine⟨?_,Zd (d.out.tab.lt s g) D.size⟩;rcases g.1 with h|h
  ·exact .inl h
  ·exact .inr (by omega)
end Go.Proofs.YthlbjgabhpdbfaaGreat
namespace Go.Proofs.YthlbjgabhpdbfaaGreat
open Go.Proofs.Tryz
open List renaming length_map->Za,mem_map->Zb
open Nat renaming le_refl->Zc,lt_of_lt_of_le->Zd
open Go.RowKit
attribute [local irreducible] wpStill aB aO
theorem DZ:kH bD 3 0 fP=[]:=by
 unfold kH;rw [if_pos rfl,tF];decide+kernel
abbrev fO:aW:=fS bD 3 fP [[],[],[(1,[0])],[(2,[0])],[(0,[0])]]
theorem xq:dI fO=true/\iO fO 0 2=(1,2)/\gw fO 0 3=3:=by decide+kernel
theorem om.known {w w':World} {F:Nat->Prop} {G:ac} {st:Int} {e:Ending} {L T:List (List It)} (h:om w F G st e w') (i:bf G st=0) (j:iR G st (some (L,T))) (m:kH G st 0 (stD L T)=[]):Below w.heap.size w w'/\ ∃c a b,e= .returned (.tuple #[TV c G.terms.length G.nons.length a b,.int .i64 0])/\bL w' (λd=>(F d\/w.heap.size<=d)/\d<w'.heap.size) c a b (fS G st (stD L T) (bN G st (stD L T))):=by
 obtain⟨l,p,o,k,h⟩:=h;obtain⟨rfl,rfl⟩:=k.unique (.inr (.inr ⟨i,L,T,j,rfl,rfl⟩));rcases h with⟨q,g,⟨f,-⟩|⟨-,f,-⟩⟩|⟨-,-,c,a,b,g,n⟩
 ·exact absurd rfl f
 ·exact absurd m f
 ·exact⟨l,c,a,b,g,n⟩
end Go.Proofs.YthlbjgabhpdbfaaGreat
namespace Go.Proofs.YthlbjgabhpdbfaaGreat
open Go.Proofs.Tryz
open List renaming length_map->Za,mem_map->Zb
open Nat renaming le_refl->Zc,lt_of_lt_of_le->Zd
open Go.RowKit
theorem field_act (x y:Int) (w:World):Sem.run prog (Instr.field 46 (.agg #[.int .i64 x,.int .i64 y]) 0) w= .ok (.int .i64 x) w:=by
 unfold Instr.field;simp only [Sem.run_bind,run_underlying underlying46,Result.andThen_ok];simp [go_sem,asAgg,part]
end Go.Proofs.YthlbjgabhpdbfaaGreat
namespace Go.Proofs.YthlbjgabhpdbfaaGreat
open Go.Proofs.Tryz
open List renaming length_map->Za,mem_map->Zb
open Nat renaming le_refl->Zc,lt_of_lt_of_le->Zd
open Go.RowKit Go.Shelf
attribute [local irreducible] wpStill aB aO
theorem field_tab (A1:Option Addr) (b c1:Nat) (x y:Int) (A2:Option Addr) (a c2:Nat) (A3:Option Addr) (c c3:Nat) (w:World):Sem.run prog (Instr.field 35 (.agg #[.slice A1 b c1,.int .i64 x,.int .i64 y,.slice A2 a c2,.slice A3 c c3]) 3) w= .ok (.slice A2 a c2) w:=by
 unfold Instr.field;simp only [Sem.run_bind,run_underlying underlying35,Result.andThen_ok];simp [go_sem,asAgg,part]
theorem jK:dE fO=true:=by decide+kernel
theorem DX:(aZ fO).rules.length=3/\(aZ fO).terms=2/\(aZ fO).nons=1/\(aZ fO).row.length=5/\(aZ fO).rows.length=4/\(aZ fO).gow.length=5:=by decide+kernel
theorem nL.of_pack {t:aW} (h:ug t) (g:t.acts.length<=70000):nL (aZ t):=by
 have e:=eu (bZ t);have f:=eu (cY t);refine⟨?_,λc a=> ?_,λc a=> ?_⟩
 ·have:=e.len;unfold bZ at this;rw [Za]at this;show(bn (bZ t)).2.length<=70000;unfold bZ;omega
 ·have:=e.mem c a;unfold bZ at this;obtain⟨d,b,rfl⟩:=Zb.1 this;rw [Za];exact h.1 d b
 ·have:=f.mem c a;unfold cY at this;obtain⟨d,b,rfl⟩:=Zb.1 this;rw [Za];exact h.2 d b
theorem vq:nL (aZ fO):=nL.of_pack (by unfold ug;decide+kernel) (by decide+kernel)
theorem qL (w:World):Calls prog 28 #[] w (aI w (.bool true)):=by
 obtain⟨A,bB⟩:=E4 w;have bA:=zp A.gram A.gram.lt 3;obtain⟨b6,b7,a3,b8⟩:=A.cells;clear A;obtain⟨bg,V⟩:=av bA bB;clear bA bB
 go_enter func28,ntmps28
 go_wp2_with fail
 refine bg.out.mono ?_;rintro e w2 i;obtain⟨bq,cv,ct,cu,h,j⟩:=i.known tH CP DZ;rw [tF]at j;obtain⟨b,f,c,a,d,g,rfl,rfl,rfl,-⟩:=j.slices;have b5:e= .returned (.tuple #[TV (.slice b 3 f) 2 1 (.slice c 5 a) (.slice d 5 g),.int .i64 0]):=h;subst b5;have aS:=V.out.trans (bq.mono V.out.size);have bW:bL w2 _ (.slice b 3 f) (.slice c 5 a) (.slice d 5 g) fO:=j;obtain⟨w3,B⟩: ∃a2,a2=w2.alloc (.cells #[.slice b 3 f,.int .i64 2,.int .i64 1,.slice c 5 a,.slice d 5 g] 35):=⟨_,rfl⟩;have bo:Below w2.heap.size w2 w3:=by rw [B];exact(Below.refl _ _).alloc (Zc _) _
 have M:=eJ.new bW 2 1;rw [<-B]at M;have bC:=aS.trans (bo.mono aS.size);have bw:Calls prog 29 #[TV (.slice b 3 f) 2 1 (.slice c 5 a) (.slice d 5 g)] w3 (ig w3 _ fO):=pw M.tab (by unfold ug;decide+kernel);obtain⟨u0,u1,u2,u3,u4⟩:=M.cells;rw [B]at u0 u1 u2 u3 u4;clear b6 b7 a3 b8 bq j bW h i bg V bo aS M;obtain⟨W,bc⟩:=av bC bw;clear bC bw
 go_wp2_with fail
 rw [<-B];refine bc.out.mono ?_;rintro e w4 i;unfold ig at i;have bS:e7 fO=aZ fO:=by unfold e7;rw [if_pos jK]
 rw [bS,jK]at i;obtain⟨br,ca,cb,cc,cr,cs,h,hi⟩:=i;obtain⟨k,r,l,s,m,t,n,u,o,v,rfl,rfl,rfl,rfl,rfl,-⟩:=hi.slices;obtain⟨D,E,F,G,H,I⟩:=DX;have b3:=sG (w:=w4) hi;have b4:=qI (w:=w4) hi;rw [D,E,F,G,H,I]at h;rw [D,G,H,I]at hi;generalize (aZ fO).gows.length=p at *;subst h;have aT:=W.out.trans (br.mono W.out.size);obtain⟨w5,C⟩: ∃a2,a2=w4.alloc (.cells #[.slice k 3 r,.int .i64 2,.int .i64 1,.slice l 5 s,.slice m 4 t,.slice n 5 u,.slice o p v] 52):=⟨_,rfl⟩;have bp:Below w4.heap.size w4 w5:=by rw [C];exact(Below.refl _ _).alloc (Zc _) _
 have q:=fH.new hi 2 1;rw [<-C]at q;have bE:=aT.trans (bp.mono aT.size);have bt:Calls prog 35 #[PV (.slice k 3 r) 2 1 (.slice l 5 s) (.slice m 4 t) (.slice n 5 u) (.slice o p v),.int .i64 0,.int .i64 2] w5 (aI w5 (.agg #[.int .i64 1,.int .i64 2])):=by
  have:=wV q.pk 0 2 (by omega);rw [xw jK,xq.2.1,E,F]at this;exact this
 obtain⟨N,O,P,Q,R,S,T⟩:=q.cells;have cm:=λU=>field_act 1 2 U
 rw [C]at N O P Q R S T;clear u0 u1 u2 u3 u4 br hi bp aT bc W bS b3 b4;obtain⟨X,ba,bh,cd,ai,ak,ce,cf,cg⟩:=dQ bE bt q D E F G H I;clear bE bt q D E F G H I
 go_wp2_with fail
 rw [<-C];refine ba.out.mono ?_;rintro e w6 ⟨rfl,al⟩;have J:=bh.out.below al;have bG:=X.out.trans (al.mono X.out.size);have bu:Calls prog 36 #[PV (.slice k 3 r) 2 1 (.slice l 5 s) (.slice m 4 t) (.slice n 5 u) (.slice o p v),.int .i64 0,.int .i64 3] w6 (aI w6 (.int .i64 3)):=by
  have:=uO J.pk 0 3 (by omega) (by omega);rw [uX jK,xq.2.2,ai.out,ak.out]at this;exact this
 obtain⟨y0,x,y,z,a4,a5,a6⟩:=J.cells;clear N O P Q R S T ba bh X al;obtain⟨bi,Y,bb⟩:=aK J bG bu;clear J bG bu
 go_wp2_with fail
 refine bb.out.mono ?_;rintro e w7 ⟨rfl,an⟩;have K:=bi.out.below an;have bO:=Y.out.trans (an.mono Y.out.size);have bx:Calls prog 32 #[PV (.slice k 3 r) 2 1 (.slice l 5 s) (.slice m 4 t) (.slice n 5 u) (.slice o p v)] w7 (aI w7 (.bool true)):=by
  have:=sG K.pk vq;rw [sy jK,ai.out,ak.out]at this;exact this
 obtain⟨N,O,P,Q,R,S,T⟩:=K.cells;clear y0 x y z a4 a5 a6 bb bi Y an;obtain⟨bl,Z,bd⟩:=aK K bO bx;clear K bO bx
 go_wp2_with fail
 refine bd.out.mono ?_;rintro e w8 ⟨rfl,ap⟩;have L:=bl.out.below ap;have bP:=Z.out.trans (ap.mono Z.out.size);have bz:Calls prog 34 #[PV (.slice k 3 r) 2 1 (.slice l 5 s) (.slice m 4 t) (.slice n 5 u) (.slice o p v)] w8 (λe bY=>Below w8.heap.size w8 bY/\ ∃b a0 f c a d a1 g,e= .returned (TV (.slice b a0 f) 2 1 (.slice c 5 a) (.slice d a1 g))/\5<=a/\a<=9223372036854775807):=by
  have:=qI L.pk vq;unfold oY at this;rw [xX jK,ai.out,ak.out]at this;refine this.mono ?_;rintro e bY ⟨b2,ca,cb,cc,h,j⟩;obtain⟨a7,x,a8,y,a9,z,rfl,rfl,rfl,-,a3,-,-,b9,-⟩:=j.slices;exact⟨b2,a7,_,x,a8,y,a9,_,z,h,a3,b9⟩
 obtain⟨y0,x,y,z,a4,a5,a6⟩:=L.cells;have cn:=λb a0 f c a d a1 g U=>field_tab b a0 f 2 1 c 5 a d a1 g U
 clear N O P Q R S T bd bl Z ap;obtain⟨b1,ad,be⟩:=aK L bP bz;clear L bP bz
 go_wp2_with fail
 refine be.out.mono ?_;rintro e w9 ⟨bs,a7,co,ch,a8,ci,a9,cp,cj,rfl,ck,cl⟩;have bR:=ad.out.trans (bs.mono ad.out.size);clear y0 x y z a4 a5 a6 be b1 ad bs;have b0:=ab bR;clear bR
 go_wp2_with fail
 go_ret
 exact⟨rfl,b0.out⟩
end Go.Proofs.YthlbjgabhpdbfaaGreat

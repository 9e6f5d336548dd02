/- The law PackSame: the walk. -/
import Derived.Test.YthlbjgabhpdbfaaGreatBPack8
set_option linter.unusedVariables false
set_option linter.unusedSimpArgs false
set_option maxRecDepth 100000
set_option maxHeartbeats 8000000
namespace Go.Proofs.YthlbjgabhpdbfaaGreat
open Go.Proofs.Tryz
open Go.RowKit Go.Shelf
attribute [local irreducible] wpStill aB aO
theorem Bz (G:ac) (st:Int) (D:aP) (LL:List (List Lk)):(fS G st D LL).rules.length=G.rules.length+1/\(fS G st D LL).acts.length=D.length/\(fS G st D LL).goto.length=D.length:=by
 unfold fS;simp only [pK,pE];simp
structure OfT (t:aW) (ev:Int):Prop where
 fit:dE t=decide (ev=0)
 no:dE t=false->t=jh
 len:ug t
 n:t.acts.length<=2000
 g:t.acts.length=t.goto.length
theorem OfT.none {a:Int} (h:a≠0):OfT jh a:=⟨by rw [decide_eq_false h];rfl,λ_=>rfl,⟨λb h=>(by cases h),λb h=>(by cases h)⟩,by decide,rfl⟩
theorem OfT.some {G:ac} {st:Int} {D:aP} (h:fA G st (bf G st) 0 D):OfT (fS G st D (bN G st D)) 0:=by
 obtain⟨j,u,v,p,n⟩:=h.ok;have d:=KnA.of_check j;have w:=d.r;have o:=ke.of h;have q:=o.n;obtain⟨l,b,m⟩:=Bz G st D (bN G st D);have a:=Bw j p;rw [<-n]at a;have k:dE (fS G st D (bN G st D))=true:=by
  unfold dE;rw [a,l,b,decide_eq_true (by omega),decide_eq_true (by omega)];rfl
 refine⟨by rw [k];rfl,λi=>(by rw [k]at i;cases i),⟨λs f=> ?_,λs f=> ?_⟩,by rw [b];exact q,by rw [b,m]⟩
 ·obtain⟨r,hi⟩:=List.mem_iff_getElem?.1 f;obtain⟨t,-,g⟩:=rG a hi;obtain⟨-,c,-⟩:=mr g;have:=d.t;have e:(fS G st D (bN G st D)).terms=(G.terms.length:Int):=rfl;rw [e]at c;omega
 ·obtain⟨r,hi⟩:=List.mem_iff_getElem?.1 f;obtain⟨t,-,g⟩:=xv a hi;obtain⟨-,-,c,-⟩:=mr g;have:=d.n;have e:(fS G st D (bN G st D)).nons=(G.nons.length:Int):=rfl;rw [e]at c;omega
theorem OfT.act {t:aW} {b:Int} (h:OfT t b) (i s:Int):lC (e7 t) i s=iO t i s:=by
 unfold e7;cases a:dE t with
 |true=>rw [if_pos rfl];exact xw a i s
 |false=>
  rw [if_neg (by decide),h.no a];unfold lC iO;rw [if_pos (by show i<0\/(0:Int)<=i\/s<0;omega),if_pos (by show i<0\/(0:Int)<=i\/s<0;omega)]
theorem OfT.goto {t:aW} {b:Int} (h:OfT t b) (i s:Int):jj (e7 t) i s=gw t i s:=by
 unfold e7;cases a:dE t with
 |true=>rw [if_pos rfl];exact uX a i s
 |false=>
  rw [if_neg (by decide),h.no a];unfold jj gw;rw [if_pos (by show i<0\/(0:Int)<=i\/_;omega),if_pos (by show i<0\/(0:Int)<=i\/_;omega)]
theorem OfT.rows {t:aW} {a:Int} (h:OfT t a):(e7 t).rows.length<=t.acts.length/\(e7 t).gows.length<=t.acts.length:=by
 unfold e7
 split
 ·have:=BL t;have:=h.g;omega
 ·exact⟨Nat.zero_le _,Nat.zero_le _⟩
def rT (w:World) (F:Nat->Prop) (e:Ending) (w':World):Prop:=Below w.heap.size w w'/\ ∃(t:aW) (ev:Int) (vr va vg:Value),e= .returned (.tuple #[TV vr t.terms t.nons va vg,.int .i64 ev])/\bL w' (λb=>(F b\/w.heap.size<=b)/\b<w'.heap.size) vr va vg t/\OfT t ev
theorem rT.of {w w':World} {F:Nat->Prop} {G:ac} {st:Int} {e:Ending} (h:om w F G st e w'):rT w F e w':=by
 obtain⟨a,p,o,g,⟨c,b,j⟩|⟨d,r,n,l,m,b,k⟩⟩:=h
 ·refine⟨a,jh,c,_,_,_,b,bL.none _ _ (λa i=>i.2),OfT.none ?_⟩;rcases j with⟨q,f⟩|⟨-,-,f⟩
  ·omega
  ·omega
 ·subst d;exact⟨a,_,0,n,l,m,b,k,OfT.some g⟩
theorem vD (C:Array Value) (G:ac) (w:World) (D:vB w C.toList G):
  Calls prog 5 #[.agg C] w (aI w (.bool true)):=by
 obtain⟨fc,fb,el,dn,D,-⟩:=D;obtain rfl:C= #[fc,fb,el,.int .i64 G.start]:=Array.toList_inj.1 dn;clear dn;generalize G.start=q at *;obtain⟨a1,bb,a2,bc,a3,bd,rfl,rfl,rfl,-,-,gd,-,-,gh⟩:=D.slices;obtain⟨w1,ad⟩: ∃w1,w1=w.alloc (.cells #[.slice a1 G.terms.length bb,.slice a2 G.nons.length bc,.slice a3 G.rules.length bd,.int .i64 q] 25):=⟨_,rfl⟩;have A:=bj.new D q;have cK:Below w.heap.size w w1:=by rw [ad];exact(Below.refl _ w).alloc (Nat.le_refl _) _
 rw [<-ad]at A;have hm:=DD A.gram q;have ea:=D.small;obtain⟨v,dr⟩: ∃v:Nat->Prop,v=λk=>k<w.heap.size:=⟨_,rfl⟩
 rw [<-dr]at A;have c3: ∀wr (Z:bj wr v w.heap.size a1 bb a2 bc a3 bd G.terms.length G.nons.length G.rules.length q G),Calls prog 19 #[.agg #[.slice a1 G.terms.length bb,.slice a2 G.nons.length bc,.slice a3 G.rules.length bd,.int .i64 q]] wr (rT wr v):=λwr Z=>(zp Z.gram Z.gram.lt q).mono λe gM h=>rT.of h
 have c6:=λwr (Z:bj wr v w.heap.size a1 bb a2 bc a3 bd G.terms.length G.nons.length G.rules.length q G)=>Ex Z.gram q
 obtain⟨l,m,n,o⟩:=A.cells;generalize hT:G.terms.length=ev at *;generalize dF:G.nons.length=et at *;generalize dO:G.rules.length=fg at *;rw [ad]at l m n o hm;clear D dr;obtain⟨cC,ey,eE,cz,bs,eZ,eX,fi,cE⟩:=dQ hm c3 c6 A cK hT dF dO ea;clear hm c3 c6 A cK hT dF dO ea
 go_enter func5,ntmps5
 go_wp2_with fail
 refine cC.out.mono ?_;rintro e w2 ⟨e9,e6,rfl,a8⟩;rw [<-ad]at a8;have B:=cz.out.below a8;have ba:=bs.out.trans (a8.mono bs.out.size);clear l m n o ad cC cz bs a8 e6;by_cases fT:60<e9
 ·have x:=ab ba;have bw:=ab B;clear ba B
  go_wp2_with fail
  refine(qL _).mono ?_;rintro e fd ⟨rfl,T⟩;have S:=x.out.trans (T.mono x.out.size);clear T;have bu:=ab S;clear S
  go_wp2_with fail
  go_ret
  exact⟨rfl,bu.out⟩
 ·have c0:=ey.out _ B;obtain⟨l,m,n,o⟩:=B.cells;obtain⟨x,bw,cs⟩:=aK ba B c0;clear ba B c0
  go_wp2_with fail
  refine cs.out.mono ?_;rintro e w3 ⟨bx,d,bP,el,gE,gF,rfl,bh,t⟩;obtain⟨E,W,F,X,H,Y,rfl,rfl,rfl,-,f9,ga,-,gi,gk⟩:=bh.slices;have c7:=bw.out.below bx;have bA:=x.out.trans (bx.mono x.out.size);obtain⟨br,dt⟩: ∃g,g=λk=>(v k\/w2.heap.size<=k)/\k<w3.heap.size:=⟨_,rfl⟩
  rw [<-dt]at bh;have ak:=eJ.new bh d.terms d.nons;obtain⟨w4,bi⟩: ∃g,g=w3.alloc (.cells #[.slice E d.rules.length W,.int .i64 d.terms,.int .i64 d.nons,.slice F d.acts.length X,.slice H d.goto.length Y] 35):=⟨_,rfl⟩;rw [<-bi]at ak;have p:Below w3.heap.size w3 w4:=by rw [bi];exact(Below.refl _ _).alloc (Nat.le_refl _) _
  have c8:=c7.below p;have cS:=bA.trans (p.mono bA.size);have U:=pw ak.tab t.len;have c1:=λ(wr:World) (h:eJ wr br w3.heap.size E W F X H Y d.rules.length d.acts.length d.goto.length d.terms d.nons d) (c b:Int)=>Eb h.tab c b
  have c2:=λ(wr:World) (h:eJ wr br w3.heap.size E W F X H Y d.rules.length d.acts.length d.goto.length d.terms d.nons d) (c b:Int) (b4:b<=9223372036854775807)=>CQ h.tab c b b4
  have f4:=t.n;have d2:=t.fit;obtain⟨a,b1⟩: ∃g,g=e7 d:=⟨_,rfl⟩;have bG:=λc b=>t.act c b
  have bO:=λc b=>t.goto c b
  obtain⟨b8,b9⟩:=t.rows;unfold ig at U;rw [d2]at U;rw [<-b1]at U bG bO b8 b9;obtain⟨u0,u1,u2,u3,u4⟩:=ak.cells;generalize d.rules.length=cm at *;generalize d.acts.length=u at *;generalize d.goto.length=ei at *;generalize d.terms=cn at *;generalize d.nons=ck at *;rw [bi]at u0 u1 u2 u3 u4;clear bh t p c7 bA bx l m n o bw x cs dt d2;obtain⟨cI,cA,bt,ct,ew,ex,fs,eG,eQ,e4,e5⟩:=fa ak c8 cS U c1 c2 b1 bG bO b8 b9;clear ak c8 cS U c1 c2 b1 bG bO b8 b9
  go_wp2_with fail
  rw [<-bi];refine ct.out.mono ?_;rintro e w5 ⟨a9,gl,gm,gr,gA,gB,rfl,bg⟩;obtain⟨I,an,J,ap,K,aS,L,aT,M,a0,rfl,rfl,rfl,rfl,rfl,-,-,⟨gb,gf⟩,-,⟨gc,gg⟩⟩:=bg.slices;have c9:=cA.out.below a9;have ej:=cI.out.below a9;have bB:=bt.out.trans (a9.mono bt.out.size);obtain⟨cj,ds⟩: ∃g,g=λk=>(br k\/w4.heap.size<=k)/\k<w5.heap.size:=⟨_,rfl⟩
  rw [<-ds]at bg;have bq:=fH.new bg a.terms a.nons;obtain⟨w6,bl⟩: ∃g,g=w5.alloc (.cells #[.slice I a.rules.length an,.int .i64 a.terms,.int .i64 a.nons,.slice J a.row.length ap,.slice K a.rows.length aS,.slice L a.gow.length aT,.slice M a.gows.length a0] 52):=⟨_,rfl⟩;rw [<-bl]at bq;have p:Below w5.heap.size w5 w6:=by rw [bl];exact(Below.refl _ _).alloc (Nat.le_refl _) _
  have bR:=c9.below p;have cb:=ej.below p;have cT:=bB.trans (p.mono bB.size);have c4:=λ(wr:World) (h:fH wr cj w5.heap.size I a.rules.length an J a.row.length ap K a.rows.length aS L a.gow.length aT M a.gows.length a0 a.terms a.nons a) (c b:Int) (hi:c<=9223372036854775807)=>wV h.pk c b hi
  have c5:=λ(wr:World) (h:fH wr cj w5.heap.size I a.rules.length an J a.row.length ap K a.rows.length aS L a.gow.length aT M a.gows.length a0 a.terms a.nons a) (c b:Int) (hi:c<=9223372036854775807) (b4:b<=9223372036854775807)=>uO h.pk c b hi b4
  obtain⟨b2,b3⟩:((a.rows.length:Int)<=(u:Int))/\((a.gows.length:Int)<=(u:Int)):=⟨by have:=e4.out;omega,by have:=e5.out;omega⟩;generalize a.terms=co at *;generalize a.nons=cl at *;generalize a.rules.length=em at *;generalize a.row.length=en at *;generalize a.rows.length=ep at *;generalize a.gow.length=er at *;generalize a.gows.length=es at *;obtain⟨bz,bY⟩: ∃g,g=decide (bP=0):=⟨_,rfl⟩;rw [<-bY];have fF:(bP==0)=bz:=by rw [bY];by_cases h:bP=0<;>simp [h]
  have fL:(bz !=bz)=false:=by simp
  obtain⟨u0,u1,u2,u3,u4⟩:=cb.cells;obtain⟨cc,cd,ce,cf,cg,ch,ci⟩:=bq.cells;obtain⟨l,m,n,o⟩:=bR.cells;rw [bl]at u0 u1 u2 u3 u4 cc cd ce cf cg ch ci l m n o;have eg:Below w6.heap.size w6 w6:=Below.refl _ _;obtain⟨r,b6⟩: ∃g,g=ao G:=⟨_,rfl⟩;have e8:r=ev+et:=by rw [b6,<-eZ.out,<-eX.out];rfl
  have f8:IntKind.i64.wrap ((r:Int)+1)=(r:Int)+1:=by have:=cE.out;rw [IntKind.wrap_i64];omega
  have f6:(r:Int)+2<=9223372036854775807:=by have:=cE.out;omega
  clear bg c9 ej bB p a9 ds cI cA bt ct bY e8;obtain⟨Q,eR,R,cp,eA,eB,cH,e2,e0,e1⟩:=fp bq bR cb cT c4 c5 eg b6 b2 b3;clear bq bR cb cT c4 c5 eg b6 b2 b3
  go_wp2_with fail
  rw [<-bl];clear u0 u1 u2 u3 u4 cc cd ce cf cg ch ci l m n o
  go_loopw [7] (λb7 wr=> ∃c:Int,-1<=c/\c<=(u:Int)+1/\b7= .int .i64 c/\Below w6.heap.size w6 wr) (λb7 _=>((u:Int)+1 - intOf b7).toNat)
  case atStart=>exact⟨-1,by omega,by omega,rfl,cH.out⟩
  case round=>
   clear cH;obtain⟨c,f1,f2,rfl,le⟩:=hrel;have al:=R.out.below le;obtain⟨u0,u1,u2,u3,u4⟩:=al.cells;clear al;by_cases f3:c<=(u:Int)
   ·have d3:c<=9223372036854775807:=(by omega);have y:=ab le;clear le
    go_wp2_with fail
    clear u0 u1 u2 u3 u4
    go_loopw [8] (λca wr=> ∃b:Int,-1<=b/\b<=(r:Int)+2/\ca= .int .i64 b/\Below w6.heap.size w6 wr) (λca _=>((r:Int)+2 - intOf ca).toNat)
    case atStart=>exact⟨-1,by omega,by omega,rfl,y.out⟩
    case round=>
     clear y;obtain⟨b,d4,d5,rfl,le⟩:=hrel;have bS:=eR.out.below le;have bC:=eE.out _ bS;rw [<-e2.out]at bC;obtain⟨l,m,n,o⟩:=bS.cells;clear bS;obtain⟨y,cu⟩:=av le bC;clear le bC
     go_wp2_with fail
     refine cu.out.mono ?_;rintro e w7 ⟨rfl,cO⟩;have bo:=y.out.trans (cO.mono y.out.size);clear l m n o cu y cO;by_cases b5:b<=(r:Int)+1
     ·have d6:b<=9223372036854775807:=(by omega);have bp:=bo.drew;have ai:=Q.out.below bp;have al:=R.out.below bp;have dS:=And.intro ai.cells al.cells;have z:=λwr (j:Below w6.heap.size w6 wr)=>eA.out _ (Q.out.below j) c b d3
      have V:=λwr (j:Below w6.heap.size w6 wr)=>ew.out _ (R.out.below j) c b
      have be:=λwr (j:Below w6.heap.size w6 wr)=>eB.out _ (Q.out.below j) c b d3 d6
      have bE:=λwr (j:Below w6.heap.size w6 wr)=>ex.out _ (R.out.below j) c b d6
      rw [eG.out c b]at z;rw [eQ.out c b]at be;obtain⟨a4,a5,bW⟩: ∃a4 a5:Int,(a4,a5)=iO d c b:=⟨_,_,rfl⟩;rw [<-bW]at z V;unfold AcV at z V;simp only at z V;obtain⟨dd,b0⟩: ∃g,g=gw d c b:=⟨_,rfl⟩;rw [<-b0]at be bE;have d1: ∀wr,Below w6.heap.size w6 wr->(λf=>(f.cell? ⟨w5.heap.size,0,none⟩=some (.slice I em an)/\f.cell? ⟨w5.heap.size,1,none⟩=some (.int .i64 co)/\f.cell? ⟨w5.heap.size,2,none⟩=some (.int .i64 cl)/\f.cell? ⟨w5.heap.size,3,none⟩=some (.slice J en ap)/\f.cell? ⟨w5.heap.size,4,none⟩=some (.slice K ep aS)/\f.cell? ⟨w5.heap.size,5,none⟩=some (.slice L er aT)/\f.cell? ⟨w5.heap.size,6,none⟩=some (.slice M es a0))/\f.cell? ⟨w3.heap.size,0,none⟩=some (.slice E cm W)/\f.cell? ⟨w3.heap.size,1,none⟩=some (.int .i64 cn)/\f.cell? ⟨w3.heap.size,2,none⟩=some (.int .i64 ck)/\f.cell? ⟨w3.heap.size,3,none⟩=some (.slice F u X)/\f.cell? ⟨w3.heap.size,4,none⟩=some (.slice H ei Y)) wr:=λwr j=>⟨(Q.out.below j).cells,(R.out.below j).cells⟩
      have fx:(a4==a4)=true:=(by simp);have fz:(a5==a5)=true:=(by simp);have f0:(dd !=dd)=false:=(by simp);clear ai al bo;obtain⟨a7,cB,cv,cw,cx,cy,a6,fh,fn⟩:=dQ bp dS z V be bE d1 bW b0;clear bp dS z V be bE d1 bW b0
      go_wp2_with fail
      refine wp_region_held_drew (S:=(λf=>(f.cell? ⟨w5.heap.size,0,none⟩=some (.slice I em an)/\f.cell? ⟨w5.heap.size,1,none⟩=some (.int .i64 co)/\f.cell? ⟨w5.heap.size,2,none⟩=some (.int .i64 cl)/\f.cell? ⟨w5.heap.size,3,none⟩=some (.slice J en ap)/\f.cell? ⟨w5.heap.size,4,none⟩=some (.slice K ep aS)/\f.cell? ⟨w5.heap.size,5,none⟩=some (.slice L er aT)/\f.cell? ⟨w5.heap.size,6,none⟩=some (.slice M es a0))/\f.cell? ⟨w3.heap.size,0,none⟩=some (.slice E cm W)/\f.cell? ⟨w3.heap.size,1,none⟩=some (.int .i64 cn)/\f.cell? ⟨w3.heap.size,2,none⟩=some (.int .i64 ck)/\f.cell? ⟨w3.heap.size,3,none⟩=some (.slice F u X)/\f.cell? ⟨w3.heap.size,4,none⟩=some (.slice H ei Y))) (by kernel_rfl) ?_ (λhHeld=> ?_)
      ·exact cB.out
      generalize w7.drew=gO at *;refine tZ 0 ?_;try simp only [Act.put,sT,s0,s1]
      refine tZ 1 ?_;try simp only [Act.put,sT,s0,s1]
      refine tZ 2 ?_;try simp only [Act.put,sT,s0,s1]
      refine tZ 4 ?_;try simp only [Act.put,sT,s0,s1]
      refine tZ 5 ?_;try simp only [Act.put,sT,s0,s1]
      refine tZ 6 ?_;try simp only [Act.put,sT,s0,s1]
      refine wpAnyH_ready (rs:=[3]) (by kernel_rfl) (by simp) ?_;refine AllReadyH.cons (o:= ?_) ?_ (λs i=> ?_) AllReadyH.nil;rotate_left 1;(focus((try simp only [gT,gs,gz]);try rfl))
      go_simp
      go_at_call 35
      refine(cv.out _ a7.out).mono ?_;rintro e w8 ⟨rfl,cP⟩;have ed:=a7.out.trans (cP.mono a7.out.size);clear a7 cP hHeld cB cv;have O:=ab ed;clear ed;refine i.out _ _ ?_ (λhHeld=> ?_)
      ·exact a6.out _ O.out
      clear i s
      try simp only [Act.put,sT,s0,s1]
      refine wpAnyH_ready (rs:=[7]) (by kernel_rfl) (by simp) ?_;refine AllReadyH.cons (o:= ?_) ?_ (λs i=> ?_) AllReadyH.nil;rotate_left 1;(focus((try simp only [gT,gs,gz]);try rfl))
      go_simp
      go_at_call 26
      refine(cw.out _ O.out).mono ?_;rintro e w9 ⟨rfl,cR⟩;have ee:=O.out.trans (cR.mono O.out.size);clear O cR hHeld cw;have P:=ab ee;clear ee;refine i.out _ _ ?_ (λhHeld=> ?_)
      ·exact a6.out _ P.out
      clear i s
      try simp only [Act.put,sT,s0,s1]
      refine tZ 8 ?_;try simp only [Act.put,sT,s0,s1]
      refine tZ 9 ?_;try simp only [Act.put,sT,s0,s1]
      refine tZ 10 ?_;try simp only [Act.put,sT,s0,s1]
      refine tZ 11 ?_;try simp only [Act.put,sT,s0,s1]
      refine tZ 12 ?_;try simp only [Act.put,sT,s0,s1]
      refine tZ 14 ?_;try simp only [Act.put,sT,s0,s1]
      refine tZ 15 ?_;try simp only [Act.put,sT,s0,s1]
      refine tZ 16 ?_;try simp only [Act.put,sT,s0,s1]
      refine wpAnyH_ready (rs:=[13]) (by kernel_rfl) (by simp) ?_;refine AllReadyH.cons (o:= ?_) ?_ (λs i=> ?_) AllReadyH.nil;rotate_left 1;(focus((try simp only [gT,gs,gz]);try rfl))
      go_simp
      go_at_call 36
      refine(cx.out _ P.out).mono ?_;rintro e w10 ⟨rfl,cM⟩;have eb:=P.out.trans (cM.mono P.out.size);clear P cM hHeld cx;have N:=ab eb;clear eb;refine i.out _ _ ?_ (λhHeld=> ?_)
      ·exact a6.out _ N.out
      clear i s
      try simp only [Act.put,sT,s0,s1]
      refine wpAnyH_ready (rs:=[17]) (by kernel_rfl) (by simp) ?_;refine AllReadyH.cons (o:= ?_) ?_ (λs i=> ?_) AllReadyH.nil;rotate_left 1;(focus((try simp only [gT,gs,gz]);try rfl))
      go_simp
      go_at_call 25
      refine(cy.out _ N.out).mono ?_;rintro e w11 ⟨rfl,cN⟩;have ec:=N.out.trans (cN.mono N.out.size);clear N cN hHeld cy;have cG:=ab ec;clear ec;refine i.out _ _ ?_ (λhHeld=> ?_)
      ·exact a6.out _ cG.out
      clear i s
      try simp only [Act.put,sT,s0,s1]
      refine tZ 18 ?_;try simp only [Act.put,sT,s0,s1]
      refine tZ 19 ?_;try simp only [Act.put,sT,s0,s1]
      refine wpAnyH_done (by kernel_rfl) ?_ _
      go_wp2_with fail
      go_roundw
      case rel=>exact⟨b+1,by omega,by omega,by go_num,cG.out⟩
      case measure=>simp [intOf];omega
     ·have f5:decide (b<=(r:Int)+1)=false:=decide_eq_false b5;obtain⟨e3,fw,ft,fv⟩:=aA bo b5 d4 d5;clear bo b5 d4 d5
      go_wp2_with fail
      go_roundw
      case rel=>exact⟨c+1,by omega,by omega,by go_num,e3.out⟩
      case measure=>simp [intOf];omega
   ·have ai:=Q.out.below le;obtain⟨cc,cd,ce,cf,cg,ch,ci⟩:=ai.cells;have cU:=cp.out.trans (le.mono cp.out.size);have b2:=e0.out;have b3:=e1.out;clear le ai;have cr:=ab cU;clear cU
    go_wp2_with fail
    refine(qL _).mono ?_;rintro e fd ⟨rfl,T⟩;have S:=cr.out.trans (T.mono cr.out.size);clear T;have bu:=ab S;clear S
    go_wp2_with fail
    go_ret
    exact⟨rfl,bu.out⟩
end Go.Proofs.YthlbjgabhpdbfaaGreat

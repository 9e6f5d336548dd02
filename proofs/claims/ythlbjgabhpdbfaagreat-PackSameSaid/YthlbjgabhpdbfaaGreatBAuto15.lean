/- The automaton: Build. -/
import Derived.Test.YthlbjgabhpdbfaaGreatBAuto11
import Derived.Test.YthlbjgabhpdbfaaGreatBFirstPlain
import Derived.Test.YthlbjgabhpdbfaaGreatBBitsL
import Derived.Test.YthlbjgabhpdbfaaGreatBLook2
import Derived.Test.YthlbjgabhpdbfaaGreatBItemLay
import Derived.Test.YthlbjgabhpdbfaaGreatBG7
set_option linter.unusedVariables false
set_option linter.unusedSimpArgs false
set_option maxRecDepth 100000
set_option maxHeartbeats 16000000
namespace Go.Proofs.YthlbjgabhpdbfaaGreat
open Go.Proofs.Tryz
open List renaming mem_of_getElem?->Za,mem_singleton->Zb,setIfInBounds_toArray->Zc,set_cons_succ->Zd,set_cons_zero->Ze,take_succ_cons->Zf,take_zero->Zg
open Nat renaming add_sub_cancel->Zh,le_refl->Zi,zero_le->Zj
open Go.RowKit Go.Maps
attribute [local irreducible] wpStill aB aO
theorem tJ {w:World} {F:Nat->Prop} {lb k7 k8:Value} {G:ac} (h:bk w F lb k7 k8 G) (h0: ∀a,F a->a<w.heap.size) (st:Int):
  Calls prog 20 #[GV lb k7 k8 st] w (rI w G st (bf G st)):=by
 obtain⟨K,O,L,P,M,Q,rfl,rfl,rfl,-⟩:=h.slices;obtain⟨w1,bo⟩: ∃w1,w1=w.alloc (.cells #[.slice K G.terms.length O,.slice L G.nons.length P,.slice M G.rules.length Q,.int .i64 st] 25):=⟨_,rfl⟩;have bO:=bj.new h st;have hA:Below w.heap.size w w1:=by rw [bo];exact(Below.refl _ w).alloc (Zi _) _
 have cv:w1.heap.size=w.heap.size+1:=by rw [bo];simp
 rw [<-bo]at bO;have t:=oQ bO.gram st;have eX:=λwr (X:bj wr F w.heap.size K O L P M Q G.terms.length G.nons.length G.rules.length st G)=>Ap X.gram st
 have cU:=λwr (X:bj wr F w.heap.size K O L P M Q G.terms.length G.nons.length G.rules.length st G)=>eW X.gram st
 obtain⟨br,bs,bt,b4⟩:=bO.cells;have e8:bf G st=0->KnA G st:=KnA.of_check;have ft:bf G st=0->vX G st=true:=λe=>decide_eq_true e
 obtain⟨hR,fg⟩: ∃f,f=bf G st:=⟨_,rfl⟩;rw [<-fg]at t e8 ft⊢;have dF:ao G=G.terms.length+G.nons.length:=rfl;obtain⟨o,fF⟩: ∃o,o=ao G:=⟨_,rfl⟩;rw [<-fF]at dF cU;obtain⟨a5,hT⟩: ∃f,f=G.terms.length:=⟨_,rfl⟩;obtain⟨a3,be⟩: ∃f,f=G.nons.length:=⟨_,rfl⟩;obtain⟨a4,bP⟩: ∃f,f=G.rules.length:=⟨_,rfl⟩;rw [<-hT,<-be,<-bP]at bO eX cU;rw [<-hT]at br;rw [<-be]at bs;rw [<-bP]at bt;rw [<-hT,<-be]at dF;rw [<-hT,<-be,<-bP]at bo t;rw [bo]at t br bs bt b4;rw [<-hT,<-be,<-bP];have h8:= @run_makeMap prog;clear h;obtain⟨g3,ee,ho,gM,lx,lA,lG,ma,op,mu,N,em,lR,g9⟩:=dh bO hA cv t eX cU e8 ft fg dF fF hT be bP;have lE:=ab h0;clear bO hA cv t eX cU e8 ft fg dF fF hT be bP h0
 go_enter func20,ntmps20
 go_wp2_with fail
 with_reducible refine gM.out.mono ?_
 rintro e w2 ⟨rfl,ce⟩;rw [<-bo]at ce;have cj:=g3.out.below ce;have ch:=ee.out.trans (ce.mono ee.out.size);have pt:w.heap.size<w2.heap.size:=by have:=ce.size;have:=ho.out;omega
 clear bo br bs bt b4 ce g3 ee gM ho;by_cases c3:hR=0
 ·subst c3;have bd:=lG.out (by first|rfl|trivial);have hm:=ma.out (by first|rfl|trivial);have pl:o<=240:=by have:=bd.t;have:=bd.n;have:=mu.out;have:=em.out;have:=lR.out;omega
  obtain⟨br,bs,bt,b4⟩:=cj.cells
  -- the builder
  obtain⟨w5,bp⟩: ∃f,f=((w2.alloc (.map #[] 0)).alloc (.map #[] 0)).alloc (.cells #[.slice K a5 O,.slice L a3 P,.slice M a4 Q,.int .i64 st,.slice none 0 0,.slice none 0 0,.map (some w2.heap.size),.map (some (w2.heap.size+1))] 124):=⟨_,rfl⟩;have nj: ∃ed,ed=w2.heap.size+1+1/\Bd w5 F ed K O L P M Q a5 a3 a4 st G (.slice none 0 0) (.slice none 0 0) w2.heap.size (w2.heap.size+1)/\Below w2.heap.size w2 w5/\w5.heap.size=ed+1/\w5.ownsMap prog 9 (plainElem (H:=Unit) prog 3) w2.heap.size 0 (.map [])/\w5.ownsMap prog 128 (plainElem (H:=Unit) prog 3) (w2.heap.size+1) 0 (.map []):=by
   obtain⟨w3,dO⟩: ∃f,f=w2.alloc (.map #[] 0):=⟨_,rfl⟩;obtain⟨w4,dS⟩: ∃f,f=w3.alloc (.map #[] 0):=⟨_,rfl⟩;rw [<-dO,<-dS]at bp;have kX:w3.heap.size=w2.heap.size+1:=by rw [dO];simp
   have k0:w4.heap.size=w2.heap.size+1+1:=by rw [dS];simp [kX]
   have oa:w5.heap.size=w2.heap.size+1+1+1:=by rw [bp];simp [k0]
   have hB:Below w2.heap.size w2 w3:=by rw [dO];exact(Below.refl _ _).alloc (Zi _) _
   have hD:Below w3.heap.size w3 w4:=by rw [dS];exact(Below.refl _ _).alloc (Zi _) _
   have a9:Below w4.heap.size w4 w5:=by rw [bp];exact(Below.refl _ _).alloc (Zi _) _
   have hE:=hD.trans (a9.mono hD.size);have hC:=hB.trans (hE.mono hB.size);have nX:Blk w5 (w2.heap.size+1+1) 124 #[.slice K a5 O,.slice L a3 P,.slice M a4 Q,.int .i64 st,.slice none 0 0,.slice none 0 0,.map (some w2.heap.size),.map (some (w2.heap.size+1))]:=by rw [bp,<-k0];exact Blk.new _ _ _
   have n0:w3.ownsMap prog 9 (plainElem (H:=Unit) prog 3) w2.heap.size 0 (.map []):=by rw [dO];exact World.ownsMap_made w2 prog 9 (plainElem (H:=Unit) prog 3)
   have n1:w4.ownsMap prog 128 (plainElem (H:=Unit) prog 3) (w2.heap.size+1) 0 (.map []):=by rw [dS,<-kX];exact World.ownsMap_made w3 prog 128 (plainElem (H:=Unit) prog 3)
   exact⟨_,rfl,⟨cj.gram.below hC,nX⟩,hC,oa,(aa.of_size hE (λ_=>False)).ownsMap n0 (λe=>e),(aa.of_size a9 (λ_=>False)).ownsMap n1 (λe=>e)⟩
  obtain⟨_,rfl,ex,a9,f1,ky,kA⟩:=nj;have hW:=cj.below a9;have hF:=ch.trans (a9.mono ch.size);have e6:=lE.out;have e0:=xS ex (λe=>by have:=e6 _ e;omega) (by rw [em.out]) bd.n bd.t bd.r;rw [bp]at e0;clear cj ch;obtain⟨bA,hd,lo,lk,g5,ei,mR,hp,hq,gO,ca⟩:=fa bd hm ex a9 hW hF f1 ky kA e0 e6;clear bd hm ex a9 hW hF f1 ky kA e0 e6
  go_wp2_with fail
  refine gO.out.mono ?_;rintro e w6 ⟨rfl,b9,eZ,n9,lj,nl,h3,nm,ey,gb,fd,bu⟩;rw [<-bp]at bu nl;have p1:=bu.size;have f1:=mR.out;have c2:=g5.out.touch' bu (λa j e=>by have:=ca.out a j;omega) (by omega);have kz:=bu.ownsMap hp.out (by omega);have kB:=bu.ownsMap hq.out (by omega);have hG:=bu.toBelow (B:=w.heap.size) (λa e=>by omega) ei.out ei.out.size;rw [<-N.out]at h3 ey gb fd;have hN:Bui w6 w6 F (w2.heap.size+1+1) K O L P M Q a5 a3 a4 st G (.slice (some ⟨b9,0,none⟩) (o+1) eZ) (.slice none 0 0) w2.heap.size (w2.heap.size+1) [] [] []:=
   ⟨ey,aa.refl _ _,fG.nil _ _ _,⟨_,kz,ml.empty⟩,⟨_,0,kB,jm.empty,Zj _⟩,by omega,by omega,by omega,by omega,λa j=>by have:=ca.out a j;exact⟨by omega,by omega,by omega,by omega⟩,λal ak=>by cases ak⟩
  have eR:=lx.out w6 c2;rw [hd.out,if_pos rfl]at eR;obtain⟨n2,n3,n4,n5⟩:=c2.cells;have iN: ∀wr,aa (λa=>a=w2.heap.size+1+1\/a=w2.heap.size\/a=w2.heap.size+1) w6 wr->f7 wr b9 b9 (o+1) n9 lj:=λwr nG=>gb.touch nG (by omega) (λa v _ _ e=>by omega)
  clear br bs bt b4 bp h8 bu kz kB ey gb gO hp hq lo lk g5 ei;obtain⟨g6,ej,gA,gF,mp,l3⟩:=aM c2 hG hN eR iN fd;clear c2 hG hN eR iN fd
  go_wp2_with fail
  refine gF.out.mono ?_;rintro e w7 ⟨ok,p0,oP,rfl,kS,cR⟩;have eG:=gA.out.below cR;have hX:=g6.out.below cR;have hH:=ej.out.trans (cR.mono ej.out.size);have s:=tI eG (kS.mono (λa j=>⟨j.1,j.2,by simp [Value.ownBlock],λe=>e⟩)) (λq x=>by
   obtain rfl:=Zb.1 x
   have:=bA.out.r
   rw [<-g9.out]at this
   exact⟨⟨by simp only;omega,by simp only;omega⟩,by simp only;omega,by simp only;omega⟩) (λf cs=>by cases cs) (by simp) (by simp)
  rw [un (by simp)]at s;clear n2 n3 n4 n5 kS cR gF gA g6 ej;obtain⟨ls,g7,el,gW⟩:=aA eG hX hH s;clear eG hX hH s
  go_wp2_with fail
  refine gW.out.mono ?_;rintro e w8 ⟨rfl,p4,oF,hO,gd,-⟩;have nC: ¬(Value.slice none 0 0).ownBlock=some w.heap.size:=by simp [Value.ownBlock]
  have hY:=g7.out.touch' gd (λa j e=>by
   have:=ca.out a j
   rcases e with e|e|e
   ·omega
   ·omega
   ·simp [Value.ownBlock]at e) (λe=>by
   rcases e with e|e|e
   ·omega
   ·omega
   ·simp [Value.ownBlock]at e)
  have hI:=gd.toBelow (B:=w.heap.size) (λa e=>by
   rcases e with e|e|e
   ·omega
   ·omega
   ·simp [Value.ownBlock]at e) el.out el.out.size
  have eE:=Bld.start (G:=G) (st:=st);rw [<-g9.out]at eE;clear gd nC ls g7 el gW;obtain⟨gB,g8,gi,gm⟩:=aA hO hY hI eE;clear hO hY hI eE
  go_wp2_with fail
  go_loopw [6] (λb wr=> ∃(p:Nat) (i k:List (List It)) (k9:Value) (cN:List (Value×Value)),b= .int .i64 p/\Bui w6 wr F (w2.heap.size+1+1) K O L P M Q a5 a3 a4 st G (.slice (some ⟨b9,0,none⟩) (o+1) eZ) k9 w2.heap.size (w2.heap.size+1) cN i k/\Bld G st p i k/\bj wr F w.heap.size K O L P M Q a5 a3 a4 st G/\Below w.heap.size w wr) (λb _=>2001 - (intOf b).toNat)
  case atStart=>exact⟨0,_,[],_,_,rfl,gB.out,gm.out,g8.out,gi.out⟩
  case round=>
   clear gB gm g8 gi;obtain⟨p,i,k,k9,cN,rfl,g,ba,X,cg⟩:=hrel;have ap:=ba.f;have nD:=ap.small;obtain⟨oi,s,kg,iS,nF⟩:=bH g.sr.own;have ck:cN.length=i.length:=by rw [g.sr.len,fj]
   rw [ck]at kg iS;subst kg;unfold maxLen at nF;obtain⟨m,S⟩: ∃f,f=i.length:=⟨_,rfl⟩;rw [<-S]at nD iS;have a0:=(g.bd.blk.cell 5).trans rfl;rw [<-S]at a0;by_cases cp:p<m
   ·have c9:(p:Int)<(m:Int):=(by omega);obtain⟨n,Z⟩: ∃q,i[p]? =some q:=⟨_,List.getElem?_eq_getElem (by rw [<-S];exact cp)⟩;obtain⟨-,-,-,gs,al,rfl,bS,co,ak,-,bG,R,-,cx,-⟩:=g.sr.at_ (i:=p) (d:=(n,[])) (by rw [fX,Z];simp);obtain⟨og,px,oG,cv,-⟩:=id cx;obtain⟨p7,p8⟩:=al;simp only at cv bG R cx;subst cv;have c8:=ba.by_ bA.out n (Za Z);have fc:=g.bd;rw [N.out]at fc;have e2:=AV fc (by rw [<-N.out];exact mp.out wr g.t0) (by rw [<-N.out];exact⟨h3,nm⟩) em.out (by rw [<-N.out];exact l3.out) bA.out cx (λa j=>j.2.1) c8.1 c8.2.2;rw [<-N.out]at e2;clear fc;obtain⟨py,pc⟩: ∃f,f=(n.length:Nat):=⟨_,rfl⟩;obtain⟨r,cC,a6,cE,bz,l1,bB,cG,m2,ot,g1,oC⟩:=gx g ba ap X cg ck S Z cx c8 e2 ak;clear g ba ap X cg ck S Z cx c8 e2 ak
    go_wp2_with fail
    refine g1.out.mono ?_;rintro e w9 ⟨gh,p3,rfl,o3,kR,cf⟩;have hP:=r.out.below cf;have hZ:=cE.out.below cf;have hJ:=bz.out.trans (cf.mono bz.out.size);have pr:w6.heap.size<=wr.heap.size:=r.out.t0.size;have nq:gs<wr.heap.size:=co;have o5:w6.heap.size<=gs:=bS;have pp:=cf.size;have iD:((i,[]):List (List It)×List It)=dp G st n i (0 - 1):=rfl;have eQ:=hP.row;rw [<-bB.out]at eQ;have ix: ∀a,(Value.slice (some ⟨gs,0,none⟩) m s).ownBlock=some a->a=gs:=λa e=>by
     simp only [Value.ownBlock,Option.some.injEq]at e;exact e.symm
    clear hP cf a0 bG R r cE bz m2 g1;obtain⟨gE,lB,gk,et,er,hk⟩:=aM eQ hZ hJ kR ix iD;clear eQ hZ hJ kR ix iD
    go_wp2_with fail
    go_loopw [49] (λb wr=> ∃(d:Nat) (A:List (List It)) (C:List It) (b6:Value) (an:List (Value×Value)),d<=o+1/\b= .int .i64 d/\((A,C):List (List It)×List It)=dp G st n i (d - 1)/\Bui w6 wr F (w2.heap.size+1+1) K O L P M Q a5 a3 a4 st G (.slice (some ⟨b9,0,none⟩) (o+1) eZ) b6 w2.heap.size (w2.heap.size+1) an A (k++[C])/\aa (λa=>a=w2.heap.size+1+1\/a=w2.heap.size\/a=w2.heap.size+1\/(Value.slice (some ⟨gs,0,none⟩) m s).ownBlock=some a) w9 wr/\(∀a,b6.ownBlock=some a->(Value.slice (some ⟨gs,0,none⟩) m s).ownBlock=some a\/w9.heap.size<=a)) (λb _=>o+1 - (intOf b).toNat)
    case atStart=>exact⟨0,i,[],_,_,Zj _,rfl,hk.out,gE.out,aa.refl _ _,λa e=> .inl e⟩
    case round=>
     clear gE hk;obtain⟨d,A,C,b6,an,ns,rfl,D,g,y,ai⟩:=hrel;have V:=CY G st n a6.out.nodup (d - 1);rw [<-D]at V;simp only at V;have aS: ∀a,gh<=a->a<w9.heap.size-> ¬(λa=>a=w2.heap.size+1+1\/a=w2.heap.size\/a=w2.heap.size+1\/(Value.slice (some ⟨gs,0,none⟩) m s).ownBlock=some a) a:=λa v Y e=>by
      rcases e with e|e|e|e
      ·omega
      ·omega
      ·omega
      ·have:=er.out a e;omega
     by_cases fs:d<o+1
     ·have nx:(d:Int)<(o:Int)+1:=(by omega);have ea:=et.out.touch y (aS gh (Zi _) et.out.lt) (λa v Y _=>aS a v Y);have na:=ea.cell d fs;have cw:=ea.rd d fs;obtain⟨li,d4,nb,b0,-⟩:=id cw;rw [b0]at na cw;obtain⟨dn,-⟩:=aH.at_ cw;by_cases T:pg G st n d=[]
      ·have nB:d4=0:=(by rw [dn,T];rfl);subst nB;have E:((A,C):List (List It)×List It)=dp G st n i (d+1 - 1):=by
        rw [D];cases d with
        |zero=>rfl
        |succ c=>
         rw [Zh,Zh,yK];unfold pg at T;rwa [if_neg (by omega)]at T
       clear V dn ea cw D;obtain⟨r,a8,a7,lT,my,mb,cb⟩:=de g y ai aS b0 T E;clear g y ai aS b0 T E
       go_wp2_with fail
       go_roundw
       case rel=>exact⟨d+1,A,C,b6,an,by omega,by go_num,cb.out,r.out,a8.out,a7.out⟩
       case measure=>simp [intOf];omega
      ·have nt:d≠0:=λe=>T (by rw [e];rfl)
       obtain⟨c,hm⟩: ∃c,d=c+1:=⟨d - 1,by omega⟩;have dr:pg G st n d=nxI G st n (d:Int):=(by unfold pg;rw [if_neg nt]);have d6:=(et.out.rd d fs).touch y (λa j=>aS a j.1 j.2.1);rw [b0,dr]at d6;have pf:0<d4:=by
        rw [dn];exact List.length_pos_iff.2 T
       have pk:(0:Int)<(d4:Int):=(by omega);obtain⟨kv,bi⟩: ∃f,f=nxI G st n (d:Int):=⟨_,rfl⟩;rw [<-bi]at d6;have d1:=B8 bA.out n (d:Int);rw [<-bi]at d1;have hQ:=g.drew;have kP:aH wr.drew (StF wr.drew w6.heap.size NoX b6) (.slice li d4 nb) kv:=(d6.drew).mono (λa j=>⟨by omega,Nat.lt_of_lt_of_le j.2.1 y.size,λe=>by
        rcases ai a e with e|e
        ·have:=er.out a e;omega
        ·omega,λe=>e⟩)
       have nk:A.length<=3000:=(by have:=V.len;rw [<-bB.out]at this;omega);have h1: ∀f∈A,jr f:=λf cs=>by
        rcases V.kind f cs with cs|⟨cy,e,-⟩
        ·exact(cC.out.by_ bA.out f cs).2.1
        ·rw [e];exact(B8 bA.out n cy).2.1
       have e1:=tI hQ kP d1.2.1 h1 (by omega) d1.2.2;obtain⟨bq,cr⟩: ∃f,f=jz A kv:=⟨_,rfl⟩;rw [<-cr]at e1;have d5:=(g.bd.blk.cell 7).trans rfl;have E:((bq.1,C++[((d:Int),bq.2)]):List (List It)×List It)=dp G st n i (d+1 - 1):=by
        have bb:d - 1=c:=(by omega);have ng:d+1 - 1=c+1:=(by omega);rw [bb]at D;rw [ng,wM (by rw [<-hm,<-bi];intro e;exact T (by rw [dr,<-bi];exact e)),<-D,<-hm,<-bi,cr]
       have iy:0<=bq.2/\bq.2<=3000:=by
        rw [cr];unfold jz
        split
        ·rename_i nr
         have:=List.idxOf_lt_length_of_mem nr;simp only;omega
        ·simp only;omega
       have h5: ∀q∈C,q.1≠(d:Int):=λq x=>by
        obtain⟨ob,od⟩:=q;have:=(V.mem ob od x).2.1;simp only;omega
       have dt:=V.tlen;clear V dn ea cw D d6 nk h1 d1 hQ kP;obtain⟨r,a8,a7,lT,my,mb,cb,g0,ou,ow,ov,l7,hd⟩:=pZ g y ai aS b0 T E e1 bi cr dr h5 hm;clear g y ai aS b0 T E e1 bi cr dr h5 hm
       go_wp2_with fail
       refine cQ (λcA=>cA.cell? ⟨w2.heap.size+1+1,7,none⟩=some (.map (some (w2.heap.size+1)))) 9 10 (by kernel_rfl) (by kernel_rfl) d5 ?_;simp only [Zf,Zg,List.drop_succ_cons,List.drop_zero]
       iterate 9
        refine bI ?_ (by rfl) (λwS hwS=> ?_) ?_
        rotate_left
        ·(try dsimp only at hwS)
         go_simp
         all_goals with_reducible rfl
        simp only [Act.put,Zc,Ze,Zd]
       refine bU ?_;refine ay ?_
       go_wp2_with fail
       refine g0.out.mono ?_;rintro e w10 ⟨rfl,la,m9,cT,k1,h9⟩;have kM:=(cT.bd.blk.cell 7).trans rfl;obtain⟨bx,f3,b3,bc,im⟩:=cT.to_;have bR:k.length=p:=a6.out.len;have H:WfI ((k.length:Int),(d:Int)):=⟨by simp only;omega,by simp only;omega⟩;have fL:=bc.put (tq9:=bq.2) H l7.out;have bh:=kh H;rw [bR]at bh fL;have kb:((k++[C++[((d:Int),bq.2)]]).map List.length).sum=((k++[C]).map List.length).sum+1:=(by simp;omega);have it:f3<maxLen:=by
        have v:=B6 (k++[C]) 300 (λq x=>by
         rcases List.mem_append.1 x with x|x
         ·have:=a6.out.tlen q x
          have:=N.out
          omega
         ·obtain rfl:=Zb.1 x
          omega)
        rw [List.length_append,List.length_singleton,bR]at v;unfold maxLen;omega
       have kn:(Lit.int .i64 bq.2).wf=true:=ii (by omega);clear H bc bR d5 g0;obtain⟨gr,bC,he,hj,hl,hf,ox⟩:=de cT k1 h9 fL kb im iy;clear cT k1 h9 fL kb im iy
       go_wp2_with fail
       refine⟨kM,cX ?_⟩;clear kM
       go_wp2_with (at_mapUpdate;refine wpList_mapUpdate_own _ rfl _ _ _ 121 rfl 128 3 pairKeyed underlying121 _ (w2.heap.size+1) f3 bx rfl b3 it _ _ _ rfl rfl bh _ [] (plainElem_int underlying3 kn) ?_)
       intro w11 kx hV;obtain⟨hM,k2⟩:=gr.out.way kx hj.out hV (by have:=hl.out;have:=hf.out;omega);have k5:aa (λa=>a=w2.heap.size+1+1\/a=w2.heap.size\/a=w2.heap.size+1\/(Value.slice (some ⟨gs,0,none⟩) m s).ownBlock=some a) w9 w11:=(a8.out.trans (b:=wr) (c:=w10) ⟨bC.out.os,bC.out.tape,bC.out.output,bC.out.size,bC.out.block⟩ (λb hi e=>by
        rcases e with e|e|e
        ·exact .inl e
        ·exact .inr (.inl e)
        ·rcases a7.out b e with e|e
         ·exact .inr (.inr (.inr e))
         ·omega)).trans k2 (λb hi e=> .inr (.inr (.inl e)))
       have kk: ∀a,la.ownBlock=some a->(Value.slice (some ⟨gs,0,none⟩) m s).ownBlock=some a\/w9.heap.size<=a:=λa e=>by
        rcases he.out a e with e|e
        ·exact a7.out a e
        ·right;have:=a8.out.size;have oR:wr.heap.size<=a:=e;omega
       clear kx hV k2 b3 bh it kn gr bC he hj hl hf r a8 a7;obtain⟨lr,m7,mA⟩:=aK hM k5 kk;clear hM k5 kk
       go_wp2_with fail
       refine NoPanic.normal ?_
       go_wp2_with fail
       go_roundw
       case rel=>exact⟨d+1,_,_,la,m9,by omega,by go_num,cb.out,lr.out,m7.out,mA.out⟩
       case measure=>simp [intOf];omega
     ·have nx: ¬(d:Int)<(o:Int)+1:=(by omega);have nu:d - 1=o:=(by omega);rw [nu]at D;have bg: ∀a,(λa=>a=w2.heap.size+1+1\/a=w2.heap.size\/a=w2.heap.size+1\/(Value.slice (some ⟨gs,0,none⟩) m s).ownBlock=some a) a->w.heap.size<a:=λa e=>by
       rcases e with e|e|e|e
       ·omega
       ·omega
       ·omega
       ·have:=er.out a e;omega
      have c1:=lB.out.touch' y (λa j e=>by have:=bg a e;have:=ca.out a j;omega) (λe=>by have:=bg _ e;omega);have cS:=y.toBelow (B:=w.heap.size) (λa e=>Nat.le_of_lt (bg a e)) gk.out gk.out.size;obtain⟨oj,oM,b1,i0,nE⟩:=bH g.sr.own;have cl:an.length=A.length:=(by rw [g.sr.len,fj]);rw [cl]at b1 i0;have n6:=(g.bd.blk.cell 5).trans rfl;obtain⟨d3,ad⟩: ∃f,f=A.length:=⟨_,rfl⟩;rw [b1,<-ad]at n6;rw [<-ad]at i0;unfold maxLen at nE;rw [N.out]at D;have bl:(dp G st n i (ao G)).1=A:=(by rw [<-D]);have E:(dp G st n i (ao G)).2=C:=(by rw [<-D]);have o7:d3<=3000:=(by have:=V.len;rw [<-ad,<-bB.out]at this;omega);clear V D aS;by_cases ny:2000<d3
      ·have nz:(2000:Int)<(d3:Int):=(by omega);have cm:=iR.many p i k n cC.out cG.out (by rw [bl,<-ad];exact ny);obtain⟨r,a8,a7,mG,l8,mo,cb,g4,eg,ep,l2,l0⟩:=gx g y ai b1 ad bl E c1 cS cm cl bg;clear g y ai b1 ad bl E c1 cS cm cl bg
       go_wp2_with fail
       go_ret2
       exact⟨eg.out,.inr (.inl ⟨rfl,ep.out,rfl⟩)⟩
      ·have nz: ¬(2000:Int)<(d3:Int):=(by omega);have fw:=Bld.next p i k n cC.out cG.out (by rw [bl,<-ad];omega);rw [bl,E]at fw;obtain⟨r,a8,a7,mG,l8,mo,cb,g4,eg,mf,l2,l0⟩:=gx g y ai b1 ad bl E c1 cS fw cl bg;clear g y ai b1 ad bl E c1 cS fw cl bg
       go_wp2_with fail
       go_roundw
       case rel=>exact⟨p+1,A,k++[C],b6,an,by go_num,r.out,mf.out,g4.out,eg.out⟩
       case measure=>simp [intOf];omega
   ·have c9: ¬(p:Int)<(m:Int):=(by omega);have c7:p=m:=(by have:=ap.le;omega);have h4:=ap.first;obtain⟨-,-,-,gs,p5,rfl,bS,co,-,-,-⟩:=g.sr.at_ (i:=0) (d:=([((G.rules.length:Int),0)],[])) (by rw [fX,h4];simp);have bR:k.length=m:=(by rw [ap.len,c7]);have cm:iR G st (some (i,k)):=iR.ok i k (by rw [<-S,<-c7];exact ba);have eb:=g.sr;rw [show stD i []=stD i (k.take 0) by rw [Zg],<-S]at eb;obtain⟨cz,ks⟩: ∃f,f=wr:=⟨_,rfl⟩;rw [<-S]at g;clear h4;rw [<-ks]at eb g X cg a0 co⊢;clear ks;obtain⟨r,cC,a6,cE,bz,l1,bB,en,ep,hx,os⟩:=fa g ba ap X cg ck S bR cm eb c7;clear g ba ap X cg ck S bR cm eb c7
    go_wp2_with fail
    go_loopw [79] (λb wr=> ∃(p:Nat) (an:List (Value×Value)),p<=m/\b= .int .i64 p/\fG wr w6.heap.size NoX (.slice (some ⟨gs,0,none⟩) m s) an (stD i (k.take p))/\aa (λa=>a=gs) cz wr/\ ∀(d:Nat) al,p<=d->an[d]? =some al->al.2= .slice none 0 0) (λb _=>m - (intOf b).toNat)
    case atStart=>exact⟨0,cN,Zj _,rfl,hx.out,aa.refl _ _,λd al _ ak=>r.out.nil al (Za ak)⟩
    case round=>
     clear hx a0 cp c9;obtain⟨b,cO,hi,rfl,a1,bw,dd⟩:=hrel;have ps:w6.heap.size<=cz.heap.size:=r.out.t0.size;by_cases cp:b<m
     ·have c9:(b:Int)<(m:Int):=(by omega);obtain⟨n,Z⟩: ∃q,i[b]? =some q:=⟨_,List.getElem?_eq_getElem (by rw [<-bB.out];exact cp)⟩;obtain⟨l,ct⟩: ∃q,k[b]? =some q:=⟨_,List.getElem?_eq_getElem (by rw [en.out];exact cp)⟩;have fi:(stD i (k.take b))[b]? =some (n,[]):=(by rw [fX,Z,List.getElem?_eq_none (by rw [List.length_take];omega)];rfl);obtain⟨fx,-,-,o1,ld,cn,-,-,d2,-,bG,R,c0,-,-⟩:=a1.at_ fi;injection cn with cn
      injection cn with cn
      subst cn;have c4:=a6.out.mem b l n ct Z;have j2:=a6.out.sort l (Za ct);have dt:=a6.out.tlen l (Za ct);rw [<-N.out]at dt;have kc:dl l 0=[]:=Bq (λq x=>(c4 q.1 q.2 x).1);have kf:dl l o=l:=D7 (λq x=>by have:=(c4 q.1 q.2 x).2.1;rw [N.out];exact this);have ds:=a1.own;rw [<-fx]at ds;have kt:=dd b ld (Zi _) d2;obtain⟨b7,p6⟩:=ld;simp only at kt bG R;subst kt;obtain⟨W,kr⟩: ∃f,f=wr:=⟨_,rfl⟩;rw [<-kr]at a1 bw ds bG R c0⊢;clear kr;have iv:W.ownsRow w6.heap.size 112 2 (.slice (some ⟨gs,0,none⟩) m s) m (di (cO.set b (b7,.slice none 0 0))):=(by rw [l9 d2];exact ds);have np: ∀a,F a->a≠gs:=λa j=>by have:=ca.out a j;have Y:w6.heap.size<=gs:=bS;omega
      have fn:w2.heap.size+1+1≠gs/\w2.heap.size+1≠gs/\w.heap.size≠gs:=(by have Y:w6.heap.size<=gs:=bS;omega);clear ds bG R c0;have mc:=ab dd;clear dd;have hw:=ab (show cz.heap.size<=W.heap.size from bw.size);obtain⟨m4,ew,l6,ms,mt,hn,mx,hh,cc,mg,l5,cG,cH⟩:=pZ a1 bw c4 j2 dt kc kf iv d2 fx fi Z ct;clear a1 bw c4 j2 dt kc kf iv d2 fx fi Z ct
      go_wp2_with fail
      go_loopw [10] (λcy wr=> ∃(c:Nat) (z:Option Addr) (B:Nat),1<=c/\c<=o+1/\cy= .int .i64 (c:Int)/\wr.ownsRow w6.heap.size 112 2 (.slice (some ⟨gs,0,none⟩) m s) m (di (cO.set b (b7,.slice z (dl l (c - 1)).length B)))/\wr.ownsRow W.heap.size 131 2 (.slice z (dl l (c - 1)).length B) (dl l (c - 1)).length (ar (dl l (c - 1)))/\aa (λa=>a=gs) W wr) (λcy _=>o+2 - (intOf cy).toNat)
      case atStart=>exact⟨1,none,0,Zi _,by omega,by go_num,by rw [Nat.sub_self,hn.out];exact hh.out,by rw [Nat.sub_self,hn.out];exact World.ownsRow_nil _ _ _ _,aa.refl _ _⟩
      case round=>
       clear hh;obtain⟨c,z,B,o8,hm,rfl,kF,kG,gf⟩:=hrel;have e5:=cE.out.touch' (ew.out.trans' gf) np fn.2.2;have hS:=lA.out wr e5;obtain⟨br,bs,bt,b4⟩:=e5.cells;clear e5;obtain⟨hr,ht,hy,g2⟩:=aA kF kG gf hS;clear kF kG gf hS
       go_wp2_with fail
       refine g2.out.mono ?_;rintro e w10 ⟨rfl,cP⟩;have U:=ah hr.out cP;have I:=ah ht.out cP;have a2:=hy.out.trans' (aa.of_size cP (λa=>a=gs));clear br bs bt b4 cP hr ht hy g2;by_cases o6:c<=o
       ·have nv:(c:Int)<=(o:Int):=(by omega);have b5:=ew.out.trans' a2;have bE:=r.out.bd.blk.touch b5 fn.1;have d5:=(bE.cell 7).trans rfl;have a0:=(bE.cell 5).trans rfl;obtain⟨bx,f3,f2,bc,-⟩:=r.out.to_;have b3:=b5.ownsMap f2 fn.2.1;have H:WfI ((b:Int),(c:Int)):=⟨by simp only;omega,by simp only;omega⟩;have bh:=kh H;have c6:=bc.has b (c:Int) H;by_cases c5: ∃J:Int,(((c:Int),J):It)∈l
        ·obtain⟨J,bW⟩:=c5;have nT:Maps.has bx (mI b c)=true:=c6.2 ⟨l,J,cH.out,bW⟩;have h2:=bc.at_ b c J l H cH.out bW (.lit (.int .i64 0));have bY:dl l (c+1 - 1)=dl l (c - 1)++[((c:Int),J)]:=by
          have bb:c=(c - 1)+1:=(by omega);have:=wC (m:=c - 1) (tq9:=J) ms.out (by rw [<-bb];exact bW);rw [<-bb]at this;rw [Zh];exact this
         have fT:=l6.out _ _ bW;have nP:=(List.getElem?_eq_some_iff.1 fT.2.2.2.2).1;rw [<-bB.out]at nP;have nR:(dl l (c - 1)).length<=300:=(by have:=D6 l (c - 1);have:=mt.out;omega);obtain⟨u,fv⟩: ∃f,f=(dl l (c - 1)).length:=⟨_,rfl⟩;rw [<-fv]at U I nR;obtain⟨-,o4,no,-⟩:=aH.at_ (Rd.of_own I);unfold maxLen at no;obtain⟨-,fh⟩:=jT (Z:=cO.set b (b7,.slice z u B)) (i:=b) (p:=(b7,.slice z u B)) (List.getElem?_set_self (List.getElem?_eq_some_iff.1 cc.out).1);obtain⟨R,c0⟩:=ic U fh;simp only at R;clear c6 bc f2;obtain⟨cI,cK,cM,hz,cB,es,oz,ha,md,oB,mL,hb⟩:=gx U I a2 b5 bE bY bW h2 fv fT H fh;clear U I a2 b5 bE bY bW h2 fv fT H fh
         go_wp2_with (at_lookup;refine wpList_lookup_own_ok_int _ rfl _ _ 121 rfl 128 3 .i64 pairKeyed underlying121 underlying3 (zeroInt _) _ _ bx rfl b3 _ _ rfl bh ?_;intro t aT kl)
         have nn:t=J:=by
          rw [ha.out]at aT;injection aT with aT
          injection aT with _ aT
          exact aT.symm
         subst nn;clear aT kl nT bh b3 ha d5
         go_wp2_with fail
         refine cQ (λcA=>cA.cell? ⟨w2.heap.size+1+1,5,none⟩=some (.slice (some ⟨gs,0,none⟩) m s)/\cA.cell? ⟨gs,b * 2+1,none⟩=some (.slice z u B)) 16 18 (by kernel_rfl) (by kernel_rfl) ⟨a0,R⟩ ?_;simp only [Zf,Zg,List.drop_succ_cons,List.drop_zero]
         iterate 16
          refine bI ?_ (by rfl) (λwS hwS=> ?_) ?_
          rotate_left
          ·(try dsimp only at hwS)
           go_simp
           all_goals with_reducible rfl
          simp only [Act.put,Zc,Ze,Zd]
         refine bU ?_;obtain⟨w12,b2⟩: ∃f,f=(w10.alloc (.cells #[.int .i64 (c:Int),.int .i64 t] 131)).drew:=⟨_,rfl⟩;have cd:Below w10.heap.size w10 w12:=(by rw [b2];exact((Below.refl _ w10).alloc (Zi _) _).drew);have f4:=ah cI.out cd;have f8:=ah cK.out cd;have gg:=cM.out.trans' (aa.of_size cd (λa=>a=gs));have eA:=cB.out.below cd cB.out.lt;have kK:=(eA.cell 5).trans rfl;obtain⟨hU,-⟩:=ic f4 hb.out;have fz:aH w12 (λa=>a=w10.heap.size) (.slice (some ⟨w10.heap.size,0,none⟩) 1 1) [((c:Int),t)]:=(by rw [b2];exact(aH.one (w:=w10) (e:=131) ((c:Int),t)).drew);have f0:W.heap.size<=w12.heap.size:=gg.size;have kT:w12.heap.size=w10.heap.size+1:=(by rw [b2];simp);have e9:w12.cell? ⟨w2.heap.size+1+1,5,none⟩=some (.slice (some ⟨gs,0,none⟩) m s)/\w12.cell? ⟨gs,b * 2+1,none⟩=some (.slice z u B):=⟨kK,hU⟩;have f9:=f8;rw [b2]at e9 fz f0 f9;clear kK hU cd;obtain⟨hs,hu,ev,gl,hg,m3,hv⟩:=de f4 f8 gg eA fz kT f9;clear f4 f8 gg eA fz kT f9;refine ay ?_
         go_wp2_with fail
         refine⟨e9,ay ?_⟩;clear e9
         go_wp2_with (at_builtin;refine aJ _ rfl (.tmp 112) (.tmp 116) _ rfl elemTrans W.heap.size _ u (ar (dl l (c - 1))) rfl hv.out _ _ [I64 (c:Int),I64 t] 1 rfl rfl hg.out (iH [((c:Int),t)]) (by unfold maxLen;omega) (by omega) f0 ?_)
         intro b8 ci w13 kE e4 fb;rw [<-b2]at e4;rw [<-m3.out]at fb;have nq:gs<W.heap.size:=by
          have v:gs<cz.heap.size:=co;have:=hw.out;omega
         have cu: ∀a,(Value.slice z u B).ownBlock=some a->W.heap.size<=a/\a<w12.heap.size:=λa e=>hu.out.lt a e
         have ec:aa (λa=>(Value.slice z u B).ownBlock=some a) w12 w13:=(aa.refl _ _).grown e4 (λa e _=>e);have f5:=ec.own hs.out (λa j e=>by
          simp only [Value.ownBlock,Option.some.injEq]at j
          have:=cu a e
          omega)
         have k3:aa (λa=>a=gs) W w13:=ev.out.trans ec (λa j e=>by have:=cu a e;omega);have hL:=gl.out.touch ec (λe=>by have:=cu _ e;have:=r.out.lB;omega);have n8:=(hL.cell 5).trans rfl;obtain⟨nc,oS⟩:=ic f5 hb.out;have f6:=nf f5 (j:=b * 2+1) (by
          rw [mU,List.length_set]
          have:=(List.getElem?_eq_some_iff.1 cc.out).1
          omega) (.slice b8 (u+1) ci)
         have j0:=(List.getElem?_eq_some_iff.1 cc.out).1;rw [<-qE (Z:=cO.set b (b7,.slice z u B)) (i:=b) (p:=(b7,.slice z u B)) _ (List.getElem?_set_self j0),List.set_set]at f6;have ih:(Value.slice b8 (u+1) ci).ownBlock≠some gs:=λe=>by
          rcases fb with e3|e3
          ·have:=cu _ (e3▸e);omega
          ·rw [e3]at e;injection e with e
           have:=ev.out.size;omega
         have ga:=yQ kE (p:=⟨gs,b * 2+1,none⟩) ih (.slice b8 (u+1) ci);rw [show [I64 (c:Int),I64 t]=ar [((c:Int),t)]from rfl,<-eD,<-es.out]at ga;have k4:aa (λa=>a=gs) W (w13.setCell ⟨gs,b * 2+1,none⟩ (.slice b8 (u+1) ci)):=k3.setCell (p:=⟨gs,b * 2+1,none⟩) (λ_=>rfl) _;have h7:u+1=(dl l (c+1 - 1)).length:=(by rw [es.out,List.length_append,<-md.out];rfl);clear kE e4 fb ec f5 k3 hL ih f0 b2 a0 R c0 cu hs hu ev gl hg hv cI cK cM hz cB;obtain⟨m0,m1,m6,hc⟩:=aA f6 ga k4 h7;clear f6 ga k4 h7;refine⟨⟨n8,nc⟩,cX ?_⟩
         go_wp2_with fail
         refine NoPanic.normal ?_
         go_wp2_with fail
         go_roundw
         case rel=>exact⟨c+1,b8,ci,by omega,by omega,by go_num,by rw [<-hc.out];exact m0.out,by rw [<-hc.out];exact m1.out,m6.out⟩
         case measure=>simp [intOf];omega
        ·have pe:Maps.has bx (mI b c)=false:=by
          rw [Bool.eq_false_iff];intro e;obtain⟨p2,J,v,Y⟩:=c6.1 e;rw [cH.out]at v;injection v with v
          subst v;exact c5 ⟨J,Y⟩
         have bY:dl l (c+1 - 1)=dl l (c - 1):=by
          have bb:c=(c - 1)+1:=(by omega);have:=Ep (t:=l) (m:=c - 1) (λJ h=>c5 ⟨J,by rw [<-bb]at h;exact h⟩);rw [<-bb]at this;rw [Zh];exact this
         rw [<-bY]at U I;clear c6 bc f2 c5;obtain⟨cI,cK,cM,hz,cB,es,mL⟩:=de U I a2 b5 bE bY H;clear U I a2 b5 bE bY H
         go_wp2_with (at_lookup;refine wpList_lookup_own_ok_int _ rfl _ _ 121 rfl 128 3 .i64 pairKeyed underlying121 underlying3 (zeroInt _) _ _ bx rfl b3 _ _ rfl bh ?_;intro t aT kl)
         go_roundw
         case rel=>exact⟨c+1,z,B,by omega,by omega,by go_num,cI.out,cK.out,cM.out⟩
         case measure=>simp [intOf];omega
       ·have nv: ¬(c:Int)<=(o:Int):=(by omega);have nA:c - 1=o:=(by omega);rw [nA,mx.out]at U I;have gc:=m4.out.setT cc.out l5.out (by rw [<-mg.out];exact U) (a2.mono (λa _ e=>by rw [e];rfl)) ((Rd.of_own I).mono (λa j=>by
         have v:=I.lt a j
         have Y:gs<cz.heap.size:=co
         have o2:=hw.out
         exact⟨by omega,v.2,λe=>by simp only [Value.ownBlock,Option.some.injEq]at e;omega,λe=>e⟩))
        have ka:(stD i (k.take b)).set b ((n,([]:List It)).1,l)=stD i (k.take (b+1)):=by
         have h6:(k.take b).length=b:=(by rw [List.length_take,en.out];omega);have:=Da (L:=i) (T:=k.take b) (k:=n) (by rw [h6];exact cG.out) l;rw [h6]at this;rw [List.take_add_one,cH.out];exact this.symm
        rw [ka]at gc;have k6:=ew.out.trans' a2;have j0:=(List.getElem?_eq_some_iff.1 cc.out).1;clear ka U I a2;obtain⟨m5,m8⟩:=av gc k6;clear gc k6
        go_wp2_with fail
        go_roundw
        case rel=>exact⟨b+1,_,by omega,by go_num,m5.out,m8.out,λd al ns ak=>by
         rw [List.getElem?_set_ne (by omega)]at ak
         exact mc.out d al (by omega) ak⟩
        case measure=>simp [intOf];omega
     ·have c9: ¬(b:Int)<(m:Int):=(by omega);have nM:k.take b=k:=List.take_of_length_le (by rw [en.out];omega);rw [nM]at a1;have iF:=a1.rd.mono (F':=λa=>w.heap.size<=a/\a<wr.heap.size) (λa j=>by have:=j.1;exact⟨by omega,j.2⟩);have hK:=bw.toBelow (B:=w.heap.size) (λa e=>by have Y:w6.heap.size<=gs:=bS;omega) bz.out bz.out.size;have eB:=r.out.bd.blk.touch bw (by have Y:w6.heap.size<=gs:=bS;omega);have a0:=(eB.cell 5).trans rfl;clear a1 bw dd;obtain⟨mm,ln,on⟩:=aK iF hK eB;clear iF hK eB
      go_wp2_with fail
      go_ret2
      exact⟨ln.out,.inr (.inr ⟨rfl,i,k,_,_,_,ep.out,rfl,mm.out⟩)⟩
 ·have pa:(hR !=0)=true:=by simpa using c3
  clear h8 cj;obtain⟨l4,lm⟩:=av c3 ch;clear c3 ch
  go_wp2_with fail
  go_ret2
  exact⟨lm.out,.inl ⟨l4.out,rfl⟩⟩
end Go.Proofs.YthlbjgabhpdbfaaGreat
namespace Go.Proofs.YthlbjgabhpdbfaaGreat
open Go.Proofs.Tryz
open List renaming mem_of_getElem?->Za,mem_singleton->Zb,setIfInBounds_toArray->Zc,set_cons_succ->Zd,set_cons_zero->Ze,take_succ_cons->Zf,take_zero->Zg
open Nat renaming add_sub_cancel->Zh,le_refl->Zi,zero_le->Zj
section
open Go.RowKit
attribute [local irreducible] wpStill aB aO
def bD:ac:=⟨[⟨#[65]⟩,⟨#[66]⟩],[⟨#[115]⟩],[(3,[1,3]),(3,[2])],3⟩
theorem E4 (w:World):bj ((((((w.alloc (.cells #[.string ⟨#[65]⟩,.string ⟨#[66]⟩] 9)).alloc (.cells #[.string ⟨#[115]⟩] 9)).alloc (.cells #[.int .i64 1,.int .i64 3] 3)).alloc (.cells #[.int .i64 2] 3)).alloc (.cells #[.int .i64 3,.slice (some ⟨w.heap.size+1+1,0,none⟩) 2 2,.int .i64 3,.slice (some ⟨w.heap.size+1+1+1,0,none⟩) 1 1] 98)).alloc (.cells #[.slice (some ⟨w.heap.size,0,none⟩) 2 2,.slice (some ⟨w.heap.size+1,0,none⟩) 1 1,.slice (some ⟨w.heap.size+1+1+1+1,0,none⟩) 2 2,.int .i64 3] 25)) (λi=>w.heap.size<=i/\i<w.heap.size+5) (w.heap.size+1+1+1+1+1) (some ⟨w.heap.size,0,none⟩) 2 (some ⟨w.heap.size+1,0,none⟩) 1 (some ⟨w.heap.size+1+1+1+1,0,none⟩) 2 2 1 2 3 bD/\Below w.heap.size w ((((((w.alloc (.cells #[.string ⟨#[65]⟩,.string ⟨#[66]⟩] 9)).alloc (.cells #[.string ⟨#[115]⟩] 9)).alloc (.cells #[.int .i64 1,.int .i64 3] 3)).alloc (.cells #[.int .i64 2] 3)).alloc (.cells #[.int .i64 3,.slice (some ⟨w.heap.size+1+1,0,none⟩) 2 2,.int .i64 3,.slice (some ⟨w.heap.size+1+1+1,0,none⟩) 1 1] 98)).alloc (.cells #[.slice (some ⟨w.heap.size,0,none⟩) 2 2,.slice (some ⟨w.heap.size+1,0,none⟩) 1 1,.slice (some ⟨w.heap.size+1+1+1+1,0,none⟩) 2 2,.int .i64 3] 25)):=by
 obtain⟨w1,b⟩: ∃a,a=w.alloc (.cells #[.string ⟨#[65]⟩,.string ⟨#[66]⟩] 9):=⟨_,rfl⟩;obtain⟨w2,c⟩: ∃a,a=w1.alloc (.cells #[.string ⟨#[115]⟩] 9):=⟨_,rfl⟩;obtain⟨w3,d⟩: ∃a,a=w2.alloc (.cells #[.int .i64 1,.int .i64 3] 3):=⟨_,rfl⟩;obtain⟨w4,e⟩: ∃a,a=w3.alloc (.cells #[.int .i64 2] 3):=⟨_,rfl⟩;obtain⟨w5,f⟩: ∃a,a=w4.alloc (.cells #[.int .i64 3,.slice (some ⟨w.heap.size+1+1,0,none⟩) 2 2,.int .i64 3,.slice (some ⟨w.heap.size+1+1+1,0,none⟩) 1 1] 98):=⟨_,rfl⟩;obtain⟨w6,g⟩: ∃a,a=w5.alloc (.cells #[.slice (some ⟨w.heap.size,0,none⟩) 2 2,.slice (some ⟨w.heap.size+1,0,none⟩) 1 1,.slice (some ⟨w.heap.size+1+1+1+1,0,none⟩) 2 2,.int .i64 3] 25):=⟨_,rfl⟩;rw [<-b,<-c,<-d,<-e,<-f,<-g];have K:w1.heap.size=w.heap.size+1:=by rw [b];simp
 have j:Below w.heap.size w w1:=by rw [b];exact(Below.refl _ _).alloc (Zi _) _
 have x:Blk w1 (w.heap.size) 9 #[.string ⟨#[65]⟩,.string ⟨#[66]⟩]:=by
  have h:=Blk.new w 9 #[.string ⟨#[65]⟩,.string ⟨#[66]⟩];rw [<-b]at h;exact h
 have L:w2.heap.size=w.heap.size+2:=by rw [c];simp;omega
 have k:Below w1.heap.size w1 w2:=by rw [c];exact(Below.refl _ _).alloc (Zi _) _
 have y:Blk w2 (w.heap.size+1) 9 #[.string ⟨#[115]⟩]:=by
  have h:=Blk.new w1 9 #[.string ⟨#[115]⟩];rw [<-c,K]at h;exact h
 have M:w3.heap.size=w.heap.size+3:=by rw [d];simp;omega
 have l:Below w2.heap.size w2 w3:=by rw [d];exact(Below.refl _ _).alloc (Zi _) _
 have z:Blk w3 (w.heap.size+1+1) 3 #[.int .i64 1,.int .i64 3]:=by
  have h:=Blk.new w2 3 #[.int .i64 1,.int .i64 3];rw [<-d,L]at h;exact h
 have N:w4.heap.size=w.heap.size+4:=by rw [e];simp;omega
 have m:Below w3.heap.size w3 w4:=by rw [e];exact(Below.refl _ _).alloc (Zi _) _
 have A:Blk w4 (w.heap.size+1+1+1) 3 #[.int .i64 2]:=by
  have h:=Blk.new w3 3 #[.int .i64 2];rw [<-e,M]at h;exact h
 have O:w5.heap.size=w.heap.size+5:=by rw [f];simp;omega
 have n:Below w4.heap.size w4 w5:=by rw [f];exact(Below.refl _ _).alloc (Zi _) _
 have B:Blk w5 (w.heap.size+1+1+1+1) 98 #[.int .i64 3,.slice (some ⟨w.heap.size+1+1,0,none⟩) 2 2,.int .i64 3,.slice (some ⟨w.heap.size+1+1+1,0,none⟩) 1 1]:=by
  have h:=Blk.new w4 98 #[.int .i64 3,.slice (some ⟨w.heap.size+1+1,0,none⟩) 2 2,.int .i64 3,.slice (some ⟨w.heap.size+1+1+1,0,none⟩) 1 1];rw [<-f,N]at h;exact h
 have P:w6.heap.size=w.heap.size+6:=by rw [g];simp;omega
 have o:Below w5.heap.size w5 w6:=by rw [g];exact(Below.refl _ _).alloc (Zi _) _
 have C:Blk w6 (w.heap.size+1+1+1+1+1) 25 #[.slice (some ⟨w.heap.size,0,none⟩) 2 2,.slice (some ⟨w.heap.size+1,0,none⟩) 1 1,.slice (some ⟨w.heap.size+1+1+1+1,0,none⟩) 2 2,.int .i64 3]:=by
  have h:=Blk.new w5 25 #[.slice (some ⟨w.heap.size,0,none⟩) 2 2,.slice (some ⟨w.heap.size+1,0,none⟩) 1 1,.slice (some ⟨w.heap.size+1+1+1+1,0,none⟩) 2 2,.int .i64 3];rw [<-g,O]at h;exact h
 have u:Below w6.heap.size w6 w6:=Below.refl _ _;have t:Below w5.heap.size w5 w6:=o.trans (u.mono o.size);have s:Below w4.heap.size w4 w6:=n.trans (t.mono n.size);have r:Below w3.heap.size w3 w6:=m.trans (s.mono m.size);have q:Below w2.heap.size w2 w6:=l.trans (r.mono l.size);have p:Below w1.heap.size w1 w6:=k.trans (q.mono k.size);have D:Below w.heap.size w w6:=j.trans (p.mono j.size);have E:=x.below p x.lt;have F:=y.below q y.lt;have G:=z.below r z.lt;have H:=A.below s A.lt;have I:=B.below t B.lt;have J:=C.below u C.lt;refine⟨⟨⟨?_,?_,?_,?_,?_,?_,?_,?_⟩,J,rfl,rfl,rfl,by omega,by omega,by omega,by omega,by omega,by omega,by omega,by omega,by omega⟩,D⟩
 ·exact Rd.of_blk (us:=bD.terms.map Value.string) E (by omega) rfl (by decide)
 ·exact Rd.of_blk (us:=bD.nons.map Value.string) F (by omega) rfl (by decide)
 ·refine RdR.of_blk [((3,[1,3]),.slice (some ⟨w.heap.size+1+1,0,none⟩) 2 2),((3,[2]),.slice (some ⟨w.heap.size+1+1+1,0,none⟩) 1 1)] I (by omega) ?_ (by unfold maxLen;simp);intro R v;simp only [List.mem_cons,List.not_mem_nil,or_false]at v;rcases v with rfl|rfl
  ·exact Rd.of_blk (us:=[Value.int .i64 1,Value.int .i64 3]) G (by omega) rfl (by decide)
  ·exact Rd.of_blk (us:=[Value.int .i64 2]) H (by omega) rfl (by decide)
 ·intro i Q;rw [P];omega
 ·decide
 ·exact⟨by decide,by decide⟩
 ·exact⟨by decide,by decide⟩
 ·decide
theorem tH:bf bD 3=0:=by decide+kernel
def nQ:List (List It):=[[(2,0)],[(0,1)],[(1,1)],[(2,1)],[(0,2)]]
def zz:List (List It):=[[(1,1),(2,2),(3,3)],[(1,1),(2,2),(3,4)],[],[],[]]
theorem DY (k:List It) (L:List (List It)) (r:List (List It)×List It) (a:clC bD 3 k 4=clC bD 3 k 3) (b:qV bD 3 (clC bD 3 k 3) L (ao bD)=r):dp bD 3 k L (ao bD)=r:=by
 rw [yJ (Bi a),b]
theorem CP:iR bD 3 (some (nQ,zz)):=by
 have d: ∀{c:Nat} {b f:List (List It)} (a:List It) (e:List (List It)) (g:List It),Bld bD 3 c b f->b[c]? =some a->clC bD 3 a 4=clC bD 3 a 3->qV bD 3 (clC bD 3 a 3) b (ao bD)=(e,g)->e.length<=2000->Bld bD 3 (c+1) e (f++[g]):=fun{c b f} a e g q r o p s=>by
  have h:=DY a b _ o p;have:=Bld.next c b f a q r (by rw [h];exact s);rw [h]at this;exact this
 have i:Bld bD 3 0 [[(2,0)]] []:=Bld.start;have j:=d [(2,0)] [[(2,0)],[(0,1)],[(1,1)],[(2,1)]] [(1,1),(2,2),(3,3)] i rfl (by decide+kernel) (by decide+kernel) (by decide);have k:=d [(0,1)] nQ [(1,1),(2,2),(3,4)] j rfl (by decide+kernel) (by decide+kernel) (by decide);have l:=d [(1,1)] nQ [] k rfl (by decide+kernel) (by decide+kernel) (by decide);have m:=d [(2,1)] nQ [] l rfl (by decide+kernel) (by decide+kernel) (by decide);have n:=d [(0,2)] nQ [] m rfl (by decide+kernel) (by decide+kernel) (by decide);exact iR.ok nQ zz n
end
section
open Go.RowKit
attribute [local irreducible] wpStill aB aO
def fA (G:ac) (st ck ev:Int) (D:List (List It×List It)):Prop:=
 (ck≠0/\ev=ck/\D=[])\/(ck=0/\iR G st none/\ev=7/\D=[])\/(ck=0/\ ∃L T,iR G st (some (L,T))/\ev=0/\D=stD L T)
theorem fA.unique {G:ac} {st f g i:Int} {D e:List (List It×List It)} (h:fA G st f g D) (d:fA G st f i e):g=i/\D=e:=by
 rcases h with⟨b,rfl,rfl⟩|⟨b,c,rfl,rfl⟩|⟨b,j,k,c,rfl,rfl⟩
 ·rcases d with⟨-,rfl,rfl⟩|⟨a,-⟩|⟨a,-⟩
  ·exact⟨rfl,rfl⟩
  ·exact absurd a b
  ·exact absurd a b
 ·rcases d with⟨a,-⟩|⟨-,-,rfl,rfl⟩|⟨-,j,k,a,-⟩
  ·exact absurd b a
  ·exact⟨rfl,rfl⟩
  ·have:=c.unique a;cases this
 ·rcases d with⟨a,-⟩|⟨-,a,-⟩|⟨-,n,o,a,rfl,rfl⟩
  ·exact absurd b a
  ·have:=c.unique a;cases this
  ·have:=c.unique a;injection this with this
   injection this with l m
   subst l m;exact⟨rfl,rfl⟩
theorem rI.flat {w w':World} {G:ac} {st f:Int} {e:Ending} (h:rI w G st f e w'):Below w.heap.size w w'/\ ∃b d c n j,e= .returned (.tuple #[.slice b d c,.int .i64 n])/\dG w' (λm=>w.heap.size<=m/\m<w'.heap.size) (.slice b d c) j/\fA G st f n j:=by
 obtain⟨i,⟨a,rfl⟩|⟨a,g,rfl⟩|⟨a,k,l,b,d,c,g,rfl,o⟩⟩:=h
 ·exact⟨i,none,0,0,f,[],rfl,dG.nil _ _,.inl ⟨a,rfl,rfl⟩⟩
 ·exact⟨i,none,0,0,7,[],rfl,dG.nil _ _,.inr (.inl ⟨a,g,rfl,rfl⟩)⟩
 ·exact⟨i,b,d,c,0,stD k l,rfl,o,.inr (.inr ⟨a,k,l,g,rfl,rfl⟩)⟩
end
end Go.Proofs.YthlbjgabhpdbfaaGreat

/- first.Sets in memory; first.Sets.rule. -/
import Derived.Test.YthlbjgabhpdbfaaGreatBLookPlain
set_option linter.unusedVariables false
set_option maxRecDepth 100000
set_option maxHeartbeats 4000000
namespace Go.Proofs.YthlbjgabhpdbfaaGreat
open Go.Proofs.Tryz
open Int renaming toNat_natCast->Za
open Go.RowKit
attribute [local irreducible] wpStill aB aO
structure FD:Type where
 (s T p n pe:Nat)
 Se:Nat->Prop
 (gb cb:Nat)
 psb:Nat->Nat
 fb:Nat->Nat->Prop
 (gh ch:Nat)
 psh:Nat->Nat
 fh:Nat->Nat->Prop
 (z0 z1 z2 z3:Nat)
structure aL (w:World) (q:FD) (e:Nat->Bool) (bg bh:Nat->Nat->Bool):Prop where
 blk:Blk w q.s 320 #[.int .i64 q.T,.int .i64 q.p,aq q.pe,.slice (some ⟨q.gb,0,none⟩) q.n q.cb,.slice (some ⟨q.gh,0,none⟩) q.n q.ch]
 em:aG w q.pe q.Se q.n e
 bgn:Fam w q.gb q.n (q.T+1) q.psb q.fb bg
 bhd:Fam w q.gh q.n (q.T+1) q.psh q.fh bh
 np:q.n=q.p+1
 cap:(q.n<=q.cb/\q.cb<=9223372036854775807)/\q.n<=q.ch/\q.ch<=9223372036854775807
 sz:q.n<=4096/\q.T<q.n
 zs: ∀k,q.Se k->q.z0<=k/\k<q.z1
 zb:(q.z1<=q.gb/\q.gb<q.z2)/\ ∀i k,i<q.n->q.fb i k->q.z1<=k/\k<q.z2
 zh:(q.z2<=q.gh/\q.gh<q.z3)/\ ∀i k,i<q.n->q.fh i k->q.z2<=k/\k<q.z3
 z:q.z0<=q.z1/\q.z1<=q.z2/\q.z2<=q.z3/\q.z3<=q.s
section
variable {w w' : World} {q : FD} {e e' : Nat -> Bool} {bg bh : Nat -> Nat -> Bool} {S : Nat -> Prop}
theorem aL.touch (h:aL w q e bg bh) (d:aa S w w') (g: ∀a,S a->a<q.z0\/q.s<a):aL w' q e bg bh:=by
 obtain⟨k,l,m,n⟩:=h.z;have c: ∀a,q.z0<=a->a<=q.s-> ¬S a:=λa i j b=>by have:=g a b;omega
 refine⟨h.blk.touch d (c _ (by omega) (Nat.le_refl _)),h.em.touch d λa b=> ?_,h.bgn.touch d (c _ ?_ ?_) λf hi a b=> ?_,h.bhd.touch d (c _ ?_ ?_) λf hi a b=> ?_,h.np,h.cap,h.sz,h.zs,h.zb,h.zh,h.z⟩
 ·have:=h.zs a b;exact c a (by omega) (by omega)
 ·have:=h.zb.1;omega
 ·have:=h.zb.1;omega
 ·have:=h.zb.2 f a hi b;exact c a (by omega) (by omega)
 ·have:=h.zh.1;omega
 ·have:=h.zh.1;omega
 ·have:=h.zh.2 f a hi b;exact c a (by omega) (by omega)
theorem aL.below (h:aL w q e bg bh) (a:Below w.heap.size w w'):aL w' q e bg bh:=h.touch (aa.of_size a (λ_=>False)) λ_ h=>h.elim
theorem aL.putE (h:aL w q e bg bh) (g:aG w' q.pe q.Se q.n e') (d:aa q.Se w w'):aL w' q e' bg bh:=by
 obtain⟨j,k,l,m⟩:=h.z;have b: ∀a,q.z1<=a-> ¬q.Se a:=λa i c=>by have:=h.zs a c;omega
 exact⟨h.blk.touch d (b _ (by omega)),g,h.bgn.touch d (b _ h.zb.1.1) (λf hi a c=>b a (h.zb.2 f a hi c).1),h.bhd.touch d (b _ (by have:=h.zh.1.1;omega)) (λf hi a c=>b a (by have:=(h.zh.2 f a hi c).1;omega)),h.np,h.cap,h.sz,h.zs,h.zb,h.zh,h.z⟩
theorem aL.putB (h:aL w q e bg bh) {i:Nat} (hi:i<q.n) {f:Nat->Bool} (j:aG w' (q.psb i) (q.fb i) (q.T+1) f) (d:aa (q.fb i) w w'):aL w' q e (bv bg i f) bh:=by
 obtain⟨m,n,o,p⟩:=h.z;have c: ∀a,a<q.z1\/q.z2<=a-> ¬q.fb i a:=λa l b=>by have:=h.zb.2 i a hi b;omega
 exact⟨h.blk.touch d (c _ (by omega)),h.em.touch d (λa b=>c a (by have:=h.zs a b;omega)),h.bgn.put hi j d,h.bhd.touch d (c _ (by have:=h.zh.1.1;omega)) (λk g a b=>c a (by have:=(h.zh.2 k a g b).1;omega)),h.np,h.cap,h.sz,h.zs,h.zb,h.zh,h.z⟩
theorem aL.putH (h:aL w q e bg bh) {i:Nat} (hi:i<q.n) {f:Nat->Bool} (j:aG w' (q.psh i) (q.fh i) (q.T+1) f) (d:aa (q.fh i) w w'):aL w' q e bg (bv bh i f):=by
 obtain⟨m,n,o,p⟩:=h.z;have c: ∀a,a<q.z2\/q.z3<=a-> ¬q.fh i a:=λa l b=>by have:=h.zh.2 i a hi b;omega
 exact⟨h.blk.touch d (c _ (by omega)),h.em.touch d (λa b=>c a (by have:=h.zs a b;omega)),h.bgn.touch d (c _ (by have:=h.zb.1;omega)) (λk g a b=>c a (by have:=(h.zb.2 k a g b);omega)),h.bhd.put hi j d,h.np,h.cap,h.sz,h.zs,h.zb,h.zh,h.z⟩
theorem aL.cells (h:aL w q e bg bh):w.cell? ⟨q.s,0,none⟩=some (.int .i64 q.T)/\w.cell? ⟨q.s,1,none⟩=some (.int .i64 q.p)/\w.cell? ⟨q.s,2,none⟩=some (aq q.pe)/\w.cell? ⟨q.s,3,none⟩=some (.slice (some ⟨q.gb,0,none⟩) q.n q.cb)/\w.cell? ⟨q.s,4,none⟩=some (.slice (some ⟨q.gh,0,none⟩) q.n q.ch):=
 ⟨(h.blk.cell 0).trans rfl,(h.blk.cell 1).trans rfl,(h.blk.cell 2).trans rfl,(h.blk.cell 3).trans rfl,(h.blk.cell 4).trans rfl⟩
theorem aL.hiB (h:aL w q e bg bh): ∀a b,a<q.n->q.T+1<=b->bg a b=false:=λa b hi c=>(h.bgn.set a hi).high b c
theorem aL.hiH (h:aL w q e bg bh): ∀a b,a<q.n->q.T+1<=b->bh a b=false:=λa b hi c=>(h.bhd.set a hi).high b c
end
theorem aL.extB {w:World} {q:FD} {e:Nat->Bool} {bg b bh:Nat->Nat->Bool} (h:aL w q e bg bh) (c: ∀a,a<q.n->b a=bg a):aL w q e b bh:=⟨h.blk,h.em,h.bgn.ext c,h.bhd,h.np,h.cap,h.sz,h.zs,h.zb,h.zh,h.z⟩
theorem aL.extH {w:World} {q:FD} {e:Nat->Bool} {bg bh b:Nat->Nat->Bool} (h:aL w q e bg bh) (c: ∀a,a<q.n->b a=bh a):aL w q e bg b:=⟨h.blk,h.em,h.bgn,h.bhd.ext c,h.np,h.cap,h.sz,h.zs,h.zb,h.zh,h.z⟩
theorem aL.relB (q:FD) (e:Nat->Bool) (bg bh:Nat->Nat->Bool) {i:Nat} (hi:i<q.n) (m: ∃w a,aL w q e a bh):lp (λw a=>aL w q e (bv bg i a) bh) q.s q.T q.p q.pe q.gb q.cb q.n (q.T+1) (q.psb i) q.Se (q.fb i) e q.psb (λb a=>bv bg i a b):=by
 obtain⟨w0,n,d⟩:=m;refine⟨λh=>by have:=h.bgn.set i hi;rwa [bm]at this,λh=>⟨h.cells.1,h.cells.2.1,h.cells.2.2.1,h.cells.2.2.2.1⟩,λh=>h.em,λh b g=>⟨h.bgn.cell b g,_,h.bgn.set b g⟩,fun{w w' a f} h k l=> ?_,d.np,d.cap.1.1,d.cap.1.2,d.sz.1⟩;have:=h.putB hi k l;have j:bv (bv bg i a) i f=bv bg i f:=by
  funext b;by_cases c:b=i
  ·subst c;rw [bm,bm]
  ·rw [cD c,cD c,cD c]
 rwa [j]at this
theorem yL (n:Nat) (bg:Nat->Nat->Bool) (i:Nat): ∀a,a<n->(∀b,bv bg i b a=bg a)\/((∀b,bv bg i b a=b)/\bg a=bg i):=λa _=>by
 by_cases e:a=i
 ·subst e;exact .inr ⟨λb=>bm _ _ _,rfl⟩
 ·exact .inl λb=>cD e
theorem aL.relH (q:FD) (e:Nat->Bool) (bg bh:Nat->Nat->Bool) {i:Nat} (hi:i<q.n) (m: ∃w a,aL w q e bg a):lp (λw a=>aL w q e bg (bv bh i a)) q.s q.T q.p q.pe q.gb q.cb q.n (q.T+1) (q.psh i) q.Se (q.fh i) e q.psb (λb a=>bg b):=by
 obtain⟨w0,n,d⟩:=m;refine⟨λh=>by have:=h.bhd.set i hi;rwa [bm]at this,λh=>⟨h.cells.1,h.cells.2.1,h.cells.2.2.1,h.cells.2.2.2.1⟩,λh=>h.em,λh b g=>⟨h.bgn.cell b g,_,h.bgn.set b g⟩,fun{w w' a f} h k l=> ?_,d.np,d.cap.1.1,d.cap.1.2,d.sz.1⟩;have:=h.putH hi k l;have j:bv (bv bh i a) i f=bv bh i f:=by
  funext b;by_cases c:b=i
  ·subst c;rw [bm,bm]
  ·rw [cD c,cD c,cD c]
 rwa [j]at this
theorem aL.relN (q:FD) (e:Nat->Bool) (bg bh:Nat->Nat->Bool) {b:Nat} {S:Nat->Prop} (i: ∀d,S d->q.s<d) (m: ∃w,aL w q e bg bh):lp (λw f=>aL w q e bg bh/\aG w b S (q.T+1) f) q.s q.T q.p q.pe q.gb q.cb q.n (q.T+1) b q.Se S e q.psb (λc f=>bg c):=by
 obtain⟨w0,a⟩:=m;exact⟨λh=>h.2,λh=>⟨h.1.cells.1,h.1.cells.2.1,h.1.cells.2.2.1,h.1.cells.2.2.2.1⟩,λh=>h.1.em,λh c g=>⟨h.1.bgn.cell c g,_,h.1.bgn.set c g⟩,λh k l=>⟨h.1.touch l (λd j=> .inr (i d j)),k⟩,a.np,a.cap.1.1,a.cap.1.2,a.sz.1⟩
theorem wj (n:Nat) (bg:Nat->Nat->Bool) (f0:Nat->Bool): ∀j,j<n->(∀f:Nat->Bool,(λ(j:Nat) (f:Nat->Bool)=>bg j) j f=bg j)\/((∀f:Nat->Bool,(λ(j:Nat) (f:Nat->Bool)=>bg j) j f=f)/\bg j=f0):=λ_ _=> .inl λ_=>rfl
def El (w:World) (q:FD) (e:Nat->Bool) (bg bh:Nat->Nat->Bool) (l:Int) (xs:List Int) (ee:Ending) (w':World):Prop:=
 ∃bh' m,ee= .returned (.bool m)/\aL w' q e bg bh'/\gy q.T q.p q.n (q.T+1) (aF q.n e) (aV q.n bg) bh l xs xs.length bh' m/\aa (λk=>q.z2<=k/\k<q.z3) w w'
theorem sW {w:World} {q:FD} {e:Nat->Bool} {bg bh:Nat->Nat->Bool} (h:aL w q e bg bh) {F:Nat->Prop} {v:Value} {l:Int} {xs:List Int} (bd:RdI w F v xs) (b0: ∀a,F a->a<q.z0\/(q.s<a/\a<w.heap.size)) (cm:0<=l/\l<q.n):
  Calls prog 253 #[aq q.s,.agg #[.int .i64 l,v]] w (El w q e bg bh l xs):=by
 obtain⟨o,rfl⟩:=Int.eq_ofNat_of_zero_le cm.1;have ak:o<q.n:=by omega
 have cR:(o:Int)<(q.n:Int):=by omega
 clear cm;obtain⟨bA,m,a9,rfl,-⟩:=id bd;obtain⟨cn,cS,cE,cj⟩:=RdI.at_ bd;unfold maxLen at cE;obtain⟨w1,bw⟩: ∃w1,w1=w.alloc (.cells #[.int .i64 (o:Int),.slice bA m a9] 98):=⟨_,rfl⟩;have bs:Below w.heap.size w w1:=by rw [bw];exact(Below.refl _ w).alloc (Nat.le_refl _) _
 have b5:Blk w1 w.heap.size 98 #[.int .i64 (o:Int),.slice bA m a9]:=by rw [bw];exact Blk.new _ _ _
 have cf:=h.below bs;have cp:=h.blk.lt;have cl:RdI w1 F (.slice bA m a9) xs:=bd.below bs (λa T=>by have:=b0 a T;have:=h.z;omega);obtain⟨cr,cs,ct,cu⟩:=h.z;have cB:=(b5.cell 1).trans rfl;rw [bw]at cB;obtain⟨ca,cM,b9,a6,cw,cy,b8,cb,cc,cd,O,ad⟩:=gx cn bd b0 b5 cf cl bs cr cs ct cu cp;clear cn bd b0 b5 cf cl bs cr cs ct cu cp;clear h
 go_enter func253,ntmps253
 go_wp2_with fail
 rw [<-bw]
 go_loopw [5,13] (λcK c wr=> ∃(a:Nat) (i:Nat->Nat->Bool) (z:Bool),a<=m/\c= .int .i64 a/\cK= .bool z/\aL wr q e bg i/\gy q.T q.p q.n (q.T+1) (aF q.n e) (aV q.n bg) bh (o:Int) xs a i z/\aa (λa=>q.z2<=a/\a<q.z3) w1 wr) (λ_ c _=>m - (intOf c).toNat)
 case atStart=>exact⟨0,bh,false,Nat.zero_le _,rfl,rfl,cw.out,gy.zero _ _ _ _ _ _ _ _ _,aa.refl _ _⟩
 case round=>
  obtain⟨a,i,z,T,rfl,rfl,ai,u,y⟩:=hrel;by_cases cH:a<m
  ·have cI:(a:Int)<(m:Int):=by omega
   obtain⟨bt,b7,rfl,cg,ci⟩:=cj (by omega);obtain⟨an,b4⟩: ∃an,xs[a]? =some an:=⟨_,List.getElem?_eq_getElem (by rw [<-ca.out];exact cH)⟩;have bY: ∀b,F b-> ¬(q.z2<=b/\b<q.z3):=λb f=>by have:=b9.out b f;have:=cb.out;have:=cc.out;have:=cd.out;have:=O.out;omega
   have cC:=y.cell ((b8.out.cell (p:=⟨bt,b7+a,none⟩) (by have:=b9.out _ cg;have:=cb.out;have:=cc.out;have:=cd.out;have:=O.out;have:=ad.out;show bt<_;omega)).trans (ci a an b4)) (bY _ cg);obtain⟨s0,s1,bx,bz,J⟩:=ai.cells;clear cj ci;obtain⟨a5,bC,bO,bB⟩:=aA b4 ai y bY;clear b4 ai y bY
   go_wp2_with fail
   refine(BF q.T q.p an wr).mono ?_;rintro bu w2 ⟨rfl,a8⟩;have g:=bC.out.below a8;have I:=bO.out.trans' ((aa.of_size a8 (λ_=>False)).mono λ_ _ h=>h.elim);clear s0 s1 bx bz J cC bC bO;cases x:mK q.T q.p an with
   |false=>
    have co:=u.skip a5.out x;unfold mK at x;rw [x];clear a8;obtain⟨M,cA,aT,a4,Z⟩:=aX u co g I x;clear u co g I x
    go_wp2_with fail
    go_roundw
    case rel=>exact⟨a+1,i,z,by omega,by go_num,rfl,aT.out,cA.out,a4.out⟩
    case measure=>simp [intOf];omega
   |true=>
    have b2:=x;unfold mK at b2;rw [b2];simp only [Bool.and_eq_true,decide_eq_true_eq]at b2;obtain⟨c,rfl⟩:=Int.eq_ofNat_of_zero_le (show 0<=an by omega);have hi:c<q.n:=(by have:=g.np;omega);have cP:(c:Int)<(q.n:Int):=(by omega);obtain⟨s0,s1,bx,bz,J⟩:=g.cells;have al:=g.bhd.cell c hi;have ch:=((a6.out.touch I (λT=>by have:=O.out;have:=ad.out;omega)).cell 1).trans rfl;obtain⟨c1,c2⟩:=g.cap.2;have cT:(a:Int)+1<=(m:Int):=(by omega);have c0:IntKind.i64.wrap ((a:Int)+1)=(a:Int)+1:=(by rw [IntKind.wrap_i64];omega);have cU:((a:Int)+1).toNat=a+1:=(by omega);have cO:(0:Int)<=(a:Int)+1:=(by omega);have H:=RdI.tail (Rd.touch cy.out I bB.out) (k:=a+1) (by omega);by_cases ck:a9=a+1
    ·subst ck;rw [if_pos rfl,Nat.sub_self,show m - (a+1)=0 by omega]at H;have p:=jw (aL.relH q e bg i hi ⟨_,_,g⟩) (wj q.n bg (i c)) (w:=w2.drew) (f0:=i c) (by rw [j3 rfl];exact g.below ((Below.refl _ w2).drew)) H (λb f s=>by have:=g.zh.2 c b hi s;exact bB.out b f this);obtain⟨k,s⟩: ∃k,k=bM (i c) (aF q.n e) (aV q.n bg) (xs.drop (a+1)):=⟨_,rfl⟩;obtain⟨W,U⟩: ∃W,W=aE (q.T+1) (i c) k:=⟨_,rfl⟩;obtain⟨P,R⟩: ∃P,P=(xs.drop (a+1)).all (aF q.n e):=⟨_,rfl⟩;rw [<-s,<-R]at p;unfold fC at p;rw [<-U]at p;have bp: ∀b,q.fh c b->q.z2<=b/\b<q.z3:=λb f=>g.zh.2 c b hi f
     clear a8;obtain⟨M,aT,a4,Z,bG,ap,a2,a3,a1,bS⟩:=fp u g I x H p s U R bp;clear u g I x H p s U R bp
     go_wp2_with fail
     go_region_held3 (λw'=>w'.cell? ⟨q.s,4,none⟩=some (.slice (some ⟨q.gh,0,none⟩) q.n q.ch)/\w'.cell? ⟨q.gh,c,none⟩=some (aq (q.psh c))/\w'.cell? ⟨w.heap.size,1,none⟩=some (.slice (some ⟨bt,b7,none⟩) m (a+1)))
      (first|assumption|go_keep)
      (first|(go_at_call 252;(with_reducible refine ap.out.mono ?_);rintro bu w3 ⟨rfl,ba,bo⟩;have d:=id ba;have j:=a4.out.trans (aa.trans' ((aa.refl _ w2).drew) bo) (λb _ f=>bS.out b f);have r:=((a6.out.touch j (λT=>by have:=O.out;have:=ad.out;omega)).cell 1).trans rfl;have b6:=And.intro d.cells.2.2.2.2 (And.intro (d.bhd.cell c hi) r)))
     clear s0 s1 bx bz J al ch b6 r ba bo ap bG;have r:=a6.out.touch j (λT=>by have:=O.out;have:=ad.out;omega);have bc:=(r.cell 0).trans rfl;have be:q.p<q.n:=(by have:=d.np;omega);have E:=aT.out.hiH;have D: ∀n,q.T+1<=n->db (aF q.n e) (aV q.n bg) (xs.drop (a+1)) n=false:=λn y=>oK d.hiB y
     clear r;cases P with
     |false=>
      have t:=M.out.part a5.out Z.out be E D a1.out.symm;rw [Za,<-a2.out,<-a3.out]at t;clear E D bc;cases z with
      |true=>
       obtain⟨L,K,N⟩:=aK t d j;clear t d j
       go_wp2_with fail
       go_roundw
       case rel=>exact⟨a+1,_,true,by omega,by go_num,rfl,K.out,L.out,N.out⟩
       case measure=>simp [intOf];omega
      |false=>
       obtain⟨L,K,N⟩:=aK t d j;clear t d j
       go_wp2_with fail
       go_roundw
       case rel=>exact⟨a+1,_,W,by omega,by go_num,rfl,K.out,L.out,N.out⟩
       case measure=>simp [intOf];omega
     |true=>
      obtain⟨A,C⟩: ∃A,A=λn=>k n||bv i c k o n:=⟨_,rfl⟩
      obtain⟨X,G⟩: ∃X,X=aE (q.T+1) k A:=⟨_,rfl⟩;have V:=M.out.whole (f:=k) (f2:=A) a5.out Z.out be E D a1.out.symm (by rw [Za];exact ak) (by rw [Za];exact a2.out) (by rw [Za,Za];exact C);rw [Za,<-G,<-a3.out]at V;clear E D;have B:=d.below ((Below.refl _ w3).drew);have Q:=nd (B.bhd.set c hi) (B.bhd.set o ak);rw [bm,<-C,<-G]at Q;have J:=d.cells.2.2.2.2;have al:=d.bhd.cell c hi;have b3:=d.bhd.cell o ak;have bq:=j.trans' ((aa.refl _ w3).drew);have br: ∀b,q.fh c b->q.z2<=b/\b<q.z3:=λb f=>d.zh.2 c b hi f
      cases X
      all_goals
       cases z
       all_goals
        obtain⟨bR,a7,aS,a0,bW,cx,cz⟩:=de V bq Q B br C G;clear V bq Q B br C G;clear d j
        go_wp2_with fail
        refine bX 15 (by kernel_rfl) (by kernel_rfl) ?_;simp only [List.take_succ_cons,List.take_zero,List.drop_succ_cons,List.drop_zero]
        repeat still_step
        refine wpStill_nil ?_
        go_wp2_with fail
        with_reducible refine aS.out.mono ?_
        rintro bu w4 ⟨rfl,bi,Y⟩;have bb:=a0.out.putH hi bi Y;have bl:=a7.out.trans Y (λb _ f=>bW.out b f);clear J al b3 bc bi Y aS a0 a7;obtain⟨bE,bP⟩:=av bb bl;clear bb bl
        go_wp2_with fail
        go_roundw
        case rel=>exact⟨a+1,_,_,by omega,by go_num,rfl,bE.out,bR.out,bP.out⟩
        case measure=>simp [intOf];omega
    ·rw [if_neg ck]at H;have p:=jw (aL.relH q e bg i hi ⟨_,_,g⟩) (wj q.n bg (i c)) (w:=w2.drew) (f0:=i c) (by rw [j3 rfl];exact g.below ((Below.refl _ w2).drew)) H (λb f s=>by have:=g.zh.2 c b hi s;exact bB.out b f this);obtain⟨k,s⟩: ∃k,k=bM (i c) (aF q.n e) (aV q.n bg) (xs.drop (a+1)):=⟨_,rfl⟩;obtain⟨W,U⟩: ∃W,W=aE (q.T+1) (i c) k:=⟨_,rfl⟩;obtain⟨P,R⟩: ∃P,P=(xs.drop (a+1)).all (aF q.n e):=⟨_,rfl⟩;rw [<-s,<-R]at p;unfold fC at p;rw [<-U]at p;have bp: ∀b,q.fh c b->q.z2<=b/\b<q.z3:=λb f=>g.zh.2 c b hi f
     clear a8;obtain⟨M,aT,a4,Z,bG,ap,a2,a3,a1,bS⟩:=fp u g I x H p s U R bp;clear u g I x H p s U R bp
     go_wp2_with fail
     go_region_held3 (λw'=>w'.cell? ⟨q.s,4,none⟩=some (.slice (some ⟨q.gh,0,none⟩) q.n q.ch)/\w'.cell? ⟨q.gh,c,none⟩=some (aq (q.psh c))/\w'.cell? ⟨w.heap.size,1,none⟩=some (.slice (some ⟨bt,b7,none⟩) m a9))
      (first|assumption|go_keep)
      (first|(go_at_call 252;(with_reducible refine ap.out.mono ?_);rintro bu w3 ⟨rfl,ba,bo⟩;have d:=id ba;have j:=a4.out.trans (aa.trans' ((aa.refl _ w2).drew) bo) (λb _ f=>bS.out b f);have r:=((a6.out.touch j (λT=>by have:=O.out;have:=ad.out;omega)).cell 1).trans rfl;have b6:=And.intro d.cells.2.2.2.2 (And.intro (d.bhd.cell c hi) r)))
     clear s0 s1 bx bz J al ch b6 r ba bo ap bG;have r:=a6.out.touch j (λT=>by have:=O.out;have:=ad.out;omega);have bc:=(r.cell 0).trans rfl;have be:q.p<q.n:=(by have:=d.np;omega);have E:=aT.out.hiH;have D: ∀n,q.T+1<=n->db (aF q.n e) (aV q.n bg) (xs.drop (a+1)) n=false:=λn y=>oK d.hiB y
     clear r;cases P with
     |false=>
      have t:=M.out.part a5.out Z.out be E D a1.out.symm;rw [Za,<-a2.out,<-a3.out]at t;clear E D bc;cases z with
      |true=>
       obtain⟨L,K,N⟩:=aK t d j;clear t d j
       go_wp2_with fail
       go_roundw
       case rel=>exact⟨a+1,_,true,by omega,by go_num,rfl,K.out,L.out,N.out⟩
       case measure=>simp [intOf];omega
      |false=>
       obtain⟨L,K,N⟩:=aK t d j;clear t d j
       go_wp2_with fail
       go_roundw
       case rel=>exact⟨a+1,_,W,by omega,by go_num,rfl,K.out,L.out,N.out⟩
       case measure=>simp [intOf];omega
     |true=>
      obtain⟨A,C⟩: ∃A,A=λn=>k n||bv i c k o n:=⟨_,rfl⟩
      obtain⟨X,G⟩: ∃X,X=aE (q.T+1) k A:=⟨_,rfl⟩;have V:=M.out.whole (f:=k) (f2:=A) a5.out Z.out be E D a1.out.symm (by rw [Za];exact ak) (by rw [Za];exact a2.out) (by rw [Za,Za];exact C);rw [Za,<-G,<-a3.out]at V;clear E D;have B:=d.below ((Below.refl _ w3).drew);have Q:=nd (B.bhd.set c hi) (B.bhd.set o ak);rw [bm,<-C,<-G]at Q;have J:=d.cells.2.2.2.2;have al:=d.bhd.cell c hi;have b3:=d.bhd.cell o ak;have bq:=j.trans' ((aa.refl _ w3).drew);have br: ∀b,q.fh c b->q.z2<=b/\b<q.z3:=λb f=>d.zh.2 c b hi f
      cases X
      all_goals
       cases z
       all_goals
        obtain⟨bR,a7,aS,a0,bW,cx,cz⟩:=de V bq Q B br C G;clear V bq Q B br C G;clear d j
        go_wp2_with fail
        refine bX 15 (by kernel_rfl) (by kernel_rfl) ?_;simp only [List.take_succ_cons,List.take_zero,List.drop_succ_cons,List.drop_zero]
        repeat still_step
        refine wpStill_nil ?_
        go_wp2_with fail
        with_reducible refine aS.out.mono ?_
        rintro bu w4 ⟨rfl,bi,Y⟩;have bb:=a0.out.putH hi bi Y;have bl:=a7.out.trans Y (λb _ f=>bW.out b f);clear J al b3 bc bi Y aS a0 a7;obtain⟨bE,bP⟩:=av bb bl;clear bb bl
        go_wp2_with fail
        go_roundw
        case rel=>exact⟨a+1,_,_,by omega,by go_num,rfl,bE.out,bR.out,bP.out⟩
        case measure=>simp [intOf];omega
  ·have cG:a=m:=by omega
   have cI: ¬(a:Int)<(m:Int):=by omega
   have b1:a=xs.length:=by have:=ca.out;omega
   rw [b1]at u;have ce:El w q e bg bh (o:Int) xs (.returned (.bool z)) wr:=⟨i,z,rfl,ai,u,(aa.of_size b8.out _).trans' y⟩;obtain⟨cv,bC,M,bO,cN⟩:=aX ce ai u y b1;clear ce ai u y b1;clear cG
   go_wp2_with fail
   go_ret
   exact cv.out
end Go.Proofs.YthlbjgabhpdbfaaGreat

/- Lookaheads: what is prepared. -/
import Derived.Test.YthlbjgabhpdbfaaGreatBLook9
import Derived.Deep.CutRange
set_option linter.unusedVariables false
set_option linter.unusedSimpArgs false
set_option maxRecDepth 100000
set_option maxHeartbeats 16000000
namespace Go.Proofs.YthlbjgabhpdbfaaGreat
open Go.Proofs.Tryz
open List renaming drop_succ_cons->Za,drop_zero->Zb,mem_singleton->Zc,setIfInBounds_toArray->Zd,set_cons_succ->Ze,set_cons_zero->Zf,take_succ_cons->Zg,take_zero->Zh
open Nat renaming le_refl->Zi,le_trans->Zj,lt_of_lt_of_le->Zk,zero_le->Zl
open Go.RowKit Go.Maps
attribute [local irreducible] wpStill aB aO
def JQ (j:Nat):Prop:=j=0\/j=3\/j=4\/j=5\/j=6
def CX (V:World) (q:LQ) (d:LD) (y:Dy) (e:Ending) (V':World):Prop:=e= .returned (.tuple #[])/\ ∃q' cm,MK V' q' (jf d cm) y/\q'.M=q.M/\StL JQ V q.ow V' q'.ow/\ ∀s:Int,am d.G s=true->gP d.G d.st s (cm s.toNat)
def JP (j:Nat):Prop:=j=0\/j=3\/j=4\/j=5
theorem ER {d:LD} (a:d.rs=[]) (b:d.tl=[]):({d with nu:=ao d.G+1,ru:=λc=>d8 d.G.rules c (min 0 d.G.rules.length)}:LD)=dK d 0:=by
 cases d;simp only at a b;subst a b;rfl
theorem ja.mono {V:World} {F F':Nat->Prop} {m:Nat} {z:Value} {l:List Tl} (h:ja V F m z l) (b: ∀a,F a->F' a):ja V F' m z l:=by
 obtain⟨k,c,d,e⟩:=h;exact⟨k,c,d.mono b,λi j n f g=>(e i j n f g).mono b⟩
theorem jA.mono {V:World} {F F':Nat->Prop} {m:Nat} {z:Value} {l:List Co} (h:jA V F m z l) (b: ∀a,F a->F' a):jA V F' m z l:=by
 obtain⟨k,c,d,e⟩:=h;exact⟨k,c,d.mono b,λi j n f g=>(e i j n f g).mono b⟩
theorem j7 {X:Type} {l:List X} {k:Nat} {x:X} (h:l[k]? =some x):l.take k++[x]=l.take (k+1):=by rw [List.take_add_one,h];rfl
theorem StL.how {a:Nat->Prop} {V b:World} {c e d:Nat->Nat} (s:StL a V c b d) (h:c=e):StL a V e b d:=h▸s
noncomputable def dU (d:LD) (k:Nat):LD:={dK d k with rs:=rsK d.G d.st (k+1),ru:=λs=>d8 d.G.rules s (min (k+1) d.G.rules.length)}
theorem FR {d:LD} {k:Nat} (h:d.G.rules.length<=k):({dK d k with rs:=rsK d.G d.st (k+1)}:LD)=dU d k:=by
 unfold dU dK;rw [show min (k+1) d.G.rules.length=min k d.G.rules.length by omega]
theorem Fr {d:LD} {k:Nat} {l:Nat} {x:List Int} (h:d.G.rules[k]? =some ((l:Int),x)):({({dK d k with rs:=rsK d.G d.st (k+1)}:LD)with nu:=ao d.G+1,ru:=upd (dK d k).ru l ((dK d k).ru l++[(k:Int)])}:LD)=dU d k:=by
 have a:=(List.getElem?_eq_some_iff.1 h).1;unfold dU dK;rw [show min (k+1) d.G.rules.length=k+1 by omega,show min k d.G.rules.length=k by omega,Dd h]
theorem Fs (d:LD) (cm:Nat->List Co):({dK d (d.G.rules.length+1)with nc:=ao d.G+1,cm:=cm}:LD)=jf d cm:=by
 unfold dK jf;simp only;rw [show min (d.G.rules.length+1) d.G.rules.length=d.G.rules.length by omega];rfl
def D4 (V:World) (ow:Nat->Nat) (d:LD) (y:Dy) (k M X:Nat) (T:TypeId) (l:Int) (vz:Value) (xs:List Int) (wx:World):Prop:= ∃q7:LQ,MK wx q7 (dU d k) y/\q7.M=M/\Blk wx X T #[.int .i64 l,vz]/\q7.ow X=2/\RdI wx (TF wx q7.ow (λt=>t=1\/t=2)) vz xs/\StL JP V ow wx q7.ow
theorem Fd (f:Nat->List Int) (i:Nat) (k:Int):upd (λa=>(f a).map (Value.int .i64)) i ((f i).map (Value.int .i64)++[.int .i64 k])=λa=>(upd f i (f i++[k]) a).map (Value.int .i64):=by
 funext a
 by_cases e:a=i
 ·subst e;rw [aC,aC,List.map_append];rfl
 ·rw [aN e,aN e]
theorem MK.rowK {V:World} {q:LQ} {d:LD} {y:Dy} {k:Nat} {rs:List (List Int)} (h:MK V q {dK d k with rs:=rs} y) {a:Nat} (p:a<=ao d.G): ∃f i c b g,q.vu= .slice (some ⟨f,0,none⟩) (ao d.G+1) (ao d.G+1)/\Rows V q.ow 5 3 1 f (ao d.G+1) i (λr=>((dK d k).ru r).map (Value.int .i64))/\i a= .slice c b g/\V.cell? ⟨f,a,none⟩=some (.slice c b g)/\Row V q.ow 5 3 1 c b g (((dK d k).ru a).map (Value.int .i64))/\b<=d.G.rules.length:=by
 rcases h.u with⟨-,e⟩|⟨f,i,e,l⟩
 ·exact absurd e (Nat.succ_ne_zero _)
 ·obtain⟨c,b,g,m,n,o,j⟩:=l.at_ (k:=a) (Nat.lt_succ_of_le p) (by decide);refine⟨f,i,c,b,g,e,l,m,n,o,?_⟩;have j:(((dK d k).ru a).map (Value.int .i64)).length=b * 1:=j;rw [List.length_map,Nat.mul_one]at j;have:((dK d k).ru a).length<=d.G.rules.length:=by
   show(d8 d.G.rules a (min k d.G.rules.length)).length<=_;exact Zj sN (Nat.min_le_right _ _)
  omega
theorem xM {V:World} {q:LQ} {d:LD} {y:Dy} (h:MK V q d y) (kx:d.rs=[]) (bt:d.tl=[]) (f4:bf d.G d.st=0):
  Calls prog 195 #[aq q.M] V (CX V q d y):=by
 have cd:=KnA.of_check f4;obtain⟨c,d4⟩: ∃a,a=q.M:=⟨_,rfl⟩;obtain⟨L,hT⟩: ∃a,a=d.G.terms.length:=⟨_,rfl⟩;obtain⟨n2,f0⟩: ∃a,a=d.G.nons.length:=⟨_,rfl⟩;obtain⟨P,d6⟩: ∃a,a=d.G.rules.length:=⟨_,rfl⟩;obtain⟨g,gd⟩: ∃a,a=ao d.G:=⟨_,rfl⟩;have oP:g<=240:=by have:=cd.t;have:=cd.n;rw [gd];unfold ao;omega
 have on:P<=300:=by rw [d6];exact cd.r
 have nl:L<=120:=by rw [hT];exact cd.t
 obtain⟨bd,bo,be,bp,bg,bq,z,B,A,C,l⟩:=h.gc (G:=d.G) (st:=d.st) (M:=c) rfl rfl hT f0 d6 d4.symm;have h2:=DP l d.st;rw [<-d4];obtain⟨mb,mu,c9,hx,hs,ht,F,an,Q,T,hl,R⟩:=gx h kx bt f4 cd d4 hT f0 d6 gd h2 l;clear h kx bt f4 cd d4 hT f0 d6 gd h2 l;unfold aq
 go_enter func195,ntmps195
 go_wp2_with fail
 refine hl.out.mono ?_;rintro e w1 nA;rcases nA with⟨nu,-⟩|⟨-,oi,rfl,kf,fi,h7,h8,h9,fb⟩
 ·exact absurd hx.out nu
 rw [<-F.out]at fi;have t:=mb.out.below fb 2;have d5:({q with ow:=ext V q.ow 2}:LQ).M=c:=ht.out.symm;have g5:StL JP V q.ow w1 ({q with ow:=ext V q.ow 2}:LQ).ow:=StL.new _ fb _ 2;obtain⟨K,gf⟩: ∃a:LQ,a={q with ow:=ext V q.ow 2}:=⟨_,rfl⟩;have ks:K.ow=ext V q.ow 2:=by rw [gf]
 rw [<-gf]at t d5 g5;clear z B A C R hl gf fb;obtain⟨bd,bo,be,bp,bg,bq,z,B,A,C,l⟩:=t.gc (G:=d.G) (st:=d.st) (M:=c) rfl rfl F.out an.out Q.out d5;have n:=eW l d.st;rw [<-T.out]at n;have ga: ∀ak:World,(Instr.makeSlice 33 (.int .i64 ((g:Int)+1)) (.int .i64 ((g:Int)+1))).run prog ak= .ok (.slice (some ⟨ak.heap.size,0,none⟩) (g+1) (g+1)) (ak.alloc (.cells (madeCells #[.slice none 0 0] (g+1)) 49)):=λak=>by
  have:=Ce (g+1) (by omega) ak
  push_cast at this
  exact this
 have o4:IntKind.i64.wrap ((g:Int)+1)=(g:Int)+1:=by rw [IntKind.wrap_i64];omega
 unfold aq;obtain⟨mm,l7,n5,l8,ma,eE,mc,m7,ms,R,al⟩:=fa kf fi h7 h8 h9 t d5 g5 ks l n;clear kf fi h7 h8 h9 t d5 g5 ks l n
 go_wp2_with fail
 refine al.out.mono ?_;rintro e w2 ⟨rfl,fc⟩;have H:=eE.out.below fc 2;have a7:StL JP w1 K.ow w2 (ext w1 K.ow 2):=StL.new _ fc _ 2;obtain⟨a0,a4⟩: ∃a:LQ,a={K with ow:=ext w1 K.ow 2}:=⟨_,rfl⟩;have aS:a0.M=c:=by rw [a4];exact mc.out
 have a7:StL JP w1 K.ow w2 a0.ow:=by rw [a4];exact a7
 rw [<-a4]at H;have a2:Below w2.heap.size w2 (w2.alloc (.cells (madeCells #[.slice none 0 0] (g+1)) 49)):=(Below.refl _ _).alloc (Zi _) _;have lm:RuV (w2.alloc (.cells (madeCells #[.slice none 0 0] (g+1)) 49)) (ext w2 a0.ow 5) (.slice (some ⟨w2.heap.size,0,none⟩) (g+1) (g+1)) (ao d.G+1) (λp=>d8 d.G.rules p (min 0 d.G.rules.length)):=by
  rw [<-T.out];have e:(λb:Nat=>((λp:Nat=>d8 d.G.rules p (min 0 d.G.rules.length)) b).map (Value.int .i64))=λ_=>[]:=by funext b;simp [d8]
  refine .inr ⟨w2.heap.size,λ_=> .slice none 0 0,rfl,?_⟩;rw [e];exact Rows.made (Blk.new w2 _ _) (dz (Zi _))
 obtain⟨gF,bx,bW,a8⟩:=H.madeU lm (StL.new _ a2 _ 5);rw [ER mu.out c9.out]at bx;rw [aS]at bx bW a8;have a8:=a7.trans (a8.mono (J':=JP) (λf U=>by unfold JP;omega));have bB:=eE.out.cells.2.2.2.2.2.2.2.1;have fn:w2.cell? ⟨c,7,none⟩=some a0.vu:=by have:=H.cells.2.2.2.2.2.2.2.1;rw [aS]at this;exact this
 have l5:w2.frozen? ⟨c,7,none⟩=false:=by have:=H.box.frozen 7;rw [aS]at this;exact this
 have gA:=World.block_lt_of_cell? _ _ fn;have ng:(w2.alloc (.cells (madeCells #[.slice none 0 0] (g+1)) 49)).cell? ⟨c,7,none⟩=some a0.vu:=(a2.cell (p:=⟨c,7,none⟩) gA).trans fn;have n0:(w2.alloc (.cells (madeCells #[.slice none 0 0] (g+1)) 49)).frozen? ⟨c,7,none⟩=false:=(World.frozen?_of_block (a:=⟨c,7,none⟩) (a2.block c gA)).trans l5;clear z B A C R al eE fc H a4 a7 a2 lm aS bB fn l5 gA;obtain⟨bO,bE,hQ⟩:=aK bx bW a8;clear bx bW a8
 go_upto_region 2 with fail
 generalize (w2.alloc (.cells (madeCells #[.slice none 0 0] (g+1)) 49)).setCell ⟨c,7,none⟩ (.slice (some ⟨w2.heap.size,0,none⟩) (g+1) (g+1))=w3 at *;clear ng n0 ga;obtain⟨bd,bo,be,bp,bg,bq,z,B,A,C,l⟩:=bO.out.gc (G:=d.G) (st:=d.st) (M:=c) rfl rfl F.out an.out Q.out bE.out;have o5:IntKind.i64.wrap ((P:Int)+1)=(P:Int)+1:=by rw [IntKind.wrap_i64];omega
 clear z B C;have R:=ab l;clear l
 go_wp2_with fail
 go_loopw [33] (λbw wr=> ∃(b:Nat) (I:LQ),b<=P+1/\bw= .int .i64 b/\MK wr I (dK d b) y/\I.M=c/\StL JP w1 K.ow wr I.ow) (λbw _=>P+1 - (intOf bw).toNat)
 case atStart=>exact⟨0,gF,Zl _,rfl,bO.out,bE.out,hQ.out⟩
 case round=>
  clear A R bO bE hQ;obtain⟨b,I,ou,rfl,hm,ce,ba⟩:=hrel;by_cases ns:b<P+1
  ·have kl:(b:Int)<(P:Int)+1:=by omega
   obtain⟨bd,bo,be,bp,bg,bq,z,B,A,C,l⟩:=hm.gc (G:=d.G) (st:=d.st) (M:=c) rfl rfl F.out an.out Q.out ce;have ad:=oO l d.st (b:Int);obtain⟨nG,ej⟩: ∃cN,cN=aD d.G d.st (b:Int):=⟨_,rfl⟩;rw [<-ej]at ad;obtain⟨⟨aT,O⟩,pa⟩:=nG;have kM:rgt d.G d.st b=O:=by unfold rgt;rw [<-ej]
   obtain⟨S,cn,ap,eR,cp,ho,R⟩:=de hm ce ba ej kM ad l;clear hm ce ba ej kM ad l
   go_wp2_with fail
   refine ho.out.mono ?_;rintro e j ⟨r,i,o,rfl,cK,G⟩
   replace cK:RdI j (λv=>I.Fg v\/(wr.heap.size<=v/\v<j.heap.size)) (.slice r i o) O:=cK
   have x:Below j.heap.size j (j.alloc (.cells #[.int .i64 aT,.slice r i o] 98)):=(Below.refl _ _).alloc (Zi _) _;have gk:Blk (j.alloc (.cells #[.int .i64 aT,.slice r i o] 98)) j.heap.size 98 #[.int .i64 aT,.slice r i o]:=Blk.new _ _ _;have M:Below wr.heap.size wr (j.alloc (.cells #[.int .i64 aT,.slice r i o] 98)):=G.trans (x.mono G.size);have k:=S.out.below M 2;have cj:StL JP wr I.ow (j.alloc (.cells #[.int .i64 aT,.slice r i o] 98)) (ext wr I.ow 2):=StL.new _ M _ 2;have ex:ext wr I.ow 2 j.heap.size=2:=dz G.size;have gO:RdI (j.alloc (.cells #[.int .i64 aT,.slice r i o] 98)) (TF (j.alloc (.cells #[.int .i64 aT,.slice r i o] 98)) (ext wr I.ow 2) (λX=>X=1\/X=2)) (.slice r i o) O:=
    (Rd.below cK x (λv k=>k.elim (λk=>Zk (S.out.gF v k).1 G.size) (λk=>k.2))).mono (λv k=>by
     rcases k with k|k
     ·have t:=S.out.gF v k
      exact⟨Zk t.1 M.size,.inl ((bV t.1).trans t.2)⟩
     ·exact⟨Zk k.2 x.size,.inr (dz k.1)⟩)
   obtain⟨gb,oM,nn,-⟩:=RdI.at_ cK;have oG:i<=8:=by have t:=hs.out.eight (b:Int);rw [<-eR.out]at t;rw [gb];exact t
   unfold maxLen at nn;obtain⟨u,f2⟩: ∃u,u=j.heap.size:=⟨_,rfl⟩;rw [<-f2]at gk ex;obtain⟨a6,ee⟩: ∃a:LQ,a={I with ow:=ext wr I.ow 2}:=⟨_,rfl⟩;have iN:a6.M=c:=by rw [ee];exact cn.out
   have kn:ext wr I.ow 2=a6.ow:=by rw [ee]
   rw [<-ee]at k;rw [kn]at cj ex gO;have lA:=ap.out.trans cj;clear z B A C cK x G M ee kn cj S cn ap ho R;obtain⟨e0,c6,hW,hL,hv,hV,hA⟩:=de gk k ex gO iN lA gb;clear gk k ex gO iN lA gb
   go_wp2_with fail
   rw [<-f2];clear f2;generalize j.alloc (.cells #[.int .i64 aT,.slice r i o] 98)=m at *;have fh:Below m.heap.size m m.drew:=(Below.refl _ _).drew;have N:=c6.out.below fh 2;have gm:=e0.out.drew;have g8:ext m a6.ow 2 u=2:=(bV e0.out.lt).trans hW.out;have a9:StL JP m a6.ow m.drew (ext m a6.ow 2):=StL.new _ fh _ 2;have gW:RdI m.drew (TF m.drew (ext m a6.ow 2) (λX=>X=1\/X=2)) (.slice r i o) O:=Rd.step hL.out a9 (λbw hi=>by unfold JP;omega);obtain⟨s,a5⟩: ∃a:LQ,a={a6 with ow:=ext m a6.ow 2}:=⟨_,rfl⟩;have a3:s.M=c:=by rw [a5];exact hv.out
   have kr:ext m a6.ow 2=s.ow:=by rw [a5]
   rw [<-a5]at N;rw [kr]at g8 a9 gW;have a9:=hV.out.trans a9;clear a5 kr c6 e0 hW hL hv hV fh;obtain⟨e9,cT,bc,cU⟩:=N.r;have dS:(dK d b).rs.length=b:=ul _ _ _;obtain⟨bC,fx⟩: ∃a,a=s.Ar:=⟨_,rfl⟩;obtain⟨ad,f6⟩: ∃a,a=s.cr:=⟨_,rfl⟩;have es:=N.cells.2.2.2.2.2.1;rw [dS,a3,<-fx,<-f6]at es;rw [dS,<-fx,<-f6]at bc;have pt:=bc.cap;have hc:m.drew.cell? ⟨u,1,none⟩=some (.slice r i o):=(gm.cell 1).trans rfl;clear fx f6;obtain⟨co,dd,hX,c3,cu,hM,cw,ca,cx,hq⟩:=fp N gm g8 a3 a9 gW cT bc cU dS;clear N gm g8 a3 a9 gW cT bc cU dS;refine cQ (λbh=>bh.cell? ⟨c,5,none⟩=some (.slice bC b ad)/\bh.cell? ⟨u,1,none⟩=some (.slice r i o)) 7 9 (by kernel_rfl) (by kernel_rfl) ⟨es,hc⟩ ?_;simp only [Zg,Zh,Za,Zb]
   iterate 7
    refine bI ?_ (by rfl) (λwS hwS=> ?_) ?_
    rotate_left
    ·(try dsimp only at hwS)
     go_simp
     all_goals with_reducible rfl
    simp only [Act.put,Zd,Zf,Ze]
   refine bU ?_;generalize m.drew=w at *;have x:Below w.heap.size w (w.alloc (.cells #[.slice r i o] 49)):=(Below.refl _ _).alloc (Zi _) _;have cC:=co.out.below x 2;have kR:=dd.out.below x dd.out.lt;have b5:StL (λ_=>False) w s.ow (w.alloc (.cells #[.slice r i o] 49)) (ext w s.ow 2):=StL.new _ x _ 2;have lR:ext w s.ow 2 u=2:=(bV dd.out.lt).trans hX.out;have lb:=Rd.step hM.out b5 (λ_ _ e=>e);have l3:=ca.out.step b5 (λe=>e);have l4:=λ(bw:Nat) (l2:Value) (cN:List Int) nE b0=>Rd.step (cx.out bw l2 cN nE b0) b5 (λ_ _ e=>e)
   have iS:({s with ow:=ext w s.ow 2}:LQ).M=c:=c3.out;have ai:Rd (w.alloc (.cells #[.slice r i o] 49)) (λa=>a=w.heap.size) (.slice (some ⟨w.heap.size,0,none⟩) 1 1) 1 [.slice r i o]:=Rd.one' (w:=w) (e:=49) [.slice r i o] 1 rfl;have b5:=cu.out.trans (b5.mono (J':=JP) (λ_ e=>e.elim));have k5:=ae x es;have l0:=ae x hc;have hg:=And.intro k5 l0;clear es hc x k5 l0;obtain⟨c8,e2,hU,ds,e4,e8,hY,Z,c4,c0⟩:=fp cC kR b5 lR lb l3 l4 ai iS hg;clear cC kR b5 lR lb l3 l4 ai iS hg;refine ay ?_
   go_wp2_with fail
   refine⟨c0.out,ay ?_⟩;generalize w.alloc (.cells #[.slice r i o] 49)=ey at *
   go_wp2_with (at_builtin;refine aJ _ rfl (.tmp 49) (.tmp 52) _ rfl elemIntsE 0 (.slice bC b ad) b e9 rfl e8.out.own _ _ [.slice r i o] 1 rfl rfl Z.out (by intro ha bu;obtain rfl:=Zc.1 bu;rfl) (by unfold maxLen;omega) (by omega) (Zl _) ?_)
   intro ck cy w4 bA br bs;obtain⟨g1,a1⟩:=mN.push (rs:=rsK d.G d.st b) (r:=rgt d.G d.st b) (hq.out.symm) cw.out e8.out hY.out (by rw [cp.out];exact e4.out) bA br bs;rw [<-De]at g1;obtain⟨b3,gB,fT,cR⟩:=c8.out.putR (n':=b+1) (ul _ _ _).symm g1 a1;rw [c4.out]at gB fT cR;have cf:=e2.out.touch a1.t (by rw [ds.out];omega);have b1:ext w s.ow 2 s.M=0:=c8.out.tm;have gh:ext w s.ow 2 c=0:=by rw [<-b1,show s.M=c from c4.out]
   have bR:=c8.out.box.touch a1.t (by show¬ext w s.ow 2 s.M=3;rw [b1];omega);rw [c4.out]at bR;have k6:w4.cell? ⟨c,5,none⟩=some (.slice bC b ad):=(World.cell?_of_block (a:=⟨c,5,none⟩) (a1.t.block c (World.block_lt_of_cell? _ _ c0.out.1) (by rw [gh];omega))).trans c0.out.1;have nX:=bR.frozen 5;have l1:w4.cell? ⟨u,1,none⟩=some (.slice r i o):=(cf.cell 1).trans rfl;have kP:=cf.touch (((aa.refl (λv=>v=c) w4).setCell (p:=⟨c,5,none⟩) (λ_=>rfl) (.slice ck (b+1) cy))) (λe=>by have t:=ds.out;rw [e,gh]at t;cases t);have lE:b3.ow u=2:=(cR.eq u e2.out.lt).trans ds.out;have k9:=Rd.step e4.out cR (λbw hi=>by omega);have lo:=hU.out.trans (cR.mono (J':=JP) (λf U=>by unfold JP;omega));clear bA br bs g1 a1 cR cf bR b1 gh c0 c8 e2 hU ds e4 e8 hY Z c4 co dd hX c3 cu hM cw ca cx hq;obtain⟨bl,bG,bi,cv,cr,ct⟩:=aM gB fT kP lE k9 lo;clear gB fT kP lE k9 lo;refine⟨⟨k6,l1⟩,cX ?_⟩
   go_wp2_with fail
   refine NoPanic.normal ?_;clear k6 l1 nX;generalize w4.setCell ⟨c,5,none⟩ (.slice ck (b+1) cy)=w6 at *;obtain⟨bd,bo,be,bp,bg,bq,z,B,A,C,l⟩:=bl.out.gc (G:=d.G) (st:=d.st) (M:=c) rfl rfl F.out an.out Q.out bG.out;clear z B C l
   go_upto_if 63 with fail
   go_cut [3]from 56 to 81 (λnP nR=>nP= .int .i64 (b:Int)/\D4 w1 K.ow d y b c u 98 aT (.slice r i o) O nR)
   case first=>
    by_cases cG:b<P
    ·have np:(b:Int)<(P:Int):=(by omega);obtain⟨⟨o7,pl⟩,b0⟩: ∃cN,d.G.rules[b]? =some cN:=⟨_,List.getElem?_eq_getElem (by rw [<-Q.out];exact cG)⟩;have eg:=eR.out;rw [ju b0]at eg;injection eg with eg nz
     injection eg with h5 na
     obtain⟨f8,ec⟩:=(Kn.of_check hx.out).left (List.mem_of_getElem? b0);rw [<-h5]at f8 ec b0;obtain⟨J,nb⟩:=Int.eq_ofNat_of_zero_le f8;clear h5 na nz f8;subst nb;have f9:J<=ao d.G:=(by unfold ag at ec;unfold ao;simp only at ec;omega);obtain⟨E,pf,bC,cg,ad,gi,lj,kE,fg,g2,hm⟩:=bl.out.rowK f9;have ev:=bl.out.cells.2.2.2.2.2.2.2.1;obtain⟨D,bY⟩: ∃a,a=g+1:=⟨_,rfl⟩;rw [bG.out,gi,<-T.out,<-bY]at ev;have ox:(J:Int)<(D:Int):=(by have:=T.out;omega);have oz:J<D:=(by omega);have ny:D<=241:=(by omega);obtain⟨oF,nm⟩:=g2.cap;have oC:cg<=300:=(by have:=Q.out;omega);have hb:w6.cell? ⟨u,0,none⟩=some (.int .i64 (J:Int)):=(bi.out.cell 0).trans rfl;clear ec hm;obtain⟨mt,hD,hP,eZ,hO,hz,n9⟩:=de b0 gi lj kE g2 f9 bY;clear b0 gi lj kE g2 f9 bY
     go_wp2_with fail
     refine cQ (λbh=>bh.cell? ⟨c,7,none⟩=some (.slice (some ⟨E,0,none⟩) D D)/\bh.cell? ⟨u,0,none⟩=some (.int .i64 (J:Int))/\bh.cell? ⟨E,J,none⟩=some (.slice bC cg ad)) 15 17 (by kernel_rfl) (by kernel_rfl) ⟨ev,hb,fg⟩ ?_;simp only [Zg,Zh,Za,Zb]
     iterate 15
      refine bI ?_ (by rfl) (λwS hwS=> ?_) ?_
      rotate_left
      ·(try dsimp only at hwS)
       go_simp
       all_goals with_reducible rfl
      simp only [Act.put,Zd,Zf,Ze]
     refine bU ?_;have bP:Below w6.heap.size w6 (w6.drew.alloc (.cells #[.int .i64 (b:Int)] 3)):=((Below.refl _ _).drew).alloc (Zi _) _;have hf:(w6.drew.alloc (.cells #[.int .i64 (b:Int)] 3)).cell? ⟨c,7,none⟩=some (.slice (some ⟨E,0,none⟩) D D)/\(w6.drew.alloc (.cells #[.int .i64 (b:Int)] 3)).cell? ⟨u,0,none⟩=some (.int .i64 (J:Int))/\(w6.drew.alloc (.cells #[.int .i64 (b:Int)] 3)).cell? ⟨E,J,none⟩=some (.slice bC cg ad):=⟨ae bP ev,ae bP hb,ae bP fg⟩;have ai:Rd (w6.drew.alloc (.cells #[.int .i64 (b:Int)] 3)) (λa=>a=w6.heap.size) (.slice (some ⟨w6.heap.size,0,none⟩) 1 1) 1 [.int .i64 (b:Int)]:=Rd.one' (w:=w6.drew) (e:=3) [.int .i64 (b:Int)] 1 rfl;have ft:=bl.out.below bP 2;have b6:StL (λ_=>False) w6 b3.ow (w6.drew.alloc (.cells #[.int .i64 (b:Int)] 3)) (ext w6 b3.ow 2):=StL.new _ bP _ _;obtain⟨er,cH⟩: ∃a:LQ,a={b3 with ow:=ext w6 b3.ow 2}:=⟨_,rfl⟩;have iy:er.M=c:=(by rw [cH];exact bG.out);have kt:ext w6 b3.ow 2=er.ow:=(by rw [cH]);have kF:er.vu= .slice (some ⟨E,0,none⟩) (ao d.G+1) (ao d.G+1):=(by rw [cH];exact hD.out);rw [<-cH]at ft;rw [kt]at b6;have lk:=hP.out.step b6 (λe=>e);have li:=hO.out.step b6 (λe=>e);have cf:=bi.out.below bP bi.out.lt;have lB:er.ow u=2:=(b6.eq u bi.out.lt).trans cv.out;have k8:=Rd.step cr.out b6 (λ_ _ e=>e);have cP:=ct.out.trans (b6.mono (J':=JP) (λ_ e=>e.elim));clear ev hb fg bP b6 cH kt bl bG bi cv cr ct hP hO hD A;obtain⟨b8,Z,eG,hu,mL,e6,e5,e1,dr,hK,cs⟩:=fa hf ai ft iy kF lk li cf lB k8 cP;clear hf ai ft iy kF lk li cf lB k8 cP;generalize kG:w6.drew.alloc (.cells #[.int .i64 (b:Int)] 3)=pk at *;refine ay ?_
     go_wp2_with fail
     try rw [kG]
     refine⟨b8.out,ay ?_⟩
     go_wp2_with (at_builtin;refine aJ _ rfl (.tmp 77) (.tmp 79) _ rfl elemInt 0 (.slice bC cg ad) cg (((dK d b).ru J).map (Value.int .i64)) rfl e5.out.own _ _ [.int .i64 (b:Int)] 1 rfl rfl Z.out (by intro ha bu;obtain rfl:=Zc.1 bu;rfl) (by unfold maxLen;omega) (by omega) (Zl _) ?_)
     intro he h0 w9 gE d2 f3;obtain⟨g3,bb⟩:=e6.out.app (Nat.lt_succ_of_le hz.out) eZ.out gE d2 f3;obtain⟨h1,og⟩:=e6.out.grown_cell (Nat.lt_succ_of_le hz.out) (by rw [eZ.out];exact d2);rw [eZ.out]at h1;rw [Fd]at g3;have bz:=eG.out.putU (.inr ⟨E,_,mL.out,g3⟩) bb;rw [Fr mt.out]at bz;obtain⟨-,g7⟩:=e5.out.app gE d2 f3;have cz:w9.cell? ⟨c,7,none⟩=some (.slice (some ⟨E,0,none⟩) D D):=(World.cell?_of_block (a:=⟨c,7,none⟩) (g7.t.block c (World.block_lt_of_cell? _ _ b8.out.1) (by have:=eG.out.tm;rw [hu.out]at this;rw [this];omega))).trans b8.out.1;have m9:w9.cell? ⟨u,0,none⟩=some (.int .i64 (J:Int)):=(World.cell?_of_block (a:=⟨u,0,none⟩) (g7.t.block u (World.block_lt_of_cell? _ _ b8.out.2.1) (by rw [dr.out];omega))).trans b8.out.2.1;have cE:D4 w1 K.ow d y b c u 98 (J:Int) (.slice r i o) O (w9.setCell ⟨E,J,none⟩ (.slice he (cg+1) h0)):=
      ⟨_,bz,hu.out,e1.out.touch bb.t (by rw [dr.out];omega),(bb.eq u e1.out.lt).trans dr.out,Rd.step hK.out bb (λbw hi=>by omega),cs.out.trans (bb.mono (J':=JP) (λf U=>by unfold JP;omega))⟩
     clear gE d2 f3 g3 bb g7 bz b8 eG e6 e5 e1 dr hK cs Z kG;have eQ:=ab cE;clear cE;refine⟨⟨cz,m9,h1⟩,cX ?_⟩
     go_wp2_with fail
     refine NoPanic.normal ?_
     go_wp2_with fail
     go_meet
     exact⟨rfl,eQ.out⟩
    ·have np: ¬(b:Int)<(P:Int):=(by omega);have cE:D4 w1 K.ow d y b c u 98 aT (.slice r i o) O w6:=⟨b3,by rw [<-FR (by rw [<-Q.out];omega)];exact bl.out,bG.out,bi.out,cv.out,cr.out,ct.out⟩;clear cG bl bG bi cv cr ct;have eQ:=ab cE;clear cE
     go_wp2_with fail
     go_meet
     exact⟨rfl,eQ.out⟩
   case rest=>
    clear bl bG bi cv cr ct A;obtain⟨rfl,bB,k1,iD,gl,lG,la,g4⟩:=hcut;have lT:=(gl.cell 1).trans rfl;obtain⟨b7,iv⟩: ∃a,a=wc.heap.size:=⟨_,rfl⟩;have kc:=aL.stepL mm.out (ma.out) (g4.how ms.out) (by unfold JP;omega);obtain⟨dn,c2,mR,m8,e3,hR,b9,hy⟩:=dA k1 iD gl lG la g4 iv kc;clear k1 iD gl lG la g4 iv kc
    go_wp2_with fail
    go_loopw [6,85] (λnM b2 cS=> ∃(f:Nat) (hd:Option Addr) (hZ:Nat),f<=i/\b2= .int .i64 f/\nM= .slice hd f hZ/\TlM b7 cS (L+1) hd f hZ ((lu d.G d.st b).take f)/\Below b7 wc cS) (λ_ b2 _=>i - (intOf b2).toNat)
    case atStart=>exact⟨0,none,0,Zl _,rfl,rfl,by rw [Zh];exact TlM.nil _ _ _,by rw [b9.out];exact Below.refl _ _⟩
    case round=>
     obtain⟨f,Y,n,U,rfl,rfl,bt,le⟩:=hrel;by_cases nq:f<i
     ·have nr:(f:Int)<(i:Int):=(by omega);obtain⟨-,-,-,j0⟩:=RdI.at_ e3.out;obtain⟨M,k2,rfl,-,-⟩:=j0 (by omega);have W:Below wc.heap.size wc wr:=(by rw [<-b9.out];exact le);have ld:=Rd.below e3.out W (λv k=>k.1);have ei:=RdI.tail ld (k:=f+1) (by omega);obtain⟨eA,it⟩: ∃eA:Option Addr,(if o=f+1 then(some ⟨M,k2,none⟩:Option Addr)else some ⟨M,k2+(f+1),none⟩)=eA:=⟨_,rfl⟩;rw [it]at ei;have cA:=AF (hy.out.below W) ei (λv k=>Zk k.1 W.size);rw [l7.out,l8.out]at cA;obtain⟨J,ed⟩: ∃a,a=zy (L+1) (aF (ag d.G) (eS d.G)) (aV (ag d.G) (fV d.G)) (O.drop (f+1)):=⟨_,rfl⟩;obtain⟨bS,eb⟩: ∃a,a=(O.drop (f+1)).all (aF (ag d.G) (eS d.G)):=⟨_,rfl⟩;rw [<-ed,<-eb]at cA;have kz:i6 (L+1) J=lnB d.G (O.drop (f+1)):=by
       rw [ed];exact xH (λX o3=>by
        cases e:db (aF (ag d.G) (eS d.G)) (aV (ag d.G) (fV d.G)) (O.drop (f+1)) X with
        |false=>rfl
        |true=>have:=wn (G:=d.G) (l:=O.drop (f+1)) (t:=X) e;rw [<-F.out]at this;omega)
      have kk:(lu d.G d.st b)[f]? =some ⟨lnB d.G (O.drop (f+1)),bS⟩:=by
       have:=wF (G:=d.G) (st:=d.st) (k:=(b:Int)) (j:=f) (by rw [cp.out,<-hA.out];exact nq);rw [cp.out]at this;rw [this,eb];rfl
      have nT:=ae W lT;have nv:(f:Int)+1<=(i:Int):=(by omega);have nC:IntKind.i64.wrap ((f:Int)+1)=(f:Int)+1:=(by rw [IntKind.wrap_i64];omega);have nB:((f:Int)+1).toNat=f+1:=(by omega);have nk:(0:Int)<=(f:Int)+1:=(by omega);obtain⟨bd,bo,be,bp,bg,bq,z,B,A,C,l⟩:=dn.out.gc (G:=d.G) (st:=d.st) (M:=c) rfl rfl F.out an.out Q.out c2.out;have im:=ae W z;have fF:b7<=wr.heap.size:=(by rw [b9.out];exact W.size);clear j0 ld z B A C l W;unfold aq at cA;obtain⟨c9,hE,mx,hn,n8,n6,hC,mo⟩:=dA bt le ei cA ed eb kz kk;clear bt le ei cA ed eb kz kk
      go_wp2_with fail
      refine hn.out.mono ?_;rintro e j ⟨he,o8,h0,rfl,kv,G⟩;have dO:=wZ (V:=j) (ae G im) nl kv (λv k=>k.2);rw [hC.out]at dO;unfold aq at dO;have kA:=c9.out.below G;have k0:=hE.out.trans (G.mono fF);have fz:b7<=j.heap.size:=Zj fF G.size;clear im nT kv G it nC nB nk nv fF hn hC mx c9 hE;obtain⟨hp,eX,hF⟩:=aK dO kA k0;clear dO kA k0
      go_wp2_with fail
      refine hp.out.mono ?_;rintro e m ⟨v,n4,rfl,ky,i0,cc⟩;obtain⟨n3,en,ch,ep⟩:=eX.out.ex;have x:Below m.heap.size m (m.alloc (.cells #[.pointer (some ⟨v,0,none⟩),.bool bS] 278)):=(Below.refl _ _).alloc (Zi _) _;have ai:Rd (m.alloc (.cells #[.pointer (some ⟨v,0,none⟩),.bool bS] 278)) (λa=>a=m.heap.size) (.slice (some ⟨m.heap.size,0,none⟩) 1 1) 2 [.pointer (some ⟨v,0,none⟩),.bool bS]:=Rd.one' (w:=m) (e:=278) [.pointer (some ⟨v,0,none⟩),.bool bS] 2 rfl;have k3:=ah ch (cc.trans (x.mono cc.size));have ix:b7<=(m.alloc (.cells #[.pointer (some ⟨v,0,none⟩),.bool bS] 278)).heap.size:=Zj fz (cc.trans (x.mono cc.size)).size;obtain⟨ot,nm⟩:f<=n/\n<=9223372036854775807:=by
       obtain⟨eA,ob,e,t,H⟩:=bH ch;cases e;exact⟨t,H⟩
      have os:f<=8:=(by omega);unfold aq;clear hp;obtain⟨hB,hw,hj,hH,hI,hJ,hh,Z,hG⟩:=dQ ky i0 cc en ch ep x ai k3;clear ky i0 cc en ch ep x ai k3
      go_wp2_with (at_builtin;refine aJ _ rfl (.tmp 98) (.tmp 104) _ rfl elemTail b7 (.slice Y f n) f _ rfl hG.out _ _ [.pointer (some ⟨v,0,none⟩),.bool bS] 1 rfl rfl Z.out (by intro ha bu;simp only [List.mem_cons,List.not_mem_nil,or_false]at bu;rcases bu with rfl|rfl<;>rfl) (by unfold maxLen;omega) (by omega) ix ?_)
      intro ck cy w4 bA br bs;obtain⟨gg,kT⟩:=TlM.push eX.out.hn hH.out hI.out hJ.out fz hB.out hw.out hj.out hh.out bA br (by rw [World.size_alloc];exact bs);rw [j7 mo.out]at gg;have kX:=hF.out.trans kT;clear bA br bs kT eX hH hI hJ hB hw hj hh Z hG hF ix fz;obtain⟨mA,m0⟩:=av gg kX;clear gg kX
      go_wp2_with fail
      go_roundw
      case rel=>exact⟨f+1,ck,cy,by omega,by go_num,rfl,mA.out,m0.out⟩
      case measure=>simp [intOf];omega
     ·have nr: ¬(f:Int)<(i:Int):=(by omega);have no:f=i:=(by omega);rw [List.take_of_length_le (by rw [wE,cp.out,<-hA.out];omega)]at bt;have W:Below wc.heap.size wc wr:=(by rw [<-b9.out];exact le);have et:=dn.out.cells.2.2.2.2.2.2.1;have d1:(dU d b).tl.length=b:=uj _ _ _;obtain⟨eB,fv⟩: ∃a,a=bB.At:=⟨_,rfl⟩;obtain⟨cz,f5⟩: ∃a,a=bB.ct:=⟨_,rfl⟩;rw [c2.out,d1,<-fv,<-f5]at et;have nF:=ae W et;have dt:Below wc.heap.size wc (wr.alloc (.cells #[.slice Y f n] 273)):=W.alloc W.size _;have gM:=ae dt et;have d3:=dn.out.below dt 2;have g0:ja (wr.alloc (.cells #[.slice Y f n] 273)) (TF (wr.alloc (.cells #[.slice Y f n] 273)) (ext wc bB.ow 2) (λX=>X=2)) (L+1) (.slice Y f n) (lu d.G d.st b):=by
       have x:Below wr.heap.size wr (wr.alloc (.cells #[.slice Y f n] 273)):=(Below.refl _ _).alloc (Zi _) _;exact(bt.below x).rd.mono λv k=>⟨k.2,dz (by rw [<-b9.out];exact k.1)⟩
      obtain⟨ci,cI⟩: ∃a:LQ,a={bB with ow:=ext wc bB.ow 2}:=⟨_,rfl⟩;have iF:ci.M=c:=(by rw [cI];exact c2.out);have gc:ext wc bB.ow 2=ci.ow:=(by rw [cI]);have fw:ci.At=eB/\ci.ct=cz:=(by rw [cI,fv,f5];exact⟨rfl,rfl⟩);have lr:StL JP w1 K.ow (wr.alloc (.cells #[.slice Y f n] 273)) ci.ow:=(by rw [<-gc];exact hR.out.trans (StL.new _ dt _ 2));rw [<-cI]at d3;rw [gc,show L+1=(dU d b).T+1 from by rw [F.out];rfl]at g0;obtain⟨e9,cT,bc,cU⟩:=d3.t;rw [fw.1,fw.2,d1]at bc;have pr:=bc.cap;have ai:Rd (wr.alloc (.cells #[.slice Y f n] 273)) (λa=>a=wr.heap.size) (.slice (some ⟨wr.heap.size,0,none⟩) 1 1) 1 [.slice Y f n]:=Rd.one' (w:=wr) (e:=273) [.slice Y f n] 1 rfl;have ov:b<=300:=(by omega);clear no bt le W et fv f5 dt cI gc fw dn c2 mR m8 e3 hR hy b9 lT cp eR;obtain⟨hr,c1,hN,cl,hS,cw,ca,cx,Z⟩:=dQ d1 d3 g0 iF lr cT bc cU ai;clear d1 d3 g0 iF lr cT bc cU ai
      go_wp2_with (at_builtin;refine aJ _ rfl (.tmp 111) (.tmp 113) _ rfl elemTails 0 (.slice eB b cz) b e9 rfl ca.out.own _ _ [.slice Y f n] 1 rfl rfl Z.out (by intro ha bu;obtain rfl:=Zc.1 bu;rfl) (by unfold maxLen;omega) (by omega) (Zl _) ?_)
      intro ck cy w4 bA br bs;obtain⟨g9,a1⟩:=TlV.push (tl:=tlK d.G d.st b) (l:=lu d.G d.st b) (hr.out.symm) cw.out ca.out cx.out hN.out bA br (by rw [World.size_alloc];exact bs);rw [<-D8]at g9;obtain⟨k4,cM,fL,g6⟩:=c1.out.putT (n':=b+1) (uj _ _ _).symm g9 a1;rw [cl.out]at cM fL g6;have cM:MK _ k4 (dK d (b+1)) y:=cM;have b1:ci.ow c=0:=(by have:=c1.out.tm;rwa [cl.out]at this);have pe:w4.cell? ⟨c,6,none⟩=some (.slice eB b cz):=(World.cell?_of_block (a:=⟨c,6,none⟩) (a1.t.block c (World.block_lt_of_cell? _ _ gM) (by rw [b1];omega))).trans gM;have bR:=c1.out.box.touch a1.t (by rw [cl.out,b1];omega);rw [cl.out]at bR;have ps:=bR.frozen 6;have ln:=hS.out.trans (g6.mono (J':=JP) (λf U=>by unfold JP;omega));clear bA br bs g9 a1 g6 nF gM b1 bR hr c1 hN cl hS cw ca cx Z;obtain⟨m1,md,m4⟩:=aK cM fL ln;clear cM fL ln
      go_wp2_with fail
      go_roundw
      case rel=>exact⟨b+1,k4,by omega,by go_num,m1.out,md.out,m4.out⟩
      case measure=>simp [intOf];omega
  ·have kl: ¬(b:Int)<(P:Int)+1:=by omega
   have cG:b=P+1:=by omega
   obtain⟨bd,bo,be,bp,bg,bq,z,B,A,C,l⟩:=hm.gc (G:=d.G) (st:=d.st) (M:=c) rfl rfl F.out an.out Q.out ce;have n:=eW l d.st;rw [<-T.out]at n;have ga: ∀ak:World,(Instr.makeSlice 252 (.int .i64 ((g:Int)+1)) (.int .i64 ((g:Int)+1))).run prog ak= .ok (.slice (some ⟨ak.heap.size,0,none⟩) (g+1) (g+1)) (ak.alloc (.cells (madeCells #[.slice none 0 0] (g+1)) 279)):=λak=>by
    have:=zZ (g+1) (by omega) ak
    push_cast at this
    exact this
   obtain⟨S,cn,ap,R,al,mp⟩:=aM hm ce ba l n cG;clear hm ce ba l n cG
   go_wp2_with fail
   refine al.out.mono ?_;rintro e j ⟨rfl,G⟩;have H:=S.out.below G 2;have a7:=ap.out.trans (StL.new JP G I.ow 2);obtain⟨a0,a4⟩: ∃a:LQ,a={I with ow:=ext wr I.ow 2}:=⟨_,rfl⟩;have aS:a0.M=c:=by rw [a4];exact cn.out
   have a7:StL JP w1 K.ow j a0.ow:=by rw [a4];exact a7
   rw [<-a4]at H;have a2:Below j.heap.size j (j.alloc (.cells (madeCells #[.slice none 0 0] (g+1)) 279)):=(Below.refl _ _).alloc (Zi _) _;have h3:CmV (j.alloc (.cells (madeCells #[.slice none 0 0] (g+1)) 279)) (ext j a0.ow 6) (.slice (some ⟨j.heap.size,0,none⟩) (g+1) (g+1)) ((dK d b).T+1) (ao d.G+1) (λ_=>[]):=by
    rw [<-T.out];have gr:=Blk.new j 279 (madeCells #[.slice none 0 0] (g+1));exact .inr ⟨j.heap.size,rfl,⟨gr.lt,dz (Zi _)⟩,λf _=>gr.frozen f,λf U=>⟨_,(gr.cell f).trans (mD _ _ _ U),[],rfl,Rd.nil _ _ _,λf g a h=>by simp at h⟩⟩
   obtain⟨gF,bx,bW,a8⟩:=H.madeC h3 (StL.new _ a2 _ 6);have h6:({dK d b with nc:=ao d.G+1,cm:=λ_=>[]}:LD)=jf d (λ_=>[]):=by rw [mp.out,Q.out];exact Fs d _
   rw [h6,aS]at bx;rw [aS]at bW a8;have cP:=(a7.mono (J':=JQ) (λf U=>by unfold JP at U;unfold JQ;omega)).trans (a8.mono (J':=JQ) (λf U=>by unfold JQ;omega));have fs:j.cell? ⟨c,8,none⟩=some a0.vc:=by have:=H.cells.2.2.2.2.2.2.2.2.1;rw [aS]at this;exact this
   have l6:j.frozen? ⟨c,8,none⟩=false:=by have:=H.box.frozen 8;rw [aS]at this;exact this
   have kS:=World.block_lt_of_cell? _ _ fs;have nj:=ae a2 fs;have n1:(j.alloc (.cells (madeCells #[.slice none 0 0] (g+1)) 279)).frozen? ⟨c,8,none⟩=false:=(World.frozen?_of_block (a:=⟨c,8,none⟩) (a2.block c kS)).trans l6;clear z B A C R al S cn ap G H a4 a7 a2 h3 aS fs l6 kS h6;obtain⟨bO,bE,cs⟩:=aK bx bW cP;clear bx bW cP
   go_upto_region 19 with fail
   generalize (j.alloc (.cells (madeCells #[.slice none 0 0] (g+1)) 279)).setCell ⟨c,8,none⟩ (.slice (some ⟨j.heap.size,0,none⟩) (g+1) (g+1))=w3 at *;clear nj n1 ga a8;obtain⟨bd,bo,be,bp,bg,bq,z,B,A,C,l⟩:=bO.out.gc (G:=d.G) (st:=d.st) (M:=c) rfl rfl F.out an.out Q.out bE.out;have o6:IntKind.i64.wrap ((L:Int)+1)=(L:Int)+1:=by rw [IntKind.wrap_i64];omega
   have op:L<=g:=by rw [T.out,F.out];unfold ao;omega
   clear B A C l ns kl
   go_wp2_with fail
   go_loopw [10] (λb2 cS=> ∃(p:Nat) (b4:LQ) (cm:Nat->List Co),L+1<=p/\p<=g+1/\b2= .int .i64 (p:Int)/\MK cS b4 (jf d cm) y/\b4.M=c/\StL JQ w1 K.ow cS b4.ow/\ ∀a:Nat,L+1<=a->a<p->gP d.G d.st a (cm a)) (λb2 _=>g+1 - (intOf b2).toNat)
   case atStart=>exact⟨L+1,gF,_,Zi _,by omega,by go_num,bO.out,bE.out,cs.out,λa t H=>by omega⟩
   case round=>
    clear bO bE cs z;obtain⟨p,b4,cm,oR,oS,rfl,hm,cB,ba,ea⟩:=hrel;obtain⟨bd,bo,be,bp,bg,bq,z,B,A,C,l⟩:=hm.gc (G:=d.G) (st:=d.st) (M:=c) rfl rfl F.out an.out Q.out cB;have n:=eW l d.st;rw [<-T.out]at n;by_cases oB:p<=g
    ·have nt:(p:Int)<=(g:Int):=(by omega);obtain⟨S,c5,ap,c7,al,R⟩:=aM hm cB ba ea n l;clear hm cB ba ea n l
     go_wp2_with fail
     refine al.out.mono ?_;rintro e m ⟨rfl,M⟩;have fd:Below wr.heap.size wr m.drew:=M.drew;have N:=S.out.below fd 2;obtain⟨s,a5⟩: ∃a:LQ,a={b4 with ow:=ext wr b4.ow 2}:=⟨_,rfl⟩;have a3:s.M=c:=(by rw [a5];exact c5.out);have a9:StL JQ w1 K.ow m.drew s.ow:=(by rw [a5];exact ap.out.trans (StL.new _ fd _ 2));rw [<-a5]at N;clear a5 fd M z B A C R al S c5 ap;rcases id N.c with⟨-,e⟩|⟨E,em,f1,kg,j2⟩
     ·exact absurd e (Nat.succ_ne_zero _)
     have el:p<ao d.G+1:=(by rw [<-T.out];omega);obtain⟨pp,h4,-⟩:=j2 p el;have ih:=kg p el;have ew:=N.cells.2.2.2.2.2.2.2.2.1;obtain⟨D,bY⟩: ∃a,a=(jf d cm).nc:=⟨_,rfl⟩;rw [em,a3,<-bY]at ew;have nx:D=g+1:=(by rw [bY,T.out];rfl);have o1:(p:Int)<(D:Int):=(by omega);have o2:p<D:=(by omega);have ny:D<=241:=(by omega);have ok: ¬E=c:=λe=>by have t:=f1.2;rw [e,<-a3,N.tm]at t;cases t
     have dF:=yq N (iU d cm) hs.out (s:=(p:Int)) (by show am d.G (p:Int)=true;unfold am ao;rw [<-F.out,<-an.out];have:=T.out;unfold ao at this;rw [<-F.out,<-an.out]at this;simp only [Bool.and_eq_true,decide_eq_true_eq];omega);rw [a3]at dF;unfold aq at dF;have kB:({s with ow:=ext m.drew s.ow 2}:LQ).vc= .slice (some ⟨E,0,none⟩) (jf d cm).nc (jf d cm).nc:=em;clear j2 kg nx bY;obtain⟨co,c3,cu,oa,mf,my,hk,mG⟩:=dA N a3 a9 em f1 el dF kB;clear N a3 a9 em f1 el dF kB
     go_wp2_with fail
     refine cQ (λbh=>bh.cell? ⟨c,8,none⟩=some (.slice (some ⟨E,0,none⟩) D D)) 7 8 (by kernel_rfl) (by kernel_rfl) ew ?_;simp only [Zg,Zh,Za,Zb]
     iterate 7
      refine bI ?_ (by rfl) (λwS hwS=> ?_) ?_
      rotate_left
      ·(try dsimp only at hwS)
       go_simp
       all_goals with_reducible rfl
      simp only [Act.put,Zd,Zf,Ze]
     refine bU ?_;generalize m.drew=w at *;refine ay ?_
     go_wp2_with fail
     refine hk.out.mono ?_;rintro e ey ⟨l2,out,rfl,cb,cO,ka⟩;obtain⟨pc,en,⟨r,i,o,rfl,ch⟩,ep⟩:=id cO;have k7:=ae cb ew;have od:=ae cb h4;have oj:ey.frozen? ⟨E,p,none⟩=false:=(World.frozen?_of_block (a:=⟨E,p,none⟩) (cb.block E mf.out.1)).trans ih;have cC:=co.out.below cb 2;have lx:StL (λ_=>False) w s.ow ey (ext w s.ow 2):=StL.new _ cb _ 2;have cO:=(jA.mono cO (F':=TF ey (ext w s.ow 2) (λX=>X=2)) (λv k=>⟨k.2,dz k.1⟩));obtain⟨bz,bb⟩:=cC.putC mG.out my.out cO;have ls:=(cu.out.trans (lx.mono (J':=JQ) (λ_ e=>e.elim))).trans (bb.mono (J':=JQ) (λf U=>by unfold JQ;omega));have kb: ∀a:Nat,L+1<=a->a<p+1->gP d.G d.st a (upd cm p out a):=λa t H=>by
      by_cases e:a=p
      ·subst e;rw [aC];exact ka
      ·rw [aN e];exact c7.out a t (by omega)
     have bz:MK _ {s with ow:=ext w s.ow 2} (jf d (upd cm p out)) y:=bz;clear cO cb cC lx bb en ch ep ew h4 ih hk co cu ka c7;obtain⟨m2,m5,mg,m3⟩:=aA bz ls kb k7;clear bz ls kb k7
     go_wp2_with fail
     refine⟨m3.out,cX ?_⟩
     go_wp2_with fail
     refine NoPanic.normal ?_
     go_wp2_with fail
     go_roundw
     case rel=>exact⟨p+1,_,_,by omega,by omega,by go_num,m2.out,c3.out,m5.out,mg.out⟩
     case measure=>simp [intOf];omega
    ·have nt: ¬(p:Int)<=(g:Int):=(by omega);obtain⟨S,c5,ap,c7,al,R⟩:=aM hm cB ba ea n l;clear hm cB ba ea n l
     go_wp2_with fail
     refine al.out.mono ?_;rintro e m ⟨rfl,M⟩;have k:=S.out.below M 2;have cj:StL JQ V q.ow m (ext wr b4.ow 2):=(m7.out.mono (J':=JQ) (λf U=>by unfold JP at U;unfold JQ;omega)).trans (ap.out.trans (StL.new _ M _ 2));obtain⟨c6,m6⟩:=av k cj;clear k cj
     go_wp2_with fail
     go_end0
     refine⟨rfl,_,cm,c6.out,c5.out.trans ht.out,m6.out,λa nD=> ?_⟩;have kK:=nD;unfold am ao at kK;simp only [Bool.and_eq_true,decide_eq_true_eq]at kK;have:=c7.out a.toNat (by have:=F.out;omega) (by have:=T.out;unfold ao at this;omega);rwa [show((a.toNat:Nat):Int)=a by omega]at this
end Go.Proofs.YthlbjgabhpdbfaaGreat

/- Lookaheads: what comes with a nonterminal. -/
import Derived.Test.YthlbjgabhpdbfaaGreatBLook7
import Derived.Scope
import Derived.WalkMore
set_option linter.unusedVariables false
set_option linter.unusedSimpArgs false
set_option maxRecDepth 100000
set_option maxHeartbeats 16000000
namespace Go.Proofs.YthlbjgabhpdbfaaGreat
open Go.Proofs.Tryz
open Bool renaming and_eq_true->Za
open List renaming length_append->Zb,length_map->Zc,length_singleton->Zd,mem_of_getElem?->Ze
open Nat renaming le_refl->Zf,lt_of_lt_of_le->Zg,zero_le->Zh
open Go.RowKit Go.Maps
attribute [local irreducible] wpStill aB aO
structure vV (d:LD):Prop where
 rl:d.rs.length=d.G.rules.length+1
 rs: ∀k:Nat,k<=d.G.rules.length->d.rs[k]? =some (rgt d.G d.st k)
 tll:d.tl.length=d.G.rules.length+1
 tl: ∀k:Nat,k<=d.G.rules.length-> ∃l,d.tl[k]? =some l/\l.length=(rgt d.G d.st k).length/\ ∀j:Nat,j<(rgt d.G d.st k).length->l[j]? =some ⟨lnB d.G ((rgt d.G d.st k).drop (j+1)),emB d.G ((rgt d.G d.st k).drop (j+1))⟩
 nu:d.nu=ao d.G+1
 ru: ∀s:Nat,s<=ao d.G->d.ru s=az d.G s
theorem TlV.at_ {V:World} {q:Nat->Nat} {A:Option Addr} {c m:Nat} {tl:List (List Tl)} (h:TlV V q A c m tl) {k:Nat} {l:List Tl} (n:tl[k]? =some l): ∃d a e b,A=some ⟨d,0,none⟩/\V.cell? ⟨d,k,none⟩=some (.slice a e b)/\ja V (TF V q (λv=>v=2)) m (.slice a e b) l/\tl.length<=c/\c<=9223372036854775807:=by
 obtain⟨r,x,i,u⟩:=h;have y:=(List.getElem?_eq_some_iff.1 n).1;obtain⟨g,p⟩: ∃g,r[k]? =some g:=⟨_,List.getElem?_eq_getElem (by omega)⟩;obtain⟨d,s,t,-,-⟩:=i.at_ p;have o:=u k g l p n;obtain⟨D,z,⟨a,e,b,rfl,B⟩,C⟩:=id o;obtain⟨_,w,f,j,hm⟩:=bH i.own;injection f with _ _ f
 rw [<-f]at j hm;exact⟨d,a,e,b,s,t,o,j,hm⟩
theorem MK.rowU {V:World} {q:LQ} {d:LD} {y:Dy} (h:MK V q d y) (b:vV d) {x:Nat} (m:x<=ao d.G): ∃a c g f,q.vu= .slice (some ⟨a,0,none⟩) (ao d.G+1) (ao d.G+1)/\V.cell? ⟨a,x,none⟩=some (.slice c g f)/\RdI V (TF V q.ow (λp=>p=5)) (.slice c g f) (az d.G x):=by
 rcases h.u with⟨-,e⟩|⟨a,s,e,i⟩
 ·have:=b.nu;omega
 ·rw [b.nu]at e i;obtain⟨j,n,k,r,l,o,-⟩:=i.at_ (k:=x) (by omega) (by decide);have:=o.rd;rw [b.ru x m]at this;exact⟨a,j,n,k,e,l,this⟩
theorem jX {G:ac} {st x k y:Int} {rest:List Int} (b:k∈az G x) (a:rgt G st k=y::rest):aw G st (k,0)=(y,true):=by
 obtain⟨d,e,rfl,c⟩:=lF.1 b;unfold rgt at a;exact tE (k:=0) (by rw [ju c]) (by rw [a];rfl)
theorem rM {G:ac} {st k y:Int} (h:aw G st (k,0)=(y,true)): ∃d,rgt G st k=y::d:=by
 unfold rgt;unfold aw at h
 split at h
 ·rename_i b
  simp only [Int.toNat_zero,Prod.mk.injEq]at h;obtain⟨a,-⟩:=h;cases e:(aD G st k).1.2 with
  |nil=>rw [e]at b;simp at b
  |cons f c=>
   rw [e]at a;simp at a;rw [a];exact⟨c,rfl⟩
 ·cases h
theorem infoCome:(prog.info? 293).map (λa=>(a.zero,a.size,a.bytes))=some (some (.agg #[.int .i64 0,.pointer none,.bool false]),3,24):=by kernel_rfl
theorem elemCome:dZ prog 279 293 (.agg #[.int .i64 0,.pointer none,.bool false]) 3 24:=⟨underlying279,infoCome,rfl,by decide⟩
def FrC (M:Nat) (s:Int) (mb:Nat) (A:Option Addr) (n c g off qn qc:Nat) (vs:Nat->Value):Act:={tmps:= #[.pointer (some ⟨M,0,none⟩),.int .i64 s,vs 2,vs 3,vs 4,.map (some mb),.slice A n c,.slice (some ⟨g,off,none⟩) qn qc,vs 8,vs 9,vs 10,vs 11,vs 12,vs 13,vs 14,vs 15,vs 16,vs 17,vs 18,vs 19,vs 20,vs 21,vs 22,vs 23,vs 24,vs 25,vs 26,vs 27,vs 28,vs 29,vs 30,vs 31,vs 32,vs 33,vs 34,vs 35,vs 36,vs 37,vs 38,vs 39,vs 40,vs 41,vs 42,vs 43,vs 44,vs 45,vs 46,vs 47,vs 48,vs 49,vs 50,vs 51,vs 52,vs 53,vs 54,vs 55,vs 56,vs 57,vs 58,vs 59,vs 60,vs 61,vs 62,vs 63,vs 64,vs 65,vs 66,vs 67,vs 68,vs 69,vs 70,vs 71,vs 72,vs 73,vs 74,vs 75,vs 76,vs 77,vs 78,vs 79,vs 80,vs 81,vs 82,vs 83,vs 84,vs 85,vs 86,vs 87,vs 88,vs 89,vs 90,vs 91,vs 92,vs 93,vs 94,vs 95,vs 96,vs 97,vs 98,vs 99,vs 100,vs 101,vs 102,vs 103,vs 104,vs 105,vs 106,vs 107,vs 108,vs 109,vs 110,vs 111,vs 112,vs 113,vs 114,vs 115,vs 116,vs 117,vs 118],defers:=[]}
theorem Bc {a:Act} {M:Nat} {s:Int} {b:Nat} {A:Option Addr} {n c g d f e:Nat} (h:a=FrC M s b A n c g d f e (λi=>(a.tmps.toList).getD i undef)): ∃j,a=FrC M s b A n c g d f e j:=⟨_,h⟩
def JC (V:World) (d:LD) (M T N:Nat) (s:Int) (κ:Nat) (a':Act) (w':World):Prop:= ∃(ow:Nat->Nat) (mb:Nat) (A:Option Addr) (n c g off qn qc:Nat) (out:List Co) (todo:List Nat) (ps:Nat->Nat) (foot:Nat->Nat->Prop),(∃vs,a'=FrC M s mb A n c g off qn qc vs)/\CoM V w' ow (T+1) mb A n c g off qn qc out todo (out.map Co.s) ps foot/\kL d.G d.st s out todo/\κ=2 * fo N (T+1) out+todo.length/\κ<=100000
theorem ae {V c:World} (b:Below V.heap.size V c) {a:Addr} {v:Value} (h:V.cell? a=some v):c.cell? a=some v:=(b.cell (World.block_lt_of_cell? _ _ h)).trans h
theorem Dt {b:Act->World->Prop} {a:Act} {w:World} (h:b a w):pY b .normal a w:=h
theorem yq {V:World} {q:LQ} {d:LD} {y:Dy} (h:MK V q d y) (iy:vV d) (R:KnA d.G d.st) {s:Int} (fT:am d.G s=true):
  Calls prog 226 #[aq q.M,.int .i64 s] V λe f8=> ∃lB out,e= .returned lB/\Below V.heap.size V f8/\jA f8 (λi=>V.heap.size<=i/\i<f8.heap.size) (d.T+1) lB out/\gP d.G d.st s out:=by
 obtain⟨E,ft⟩: ∃v,v=q.M:=⟨_,rfl⟩;obtain⟨g,hT⟩: ∃v,v=d.T:=⟨_,rfl⟩;obtain⟨J,ix⟩: ∃v,v=d.G.nons.length:=⟨_,rfl⟩;rw [<-ft,<-hT];have h7: ∀f,Below V.heap.size V f->Calls prog 225 #[.pointer (some ⟨E,0,none⟩),.slice none 0 0] f (Bl f (g+1) aj):=λf i=>by
  rw [ft,hT];exact wZ (h.below i 2).cells.1 R.t (Rd.nil _ _ _) (l:=[]) (F:=λ_=>False) (λ_ e=>e.elim)
 have kl:= @run_makeMap prog;have hg:=World.ownsMap_made V prog 3 (plainElem (H:=Unit) prog 3);have bo:=eO (n:=s) (by unfold am ao at fT;have B:=R.t;have L:=R.n;simp only [Za,decide_eq_true_eq]at fT;omega);obtain⟨co,cR,bu,mc,gc,cS,gd,ga⟩:=dA h iy R fT ft hT ix h7;clear h iy R fT ft hT ix h7;unfold aq
 go_enter func226,ntmps226
 go_wp2_with fail
 refine tN 0 (JC V d E g J s) rfl rfl rfl ?_ ?_
 ·go_wp2_with (refine kw _ rfl _ _ _ 296 rfl 3 3 intKeyed underlying296 _ V.heap.size 0 (.map []) rfl hg (by unfold maxLen;omega) _ _ _ rfl rfl bo _ [] (plainElem_int underlying3 (WalkArith.wf_i64 (by omega))) ?_)
  intro w1 bW fs;have le:Below V.heap.size V w1:=((Below.refl _ V).alloc (Zf _) _).grown fs (by simp) (λu e=>by injection e with e;omega);clear hg bo kl fs;obtain⟨hY,gr⟩:=av bW le;clear bW le
  go_wp2_with fail
  refine(ga.out _ gr.out).mono ?_;rintro e w2 ⟨i,lG,rfl,kM,iD,bx⟩;obtain⟨an,dO⟩:=CoM.start (t:=3) hY.out (iJ.empty.put s 0) gr.out kM iD bx;clear kM iD bx hY gr ga;have l3:=ab dO;clear dO
  go_wp2_with fail
  refine Dt ?_;refine⟨2 * fo J (g+1) [⟨s,aj,true⟩]+1,an,V.heap.size,some ⟨w2.heap.size,0,none⟩,1,1,w2.heap.size+1,0,1,1,[⟨s,aj,true⟩],[0],λ_=>i,λ_=>lG,Bc rfl,?_,?_,?_⟩
  ·exact l3.out
  ·exact kL.start mc.out
  ·refine⟨rfl,?_⟩;have B:=bu.out.n;have L:=bu.out.t;have cu:eI aj (g+1)<=g+1:=rZ _;have my:d.T=d.G.terms.length:=rfl;have od:(J - 1) * (g+1+2)<=120 * 123:=Nat.mul_le_mul (by rw [gd.out];omega) (by rw [cS.out];omega);unfold fo mJ;simp only [Zd,List.map_cons,List.map_nil,List.sum_cons,List.sum_nil,if_true];rw [<-cS.out]at my;omega
 ·clear kl hg bo;intro oF nk;rintro cC n4 c ⟨an,hp,br,a,a0,T,W,D,a5,out,I,N,ai,⟨oM,rfl⟩,x,ct,ei⟩;unfold FrC;subst nk;cases I with
  |nil=>
   have fL:D=0:=x.q.len;subst fL;obtain⟨eZ,lT,n3⟩:=aK x ct ei;clear x ct ei
   go_wp2_with fail
   simp only [Exit.jump]
   go_ret
   exact⟨_,out,rfl,eZ.out.le,eZ.out.rdco,lT.out.is (λv u y C dF=>rM dF)⟩
  |cons r hu=>
   have fL:D=hu.length+1:=by have:=x.q.len;simpa using this
   have kK:=x.q.cap;have nb:c.cell? ⟨T,W,none⟩=some (.int .i64 (r:Int)):=by have:=x.q.at_ 0 (r:Int) rfl;simpa using this
   unfold maxLen at kK;obtain⟨c6,cv⟩: ∃c6,out[r]? =some c6:=⟨_,List.getElem?_eq_getElem (ct.low r (List.mem_cons_self ..))⟩;obtain⟨oa,ms,f1,hn,k6,-,ls⟩:=x.at_ cv;have kn:=x.row.cap;have fw:(r:Int)<(a:Int):=by have:=x.lt cv;omega
   subst ms;have a1:=ct.pop cv;have ej:2 * fo J (g+1) out+hu.length<cC:=by rw [ei.1,List.length_cons];omega
   have k3:=ei.2;obtain⟨v,k1⟩: ∃v,v=c6.s:=⟨_,rfl⟩;obtain⟨t,k2⟩: ∃v,v=c6.self:=⟨_,rfl⟩;obtain⟨H,bp⟩: ∃v,v=N r:=⟨_,rfl⟩;have f0:=(ct.snd c6 (Ze cv)).2.1;rw [<-k1]at f1 a1 f0;rw [<-k2]at k6 a1;rw [<-bp]at hn;have hk:=f0;unfold am at hk;simp only [Za,decide_eq_true_eq]at hk;obtain⟨z,mt⟩:=Int.eq_ofNat_of_zero_le (show 0<=v by omega);subst mt;have np:ao d.G<=240:=by have:=bu.out.t;have:=bu.out.n;unfold ao;omega
   obtain⟨lE,nM,cA,n8,kT,g7,eA⟩:=co.out.rowU cR.out (x:=z) (by omega);obtain⟨hd,os,mR,-⟩:=RdI.at_ eA;unfold maxLen at mR;have op:cA<=300:=by rw [hd];have:=rN (G:=d.G) (s:=(z:Int));have:=bu.out.r;omega
   have eA:=eA.mono (F':=λi=>i<V.heap.size) (λi dF=>dF.1);have ey:=co.out.cells.2.2.2.2.2.2.2.1;rw [kT,<-gc.out]at ey;obtain⟨lx,kR⟩: ∃j,j=ao d.G+1:=⟨_,rfl⟩;rw [<-kR]at ey;have nr:(z:Int)<(lx:Int):=by omega
   have nq:lx<=241:=by omega
   have w:Below c.heap.size c (c.alloc (.cells #[.int .i64 (z:Int),.pointer (some ⟨H,0,none⟩),.bool t] 293)):=(Below.refl _ _).alloc (Zf _) _;have bP:Blk (c.alloc (.cells #[.int .i64 (z:Int),.pointer (some ⟨H,0,none⟩),.bool t] 293)) c.heap.size 293 #[.int .i64 (z:Int),.pointer (some ⟨H,0,none⟩),.bool t]:=Blk.new _ _ _;have c8:=x.pop.below w;have h9:ext c an 0 c.heap.size=0:=dz (Zf _);obtain⟨li,hf⟩: ∃p,p=if a5=1 then W else W+1:=⟨_,rfl⟩
   rw [<-hf]at c8;have m1:(if a5=1 then(some ⟨T,W,none⟩:Option Addr)else some ⟨T,W+1,none⟩)=some ⟨T,li,none⟩:=by rw [hf];split<;>rfl
   have m8:0<D:=by omega
   have nz:=(c8.le.cell (p:=⟨E,7,none⟩) (World.block_lt_of_cell? _ _ ey)).trans ey;have mL:=(c8.le.cell (p:=⟨lE,z,none⟩) (World.block_lt_of_cell? _ _ g7)).trans g7;have mu:=(bP.cell 0).trans rfl;obtain⟨hF,iN⟩: ∃hF,hF=c.heap.size:=⟨_,rfl⟩;unfold aq at hn;clear x ct ei kT g7 ey np hk w hf kR k1 k2;obtain⟨hH,hK,ba,e5,e6,G,n2,mo,hV,gk,mb,l4,mp,l2⟩:=dh c8 h9 a1 ej k3 bp f0 eA hd bP fL cv ls iN;clear c8 h9 a1 ej k3 bp f0 eA hd bP fL cv ls iN
   go_wp2_with fail
   generalize c.alloc (.cells #[.int .i64 (z:Int),.pointer (some ⟨H,0,none⟩),.bool t] 293)=w1 at *;refine aU (by kernel_rfl) (by kernel_rfl) ?_
   repeat still_step
   refine wpStill_nil ?_
   go_wp2_with fail
   have a2:Below w1.heap.size w1 w1.drew:=(Below.refl _ _).drew;have P:=hH.out.below a2;have ch:=gk.out.drew;have gM:ext w1 (ext c an 0) 0 c.heap.size=0:=(bV gk.out.lt).trans hK.out;obtain⟨nx,kE⟩: ∃p,p=ext w1 (ext c an 0) 0:=⟨_,rfl⟩;rw [<-kE]at P gM;clear nz mL mu a2 kE hH gk hK l2 m1 nr nq kK kn fw m8 f1 hn k6 nb mp;generalize w1.drew=w2 at *;obtain⟨bs,bd,hL⟩:=aK P ch gM;clear P ch gM
   go_loopw [6,7,44] (λnv nD hm wr=> ∃(M:Nat) (an:Nat->Nat) (br:Option Addr) (a a0 T W D a5:Nat) (out:List Co) (I:List Nat) (N:Nat->Nat) (ai:Nat->Nat->Prop),M<=cA/\hm= .int .i64 M/\nv= .slice br a a0/\nD= .slice (some ⟨T,W,none⟩) D a5/\CoM V wr an (g+1) hp br a a0 T W D a5 out I (out.map Co.s) N ai/\gq d.G d.st s out I r (z:Int) t M/\Blk wr c.heap.size 293 #[.int .i64 (z:Int),.pointer (some ⟨H,0,none⟩),.bool t]/\an c.heap.size=0/\H=N r/\2 * fo J (g+1) out+I.length<cC) (λ_ _ hm _=>cA - (intOf hm).toNat)
   case atStart=>exact⟨0,nx,_,a,a0,T,li,D - 1,a5 - 1,out,hu,N,ai,Zh _,rfl,rfl,rfl,bs.out,ba.out,bd.out,hL.out,G.out,e5.out⟩
   case round=>
    clear bs bd hL ba G e5 l4 mb;obtain⟨M,an,br,a,a0,T,W,D,a5,out,I,N,ai,oi,rfl,rfl,rfl,x,a1,bP,ih,bp,cx⟩:=hrel;by_cases m6:M<cA
    ·have m7:(M:Int)<(cA:Int):=(by omega);obtain⟨u,C⟩: ∃u,(az d.G z)[M]? =some u:=⟨_,List.getElem?_eq_getElem (by rw [<-hV.out];exact m6)⟩;obtain⟨a9,nA,rfl,kb⟩:=lF.1 (Ze C);have ka:a9<d.G.rules.length:=(List.getElem?_eq_some_iff.1 kb).1;obtain⟨-,-,-,i0⟩:=RdI.at_ (mo.out.below x.le (λi dF=>dF));obtain⟨n5,oB,rfl,-,n⟩:=i0 (by omega);have f1:=n M _ C;obtain⟨ob,nP,f2,n9,dn,u1,hv,ng,nj⟩:=co.out.r.at_ (cR.out.rs a9 (by omega));obtain⟨ev,ew,ex,f5,-,ht,b0,-⟩:=co.out.cells;obtain⟨nt,cy⟩: ∃a,a=d.rs.length:=⟨_,rfl⟩;obtain⟨n6,ce⟩: ∃a,a=q.cr:=⟨_,rfl⟩;rw [dn,<-cy,<-ce,<-gc.out]at ht;rw [<-cy,<-ce]at ng;rw [<-ce]at nj;rw [<-gc.out]at ev ew ex f5 b0;have m4:(a9:Int)<(nt:Int):=(by have:=cR.out.rl;omega);have ny:=ae x.le ht;have nE:=ae x.le u1;obtain⟨fF,ot,m0,g6⟩:=RdI.at_ hv;unfold maxLen at m0;have a2:Below wr.heap.size wr wr.drew:=(Below.refl _ _).drew;have P:=x.below a2;have ch:=bP.drew;have fi:ext wr an 0 c.heap.size=0:=(bV bP.lt).trans ih;clear i0 n kb nA bP ih x ht u1 a2;cases bC:rgt d.G d.st a9 with
     |nil=>
      have na:f2=0:=(by rw [fF,bC];rfl);subst na;have c7:=a1.skip C (λy X e=>by rw [bC]at e;cases e);clear ev ew ex f5 b0 g6 hv fF a1;obtain⟨bs,bd,cO,f9,cp,bc,G,cr,l8,l5,l1⟩:=fa P ch fi c7 C bC bp cx cy ce dn;clear P ch fi c7 C bC bp cx cy ce dn
      go_wp2_with fail
      refine wp_region_held_drew (S:=(λf=>True)) (by kernel_rfl) ?_ (λhHeld=> ?_)
      ·exact trivial
      generalize wr.drew=bq at *;refine tZ 0 ?_;try simp only [Act.put,sT,s0,s1]
      refine tZ 1 ?_;try simp only [Act.put,sT,s0,s1]
      refine tZ 2 ?_;try simp only [Act.put,sT,s0,s1]
      refine tZ 3 ?_;try simp only [Act.put,sT,s0,s1]
      refine tk (i:=4) (oi:= ?_) (v:=undef) ?_ (by kernel_rfl) ?_ (Or.inr ⟨?_,rfl⟩) (by assumption) ?_;rotate_left 1;(focus((try simp only [gT,gs,gz]);try rfl));exact λ_ _ _ h=>h;rfl;try simp only [Act.put,sT,s0,s1]
      refine tk (i:=5) (oi:= ?_) (v:=undef) ?_ (by kernel_rfl) ?_ (Or.inr ⟨?_,rfl⟩) (by assumption) ?_;rotate_left 1;(focus((try simp only [gT,gs,gz]);try rfl));exact λ_ _ _ h=>h;rfl;try simp only [Act.put,sT,s0,s1]
      refine tk (i:=6) (oi:= ?_) (v:=undef) ?_ (by kernel_rfl) ?_ (Or.inr ⟨?_,rfl⟩) (by assumption) ?_;rotate_left 1;(focus((try simp only [gT,gs,gz]);try rfl));exact λ_ _ _ h=>h;rfl;try simp only [Act.put,sT,s0,s1]
      refine tk (i:=7) (oi:= ?_) (v:=undef) ?_ (by kernel_rfl) ?_ (Or.inr ⟨?_,rfl⟩) (by assumption) ?_;rotate_left 1;(focus((try simp only [gT,gs,gz]);try rfl));exact λ_ _ _ h=>h;rfl;try simp only [Act.put,sT,s0,s1]
      refine tk (i:=8) (oi:= ?_) (v:=undef) ?_ (by kernel_rfl) ?_ (Or.inr ⟨?_,rfl⟩) (by assumption) ?_;rotate_left 1;(focus((try simp only [gT,gs,gz]);try rfl));exact λ_ _ _ h=>h;rfl;try simp only [Act.put,sT,s0,s1]
      refine tk (i:=9) (oi:= ?_) (v:=undef) ?_ (by kernel_rfl) ?_ (Or.inr ⟨?_,rfl⟩) (by assumption) ?_;rotate_left 1;(focus((try simp only [gT,gs,gz]);try rfl));exact λ_ _ _ h=>h;rfl;try simp only [Act.put,sT,s0,s1]
      refine tk (i:=10) (oi:= ?_) (v:=undef) ?_ (by kernel_rfl) ?_ (Or.inr ⟨?_,rfl⟩) (by assumption) ?_;rotate_left 1;(focus((try simp only [gT,gs,gz]);try rfl));exact λ_ _ _ h=>h;rfl;try simp only [Act.put,sT,s0,s1]
      refine tk (i:=11) (oi:= ?_) (v:=undef) ?_ (by kernel_rfl) ?_ (Or.inr ⟨?_,rfl⟩) (by assumption) ?_;rotate_left 1;(focus((try simp only [gT,gs,gz]);try rfl));exact λ_ _ _ h=>h;rfl;try simp only [Act.put,sT,s0,s1]
      refine tk (i:=12) (oi:= ?_) (v:=undef) ?_ (by kernel_rfl) ?_ (Or.inr ⟨?_,rfl⟩) (by assumption) ?_;rotate_left 1;(focus((try simp only [gT,gs,gz]);try rfl));exact λ_ _ _ h=>h;rfl;try simp only [Act.put,sT,s0,s1]
      refine tZ 13 ?_;try simp only [Act.put,sT,s0,s1]
      refine wpAnyH_done (by kernel_rfl) ?_ _
      go_wp2_with fail
      go_roundw
      case rel=>exact⟨M+1,_,br,a,a0,T,W,D,a5,out,I,N,ai,by omega,by go_num,rfl,rfl,bs.out,f9.out,bd.out,cO.out,G.out,cr.out⟩
      case measure=>simp [intOf];omega
     |cons y0 X=>
      have kv:f2=X.length+1:=(by rw [fF,bC];rfl);obtain⟨fd,f4,rfl,-,j0⟩:=g6 (by omega);have f6:=j0 0 y0 (by rw [bC];rfl);rw [Nat.add_zero]at f6;have ou:0<f2:=(by omega);have ov:((f2:Int)==0)=false:=(by simp;omega);clear j0 g6 hv fF;obtain⟨hC,g3⟩: ∃cl,cl=Value.slice q.A1 d.G.terms.length q.c1:=⟨_,rfl⟩;obtain⟨hD,g4⟩: ∃cl,cl=Value.slice q.A2 d.G.nons.length q.c2:=⟨_,rfl⟩;obtain⟨hE,g5⟩: ∃cl,cl=Value.slice q.A3 d.G.rules.length q.c3:=⟨_,rfl⟩;have dd:=iV ((co.out.below P.le 2).g) d.st y0;simp only at dd;rw [<-g3,<-g4,<-g5]at dd;rw [<-g3]at ev;rw [<-g4]at ew;rw [<-g5]at ex;have s0:=ae P.le ev;have s1:=ae P.le ew;have hw:=ae P.le ex;have hx:=ae P.le f5;have cB:=ae P.le f6;have hl:am d.G y0=true-> -9223372036854775808<=y0/\y0<=9223372036854775807:=λe=>by
       unfold am ao at e;simp only [Za,decide_eq_true_eq]at e;have B:=bu.out.t;have L:=bu.out.n;omega
      clear ev ew ex f5 g3 g4 g5;have kG: ∀f,Below wr.drew.heap.size wr.drew f->(f.cell? ⟨E,0,none⟩=some hC/\f.cell? ⟨E,1,none⟩=some hD/\f.cell? ⟨E,2,none⟩=some hE/\f.cell? ⟨E,3,none⟩=some (.int .i64 d.st)/\f.cell? ⟨fd,f4,none⟩=some (.int .i64 y0)):=λf i=>⟨ae i s0,ae i s1,ae i hw,ae i hx,ae i cB⟩
      obtain⟨nu,he⟩: ∃i,i=am d.G y0:=⟨_,rfl⟩;rw [<-he]at dd hl;obtain⟨bs,bd,cO,ba,cp,bc,G,cr,l8,l5,l1,hR,cT,mf⟩:=dh P ch fi a1 C bC bp cx cy ce dn ka he hl;obtain⟨hJ,hW,n1,ca,h4⟩:=aX dd kG kv b0 f6;clear P ch fi a1 C bC bp cx cy ce dn ka he hl dd kG kv b0 f6
      go_wp2_with fail
      refine wp_region_held_drew (S:=(λf=>f.cell? ⟨E,0,none⟩=some hC/\f.cell? ⟨E,1,none⟩=some hD/\f.cell? ⟨E,2,none⟩=some hE/\f.cell? ⟨E,3,none⟩=some (.int .i64 d.st)/\f.cell? ⟨fd,f4,none⟩=some (.int .i64 y0))) (by kernel_rfl) ?_ (λhHeld=> ?_)
      ·exact⟨s0,s1,hw,hx,cB⟩
      clear s0 s1 hw hx cB ny nE m4 f1;obtain⟨bY,bG⟩: ∃p,p=ext wr an 0:=⟨_,rfl⟩;rw [<-bG]at bs cO;clear bG;generalize wr.drew=bq at *;refine tZ 0 ?_;try simp only [Act.put,sT,s0,s1]
      refine tZ 1 ?_;try simp only [Act.put,sT,s0,s1]
      refine tZ 2 ?_;try simp only [Act.put,sT,s0,s1]
      refine tZ 3 ?_;try simp only [Act.put,sT,s0,s1]
      refine tZ 4 ?_;try simp only [Act.put,sT,s0,s1]
      refine tZ 5 ?_;try simp only [Act.put,sT,s0,s1]
      refine tZ 6 ?_;try simp only [Act.put,sT,s0,s1]
      refine tZ 7 ?_;try simp only [Act.put,sT,s0,s1]
      refine tZ 8 ?_;try simp only [Act.put,sT,s0,s1]
      refine tZ 9 ?_;try simp only [Act.put,sT,s0,s1]
      refine tZ 10 ?_;try simp only [Act.put,sT,s0,s1]
      refine wpAnyH_ready (rs:=[11]) (by kernel_rfl) (by simp) ?_;refine AllReadyH.cons (o:= ?_) ?_ (λcG R=> ?_) AllReadyH.nil;rotate_left 1;(focus((try simp only [gT,gs,gz]);try rfl))
      go_simp
      go_at_call 148
      refine hJ.out.mono ?_;rintro e w5 ⟨rfl,fc⟩;have hB:=hW.out w5 fc;have gE:=bs.out.below fc;have k8:=bd.out.below fc bd.out.lt;have gW:ext bq bY 0 c.heap.size=0:=(bV bd.out.lt).trans cO.out;obtain⟨hq,ky⟩: ∃p,p=ext bq bY 0:=⟨_,rfl⟩;rw [<-ky]at gE gW;clear fc hJ hW bs bd cO hHeld ky;obtain⟨cI,bb,b7,cn⟩:=aA hB gE k8 gW;clear hB gE k8 gW;refine R.out _ _ ?_ (λhHeld=> ?_)
      ·exact cI.out
      clear R cG
      try simp only [Act.put,sT,s0,s1]
      refine tZ 12 ?_;try simp only [Act.put,sT,s0,s1]
      refine tZ 13 ?_;try simp only [Act.put,sT,s0,s1]
      refine wpAnyH_done (by kernel_rfl) ?_ _;cases nu with
      |false=>
       have c7:=ba.out.skip cp.out (λy oC e=>by rw [bc.out]at e;injection e with e _;rw [<-e];exact cT.out.symm);have f9:=ab c7;clear c7;clear hHeld cI
       go_wp2_with fail
       go_roundw
       case rel=>exact⟨M+1,_,br,a,a0,T,W,D,a5,out,I,N,ai,by omega,by go_num,rfl,rfl,bb.out,f9.out,b7.out,cn.out,G.out,cr.out⟩
       case measure=>simp [intOf];omega
      |true=>
       have cB:=cI.out.2.2.2.2;obtain⟨cE,g2,bW,en,em⟩:=bb.out.map;have bo:=eO (mf.out (by first|rfl|trivial));have d4:=en.has y0
       -- the tails
       obtain⟨lt,kc,kg,kf⟩:=cR.out.tl a9 (by have:=hR.out;omega);obtain⟨gT,nG,cz,fh,eT,lA,lm,nm,no⟩:=co.out.t.at_ kc;have fx:=kf 0 (by rw [bc.out];simp);rw [bc.out]at fx;simp only [List.drop_succ_cons,List.drop_zero]at fx;obtain⟨ks,ow,nn,fv⟩:=lm.at_;have kt:cz=X.length+1:=(by rw [ks,kg,bc.out];rfl);obtain⟨Z,al,rfl,-,fv⟩:=fv (by omega);obtain⟨cj,hr,et,eg⟩:=fv 0 _ fx;rw [Nat.zero_mul,Nat.add_zero]at hr et;obtain⟨cj,rfl⟩:=eg.ptr;simp only at et eg;rw [<-cS.out]at eg;unfold maxLen at nn;have on:0<cz:=(by omega);obtain⟨a8,g8⟩: ∃i,i=emB d.G X:=⟨_,rfl⟩;obtain⟨fg,dS⟩: ∃a,a=q.ct:=⟨_,rfl⟩;obtain⟨er,fz⟩: ∃a,a=d.tl.length:=⟨_,rfl⟩;have oj:(a9:Int)<(er:Int):=(by have:=cR.out.tll;have:=hR.out;omega);have b0:=ca.out;rw [eT,<-dS,<-fz]at b0;rw [<-dS,<-fz]at nm;rw [<-dS]at no;rw [<-g8]at et;clear kc kg kf fx lm ks fv eT ca;obtain⟨ca,fb,e8,e9,cs,gg,nR,nX,n0⟩:=dQ b0 lA hr et eg g8 dS fz kt;clear b0 lA hr et eg g8 dS fz kt;by_cases S:y0∈out.map Co.s
       ·obtain⟨m,hi⟩:=List.mem_iff_getElem?.1 S;have d3:g2 y0=some (m:Int):=(em y0 m).2 ⟨m,rfl,hi⟩;have ns:Maps.has cE (gS y0)=true:=(by rw [d4,d3];rfl);have iS:=en.at_ y0 m d3 (.lit (.int .i64 0));obtain⟨k,cw,d2⟩: ∃k,out[m]? =some k/\k.s=y0:=by
         rw [List.getElem?_map]at hi;exact Option.map_eq_some_iff.1 hi
        clear d4 en em d3 S hi;obtain⟨hP,o,e3⟩:=aK iS cw d2;clear iS cw d2
        go_wp2_with (at_lookup;refine wpList_lookup_own_ok_int _ rfl _ _ 296 rfl 3 3 .i64 intKeyed underlying296 underlying3 (zeroInt _) _ _ cE rfl bW _ _ rfl bo ?_;intro l bi hj)
        have n:l=(m:Int):=by
         rw [hP.out]at bi;injection bi with bi
         injection bi with _ bi
         exact bi.symm
        subst n;clear bi hj ns bo bW hP hHeld cI cB
        go_wp2_with fail
        have a2:Below w5.heap.size w5 w5.drew:=(Below.refl _ _).drew;have b:=bb.out.below a2;have a4:=b7.out.drew;have cd:ext w5 hq 0 c.heap.size=0:=(bV b7.out.lt).trans cn.out;obtain⟨bY,bG⟩: ∃p,p=ext w5 hq 0:=⟨_,rfl⟩;rw [<-bG]at b cd;obtain⟨bh,gO,-,c4,bx,dr,eB⟩:=b.at_ o.out;subst gO;have S:=b.lt o.out;have m2:(m:Int)<(a:Int):=(by omega);have mG:=b.row.cap;have c0:=ae b.le ca.out;have c3:=ae b.le fb.out;have c1:=ae b.le e8.out;have c2:=ae b.le e9.out;have eE:w5.drew.cell? ⟨c.heap.size,0,none⟩=some (.int .i64 (z:Int)):=(a4.cell 0).trans rfl;have eG:w5.drew.cell? ⟨c.heap.size,1,none⟩=some (.pointer (some ⟨H,0,none⟩)):=(a4.cell 1).trans rfl;have eQ:w5.drew.cell? ⟨c.heap.size,2,none⟩=some (.bool t):=(a4.cell 2).trans rfl;obtain⟨l,n,-,-,-⟩:=ba.out.cur;have d6:=b.lt n;have bg:=uU (V:=w5.drew) (M:=E) (g:=bh) (o:=m * 3) (bt:=N m) (m:=g+1) (px:= .pointer (some ⟨H,0,none⟩)) (pt:= .pointer cj) (fx:=l.f) (ft:=lnB d.G X) (Fx:=ai r) (Ft:=TF V q.ow (λj=>j=2)) (S:=ai m) (s:=(z:Int)) (xs:=t) (em:=a8) (d:=k) (.inr ⟨H,_,rfl,by rw [G.out];exact b.set r l n,λ_ h=>h⟩) (cs.out.touch (aa.of_size b.le (λ_=>False)) (λ_ _ h=>h)) (b.set m k o.out) c4 bx dr (λe=>by have:=b.tag m bh S e;rw [eB]at this;omega)
         (by
          by_cases e:r=m
          ·left
           have:l=k:=by
            rw [e]at n
            have:=o.out
            rw [n]at this
            injection this
           exact⟨by rw [G.out,e],by rw [this]⟩
          ·right
           exact λu B L=>by have fs:=b.tag r u d6 B;have mx:=b.tag m u S L;omega)
         (λu B L=>by have:=b.low (b:=u) (by rw [b.tag m u S L];omega);have:=B.1;omega) (λu C=>(b.set r l n).lt u C) (λu C=>Zg C.1 b.le.size)
        obtain⟨A,bl⟩: ∃v,v=bF (iE (g+1) t l.f) t l.f (lnB d.G X) a8 k:=⟨_,rfl⟩;rw [<-bl]at bg;have dt:=vA (m:=g+1) (xs:=t) (fx:=l.f) (b.set r l n).high;have ea: ∀j,d.G.terms.length+1<=j->lnB d.G X j=false:=λj U=>cs.out.high j (by rw [cS.out];exact U)
        have d5: ∀j,g+1<=j->A.f j=false:=λj U=>by
         rw [bl];unfold bF
         split
         ·simp only [(b.set m k o.out).high j U,(b.set r l n).high j U,cs.out.high j U,Bool.and_false,Bool.or_false]
         ·exact(b.set m k o.out).high j U
        unfold aq at bg;clear a2 bG c4 bx dr eB d6 bb b7 cn;obtain⟨cM,b8,b6,cN,e2,e1,gi,F,gh⟩:=dQ b a4 cd bg n dt ea bl d5;clear b a4 cd bg n dt ea bl d5;refine wp_region_held_drew (S:=(λf=>f.cell? ⟨c.heap.size,0,none⟩=some (.int .i64 (z:Int))/\f.cell? ⟨c.heap.size,1,none⟩=some (.pointer (some ⟨H,0,none⟩))/\f.cell? ⟨c.heap.size,2,none⟩=some (.bool t)/\f.cell? ⟨E,6,none⟩=some (.slice (some ⟨gT,0,none⟩) er fg)/\f.cell? ⟨gT,a9,none⟩=some (.slice (some ⟨Z,al,none⟩) cz fh)/\f.cell? ⟨Z,al,none⟩=some (.pointer cj)/\f.cell? ⟨Z,al+1,none⟩=some (.bool a8))) (by kernel_rfl) ?_ (λhHeld=> ?_)
        ·exact⟨eE,eG,eQ,c0,c3,c1,c2⟩
        clear eE eG eQ c0 c3 c1 c2;generalize w5.drew=bq at *;refine tZ 0 ?_;try simp only [Act.put,sT,s0,s1]
        refine tZ 1 ?_;try simp only [Act.put,sT,s0,s1]
        refine tZ 2 ?_;try simp only [Act.put,sT,s0,s1]
        refine tZ 3 ?_;try simp only [Act.put,sT,s0,s1]
        refine tZ 4 ?_;try simp only [Act.put,sT,s0,s1]
        refine tZ 5 ?_;try simp only [Act.put,sT,s0,s1]
        refine tZ 6 ?_;try simp only [Act.put,sT,s0,s1]
        refine tZ 7 ?_;try simp only [Act.put,sT,s0,s1]
        refine tZ 8 ?_;try simp only [Act.put,sT,s0,s1]
        refine tZ 9 ?_;try simp only [Act.put,sT,s0,s1]
        refine tZ 10 ?_;try simp only [Act.put,sT,s0,s1]
        refine tZ 11 ?_;try simp only [Act.put,sT,s0,s1]
        refine tZ 12 ?_;try simp only [Act.put,sT,s0,s1]
        refine tZ 13 ?_;try simp only [Act.put,sT,s0,s1]
        refine wpAnyH_ready (rs:=[14]) (by kernel_rfl) (by simp) ?_;refine AllReadyH.cons (o:= ?_) ?_ (λcG R=> ?_) AllReadyH.nil;rotate_left 1;(focus((try simp only [gT,gs,gz]);try rfl))
        go_simp
        go_at_call 254
        refine cN.out.mono ?_;rintro e w7 cg;have ak:=cg.ret;subst ak;obtain⟨K,ck⟩:=cM.out.hand o.out (by rw [F.out];exact iB) rfl cg;have a3:=b8.out.touch ck.t (by rw [b6.out];omega);have cc:ext bq bY 0 c.heap.size=0:=(ck.eq _ b8.out.lt).trans b6.out;have cH:w7.cell? ⟨c.heap.size,0,none⟩=some (.int .i64 (z:Int))/\w7.cell? ⟨c.heap.size,1,none⟩=some (.pointer (some ⟨H,0,none⟩))/\w7.cell? ⟨c.heap.size,2,none⟩=some (.bool t)/\w7.cell? ⟨E,6,none⟩=some (.slice (some ⟨gT,0,none⟩) er fg)/\w7.cell? ⟨gT,a9,none⟩=some (.slice (some ⟨Z,al,none⟩) cz fh)/\w7.cell? ⟨Z,al,none⟩=some (.pointer cj)/\w7.cell? ⟨Z,al+1,none⟩=some (.bool a8):=⟨(a3.cell 0).trans rfl,(a3.cell 1).trans rfl,(a3.cell 2).trans rfl,ae K.le ca.out,ae K.le fb.out,ae K.le e8.out,ae K.le e9.out⟩;obtain⟨f3,ed⟩: ∃p,p=ext bq bY 0:=⟨_,rfl⟩;rw [<-ed]at K cc;have eb:(out.set m A).map Co.s=out.map Co.s:=by
         rw [List.map_set,show A.s=k.s by rw [F.out];exact iB];exact l9 (by rw [List.getElem?_map,o.out];rfl)
        clear cg ck ed hHeld cN cM b8 b6;obtain⟨b4,Y,O,bt,e4⟩:=aX cH K a3 cc eb;clear cH K a3 cc eb;refine R.out _ _ ?_ (λhHeld=> ?_)
        ·exact b4.out
        clear R cG
        try simp only [Act.put,sT,s0,s1]
        obtain⟨gB,cf⟩: ∃i,i=fU (g+1) k A:=⟨_,rfl⟩;rw [<-cf];have gf:=ab cf;clear cf;cases gB with
        |true=>
         refine tZ 15 ?_;try simp only [Act.put,sT,s0,s1]
         refine tk (i:=16) (oi:= ?_) (v:=undef) ?_ (by kernel_rfl) ?_ (Or.inr ⟨?_,rfl⟩) (by assumption) ?_;rotate_left 1;(focus((try simp only [gT,gs,gz]);try rfl));exact λ_ _ _ h=>h;rfl;try simp only [Act.put,sT,s0,s1]
         refine tk (i:=17) (oi:= ?_) (v:=undef) ?_ (by kernel_rfl) ?_ (Or.inr ⟨?_,rfl⟩) (by assumption) ?_;rotate_left 1;(focus((try simp only [gT,gs,gz]);try rfl));exact λ_ _ _ h=>h;rfl;try simp only [Act.put,sT,s0,s1]
         refine tZ 18 ?_;try simp only [Act.put,sT,s0,s1]
         refine wpAnyH_done (by kernel_rfl) ?_ _;have a7:=(ba.out.push (i:=m) (List.getElem?_eq_some_iff.1 o.out).1).hand cp.out bc.out cT.out.symm e2.out o.out e3.out (by simp) e1.out gi.out;rw [<-gg.out,<-F.out]at a7;have ep:2 * fo J (g+1) (out.set m A)+(I++[m]).length<cC:=by
          have B:=uT (N:=J) (M:=g+1) (d':=A) o.out (by rw [F.out];exact xo (by rw [<-F.out];exact gf.out.symm));have L:=cr.out;rw [Zb,Zd];omega
         obtain⟨cm,b9⟩:=av a7 ep;clear a7 ep;rw [<-e4.out]at Y;have w:Below w7.heap.size w7 (w7.alloc (.cells #[.int .i64 (m:Int)] 3)):=(Below.refl _ _).alloc (Zf _) _;have Q:=Y.out.below w;have bR:=O.out.below w O.out.lt;have bz:ext w7 f3 0 c.heap.size=0:=(bV O.out.lt).trans bt.out;have bB:(w7.alloc (.cells #[.int .i64 (m:Int)] 3)).cell? ⟨w7.heap.size,0,none⟩=some (.int .i64 (m:Int)):=(Blk.new w7 3 #[.int .i64 (m:Int)]).cell 0;have bO:=Q.le.size;have ee:D<=100000:=by
          have B:=b9.out;have L:=e6.out;have cu:=Q.q.len;rw [Zc]at cu;rw [Zb,Zd]at B;omega
         clear w Y O bt b4 hHeld;obtain⟨ap,aT,aS,bw⟩:=aA Q bR bz bB;clear Q bR bz bB
         go_wp2_with (at_builtin;refine ql rfl (.tmp 114) (.tmp 116) rfl ap.out.q rfl rfl bw.out (by omega) bO ?_)
         intro ds es c5 w9 b1 b2 bE;obtain⟨ad,a6⟩:=ap.out.push b1 b2 (bE.imp id (λh=>by simpa using h));have bS:=aT.out.touch a6.t (by rw [aS.out];omega);have bA:=(a6.eq _ aT.out.lt).trans aS.out;clear b1 b2 bE a6 ap aT aS bw bO ee;obtain⟨b5,cU,cP⟩:=aK ad bS bA;clear ad bS bA
         go_wp2_with fail
         go_roundw
         case rel=>exact⟨M+1,_,some ⟨bh,0,none⟩,a,a0,ds,es,D+1,c5,out.set m A,I++[m],N,ai,by omega,by go_num,rfl,rfl,b5.out,cm.out,cU.out,cP.out,G.out,b9.out⟩
         case measure=>simp [intOf];omega
        |false=>
         refine tZ 15 ?_;try simp only [Act.put,sT,s0,s1]
         refine tZ 16 ?_;try simp only [Act.put,sT,s0,s1]
         refine tZ 17 ?_;try simp only [Act.put,sT,s0,s1]
         refine tZ 18 ?_;try simp only [Act.put,sT,s0,s1]
         refine wpAnyH_done (by kernel_rfl) ?_ _;have ak:=xm (al:=iE (g+1) t l.f) (xs:=t) (fx:=l.f) (ln:=lnB d.G X) (em:=a8) (d:=k) (M:=g+1) (by rw [<-F.out];exact gf.out.symm) (by rw [<-F.out];exact gh.out);have a7:=ba.out.same cp.out bc.out cT.out.symm e2.out o.out e3.out e1.out (by rw [<-gg.out];exact ak);rw [<-F.out]at ak;have ad:=Y.out;rw [ak,l9 o.out]at ad;clear Y hHeld b4;obtain⟨cm,b5,nT⟩:=aK a7 ad ak;clear a7 ad ak
         go_wp2_with fail
         go_roundw
         case rel=>exact⟨M+1,_,some ⟨bh,0,none⟩,a,a0,T,W,D,a5,out,I,N,ai,by omega,by go_num,rfl,rfl,b5.out,cm.out,O.out,bt.out,G.out,cr.out⟩
         case measure=>simp [intOf];omega
       ·have kr:g2 y0=none:=by
         cases d3:g2 y0 with
         |none=>rfl
         |some cl=>
          obtain⟨ox,-,m3⟩:=(em y0 cl).1 d3;exact absurd (Ze m3) S
        have m9:Maps.has cE (gS y0)=false:=(by rw [d4,kr];rfl);have be:=ba.out.new (Ze cp.out) bc.out cT.out.symm S (λu y X nc C=>jX C nc);have m5:=be.toCoSt.len;rw [Zb,Zd,<-gd.out]at m5;have og:J<=120:=(by rw [gd.out];exact bu.out.n);have hb:a=(out.map Co.s).length:=(by rw [Zc];exact bb.out.hn);have hc:out.length=a:=bb.out.hn.symm;have ok:a+1<=120:=(by omega);have g9:(out.map Co.s).length<maxLen:=(by rw [<-hb];unfold maxLen;omega);have kn:=bb.out.row.cap;have k0:(Lit.int .i64 (a:Int)).wf=true:=ii (by omega);have ec:=Cc (N:=J) (M:=g+1) (y:=y0) (out:=out) (by omega);rw [hc]at be;obtain⟨w6,nl,el,iv⟩:=bW.update intKeyed underlying296 g9 bo (plainElem_int underlying3 k0);clear d4 kr;obtain⟨cK,hS,h1,h0,ma,hU,l6,hQ,hZ,hN⟩:=fp be ec en em hb hc g9 S el iv;clear be ec en em hb hc g9 S el iv
        go_wp2_with (at_lookup;refine wpList_lookup_own_ok_int _ rfl _ _ 296 rfl 3 3 .i64 intKeyed underlying296 underlying3 (zeroInt _) _ _ cE rfl bW _ _ rfl bo ?_;intro l bi hj)
        clear bi hj m9 nl;have la:w6.ownsMap prog 3 (plainElem prog 3) hp ((out.map Co.s).length+1) (cE.put (gS y0) (.lit (.int .i64 ((out.map Co.s).length:Int)))):=(by have el:=hZ.out;rw [<-ma.out]at el⊢;exact el);obtain⟨c9,hz⟩:=bb.out.meet h1.out h0.out hQ.out la hN.out;have ho:=b7.out.touch hz.t (by rw [cn.out];omega);have g0:=(hz.eq _ b7.out.lt).trans cn.out;have lo:=ae c9.le h4.out;obtain⟨ld,kz⟩: ∃p,p=ext w5 hq 4:=⟨_,rfl⟩;rw [<-kz]at c9 g0;have kk:out.map Co.s++[y0]=(out++[(⟨y0,aj,false⟩:Co)]).map Co.s:=(by simp);rw [kk]at c9;have h8:Below w6.heap.size w6 w6.drew:=(Below.refl _ _).drew;have gF:=c9.below h8;have k9:=ho.drew;have g1:ext w6 ld 0 c.heap.size=0:=(bV ho.lt).trans g0;obtain⟨oz,kA⟩: ∃p,p=ext w6 ld 0:=⟨_,rfl⟩;rw [<-kA]at gF g1;have lr:w6.drew.cell? ⟨fd,f4,none⟩=some (.int .i64 y0):=lo;clear hZ la hN hz bo bW k0 kz kk h8 c9 ho g0 kA cB bb b7 cn cI hHeld h1 h0 l6 hQ;obtain⟨e0,gm,gb⟩:=aK gF k9 g1;clear gF k9 g1;refine cQ (λf=>f.cell? ⟨fd,f4,none⟩=some (.int .i64 y0)) 5 9 (by kernel_rfl) (by kernel_rfl) lo ?_;simp only [List.take_succ_cons,List.take_zero,List.drop_succ_cons,List.drop_zero]
        iterate 5
         refine bI ?_ (by rfl) (λwS hwS=> ?_) ?_
         rotate_left
         ·(try dsimp only at hwS)
          go_simp
          all_goals with_reducible rfl
         simp only [Act.put,List.setIfInBounds_toArray,List.set_cons_zero,List.set_cons_succ]
        refine bU ?_;generalize w6.drew=oP at *;refine ay ?_
        go_wp2_with fail
        refine(ga.out _ e0.out.le).mono ?_;rintro e b3 ⟨i,lR,rfl,kP,iF,gA⟩;have hA:=ae gA lr;obtain⟨hX,hO,eX⟩:=aK kP iF gA;clear kP iF gA
        go_wp2_with fail
        refine⟨hA,ay ?_⟩;unfold aq
        go_wp2_with fail
        refine⟨hA,ay ?_⟩;have w:Below b3.heap.size b3 (b3.alloc (.cells #[.int .i64 y0,.pointer (some ⟨i,0,none⟩),.bool false] 293)):=(Below.refl _ _).alloc (Zf _) _;have nC:=ae w hA;have ln:Rd (b3.alloc (.cells #[.int .i64 y0,.pointer (some ⟨i,0,none⟩),.bool false] 293)) (λv=>v=b3.heap.size) (.slice (some ⟨b3.heap.size,0,none⟩) 1 1) 3 [.int .i64 y0,.pointer (some ⟨i,0,none⟩),.bool false]:=Rd.one' (w:=b3) (e:=293) [.int .i64 y0,.pointer (some ⟨i,0,none⟩),.bool false] 3 rfl;have lj:=(e0.out.row.step (StL.new (λ_=>False) (eX.out.trans (w.mono eX.out.size)) _ 0) (λe=>e)).own;obtain⟨hG,h3,h2⟩:=aK w ln lj;clear w ln lj
        go_wp2_with fail
        refine⟨nC,ay ?_⟩;generalize kX:b3.alloc (.cells #[.int .i64 y0,.pointer (some ⟨i,0,none⟩),.bool false] 293)=oR at *;have md:=ab kX;clear kX
        go_wp2_with (at_builtin;refine aJ _ rfl (.tmp 86) (.tmp 93) _ rfl elemCome 0 (.slice br a a0) a (eo (PsV N a) out) rfl h2.out _ _ [.int .i64 y0,.pointer (some ⟨i,0,none⟩),.bool false] 1 rfl rfl h3.out (by intro oG kS;simp at kS;rcases kS with rfl|rfl|rfl<;>rfl) (by unfold maxLen;omega) (by omega) (Zh _) ?_)
        intro nF h5 w3 lk it kx;obtain⟨lb,cb,hy⟩:=e0.out.add hX.out hO.out eX.out hG.out lk it kx;have k7:=gm.out.touch hy.t (by rw [gb.out];omega);have im:=(hy.eq _ gm.out.lt).trans gb.out;have nB:=ae cb.le h4.out;have fw:r≠a:=λe=>by
         obtain⟨l,n,-,-,d4⟩:=ba.out.cur;have:=(List.getElem?_eq_some_iff.1 n).1;have:=hU.out;omega
        have hh:H=upd N a i r:=(by rw [aN fw];exact G.out);obtain⟨k,d1⟩: ∃k:Co,k=⟨y0,aj,false⟩:=⟨_,rfl⟩;have cw:(out++[k])[a]? =some k:=(by rw [<-hU.out,List.getElem?_concat_length]);have d2:k.s=y0:=(by rw [d1]);rw [<-d1]at cb;have be:=cK.out;rw [<-d1]at be;have ec:=hS.out;rw [<-d1]at ec;have ha:2 * fo J (g+1) (out++[k])+I.length+1<cC:=(by have:=cr.out;omega);obtain⟨ci,kB⟩: ∃p,p=out++[k]:=⟨_,rfl⟩;obtain⟨hs,kF⟩: ∃p,p=upd N a i:=⟨_,rfl⟩;obtain⟨fn,j2⟩: ∃p,p=upd ai a lR:=⟨_,rfl⟩;rw [<-kB]at cb be ha cw;rw [<-kF]at cb hh;rw [<-j2]at cb;clear lk it kx hy e0 gm gb hX hO eX hG h3 h2 md hS cK ec G kF j2 kB d1 fw lr;obtain⟨hI,gl,hM,cK,l7,o,e3⟩:=de cb k7 im be ha cw d2;clear cb k7 im be ha cw d2;have G:=ab hh;clear hh;refine⟨nB,cX ?_⟩
        go_wp2_with fail
        refine NoPanic.normal ?_
        go_wp2_with fail
        have a2:Below w3.heap.size w3 w3.drew:=(Below.refl _ _).drew;have b:=hI.out.below a2;have a4:=gl.out.drew;have cd:ext w3 lb 0 c.heap.size=0:=(bV gl.out.lt).trans hM.out;obtain⟨bY,bG⟩: ∃p,p=ext w3 lb 0:=⟨_,rfl⟩;rw [<-bG]at b cd;obtain⟨bh,gO,-,c4,bx,dr,eB⟩:=b.at_ o.out;subst gO;have S:=b.lt o.out;have m2:(a:Int)<((a+1):Int):=(by omega);have mG:=b.row.cap;have c0:=ae b.le ca.out;have c3:=ae b.le fb.out;have c1:=ae b.le e8.out;have c2:=ae b.le e9.out;have eE:w3.drew.cell? ⟨c.heap.size,0,none⟩=some (.int .i64 (z:Int)):=(a4.cell 0).trans rfl;have eG:w3.drew.cell? ⟨c.heap.size,1,none⟩=some (.pointer (some ⟨H,0,none⟩)):=(a4.cell 1).trans rfl;have eQ:w3.drew.cell? ⟨c.heap.size,2,none⟩=some (.bool t):=(a4.cell 2).trans rfl;obtain⟨l,n,-,-,-⟩:=cK.out.cur;have d6:=b.lt n;have bg:=uU (V:=w3.drew) (M:=E) (g:=bh) (o:=a * 3) (bt:=hs a) (m:=g+1) (px:= .pointer (some ⟨H,0,none⟩)) (pt:= .pointer cj) (fx:=l.f) (ft:=lnB d.G X) (Fx:=fn r) (Ft:=TF V q.ow (λj=>j=2)) (S:=fn a) (s:=(z:Int)) (xs:=t) (em:=a8) (d:=k) (.inr ⟨H,_,rfl,by rw [G.out];exact b.set r l n,λ_ h=>h⟩) (cs.out.touch (aa.of_size b.le (λ_=>False)) (λ_ _ h=>h)) (b.set a k o.out) c4 bx dr (λe=>by have:=b.tag a bh S e;rw [eB]at this;omega)
         (by
          by_cases e:r=a
          ·left
           have:l=k:=by
            rw [e]at n
            have:=o.out
            rw [n]at this
            injection this
           exact⟨by rw [G.out,e],by rw [this]⟩
          ·right
           exact λu B L=>by have fs:=b.tag r u d6 B;have mx:=b.tag a u S L;omega)
         (λu B L=>by have:=b.low (b:=u) (by rw [b.tag a u S L];omega);have:=B.1;omega) (λu C=>(b.set r l n).lt u C) (λu C=>Zg C.1 b.le.size)
        obtain⟨A,bl⟩: ∃v,v=bF (iE (g+1) t l.f) t l.f (lnB d.G X) a8 k:=⟨_,rfl⟩;rw [<-bl]at bg;have dt:=vA (m:=g+1) (xs:=t) (fx:=l.f) (b.set r l n).high;have ea: ∀j,d.G.terms.length+1<=j->lnB d.G X j=false:=λj U=>cs.out.high j (by rw [cS.out];exact U)
        have d5: ∀j,g+1<=j->A.f j=false:=λj U=>by
         rw [bl];unfold bF
         split
         ·simp only [(b.set a k o.out).high j U,(b.set r l n).high j U,cs.out.high j U,Bool.and_false,Bool.or_false]
         ·exact(b.set a k o.out).high j U
        unfold aq at bg;clear a2 bG c4 bx dr eB d6 hI gl hM;obtain⟨cM,b8,b6,cN,e2,e1,gi,F,gh⟩:=dQ b a4 cd bg n dt ea bl d5;clear b a4 cd bg n dt ea bl d5;refine wp_region_held_drew (S:=(λf=>f.cell? ⟨c.heap.size,0,none⟩=some (.int .i64 (z:Int))/\f.cell? ⟨c.heap.size,1,none⟩=some (.pointer (some ⟨H,0,none⟩))/\f.cell? ⟨c.heap.size,2,none⟩=some (.bool t)/\f.cell? ⟨E,6,none⟩=some (.slice (some ⟨gT,0,none⟩) er fg)/\f.cell? ⟨gT,a9,none⟩=some (.slice (some ⟨Z,al,none⟩) cz fh)/\f.cell? ⟨Z,al,none⟩=some (.pointer cj)/\f.cell? ⟨Z,al+1,none⟩=some (.bool a8))) (by kernel_rfl) ?_ (λhHeld=> ?_)
        ·exact⟨eE,eG,eQ,c0,c3,c1,c2⟩
        clear eE eG eQ c0 c3 c1 c2;generalize w3.drew=bq at *;refine tZ 0 ?_;try simp only [Act.put,sT,s0,s1]
        refine tZ 1 ?_;try simp only [Act.put,sT,s0,s1]
        refine tZ 2 ?_;try simp only [Act.put,sT,s0,s1]
        refine tZ 3 ?_;try simp only [Act.put,sT,s0,s1]
        refine tZ 4 ?_;try simp only [Act.put,sT,s0,s1]
        refine tZ 5 ?_;try simp only [Act.put,sT,s0,s1]
        refine tZ 6 ?_;try simp only [Act.put,sT,s0,s1]
        refine tZ 7 ?_;try simp only [Act.put,sT,s0,s1]
        refine tZ 8 ?_;try simp only [Act.put,sT,s0,s1]
        refine tZ 9 ?_;try simp only [Act.put,sT,s0,s1]
        refine tZ 10 ?_;try simp only [Act.put,sT,s0,s1]
        refine tZ 11 ?_;try simp only [Act.put,sT,s0,s1]
        refine tZ 12 ?_;try simp only [Act.put,sT,s0,s1]
        refine tZ 13 ?_;try simp only [Act.put,sT,s0,s1]
        refine wpAnyH_ready (rs:=[14]) (by kernel_rfl) (by simp) ?_;refine AllReadyH.cons (o:= ?_) ?_ (λcG R=> ?_) AllReadyH.nil;rotate_left 1;(focus((try simp only [gT,gs,gz]);try rfl))
        go_simp
        go_at_call 254
        refine cN.out.mono ?_;rintro e w7 cg;have ak:=cg.ret;subst ak;obtain⟨K,ck⟩:=cM.out.hand o.out (by rw [F.out];exact iB) rfl cg;have a3:=b8.out.touch ck.t (by rw [b6.out];omega);have cc:ext bq bY 0 c.heap.size=0:=(ck.eq _ b8.out.lt).trans b6.out;have cH:w7.cell? ⟨c.heap.size,0,none⟩=some (.int .i64 (z:Int))/\w7.cell? ⟨c.heap.size,1,none⟩=some (.pointer (some ⟨H,0,none⟩))/\w7.cell? ⟨c.heap.size,2,none⟩=some (.bool t)/\w7.cell? ⟨E,6,none⟩=some (.slice (some ⟨gT,0,none⟩) er fg)/\w7.cell? ⟨gT,a9,none⟩=some (.slice (some ⟨Z,al,none⟩) cz fh)/\w7.cell? ⟨Z,al,none⟩=some (.pointer cj)/\w7.cell? ⟨Z,al+1,none⟩=some (.bool a8):=⟨(a3.cell 0).trans rfl,(a3.cell 1).trans rfl,(a3.cell 2).trans rfl,ae K.le ca.out,ae K.le fb.out,ae K.le e8.out,ae K.le e9.out⟩;obtain⟨f3,ed⟩: ∃p,p=ext bq bY 0:=⟨_,rfl⟩;rw [<-ed]at K cc;have eb:(ci.set a A).map Co.s=ci.map Co.s:=by
         rw [List.map_set,show A.s=k.s by rw [F.out];exact iB];exact l9 (by rw [List.getElem?_map,o.out];rfl)
        clear cg ck ed hHeld cN cM b8 b6;obtain⟨b4,Y,O,bt,e4⟩:=aX cH K a3 cc eb;clear cH K a3 cc eb;refine R.out _ _ ?_ (λhHeld=> ?_)
        ·exact b4.out
        clear R cG
        try simp only [Act.put,sT,s0,s1]
        obtain⟨gB,cf⟩: ∃i,i=fU (g+1) k A:=⟨_,rfl⟩;rw [<-cf];have gf:=ab cf;clear cf;have a7:=cK.out.hand cp.out bc.out cT.out.symm e2.out o.out e3.out (by simp) e1.out gi.out;rw [<-gg.out,<-F.out]at a7;have ep:2 * fo J (g+1) (ci.set a A)+(I++[a]).length<cC:=by
         have L:=l7.out;have B:fo J (g+1) (ci.set a A)<=fo J (g+1) ci:=by
          cases dO:fU (g+1) k A with
          |true=>exact Nat.le_of_lt (uT (N:=J) (M:=g+1) (d':=A) o.out (by rw [F.out];exact xo (by rw [<-F.out];exact dO)))
          |false=>
           have ak:=xm (al:=iE (g+1) t l.f) (xs:=t) (fx:=l.f) (ln:=lnB d.G X) (em:=a8) (d:=k) (M:=g+1) (by rw [<-F.out];exact dO) (by rw [<-F.out];exact gh.out);rw [<-F.out]at ak;rw [ak,l9 o.out];exact Zf _
         rw [Zb,Zd];omega
        obtain⟨cm,b9⟩:=av a7 ep;clear a7 ep;cases gB with
        |true=>
         refine tZ 15 ?_;try simp only [Act.put,sT,s0,s1]
         refine tk (i:=16) (oi:= ?_) (v:=undef) ?_ (by kernel_rfl) ?_ (Or.inr ⟨?_,rfl⟩) (by assumption) ?_;rotate_left 1;(focus((try simp only [gT,gs,gz]);try rfl));exact λ_ _ _ h=>h;rfl;try simp only [Act.put,sT,s0,s1]
         refine tk (i:=17) (oi:= ?_) (v:=undef) ?_ (by kernel_rfl) ?_ (Or.inr ⟨?_,rfl⟩) (by assumption) ?_;rotate_left 1;(focus((try simp only [gT,gs,gz]);try rfl));exact λ_ _ _ h=>h;rfl;try simp only [Act.put,sT,s0,s1]
         refine tZ 18 ?_;try simp only [Act.put,sT,s0,s1]
         refine wpAnyH_done (by kernel_rfl) ?_ _;rw [<-e4.out]at Y;have w:Below w7.heap.size w7 (w7.alloc (.cells #[.int .i64 (a:Int)] 3)):=(Below.refl _ _).alloc (Zf _) _;have Q:=Y.out.below w;have bR:=O.out.below w O.out.lt;have bz:ext w7 f3 0 c.heap.size=0:=(bV O.out.lt).trans bt.out;have bB:(w7.alloc (.cells #[.int .i64 (a:Int)] 3)).cell? ⟨w7.heap.size,0,none⟩=some (.int .i64 (a:Int)):=(Blk.new w7 3 #[.int .i64 (a:Int)]).cell 0;have bO:=Q.le.size;have ee:D<=100000:=by
          have B:=b9.out;have L:=e6.out;have cu:=Q.q.len;rw [Zc]at cu;rw [Zb,Zd]at B;omega
         clear w Y O bt b4 hHeld;obtain⟨ap,aT,aS,bw⟩:=aA Q bR bz bB;clear Q bR bz bB
         go_wp2_with (at_builtin;refine ql rfl (.tmp 114) (.tmp 116) rfl ap.out.q rfl rfl bw.out (by omega) bO ?_)
         intro ds es c5 w9 b1 b2 bE;obtain⟨ad,a6⟩:=ap.out.push b1 b2 (bE.imp id (λh=>by simpa using h));have bS:=aT.out.touch a6.t (by rw [aS.out];omega);have bA:=(a6.eq _ aT.out.lt).trans aS.out;clear b1 b2 bE a6 ap aT aS bw bO ee;obtain⟨b5,cU,cP⟩:=aK ad bS bA;clear ad bS bA
         go_wp2_with fail
         go_roundw
         case rel=>exact⟨M+1,_,some ⟨bh,0,none⟩,(a+1),h5,ds,es,D+1,c5,ci.set a A,I++[a],hs,fn,by omega,by go_num,rfl,rfl,b5.out,cm.out,cU.out,cP.out,G.out,b9.out⟩
         case measure=>simp [intOf];omega
        |false=>
         refine tZ 15 ?_;try simp only [Act.put,sT,s0,s1]
         refine tZ 16 ?_;try simp only [Act.put,sT,s0,s1]
         refine tZ 17 ?_;try simp only [Act.put,sT,s0,s1]
         refine tZ 18 ?_;try simp only [Act.put,sT,s0,s1]
         refine wpAnyH_done (by kernel_rfl) ?_ _;rw [<-e4.out]at Y;have w:Below w7.heap.size w7 (w7.alloc (.cells #[.int .i64 (a:Int)] 3)):=(Below.refl _ _).alloc (Zf _) _;have Q:=Y.out.below w;have bR:=O.out.below w O.out.lt;have bz:ext w7 f3 0 c.heap.size=0:=(bV O.out.lt).trans bt.out;have bB:(w7.alloc (.cells #[.int .i64 (a:Int)] 3)).cell? ⟨w7.heap.size,0,none⟩=some (.int .i64 (a:Int)):=(Blk.new w7 3 #[.int .i64 (a:Int)]).cell 0;have bO:=Q.le.size;have ee:D<=100000:=by
          have B:=b9.out;have L:=e6.out;have cu:=Q.q.len;rw [Zc]at cu;rw [Zb,Zd]at B;omega
         clear w Y O bt b4 hHeld;obtain⟨ap,aT,aS,bw⟩:=aA Q bR bz bB;clear Q bR bz bB
         go_wp2_with (at_builtin;refine ql rfl (.tmp 114) (.tmp 116) rfl ap.out.q rfl rfl bw.out (by omega) bO ?_)
         intro ds es c5 w9 b1 b2 bE;obtain⟨ad,a6⟩:=ap.out.push b1 b2 (bE.imp id (λh=>by simpa using h));have bS:=aT.out.touch a6.t (by rw [aS.out];omega);have bA:=(a6.eq _ aT.out.lt).trans aS.out;clear b1 b2 bE a6 ap aT aS bw bO ee;obtain⟨b5,cU,cP⟩:=aK ad bS bA;clear ad bS bA
         go_wp2_with fail
         go_roundw
         case rel=>exact⟨M+1,_,some ⟨bh,0,none⟩,(a+1),h5,ds,es,D+1,c5,ci.set a A,I++[a],hs,fn,by omega,by go_num,rfl,rfl,b5.out,cm.out,cU.out,cP.out,G.out,b9.out⟩
         case measure=>simp [intOf];omega
    ·have m7: ¬(M:Int)<(cA:Int):=(by omega);have h6:=a1.end_ (by rw [<-hV.out];omega);have mA: ∃eR,eR<cC/\2 * fo J (g+1) out+I.length=eR/\eR<=100000:=⟨_,cx,rfl,by have:=e6.out;omega⟩;obtain⟨eR,ej,k4,k5⟩:=mA;obtain⟨eZ,l0,e5,mg,mm⟩:=aX x h6 ej k4 k5;clear x h6 ej k4 k5;clear a1 bp cx bP
     go_wp2_with fail
     go_step3
     exact⟨rfl,eR,e5.out,an,hp,br,a,a0,T,W,D,a5,out,I,N,ai,Bc rfl,eZ.out,l0.out,mg.out.symm,mm.out⟩
end Go.Proofs.YthlbjgabhpdbfaaGreat

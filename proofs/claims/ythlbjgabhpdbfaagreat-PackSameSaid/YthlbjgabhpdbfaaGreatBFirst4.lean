/- first.Of. -/
import Derived.Test.YthlbjgabhpdbfaaGreatBFirst3
import Derived.Test.YthlbjgabhpdbfaaGreatBFirstPlain
import Derived.Deep.Cut
import Derived.Test.YthlbjgabhpdbfaaGreatBLookPlain
import Derived.Test.YthlbjgabhpdbfaaGreatBItemLay
import Derived.Test.YthlbjgabhpdbfaaGreatBBits3
set_option linter.unusedVariables false
set_option maxRecDepth 100000
set_option maxHeartbeats 8000000
namespace Go.Proofs.YthlbjgabhpdbfaaGreat
open Go.Proofs.Tryz
open Int renaming eq_ofNat_of_zero_le->Za,toNat_natCast->Zb
open List renaming drop_succ_cons->Zc,drop_zero->Zd,mem_of_getElem?->Ze,take_succ_cons->Zf,take_zero->Zg
open Nat renaming le_refl->Zh,zero_le->Zi
open Go.RowKit
attribute [local irreducible] wpStill aB aO
structure fW (w wr:World) (F:Nat->Prop) (A1:Option Addr) (c1:Nat) (A2:Option Addr) (c2:Nat) (A3:Option Addr) (c3 T N R:Nat) (st:Int) (G:ac) (q:FD) (e:Nat->Bool) (bg bh:Nat->Nat->Bool):Prop where
 g:bj wr F w.heap.size A1 c1 A2 c2 A3 c3 T N R st G
 f:aL wr q e bg bh
 z:w.heap.size<q.z0
 b:Below w.heap.size w wr
section
variable {w wr wr' : World} {F : Nat -> Prop} {A1 : Option Addr} {c1 : Nat} {A2 : Option Addr} {c2 : Nat} {A3 : Option Addr} {c3 T N R : Nat} {st : Int} {G : ac} {q : FD} {e e' : Nat -> Bool} {bg bh bg' bh' : Nat -> Nat -> Bool} {S : Nat -> Prop}
theorem fW.below (h:fW w wr F A1 c1 A2 c2 A3 c3 T N R st G q e bg bh) (b:Below wr.heap.size wr wr'):fW w wr' F A1 c1 A2 c2 A3 c3 T N R st G q e bg bh:=
 ⟨h.g.below b,h.f.below b,h.z,h.b.trans (b.mono h.b.size)⟩
theorem fW.set (h:fW w wr F A1 c1 A2 c2 A3 c3 T N R st G q e bg bh) (k: ∀a,F a->a<w.heap.size) (l:aL wr' q e' bg' bh') (j:aa S wr wr') (g: ∀a,S a->q.z0<=a):fW w wr' F A1 c1 A2 c2 A3 c3 T N R st G q e' bg' bh':=by
 have:=h.z;exact⟨h.g.touch j (λa i d=>by have:=k a i;have:=g a d;omega) (λd=>by have:=g _ d;omega),l,h.z,h.b.trans (j.below (λa i _ d=>by have:=g a d;omega) h.b.size)⟩
end
theorem sh (W:World) (z:Nat) (u v:Value):aa (λa=>a=z) W ((W.setCell ⟨z,0,none⟩ u).setCell ⟨z,1,none⟩ v):=
 ((aa.refl (λa=>a=z) W).setCell (p:=⟨z,0,none⟩) (λ_=>rfl) u).setCell (p:=⟨z,1,none⟩) (λ_=>rfl) v
def pM (w:World) (G:ac) (st:Int) (e:Ending) (w':World):Prop:=
 (bf G st≠0/\e= .returned (.pointer none)/\Below w.heap.size w w')\/
 (bf G st=0/\ ∃q:FD,e= .returned (aq q.s)/\aL w' q (eS G) (fV G) (ud G st)/\q.T=G.terms.length/\q.p=ao G/\q.n=ag G/\w.heap.size<=q.z0/\Below w.heap.size w w')
theorem aL.make {w4 w5 w6 w7:World} {T p a g d h:Nat} {t u:Nat->Nat} {o r:Nat->Nat->Prop} (hT:T<p+1) (B:p+1<=4096) (C:aG w5 (w4.heap.size+1) (New (λ_=>False) w4 w5) (p+1) aj) (v:Below w4.heap.size w4 w5)
  (c1:p+1<=g/\g<=9223372036854775807) (D:w5.heap.size<=a/\a<w6.heap.size) (E: ∀j q,j<p+1->o j q->w5.heap.size<=q/\q<w6.heap.size) (x:Fam w6 a (p+1) (T+1) t o (λ_=>aj)) (s:Below w5.heap.size w5 w6)
  (c2:p+1<=h/\h<=9223372036854775807) (l2:w6.heap.size<=d/\d<w7.heap.size) (H: ∀j q,j<p+1->r j q->w6.heap.size<=q/\q<w7.heap.size) (f2:Fam w7 d (p+1) (T+1) u r (λ_=>aj)) (k:Below w6.heap.size w6 w7):
  aL (w7.alloc (.cells #[.int .i64 T,.int .i64 p,aq (w4.heap.size+1),.slice (some ⟨a,0,none⟩) (p+1) g,.slice (some ⟨d,0,none⟩) (p+1) h] 320))
   ⟨w7.heap.size,T,p,p+1,w4.heap.size+1,New (λ_=>False) w4 w5,a,g,t,o,d,h,u,r,w4.heap.size,w5.heap.size,w6.heap.size,w7.heap.size⟩ aj (λ_=>aj) (λ_=>aj):=by
 have l:Below w7.heap.size w7 (w7.alloc (.cells #[.int .i64 T,.int .i64 p,aq (w4.heap.size+1),.slice (some ⟨a,0,none⟩) (p+1) g,.slice (some ⟨d,0,none⟩) (p+1) h] 320)):=(Below.refl _ _).alloc (Zh _) _;refine⟨Blk.new _ _ _,((C.keep s).keep k).keep l,(x.below k).below l,f2.below l,rfl,⟨c1,c2⟩,⟨B,hT⟩,λI i=> ?_,⟨D,E⟩,⟨l2,H⟩,v.size,s.size,k.size,Zh _⟩;rcases i with i|i
 ·exact i.elim
 ·exact i
theorem DP {w:World} {F:Nat->Prop} {hD hB hC:Value} {G:ac} (h:bk w F hD hB hC G) (st:Int):
  Calls prog 223 #[GV hD hB hC st] w (pM w G st):=by
 obtain⟨A1,c1,A2,c2,A3,c3,rfl,rfl,rfl,-⟩:=h.slices;obtain⟨w1,ds⟩: ∃w1,w1=w.alloc (.cells #[.slice A1 G.terms.length c1,.slice A2 G.nons.length c2,.slice A3 G.rules.length c3,.int .i64 st] 25):=⟨_,rfl⟩;have eQ:=bj.new h st;have hn:Below w.heap.size w w1:=by rw [ds];exact(Below.refl _ w).alloc (Zh _) _
 have hE:w1.heap.size=w.heap.size+1:=by rw [ds];simp
 rw [<-ds]at eQ;have gA:=oQ eQ.gram st;have hu:=h.lt;have bx:bf G st=0->Kn G st:=Kn.of_check;have hy: ∀t,bf G st≠0->Below w.heap.size w t->pM w G st (.returned (.pointer none)) t:=λt ck gM=> .inl ⟨ck,rfl,gM⟩
 have hz: ∀t (q:FD),bf G st=0->aL t q (eS G) (fV G) (ud G st)->q.T=G.terms.length->q.p=ao G->q.n=ag G->w.heap.size<=q.z0->Below w.heap.size w t->pM w G st (.returned (aq q.s)) t:=λt q ck gM hP hQ hR hS hU=> .inr ⟨ck,q,rfl,gM,hP,hQ,hR,hS,hU⟩
 have gB:=λwr (eG:bj wr F w.heap.size A1 c1 A2 c2 A3 c3 G.terms.length G.nons.length G.rules.length st G)=>eW eG.gram st
 rw [show ao G=G.terms.length+G.nons.length from rfl]at gB;generalize hT:G.terms.length=T at *;generalize hv:G.nons.length=N at *;generalize hw:G.rules.length=R at *;obtain⟨ai,ak,al,an⟩:=eQ.cells;rw [ds]at gA ai ak al an;generalize hx:bf G st=ho at *;clear h;obtain⟨aS,hj,hk,f9,hK,hH,gf,hl,f1,M,cw,f5,h5⟩:=pZ hu gA eQ hn hE bx hy hz gB hT hv hw hx;clear hu gA eQ hn hE bx hy hz gB hT hv hw hx
 go_enter func223,ntmps223
 go_wp2_with fail
 with_reducible refine hj.out.mono ?_
 rintro V w2 ⟨rfl,f6⟩;rw [<-ds]at f6;have cs:=hk.out.below f6;have f8:=f9.out.trans (f6.mono f9.out.size);clear ai ak al an ds hk f9 f6 hj hK;by_cases ba:ho=0
 case neg=>
  have cr:=gf.out w2 ba f8;have h6:(ho !=0)=true:=by simpa using ba
  clear f8;obtain⟨dS,gc⟩:=av cr cs;clear cr cs
  go_wp2_with fail
  go_ret
  exact dS.out
 case pos=>
  subst ba;have o:=hH.out (by first|rfl|trivial);have h2:=o.t;have h3:=o.n;rw [M.out]at h2;rw [cw.out]at h3;obtain⟨ai,ak,al,an⟩:=cs.cells;have ht:=cs.below ((Below.refl _ w2).drew);have O:Below w2.heap.size w2 (w2.alloc (.cells #[.int .i64 0,.int .i64 0] 317)).drew:=((Below.refl _ w2).alloc (Zh _) _).drew;have hs:=cs.below O;have J:Blk (w2.alloc (.cells #[.int .i64 0,.int .i64 0] 317)).drew w2.heap.size 317 #[.int .i64 0,.int .i64 0]:=(Blk.new _ _ _).drew;have h1:=cs.blk.lt;have hq: ∀W b9 fF,bj W F w.heap.size A1 c1 A2 c2 A3 c3 T N R st G->bj ((W.setCell ⟨w2.heap.size,0,none⟩ b9).setCell ⟨w2.heap.size,1,none⟩ fF) F w.heap.size A1 c1 A2 c2 A3 c3 T N R st G:=λW b9 fF eG=>eG.touch (sh W w2.heap.size b9 fF) (λd o e=>by have:=aS.out d o;omega) (λe=>by omega)
  have hp: ∀W b9,bj W F w.heap.size A1 c1 A2 c2 A3 c3 T N R st G->bj (W.setCell ⟨w2.heap.size,0,none⟩ b9) F w.heap.size A1 c1 A2 c2 A3 c3 T N R st G:=λW b9 eG=>eG.touch ((aa.refl (λd=>d=w2.heap.size) W).setCell (p:=⟨w2.heap.size,0,none⟩) (λ_=>rfl) b9) (λd o e=>by have:=aS.out d o;omega) (λe=>by omega)
  obtain⟨gc,cx,bl,f4,f3,bo,f2,gb,f0⟩:=dQ cs f8 o ht hs J hq hp O;clear cs f8 o ht hs J hq hp O
  go_wp2_with fail
  go_region_held3 (λt=>t.cell? ⟨w.heap.size,0,none⟩=some (.slice A1 T c1)/\t.cell? ⟨w.heap.size,1,none⟩=some (.slice A2 N c2)/\t.cell? ⟨w.heap.size,2,none⟩=some (.slice A3 R c3)/\t.cell? ⟨w.heap.size,3,none⟩=some (.int .i64 st))
   (first|assumption|exact hA _ _|exact dt _|go_keep)
   (first
    |(go_at_call 80;(with_reducible refine(f1.out _ f4.out).mono ?_);rintro V w3 ⟨rfl,cp⟩;have bp:=f4.out.below cp;have c0:=bp.cells)
    |(go_at_call 80;(with_reducible refine(f1.out _ f3.out).mono ?_);rintro V w3 ⟨rfl,cp⟩;have dF:=bo.out.below cp bo.out.lt;have d0:=(dF.cell 0).trans rfl;have hM:=(dF.cell 1).trans rfl;have hN:=dF.frozen 0;have hO:=dF.frozen 1;have bp:=f3.out.below cp;have c0:=bp.cells;have hA:=λb9 fF=>(f2.out w3 b9 fF bp).cells;have dt:=λb9=>(gb.out w3 b9 bp).cells))
  ·have hr:=bp.below ((Below.refl _ w3).alloc (Zh _) (.cells #[.int .i64 T,.int .i64 ((T:Int)+(N:Int))] 317));have cn:Blk (w3.alloc (.cells #[.int .i64 T,.int .i64 ((T:Int)+(N:Int))] 317)) w3.heap.size 317 #[.int .i64 T,.int .i64 ((T:Int)+(N:Int))]:=Blk.new _ _ _;have cG:=cx.out.trans (((Below.refl _ w2).drew.trans (cp.mono (Zh _))).mono cx.out.size);have cH:=cG.trans (((Below.refl _ w3).alloc (Zh _) (.cells #[.int .i64 T,.int .i64 ((T:Int)+(N:Int))] 317)).mono cG.size);have cU:=bp.blk.lt;generalize w3.alloc (.cells #[.int .i64 T,.int .i64 ((T:Int)+(N:Int))] 317)=w4 at *;generalize w3.heap.size=fT at *;have ch:=hr;clear ai ak al an c0 bp hr cp cG f4 f3 bo f2 gb f0 gc cx f1 gf;obtain⟨k,b0⟩: ∃k:Nat,(k:Int)=(T:Int)+(N:Int):=⟨T+N,by omega⟩;rw [<-b0];have e6:k=T+N:=by omega
   have cN:=λwr=>kZ ((k:Int)+1) wr
   rw [show(min (max ((k:Int)+1) 0) 4096).toNat=k+1 by omega]at cN;have cM:=λwr=>qQ wr (k+1) (T+1) (by omega) (by omega)
   push_cast at cM
   obtain⟨ai,ak,al,an⟩:=ch.cells;have g7:=(cn.cell 0).trans rfl;have ft:=(cn.cell 1).trans rfl;have c4:=cn.drew;have eR:=ch.below ((Below.refl _ w4).drew);have ej:=cH.drew;rw [<-b0]at ft c4;have h0:IntKind.i64.wrap ((k:Int)+1)=(k:Int)+1:=by rw [IntKind.wrap_i64];omega
   have hZ:IntKind.i64.wrap ((T:Int)+1)=(T:Int)+1:=by rw [IntKind.wrap_i64];omega
   clear b0 cn;obtain⟨dO,cv,d1,ga,cC,d2,ct,bq⟩:=dA cN cM ch cH c4 eR ej e6;clear cN cM ch cH c4 eR ej e6
   go_wp2_with fail
   go_region_held3 (λt=>t.cell? ⟨fT,0,none⟩=some (.int .i64 T)/\t.cell? ⟨fT,1,none⟩=some (.int .i64 k))
    (first|assumption|go_keep)
    (first
     |(go_at_call 227;(with_reducible refine(dO.out _).mono ?_);rintro V w5 ⟨rfl,fh,bE⟩;have b5:=cC.out.below bE cC.out.lt;have dt:=And.intro ((b5.cell 0).trans rfl) ((b5.cell 1).trans rfl))
     |(go_at_call 251;(with_reducible refine(cv.out w5).mono ?_);rintro V w6 ⟨ci,cf,hc,gE,rfl,el,em,en,ep,er,e2,bG⟩;have b6:=b5.below bG b5.lt;have g4:=And.intro ((b6.cell 0).trans rfl) ((b6.cell 1).trans rfl))
     |(go_at_call 251;(with_reducible refine(cv.out w6).mono ?_);rintro V w7 ⟨cj,cg,hd,gF,rfl,es,et,ev,ew,ex,e3,bO⟩;have b7:=b6.below bO b6.lt;have g5:=And.intro ((b7.cell 0).trans rfl) ((b7.cell 1).trans rfl)))
   obtain⟨q,a8⟩: ∃q:FD,q=⟨w7.heap.size,T,k,k+1,w4.heap.size+1,New (λ_=>False) w4.drew w5,ci,cf,hc,gE,cj,cg,hd,gF,w4.heap.size,w5.heap.size,w6.heap.size,w7.heap.size⟩:=⟨_,rfl⟩;have eB:aL (w7.alloc (.cells #[.int .i64 T,.int .i64 k,aq (w4.heap.size+1),.slice (some ⟨ci,0,none⟩) (k+1) cf,.slice (some ⟨cj,0,none⟩) (k+1) cg] 320)) q aj (λ_=>aj) (λ_=>aj):=by rw [a8];exact aL.make (w4:=w4.drew) (by have:=bq.out;omega) (by have:=bq.out;omega) fh bE ⟨el,em⟩ ⟨en,ep⟩ er e2 bG ⟨es,et⟩ ⟨ev,ew⟩ ex e3 bO
   have cI:Below w7.heap.size w7 (w7.alloc (.cells #[.int .i64 T,.int .i64 k,aq (w4.heap.size+1),.slice (some ⟨ci,0,none⟩) (k+1) cf,.slice (some ⟨cj,0,none⟩) (k+1) cg] 320)):=(Below.refl _ w7).alloc (Zh _) _;have cK:=bE.trans ((bG.trans ((bO.trans (cI.mono bO.size)).mono bG.size)).mono bE.size);have fx:fW w _ F A1 c1 A2 c2 A3 c3 T N R st G q _ _ _:=⟨d2.out.below cK,eB,by rw [a8];exact d1.out.blk.lt,ct.out.trans (cK.mono ct.out.size)⟩;have g8:=(b7.below cI b7.lt).cell 0;have fd:q.s=w7.heap.size:=by rw [a8]
   have e8:q.T=T:=by rw [a8]
   have fc:q.p=k:=by rw [a8]
   have e9:q.n=k+1:=by rw [a8]
   clear a8 eB cI cK dt g4 g5 b5 b6 b7 fh e2 e3 el em en ep er es et ev ew ex bE bG bO ai ak al an g7 ft dO cv d1 ga cC d2 ct;generalize (w7.alloc (.cells #[.int .i64 T,.int .i64 k,aq (w4.heap.size+1),.slice (some ⟨ci,0,none⟩) (k+1) cf,.slice (some ⟨cj,0,none⟩) (k+1) cg] 320))=w8 at *;rw [<-fd];clear fd;obtain⟨ee,br,d6,d5⟩:=aA fx e8 fc e9;clear fx e8 fc e9
   go_wp2_with fail
   go_loopw [48] (λp wr=> ∃d:Nat,d<=T+1/\p= .int .i64 d/\fW w wr F A1 c1 A2 c2 A3 c3 T N R st G q aj (ef d) (λ_=>aj)) (λp _=>T+1 - (intOf p).toNat)
   case atStart=>exact⟨0,Zi _,rfl,by rw [qC];exact ee.out⟩
   case round=>
    clear ee g8;obtain⟨d,o,rfl,a⟩:=hrel;by_cases a6:d<T+1
    ·have cS:(d:Int)<(T:Int)+1:=(by omega);have bx:d<q.n:=(by have:=bq.out;have:=d5.out;omega);have hV:(d:Int)<(q.n:Int):=(by omega);have bu:=a.f.cells.2.2.2.1;have b0:=a.f.bgn.cell d bx;have K:=j1 (a.f.bgn.set d bx) (d:Int);have cP:=a.f.cap.1.1;have cR:=a.f.cap.1.2;obtain⟨l,X⟩:=av a K;clear a K
     go_wp2_with fail
     with_reducible refine X.out.mono ?_
     rintro V w9 ⟨rfl,fi,dn⟩;have eE:=l.out.f.putB bx fi dn;have c9:=l.out.set aS.out eE dn (λj bW=>by have:=l.out.f.z;have:=l.out.f.zb.2 d j bx bW;omega);rw [br.out,sw (by omega)]at c9;clear fi dn eE bu b0 X l;have gl:=ab c9;clear c9
     go_wp2_with fail
     go_roundw
     case rel=>exact⟨d+1,by omega,by go_num,gl.out⟩
     case measure=>simp [intOf];omega
    ·have cS: ¬(d:Int)<(T:Int)+1:=(by omega);obtain rfl:d=T+1:=(by omega);have fw:=a;clear o a6 a;have fb:q.n=ag G:=(by have:=d5.out;have:=bq.out;have:=M.out;have:=cw.out;unfold ag;omega);have r:=pQ G;rw [M.out]at r;have u: ∀a,a<=T->ef (T+1) a a=true:=qD;obtain⟨c6,e4⟩: ∃c6,c6=gv (ag G) (T+1) aj (ef (T+1))+1:=⟨_,rfl⟩;obtain⟨ed,C,a0,cy,d3⟩:=aX fw fb r u e4;clear fw fb r u e4
     go_wp2_with fail
     go_loopg [6] c6 (λdr bc wr=> ∃(e:Nat->Bool) (bg:Nat->Nat->Bool) (m:Bool),bc= .bool m/\fW w wr F A1 c1 A2 c2 A3 c3 T N R st G q e bg (λ_=>aj)/\fu G e bg/\(∀a,a<=T->bg a a=true)/\(m=false-> ∀c8∈G.rules,gN G e bg c8)/\(m=true->gv (ag G) (T+1) e bg+1<=dr))
     case atStart=>exact⟨aj,ef (T+1),true,rfl,ed.out,a0.out,cy.out,λh=>(by cases h),λ_=>Nat.le_of_eq d3.out.symm⟩
     case round=>
      clear ed a0 cy d3;obtain⟨e,bg,m,rfl,a,r,u,E,a7⟩:=hrel;cases m with
      |false=>
       have D:=E rfl;clear E a7;have e1:e=eS G:=zd bl.out r D (by have:=a.f.em.high;rw [C.out]at this;exact this);have bS: ∀p,p<q.n->fV G p=bg p:=λp hi=>(zk (by rw [M.out];exact u) r D (by rw [<-C.out];exact hi)).symm
       have ap:fW w wr F A1 c1 A2 c2 A3 c3 T N R st G q (eS G) (fV G) (λ_=>aj):=⟨a.g,(e1▸a.f).extB bS,a.z,a.b⟩;obtain⟨fg,g3⟩:0<=st/\st<ag G:=(by have:=bl.out.st;rw [gn]at this;unfold ag;omega);obtain⟨x,rfl⟩:=Za fg;have cm:x<q.n:=(by have:=C.out;omega);have hY:(x:Int)<(q.n:Int):=(by omega);have dd:=ap.below ((Below.refl _ wr).drew);have K:=j1 (dd.f.bhd.set x cm) 0;have hh:=ap.f.cells.2.2.2.2;have g2:=ap.f.bhd.cell x cm;have bp:=ap.g.cells.2.2.2;have cP:=ap.f.cap.2.1;have cR:=ap.f.cap.2.2;have bt:=pP bl.out;rw [Zb]at bt;obtain⟨fn,fs⟩:=bt;obtain⟨c7,e5⟩: ∃c7,c7=bJ (iA x) (T+1) (ag G)+1:=⟨_,rfl⟩;clear fg g3 a r D u e1 bS cP cR;obtain⟨gm,bB,X,ea,eb,d4⟩:=aM ap dd K fn fs e5;clear ap dd K fn fs e5
       go_wp2_with fail
       refine bX 8 (by kernel_rfl) (by kernel_rfl) ?_;simp only [Zf,Zg,Zc,Zd]
       repeat still_step
       refine wpStill_nil ?_
       go_wp2_with fail
       with_reducible refine X.out.mono ?_
       rintro V wc ⟨rfl,b2,bi⟩;have bP:=bB.out.f.putH cm b2 bi;have bw:=bB.out.set aS.out bP bi (λd o=>by have:=bB.out.f.z;have:=bB.out.f.zh.2 x d cm o;omega);rw [su]at bw;clear hh g2 bp b2 bi bP X gm bB;have cd:=ab bw;clear bw
       go_wp2_with fail
       go_loopg [11] c7 (λdr bc wr=> ∃(bh:Nat->Nat->Bool) (m:Bool),bc= .bool m/\fW w wr F A1 c1 A2 c2 A3 c3 T N R (x:Int) G q (eS G) (fV G) bh/\mZ G (x:Int) bh/\aV (ag G) bh (x:Int) 0=true/\(m=false-> ∀c8∈G.rules,lg G bh c8)/\(m=true->bJ bh (T+1) (ag G)+1<=dr))
       case atStart=>exact⟨iA x,true,rfl,cd.out,ea.out,eb.out,λh=>(by cases h),λ_=>Nat.le_of_eq d4.out.symm⟩
       case round=>
        clear cd ea eb d4;obtain⟨bh,m,rfl,a,r,u,E,a7⟩:=hrel;cases m with
        |false=>
         have D:=E rfl;have bS: ∀p,p<q.n->ud G (x:Int) p=bh p:=λp hi=>(zj u r D (by rw [<-C.out];exact hi)).symm
         have cr:=hl.out wr q (by first|rfl|trivial) (a.f.extH bS) (by rw [br.out]) (by rw [d6.out,bq.out,<-M.out,<-cw.out];rfl) C.out (by have:=a.z;omega) a.b;clear E a7 D bS;obtain⟨l,a0,cy,dS⟩:=aA a r u cr;clear a r u cr
         go_wp2_with fail
         go_ret
         exact dS.out
        |true=>
         have b4:=a7 rfl;clear E a7;obtain⟨ai,ak,al,an⟩:=a.g.cells;have he:=a.g.rs;have hf:=a.g.rc;have hg:=a.g.c3m;have g:=jo.begin (M:=T+1) r u;clear u;obtain⟨a0,bA,l,B⟩:=aA r b4 a g;clear r b4 a g
         go_wp2_with fail
         clear ai ak al an
         go_loopw [11,115] (λbc p wr=> ∃(j:Nat) (bh':Nat->Nat->Bool) (m:Bool),j<=R/\p= .int .i64 j/\bc= .bool m/\fW w wr F A1 c1 A2 c2 A3 c3 T N R (x:Int) G q (eS G) (fV G) bh'/\jo G (x:Int) (T+1) bh j bh' m) (λ_ p _=>R - (intOf p).toNat)
         case atStart=>exact⟨0,bh,false,Zi _,rfl,rfl,l.out,B.out⟩
         case round=>
          clear l a0 B;obtain⟨j,bh',m,bW,rfl,rfl,a,g⟩:=hrel;by_cases a6:j<R
          ·obtain⟨gr,g9,c5,ca,A,bd,c,rfl,gO,ad,eX,ck,b1,cT,g1,gW⟩:=a.g.rule a6;have g0:(j:Int)<(R:Int):=(by omega);have Z:=bl.out.left (Ze ad);simp only at Z;rw [<-C.out]at Z;obtain⟨s,I⟩: ∃s,s=wr.alloc (.cells #[.int .i64 c5,.slice A bd c] 98):=⟨_,rfl⟩;have O:Below wr.heap.size wr s:=(by rw [I];exact(Below.refl _ _).alloc (Zh _) _);have J:Blk s wr.heap.size 98 #[.int .i64 c5,.slice A bd c]:=(by rw [I];exact Blk.new _ _ _);have L:=a.below O;have a9:=b1.below O a.g.gram.lt;have ba:=a.z;have Q:=sW L.f a9 (λd o=> .inl (by have:=aS.out d o;omega)) Z;have a2:=(J.cell 0).trans rfl;have a3:=(J.cell 1).trans rfl;rw [I]at Q a2 a3;clear b1 cT O Z;obtain⟨bz,bo,bC,cB,ec,l,B,gh⟩:=dA Q J L a9 ad a g ba;clear Q J L a9 ad a g ba
           go_wp2_with fail
           with_reducible refine bz.out.mono ?_
           rintro V fL ⟨hL,h4,rfl,a4,bt,be⟩;rw [<-I]at be;have U:=bC.out.set aS.out a4 be (λd o=>by have:=bC.out.f.z;omega);rw [br.out,d6.out,C.out]at bt;have Y:=B.out.step bl.out ec.out (by rw [show ao G=k by rw [bq.out,<-M.out,<-cw.out];rfl,M.out];exact bt);clear I a2 a3 eX ck be bt a4 bz bo bC cB;cases m
           all_goals
            simp only [Bool.true_or,Bool.false_or]at Y;obtain⟨cb,cc⟩:=av Y U;clear Y U
            go_wp2_with fail
            go_roundw
            case rel=>exact⟨j+1,_,_,by omega,by go_num,rfl,cc.out,cb.out⟩
            case measure=>simp [intOf];omega
          ·obtain rfl:j=R:=(by omega);have cS: ¬(j:Int)<(j:Int):=(by omega);clear bW a6;cases m with
           |false=>
            have D:=g.closed f5.out.symm;have H:=g.sound;have v:=g.start;obtain⟨l,cz,a1,aT,B⟩:=aX a D H v g;clear a D H v g
            go_wp2_with fail
            go_roundg 0
            case measure=>have:=bA.out;omega
            case rel=>exact⟨bh',false,rfl,l.out,a1.out,aT.out,λ_=>cz.out,λh=>(by cases h)⟩
           |true=>
            have b3:=g.grow rfl;have H:=g.sound;have v:=g.start;have hm:bJ bh' (T+1) (ag G)+1<gk:=(by have:=bA.out;omega);obtain⟨l,a1,aT,B,gg,cA⟩:=aM a H v g b3 hm;clear a H v g b3 hm
            go_wp2_with fail
            go_roundg (bJ bh' (T+1) (ag G)+1)
            case measure=>exact cA.out
            case rel=>exact⟨bh',true,rfl,l.out,a1.out,aT.out,λh=>(by cases h),λ_=>Zh _⟩
      |true=>
       have b4:=a7 rfl;clear E a7;obtain⟨ai,ak,al,an⟩:=a.g.cells;have he:=a.g.rs;have hf:=a.g.rc;have hg:=a.g.c3m;have g:=jq.start (M:=T+1) r (by rw [M.out];exact u);clear u;obtain⟨a0,bA,l,B⟩:=aA r b4 a g;clear r b4 a g
       go_wp2_with fail
       clear ai ak al an
       go_loopw [6,65] (λbc p wr=> ∃(j:Nat) (e':Nat->Bool) (bg':Nat->Nat->Bool) (m:Bool),j<=R/\p= .int .i64 j/\bc= .bool m/\fW w wr F A1 c1 A2 c2 A3 c3 T N R st G q e' bg' (λ_=>aj)/\jq G (T+1) e bg j e' bg' m) (λ_ p _=>R - (intOf p).toNat)
       case atStart=>exact⟨0,e,bg,false,Zi _,rfl,rfl,l.out,B.out⟩
       case round=>
        clear l a0 B;obtain⟨j,e',bg',m,bW,rfl,rfl,a,g⟩:=hrel;by_cases a6:j<R
        ·obtain⟨gr,g9,c5,ca,A,bd,c,rfl,gO,ad,eX,ck,b1,cT,g1,gW⟩:=a.g.rule a6;have g0:(j:Int)<(R:Int):=(by omega);have Z:=bl.out.left (Ze ad);simp only at Z;obtain⟨i,rfl⟩:=Za Z.1;have bY:i<q.n:=(by have:=C.out;omega);have hW:(i:Int)<(q.n:Int):=(by omega);obtain⟨s,I⟩: ∃s,s=wr.alloc (.cells #[.int .i64 (i:Int),.slice A bd c] 98):=⟨_,rfl⟩;have O:Below wr.heap.size wr s:=(by rw [I];exact(Below.refl _ _).alloc (Zh _) _);have J:Blk s wr.heap.size 98 #[.int .i64 (i:Int),.slice A bd c]:=(by rw [I];exact Blk.new _ _ _);have L:=a.below O;have co:=L.below ((Below.refl _ s).drew);have a9:=(b1.below O a.g.gram.lt).drew;have ba:=a.z;have cU:=a.f.z;have Q:=jw (aL.relB q e' bg' (λ_=>aj) bY ⟨_,_,co.f⟩) (yL q.n bg' i) (w:=s.drew) (f0:=bg' i) (by rw [j3 rfl];exact co.f) a9 (λd o a5=>by have:=aS.out d o;have:=a.f.zb.2 i d bY a5;omega);obtain⟨f,a5⟩: ∃f,f=bM (bg' i) (aF q.n e') (aV q.n bg') ca:=⟨_,rfl⟩;obtain⟨fv,E⟩: ∃fv,fv=aE (q.T+1) (bg' i) f:=⟨_,rfl⟩;obtain⟨ce,bR⟩: ∃ce,ce=ca.all (aF q.n e'):=⟨_,rfl⟩;obtain⟨cE,cO⟩: ∃cE,cE=eK q.n e' (i:Int):=⟨_,rfl⟩;have Y:=g.step bl.out ad (by have:=L.f.hiB;rw [C.out,br.out]at this;exact this);simp only [Zb]at Y;have eA:iI G e' bg' ((i:Int),ca)=bv bg' i f:=(by rw [a5,C.out];rfl);have ey:gu G e' ((i:Int),ca)=if ce then cJ q.n e' (i:Int)else e':=by rw [bR,C.out];rfl
         rw [ey,eA,<-C.out,<-bR,<-cO,<-a5,<-br.out,<-E]at Y;rw [<-a5,<-bR]at Q;unfold fC at Q;rw [<-E]at Q;have fz: ∀d,q.fb i d->q.z0<=d/\d<wr.heap.size:=λd o=>by have:=a.f.zb.2 i d bY o;have:=a.f.blk.lt;omega
         have bu:=L.f.cells.2.2.2.1;have cl:=L.f.bgn.cell i bY;have cP:=a.f.cap.1.1;have cR:=a.f.cap.1.2;have a2:=(J.cell 0).trans rfl;have a3:=(J.cell 1).trans rfl;have hX:q.s<wr.heap.size:=a.f.blk.lt;rw [I]at bu cl a2 a3;clear b1 Z cT ey eA O;obtain⟨bz,hG,hI,hF,gd,cb,ei,bo,bC,eg,cB,ec,l,B⟩:=dh Q a5 E bR cO Y fz J L co a9 ad a g;obtain⟨gh,hJ⟩:=av ba cU;clear Q a5 E bR cO Y fz J L co a9 ad a g ba cU
         go_upto_region 16 with fail
         rw [<-I]at bu cl a2 a3⊢;clear I;have g6:s.drew.cell? ⟨q.s,3,none⟩=some (.slice (some ⟨q.gb,0,none⟩) q.n q.cb)/\s.drew.cell? ⟨q.gb,i,none⟩=some (aq (q.psb i))/\s.drew.cell? ⟨wr.heap.size,0,none⟩=some (.int .i64 (i:Int))/\s.drew.cell? ⟨wr.heap.size,1,none⟩=some (.slice A bd c):=⟨bu,cl,a2,a3⟩
         go_region_held3 (λt=>t.cell? ⟨q.s,3,none⟩=some (.slice (some ⟨q.gb,0,none⟩) q.n q.cb)/\t.cell? ⟨q.gb,i,none⟩=some (aq (q.psb i))/\t.cell? ⟨wr.heap.size,0,none⟩=some (.int .i64 (i:Int))/\t.cell? ⟨wr.heap.size,1,none⟩=some (.slice A bd c))
          (first|assumption|go_keep)
          (first|(go_at_call 252;(with_reducible refine bz.out.mono ?_);rintro V fL ⟨rfl,eZ,be⟩;have a4:=id eZ;have bb:=bo.out.drew.touch be (λo=>by have:=ei.out _ o;omega);have U:=eg.out.set aS.out a4 be (λd o=>(ei.out d o).1);have c0:=And.intro a4.cells.2.2.2.1 (And.intro (a4.bgn.cell i bY) (And.intro ((bb.cell 0).trans rfl) ((bb.cell 1).trans rfl)))))
         clear bu cl a2 a3 g6 c0 eZ a4 be bz bo bC eg cB;have hb:=U.f.cells.2.2.1;have ha:=(bb.cell 0).trans rfl;have b8:=U.below ((Below.refl _ fL).drew);have e0:=gd.out;have P:=cb.out;rw [br.out]at P;have K:=j1 b8.f.em (i:Int);rw [<-e0]at K;clear cb e0;cases ce with
         |false=>
          simp only [Bool.false_eq_true,if_false,Bool.false_and,Bool.false_or]at P;clear K;cases m
          all_goals
           simp only [Bool.true_or,Bool.false_or]at P;obtain⟨cu,cc,bs,gi⟩:=aA P U b8 bb;clear P U b8 bb
           go_wp2_with fail
           refine bX 8 (by kernel_rfl) (by kernel_rfl) ?_;simp only [Zf,Zg,Zc,Zd]
           repeat still_step
           refine wpStill_nil ?_
           go_wp2_with fail
           go_roundw
           case rel=>exact⟨j+1,_,_,_,by omega,by go_num,rfl,bs.out,cu.out⟩
           case measure=>simp [intOf];omega
         |true=>
          simp only [if_true,Bool.true_and]at P;cases cE
          all_goals
           cases m
           all_goals
            simp only [Bool.true_or,Bool.false_or,Bool.or_true]at P;obtain⟨cu,cc,bs,gi,X⟩:=aX P U b8 bb K;clear P U b8 bb K
            go_wp2_with fail
            refine bX 8 (by kernel_rfl) (by kernel_rfl) ?_;simp only [Zf,Zg,Zc,Zd]
            repeat still_step
            refine wpStill_nil ?_
            go_wp2_with fail
            with_reducible refine X.out.mono ?_
            rintro V wc ⟨rfl,b2,bi⟩;have bP:=bs.out.f.putE b2 bi;have bw:=bs.out.set aS.out bP bi (λd o=>(bs.out.f.zs d o).1);clear hb ha b2 bi bP X bs cc;have cd:=ab bw;clear bw
            go_wp2_with fail
            go_roundw
            case rel=>exact⟨j+1,_,_,_,by omega,by go_num,rfl,cd.out,cu.out⟩
            case measure=>simp [intOf];omega
        ·obtain rfl:j=R:=(by omega);have cS: ¬(j:Int)<(j:Int):=(by omega);clear bW a6;cases m with
         |false=>
          have D:=g.closed f5.out.symm;have H:=g.sound;have v:=g.base;rw [M.out]at v;obtain⟨l,cz,a1,aT,B⟩:=aX a D H v g;clear a D H v g
          go_wp2_with fail
          go_roundg 0
          case measure=>have:=bA.out;omega
          case rel=>exact⟨e',bg',false,rfl,l.out,a1.out,aT.out,λ_=>cz.out,λh=>(by cases h)⟩
         |true=>
          have b3:=g.grow rfl;have H:=g.sound;have v:=g.base;rw [M.out]at v;have hm:gv (ag G) (T+1) e' bg'+1<gk:=(by have:=bA.out;omega);obtain⟨l,a1,aT,B,gg,cA⟩:=aM a H v g b3 hm;clear a H v g b3 hm
          go_wp2_with fail
          go_roundg (gv (ag G) (T+1) e' bg'+1)
          case measure=>exact cA.out
          case rel=>exact⟨e',bg',true,rfl,l.out,a1.out,aT.out,λh=>(by cases h),λ_=>Zh _⟩
  ·have ch:=f2.out w3 (.int .i64 T) (.int .i64 ((T:Int)+(N:Int))) bp;have cn:Blk ((w3.setCell ⟨w2.heap.size,0,none⟩ (.int .i64 T)).setCell ⟨w2.heap.size,1,none⟩ (.int .i64 ((T:Int)+(N:Int)))) w2.heap.size 317 #[.int .i64 T,.int .i64 ((T:Int)+(N:Int))]:=(dF.put 0 _).put 1 _;have cG:=f0.out.trans (cp.mono f0.out.size);have cH:=(cx.out.trans (cG.mono cx.out.size)).trans ((sh w3 w2.heap.size (.int .i64 T) (.int .i64 ((T:Int)+(N:Int)))).below (B:=w.heap.size) (λd o _ e=>by omega) (by have:=cG.size;have:=cx.out.size;omega));have cU:=h1;generalize (w3.setCell ⟨w2.heap.size,0,none⟩ (.int .i64 T)).setCell ⟨w2.heap.size,1,none⟩ (.int .i64 ((T:Int)+(N:Int)))=w4 at *;generalize w2.heap.size=fT at *;clear ai ak al an c0 bp cp cG f4 f3 bo f2 gb f0 gc cx f1 gf dF d0 hM hN hO hA dt;obtain⟨k,b0⟩: ∃k:Nat,(k:Int)=(T:Int)+(N:Int):=⟨T+N,by omega⟩;rw [<-b0];have e6:k=T+N:=by omega
   have cN:=λwr=>kZ ((k:Int)+1) wr
   rw [show(min (max ((k:Int)+1) 0) 4096).toNat=k+1 by omega]at cN;have cM:=λwr=>qQ wr (k+1) (T+1) (by omega) (by omega)
   push_cast at cM
   obtain⟨ai,ak,al,an⟩:=ch.cells;have g7:=(cn.cell 0).trans rfl;have ft:=(cn.cell 1).trans rfl;have c4:=cn.drew;have eR:=ch.below ((Below.refl _ w4).drew);have ej:=cH.drew;rw [<-b0]at ft c4;have h0:IntKind.i64.wrap ((k:Int)+1)=(k:Int)+1:=by rw [IntKind.wrap_i64];omega
   have hZ:IntKind.i64.wrap ((T:Int)+1)=(T:Int)+1:=by rw [IntKind.wrap_i64];omega
   clear b0 cn;obtain⟨dO,cv,d1,ga,cC,d2,ct,bq⟩:=dA cN cM ch cH c4 eR ej e6;clear cN cM ch cH c4 eR ej e6
   go_wp2_with fail
   go_region_held3 (λt=>t.cell? ⟨fT,0,none⟩=some (.int .i64 T)/\t.cell? ⟨fT,1,none⟩=some (.int .i64 k))
    (first|assumption|go_keep)
    (first
     |(go_at_call 227;(with_reducible refine(dO.out _).mono ?_);rintro V w5 ⟨rfl,fh,bE⟩;have b5:=cC.out.below bE cC.out.lt;have dt:=And.intro ((b5.cell 0).trans rfl) ((b5.cell 1).trans rfl))
     |(go_at_call 251;(with_reducible refine(cv.out w5).mono ?_);rintro V w6 ⟨ci,cf,hc,gE,rfl,el,em,en,ep,er,e2,bG⟩;have b6:=b5.below bG b5.lt;have g4:=And.intro ((b6.cell 0).trans rfl) ((b6.cell 1).trans rfl))
     |(go_at_call 251;(with_reducible refine(cv.out w6).mono ?_);rintro V w7 ⟨cj,cg,hd,gF,rfl,es,et,ev,ew,ex,e3,bO⟩;have b7:=b6.below bO b6.lt;have g5:=And.intro ((b7.cell 0).trans rfl) ((b7.cell 1).trans rfl)))
   obtain⟨q,a8⟩: ∃q:FD,q=⟨w7.heap.size,T,k,k+1,w4.heap.size+1,New (λ_=>False) w4.drew w5,ci,cf,hc,gE,cj,cg,hd,gF,w4.heap.size,w5.heap.size,w6.heap.size,w7.heap.size⟩:=⟨_,rfl⟩;have eB:aL (w7.alloc (.cells #[.int .i64 T,.int .i64 k,aq (w4.heap.size+1),.slice (some ⟨ci,0,none⟩) (k+1) cf,.slice (some ⟨cj,0,none⟩) (k+1) cg] 320)) q aj (λ_=>aj) (λ_=>aj):=by rw [a8];exact aL.make (w4:=w4.drew) (by have:=bq.out;omega) (by have:=bq.out;omega) fh bE ⟨el,em⟩ ⟨en,ep⟩ er e2 bG ⟨es,et⟩ ⟨ev,ew⟩ ex e3 bO
   have cI:Below w7.heap.size w7 (w7.alloc (.cells #[.int .i64 T,.int .i64 k,aq (w4.heap.size+1),.slice (some ⟨ci,0,none⟩) (k+1) cf,.slice (some ⟨cj,0,none⟩) (k+1) cg] 320)):=(Below.refl _ w7).alloc (Zh _) _;have cK:=bE.trans ((bG.trans ((bO.trans (cI.mono bO.size)).mono bG.size)).mono bE.size);have fx:fW w _ F A1 c1 A2 c2 A3 c3 T N R st G q _ _ _:=⟨d2.out.below cK,eB,by rw [a8];exact d1.out.blk.lt,ct.out.trans (cK.mono ct.out.size)⟩;have g8:=(b7.below cI b7.lt).cell 0;have fd:q.s=w7.heap.size:=by rw [a8]
   have e8:q.T=T:=by rw [a8]
   have fc:q.p=k:=by rw [a8]
   have e9:q.n=k+1:=by rw [a8]
   clear a8 eB cI cK dt g4 g5 b5 b6 b7 fh e2 e3 el em en ep er es et ev ew ex bE bG bO ai ak al an g7 ft dO cv d1 ga cC d2 ct;generalize (w7.alloc (.cells #[.int .i64 T,.int .i64 k,aq (w4.heap.size+1),.slice (some ⟨ci,0,none⟩) (k+1) cf,.slice (some ⟨cj,0,none⟩) (k+1) cg] 320))=w8 at *;rw [<-fd];clear fd;obtain⟨ee,br,d6,d5⟩:=aA fx e8 fc e9;clear fx e8 fc e9
   go_wp2_with fail
   go_loopw [48] (λp wr=> ∃d:Nat,d<=T+1/\p= .int .i64 d/\fW w wr F A1 c1 A2 c2 A3 c3 T N R st G q aj (ef d) (λ_=>aj)) (λp _=>T+1 - (intOf p).toNat)
   case atStart=>exact⟨0,Zi _,rfl,by rw [qC];exact ee.out⟩
   case round=>
    clear ee g8;obtain⟨d,o,rfl,a⟩:=hrel;by_cases a6:d<T+1
    ·have cS:(d:Int)<(T:Int)+1:=(by omega);have bx:d<q.n:=(by have:=bq.out;have:=d5.out;omega);have hV:(d:Int)<(q.n:Int):=(by omega);have bu:=a.f.cells.2.2.2.1;have b0:=a.f.bgn.cell d bx;have K:=j1 (a.f.bgn.set d bx) (d:Int);have cP:=a.f.cap.1.1;have cR:=a.f.cap.1.2;obtain⟨l,X⟩:=av a K;clear a K
     go_wp2_with fail
     with_reducible refine X.out.mono ?_
     rintro V w9 ⟨rfl,fi,dn⟩;have eE:=l.out.f.putB bx fi dn;have c9:=l.out.set aS.out eE dn (λj bW=>by have:=l.out.f.z;have:=l.out.f.zb.2 d j bx bW;omega);rw [br.out,sw (by omega)]at c9;clear fi dn eE bu b0 X l;have gl:=ab c9;clear c9
     go_wp2_with fail
     go_roundw
     case rel=>exact⟨d+1,by omega,by go_num,gl.out⟩
     case measure=>simp [intOf];omega
    ·have cS: ¬(d:Int)<(T:Int)+1:=(by omega);obtain rfl:d=T+1:=(by omega);have fw:=a;clear o a6 a;have fb:q.n=ag G:=(by have:=d5.out;have:=bq.out;have:=M.out;have:=cw.out;unfold ag;omega);have r:=pQ G;rw [M.out]at r;have u: ∀a,a<=T->ef (T+1) a a=true:=qD;obtain⟨c6,e4⟩: ∃c6,c6=gv (ag G) (T+1) aj (ef (T+1))+1:=⟨_,rfl⟩;obtain⟨ed,C,a0,cy,d3⟩:=aX fw fb r u e4;clear fw fb r u e4
     go_wp2_with fail
     go_loopg [6] c6 (λdr bc wr=> ∃(e:Nat->Bool) (bg:Nat->Nat->Bool) (m:Bool),bc= .bool m/\fW w wr F A1 c1 A2 c2 A3 c3 T N R st G q e bg (λ_=>aj)/\fu G e bg/\(∀a,a<=T->bg a a=true)/\(m=false-> ∀c8∈G.rules,gN G e bg c8)/\(m=true->gv (ag G) (T+1) e bg+1<=dr))
     case atStart=>exact⟨aj,ef (T+1),true,rfl,ed.out,a0.out,cy.out,λh=>(by cases h),λ_=>Nat.le_of_eq d3.out.symm⟩
     case round=>
      clear ed a0 cy d3;obtain⟨e,bg,m,rfl,a,r,u,E,a7⟩:=hrel;cases m with
      |false=>
       have D:=E rfl;clear E a7;have e1:e=eS G:=zd bl.out r D (by have:=a.f.em.high;rw [C.out]at this;exact this);have bS: ∀p,p<q.n->fV G p=bg p:=λp hi=>(zk (by rw [M.out];exact u) r D (by rw [<-C.out];exact hi)).symm
       have ap:fW w wr F A1 c1 A2 c2 A3 c3 T N R st G q (eS G) (fV G) (λ_=>aj):=⟨a.g,(e1▸a.f).extB bS,a.z,a.b⟩;obtain⟨fg,g3⟩:0<=st/\st<ag G:=(by have:=bl.out.st;rw [gn]at this;unfold ag;omega);obtain⟨x,rfl⟩:=Za fg;have cm:x<q.n:=(by have:=C.out;omega);have hY:(x:Int)<(q.n:Int):=(by omega);have dd:=ap.below ((Below.refl _ wr).drew);have K:=j1 (dd.f.bhd.set x cm) 0;have hh:=ap.f.cells.2.2.2.2;have g2:=ap.f.bhd.cell x cm;have bp:=ap.g.cells.2.2.2;have cP:=ap.f.cap.2.1;have cR:=ap.f.cap.2.2;have bt:=pP bl.out;rw [Zb]at bt;obtain⟨fn,fs⟩:=bt;obtain⟨c7,e5⟩: ∃c7,c7=bJ (iA x) (T+1) (ag G)+1:=⟨_,rfl⟩;clear fg g3 a r D u e1 bS cP cR;obtain⟨gm,bB,X,ea,eb,d4⟩:=aM ap dd K fn fs e5;clear ap dd K fn fs e5
       go_wp2_with fail
       refine bX 8 (by kernel_rfl) (by kernel_rfl) ?_;simp only [Zf,Zg,Zc,Zd]
       repeat still_step
       refine wpStill_nil ?_
       go_wp2_with fail
       with_reducible refine X.out.mono ?_
       rintro V wc ⟨rfl,b2,bi⟩;have bP:=bB.out.f.putH cm b2 bi;have bw:=bB.out.set aS.out bP bi (λd o=>by have:=bB.out.f.z;have:=bB.out.f.zh.2 x d cm o;omega);rw [su]at bw;clear hh g2 bp b2 bi bP X gm bB;have cd:=ab bw;clear bw
       go_wp2_with fail
       go_loopg [11] c7 (λdr bc wr=> ∃(bh:Nat->Nat->Bool) (m:Bool),bc= .bool m/\fW w wr F A1 c1 A2 c2 A3 c3 T N R (x:Int) G q (eS G) (fV G) bh/\mZ G (x:Int) bh/\aV (ag G) bh (x:Int) 0=true/\(m=false-> ∀c8∈G.rules,lg G bh c8)/\(m=true->bJ bh (T+1) (ag G)+1<=dr))
       case atStart=>exact⟨iA x,true,rfl,cd.out,ea.out,eb.out,λh=>(by cases h),λ_=>Nat.le_of_eq d4.out.symm⟩
       case round=>
        clear cd ea eb d4;obtain⟨bh,m,rfl,a,r,u,E,a7⟩:=hrel;cases m with
        |false=>
         have D:=E rfl;have bS: ∀p,p<q.n->ud G (x:Int) p=bh p:=λp hi=>(zj u r D (by rw [<-C.out];exact hi)).symm
         have cr:=hl.out wr q (by first|rfl|trivial) (a.f.extH bS) (by rw [br.out]) (by rw [d6.out,bq.out,<-M.out,<-cw.out];rfl) C.out (by have:=a.z;omega) a.b;clear E a7 D bS;obtain⟨l,a0,cy,dS⟩:=aA a r u cr;clear a r u cr
         go_wp2_with fail
         go_ret
         exact dS.out
        |true=>
         have b4:=a7 rfl;clear E a7;obtain⟨ai,ak,al,an⟩:=a.g.cells;have he:=a.g.rs;have hf:=a.g.rc;have hg:=a.g.c3m;have g:=jo.begin (M:=T+1) r u;clear u;obtain⟨a0,bA,l,B⟩:=aA r b4 a g;clear r b4 a g
         go_wp2_with fail
         clear ai ak al an
         go_loopw [11,115] (λbc p wr=> ∃(j:Nat) (bh':Nat->Nat->Bool) (m:Bool),j<=R/\p= .int .i64 j/\bc= .bool m/\fW w wr F A1 c1 A2 c2 A3 c3 T N R (x:Int) G q (eS G) (fV G) bh'/\jo G (x:Int) (T+1) bh j bh' m) (λ_ p _=>R - (intOf p).toNat)
         case atStart=>exact⟨0,bh,false,Zi _,rfl,rfl,l.out,B.out⟩
         case round=>
          clear l a0 B;obtain⟨j,bh',m,bW,rfl,rfl,a,g⟩:=hrel;by_cases a6:j<R
          ·obtain⟨gr,g9,c5,ca,A,bd,c,rfl,gO,ad,eX,ck,b1,cT,g1,gW⟩:=a.g.rule a6;have g0:(j:Int)<(R:Int):=(by omega);have Z:=bl.out.left (Ze ad);simp only at Z;rw [<-C.out]at Z;obtain⟨s,I⟩: ∃s,s=wr.alloc (.cells #[.int .i64 c5,.slice A bd c] 98):=⟨_,rfl⟩;have O:Below wr.heap.size wr s:=(by rw [I];exact(Below.refl _ _).alloc (Zh _) _);have J:Blk s wr.heap.size 98 #[.int .i64 c5,.slice A bd c]:=(by rw [I];exact Blk.new _ _ _);have L:=a.below O;have a9:=b1.below O a.g.gram.lt;have ba:=a.z;have Q:=sW L.f a9 (λd o=> .inl (by have:=aS.out d o;omega)) Z;have a2:=(J.cell 0).trans rfl;have a3:=(J.cell 1).trans rfl;rw [I]at Q a2 a3;clear b1 cT O Z;obtain⟨bz,bo,bC,cB,ec,l,B,gh⟩:=dA Q J L a9 ad a g ba;clear Q J L a9 ad a g ba
           go_wp2_with fail
           with_reducible refine bz.out.mono ?_
           rintro V fL ⟨hL,h4,rfl,a4,bt,be⟩;rw [<-I]at be;have U:=bC.out.set aS.out a4 be (λd o=>by have:=bC.out.f.z;omega);rw [br.out,d6.out,C.out]at bt;have Y:=B.out.step bl.out ec.out (by rw [show ao G=k by rw [bq.out,<-M.out,<-cw.out];rfl,M.out];exact bt);clear I a2 a3 eX ck be bt a4 bz bo bC cB;cases m
           all_goals
            simp only [Bool.true_or,Bool.false_or]at Y;obtain⟨cb,cc⟩:=av Y U;clear Y U
            go_wp2_with fail
            go_roundw
            case rel=>exact⟨j+1,_,_,by omega,by go_num,rfl,cc.out,cb.out⟩
            case measure=>simp [intOf];omega
          ·obtain rfl:j=R:=(by omega);have cS: ¬(j:Int)<(j:Int):=(by omega);clear bW a6;cases m with
           |false=>
            have D:=g.closed f5.out.symm;have H:=g.sound;have v:=g.start;obtain⟨l,cz,a1,aT,B⟩:=aX a D H v g;clear a D H v g
            go_wp2_with fail
            go_roundg 0
            case measure=>have:=bA.out;omega
            case rel=>exact⟨bh',false,rfl,l.out,a1.out,aT.out,λ_=>cz.out,λh=>(by cases h)⟩
           |true=>
            have b3:=g.grow rfl;have H:=g.sound;have v:=g.start;have hm:bJ bh' (T+1) (ag G)+1<gk:=(by have:=bA.out;omega);obtain⟨l,a1,aT,B,gg,cA⟩:=aM a H v g b3 hm;clear a H v g b3 hm
            go_wp2_with fail
            go_roundg (bJ bh' (T+1) (ag G)+1)
            case measure=>exact cA.out
            case rel=>exact⟨bh',true,rfl,l.out,a1.out,aT.out,λh=>(by cases h),λ_=>Zh _⟩
      |true=>
       have b4:=a7 rfl;clear E a7;obtain⟨ai,ak,al,an⟩:=a.g.cells;have he:=a.g.rs;have hf:=a.g.rc;have hg:=a.g.c3m;have g:=jq.start (M:=T+1) r (by rw [M.out];exact u);clear u;obtain⟨a0,bA,l,B⟩:=aA r b4 a g;clear r b4 a g
       go_wp2_with fail
       clear ai ak al an
       go_loopw [6,65] (λbc p wr=> ∃(j:Nat) (e':Nat->Bool) (bg':Nat->Nat->Bool) (m:Bool),j<=R/\p= .int .i64 j/\bc= .bool m/\fW w wr F A1 c1 A2 c2 A3 c3 T N R st G q e' bg' (λ_=>aj)/\jq G (T+1) e bg j e' bg' m) (λ_ p _=>R - (intOf p).toNat)
       case atStart=>exact⟨0,e,bg,false,Zi _,rfl,rfl,l.out,B.out⟩
       case round=>
        clear l a0 B;obtain⟨j,e',bg',m,bW,rfl,rfl,a,g⟩:=hrel;by_cases a6:j<R
        ·obtain⟨gr,g9,c5,ca,A,bd,c,rfl,gO,ad,eX,ck,b1,cT,g1,gW⟩:=a.g.rule a6;have g0:(j:Int)<(R:Int):=(by omega);have Z:=bl.out.left (Ze ad);simp only at Z;obtain⟨i,rfl⟩:=Za Z.1;have bY:i<q.n:=(by have:=C.out;omega);have hW:(i:Int)<(q.n:Int):=(by omega);obtain⟨s,I⟩: ∃s,s=wr.alloc (.cells #[.int .i64 (i:Int),.slice A bd c] 98):=⟨_,rfl⟩;have O:Below wr.heap.size wr s:=(by rw [I];exact(Below.refl _ _).alloc (Zh _) _);have J:Blk s wr.heap.size 98 #[.int .i64 (i:Int),.slice A bd c]:=(by rw [I];exact Blk.new _ _ _);have L:=a.below O;have co:=L.below ((Below.refl _ s).drew);have a9:=(b1.below O a.g.gram.lt).drew;have ba:=a.z;have cU:=a.f.z;have Q:=jw (aL.relB q e' bg' (λ_=>aj) bY ⟨_,_,co.f⟩) (yL q.n bg' i) (w:=s.drew) (f0:=bg' i) (by rw [j3 rfl];exact co.f) a9 (λd o a5=>by have:=aS.out d o;have:=a.f.zb.2 i d bY a5;omega);obtain⟨f,a5⟩: ∃f,f=bM (bg' i) (aF q.n e') (aV q.n bg') ca:=⟨_,rfl⟩;obtain⟨fv,E⟩: ∃fv,fv=aE (q.T+1) (bg' i) f:=⟨_,rfl⟩;obtain⟨ce,bR⟩: ∃ce,ce=ca.all (aF q.n e'):=⟨_,rfl⟩;obtain⟨cE,cO⟩: ∃cE,cE=eK q.n e' (i:Int):=⟨_,rfl⟩;have Y:=g.step bl.out ad (by have:=L.f.hiB;rw [C.out,br.out]at this;exact this);simp only [Zb]at Y;have eA:iI G e' bg' ((i:Int),ca)=bv bg' i f:=(by rw [a5,C.out];rfl);have ey:gu G e' ((i:Int),ca)=if ce then cJ q.n e' (i:Int)else e':=by rw [bR,C.out];rfl
         rw [ey,eA,<-C.out,<-bR,<-cO,<-a5,<-br.out,<-E]at Y;rw [<-a5,<-bR]at Q;unfold fC at Q;rw [<-E]at Q;have fz: ∀d,q.fb i d->q.z0<=d/\d<wr.heap.size:=λd o=>by have:=a.f.zb.2 i d bY o;have:=a.f.blk.lt;omega
         have bu:=L.f.cells.2.2.2.1;have cl:=L.f.bgn.cell i bY;have cP:=a.f.cap.1.1;have cR:=a.f.cap.1.2;have a2:=(J.cell 0).trans rfl;have a3:=(J.cell 1).trans rfl;have hX:q.s<wr.heap.size:=a.f.blk.lt;rw [I]at bu cl a2 a3;clear b1 Z cT ey eA O;obtain⟨bz,hG,hI,hF,gd,cb,ei,bo,bC,eg,cB,ec,l,B⟩:=dh Q a5 E bR cO Y fz J L co a9 ad a g;obtain⟨gh,hJ⟩:=av ba cU;clear Q a5 E bR cO Y fz J L co a9 ad a g ba cU
         go_upto_region 16 with fail
         rw [<-I]at bu cl a2 a3⊢;clear I;have g6:s.drew.cell? ⟨q.s,3,none⟩=some (.slice (some ⟨q.gb,0,none⟩) q.n q.cb)/\s.drew.cell? ⟨q.gb,i,none⟩=some (aq (q.psb i))/\s.drew.cell? ⟨wr.heap.size,0,none⟩=some (.int .i64 (i:Int))/\s.drew.cell? ⟨wr.heap.size,1,none⟩=some (.slice A bd c):=⟨bu,cl,a2,a3⟩
         go_region_held3 (λt=>t.cell? ⟨q.s,3,none⟩=some (.slice (some ⟨q.gb,0,none⟩) q.n q.cb)/\t.cell? ⟨q.gb,i,none⟩=some (aq (q.psb i))/\t.cell? ⟨wr.heap.size,0,none⟩=some (.int .i64 (i:Int))/\t.cell? ⟨wr.heap.size,1,none⟩=some (.slice A bd c))
          (first|assumption|go_keep)
          (first|(go_at_call 252;(with_reducible refine bz.out.mono ?_);rintro V fL ⟨rfl,eZ,be⟩;have a4:=id eZ;have bb:=bo.out.drew.touch be (λo=>by have:=ei.out _ o;omega);have U:=eg.out.set aS.out a4 be (λd o=>(ei.out d o).1);have c0:=And.intro a4.cells.2.2.2.1 (And.intro (a4.bgn.cell i bY) (And.intro ((bb.cell 0).trans rfl) ((bb.cell 1).trans rfl)))))
         clear bu cl a2 a3 g6 c0 eZ a4 be bz bo bC eg cB;have hb:=U.f.cells.2.2.1;have ha:=(bb.cell 0).trans rfl;have b8:=U.below ((Below.refl _ fL).drew);have e0:=gd.out;have P:=cb.out;rw [br.out]at P;have K:=j1 b8.f.em (i:Int);rw [<-e0]at K;clear cb e0;cases ce with
         |false=>
          simp only [Bool.false_eq_true,if_false,Bool.false_and,Bool.false_or]at P;clear K;cases m
          all_goals
           simp only [Bool.true_or,Bool.false_or]at P;obtain⟨cu,cc,bs,gi⟩:=aA P U b8 bb;clear P U b8 bb
           go_wp2_with fail
           refine bX 8 (by kernel_rfl) (by kernel_rfl) ?_;simp only [Zf,Zg,Zc,Zd]
           repeat still_step
           refine wpStill_nil ?_
           go_wp2_with fail
           go_roundw
           case rel=>exact⟨j+1,_,_,_,by omega,by go_num,rfl,bs.out,cu.out⟩
           case measure=>simp [intOf];omega
         |true=>
          simp only [if_true,Bool.true_and]at P;cases cE
          all_goals
           cases m
           all_goals
            simp only [Bool.true_or,Bool.false_or,Bool.or_true]at P;obtain⟨cu,cc,bs,gi,X⟩:=aX P U b8 bb K;clear P U b8 bb K
            go_wp2_with fail
            refine bX 8 (by kernel_rfl) (by kernel_rfl) ?_;simp only [Zf,Zg,Zc,Zd]
            repeat still_step
            refine wpStill_nil ?_
            go_wp2_with fail
            with_reducible refine X.out.mono ?_
            rintro V wc ⟨rfl,b2,bi⟩;have bP:=bs.out.f.putE b2 bi;have bw:=bs.out.set aS.out bP bi (λd o=>(bs.out.f.zs d o).1);clear hb ha b2 bi bP X bs cc;have cd:=ab bw;clear bw
            go_wp2_with fail
            go_roundw
            case rel=>exact⟨j+1,_,_,_,by omega,by go_num,rfl,cd.out,cu.out⟩
            case measure=>simp [intOf];omega
        ·obtain rfl:j=R:=(by omega);have cS: ¬(j:Int)<(j:Int):=(by omega);clear bW a6;cases m with
         |false=>
          have D:=g.closed f5.out.symm;have H:=g.sound;have v:=g.base;rw [M.out]at v;obtain⟨l,cz,a1,aT,B⟩:=aX a D H v g;clear a D H v g
          go_wp2_with fail
          go_roundg 0
          case measure=>have:=bA.out;omega
          case rel=>exact⟨e',bg',false,rfl,l.out,a1.out,aT.out,λ_=>cz.out,λh=>(by cases h)⟩
         |true=>
          have b3:=g.grow rfl;have H:=g.sound;have v:=g.base;rw [M.out]at v;have hm:gv (ag G) (T+1) e' bg'+1<gk:=(by have:=bA.out;omega);obtain⟨l,a1,aT,B,gg,cA⟩:=aM a H v g b3 hm;clear a H v g b3 hm
          go_wp2_with fail
          go_roundg (gv (ag G) (T+1) e' bg'+1)
          case measure=>exact cA.out
          case rel=>exact⟨e',bg',true,rfl,l.out,a1.out,aT.out,λh=>(by cases h),λ_=>Zh _⟩
section
variable {w wr wr' W : World} {F : Nat -> Prop} {A1 : Option Addr} {c1 : Nat} {A2 : Option Addr} {c2 : Nat} {A3 : Option Addr} {c3 T N R : Nat} {st : Int} {G : ac} {b : Nat} {S : Nat -> Prop} {n z : Nat} {f f' : Nat -> Bool} {A : Option Addr} {m c : Nat} {td : List Int} {y y' : Nat} {vl : Value} {ls : List Int}
end
def rH (w:World) (l:List Int) (e:Ending) (w':World):Prop:= ∃A n c,e= .returned (.slice A n c)/\RdI w' (λk=>w.heap.size<=k/\k<w'.heap.size) (.slice A n c) l/\Below w.heap.size w w'
theorem rH.of_own {w w0 w':World} {l:List Nat} {A:Option Addr} {c:Nat} (h:w'.ownsRow w0.heap.size 3 1 (.slice A l.length c) l.length (l.map J64)) (d:Below w.heap.size w w0) (i:Below w0.heap.size w0 w'):rH w (l.map (λn:Nat=>(n:Int))) (.returned (.slice A l.length c)) w':=by
 refine⟨A,_,c,rfl,?_,d.trans (i.mono d.size)⟩;have:=(Rd.of_own h).mono (F':=λa=>w.heap.size<=a/\a<w'.heap.size) (λa g=>⟨Nat.le_trans d.size (h.lt a g).1,(h.lt a g).2⟩);rw [show l.map J64=(l.map (λn:Nat=>(n:Int))).map (Value.int .i64) by rw [List.map_map];rfl]at this;exact this
def zy (M:Nat) (e:Int->Bool) (b:Int->Nat->Bool) (l:List Int):List Int:=(dV (db e b l) M).map (λn:Nat=>(n:Int))
def zt (w:World) (l:List Int) (b:Bool) (e:Ending) (w':World):Prop:= ∃A n c,e= .returned (.tuple #[.slice A n c,.bool b])/\RdI w' (λk=>w.heap.size<=k/\k<w'.heap.size) (.slice A n c) l/\Below w.heap.size w w'
theorem AF {w:World} {q:FD} {e:Nat->Bool} {bg bh:Nat->Nat->Bool} (h:aL w q e bg bh) {F:Nat->Prop} {v:Value} {l:List Int} (hl:RdI w F v l) (hF: ∀k,F k->k<w.heap.size):
  Calls prog 224 #[aq q.s,v] w (zt w (zy (q.T+1) (aF q.n e) (aV q.n bg) l) (l.all (aF q.n e))):=by
 obtain⟨A,m,c,rfl,-⟩:=id hl;have cn:=kZ ((q.T:Int)+1) w;have hsz:=h.sz;have hw1:IntKind.i64.wrap ((q.T:Int)+1)=(q.T:Int)+1:=by rw [IntKind.wrap_i64];omega
 rw [show(min (max ((q.T:Int)+1) 0) 4096).toNat=q.T+1 by omega]at cn;obtain⟨s0,s1,s2,s3,s4⟩:=h.cells;have hbl:=h.blk.lt;have hT0:(0:Int)<=(q.T:Int):=by omega
 have hT1:(q.T:Int)<=4096:=by omega
 clear hsz;obtain⟨Xh,Xcn,Xhl,XhF⟩:=aA h cn hl hF;clear h cn hl hF
 go_enter func224,ntmps224
 go_wp2_with fail
 refine Xcn.out.mono ?_;rintro ee w2 ⟨rfl,hs2,b2⟩;have h2:=Xh.out.below b2;have hN: ∀k,New (λ_=>False) w w2 k->w.heap.size<=k/\k<w2.heap.size:=λk hk=>by
  rcases hk with hk|hk
  ·exact hk.elim
  ·exact hk
 have cl:=jw (aL.relN q e bg bh (b:=w.heap.size+1) (S:=New (λ_=>False) w w2) (λk hk=>by have:=hN k hk;omega) ⟨_,h2⟩) (wj q.n bg aj) (f0:=aj) ⟨h2,hs2⟩ (Xhl.out.below b2 XhF.out) (λk hk hk'=>by have:=XhF.out k hk;have:=hN k hk';omega);obtain⟨f,hf⟩: ∃f,f=bM aj (aF q.n e) (aV q.n bg) l:=⟨_,rfl⟩;have hff:f=db (aF q.n e) (aV q.n bg) l:=by rw [hf];funext t;simp [bM,aj]
 rw [<-hf]at cl;unfold fC at cl;clear s0 s1 s2 s3 s4;obtain⟨Xcl,Xhf,Xhff,Xh2,Xhs2,Xb2,XhN⟩:=de cl hf hff h2 hs2 b2 hN;clear cl hf hff h2 hs2 b2 hN
 go_wp2_with fail
 with_reducible refine Xcl.out.mono ?_
 rintro ee w3 ⟨rfl,hR,t3⟩;obtain⟨h3,hs3⟩:=id hR;have b3:Below w.heap.size w w3:=Xb2.out.trans (t3.below (λk hk _ hk'=>by have:=XhN.out k hk';omega) Xb2.out.size);have cs:=wK hs3;rw [Xhff.out]at cs;clear hR t3 h3 Xcl Xhf Xhff Xh2 Xhs2 Xb2 XhN hs3;generalize hal:l.all (aF q.n e)=al at *;generalize aE (q.T+1) aj f=mo at *;obtain⟨Xcs,Xb3,Xhal⟩:=aK cs b3 hal;clear cs b3 hal
 go_wp2_with fail
 refine Xcs.out.mono ?_;rintro ee w4 ⟨A4,c4,rfl,ho,b4⟩;have fin:zt w (zy (q.T+1) (aF q.n e) (aV q.n bg) l) al (.returned (.tuple #[.slice A4 (dV (db (aF q.n e) (aV q.n bg) l) (q.T+1)).length c4,.bool al])) w4:=by
  obtain⟨A5,n5,c5,e5,r5,b5⟩:=rH.of_own ho Xb3.out b4;injection e5 with e5
  rw [<-e5]at r5;exact⟨_,_,_,rfl,r5,b5⟩
 generalize (dV (db (aF q.n e) (aV q.n bg) l) (q.T+1)).length=n4 at *;clear ho b4;have Xfin:=ab fin;clear fin
 go_wp2_with fail
 go_ret2
 exact Xfin.out
end Go.Proofs.YthlbjgabhpdbfaaGreat

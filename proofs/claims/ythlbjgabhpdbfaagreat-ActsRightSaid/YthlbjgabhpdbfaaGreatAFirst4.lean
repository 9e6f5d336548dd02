/- first.Of. -/
import Derived.Test.YthlbjgabhpdbfaaGreatAFirst3
import Derived.Test.YthlbjgabhpdbfaaGreatAFirstPlain
import Derived.Deep.Cut
import Derived.Test.YthlbjgabhpdbfaaGreatALookPlain
import Derived.Test.YthlbjgabhpdbfaaGreatAItemLay
import Derived.Test.YthlbjgabhpdbfaaGreatABits3
namespace Go.Proofs.YthlbjgabhpdbfaaGreat
set_option linter.unusedVariables false
open Go.RowKit
attribute [local irreducible] wpStill wpOne wpPh
structure OfSt (w wr:World) (F:Nat->Prop) (A1:Option Addr) (c1:Nat) (A2:Option Addr) (c2:Nat) (A3:Option Addr) (c3 T N R:Nat) (st:Int) (G:GramD) (q:FD) (e:Nat->Bool) (bg bh:Nat->Nat->Bool):Prop where
 g:GBox wr F w.heap.size A1 c1 A2 c2 A3 c3 T N R st G
 f:FSets wr q e bg bh
 z:w.heap.size<q.z0
 b:Below w.heap.size w wr
section
variable {w wr wr' : World} {F : Nat -> Prop} {A1 : Option Addr} {c1 : Nat} {A2 : Option Addr} {c2 : Nat} {A3 : Option Addr} {c3 T N R : Nat} {st : Int} {G : GramD} {q : FD} {e e' : Nat -> Bool} {bg bh bg' bh' : Nat -> Nat -> Bool} {S : Nat -> Prop}
theorem OfSt.below (h:OfSt w wr F A1 c1 A2 c2 A3 c3 T N R st G q e bg bh) (b:Below wr.heap.size wr wr'):OfSt w wr' F A1 c1 A2 c2 A3 c3 T N R st G q e bg bh:=
 ⟨h.g.below b,h.f.below b,h.z,h.b.trans (b.mono h.b.size)⟩
theorem OfSt.set (h:OfSt w wr F A1 c1 A2 c2 A3 c3 T N R st G q e bg bh) (hF: ∀k,F k->k<w.heap.size) (hf:FSets wr' q e' bg' bh') (ht:Touch S wr wr') (hS: ∀k,S k->q.z0<=k):OfSt w wr' F A1 c1 A2 c2 A3 c3 T N R st G q e' bg' bh':=by
 have:=h.z
 exact⟨h.g.touch ht (fun k hk hk'=>by have:=hF k hk;have:=hS k hk';omega) (fun hk'=>by have:=hS _ hk';omega),hf,h.z,h.b.trans (ht.below (fun k hk _ hk'=>by have:=hS k hk';omega) h.b.size)⟩
end
theorem touch_pair (W:World) (z:Nat) (u v:Value):Touch (fun k=>k=z) W ((W.setCell ⟨z,0,none⟩ u).setCell ⟨z,1,none⟩ v):=
 ((Touch.refl (fun k=>k=z) W).setCell (p:=⟨z,0,none⟩) (fun _=>rfl) u).setCell (p:=⟨z,1,none⟩) (fun _=>rfl) v
def FirstPost (w:World) (G:GramD) (st:Int) (e:Ending) (w':World):Prop:=
 (checkOf G st≠0/\e= .returned (.pointer none)/\Below w.heap.size w w')\/
 (checkOf G st=0/\ ∃q:FD,e= .returned (PtrV q.s)/\FSets w' q (empB G) (begB G) (behB G st)/\q.T=G.terms.length/\q.p=topOf G/\q.n=topN G/\w.heap.size<=q.z0/\Below w.heap.size w w')
theorem FSets.make {w4 w5 w6 w7:World} {T p gb cb gh ch:Nat} {psb psh:Nat->Nat} {fb fh:Nat->Nat->Prop} (hT:T<p+1) (hp:p+1<=4096) (hs:IsSet w5 (w4.heap.size+1) (New (fun _=>False) w4 w5) (p+1) noBits) (b5:Below w4.heap.size w4 w5)
  (c1:p+1<=cb/\cb<=9223372036854775807) (l1:w5.heap.size<=gb/\gb<w6.heap.size) (m1: ∀i q,i<p+1->fb i q->w5.heap.size<=q/\q<w6.heap.size) (f1:Fam w6 gb (p+1) (T+1) psb fb (fun _=>noBits)) (b6:Below w5.heap.size w5 w6)
  (c2:p+1<=ch/\ch<=9223372036854775807) (l2:w6.heap.size<=gh/\gh<w7.heap.size) (m2: ∀i q,i<p+1->fh i q->w6.heap.size<=q/\q<w7.heap.size) (f2:Fam w7 gh (p+1) (T+1) psh fh (fun _=>noBits)) (b7:Below w6.heap.size w6 w7):
  FSets (w7.alloc (.cells #[.int .i64 T,.int .i64 p,PtrV (w4.heap.size+1),.slice (some ⟨gb,0,none⟩) (p+1) cb,.slice (some ⟨gh,0,none⟩) (p+1) ch] 320))
   ⟨w7.heap.size,T,p,p+1,w4.heap.size+1,New (fun _=>False) w4 w5,gb,cb,psb,fb,gh,ch,psh,fh,w4.heap.size,w5.heap.size,w6.heap.size,w7.heap.size⟩ noBits (fun _=>noBits) (fun _=>noBits):=by
 have b8:Below w7.heap.size w7 (w7.alloc (.cells #[.int .i64 T,.int .i64 p,PtrV (w4.heap.size+1),.slice (some ⟨gb,0,none⟩) (p+1) cb,.slice (some ⟨gh,0,none⟩) (p+1) ch] 320)):=(Below.refl _ _).alloc (Nat.le_refl _) _
 refine⟨Blk.new _ _ _,((hs.keep b6).keep b7).keep b8,(f1.below b7).below b8,f2.below b8,rfl,⟨c1,c2⟩,⟨hp,hT⟩,fun k hk=> ?_,⟨l1,m1⟩,⟨l2,m2⟩,b5.size,b6.size,b7.size,Nat.le_refl _⟩
 rcases hk with hk|hk
 ·exact hk.elim
 ·exact hk
set_option maxRecDepth 100000 in
set_option maxHeartbeats 8000000 in
theorem first_Of {w:World} {F:Nat->Prop} {vt vn vr:Value} {G:GramD} (h:IsGram w F vt vn vr G) (st:Int):
  Calls Tryz.prog 223 #[GV vt vn vr st] w (FirstPost w G st):=by
 obtain⟨A1,c1,A2,c2,A3,c3,rfl,rfl,rfl,-⟩:=h.slices
 obtain⟨w1,hw1⟩: ∃w1,w1=w.alloc (.cells #[.slice A1 G.terms.length c1,.slice A2 G.nons.length c2,.slice A3 G.rules.length c3,.int .i64 st] 25):=⟨_,rfl⟩
 have g1:=GBox.new h st
 have b1:Below w.heap.size w w1:=by rw [hw1];exact(Below.refl _ w).alloc (Nat.le_refl _) _
 have z1:w1.heap.size=w.heap.size+1:=by rw [hw1];simp
 rw [<-hw1]at g1
 have cc:=gram_check g1.gram st
 have hF:=h.lt
 have hkn:checkOf G st=0->Kn G st:=Kn.of_check
 have hno: ∀w',checkOf G st≠0->Below w.heap.size w w'->FirstPost w G st (.returned (.pointer none)) w':=fun w' h1 h2=> .inl ⟨h1,rfl,h2⟩
 have hyes: ∀w' (q:FD),checkOf G st=0->FSets w' q (empB G) (begB G) (behB G st)->q.T=G.terms.length->q.p=topOf G->q.n=topN G->w.heap.size<=q.z0->Below w.heap.size w w'->FirstPost w G st (.returned (PtrV q.s)) w':=fun w' q h1 h2 h3 h4 h5 h6 h7=> .inr ⟨h1,q,rfl,h2,h3,h4,h5,h6,h7⟩
 have ct:=fun wr (g:GBox wr F w.heap.size A1 c1 A2 c2 A3 c3 G.terms.length G.nons.length G.rules.length st G)=>gram_top g.gram st
 rw [show topOf G=G.terms.length+G.nons.length from rfl]at ct
 generalize hT:G.terms.length=T at *
 generalize hN:G.nons.length=N at *
 generalize hR:G.rules.length=R at *
 obtain⟨q0,q1,q2,q3⟩:=g1.cells
 rw [hw1]at cc q0 q1 q2 q3
 generalize hcz:checkOf G st=cz at *
 clear h
 obtain⟨XhF,Xcc,Xg1,Xb1,Xz1,Xhkn,Xhno,Xhyes,Xct,XhT,XhN,XhR,Xhcz⟩:=HqZ13 hF cc g1 b1 z1 hkn hno hyes ct hT hN hR hcz;clear hF cc g1 b1 z1 hkn hno hyes ct hT hN hR hcz
 go_enter Tryz.func223,Tryz.ntmps223
 go_wp2_with fail
 with_reducible refine Xcc.out.mono ?_
 rintro ee w2 ⟨rfl,b2⟩
 rw [<-hw1]at b2
 have g2:=Xg1.out.below b2
 have hb2:=Xb1.out.trans (b2.mono Xb1.out.size)
 clear q0 q1 q2 q3 hw1 Xg1 Xb1 b2 Xcc Xz1
 by_cases hz:cz=0
 case neg=>
  have fin:=Xhno.out w2 hz hb2
  have hz':(cz !=0)=true:=by simpa using hz
  clear hb2
  obtain⟨Xfin,Xg2⟩:=HqZ2 fin g2;clear fin g2
  go_wp2_with fail
  go_ret
  exact Xfin.out
 case pos=>
  subst hz
  have hk:=Xhkn.out (by first|rfl|trivial)
  have k1:=hk.t
  have k2:=hk.n
  rw [XhT.out]at k1
  rw [XhN.out]at k2
  obtain⟨q0,q1,q2,q3⟩:=g2.cells
  have gd:=g2.below ((Below.refl _ w2).drew)
  have ba:Below w2.heap.size w2 (w2.alloc (.cells #[.int .i64 0,.int .i64 0] 317)).drew:=((Below.refl _ w2).alloc (Nat.le_refl _) _).drew
  have ga:=g2.below ba
  have ka:Blk (w2.alloc (.cells #[.int .i64 0,.int .i64 0] 317)).drew w2.heap.size 317 #[.int .i64 0,.int .i64 0]:=(Blk.new _ _ _).drew
  have hzb:=g2.blk.lt
  have g2z: ∀W u v,GBox W F w.heap.size A1 c1 A2 c2 A3 c3 T N R st G->GBox ((W.setCell ⟨w2.heap.size,0,none⟩ u).setCell ⟨w2.heap.size,1,none⟩ v) F w.heap.size A1 c1 A2 c2 A3 c3 T N R st G:=fun W u v g=>g.touch (touch_pair W w2.heap.size u v) (fun k hk e=>by have:=XhF.out k hk;omega) (fun e=>by omega)
  have g1z: ∀W u,GBox W F w.heap.size A1 c1 A2 c2 A3 c3 T N R st G->GBox (W.setCell ⟨w2.heap.size,0,none⟩ u) F w.heap.size A1 c1 A2 c2 A3 c3 T N R st G:=fun W u g=>g.touch ((Touch.refl (fun k=>k=w2.heap.size) W).setCell (p:=⟨w2.heap.size,0,none⟩) (fun _=>rfl) u) (fun k hk e=>by have:=XhF.out k hk;omega) (fun e=>by omega)
  obtain⟨Xg2,Xhb2,Xhk,Xgd,Xga,Xka,Xg2z,Xg1z,Xba⟩:=HqZ9 g2 hb2 hk gd ga ka g2z g1z ba;clear g2 hb2 hk gd ga ka g2z g1z ba
  go_wp2_with fail
  go_region_held3 (fun w'=>w'.cell? ⟨w.heap.size,0,none⟩=some (.slice A1 T c1)/\w'.cell? ⟨w.heap.size,1,none⟩=some (.slice A2 N c2)/\w'.cell? ⟨w.heap.size,2,none⟩=some (.slice A3 R c3)/\w'.cell? ⟨w.heap.size,3,none⟩=some (.int .i64 st))
   (first|assumption|exact k4 _ _|exact k5 _|go_keep)
   (first
    |(go_at_call 80;(with_reducible refine(Xct.out _ Xgd.out).mono ?_);rintro ee w3 ⟨rfl,b3⟩;have g3:=Xgd.out.below b3;have k3:=g3.cells)
    |(go_at_call 80;(with_reducible refine(Xct.out _ Xga.out).mono ?_);rintro ee w3 ⟨rfl,b3⟩;have kk:=Xka.out.below b3 Xka.out.lt;have d0:=(kk.cell 0).trans rfl;have d1:=(kk.cell 1).trans rfl;have f0:=kk.frozen 0;have f1:=kk.frozen 1;have g3:=Xga.out.below b3;have k3:=g3.cells;have k4:=fun u v=>(Xg2z.out w3 u v g3).cells;have k5:=fun u=>(Xg1z.out w3 u g3).cells))
  ·have g3':=g3.below ((Below.refl _ w3).alloc (Nat.le_refl _) (.cells #[.int .i64 T,.int .i64 ((T:Int)+(N:Int))] 317))
   have kz:Blk (w3.alloc (.cells #[.int .i64 T,.int .i64 ((T:Int)+(N:Int))] 317)) w3.heap.size 317 #[.int .i64 T,.int .i64 ((T:Int)+(N:Int))]:=Blk.new _ _ _
   have b3':=Xhb2.out.trans (((Below.refl _ w2).drew.trans (b3.mono (Nat.le_refl _))).mono Xhb2.out.size)
   have b4:=b3'.trans (((Below.refl _ w3).alloc (Nat.le_refl _) (.cells #[.int .i64 T,.int .i64 ((T:Int)+(N:Int))] 317)).mono b3'.size)
   have hzz:=g3.blk.lt
   generalize w3.alloc (.cells #[.int .i64 T,.int .i64 ((T:Int)+(N:Int))] 317)=w4 at *
   generalize w3.heap.size=zb at *
   have g4:=g3'
   clear q0 q1 q2 q3 k3 g3 g3' b3 b3' Xgd Xga Xka Xg2z Xg1z Xba Xg2 Xhb2 Xct Xhno
   obtain⟨p,hp⟩: ∃p:Nat,(p:Int)=(T:Int)+(N:Int):=⟨T+N,by omega⟩
   rw [<-hp]
   have hp2:p=T+N:=by omega
   have cn:=fun wr=>set_new ((p:Int)+1) wr
   rw [show(min (max ((p:Int)+1) 0) 4096).toNat=p+1 by omega]at cn
   have cf:=fun wr=>first_fresh wr (p+1) (T+1) (by omega) (by omega)
   push_cast at cf
   obtain⟨q0,q1,q2,q3⟩:=g4.cells
   have kz0:=(kz.cell 0).trans rfl
   have kz1:=(kz.cell 1).trans rfl
   have kzd:=kz.drew
   have g4d:=g4.below ((Below.refl _ w4).drew)
   have b4d:=b4.drew
   rw [<-hp]at kz1 kzd
   have hwp:IntKind.i64.wrap ((p:Int)+1)=(p:Int)+1:=by rw [IntKind.wrap_i64];omega
   have hwT:IntKind.i64.wrap ((T:Int)+1)=(T:Int)+1:=by rw [IntKind.wrap_i64];omega
   clear hp kz
   obtain⟨Xcn,Xcf,Xg4,Xb4,Xkzd,Xg4d,Xb4d,Xhp2⟩:=HqZ8 cn cf g4 b4 kzd g4d b4d hp2;clear cn cf g4 b4 kzd g4d b4d hp2
   go_wp2_with fail
   go_region_held3 (fun w'=>w'.cell? ⟨zb,0,none⟩=some (.int .i64 T)/\w'.cell? ⟨zb,1,none⟩=some (.int .i64 p))
    (first|assumption|go_keep)
    (first
     |(go_at_call 227;(with_reducible refine(Xcn.out _).mono ?_);rintro ee w5 ⟨rfl,hs5,b5⟩;have kz5:=Xkzd.out.below b5 Xkzd.out.lt;have k5:=And.intro ((kz5.cell 0).trans rfl) ((kz5.cell 1).trans rfl))
     |(go_at_call 251;(with_reducible refine(Xcf.out w5).mono ?_);rintro ee w6 ⟨gb,cb,psb,fb,rfl,c61,c62,c63,c64,c65,hf6,b6⟩;have kz6:=kz5.below b6 kz5.lt;have k6:=And.intro ((kz6.cell 0).trans rfl) ((kz6.cell 1).trans rfl))
     |(go_at_call 251;(with_reducible refine(Xcf.out w6).mono ?_);rintro ee w7 ⟨gh,ch,psh,fh,rfl,c71,c72,c73,c74,c75,hf7,b7⟩;have kz7:=kz6.below b7 kz6.lt;have k7:=And.intro ((kz7.cell 0).trans rfl) ((kz7.cell 1).trans rfl)))
   obtain⟨q,hq⟩: ∃q:FD,q=⟨w7.heap.size,T,p,p+1,w4.heap.size+1,New (fun _=>False) w4.drew w5,gb,cb,psb,fb,gh,ch,psh,fh,w4.heap.size,w5.heap.size,w6.heap.size,w7.heap.size⟩:=⟨_,rfl⟩
   have f8:FSets (w7.alloc (.cells #[.int .i64 T,.int .i64 p,PtrV (w4.heap.size+1),.slice (some ⟨gb,0,none⟩) (p+1) cb,.slice (some ⟨gh,0,none⟩) (p+1) ch] 320)) q noBits (fun _=>noBits) (fun _=>noBits):=by rw [hq];exact FSets.make (w4:=w4.drew) (by have:=Xhp2.out;omega) (by have:=Xhp2.out;omega) hs5 b5 ⟨c61,c62⟩ ⟨c63,c64⟩ c65 hf6 b6 ⟨c71,c72⟩ ⟨c73,c74⟩ c75 hf7 b7
   have b8:Below w7.heap.size w7 (w7.alloc (.cells #[.int .i64 T,.int .i64 p,PtrV (w4.heap.size+1),.slice (some ⟨gb,0,none⟩) (p+1) cb,.slice (some ⟨gh,0,none⟩) (p+1) ch] 320)):=(Below.refl _ w7).alloc (Nat.le_refl _) _
   have bb8:=b5.trans ((b6.trans ((b7.trans (b8.mono b7.size)).mono b6.size)).mono b5.size)
   have t8:OfSt w _ F A1 c1 A2 c2 A3 c3 T N R st G q _ _ _:=⟨Xg4d.out.below bb8,f8,by rw [hq];exact Xg4.out.blk.lt,Xb4d.out.trans (bb8.mono Xb4d.out.size)⟩
   have kz8:=(kz7.below b8 kz7.lt).cell 0
   have hqs:q.s=w7.heap.size:=by rw [hq]
   have hqT:q.T=T:=by rw [hq]
   have hqp:q.p=p:=by rw [hq]
   have hqn:q.n=p+1:=by rw [hq]
   clear hq f8 b8 bb8 k5 k6 k7 kz5 kz6 kz7 hs5 hf6 hf7 c61 c62 c63 c64 c65 c71 c72 c73 c74 c75 b5 b6 b7 q0 q1 q2 q3 kz0 kz1 Xcn Xcf Xg4 Xb4 Xkzd Xg4d Xb4d
   generalize (w7.alloc (.cells #[.int .i64 T,.int .i64 p,PtrV (w4.heap.size+1),.slice (some ⟨gb,0,none⟩) (p+1) cb,.slice (some ⟨gh,0,none⟩) (p+1) ch] 320))=w8 at *
   rw [<-hqs]
   clear hqs
   obtain⟨Xt8,XhqT,Xhqp,Xhqn⟩:=HqZ4 t8 hqT hqp hqn;clear t8 hqT hqp hqn
   go_wp2_with fail
   go_loopw [48] (fun i wr=> ∃k:Nat,k<=T+1/\i= .int .i64 k/\OfSt w wr F A1 c1 A2 c2 A3 c3 T N R st G q noBits (startB k) (fun _=>noBits)) (fun i _=>T+1 - (intOf i).toNat)
   case atStart=>exact⟨0,Nat.zero_le _,rfl,by rw [startB_zero];exact Xt8.out⟩
   case round=>
    clear Xt8 kz8
    obtain⟨k,hk,rfl,t⟩:=hrel
    by_cases hlt:k<T+1
    ·have hlt':(k:Int)<(T:Int)+1:=by omega
     have hkn:k<q.n:=by have:=Xhp2.out;have:=Xhqn.out;omega
     have hkn2:(k:Int)<(q.n:Int):=by omega
     have s3:=t.f.cells.2.2.2.1
     have hp:=t.f.bgn.cell k hkn
     have cp:=set_put (t.f.bgn.set k hkn) (k:Int)
     have hcap:=t.f.cap.1.1
     have hcap2:=t.f.cap.1.2
     obtain⟨Xt,Xcp⟩:=HqZ2 t cp;clear t cp
     go_wp2_with fail
     with_reducible refine Xcp.out.mono ?_
     rintro ee w9 ⟨rfl,hs9,t9⟩
     have f9:=Xt.out.f.putB hkn hs9 t9
     have t10:=Xt.out.set XhF.out f9 t9 (fun j hj=>by have:=Xt.out.f.z;have:=Xt.out.f.zb.2 k j hkn hj;omega)
     rw [XhqT.out,startB_put (by omega)]at t10
     clear hs9 t9 f9 s3 hp Xcp Xt
     have Xt10:=hide t10;clear t10
     go_wp2_with fail
     go_roundw
     case rel=>exact⟨k+1,by omega,by go_num,Xt10.out⟩
     case measure=>simp [intOf];omega
    ·have hlt': ¬(k:Int)<(T:Int)+1:=by omega
     obtain rfl:k=T+1:=by omega
     have t11:=t
     clear hk hlt t
     have hqnG:q.n=topN G:=by have:=Xhqn.out;have:=Xhp2.out;have:=XhT.out;have:=XhN.out;unfold topN;omega
     have hsd:=startB_sound G
     rw [XhT.out]at hsd
     have hbs: ∀t,t<=T->startB (T+1) t t=true:=startB_base
     obtain⟨n0,hn0⟩: ∃n0,n0=measB (topN G) (T+1) noBits (startB (T+1))+1:=⟨_,rfl⟩
     obtain⟨Xt11,XhqnG,Xhsd,Xhbs,Xhn0⟩:=HqZ5 t11 hqnG hsd hbs hn0;clear t11 hqnG hsd hbs hn0
     go_wp2_with fail
     go_loopg [6] n0 (fun κ more wr=> ∃(e:Nat->Bool) (bg:Nat->Nat->Bool) (m:Bool),more= .bool m/\OfSt w wr F A1 c1 A2 c2 A3 c3 T N R st G q e bg (fun _=>noBits)/\SoundB G e bg/\(∀t,t<=T->bg t t=true)/\(m=false-> ∀r∈G.rules,closedB G e bg r)/\(m=true->measB (topN G) (T+1) e bg+1<=κ))
     case atStart=>exact⟨noBits,startB (T+1),true,rfl,Xt11.out,Xhsd.out,Xhbs.out,fun h=>(by cases h),fun _=>Nat.le_of_eq Xhn0.out.symm⟩
     case round=>
      clear Xt11 Xhsd Xhbs Xhn0
      obtain⟨e,bg,m,rfl,t,hsd,hbs,hm1,hm2⟩:=hrel
      cases m with
      |false=>
       have hcl:=hm1 rfl
       clear hm1 hm2
       have hee:e=empB G:=emp_set Xhk.out hsd hcl (by have:=t.f.em.high;rw [XhqnG.out]at this;exact this)
       have hbb: ∀i,i<q.n->begB G i=bg i:=fun i hi=>(beg_set (by rw [XhT.out];exact hbs) hsd hcl (by rw [<-XhqnG.out];exact hi)).symm
       have t2:OfSt w wr F A1 c1 A2 c2 A3 c3 T N R st G q (empB G) (begB G) (fun _=>noBits):=⟨t.g,(hee▸t.f).extB hbb,t.z,t.b⟩
       obtain⟨hs0,hs1⟩:0<=st/\st<topN G:=by have:=Xhk.out.st;rw [isNon_iff]at this;unfold topN;omega
       obtain⟨si,rfl⟩:=Int.eq_ofNat_of_zero_le hs0
       have hsi:si<q.n:=by have:=XhqnG.out;omega
       have hsi2:(si:Int)<(q.n:Int):=by omega
       have t2d:=t2.below ((Below.refl _ wr).drew)
       have cp:=set_put (t2d.f.bhd.set si hsi) 0
       have s4:=t2.f.cells.2.2.2.2
       have hp4:=t2.f.bhd.cell si hsi
       have g3:=t2.g.cells.2.2.2
       have hcap:=t2.f.cap.2.1
       have hcap2:=t2.f.cap.2.2
       have hst:=startH_sound Xhk.out
       rw [Int.toNat_natCast]at hst
       obtain⟨hst1,hst2⟩:=hst
       obtain⟨n1,hn1⟩: ∃n1,n1=unsetF (startH si) (T+1) (topN G)+1:=⟨_,rfl⟩
       clear hs0 hs1 t hsd hcl hbs hee hbb hcap hcap2
       obtain⟨Xt2,Xt2d,Xcp,Xhst1,Xhst2,Xhn1⟩:=HqZ6 t2 t2d cp hst1 hst2 hn1;clear t2 t2d cp hst1 hst2 hn1
       go_wp2_with fail
       refine region_tail 8 (by kernel_rfl) (by kernel_rfl) ?_
       simp only [List.take_succ_cons,List.take_zero,List.drop_succ_cons,List.drop_zero]
       repeat still_step
       refine wpStill_nil ?_
       go_wp2_with fail
       with_reducible refine Xcp.out.mono ?_
       rintro ee wc ⟨rfl,hsc,tc⟩
       have fc:=Xt2d.out.f.putH hsi hsc tc
       have tcc:=Xt2d.out.set XhF.out fc tc (fun k hk=>by have:=Xt2d.out.f.z;have:=Xt2d.out.f.zh.2 si k hsi hk;omega)
       rw [startH_put]at tcc
       clear s4 hp4 g3 hsc tc fc Xcp Xt2 Xt2d
       have Xtcc:=hide tcc;clear tcc
       go_wp2_with fail
       go_loopg [11] n1 (fun κ more wr=> ∃(bh:Nat->Nat->Bool) (m:Bool),more= .bool m/\OfSt w wr F A1 c1 A2 c2 A3 c3 T N R (si:Int) G q (empB G) (begB G) bh/\SoundH G (si:Int) bh/\famI (topN G) bh (si:Int) 0=true/\(m=false-> ∀r∈G.rules,closedH G bh r)/\(m=true->unsetF bh (T+1) (topN G)+1<=κ))
       case atStart=>exact⟨startH si,true,rfl,Xtcc.out,Xhst1.out,Xhst2.out,fun h=>(by cases h),fun _=>Nat.le_of_eq Xhn1.out.symm⟩
       case round=>
        clear Xtcc Xhst1 Xhst2 Xhn1
        obtain⟨bh,m,rfl,t,hsd,hbs,hm1,hm2⟩:=hrel
        cases m with
        |false=>
         have hcl:=hm1 rfl
         have hbb: ∀i,i<q.n->behB G (si:Int) i=bh i:=fun i hi=>(beh_set hbs hsd hcl (by rw [<-XhqnG.out];exact hi)).symm
         have fin:=Xhyes.out wr q (by first|rfl|trivial) (t.f.extH hbb) (by rw [XhqT.out]) (by rw [Xhqp.out,Xhp2.out,<-XhT.out,<-XhN.out];rfl) XhqnG.out (by have:=t.z;omega) t.b
         clear hm1 hm2 hcl hbb
         obtain⟨Xt,Xhsd,Xhbs,Xfin⟩:=HqZ4 t hsd hbs fin;clear t hsd hbs fin
         go_wp2_with fail
         go_ret
         exact Xfin.out
        |true=>
         have hκ:=hm2 rfl
         clear hm1 hm2
         obtain⟨q0,q1,q2,q3⟩:=t.g.cells
         have r0:=t.g.rs
         have r1:=t.g.rc
         have r2:=t.g.c3m
         have bp:=HPass.begin (M:=T+1) hsd hbs
         clear hbs
         obtain⟨Xhsd,Xhκ,Xt,Xbp⟩:=HqZ4 hsd hκ t bp;clear hsd hκ t bp
         go_wp2_with fail
         clear q0 q1 q2 q3
         go_loopw [11,115] (fun more i wr=> ∃(j:Nat) (bh':Nat->Nat->Bool) (m:Bool),j<=R/\i= .int .i64 j/\more= .bool m/\OfSt w wr F A1 c1 A2 c2 A3 c3 T N R (si:Int) G q (empB G) (begB G) bh'/\HPass G (si:Int) (T+1) bh j bh' m) (fun _ i _=>R - (intOf i).toNat)
         case atStart=>exact⟨0,bh,false,Nat.zero_le _,rfl,rfl,Xt.out,Xbp.out⟩
         case round=>
          clear Xt Xhsd Xbp
          obtain⟨j,bh',m,hj,rfl,rfl,t,bp⟩:=hrel
          by_cases hlt:j<R
          ·obtain⟨bb,off,l,x,A,nx,c,rfl,hbl,hx,h0,h1,hr,hnx,hnc,hcm⟩:=t.g.rule hlt
           have hj':(j:Int)<(R:Int):=by omega
           have hll:=Xhk.out.left (List.mem_of_getElem? hx)
           simp only at hll
           rw [<-XhqnG.out]at hll
           obtain⟨wa,hwa⟩: ∃wa,wa=wr.alloc (.cells #[.int .i64 l,.slice A nx c] 98):=⟨_,rfl⟩
           have ba:Below wr.heap.size wr wa:=by rw [hwa];exact(Below.refl _ _).alloc (Nat.le_refl _) _
           have ka:Blk wa wr.heap.size 98 #[.int .i64 l,.slice A nx c]:=by rw [hwa];exact Blk.new _ _ _
           have ta:=t.below ba
           have hra:=hr.below ba t.g.gram.lt
           have hz:=t.z
           have cl:=first_rule ta.f hra (fun k hk=> .inl (by have:=XhF.out k hk;omega)) hll
           have a0:=(ka.cell 0).trans rfl
           have a1:=(ka.cell 1).trans rfl
           rw [hwa]at cl a0 a1
           clear hr hnx ba hll
           obtain⟨Xcl,Xka,Xta,Xhra,Xhx,Xt,Xbp,Xhz⟩:=HqZ8 cl ka ta hra hx t bp hz;clear cl ka ta hra hx t bp hz
           go_wp2_with fail
           with_reducible refine Xcl.out.mono ?_
           rintro ee wb ⟨bh2,m2,rfl,fb2,hst,tb⟩
           rw [<-hwa]at tb
           have tb2:=Xta.out.set XhF.out fb2 tb (fun k hk=>by have:=Xta.out.f.z;omega)
           rw [XhqT.out,Xhqp.out,XhqnG.out]at hst
           have bs:=Xbp.out.step Xhk.out Xhx.out (by rw [show topOf G=p by rw [Xhp2.out,<-XhT.out,<-XhN.out];rfl,XhT.out];exact hst)
           clear hwa a0 a1 h0 h1 tb hst fb2 Xcl Xka Xta Xhra
           cases m
           all_goals
            simp only [Bool.true_or,Bool.false_or]at bs
            obtain⟨Xbs,Xtb2⟩:=HqZ2 bs tb2;clear bs tb2
            go_wp2_with fail
            go_roundw
            case rel=>exact⟨j+1,_,_,by omega,by go_num,rfl,Xtb2.out,Xbs.out⟩
            case measure=>simp [intOf];omega
          ·obtain rfl:j=R:=by omega
           have hlt': ¬(j:Int)<(j:Int):=by omega
           clear hj hlt
           cases m with
           |false=>
            have hcl:=bp.closed XhR.out.symm
            have hsd2:=bp.sound
            have hbs2:=bp.start
            obtain⟨Xt,Xhcl,Xhsd2,Xhbs2,Xbp⟩:=HqZ5 t hcl hsd2 hbs2 bp;clear t hcl hsd2 hbs2 bp
            go_wp2_with fail
            go_roundg 0
            case measure=>have:=Xhκ.out;omega
            case rel=>exact⟨bh',false,rfl,Xt.out,Xhsd2.out,Xhbs2.out,fun _=>Xhcl.out,fun h=>(by cases h)⟩
           |true=>
            have hu:=bp.grow rfl
            have hsd2:=bp.sound
            have hbs2:=bp.start
            have hm:unsetF bh' (T+1) (topN G)+1<gk:=by have:=Xhκ.out;omega
            obtain⟨Xt,Xhsd2,Xhbs2,Xbp,Xhu,Xhm⟩:=HqZ6 t hsd2 hbs2 bp hu hm;clear t hsd2 hbs2 bp hu hm
            go_wp2_with fail
            go_roundg (unsetF bh' (T+1) (topN G)+1)
            case measure=>exact Xhm.out
            case rel=>exact⟨bh',true,rfl,Xt.out,Xhsd2.out,Xhbs2.out,fun h=>(by cases h),fun _=>Nat.le_refl _⟩
      |true=>
       have hκ:=hm2 rfl
       clear hm1 hm2
       obtain⟨q0,q1,q2,q3⟩:=t.g.cells
       have r0:=t.g.rs
       have r1:=t.g.rc
       have r2:=t.g.c3m
       have bp:=BPass.start (M:=T+1) hsd (by rw [XhT.out];exact hbs)
       clear hbs
       obtain⟨Xhsd,Xhκ,Xt,Xbp⟩:=HqZ4 hsd hκ t bp;clear hsd hκ t bp
       go_wp2_with fail
       clear q0 q1 q2 q3
       go_loopw [6,65] (fun more i wr=> ∃(j:Nat) (e':Nat->Bool) (bg':Nat->Nat->Bool) (m:Bool),j<=R/\i= .int .i64 j/\more= .bool m/\OfSt w wr F A1 c1 A2 c2 A3 c3 T N R st G q e' bg' (fun _=>noBits)/\BPass G (T+1) e bg j e' bg' m) (fun _ i _=>R - (intOf i).toNat)
       case atStart=>exact⟨0,e,bg,false,Nat.zero_le _,rfl,rfl,Xt.out,Xbp.out⟩
       case round=>
        clear Xt Xhsd Xbp
        obtain⟨j,e',bg',m,hj,rfl,rfl,t,bp⟩:=hrel
        by_cases hlt:j<R
        ·obtain⟨bb,off,l,x,A,nx,c,rfl,hbl,hx,h0,h1,hr,hnx,hnc,hcm⟩:=t.g.rule hlt
         have hj':(j:Int)<(R:Int):=by omega
         have hll:=Xhk.out.left (List.mem_of_getElem? hx)
         simp only at hll
         obtain⟨li,rfl⟩:=Int.eq_ofNat_of_zero_le hll.1
         have hli:li<q.n:=by have:=XhqnG.out;omega
         have hli2:(li:Int)<(q.n:Int):=by omega
         obtain⟨wa,hwa⟩: ∃wa,wa=wr.alloc (.cells #[.int .i64 (li:Int),.slice A nx c] 98):=⟨_,rfl⟩
         have ba:Below wr.heap.size wr wa:=by rw [hwa];exact(Below.refl _ _).alloc (Nat.le_refl _) _
         have ka:Blk wa wr.heap.size 98 #[.int .i64 (li:Int),.slice A nx c]:=by rw [hwa];exact Blk.new _ _ _
         have ta:=t.below ba
         have tad:=ta.below ((Below.refl _ wa).drew)
         have hra:=(hr.below ba t.g.gram.lt).drew
         have hz:=t.z
         have hzz:=t.f.z
         have cl:=first_line (FSets.relB q e' bg' (fun _=>noBits) hli ⟨_,_,tad.f⟩) (relB_al q.n bg' li) (w:=wa.drew) (f0:=bg' li) (by rw [setF_id rfl];exact tad.f) hra (fun k hk hf=>by have:=XhF.out k hk;have:=t.f.zb.2 li k hli hf;omega)
         obtain⟨f,hf⟩: ∃f,f=joinL (bg' li) (hasI q.n e') (famI q.n bg') x:=⟨_,rfl⟩
         obtain⟨m1,hm1⟩: ∃m1,m1=moreB (q.T+1) (bg' li) f:=⟨_,rfl⟩
         obtain⟨al,hal⟩: ∃al,al=x.all (hasI q.n e'):=⟨_,rfl⟩
         obtain⟨ap,hap⟩: ∃ap,ap=putAns q.n e' (li:Int):=⟨_,rfl⟩
         have bs:=bp.step Xhk.out hx (by have:=ta.f.hiB;rw [XhqnG.out,XhqT.out]at this;exact this)
         simp only [Int.toNat_natCast]at bs
         have e2:stepB G e' bg' ((li:Int),x)=setF bg' li f:=by rw [hf,XhqnG.out];rfl
         have e1:stepE G e' ((li:Int),x)=if al then putSet q.n e' (li:Int)else e':=by rw [hal,XhqnG.out];rfl
         rw [e1,e2,<-XhqnG.out,<-hal,<-hap,<-hf,<-XhqT.out,<-hm1]at bs
         rw [<-hf,<-hal]at cl
         unfold FLinePost at cl
         rw [<-hm1]at cl
         have tfb: ∀k,q.fb li k->q.z0<=k/\k<wr.heap.size:=fun k hk=>by have:=t.f.zb.2 li k hli hk;have:=t.f.blk.lt;omega
         have s3:=ta.f.cells.2.2.2.1
         have hpl:=ta.f.bgn.cell li hli
         have hcap:=t.f.cap.1.1
         have hcap2:=t.f.cap.1.2
         have a0:=(ka.cell 0).trans rfl
         have a1:=(ka.cell 1).trans rfl
         have hrb:q.s<wr.heap.size:=t.f.blk.lt
         rw [hwa]at s3 hpl a0 a1
         clear hr hll hnx e1 e2 ba
         obtain⟨Xcl,Xhf,Xhm1,Xhal,Xhap,Xbs,Xtfb,Xka,Xta,Xtad,Xhra,Xhx,Xt,Xbp⟩:=HqZ14 cl hf hm1 hal hap bs tfb ka ta tad hra hx t bp;obtain⟨Xhz,Xhzz⟩:=HqZ2 hz hzz;clear cl hf hm1 hal hap bs tfb ka ta tad hra hx t bp hz hzz
         go_upto_region 16 with fail
         rw [<-hwa]at s3 hpl a0 a1⊢
         clear hwa
         have kS:wa.drew.cell? ⟨q.s,3,none⟩=some (.slice (some ⟨q.gb,0,none⟩) q.n q.cb)/\wa.drew.cell? ⟨q.gb,li,none⟩=some (PtrV (q.psb li))/\wa.drew.cell? ⟨wr.heap.size,0,none⟩=some (.int .i64 (li:Int))/\wa.drew.cell? ⟨wr.heap.size,1,none⟩=some (.slice A nx c):=⟨s3,hpl,a0,a1⟩
         go_region_held3 (fun w'=>w'.cell? ⟨q.s,3,none⟩=some (.slice (some ⟨q.gb,0,none⟩) q.n q.cb)/\w'.cell? ⟨q.gb,li,none⟩=some (PtrV (q.psb li))/\w'.cell? ⟨wr.heap.size,0,none⟩=some (.int .i64 (li:Int))/\w'.cell? ⟨wr.heap.size,1,none⟩=some (.slice A nx c))
          (first|assumption|go_keep)
          (first|(go_at_call 252;(with_reducible refine Xcl.out.mono ?_);rintro ee wb ⟨rfl,hRb,tb⟩;have fb2:=id hRb;have kb:=Xka.out.drew.touch tb (fun hk=>by have:=Xtfb.out _ hk;omega);have tb2:=Xtad.out.set XhF.out fb2 tb (fun k hk=>(Xtfb.out k hk).1);have k3:=And.intro fb2.cells.2.2.2.1 (And.intro (fb2.bgn.cell li hli) (And.intro ((kb.cell 0).trans rfl) ((kb.cell 1).trans rfl)))))
         clear s3 hpl a0 a1 kS k3 hRb fb2 tb Xcl Xka Xta Xtad Xhra
         have p2:=tb2.f.cells.2.2.1
         have p0:=(kb.cell 0).trans rfl
         have tbd:=tb2.below ((Below.refl _ wb).drew)
         have hap2:=Xhap.out
         have bs2:=Xbs.out
         rw [XhqT.out]at bs2
         have cp:=set_put tbd.f.em (li:Int)
         rw [<-hap2]at cp
         clear Xbs hap2
         cases al with
         |false=>
          simp only [Bool.false_eq_true,if_false,Bool.false_and,Bool.false_or]at bs2
          clear cp
          cases m
          all_goals
           simp only [Bool.true_or,Bool.false_or]at bs2
           obtain⟨Xbs2,Xtb2,Xtbd,Xkb⟩:=HqZ4 bs2 tb2 tbd kb;clear bs2 tb2 tbd kb
           go_wp2_with fail
           refine region_tail 8 (by kernel_rfl) (by kernel_rfl) ?_
           simp only [List.take_succ_cons,List.take_zero,List.drop_succ_cons,List.drop_zero]
           repeat still_step
           refine wpStill_nil ?_
           go_wp2_with fail
           go_roundw
           case rel=>exact⟨j+1,_,_,_,by omega,by go_num,rfl,Xtbd.out,Xbs2.out⟩
           case measure=>simp [intOf];omega
         |true=>
          simp only [if_true,Bool.true_and]at bs2
          cases ap
          all_goals
           cases m
           all_goals
            simp only [Bool.true_or,Bool.false_or,Bool.or_true]at bs2
            obtain⟨Xbs2,Xtb2,Xtbd,Xkb,Xcp⟩:=HqZ5 bs2 tb2 tbd kb cp;clear bs2 tb2 tbd kb cp
            go_wp2_with fail
            refine region_tail 8 (by kernel_rfl) (by kernel_rfl) ?_
            simp only [List.take_succ_cons,List.take_zero,List.drop_succ_cons,List.drop_zero]
            repeat still_step
            refine wpStill_nil ?_
            go_wp2_with fail
            with_reducible refine Xcp.out.mono ?_
            rintro ee wc ⟨rfl,hsc,tc⟩
            have fc:=Xtbd.out.f.putE hsc tc
            have tcc:=Xtbd.out.set XhF.out fc tc (fun k hk=>(Xtbd.out.f.zs k hk).1)
            clear p2 p0 hsc tc fc Xcp Xtbd Xtb2
            have Xtcc:=hide tcc;clear tcc
            go_wp2_with fail
            go_roundw
            case rel=>exact⟨j+1,_,_,_,by omega,by go_num,rfl,Xtcc.out,Xbs2.out⟩
            case measure=>simp [intOf];omega
        ·obtain rfl:j=R:=by omega
         have hlt': ¬(j:Int)<(j:Int):=by omega
         clear hj hlt
         cases m with
         |false=>
          have hcl:=bp.closed XhR.out.symm
          have hsd2:=bp.sound
          have hbs2:=bp.base
          rw [XhT.out]at hbs2
          obtain⟨Xt,Xhcl,Xhsd2,Xhbs2,Xbp⟩:=HqZ5 t hcl hsd2 hbs2 bp;clear t hcl hsd2 hbs2 bp
          go_wp2_with fail
          go_roundg 0
          case measure=>have:=Xhκ.out;omega
          case rel=>exact⟨e',bg',false,rfl,Xt.out,Xhsd2.out,Xhbs2.out,fun _=>Xhcl.out,fun h=>(by cases h)⟩
         |true=>
          have hu:=bp.grow rfl
          have hsd2:=bp.sound
          have hbs2:=bp.base
          rw [XhT.out]at hbs2
          have hm:measB (topN G) (T+1) e' bg'+1<gk:=by have:=Xhκ.out;omega
          obtain⟨Xt,Xhsd2,Xhbs2,Xbp,Xhu,Xhm⟩:=HqZ6 t hsd2 hbs2 bp hu hm;clear t hsd2 hbs2 bp hu hm
          go_wp2_with fail
          go_roundg (measB (topN G) (T+1) e' bg'+1)
          case measure=>exact Xhm.out
          case rel=>exact⟨e',bg',true,rfl,Xt.out,Xhsd2.out,Xhbs2.out,fun h=>(by cases h),fun _=>Nat.le_refl _⟩
  ·have g4:=Xg2z.out w3 (.int .i64 T) (.int .i64 ((T:Int)+(N:Int))) g3
   have kz:Blk ((w3.setCell ⟨w2.heap.size,0,none⟩ (.int .i64 T)).setCell ⟨w2.heap.size,1,none⟩ (.int .i64 ((T:Int)+(N:Int)))) w2.heap.size 317 #[.int .i64 T,.int .i64 ((T:Int)+(N:Int))]:=(kk.put 0 _).put 1 _
   have b3':=Xba.out.trans (b3.mono Xba.out.size)
   have b4:=(Xhb2.out.trans (b3'.mono Xhb2.out.size)).trans ((touch_pair w3 w2.heap.size (.int .i64 T) (.int .i64 ((T:Int)+(N:Int)))).below (B:=w.heap.size) (fun k hk _ e=>by omega) (by have:=b3'.size;have:=Xhb2.out.size;omega))
   have hzz:=hzb
   generalize (w3.setCell ⟨w2.heap.size,0,none⟩ (.int .i64 T)).setCell ⟨w2.heap.size,1,none⟩ (.int .i64 ((T:Int)+(N:Int)))=w4 at *
   generalize w2.heap.size=zb at *
   clear q0 q1 q2 q3 k3 g3 b3 b3' Xgd Xga Xka Xg2z Xg1z Xba Xg2 Xhb2 Xct Xhno kk d0 d1 f0 f1 k4 k5
   obtain⟨p,hp⟩: ∃p:Nat,(p:Int)=(T:Int)+(N:Int):=⟨T+N,by omega⟩
   rw [<-hp]
   have hp2:p=T+N:=by omega
   have cn:=fun wr=>set_new ((p:Int)+1) wr
   rw [show(min (max ((p:Int)+1) 0) 4096).toNat=p+1 by omega]at cn
   have cf:=fun wr=>first_fresh wr (p+1) (T+1) (by omega) (by omega)
   push_cast at cf
   obtain⟨q0,q1,q2,q3⟩:=g4.cells
   have kz0:=(kz.cell 0).trans rfl
   have kz1:=(kz.cell 1).trans rfl
   have kzd:=kz.drew
   have g4d:=g4.below ((Below.refl _ w4).drew)
   have b4d:=b4.drew
   rw [<-hp]at kz1 kzd
   have hwp:IntKind.i64.wrap ((p:Int)+1)=(p:Int)+1:=by rw [IntKind.wrap_i64];omega
   have hwT:IntKind.i64.wrap ((T:Int)+1)=(T:Int)+1:=by rw [IntKind.wrap_i64];omega
   clear hp kz
   obtain⟨Xcn,Xcf,Xg4,Xb4,Xkzd,Xg4d,Xb4d,Xhp2⟩:=HqZ8 cn cf g4 b4 kzd g4d b4d hp2;clear cn cf g4 b4 kzd g4d b4d hp2
   go_wp2_with fail
   go_region_held3 (fun w'=>w'.cell? ⟨zb,0,none⟩=some (.int .i64 T)/\w'.cell? ⟨zb,1,none⟩=some (.int .i64 p))
    (first|assumption|go_keep)
    (first
     |(go_at_call 227;(with_reducible refine(Xcn.out _).mono ?_);rintro ee w5 ⟨rfl,hs5,b5⟩;have kz5:=Xkzd.out.below b5 Xkzd.out.lt;have k5:=And.intro ((kz5.cell 0).trans rfl) ((kz5.cell 1).trans rfl))
     |(go_at_call 251;(with_reducible refine(Xcf.out w5).mono ?_);rintro ee w6 ⟨gb,cb,psb,fb,rfl,c61,c62,c63,c64,c65,hf6,b6⟩;have kz6:=kz5.below b6 kz5.lt;have k6:=And.intro ((kz6.cell 0).trans rfl) ((kz6.cell 1).trans rfl))
     |(go_at_call 251;(with_reducible refine(Xcf.out w6).mono ?_);rintro ee w7 ⟨gh,ch,psh,fh,rfl,c71,c72,c73,c74,c75,hf7,b7⟩;have kz7:=kz6.below b7 kz6.lt;have k7:=And.intro ((kz7.cell 0).trans rfl) ((kz7.cell 1).trans rfl)))
   obtain⟨q,hq⟩: ∃q:FD,q=⟨w7.heap.size,T,p,p+1,w4.heap.size+1,New (fun _=>False) w4.drew w5,gb,cb,psb,fb,gh,ch,psh,fh,w4.heap.size,w5.heap.size,w6.heap.size,w7.heap.size⟩:=⟨_,rfl⟩
   have f8:FSets (w7.alloc (.cells #[.int .i64 T,.int .i64 p,PtrV (w4.heap.size+1),.slice (some ⟨gb,0,none⟩) (p+1) cb,.slice (some ⟨gh,0,none⟩) (p+1) ch] 320)) q noBits (fun _=>noBits) (fun _=>noBits):=by rw [hq];exact FSets.make (w4:=w4.drew) (by have:=Xhp2.out;omega) (by have:=Xhp2.out;omega) hs5 b5 ⟨c61,c62⟩ ⟨c63,c64⟩ c65 hf6 b6 ⟨c71,c72⟩ ⟨c73,c74⟩ c75 hf7 b7
   have b8:Below w7.heap.size w7 (w7.alloc (.cells #[.int .i64 T,.int .i64 p,PtrV (w4.heap.size+1),.slice (some ⟨gb,0,none⟩) (p+1) cb,.slice (some ⟨gh,0,none⟩) (p+1) ch] 320)):=(Below.refl _ w7).alloc (Nat.le_refl _) _
   have bb8:=b5.trans ((b6.trans ((b7.trans (b8.mono b7.size)).mono b6.size)).mono b5.size)
   have t8:OfSt w _ F A1 c1 A2 c2 A3 c3 T N R st G q _ _ _:=⟨Xg4d.out.below bb8,f8,by rw [hq];exact Xg4.out.blk.lt,Xb4d.out.trans (bb8.mono Xb4d.out.size)⟩
   have kz8:=(kz7.below b8 kz7.lt).cell 0
   have hqs:q.s=w7.heap.size:=by rw [hq]
   have hqT:q.T=T:=by rw [hq]
   have hqp:q.p=p:=by rw [hq]
   have hqn:q.n=p+1:=by rw [hq]
   clear hq f8 b8 bb8 k5 k6 k7 kz5 kz6 kz7 hs5 hf6 hf7 c61 c62 c63 c64 c65 c71 c72 c73 c74 c75 b5 b6 b7 q0 q1 q2 q3 kz0 kz1 Xcn Xcf Xg4 Xb4 Xkzd Xg4d Xb4d
   generalize (w7.alloc (.cells #[.int .i64 T,.int .i64 p,PtrV (w4.heap.size+1),.slice (some ⟨gb,0,none⟩) (p+1) cb,.slice (some ⟨gh,0,none⟩) (p+1) ch] 320))=w8 at *
   rw [<-hqs]
   clear hqs
   obtain⟨Xt8,XhqT,Xhqp,Xhqn⟩:=HqZ4 t8 hqT hqp hqn;clear t8 hqT hqp hqn
   go_wp2_with fail
   go_loopw [48] (fun i wr=> ∃k:Nat,k<=T+1/\i= .int .i64 k/\OfSt w wr F A1 c1 A2 c2 A3 c3 T N R st G q noBits (startB k) (fun _=>noBits)) (fun i _=>T+1 - (intOf i).toNat)
   case atStart=>exact⟨0,Nat.zero_le _,rfl,by rw [startB_zero];exact Xt8.out⟩
   case round=>
    clear Xt8 kz8
    obtain⟨k,hk,rfl,t⟩:=hrel
    by_cases hlt:k<T+1
    ·have hlt':(k:Int)<(T:Int)+1:=by omega
     have hkn:k<q.n:=by have:=Xhp2.out;have:=Xhqn.out;omega
     have hkn2:(k:Int)<(q.n:Int):=by omega
     have s3:=t.f.cells.2.2.2.1
     have hp:=t.f.bgn.cell k hkn
     have cp:=set_put (t.f.bgn.set k hkn) (k:Int)
     have hcap:=t.f.cap.1.1
     have hcap2:=t.f.cap.1.2
     obtain⟨Xt,Xcp⟩:=HqZ2 t cp;clear t cp
     go_wp2_with fail
     with_reducible refine Xcp.out.mono ?_
     rintro ee w9 ⟨rfl,hs9,t9⟩
     have f9:=Xt.out.f.putB hkn hs9 t9
     have t10:=Xt.out.set XhF.out f9 t9 (fun j hj=>by have:=Xt.out.f.z;have:=Xt.out.f.zb.2 k j hkn hj;omega)
     rw [XhqT.out,startB_put (by omega)]at t10
     clear hs9 t9 f9 s3 hp Xcp Xt
     have Xt10:=hide t10;clear t10
     go_wp2_with fail
     go_roundw
     case rel=>exact⟨k+1,by omega,by go_num,Xt10.out⟩
     case measure=>simp [intOf];omega
    ·have hlt': ¬(k:Int)<(T:Int)+1:=by omega
     obtain rfl:k=T+1:=by omega
     have t11:=t
     clear hk hlt t
     have hqnG:q.n=topN G:=by have:=Xhqn.out;have:=Xhp2.out;have:=XhT.out;have:=XhN.out;unfold topN;omega
     have hsd:=startB_sound G
     rw [XhT.out]at hsd
     have hbs: ∀t,t<=T->startB (T+1) t t=true:=startB_base
     obtain⟨n0,hn0⟩: ∃n0,n0=measB (topN G) (T+1) noBits (startB (T+1))+1:=⟨_,rfl⟩
     obtain⟨Xt11,XhqnG,Xhsd,Xhbs,Xhn0⟩:=HqZ5 t11 hqnG hsd hbs hn0;clear t11 hqnG hsd hbs hn0
     go_wp2_with fail
     go_loopg [6] n0 (fun κ more wr=> ∃(e:Nat->Bool) (bg:Nat->Nat->Bool) (m:Bool),more= .bool m/\OfSt w wr F A1 c1 A2 c2 A3 c3 T N R st G q e bg (fun _=>noBits)/\SoundB G e bg/\(∀t,t<=T->bg t t=true)/\(m=false-> ∀r∈G.rules,closedB G e bg r)/\(m=true->measB (topN G) (T+1) e bg+1<=κ))
     case atStart=>exact⟨noBits,startB (T+1),true,rfl,Xt11.out,Xhsd.out,Xhbs.out,fun h=>(by cases h),fun _=>Nat.le_of_eq Xhn0.out.symm⟩
     case round=>
      clear Xt11 Xhsd Xhbs Xhn0
      obtain⟨e,bg,m,rfl,t,hsd,hbs,hm1,hm2⟩:=hrel
      cases m with
      |false=>
       have hcl:=hm1 rfl
       clear hm1 hm2
       have hee:e=empB G:=emp_set Xhk.out hsd hcl (by have:=t.f.em.high;rw [XhqnG.out]at this;exact this)
       have hbb: ∀i,i<q.n->begB G i=bg i:=fun i hi=>(beg_set (by rw [XhT.out];exact hbs) hsd hcl (by rw [<-XhqnG.out];exact hi)).symm
       have t2:OfSt w wr F A1 c1 A2 c2 A3 c3 T N R st G q (empB G) (begB G) (fun _=>noBits):=⟨t.g,(hee▸t.f).extB hbb,t.z,t.b⟩
       obtain⟨hs0,hs1⟩:0<=st/\st<topN G:=by have:=Xhk.out.st;rw [isNon_iff]at this;unfold topN;omega
       obtain⟨si,rfl⟩:=Int.eq_ofNat_of_zero_le hs0
       have hsi:si<q.n:=by have:=XhqnG.out;omega
       have hsi2:(si:Int)<(q.n:Int):=by omega
       have t2d:=t2.below ((Below.refl _ wr).drew)
       have cp:=set_put (t2d.f.bhd.set si hsi) 0
       have s4:=t2.f.cells.2.2.2.2
       have hp4:=t2.f.bhd.cell si hsi
       have g3:=t2.g.cells.2.2.2
       have hcap:=t2.f.cap.2.1
       have hcap2:=t2.f.cap.2.2
       have hst:=startH_sound Xhk.out
       rw [Int.toNat_natCast]at hst
       obtain⟨hst1,hst2⟩:=hst
       obtain⟨n1,hn1⟩: ∃n1,n1=unsetF (startH si) (T+1) (topN G)+1:=⟨_,rfl⟩
       clear hs0 hs1 t hsd hcl hbs hee hbb hcap hcap2
       obtain⟨Xt2,Xt2d,Xcp,Xhst1,Xhst2,Xhn1⟩:=HqZ6 t2 t2d cp hst1 hst2 hn1;clear t2 t2d cp hst1 hst2 hn1
       go_wp2_with fail
       refine region_tail 8 (by kernel_rfl) (by kernel_rfl) ?_
       simp only [List.take_succ_cons,List.take_zero,List.drop_succ_cons,List.drop_zero]
       repeat still_step
       refine wpStill_nil ?_
       go_wp2_with fail
       with_reducible refine Xcp.out.mono ?_
       rintro ee wc ⟨rfl,hsc,tc⟩
       have fc:=Xt2d.out.f.putH hsi hsc tc
       have tcc:=Xt2d.out.set XhF.out fc tc (fun k hk=>by have:=Xt2d.out.f.z;have:=Xt2d.out.f.zh.2 si k hsi hk;omega)
       rw [startH_put]at tcc
       clear s4 hp4 g3 hsc tc fc Xcp Xt2 Xt2d
       have Xtcc:=hide tcc;clear tcc
       go_wp2_with fail
       go_loopg [11] n1 (fun κ more wr=> ∃(bh:Nat->Nat->Bool) (m:Bool),more= .bool m/\OfSt w wr F A1 c1 A2 c2 A3 c3 T N R (si:Int) G q (empB G) (begB G) bh/\SoundH G (si:Int) bh/\famI (topN G) bh (si:Int) 0=true/\(m=false-> ∀r∈G.rules,closedH G bh r)/\(m=true->unsetF bh (T+1) (topN G)+1<=κ))
       case atStart=>exact⟨startH si,true,rfl,Xtcc.out,Xhst1.out,Xhst2.out,fun h=>(by cases h),fun _=>Nat.le_of_eq Xhn1.out.symm⟩
       case round=>
        clear Xtcc Xhst1 Xhst2 Xhn1
        obtain⟨bh,m,rfl,t,hsd,hbs,hm1,hm2⟩:=hrel
        cases m with
        |false=>
         have hcl:=hm1 rfl
         have hbb: ∀i,i<q.n->behB G (si:Int) i=bh i:=fun i hi=>(beh_set hbs hsd hcl (by rw [<-XhqnG.out];exact hi)).symm
         have fin:=Xhyes.out wr q (by first|rfl|trivial) (t.f.extH hbb) (by rw [XhqT.out]) (by rw [Xhqp.out,Xhp2.out,<-XhT.out,<-XhN.out];rfl) XhqnG.out (by have:=t.z;omega) t.b
         clear hm1 hm2 hcl hbb
         obtain⟨Xt,Xhsd,Xhbs,Xfin⟩:=HqZ4 t hsd hbs fin;clear t hsd hbs fin
         go_wp2_with fail
         go_ret
         exact Xfin.out
        |true=>
         have hκ:=hm2 rfl
         clear hm1 hm2
         obtain⟨q0,q1,q2,q3⟩:=t.g.cells
         have r0:=t.g.rs
         have r1:=t.g.rc
         have r2:=t.g.c3m
         have bp:=HPass.begin (M:=T+1) hsd hbs
         clear hbs
         obtain⟨Xhsd,Xhκ,Xt,Xbp⟩:=HqZ4 hsd hκ t bp;clear hsd hκ t bp
         go_wp2_with fail
         clear q0 q1 q2 q3
         go_loopw [11,115] (fun more i wr=> ∃(j:Nat) (bh':Nat->Nat->Bool) (m:Bool),j<=R/\i= .int .i64 j/\more= .bool m/\OfSt w wr F A1 c1 A2 c2 A3 c3 T N R (si:Int) G q (empB G) (begB G) bh'/\HPass G (si:Int) (T+1) bh j bh' m) (fun _ i _=>R - (intOf i).toNat)
         case atStart=>exact⟨0,bh,false,Nat.zero_le _,rfl,rfl,Xt.out,Xbp.out⟩
         case round=>
          clear Xt Xhsd Xbp
          obtain⟨j,bh',m,hj,rfl,rfl,t,bp⟩:=hrel
          by_cases hlt:j<R
          ·obtain⟨bb,off,l,x,A,nx,c,rfl,hbl,hx,h0,h1,hr,hnx,hnc,hcm⟩:=t.g.rule hlt
           have hj':(j:Int)<(R:Int):=by omega
           have hll:=Xhk.out.left (List.mem_of_getElem? hx)
           simp only at hll
           rw [<-XhqnG.out]at hll
           obtain⟨wa,hwa⟩: ∃wa,wa=wr.alloc (.cells #[.int .i64 l,.slice A nx c] 98):=⟨_,rfl⟩
           have ba:Below wr.heap.size wr wa:=by rw [hwa];exact(Below.refl _ _).alloc (Nat.le_refl _) _
           have ka:Blk wa wr.heap.size 98 #[.int .i64 l,.slice A nx c]:=by rw [hwa];exact Blk.new _ _ _
           have ta:=t.below ba
           have hra:=hr.below ba t.g.gram.lt
           have hz:=t.z
           have cl:=first_rule ta.f hra (fun k hk=> .inl (by have:=XhF.out k hk;omega)) hll
           have a0:=(ka.cell 0).trans rfl
           have a1:=(ka.cell 1).trans rfl
           rw [hwa]at cl a0 a1
           clear hr hnx ba hll
           obtain⟨Xcl,Xka,Xta,Xhra,Xhx,Xt,Xbp,Xhz⟩:=HqZ8 cl ka ta hra hx t bp hz;clear cl ka ta hra hx t bp hz
           go_wp2_with fail
           with_reducible refine Xcl.out.mono ?_
           rintro ee wb ⟨bh2,m2,rfl,fb2,hst,tb⟩
           rw [<-hwa]at tb
           have tb2:=Xta.out.set XhF.out fb2 tb (fun k hk=>by have:=Xta.out.f.z;omega)
           rw [XhqT.out,Xhqp.out,XhqnG.out]at hst
           have bs:=Xbp.out.step Xhk.out Xhx.out (by rw [show topOf G=p by rw [Xhp2.out,<-XhT.out,<-XhN.out];rfl,XhT.out];exact hst)
           clear hwa a0 a1 h0 h1 tb hst fb2 Xcl Xka Xta Xhra
           cases m
           all_goals
            simp only [Bool.true_or,Bool.false_or]at bs
            obtain⟨Xbs,Xtb2⟩:=HqZ2 bs tb2;clear bs tb2
            go_wp2_with fail
            go_roundw
            case rel=>exact⟨j+1,_,_,by omega,by go_num,rfl,Xtb2.out,Xbs.out⟩
            case measure=>simp [intOf];omega
          ·obtain rfl:j=R:=by omega
           have hlt': ¬(j:Int)<(j:Int):=by omega
           clear hj hlt
           cases m with
           |false=>
            have hcl:=bp.closed XhR.out.symm
            have hsd2:=bp.sound
            have hbs2:=bp.start
            obtain⟨Xt,Xhcl,Xhsd2,Xhbs2,Xbp⟩:=HqZ5 t hcl hsd2 hbs2 bp;clear t hcl hsd2 hbs2 bp
            go_wp2_with fail
            go_roundg 0
            case measure=>have:=Xhκ.out;omega
            case rel=>exact⟨bh',false,rfl,Xt.out,Xhsd2.out,Xhbs2.out,fun _=>Xhcl.out,fun h=>(by cases h)⟩
           |true=>
            have hu:=bp.grow rfl
            have hsd2:=bp.sound
            have hbs2:=bp.start
            have hm:unsetF bh' (T+1) (topN G)+1<gk:=by have:=Xhκ.out;omega
            obtain⟨Xt,Xhsd2,Xhbs2,Xbp,Xhu,Xhm⟩:=HqZ6 t hsd2 hbs2 bp hu hm;clear t hsd2 hbs2 bp hu hm
            go_wp2_with fail
            go_roundg (unsetF bh' (T+1) (topN G)+1)
            case measure=>exact Xhm.out
            case rel=>exact⟨bh',true,rfl,Xt.out,Xhsd2.out,Xhbs2.out,fun h=>(by cases h),fun _=>Nat.le_refl _⟩
      |true=>
       have hκ:=hm2 rfl
       clear hm1 hm2
       obtain⟨q0,q1,q2,q3⟩:=t.g.cells
       have r0:=t.g.rs
       have r1:=t.g.rc
       have r2:=t.g.c3m
       have bp:=BPass.start (M:=T+1) hsd (by rw [XhT.out];exact hbs)
       clear hbs
       obtain⟨Xhsd,Xhκ,Xt,Xbp⟩:=HqZ4 hsd hκ t bp;clear hsd hκ t bp
       go_wp2_with fail
       clear q0 q1 q2 q3
       go_loopw [6,65] (fun more i wr=> ∃(j:Nat) (e':Nat->Bool) (bg':Nat->Nat->Bool) (m:Bool),j<=R/\i= .int .i64 j/\more= .bool m/\OfSt w wr F A1 c1 A2 c2 A3 c3 T N R st G q e' bg' (fun _=>noBits)/\BPass G (T+1) e bg j e' bg' m) (fun _ i _=>R - (intOf i).toNat)
       case atStart=>exact⟨0,e,bg,false,Nat.zero_le _,rfl,rfl,Xt.out,Xbp.out⟩
       case round=>
        clear Xt Xhsd Xbp
        obtain⟨j,e',bg',m,hj,rfl,rfl,t,bp⟩:=hrel
        by_cases hlt:j<R
        ·obtain⟨bb,off,l,x,A,nx,c,rfl,hbl,hx,h0,h1,hr,hnx,hnc,hcm⟩:=t.g.rule hlt
         have hj':(j:Int)<(R:Int):=by omega
         have hll:=Xhk.out.left (List.mem_of_getElem? hx)
         simp only at hll
         obtain⟨li,rfl⟩:=Int.eq_ofNat_of_zero_le hll.1
         have hli:li<q.n:=by have:=XhqnG.out;omega
         have hli2:(li:Int)<(q.n:Int):=by omega
         obtain⟨wa,hwa⟩: ∃wa,wa=wr.alloc (.cells #[.int .i64 (li:Int),.slice A nx c] 98):=⟨_,rfl⟩
         have ba:Below wr.heap.size wr wa:=by rw [hwa];exact(Below.refl _ _).alloc (Nat.le_refl _) _
         have ka:Blk wa wr.heap.size 98 #[.int .i64 (li:Int),.slice A nx c]:=by rw [hwa];exact Blk.new _ _ _
         have ta:=t.below ba
         have tad:=ta.below ((Below.refl _ wa).drew)
         have hra:=(hr.below ba t.g.gram.lt).drew
         have hz:=t.z
         have hzz:=t.f.z
         have cl:=first_line (FSets.relB q e' bg' (fun _=>noBits) hli ⟨_,_,tad.f⟩) (relB_al q.n bg' li) (w:=wa.drew) (f0:=bg' li) (by rw [setF_id rfl];exact tad.f) hra (fun k hk hf=>by have:=XhF.out k hk;have:=t.f.zb.2 li k hli hf;omega)
         obtain⟨f,hf⟩: ∃f,f=joinL (bg' li) (hasI q.n e') (famI q.n bg') x:=⟨_,rfl⟩
         obtain⟨m1,hm1⟩: ∃m1,m1=moreB (q.T+1) (bg' li) f:=⟨_,rfl⟩
         obtain⟨al,hal⟩: ∃al,al=x.all (hasI q.n e'):=⟨_,rfl⟩
         obtain⟨ap,hap⟩: ∃ap,ap=putAns q.n e' (li:Int):=⟨_,rfl⟩
         have bs:=bp.step Xhk.out hx (by have:=ta.f.hiB;rw [XhqnG.out,XhqT.out]at this;exact this)
         simp only [Int.toNat_natCast]at bs
         have e2:stepB G e' bg' ((li:Int),x)=setF bg' li f:=by rw [hf,XhqnG.out];rfl
         have e1:stepE G e' ((li:Int),x)=if al then putSet q.n e' (li:Int)else e':=by rw [hal,XhqnG.out];rfl
         rw [e1,e2,<-XhqnG.out,<-hal,<-hap,<-hf,<-XhqT.out,<-hm1]at bs
         rw [<-hf,<-hal]at cl
         unfold FLinePost at cl
         rw [<-hm1]at cl
         have tfb: ∀k,q.fb li k->q.z0<=k/\k<wr.heap.size:=fun k hk=>by have:=t.f.zb.2 li k hli hk;have:=t.f.blk.lt;omega
         have s3:=ta.f.cells.2.2.2.1
         have hpl:=ta.f.bgn.cell li hli
         have hcap:=t.f.cap.1.1
         have hcap2:=t.f.cap.1.2
         have a0:=(ka.cell 0).trans rfl
         have a1:=(ka.cell 1).trans rfl
         have hrb:q.s<wr.heap.size:=t.f.blk.lt
         rw [hwa]at s3 hpl a0 a1
         clear hr hll hnx e1 e2 ba
         obtain⟨Xcl,Xhf,Xhm1,Xhal,Xhap,Xbs,Xtfb,Xka,Xta,Xtad,Xhra,Xhx,Xt,Xbp⟩:=HqZ14 cl hf hm1 hal hap bs tfb ka ta tad hra hx t bp;obtain⟨Xhz,Xhzz⟩:=HqZ2 hz hzz;clear cl hf hm1 hal hap bs tfb ka ta tad hra hx t bp hz hzz
         go_upto_region 16 with fail
         rw [<-hwa]at s3 hpl a0 a1⊢
         clear hwa
         have kS:wa.drew.cell? ⟨q.s,3,none⟩=some (.slice (some ⟨q.gb,0,none⟩) q.n q.cb)/\wa.drew.cell? ⟨q.gb,li,none⟩=some (PtrV (q.psb li))/\wa.drew.cell? ⟨wr.heap.size,0,none⟩=some (.int .i64 (li:Int))/\wa.drew.cell? ⟨wr.heap.size,1,none⟩=some (.slice A nx c):=⟨s3,hpl,a0,a1⟩
         go_region_held3 (fun w'=>w'.cell? ⟨q.s,3,none⟩=some (.slice (some ⟨q.gb,0,none⟩) q.n q.cb)/\w'.cell? ⟨q.gb,li,none⟩=some (PtrV (q.psb li))/\w'.cell? ⟨wr.heap.size,0,none⟩=some (.int .i64 (li:Int))/\w'.cell? ⟨wr.heap.size,1,none⟩=some (.slice A nx c))
          (first|assumption|go_keep)
          (first|(go_at_call 252;(with_reducible refine Xcl.out.mono ?_);rintro ee wb ⟨rfl,hRb,tb⟩;have fb2:=id hRb;have kb:=Xka.out.drew.touch tb (fun hk=>by have:=Xtfb.out _ hk;omega);have tb2:=Xtad.out.set XhF.out fb2 tb (fun k hk=>(Xtfb.out k hk).1);have k3:=And.intro fb2.cells.2.2.2.1 (And.intro (fb2.bgn.cell li hli) (And.intro ((kb.cell 0).trans rfl) ((kb.cell 1).trans rfl)))))
         clear s3 hpl a0 a1 kS k3 hRb fb2 tb Xcl Xka Xta Xtad Xhra
         have p2:=tb2.f.cells.2.2.1
         have p0:=(kb.cell 0).trans rfl
         have tbd:=tb2.below ((Below.refl _ wb).drew)
         have hap2:=Xhap.out
         have bs2:=Xbs.out
         rw [XhqT.out]at bs2
         have cp:=set_put tbd.f.em (li:Int)
         rw [<-hap2]at cp
         clear Xbs hap2
         cases al with
         |false=>
          simp only [Bool.false_eq_true,if_false,Bool.false_and,Bool.false_or]at bs2
          clear cp
          cases m
          all_goals
           simp only [Bool.true_or,Bool.false_or]at bs2
           obtain⟨Xbs2,Xtb2,Xtbd,Xkb⟩:=HqZ4 bs2 tb2 tbd kb;clear bs2 tb2 tbd kb
           go_wp2_with fail
           refine region_tail 8 (by kernel_rfl) (by kernel_rfl) ?_
           simp only [List.take_succ_cons,List.take_zero,List.drop_succ_cons,List.drop_zero]
           repeat still_step
           refine wpStill_nil ?_
           go_wp2_with fail
           go_roundw
           case rel=>exact⟨j+1,_,_,_,by omega,by go_num,rfl,Xtbd.out,Xbs2.out⟩
           case measure=>simp [intOf];omega
         |true=>
          simp only [if_true,Bool.true_and]at bs2
          cases ap
          all_goals
           cases m
           all_goals
            simp only [Bool.true_or,Bool.false_or,Bool.or_true]at bs2
            obtain⟨Xbs2,Xtb2,Xtbd,Xkb,Xcp⟩:=HqZ5 bs2 tb2 tbd kb cp;clear bs2 tb2 tbd kb cp
            go_wp2_with fail
            refine region_tail 8 (by kernel_rfl) (by kernel_rfl) ?_
            simp only [List.take_succ_cons,List.take_zero,List.drop_succ_cons,List.drop_zero]
            repeat still_step
            refine wpStill_nil ?_
            go_wp2_with fail
            with_reducible refine Xcp.out.mono ?_
            rintro ee wc ⟨rfl,hsc,tc⟩
            have fc:=Xtbd.out.f.putE hsc tc
            have tcc:=Xtbd.out.set XhF.out fc tc (fun k hk=>(Xtbd.out.f.zs k hk).1)
            clear p2 p0 hsc tc fc Xcp Xtbd Xtb2
            have Xtcc:=hide tcc;clear tcc
            go_wp2_with fail
            go_roundw
            case rel=>exact⟨j+1,_,_,_,by omega,by go_num,rfl,Xtcc.out,Xbs2.out⟩
            case measure=>simp [intOf];omega
        ·obtain rfl:j=R:=by omega
         have hlt': ¬(j:Int)<(j:Int):=by omega
         clear hj hlt
         cases m with
         |false=>
          have hcl:=bp.closed XhR.out.symm
          have hsd2:=bp.sound
          have hbs2:=bp.base
          rw [XhT.out]at hbs2
          obtain⟨Xt,Xhcl,Xhsd2,Xhbs2,Xbp⟩:=HqZ5 t hcl hsd2 hbs2 bp;clear t hcl hsd2 hbs2 bp
          go_wp2_with fail
          go_roundg 0
          case measure=>have:=Xhκ.out;omega
          case rel=>exact⟨e',bg',false,rfl,Xt.out,Xhsd2.out,Xhbs2.out,fun _=>Xhcl.out,fun h=>(by cases h)⟩
         |true=>
          have hu:=bp.grow rfl
          have hsd2:=bp.sound
          have hbs2:=bp.base
          rw [XhT.out]at hbs2
          have hm:measB (topN G) (T+1) e' bg'+1<gk:=by have:=Xhκ.out;omega
          obtain⟨Xt,Xhsd2,Xhbs2,Xbp,Xhu,Xhm⟩:=HqZ6 t hsd2 hbs2 bp hu hm;clear t hsd2 hbs2 bp hu hm
          go_wp2_with fail
          go_roundg (measB (topN G) (T+1) e' bg'+1)
          case measure=>exact Xhm.out
          case rel=>exact⟨e',bg',true,rfl,Xt.out,Xhsd2.out,Xhbs2.out,fun h=>(by cases h),fun _=>Nat.le_refl _⟩
section
variable {w wr wr' W : World} {F : Nat -> Prop} {A1 : Option Addr} {c1 : Nat} {A2 : Option Addr} {c2 : Nat} {A3 : Option Addr} {c3 T N R : Nat} {st : Int} {G : GramD} {b : Nat} {S : Nat -> Prop} {n z : Nat} {f f' : Nat -> Bool} {A : Option Addr} {m c : Nat} {td : List Int} {y y' : Nat} {vl : Value} {ls : List Int}
end
def IntsPost (w:World) (l:List Int) (e:Ending) (w':World):Prop:= ∃A n c,e= .returned (.slice A n c)/\RdI w' (fun k=>w.heap.size<=k/\k<w'.heap.size) (.slice A n c) l/\Below w.heap.size w w'
theorem IntsPost.of_own {w w0 w':World} {l:List Nat} {A:Option Addr} {c:Nat} (h:w'.ownsRow w0.heap.size 3 1 (.slice A l.length c) l.length (l.map J64)) (hb:Below w.heap.size w w0) (hb':Below w0.heap.size w0 w'):IntsPost w (l.map (fun n:Nat=>(n:Int))) (.returned (.slice A l.length c)) w':=by
 refine⟨A,_,c,rfl,?_,hb.trans (hb'.mono hb.size)⟩
 have:=(Rd.of_own h).mono (F':=fun k=>w.heap.size<=k/\k<w'.heap.size) (fun k hk=>⟨Nat.le_trans hb.size (h.lt k hk).1,(h.lt k hk).2⟩)
 rw [show l.map J64=(l.map (fun n:Nat=>(n:Int))).map (Value.int .i64) by rw [List.map_map];rfl]at this
 exact this
def lineL (M:Nat) (e:Int->Bool) (b:Int->Nat->Bool) (l:List Int):List Int:=(below (lineB e b l) M).map (fun n:Nat=>(n:Int))
def TwoPost (w:World) (l:List Int) (b:Bool) (e:Ending) (w':World):Prop:= ∃A n c,e= .returned (.tuple #[.slice A n c,.bool b])/\RdI w' (fun k=>w.heap.size<=k/\k<w'.heap.size) (.slice A n c) l/\Below w.heap.size w w'
set_option maxRecDepth 100000 in
set_option maxHeartbeats 2000000 in
theorem first_Line {w:World} {q:FD} {e:Nat->Bool} {bg bh:Nat->Nat->Bool} (h:FSets w q e bg bh) {F:Nat->Prop} {v:Value} {l:List Int} (hl:RdI w F v l) (hF: ∀k,F k->k<w.heap.size):
  Calls Tryz.prog 224 #[PtrV q.s,v] w (TwoPost w (lineL (q.T+1) (hasI q.n e) (famI q.n bg) l) (l.all (hasI q.n e))):=by
 obtain⟨A,m,c,rfl,-⟩:=id hl
 have cn:=set_new ((q.T:Int)+1) w
 have hsz:=h.sz
 have hw1:IntKind.i64.wrap ((q.T:Int)+1)=(q.T:Int)+1:=by rw [IntKind.wrap_i64];omega
 rw [show(min (max ((q.T:Int)+1) 0) 4096).toNat=q.T+1 by omega]at cn
 obtain⟨s0,s1,s2,s3,s4⟩:=h.cells
 have hbl:=h.blk.lt
 have hT0:(0:Int)<=(q.T:Int):=by omega
 have hT1:(q.T:Int)<=4096:=by omega
 clear hsz
 obtain⟨Xh,Xcn,Xhl,XhF⟩:=HqZ4 h cn hl hF;clear h cn hl hF
 go_enter Tryz.func224,Tryz.ntmps224
 go_wp2_with fail
 refine Xcn.out.mono ?_
 rintro ee w2 ⟨rfl,hs2,b2⟩
 have h2:=Xh.out.below b2
 have hN: ∀k,New (fun _=>False) w w2 k->w.heap.size<=k/\k<w2.heap.size:=fun k hk=>by
  rcases hk with hk|hk
  ·exact hk.elim
  ·exact hk
 have cl:=first_line (FSets.relN q e bg bh (b:=w.heap.size+1) (S:=New (fun _=>False) w w2) (fun k hk=>by have:=hN k hk;omega) ⟨_,h2⟩) (rel_al q.n bg noBits) (f0:=noBits) ⟨h2,hs2⟩ (Xhl.out.below b2 XhF.out) (fun k hk hk'=>by have:=XhF.out k hk;have:=hN k hk';omega)
 obtain⟨f,hf⟩: ∃f,f=joinL noBits (hasI q.n e) (famI q.n bg) l:=⟨_,rfl⟩
 have hff:f=lineB (hasI q.n e) (famI q.n bg) l:=by rw [hf];funext t;simp [joinL,noBits]
 rw [<-hf]at cl
 unfold FLinePost at cl
 clear s0 s1 s2 s3 s4
 obtain⟨Xcl,Xhf,Xhff,Xh2,Xhs2,Xb2,XhN⟩:=HqZ7 cl hf hff h2 hs2 b2 hN;clear cl hf hff h2 hs2 b2 hN
 go_wp2_with fail
 with_reducible refine Xcl.out.mono ?_
 rintro ee w3 ⟨rfl,hR,t3⟩
 obtain⟨h3,hs3⟩:=id hR
 have b3:Below w.heap.size w w3:=Xb2.out.trans (t3.below (fun k hk _ hk'=>by have:=XhN.out k hk';omega) Xb2.out.size)
 have cs:=set_list hs3
 rw [Xhff.out]at cs
 clear hR t3 h3 Xcl Xhf Xhff Xh2 Xhs2 Xb2 XhN hs3
 generalize hal:l.all (hasI q.n e)=al at *
 generalize moreB (q.T+1) noBits f=mo at *
 obtain⟨Xcs,Xb3,Xhal⟩:=HqZ3 cs b3 hal;clear cs b3 hal
 go_wp2_with fail
 refine Xcs.out.mono ?_
 rintro ee w4 ⟨A4,c4,rfl,ho,b4⟩
 have fin:TwoPost w (lineL (q.T+1) (hasI q.n e) (famI q.n bg) l) al (.returned (.tuple #[.slice A4 (below (lineB (hasI q.n e) (famI q.n bg) l) (q.T+1)).length c4,.bool al])) w4:=by
  obtain⟨A5,n5,c5,e5,r5,b5⟩:=IntsPost.of_own ho Xb3.out b4
  injection e5 with e5
  rw [<-e5]at r5
  exact⟨_,_,_,rfl,r5,b5⟩
 generalize (below (lineB (hasI q.n e) (famI q.n bg) l) (q.T+1)).length=n4 at *
 clear ho b4
 have Xfin:=hide fin;clear fin
 go_wp2_with fail
 go_ret2
 exact Xfin.out
end Go.Proofs.YthlbjgabhpdbfaaGreat

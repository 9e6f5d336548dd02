/- Lookaheads: where a kernel item's lookaheads go: what lies in memory. -/
import Derived.Test.YthlbjgabhpdbfaaGreatBLook9
import Derived.Test.YthlbjgabhpdbfaaGreatBLook10
import Derived.Deep.CutRange
set_option linter.unusedVariables false
set_option linter.unusedSimpArgs false
set_option maxRecDepth 100000
set_option maxHeartbeats 16000000
namespace Go.Proofs.YthlbjgabhpdbfaaGreat
open Go.Proofs.Tryz
open Int renaming eq_ofNat_of_zero_le->Za,toNat_natCast->Zb
open List renaming drop_succ_cons->Zc,drop_zero->Zd,getElem_of_mem->Ze,length_append->Zf,mem_append->Zg,mem_append_right->Zh,mem_cons->Zi,mem_cons_of_mem->Zj,mem_cons_self->Zk,mem_of_getElem?->Zl,mem_singleton->Zm,not_mem_nil->Zn,setIfInBounds_toArray->Zo,set_cons_succ->Zp,set_cons_zero->Zq,take_of_length_le->Zr,take_zero->Zs
open Nat renaming le_refl->Zt,le_trans->Zu,mul_le_mul_right->Zv,zero_le->Zw
open Go.RowKit Go.Maps
attribute [local irreducible] wpStill aB aO
def JI (j:Nat):Prop:=j=0\/j=8\/j=9\/j=10
structure LkD (d:LD):Prop where
 hP:vV d
 nc:d.nc=ao d.G+1
 hK:KnA d.G d.st
 hA:i9 d.G d.st d.D
 ba:D5 d
 bl:d.ba.length=d.D.length
 co: ∀s:Int,am d.G s=true->gP d.G d.st s (d.cm s.toNat)
structure SI (V:World) (ow:Nat->Nat) (M:Nat) (L:List (Nat×TypeId×Array Value)) (Sx:List (Value×(Nat->Bool))) (d:LD) (w:World) (q:LQ) (y:Dy):Prop where
 k:MK w q d y
 M:q.M=M
 bx: ∀z∈L,Blk w z.1 z.2.1 z.2.2/\q.ow z.1=2
 sx: ∀z∈Sx,dx w (TF w q.ow (λt=>t=2)) (d.T+1) z.1 z.2
 st:StL JI V ow w q.ow
section
variable {V : World} {ow : Nat -> Nat} {M : Nat} {L : List (Nat × TypeId × Array Value)} {Sx : List (Value × (Nat -> Bool))} {d : LD} {w w' : World} {q q' : LQ} {y y' : Dy} {J : Nat -> Prop}
theorem SI.step (h:SI V ow M L Sx d w q y) (mk:MK w' q' d y') (hM:q'.M=M) (s:StL J w q.ow w' q'.ow) (b: ¬J 2) (e: ∀c,J c->JI c):SI V ow M L Sx d w' q' y' where
 k:=mk
 M:=hM
 bx:=λz a=>⟨(h.bx z a).1.touch s.t (by rw [(h.bx z a).2];exact b),(s.eq _ (h.bx z a).1.lt).trans (h.bx z a).2⟩
 sx:=λz a=>(h.sx z a).step s (λt f=>by rw [f];exact b)
 st:=h.st.trans (s.mono e)
theorem SI.below (h:SI V ow M L Sx d w q y) (b:Below w.heap.size w w'):SI V ow M L Sx d w' {q with ow:=ext w q.ow 2} y:=
 h.step (h.k.below b 2) h.M (StL.new (λ_=>False) b q.ow 2) (λe=>e) (λ_ e=>e.elim)
theorem SI.below' (h:SI V ow M L Sx d w q y) (b:Below w.heap.size w w'): ∃q',SI V ow M L Sx d w' q' y:=⟨_,h.below b⟩
theorem SI.box (h:SI V ow M L Sx d w q y) (t:TypeId) (b:Array Value): ∃q',SI V ow M ((w.heap.size,t,b)::L) Sx d (w.alloc (.cells b t)) q' y:=by
 have e:Below w.heap.size w (w.alloc (.cells b t)):=(Below.refl _ _).alloc (Zt _) _;have a:=h.below e;refine⟨_,a.k,a.M,λf c=> ?_,a.sx,a.st⟩;rcases Zi.1 c with rfl|c
 ·exact⟨Blk.new _ _ _,dz (Zt _)⟩
 ·exact a.bx f c
theorem SI.boxB {B:Nat} {t:TypeId} {e:Array Value} (h:SI V ow M L Sx d w q y) (b:Below w.heap.size w w') (f:w.heap.size<=B) (k:Blk w' B t e): ∃q',SI V ow M ((B,t,e)::L) Sx d w' q' y:=by
 have a:=h.below b;refine⟨_,a.k,a.M,λg c=> ?_,a.sx,a.st⟩;rcases Zi.1 c with rfl|c
 ·exact⟨k,dz f⟩
 ·exact a.bx g c
theorem SI.set {p:Value} {f:Nat->Bool} (h:SI V ow M L Sx d w q y) (b:Below w.heap.size w w') (i:dx w' (λe=>TF w q.ow (λj=>j=2) e\/(w.heap.size<=e/\e<w'.heap.size)) (d.T+1) p f): ∃q',SI V ow M L ((p,f)::Sx) d w' q' y:=by
 have c:=h.below b;refine⟨_,c.k,c.M,c.bx,λk g=> ?_,c.st⟩;rcases Zi.1 g with rfl|g
 ·refine i.mono λe a=> ?_
  rcases a with a|a
  ·exact⟨Nat.lt_of_lt_of_le a.1 b.size,by show ext w q.ow 2 e=2;rw [bV a.1];exact a.2⟩
  ·exact⟨a.2,dz a.1⟩
 ·exact c.sx k g
theorem SI.drop {z:Nat×TypeId×Array Value} (h:SI V ow M (z::L) Sx d w q y):SI V ow M L Sx d w q y:=⟨h.k,h.M,λb a=>h.bx b (Zj _ a),h.sx,h.st⟩
theorem SI.dropS {z:Value×(Nat->Bool)} (h:SI V ow M L (z::Sx) d w q y):SI V ow M L Sx d w q y:=⟨h.k,h.M,h.bx,λb a=>h.sx b (Zj _ a),h.st⟩
theorem SI.cell {b:Nat} {t:TypeId} {a:Array Value} (h:SI V ow M L Sx d w q y) (c:(b,t,a)∈L) (i:Nat):w.cell? ⟨b,i,none⟩=a[i]? :=((h.bx _ c).1.cell i).trans rfl
theorem SI.base (h:SI V ow M L Sx d w q y):SI w q.ow M L Sx d w q y:=⟨h.k,h.M,h.bx,h.sx,StL.refl _ _ _⟩
theorem SI.addS {z:Value×(Nat->Bool)} (h:SI V ow M L Sx d w q y) (b:dx w (TF w q.ow (λc=>c=2)) (d.T+1) z.1 z.2):SI V ow M L (z::Sx) d w q y:=⟨h.k,h.M,h.bx,λe a=>by
 rcases Zi.1 a with rfl|a
 ·exact b
 ·exact h.sx e a,h.st⟩
theorem SI.edge {c:List Value} {e:Ed} {p:Value} {o:Option Addr} {r:Nat} {u w4:World} (h:SI V ow M L Sx d w q y) (z:dx w (TF w q.ow (λt=>t=2)) (d.T+1) p e.f) (b:Below w.heap.size w u)
  (v:c.length=y.ed.length) (I:Row w q.ow 9 290 4 q.Ae y.ed.length q.ce (lf c y.ed)) (K: ∀(j:Nat) p m,c[j]? =some p->y.ed[j]? =some m->dx w (TF w q.ow (λt=>t=2)) (d.T+1) p m.f)
  (own:w4.ownsRow 0 290 4 (.slice o (y.ed.length+1) r) (y.ed.length+1) (lf c y.ed++[.int .i64 e.tq9,.int .i64 (e.at_:Int),p,.bool e.self])) (g:u.grownBy w4 (Value.slice q.Ae y.ed.length q.ce).ownBlock) (O:(Value.slice o (y.ed.length+1) r).ownBlock=(Value.slice q.Ae y.ed.length q.ce).ownBlock\/(Value.slice o (y.ed.length+1) r).ownBlock=some u.heap.size):
  w4.cell? ⟨M,11,none⟩=some (.slice q.Ae y.ed.length q.ce)/\(∀n∈L,∀(i:Nat) D,n.2.2[i]? =some D->w4.cell? ⟨n.1,i,none⟩=some D)/\w4.frozen? ⟨M,11,none⟩=false/\ ∃q',SI V ow M L Sx d (w4.setCell ⟨M,11,none⟩ (.slice o (y.ed.length+1) r)) q' {y with ed:=y.ed++[e]}:=by
 have a:=h.below b;have B:StL (λ_=>False) w q.ow u (ext w q.ow 2):=StL.new _ b _ 2;have W:=I.step B (λe=>e);have T:=z.step B (λ_ _ e=>e);have U:=λj p m z f=>(K j p m z f).step B (λ_ _ e=>e)
 obtain⟨X,l⟩:=W.app own g O;have P:EdV w4 (ext u (ext w q.ow 2) 9) o r (d.T+1) (y.ed++[e]):=by
  refine⟨c++[p],by simp [v],?_,λj Y m k f=> ?_⟩
  ·have H:lf (c++[p]) (y.ed++[e])=lf c y.ed++[.int .i64 e.tq9,.int .i64 (e.at_:Int),p,.bool e.self]:=by
    unfold lf;rw [List.zip_append v,List.flatMap_append];rfl
   rw [H,Zf];exact X
  ·by_cases F:j<c.length
   ·rw [List.getElem?_append_left F]at k;rw [List.getElem?_append_left (by omega)]at f;exact(U j Y m k f).step l (λt R=>by omega)
   ·have Q:j=c.length:=(by have:=(List.getElem?_eq_some_iff.1 k).1;simp at this;omega);subst Q;rw [List.getElem?_append_right (Zt _),Nat.sub_self]at k;rw [List.getElem?_append_right (by omega),v,Nat.sub_self]at f;injection k with k
    injection f with f
    subst k f;exact T.step l (λt R=>by omega)
 obtain⟨q',mk,E,C⟩:=a.k.putE P l;rw [Zf,List.length_singleton]at mk C;rw [a.M]at E;have x:({q with ow:=ext w q.ow 2}:LQ).M=M:=h.M;rw [x]at mk C;refine⟨?_,λn G i D S=>(((a.bx n G).1.touch l.t (by have N:ext w q.ow 2 n.1=2:=(a.bx n G).2;rw [N];omega)).cell i).trans S,?_,q',a.step mk E C (by omega) (λj F=>by unfold JI;omega)⟩
 ·have A:ext w q.ow 2 q.M=0:=a.k.tm;have s:=a.k.box.touch l.t (by show¬ext w q.ow 2 q.M=9;rw [A];omega);rw [x]at s;exact(s.cell 11).trans rfl
 have A:ext w q.ow 2 q.M=0:=a.k.tm;have s:=a.k.box.touch l.t (by show¬ext w q.ow 2 q.M=9;rw [A];omega);rw [x]at s;exact s.frozen 11
end
def Eg (V:World) (q:LQ) (d:LD) (y:Dy) (p i:Nat) (x:It) (e:Ending) (V':World):Prop:=e= .returned (.tuple #[])/\ ∃q' y',MK V' q' d y'/\q'.M=q.M/\StL JI V q.ow V' q'.ow/\ItI d d.cm y'/\GrI y y'/\iQ d.G d.st d.D d.cm y'.ed y'.fi p i x/\y'.ed.length<=y.ed.length+40000
def G6 (W:World) (ow:Nat->Nat) (M:Nat) (L:List (Nat×TypeId×Array Value)) (Sx:List (Value×(Nat->Bool))) (d:LD) (i:Nat) (kn:Int) (yb:Dy) (v:Value) (wx:World):Prop:= ∃(q':LQ) (y':Dy) (t:Nat),v= .int .i64 (t:Int)/\SI W ow M L Sx d wx q' y'/\ItI d d.cm y'/\GrI yb y'/\y'.ed=yb.ed/\((rgt d.G d.st kn=[]/\(kn,t)∈y'.fi i)\/ ∃(y0:Int) (r:List Int) (j:Nat),rgt d.G d.st kn=y0::r/\dM d.D i y0=(j:Int)/\KP d.D t j (kn,1))
theorem yV {G:ac} {st:Int} {d:LD} {y:Dy} {p i:Nat} {x:It} {s:Int} (g:d.G=G) (j:d.st=st) (h:aw G st x=(s,true)) (c: ∃e∈y.ed,e.at_=p/\EA d.D e i x s) (f:am G s=true-> ∀a∈d.cm s.toNat,∀k∈az G a.s,jp d p i x a k y):iQ G st d.D d.cm y.ed y.fi p i x:=λl b=>by
 subst g j;rw [h]at b;injection b with e _
 subst e;exact⟨c,f⟩
theorem infoEdge:(prog.info? 290).map (λa=>(a.zero,a.size,a.bytes))=some (some (.agg #[.int .i64 0,.int .i64 0,.pointer none,.bool false]),4,32):=by kernel_rfl
theorem elemEdge:dZ prog 254 290 (.agg #[.int .i64 0,.int .i64 0,.pointer none,.bool false]) 4 32:=⟨underlying254,infoEdge,rfl,by decide⟩
theorem DL {G:ac} {st:Int} {D:aP} {a:Nat->List Co} {b:List Ed} {fi:jc} {p i:Nat} {x:It} (h:(rgt G st x.1).length<=x.2.toNat) (e:0<=x.2):iQ G st D a b fi p i x:=λg c=>by
 obtain⟨-,f,-⟩:=fY c;unfold rgt at h;omega
theorem Cg {V:World} {q:LQ} {d:LD} {y:Dy} (h:MK V q d y) (u:LkD d) (e3:ItI d d.cm y) (fn:y.ed.length<=1000000000000) {p i:Nat} {x:It} (d4:KP d.D p i x):
  Calls prog 198 #[aq q.M,.int .i64 (i:Int),.int .i64 (p:Int),.agg #[.int .i64 x.1,.int .i64 x.2]] V (Eg V q d y p i x):=by
 obtain⟨e,a7,b4⟩:=d4.mem;have cK:=(u.hA.kern i e x a7 b4).1;obtain⟨⟨hV,-⟩,hW,oF⟩:=u.hK.right cK;have hi:=(List.getElem?_eq_some_iff.1 a7).1;obtain⟨qs,d0⟩:=x;simp only at hV hW oF;obtain⟨a,rfl⟩:=Za hV;obtain⟨c,rfl⟩:=Za hW;have hs:a<=d.G.rules.length:=by
  apply Classical.byContradiction;intro qa;unfold aQ aD at cK;rw [if_pos (by simp only;omega)]at cK;simp at cK
 obtain⟨M,ch⟩: ∃x,x=q.M:=⟨_,rfl⟩;obtain⟨o7,hT⟩: ∃x,x=d.G.terms.length:=⟨_,rfl⟩;obtain⟨o3,e6⟩: ∃x,x=d.G.nons.length:=⟨_,rfl⟩;obtain⟨o6,e8⟩: ∃x,x=d.G.rules.length:=⟨_,rfl⟩;have e1:LkB d:=⟨u.hK.t,λk e9=>by
  obtain⟨bo,cG,rfl⟩:=Ze e9
  have A:=u.ba bo (by rw [<-u.bl];exact cG)
  rw [List.getElem?_eq_getElem cG]at A
  injection A with A
  rw [A]
  have b2:=kQ (D:=d.D) (B:=2709) (λe a7=>by
   obtain⟨i,hi,rfl⟩:=Ze a7
   exact iG u.hK (u.hA.strict i _ (List.getElem?_eq_getElem hi)) (λx b4=>(u.hA.kern i _ x (List.getElem?_eq_getElem hi) b4).1)) bo
  have cx:=u.hA.n
  have kv:bo * 2709<=2000 * 2709:=Zv _ (by have:=u.bl;omega)
  omega,λe a7=>by
  obtain⟨i,hi,rfl⟩:=Ze a7
  have:=iG u.hK (u.hA.strict i _ (List.getElem?_eq_getElem hi)) (λx b4=>(u.hA.kern i _ x (List.getElem?_eq_getElem hi) b4).1)
  omega,u.hA.n⟩
 obtain⟨bb,ci⟩: ∃bb,bb=rgt d.G d.st (a:Int):=⟨_,rfl⟩;have d5:d.rs[a]? =some bb:=by rw [ci];exact u.hP.rs a hs
 obtain⟨p4,mG,ea,p3,kt,u1,ee,n8,n9⟩:=h.r.at_ d5;obtain⟨d3,qk,nR,-⟩:=RdI.at_ ee;unfold maxLen at nR;have qj:ea<=8:=by rw [d3,ci];exact u.hK.eight a
 obtain⟨ok,ft⟩: ∃v,v=d.rs.length:=⟨_,rfl⟩;obtain⟨p0,fc⟩: ∃v,v=q.cr:=⟨_,rfl⟩;have Y:=h.cells.2.2.2.2.2.1;rw [kt,<-ft,<-fc,<-ch]at Y;rw [<-ft,<-fc]at n8;rw [<-fc]at n9;have p8:(a:Int)<(ok:Int):=by rw [ft,u.hP.rl];omega
 have s0:SI V q.ow M [] [] d V q y:=⟨h,ch.symm,λcr hN=>(by cases hN),λcr hN=>(by cases hN),StL.refl _ _ _⟩;obtain⟨q1,s1⟩:=s0.box 226 #[.int .i64 (a:Int),.int .i64 (c:Int)];have eB:Below V.heap.size V (V.alloc (.cells #[.int .i64 (a:Int),.int .i64 (c:Int)] 226)):=(Below.refl _ _).alloc (Zt _) _;obtain⟨l,ds⟩: ∃l,l=V.heap.size:=⟨_,rfl⟩;rw [<-ds]at s1;generalize qn:V.alloc (.cells #[.int .i64 (a:Int),.int .i64 (c:Int)] 226)=w1 at *;have Y:=ae eB Y;have u1:=ae eB u1;have eR:=s1.cell (b:=l) (t:=226) (Zk ..) 0;have c5:=s1.cell (b:=l) (t:=226) (Zk ..) 1;have mc:=ee;have ee:=Rd.below ee eB (λk e9=>e9.1);clear s0 a7 b4 hV hW eB kt ft fc ee;unfold aq;rw [<-ch];by_cases p6:c<ea
 ·have nT: ¬(ea:Int)<=(c:Int):=by omega
  have p7:(c:Int)<(ea:Int):=by omega
  have hk:c<bb.length:=by omega
  obtain⟨bq,hK⟩: ∃bq,bb[c]? =some bq:=⟨_,List.getElem?_eq_getElem hk⟩;have kG:aw d.G d.st ((a:Int),(c:Int))=(bq,true):=by
   unfold aw;have e:(aD d.G d.st (a:Int)).1.2=bb:=ci.symm;rw [if_pos ⟨cK,by show(c:Int)<((aD d.G d.st (a:Int)).1.2.length:Int);rw [e];omega⟩];show((aD d.G d.st (a:Int)).1.2[((c:Nat):Int).toNat]?.getD 0,true)=_;rw [Zb,e,hK];rfl
  clear cK;obtain⟨m1,m,gg,ep,bP,ga,gW,iN,g0,bG,iS,iF,ey,el⟩:=dh h u e3 fn d4 e1 ci d5 hK kG mc d3 s1 ch;obtain⟨gi,nb,ih,h8,h9,iv⟩:=aM ds hk hT e6 e8 hs;clear h u e3 fn d4 e1 ci d5 hK kG mc d3 s1 ch ds hk hT e6 e8 hs
  go_enter func198,ntmps198
  go_wp2_with fail
  try rw [<-gi.out]
  refine aU (by kernel_rfl) (by kernel_rfl) ?_
  repeat still_step
  refine wpStill_nil ?_
  go_wp2_with fail
  go_wp2_with fail
  have t:Below w1.heap.size w1 w1.drew.drew:=(Below.refl _ _).drew.drew;obtain⟨an,j⟩:=ey.out.below' t;obtain⟨bo,cG,hq,hl⟩:=FQ m.out.hA m.out.ba bP.out bG.out;have c6:=yR j.k ga.out iN.out g0.out cG hq (by rw [m.out.bl];exact hq);rw [j.M]at c6;obtain⟨aT,lB⟩: ∃x,x=toD d i ((a:Int),(c:Int)) bq:=⟨_,rfl⟩;rw [<-lB]at c6 hl;obtain⟨bp,fs⟩: ∃v,v=y.ed.length:=⟨_,rfl⟩;have d2:bp<=1000000000000:=by rw [fs];exact ep.out
  obtain⟨ca,W⟩: ∃x,x=an.Ae:=⟨_,rfl⟩;obtain⟨ai,X⟩: ∃x,x=an.ce:=⟨_,rfl⟩;have ba:=j.k.cells.2.2.2.2.2.2.2.2.2.2.2.1;rw [j.M,<-fs,<-W,<-X]at ba;have d0:=j.cell (b:=l) (t:=226) (Zk ..) 0;have bt:=j.cell (b:=l) (t:=226) (Zk ..) 1;have K:w1.drew.drew.cell? ⟨M,11,none⟩=some (.slice ca bp ai)/\w1.drew.drew.cell? ⟨l,0,none⟩=some (.int .i64 (a:Int))/\w1.drew.drew.cell? ⟨l,1,none⟩=some (.int .i64 (c:Int)):=⟨ba,d0,bt⟩;unfold aq at c6;clear Y u1 eR c5 cG hq lB ba d0 bt ey t;obtain⟨N,gm,h3,bs,bE,bO,a2⟩:=de j hl c6 fs W X K;clear j hl c6 fs W X K;refine lO (λn=>n.cell? ⟨M,11,none⟩=some (.slice ca bp ai)/\n.cell? ⟨l,0,none⟩=some (.int .i64 (a:Int))/\n.cell? ⟨l,1,none⟩=some (.int .i64 (c:Int))) [0,1,2,3,4,5,6,7,9] [8,10,11,12] 13 (by kernel_rfl) (by kernel_rfl) a2.out ?_;simp only [fm,List.getElem?_cons_succ,List.getElem?_cons_zero,Zc,Zd]
  iterate 9
   refine bI ?_ (by rfl) (λwS hwS=> ?_) ?_
   rotate_left
   ·(try dsimp only at hwS)
    go_simp
    all_goals with_reducible rfl
   simp only [Act.put,Zo,Zq,Zp]
  refine bU ?_;generalize w1.drew.drew=b9 at *;refine ay ?_
  go_wp2_with fail
  refine h3.out.mono ?_;rintro e w3 ⟨rfl,c4⟩;have f3:=N.out.below c4;have cU:w3.cell? ⟨M,11,none⟩=some (.slice ca bp ai)/\w3.cell? ⟨l,0,none⟩=some (.int .i64 (a:Int))/\w3.cell? ⟨l,1,none⟩=some (.int .i64 (c:Int)):=⟨ae c4 a2.out.1,ae c4 a2.out.2.1,ae c4 a2.out.2.2⟩;obtain⟨l4,hF⟩: ∃x:LQ,x={an with ow:=ext b9 an.ow 2}:=⟨_,rfl⟩;rw [<-hF]at f3;have e0:l4.Ae=ca/\l4.ce=ai:=by rw [hF,bE.out,bO.out];exact⟨rfl,rfl⟩
  have z:Below w3.heap.size w3 (w3.alloc (.cells #[.int .i64 aT,.int .i64 (p:Int),.pointer none,.bool true] 290)):=(Below.refl _ _).alloc (Zt _) _;have bA:(w3.alloc (.cells #[.int .i64 aT,.int .i64 (p:Int),.pointer none,.bool true] 290)).cell? ⟨M,11,none⟩=some (.slice ca bp ai)/\(w3.alloc (.cells #[.int .i64 aT,.int .i64 (p:Int),.pointer none,.bool true] 290)).cell? ⟨l,0,none⟩=some (.int .i64 (a:Int))/\(w3.alloc (.cells #[.int .i64 aT,.int .i64 (p:Int),.pointer none,.bool true] 290)).cell? ⟨l,1,none⟩=some (.int .i64 (c:Int)):=⟨ae z cU.1,ae z cU.2.1,ae z cU.2.2⟩;obtain⟨l3,b5,H,b6⟩:=f3.k.e;have a9:=ah H.own z;rw [e0.1,e0.2,<-bs.out]at a9;have b8:Rd (w3.alloc (.cells #[.int .i64 aT,.int .i64 (p:Int),.pointer none,.bool true] 290)) (λx=>x=w3.heap.size) (.slice (some ⟨w3.heap.size,0,none⟩) 1 1) 4 [.int .i64 aT,.int .i64 (p:Int),.pointer none,.bool true]:=Rd.one' (w:=w3) (e:=290) [.int .i64 aT,.int .i64 (p:Int),.pointer none,.bool true] 4 rfl;clear hF c4 N a2 h3 bE bO;obtain⟨i0,hX,c0,bC,bB,bS,bW,bY,bR,b0⟩:=fp f3 cU e0 z bA b5 H b6 a9 b8;clear f3 cU e0 z bA b5 H b6 a9 b8
  iterate 2
   go_wp2_with fail
   refine⟨hX.out,ay ?_⟩
  go_wp2_with fail
  refine⟨bB.out,ay ?_⟩
  go_wp2_with (at_builtin;refine aJ _ rfl (.tmp 34) (.tmp 41) _ rfl elemEdge 0 (.slice ca bp ai) bp _ rfl bR.out _ _ [.int .i64 aT,.int .i64 (p:Int),.pointer none,.bool true] 1 rfl rfl b0.out (by intro ei b3;simp only [Zi,Zn,or_false]at b3;rcases b3 with rfl|rfl|rfl|rfl<;>rfl) (by unfold maxLen;omega) (by omega) (Zw _) ?_)
  intro f5 g5 w4 a8 P T;rw [bs.out]at a8 P T;rw [<-c0.out.1,<-c0.out.2]at P T;obtain⟨a4,a5,c9,Y,ap⟩:=i0.out.edge (e:=⟨aT,p,aj,true⟩) (p:= .pointer none) (.inl ⟨rfl,rfl⟩) bC.out bS.out bW.out bY.out a8 P (by rw [World.size_alloc];exact T);rw [c0.out.1,c0.out.2,<-bs.out]at a4;rw [<-bs.out]at ap;have bz:w4.cell? ⟨M,11,none⟩=some (.slice ca bp ai)/\w4.cell? ⟨l,0,none⟩=some (.int .i64 (a:Int))/\w4.cell? ⟨l,1,none⟩=some (.int .i64 (c:Int)):=⟨a4,a5 _ (Zk ..) 0 _ rfl,a5 _ (Zk ..) 1 _ rfl⟩;obtain⟨hd,hc⟩:=gg.out.edge (e:=⟨aT,p,aj,true⟩) ⟨i,_,bq,bP.out,bG.out,.inl gm.out⟩;obtain⟨cT,fw⟩: ∃cr:Dy,cr={y with ed:=y.ed++[⟨aT,p,aj,true⟩]}:=⟨_,rfl⟩;have kx: ∃e∈cT.ed,e.at_=p/\EA d.D e i ((a:Int),(c:Int)) bq:=⟨⟨aT,p,aj,true⟩,by rw [fw];exact Zh _ (Zm.2 rfl),rfl,gm.out⟩;have la:cT.ed.length=bp+1:=by rw [fw,bs.out];exact Zf
  rw [<-fw]at hd hc ap;clear a8 P T a5 a4 fw i0 hX c0 bC bB bS bW bY bR b0 gm;obtain⟨cu,h7,h6,h5,et,br⟩:=aM ap hd hc kx la bz;clear ap hd hc kx la bz
  go_wp2_with fail
  refine⟨br.out,cX ?_⟩;obtain⟨os,-⟩:=br.out;clear br
  go_wp2_with fail
  refine NoPanic.normal ?_;clear os c9;generalize w4.setCell ⟨M,11,none⟩ (.slice f5 (bp+1) g5)=w5 at *;have t:Below w5.heap.size w5 w5.drew:=(Below.refl _ _).drew;obtain⟨fL,cm⟩:=cu.out.below' t;obtain⟨oP,c5,oR,g4,oS,pt,dd,eX,eZ,nB,ho⟩:=cm.k.gc (G:=d.G) (st:=d.st) (M:=M) rfl rfl ih.out h8.out h9.out cm.M;have l6:=Rd.step iS.out cm.st (λi hi=>by unfold JI;omega);obtain⟨-,-,-,S⟩:=RdI.at_ l6;obtain⟨pp,qA,rfl,-,R⟩:=S (by omega);have g8:=R c bq g0.out;have d0:=cm.cell (b:=l) (t:=226) (Zk ..) 0;have bt:=cm.cell (b:=l) (t:=226) (Zk ..) 1;have g6:=iV ho d.st bq;obtain⟨on,hx⟩: ∃k,k=am d.G bq:=⟨_,rfl⟩;rw [<-hx]at g6;clear t S R l6 cu;obtain⟨j0,ng,h2,ct⟩:=aA cm ho g6 hx;clear cm ho g6 hx
  go_wp2_with fail
  refine bX 9 (by kernel_rfl) (by kernel_rfl) ?_;simp only [List.take_succ_cons,Zs,Zc,Zd]
  repeat still_step
  refine wpStill_nil ?_
  go_wp2_with fail
  generalize w5.drew=w6 at *;refine h2.out.mono ?_;rintro e w7 ⟨rfl,kc⟩;obtain⟨eb,bc⟩:=j0.out.below' kc;clear dd eX eZ nB g8 d0 bt j0 h2 ng kc;cases on with
  |false=>
   have cv:=ab bc;clear bc
   go_wp2_with fail
   go_end0
   exact⟨rfl,eb,cT,cv.out.k,cv.out.M.trans el.out,cv.out.st,h7.out,h6.out,yV rfl rfl bG.out h5.out (λe=>by rw [<-ct.out]at e;cases e),by rw [et.out,bs.out];omega⟩
  |true=>
   obtain⟨ov,lx,-,ls⟩:=m.out.hP.tl a iv.out;have hL:ov[c]? =some (tlI d.G d.st ((a:Int),(c:Int))):=ls c (by rw [<-gW.out];exact nb.out);obtain⟨gt,mG,fx,c7,eT,mA,md,lr,lA⟩:=bc.k.t.at_ lx;obtain⟨hA,n6,kR,S⟩:=md.at_;have nX:c<fx:=by rw [hA];exact(List.getElem?_eq_some_iff.1 hL).1
   obtain⟨cw,cR,rfl,-,R⟩:=S (by omega);obtain⟨q0,mu,f4,eg⟩:=R c _ hL;obtain⟨D,rfl⟩:=eg.ptr;obtain⟨hO,fv⟩: ∃v,v=d.tl.length:=⟨_,rfl⟩;obtain⟨kn,fd⟩: ∃v,v=eb.ct:=⟨_,rfl⟩;have fL:=bc.k.cells.2.2.2.2.2.2.1;rw [bc.M,eT,<-fv,<-fd]at fL;rw [<-fv,<-fd]at lr;rw [<-fd]at lA;have n1:(a:Int)<(hO:Int):=by rw [fv,m.out.hP.tll];have:=iv.out;omega
   have n0:(c:Int)<(fx:Int):=by omega
   unfold maxLen at kR;have d0:=bc.cell (b:=l) (t:=226) (Zk ..) 0;have bt:=bc.cell (b:=l) (t:=226) (Zk ..) 1;obtain⟨ox,hM⟩: ∃x,x=tlI d.G d.st ((a:Int),(c:Int)):=⟨_,rfl⟩;rw [<-hM]at f4 eg;obtain⟨o,b⟩:=ox;simp only at f4 eg;have bc:=bc.addS (z:=(_,o)) eg;obtain⟨r,ky⟩: ∃x,x=w7.heap.size:=⟨_,rfl⟩;have kF: ∀n,Below w7.heap.size w7 n->n.cell? ⟨M,6,none⟩=some (.slice (some ⟨gt,0,none⟩) hO kn)/\n.cell? ⟨l,0,none⟩=some (.int .i64 (a:Int))/\n.cell? ⟨l,1,none⟩=some (.int .i64 (c:Int))/\n.cell? ⟨gt,a,none⟩=some (.slice (some ⟨cw,cR,none⟩) fx c7)/\n.cell? ⟨cw,cR+c * 2,none⟩=some (.pointer D)/\n.cell? ⟨cw,cR+c * 2+1,none⟩=some (.bool b):=λn k=>⟨ae k fL,ae k d0,ae k bt,ae k mA,ae k mu,ae k f4⟩
   clear ls hL md S R fv fd eT eg lx;obtain⟨cv,cd,pf,gb,em⟩:=aX bc hM hA ky kF;clear bc hM hA ky kF
   go_wp2_with fail
   refine wp_region_held_drew (S:=(λn=>n.cell? ⟨M,6,none⟩=some (.slice (some ⟨gt,0,none⟩) hO kn)/\n.cell? ⟨l,0,none⟩=some (.int .i64 (a:Int))/\n.cell? ⟨l,1,none⟩=some (.int .i64 (c:Int))/\n.cell? ⟨gt,a,none⟩=some (.slice (some ⟨cw,cR,none⟩) fx c7)/\n.cell? ⟨cw,cR+c * 2,none⟩=some (.pointer D)/\n.cell? ⟨cw,cR+c * 2+1,none⟩=some (.bool b))) (by kernel_rfl) ?_ (λhHeld=> ?_)
   ·exact em.out _ ((Below.refl _ _).drew)
   have kf:Below w7.heap.size w7 w7.drew:=(Below.refl _ _).drew;have kz:r=w7.drew.heap.size:=gb.out;generalize w7.drew=b9 at *;obtain⟨f8,gc⟩:=av kf kz;clear kf kz;refine tZ 0 ?_;try simp only [Act.put,sT,s0,s1]
   refine tZ 1 ?_;try simp only [Act.put,sT,s0,s1]
   refine tZ 2 ?_;try simp only [Act.put,sT,s0,s1]
   refine tZ 3 ?_;try simp only [Act.put,sT,s0,s1]
   refine tZ 4 ?_;try simp only [Act.put,sT,s0,s1]
   refine tZ 5 ?_;try simp only [Act.put,sT,s0,s1]
   refine tZ 6 ?_;try simp only [Act.put,sT,s0,s1]
   refine tZ 7 ?_;try simp only [Act.put,sT,s0,s1]
   refine tZ 8 ?_;try simp only [Act.put,sT,s0,s1]
   refine tZ 9 ?_;try simp only [Act.put,sT,s0,s1]
   refine tZ 10 ?_;try simp only [Act.put,sT,s0,s1]
   refine tZ 11 ?_;try simp only [Act.put,sT,s0,s1]
   refine wpAnyH_ready (rs:=[12]) (by kernel_rfl) (by simp) ?_;refine AllReadyH.cons (o:= ?_) ?_ (λf6 dr=> ?_) AllReadyH.nil;rotate_left 1;(focus((try simp only [gT,gs,gz]);try rfl))
   go_simp
   have eG:Below w7.heap.size w7 (b9.alloc (.cells #[.pointer none,.bool false] 278)):=f8.out.alloc f8.out.size _;have cO:Blk (b9.alloc (.cells #[.pointer none,.bool false] 278)) r 278 #[.pointer none,.bool false]:=by rw [gc.out];exact Blk.new b9 _ _
   clear fL d0 bt mA mu f4 hHeld;refine dr.out _ _ ?_ (λhHeld=> ?_)
   ·exact em.out _ eG
   clear dr f6
   try simp only [Act.put,sT,s0,s1]
   rw [<-gc.out];clear gc f8;generalize b9.alloc (.cells #[.pointer none,.bool false] 278)=w8 at *;have nz:=(cO.cell 0).trans rfl;have nA:=(cO.cell 1).trans rfl;have oG:=cO.frozen 0;have oM:=cO.frozen 1;have lR:=(cO.put 0 (.pointer D)).put 1 (.bool b);have g3:Below w7.heap.size w7 ((w8.setCell ⟨r,0,none⟩ (.pointer D)).setCell ⟨r,1,none⟩ (.bool b)):=eG.trans ((mn w8 r (.pointer D) (.bool b)).below (λi hi _ e=>by have:=gb.out;omega) eG.size);obtain⟨fT,mg⟩:=cv.out.boxB g3 (Nat.le_of_eq gb.out.symm) lR;clear eG cO;obtain⟨be,hZ⟩:=av mg g3;clear mg g3;refine wpAnyH_ready (rs:=[13]) (by kernel_rfl) (by simp) ?_;refine AllReadyH.cons (o:= ?_) ?_ (λf6 dr=> ?_) AllReadyH.nil;rotate_left 1;(focus((try simp only [gT,gs,gz]);try rfl))
   go_simp
   refine dr.out _ _ ?_ (λhHeld=> ?_)
   ·exact em.out _ hZ.out
   clear dr f6
   try simp only [Act.put,sT,s0,s1]
   generalize od:(w8.setCell ⟨r,0,none⟩ (.pointer D)).setCell ⟨r,1,none⟩ (.bool b)=w9 at *;have c8:=be.out.cell (b:=r) (t:=278) (Zk ..) 0;have g9:=be.out.cell (b:=r) (t:=278) (Zk ..) 1;have kl:=uK (be.out.sx _ (Zk ..));clear nz nA oG oM lR od hHeld hZ em cv n1 n0 lr lA n6 kR nX;have h0:=ab kl;clear kl;refine wpAnyH_done (by kernel_rfl) ?_ _
   go_upto_region 6 with fail
   go_cut [10]from 68 to 76 (λej co=>ej= .bool (gV (d.T+1) ⟨o,b⟩)/\co=w9)
   case first=>
    cases b with
    |true=>
     go_wp2_with fail
     go_meet
     exact⟨rfl,rfl⟩
    |false=>
     go_wp2_with fail
     refine h0.out.mono ?_;rintro e w' ⟨rfl,rfl⟩
     go_wp2_with fail
     go_meet
     exact⟨by unfold gV ku;simp,rfl⟩
   case rest=>
    obtain⟨rfl,hb⟩:=hcut;have hb:=hb.symm;subst hb;obtain⟨op,hy⟩: ∃k,k=gV (d.T+1) ⟨o,b⟩:=⟨_,rfl⟩;rw [<-hy];have hJ:=ct.out.symm;unfold am ao at hJ;simp only [Bool.and_eq_true,decide_eq_true_eq]at hJ;obtain⟨aS,rfl⟩:=Za (show 0<=bq by omega);rcases id be.out.k.c with⟨-,e⟩|⟨o4,lE,-,-,kM⟩
    ·exact absurd e (by rw [m.out.nc];omega)
    have lj:aS<d.nc:=(by rw [m.out.nc];unfold ao;omega);obtain⟨q3,nt,b7⟩:=kM aS lj;obtain⟨ot,-,⟨Ac,ck,px,rfl,-⟩,-⟩:=id b7;obtain⟨hv,qc,nF,-⟩:=b7.at_;unfold maxLen at nF;have dt:=m.out.co (aS:Int) ct.out.symm;rw [Zb]at dt;have qb:ck<=120:=by
     rw [hv];have A:=lJ (G:=d.G) (l:=(d.cm aS).map Co.s) dt.nodup (λx b4=>by obtain⟨f,bu,rfl⟩:=List.mem_map.1 b4;exact dt.non f bu);rw [List.length_map]at A;exact Zu A m.out.hK.n
    have l5:=be.out.k.cells.2.2.2.2.2.2.2.2.1;obtain⟨l1,hw⟩: ∃x,x=d.nc:=⟨_,rfl⟩;rw [be.out.M,lE,<-hw]at l5;have qd:l1<=241:=(by rw [hw,m.out.nc];have:=m.out.hK.n;have:=m.out.hK.t;unfold ao;omega);have oa:(aS:Int)<(l1:Int):=(by omega);have l7:=Rd.step iS.out be.out.st (λi hi=>by unfold JI;omega);obtain⟨-,-,-,S⟩:=RdI.at_ l7;obtain⟨pr,qN,ha,-,R⟩:=S (by omega);injection ha with ha
    injection ha with nx ny
    subst nx ny;have g8:=R c _ g0.out;have bt:=be.out.cell (b:=l) (t:=226) (Zj _ (Zk ..)) 1;clear kM lE lj hw S R l7 hJ c8 g9 h0;obtain⟨ew,iy,im,gF⟩:=aA b7 hv dt hy;clear b7 hv dt hy
    go_upto_region 7 with fail
    refine aU (by kernel_rfl) (by kernel_rfl) ?_
    repeat still_step
    refine wpStill_nil ?_
    go_wp2_with fail
    have t:Below w9.heap.size w9 w9.drew:=(Below.refl _ _).drew;have f1:=be.out.below t;have b7:=ew.out.step (StL.new (λ_=>False) t fT.ow 2) (λ_ _ e=>e);obtain⟨fz,hD⟩: ∃x:LQ,x={fT with ow:=ext w9 fT.ow 2}:=⟨_,rfl⟩;rw [<-hD]at f1;rw [show ext w9 fT.ow 2=fz.ow from by rw [hD]]at b7;have Z:=f1.base;clear t hD l5 g8 bt nt oa be ew;generalize w9.drew=w10 at *;have ms:=f1.st;obtain⟨lT,hu⟩: ∃v,v=cT.ed.length:=⟨_,rfl⟩;obtain⟨bg,ew,nr,er⟩:=aA Z b7 ms hu;clear Z b7 ms hu;clear f1
    go_wp2_with fail
    go_loopw [89] (λcj wr=> ∃(B:Nat) (hR:LQ) (bd:Dy),B<=ck/\cj= .int .i64 (B:Int)/\SI w10 fz.ow M [(r,278, #[.pointer D,.bool b]),(l,226, #[.int .i64 (a:Int),.int .i64 (c:Int)])] [(.pointer D,o)] d wr hR bd/\ItI d d.cm bd/\GrI cT bd/\bd.ed.length<=lT+B * 300/\ ∀f∈(d.cm aS).take B,∀al∈az d.G f.s,jp d p i ((a:Int),(c:Int)) f al bd) (λcj _=>ck - (intOf cj).toNat)
    case atStart=>exact⟨0,fz,cT,Zw _,rfl,bg.out,h7.out,GrI.refl _,by rw [er.out];omega,λf bu=>by rw [Zs]at bu;cases bu⟩
    case round=>
     clear bg;obtain⟨B,hR,bd,p5,rfl,cS,e4,dn,k3,dF⟩:=hrel;by_cases k6:B<ck
     ·have n2:(B:Int)<(ck:Int):=(by omega);obtain⟨f,bu⟩: ∃f,(d.cm aS)[B]? =some f:=⟨_,List.getElem?_eq_getElem (by rw [<-iy.out];exact k6)⟩;have fg:=Zl bu;have l8:=ew.out.step cS.st (λi hi=>by unfold JI;omega);obtain⟨-,-,-,S⟩:=l8.at_;obtain⟨pl,qt,rfl,-,R⟩:=S (by omega);obtain⟨ot,eR,c5,g4,bh,mL,rfl,cM,li⟩:=R B f bu;have hf:=im.out.non f fg;have kK:=(im.out.mem f.s).1 ⟨f,fg,rfl⟩;have hg:=hf;unfold am ao at hg;simp only [Bool.and_eq_true,decide_eq_true_eq]at hg;obtain⟨O,hj⟩:=Za (show 0<=f.s by omega);have kP:O<=ao d.G:=(by unfold ao;omega);obtain⟨cn,hI⟩: ∃k,k=f.self:=⟨_,rfl⟩;rw [hj]at eR;rw [<-hI]at g4;have mo:=cS.addS (z:=(aq bh,f.f)) (.inr ⟨bh,mL,rfl,cM,li⟩);obtain⟨hS,Z⟩:=mo.box 293 #[.int .i64 (O:Int),aq bh,.bool cn];have g2:Below wr.heap.size wr (wr.alloc (.cells #[.int .i64 (O:Int),aq bh,.bool cn] 293)):=(Below.refl _ _).alloc (Zt _) _;have cM:=cM.touch (aa.of_size g2 (λ_=>False)) (λ_ _ e=>e);unfold aq at Z cM g2;generalize ob:wr.alloc (.cells #[.int .i64 (O:Int),.pointer (some ⟨bh,0,none⟩),.bool cn] 293)=w11 at *;unfold aq at c5;have dd:=Z.cell (b:=wr.heap.size) (t:=293) (Zk ..) 0;have eX:=Z.cell (b:=wr.heap.size) (t:=293) (Zk ..) 1;have eZ:=Z.cell (b:=wr.heap.size) (t:=293) (Zk ..) 2;have c8:=Z.cell (b:=r) (t:=278) (Zj _ (Zk ..)) 0;have c7:=Dc cM;have p9:B<ck:=k6;clear cS mo l8 S R cM li g2 hg;obtain⟨bg,gh,gf,gE,gl,m9,gk,pc,m8,c2,it,ev,f9⟩:=pZ Z e4 dn k3 dF bu fg hf kK hj kP hI c7;clear Z e4 dn k3 dF bu fg hf kK hj kP hI c7
      go_upto_if 96 with fail
      clear ob eR c5 g4;generalize wr.heap.size=U at *
      go_cut [13]from 97 to 103 (λej co=>Below w11.heap.size w11 co/\dx co (λa=>TF w11 hS.ow (λg=>g=2) a\/(w11.heap.size<=a/\a<co.heap.size)) (d.T+1) ej (dR f ⟨o,b⟩))
      case first=>
       cases cn with
       |true=>
        have kS:dR f ⟨o,b⟩=λei=>f.f ei||o ei:=by unfold dR;rw [if_pos ev.out.symm]
        have nc:=ab kS;clear kS
        go_wp2_with fail
        refine f9.out.mono ?_;rintro e w12 ⟨ka,rfl,hG,eE⟩;have nu:=ae eE c8;have mf:=bg.out.below eE;have g7:=kY hG (mf.sx (.pointer D,o) (Zj _ (Zk ..)));clear c8 mf dd eX eZ f9;unfold aq at g7;obtain⟨pk,hY,m0⟩:=aK hG eE g7;clear hG eE g7
        go_wp2_with fail
        refine m0.out.mono ?_;rintro e w13 ⟨rfl,hH,mx⟩;have kb:Below w11.heap.size w11 w13:=mx.toBelow (λa cH=>(cH.resolve_left id).1) hY.out hY.out.size;have dS:dx w13 (λa=>TF w11 hS.ow (λg=>g=2) a\/(w11.heap.size<=a/\a<w13.heap.size)) (d.T+1) (.pointer (some ⟨ka,0,none⟩)) (dR f ⟨o,b⟩):=by
         rw [nc.out];exact .inr ⟨ka,_,rfl,hH,λa cH=> .inr ⟨(cH.resolve_left id).1,hH.lt a cH⟩⟩
        clear mx hH nu;obtain⟨mR,gr⟩:=av kb dS;clear kb dS
        go_wp2_with fail
        go_meet
        exact⟨mR.out,gr.out⟩
       |false=>
        have dS:dx w11 (λa=>TF w11 hS.ow (λg=>g=2) a\/(w11.heap.size<=a/\a<w11.heap.size)) (d.T+1) (.pointer (some ⟨bh,0,none⟩)) (dR f ⟨o,b⟩):=by
         have:dR f ⟨o,b⟩=f.f:=(by unfold dR;rw [if_neg (by rw [<-ev.out];simp)]);rw [this];exact(bg.out.sx _ (Zk ..)).mono λa cH=> .inl cH
        have gr:=ab dS;clear dS
        go_wp2_with fail
        go_meet
        exact⟨Below.refl _ _,gr.out⟩
      case rest=>
       obtain⟨kk,hU⟩:=hcut;obtain⟨s,rfl⟩:=hU.ptr;obtain⟨f0,ad⟩:=bg.out.set kk hU;obtain⟨o5,o2,cP,p2,lG,nM,cl⟩:=ad.k.rowU m.out.hP it.out;obtain⟨hB,qi,nP,-⟩:=RdI.at_ cl;unfold maxLen at nP;have qf:cP<=300:=(by rw [hB];exact Zu rN m.out.hK.r);have eb:=ad.k.cells.2.2.2.2.2.2.2.1;obtain⟨l2,hz⟩: ∃x,x=ao d.G+1:=⟨_,rfl⟩;rw [ad.M,lG,<-hz]at eb;have nG:(O:Int)<(l2:Int):=(by have:=it.out;omega);have qe:l2<=241:=(by rw [hz];have:=m.out.hK.n;have:=m.out.hK.t;unfold ao;omega);have dd:=ad.cell (b:=U) (t:=293) (Zk ..) 0;clear kk hU lG hz eX eZ c8 f9;obtain⟨ex,iD,eA⟩:=aK cl hB ad;clear cl hB ad
       go_upto_region 14 with fail
       refine aU (by kernel_rfl) (by kernel_rfl) ?_
       repeat still_step
       refine wpStill_nil ?_
       go_wp2_with fail
       have t:Below wc.heap.size wc wc.drew:=(Below.refl _ _).drew;have f2:=eA.out.below t;have cl:=Rd.step ex.out (StL.new (λ_=>False) t f0.ow 2) (λ_ _ e=>e);obtain⟨fF,hE⟩: ∃x:LQ,x={f0 with ow:=ext wc f0.ow 2}:=⟨_,rfl⟩;rw [<-hE]at f2;rw [show ext wc f0.ow 2=fF.ow from by rw [hE]]at cl;have Z:=f2.base;have mt:=f2.st;clear t hE eb nM nG dd eA ex f2 bg;generalize wc.drew=w14 at *;obtain⟨l0,k9⟩: ∃v,v=bd.ed.length:=⟨_,rfl⟩;obtain⟨bg,ex,ns,es⟩:=aA Z cl mt k9;clear Z cl mt k9
       go_wp2_with fail
       go_loopw [113] (λcj oC=> ∃(k:Nat) (ec:LQ) (a0:Dy),k<=cP/\cj= .int .i64 (k:Int)/\SI w14 fF.ow M [(U,293, #[.int .i64 (O:Int),.pointer (some ⟨bh,0,none⟩),.bool cn]),(r,278, #[.pointer D,.bool b]),(l,226, #[.int .i64 (a:Int),.int .i64 (c:Int)])] [(.pointer s,dR f ⟨o,b⟩),(.pointer (some ⟨bh,0,none⟩),f.f),(.pointer D,o)] d oC ec a0/\ItI d d.cm a0/\GrI bd a0/\a0.ed.length<=l0+k/\ ∀al∈(az d.G (O:Int)).take k,jp d p i ((a:Int),(c:Int)) f al a0) (λcj _=>cP - (intOf cj).toNat)
       case atStart=>exact⟨0,fF,bd,Zw _,rfl,bg.out,gh.out,GrI.refl _,by rw [es.out];omega,λal ak=>by rw [Zs]at ak;cases ak⟩
       case round=>
        clear bg;obtain⟨k,ec,a0,e9,rfl,bx,e5,e2,k4,dO⟩:=hrel;by_cases n3:k<cP
        ·have n4:(k:Int)<(cP:Int):=(by omega);obtain⟨al,ak⟩: ∃al,(az d.G (O:Int))[k]? =some al:=⟨_,List.getElem?_eq_getElem (by rw [<-iD.out];exact n3)⟩;have ht:=Zl ak;obtain⟨C,q2,rfl,k1⟩:=lF.1 ht;have kT:C<d.G.rules.length:=(List.getElem?_eq_some_iff.1 k1).1;have ma:=Rd.step ex.out bx.st (λi hi=>by unfold JI;omega);obtain⟨-,-,-,S⟩:=RdI.at_ ma;obtain⟨ps,qT,rfl,-,R⟩:=S (by omega);have kr:=R k _ ak;obtain⟨ge,o1,hP,p1,ks,my,mb,hm,hn⟩:=bx.k.r.at_ (m.out.hP.rs C (by omega));obtain⟨lb,ld,hh,-⟩:=RdI.at_ mb;unfold maxLen at hh;obtain⟨oj,d2⟩: ∃v,v=d.rs.length:=⟨_,rfl⟩;obtain⟨py,fb⟩: ∃v,v=ec.cr:=⟨_,rfl⟩;have Y:=bx.k.cells.2.2.2.2.2.1;rw [bx.M,ks,<-d2,<-fb]at Y;rw [<-d2,<-fb]at hm;rw [<-fb]at hn;have kX:(C:Int)<(oj:Int):=(by rw [d2,m.out.hP.rl];omega);clear S R ma mb ks d2 fb k1;obtain⟨b1,cs,m5,nm,na,gA,en,gM,ix⟩:=dQ bx e5 e2 k4 dO ak ht lb kT;clear bx e5 e2 k4 dO ak ht lb kT
         go_upto_if 125 with fail
         go_cut [16]from 125 to 134 (λej co=>G6 w14 fF.ow M [(U,293, #[.int .i64 (O:Int),.pointer (some ⟨bh,0,none⟩),.bool cn]),(r,278, #[.pointer D,.bool b]),(l,226, #[.int .i64 (a:Int),.int .i64 (c:Int)])] [(.pointer s,dR f ⟨o,b⟩),(.pointer (some ⟨bh,0,none⟩),f.f),(.pointer D,o)] d i (C:Int) a0 ej co)
         case first=>
          clear Y my kr kX hm hn hh ld;cases bl:rgt d.G d.st (C:Int)with
          |nil=>
           have k8:hP=0:=(by rw [gM.out,bl];rfl);have fi:i<d.D.length:=(by obtain⟨e,a7,-⟩:=bP.out.mem;exact(List.getElem?_eq_some_iff.1 a7).1);have ai:=DC b1.out.k m.out.hK.t (Zu (cs.out.na_le m.out.hA m.out.hK) (by omega)) fi (Zu (cs.out.fi_le m.out.hK i) (by omega)) m.out.hA.n (C:Int);rw [b1.out.M]at ai;obtain⟨bi,k7,Q⟩:=cs.out.end_ fi (k:=(C:Int)) (by have:=ix.out;omega) bl (by
            obtain⟨e,a7,og⟩:=bP.out.mem
            exact⟨e,_,(aS:Int),a7,og,bG.out,ct.out.symm,f,by rw [Zb];exact gk.out,by rw [c2.out];exact en.out⟩)
           subst k8;unfold aq at ai;obtain⟨h1,c1,no,m3,gO,pe⟩:=aM ai bi k7 Q bl fi;clear ai bi k7 Q bl fi
           go_wp2_with fail
           refine h1.out.mono ?_;rintro e oB ⟨rfl,q',mk,kE,mp⟩;have j:=b1.out.step mk (kE.trans b1.out.M) mp (by omega) (λbo cG=>by unfold JI;omega);clear mk kE mp h1;have N:=ab j;clear j
           go_wp2_with fail
           go_meet
           exact⟨q',_,_,rfl,N.out,c1.out,m3.out,EP _ _ _,.inl ⟨gO.out,no.out⟩⟩
          |cons y0 ou=>
           have k8:((hP:Int)==0)=false:=(by rw [gM.out,bl];simp;omega);have hu: ¬hP=0:=(by rw [gM.out,bl];simp);have he:Bg d.G d.st (aS:Int) (O:Int):=(by rw [<-c2.out];exact m8.out);obtain⟨oi,H,hp,hr,ln,k0⟩:=FO m.out.hA m.out.ba bP.out bG.out he en.out bl;have ce:=yR (dt:=0) (r:=rgt d.G d.st (C:Int)) (s:=y0) b1.out.k ga.out (m.out.hP.rs C (by have:=ix.out;omega)) (by rw [bl];rfl) hp hr (by rw [m.out.bl];exact hr);rw [b1.out.M]at ce;have lo:toD d i ((C:Int),((0:Nat):Int)) y0=(H:Int):=ln;rw [lo]at ce;have ce:Calls prog 229 #[aq M,.int .i64 (i:Int),.agg #[.int .i64 (C:Int),.int .i64 0]] wr (aI wr (.int .i64 (H:Int))):=ce;unfold aq at ce;clear ln lo hr;obtain⟨h4,gO,nj,nk,pa⟩:=aX ce bl hp k0 he;clear ce bl hp k0 he
           go_wp2_with fail
           refine h4.out.mono ?_;rintro e oB ⟨rfl,kg⟩;obtain⟨q',j⟩:=b1.out.below' kg;clear kg h4;have N:=ab j;clear j
           go_wp2_with fail
           go_meet
           exact⟨q',a0,H,rfl,N.out,cs.out,GrI.refl _,rfl,.inr ⟨y0,ou,oi,gO.out,nj.out,nk.out⟩⟩
         case rest=>
          obtain⟨q',I,g,rfl,ad,cA,cz,fh,cN⟩:=hcut;clear Y my kr kX hm hn hh ld b1;have cC: ∀F∈(az d.G (O:Int)).take k,jp d p i ((a:Int),(c:Int)) f F I:=λF h=>(na.out F h).mono cz
          have cI:I.ed.length<=l0+k:=(by rw [fh];exact nm.out);have cy:=m5.out.trans cz;have cE:rgt d.G d.st (C:Int)=[]-> ∃hQ,((C:Int),hQ)∈I.fi i:=λe=>by
           rcases cN with⟨-,h⟩|⟨y0,bb,bo,h,-⟩
           ·exact⟨g,h⟩
           ·rw [e]at h;cases h
          cases op with
          |true=>
           have a6: ∀F∈(az d.G (O:Int)).take (k+1),jp d p i ((a:Int),(c:Int)) f F I:=λF h=>by
            rw [<-j7 gA.out]at h;rcases Zg.1 h with h|h
            ·exact cC F h
            ·rw [Zm.1 h];exact⟨cE,λe=>by have A:=gF.out;rw [cd.out]at A;have b2:gV (d.T+1) (tlI d.G d.st ((a:Int),(c:Int)))=false:=e;rw [b2]at A;cases A⟩
           clear cC cE cN fh;obtain⟨eA,m7,m6,c3,cb,o8⟩:=aM ad cA cy cI a6 cz;clear ad cA cy cI a6 cz
           go_wp2_with fail
           go_roundw
           case rel=>exact⟨k+1,q',I,by omega,by go_num,eA.out,m7.out,m6.out,by have:=c3.out;omega,cb.out⟩
           case measure=>simp [intOf];omega
          |false=>
           cases cn with
           |true=>
            have cf:EB d.G d.st d.D I.fi ⟨(g:Int),p,dR f ⟨o,b⟩,b⟩ i ((a:Int),(c:Int)) f (C:Int):=by
             refine⟨by rw [<-cd.out],by rw [<-cd.out,<-ev.out];rfl,g,rfl,?_⟩;rcases cN with h|⟨y0,bb,bo,A,b2,cx⟩
             ·exact .inl h
             ·exact .inr ⟨y0,bb,bo,A,b2,cx⟩
            obtain⟨bi,Q⟩:=cA.edge (e:=⟨(g:Int),p,dR f ⟨o,b⟩,b⟩) ⟨i,_,(aS:Int),bP.out,bG.out,.inr ⟨ct.out.symm,f,by rw [Zb];exact gk.out,(C:Int),by rw [c2.out];exact en.out,by rw [<-cd.out];exact gF.out.symm,cf⟩⟩;obtain⟨cp,E⟩: ∃cr:Dy,cr={I with ed:=I.ed++[⟨(g:Int),p,dR f ⟨o,b⟩,b⟩]}:=⟨_,rfl⟩;have a6: ∀F∈(az d.G (O:Int)).take (k+1),jp d p i ((a:Int),(c:Int)) f F cp:=λF h=>by
             rw [<-E]at Q;rw [<-j7 gA.out]at h;rcases Zg.1 h with h|h
             ·exact(cC F h).mono Q
             ·rw [Zm.1 h];exact⟨λe=>(cE e).imp λhQ hC=>Q.fi _ _ hC,λ_=>⟨⟨(g:Int),p,dR f ⟨o,b⟩,b⟩,by rw [E];exact Zh _ (Zm.2 rfl),rfl,by rw [E];exact cf⟩⟩
            have d1:cp.ed.length=I.ed.length+1:=(by rw [E];exact Zf);have cg:=cy.trans Q;rw [<-E]at bi cg;have t:Below wc.heap.size wc wc.drew:=(Below.refl _ _).drew;obtain⟨an,j⟩:=ad.below' t;obtain⟨G,bw⟩: ∃v,v=I.ed.length:=⟨_,rfl⟩;have n5:G<=2000000000000:=by
             have A:=ep.out;have b2:=er.out;have cx:=et.out;have kv:=gE.out;have nC:=es.out;have nE:=bs.out;have nD:B * 300<=120 * 300:=Zv _ (by omega);omega
            obtain⟨a1,W⟩: ∃x,x=an.Ae:=⟨_,rfl⟩;obtain⟨a3,X⟩: ∃x,x=an.ce:=⟨_,rfl⟩;have ba:=j.k.cells.2.2.2.2.2.2.2.2.2.2.2.1;rw [j.M,<-bw,<-W,<-X]at ba;have K:wc.drew.cell? ⟨M,11,none⟩=some (.slice a1 G a3)/\wc.drew.cell? ⟨U,2,none⟩=some (.bool true)/\wc.drew.cell? ⟨r,1,none⟩=some (.bool b):=⟨ba,j.cell (b:=U) (t:=293) (Zk ..) 2,j.cell (b:=r) (t:=278) (Zj _ (Zk ..)) 1⟩;have z:Below wc.drew.heap.size wc.drew (wc.drew.alloc (.cells #[.int .i64 (g:Int),.int .i64 (p:Int),.pointer s,.bool b] 290)):=(Below.refl _ _).alloc (Zt _) _;have bA:(wc.drew.alloc (.cells #[.int .i64 (g:Int),.int .i64 (p:Int),.pointer s,.bool b] 290)).cell? ⟨M,11,none⟩=some (.slice a1 G a3)/\(wc.drew.alloc (.cells #[.int .i64 (g:Int),.int .i64 (p:Int),.pointer s,.bool b] 290)).cell? ⟨U,2,none⟩=some (.bool true)/\(wc.drew.alloc (.cells #[.int .i64 (g:Int),.int .i64 (p:Int),.pointer s,.bool b] 290)).cell? ⟨r,1,none⟩=some (.bool b):=⟨ae z K.1,ae z K.2.1,ae z K.2.2⟩;obtain⟨l3,b5,H,b6⟩:=j.k.e;have a9:=ah H.own z;rw [<-W,<-X,<-bw]at a9;have b8:Rd (wc.drew.alloc (.cells #[.int .i64 (g:Int),.int .i64 (p:Int),.pointer s,.bool b] 290)) (λx=>x=wc.drew.heap.size) (.slice (some ⟨wc.drew.heap.size,0,none⟩) 1 1) 4 [.int .i64 (g:Int),.int .i64 (p:Int),.pointer s,.bool b]:=Rd.one' (w:=wc.drew) (e:=290) [.int .i64 (g:Int),.int .i64 (p:Int),.pointer s,.bool b] 4 rfl;clear ba t ad cA cz cC cE cN fh Q cy cf;obtain⟨N,a2,bC,bB,bS,bW,bY,bR,b0,bE,bO,cc,c1,gd⟩:=dh j K z bA b5 H b6 a9 b8 W X bw bi cg;obtain⟨cb,gB,c3,g1⟩:=aA a6 d1 cI E;clear j K z bA b5 H b6 a9 b8 W X bw bi cg a6 d1 cI E
            go_wp2_with fail
            refine lO (λn=>n.cell? ⟨M,11,none⟩=some (.slice a1 G a3)/\n.cell? ⟨U,2,none⟩=some (.bool true)/\n.cell? ⟨r,1,none⟩=some (.bool b)) [0,1,2,3,4,5,6,7,8,9,10,11,12,13,14] [15,16] 17 (by kernel_rfl) (by kernel_rfl) a2.out ?_;simp only [fm,List.getElem?_cons_succ,List.getElem?_cons_zero,Zc,Zd]
            iterate 15
             refine bI ?_ (by rfl) (λwS hwS=> ?_) ?_
             rotate_left
             ·(try dsimp only at hwS)
              go_simp
              all_goals with_reducible rfl
             simp only [Act.put,Zo,Zq,Zp]
            refine bU ?_;generalize d6:wc.drew.alloc (.cells #[.int .i64 (g:Int),.int .i64 (p:Int),.pointer s,.bool b] 290)=oz at *;generalize wc.drew=b9 at *;refine ay ?_
            go_wp2_with fail
            try rw [d6]
            refine⟨bB.out,ay ?_⟩
            go_wp2_with (at_builtin;refine aJ _ rfl (.tmp 141) (.tmp 152) _ rfl elemEdge 0 (.slice a1 G a3) G _ rfl bR.out _ _ [.int .i64 (g:Int),.int .i64 (p:Int),.pointer s,.bool b] 1 rfl rfl b0.out (by intro ei b3;simp only [Zi,Zn,or_false]at b3;rcases b3 with rfl|rfl|rfl|rfl<;>rfl) (by unfold maxLen;omega) (by omega) (Zw _) ?_)
            intro f5 g5 w4 a8 P T;rw [cc.out]at a8 P T;rw [bE.out,bO.out]at P T;obtain⟨a4,a5,c9,Y,ap⟩:=N.out.edge (e:=⟨(g:Int),p,dR f ⟨o,b⟩,b⟩) (p:= .pointer s) (N.out.sx _ (Zk ..)) bC.out bS.out bW.out bY.out a8 P T;rw [<-bE.out,<-bO.out,<-cc.out]at a4;rw [<-cc.out,<-g1.out]at ap;have bz:w4.cell? ⟨M,11,none⟩=some (.slice a1 G a3)/\w4.cell? ⟨U,2,none⟩=some (.bool true)/\w4.cell? ⟨r,1,none⟩=some (.bool b):=⟨a4,a5 _ (Zk ..) 2 _ rfl,a5 _ (Zj _ (Zk ..)) 1 _ rfl⟩;clear a8 P T a5 bB bC N a2 bS bW bY bR b0 d6;obtain⟨cu,br⟩:=av ap bz;clear ap bz;refine⟨br.out,cX ?_⟩;clear br
            go_wp2_with fail
            refine NoPanic.normal ?_;clear a4 c9
            go_wp2_with fail
            go_roundw
            case rel=>exact⟨k+1,Y,cp,by omega,by go_num,cu.out,c1.out,gd.out,by have:=c3.out;have:=gB.out;omega,cb.out⟩
            case measure=>simp [intOf];omega
           |false=>
            have cf:EB d.G d.st d.D I.fi ⟨(g:Int),p,dR f ⟨o,b⟩,false⟩ i ((a:Int),(c:Int)) f (C:Int):=by
             refine⟨by rw [<-cd.out],by rw [<-cd.out,<-ev.out];rfl,g,rfl,?_⟩;rcases cN with h|⟨y0,bb,bo,A,b2,cx⟩
             ·exact .inl h
             ·exact .inr ⟨y0,bb,bo,A,b2,cx⟩
            obtain⟨bi,Q⟩:=cA.edge (e:=⟨(g:Int),p,dR f ⟨o,b⟩,false⟩) ⟨i,_,(aS:Int),bP.out,bG.out,.inr ⟨ct.out.symm,f,by rw [Zb];exact gk.out,(C:Int),by rw [c2.out];exact en.out,by rw [<-cd.out];exact gF.out.symm,cf⟩⟩;obtain⟨cp,E⟩: ∃cr:Dy,cr={I with ed:=I.ed++[⟨(g:Int),p,dR f ⟨o,b⟩,false⟩]}:=⟨_,rfl⟩;have a6: ∀F∈(az d.G (O:Int)).take (k+1),jp d p i ((a:Int),(c:Int)) f F cp:=λF h=>by
             rw [<-E]at Q;rw [<-j7 gA.out]at h;rcases Zg.1 h with h|h
             ·exact(cC F h).mono Q
             ·rw [Zm.1 h];exact⟨λe=>(cE e).imp λhQ hC=>Q.fi _ _ hC,λ_=>⟨⟨(g:Int),p,dR f ⟨o,b⟩,false⟩,by rw [E];exact Zh _ (Zm.2 rfl),rfl,by rw [E];exact cf⟩⟩
            have d1:cp.ed.length=I.ed.length+1:=(by rw [E];exact Zf);have cg:=cy.trans Q;rw [<-E]at bi cg;have t:Below wc.heap.size wc wc.drew:=(Below.refl _ _).drew;obtain⟨an,j⟩:=ad.below' t;obtain⟨G,bw⟩: ∃v,v=I.ed.length:=⟨_,rfl⟩;have n5:G<=2000000000000:=by
             have A:=ep.out;have b2:=er.out;have cx:=et.out;have kv:=gE.out;have nC:=es.out;have nE:=bs.out;have nD:B * 300<=120 * 300:=Zv _ (by omega);omega
            obtain⟨a1,W⟩: ∃x,x=an.Ae:=⟨_,rfl⟩;obtain⟨a3,X⟩: ∃x,x=an.ce:=⟨_,rfl⟩;have ba:=j.k.cells.2.2.2.2.2.2.2.2.2.2.2.1;rw [j.M,<-bw,<-W,<-X]at ba;have K:wc.drew.cell? ⟨M,11,none⟩=some (.slice a1 G a3)/\wc.drew.cell? ⟨U,2,none⟩=some (.bool false)/\wc.drew.cell? ⟨r,1,none⟩=some (.bool b):=⟨ba,j.cell (b:=U) (t:=293) (Zk ..) 2,j.cell (b:=r) (t:=278) (Zj _ (Zk ..)) 1⟩;have z:Below wc.drew.heap.size wc.drew (wc.drew.alloc (.cells #[.int .i64 (g:Int),.int .i64 (p:Int),.pointer s,.bool false] 290)):=(Below.refl _ _).alloc (Zt _) _;have bA:(wc.drew.alloc (.cells #[.int .i64 (g:Int),.int .i64 (p:Int),.pointer s,.bool false] 290)).cell? ⟨M,11,none⟩=some (.slice a1 G a3)/\(wc.drew.alloc (.cells #[.int .i64 (g:Int),.int .i64 (p:Int),.pointer s,.bool false] 290)).cell? ⟨U,2,none⟩=some (.bool false)/\(wc.drew.alloc (.cells #[.int .i64 (g:Int),.int .i64 (p:Int),.pointer s,.bool false] 290)).cell? ⟨r,1,none⟩=some (.bool b):=⟨ae z K.1,ae z K.2.1,ae z K.2.2⟩;obtain⟨l3,b5,H,b6⟩:=j.k.e;have a9:=ah H.own z;rw [<-W,<-X,<-bw]at a9;have b8:Rd (wc.drew.alloc (.cells #[.int .i64 (g:Int),.int .i64 (p:Int),.pointer s,.bool false] 290)) (λx=>x=wc.drew.heap.size) (.slice (some ⟨wc.drew.heap.size,0,none⟩) 1 1) 4 [.int .i64 (g:Int),.int .i64 (p:Int),.pointer s,.bool false]:=Rd.one' (w:=wc.drew) (e:=290) [.int .i64 (g:Int),.int .i64 (p:Int),.pointer s,.bool false] 4 rfl;clear ba t ad cA cz cC cE cN fh Q cy cf;obtain⟨N,a2,bC,bB,bS,bW,bY,bR,b0,bE,bO,cc,c1,gd⟩:=dh j K z bA b5 H b6 a9 b8 W X bw bi cg;obtain⟨cb,gB,c3,g1⟩:=aA a6 d1 cI E;clear j K z bA b5 H b6 a9 b8 W X bw bi cg a6 d1 cI E
            go_wp2_with fail
            refine lO (λn=>n.cell? ⟨M,11,none⟩=some (.slice a1 G a3)/\n.cell? ⟨U,2,none⟩=some (.bool false)/\n.cell? ⟨r,1,none⟩=some (.bool b)) [0,1,2,3,4,5,6,7,8,9,10,11,12,13,14] [15,16] 17 (by kernel_rfl) (by kernel_rfl) a2.out ?_;simp only [fm,List.getElem?_cons_succ,List.getElem?_cons_zero,Zc,Zd]
            iterate 11
             refine bI ?_ (by rfl) (λwS hwS=> ?_) ?_
             rotate_left
             ·(try dsimp only at hwS)
              go_simp
              all_goals with_reducible rfl
             simp only [Act.put,Zo,Zq,Zp]
            iterate 2
             refine zE (by rfl) ?_;simp only [Act.put,Zo,Zq,Zp]
            iterate 2
             refine bI ?_ (by rfl) (λwS hwS=> ?_) ?_
             rotate_left
             ·(try dsimp only at hwS)
              go_simp
              all_goals with_reducible rfl
             simp only [Act.put,Zo,Zq,Zp]
            refine bU ?_;generalize d6:wc.drew.alloc (.cells #[.int .i64 (g:Int),.int .i64 (p:Int),.pointer s,.bool false] 290)=oz at *;generalize wc.drew=b9 at *;refine ay ?_
            go_wp2_with fail
            try rw [d6]
            refine⟨bB.out,ay ?_⟩
            go_wp2_with (at_builtin;refine aJ _ rfl (.tmp 141) (.tmp 152) _ rfl elemEdge 0 (.slice a1 G a3) G _ rfl bR.out _ _ [.int .i64 (g:Int),.int .i64 (p:Int),.pointer s,.bool false] 1 rfl rfl b0.out (by intro ei b3;simp only [Zi,Zn,or_false]at b3;rcases b3 with rfl|rfl|rfl|rfl<;>rfl) (by unfold maxLen;omega) (by omega) (Zw _) ?_)
            intro f5 g5 w4 a8 P T;rw [cc.out]at a8 P T;rw [bE.out,bO.out]at P T;obtain⟨a4,a5,c9,Y,ap⟩:=N.out.edge (e:=⟨(g:Int),p,dR f ⟨o,b⟩,false⟩) (p:= .pointer s) (N.out.sx _ (Zk ..)) bC.out bS.out bW.out bY.out a8 P T;rw [<-bE.out,<-bO.out,<-cc.out]at a4;rw [<-cc.out,<-g1.out]at ap;have bz:w4.cell? ⟨M,11,none⟩=some (.slice a1 G a3)/\w4.cell? ⟨U,2,none⟩=some (.bool false)/\w4.cell? ⟨r,1,none⟩=some (.bool b):=⟨a4,a5 _ (Zk ..) 2 _ rfl,a5 _ (Zj _ (Zk ..)) 1 _ rfl⟩;clear a8 P T a5 bB bC N a2 bS bW bY bR b0 d6;obtain⟨cu,br⟩:=av ap bz;clear ap bz;refine⟨br.out,cX ?_⟩;clear br
            go_wp2_with fail
            refine NoPanic.normal ?_;clear a4 c9
            go_wp2_with fail
            go_roundw
            case rel=>exact⟨k+1,Y,cp,by omega,by go_num,cu.out,c1.out,gd.out,by have:=c3.out;have:=gB.out;omega,cb.out⟩
            case measure=>simp [intOf];omega
        ·have n4: ¬(k:Int)<(cP:Int):=(by omega);rw [Zr (by rw [<-iD.out];omega)]at dO;have lm:=ns.out.trans bx.st;have mm:SI w10 fz.ow M [(r,278, #[.pointer D,.bool b]),(l,226, #[.int .i64 (a:Int),.int .i64 (c:Int)])] [(.pointer D,o)] d wr ec a0:=by
          have:=bx.drop.dropS.dropS;exact⟨this.k,this.M,this.bx,this.sx,lm⟩
         have a6: ∀eQ∈(d.cm aS).take (B+1),∀al∈az d.G eQ.s,jp d p i ((a:Int),(c:Int)) eQ al a0:=λeQ cB al ak=>by
          rw [<-j7 m9.out]at cB;rcases Zg.1 cB with cB|cB
          ·exact(gl.out eQ cB al ak).mono e2
          ·rw [Zm.1 cB]at ak⊢;rw [c2.out]at ak;exact dO al ak
         have kB:=gf.out.trans e2;have k2:a0.ed.length<=lT+(B+1) * 300:=(by have:=gE.out;have:=es.out;rw [Nat.add_mul];omega);clear bx dO lm;obtain⟨nq,cb,m4,nl,cs⟩:=aX mm a6 kB k2 e5;clear mm a6 kB k2 e5
         go_wp2_with fail
         go_roundw
         case rel=>exact⟨B+1,ec,a0,by omega,by go_num,nq.out,cs.out,m4.out,nl.out,cb.out⟩
         case measure=>simp [intOf];omega
     ·have n2: ¬(B:Int)<(ck:Int):=(by omega);rw [Zr (by rw [<-iy.out];omega)]at dF;have kA:=h6.out.trans dn;have lk:=nr.out.trans cS.st;have k5:bd.ed.length<=y.ed.length+40000:=(by have A:B * 300<=120 * 300:=Zv _ (by omega);have:=er.out;rw [et.out]at this;have:=bs.out;omega);obtain⟨j2,gh,gf,gl,m2,np,nn⟩:=de cS e4 dn dF kA lk k5;clear cS e4 dn dF kA lk k5
      go_wp2_with fail
      go_end0
      exact⟨rfl,hR,bd,j2.out.k,j2.out.M.trans el.out,np.out,gh.out,m2.out,yV rfl rfl bG.out (by obtain⟨e,g9,nv⟩:=h5.out;exact⟨e,gf.out.ed e g9,nv⟩) (λ_=>by rw [Zb];exact gl.out),nn.out⟩
 ·have nT:(ea:Int)<=(c:Int):=by omega
  obtain⟨m1,m,gg,ep,bP,ga,gW,iN,iF,ey,el,gi,ih,h8⟩:=dh h u e3 fn d4 e1 ci d5 d3 s1 ch ds hT e6;have h9:=ab e8;clear h u e3 fn d4 e1 ci d5 d3 s1 ch ds hT e6 e8
  go_enter func198,ntmps198
  go_wp2_with fail
  try rw [<-gi.out]
  refine aU (by kernel_rfl) (by kernel_rfl) ?_
  repeat still_step
  refine wpStill_nil ?_
  go_wp2_with fail
  go_wp2_with fail
  go_end0
  have t:Below w1.heap.size w1 w1.drew:=(Below.refl _ _).drew;obtain⟨an,j⟩:=ey.out.below' t;exact⟨rfl,an,y,j.k,j.M.trans el.out,j.st,gg.out,GrI.refl y,DL (by show(rgt d.G d.st (a:Int)).length<=((c:Nat):Int).toNat;rw [<-gW.out,<-iF.out];omega) (by simp only;omega),Nat.le_add_right _ _⟩
end Go.Proofs.YthlbjgabhpdbfaaGreat

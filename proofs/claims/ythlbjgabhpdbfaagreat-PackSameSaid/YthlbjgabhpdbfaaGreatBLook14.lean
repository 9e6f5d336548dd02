/- Lookaheads: a state's lookaheads, by rules. -/
import Derived.Test.YthlbjgabhpdbfaaGreatBLook13
set_option linter.unusedVariables false
set_option linter.unusedSimpArgs false
set_option maxRecDepth 100000
set_option maxHeartbeats 16000000
namespace Go.Proofs.YthlbjgabhpdbfaaGreat
open Go.Proofs.Tryz
open List renaming mem_of_getElem?->Za,range_succ->Zb
open Nat renaming le_refl->Zc,le_trans->Zd,zero_le->Ze
open Go.RowKit Go.Maps
attribute [local irreducible] wpStill aB aO
theorem infoLook:(prog.info? 215).map (λi=>(i.zero,i.size,i.bytes))=some (some (.agg #[.int .i64 0,.slice none 0 0]),2,32):=by kernel_rfl
theorem elemLook:dZ prog 117 215 (.agg #[.int .i64 0,.slice none 0 0]) 2 32:=⟨underlying117,infoLook,rfl,by decide⟩
abbrev Lk:=Int×List Int
def j4 (L:List Lk) (Z:List Value):List Value:=(List.zip L Z).flatMap λx=>[.int .i64 x.1.1,x.2]
def ff (V:World) (F:Nat->Prop) (v:Value) (L:List Lk):Prop:= ∃Z:List Value,Z.length=L.length/\Rd V F v 2 (j4 L Z)/\ ∀(j:Nat) z x,Z[j]? =some z->L[j]? =some x->RdI V F z x.2
section
variable {V V' : World} {F F' S : Nat -> Prop} {v : Value} {L : List Lk}
theorem ff.mono (h:ff V F v L) (a: ∀b,F b->F' b):ff V F' v L:=by
 obtain⟨Z,d,e,g⟩:=h;exact⟨Z,d,e.mono a,λj o m l k=>(g j o m l k).mono a⟩
theorem ff.touch (h:ff V F v L) (t:aa S V V') (a: ∀b,F b-> ¬S b):ff V' F v L:=by
 obtain⟨Z,d,e,g⟩:=h;exact⟨Z,d,e.touch t a,λj o m l k=>(g j o m l k).touch t a⟩
theorem ff.below {B:Nat} (h:ff V F v L) (b:Below B V V') (a: ∀d,F d->d<B):ff V' F v L:=by
 obtain⟨Z,e,g,k⟩:=h;exact⟨Z,e,g.below b a,λj p o m l=>(k j p o m l).below b a⟩
end
structure LkM (base:Nat) (w:World) (A:Option Addr) (n c:Nat) (L:List Lk):Prop where
 ex: ∃Z:List Value,Z.length=L.length/\w.ownsRow base 215 2 (.slice A n c) n (j4 L Z)/\ ∀(j:Nat) z x,Z[j]? =some z->L[j]? =some x->RdI w (λb=>base<=b/\b<w.heap.size/\(Value.slice A n c).ownBlock≠some b) z x.2
 hn:n=L.length
section
variable {base n b : Nat} {w w1 w2 w3 : World} {A A' : Option Addr} {c c' : Nat} {L : List Lk} {Z : List Value}
theorem LkM.nil (base:Nat) (w:World):LkM base w none 0 0 []:=⟨⟨[],rfl,World.ownsRow_nil _ _ _ _,λj a d h=>by simp at h⟩,rfl⟩
theorem LkM.push {z:Value} {k:Int} {l:List Int} (H:n=L.length) (s:Z.length=L.length) (B:w.ownsRow base 215 2 (.slice A n c) n (j4 L Z)) (C: ∀(j:Nat) z p,Z[j]? =some z->L[j]? =some p->RdI w (λb=>base<=b/\b<w.heap.size/\(Value.slice A n c).ownBlock≠some b) z p.2) (u:base<=w.heap.size)
  (I:RdI w1 (λb=>w.heap.size<=b/\b<w1.heap.size) z l) (b1:Below w.heap.size w w1) (r:Below w1.heap.size w1 w2)
  (own:w3.ownsRow base 215 2 (.slice A' (n+1) c') (n+1) (j4 L Z++[.int .i64 k,z])) (g:w2.grownBy w3 (Value.slice A n c).ownBlock) (m:(Value.slice A' (n+1) c').ownBlock=(Value.slice A n c).ownBlock\/(Value.slice A' (n+1) c').ownBlock=some w2.heap.size):
  LkM base w3 A' (n+1) c' (L++[(k,l)])/\Below base w w3:=by
 have o:aa (λk=>(Value.slice A n c).ownBlock=some k) w2 w3:=(aa.refl _ _).grown g (λk e _=>e);have q:=b1.trans (r.mono b1.size);have t: ∀k,(Value.slice A n c).ownBlock=some k->base<=k/\k<w.heap.size:=λk e=>B.lt k e
 have x: ∀k,(Value.slice A' (n+1) c').ownBlock=some k->(Value.slice A n c).ownBlock=some k\/k=w2.heap.size:=λk a=>by
  rcases m with m|m
  ·exact .inl (m▸a)
  ·rw [m]at a;injection a with a;exact .inr a.symm
 have s1:=b1.size;have K:=r.size;have M:=o.size;refine⟨⟨⟨Z++[z],by simp [s],?_,λj J p d h=> ?_⟩,by rw [List.length_append,<-H];rfl⟩,o.toBelow (λk e=>(t k e).1) (q.mono u) (Zd u q.size)⟩
 ·have y:j4 (L++[(k,l)]) (Z++[z])=j4 L Z++[.int .i64 k,z]:=by
   unfold j4;rw [List.zip_append s.symm,List.flatMap_append];rfl
  rw [y];exact own
 ·by_cases E:j<Z.length
  ·rw [List.getElem?_append_left E]at d;rw [List.getElem?_append_left (by omega)]at h;refine(((C j J p d h).touch (aa.of_size q (λ_=>False)) (λ_ _ e=>e)).touch o (λk a=>a.2.2)).mono λk a=>⟨a.1,by omega,λe=> ?_⟩
   rcases x k e with e|e
   ·exact a.2.2 e
   ·omega
  ·have G:j=Z.length:=by have:=(List.getElem?_eq_some_iff.1 d).1;simp at this;omega
   subst G;rw [List.getElem?_append_right (Zc _),Nat.sub_self]at d;rw [List.getElem?_append_right (by omega),s,Nat.sub_self]at h;injection d with d
   injection h with h
   subst d h;refine(((I.touch (aa.of_size r (λ_=>False)) (λ_ _ e=>e)).touch o (λk a e=>by have:=t k e;omega))).mono λk a=>⟨by omega,by omega,λe=> ?_⟩
   rcases x k e with e|e
   ·have:=t k e;omega
   ·omega
theorem LkM.rd (h:LkM base w A n c L):ff w (λb=>base<=b/\b<w.heap.size) (.slice A n c) L:=by
 obtain⟨g,k,d,l⟩:=h.ex;exact⟨g,k,(Rd.of_own d).mono (λe a=>d.lt e a),λj p q m o=>(l j p q m o).mono λe a=>⟨a.1,a.2.1⟩⟩
end
def PlF (D:aP) (fi:jc) (i:Nat) (ln:Int->Int) (its:List It) (j j':Nat) (f:Int->Option Int):Prop:= ∀k v,f k=some v↔(∃m:Nat,m<j/\its[m]? =some (k,ln k)/\v=((aR D i+m:Nat):Int))\/ ∃(m p:Nat),m<j'/\(fi i)[m]? =some (k,p)/\v=(p:Int)
section
variable {D : aP} {fi : jc} {i : Nat} {ln : Int -> Int} {its : List It} {j j' : Nat} {f : Int -> Option Int}
theorem PlF.start:PlF D fi i ln its 0 0 (λ_=>none):=λd v=>⟨λh=>(by cases h),λh=>by
 rcases h with⟨a,h,-⟩|⟨a,e,h,-⟩<;>omega⟩
theorem PlF.yes {x:It} (h:PlF D fi i ln its j 0 f) (s:its.Nodup) (m:its[j]? =some x) (o:x.2=ln x.1):PlF D fi i ln its (j+1) 0 (kp f x.1 ((aR D i+j:Nat):Int)):=λp v=>by
 unfold kp;by_cases e:p=x.1
 ·subst e;rw [if_pos rfl];constructor
  ·intro k;injection k with k
   exact .inl ⟨j,by omega,by rw [m,<-o],k.symm⟩
  ·rintro(⟨d,g,a,l⟩|⟨d,q,g,-⟩)
   ·rw [<-o]at a;have:=kj s a m;rw [l,this]
   ·omega
 ·rw [if_neg e,h p v];constructor
  ·rintro(⟨d,g,a⟩|⟨d,q,g,a⟩)
   ·exact .inl ⟨d,by omega,a⟩
   ·omega
  ·rintro(⟨d,g,a,l⟩|⟨d,q,g,a⟩)
   ·by_cases r:d=j
    ·subst r;rw [m]at a;injection a with a
     rw [a]at e;exact absurd rfl e
    ·exact .inl ⟨d,by omega,a,l⟩
   ·omega
theorem PlF.no {x:It} (h:PlF D fi i ln its j 0 f) (m:its[j]? =some x) (g:x.2≠ln x.1):PlF D fi i ln its (j+1) 0 f:=λo v=>by
 rw [h o v];constructor
 ·rintro(⟨d,e,a⟩|⟨d,p,e,a⟩)
  ·exact .inl ⟨d,by omega,a⟩
  ·omega
 ·rintro(⟨d,e,a,l⟩|⟨d,p,e,a⟩)
  ·by_cases k:d=j
   ·subst k;rw [m]at a;injection a with a
    rw [a]at g;exact absurd rfl g
   ·exact .inl ⟨d,by omega,a,l⟩
  ·omega
theorem PlF.fin {k:Int} {r:Nat} (h:PlF D fi i ln its j j' f) (t:((fi i).map (·.1)).Nodup) (m:(fi i)[j']? =some (k,r)) (u: ∀d:Nat,its[d]? ≠some (k,ln k)):PlF D fi i ln its j (j'+1) (kp f k (r:Int)):=λq v=>by
 unfold kp;by_cases e:q=k
 ·subst e;rw [if_pos rfl];constructor
  ·intro p;injection p with p
   exact .inr ⟨j',r,by omega,m,p.symm⟩
  ·rintro(⟨d,g,a,l⟩|⟨d,o,g,a,l⟩)
   ·exact absurd a (u d)
   ·have:=kj t (i:=d) (j:=j') (x:=q) (by rw [List.getElem?_map,a];rfl) (by rw [List.getElem?_map,m];rfl);subst this;rw [m]at a;injection a with a
    injection a with _ a
    rw [l,a]
 ·rw [if_neg e,h q v];constructor
  ·rintro(g|⟨d,o,g,a⟩)
   ·exact .inl g
   ·exact .inr ⟨d,o,by omega,a⟩
  ·rintro(g|⟨d,o,g,a,l⟩)
   ·exact .inl g
   ·by_cases s:d=j'
    ·subst s;rw [m]at a;injection a with a
     injection a with a _
     exact absurd a.symm e
    ·exact .inr ⟨d,o,by omega,a,l⟩
end
def lW (m:Nat) (f:Nat->Bool):List Int:=(dV f m).map λn:Nat=>(n:Int)
def gG (m:Nat) (F:Nat->Nat->Bool) (f:Int->Option Int) (k:Nat):List Lk:=(List.range k).filterMap λk:Nat=>(f (k:Int)).map λv=>((k:Int),lW m (F v.toNat))
theorem Ai {m:Nat} {F:Nat->Nat->Bool} {f:Int->Option Int} {k:Nat} {v:Int} (h:f (k:Int)=some v):gG m F f (k+1)=gG m F f k++[((k:Int),lW m (F v.toNat))]:=by
 unfold gG;rw [Zb,List.filterMap_append];simp [h]
theorem Ch {m:Nat} {F:Nat->Nat->Bool} {f:Int->Option Int} {k:Nat} (h:f (k:Int)=none):gG m F f (k+1)=gG m F f k:=by
 unfold gG;rw [Zb,List.filterMap_append];simp [h]
theorem Am (m:Nat) (F:Nat->Nat->Bool) (f:Int->Option Int) (k:Nat):(gG m F f k).length<=k:=by
 unfold gG;exact Zd (List.length_filterMap_le _ _) (by simp)
def zx (d:LD) (y:Dy) (i:Nat) (L:List Lk):Prop:= ∃f:Int->Option Int,(∀k v,f k=some v↔ ∃p:Nat,v=(p:Int)/\Pl d.D y.fi p i (k,((rgt d.G d.st k).length:Int)))/\L=gG (d.T+1) y.F f (d.G.rules.length+1)
def EZ (V:World) (d:LD) (y:Dy) (i:Nat) (e:Ending) (V':World):Prop:= ∃A n c L,e= .returned (.slice A n c)/\Below V.heap.size V V'/\ff V' (λb=>V.heap.size<=b/\b<V'.heap.size) (.slice A n c) L/\zx d y i L
def MpW (w:World) (mb n:Nat) (f:Int->Option Int):Prop:= ∃D:DataW Unit,w.ownsMap prog 3 (plainElem prog 3) mb n D/\iJ D f
theorem MpW.below {w w':World} {a n:Nat} {f:Int->Option Int} (h:MpW w a n f) (b:Below w.heap.size w w'):MpW w' a n f:=by
 obtain⟨D,d,g⟩:=h;exact⟨D,(aa.of_size b (λ_=>False)).ownsMap d (λe=>e),g⟩
theorem Af {V:World} {q:LQ} {d:LD} {y:Dy} (h:MK V q d y) (bs:LkD d) (em:r8 d.G d.st d.D y.fi y.na) (ex:y.na<=10000000) {i:Nat} (hi:i<d.D.length):
  Calls prog 200 #[aq q.M,.int .i64 (i:Int)] V (EZ V d y i):=by
 obtain⟨hh,b3⟩: ∃g,g=q.M:=⟨_,rfl⟩;obtain⟨P,ec⟩: ∃g,g=d.G.rules.length:=⟨_,rfl⟩;obtain⟨e,bw⟩: ∃e,d.D[i]? =some e:=⟨_,List.getElem?_eq_getElem hi⟩;have el:=iG bs.hK (bs.hA.strict i e bw) (λg m=>(bs.hA.kern i e g bw m).1);obtain⟨-,gk,es,bu⟩:=h.l.at_;obtain⟨hl,h7,d5,-,ej⟩:=bu (by omega);obtain⟨cS,cj,u1,-,s1,-⟩:=ej i e bw;obtain⟨hd,bC,hn,rfl,-⟩:=id s1;obtain⟨ev,hW,f9,-⟩:=aH.at_ s1;unfold maxLen at f9 es;have ci:=h.cells.2.2.2.2.1;obtain⟨g5,cy⟩: ∃n,n=d.D.length:=⟨_,rfl⟩;obtain⟨cp,b6⟩: ∃g,g=q.cl:=⟨_,rfl⟩;rw [d5,<-cy,<-b6,<-b3]at ci;rw [<-cy,<-b6]at gk;rw [<-b6]at es;have hI:(i:Int)<(g5:Int):=by omega
 have gE:= @run_makeMap prog;have eB:=World.ownsMap_made V prog 3 (plainElem (H:=Unit) prog 3);rw [<-b3];clear bu ej d5 cy b6;obtain⟨p,o,ak,cn,bc,cl,bd,c3,f3,cm,be⟩:=fa h bs em ex b3 ec bw el s1 ev hi;clear h bs em ex b3 ec bw el s1 ev hi;unfold aq
 go_enter func200,ntmps200
 go_upto_region 2 with fail
 clear gE;have bS:Below V.heap.size V (V.alloc (.map #[] 0)):=(Below.refl _ _).alloc (Zc _) _;have cM:MpW (V.alloc (.map #[] 0)) V.heap.size 0 (λ_=>none):=⟨_,eB,iJ.empty⟩;clear eB;generalize V.alloc (.map #[] 0)=w1 at *;obtain⟨Y,cw⟩: ∃g,g=V.heap.size:=⟨_,rfl⟩;rw [<-cw]at cM⊢;have ci:=ae bS ci;have u1:=ae bS u1;obtain⟨cU,c9,c5⟩:=aK bS cM cw;clear bS cM cw
 go_wp2_with fail
 go_loopw [24] (λx wr=> ∃(j:Nat) (f:Int->Option Int),j<=bC/\x= .int .i64 (j:Int)/\Below V.heap.size V wr/\MpW wr Y j f/\PlF d.D y.fi i (λa=>((rgt d.G d.st a).length:Int)) e.1 j 0 f) (λx _=>bC - (intOf x).toNat)
 case atStart=>exact⟨0,_,Ze _,rfl,cU.out,c9.out,PlF.start⟩
 case round=>
  clear cU c9 ci u1;obtain⟨j,f,hL,rfl,le,t,B⟩:=hrel;by_cases gm:j<bC
  ·have gr:(j:Int)<(bC:Int):=by omega
   have e5:=f3.out.below le (λb ap=>ap.1);obtain⟨-,-,-,bu⟩:=aH.at_ e5;obtain⟨hk,h6,rfl,-,bt⟩:=bu (by omega);obtain⟨g,m⟩: ∃g,e.1[j]? =some g:=⟨_,List.getElem?_eq_getElem (by rw [<-cm.out];exact gm)⟩;obtain⟨hb,hc⟩:=bt j g m;have a6:=o.out.hA.kern i e g bd.out (Za m);obtain⟨⟨s,g2⟩,g3,e0⟩:=o.out.hK.right a6.1;obtain⟨im,ad⟩:=g;simp only at s g2 g3 e0 hb hc;obtain⟨a,rfl⟩:=Int.eq_ofNat_of_zero_le s;have T:a<=d.G.rules.length:=by
    apply Classical.byContradiction;intro hS;have bz:=a6.1;unfold aQ aD at bz;rw [if_pos (by simp only;omega)]at bz;simp at bz
   obtain⟨hz,hg,a8,ht,d1,cR,e8,gb,gc⟩:=p.out.r.at_ (o.out.hP.rs a T);obtain⟨bx,hZ,ga,-⟩:=RdI.at_ e8;unfold maxLen at ga;obtain⟨g7,b9⟩: ∃n,n=d.rs.length:=⟨_,rfl⟩;obtain⟨hp,b5⟩: ∃n,n=q.cr:=⟨_,rfl⟩;have O:=p.out.cells.2.2.2.2.2.1;rw [d1,<-b9,<-b5,<-bc.out]at O;rw [<-b9,<-b5]at gb;rw [<-b5]at gc;have hP:(a:Int)<(g7:Int):=by rw [b9,o.out.hP.rl];omega
   obtain⟨hy,d4,bO,-,-⟩:=p.out.b.at_ (j:=i) (u:= .int .i64 ((aR d.D i:Nat):Int)) (by rw [List.getElem?_map,o.out.ba i be.out];rfl);obtain⟨g9,cb⟩: ∃n,n=d.ba.length:=⟨_,rfl⟩;obtain⟨hs,cu⟩: ∃n,n=q.cb:=⟨_,rfl⟩;have bG:=p.out.cells.2.2.2.2.2.2.2.2.2.1;have ee:=p.out.b.cap;rw [d4,<-cb,<-cu,<-bc.out]at bG;rw [<-cb,<-cu]at ee;obtain⟨hD,hE⟩:=ee;have hK:(i:Int)<(g9:Int):=by rw [cb,o.out.bl];have:=be.out;omega
   obtain⟨ba,a5⟩: ∃n,n=aR d.D i:=⟨_,rfl⟩;rw [<-a5]at bO;have h3:ba<=10000000:=by
    have k:=qo d.D i (d.D.length - i);rw [show i+(d.D.length - i)=d.D.length by have:=be.out;omega]at k;have:=ak.out.le;have:=cn.out;omega
   have r:Below wr.heap.size wr (wr.alloc (.cells #[.int .i64 (a:Int),.int .i64 ad] 226)):=(Below.refl _ _).alloc (Zc _) _;have aS:Blk (wr.alloc (.cells #[.int .i64 (a:Int),.int .i64 ad] 226)) wr.heap.size 226 #[.int .i64 (a:Int),.int .i64 ad]:=Blk.new _ _ _;have cf:=t.below r;have z:=le.trans (r.mono le.size);have O:=ae z O;have cR:=ae z cR;have bG:=ae z bG;have bO:=ae z bO;have b1:=(aS.cell 0).trans rfl;have b2:=(aS.cell 1).trans rfl;have cv:j<=2709:=by have:=c3.out;have:=cm.out;omega
   clear e5 bu bt s e0 e8 d1 b9 b5 d4 cb cu r aS t le;have cc:(a8:Int)=((rgt d.G d.st (a:Int)).length:Int):=by rw [bx]
   by_cases ce:ad=(a8:Int)
   ·have gM:e.1.Nodup:=(o.out.hA.strict i e bd.out).nodup;have N:=PlF.yes B gM m (by show ad=((rgt d.G d.st (a:Int)).length:Int);rw [ce,cc]);subst ce;rw [<-a5]at N;have g1:((a8:Int)==(a8:Int))=true:=(by simp);have h4:IntKind.i64.wrap ((ba:Int)+(j:Int))=(ba:Int)+(j:Int):=(by rw [IntKind.wrap_i64];omega);have J:=eO (n:=(a:Int)) (by omega);clear B cc;obtain⟨bg,u,bi,c7,fF,ft,fw,fx⟩:=dA cf z N m a6 T bx a5;clear cf z N m a6 T bx a5
    go_wp2_with fail
    generalize wr.alloc (.cells #[.int .i64 (a:Int),.int .i64 (a8:Int)] 226)=w2 at *;refine aU (by kernel_rfl) (by kernel_rfl) ?_
    repeat still_step
    refine wpStill_nil ?_
    go_wp2_with fail
    go_upto_region 6 with fail
    refine bX 12 (by kernel_rfl) (by kernel_rfl) ?_;simp only [List.take_succ_cons,List.take_zero,List.drop_succ_cons,List.drop_zero]
    repeat still_step
    refine wpStill_nil ?_;have an:Below w2.heap.size w2 w2.drew.drew:=(Below.refl _ _).drew.drew;obtain⟨H,G,C⟩:=bg.out.below an;have a7:=u.out.trans (an.mono u.out.size);clear an bg u O cR bG bO b1 b2
    go_wp2_with (at_mapUpdate;refine wpList_mapUpdate_own _ rfl _ _ _ 296 rfl 3 3 intKeyed underlying296 _ Y j H rfl G (by unfold maxLen;omega) _ _ _ rfl rfl J _ [] (plainElem_int underlying3 (WalkArith.wf_i64 (by omega))) ?_)
    intro w3 bB bq;have U:Below V.heap.size V w3:=a7.grown bq a7.size (λa e=>by injection e with e;have:=c5.out;omega);have M:MpW w3 Y (j+1) (kp f (a:Int) ((ba:Int)+(j:Int))):=⟨_,bB,C.put _ _⟩;rw [show((ba:Int)+(j:Int))=((ba+j:Nat):Int) by omega]at M;clear G C a7 bB bq J;obtain⟨co,bh⟩:=av U M;clear U M
    go_wp2_with fail
    go_roundw
    case rel=>exact⟨j+1,_,by omega,by go_num,co.out,bh.out,bi.out⟩
    case measure=>simp [intOf];omega
   ·have N:=PlF.no B m (by show ad≠((rgt d.G d.st (a:Int)).length:Int);rw [<-cc];exact ce);have g1:(ad==(a8:Int))=false:=(by simpa using ce);clear B cc bG bO;obtain⟨bg,u,bi,c7,fF,ft,fw,fx⟩:=dA cf z N m a6 T bx a5;clear cf z N m a6 T bx a5
    go_wp2_with fail
    generalize wr.alloc (.cells #[.int .i64 (a:Int),.int .i64 ad] 226)=w2 at *;refine aU (by kernel_rfl) (by kernel_rfl) ?_
    repeat still_step
    refine wpStill_nil ?_
    go_wp2_with fail
    have an:Below w2.heap.size w2 w2.drew:=(Below.refl _ _).drew;have g4:=bg.out.below an;have a7:=u.out.trans (an.mono u.out.size);clear an bg u;generalize w2.drew=w3 at *;obtain⟨ck,bE,bp⟩:=g4;have M:MpW w3 Y (j+1) f:=⟨ck,bE.mono (Nat.le_succ j),bp⟩;clear bE bp;obtain⟨bh,fT⟩:=av M a7;clear M a7
    go_wp2_with fail
    go_roundw
    case rel=>exact⟨j+1,f,by omega,by go_num,fT.out,bh.out,bi.out⟩
    case measure=>simp [intOf];omega
  ·have gr: ¬(j:Int)<(bC:Int):=by omega
   have cv:j=e.1.length:=by have:=cm.out;omega
   obtain⟨ih,fb⟩:=p.out.f;obtain⟨he,a0,ho,g0,b0,cP,eX⟩:=fb.at_ be.out (by decide);rw [wt]at eX;have cx:a0=(y.fi i).length:=by omega
   obtain⟨hX,hH⟩:=cP.cap;have hU:a0<=300:=by rw [cx];exact Zd (ak.out.len i) o.out.hK.r
   obtain⟨hj,cs⟩: ∃g,g=q.Pf:=⟨_,rfl⟩;have ch:=p.out.cells.2.2.2.2.2.2.2.2.2.2.2.2;obtain⟨g6,ew⟩: ∃n,n=d.D.length:=⟨_,rfl⟩;rw [<-cs,<-ew,<-bc.out]at ch;rw [<-cs]at b0;have hJ:(i:Int)<(g6:Int):=by have:=be.out;omega
   have ch:=ae le ch;have b0:=ae le b0;have hN:j<=2709:=by have:=c3.out;omega
   obtain⟨ck,bE,bp⟩:=t;have t:MpW wr Y (j+0) f:=⟨ck,bE,bp⟩;clear fb g0 eX cs ew bE bp;obtain⟨Q,bR,dn,dt,c6,fs⟩:=aM le t B cP cx cv;clear le t B cP cx cv
   go_wp2_with fail
   go_loopw [62] (λx wr=> ∃(j':Nat) (f:Int->Option Int),j'<=a0/\x= .int .i64 (j':Int)/\Below V.heap.size V wr/\MpW wr Y (j+j') f/\PlF d.D y.fi i (λa=>((rgt d.G d.st a).length:Int)) e.1 j j' f) (λx _=>a0 - (intOf x).toNat)
   case atStart=>exact⟨0,f,Ze _,rfl,Q.out,bR.out,dn.out⟩
   case round=>
    clear Q bR dn ch b0;obtain⟨j',f,hM,rfl,le,t,B⟩:=hrel;by_cases gA:j'<a0
    ·have gB:(j':Int)<(a0:Int):=(by omega);obtain⟨g,m⟩: ∃g,(y.fi i)[j']? =some g:=⟨_,List.getElem?_eq_getElem (by rw [<-c6.out];exact gA)⟩;obtain⟨b1,b2⟩:=Be m;obtain⟨hv,bo,bW,-,-⟩:=dt.out.at_ b1;obtain⟨hw,a4,bY,-,-⟩:=dt.out.at_ b2;rw [bo]at a4;injection a4 with a4
     injection a4 with a4
     subst a4 bo;obtain⟨s,a9⟩:=g;simp only at bW bY;obtain⟨⟨gg,gh⟩,er,-,gW⟩:=ak.out.key i s a9 (Za m);have cA: ∀K:Nat,e.1[K]? ≠some (s,((rgt d.G d.st s).length:Int)):=λK hm=>by
      rw [er]at hm;rcases(o.out.hA.kern i e _ bd.out (Za hm)).2 with k|k
      ·injection k with k;omega
      ·simp at k
     have N:=PlF.fin B (ak.out.nodup i) m cA;have r:Below wr.heap.size wr (wr.alloc (.cells #[.int .i64 s,.int .i64 (a9:Int)] 299)):=(Below.refl _ _).alloc (Zc _) _;have aS:Blk (wr.alloc (.cells #[.int .i64 s,.int .i64 (a9:Int)] 299)) wr.heap.size 299 #[.int .i64 s,.int .i64 (a9:Int)]:=Blk.new _ _ _;have z:=le.trans (r.mono le.size);have bW:=ae le bW;have bY:=ae le bY;obtain⟨H,G,C⟩:=t.below r;have f5:=(aS.cell 0).trans rfl;have cr:=(aS.cell 1).trans rfl;have gi:d.G.rules.length<=300:=o.out.hK.r;have h0:a9<=10000000:=(by have:=cn.out;omega);have J:=eO (n:=s) (by omega);have gd:j+j'<maxLen:=(by unfold maxLen;omega);clear b1 b2 gg gh er gW cA B r aS le t gi;obtain⟨c7,bi,u,c1⟩:=aA m N z C;clear m N z C
     go_wp2_with (at_mapUpdate;refine wpList_mapUpdate_own _ rfl _ _ _ 296 rfl 3 3 intKeyed underlying296 _ Y (j+j') H rfl G gd _ _ _ rfl rfl J _ [] (plainElem_int underlying3 (WalkArith.wf_i64 (by omega))) ?_)
     intro w3 bB bq;have U:Below V.heap.size V w3:=u.out.grown bq u.out.size (λa e=>by injection e with e;have:=c5.out;omega);have M:MpW w3 Y (j+(j'+1)) (kp f s (a9:Int)):=⟨_,bB,c1.out.put _ _⟩;clear G c1 u bB bq J f5 cr bW bY;obtain⟨co,bh⟩:=av U M;clear U M
     go_wp2_with fail
     go_roundw
     case rel=>exact⟨j'+1,_,by omega,by go_num,co.out,bh.out,bi.out⟩
     case measure=>simp [intOf];omega
    ·have gB: ¬(j':Int)<(a0:Int):=(by omega);have gf:j'=(y.fi i).length:=(by have:=c6.out;omega);have ep: ∀a v,f a=some v↔ ∃l:Nat,v=(l:Int)/\Pl d.D y.fi l i (a,((rgt d.G d.st a).length:Int)):=λa v=>by
      rw [B a v];constructor
      ·rintro(⟨K,-,I,br⟩|⟨K,l,-,I,br⟩)
       ·exact⟨_,br,.inl ⟨e,K,bd.out,I,rfl⟩⟩
       ·have et:=Za I;have bz:=(ak.out.key i a l et).2.1;exact⟨l,br,.inr ⟨a,by rw [bz];rfl,et⟩⟩
      ·rintro⟨l,cd,gO⟩;rcases gO with⟨hu,K,k,I,br⟩|⟨eZ,k,I⟩
       ·rw [bd.out]at k;injection k with k
        subst k;exact .inl ⟨K,by rw [fs.out];exact(List.getElem?_eq_some_iff.1 I).1,I,by rw [cd,br]⟩
       ·injection k with k _
        subst k;obtain⟨K,hm,f6⟩:=List.getElem_of_mem I;exact .inr ⟨K,l,by omega,by rw [List.getElem?_eq_getElem hm,f6],cd⟩
     have O:=p.out.cells.2.2.2.2.2.1;obtain⟨g8,cz⟩: ∃n,n=d.rs.length:=⟨_,rfl⟩;obtain⟨hf,d3⟩: ∃n,n=q.Ar:=⟨_,rfl⟩;obtain⟨hq,eg⟩: ∃n,n=q.cr:=⟨_,rfl⟩;rw [<-cz,<-eg,<-d3,<-bc.out]at O;have gF:g8=P+1:=(by rw [cz,o.out.hP.rl,cl.out]);have hB:P<=300:=(by rw [cl.out];exact o.out.hK.r);subst gF;have O:=ae le O;obtain⟨w5,eR⟩: ∃g,g=wr:=⟨_,rfl⟩;rw [<-eR]at le t O⊢;obtain⟨a1,d6⟩: ∃g,g=w5.heap.size:=⟨_,rfl⟩;clear eR cz d3 eg B gf;obtain⟨Q,bR,c4,bb⟩:=aA le t ep d6;clear le t ep d6
     go_wp2_with fail
     go_loopw [10,77] (λha x fc=> ∃(a:Nat) (A:Option Addr) (n c:Nat),a<=P+1/\x= .int .i64 (a:Int)/\ha= .slice A n c/\LkM a1 fc A n c (gG (d.T+1) y.F f a)/\Below a1 w5 fc) (λ_ x _=>P+1 - (intOf x).toNat)
     case atStart=>exact⟨0,none,0,0,Ze _,rfl,rfl,LkM.nil _ _,by rw [bb.out];exact Below.refl _ _⟩
     case round=>
      obtain⟨a,A,n,c,hO,rfl,rfl,X,W⟩:=hrel;by_cases hR:a<P+1
      ·have gl:(a:Int)<(P:Int)+1:=(by omega);have J:=eO (n:=(a:Int)) (by omega);have bA:Below w5.heap.size w5 wr:=(by rw [<-bb.out];exact W);obtain⟨H,G,C⟩:=bR.out.below bA;have b7:=C.has (a:Int);cases R:f (a:Int)with
       |none=>
        have cA:Maps.has H (gS (a:Int))=false:=(by rw [b7,R];rfl);have cI:=X;rw [<-Ch (m:=d.T+1) (F:=y.F) R]at cI;clear C b7 bA X R;obtain⟨f1,bP⟩:=av cI W;clear cI W
        go_wp2_with (at_lookup;refine wpList_lookup_own_ok_int _ rfl _ _ 296 rfl 3 3 .i64 intKeyed underlying296 underlying3 (zeroInt _) _ _ H rfl G _ _ rfl J ?_;intro a3 E cG)
        clear E cG G
        go_wp2_with fail
        go_roundw
        case rel=>exact⟨a+1,A,n,c,by omega,by go_num,rfl,f1.out,bP.out⟩
        case measure=>simp [intOf];omega
       |some v=>
        have h5:Maps.has H (gS (a:Int))=true:=(by rw [b7,R];rfl);have ed:=C.at_ (a:Int) v R (.lit (.int .i64 0));have bt: ∀a3:Int,H.atKey (gS (a:Int)) (.lit (.int .i64 0))= .lit (.int .i64 a3)->v=a3:=λa3 E=>by
         rw [ed]at E;injection E with E
         injection E with _ E
        clear ed;obtain⟨l,cd,eE⟩:=(c4.out (a:Int) v).1 R;subst cd;have cB:l<y.na:=by
         have hA:=ak.out.le;rcases eE with k|⟨eZ,-,k⟩
         ·have:=k.lt;omega
         ·exact(ak.out.key i eZ l k).2.2.2
        have b4:Below V.heap.size V wr:=Q.out.trans (bA.mono Q.out.size);obtain⟨hx,bo,bl⟩:=p.out.a.at_ cB;have cg:=p.out.cells.2.2.2.2.2.2.2.2.2.2.1;obtain⟨cN,ca⟩: ∃n,n=y.na:=⟨_,rfl⟩;obtain⟨hr,ct⟩: ∃n,n=q.ca:=⟨_,rfl⟩;have ei:=p.out.a.row.cap;rw [bo,<-ca,<-ct,<-bc.out]at cg;rw [<-ca,<-ct]at ei;obtain⟨hF,hG⟩:=ei;have h1:(l:Int)<(cN:Int):=(by omega);have h2:l<cN:=(by omega);have cg:=ae b4 cg;have bl:=ae b4 bl;have cE:=(p.out.a.set l cB).touch (aa.of_size b4 (λ_=>False)) (λ_ _ e=>e);obtain⟨h8,eG⟩: ∃g,g=q.ps l:=⟨_,rfl⟩;rw [<-eG]at bl cE;have cp:=wK cE;unfold aq at bl;have hQ:=xp (y.F l) (d.T+1);have cH:=Ai (m:=d.T+1) (F:=y.F) R;rw [Int.toNat_natCast]at cH;obtain⟨hY,ey⟩:n<=P+1/\n=(gG (d.T+1) y.F f a).length:=by
         have k:=X.hn;have I:=Am (d.T+1) y.F f a;omega
        have hV:cN<=10000000:=(by rw [ca];exact cn.out);have hC:d.T<=120:=o.out.hK.t;have eb:a1<=wr.heap.size:=(by rw [bb.out];exact bA.size);clear C b7 bA R eE cB b4 bo ca ct cE eG;obtain⟨c2,fh,c8,bP,fL,fv⟩:=aM bt cp X W cH ey;clear bt cp X W cH ey
        go_wp2_with (at_lookup;refine wpList_lookup_own_ok_int _ rfl _ _ 296 rfl 3 3 .i64 intKeyed underlying296 underlying3 (zeroInt _) _ _ H rfl G _ _ rfl J ?_;intro a3 E cG;obtain rfl:=c2.out a3 E;clear E cG)
        clear G c2 J
        go_wp2_with fail
        refine fh.out.mono ?_;rintro e w8 ⟨ai,al,rfl,cO,a2⟩;obtain⟨aT,b8⟩: ∃g,g=(dV (y.F l) (d.T+1)).length:=⟨_,rfl⟩;have e6:RdI w8 (λb=>wr.heap.size<=b/\b<w8.heap.size) (.slice ai aT al) (lW (d.T+1) (y.F l)):=by
         have k:=Rd.of_own cO;rw [<-b8]at k;have cr:(lW (d.T+1) (y.F l)).map (Value.int .i64)=(dV (y.F l) (d.T+1)).map J64:=(by unfold lW J64;rw [List.map_map];rfl);unfold RdI;rw [cr];exact k.mono λb ap=>cO.lt b (by rw [b8]at ap;exact ap)
        have e2:=c8.out;obtain⟨Z,cS,cj,fd⟩:=e2.ex;have r:Below w8.heap.size w8 (w8.alloc (.cells #[.int .i64 (a:Int),.slice ai aT al] 215)):=(Below.refl _ _).alloc (Zc _) _;have e9:Rd (w8.alloc (.cells #[.int .i64 (a:Int),.slice ai aT al] 215)) (λg=>g=w8.heap.size) (.slice (some ⟨w8.heap.size,0,none⟩) 1 1) 2 [.int .i64 (a:Int),.slice ai aT al]:=Rd.one' (w:=w8) (e:=215) [.int .i64 (a:Int),.slice ai aT al] 2 rfl;have e3:=ah cj (a2.trans (r.mono a2.size));have ea:a1<=(w8.alloc (.cells #[.int .i64 (a:Int),.slice ai aT al] 215)).heap.size:=Zd eb (a2.trans (r.mono a2.size)).size;rw [<-b8];clear cO e2 b8 cg bl;obtain⟨dr,dF,dO,dS,cT,ds,dd,c0⟩:=dA e6 cS cj fd r e9 e3 a2;clear e6 cS cj fd r e9 e3 a2
        go_wp2_with (at_builtin;refine aJ _ rfl (.tmp 87) (.tmp 98) _ rfl elemLook a1 (.slice A n c) n _ rfl dd.out _ _ [.int .i64 (a:Int),.slice ai aT al] 1 rfl rfl ds.out (by intro h9 eQ;simp only [List.mem_cons,List.not_mem_nil,or_false]at eQ;rcases eQ with rfl|rfl<;>rfl) (by unfold maxLen;omega) (by omega) ea ?_)
        intro fg f4 w4 e4 d2 eA;obtain⟨cK,U⟩:=LkM.push fv.out dF.out dO.out dS.out eb dr.out c0.out cT.out e4 d2 (by rw [World.size_alloc];exact eA);rw [<-fL.out]at cK;have e1:=bP.out.trans U;clear e4 d2 eA U dF dO dS dr c0 cT dd ds ea;obtain⟨f2,f0⟩:=av cK e1;clear cK e1
        go_wp2_with fail
        go_roundw
        case rel=>exact⟨a+1,fg,n+1,f4,by omega,by go_num,rfl,f2.out,f0.out⟩
        case measure=>simp [intOf];omega
      ·have gl: ¬(a:Int)<(P:Int)+1:=(by omega);have T:a=d.G.rules.length+1:=(by have:=cl.out;omega);have cC:=X.rd;rw [T]at cC;have en:Below V.heap.size V wr:=Q.out.trans (W.mono (by rw [bb.out];exact Q.out.size));have f8:V.heap.size<=a1:=(by rw [bb.out];exact Q.out.size);clear T;obtain⟨fz,fn,c8,bP⟩:=aA cC en X W;clear cC en X W
       go_wp2_with fail
       go_ret
       exact⟨A,n,c,_,rfl,fn.out,fz.out.mono (λb ap=>⟨Zd f8 ap.1,ap.2⟩),f,c4.out,rfl⟩
end Go.Proofs.YthlbjgabhpdbfaaGreat

/- Packed tables: opened. -/
import Derived.Test.YthlbjgabhpdbfaaGreatBPack3
import Derived.Test.YthlbjgabhpdbfaaGreatBActs6
set_option linter.unusedVariables false
set_option linter.unusedSimpArgs false
set_option maxRecDepth 100000
set_option maxHeartbeats 8000000
namespace Go.Proofs.YthlbjgabhpdbfaaGreat
open Go.Proofs.Tryz
open List renaming drop_succ_cons->Za,drop_zero->Zb,map_append->Zc,mem_of_getElem?->Zd,take_of_length_le->Ze
open Nat renaming le_refl->Zf,le_trans->Zg,lt_of_lt_of_le->Zh,zero_le->Zi
open Go.RowKit Go.Shelf
attribute [local irreducible] wpStill aB aO
def jN (p:cq):aW:=if fN p=true then dT p else jh
def lY (p:cq) (x:Int):List Ac:=(p.rows.getD x.toNat []).map fE
def kC (p:cq) (x:Int):List Int:=(p.gows.getD x.toNat []).map λn=>n - 1
def nL (p:cq):Prop:=p.row.length<=70000/\(∀r∈p.rows,r.length<=70000)/\ ∀r∈p.gows,r.length<=70000
def xy (w:World) (F:Nat->Prop) (p:cq) (e:Ending) (w':World):Prop:=Below w.heap.size w w'/\ ∃vr va vg,e= .returned (.tuple #[TV vr (jN p).terms (jN p).nons va vg,.bool (fN p)])/\bL w' (λb=>(F b\/w.heap.size<=b)/\b<w'.heap.size) vr va vg (jN p)
theorem bL.none (w:World) (F:Nat->Prop) (b: ∀a,F a->a<w.heap.size):bL w F (.slice none 0 0) (.slice none 0 0) (.slice none 0 0) jh:=
 ⟨yM _ _ _ _,nZ _ _ _,nZ _ _ _,b,by unfold W64 jh;decide,λc h=>(by cases h)⟩
theorem gJ {p:cq} (h:fN p=false):jN p=jh:=by unfold jN;rw [h];rfl
theorem ol {l:List Int} {f:Int->Bool} {i:Nat} {x:Int} (h:l[i]? =some x) (b:f x=false):l.all f=false:=by
 rw [Bool.eq_false_iff];intro a;have:=(List.all_eq_true.1 a) x (Zd h);rw [b]at this;cases this
theorem rQ {n:Nat} {x:Int} (h:x<0\/(n:Int)<=x):inR n x=false:=by
 unfold inR;rcases h with h|h
 ·rw [decide_eq_false (by omega)];rfl
 ·rw [decide_eq_false (by omega: ¬x<(n:Int)),Bool.and_false]
theorem wG {l:List Int} {f:Int->Bool} {i:Nat} {x:Int} (h:l[i]? =some x) (b:f x=true) (a:(l.take i).all f=true):(l.take (i+1)).all f=true:=by
 rw [gj h,List.all_append,a];simp [b]
section
variable {X Y : Type} {tA tG : TypeId} {EA : World -> (Nat -> Prop) -> Value -> X -> Prop} {EG : World -> (Nat -> Prop) -> Value -> Y -> Prop} {loA loG : Nat -> Prop} {D i ca cg ca' cg' : Nat} {wd u w1 v w2 : World} {Ax Ag A' G' : Option Addr} {LA : List X} {LG : List Y} {za zg : Value} {xa : X} {xg : Y} {ZA ZG : List Value}
theorem Two.pushF {m l:Nat->Prop} (n:fQ EA) (f:fQ EG) (h:Two tA tG EA EG loA loG D wd Ax ca Ag cg i LA LG) (S:D<=wd.heap.size)
  (N:ZA.length=LA.length) (y:wd.ownsRow D tA 1 (.slice Ax i ca) i (da (λ_=>[]) LA ZA)) (O: ∀(j:Nat) k g,ZA[j]? =some k->LA[j]? =some g->EA wd (λa=>loA a/\a<wd.heap.size/\(Value.slice Ax i ca).ownBlock≠some a) k g)
  (a2:ZG.length=LG.length) (A:wd.ownsRow D tG 1 (.slice Ag i cg) i (da (λ_=>[]) LG ZG)) (a3: ∀(j:Nat) k g,ZG[j]? =some k->LG[j]? =some g->EG wd (λa=>loG a/\a<wd.heap.size/\(Value.slice Ag i cg).ownBlock≠some a) k g)
  (q: ∀a,m a->D<=a/\a<wd.heap.size/\(Value.slice Ax i ca).ownBlock≠some a/\(Value.slice Ag i cg).ownBlock≠some a) (r: ∀a,l a->D<=a/\a<wd.heap.size/\(Value.slice Ax i ca).ownBlock≠some a/\(Value.slice Ag i cg).ownBlock≠some a)
  (aS:EA wd m za xa) (a0:EG wd l zg xg)
  (b1:Below wd.heap.size wd u) (H:w1.ownsRow D tA 1 (.slice A' (i+1) ca') (i+1) (da (λ_=>[]) LA ZA++[za])) (J:u.grownBy w1 (Value.slice Ax i ca).ownBlock) (C:(Value.slice A' (i+1) ca').ownBlock=(Value.slice Ax i ca).ownBlock\/(Value.slice A' (i+1) ca').ownBlock=some u.heap.size)
  (t:Below w1.heap.size w1 v) (I:w2.ownsRow D tG 1 (.slice G' (i+1) cg') (i+1) (da (λ_=>[]) LG ZG++[zg])) (K:v.grownBy w2 (Value.slice Ag i cg).ownBlock) (E:(Value.slice G' (i+1) cg').ownBlock=(Value.slice Ag i cg).ownBlock\/(Value.slice G' (i+1) cg').ownBlock=some v.heap.size):
  Two tA tG EA EG (λa=>loA a\/m a) (λa=>loG a\/l a) D w2 A' ca' G' cg' (i+1) (LA++[xa]) (LG++[xg])/\Below D wd w2:=by
 have T: ∀a,(Value.slice Ax i ca).ownBlock=some a->D<=a/\a<wd.heap.size:=λa e=>y.lt a e
 have F: ∀a,(Value.slice Ag i cg).ownBlock=some a->D<=a/\a<wd.heap.size:=λa e=>A.lt a e
 have s:aa (λo=>(Value.slice Ax i ca).ownBlock=some o) u w1:=(aa.refl _ _).grown J (λo e _=>e);have L:aa (λo=>(Value.slice Ag i cg).ownBlock=some o) v w2:=(aa.refl _ _).grown K (λo e _=>e);have s1:=b1.size;have a4:=s.size;have a5:=t.size;have a6:=L.size;have aT:EA wd (λa=>(loA a\/m a)/\a<wd.heap.size/\(Value.slice Ax i ca).ownBlock≠some a) za xa:=n.mono aS λa b=>⟨.inr b,(q a b).2.1,(q a b).2.2.1⟩
 obtain⟨ad,an,-⟩:=RM.push (pre:=λ_:X=>[]) (lo:=λa=>loA a\/m a) (w1:=wd) n h.a.hn N y (λj k g V U=>n.mono (O j k g V U) λa b=>⟨.inl b.1,b.2⟩) S aT (Below.refl _ _) b1 H J C
 -- the other row,from wd tq9 w1
 have R:RM tG 1 (λ_:Y=>[]) EG loG D u Ag i cg LG:=h.g.below f b1;have B:RM tG 1 (λ_:Y=>[]) EG (λa=>loG a\/l a) D w1 Ag i cg LG:=(R.touch f s (λa e d=>h.ne a d e) (λa b _ e=>(h.lG a b).2.2.1 e)).lo f λa b=> .inl b
 obtain⟨M,W,G,Z⟩:=B.ex;have Q:da (λ_:Y=>[]) LG M=da (λ_:Y=>[]) LG ZG:=by
  have P:w1.ownsRow D tG 1 (.slice Ag i cg) i (da (λ_=>[]) LG ZG):=s.own (ah A b1) λa e d=>h.ne a d e
  exact sJ G P
 rw [<-Q]at I;have a1:EG w1 (λa=>(loG a\/l a)/\a<w1.heap.size/\(Value.slice Ag i cg).ownBlock≠some a) zg xg:=f.mono (f.touch (f.touch a0 (aa.of_size b1 (λ_=>False)) (λ_ _ e=>e)) s (λa b e=>(r a b).2.2.1 e)) λa b=>⟨.inr b,by have:=(r a b).2.1;omega,(r a b).2.2.2⟩
 obtain⟨al,ap,-⟩:=RM.push (pre:=λ_:Y=>[]) (lo:=λa=>loG a\/l a) (w1:=w1) f B.hn W G Z (by omega) a1 (Below.refl _ _) t I K E
 -- the first row,from w1 tq9 w2
 have w: ∀a,(Value.slice A' (i+1) ca').ownBlock=some a->(Value.slice Ax i ca).ownBlock=some a\/(a=u.heap.size/\a<w1.heap.size):=λa e=>by
  rcases C with c|c
  ·exact .inl (c▸e)
  ·have:=H.lt a e;rw [c]at e;injection e with e;exact .inr ⟨e.symm,this.2⟩
 have x: ∀a,(Value.slice G' (i+1) cg').ownBlock=some a->(Value.slice Ag i cg).ownBlock=some a\/a=v.heap.size:=λa e=>by
  rcases E with c|c
  ·exact .inl (c▸e)
  ·rw [c]at e;injection e with e;exact .inr e.symm
 have ak:=ad.below n t;have ai:=ak.touch n L (λa e d=>by
  rcases w a e with c|c
  ·exact h.ne a c d
  ·have:=F a d;omega) (λa b _ d=>by
  rcases b with b|b
  ·exact(h.lA a b).2.2.2 d
  ·exact(q a b).2.2.2 d)
 have z: ∀a,D<=a/\a<wd.heap.size/\(Value.slice Ax i ca).ownBlock≠some a/\(Value.slice Ag i cg).ownBlock≠some a->D<=a/\a<w2.heap.size/\(Value.slice A' (i+1) ca').ownBlock≠some a/\(Value.slice G' (i+1) cg').ownBlock≠some a:=λa b=>by
  refine⟨b.1,by omega,λe=> ?_,λe=> ?_⟩
  ·rcases w a e with c|c
   ·exact b.2.2.1 c
   ·omega
  ·rcases x a e with c|c
   ·exact b.2.2.2 c
   ·omega
 refine⟨⟨ai,al,λa b=>z a ?_,λa b=>z a ?_,λa e d=> ?_⟩,?_⟩
 ·rcases b with b|b
  ·exact h.lA a b
  ·exact q a b
 ·rcases b with b|b
  ·exact h.lG a b
  ·exact r a b
 ·rcases w a e with c|c
  ·rcases x a d with p|p
   ·exact h.ne a c p
   ·have:=T a c;omega
  ·rcases x a d with p|p
   ·have:=F a p;omega
   ·omega
 ·exact an.trans (ap.mono (Zf _))
end
theorem BX {w:World} {F:Nat->Prop} {k6 k7 k8 k9 la:Value} {p:cq} (h:dc w F k6 k7 k8 k9 la p) (eB:nL p):
  Calls prog 163 #[PV k6 p.terms p.nons k7 k8 k9 la] w (xy w F p):=by
 obtain⟨bg,bl,ln,mm,lo,mo,lr,mp,ls,ms,rfl,rfl,rfl,rfl,rfl,m0,m1,m2,m3,n⟩:=h.slices;have ew:=h.lt;obtain⟨w1,ck⟩: ∃d,d=w.alloc (.cells #[.slice bg p.rules.length bl,.int .i64 p.terms,.int .i64 p.nons,.slice ln p.row.length mm,.slice lo p.rows.length mo,.slice lr p.gow.length mp,.slice ls p.gows.length ms] 52):=⟨_,rfl⟩;have gk:=fH.new h p.terms p.nons;rw [<-ck]at gk;have em:Below w.heap.size w w1:=by rw [ck];exact(Below.refl _ w).alloc (Zf _) _
 have g6:w1.heap.size=w.heap.size+1:=by rw [ck];simp
 obtain⟨w2,cl⟩: ∃d,d=w1.alloc (.cells #[.slice none 0 0,.int .i64 0,.int .i64 0,.slice none 0 0,.slice none 0 0] 35):=⟨_,rfl⟩;have en:Below w1.heap.size w1 w2:=by rw [cl];exact(Below.refl _ _).alloc (Zf _) _
 have e3:Blk w2 w1.heap.size 35 #[.slice none 0 0,.int .i64 0,.int .i64 0,.slice none 0 0,.slice none 0 0]:=by rw [cl];exact Blk.new _ _ _
 rw [g6]at e3;have g7:w2.heap.size=w.heap.size+2:=by rw [cl,World.size_alloc,g6]
 obtain⟨w4,bp⟩: ∃d,d=w2.alloc (.cells #[.slice bg p.rules.length bl,.int .i64 p.terms,.int .i64 p.nons,.slice none 0 0,.slice none 0 0] 35):=⟨_,rfl⟩;have ep:Below w2.heap.size w2 w4:=by rw [bp];exact(Below.refl _ _).alloc (Zf _) _
 have r:Blk w4 w2.heap.size 35 #[.slice bg p.rules.length bl,.int .i64 p.terms,.int .i64 p.nons,.slice none 0 0,.slice none 0 0]:=by rw [bp];exact Blk.new _ _ _
 rw [g7]at r;have e1:w4.heap.size=w.heap.size+3:=by rw [bp,World.size_alloc,g7]
 have gl:=gk.below en;have c5:=gl.below ep;have P:=e3.below ep e3.lt;have es:=(em.trans (en.mono em.size)).trans (ep.mono (Zg em.size en.size));have c8:fN p=(decide (p.row.length=p.gow.length)&&(p.row.all (inR p.rows.length)&&p.gow.all (inR p.gows.length))):=rfl;have eZ:=h.tn;have e0:=h.wr;obtain⟨cs,ct,cu,cv,cw,cx,cy⟩:=c5.cells;obtain⟨s0,s1,kK,kM,kP,kR,kS⟩:=gl.cells;generalize hT:p.terms=cB at *;generalize ex:p.nons=cA at *;generalize eE:p.rules.length=cp at *;generalize eG:p.row.length=z at *;generalize eQ:p.rows.length=bx at *;generalize eR:p.gow.length=ha at *;generalize eX:p.gows.length=bz at *;obtain⟨nG,nM⟩:=m0;obtain⟨nP,nR⟩:=m1;obtain⟨nT,nX⟩:=m2;obtain⟨n0,n1⟩:=m3;obtain⟨n2,n3⟩:=n;have d0:=(P.cell 0).trans rfl;have cS:=(P.cell 1).trans rfl;have cT:=(P.cell 2).trans rfl;have cU:=(P.cell 3).trans rfl;have c0:=(P.cell 4).trans rfl;have c2:=P.frozen 0;have c3:=P.frozen 1;have c4:=P.frozen 2;have br:=P.frozen 3;have bs:=P.frozen 4;rw [cl,ck]at bp;rw [cl,ck]at s0 s1 kK kM kP kR kS;rw [bp]at cs ct cu cv cw cx cy d0 cS cT cU c0 c2 c3 c4 br bs;clear h gk gl em en ep e3 g6 g7 ck cl;by_cases dn:z=ha
 ·subst dn;have mA:((z:Int) !=(z:Int))=false:=by simp
  clear d0 cS cT cU c0 c2 c3 c4 br bs;obtain⟨ei,eg,hx,an,l8,hv,cc,fw,fi,l3,ej,hz,fx,hA⟩:=dh eB ew c5 r P es c8 hT ex eE eG eQ eR eX;obtain⟨hD,hE,hG⟩:=aK eZ e0 e1;clear eB ew c5 r P es c8 hT ex eE eG eQ eR eX eZ e0 e1
  go_enter func163,ntmps163
  go_wp2_with fail
  rw [<-bp];obtain⟨j,ev⟩: ∃d,d=w.heap.size+1+1:=⟨_,rfl⟩;obtain⟨A,gr⟩: ∃d,d=w4.heap.size:=⟨_,rfl⟩;have h3:j<A:=by rw [gr,hG.out,ev];omega
  have j2:w.heap.size+1<j:=by omega
  have kn:Blk w4 j 35 #[.slice bg cp bl,.int .i64 cB,.int .i64 cA,.slice none 0 0,.slice none 0 0]:=by rw [ev];exact an.out
  rw [<-ev];obtain⟨b6,b2⟩: ∃fb:Nat->Prop,fb=λb=>b=j\/A<=b:=⟨_,rfl⟩
  have kT:b6 j:=by rw [b2];exact .inl rfl
  have kX: ∀a,A<=a->b6 a:=λa gW=>by rw [b2];exact .inr gW
  have k0: ∀a,a<A->a≠j-> ¬b6 a:=λa q C h=>by
   rw [b2]at h;rcases h with h|h<;>omega
  have k3:aa b6 w4 w4:=aa.refl _ _;have k5:Two 113 49 (λw F (b4:Value) (f:List Ac)=>aH w F b4 f) (λw F (b4:Value) (f:List Int)=>RdI w F b4 f) (λ_=>False) (λ_=>False) A w4 none 0 none 0 0 ((p.row.take 0).map (lY p)) ((p.gow.take 0).map (kC p)):=⟨RM.nil _ _ _,RM.nil _ _ _,λb h=>h.elim,λb h=>h.elim,λb h=>by cases h⟩;have kt:(p.row.take 0).all (inR bx)=true:=rfl;have kv:(p.gow.take 0).all (inR bz)=true:=rfl;clear ev bp cs ct cu cv cw cx cy s0 s1 kK kM kP kR kS b2 an;obtain⟨f8,hN,el,hO,hP,a9,bb,hH,lT,hI,hJ⟩:=fa kT kX k0 k3 k5 h3 j2 kn gr kt kv;clear kT kX k0 k3 k5 h3 j2 kn gr kt kv
  go_loopw [30] (λa2 wr=> ∃(i ca' cg':Nat) (Ax Ag:Option Addr) (loA loG:Nat->Prop),i<=z/\a2= .int .i64 (i:Int)/\aa b6 w4 wr/\Blk wr j 35 #[.slice bg cp bl,.int .i64 cB,.int .i64 cA,.slice Ax i ca',.slice Ag i cg']/\
   Two 113 49 (λw F (b4:Value) (f:List Ac)=>aH w F b4 f) (λw F (b4:Value) (f:List Int)=>RdI w F b4 f) loA loG A wr Ax ca' Ag cg' i ((p.row.take i).map (lY p)) ((p.gow.take i).map (kC p))/\(p.row.take i).all (inR bx)=true/\(p.gow.take i).all (inR bz)=true) (λa2 _=>z - (intOf a2).toNat)
  case atStart=>exact⟨0,0,0,none,none,λ_=>False,λ_=>False,Zi _,rfl,hO.out,hH.out,hP.out,hI.out,hJ.out⟩
  case round=>
   clear hO hH hP hI hJ;obtain⟨i,ca',cg',Ax,Ag,loA,loG,hi,rfl,H,r,E,J,I⟩:=hrel;obtain⟨o,rfl⟩: ∃f,f=wr:=⟨_,rfl⟩;have t:=hx.out.touch H (λb g=>el.out b (by have:=eg.out b g;have:=a9.out;have:=bb.out;omega) (by have:=eg.out b g;have:=bb.out;omega)) (el.out _ (by have:=a9.out;have:=bb.out;omega) (by have:=bb.out;omega));have m:=l8.out.touch H (el.out _ (by have:=a9.out;have:=bb.out;omega) (by have:=bb.out;omega));have gA:A<=o.heap.size:=by rw [lT.out];exact H.size
   have V:Below w.heap.size w o:=H.toBelow (λb g=>by
    rcases Nat.lt_or_ge b A with q|q
    ·by_cases e:b=j
     ·have:=bb.out;omega
     ·exact absurd g (el.out b q e)
    ·have:=bb.out;have:=a9.out;omega) hv.out hv.out.size
   obtain⟨cs,ct,cu,cv,cw,cx,cy⟩:=t.cells;have nu:z<=70000:=by have:=ei.out.1;rw [ej.out]at this;exact this
   by_cases g3:i<z
   ·have mu:(i:Int)<(z:Int):=(by omega);obtain⟨f,cm⟩: ∃f,p.row[i]? =some f:=⟨_,List.getElem?_eq_getElem (by rw [ej.out];exact g3)⟩;obtain⟨cz,cn⟩: ∃cz,p.gow[i]? =some cz:=⟨_,List.getElem?_eq_getElem (by rw [fx.out];exact g3)⟩;obtain⟨-,-,-,ih⟩:=RdI.at_ t.pk.row;obtain⟨no,n8,rfl,-,iv⟩:=ih (by omega);obtain⟨-,-,-,im⟩:=RdI.at_ t.pk.gow;obtain⟨nn,n6,rfl,-,it⟩:=im (by omega);have m8:=iv i f cm;have ky:=it i cz cn;have d0:=(m.cell 0).trans rfl;have cS:=(m.cell 1).trans rfl;have cT:=(m.cell 2).trans rfl;have cU:=(m.cell 3).trans rfl;have c0:=(m.cell 4).trans rfl;have c2:=m.frozen 0;have c3:=m.frozen 1;have c4:=m.frozen 2;have br:=m.frozen 3;have bs:=m.frozen 4;have nt:(0:Int)<=(i:Int):=(by omega);clear ih iv im it;by_cases ka:f<0
    ·skip
     have O:fN p=false:=by
      rw [cc.out];rw [ol cm (rQ (.inl ka))];simp
     have B:=ab O;clear O;obtain⟨cd,an,bq,bW,bS,cb⟩:=aM H r E J I t;clear H r E J I t;obtain⟨S,R⟩:=av m V;clear m V
     go_wp2_with fail
     refine aU (by kernel_rfl) (by kernel_rfl) ?_
     repeat still_step
     refine wpStill_nil ?_
     go_wp2_with fail
     have n:=((((S.out.put 0 (.slice none 0 0)).put 1 (.int .i64 0)).put 2 (.int .i64 0)).put 3 (.slice none 0 0)).put 4 (.slice none 0 0);have aT:=(n.cell 0).trans rfl;have T:=(n.cell 1).trans rfl;have U:=(n.cell 2).trans rfl;have a0:=(n.cell 3).trans rfl;have a1:=(n.cell 4).trans rfl;have W:=cZ o (w.heap.size+1) (.slice none 0 0) (.int .i64 0) (.int .i64 0) (.slice none 0 0) (.slice none 0 0);refine bodyPost_ret (v:= .tuple #[TV (.slice none 0 0) 0 0 (.slice none 0 0) (.slice none 0 0),.bool false]) (by simp [results,results163,go_sem,aT,T,U,a0,a1]) rfl ?_;have K:=W.toBelow (λa e=>by omega) R.out R.out.size;refine⟨by first|exact K|exact K.drew,_,_,_,by rw [gJ B.out,B.out];rfl,?_⟩;rw [gJ B.out];exact bL.none _ _ (λb g=>g.2)
    ·by_cases kb:(bx:Int)<=f
     ·skip
      have O:fN p=false:=by
       rw [cc.out];rw [ol cm (rQ (.inr kb))];simp
      have B:=ab O;clear O;obtain⟨cd,an,bq,bW,bS,cb⟩:=aM H r E J I t;clear H r E J I t;obtain⟨S,R⟩:=av m V;clear m V
      go_wp2_with fail
      refine aU (by kernel_rfl) (by kernel_rfl) ?_
      repeat still_step
      refine wpStill_nil ?_
      go_wp2_with fail
      have n:=((((S.out.put 0 (.slice none 0 0)).put 1 (.int .i64 0)).put 2 (.int .i64 0)).put 3 (.slice none 0 0)).put 4 (.slice none 0 0);have aT:=(n.cell 0).trans rfl;have T:=(n.cell 1).trans rfl;have U:=(n.cell 2).trans rfl;have a0:=(n.cell 3).trans rfl;have a1:=(n.cell 4).trans rfl;have W:=cZ o (w.heap.size+1) (.slice none 0 0) (.int .i64 0) (.int .i64 0) (.slice none 0 0) (.slice none 0 0);refine bodyPost_ret (v:= .tuple #[TV (.slice none 0 0) 0 0 (.slice none 0 0) (.slice none 0 0),.bool false]) (by simp [results,results163,go_sem,aT,T,U,a0,a1]) rfl ?_;have K:=W.toBelow (λa e=>by omega) R.out R.out.size;refine⟨by first|exact K|exact K.drew,_,_,_,by rw [gJ B.out,B.out];rfl,?_⟩;rw [gJ B.out];exact bL.none _ _ (λb g=>g.2)
     ·by_cases kc:cz<0
      ·skip
       have O:fN p=false:=by
        rw [cc.out];rw [ol cn (rQ (.inl kc))];simp
       have B:=ab O;clear O;obtain⟨cd,an,bq,bW,bS,cb⟩:=aM H r E J I t;clear H r E J I t;obtain⟨S,R⟩:=av m V;clear m V
       go_wp2_with fail
       refine aU (by kernel_rfl) (by kernel_rfl) ?_
       repeat still_step
       refine wpStill_nil ?_
       go_wp2_with fail
       have n:=((((S.out.put 0 (.slice none 0 0)).put 1 (.int .i64 0)).put 2 (.int .i64 0)).put 3 (.slice none 0 0)).put 4 (.slice none 0 0);have aT:=(n.cell 0).trans rfl;have T:=(n.cell 1).trans rfl;have U:=(n.cell 2).trans rfl;have a0:=(n.cell 3).trans rfl;have a1:=(n.cell 4).trans rfl;have W:=cZ o (w.heap.size+1) (.slice none 0 0) (.int .i64 0) (.int .i64 0) (.slice none 0 0) (.slice none 0 0);refine bodyPost_ret (v:= .tuple #[TV (.slice none 0 0) 0 0 (.slice none 0 0) (.slice none 0 0),.bool false]) (by simp [results,results163,go_sem,aT,T,U,a0,a1]) rfl ?_;have K:=W.toBelow (λa e=>by omega) R.out R.out.size;refine⟨by first|exact K|exact K.drew,_,_,_,by rw [gJ B.out,B.out];rfl,?_⟩;rw [gJ B.out];exact bL.none _ _ (λb g=>g.2)
      ·by_cases kg:(bz:Int)<=cz
       ·skip
        have O:fN p=false:=by
         rw [cc.out];rw [ol cn (rQ (.inr kg))];simp
        have B:=ab O;clear O;obtain⟨cd,an,bq,bW,bS,cb⟩:=aM H r E J I t;clear H r E J I t;obtain⟨S,R⟩:=av m V;clear m V
        go_wp2_with fail
        refine aU (by kernel_rfl) (by kernel_rfl) ?_
        repeat still_step
        refine wpStill_nil ?_
        go_wp2_with fail
        have n:=((((S.out.put 0 (.slice none 0 0)).put 1 (.int .i64 0)).put 2 (.int .i64 0)).put 3 (.slice none 0 0)).put 4 (.slice none 0 0);have aT:=(n.cell 0).trans rfl;have T:=(n.cell 1).trans rfl;have U:=(n.cell 2).trans rfl;have a0:=(n.cell 3).trans rfl;have a1:=(n.cell 4).trans rfl;have W:=cZ o (w.heap.size+1) (.slice none 0 0) (.int .i64 0) (.int .i64 0) (.slice none 0 0) (.slice none 0 0);refine bodyPost_ret (v:= .tuple #[TV (.slice none 0 0) 0 0 (.slice none 0 0) (.slice none 0 0),.bool false]) (by simp [results,results163,go_sem,aT,T,U,a0,a1]) rfl ?_;have K:=W.toBelow (λa e=>by omega) R.out R.out.size;refine⟨by first|exact K|exact K.drew,_,_,_,by rw [gJ B.out,B.out];rfl,?_⟩;rw [gJ B.out];exact bL.none _ _ (λb g=>g.2)
       ·obtain⟨a7,rfl⟩:=Int.eq_ofNat_of_zero_le (by omega:0<=f);obtain⟨Z,rfl⟩:=Int.eq_ofNat_of_zero_le (by omega:0<=cz);obtain⟨bd,ds⟩: ∃hg,p.rows[a7]? =some hg:=⟨_,List.getElem?_eq_getElem (by rw [hz.out];omega)⟩;obtain⟨be,dt⟩: ∃hg,p.gows[Z]? =some hg:=⟨_,List.getElem?_eq_getElem (by rw [hA.out];omega)⟩;obtain⟨nm,n4,nc,np,rfl,-,hR,hh,-,m4⟩:=fe.row t.pk.rows ds;obtain⟨K,n5,ng,nq,rfl,-,gg,hj,-,m5⟩:=fe.row t.pk.gows dt;unfold maxLen at m4 m5;have mG:(a7:Int)<(bx:Int):=(by omega);have mL:(Z:Int)<(bz:Int):=(by omega);have kk:inR bx (a7:Int)=true:=(by unfold inR;rw [decide_eq_true (by omega:(0:Int)<=a7),decide_eq_true mG];rfl);have kl:inR bz (Z:Int)=true:=(by unfold inR;rw [decide_eq_true (by omega:(0:Int)<=Z),decide_eq_true mL];rfl);have iF:=wG cm kk J;have iD:=wG cn kl I;have ix:(p.row.take (i+1)).map (lY p)=(p.row.take i).map (lY p)++[lY p (a7:Int)]:=(by rw [gj cm,Zc];rfl);have iy:(p.gow.take (i+1)).map (kC p)=(p.gow.take i).map (kC p)++[kC p (Z:Int)]:=(by rw [gj cn,Zc];rfl);have hU:lY p (a7:Int)=bd.map fE:=(by unfold lY;rw [List.getD_eq_getElem?_getD,Int.toNat_natCast,ds];rfl);have hV:kC p (Z:Int)=be.map λa3=>a3 - 1:=by unfold kC;rw [List.getD_eq_getElem?_getD,Int.toNat_natCast,dt];rfl
        have i0:=t.pk.u1 bd (Zd ds);have j0:=t.pk.u2 be (Zd dt);have mx:=ei.out.2.1 bd (Zd ds);have my:=ei.out.2.2 be (Zd dt);obtain⟨bA,g4⟩: ∃d,d=bd.length:=⟨_,rfl⟩;obtain⟨bc,g5⟩: ∃d,d=be.length:=⟨_,rfl⟩;rw [<-g4]at hR hh mx;rw [<-g5]at gg hj my;have ks: ∀b,F b->b<o.heap.size:=t.pk.lt;have c7:o.ownsRow o.heap.size 46 2 (.slice none 0 0) 0 (ar ((bd.take 0).map fE)):=World.ownsRow_nil _ _ _ _;have ny: ¬(a7:Int)<0:=(by omega);have nz: ¬(bx:Int)<=(a7:Int):=(by omega);have nA: ¬bx<=a7:=(by omega);have nE: ¬bz<=Z:=(by omega);have nB:a7<bx:=(by omega);have nF:Z<bz:=(by omega);have nD: ¬(bz:Int)<=(Z:Int):=(by omega);have nC: ¬(Z:Int)<0:=(by omega);have d1:Below o.heap.size o o.drew.drew:=((Below.refl _ o).drew).drew;clear d0 cS cT cU c0 c2 c3 c4 br bs ds dt kk kl J I cm cn ka kb kc kg;obtain⟨cd,an,bq,cb,f1,ee,hK,hL,l5,l4,fz,fF,lE,lG⟩:=dh H r E t m V hh hj iF iD ix iy hU hV;obtain⟨l6,l7,hB,hC,f2,cG,cK⟩:=de i0 j0 g4 g5 ks c7 d1;clear H r E t m V hh hj iF iD ix iy hU hV i0 j0 g4 g5 ks c7 d1
        iterate 2
         go_wp2_with fail
         refine aU (by kernel_rfl) (by kernel_rfl) ?_
         repeat still_step
         refine wpStill_nil ?_
        go_wp2_with fail
        go_loopw [6,80] (λhb a2 ea=> ∃(a x:Nat) (ad:Option Addr),a<=bA/\hb= .slice ad a x/\a2= .int .i64 (a:Int)/\Below o.heap.size o ea/\ea.ownsRow o.heap.size 46 2 (.slice ad a x) a (ar ((bd.take a).map fE))) (λ_ a2 _=>bA - (intOf a2).toNat)
        case atStart=>exact⟨0,0,none,Zi _,rfl,rfl,cK.out,cG.out⟩
        case round=>
         clear cG cK;obtain⟨a,x,ad,gW,rfl,rfl,le,own⟩:=hrel;by_cases g1:a<bA
         ·have g2:(a:Int)<(bA:Int):=(by omega);obtain⟨k,bo⟩: ∃k,bd[a]? =some k:=⟨_,List.getElem?_eq_getElem (by rw [<-hB.out];exact g1)⟩;have gM:=l6.out k (Zd bo);obtain⟨-,-,-,dd⟩:=RdU.at_ (Rd.below hK.out le f2.out);obtain⟨mg,m6,rfl,-,c9⟩:=dd (by omega);have hd:=c9 a k bo;have ca:=λb7=>wU k gM b7
          have bu:ar ((bd.take a).map fE)++ar [fE k]=ar ((bd.take (a+1)).map fE):=(by rw [gj bo,Zc,eD];rfl);obtain⟨na,dF⟩: ∃d,d=ar ((bd.take a).map fE):=⟨_,rfl⟩;rw [<-dF]at own bu;obtain⟨cf,gi⟩: ∃d,d=k/16384:=⟨_,rfl⟩;obtain⟨ch,ci⟩: ∃d,d=k%16384:=⟨_,rfl⟩;have hY:fE k=(cf,ch):=(by unfold fE;rw [gi,ci]);rw [hY]at bu;rw [<-gi,<-ci]at ca;clear dd c9 bo gM dF gi ci hY;obtain⟨bY,cM,hw,cH⟩:=aA le own ca bu;clear le own ca bu
          go_wp2_with fail
          refine(hw.out _).mono ?_;rintro e w6 ⟨rfl,gd⟩;have g9:=bY.out.trans (gd.mono bY.out.size);have kx:=ah cM.out gd;have b1:Below w6.heap.size w6 (w6.alloc (.cells #[.int .i64 cf,.int .i64 ch] 46)):=(Below.refl _ _).alloc (Zf _) _;have d4:=ah kx b1;have d2:=g9.trans (b1.mono g9.size);have d6:Rd (w6.alloc (.cells #[.int .i64 cf,.int .i64 ch] 46)) (λf=>f=w6.heap.size) (.slice (some ⟨w6.heap.size,0,none⟩) 1 1) 2 (ar [(cf,ch)]):=Rd.one' (w:=w6) (e:=46) (ar [(cf,ch)]) 2 rfl;clear gd g9 kx b1 hw bY cM hd;obtain⟨b0,bi,cN⟩:=aK d4 d2 d6;clear d4 d2 d6
          go_wp2_with (at_builtin;refine aJ _ rfl (.tmp 84) (.tmp 87) _ rfl elemAct o.heap.size (.slice ad a x) a _ rfl b0.out _ _ (ar [(cf,ch)]) 1 rfl rfl cN.out (iH _) (by unfold maxLen;omega) (by omega) bi.out.size ?_)
          intro e5 gf w8 b3 c6 gO;rw [cH.out]at b3;have d3:=bi.out.grown c6 bi.out.size (λd dr=>(World.ownsRow.lt b0.out d dr).1);clear c6 gO b0 bi cN cH;obtain⟨f4,f3⟩:=av b3 d3;clear b3 d3
          go_wp2_with fail
          go_roundw
          case rel=>exact⟨a+1,gf,e5,by omega,rfl,by go_num,f3.out,f4.out⟩
          case measure=>simp [intOf];omega
         ·have g2: ¬(a:Int)<(bA:Int):=(by omega);obtain rfl:bA=a:=(by omega);rw [Ze (by rw [<-hB.out];exact Zf _),<-lE.out]at own;obtain⟨N,rfl⟩: ∃d,d=wr:=⟨_,rfl⟩;obtain⟨hl,rfl⟩: ∃d,d=ad:=⟨_,rfl⟩;obtain⟨hS,rfl⟩: ∃d,d=x:=⟨_,rfl⟩;have gm:=cb.out.below le;have m9:=ae le ky;have mt:=ae le gg;have kB:=Rd.below hL.out le f2.out;have c7:N.ownsRow N.heap.size 3 1 (.slice none 0 0) 0 (((be.take 0).map λa3=>a3 - 1).map (Value.int .i64)):=World.ownsRow_nil _ _ _ _;have d1:Below N.heap.size N N.drew:=(Below.refl _ N).drew;have kr: ∀b,F b->b<N.heap.size:=λb g=>Zh (f2.out b g) le.size
          clear cs ct cu cv cw cx cy m8 ky hR gg hK hL;obtain⟨cs,ct,cu,cv,cw,cx,cy⟩:=gm.cells;obtain⟨bY,cM,lR,hM,cG,cK,ma⟩:=de le own gm kB c7 d1 kr;clear le own gm kB c7 d1 kr
          go_wp2_with fail
          refine aU (by kernel_rfl) (by kernel_rfl) ?_
          repeat still_step
          refine wpStill_nil ?_
          go_wp2_with fail
          go_loopw [9,100] (λhb a2 ea=> ∃(a x:Nat) (ad:Option Addr),a<=bc/\hb= .slice ad a x/\a2= .int .i64 (a:Int)/\Below N.heap.size N ea/\ea.ownsRow N.heap.size 3 1 (.slice ad a x) a (((be.take a).map λa3=>a3 - 1).map (Value.int .i64))) (λ_ a2 _=>bc - (intOf a2).toNat)
          case atStart=>exact⟨0,0,none,Zi _,rfl,rfl,cK.out,cG.out⟩
          case round=>
           clear cG cK;obtain⟨a,x,ad,gW,rfl,rfl,co,cr⟩:=hrel;by_cases g1:a<bc
           ·have g2:(a:Int)<(bc:Int):=(by omega);obtain⟨k,bo⟩: ∃k,be[a]? =some k:=⟨_,List.getElem?_eq_getElem (by rw [<-hC.out];exact g1)⟩;obtain⟨ns,gM⟩:=l7.out k (Zd bo);obtain⟨-,-,-,dd⟩:=RdU.at_ (Rd.below hM.out co ma.out);obtain⟨mg,m6,rfl,-,c9⟩:=dd (by omega);have hd:=c9 a k bo;have bp:IntKind.i64.wrap k=k:=(by rw [IntKind.wrap_i64];omega);have nx:IntKind.i64.wrap (k - 1)=k - 1:=(by rw [IntKind.wrap_i64];omega);have bu:((be.take a).map λa3=>a3 - 1).map (Value.int .i64)++[.int .i64 (k - 1)]=((be.take (a+1)).map λa3=>a3 - 1).map (Value.int .i64):=(by rw [gj bo,Zc,Zc];rfl);obtain⟨na,dF⟩: ∃d,d=((be.take a).map λa3=>a3 - 1).map (Value.int .i64):=⟨_,rfl⟩;rw [<-dF]at cr bu;have b1:Below wr.heap.size wr (wr.alloc (.cells #[.int .i64 (k - 1)] 3)):=(Below.refl _ _).alloc (Zf _) _;have d4:=ah cr b1;have d2:=co.trans (b1.mono co.size);have d6:Rd (wr.alloc (.cells #[.int .i64 (k - 1)] 3)) (λf=>f=wr.heap.size) (.slice (some ⟨wr.heap.size,0,none⟩) 1 1) 1 [.int .i64 (k - 1)]:=Rd.one' (w:=wr) (e:=3) [.int .i64 (k - 1)] 1 rfl;clear dd c9 bo dF b1 cr co;obtain⟨b0,bi,cN,cH⟩:=aA d4 d2 d6 bu;clear d4 d2 d6 bu
            go_wp2_with (at_builtin;refine aJ _ rfl (.tmp 104) (.tmp 108) _ rfl elemInt N.heap.size (.slice ad a x) a _ rfl b0.out _ _ [.int .i64 (k - 1)] 1 rfl rfl cN.out (by simp [Value.oneCell']) (by unfold maxLen;omega) (by omega) bi.out.size ?_)
            intro e5 gf w8 b3 c6 gO;rw [cH.out]at b3;have d3:=bi.out.grown c6 bi.out.size (λd dr=>(World.ownsRow.lt b0.out d dr).1);clear c6 gO b0 bi cN cH;obtain⟨f4,f3⟩:=av b3 d3;clear b3 d3
            go_wp2_with fail
            go_roundw
            case rel=>exact⟨a+1,gf,e5,by omega,rfl,by go_num,f3.out,f4.out⟩
            case measure=>simp [intOf];omega
           ·have g2: ¬(a:Int)<(bc:Int):=(by omega);obtain rfl:bc=a:=(by omega);rw [Ze (by rw [<-hC.out];exact Zf _),<-lG.out]at cr;obtain⟨ak,rfl⟩: ∃d,d=wr:=⟨_,rfl⟩;obtain⟨e6,rfl⟩: ∃d,d=ad:=⟨_,rfl⟩;obtain⟨gh,rfl⟩: ∃d,d=x:=⟨_,rfl⟩;have g8:Below N.heap.size N ak.drew:=co.drew;have cj:Below o.heap.size o ak.drew:=bY.out.trans (g8.mono bY.out.size);have hc:=ah cM.out g8;have d5:=vH cr 1;have d5:ak.drew.ownsRow N.heap.size 3 1 (.slice e6 bc gh) bc ((kC p (Z:Int)).map (Value.int .i64)):=d5;have e4:=bq.out.below du dJ cj;obtain⟨za,dO⟩: ∃f,f=Value.slice hl bA hS:=⟨_,rfl⟩;obtain⟨zg,dS⟩: ∃f,f=Value.slice e6 bc gh:=⟨_,rfl⟩;obtain⟨hm,gB⟩: ∃d:Nat->Prop,d=λb=>(Value.slice hl bA hS).ownBlock=some b:=⟨_,rfl⟩
            obtain⟨hn,gE⟩: ∃d:Nat->Prop,d=λb=>(Value.slice e6 bc gh).ownBlock=some b:=⟨_,rfl⟩
            have kz:aH ak.drew hm za (lY p (a7:Int)):=(by rw [dO,gB];exact Rd.of_own hc);have kE:RdI ak.drew hn zg (kC p (Z:Int)):=(by rw [dS,gE];exact Rd.of_own d5);have cR:=λb e=>bq.out.a.block b e
            have er:=λb e=>bq.out.g.block b e
            have iN: ∀b,hm b->A<=b/\b<ak.drew.heap.size/\(Value.slice Ax i ca').ownBlock≠some b/\(Value.slice Ag i cg').ownBlock≠some b:=λb g=>by
             rw [gB]at g;have q:=hc.lt b g;exact⟨by omega,q.2,λe=>by have:=(cR b e).2;omega,λe=>by have:=(er b e).2;omega⟩
            have iS: ∀b,hn b->A<=b/\b<ak.drew.heap.size/\(Value.slice Ax i ca').ownBlock≠some b/\(Value.slice Ag i cg').ownBlock≠some b:=λb g=>by
             rw [gE]at g;have q:=d5.lt b g;have C:=bY.out.size;exact⟨by omega,q.2,λe=>by have:=(cR b e).2;omega,λe=>by have:=(er b e).2;omega⟩
            have e2:=an.out.below cj an.out.lt;have k4:=cd.out.trans' (dC cj (λd dr=>hN.out d (Zg gA dr)));have h4:A<=ak.drew.heap.size:=Zg gA cj.size;obtain⟨G,eA⟩: ∃fb:Nat->Prop,fb=λa=>(Value.slice Ax i ca').ownBlock=some a\/(Value.slice Ag i cg').ownBlock=some a:=⟨_,rfl⟩
            have gF: ∀a,G a->A<=a/\a<o.heap.size:=λa h=>by
             rw [eA]at h;rcases h with h|h
             ·exact cR a h
             ·exact er a h
            have ey: ¬G j:=λh=>by have:=gF _ h;have:=a9.out;omega
            have b2: ∀a,G a->b6 a:=λa h=>hN.out a (gF a h).1
            obtain⟨ZA,ci,hW,hX⟩:=e4.a.ex;obtain⟨ZG,hZ,h0,h1⟩:=e4.g.ex;have g0: ∀b7,aa G ak.drew b7->b7.cell? ⟨j,3,none⟩=some (.slice Ax i ca')/\b7.cell? ⟨j,4,none⟩=some (.slice Ag i cg'):=λb7 k1=>⟨k1.cell (p:=⟨j,3,none⟩) (e2.cell 3) ey,k1.cell (p:=⟨j,4,none⟩) (e2.cell 4) ey⟩
            have h6:=g0 _ (aa.refl _ _);have li: ∀u∈[za],u.oneCell'=true:=(by simp [dO,Value.oneCell']);have lk: ∀u∈[zg],u.oneCell'=true:=(by simp [dS,Value.oneCell']);have h8: ∀a,(Value.slice Ax i ca').ownBlock=some a->G a:=λa e=>by rw [eA];exact .inl e
            have h9: ∀a,(Value.slice Ag i cg').ownBlock=some a->G a:=λa e=>by rw [eA];exact .inr e
            have h2: ∀b,(Value.slice Ax i ca').ownBlock=some b->b<ak.drew.heap.size:=λb e=>by have:=(cR b e).2;have:=cj.size;omega
            rw [<-dO,<-dS];have lj:=dO;have lm:=dS;have J:=l5.out;have I:=l4.out;clear dO dS eA cr hc d5 cR er gF co g8 gB gE cj cs ct cu cv cw cx cy m9 mt lR hM cM cb f1 ee;obtain⟨ce,ba,f5,f6,f0,f9,fL,fT,fs,fn,fc,b8,fd,fg⟩:=dh e4 h4 kz kE e2 k4 iN iS ey b2 ci hW hX hZ;obtain⟨b9,fh,al,l2,hQ,gc,ga,gb,ft,fv,hy,bW,bS⟩:=pZ h0 h1 g0 h6 lj lm li lk h8 h9 h2 J I;clear e4 h4 kz kE e2 k4 iN iS ey b2 ci hW hX hZ h0 h1 g0 h6 lj lm li lk h8 h9 h2 J I
            go_wp2_with fail
            refine pN (S:=λu:World=>u.cell? ⟨j,3,none⟩=some (.slice Ax i ca')/\u.cell? ⟨j,4,none⟩=some (.slice Ag i cg')) 11 3 (λmR=>Nat.blt mR 11) (by kernel_rfl) (by kernel_rfl) ?_ (λhHeld=> ?_)
            ·exact l2.out
            refine tkq (i:=0) (oi:= ?_) (v:= ?_) ?_ (by kernel_rfl) ?_ (Or.inl ⟨?_,?_⟩) (by assumption) ?_;rotate_left 2;(focus((try simp only [gT,gs,gz]);try rfl));(first|exact λx k w h=>(aY.panic h).elim|exact λ_ _ _ h=>h);rfl;(focus(intro wS hwS;(try dsimp only at hwS);go_simp;all_goals with_reducible rfl));try simp only [Act.put,sT,s0,s1]
            refine tkq (i:=1) (oi:= ?_) (v:= ?_) ?_ (by kernel_rfl) ?_ (Or.inl ⟨?_,?_⟩) (by assumption) ?_;rotate_left 2;(focus((try simp only [gT,gs,gz]);try rfl));(first|exact λx k w h=>(aY.panic h).elim|exact λ_ _ _ h=>h);rfl;(focus(intro wS hwS;(try dsimp only at hwS);go_simp;all_goals with_reducible rfl));try simp only [Act.put,sT,s0,s1]
            refine tkq (i:=2) (oi:= ?_) (v:= ?_) ?_ (by kernel_rfl) ?_ (Or.inl ⟨?_,?_⟩) (by assumption) ?_;rotate_left 2;(focus((try simp only [gT,gs,gz]);try rfl));(first|exact λx k w h=>(aY.panic h).elim|exact λ_ _ _ h=>h);rfl;(focus(intro wS hwS;(try dsimp only at hwS);go_simp;all_goals with_reducible rfl));try simp only [Act.put,sT,s0,s1]
            refine tkq (i:=5) (oi:= ?_) (v:= ?_) ?_ (by kernel_rfl) ?_ (Or.inl ⟨?_,?_⟩) (by assumption) ?_;rotate_left 2;(focus((try simp only [gT,gs,gz]);try rfl));(first|exact λx k w h=>(aY.panic h).elim|exact λ_ _ _ h=>h);rfl;(focus(intro wS hwS;(try dsimp only at hwS);go_simp;all_goals with_reducible rfl));try simp only [Act.put,sT,s0,s1]
            refine tkq (i:=6) (oi:= ?_) (v:= ?_) ?_ (by kernel_rfl) ?_ (Or.inl ⟨?_,?_⟩) (by assumption) ?_;rotate_left 2;(focus((try simp only [gT,gs,gz]);try rfl));(first|exact λx k w h=>(aY.panic h).elim|exact λ_ _ _ h=>h);rfl;(focus(intro wS hwS;(try dsimp only at hwS);go_simp;all_goals with_reducible rfl));try simp only [Act.put,sT,s0,s1]
            refine tkq (i:=7) (oi:= ?_) (v:= ?_) ?_ (by kernel_rfl) ?_ (Or.inl ⟨?_,?_⟩) (by assumption) ?_;rotate_left 2;(focus((try simp only [gT,gs,gz]);try rfl));(first|exact λx k w h=>(aY.panic h).elim|exact λ_ _ _ h=>h);rfl;(focus(intro wS hwS;(try dsimp only at hwS);go_simp;all_goals with_reducible rfl));try simp only [Act.put,sT,s0,s1]
            generalize ak.drew=c at *;have ec:Below c.heap.size c (c.alloc (.cells #[za] 113)):=(Below.refl _ c).alloc (Zf _) _;have ed:Below c.heap.size c (c.alloc (.cells #[zg] 49)):=(Below.refl _ c).alloc (Zf _) _;have hq:aa G c (c.alloc (.cells #[za] 113)):=aa.of_size ec _;have hr:aa G c (c.alloc (.cells #[zg] 49)):=aa.of_size ed _;have ho:Rd (c.alloc (.cells #[za] 113)) (λf=>f=c.heap.size) (.slice (some ⟨c.heap.size,0,none⟩) 1 1) 1 [za]:=Rd.one' (w:=c) (e:=113) [za] 1 rfl;have b5:Rd (c.alloc (.cells #[zg] 49)) (λf=>f=c.heap.size) (.slice (some ⟨c.heap.size,0,none⟩) 1 1) 1 [zg]:=Rd.one' (w:=c) (e:=49) [zg] 1 rfl;have lb:=Zg ba.out ec.size;have ld:=Zg ba.out ed.size;obtain⟨cE,hs,hu,lB,ht,lA,mf,nl⟩:=dA ec ed hq hr ho b5 lb ld;clear ec ed hq hr ho b5 lb ld;refine bQ (rs:=[3,8]) (by kernel_rfl) (by simp) (by kernel_rfl) ?_;refine ax.cons (o:= ?_) ?_ (λs l=> ?_) ?_;rotate_left 1;(focus((try simp only [gT,gs,gz]);try rfl))
            ·refine step_RA rfl (.tmp 113) rfl za rfl hQ.out ?_;refine l.out _ _ ?_ (λhHeld=> ?_)
             ·exact al.out _ hu.out
             clear l s
             try simp only [Act.put,sT,s0,s1]
             refine bQ (rs:=[4,8]) (by kernel_rfl) (by simp) (by kernel_rfl) ?_;refine ax.cons (o:= ?_) ?_ (λs l=> ?_) ?_;rotate_left 1;(focus((try simp only [gT,gs,gz]);try rfl))
             ·skip
              refine dv _ rfl (.tmp 112) (.tmp 114) _ rfl elemRA A (.slice Ax i ca') i _ rfl (ah b8.out cE.out) _ _ [za] 1 rfl rfl (ht.out) ga.out (by unfold maxLen;omega) (by omega) (mf.out) ?_;intro A' ap w1 bB Q q;have L:aa G c w1:=(hu.out).grown Q (λa e _=>ft.out a e);have a8:aa (λa=>(Value.slice Ax i ca').ownBlock=some a) _ w1:=(aa.refl _ _).grown Q (λa e _=>e);have bE:=a8.own (ah b9.out cE.out) (λb e c1=>ce.out.ne b c1 e);have bR:=Zg ba.out L.size;refine l.out _ _ ?_ (λhHeld=> ?_)
              ·exact al.out _ L
              clear l s
              try simp only [Act.put,sT,s0,s1]
              refine tkq (i:=10) (oi:= ?_) (v:= ?_) ?_ (by kernel_rfl) ?_ (Or.inl ⟨?_,?_⟩) (by assumption) ?_;rotate_left 2;(focus((try simp only [gT,gs,gz]);try rfl));(first|exact λx k w h=>(aY.panic h).elim|exact λ_ _ _ h=>h);rfl;(focus(intro wS hwS;(try dsimp only at hwS);go_simp;all_goals with_reducible rfl));try simp only [Act.put,sT,s0,s1]
              refine bQ (rs:=[8]) (by kernel_rfl) (by simp) (by kernel_rfl) ?_;refine ax.cons (o:= ?_) ?_ (λs l=> ?_) ?_;rotate_left 1;(focus((try simp only [gT,gs,gz]);try rfl))
              ·refine step_RI rfl (.tmp 118) rfl zg rfl gc.out ?_;have eb:Below w1.heap.size w1 (w1.alloc (.cells #[zg] 49)):=(Below.refl _ w1).alloc (Zf _) _;have lx:Rd (w1.alloc (.cells #[zg] 49)) (λf=>f=w1.heap.size) (.slice (some ⟨w1.heap.size,0,none⟩) 1 1) 1 [zg]:=Rd.one' (w:=w1) (e:=49) [zg] 1 rfl;have hp:aa G c (w1.alloc (.cells #[zg] 49)):=L.trans' (aa.of_size eb _);have nb:=Zg bR eb.size;have m7:=ah bE eb;refine l.out _ _ ?_ (λhHeld=> ?_)
               ·exact al.out _ hp
               clear l s
               try simp only [Act.put,sT,s0,s1]
               refine bQ (rs:=[9]) (by kernel_rfl) (by simp) (by kernel_rfl) ?_;refine ax.cons (o:= ?_) ?_ (λs l=> ?_) ?_;rotate_left 1;(focus((try simp only [gT,gs,gz]);try rfl))
               ·skip
                refine dv _ rfl (.tmp 117) (.tmp 119) _ rfl elemRI A (.slice Ag i cg') i _ rfl (m7) _ _ [zg] 1 rfl rfl (lx) gb.out (by unfold maxLen;omega) (by omega) (nb) ?_;intro G' aS w2 bC a4 C;have M:aa G c w2:=(hp).grown a4 (λa e _=>fv.out a e);refine l.out _ _ ?_ (λhHeld=> ?_)
                ·exact al.out _ M
                clear l s
                try simp only [Act.put,sT,s0,s1]
                obtain⟨a6,bT⟩:=Two.pushF du dJ ce.out ba.out fc.out b8.out fd.out fg.out b9.out fh.out fL.out fT.out f5.out f6.out (cE.out) bB Q q (eb) bC a4 C;rw [<-fz.out,<-fF.out]at a6;have y:=f0.out.touch M fs.out;have bG:=f9.out.trans M (λa _ e=>fn.out a e);have br:=y.frozen 3;have bs:=y.frozen 4;have he:=(y.cell 3).trans rfl;have hf:=(y.cell 4).trans rfl;have bw:=(y.put 3 (.slice A' (i+1) ap)).put 4 (.slice G' (i+1) aS);have a5:aa (λa=>a=j) w2 ((w2.setCell ⟨j,3,none⟩ (.slice A' (i+1) ap)).setCell ⟨j,4,none⟩ (.slice G' (i+1) aS)):=((aa.refl (λa=>a=j) w2).setCell (p:=⟨j,3,none⟩) (λ_=>rfl) _).setCell (p:=⟨j,4,none⟩) (λ_=>rfl) _;have bP:=a6.touch du dJ a5 (λb g _ e=>by have:=a9.out;omega);have bO:=bG.trans a5 (λa _ e=>by subst e;exact f8.out);clear bB Q q bC a4 C L a8 bE bR M y bG a6 bT a5;obtain⟨cP,cO,cI⟩:=aK bP bO bw;clear bP bO bw;refine jG 11 (by rfl) (by kernel_rfl) (by kernel_rfl) ?_;simp only [Za,Zb]
                go_wp2_with fail
                go_roundw
                case rel=>exact⟨i+1,ap,aS,A',G',_,_,by omega,by go_num,cO.out,cI.out,cP.out,bW.out,bS.out⟩
                case measure=>simp [intOf];omega
               ·exact ax.nil
              ·exact ax.nil
             ·refine ax.cons (o:= ?_) ?_ (λs l=> ?_) ?_;rotate_left 1;(focus((try simp only [gT,gs,gz]);try rfl))
              ·refine step_RI rfl (.tmp 118) rfl zg rfl gc.out ?_;have ai:Below c.heap.size c ((c.alloc (.cells #[za] 113)).alloc (.cells #[zg] 49)):=cE.out.alloc cE.out.size _;have cC:aa G c ((c.alloc (.cells #[za] 113)).alloc (.cells #[zg] 49)):=aa.of_size ai _;have e8:Rd ((c.alloc (.cells #[za] 113)).alloc (.cells #[zg] 49)) (λf=>f=c.heap.size) (.slice (some ⟨c.heap.size,0,none⟩) 1 1) 1 [za]:=Rd.below ht.out ((Below.refl (c.heap.size+1) _).alloc (by simp) _) (λa e=>by subst e;simp);have b5:Rd ((c.alloc (.cells #[za] 113)).alloc (.cells #[zg] 49)) (λf=>f=(c.alloc (.cells #[za] 113)).heap.size) (.slice (some ⟨(c.alloc (.cells #[za] 113)).heap.size,0,none⟩) 1 1) 1 [zg]:=Rd.one' (w:=c.alloc (.cells #[za] 113)) (e:=49) [zg] 1 rfl;have hk:=Zg ba.out ai.size;refine l.out _ _ ?_ (λhHeld=> ?_)
               ·exact al.out _ cC
               clear l s
               try simp only [Act.put,sT,s0,s1]
               refine bQ (rs:=[4]) (by kernel_rfl) (by simp) (by kernel_rfl) ?_;refine ax.cons (o:= ?_) ?_ (λs l=> ?_) ?_;rotate_left 1;(focus((try simp only [gT,gs,gz]);try rfl))
               ·skip
                refine dv _ rfl (.tmp 112) (.tmp 114) _ rfl elemRA A (.slice Ax i ca') i _ rfl (ah b8.out ai) _ _ [za] 1 rfl rfl (e8) ga.out (by unfold maxLen;omega) (by omega) (hk) ?_;intro A' ap w1 bB Q q;have L:aa G c w1:=(cC).grown Q (λa e _=>ft.out a e);have a8:aa (λa=>(Value.slice Ax i ca').ownBlock=some a) _ w1:=(aa.refl _ _).grown Q (λa e _=>e);have bE:=a8.own (ah b9.out ai) (λb e c1=>ce.out.ne b c1 e);have bR:=Zg ba.out L.size;refine l.out _ _ ?_ (λhHeld=> ?_)
                ·exact al.out _ L
                clear l s
                try simp only [Act.put,sT,s0,s1]
                refine tkq (i:=10) (oi:= ?_) (v:= ?_) ?_ (by kernel_rfl) ?_ (Or.inl ⟨?_,?_⟩) (by assumption) ?_;rotate_left 2;(focus((try simp only [gT,gs,gz]);try rfl));(first|exact λx k w h=>(aY.panic h).elim|exact λ_ _ _ h=>h);rfl;(focus(intro wS hwS;(try dsimp only at hwS);go_simp;all_goals with_reducible rfl));try simp only [Act.put,sT,s0,s1]
                have e9:Rd w1 (λf=>f=(c.alloc (.cells #[za] 113)).heap.size) (.slice (some ⟨(c.alloc (.cells #[za] 113)).heap.size,0,none⟩) 1 1) 1 [zg]:=Rd.touch b5 a8 (λb g e=>by have:=hy.out b e;rw [World.size_alloc]at g;omega);refine bQ (rs:=[9]) (by kernel_rfl) (by simp) (by kernel_rfl) ?_;refine ax.cons (o:= ?_) ?_ (λs l=> ?_) ?_;rotate_left 1;(focus((try simp only [gT,gs,gz]);try rfl))
                ·skip
                 refine dv _ rfl (.tmp 117) (.tmp 119) _ rfl elemRI A (.slice Ag i cg') i _ rfl (bE) _ _ [zg] 1 rfl rfl (e9) gb.out (by unfold maxLen;omega) (by omega) (bR) ?_;intro G' aS w2 bC a4 C;have M:aa G c w2:=(L).grown a4 (λa e _=>fv.out a e);refine l.out _ _ ?_ (λhHeld=> ?_)
                 ·exact al.out _ M
                 clear l s
                 try simp only [Act.put,sT,s0,s1]
                 obtain⟨a6,bT⟩:=Two.pushF du dJ ce.out ba.out fc.out b8.out fd.out fg.out b9.out fh.out fL.out fT.out f5.out f6.out (ai) bB Q q ((Below.refl _ _)) bC a4 C;rw [<-fz.out,<-fF.out]at a6;have y:=f0.out.touch M fs.out;have bG:=f9.out.trans M (λa _ e=>fn.out a e);have br:=y.frozen 3;have bs:=y.frozen 4;have he:=(y.cell 3).trans rfl;have hf:=(y.cell 4).trans rfl;have bw:=(y.put 3 (.slice A' (i+1) ap)).put 4 (.slice G' (i+1) aS);have a5:aa (λa=>a=j) w2 ((w2.setCell ⟨j,3,none⟩ (.slice A' (i+1) ap)).setCell ⟨j,4,none⟩ (.slice G' (i+1) aS)):=((aa.refl (λa=>a=j) w2).setCell (p:=⟨j,3,none⟩) (λ_=>rfl) _).setCell (p:=⟨j,4,none⟩) (λ_=>rfl) _;have bP:=a6.touch du dJ a5 (λb g _ e=>by have:=a9.out;omega);have bO:=bG.trans a5 (λa _ e=>by subst e;exact f8.out);clear bB Q q bC a4 C L a8 bE bR M y bG a6 bT a5;obtain⟨cP,cO,cI⟩:=aK bP bO bw;clear bP bO bw;refine jG 11 (by rfl) (by kernel_rfl) (by kernel_rfl) ?_;simp only [Za,Zb]
                 go_wp2_with fail
                 go_roundw
                 case rel=>exact⟨i+1,ap,aS,A',G',_,_,by omega,by go_num,cO.out,cI.out,cP.out,bW.out,bS.out⟩
                 case measure=>simp [intOf];omega
                ·exact ax.nil
               ·exact ax.nil
              ·exact ax.nil
            ·refine ax.cons (o:= ?_) ?_ (λs l=> ?_) ?_;rotate_left 1;(focus((try simp only [gT,gs,gz]);try rfl))
             ·refine step_RI rfl (.tmp 118) rfl zg rfl gc.out ?_;refine l.out _ _ ?_ (λhHeld=> ?_)
              ·exact al.out _ lB.out
              clear l s
              try simp only [Act.put,sT,s0,s1]
              refine bQ (rs:=[3]) (by kernel_rfl) (by simp) (by kernel_rfl) ?_;refine ax.cons (o:= ?_) ?_ (λs l=> ?_) ?_;rotate_left 1;(focus((try simp only [gT,gs,gz]);try rfl))
              ·refine step_RA rfl (.tmp 113) rfl za rfl hQ.out ?_;have ai:Below c.heap.size c ((c.alloc (.cells #[zg] 49)).alloc (.cells #[za] 113)):=hs.out.alloc hs.out.size _;have cC:aa G c ((c.alloc (.cells #[zg] 49)).alloc (.cells #[za] 113)):=aa.of_size ai _;have e8:Rd ((c.alloc (.cells #[zg] 49)).alloc (.cells #[za] 113)) (λf=>f=(c.alloc (.cells #[zg] 49)).heap.size) (.slice (some ⟨(c.alloc (.cells #[zg] 49)).heap.size,0,none⟩) 1 1) 1 [za]:=Rd.one' (w:=c.alloc (.cells #[zg] 49)) (e:=113) [za] 1 rfl;have b5:Rd ((c.alloc (.cells #[zg] 49)).alloc (.cells #[za] 113)) (λf=>f=c.heap.size) (.slice (some ⟨c.heap.size,0,none⟩) 1 1) 1 [zg]:=Rd.below lA.out ((Below.refl (c.heap.size+1) _).alloc (by simp) _) (λa e=>by subst e;simp);have hk:=Zg ba.out ai.size;refine l.out _ _ ?_ (λhHeld=> ?_)
               ·exact al.out _ cC
               clear l s
               try simp only [Act.put,sT,s0,s1]
               refine bQ (rs:=[4]) (by kernel_rfl) (by simp) (by kernel_rfl) ?_;refine ax.cons (o:= ?_) ?_ (λs l=> ?_) ?_;rotate_left 1;(focus((try simp only [gT,gs,gz]);try rfl))
               ·skip
                refine dv _ rfl (.tmp 112) (.tmp 114) _ rfl elemRA A (.slice Ax i ca') i _ rfl (ah b8.out ai) _ _ [za] 1 rfl rfl (e8) ga.out (by unfold maxLen;omega) (by omega) (hk) ?_;intro A' ap w1 bB Q q;have L:aa G c w1:=(cC).grown Q (λa e _=>ft.out a e);have a8:aa (λa=>(Value.slice Ax i ca').ownBlock=some a) _ w1:=(aa.refl _ _).grown Q (λa e _=>e);have bE:=a8.own (ah b9.out ai) (λb e c1=>ce.out.ne b c1 e);have bR:=Zg ba.out L.size;refine l.out _ _ ?_ (λhHeld=> ?_)
                ·exact al.out _ L
                clear l s
                try simp only [Act.put,sT,s0,s1]
                refine tkq (i:=10) (oi:= ?_) (v:= ?_) ?_ (by kernel_rfl) ?_ (Or.inl ⟨?_,?_⟩) (by assumption) ?_;rotate_left 2;(focus((try simp only [gT,gs,gz]);try rfl));(first|exact λx k w h=>(aY.panic h).elim|exact λ_ _ _ h=>h);rfl;(focus(intro wS hwS;(try dsimp only at hwS);go_simp;all_goals with_reducible rfl));try simp only [Act.put,sT,s0,s1]
                have e9:Rd w1 (λf=>f=c.heap.size) (.slice (some ⟨c.heap.size,0,none⟩) 1 1) 1 [zg]:=Rd.touch b5 a8 (λb g e=>by have:=hy.out b e;omega);refine bQ (rs:=[9]) (by kernel_rfl) (by simp) (by kernel_rfl) ?_;refine ax.cons (o:= ?_) ?_ (λs l=> ?_) ?_;rotate_left 1;(focus((try simp only [gT,gs,gz]);try rfl))
                ·skip
                 refine dv _ rfl (.tmp 117) (.tmp 119) _ rfl elemRI A (.slice Ag i cg') i _ rfl (bE) _ _ [zg] 1 rfl rfl (e9) gb.out (by unfold maxLen;omega) (by omega) (bR) ?_;intro G' aS w2 bC a4 C;have M:aa G c w2:=(L).grown a4 (λa e _=>fv.out a e);refine l.out _ _ ?_ (λhHeld=> ?_)
                 ·exact al.out _ M
                 clear l s
                 try simp only [Act.put,sT,s0,s1]
                 obtain⟨a6,bT⟩:=Two.pushF du dJ ce.out ba.out fc.out b8.out fd.out fg.out b9.out fh.out fL.out fT.out f5.out f6.out (ai) bB Q q ((Below.refl _ _)) bC a4 C;rw [<-fz.out,<-fF.out]at a6;have y:=f0.out.touch M fs.out;have bG:=f9.out.trans M (λa _ e=>fn.out a e);have br:=y.frozen 3;have bs:=y.frozen 4;have he:=(y.cell 3).trans rfl;have hf:=(y.cell 4).trans rfl;have bw:=(y.put 3 (.slice A' (i+1) ap)).put 4 (.slice G' (i+1) aS);have a5:aa (λa=>a=j) w2 ((w2.setCell ⟨j,3,none⟩ (.slice A' (i+1) ap)).setCell ⟨j,4,none⟩ (.slice G' (i+1) aS)):=((aa.refl (λa=>a=j) w2).setCell (p:=⟨j,3,none⟩) (λ_=>rfl) _).setCell (p:=⟨j,4,none⟩) (λ_=>rfl) _;have bP:=a6.touch du dJ a5 (λb g _ e=>by have:=a9.out;omega);have bO:=bG.trans a5 (λa _ e=>by subst e;exact f8.out);clear bB Q q bC a4 C L a8 bE bR M y bG a6 bT a5;obtain⟨cP,cO,cI⟩:=aK bP bO bw;clear bP bO bw;refine jG 11 (by rfl) (by kernel_rfl) (by kernel_rfl) ?_;simp only [Za,Zb]
                 go_wp2_with fail
                 go_roundw
                 case rel=>exact⟨i+1,ap,aS,A',G',_,_,by omega,by go_num,cO.out,cI.out,cP.out,bW.out,bS.out⟩
                 case measure=>simp [intOf];omega
                ·exact ax.nil
               ·exact ax.nil
              ·exact ax.nil
             ·exact ax.nil
   ·have mu: ¬(i:Int)<(z:Int):=(by omega);obtain rfl:z=i:=(by omega);have k2:p.row.take z=p.row:=Ze (by rw [ej.out];exact Zf _);have tG:p.gow.take z=p.gow:=Ze (by rw [fx.out];exact Zf _);rw [k2]at J E;rw [tG]at I E;have kf:fN p=true:=(by rw [cc.out,J,I];simp);obtain⟨bh,bt⟩: ∃bh:Nat->Prop,bh=λb=>(F b\/A<=b)/\b<o.heap.size:=⟨_,rfl⟩
    have kA:=RM.rw (F:=bh) du E.a (λb q C=>by rw [bt];exact⟨.inr q,C⟩) (λb q C=>by rw [bt];exact⟨.inr (E.lA b q).1,C⟩);have kF:=RM.rw (F:=bh) dJ E.g (λb q C=>by rw [bt];exact⟨.inr q,C⟩) (λb q C=>by rw [bt];exact⟨.inr (E.lG b q).1,C⟩);have et: ∀b,F b->bh b:=λb g=>by rw [bt];exact⟨.inl g,t.pk.lt b g⟩
    have kG:RdL o bh 2 (dP o bh) (.slice bg cp bl) p.rules:=t.pk.rules.mono et λnr f ⟨v,T,U⟩=>⟨v,T,U.mono et⟩
    have h5: ∀b,bh b-> ¬b=w.heap.size+1:=λb g e=>by
     rw [bt]at g;rcases g.1 with h|h
     ·have:=eg.out b h;omega
     ·have:=a9.out;have:=bb.out;omega
    have d0:=(m.cell 0).trans rfl;have cS:=(m.cell 1).trans rfl;have cT:=(m.cell 2).trans rfl;have cU:=(m.cell 3).trans rfl;have c0:=(m.cell 4).trans rfl;have c2:=m.frozen 0;have c3:=m.frozen 1;have c4:=m.frozen 2;have br:=m.frozen 3;have bs:=m.frozen 4;have hd:=(r.cell 0).trans rfl;have n9:=(r.cell 1).trans rfl;have oa:=(r.cell 2).trans rfl;have he:=(r.cell 3).trans rfl;have hf:=(r.cell 4).trans rfl;clear k2 tG J I g3 hi gA t;obtain⟨cd,an,bq,f1,ee,hF,l1,mb,mc,md,l0,nj⟩:=gx H r E m V kf bt kA kF kG h5 et;clear H r E m V kf bt kA kF kG h5 et
    go_wp2_with fail
    have n:=((((f1.out.put 0 (.slice bg cp bl)).put 1 (.int .i64 cB)).put 2 (.int .i64 cA)).put 3 (.slice Ax z ca')).put 4 (.slice Ag z cg');have W:=cZ o (w.heap.size+1) (.slice bg cp bl) (.int .i64 cB) (.int .i64 cA) (.slice Ax z ca') (.slice Ag z cg');have aT:=(n.cell 0).trans rfl;have T:=(n.cell 1).trans rfl;have U:=(n.cell 2).trans rfl;have a0:=(n.cell 3).trans rfl;have a1:=(n.cell 4).trans rfl;refine bodyPost_ret (v:= .tuple #[TV (.slice bg cp bl) cB cA (.slice Ax z ca') (.slice Ag z cg'),.bool true]) (by simp [results,results163,go_sem,aT,T,U,a0,a1]) rfl ?_;have K:=W.toBelow (λa e=>by omega) ee.out ee.out.size;have h7:jN p=dT p:=(by unfold jN;rw [if_pos hF.out]);refine⟨by first|exact K|exact K.drew,_,_,_,by rw [h7,hF.out];unfold dT;rw [fw.out,fi.out],?_⟩;rw [h7];refine rL (F:=bh) (t:=dT p) md.out mb.out mc.out (by first|exact W|exact W.drew) l0.out (CW.refl _) (λb g=> ?_) (λb g=>g.2) (by have:=hD.out;rw [<-fw.out,<-fi.out]at this;exact this) hE.out;rw [l1.out]at g;refine⟨?_,Zh g.2 W.size⟩;rcases g.1 with h|h
    ·exact .inl h
    ·exact .inr (by have:=a9.out;have:=bb.out;omega)
 ·have mA:((z:Int) !=(ha:Int))=true:=by simpa using(by omega: ¬(z:Int)=(ha:Int))
  have O:fN p=false:=by rw [c8,decide_eq_false dn];rfl
  have nv:=dn;obtain⟨ei,eg,hx,an,cc,fw,fi,l3,ej,hz,fx,hA,hD,hE⟩:=dh eB ew c5 r c8 hT ex eE eG eQ eR eX eZ e0;obtain⟨hG,B,nk⟩:=aK e1 O dn;clear eB ew c5 r c8 hT ex eE eG eQ eR eX eZ e0 e1 O dn;obtain⟨S,R⟩:=av P es;clear P es
  go_enter func163,ntmps163
  go_wp2_with fail
  rw [<-bp];have aT:=(S.out.cell 0).trans rfl;have T:=(S.out.cell 1).trans rfl;have U:=(S.out.cell 2).trans rfl;have a0:=(S.out.cell 3).trans rfl;have a1:=(S.out.cell 4).trans rfl;refine bodyPost_ret (v:= .tuple #[TV (.slice none 0 0) 0 0 (.slice none 0 0) (.slice none 0 0),.bool false]) (by simp [results,results163,go_sem,aT,T,U,a0,a1]) rfl ?_;refine⟨R.out,_,_,_,by rw [gJ B.out,B.out];rfl,?_⟩;rw [gJ B.out];exact bL.none _ _ (λb g=>g.2)
end Go.Proofs.YthlbjgabhpdbfaaGreat

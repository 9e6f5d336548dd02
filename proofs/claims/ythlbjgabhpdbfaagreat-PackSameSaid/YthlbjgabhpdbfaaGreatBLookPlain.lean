/- Lookaheads: plain laws: what comes with a nonterminal. Of no program. -/
import Derived.Test.YthlbjgabhpdbfaaGreatBFirstPlain
import Derived.Test.YthlbjgabhpdbfaaGreatBItemLay
import Derived.Test.YthlbjgabhpdbfaaGreatBG7
set_option linter.unusedVariables false
set_option maxRecDepth 100000
set_option maxHeartbeats 4000000
namespace Go.Proofs.YthlbjgabhpdbfaaGreat
open Go.Proofs.Tryz
open Bool renaming and_eq_true->Za,or_eq_true->Zb
open List renaming getElem_of_mem->Zc,length_append->Zd,length_set->Ze,length_singleton->Zf,map_append->Zg,map_cons->Zh,mem_append->Zi,mem_append_left->Zj,mem_of_getElem?->Zk,mem_range->Zl,mem_singleton->Zm
open Nat renaming le_refl->Zn,lt_of_lt_of_le->Zo,zero_le->Zp
def rgt (G:ac) (st k:Int):List Int:=(aD G st k).1.2
noncomputable def lnB (G:ac) (l:List Int) (t:Nat):Bool:=db (aF (ag G) (eS G)) (aV (ag G) (fV G)) l t
noncomputable def emB (G:ac) (l:List Int):Bool:=l.all (aF (ag G) (eS G))
inductive fR (G:ac) (st s:Int):Int->Prop
 |base:fR G st s s
 |next (x k y:Int) (rest:List Int):fR G st s x->k∈az G x->rgt G st k=y::rest->am G y=true->emB G rest=true->fR G st s y
inductive jB (G:ac) (st s:Int):Int->Nat->Prop
 |self (x k y:Int) (rest:List Int) (t:Nat):fR G st s x->k∈az G x->rgt G st k=y::rest->am G y=true->lnB G rest t=true->jB G st s y t
 |line (x k y:Int) (rest:List Int) (t u:Nat):jB G st s x u->k∈az G x->rgt G st k=y::rest->am G y=true->lnB G rest t=true->jB G st s y t
 |pass (x k y:Int) (rest:List Int) (t:Nat):jB G st s x t->k∈az G x->rgt G st k=y::rest->am G y=true->emB G rest=true->jB G st s y t
structure Co where
 s:Int
 f:Nat->Bool
 self:Bool
def Co.live (c:Co):Prop:=c.self=true\/ ∃t,c.f t=true
def nV (G:ac) (st:Int) (out:List Co) (c:Co) (k:Int):Prop:= ∀y rest,rgt G st k=y::rest->am G y=true-> ∃(j:Nat) (d:Co),out[j]? =some d/\d.s=y/\(c.live-> ∀t,lnB G rest t=true->d.f t=true)/\(emB G rest=true->(∀t,c.f t=true->d.f t=true)/\(c.self=true->d.self=true))
structure CoSt (G:ac) (st s:Int) (out:List Co) (todo:List Nat):Prop where
 nodup:(out.map Co.s).Nodup
 snd: ∀c∈out,Bg G st s c.s/\am G c.s=true/\(c.self=true->fR G st s c.s)/\ ∀t,c.f t=true->jB G st s c.s t
 hi: ∀c∈out,∀t,G.terms.length+1<=t->c.f t=false
 first: ∃c,out[0]? =some c/\c.s=s/\c.self=true
 low: ∀i∈todo,i<out.length
structure kL (G:ac) (st s:Int) (out:List Co) (todo:List Nat):Prop extends CoSt G st s out todo where
 done: ∀(i:Nat) c,out[i]? =some c->i∉todo-> ∀k∈az G c.s,nV G st out c k
structure gq (G:ac) (st s:Int) (out:List Co) (todo:List Nat) (i0:Nat) (x:Int) (xs:Bool) (j:Nat):Prop extends CoSt G st s out todo where
 done: ∀(i:Nat) c,out[i]? =some c->i∉todo->i≠i0-> ∀k∈az G c.s,nV G st out c k
 cur: ∃c,out[i0]? =some c/\c.s=x/\(xs=true->c.self=true)/\(i0∉todo->c.self=xs/\ ∀(j':Nat) k,j'<j->(az G x)[j']? =some k->nV G st out c k)
section
variable {G : ac} {st s : Int} {out : List Co} {todo : List Nat} {i0 j : Nat} {x : Int} {xs : Bool}
def zC (out out':List Co):Prop:= ∀(j:Nat) d,out[j]? =some d-> ∃d',out'[j]? =some d'/\d'.s=d.s/\(∀t,d.f t=true->d'.f t=true)/\(d.self=true->d'.self=true)
theorem nV.grow {i:List Co} {c:Co} {k:Int} (h:nV G st out c k) (g:zC out i):nV G st i c k:=λD C t u=>by
 obtain⟨j,l,v,y,z,e⟩:=h D C t u;obtain⟨o,p,q,d,r⟩:=g j l v;exact⟨j,o,p,q.trans y,λA a b=>d a (z A a b),λf=>⟨λa b=>d a ((e f).1 a b),λB=>r ((e f).2 B)⟩⟩
theorem kL.start (h:am G s=true):kL G st s [⟨s,aj,true⟩] [0] where
 nodup:=by simp
 snd:=λc a=>by
  rw [Zm]at a;subst a;exact⟨.base,h,λ_=> .base,λt d=>by cases d⟩
 hi:=λc a t _=>by rw [Zm]at a;subst a;rfl
 first:=⟨_,rfl,rfl,rfl⟩
 low:=λb hi=>by rw [Zm]at hi;subst hi;simp
 done:=λb c a hi=>by
  have:b=0:=by have:=(List.getElem?_eq_some_iff.1 a).1;simp at this;omega
  subst this;exact absurd (Zm.2 rfl) hi
theorem kL.pop {c:Co} (h:kL G st s out (i0::todo)) (d:out[i0]? =some c):gq G st s out todo i0 c.s c.self 0 where
 nodup:=h.nodup
 snd:=h.snd
 hi:=h.hi
 first:=h.first
 low:=λa hi=>h.low a (List.mem_cons_of_mem _ hi)
 done:=λa b e hi f=>h.done a b e (λhm=>(List.mem_cons.1 hm).elim f hi)
 cur:=⟨c,d,rfl,id,λ_=>⟨rfl,λl k i=>by omega⟩⟩
theorem gq.end_ (h:gq G st s out todo i0 x xs j) (t:(az G x).length<=j):kL G st s out todo where
 nodup:=h.nodup
 snd:=h.snd
 hi:=h.hi
 first:=h.first
 low:=h.low
 done:=λd f a hi k b=>by
  by_cases e:d=i0
  ·subst e;obtain⟨c,l,o,-,p⟩:=h.cur;rw [l]at a;injection a with a
   subst a;rw [o]at b;obtain⟨r,q,i⟩:=Zc b;exact(p hi).2 r k (by omega) (by rw [List.getElem?_eq_getElem q,i])
  ·exact h.done d f a hi e k b
theorem gq.push {i:Nat} (h:gq G st s out todo i0 x xs j) (hi:i<out.length):gq G st s out (todo++[i]) i0 x xs j where
 nodup:=h.nodup
 snd:=h.snd
 hi:=h.hi
 first:=h.first
 low:=λk a=>(Zi.1 a).elim (h.low k) (λa=>by rw [Zm.1 a];exact hi)
 done:=λk b o a p=>h.done k b o (λhm=>a (Zj _ hm)) p
 cur:=by
  obtain⟨c,d,e,f,l⟩:=h.cur;exact⟨c,d,e,f,λhn=>l (λhm=>hn (Zj _ hm))⟩
theorem uW (out:List Co) (d:Co):zC out (out++[d]):=λj e a=>⟨e,by rw [List.getElem?_append_left (List.getElem?_eq_some_iff.1 a).1];exact a,rfl,λ_ h=>h,id⟩
theorem gq.new {k y:Int} {rest:List Int} (h:gq G st s out todo i0 x xs j) (l:k∈az G x) (D:rgt G st k=y::rest) (u:am G y=true) (hn:y∉out.map Co.s) (z: ∀k y rest,rgt G st k=y::rest->k∈az G x->aw G st (k,0)=(y,true)):gq G st s (out++[⟨y,aj,false⟩]) (todo++[out.length]) i0 x xs j where
 nodup:=by
  rw [Zg,List.nodup_append];refine⟨h.nodup,by simp,λa v b r e=> ?_⟩;simp at r;subst r e;exact hn v
 snd:=λc d=>by
  rcases Zi.1 d with d|d
  ·exact h.snd c d
  ·rw [Zm]at d;subst d;obtain⟨c,f,i,-⟩:=h.cur;have p:=(h.snd c (Zk f)).1;rw [i]at p;exact⟨.next x k y p l (z k y rest D l) u,u,λ(e:false=true)=>(by cases e),λt (e:false=true)=>(by cases e)⟩
 hi:=λc d=>by
  rcases Zi.1 d with d|d
  ·exact h.hi c d
  ·rw [Zm]at d;subst d;exact λ_ _=>rfl
 first:=by
  obtain⟨c,f,i⟩:=h.first;exact⟨c,by rw [List.getElem?_append_left (List.getElem?_eq_some_iff.1 f).1];exact f,i⟩
 low:=λo hi=>by
  rw [Zd,Zf];rcases Zi.1 hi with hi|hi
  ·have:=h.low o hi;omega
  ·rw [Zm.1 hi];omega
 done:=λo c d hi C=>by
  have B:o<out.length:=by
   have f:=(List.getElem?_eq_some_iff.1 d).1;rw [Zd,Zf]at f;have i:o≠out.length:=λe=>hi (List.mem_append_right _ (Zm.2 e))
   omega
  rw [List.getElem?_append_left B]at d;exact λk l=>(h.done o c d (λhm=>hi (Zj _ hm)) C k l).grow (uW _ _)
 cur:=by
  obtain⟨c,f,i,p,q⟩:=h.cur;exact⟨c,by rw [List.getElem?_append_left (List.getElem?_eq_some_iff.1 f).1];exact f,i,p,λhn=>⟨(q (λhm=>hn (Zj _ hm))).1,λE k A l=>((q (λhm=>hn (Zj _ hm))).2 E k A l).grow (uW _ _)⟩⟩
def bF (al xs:Bool) (fx ln:Nat->Bool) (em:Bool) (d:Co):Co:=if al=true then⟨d.s,λt=>(d.f t||ln t)||(em&&fx t),d.self||(em&&xs)⟩else d
theorem DI {i:Nat} {d d':Co} (b:out[i]? =some d) (k:d'.s=d.s) (l: ∀f,d.f f=true->d'.f f=true) (o:d.self=true->d'.self=true):zC out (out.set i d'):=λj e a=>by
 by_cases c:i=j
 ·subst c;rw [b]at a;injection a with a
  subst a;exact⟨d',List.getElem?_set_self (List.getElem?_eq_some_iff.1 b).1,k,l,o⟩
 ·exact⟨e,by rw [List.getElem?_set_ne c];exact a,rfl,λ_ h=>h,id⟩
theorem iB {al xs:Bool} {fx ln:Nat->Bool} {em:Bool} {d:Co}:(bF al xs fx ln em d).s=d.s:=by unfold bF;split<;>rfl
theorem rR {al xs:Bool} {fx ln:Nat->Bool} {em:Bool} {d:Co} {t:Nat} (h:d.f t=true):(bF al xs fx ln em d).f t=true:=by
 unfold bF
 split
 ·simp [h]
 ·exact h
theorem mE {al xs:Bool} {fx ln:Nat->Bool} {em:Bool} {d:Co} (h:d.self=true):(bF al xs fx ln em d).self=true:=by
 unfold bF
 split
 ·simp [h]
 ·exact h
theorem gq.hand {k y:Int} {rest:List Int} {i:Nat} {c d:Co} {al:Bool} (h:gq G st s out todo i0 x xs j) (R:(az G x)[j]? =some k) (z:rgt G st k=y::rest) (H:am G y=true) (u:out[i0]? =some c) (o:out[i]? =some d) (r:d.s=y) (hi:i∈todo)
  (D:al=true↔xs=true\/ ∃a,c.f a=true) (a3: ∀a,G.terms.length+1<=a->lnB G rest a=false):gq G st s (out.set i (bF al xs c.f (lnB G rest) (emB G rest) d)) todo i0 x xs (j+1):=by
 have E:k∈az G x:=Zk R;obtain⟨a6,B,K,C,L⟩:=h.cur;rw [u]at B;injection B with B
 subst B;have N:=(List.getElem?_eq_some_iff.1 o).1;have g:=DI (d':=bF al xs c.f (lnB G rest) (emB G rest) d) o iB (λa l=>rR l) mE;obtain⟨X,a7,I,J⟩:=h.snd c (Zk u);obtain⟨Y,Z,P,Q⟩:=h.snd d (Zk o);rw [K]at X I J;have ai:(bF al xs c.f (lnB G rest) (emB G rest) d).self=true->fR G st s y:=λe=>by
  unfold bF at e
  split at e
  ·rename_i f
   simp only [Zb,Za]at e;rcases e with e|⟨p,q⟩
   ·rw [<-r];exact P e
   ·exact .next x k y rest (I (C q)) E z H p
  ·rw [<-r];exact P e
 have ad: ∀a,(bF al xs c.f (lnB G rest) (emB G rest) d).f a=true->jB G st s y a:=λa e=>by
  unfold bF at e
  split at e
  ·rename_i f
   simp only [Zb,Za]at e;rcases e with(e|e)|⟨p,q⟩
   ·rw [<-r];exact Q a e
   ·rcases D.1 f with f|⟨W,a5⟩
    ·exact .self x k y rest a (I (C f)) E z H e
    ·exact .line x k y rest a W (J W a5) E z H e
   ·exact .pass x k y rest a (J a q) E z H p
  ·rw [<-r];exact Q a e
 refine⟨⟨?_,λe b=> ?_,λe b a l=> ?_,?_,λA f=> ?_⟩,λA e b f a4=> ?_,?_⟩
 ·rw [List.map_set,iB];have:(out.map Co.s).set i d.s=out.map Co.s:=by
   refine List.ext_getElem? λn=> ?_
   by_cases e:i=n
   ·subst e;rw [List.getElem?_set_self (by simpa using N),List.getElem?_map,o];rfl
   ·rw [List.getElem?_set_ne e]
  rw [this];exact h.nodup
 ·rcases List.mem_or_eq_of_mem_set b with b|b
  ·exact h.snd e b
  ·subst b;rw [iB];exact⟨Y,Z,λe=>by rw [r];exact ai e,λa e=>by rw [r];exact ad a e⟩
 ·rcases List.mem_or_eq_of_mem_set b with b|b
  ·exact h.hi e b a l
  ·subst b;unfold bF
   split
   ·simp only [h.hi d (Zk o) a l,a3 a l,h.hi c (Zk u) a l,Bool.and_false,Bool.or_false]
   ·exact h.hi d (Zk o) a l
 ·obtain⟨e,p,q,an⟩:=h.first;obtain⟨ak,aS,aT,-,a0⟩:=g 0 e p;exact⟨ak,aS,aT.trans q,a0 an⟩
 ·rw [Ze];exact h.low A f
 ·have a1:i≠A:=λe=>f (e▸hi)
  rw [List.getElem?_set_ne a1]at b;exact λO t=>(h.done A e b f a4 O t).grow g
 ·by_cases e:i=i0
  ·subst e;have:c=d:=by rw [u]at o;injection o
   subst this;exact⟨_,List.getElem?_set_self N,iB.trans K,λe=>mE (C e),λv=>absurd hi v⟩
  ·refine⟨c,by rw [List.getElem?_set_ne e];exact u,K,C,λv=>⟨(L v).1,λV O a8 t=> ?_⟩⟩;by_cases ap:V=j
   ·subst ap;rw [R]at t;injection t with t
    subst t;intro bb ba T a9;rw [z]at T;injection T with p q
    subst p q;have M:=(L v).1;refine⟨i,_,List.getElem?_set_self N,iB.trans r,λa2 a l=> ?_,λb=>⟨λa l=> ?_,λU=> ?_⟩⟩
    ·have f:al=true:=D.2 (a2.imp (λe=>by rw [<-M];exact e) id);unfold bF;rw [if_pos f];simp [l]
    ·have f:al=true:=D.2 (.inr ⟨a,l⟩);unfold bF;rw [if_pos f];simp [l,b]
    ·have f:al=true:=D.2 (.inl (by rw [<-M];exact U));unfold bF;rw [if_pos f];simp [<-M,U,b]
   ·exact((L v).2 V O (by omega) t).grow g
theorem gq.same {k y:Int} {rest:List Int} {i:Nat} {c d:Co} {al:Bool} (h:gq G st s out todo i0 x xs j) (M:(az G x)[j]? =some k) (O:rgt G st k=y::rest) (T:am G y=true) (v:out[i0]? =some c) (K:out[i]? =some d) (L:d.s=y)
  (q:al=true↔xs=true\/ ∃o,c.f o=true) (u:bF al xs c.f (lnB G rest) (emB G rest) d=d):gq G st s out todo i0 x xs (j+1):=by
 obtain⟨Q,f,I,J,p⟩:=h.cur;rw [v]at f;injection f with f
 subst f;refine⟨h.toCoSt,h.done,c,v,I,J,λt=>⟨(p t).1,λC P R b=> ?_⟩⟩;by_cases H:C=j
 ·subst H;rw [M]at b;injection b with b
  subst b;intro W V A U;rw [O]at A;injection A with D E
  subst D E;have r:=(p t).1;refine⟨i,d,K,L,λN o l=> ?_,λz=>⟨λo l=> ?_,λB=> ?_⟩⟩
  ·have a:al=true:=q.2 (N.imp (λe=>by rw [<-r];exact e) id);rw [<-u];unfold bF;rw [if_pos a];simp [l]
  ·have a:al=true:=q.2 (.inr ⟨o,l⟩);rw [<-u];unfold bF;rw [if_pos a];simp [l,z]
  ·have a:al=true:=q.2 (.inl (by rw [<-r];exact B));rw [<-u];unfold bF;rw [if_pos a];simp [<-r,B,z]
 ·exact(p t).2 C P (by omega) b
theorem gq.skip {k:Int} (h:gq G st s out todo i0 x xs j) (t:(az G x)[j]? =some k) (u: ∀b c,rgt G st k=b::c->am G b=false):gq G st s out todo i0 x xs (j+1):=by
 obtain⟨l,p,q,r,d⟩:=h.cur;refine⟨h.toCoSt,h.done,l,p,q,r,λe=>⟨(d e).1,λi y z a=> ?_⟩⟩;by_cases o:i=j
 ·subst o;rw [t]at a;injection a with a
  subst a;intro b c v f;rw [u b c v]at f;cases f
 ·exact(d e).2 i y (by omega) a
structure gP (G:ac) (st s:Int) (out:List Co):Prop where
 nodup:(out.map Co.s).Nodup
 mem: ∀y,(∃c∈out,c.s=y)↔Bg G st s y
 non: ∀c∈out,am G c.s=true
 self: ∀c∈out,c.self=true↔fR G st s c.s
 set: ∀c∈out,∀t,c.f t=true↔jB G st s c.s t
 hi: ∀c∈out,∀t,G.terms.length+1<=t->c.f t=false
theorem kL.is (h:kL G st s out []) (hb: ∀x k y,k∈az G x->aw G st (k,0)=(y,true)-> ∃rest,rgt G st k=y::rest):gP G st s out:=by
 have uniq: ∀{i j:Nat} {c d:Co},out[i]? =some c->out[j]? =some d->c.s=d.s->c=d:=fun{i j c d} hc hd e=>by
  have h1:(out.map Co.s)[i]? =some c.s:=by rw [List.getElem?_map,hc];rfl
  have h2:(out.map Co.s)[j]? =some c.s:=by rw [List.getElem?_map,hd,e];rfl
  have:=kj h.nodup h1 h2;subst this;rw [hc]at hd;injection hd
 have dn: ∀(i:Nat) c,out[i]? =some c-> ∀k∈az G c.s,nV G st out c k:=λi c hc=>h.done i c hc (λhm=>by cases hm)
 have kS: ∀y,fR G st s y-> ∃(j:Nat) (d:Co),out[j]? =some d/\d.s=y/\d.self=true:=λy hy=>by
  induction hy with
  |base=>obtain⟨c,h1,h2,h3⟩:=h.first;exact⟨0,c,h1,h2,h3⟩
  |next x k y rest _ hk hr hy he ih=>
   obtain⟨i,c,h1,h2,h3⟩:=ih;obtain⟨j,d,g1,g2,-,g4⟩:=dn i c h1 k (by rw [h2];exact hk) y rest hr hy;exact⟨j,d,g1,g2,(g4 he).2 h3⟩
 have kF: ∀y t,jB G st s y t-> ∃(j:Nat) (d:Co),out[j]? =some d/\d.s=y/\d.f t=true:=λy t hy=>by
  induction hy with
  |self x k y rest t hx hk hr hy hl=>
   obtain⟨i,c,h1,h2,h3⟩:=kS x hx;obtain⟨j,d,g1,g2,g3,-⟩:=dn i c h1 k (by rw [h2];exact hk) y rest hr hy;exact⟨j,d,g1,g2,g3 (.inl h3) t hl⟩
  |line x k y rest t u _ hk hr hy hl ih=>
   obtain⟨i,c,h1,h2,h3⟩:=ih;obtain⟨j,d,g1,g2,g3,-⟩:=dn i c h1 k (by rw [h2];exact hk) y rest hr hy;exact⟨j,d,g1,g2,g3 (.inr ⟨u,h3⟩) t hl⟩
  |pass x k y rest t _ hk hr hy he ih=>
   obtain⟨i,c,h1,h2,h3⟩:=ih;obtain⟨j,d,g1,g2,-,g4⟩:=dn i c h1 k (by rw [h2];exact hk) y rest hr hy;exact⟨j,d,g1,g2,(g4 he).1 t h3⟩
 refine⟨h.nodup,λy=>⟨?_,λhy=> ?_⟩,λc hc=>(h.snd c hc).2.1,λc hc=>⟨(h.snd c hc).2.2.1,λhs=> ?_⟩,λc hc t=>⟨(h.snd c hc).2.2.2 t,λhs=> ?_⟩,h.hi⟩
 ·rintro⟨c,hc,rfl⟩;exact(h.snd c hc).1
 ·induction hy with
  |base=>obtain⟨c,h1,h2,-⟩:=h.first;exact⟨c,Zk h1,h2⟩
  |next n k m _ hk hbe hm ih=>
   obtain⟨c,hc,rfl⟩:=ih;obtain⟨i,hi,e⟩:=Zc hc;obtain⟨rest,hr⟩:=hb c.s k m hk hbe;obtain⟨j,d,g1,g2,-⟩:=dn i c (by rw [List.getElem?_eq_getElem hi,e]) k hk m rest hr hm;exact⟨d,Zk g1,g2⟩
 ·obtain⟨j,d,g1,g2,g3⟩:=kS c.s hs;obtain⟨i,hi,e⟩:=Zc hc;have:=uniq (i:=i) (j:=j) (c:=c) (by rw [List.getElem?_eq_getElem hi,e]) g1 g2.symm;rw [this];exact g3
 ·obtain⟨j,d,g1,g2,g3⟩:=kF c.s t hs;obtain⟨i,hi,e⟩:=Zc hc;have:=uniq (i:=i) (j:=j) (c:=c) (by rw [List.getElem?_eq_getElem hi,e]) g1 g2.symm;rw [this];exact g3
def mJ (M:Nat) (c:Co):Nat:=eI c.f M+(if c.self=true then 0 else 1)
def fo (N M:Nat) (out:List Co):Nat:=(N - out.length) * (M+2)+(out.map (mJ M)).sum
theorem yG {g:Co->Nat} {d d':Co}: ∀{out:List Co} {i:Nat},out[i]? =some d->((out.set i d').map g).sum+g d=(out.map g).sum+g d'
 |[],i,h=>by simp at h
 |a::r,0,h=>by
  have:a=d:=by simpa using h
  subst this;simp only [List.set_cons_zero,Zh,List.sum_cons];omega
 |a::r,i+1,h=>by
  have:=yG (g:=g) (d':=d') (out:=r) (i:=i) (by simpa using h);simp only [List.set_cons_succ,Zh,List.sum_cons];omega
theorem rZ (M:Nat):eI aj M<=M:=by
 unfold eI;exact Nat.le_trans (List.length_filter_le _ _) (by simp)
theorem Cc {N M:Nat} {y:Int} (h:out.length<N):fo N M (out++[⟨y,aj,false⟩])<fo N M out:=by
 unfold fo;rw [Zd,Zf,Zg,List.sum_append];have d:(([⟨y,aj,false⟩]:List Co).map (mJ M)).sum<=M+1:=by
  simp only [Zh,List.map_nil,List.sum_cons,List.sum_nil,mJ];have:=rZ M;simp;omega
 obtain⟨a,e⟩: ∃a,N=out.length+1+a:=⟨N - out.length - 1,by omega⟩;have b:N - (out.length+1)=a:=by omega
 have c:N - out.length=a+1:=by omega
 rw [b,c,Nat.add_mul,Nat.one_mul];omega
theorem uT {N M:Nat} {i:Nat} {d d':Co} (a:out[i]? =some d) (h:mJ M d'<mJ M d):fo N M (out.set i d')<fo N M out:=by
 unfold fo;rw [Ze];have:=yG (g:=mJ M) (d':=d') a;omega
def fU (M:Nat) (d d':Co):Bool:=aE M d.f d'.f||(d'.self&& !d.self)
theorem xo {al xs:Bool} {fx ln:Nat->Bool} {em:Bool} {d:Co} {M:Nat} (h:fU M d (bF al xs fx ln em d)=true):mJ M (bF al xs fx ln em d)<mJ M d:=by
 have i:eI (bF al xs fx ln em d).f M<=eI d.f M:=rh (λf a=>rR a);unfold fU at h;unfold mJ;rw [Zb]at h;rcases h with h|h
 ·have:=sf h (λf a=>rR a);have e:d.self=true->(bF al xs fx ln em d).self=true:=mE
  split<;>split<;>rename_i b c<;>first|omega|exact absurd (e c) b
 ·simp only [Za,Bool.not_eq_true']at h;rw [if_pos h.1,h.2];simp;omega
theorem xm {al xs:Bool} {fx ln:Nat->Bool} {em:Bool} {d:Co} {M:Nat} (h:fU M d (bF al xs fx ln em d)=false) (k: ∀a,M<=a->(bF al xs fx ln em d).f a=false):bF al xs fx ln em d=d:=by
 unfold fU at h;rw [Bool.or_eq_false_iff]at h;have b:=lL h.1 (λa l=>rR l) k;have c:(bF al xs fx ln em d).self=d.self:=by
  have:=h.2;cases e:d.self with
  |true=>exact mE e
  |false=>rw [e]at this;simpa using this
 have f:=iB (al:=al) (xs:=xs) (fx:=fx) (ln:=ln) (em:=em) (d:=d);generalize bF al xs fx ln em d=i at *;obtain⟨o,q,t⟩:=d;obtain⟨p,r,u⟩:=i;simp only at b c f;subst b c f;rfl
theorem CoSt.len (h:CoSt G st s out todo):out.length<=G.nons.length:=by
 have:=lJ (G:=G) (l:=out.map Co.s) h.nodup (λx c=>by
  obtain⟨a,b,rfl⟩:=List.mem_map.1 c
  exact(h.snd a b).2.1)
 simpa using this
end
open Go.RowKit
attribute [local irreducible] wpStill aB aO
theorem aG.keep {w w':World} {b n:Nat} {f:Nat->Bool} {S:Nat->Prop} (h:aG w b S n f) (a:Below w.heap.size w w'):aG w' b S n f:=h.touch (aa.of_size a (λ_=>False)) (λ_ _ c=>c)
end Go.Proofs.YthlbjgabhpdbfaaGreat
namespace Go.Proofs.YthlbjgabhpdbfaaGreat
open Go.Proofs.Tryz
open Bool renaming and_eq_true->Za,or_eq_true->Zb
open List renaming getElem_of_mem->Zc,length_append->Zd,length_set->Ze,length_singleton->Zf,map_append->Zg,map_cons->Zh,mem_append->Zi,mem_append_left->Zj,mem_of_getElem?->Zk,mem_range->Zl,mem_singleton->Zm
open Nat renaming le_refl->Zn,lt_of_lt_of_le->Zo,zero_le->Zp
section
open Go.RowKit
attribute [local irreducible] wpStill aB aO
structure Fam (w:World) (g n m:Nat) (ps:Nat->Nat) (foot:Nat->Nat->Prop) (F:Nat->Nat->Bool):Prop where
 cell: ∀i,i<n->w.cell? ⟨g,i,none⟩=some (.pointer (some ⟨ps i,0,none⟩))
 set: ∀i,i<n->aG w (ps i) (foot i) m (F i)
 far: ∀i,i<n-> ¬foot i g
 apart: ∀i j k,i<n->j<n->foot i k->foot j k->i=j
 lt:g<w.heap.size
section
variable {w w' : World} {g n m : Nat} {ps : Nat -> Nat} {foot : Nat -> Nat -> Prop} {F : Nat -> Nat -> Bool} {S : Nat -> Prop}
theorem Fam.touch (h:Fam w g n m ps foot F) (b:aa S w w') (e: ¬S g) (d: ∀a,a<n-> ∀c,foot a c-> ¬S c):Fam w' g n m ps foot F:=
 ⟨λa hi=>b.cell (h.cell a hi) e,λa hi=>(h.set a hi).touch b (d a hi),h.far,h.apart,Zo h.lt b.size⟩
theorem Fam.below (h:Fam w g n m ps foot F) (a:Below w.heap.size w w'):Fam w' g n m ps foot F:=
 h.touch (aa.of_size a (λ_=>False)) (λh=>h) (λ_ _ _ _ h=>h)
theorem Fam.put (h:Fam w g n m ps foot F) {i:Nat} (hi:i<n) {f:Nat->Bool} (k:aG w' (ps i) (foot i) m f) (b:aa (foot i) w w'):Fam w' g n m ps foot (bv F i f):=by
 refine⟨λj a=>b.cell (h.cell j a) (h.far i hi),λj a=> ?_,h.far,h.apart,Zo h.lt b.size⟩;by_cases e:j=i
 ·subst e;rw [bm];exact k
 ·rw [cD e];exact(h.set j a).touch b λl c d=>e (h.apart j i l a hi c d)
theorem Fam.ext (h:Fam w g n m ps foot F) {F':Nat->Nat->Bool} (e: ∀a,a<n->F' a=F a):Fam w g n m ps foot F':=
 ⟨h.cell,λa hi=>by rw [e a hi];exact h.set a hi,h.far,h.apart,h.lt⟩
end
theorem fl {a b:Bool} (h:a=true↔b=true):a=b:=Bool.eq_iff_iff.2 h
theorem xE (t p:Nat) (x:Int) (w:World):Calls prog 272 #[.agg #[.int .i64 t,.int .i64 p],.int .i64 x] w (aI w (.bool (decide (0<=x)&&decide (x<=p)))):=by
 go_enter func272,ntmps272
 by_cases a:0<=x
 ·by_cases b:x<=(p:Int)
  ·go_wp2_with fail
   go_ret
   exact⟨af (fl (by simp<;>omega)),(Below.refl _ _).alloc (Zn _) _⟩
  ·go_wp2_with fail
   go_ret
   exact⟨af (fl (by simp<;>omega)),(Below.refl _ _).alloc (Zn _) _⟩
 ·go_wp2_with fail
  go_ret
  exact⟨af (fl (by simp<;>omega)),(Below.refl _ _).alloc (Zn _) _⟩
theorem BF (t p:Nat) (x:Int) (w:World):Calls prog 274 #[.agg #[.int .i64 t,.int .i64 p],.int .i64 x] w (aI w (.bool (decide ((t:Int)<x)&&decide (x<=p)))):=by
 go_enter func274,ntmps274
 by_cases a:(t:Int)<x
 ·by_cases b:x<=(p:Int)
  ·go_wp2_with fail
   go_ret
   exact⟨af (fl (by simp<;>omega)),(Below.refl _ _).alloc (Zn _) _⟩
  ·go_wp2_with fail
   go_ret
   exact⟨af (fl (by simp<;>omega)),(Below.refl _ _).alloc (Zn _) _⟩
 ·go_wp2_with fail
  go_ret
  exact⟨af (fl (by simp<;>omega)),(Below.refl _ _).alloc (Zn _) _⟩
theorem RdI.tail {w:World} {F:Nat->Prop} {a b n c:Nat} {xs:List Int} (h:RdI w F (.slice (some ⟨a,b,none⟩) n c) xs) {k:Nat} (u:k<=n):RdI w F (.slice (if c=k then some ⟨a,b,none⟩else some ⟨a,b+k,none⟩) (n - k) (c - k)) (xs.drop k):=by
 obtain⟨v,z,t,p⟩:=RdI.at_ h;refine⟨_,_,_,rfl,by omega,by omega,by simp;omega,λy=> ?_⟩;obtain⟨r,A,e,l,o⟩:=p (by omega);injection e with e
 injection e with f i _
 subst f i;rw [if_neg (by omega)];refine⟨_,_,rfl,l,λj B d=> ?_⟩;rw [List.getElem?_map,List.getElem?_drop]at d;obtain⟨x,q,rfl⟩:=Option.map_eq_some_iff.1 d;rw [Nat.add_assoc];exact o _ x q
theorem infoSetP:(prog.info? 257).map (λa=>(a.zero,a.size,a.bytes))=some (some (.pointer none),1,8):=by kernel_rfl
theorem elemSetP:dZ prog 253 257 (.pointer none) 1 8:=⟨underlying253,infoSetP,rfl,by decide⟩
abbrev aq (b:Nat):Value:= .pointer (some ⟨b,0,none⟩)
structure nN (w wr:World) (A:Option Addr) (k c m:Nat) (ps:Nat->Nat) (foot:Nat->Nat->Prop):Prop where
 own:wr.ownsRow w.heap.size 257 1 (.slice A k c) k ((List.range k).map λi=>aq (ps i))
 set: ∀i,i<k->aG wr (ps i) (foot i) m aj
 low: ∀i q,i<k->foot i q->w.heap.size<=q/\q<wr.heap.size/\(Value.slice A k c).ownBlock≠some q
 apart: ∀i j q,i<k->j<k->foot i q->foot j q->i=j
 b:Below w.heap.size w wr
theorem nN.zero (w:World) (m:Nat):nN w w none 0 0 m (λ_=>0) (λ_ _=>False):=
 ⟨World.ownsRow_nil _ _ _ _,λa hi=>absurd hi (by omega),λa b hi=>absurd hi (by omega),λa j b hi=>absurd hi (by omega),Below.refl _ _⟩
theorem nN.push {w wr w1 w2 w3:World} {A B:Option Addr} {k c d m b:Nat} {ps:Nat->Nat} {foot:Nat->Nat->Prop} {o:Obj} (h:nN w wr A k c m ps foot) (O:aG w1 b (New (λ_=>False) wr w1) m aj) (I:Below wr.heap.size wr w1) (z:w2=w1.alloc o)
  (M:w3.ownsRow w.heap.size 257 1 (.slice B (k+1) d) (k+1) (((List.range k).map λi=>aq (ps i))++[aq b])) (J:w2.grownBy w3 (Value.slice A k c).ownBlock) (r:(Value.slice B (k+1) d).ownBlock=(Value.slice A k c).ownBlock\/(Value.slice B (k+1) d).ownBlock=some w2.heap.size):
  nN w w3 B (k+1) d m (λi=>if i=k then b else ps i) (λi=>if i=k then New (λ_=>False) wr w1 else foot i):=by
 have P:=h.b.size;have Q:=I.size;have V:w2.heap.size=w1.heap.size+1:=by rw [z];simp
 have W:=J.size;have K: ∀a,(Value.slice A k c).ownBlock=some a->a<wr.heap.size:=λa f=>(h.own.lt a f).2
 have N: ∀a,(Value.slice A k c).ownBlock=some a->w.heap.size<=a:=λa f=>(h.own.lt a f).1
 have E:Below wr.heap.size wr w2:=by rw [z];exact I.alloc Q _
 have L:Below w1.heap.size w1 w2:=by rw [z];exact(Below.refl _ _).alloc (Zn _) _
 have D:aa (λa=>(Value.slice A k c).ownBlock=some a) w2 w3:=(aa.refl _ w2).grown J (λa f _=>f);have v: ∀a,New (λ_=>False) wr w1 a->wr.heap.size<=a/\a<w1.heap.size:=λa f=>by
  rcases f with f|f
  ·exact f.elim
  ·exact f
 have H: ∀a,(Value.slice B (k+1) d).ownBlock=some a->a<wr.heap.size/\(Value.slice A k c).ownBlock=some a\/a=w2.heap.size:=λa f=>by
  rcases r with r|r
  ·rw [r]at f;exact .inl ⟨K a f,f⟩
  ·rw [r]at f;injection f with f;exact .inr f.symm
 refine⟨?_,λi hi=> ?_,λi a hi f=> ?_,λi j a hi U l p=> ?_,(h.b.trans (E.mono P)).trans (D.below (λa f _ q=>by have:=N a q;omega) (by omega))⟩
 ·have e:(List.range (k+1)).map (λi=>aq (if i=k then b else ps i))=((List.range k).map λi=>aq (ps i))++[aq b]:=by
   rw [List.range_succ,Zg];congr 1
   ·refine List.map_congr_left λi hi=> ?_
    have:=Zl.1 hi;rw [if_neg (by omega)]
   ·simp
  rw [e];exact M
 ·by_cases e:i=k
  ·subst e;simp only [if_true];exact(O.touch (aa.of_size L (λ_=>False)) (λ_ _ h=>h)).touch D λa f q=>by have:=v a f;have:=K a q;omega
  ·simp only [if_neg e];have:=h.set i (by omega);exact(this.touch (aa.of_size E (λ_=>False)) (λ_ _ h=>h)).touch D λa f q=>(h.low i a (by omega) f).2.2 q
 ·by_cases e:i=k
  ·subst e;simp only [if_true]at f;have:=v a f;refine⟨by omega,by omega,λC=> ?_⟩;rcases H a C with u|u<;>omega
  ·simp only [if_neg e]at f;obtain⟨R,X,T⟩:=h.low i a (by omega) f;refine⟨R,by omega,λC=> ?_⟩;rcases H a C with u|u
   ·exact T u.2
   ·omega
 ·by_cases y:i=k
  ·by_cases t:j=k
   ·omega
   ·subst y;simp only [if_true]at l;simp only [if_neg t]at p;have:=v a l;have:=h.low j a (by omega) p;omega
  ·by_cases t:j=k
   ·subst t;simp only [if_true]at p;simp only [if_neg y]at l;have:=v a p;have:=h.low i a (by omega) l;omega
   ·simp only [if_neg y]at l;simp only [if_neg t]at p;exact h.apart i j a (by omega) (by omega) l p
theorem nN.fam {w wr:World} {A:Option Addr} {k c m:Nat} {ps:Nat->Nat} {foot:Nat->Nat->Prop} (h:nN w wr A k c m ps foot) (z:0<k): ∃g,A=some ⟨g,0,none⟩/\w.heap.size<=g/\g<wr.heap.size/\k<=c/\c<=9223372036854775807/\Fam wr g k m ps foot (λ_=>aj):=by
 have b:=h.own.lt;rcases h.own.2 with⟨d,v⟩|⟨g,r,f,d,y,p,B,l,C,q⟩
 ·injection d with _ d;omega
 ·injection d with i t u
  subst i;have b:=b g rfl;refine⟨g,rfl,b.1,b.2,by omega,by unfold maxLen at l;omega,λa hi=> ?_,h.set,λa hi o=> ?_,h.apart,b.2⟩
  ·rw [cell_of_row wr g a f _ (0,0) p];have e:((List.range k).map λa=>aq (ps a))[a]? =some (aq (ps a)):=by simp [hi]
   rw [<-q,List.getElem?_take]at e
   split at e
   ·simpa using e
   ·cases e
  ·exact(h.low a g hi o).2.2 rfl
def vC (w:World) (n m:Nat) (e:Ending) (w':World):Prop:= ∃g c ps foot,e= .returned (.slice (some ⟨g,0,none⟩) n c)/\n<=c/\c<=9223372036854775807/\w.heap.size<=g/\g<w'.heap.size/\(∀i q,i<n->foot i q->w.heap.size<=q/\q<w'.heap.size)/\Fam w' g n m ps foot (λ_=>aj)/\Below w.heap.size w w'
theorem qQ (w:World) (n m:Nat) (Q:1<=n/\n<=4096) (hm:m<=4096):Calls prog 251 #[.int .i64 n,.int .i64 m] w (vC w n m):=by
 go_enter func251,ntmps251
 go_wp2_with fail
 go_loopw [5,7] (λN c wr=> ∃(a:Nat) (f:Option Addr) (d:Nat) (ps:Nat->Nat) (foot:Nat->Nat->Prop),a<=n/\c= .int .i64 a/\N= .slice f a d/\nN w wr f a d m ps foot) (λ_ c _=>n - (intOf c).toNat)
 case atStart=>exact⟨0,none,0,_,_,Zp _,rfl,rfl,nN.zero w m⟩
 case round=>
  obtain⟨a,f,d,ps,foot,O,rfl,rfl,b⟩:=hrel;by_cases P:a<n
  ·have J:(a:Int)<(n:Int):=by omega
   have h:=ab b;clear b
   go_wp2_with fail
   refine(kZ _ wr).mono ?_;rintro e w1 ⟨rfl,k,i⟩;rw [show(min (max (m:Int) 0) 4096).toNat=m by omega]at k;have M:=ah h.out.own i;have R:=h.out.b.size;have T:=i.size;obtain⟨y,u⟩:=av k i;clear k i
   go_wp2_with (at_builtin;refine aJ _ rfl (.tmp 9) (.tmp 12) _ rfl elemSetP w.heap.size _ a _ rfl (M.alloc _) _ _ [aq (wr.heap.size+1)] 1 rfl rfl (Rd.one [aq (wr.heap.size+1)] 1 rfl) (by simp [Value.oneCell',aq]) (by unfold maxLen;omega) (by omega) (by simp;omega) ?_)
   intro t A w2 K I L;have r:=h.out.push y.out u.out rfl K I (by simpa using L);have z:=ab r;clear r
   go_wp2_with fail
   go_roundw
   case rel=>exact⟨a+1,t,A,_,_,by omega,by go_num,rfl,z.out⟩
   case measure=>simp [intOf];omega
  ·have o:a=n:=by omega
   have J: ¬(a:Int)<(n:Int):=by omega
   have l:vC w n m (.returned (.slice f a d)) wr:=by
    subst o;obtain⟨g,rfl,B,C,D,E,H⟩:=b.fam (by omega);exact⟨g,d,ps,foot,rfl,D,E,B,C,λc q hi p=>⟨(b.low c q hi p).1,(b.low c q hi p).2.1⟩,H,b.b⟩
   obtain⟨h,v⟩:=av b l;clear b l;clear o
   go_wp2_with fail
   go_ret
   exact v.out
end
section
open Go.RowKit
attribute [local irreducible] wpStill aB aO
theorem j1 {w:World} {b n:Nat} {f:Nat->Bool} {S:Nat->Prop} (h:aG w b S n f) (i:Int):
  Calls prog 197 #[aq b,.int .i64 i] w λe w'=>e= .returned (.bool (eK n f i))/\aG w' b S n (cJ n f i)/\aa S w w':=by
 cases a:eK n f i with
 |false=>exact(zN h i a).mono λe w' ⟨d,c⟩=>⟨d,by rw [uN a,<-c];exact h,by rw [<-c];exact aa.refl _ _⟩
 |true=>exact xZ h i a
theorem nd {w:World} {b m i:Nat} {f g:Nat->Bool} {S l:Nat->Prop} (h:aG w b S m f) (c:aG w i l m g):
  Calls prog 232 #[aq b,aq i] w (pq w b S m (λa=>f a||g a) (aE m f (λa=>f a||g a))):=by
 have o:me (min m m) f g=λa=>f a||g a:=by
  funext a
  unfold me;rw [Nat.min_self];cases d:decide (a<m)with
  |true=>simp
  |false=>have:=c.high a (by simpa using d);simp [this]
 have p:nO (min m m) f g=aE m f (λa=>f a||g a):=by
  rw [Nat.min_self];refine fl ?_;unfold nO;rw [ik,List.any_eq_true];constructor
  ·rintro⟨a,d,e⟩;simp only [Za,Bool.not_eq_true']at e;exact⟨a,Zl.1 d,by simp [e.1],e.2⟩
  ·rintro⟨a,d,k,c⟩;rw [c]at k;exact⟨a,Zl.2 d,by simpa [c]using k⟩
 have:=B7 h c;rwa [o,p]at this
structure lp (R:World->(Nat->Bool)->Prop) (s T p pe g c n m b:Nat) (Se S:Nat->Prop) (e:Nat->Bool) (bs:Nat->Nat) (Gf:Nat->(Nat->Bool)->Nat->Bool):Prop where
 tq9: ∀{w f},R w f->aG w b S m f
 cells: ∀{w f},R w f->w.cell? ⟨s,0,none⟩=some (.int .i64 T)/\w.cell? ⟨s,1,none⟩=some (.int .i64 p)/\w.cell? ⟨s,2,none⟩=some (aq pe)/\w.cell? ⟨s,3,none⟩=some (.slice (some ⟨g,0,none⟩) n c)
 em: ∀{w f},R w f->aG w pe Se n e
 el: ∀{w f},R w f-> ∀i,i<n->w.cell? ⟨g,i,none⟩=some (aq (bs i))/\ ∃Si,aG w (bs i) Si m (Gf i f)
 up: ∀{w w' f f'},R w f->aG w' b S m f'->aa S w w'->R w' f'
 np:n=p+1
 cap:n<=c/\c<=9223372036854775807/\n<=4096
theorem lp.below {R:World->(Nat->Bool)->Prop} {s T p o g c n m b:Nat} {k S:Nat->Prop} {e:Nat->Bool} {l:Nat->Nat} {i:Nat->(Nat->Bool)->Nat->Bool} (h:lp R s T p o g c n m b k S e l i) {w w':World} {f:Nat->Bool} (d:R w f) (a:Below w.heap.size w w'):R w' f:=
 h.up d ((h.tq9 d).keep a) ((aa.of_size a (λ_=>False)).mono λ_ _ h=>h.elim)
def fC (R:World->(Nat->Bool)->Prop) (S:Nat->Prop) (w:World) (m:Nat) (f0 f:Nat->Bool) (all:Bool) (e:Ending) (w':World):Prop:=e= .returned (.tuple #[.bool (aE m f0 f),.bool all])/\R w' f/\aa S w w'
theorem jw {R:World->(Nat->Bool)->Prop} {s T p pe g c n m b:Nat} {Se S:Nat->Prop} {e:Nat->Bool} {bs:Nat->Nat} {Gf:Nat->(Nat->Bool)->Nat->Bool} (L:lp R s T p pe g c n m b Se S e bs Gf) {bg:Nat->Nat->Bool} {f0:Nat->Bool} (hal: ∀i,i<n->(∀f,Gf i f=bg i)\/((∀f,Gf i f=f)/\bg i=f0))
  {w:World} (hw:R w f0) {F:Nat->Prop} {v:Value} {l:List Int} (hl:RdI w F v l) (hF: ∀k,F k-> ¬S k):
  Calls prog 252 #[aq s,aq b,v] w (fC R S w m f0 (bM f0 (aF n e) (aV n bg) l) (l.all (aF n e))):=by
 obtain⟨A,q,d,rfl,-⟩:=id hl;obtain⟨hn,hnd,hdm,hcell⟩:=RdI.at_ hl;unfold maxLen at hdm;have hm:=(L.tq9 hw).high;have hgh: ∀i,i<n-> ∀t,m<=t->bg i t=false:=λi hi t ht=>by
  obtain⟨-,Si,hs⟩:=L.el hw i hi;rcases hal i hi with h|⟨h1,h2⟩
  ·rw [<-h f0];exact hs.high t ht
  ·rw [h2];exact hm t ht
 have hjoin: ∀(f:Nat->Bool) (i:Nat),i<n->(∀t,f0 t=true->f t=true)->me (min m m) f (Gf i f)=λt=>f t||bg i t:=λf i hi hf=>by
  funext t
  unfold me;rw [Nat.min_self];rcases hal i hi with h|⟨h1,h2⟩
  ·rw [h f];cases ht:decide (t<m)with
   |true=>simp
   |false=>have:=hgh i hi t (by simpa using ht);simp [this]
  ·rw [h1 f,h2];cases h3:f t with
   |true=>simp
   |false=>
    have:f0 t=false:=by cases h4:f0 t with
     |false=>rfl
     |true=>rw [hf t h4]at h3;cases h3
    simp [this]
 obtain⟨np,nc,cm,nm⟩:=And.intro L.np L.cap;have hw0:=hw;obtain⟨Xhn,Xhl,XhF,Xhm,Xhgh,Xhjoin,Xhal,XL,Xhw0,Xnp⟩:=fp hn hl hF hm hgh hjoin hal L hw0 np;clear hn hl hF hm hgh hjoin hal L hw0 np;clear hw
 go_enter func252,ntmps252
 go_wp2_with fail
 go_loopw [8,13] (λmo i wr=> ∃(k:Nat) (f:Nat->Bool),k<=q/\i= .int .i64 k/\f=bM f0 (aF n e) (aV n bg) (l.take k)/\mo= .bool (aE m f0 f)/\(l.take k).all (aF n e)=true/\R wr f/\aa S w wr) (λ_ i _=>q - (intOf i).toNat)
 case atStart=>exact⟨0,f0,Zp _,rfl,by funext t;simp [bM,db],by rw [oH],rfl,Xhw0.out,aa.refl _ _⟩
 case round=>
  obtain⟨k,f,hk,rfl,hf,rfl,hall,hR,ht⟩:=hrel;have hf0: ∀t,f0 t=true->f t=true:=λt h=>by rw [hf];exact gC t h
  by_cases hlt:k<q
  ·have hlt':(k:Int)<(q:Int):=by omega
   obtain⟨bb,off,rfl,hFb,hc1⟩:=hcell (by omega);obtain⟨x,hx⟩: ∃x,l[k]? =some x:=⟨_,List.getElem?_eq_getElem (by rw [<-Xhn.out];exact hlt)⟩;have hcx:=ht.cell (hc1 k x hx) (XhF.out _ hFb);obtain⟨s0,s1,s2,s3⟩:=XL.out.cells hR;obtain⟨mo,hmo⟩: ∃mo,mo=aE m f0 f:=⟨_,rfl⟩;rw [<-hmo];clear hcell hc1;obtain⟨Xhx,Xhf,Xhall,XhR,Xht,Xhf0,Xhmo⟩:=de hx hf hall hR ht hf0 hmo;clear hx hf hall hR ht hf0 hmo
   go_wp2_with fail
   refine(xE T p x wr).mono ?_;rintro ee w2 ⟨rfl,b2⟩;have hR2:=XL.out.below XhR.out b2;have ht2:aa S w w2:=Xht.out.trans' ((aa.of_size b2 (λ_=>False)).mono λ_ _ h=>h.elim);clear s0 s1 s2 s3 hcx XhR Xht;by_cases hin:0<=x/\x<=(p:Int)
   case neg=>
    have hsy:(decide (0<=x)&&decide (x<=(p:Int)))=false:=by
     rw [Bool.and_eq_false_iff,decide_eq_false_iff_not,decide_eq_false_iff_not];omega
    have hno:x<0\/(n:Int)<=x:=(by have:=Xnp.out;omega);have he:aF n e x=false:=yT hno;have hff:bM f0 (aF n e) (aV n bg) l=f:=by
     rw [Xhf.out]
     funext t
     unfold bM;rw [oI Xhx.out he,nW Xhx.out,oJ Xhall.out,EO hno];simp
    have fin:fC R S w m f0 (bM f0 (aF n e) (aV n bg) l) (l.all (aF n e)) (.returned (.tuple #[.bool mo,.bool false])) w2:=⟨by rw [hff,xu Xhx.out he,Xhmo.out],by rw [hff];exact hR2,ht2⟩;rw [hsy];clear b2 hff hno hin;obtain⟨Xfin,XhR2,Xht2,Xhe⟩:=aA fin hR2 ht2 he;clear fin hR2 ht2 he
    go_wp2_with fail
    go_ret2
    exact Xfin.out
   case pos=>
    have hsy:(decide (0<=x)&&decide (x<=(p:Int)))=true:=by
     rw [decide_eq_true hin.1,decide_eq_true hin.2];rfl
    rw [hsy];obtain⟨i,rfl⟩:=Int.eq_ofNat_of_zero_le hin.1;have hi:i<n:=(by have:=Xnp.out;omega);have hi2:(i:Int)<(n:Int):=(by omega);obtain⟨s0,s1,s2,s3⟩:=XL.out.cells hR2;obtain⟨hc,Si,hsi⟩:=XL.out.el hR2 i hi;have hto:=XL.out.tq9 hR2;have hor:=B7 hto hsi;rw [Xhjoin.out f i hi Xhf0.out]at hor;have hoa:nO (min m m) f (Gf i f)=aE m f (λt=>f t||bg i t):=by
     rw [<-Xhjoin.out f i hi Xhf0.out,Nat.min_self];refine fl ?_;unfold nO;rw [ik,List.any_eq_true];constructor
     ·rintro⟨t,ht,h⟩;simp only [Za,Bool.not_eq_true']at h;have ht':=Zl.1 ht;exact⟨t,ht',by unfold me;simp [h.1,ht'],h.2⟩
     ·rintro⟨t,ht,h1,h2⟩;unfold me at h1;rw [h2]at h1;simp only [Bool.false_or,Za]at h1;exact⟨t,Zl.2 ht,by simp [h1.1,h2]⟩
    rw [hoa]at hor;have hf2:(λt=>f t||bg i t)=bM f0 (aF n e) (aV n bg) (l.take (k+1)):=by
     funext t
     rw [Xhf.out];unfold bM;rw [nW Xhx.out,oJ Xhall.out,iX hi,Bool.or_assoc]
    have hmm:(aE m f (λt=>f t||bg i t)||mo)=aE m f0 (λt=>f t||bg i t):=by
     rw [Xhmo.out];exact jU Xhf0.out (λt h=>by simp [h])
    obtain⟨f2,hf2'⟩: ∃f2,f2=λt=>f t||bg i t:=⟨_,rfl⟩
    rw [<-hf2']at hor hf2 hmm;clear hoa hf2';generalize hmo2:aE m f f2=mo2 at *;clear b2 hmo2;obtain⟨XhR2,Xht2,Xhto,Xhsi,Xhor,Xhf2,Xhmm⟩:=de hR2 ht2 hto hsi hor hf2 hmm;clear hR2 ht2 hto hsi hor hf2 hmm
    go_wp2_with fail
    refine Xhor.out.mono ?_;rintro ee w3 ⟨rfl,hs3,t3⟩;have hR3:=XL.out.up XhR2.out hs3 t3;have ht3:=Xht2.out.trans' t3;clear s0 s1 s2 s3 hc Xht2 XhR2 Xhto Xhsi hs3 t3 Xhor;obtain⟨s0,s1,s2,s3⟩:=XL.out.cells hR3;have hem:=XL.out.em hR3;have hlast: ∀b,aF n e (i:Int)=false->b=aE m f0 f2->fC R S w m f0 (bM f0 (aF n e) (aV n bg) l) (l.all (aF n e)) (.returned (.tuple #[.bool b,.bool false])) w3:=λb he hb=>by
     have hff:bM f0 (aF n e) (aV n bg) l=f2:=by
      rw [Xhf2.out]
      funext t
      unfold bM;rw [oI Xhx.out he]
     exact⟨by rw [hff,xu Xhx.out he,hb],by rw [hff];exact hR3,ht3⟩
    have hnext:aF n e (i:Int)=true->(l.take (k+1)).all (aF n e)=true:=λhe=>E7 Xhx.out Xhall.out he
    cases mo2 with
    |true=>
     have hmm2:true=aE m f0 f2:=Xhmm.out;obtain⟨Xhlast,Xhnext,XhR3,Xht3,Xhem,Xhmm2⟩:=aM hlast hnext hR3 ht3 hem hmm2;clear hlast hnext hR3 ht3 hem hmm2
     go_wp2_with fail
     refine(yI Xhem.out (i:Int)).mono ?_;rintro ee w4 ⟨rfl,rfl⟩;cases he:aF n e (i:Int)with
     |false=>
      have fin:=Xhlast.out true he Xhmm2.out;have Xfin:=ab fin;clear fin
      go_wp2_with fail
      go_ret2
      exact Xfin.out
     |true=>
      have hall2:=Xhnext.out he;have Xhall2:=ab hall2;clear hall2
      go_wp2_with fail
      go_roundw
      case rel=>exact⟨k+1,f2,by omega,by go_num,Xhf2.out,by rw [<-Xhmm2.out],Xhall2.out,XhR3.out,Xht3.out⟩
      case measure=>simp [intOf];omega
    |false=>
     have hmm2:mo=aE m f0 f2:=Xhmm.out;obtain⟨Xhlast,Xhnext,XhR3,Xht3,Xhem,Xhmm2⟩:=aM hlast hnext hR3 ht3 hem hmm2;clear hlast hnext hR3 ht3 hem hmm2
     go_wp2_with fail
     refine(yI Xhem.out (i:Int)).mono ?_;rintro ee w4 ⟨rfl,rfl⟩;cases he:aF n e (i:Int)with
     |false=>
      have fin:=Xhlast.out mo he Xhmm2.out;have Xfin:=ab fin;clear fin
      go_wp2_with fail
      go_ret2
      exact Xfin.out
     |true=>
      have hall2:=Xhnext.out he;have Xhall2:=ab hall2;clear hall2
      go_wp2_with fail
      go_roundw
      case rel=>exact⟨k+1,f2,by omega,by go_num,Xhf2.out,by rw [<-Xhmm2.out],Xhall2.out,XhR3.out,Xht3.out⟩
      case measure=>simp [intOf];omega
  ·have hkq:k=q:=by omega
   have hlt': ¬(k:Int)<(q:Int):=by omega
   have hk2:l.take k=l:=List.take_of_length_le (by have:=Xhn.out;omega);rw [hk2]at hf hall;subst hf;have fin:fC R S w m f0 (bM f0 (aF n e) (aV n bg) l) (l.all (aF n e)) (.returned (.tuple #[.bool (aE m f0 (bM f0 (aF n e) (aV n bg) l)),.bool true])) wr:=⟨by rw [hall],hR,ht⟩;generalize aE m f0 (bM f0 (aF n e) (aV n bg) l)=mo at *;obtain⟨Xfin,Xhall,XhR,Xht,Xhf0,Xhk2⟩:=aM fin hall hR ht hf0 hk2;clear fin hall hR ht hf0 hk2;clear hkq
   go_wp2_with fail
   go_ret2
   exact Xfin.out
end
end Go.Proofs.YthlbjgabhpdbfaaGreat

/- Lookaheads: plain laws: what comes with a nonterminal. Of no program. -/
import Derived.Test.YthlbjgabhpdbfaaGreatAFirstPlain
import Derived.Test.YthlbjgabhpdbfaaGreatAItemLay
import Derived.Test.YthlbjgabhpdbfaaGreatAG7
namespace Go.Proofs.YthlbjgabhpdbfaaGreat
set_option linter.unusedVariables false
def rgt (G:GramD) (st k:Int):List Int:=(ruleOf G st k).1.2
noncomputable def lnB (G:GramD) (l:List Int) (t:Nat):Bool:=lineB (hasI (topN G) (empB G)) (famI (topN G) (begB G)) l t
noncomputable def emB (G:GramD) (l:List Int):Bool:=l.all (hasI (topN G) (empB G))
inductive CSelf (G:GramD) (st s:Int):Int->Prop
 |base:CSelf G st s s
 |next (x k y:Int) (rest:List Int):CSelf G st s x->k∈ofOf G x->rgt G st k=y::rest->isNon G y=true->emB G rest=true->CSelf G st s y
inductive CSet (G:GramD) (st s:Int):Int->Nat->Prop
 |self (x k y:Int) (rest:List Int) (t:Nat):CSelf G st s x->k∈ofOf G x->rgt G st k=y::rest->isNon G y=true->lnB G rest t=true->CSet G st s y t
 |line (x k y:Int) (rest:List Int) (t u:Nat):CSet G st s x u->k∈ofOf G x->rgt G st k=y::rest->isNon G y=true->lnB G rest t=true->CSet G st s y t
 |pass (x k y:Int) (rest:List Int) (t:Nat):CSet G st s x t->k∈ofOf G x->rgt G st k=y::rest->isNon G y=true->emB G rest=true->CSet G st s y t
structure Co where
 s:Int
 f:Nat->Bool
 self:Bool
def Co.live (c:Co):Prop:=c.self=true\/ ∃t,c.f t=true
def DoneC (G:GramD) (st:Int) (out:List Co) (c:Co) (k:Int):Prop:= ∀y rest,rgt G st k=y::rest->isNon G y=true-> ∃(j:Nat) (d:Co),out[j]? =some d/\d.s=y/\(c.live-> ∀t,lnB G rest t=true->d.f t=true)/\(emB G rest=true->(∀t,c.f t=true->d.f t=true)/\(c.self=true->d.self=true))
structure CoSt (G:GramD) (st s:Int) (out:List Co) (todo:List Nat):Prop where
 nodup:(out.map Co.s).Nodup
 snd: ∀c∈out,Bg G st s c.s/\isNon G c.s=true/\(c.self=true->CSelf G st s c.s)/\ ∀t,c.f t=true->CSet G st s c.s t
 hi: ∀c∈out,∀t,G.terms.length+1<=t->c.f t=false
 first: ∃c,out[0]? =some c/\c.s=s/\c.self=true
 low: ∀i∈todo,i<out.length
structure CoAll (G:GramD) (st s:Int) (out:List Co) (todo:List Nat):Prop extends CoSt G st s out todo where
 done: ∀(i:Nat) c,out[i]? =some c->i∉todo-> ∀k∈ofOf G c.s,DoneC G st out c k
structure CoIn (G:GramD) (st s:Int) (out:List Co) (todo:List Nat) (i0:Nat) (x:Int) (xs:Bool) (j:Nat):Prop extends CoSt G st s out todo where
 done: ∀(i:Nat) c,out[i]? =some c->i∉todo->i≠i0-> ∀k∈ofOf G c.s,DoneC G st out c k
 cur: ∃c,out[i0]? =some c/\c.s=x/\(xs=true->c.self=true)/\(i0∉todo->c.self=xs/\ ∀(j':Nat) k,j'<j->(ofOf G x)[j']? =some k->DoneC G st out c k)
section
variable {G : GramD} {st s : Int} {out : List Co} {todo : List Nat} {i0 j : Nat} {x : Int} {xs : Bool}
def GrowC (out out':List Co):Prop:= ∀(j:Nat) d,out[j]? =some d-> ∃d',out'[j]? =some d'/\d'.s=d.s/\(∀t,d.f t=true->d'.f t=true)/\(d.self=true->d'.self=true)
theorem DoneC.grow {out':List Co} {c:Co} {k:Int} (h:DoneC G st out c k) (g:GrowC out out'):DoneC G st out' c k:=fun y rest h1 h2=>by
 obtain⟨j,d,h3,h4,h5,h6⟩:=h y rest h1 h2
 obtain⟨d',g1,g2,g3,g4⟩:=g j d h3
 exact⟨j,d',g1,g2.trans h4,fun hl t ht=>g3 t (h5 hl t ht),fun he=>⟨fun t ht=>g3 t ((h6 he).1 t ht),fun hs=>g4 ((h6 he).2 hs)⟩⟩
theorem CoAll.start (h:isNon G s=true):CoAll G st s [⟨s,noBits,true⟩] [0] where
 nodup:=by simp
 snd:=fun c hc=>by
  rw [List.mem_singleton]at hc
  subst hc
  exact⟨.base,h,fun _=> .base,fun t ht=>by cases ht⟩
 hi:=fun c hc t _=>by rw [List.mem_singleton]at hc;subst hc;rfl
 first:=⟨_,rfl,rfl,rfl⟩
 low:=fun i hi=>by rw [List.mem_singleton]at hi;subst hi;simp
 done:=fun i c hc hi=>by
  have:i=0:=by have:=(List.getElem?_eq_some_iff.1 hc).1;simp at this;omega
  subst this
  exact absurd (List.mem_singleton.2 rfl) hi
theorem CoAll.pop {c:Co} (h:CoAll G st s out (i0::todo)) (hc:out[i0]? =some c):CoIn G st s out todo i0 c.s c.self 0 where
 nodup:=h.nodup
 snd:=h.snd
 hi:=h.hi
 first:=h.first
 low:=fun i hi=>h.low i (List.mem_cons_of_mem _ hi)
 done:=fun i d hd hi hne=>h.done i d hd (fun hm=>(List.mem_cons.1 hm).elim hne hi)
 cur:=⟨c,hc,rfl,id,fun _=>⟨rfl,fun j' k hj=>by omega⟩⟩
theorem CoIn.end_ (h:CoIn G st s out todo i0 x xs j) (hj:(ofOf G x).length<=j):CoAll G st s out todo where
 nodup:=h.nodup
 snd:=h.snd
 hi:=h.hi
 first:=h.first
 low:=h.low
 done:=fun i d hd hi k hk=>by
  by_cases e:i=i0
  ·subst e
   obtain⟨c,h1,h2,-,h3⟩:=h.cur
   rw [h1]at hd
   injection hd with hd
   subst hd
   rw [h2]at hk
   obtain⟨j',hj',e'⟩:=List.getElem_of_mem hk
   exact(h3 hi).2 j' k (by omega) (by rw [List.getElem?_eq_getElem hj',e'])
  ·exact h.done i d hd hi e k hk
theorem CoIn.push {i:Nat} (h:CoIn G st s out todo i0 x xs j) (hi:i<out.length):CoIn G st s out (todo++[i]) i0 x xs j where
 nodup:=h.nodup
 snd:=h.snd
 hi:=h.hi
 first:=h.first
 low:=fun k hk=>(List.mem_append.1 hk).elim (h.low k) (fun hk=>by rw [List.mem_singleton.1 hk];exact hi)
 done:=fun k d hd hk hne=>h.done k d hd (fun hm=>hk (List.mem_append_left _ hm)) hne
 cur:=by
  obtain⟨c,h1,h2,h3,h4⟩:=h.cur
  exact⟨c,h1,h2,h3,fun hn=>h4 (fun hm=>hn (List.mem_append_left _ hm))⟩
theorem grow_snoc (out:List Co) (d:Co):GrowC out (out++[d]):=fun j e he=>⟨e,by rw [List.getElem?_append_left (List.getElem?_eq_some_iff.1 he).1];exact he,rfl,fun _ h=>h,id⟩
theorem CoIn.new {k y:Int} {rest:List Int} (h:CoIn G st s out todo i0 x xs j) (hk:k∈ofOf G x) (hr:rgt G st k=y::rest) (hy:isNon G y=true) (hn:y∉out.map Co.s) (hb: ∀k y rest,rgt G st k=y::rest->k∈ofOf G x->behindI G st (k,0)=(y,true)):CoIn G st s (out++[⟨y,noBits,false⟩]) (todo++[out.length]) i0 x xs j where
 nodup:=by
  rw [List.map_append,List.nodup_append]
  refine⟨h.nodup,by simp,fun a ha b hb' e=> ?_⟩
  simp at hb'
  subst hb' e
  exact hn ha
 snd:=fun c hc=>by
  rcases List.mem_append.1 hc with hc|hc
  ·exact h.snd c hc
  ·rw [List.mem_singleton]at hc
   subst hc
   obtain⟨c,h1,h2,-⟩:=h.cur
   have h3:=(h.snd c (List.mem_of_getElem? h1)).1
   rw [h2]at h3
   exact⟨.next x k y h3 hk (hb k y rest hr hk) hy,hy,fun(e:false=true)=>(by cases e),fun t (e:false=true)=>(by cases e)⟩
 hi:=fun c hc=>by
  rcases List.mem_append.1 hc with hc|hc
  ·exact h.hi c hc
  ·rw [List.mem_singleton]at hc;subst hc;exact fun _ _=>rfl
 first:=by
  obtain⟨c,h1,h2⟩:=h.first
  exact⟨c,by rw [List.getElem?_append_left (List.getElem?_eq_some_iff.1 h1).1];exact h1,h2⟩
 low:=fun i hi=>by
  rw [List.length_append,List.length_singleton]
  rcases List.mem_append.1 hi with hi|hi
  ·have:=h.low i hi;omega
  ·rw [List.mem_singleton.1 hi];omega
 done:=fun i c hc hi hne=>by
  have hlt:i<out.length:=by
   have h1:=(List.getElem?_eq_some_iff.1 hc).1
   rw [List.length_append,List.length_singleton]at h1
   have h2:i≠out.length:=fun e=>hi (List.mem_append_right _ (List.mem_singleton.2 e))
   omega
  rw [List.getElem?_append_left hlt]at hc
  exact fun k hk=>(h.done i c hc (fun hm=>hi (List.mem_append_left _ hm)) hne k hk).grow (grow_snoc _ _)
 cur:=by
  obtain⟨c,h1,h2,h3,h4⟩:=h.cur
  exact⟨c,by rw [List.getElem?_append_left (List.getElem?_eq_some_iff.1 h1).1];exact h1,h2,h3,fun hn=>⟨(h4 (fun hm=>hn (List.mem_append_left _ hm))).1,fun j' k hj hk=>((h4 (fun hm=>hn (List.mem_append_left _ hm))).2 j' k hj hk).grow (grow_snoc _ _)⟩⟩
def handC (al xs:Bool) (fx ln:Nat->Bool) (em:Bool) (d:Co):Co:=if al=true then⟨d.s,fun t=>(d.f t||ln t)||(em&&fx t),d.self||(em&&xs)⟩else d
theorem grow_set {i:Nat} {d d':Co} (hd:out[i]? =some d) (h1:d'.s=d.s) (h2: ∀t,d.f t=true->d'.f t=true) (h3:d.self=true->d'.self=true):GrowC out (out.set i d'):=fun j e he=>by
 by_cases hij:i=j
 ·subst hij
  rw [hd]at he
  injection he with he
  subst he
  exact⟨d',List.getElem?_set_self (List.getElem?_eq_some_iff.1 hd).1,h1,h2,h3⟩
 ·exact⟨e,by rw [List.getElem?_set_ne hij];exact he,rfl,fun _ h=>h,id⟩
theorem hand_s {al xs:Bool} {fx ln:Nat->Bool} {em:Bool} {d:Co}:(handC al xs fx ln em d).s=d.s:=by unfold handC;split<;>rfl
theorem hand_f {al xs:Bool} {fx ln:Nat->Bool} {em:Bool} {d:Co} {t:Nat} (h:d.f t=true):(handC al xs fx ln em d).f t=true:=by
 unfold handC
 split
 ·simp [h]
 ·exact h
theorem hand_self {al xs:Bool} {fx ln:Nat->Bool} {em:Bool} {d:Co} (h:d.self=true):(handC al xs fx ln em d).self=true:=by
 unfold handC
 split
 ·simp [h]
 ·exact h
theorem CoIn.hand {k y:Int} {rest:List Int} {i:Nat} {c d:Co} {al:Bool} (h:CoIn G st s out todo i0 x xs j) (hj:(ofOf G x)[j]? =some k) (hr:rgt G st k=y::rest) (hy:isNon G y=true) (hc:out[i0]? =some c) (hd:out[i]? =some d) (hds:d.s=y) (hi:i∈todo)
  (hal:al=true↔xs=true\/ ∃t,c.f t=true) (hln: ∀t,G.terms.length+1<=t->lnB G rest t=false):CoIn G st s (out.set i (handC al xs c.f (lnB G rest) (emB G rest) d)) todo i0 x xs (j+1):=by
 have hk:k∈ofOf G x:=List.mem_of_getElem? hj
 obtain⟨c',h1,h2,h3,h4⟩:=h.cur
 rw [hc]at h1
 injection h1 with h1
 subst h1
 have hil:=(List.getElem?_eq_some_iff.1 hd).1
 have g:=grow_set (d':=handC al xs c.f (lnB G rest) (emB G rest) d) hd hand_s (fun t ht=>hand_f ht) hand_self
 obtain⟨c1,c2,c3,c4⟩:=h.snd c (List.mem_of_getElem? hc)
 obtain⟨d1,d2,d3,d4⟩:=h.snd d (List.mem_of_getElem? hd)
 rw [h2]at c1 c3 c4
 have dS:(handC al xs c.f (lnB G rest) (emB G rest) d).self=true->CSelf G st s y:=fun e=>by
  unfold handC at e
  split at e
  ·rename_i ha
   simp only [Bool.or_eq_true,Bool.and_eq_true]at e
   rcases e with e|⟨e1,e2⟩
   ·rw [<-hds];exact d3 e
   ·exact .next x k y rest (c3 (h3 e2)) hk hr hy e1
  ·rw [<-hds];exact d3 e
 have dF: ∀t,(handC al xs c.f (lnB G rest) (emB G rest) d).f t=true->CSet G st s y t:=fun t e=>by
  unfold handC at e
  split at e
  ·rename_i ha
   simp only [Bool.or_eq_true,Bool.and_eq_true]at e
   rcases e with(e|e)|⟨e1,e2⟩
   ·rw [<-hds];exact d4 t e
   ·rcases hal.1 ha with ha|⟨u,hu⟩
    ·exact .self x k y rest t (c3 (h3 ha)) hk hr hy e
    ·exact .line x k y rest t u (c4 u hu) hk hr hy e
   ·exact .pass x k y rest t (c4 t e2) hk hr hy e1
  ·rw [<-hds];exact d4 t e
 refine⟨⟨?_,fun e he=> ?_,fun e he t ht=> ?_,?_,fun a ha=> ?_⟩,fun a e he ha hne=> ?_,?_⟩
 ·rw [List.map_set,hand_s]
  have:(out.map Co.s).set i d.s=out.map Co.s:=by
   refine List.ext_getElem? fun n=> ?_
   by_cases e:i=n
   ·subst e;rw [List.getElem?_set_self (by simpa using hil),List.getElem?_map,hd];rfl
   ·rw [List.getElem?_set_ne e]
  rw [this]
  exact h.nodup
 ·rcases List.mem_or_eq_of_mem_set he with he|he
  ·exact h.snd e he
  ·subst he
   rw [hand_s]
   exact⟨d1,d2,fun e=>by rw [hds];exact dS e,fun t e=>by rw [hds];exact dF t e⟩
 ·rcases List.mem_or_eq_of_mem_set he with he|he
  ·exact h.hi e he t ht
  ·subst he
   unfold handC
   split
   ·simp only [h.hi d (List.mem_of_getElem? hd) t ht,hln t ht,h.hi c (List.mem_of_getElem? hc) t ht,Bool.and_false,Bool.or_false]
   ·exact h.hi d (List.mem_of_getElem? hd) t ht
 ·obtain⟨e,e1,e2,e3⟩:=h.first
  obtain⟨e',g1,g2,-,g4⟩:=g 0 e e1
  exact⟨e',g1,g2.trans e2,g4 e3⟩
 ·rw [List.length_set];exact h.low a ha
 ·have hai:i≠a:=fun e=>ha (e▸hi)
  rw [List.getElem?_set_ne hai]at he
  exact fun k' hk'=>(h.done a e he ha hne k' hk').grow g
 ·by_cases e:i=i0
  ·subst e
   have:c=d:=by rw [hc]at hd;injection hd
   subst this
   exact⟨_,List.getElem?_set_self hil,hand_s.trans h2,fun e=>hand_self (h3 e),fun hn=>absurd hi hn⟩
  ·refine⟨c,by rw [List.getElem?_set_ne e];exact hc,h2,h3,fun hn=>⟨(h4 hn).1,fun j' k' hj' hk'=> ?_⟩⟩
   by_cases ej:j'=j
   ·subst ej
    rw [hj]at hk'
    injection hk' with hk'
    subst hk'
    intro y' rest' hr' hy'
    rw [hr]at hr'
    injection hr' with e1 e2
    subst e1 e2
    have hcs:=(h4 hn).1
    refine⟨i,_,List.getElem?_set_self hil,hand_s.trans hds,fun hl t ht=> ?_,fun he=>⟨fun t ht=> ?_,fun hs=> ?_⟩⟩
    ·have ha:al=true:=hal.2 (hl.imp (fun e=>by rw [<-hcs];exact e) id)
     unfold handC;rw [if_pos ha];simp [ht]
    ·have ha:al=true:=hal.2 (.inr ⟨t,ht⟩)
     unfold handC;rw [if_pos ha];simp [ht,he]
    ·have ha:al=true:=hal.2 (.inl (by rw [<-hcs];exact hs))
     unfold handC;rw [if_pos ha];simp [<-hcs,hs,he]
   ·exact((h4 hn).2 j' k' (by omega) hk').grow g
theorem CoIn.same {k y:Int} {rest:List Int} {i:Nat} {c d:Co} {al:Bool} (h:CoIn G st s out todo i0 x xs j) (hj:(ofOf G x)[j]? =some k) (hr:rgt G st k=y::rest) (hy:isNon G y=true) (hc:out[i0]? =some c) (hd:out[i]? =some d) (hds:d.s=y)
  (hal:al=true↔xs=true\/ ∃t,c.f t=true) (hsame:handC al xs c.f (lnB G rest) (emB G rest) d=d):CoIn G st s out todo i0 x xs (j+1):=by
 obtain⟨c',h1,h2,h3,h4⟩:=h.cur
 rw [hc]at h1
 injection h1 with h1
 subst h1
 refine⟨h.toCoSt,h.done,c,hc,h2,h3,fun hn=>⟨(h4 hn).1,fun j' k' hj' hk'=> ?_⟩⟩
 by_cases ej:j'=j
 ·subst ej
  rw [hj]at hk'
  injection hk' with hk'
  subst hk'
  intro y' rest' hr' hy'
  rw [hr]at hr'
  injection hr' with e1 e2
  subst e1 e2
  have hcs:=(h4 hn).1
  refine⟨i,d,hd,hds,fun hl t ht=> ?_,fun he=>⟨fun t ht=> ?_,fun hs=> ?_⟩⟩
  ·have ha:al=true:=hal.2 (hl.imp (fun e=>by rw [<-hcs];exact e) id)
   rw [<-hsame];unfold handC;rw [if_pos ha];simp [ht]
  ·have ha:al=true:=hal.2 (.inr ⟨t,ht⟩)
   rw [<-hsame];unfold handC;rw [if_pos ha];simp [ht,he]
  ·have ha:al=true:=hal.2 (.inl (by rw [<-hcs];exact hs))
   rw [<-hsame];unfold handC;rw [if_pos ha];simp [<-hcs,hs,he]
 ·exact(h4 hn).2 j' k' (by omega) hk'
theorem CoIn.skip {k:Int} (h:CoIn G st s out todo i0 x xs j) (hj:(ofOf G x)[j]? =some k) (hno: ∀y rest,rgt G st k=y::rest->isNon G y=false):CoIn G st s out todo i0 x xs (j+1):=by
 obtain⟨c,h1,h2,h3,h4⟩:=h.cur
 refine⟨h.toCoSt,h.done,c,h1,h2,h3,fun hn=>⟨(h4 hn).1,fun j' k' hj' hk'=> ?_⟩⟩
 by_cases ej:j'=j
 ·subst ej
  rw [hj]at hk'
  injection hk' with hk'
  subst hk'
  intro y rest hr hy
  rw [hno y rest hr]at hy
  cases hy
 ·exact(h4 hn).2 j' k' (by omega) hk'
structure ComesOf (G:GramD) (st s:Int) (out:List Co):Prop where
 nodup:(out.map Co.s).Nodup
 mem: ∀y,(∃c∈out,c.s=y)↔Bg G st s y
 non: ∀c∈out,isNon G c.s=true
 self: ∀c∈out,c.self=true↔CSelf G st s c.s
 set: ∀c∈out,∀t,c.f t=true↔CSet G st s c.s t
 hi: ∀c∈out,∀t,G.terms.length+1<=t->c.f t=false
theorem CoAll.is (h:CoAll G st s out []) (hb: ∀x k y,k∈ofOf G x->behindI G st (k,0)=(y,true)-> ∃rest,rgt G st k=y::rest):ComesOf G st s out:=by
 have uniq: ∀{i j:Nat} {c d:Co},out[i]? =some c->out[j]? =some d->c.s=d.s->c=d:=fun{i j c d} hc hd e=>by
  have h1:(out.map Co.s)[i]? =some c.s:=by rw [List.getElem?_map,hc];rfl
  have h2:(out.map Co.s)[j]? =some c.s:=by rw [List.getElem?_map,hd,e];rfl
  have:=nodup_get h.nodup h1 h2
  subst this
  rw [hc]at hd
  injection hd
 have dn: ∀(i:Nat) c,out[i]? =some c-> ∀k∈ofOf G c.s,DoneC G st out c k:=fun i c hc=>h.done i c hc (fun hm=>by cases hm)
 have kS: ∀y,CSelf G st s y-> ∃(j:Nat) (d:Co),out[j]? =some d/\d.s=y/\d.self=true:=fun y hy=>by
  induction hy with
  |base=>obtain⟨c,h1,h2,h3⟩:=h.first;exact⟨0,c,h1,h2,h3⟩
  |next x k y rest _ hk hr hy he ih=>
   obtain⟨i,c,h1,h2,h3⟩:=ih
   obtain⟨j,d,g1,g2,-,g4⟩:=dn i c h1 k (by rw [h2];exact hk) y rest hr hy
   exact⟨j,d,g1,g2,(g4 he).2 h3⟩
 have kF: ∀y t,CSet G st s y t-> ∃(j:Nat) (d:Co),out[j]? =some d/\d.s=y/\d.f t=true:=fun y t hy=>by
  induction hy with
  |self x k y rest t hx hk hr hy hl=>
   obtain⟨i,c,h1,h2,h3⟩:=kS x hx
   obtain⟨j,d,g1,g2,g3,-⟩:=dn i c h1 k (by rw [h2];exact hk) y rest hr hy
   exact⟨j,d,g1,g2,g3 (.inl h3) t hl⟩
  |line x k y rest t u _ hk hr hy hl ih=>
   obtain⟨i,c,h1,h2,h3⟩:=ih
   obtain⟨j,d,g1,g2,g3,-⟩:=dn i c h1 k (by rw [h2];exact hk) y rest hr hy
   exact⟨j,d,g1,g2,g3 (.inr ⟨u,h3⟩) t hl⟩
  |pass x k y rest t _ hk hr hy he ih=>
   obtain⟨i,c,h1,h2,h3⟩:=ih
   obtain⟨j,d,g1,g2,-,g4⟩:=dn i c h1 k (by rw [h2];exact hk) y rest hr hy
   exact⟨j,d,g1,g2,(g4 he).1 t h3⟩
 refine⟨h.nodup,fun y=>⟨?_,fun hy=> ?_⟩,fun c hc=>(h.snd c hc).2.1,fun c hc=>⟨(h.snd c hc).2.2.1,fun hs=> ?_⟩,fun c hc t=>⟨(h.snd c hc).2.2.2 t,fun hs=> ?_⟩,h.hi⟩
 ·rintro⟨c,hc,rfl⟩;exact(h.snd c hc).1
 ·induction hy with
  |base=>obtain⟨c,h1,h2,-⟩:=h.first;exact⟨c,List.mem_of_getElem? h1,h2⟩
  |next n k m _ hk hbe hm ih=>
   obtain⟨c,hc,rfl⟩:=ih
   obtain⟨i,hi,e⟩:=List.getElem_of_mem hc
   obtain⟨rest,hr⟩:=hb c.s k m hk hbe
   obtain⟨j,d,g1,g2,-⟩:=dn i c (by rw [List.getElem?_eq_getElem hi,e]) k hk m rest hr hm
   exact⟨d,List.mem_of_getElem? g1,g2⟩
 ·obtain⟨j,d,g1,g2,g3⟩:=kS c.s hs
  obtain⟨i,hi,e⟩:=List.getElem_of_mem hc
  have:=uniq (i:=i) (j:=j) (c:=c) (by rw [List.getElem?_eq_getElem hi,e]) g1 g2.symm
  rw [this];exact g3
 ·obtain⟨j,d,g1,g2,g3⟩:=kF c.s t hs
  obtain⟨i,hi,e⟩:=List.getElem_of_mem hc
  have:=uniq (i:=i) (j:=j) (c:=c) (by rw [List.getElem?_eq_getElem hi,e]) g1 g2.symm
  rw [this];exact g3
def oneC (M:Nat) (c:Co):Nat:=unset c.f M+(if c.self=true then 0 else 1)
def measC (N M:Nat) (out:List Co):Nat:=(N - out.length) * (M+2)+(out.map (oneC M)).sum
theorem sum_set {g:Co->Nat} {d d':Co}: ∀{out:List Co} {i:Nat},out[i]? =some d->((out.set i d').map g).sum+g d=(out.map g).sum+g d'
 |[],i,h=>by simp at h
 |a::r,0,h=>by
  have:a=d:=by simpa using h
  subst this
  simp only [List.set_cons_zero,List.map_cons,List.sum_cons]
  omega
 |a::r,i+1,h=>by
  have:=sum_set (g:=g) (d':=d') (out:=r) (i:=i) (by simpa using h)
  simp only [List.set_cons_succ,List.map_cons,List.sum_cons]
  omega
theorem unset_none (M:Nat):unset noBits M<=M:=by
 unfold unset
 exact Nat.le_trans (List.length_filter_le _ _) (by simp)
theorem measC_new {N M:Nat} {y:Int} (h:out.length<N):measC N M (out++[⟨y,noBits,false⟩])<measC N M out:=by
 unfold measC
 rw [List.length_append,List.length_singleton,List.map_append,List.sum_append]
 have h1:(([⟨y,noBits,false⟩]:List Co).map (oneC M)).sum<=M+1:=by
  simp only [List.map_cons,List.map_nil,List.sum_cons,List.sum_nil,oneC]
  have:=unset_none M
  simp
  omega
 obtain⟨q,hq⟩: ∃q,N=out.length+1+q:=⟨N - out.length - 1,by omega⟩
 have e1:N - (out.length+1)=q:=by omega
 have e2:N - out.length=q+1:=by omega
 rw [e1,e2,Nat.add_mul,Nat.one_mul]
 omega
theorem measC_set {N M:Nat} {i:Nat} {d d':Co} (hd:out[i]? =some d) (h:oneC M d'<oneC M d):measC N M (out.set i d')<measC N M out:=by
 unfold measC
 rw [List.length_set]
 have:=sum_set (g:=oneC M) (d':=d') hd
 omega
def chgC (M:Nat) (d d':Co):Bool:=moreB M d.f d'.f||(d'.self&& !d.self)
theorem chg_less {al xs:Bool} {fx ln:Nat->Bool} {em:Bool} {d:Co} {M:Nat} (h:chgC M d (handC al xs fx ln em d)=true):oneC M (handC al xs fx ln em d)<oneC M d:=by
 have h1:unset (handC al xs fx ln em d).f M<=unset d.f M:=unset_le (fun t ht=>hand_f ht)
 unfold chgC at h
 unfold oneC
 rw [Bool.or_eq_true]at h
 rcases h with h|h
 ·have:=unset_more h (fun t ht=>hand_f ht)
  have h2:d.self=true->(handC al xs fx ln em d).self=true:=hand_self
  split<;>split<;>rename_i a b<;>first|omega|exact absurd (h2 b) a
 ·simp only [Bool.and_eq_true,Bool.not_eq_true']at h
  rw [if_pos h.1,h.2]
  simp
  omega
theorem chg_same {al xs:Bool} {fx ln:Nat->Bool} {em:Bool} {d:Co} {M:Nat} (h:chgC M d (handC al xs fx ln em d)=false) (hh: ∀t,M<=t->(handC al xs fx ln em d).f t=false):handC al xs fx ln em d=d:=by
 unfold chgC at h
 rw [Bool.or_eq_false_iff]at h
 have h1:=moreB_eq h.1 (fun t ht=>hand_f ht) hh
 have h2:(handC al xs fx ln em d).self=d.self:=by
  have:=h.2
  cases e:d.self with
  |true=>exact hand_self e
  |false=>rw [e]at this;simpa using this
 have h3:=hand_s (al:=al) (xs:=xs) (fx:=fx) (ln:=ln) (em:=em) (d:=d)
 generalize handC al xs fx ln em d=d' at *
 obtain⟨a,b,c⟩:=d
 obtain⟨a',b',c'⟩:=d'
 simp only at h1 h2 h3
 subst h1 h2 h3
 rfl
theorem CoSt.len (h:CoSt G st s out todo):out.length<=G.nons.length:=by
 have:=nons_len (G:=G) (l:=out.map Co.s) h.nodup (fun x hx=>by
  obtain⟨c,hc,rfl⟩:=List.mem_map.1 hx
  exact(h.snd c hc).2.1)
 simpa using this
end
open Go.RowKit
attribute [local irreducible] wpStill wpOne wpPh
theorem IsSet.keep {w w':World} {b n:Nat} {f:Nat->Bool} {S:Nat->Prop} (h:IsSet w b S n f) (hb:Below w.heap.size w w'):IsSet w' b S n f:=h.touch (Touch.of_size hb (fun _=>False)) (fun _ _ hf=>hf)
end Go.Proofs.YthlbjgabhpdbfaaGreat
namespace Go.Proofs.YthlbjgabhpdbfaaGreat
set_option linter.unusedVariables false
section
open Go.RowKit
attribute [local irreducible] wpStill wpOne wpPh
structure Fam (w:World) (g n m:Nat) (ps:Nat->Nat) (foot:Nat->Nat->Prop) (F:Nat->Nat->Bool):Prop where
 cell: ∀i,i<n->w.cell? ⟨g,i,none⟩=some (.pointer (some ⟨ps i,0,none⟩))
 set: ∀i,i<n->IsSet w (ps i) (foot i) m (F i)
 far: ∀i,i<n-> ¬foot i g
 apart: ∀i j k,i<n->j<n->foot i k->foot j k->i=j
 lt:g<w.heap.size
section
variable {w w' : World} {g n m : Nat} {ps : Nat -> Nat} {foot : Nat -> Nat -> Prop} {F : Nat -> Nat -> Bool} {S : Nat -> Prop}
theorem Fam.touch (h:Fam w g n m ps foot F) (ht:Touch S w w') (hg: ¬S g) (hS: ∀i,i<n-> ∀k,foot i k-> ¬S k):Fam w' g n m ps foot F:=
 ⟨fun i hi=>ht.cell (h.cell i hi) hg,fun i hi=>(h.set i hi).touch ht (hS i hi),h.far,h.apart,Nat.lt_of_lt_of_le h.lt ht.size⟩
theorem Fam.below (h:Fam w g n m ps foot F) (hb:Below w.heap.size w w'):Fam w' g n m ps foot F:=
 h.touch (Touch.of_size hb (fun _=>False)) (fun h=>h) (fun _ _ _ _ h=>h)
theorem Fam.put (h:Fam w g n m ps foot F) {i:Nat} (hi:i<n) {f:Nat->Bool} (hs:IsSet w' (ps i) (foot i) m f) (ht:Touch (foot i) w w'):Fam w' g n m ps foot (setF F i f):=by
 refine⟨fun j hj=>ht.cell (h.cell j hj) (h.far i hi),fun j hj=> ?_,h.far,h.apart,Nat.lt_of_lt_of_le h.lt ht.size⟩
 by_cases e:j=i
 ·subst e;rw [setF_same];exact hs
 ·rw [setF_ne e];exact(h.set j hj).touch ht fun k hk hk'=>e (h.apart j i k hj hi hk hk')
theorem Fam.ext (h:Fam w g n m ps foot F) {F':Nat->Nat->Bool} (e: ∀i,i<n->F' i=F i):Fam w g n m ps foot F':=
 ⟨h.cell,fun i hi=>by rw [e i hi];exact h.set i hi,h.far,h.apart,h.lt⟩
end
theorem bool_of {a b:Bool} (h:a=true↔b=true):a=b:=Bool.eq_iff_iff.2 h
theorem sizes_symbol (t p:Nat) (x:Int) (w:World):Calls Tryz.prog 272 #[.agg #[.int .i64 t,.int .i64 p],.int .i64 x] w (Quiet w (.bool (decide (0<=x)&&decide (x<=p)))):=by
 go_enter Tryz.func272,Tryz.ntmps272
 by_cases h0:0<=x
 ·by_cases h1:x<=(p:Int)
  ·go_wp2_with fail
   go_ret
   exact⟨ret_bool (bool_of (by simp<;>omega)),(Below.refl _ _).alloc (Nat.le_refl _) _⟩
  ·go_wp2_with fail
   go_ret
   exact⟨ret_bool (bool_of (by simp<;>omega)),(Below.refl _ _).alloc (Nat.le_refl _) _⟩
 ·go_wp2_with fail
  go_ret
  exact⟨ret_bool (bool_of (by simp<;>omega)),(Below.refl _ _).alloc (Nat.le_refl _) _⟩
theorem sizes_non (t p:Nat) (x:Int) (w:World):Calls Tryz.prog 274 #[.agg #[.int .i64 t,.int .i64 p],.int .i64 x] w (Quiet w (.bool (decide ((t:Int)<x)&&decide (x<=p)))):=by
 go_enter Tryz.func274,Tryz.ntmps274
 by_cases h0:(t:Int)<x
 ·by_cases h1:x<=(p:Int)
  ·go_wp2_with fail
   go_ret
   exact⟨ret_bool (bool_of (by simp<;>omega)),(Below.refl _ _).alloc (Nat.le_refl _) _⟩
  ·go_wp2_with fail
   go_ret
   exact⟨ret_bool (bool_of (by simp<;>omega)),(Below.refl _ _).alloc (Nat.le_refl _) _⟩
 ·go_wp2_with fail
  go_ret
  exact⟨ret_bool (bool_of (by simp<;>omega)),(Below.refl _ _).alloc (Nat.le_refl _) _⟩
theorem RdI.tail {w:World} {F:Nat->Prop} {bb off n c:Nat} {xs:List Int} (h:RdI w F (.slice (some ⟨bb,off,none⟩) n c) xs) {k:Nat} (hk:k<=n):RdI w F (.slice (if c=k then some ⟨bb,off,none⟩else some ⟨bb,off+k,none⟩) (n - k) (c - k)) (xs.drop k):=by
 obtain⟨hn,hnc,hcm,hcell⟩:=RdI.at_ h
 refine⟨_,_,_,rfl,by omega,by omega,by simp;omega,fun hn0=> ?_⟩
 obtain⟨b,o,e,hF,hc⟩:=hcell (by omega)
 injection e with e
 injection e with e1 e2 _
 subst e1 e2
 rw [if_neg (by omega)]
 refine⟨_,_,rfl,hF,fun j u hu=> ?_⟩
 rw [List.getElem?_map,List.getElem?_drop]at hu
 obtain⟨x,hx,rfl⟩:=Option.map_eq_some_iff.1 hu
 rw [Nat.add_assoc]
 exact hc _ x hx
theorem Tryz.infoSetP:(Tryz.prog.info? 257).map (fun i=>(i.zero,i.size,i.bytes))=some (some (.pointer none),1,8):=by kernel_rfl
theorem Tryz.elemSetP:Elem Tryz.prog 253 257 (.pointer none) 1 8:=⟨Tryz.underlying253,Tryz.infoSetP,rfl,by decide⟩
abbrev PtrV (b:Nat):Value:= .pointer (some ⟨b,0,none⟩)
structure FamG (w wr:World) (A:Option Addr) (k c m:Nat) (ps:Nat->Nat) (foot:Nat->Nat->Prop):Prop where
 own:wr.ownsRow w.heap.size 257 1 (.slice A k c) k ((List.range k).map fun i=>PtrV (ps i))
 set: ∀i,i<k->IsSet wr (ps i) (foot i) m noBits
 low: ∀i q,i<k->foot i q->w.heap.size<=q/\q<wr.heap.size/\(Value.slice A k c).ownBlock≠some q
 apart: ∀i j q,i<k->j<k->foot i q->foot j q->i=j
 b:Below w.heap.size w wr
theorem FamG.zero (w:World) (m:Nat):FamG w w none 0 0 m (fun _=>0) (fun _ _=>False):=
 ⟨World.ownsRow_nil _ _ _ _,fun i hi=>absurd hi (by omega),fun i q hi=>absurd hi (by omega),fun i j q hi=>absurd hi (by omega),Below.refl _ _⟩
theorem FamG.push {w wr w1 w2 w3:World} {A B:Option Addr} {k c d m b:Nat} {ps:Nat->Nat} {foot:Nat->Nat->Prop} {o:Obj} (h:FamG w wr A k c m ps foot) (hs:IsSet w1 b (New (fun _=>False) wr w1) m noBits) (hb:Below wr.heap.size wr w1) (h2:w2=w1.alloc o)
  (ho:w3.ownsRow w.heap.size 257 1 (.slice B (k+1) d) (k+1) (((List.range k).map fun i=>PtrV (ps i))++[PtrV b])) (hg:w2.grownBy w3 (Value.slice A k c).ownBlock) (hv:(Value.slice B (k+1) d).ownBlock=(Value.slice A k c).ownBlock\/(Value.slice B (k+1) d).ownBlock=some w2.heap.size):
  FamG w w3 B (k+1) d m (fun i=>if i=k then b else ps i) (fun i=>if i=k then New (fun _=>False) wr w1 else foot i):=by
 have hz:=h.b.size
 have hz1:=hb.size
 have hz2:w2.heap.size=w1.heap.size+1:=by rw [h2];simp
 have hz3:=hg.size
 have hown: ∀q,(Value.slice A k c).ownBlock=some q->q<wr.heap.size:=fun q hq=>(h.own.lt q hq).2
 have hownlo: ∀q,(Value.slice A k c).ownBlock=some q->w.heap.size<=q:=fun q hq=>(h.own.lt q hq).1
 have b2:Below wr.heap.size wr w2:=by rw [h2];exact hb.alloc hz1 _
 have b12:Below w1.heap.size w1 w2:=by rw [h2];exact(Below.refl _ _).alloc (Nat.le_refl _) _
 have t3:Touch (fun q=>(Value.slice A k c).ownBlock=some q) w2 w3:=(Touch.refl _ w2).grown hg (fun q hq _=>hq)
 have hN: ∀q,New (fun _=>False) wr w1 q->wr.heap.size<=q/\q<w1.heap.size:=fun q hq=>by
  rcases hq with hq|hq
  ·exact hq.elim
  ·exact hq
 have hB: ∀q,(Value.slice B (k+1) d).ownBlock=some q->q<wr.heap.size/\(Value.slice A k c).ownBlock=some q\/q=w2.heap.size:=fun q hq=>by
  rcases hv with hv|hv
  ·rw [hv]at hq;exact .inl ⟨hown q hq,hq⟩
  ·rw [hv]at hq;injection hq with hq;exact .inr hq.symm
 refine⟨?_,fun i hi=> ?_,fun i q hi hq=> ?_,fun i j q hi hj hiq hjq=> ?_,(h.b.trans (b2.mono hz)).trans (t3.below (fun q hq _ hq'=>by have:=hownlo q hq';omega) (by omega))⟩
 ·have e:(List.range (k+1)).map (fun i=>PtrV (if i=k then b else ps i))=((List.range k).map fun i=>PtrV (ps i))++[PtrV b]:=by
   rw [List.range_succ,List.map_append]
   congr 1
   ·refine List.map_congr_left fun i hi=> ?_
    have:=List.mem_range.1 hi
    rw [if_neg (by omega)]
   ·simp
  rw [e];exact ho
 ·by_cases e:i=k
  ·subst e
   simp only [if_true]
   exact(hs.touch (Touch.of_size b12 (fun _=>False)) (fun _ _ h=>h)).touch t3 fun q hq hq'=>by have:=hN q hq;have:=hown q hq';omega
  ·simp only [if_neg e]
   have:=h.set i (by omega)
   exact(this.touch (Touch.of_size b2 (fun _=>False)) (fun _ _ h=>h)).touch t3 fun q hq hq'=>(h.low i q (by omega) hq).2.2 hq'
 ·by_cases e:i=k
  ·subst e
   simp only [if_true]at hq
   have:=hN q hq
   refine⟨by omega,by omega,fun hh=> ?_⟩
   rcases hB q hh with h1|h1<;>omega
  ·simp only [if_neg e]at hq
   obtain⟨l1,l2,l3⟩:=h.low i q (by omega) hq
   refine⟨l1,by omega,fun hh=> ?_⟩
   rcases hB q hh with h1|h1
   ·exact l3 h1.2
   ·omega
 ·by_cases ei:i=k
  ·by_cases ej:j=k
   ·omega
   ·subst ei
    simp only [if_true]at hiq
    simp only [if_neg ej]at hjq
    have:=hN q hiq
    have:=h.low j q (by omega) hjq
    omega
  ·by_cases ej:j=k
   ·subst ej
    simp only [if_true]at hjq
    simp only [if_neg ei]at hiq
    have:=hN q hjq
    have:=h.low i q (by omega) hiq
    omega
   ·simp only [if_neg ei]at hiq
    simp only [if_neg ej]at hjq
    exact h.apart i j q (by omega) (by omega) hiq hjq
theorem FamG.fam {w wr:World} {A:Option Addr} {k c m:Nat} {ps:Nat->Nat} {foot:Nat->Nat->Prop} (h:FamG w wr A k c m ps foot) (hk:0<k): ∃g,A=some ⟨g,0,none⟩/\w.heap.size<=g/\g<wr.heap.size/\k<=c/\c<=9223372036854775807/\Fam wr g k m ps foot (fun _=>noBits):=by
 have hl:=h.own.lt
 rcases h.own.2 with⟨h1,h2⟩|⟨g,cap,cur,h1,hb,hh,hn,hc,hz,ht⟩
 ·injection h1 with _ h1;omega
 ·injection h1 with e1 e2 e3
  subst e1
  have hl:=hl g rfl
  refine⟨g,rfl,hl.1,hl.2,by omega,by unfold maxLen at hc;omega,fun i hi=> ?_,h.set,fun i hi hf=> ?_,h.apart,hl.2⟩
  ·rw [cell_of_row wr g i cur _ (0,0) hh]
   have h3:((List.range k).map fun i=>PtrV (ps i))[i]? =some (PtrV (ps i)):=by simp [hi]
   rw [<-ht,List.getElem?_take]at h3
   split at h3
   ·simpa using h3
   ·cases h3
  ·exact(h.low i g hi hf).2.2 rfl
def FreshPost (w:World) (n m:Nat) (e:Ending) (w':World):Prop:= ∃g c ps foot,e= .returned (.slice (some ⟨g,0,none⟩) n c)/\n<=c/\c<=9223372036854775807/\w.heap.size<=g/\g<w'.heap.size/\(∀i q,i<n->foot i q->w.heap.size<=q/\q<w'.heap.size)/\Fam w' g n m ps foot (fun _=>noBits)/\Below w.heap.size w w'
set_option maxRecDepth 100000 in
set_option maxHeartbeats 2000000 in
theorem first_fresh (w:World) (n m:Nat) (hn:1<=n/\n<=4096) (hm:m<=4096):Calls Tryz.prog 251 #[.int .i64 n,.int .i64 m] w (FreshPost w n m):=by
 go_enter Tryz.func251,Tryz.ntmps251
 go_wp2_with fail
 go_loopw [5,7] (fun v i wr=> ∃(k:Nat) (A:Option Addr) (c:Nat) (ps:Nat->Nat) (foot:Nat->Nat->Prop),k<=n/\i= .int .i64 k/\v= .slice A k c/\FamG w wr A k c m ps foot) (fun _ i _=>n - (intOf i).toNat)
 case atStart=>exact⟨0,none,0,_,_,Nat.zero_le _,rfl,rfl,FamG.zero w m⟩
 case round=>
  obtain⟨k,A,c,ps,foot,hk,rfl,rfl,t⟩:=hrel
  by_cases hlt:k<n
  ·have hlt':(k:Int)<(n:Int):=by omega
   have Xt:=hide t;clear t
   go_wp2_with fail
   refine(set_new _ wr).mono ?_
   rintro e w1 ⟨rfl,hs,b1⟩
   rw [show(min (max (m:Int) 0) 4096).toNat=m by omega]at hs
   have o1:=own_below' Xt.out.own b1
   have zb:=Xt.out.b.size
   have zb1:=b1.size
   obtain⟨Xhs,Xb1⟩:=HqZ2 hs b1;clear hs b1
   go_wp2_with (at_builtin;refine wp_append _ rfl (.tmp 9) (.tmp 12) _ rfl Tryz.elemSetP w.heap.size _ k _ rfl (o1.alloc _) _ _ [PtrV (wr.heap.size+1)] 1 rfl rfl (Rd.one [PtrV (wr.heap.size+1)] 1 rfl) (by simp [Value.oneCell',PtrV]) (by unfold maxLen;omega) (by omega) (by simp;omega) ?_)
   intro A2 c2 w2 ho hg hv
   have t2:=Xt.out.push Xhs.out Xb1.out rfl ho hg (by simpa using hv)
   have Xt2:=hide t2;clear t2
   go_wp2_with fail
   go_roundw
   case rel=>exact⟨k+1,A2,c2,_,_,by omega,by go_num,rfl,Xt2.out⟩
   case measure=>simp [intOf];omega
  ·have hkn:k=n:=by omega
   have hlt': ¬(k:Int)<(n:Int):=by omega
   have fin:FreshPost w n m (.returned (.slice A k c)) wr:=by
    subst hkn
    obtain⟨g,rfl,h1,h2,h3,h4,h5⟩:=t.fam (by omega)
    exact⟨g,c,ps,foot,rfl,h3,h4,h1,h2,fun i q hi hq=>⟨(t.low i q hi hq).1,(t.low i q hi hq).2.1⟩,h5,t.b⟩
   obtain⟨Xt,Xfin⟩:=HqZ2 t fin;clear t fin;clear hkn
   go_wp2_with fail
   go_ret
   exact Xfin.out
end
section
open Go.RowKit
attribute [local irreducible] wpStill wpOne wpPh
theorem set_put {w:World} {b n:Nat} {f:Nat->Bool} {S:Nat->Prop} (h:IsSet w b S n f) (i:Int):
  Calls Tryz.prog 197 #[PtrV b,.int .i64 i] w fun e w'=>e= .returned (.bool (putAns n f i))/\IsSet w' b S n (putSet n f i)/\Touch S w w':=by
 cases hp:putAns n f i with
 |false=>exact(set_put_no h i hp).mono fun e w' ⟨h1,h2⟩=>⟨h1,by rw [putSet_id hp,<-h2];exact h,by rw [<-h2];exact Touch.refl _ _⟩
 |true=>exact set_put_yes h i hp
theorem set_or' {w:World} {b m b2:Nat} {f g:Nat->Bool} {S S2:Nat->Prop} (h:IsSet w b S m f) (h2:IsSet w b2 S2 m g):
  Calls Tryz.prog 232 #[PtrV b,PtrV b2] w (OrPost w b S m (fun t=>f t||g t) (moreB m f (fun t=>f t||g t))):=by
 have e1:orSet (min m m) f g=fun t=>f t||g t:=by
  funext t
  unfold orSet
  rw [Nat.min_self]
  cases ht:decide (t<m)with
  |true=>simp
  |false=>have:=h2.high t (by simpa using ht);simp [this]
 have e2:orAns (min m m) f g=moreB m f (fun t=>f t||g t):=by
  rw [Nat.min_self]
  refine bool_of ?_
  unfold orAns
  rw [moreB_iff,List.any_eq_true]
  constructor
  ·rintro⟨t,ht,hh⟩
   simp only [Bool.and_eq_true,Bool.not_eq_true']at hh
   exact⟨t,List.mem_range.1 ht,by simp [hh.1],hh.2⟩
  ·rintro⟨t,ht,h1,h2⟩
   rw [h2]at h1
   exact⟨t,List.mem_range.2 ht,by simpa [h2]using h1⟩
 have:=set_or h h2
 rwa [e1,e2]at this
structure LineRel (R:World->(Nat->Bool)->Prop) (s T p pe g c n m b:Nat) (Se S:Nat->Prop) (e:Nat->Bool) (bs:Nat->Nat) (Gf:Nat->(Nat->Bool)->Nat->Bool):Prop where
 tq9: ∀{w f},R w f->IsSet w b S m f
 cells: ∀{w f},R w f->w.cell? ⟨s,0,none⟩=some (.int .i64 T)/\w.cell? ⟨s,1,none⟩=some (.int .i64 p)/\w.cell? ⟨s,2,none⟩=some (PtrV pe)/\w.cell? ⟨s,3,none⟩=some (.slice (some ⟨g,0,none⟩) n c)
 em: ∀{w f},R w f->IsSet w pe Se n e
 el: ∀{w f},R w f-> ∀i,i<n->w.cell? ⟨g,i,none⟩=some (PtrV (bs i))/\ ∃Si,IsSet w (bs i) Si m (Gf i f)
 up: ∀{w w' f f'},R w f->IsSet w' b S m f'->Touch S w w'->R w' f'
 np:n=p+1
 cap:n<=c/\c<=9223372036854775807/\n<=4096
theorem LineRel.below {R:World->(Nat->Bool)->Prop} {s T p pe g c n m b:Nat} {Se S:Nat->Prop} {e:Nat->Bool} {bs:Nat->Nat} {Gf:Nat->(Nat->Bool)->Nat->Bool} (h:LineRel R s T p pe g c n m b Se S e bs Gf) {w w':World} {f:Nat->Bool} (hr:R w f) (hb:Below w.heap.size w w'):R w' f:=
 h.up hr ((h.tq9 hr).keep hb) ((Touch.of_size hb (fun _=>False)).mono fun _ _ h=>h.elim)
def FLinePost (R:World->(Nat->Bool)->Prop) (S:Nat->Prop) (w:World) (m:Nat) (f0 f:Nat->Bool) (all:Bool) (e:Ending) (w':World):Prop:=e= .returned (.tuple #[.bool (moreB m f0 f),.bool all])/\R w' f/\Touch S w w'
set_option maxRecDepth 100000 in
set_option maxHeartbeats 4000000 in
theorem first_line {R:World->(Nat->Bool)->Prop} {s T p pe g c n m b:Nat} {Se S:Nat->Prop} {e:Nat->Bool} {bs:Nat->Nat} {Gf:Nat->(Nat->Bool)->Nat->Bool} (L:LineRel R s T p pe g c n m b Se S e bs Gf) {bg:Nat->Nat->Bool} {f0:Nat->Bool} (hal: ∀i,i<n->(∀f,Gf i f=bg i)\/((∀f,Gf i f=f)/\bg i=f0))
  {w:World} (hw:R w f0) {F:Nat->Prop} {v:Value} {l:List Int} (hl:RdI w F v l) (hF: ∀k,F k-> ¬S k):
  Calls Tryz.prog 252 #[PtrV s,PtrV b,v] w (FLinePost R S w m f0 (joinL f0 (hasI n e) (famI n bg) l) (l.all (hasI n e))):=by
 obtain⟨A,q,d,rfl,-⟩:=id hl
 obtain⟨hn,hnd,hdm,hcell⟩:=RdI.at_ hl
 unfold maxLen at hdm
 have hm:=(L.tq9 hw).high
 have hgh: ∀i,i<n-> ∀t,m<=t->bg i t=false:=fun i hi t ht=>by
  obtain⟨-,Si,hs⟩:=L.el hw i hi
  rcases hal i hi with h|⟨h1,h2⟩
  ·rw [<-h f0];exact hs.high t ht
  ·rw [h2];exact hm t ht
 have hjoin: ∀(f:Nat->Bool) (i:Nat),i<n->(∀t,f0 t=true->f t=true)->orSet (min m m) f (Gf i f)=fun t=>f t||bg i t:=fun f i hi hf=>by
  funext t
  unfold orSet
  rw [Nat.min_self]
  rcases hal i hi with h|⟨h1,h2⟩
  ·rw [h f]
   cases ht:decide (t<m)with
   |true=>simp
   |false=>have:=hgh i hi t (by simpa using ht);simp [this]
  ·rw [h1 f,h2]
   cases h3:f t with
   |true=>simp
   |false=>
    have:f0 t=false:=by cases h4:f0 t with
     |false=>rfl
     |true=>rw [hf t h4]at h3;cases h3
    simp [this]
 obtain⟨np,nc,cm,nm⟩:=And.intro L.np L.cap
 have hw0:=hw
 obtain⟨Xhn,Xhl,XhF,Xhm,Xhgh,Xhjoin,Xhal,XL,Xhw0,Xnp⟩:=HqZ10 hn hl hF hm hgh hjoin hal L hw0 np;clear hn hl hF hm hgh hjoin hal L hw0 np;clear hw
 go_enter Tryz.func252,Tryz.ntmps252
 go_wp2_with fail
 go_loopw [8,13] (fun mo i wr=> ∃(k:Nat) (f:Nat->Bool),k<=q/\i= .int .i64 k/\f=joinL f0 (hasI n e) (famI n bg) (l.take k)/\mo= .bool (moreB m f0 f)/\(l.take k).all (hasI n e)=true/\R wr f/\Touch S w wr) (fun _ i _=>q - (intOf i).toNat)
 case atStart=>exact⟨0,f0,Nat.zero_le _,rfl,by funext t;simp [joinL,lineB],by rw [moreB_self],rfl,Xhw0.out,Touch.refl _ _⟩
 case round=>
  obtain⟨k,f,hk,rfl,hf,rfl,hall,hR,ht⟩:=hrel
  have hf0: ∀t,f0 t=true->f t=true:=fun t h=>by rw [hf];exact joinL_le t h
  by_cases hlt:k<q
  ·have hlt':(k:Int)<(q:Int):=by omega
   obtain⟨bb,off,rfl,hFb,hc1⟩:=hcell (by omega)
   obtain⟨x,hx⟩: ∃x,l[k]? =some x:=⟨_,List.getElem?_eq_getElem (by rw [<-Xhn.out];exact hlt)⟩
   have hcx:=ht.cell (hc1 k x hx) (XhF.out _ hFb)
   obtain⟨s0,s1,s2,s3⟩:=XL.out.cells hR
   obtain⟨mo,hmo⟩: ∃mo,mo=moreB m f0 f:=⟨_,rfl⟩
   rw [<-hmo]
   clear hcell hc1
   obtain⟨Xhx,Xhf,Xhall,XhR,Xht,Xhf0,Xhmo⟩:=HqZ7 hx hf hall hR ht hf0 hmo;clear hx hf hall hR ht hf0 hmo
   go_wp2_with fail
   refine(sizes_symbol T p x wr).mono ?_
   rintro ee w2 ⟨rfl,b2⟩
   have hR2:=XL.out.below XhR.out b2
   have ht2:Touch S w w2:=Xht.out.trans' ((Touch.of_size b2 (fun _=>False)).mono fun _ _ h=>h.elim)
   clear s0 s1 s2 s3 hcx XhR Xht
   by_cases hin:0<=x/\x<=(p:Int)
   case neg=>
    have hsy:(decide (0<=x)&&decide (x<=(p:Int)))=false:=by
     rw [Bool.and_eq_false_iff,decide_eq_false_iff_not,decide_eq_false_iff_not];omega
    have hno:x<0\/(n:Int)<=x:=by have:=Xnp.out;omega
    have he:hasI n e x=false:=hasI_no hno
    have hff:joinL f0 (hasI n e) (famI n bg) l=f:=by
     rw [Xhf.out]
     funext t
     unfold joinL
     rw [lineB_stop Xhx.out he,take_get Xhx.out,lineB_snoc Xhall.out,famI_no hno]
     simp
    have fin:FLinePost R S w m f0 (joinL f0 (hasI n e) (famI n bg) l) (l.all (hasI n e)) (.returned (.tuple #[.bool mo,.bool false])) w2:=⟨by rw [hff,all_stop Xhx.out he,Xhmo.out],by rw [hff];exact hR2,ht2⟩
    rw [hsy]
    clear b2 hff hno hin
    obtain⟨Xfin,XhR2,Xht2,Xhe⟩:=HqZ4 fin hR2 ht2 he;clear fin hR2 ht2 he
    go_wp2_with fail
    go_ret2
    exact Xfin.out
   case pos=>
    have hsy:(decide (0<=x)&&decide (x<=(p:Int)))=true:=by
     rw [decide_eq_true hin.1,decide_eq_true hin.2];rfl
    rw [hsy]
    obtain⟨i,rfl⟩:=Int.eq_ofNat_of_zero_le hin.1
    have hi:i<n:=by have:=Xnp.out;omega
    have hi2:(i:Int)<(n:Int):=by omega
    obtain⟨s0,s1,s2,s3⟩:=XL.out.cells hR2
    obtain⟨hc,Si,hsi⟩:=XL.out.el hR2 i hi
    have hto:=XL.out.tq9 hR2
    have hor:=set_or hto hsi
    rw [Xhjoin.out f i hi Xhf0.out]at hor
    have hoa:orAns (min m m) f (Gf i f)=moreB m f (fun t=>f t||bg i t):=by
     rw [<-Xhjoin.out f i hi Xhf0.out,Nat.min_self]
     refine bool_of ?_
     unfold orAns
     rw [moreB_iff,List.any_eq_true]
     constructor
     ·rintro⟨t,ht,h⟩
      simp only [Bool.and_eq_true,Bool.not_eq_true']at h
      have ht':=List.mem_range.1 ht
      exact⟨t,ht',by unfold orSet;simp [h.1,ht'],h.2⟩
     ·rintro⟨t,ht,h1,h2⟩
      unfold orSet at h1
      rw [h2]at h1
      simp only [Bool.false_or,Bool.and_eq_true]at h1
      exact⟨t,List.mem_range.2 ht,by simp [h1.1,h2]⟩
    rw [hoa]at hor
    have hf2:(fun t=>f t||bg i t)=joinL f0 (hasI n e) (famI n bg) (l.take (k+1)):=by
     funext t
     rw [Xhf.out]
     unfold joinL
     rw [take_get Xhx.out,lineB_snoc Xhall.out,famI_nat hi,Bool.or_assoc]
    have hmm:(moreB m f (fun t=>f t||bg i t)||mo)=moreB m f0 (fun t=>f t||bg i t):=by
     rw [Xhmo.out]
     exact moreB_trans Xhf0.out (fun t h=>by simp [h])
    obtain⟨f2,hf2'⟩: ∃f2,f2=fun t=>f t||bg i t:=⟨_,rfl⟩
    rw [<-hf2']at hor hf2 hmm
    clear hoa hf2'
    generalize hmo2:moreB m f f2=mo2 at *
    clear b2 hmo2
    obtain⟨XhR2,Xht2,Xhto,Xhsi,Xhor,Xhf2,Xhmm⟩:=HqZ7 hR2 ht2 hto hsi hor hf2 hmm;clear hR2 ht2 hto hsi hor hf2 hmm
    go_wp2_with fail
    refine Xhor.out.mono ?_
    rintro ee w3 ⟨rfl,hs3,t3⟩
    have hR3:=XL.out.up XhR2.out hs3 t3
    have ht3:=Xht2.out.trans' t3
    clear s0 s1 s2 s3 hc Xht2 XhR2 Xhto Xhsi hs3 t3 Xhor
    obtain⟨s0,s1,s2,s3⟩:=XL.out.cells hR3
    have hem:=XL.out.em hR3
    have hlast: ∀b,hasI n e (i:Int)=false->b=moreB m f0 f2->FLinePost R S w m f0 (joinL f0 (hasI n e) (famI n bg) l) (l.all (hasI n e)) (.returned (.tuple #[.bool b,.bool false])) w3:=fun b he hb=>by
     have hff:joinL f0 (hasI n e) (famI n bg) l=f2:=by
      rw [Xhf2.out]
      funext t
      unfold joinL
      rw [lineB_stop Xhx.out he]
     exact⟨by rw [hff,all_stop Xhx.out he,hb],by rw [hff];exact hR3,ht3⟩
    have hnext:hasI n e (i:Int)=true->(l.take (k+1)).all (hasI n e)=true:=fun he=>all_take Xhx.out Xhall.out he
    cases mo2 with
    |true=>
     have hmm2:true=moreB m f0 f2:=Xhmm.out
     obtain⟨Xhlast,Xhnext,XhR3,Xht3,Xhem,Xhmm2⟩:=HqZ6 hlast hnext hR3 ht3 hem hmm2;clear hlast hnext hR3 ht3 hem hmm2
     go_wp2_with fail
     refine(set_has Xhem.out (i:Int)).mono ?_
     rintro ee w4 ⟨rfl,rfl⟩
     cases he:hasI n e (i:Int)with
     |false=>
      have fin:=Xhlast.out true he Xhmm2.out
      have Xfin:=hide fin;clear fin
      go_wp2_with fail
      go_ret2
      exact Xfin.out
     |true=>
      have hall2:=Xhnext.out he
      have Xhall2:=hide hall2;clear hall2
      go_wp2_with fail
      go_roundw
      case rel=>exact⟨k+1,f2,by omega,by go_num,Xhf2.out,by rw [<-Xhmm2.out],Xhall2.out,XhR3.out,Xht3.out⟩
      case measure=>simp [intOf];omega
    |false=>
     have hmm2:mo=moreB m f0 f2:=Xhmm.out
     obtain⟨Xhlast,Xhnext,XhR3,Xht3,Xhem,Xhmm2⟩:=HqZ6 hlast hnext hR3 ht3 hem hmm2;clear hlast hnext hR3 ht3 hem hmm2
     go_wp2_with fail
     refine(set_has Xhem.out (i:Int)).mono ?_
     rintro ee w4 ⟨rfl,rfl⟩
     cases he:hasI n e (i:Int)with
     |false=>
      have fin:=Xhlast.out mo he Xhmm2.out
      have Xfin:=hide fin;clear fin
      go_wp2_with fail
      go_ret2
      exact Xfin.out
     |true=>
      have hall2:=Xhnext.out he
      have Xhall2:=hide hall2;clear hall2
      go_wp2_with fail
      go_roundw
      case rel=>exact⟨k+1,f2,by omega,by go_num,Xhf2.out,by rw [<-Xhmm2.out],Xhall2.out,XhR3.out,Xht3.out⟩
      case measure=>simp [intOf];omega
  ·have hkq:k=q:=by omega
   have hlt': ¬(k:Int)<(q:Int):=by omega
   have hk2:l.take k=l:=List.take_of_length_le (by have:=Xhn.out;omega)
   rw [hk2]at hf hall
   subst hf
   have fin:FLinePost R S w m f0 (joinL f0 (hasI n e) (famI n bg) l) (l.all (hasI n e)) (.returned (.tuple #[.bool (moreB m f0 (joinL f0 (hasI n e) (famI n bg) l)),.bool true])) wr:=⟨by rw [hall],hR,ht⟩
   generalize moreB m f0 (joinL f0 (hasI n e) (famI n bg) l)=mo at *
   obtain⟨Xfin,Xhall,XhR,Xht,Xhf0,Xhk2⟩:=HqZ6 fin hall hR ht hf0 hk2;clear fin hall hR ht hf0 hk2;clear hkq
   go_wp2_with fail
   go_ret2
   exact Xfin.out
end
end Go.Proofs.YthlbjgabhpdbfaaGreat

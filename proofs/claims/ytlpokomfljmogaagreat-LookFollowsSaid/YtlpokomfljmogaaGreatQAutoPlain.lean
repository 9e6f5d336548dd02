/- The automaton: plain laws. Of no program. -/
import Derived.Test.YtlpokomfljmogaaGreatQItem1
import Derived.Test.YtlpokomfljmogaaGreatQLivePlain
namespace Go.Proofs.YtlpokomfljmogaaGreat
set_option linter.unusedVariables false
section
theorem nodup_len: ∀(N:Nat) (a:Int) {l:List Int},l.Nodup→(∀x∈l,a<x∧x≤a+N)→l.length≤N
 |0,a,l,_,h=>by
  match l,h with
  |[],_=>exact Nat.le_refl _
  |x::r,h=>have:=h x (List.mem_cons_self ..);omega
 |N+1,a,l,hn,h=>by
  by_cases hm:(a+(N+1:Nat):Int)∈l
  ·have h1:=List.length_erase_of_mem hm
   have h2:=nodup_len N a (hn.erase (a+(N+1:Nat):Int)) (fun x hx=>by
    obtain⟨hx1,hx2⟩:=(hn.mem_erase_iff).1 hx
    have:=h x hx2
    omega)
   omega
  ·have:=nodup_len N a hn (fun x hx=>by
    have h1:=h x hx
    have h2:x≠a+(N+1:Nat):=fun e=>hm (e▸hx)
    omega)
   omega
theorem nons_len {G:GramD} {l:List Int} (hn:l.Nodup) (h: ∀x∈l,isNon G x=true):l.length≤G.nons.length:=by
 refine nodup_len G.nons.length G.terms.length hn fun x hx=> ?_
 have:=h x hx
 unfold isNon topOf at this
 simp only [Bool.and_eq_true,decide_eq_true_eq]at this
 omega
theorem of_len {G:GramD} {s:Int}:(ofOf G s).length≤G.rules.length:=by
 unfold ofOf ofUpto
 rw [List.length_map]
 exact Nat.le_trans (List.length_filter_le _ _) (by simp)
inductive Bg (G:GramD) (st:Int) (s:Int):Int→Prop
 |base:Bg G st s s
 |next (n k m:Int):Bg G st s n→k∈ofOf G n→behindI G st (k,0)=(m,true)→isNon G m=true→Bg G st s m
def rulesI (ks:List Int):List It:=ks.map fun k=>(k,0)
theorem rules_next {ks:List Int} {k:Nat} {r:Int} (h:ks[k]? =some r):rulesI (ks.take (k+1))=rulesI (ks.take k)++[(r,0)]:=by
 unfold rulesI
 rw [List.take_add_one,h,List.map_append];rfl
theorem rules_len (ks:List Int):(rulesI ks).length=ks.length:=by unfold rulesI;simp
theorem rules_get {ks:List Int} {k:Nat} {x:It} (h:(rulesI ks)[k]? =some x): ∃r,ks[k]? =some r∧x=(r,0):=by
 unfold rulesI at h
 rw [List.getElem?_map]at h
 obtain⟨r,hr,rfl⟩:=Option.map_eq_some_iff.1 h
 exact⟨r,hr,rfl⟩
theorem mem_rules {ks:List Int} {x:It}:x∈rulesI ks↔ ∃r∈ks,x=(r,0):=by
 unfold rulesI
 rw [List.mem_map]
 exact⟨fun⟨r,h1,h2⟩=>⟨r,h1,h2.symm⟩,fun⟨r,h1,h2⟩=>⟨r,h1,h2.symm⟩⟩
def IsBe (G:GramD) (st:Int) (s:Int) (o:List It):Prop:= ∀z,z∈o↔ ∃n k,Bg G st s n∧k∈ofOf G n∧z=(k,0)
structure BgSt (G:GramD) (st:Int) (s:Int) (done todo:List Int) (all:List It):Prop where
 nodup:(done++todo).Nodup
 sound: ∀n∈done++todo,Bg G st s n∧isNon G n=true
 first:s∈done++todo
 all_:all=done.flatMap fun n=>rulesI (ofOf G n)
 closed: ∀n∈done,∀k∈ofOf G n,∀m,behindI G st (k,0)=(m,true)→isNon G m=true→m∈done++todo
structure BgIn (G:GramD) (st:Int) (s:Int) (done:List Int) (n0:Int) (todo:List Int) (j:Nat):Prop where
 nodup:(done++[n0]++todo).Nodup
 sound: ∀n∈done++[n0]++todo,Bg G st s n∧isNon G n=true
 first:s∈done++[n0]++todo
 closed: ∀n∈done,∀k∈ofOf G n,∀m,behindI G st (k,0)=(m,true)→isNon G m=true→m∈done++[n0]++todo
 here: ∀k∈(ofOf G n0).take j,∀m,behindI G st (k,0)=(m,true)→isNon G m=true→m∈done++[n0]++todo
section
variable {G : GramD} {st s : Int} {done todo : List Int} {all : List It} {n0 : Int} {j : Nat}
theorem BgSt.start (h:isNon G s=true):BgSt G st s [] [s] []:=
 ⟨by simp,fun n hn=>by have:n=s:=(by simpa using hn);subst this;exact⟨.base,h⟩,by simp,rfl,fun n hn=>by cases hn⟩
theorem BgSt.len (h:BgSt G st s done todo all):done.length+todo.length≤G.nons.length:=by
 have:=nons_len h.nodup fun x hx=>(h.sound x hx).2
 rwa [List.length_append]at this
theorem BgIn.len (h:BgIn G st s done n0 todo j):done.length+1+todo.length≤G.nons.length:=by
 have:=nons_len h.nodup fun x hx=>(h.sound x hx).2
 rwa [List.length_append,List.length_append]at this
theorem BgSt.allLen (h:BgSt G st s done todo all) (hr:G.rules.length≤300):all.length≤done.length * 300:=by
 rw [h.all_]
 have: ∀d:List Int,(d.flatMap fun n=>rulesI (ofOf G n)).length≤d.length * 300:=by
  intro d
  induction d with
  |nil=>simp
  |cons x r ih=>
   rw [List.flatMap_cons,List.length_append,rules_len]
   have:=of_len (G:=G) (s:=x)
   simp only [List.length_cons]
   omega
 exact this done
theorem BgSt.take (h:BgSt G st s done (n0::todo) all):BgIn G st s done n0 todo 0:=by
 have e:done++[n0]++todo=done++n0::todo:=by simp
 exact⟨by rw [e];exact h.nodup,by rw [e];exact h.sound,by rw [e];exact h.first,by rw [e];exact h.closed,fun k hk=>by cases hk⟩
theorem BgIn.back (h:BgIn G st s done n0 todo (ofOf G n0).length) (hall:all=done.flatMap fun n=>rulesI (ofOf G n)):BgSt G st s (done++[n0]) todo (all++rulesI (ofOf G n0)):=by
 refine⟨h.nodup,h.sound,h.first,by rw [List.flatMap_append,←hall];simp,fun n hn k hk m hm hn'=> ?_⟩
 rcases List.mem_append.1 hn with hn|hn
 ·exact h.closed n hn k hk m hm hn'
 ·obtain rfl:=List.mem_singleton.1 hn
  have:=h.here
  rw [List.take_length]at this
  exact this k hk m hm hn'
theorem BgIn.skip {r:Int} (h:BgIn G st s done n0 todo j) (hr:(ofOf G n0)[j]? =some r) (hm: ∀m,behindI G st (r,0)=(m,true)→isNon G m=true→m∈done++[n0]++todo):BgIn G st s done n0 todo (j+1):=by
 refine⟨h.nodup,h.sound,h.first,h.closed,fun k hk m=> ?_⟩
 rw [List.take_add_one,hr]at hk
 rcases List.mem_append.1 hk with hk|hk
 ·exact h.here k hk m
 ·have:k=r:=by simpa using hk
  subst this
  exact hm m
theorem BgIn.put {r m:Int} (h:BgIn G st s done n0 todo j) (hr:(ofOf G n0)[j]? =some r) (hm:behindI G st (r,0)=(m,true)) (hn:isNon G m=true) (hnew:m∉done++[n0]++todo):BgIn G st s done n0 (todo++[m]) (j+1):=by
 have e:done++[n0]++(todo++[m])=(done++[n0]++todo)++[m]:=by simp
 refine⟨?_,?_,?_,?_,?_⟩
 ·rw [e]
  exact List.nodup_append.2 ⟨h.nodup,by simp,fun a ha b hb=>by
   have:b=m:=by simpa using hb
   subst this
   exact fun e'=>hnew (e'▸ha)⟩
 ·rw [e]
  intro n hn'
  rcases List.mem_append.1 hn' with hn'|hn'
  ·exact h.sound n hn'
  ·obtain rfl:=List.mem_singleton.1 hn'
   exact⟨.next n0 r _ (h.sound n0 (by simp)).1 (List.mem_of_getElem? hr) hm hn,hn⟩
 ·rw [e];exact List.mem_append_left _ h.first
 ·rw [e];exact fun n hn' k hk q hq hq'=>List.mem_append_left _ (h.closed n hn' k hk q hq hq')
 ·rw [e]
  intro k hk q hq hq'
  rw [List.take_add_one,hr]at hk
  rcases List.mem_append.1 hk with hk|hk
  ·exact List.mem_append_left _ (h.here k hk q hq hq')
  ·have:k=r:=by simpa using hk
   subst this
   rw [hm]at hq
   injection hq with hq _
   subst hq
   simp
theorem BgSt.is (h:BgSt G st s done [] all):IsBe G st s all:=by
 intro z
 rw [h.all_,List.mem_flatMap]
 constructor
 ·rintro⟨n,hn,hz⟩
  obtain⟨k,hk,rfl⟩:=mem_rules.1 hz
  exact⟨n,k,(h.sound n (by simpa using hn)).1,hk,rfl⟩
 ·rintro⟨n,k,hb,hk,rfl⟩
  refine⟨n,?_,mem_rules.2 ⟨k,hk,rfl⟩⟩
  clear hk
  induction hb with
  |base=>simpa using h.first
  |next n' k' m' _ hk' hb' hn' ih=>simpa using h.closed n' ih k' hk' m' hb' hn'
end
theorem cl_iff {G:GramD} {st:Int} (hk:KnI G st) {l:List It} (hr: ∀x∈l,rightI G st x=true) (z:It):
  Cl G st l z↔z∈l∨ ∃x∈l,∃n m k,behindI G st x=(n,true)∧isNon G n=true∧Bg G st n m∧k∈ofOf G m∧z=(k,0):=by
 constructor
 ·intro h
  induction h with
  |base x hx _=>exact .inl hx
  |next y s k _ hb hs ih=>
   have hnon:=hk.non s k hs
   rcases ih with hy|⟨x,hx,n,m,q,e1,e2,e3,e4,rfl⟩
   ·exact .inr ⟨y,hy,s,s,k,hb,hnon,.base,hs,rfl⟩
   ·exact .inr ⟨x,hx,n,s,k,e1,e2,.next m q s e3 e4 hb hnon,hs,rfl⟩
 ·rintro(h|⟨x,hx,n,m,k,e1,e2,e3,e4,rfl⟩)
  ·exact .base z h (hr z h)
  ·have key: ∀m,Bg G st n m→ ∀k∈ofOf G m,Cl G st l (k,0):=by
    intro m hb
    induction hb with
    |base=>exact fun k hk'=> .next x n k (.base x hx (hr x hx)) e1 hk'
    |next n' k' m' _ hk' hb' _ ih=>exact fun k hk''=> .next (k',0) m' k (ih k' hk') hb' hk''
   exact key m e3 k e4
def Nx (G:GramD) (st:Int) (l:List It) (s:Int) (o:List It):Prop:=StrictI o∧ ∀z,z∈o↔ ∃x,Cl G st l x∧behindI G st x=(s,true)∧z=(x.1,x.2+1)
noncomputable def nxI (G:GramD) (st:Int) (l:List It) (s:Int):List It:=canonI ((allIt G st).filter fun z=> @decide (∃x,Cl G st l x∧behindI G st x=(s,true)∧z=(x.1,x.2+1)) (Classical.propDecidable _))
theorem nx_is (G:GramD) (st:Int) (l:List It) (s:Int):Nx G st l s (nxI G st l s):=by
 refine⟨canon_strict _,fun z=> ?_⟩
 unfold nxI
 rw [mem_canon,List.mem_filter, @decide_eq_true_eq _ (Classical.propDecidable _)]
 refine⟨fun h=>h.2,fun h=>⟨?_,h⟩⟩
 obtain⟨x,h1,h2,rfl⟩:=h
 exact mem_allIt (step_right h2).1
theorem nx_right {G:GramD} {st s:Int} {l:List It} {z:It} (h:z∈nxI G st l s):rightI G st z=true:=by
 obtain⟨x,h1,h2,rfl⟩:=((nx_is G st l s).2 z).1 h
 exact(step_right h2).1
theorem nx_of {G:GramD} {st s:Int} {l c:List It} (h:IsCl G st l c):canonI (stepsI G st c s)=nxI G st l s:=by
 refine strict_unique (canon_strict _) (nx_is G st l s).1 fun z=> ?_
 rw [mem_canon,(nx_is G st l s).2]
 unfold stepsI
 rw [List.mem_map]
 constructor
 ·rintro⟨x,hx,rfl⟩
  obtain⟨h1,h2⟩:=List.mem_filter.1 hx
  exact⟨x,(h.mem x).1 h1,of_decide_eq_true h2,rfl⟩
 ·rintro⟨x,h1,h2,rfl⟩
  exact⟨x,List.mem_filter.2 ⟨(h.mem x).2 h1,decide_eq_true h2⟩,rfl⟩
end
section
def findK (L:List (List It)) (k:List It):Int:=if k∈L then((L.idxOf k:Nat):Int)else -1
def putK (L:List (List It)) (k:List It):List (List It)×Int:=if k∈L then(L,((L.idxOf k:Nat):Int))else(L++[k],((L.length:Nat):Int))
theorem idx_get {L:List (List It)} {k:List It} (h:k∈L):L[L.idxOf k]? =some k:=by
 have h1:=List.idxOf_lt_length_of_mem h
 rw [List.getElem?_eq_getElem h1,List.getElem_idxOf]
theorem putK_yes {L:List (List It)} {k:List It} (h:k∈L):putK L k=(L,((L.idxOf k:Nat):Int)):=if_pos h
theorem putK_no {L:List (List It)} {k:List It} (h:k∉L):putK L k=(L++[k],((L.length:Nat):Int)):=if_neg h
noncomputable def rowA (G:GramD) (st:Int) (kern:List It) (L:List (List It)):Nat→List (List It)×List It
 |0=>(L,[])
 |m+1=>if nxI G st kern ((m+1:Nat):Int)=[]then rowA G st kern L m else((putK (rowA G st kern L m).1 (nxI G st kern ((m+1:Nat):Int))).1,(rowA G st kern L m).2++[(((m+1:Nat):Int),(putK (rowA G st kern L m).1 (nxI G st kern ((m+1:Nat):Int))).2)])
section
variable {G : GramD} {st : Int} {kern : List It} {L : List (List It)} {m : Nat}
theorem rowA_no (h:nxI G st kern ((m+1:Nat):Int)=[]):rowA G st kern L (m+1)=rowA G st kern L m:=by
 show(if _ then _ else _)=_
 rw [if_pos h]
theorem rowA_yes (h:nxI G st kern ((m+1:Nat):Int)≠[]):rowA G st kern L (m+1)=((putK (rowA G st kern L m).1 (nxI G st kern ((m+1:Nat):Int))).1,(rowA G st kern L m).2++[(((m+1:Nat):Int),(putK (rowA G st kern L m).1 (nxI G st kern ((m+1:Nat):Int))).2)]):=by
 show(if _ then _ else _)=_
 rw [if_neg h]
end
structure RowF (G:GramD) (st:Int) (kern:List It) (L:List (List It)) (m:Nat) (L':List (List It)) (t:List It):Prop where
 pre: ∃e,L'=L++e
 nodup:L.Nodup→L'.Nodup
 len:L'.length≤L.length+m
 mem: ∀s to:Int,((s,to):It)∈t→1≤s∧s≤m∧nxI G st kern s≠[]∧0≤to∧L'[to.toNat]? =some (nxI G st kern s)
 has: ∀s:Int,1≤s→s≤m→nxI G st kern s≠[]→ ∃to:Int,((s,to):It)∈t
 sort:t.Pairwise (fun a b=>a.1<b.1)
 new: ∀n,L.length≤n→n<L'.length→ ∃s:Int,((s,(n:Int)):It)∈t
 tlen:t.length≤m
 kind: ∀k∈L',k∈L∨ ∃s,k=nxI G st kern s∧k≠[]
theorem nodup_get {α:Type} {L:List α} (hn:L.Nodup) {i j:Nat} {x:α} (hi:L[i]? =some x) (hj:L[j]? =some x):i=j:=by
 obtain⟨h1,e1⟩:=List.getElem?_eq_some_iff.1 hi
 obtain⟨h2,e2⟩:=List.getElem?_eq_some_iff.1 hj
 rcases Nat.lt_trichotomy i j with h|h|h
 ·exact absurd (e1.trans e2.symm) ((List.pairwise_iff_getElem.1 hn) i j h1 h2 h)
 ·exact h
 ·exact absurd (e2.trans e1.symm) ((List.pairwise_iff_getElem.1 hn) j i h2 h1 h)
theorem rowF (G:GramD) (st:Int) (kern:List It) {L:List (List It)} (hn:L.Nodup): ∀m,RowF G st kern L m (rowA G st kern L m).1 (rowA G st kern L m).2
 |0=>⟨⟨[],by simp [rowA]⟩,id,Nat.le_refl _,fun s to h=>(by cases h),fun s h1 h2=>by omega,List.Pairwise.nil,fun n h1 h2=>absurd h2 (by simp [rowA];omega),Nat.le_refl _,fun k hk=> .inl hk⟩
 |m+1=>by
  have ih:=rowF G st kern hn m
  by_cases h0:nxI G st kern ((m+1:Nat):Int)=[]
  ·rw [rowA_no h0]
   refine⟨ih.pre,ih.nodup,by have:=ih.len;omega,fun s to h=> ?_,fun s h1 h2 h3=>ih.has s h1 ?_ h3,ih.sort,ih.new,by have:=ih.tlen;omega,ih.kind⟩
   ·obtain⟨h1,h2,h3⟩:=ih.mem s to h
    exact⟨h1,by omega,h3⟩
   ·by_cases e:s=((m+1:Nat):Int)
    ·subst e;exact absurd h0 h3
    ·omega
  ·rw [rowA_yes h0]
   obtain⟨k,hk⟩: ∃k,k=nxI G st kern ((m+1:Nat):Int):=⟨_,rfl⟩
   rw [←hk]at h0⊢
   obtain⟨L1,hL1⟩: ∃L1,L1=(rowA G st kern L m).1:=⟨_,rfl⟩
   obtain⟨t1,ht1⟩: ∃t1,t1=(rowA G st kern L m).2:=⟨_,rfl⟩
   rw [←hL1,←ht1]at ih⊢
   have hn1:=ih.nodup hn
   -- the new list and the number
   obtain⟨L2,to2,he,hpre,hget,hn2,hlen,hnew⟩: ∃(L2:List (List It)) (to2:Nat),putK L1 k=(L2,(to2:Int))∧(∃e,L2=L1++e)∧L2[to2]? =some k∧L2.Nodup∧L2.length≤L1.length+1∧(∀n,L1.length≤n→n<L2.length→n=to2)∧(∀q∈L2,q∈L1∨q=k):=by
    by_cases hm:k∈L1
    ·exact⟨L1,L1.idxOf k,putK_yes hm,⟨[],by simp⟩,idx_get hm,hn1,by omega,fun n h1 h2=>by omega,fun q hq=> .inl hq⟩
    ·refine⟨L1++[k],L1.length,putK_no hm,⟨[k],rfl⟩,by simp,?_,by simp,fun n h1 h2=>by simp at h2;omega,fun q hq=> ?_⟩
     ·refine List.nodup_append.2 ⟨hn1,by simp,fun a ha b hb=> ?_⟩
      obtain rfl:=List.mem_singleton.1 hb
      exact fun e=>hm (e▸ha)
     ·rcases List.mem_append.1 hq with hq|hq
      ·exact .inl hq
      ·exact .inr (List.mem_singleton.1 hq)
   obtain⟨hnew,hkd⟩:=hnew
   rw [he]
   obtain⟨e1,hp1⟩:=ih.pre
   obtain⟨e2,hp2⟩:=hpre
   have up: ∀{n:Nat} {q:List It},L1[n]? =some q→L2[n]? =some q:=fun{n q} h=>by
    rw [hp2,List.getElem?_append_left (List.getElem?_eq_some_iff.1 h).1];exact h
   refine⟨⟨e1++e2,by rw [hp2,hp1,List.append_assoc]⟩,fun _=>hn2,by have:=ih.len;show L2.length≤_;omega,fun s to h=> ?_,fun s h1 h2 h3=> ?_,?_,fun n h1 h2=> ?_,by have:=ih.tlen;simp;omega,fun q hq=> ?_⟩
   ·rw [List.mem_append,List.mem_singleton]at h
    rcases h with h|h
    ·obtain⟨h1,h2,h3,h4,h5⟩:=ih.mem s to h
     exact⟨h1,by omega,h3,h4,up h5⟩
    ·injection h with h1 h2
     subst h1 h2
     rw [←hk]
     exact⟨by omega,Int.le_refl _,h0,by omega,hget⟩
   ·by_cases e:s=((m+1:Nat):Int)
    ·subst e
     exact⟨_,List.mem_append_right _ (List.mem_singleton.2 rfl)⟩
    ·obtain⟨to,h⟩:=ih.has s h1 (by omega) h3
     exact⟨to,List.mem_append_left _ h⟩
   ·refine List.pairwise_append.2 ⟨ih.sort,List.pairwise_singleton _ _,fun a ha b hb=> ?_⟩
    obtain rfl:=List.mem_singleton.1 hb
    obtain⟨a1,a2⟩:=a
    have:=(ih.mem a1 a2 ha).2.1
    simp only
    omega
   ·by_cases hlt:n<L1.length
    ·obtain⟨s,hs⟩:=ih.new n h1 hlt
     exact⟨s,List.mem_append_left _ hs⟩
    ·have:=hnew n (by omega) h2
     subst this
     exact⟨_,List.mem_append_right _ (List.mem_singleton.2 rfl)⟩
   ·rcases hkd q hq with hq|hq
    ·exact ih.kind q hq
    ·exact .inr ⟨_,hq.trans hk,hq▸h0⟩
inductive Bld (G:GramD) (st:Int):Nat→List (List It)→List (List It)→Prop
 |start:Bld G st 0 [[((G.rules.length:Int),0)]] []
 |next (i:Nat) (L T:List (List It)) (k:List It):Bld G st i L T→L[i]? =some k→(rowA G st k L (topOf G)).1.length≤2000→Bld G st (i+1) (rowA G st k L (topOf G)).1 (T++[(rowA G st k L (topOf G)).2])
theorem Bld.fn {G:GramD} {st:Int}: ∀{i:Nat} {L T L' T':List (List It)},Bld G st i L T→Bld G st i L' T'→L=L'∧T=T'
 |0,_,_,_,_,.start,.start=>⟨rfl,rfl⟩
 |i+1,_,_,_,_,.next _ L T k h hk _,.next _ L' T' k' h' hk' _=>by
  obtain⟨rfl,rfl⟩:=h.fn h'
  rw [hk]at hk'
  injection hk' with hk'
  subst hk'
  exact⟨rfl,rfl⟩
inductive Auto (G:GramD) (st:Int):Option (List (List It)×List (List It))→Prop
 |ok (L T:List (List It)):Bld G st L.length L T→Auto G st (some (L,T))
 |many (i:Nat) (L T:List (List It)) (k:List It):Bld G st i L T→L[i]? =some k→2000<(rowA G st k L (topOf G)).1.length→Auto G st none
structure BldF (G:GramD) (st:Int) (i:Nat) (L T:List (List It)):Prop where
 len:T.length=i
 le:i≤L.length
 small:L.length≤2000
 nodup:L.Nodup
 first:L[0]? =some [((G.rules.length:Int),0)]
 kind: ∀k∈L,k=[((G.rules.length:Int),0)]∨ ∃q s,k=nxI G st q s∧k≠[]
 mem: ∀(j:Nat) t k,T[j]? =some t→L[j]? =some k→ ∀s to:Int,((s,to):It)∈t→1≤s∧s≤topOf G∧nxI G st k s≠[]∧0≤to∧L[to.toNat]? =some (nxI G st k s)
 has: ∀(j:Nat) t k,T[j]? =some t→L[j]? =some k→ ∀s:Int,1≤s→s≤topOf G→nxI G st k s≠[]→ ∃to:Int,((s,to):It)∈t
 sort: ∀t∈T,t.Pairwise (fun a b:It=>a.1<b.1)
 tlen: ∀t∈T,t.length≤topOf G
 early: ∀n,0<n→n<L.length→ ∃(j:Nat) (t:List It) (s:Int),j<n∧j<i∧T[j]? =some t∧((s,(n:Int)):It)∈t
theorem Bld.f {G:GramD} {st:Int} {i:Nat} {L T:List (List It)} (h:Bld G st i L T):BldF G st i L T:=by
 induction h with
 |start=>
  refine⟨rfl,by simp,by simp,by simp,rfl,fun k hk=> .inl (by simpa using hk),fun j t k h=>(by simp at h),fun j t k h=>(by simp at h),fun t h=>(by cases h),fun t h=>(by cases h),fun n h1 h2=>by simp at h2;omega⟩
 |next i L T k hb hk hl ih=>
  have r:=rowF G st k ih.nodup (topOf G)
  generalize rowA G st k L (topOf G)=p at *
  obtain⟨L',t'⟩:=p
  simp only at r hl⊢
  obtain⟨e,hp⟩:=r.pre
  have hi:=(List.getElem?_eq_some_iff.1 hk).1
  have up: ∀{n:Nat} {q:List It},L[n]? =some q→L'[n]? =some q:=fun{n q} h=>by
   rw [hp,List.getElem?_append_left (List.getElem?_eq_some_iff.1 h).1];exact h
  have hLl:L.length≤L'.length:=by rw [hp];simp
  have hn':=r.nodup ih.nodup
  have split: ∀(j:Nat) t q,(T++[t'])[j]? =some t→L'[j]? =some q→(t=t'∧q=k)∨(T[j]? =some t∧L[j]? =some q):=fun j t q hj hq=>by
   have hil:=ih.len
   by_cases e:j=i
   ·subst e
    left
    rw [←hil,List.getElem?_concat_length]at hj
    rw [up hk]at hq
    exact⟨(Option.some.inj hj).symm,(Option.some.inj hq).symm⟩
   ·right
    have hji:j<T.length:=by
     have:=(List.getElem?_eq_some_iff.1 hj).1
     simp only [List.length_append,List.length_singleton]at this
     omega
    rw [List.getElem?_append_left hji]at hj
    have hjl:j<L.length:=by have:=ih.le;omega
    rw [hp,List.getElem?_append_left hjl]at hq
    exact⟨hj,hq⟩
  refine⟨by simp [ih.len],by omega,hl,hn',up ih.first,fun q hq=> ?_,fun j t q hj hq s to h=> ?_,fun j t q hj hq s h1 h2 h3=> ?_,fun t ht=> ?_,fun t ht=> ?_,fun n h1 h2=> ?_⟩
  ·rcases r.kind q hq with hq|⟨s,h1,h2⟩
   ·exact ih.kind q hq
   ·exact .inr ⟨k,s,h1,h2⟩
  ·rcases split j t q hj hq with⟨rfl,rfl⟩|⟨hj,hq⟩
   ·exact r.mem s to h
   ·obtain⟨a,b,c,d,f⟩:=ih.mem j t q hj hq s to h
    exact⟨a,b,c,d,up f⟩
  ·rcases split j t q hj hq with⟨rfl,rfl⟩|⟨hj,hq⟩
   ·exact r.has s h1 h2 h3
   ·exact ih.has j t q hj hq s h1 h2 h3
  ·rcases List.mem_append.1 ht with ht|ht
   ·exact ih.sort t ht
   ·obtain rfl:=List.mem_singleton.1 ht;exact r.sort
  ·rcases List.mem_append.1 ht with ht|ht
   ·exact ih.tlen t ht
   ·obtain rfl:=List.mem_singleton.1 ht;exact r.tlen
  ·by_cases hlt:n<L.length
   ·obtain⟨j,t,s,a,b,c,d⟩:=ih.early n h1 hlt
    exact⟨j,t,s,a,by omega,by rw [List.getElem?_append_left (by have:=ih.len;omega)];exact c,d⟩
   ·obtain⟨s,hs⟩:=r.new n (by omega) h2
    exact⟨i,t',s,by omega,by omega,by rw [←ih.len,List.getElem?_concat_length],hs⟩
end
section
theorem Bld.prev {G:GramD} {st:Int} {i':Nat} {L' T':List (List It)} (h:Bld G st i' L' T'): ∀{i:Nat},i<i'→ ∃L T k,Bld G st i L T∧L[i]? =some k∧(rowA G st k L (topOf G)).1.length≤2000:=by
 induction h with
 |start=>intro i hi;omega
 |next j L T k hb hk hl ih=>
  intro i hi
  by_cases e:i=j
  ·subst e;exact⟨L,T,k,hb,hk,hl⟩
  ·exact ih (by omega)
theorem Auto.unique {G:GramD} {st:Int} {r r':Option (List (List It)×List (List It))} (h:Auto G st r) (h':Auto G st r'):r=r':=by
 have ok: ∀{L T L' T':List (List It)} {i:Nat},Bld G st L.length L T→Bld G st i L' T'→i≤L.length:=fun{L T L' T' i} hb hb'=>by
  rcases Nat.lt_or_ge L.length i with e|e
  ·obtain⟨L2,T2,k,h1,h2,-⟩:=hb'.prev e
   obtain⟨rfl,-⟩:=hb.fn h1
   have:=(List.getElem?_eq_some_iff.1 h2).1
   omega
  ·exact e
 have two: ∀{L T:List (List It)} {i:Nat} {k:List It} {L' T':List (List It)} {j:Nat},Bld G st i L T→L[i]? =some k→2000<(rowA G st k L (topOf G)).1.length→Bld G st j L' T'→j≤i:=fun{L T i k L' T' j} hb hk hl hb'=>by
  rcases Nat.lt_or_ge i j with e|e
  ·obtain⟨L2,T2,k2,h1,h2,h3⟩:=hb'.prev e
   obtain⟨rfl,-⟩:=hb.fn h1
   rw [hk]at h2
   injection h2 with h2
   subst h2
   omega
  ·exact e
 cases h with
 |ok L T hb=>
  cases h' with
  |ok L' T' hb'=>
   have e1:=ok hb hb'
   have e2:=ok hb' hb
   have e:L.length=L'.length:=by omega
   rw [←e]at hb'
   obtain⟨rfl,rfl⟩:=hb.fn hb'
   rfl
  |many i L' T' k hb' hk hl=>
   exfalso
   have e1:=two hb' hk hl hb
   have e2:=ok hb hb'
   have e:i=L.length:=by omega
   subst e
   obtain⟨rfl,-⟩:=hb.fn hb'
   have:=(List.getElem?_eq_some_iff.1 hk).1
   omega
 |many i L T k hb hk hl=>
  cases h' with
  |ok L' T' hb'=>
   exfalso
   have e1:=two hb hk hl hb'
   have e2:=ok hb' hb
   have e:i=L'.length:=by omega
   subst e
   obtain⟨rfl,-⟩:=hb.fn hb'
   have:=(List.getElem?_eq_some_iff.1 hk).1
   omega
  |many _ _ _ _ _ _ _=>rfl
def moreC (G:GramD) (st:Int) (o:List It):List It:=canonI (o++o.flatMap fun x=>if(behindI G st x).2=true then rulesI (ofOf G (behindI G st x).1)else [])
def clC (G:GramD) (st:Int) (l:List It):Nat→List It
 |0=>canonI (l.filter (rightI G st))
 |n+1=>moreC G st (clC G st l n)
theorem clC_sound {G:GramD} {st:Int} {l:List It}: ∀(n:Nat),∀z∈clC G st l n,Cl G st l z
 |0,z,hz=>by
  obtain⟨h1,h2⟩:=List.mem_filter.1 (mem_canon.1 hz)
  exact .base z h1 h2
 |n+1,z,hz=>by
  rcases List.mem_append.1 (mem_canon.1 hz)with h|h
  ·exact clC_sound n z h
  ·obtain⟨x,hx,hz⟩:=List.mem_flatMap.1 h
   split at hz
   ·rename_i hb
    obtain⟨k,hk,rfl⟩:=mem_rules.1 hz
    exact .next x (behindI G st x).1 k (clC_sound n x hx) (by rw [←hb]) hk
   ·cases hz
theorem clC_base {G:GramD} {st:Int} {l:List It} {z:It} (h1:z∈l) (h2:rightI G st z=true): ∀(n:Nat),z∈clC G st l n
 |0=>mem_canon.2 (List.mem_filter.2 ⟨h1,h2⟩)
 |n+1=>mem_canon.2 (List.mem_append_left _ (clC_base h1 h2 n))
theorem clC_is {G:GramD} {st:Int} {l:List It} {n:Nat} (h:clC G st l (n+1)=clC G st l n):IsCl G st l (clC G st l n):=by
 refine⟨by cases n<;>exact canon_strict _,fun z=>⟨clC_sound n z,fun hz=> ?_⟩⟩
 induction hz with
 |base x hx hr=>exact clC_base hx hr n
 |next y s k _ hb hk ih=>
  rw [←h]
  refine mem_canon.2 (List.mem_append_right _ (List.mem_flatMap.2 ⟨y,ih,?_⟩))
  rw [hb,if_pos rfl]
  exact mem_rules.2 ⟨k,hk,rfl⟩
def rowC (G:GramD) (st:Int) (c:List It) (L:List (List It)):Nat→List (List It)×List It
 |0=>(L,[])
 |m+1=>if canonI (stepsI G st c ((m+1:Nat):Int))=[]then rowC G st c L m else((putK (rowC G st c L m).1 (canonI (stepsI G st c ((m+1:Nat):Int)))).1,(rowC G st c L m).2++[(((m+1:Nat):Int),(putK (rowC G st c L m).1 (canonI (stepsI G st c ((m+1:Nat):Int)))).2)])
theorem rowC_eq {G:GramD} {st:Int} {k:List It} {L:List (List It)} {c:List It} (h:IsCl G st k c): ∀m,rowA G st k L m=rowC G st c L m
 |0=>rfl
 |m+1=>by
  show(if _ then _ else _)=(if _ then _ else _)
  rw [rowC_eq h m,nx_of h]
end
end Go.Proofs.YtlpokomfljmogaaGreat
namespace Go.Proofs.YtlpokomfljmogaaGreat
set_option linter.unusedVariables false
def rgt (G:GramD) (st k:Int):List Int:=(ruleOf G st k).1.2
noncomputable def lnB (G:GramD) (l:List Int) (t:Nat):Bool:=lineB (hasI (topN G) (empB G)) (famI (topN G) (begB G)) l t
noncomputable def emB (G:GramD) (l:List Int):Bool:=l.all (hasI (topN G) (empB G))
inductive CSelf (G:GramD) (st s:Int):Int→Prop
 |base:CSelf G st s s
 |next (x k y:Int) (rest:List Int):CSelf G st s x→k∈ofOf G x→rgt G st k=y::rest→isNon G y=true→emB G rest=true→CSelf G st s y
inductive CSet (G:GramD) (st s:Int):Int→Nat→Prop
 |self (x k y:Int) (rest:List Int) (t:Nat):CSelf G st s x→k∈ofOf G x→rgt G st k=y::rest→isNon G y=true→lnB G rest t=true→CSet G st s y t
 |line (x k y:Int) (rest:List Int) (t u:Nat):CSet G st s x u→k∈ofOf G x→rgt G st k=y::rest→isNon G y=true→lnB G rest t=true→CSet G st s y t
 |pass (x k y:Int) (rest:List Int) (t:Nat):CSet G st s x t→k∈ofOf G x→rgt G st k=y::rest→isNon G y=true→emB G rest=true→CSet G st s y t
structure Co where
 s:Int
 f:Nat→Bool
 self:Bool
def Co.live (c:Co):Prop:=c.self=true∨ ∃t,c.f t=true
def DoneC (G:GramD) (st:Int) (out:List Co) (c:Co) (k:Int):Prop:= ∀y rest,rgt G st k=y::rest→isNon G y=true→ ∃(j:Nat) (d:Co),out[j]? =some d∧d.s=y∧(c.live→ ∀t,lnB G rest t=true→d.f t=true)∧(emB G rest=true→(∀t,c.f t=true→d.f t=true)∧(c.self=true→d.self=true))
structure CoSt (G:GramD) (st s:Int) (out:List Co) (todo:List Nat):Prop where
 nodup:(out.map Co.s).Nodup
 snd: ∀c∈out,Bg G st s c.s∧isNon G c.s=true∧(c.self=true→CSelf G st s c.s)∧ ∀t,c.f t=true→CSet G st s c.s t
 hi: ∀c∈out,∀t,G.terms.length+1≤t→c.f t=false
 first: ∃c,out[0]? =some c∧c.s=s∧c.self=true
 low: ∀i∈todo,i<out.length
structure CoAll (G:GramD) (st s:Int) (out:List Co) (todo:List Nat):Prop extends CoSt G st s out todo where
 done: ∀(i:Nat) c,out[i]? =some c→i∉todo→ ∀k∈ofOf G c.s,DoneC G st out c k
structure CoIn (G:GramD) (st s:Int) (out:List Co) (todo:List Nat) (i0:Nat) (x:Int) (xs:Bool) (j:Nat):Prop extends CoSt G st s out todo where
 done: ∀(i:Nat) c,out[i]? =some c→i∉todo→i≠i0→ ∀k∈ofOf G c.s,DoneC G st out c k
 cur: ∃c,out[i0]? =some c∧c.s=x∧(xs=true→c.self=true)∧(i0∉todo→c.self=xs∧ ∀(j':Nat) k,j'<j→(ofOf G x)[j']? =some k→DoneC G st out c k)
section
variable {G : GramD} {st s : Int} {out : List Co} {todo : List Nat} {i0 j : Nat} {x : Int} {xs : Bool}
def GrowC (out out':List Co):Prop:= ∀(j:Nat) d,out[j]? =some d→ ∃d',out'[j]? =some d'∧d'.s=d.s∧(∀t,d.f t=true→d'.f t=true)∧(d.self=true→d'.self=true)
theorem DoneC.grow {out':List Co} {c:Co} {k:Int} (h:DoneC G st out c k) (g:GrowC out out'):DoneC G st out' c k:=fun y rest h1 h2=>by
 obtain⟨j,d,h3,h4,h5,h6⟩:=h y rest h1 h2
 obtain⟨d',g1,g2,g3,g4⟩:=g j d h3
 exact⟨j,d',g1,g2.trans h4,fun hl t ht=>g3 t (h5 hl t ht),fun he=>⟨fun t ht=>g3 t ((h6 he).1 t ht),fun hs=>g4 ((h6 he).2 hs)⟩⟩
theorem CoAll.start (h:isNon G s=true):CoAll G st s [⟨s,noBits,true⟩] [0] where
 nodup:=by simp
 snd:=fun c hc=>by
  rw [List.mem_singleton]at hc
  subst hc
  exact⟨.base,h,fun _=> .base,fun t ht=>by cases ht⟩
 hi:=fun c hc t _=>by rw [List.mem_singleton]at hc;subst hc;rfl
 first:=⟨_,rfl,rfl,rfl⟩
 low:=fun i hi=>by rw [List.mem_singleton]at hi;subst hi;simp
 done:=fun i c hc hi=>by
  have:i=0:=by have:=(List.getElem?_eq_some_iff.1 hc).1;simp at this;omega
  subst this
  exact absurd (List.mem_singleton.2 rfl) hi
theorem CoAll.pop {c:Co} (h:CoAll G st s out (i0::todo)) (hc:out[i0]? =some c):CoIn G st s out todo i0 c.s c.self 0 where
 nodup:=h.nodup
 snd:=h.snd
 hi:=h.hi
 first:=h.first
 low:=fun i hi=>h.low i (List.mem_cons_of_mem _ hi)
 done:=fun i d hd hi hne=>h.done i d hd (fun hm=>(List.mem_cons.1 hm).elim hne hi)
 cur:=⟨c,hc,rfl,id,fun _=>⟨rfl,fun j' k hj=>by omega⟩⟩
theorem CoIn.end_ (h:CoIn G st s out todo i0 x xs j) (hj:(ofOf G x).length≤j):CoAll G st s out todo where
 nodup:=h.nodup
 snd:=h.snd
 hi:=h.hi
 first:=h.first
 low:=h.low
 done:=fun i d hd hi k hk=>by
  by_cases e:i=i0
  ·subst e
   obtain⟨c,h1,h2,-,h3⟩:=h.cur
   rw [h1]at hd
   injection hd with hd
   subst hd
   rw [h2]at hk
   obtain⟨j',hj',e'⟩:=List.getElem_of_mem hk
   exact(h3 hi).2 j' k (by omega) (by rw [List.getElem?_eq_getElem hj',e'])
  ·exact h.done i d hd hi e k hk
theorem CoIn.push {i:Nat} (h:CoIn G st s out todo i0 x xs j) (hi:i<out.length):CoIn G st s out (todo++[i]) i0 x xs j where
 nodup:=h.nodup
 snd:=h.snd
 hi:=h.hi
 first:=h.first
 low:=fun k hk=>(List.mem_append.1 hk).elim (h.low k) (fun hk=>by rw [List.mem_singleton.1 hk];exact hi)
 done:=fun k d hd hk hne=>h.done k d hd (fun hm=>hk (List.mem_append_left _ hm)) hne
 cur:=by
  obtain⟨c,h1,h2,h3,h4⟩:=h.cur
  exact⟨c,h1,h2,h3,fun hn=>h4 (fun hm=>hn (List.mem_append_left _ hm))⟩
theorem grow_snoc (out:List Co) (d:Co):GrowC out (out++[d]):=fun j e he=>⟨e,by rw [List.getElem?_append_left (List.getElem?_eq_some_iff.1 he).1];exact he,rfl,fun _ h=>h,id⟩
theorem CoIn.new {k y:Int} {rest:List Int} (h:CoIn G st s out todo i0 x xs j) (hk:k∈ofOf G x) (hr:rgt G st k=y::rest) (hy:isNon G y=true) (hn:y∉out.map Co.s) (hb: ∀k y rest,rgt G st k=y::rest→k∈ofOf G x→behindI G st (k,0)=(y,true)):CoIn G st s (out++[⟨y,noBits,false⟩]) (todo++[out.length]) i0 x xs j where
 nodup:=by
  rw [List.map_append,List.nodup_append]
  refine⟨h.nodup,by simp,fun a ha b hb' e=> ?_⟩
  simp at hb'
  subst hb' e
  exact hn ha
 snd:=fun c hc=>by
  rcases List.mem_append.1 hc with hc|hc
  ·exact h.snd c hc
  ·rw [List.mem_singleton]at hc
   subst hc
   obtain⟨c,h1,h2,-⟩:=h.cur
   have h3:=(h.snd c (List.mem_of_getElem? h1)).1
   rw [h2]at h3
   exact⟨.next x k y h3 hk (hb k y rest hr hk) hy,hy,fun(e:false=true)=>(by cases e),fun t (e:false=true)=>(by cases e)⟩
 hi:=fun c hc=>by
  rcases List.mem_append.1 hc with hc|hc
  ·exact h.hi c hc
  ·rw [List.mem_singleton]at hc;subst hc;exact fun _ _=>rfl
 first:=by
  obtain⟨c,h1,h2⟩:=h.first
  exact⟨c,by rw [List.getElem?_append_left (List.getElem?_eq_some_iff.1 h1).1];exact h1,h2⟩
 low:=fun i hi=>by
  rw [List.length_append,List.length_singleton]
  rcases List.mem_append.1 hi with hi|hi
  ·have:=h.low i hi;omega
  ·rw [List.mem_singleton.1 hi];omega
 done:=fun i c hc hi hne=>by
  have hlt:i<out.length:=by
   have h1:=(List.getElem?_eq_some_iff.1 hc).1
   rw [List.length_append,List.length_singleton]at h1
   have h2:i≠out.length:=fun e=>hi (List.mem_append_right _ (List.mem_singleton.2 e))
   omega
  rw [List.getElem?_append_left hlt]at hc
  exact fun k hk=>(h.done i c hc (fun hm=>hi (List.mem_append_left _ hm)) hne k hk).grow (grow_snoc _ _)
 cur:=by
  obtain⟨c,h1,h2,h3,h4⟩:=h.cur
  exact⟨c,by rw [List.getElem?_append_left (List.getElem?_eq_some_iff.1 h1).1];exact h1,h2,h3,fun hn=>⟨(h4 (fun hm=>hn (List.mem_append_left _ hm))).1,fun j' k hj hk=>((h4 (fun hm=>hn (List.mem_append_left _ hm))).2 j' k hj hk).grow (grow_snoc _ _)⟩⟩
def handC (al xs:Bool) (fx ln:Nat→Bool) (em:Bool) (d:Co):Co:=if al=true then⟨d.s,fun t=>(d.f t||ln t)||(em&&fx t),d.self||(em&&xs)⟩else d
theorem grow_set {i:Nat} {d d':Co} (hd:out[i]? =some d) (h1:d'.s=d.s) (h2: ∀t,d.f t=true→d'.f t=true) (h3:d.self=true→d'.self=true):GrowC out (out.set i d'):=fun j e he=>by
 by_cases hij:i=j
 ·subst hij
  rw [hd]at he
  injection he with he
  subst he
  exact⟨d',List.getElem?_set_self (List.getElem?_eq_some_iff.1 hd).1,h1,h2,h3⟩
 ·exact⟨e,by rw [List.getElem?_set_ne hij];exact he,rfl,fun _ h=>h,id⟩
theorem hand_s {al xs:Bool} {fx ln:Nat→Bool} {em:Bool} {d:Co}:(handC al xs fx ln em d).s=d.s:=by unfold handC;split<;>rfl
theorem hand_f {al xs:Bool} {fx ln:Nat→Bool} {em:Bool} {d:Co} {t:Nat} (h:d.f t=true):(handC al xs fx ln em d).f t=true:=by
 unfold handC
 split
 ·simp [h]
 ·exact h
theorem hand_self {al xs:Bool} {fx ln:Nat→Bool} {em:Bool} {d:Co} (h:d.self=true):(handC al xs fx ln em d).self=true:=by
 unfold handC
 split
 ·simp [h]
 ·exact h
theorem CoIn.hand {k y:Int} {rest:List Int} {i:Nat} {c d:Co} {al:Bool} (h:CoIn G st s out todo i0 x xs j) (hj:(ofOf G x)[j]? =some k) (hr:rgt G st k=y::rest) (hy:isNon G y=true) (hc:out[i0]? =some c) (hd:out[i]? =some d) (hds:d.s=y) (hi:i∈todo)
  (hal:al=true↔xs=true∨ ∃t,c.f t=true) (hln: ∀t,G.terms.length+1≤t→lnB G rest t=false):CoIn G st s (out.set i (handC al xs c.f (lnB G rest) (emB G rest) d)) todo i0 x xs (j+1):=by
 have hk:k∈ofOf G x:=List.mem_of_getElem? hj
 obtain⟨c',h1,h2,h3,h4⟩:=h.cur
 rw [hc]at h1
 injection h1 with h1
 subst h1
 have hil:=(List.getElem?_eq_some_iff.1 hd).1
 have g:=grow_set (d':=handC al xs c.f (lnB G rest) (emB G rest) d) hd hand_s (fun t ht=>hand_f ht) hand_self
 obtain⟨c1,c2,c3,c4⟩:=h.snd c (List.mem_of_getElem? hc)
 obtain⟨d1,d2,d3,d4⟩:=h.snd d (List.mem_of_getElem? hd)
 rw [h2]at c1 c3 c4
 have dS:(handC al xs c.f (lnB G rest) (emB G rest) d).self=true→CSelf G st s y:=fun e=>by
  unfold handC at e
  split at e
  ·rename_i ha
   simp only [Bool.or_eq_true,Bool.and_eq_true]at e
   rcases e with e|⟨e1,e2⟩
   ·rw [←hds];exact d3 e
   ·exact .next x k y rest (c3 (h3 e2)) hk hr hy e1
  ·rw [←hds];exact d3 e
 have dF: ∀t,(handC al xs c.f (lnB G rest) (emB G rest) d).f t=true→CSet G st s y t:=fun t e=>by
  unfold handC at e
  split at e
  ·rename_i ha
   simp only [Bool.or_eq_true,Bool.and_eq_true]at e
   rcases e with(e|e)|⟨e1,e2⟩
   ·rw [←hds];exact d4 t e
   ·rcases hal.1 ha with ha|⟨u,hu⟩
    ·exact .self x k y rest t (c3 (h3 ha)) hk hr hy e
    ·exact .line x k y rest t u (c4 u hu) hk hr hy e
   ·exact .pass x k y rest t (c4 t e2) hk hr hy e1
  ·rw [←hds];exact d4 t e
 refine⟨⟨?_,fun e he=> ?_,fun e he t ht=> ?_,?_,fun a ha=> ?_⟩,fun a e he ha hne=> ?_,?_⟩
 ·rw [List.map_set,hand_s]
  have:(out.map Co.s).set i d.s=out.map Co.s:=by
   refine List.ext_getElem? fun n=> ?_
   by_cases e:i=n
   ·subst e;rw [List.getElem?_set_self (by simpa using hil),List.getElem?_map,hd];rfl
   ·rw [List.getElem?_set_ne e]
  rw [this]
  exact h.nodup
 ·rcases List.mem_or_eq_of_mem_set he with he|he
  ·exact h.snd e he
  ·subst he
   rw [hand_s]
   exact⟨d1,d2,fun e=>by rw [hds];exact dS e,fun t e=>by rw [hds];exact dF t e⟩
 ·rcases List.mem_or_eq_of_mem_set he with he|he
  ·exact h.hi e he t ht
  ·subst he
   unfold handC
   split
   ·simp only [h.hi d (List.mem_of_getElem? hd) t ht,hln t ht,h.hi c (List.mem_of_getElem? hc) t ht,Bool.and_false,Bool.or_false]
   ·exact h.hi d (List.mem_of_getElem? hd) t ht
 ·obtain⟨e,e1,e2,e3⟩:=h.first
  obtain⟨e',g1,g2,-,g4⟩:=g 0 e e1
  exact⟨e',g1,g2.trans e2,g4 e3⟩
 ·rw [List.length_set];exact h.low a ha
 ·have hai:i≠a:=fun e=>ha (e▸hi)
  rw [List.getElem?_set_ne hai]at he
  exact fun k' hk'=>(h.done a e he ha hne k' hk').grow g
 ·by_cases e:i=i0
  ·subst e
   have:c=d:=by rw [hc]at hd;injection hd
   subst this
   exact⟨_,List.getElem?_set_self hil,hand_s.trans h2,fun e=>hand_self (h3 e),fun hn=>absurd hi hn⟩
  ·refine⟨c,by rw [List.getElem?_set_ne e];exact hc,h2,h3,fun hn=>⟨(h4 hn).1,fun j' k' hj' hk'=> ?_⟩⟩
   by_cases ej:j'=j
   ·subst ej
    rw [hj]at hk'
    injection hk' with hk'
    subst hk'
    intro y' rest' hr' hy'
    rw [hr]at hr'
    injection hr' with e1 e2
    subst e1 e2
    have hcs:=(h4 hn).1
    refine⟨i,_,List.getElem?_set_self hil,hand_s.trans hds,fun hl t ht=> ?_,fun he=>⟨fun t ht=> ?_,fun hs=> ?_⟩⟩
    ·have ha:al=true:=hal.2 (hl.imp (fun e=>by rw [←hcs];exact e) id)
     unfold handC;rw [if_pos ha];simp [ht]
    ·have ha:al=true:=hal.2 (.inr ⟨t,ht⟩)
     unfold handC;rw [if_pos ha];simp [ht,he]
    ·have ha:al=true:=hal.2 (.inl (by rw [←hcs];exact hs))
     unfold handC;rw [if_pos ha];simp [←hcs,hs,he]
   ·exact((h4 hn).2 j' k' (by omega) hk').grow g
theorem CoIn.same {k y:Int} {rest:List Int} {i:Nat} {c d:Co} {al:Bool} (h:CoIn G st s out todo i0 x xs j) (hj:(ofOf G x)[j]? =some k) (hr:rgt G st k=y::rest) (hy:isNon G y=true) (hc:out[i0]? =some c) (hd:out[i]? =some d) (hds:d.s=y)
  (hal:al=true↔xs=true∨ ∃t,c.f t=true) (hsame:handC al xs c.f (lnB G rest) (emB G rest) d=d):CoIn G st s out todo i0 x xs (j+1):=by
 obtain⟨c',h1,h2,h3,h4⟩:=h.cur
 rw [hc]at h1
 injection h1 with h1
 subst h1
 refine⟨h.toCoSt,h.done,c,hc,h2,h3,fun hn=>⟨(h4 hn).1,fun j' k' hj' hk'=> ?_⟩⟩
 by_cases ej:j'=j
 ·subst ej
  rw [hj]at hk'
  injection hk' with hk'
  subst hk'
  intro y' rest' hr' hy'
  rw [hr]at hr'
  injection hr' with e1 e2
  subst e1 e2
  have hcs:=(h4 hn).1
  refine⟨i,d,hd,hds,fun hl t ht=> ?_,fun he=>⟨fun t ht=> ?_,fun hs=> ?_⟩⟩
  ·have ha:al=true:=hal.2 (hl.imp (fun e=>by rw [←hcs];exact e) id)
   rw [←hsame];unfold handC;rw [if_pos ha];simp [ht]
  ·have ha:al=true:=hal.2 (.inr ⟨t,ht⟩)
   rw [←hsame];unfold handC;rw [if_pos ha];simp [ht,he]
  ·have ha:al=true:=hal.2 (.inl (by rw [←hcs];exact hs))
   rw [←hsame];unfold handC;rw [if_pos ha];simp [←hcs,hs,he]
 ·exact(h4 hn).2 j' k' (by omega) hk'
theorem CoIn.skip {k:Int} (h:CoIn G st s out todo i0 x xs j) (hj:(ofOf G x)[j]? =some k) (hno: ∀y rest,rgt G st k=y::rest→isNon G y=false):CoIn G st s out todo i0 x xs (j+1):=by
 obtain⟨c,h1,h2,h3,h4⟩:=h.cur
 refine⟨h.toCoSt,h.done,c,h1,h2,h3,fun hn=>⟨(h4 hn).1,fun j' k' hj' hk'=> ?_⟩⟩
 by_cases ej:j'=j
 ·subst ej
  rw [hj]at hk'
  injection hk' with hk'
  subst hk'
  intro y rest hr hy
  rw [hno y rest hr]at hy
  cases hy
 ·exact(h4 hn).2 j' k' (by omega) hk'
structure ComesOf (G:GramD) (st s:Int) (out:List Co):Prop where
 nodup:(out.map Co.s).Nodup
 mem: ∀y,(∃c∈out,c.s=y)↔Bg G st s y
 non: ∀c∈out,isNon G c.s=true
 self: ∀c∈out,c.self=true↔CSelf G st s c.s
 set: ∀c∈out,∀t,c.f t=true↔CSet G st s c.s t
 hi: ∀c∈out,∀t,G.terms.length+1≤t→c.f t=false
theorem CoAll.is (h:CoAll G st s out []) (hb: ∀x k y,k∈ofOf G x→behindI G st (k,0)=(y,true)→ ∃rest,rgt G st k=y::rest):ComesOf G st s out:=by
 have uniq: ∀{i j:Nat} {c d:Co},out[i]? =some c→out[j]? =some d→c.s=d.s→c=d:=fun{i j c d} hc hd e=>by
  have h1:(out.map Co.s)[i]? =some c.s:=by rw [List.getElem?_map,hc];rfl
  have h2:(out.map Co.s)[j]? =some c.s:=by rw [List.getElem?_map,hd,e];rfl
  have:=nodup_get h.nodup h1 h2
  subst this
  rw [hc]at hd
  injection hd
 have dn: ∀(i:Nat) c,out[i]? =some c→ ∀k∈ofOf G c.s,DoneC G st out c k:=fun i c hc=>h.done i c hc (fun hm=>by cases hm)
 have kS: ∀y,CSelf G st s y→ ∃(j:Nat) (d:Co),out[j]? =some d∧d.s=y∧d.self=true:=fun y hy=>by
  induction hy with
  |base=>obtain⟨c,h1,h2,h3⟩:=h.first;exact⟨0,c,h1,h2,h3⟩
  |next x k y rest _ hk hr hy he ih=>
   obtain⟨i,c,h1,h2,h3⟩:=ih
   obtain⟨j,d,g1,g2,-,g4⟩:=dn i c h1 k (by rw [h2];exact hk) y rest hr hy
   exact⟨j,d,g1,g2,(g4 he).2 h3⟩
 have kF: ∀y t,CSet G st s y t→ ∃(j:Nat) (d:Co),out[j]? =some d∧d.s=y∧d.f t=true:=fun y t hy=>by
  induction hy with
  |self x k y rest t hx hk hr hy hl=>
   obtain⟨i,c,h1,h2,h3⟩:=kS x hx
   obtain⟨j,d,g1,g2,g3,-⟩:=dn i c h1 k (by rw [h2];exact hk) y rest hr hy
   exact⟨j,d,g1,g2,g3 (.inl h3) t hl⟩
  |line x k y rest t u _ hk hr hy hl ih=>
   obtain⟨i,c,h1,h2,h3⟩:=ih
   obtain⟨j,d,g1,g2,g3,-⟩:=dn i c h1 k (by rw [h2];exact hk) y rest hr hy
   exact⟨j,d,g1,g2,g3 (.inr ⟨u,h3⟩) t hl⟩
  |pass x k y rest t _ hk hr hy he ih=>
   obtain⟨i,c,h1,h2,h3⟩:=ih
   obtain⟨j,d,g1,g2,-,g4⟩:=dn i c h1 k (by rw [h2];exact hk) y rest hr hy
   exact⟨j,d,g1,g2,(g4 he).1 t h3⟩
 refine⟨h.nodup,fun y=>⟨?_,fun hy=> ?_⟩,fun c hc=>(h.snd c hc).2.1,fun c hc=>⟨(h.snd c hc).2.2.1,fun hs=> ?_⟩,fun c hc t=>⟨(h.snd c hc).2.2.2 t,fun hs=> ?_⟩,h.hi⟩
 ·rintro⟨c,hc,rfl⟩;exact(h.snd c hc).1
 ·induction hy with
  |base=>obtain⟨c,h1,h2,-⟩:=h.first;exact⟨c,List.mem_of_getElem? h1,h2⟩
  |next n k m _ hk hbe hm ih=>
   obtain⟨c,hc,rfl⟩:=ih
   obtain⟨i,hi,e⟩:=List.getElem_of_mem hc
   obtain⟨rest,hr⟩:=hb c.s k m hk hbe
   obtain⟨j,d,g1,g2,-⟩:=dn i c (by rw [List.getElem?_eq_getElem hi,e]) k hk m rest hr hm
   exact⟨d,List.mem_of_getElem? g1,g2⟩
 ·obtain⟨j,d,g1,g2,g3⟩:=kS c.s hs
  obtain⟨i,hi,e⟩:=List.getElem_of_mem hc
  have:=uniq (i:=i) (j:=j) (c:=c) (by rw [List.getElem?_eq_getElem hi,e]) g1 g2.symm
  rw [this];exact g3
 ·obtain⟨j,d,g1,g2,g3⟩:=kF c.s t hs
  obtain⟨i,hi,e⟩:=List.getElem_of_mem hc
  have:=uniq (i:=i) (j:=j) (c:=c) (by rw [List.getElem?_eq_getElem hi,e]) g1 g2.symm
  rw [this];exact g3
def oneC (M:Nat) (c:Co):Nat:=unset c.f M+(if c.self=true then 0 else 1)
def measC (N M:Nat) (out:List Co):Nat:=(N - out.length) * (M+2)+(out.map (oneC M)).sum
theorem sum_set {g:Co→Nat} {d d':Co}: ∀{out:List Co} {i:Nat},out[i]? =some d→((out.set i d').map g).sum+g d=(out.map g).sum+g d'
 |[],i,h=>by simp at h
 |a::r,0,h=>by
  have:a=d:=by simpa using h
  subst this
  simp only [List.set_cons_zero,List.map_cons,List.sum_cons]
  omega
 |a::r,i+1,h=>by
  have:=sum_set (g:=g) (d':=d') (out:=r) (i:=i) (by simpa using h)
  simp only [List.set_cons_succ,List.map_cons,List.sum_cons]
  omega
theorem unset_none (M:Nat):unset noBits M≤M:=by
 unfold unset
 exact Nat.le_trans (List.length_filter_le _ _) (by simp)
theorem measC_new {N M:Nat} {y:Int} (h:out.length<N):measC N M (out++[⟨y,noBits,false⟩])<measC N M out:=by
 unfold measC
 rw [List.length_append,List.length_singleton,List.map_append,List.sum_append]
 have h1:(([⟨y,noBits,false⟩]:List Co).map (oneC M)).sum≤M+1:=by
  simp only [List.map_cons,List.map_nil,List.sum_cons,List.sum_nil,oneC]
  have:=unset_none M
  simp
  omega
 obtain⟨q,hq⟩: ∃q,N=out.length+1+q:=⟨N - out.length - 1,by omega⟩
 have e1:N - (out.length+1)=q:=by omega
 have e2:N - out.length=q+1:=by omega
 rw [e1,e2,Nat.add_mul,Nat.one_mul]
 omega
theorem measC_set {N M:Nat} {i:Nat} {d d':Co} (hd:out[i]? =some d) (h:oneC M d'<oneC M d):measC N M (out.set i d')<measC N M out:=by
 unfold measC
 rw [List.length_set]
 have:=sum_set (g:=oneC M) (d':=d') hd
 omega
def chgC (M:Nat) (d d':Co):Bool:=moreB M d.f d'.f||(d'.self&& !d.self)
theorem chg_less {al xs:Bool} {fx ln:Nat→Bool} {em:Bool} {d:Co} {M:Nat} (h:chgC M d (handC al xs fx ln em d)=true):oneC M (handC al xs fx ln em d)<oneC M d:=by
 have h1:unset (handC al xs fx ln em d).f M≤unset d.f M:=unset_le (fun t ht=>hand_f ht)
 unfold chgC at h
 unfold oneC
 rw [Bool.or_eq_true]at h
 rcases h with h|h
 ·have:=unset_more h (fun t ht=>hand_f ht)
  have h2:d.self=true→(handC al xs fx ln em d).self=true:=hand_self
  split<;>split<;>rename_i a b<;>first|omega|exact absurd (h2 b) a
 ·simp only [Bool.and_eq_true,Bool.not_eq_true']at h
  rw [if_pos h.1,h.2]
  simp
  omega
theorem chg_same {al xs:Bool} {fx ln:Nat→Bool} {em:Bool} {d:Co} {M:Nat} (h:chgC M d (handC al xs fx ln em d)=false) (hh: ∀t,M≤t→(handC al xs fx ln em d).f t=false):handC al xs fx ln em d=d:=by
 unfold chgC at h
 rw [Bool.or_eq_false_iff]at h
 have h1:=moreB_eq h.1 (fun t ht=>hand_f ht) hh
 have h2:(handC al xs fx ln em d).self=d.self:=by
  have:=h.2
  cases e:d.self with
  |true=>exact hand_self e
  |false=>rw [e]at this;simpa using this
 have h3:=hand_s (al:=al) (xs:=xs) (fx:=fx) (ln:=ln) (em:=em) (d:=d)
 generalize handC al xs fx ln em d=d' at *
 obtain⟨a,b,c⟩:=d
 obtain⟨a',b',c'⟩:=d'
 simp only at h1 h2 h3
 subst h1 h2 h3
 rfl
theorem CoSt.len (h:CoSt G st s out todo):out.length≤G.nons.length:=by
 have:=nons_len (G:=G) (l:=out.map Co.s) h.nodup (fun x hx=>by
  obtain⟨c,hc,rfl⟩:=List.mem_map.1 hx
  exact(h.snd c hc).2.1)
 simpa using this
end
end Go.Proofs.YtlpokomfljmogaaGreat
namespace Go.Proofs.YtlpokomfljmogaaGreat
set_option linter.unusedVariables false
open Go.RowKit
attribute [local irreducible] wpStill wpOne wpPh
theorem IsSet.keep {w w':World} {b n:Nat} {f:Nat→Bool} {S:Nat→Prop} (h:IsSet w b S n f) (hb:Below w.heap.size w w'):IsSet w' b S n f:=h.touch (Touch.of_size hb (fun _=>False)) (fun _ _ hf=>hf)
end Go.Proofs.YtlpokomfljmogaaGreat

/- The automaton: plain laws. Of no program. -/
import Derived.Test.YtalbfonkhpeajaaGreatHItem8
import Derived.Test.YtalbfonkhpeajaaGreatHItemPlain
namespace Go.Proofs.YtalbfonkhpeajaaGreat
set_option linter.unusedVariables false
section
theorem nodup_len: ∀(N:Nat) (a:Int) {l:List Int},l.Nodup→(∀x∈l,a<x∧x≤a+N)→l.length≤N
 |0,a,l,_,h=>by
  match l,h with
  |[],_=>exact Nat.le_refl _
  |x::r,h=>have:=h x (List.mem_cons_self ..);omega
 |N+1,a,l,hn,h=>by
  by_cases hm:(a+(N+1:Nat):Int)∈l
  ·have h1:=List.length_erase_of_mem hm
   have h2:=nodup_len N a (hn.erase (a+(N+1:Nat):Int)) (fun x hx=>by
    obtain⟨hx1,hx2⟩:=(hn.mem_erase_iff).1 hx
    have:=h x hx2
    omega)
   omega
  ·have:=nodup_len N a hn (fun x hx=>by
    have h1:=h x hx
    have h2:x≠a+(N+1:Nat):=fun e=>hm (e▸hx)
    omega)
   omega
theorem nons_len {G:GramD} {l:List Int} (hn:l.Nodup) (h: ∀x∈l,isNon G x=true):l.length≤G.nons.length:=by
 refine nodup_len G.nons.length G.terms.length hn fun x hx=> ?_
 have:=h x hx
 unfold isNon topOf at this
 simp only [Bool.and_eq_true,decide_eq_true_eq]at this
 omega
theorem of_len {G:GramD} {s:Int}:(ofOf G s).length≤G.rules.length:=by
 unfold ofOf ofUpto
 rw [List.length_map]
 exact Nat.le_trans (List.length_filter_le _ _) (by simp)
inductive Bg (G:GramD) (st:Int) (s:Int):Int→Prop
 |base:Bg G st s s
 |next (n k m:Int):Bg G st s n→k∈ofOf G n→behindI G st (k,0)=(m,true)→isNon G m=true→Bg G st s m
def rulesI (ks:List Int):List It:=ks.map fun k=>(k,0)
theorem rules_next {ks:List Int} {k:Nat} {r:Int} (h:ks[k]? =some r):rulesI (ks.take (k+1))=rulesI (ks.take k)++[(r,0)]:=by
 unfold rulesI
 rw [List.take_add_one,h,List.map_append];rfl
theorem rules_len (ks:List Int):(rulesI ks).length=ks.length:=by unfold rulesI;simp
theorem rules_get {ks:List Int} {k:Nat} {x:It} (h:(rulesI ks)[k]? =some x): ∃r,ks[k]? =some r∧x=(r,0):=by
 unfold rulesI at h
 rw [List.getElem?_map]at h
 obtain⟨r,hr,rfl⟩:=Option.map_eq_some_iff.1 h
 exact⟨r,hr,rfl⟩
theorem mem_rules {ks:List Int} {x:It}:x∈rulesI ks↔ ∃r∈ks,x=(r,0):=by
 unfold rulesI
 rw [List.mem_map]
 exact⟨fun⟨r,h1,h2⟩=>⟨r,h1,h2.symm⟩,fun⟨r,h1,h2⟩=>⟨r,h1,h2.symm⟩⟩
def IsBe (G:GramD) (st:Int) (s:Int) (o:List It):Prop:= ∀z,z∈o↔ ∃n k,Bg G st s n∧k∈ofOf G n∧z=(k,0)
structure BgSt (G:GramD) (st:Int) (s:Int) (done todo:List Int) (all:List It):Prop where
 nodup:(done++todo).Nodup
 sound: ∀n∈done++todo,Bg G st s n∧isNon G n=true
 first:s∈done++todo
 all_:all=done.flatMap fun n=>rulesI (ofOf G n)
 closed: ∀n∈done,∀k∈ofOf G n,∀m,behindI G st (k,0)=(m,true)→isNon G m=true→m∈done++todo
structure BgIn (G:GramD) (st:Int) (s:Int) (done:List Int) (n0:Int) (todo:List Int) (j:Nat):Prop where
 nodup:(done++[n0]++todo).Nodup
 sound: ∀n∈done++[n0]++todo,Bg G st s n∧isNon G n=true
 first:s∈done++[n0]++todo
 closed: ∀n∈done,∀k∈ofOf G n,∀m,behindI G st (k,0)=(m,true)→isNon G m=true→m∈done++[n0]++todo
 here: ∀k∈(ofOf G n0).take j,∀m,behindI G st (k,0)=(m,true)→isNon G m=true→m∈done++[n0]++todo
section
variable {G : GramD} {st s : Int} {done todo : List Int} {all : List It} {n0 : Int} {j : Nat}
theorem BgSt.start (h:isNon G s=true):BgSt G st s [] [s] []:=
 ⟨by simp,fun n hn=>by have:n=s:=(by simpa using hn);subst this;exact⟨.base,h⟩,by simp,rfl,fun n hn=>by cases hn⟩
theorem BgSt.len (h:BgSt G st s done todo all):done.length+todo.length≤G.nons.length:=by
 have:=nons_len h.nodup fun x hx=>(h.sound x hx).2
 rwa [List.length_append]at this
theorem BgIn.len (h:BgIn G st s done n0 todo j):done.length+1+todo.length≤G.nons.length:=by
 have:=nons_len h.nodup fun x hx=>(h.sound x hx).2
 rwa [List.length_append,List.length_append]at this
theorem BgSt.allLen (h:BgSt G st s done todo all) (hr:G.rules.length≤300):all.length≤done.length * 300:=by
 rw [h.all_]
 have: ∀d:List Int,(d.flatMap fun n=>rulesI (ofOf G n)).length≤d.length * 300:=by
  intro d
  induction d with
  |nil=>simp
  |cons x r ih=>
   rw [List.flatMap_cons,List.length_append,rules_len]
   have:=of_len (G:=G) (s:=x)
   simp only [List.length_cons]
   omega
 exact this done
theorem BgSt.take (h:BgSt G st s done (n0::todo) all):BgIn G st s done n0 todo 0:=by
 have e:done++[n0]++todo=done++n0::todo:=by simp
 exact⟨by rw [e];exact h.nodup,by rw [e];exact h.sound,by rw [e];exact h.first,by rw [e];exact h.closed,fun k hk=>by cases hk⟩
theorem BgIn.back (h:BgIn G st s done n0 todo (ofOf G n0).length) (hall:all=done.flatMap fun n=>rulesI (ofOf G n)):BgSt G st s (done++[n0]) todo (all++rulesI (ofOf G n0)):=by
 refine⟨h.nodup,h.sound,h.first,by rw [List.flatMap_append,←hall];simp,fun n hn k hk m hm hn'=> ?_⟩
 rcases List.mem_append.1 hn with hn|hn
 ·exact h.closed n hn k hk m hm hn'
 ·obtain rfl:=List.mem_singleton.1 hn
  have:=h.here
  rw [List.take_length]at this
  exact this k hk m hm hn'
theorem BgIn.skip {r:Int} (h:BgIn G st s done n0 todo j) (hr:(ofOf G n0)[j]? =some r) (hm: ∀m,behindI G st (r,0)=(m,true)→isNon G m=true→m∈done++[n0]++todo):BgIn G st s done n0 todo (j+1):=by
 refine⟨h.nodup,h.sound,h.first,h.closed,fun k hk m=> ?_⟩
 rw [List.take_add_one,hr]at hk
 rcases List.mem_append.1 hk with hk|hk
 ·exact h.here k hk m
 ·have:k=r:=by simpa using hk
  subst this
  exact hm m
theorem BgIn.put {r m:Int} (h:BgIn G st s done n0 todo j) (hr:(ofOf G n0)[j]? =some r) (hm:behindI G st (r,0)=(m,true)) (hn:isNon G m=true) (hnew:m∉done++[n0]++todo):BgIn G st s done n0 (todo++[m]) (j+1):=by
 have e:done++[n0]++(todo++[m])=(done++[n0]++todo)++[m]:=by simp
 refine⟨?_,?_,?_,?_,?_⟩
 ·rw [e]
  exact List.nodup_append.2 ⟨h.nodup,by simp,fun a ha b hb=>by
   have:b=m:=by simpa using hb
   subst this
   exact fun e'=>hnew (e'▸ha)⟩
 ·rw [e]
  intro n hn'
  rcases List.mem_append.1 hn' with hn'|hn'
  ·exact h.sound n hn'
  ·obtain rfl:=List.mem_singleton.1 hn'
   exact⟨.next n0 r _ (h.sound n0 (by simp)).1 (List.mem_of_getElem? hr) hm hn,hn⟩
 ·rw [e];exact List.mem_append_left _ h.first
 ·rw [e];exact fun n hn' k hk q hq hq'=>List.mem_append_left _ (h.closed n hn' k hk q hq hq')
 ·rw [e]
  intro k hk q hq hq'
  rw [List.take_add_one,hr]at hk
  rcases List.mem_append.1 hk with hk|hk
  ·exact List.mem_append_left _ (h.here k hk q hq hq')
  ·have:k=r:=by simpa using hk
   subst this
   rw [hm]at hq
   injection hq with hq _
   subst hq
   simp
theorem BgSt.is (h:BgSt G st s done [] all):IsBe G st s all:=by
 intro z
 rw [h.all_,List.mem_flatMap]
 constructor
 ·rintro⟨n,hn,hz⟩
  obtain⟨k,hk,rfl⟩:=mem_rules.1 hz
  exact⟨n,k,(h.sound n (by simpa using hn)).1,hk,rfl⟩
 ·rintro⟨n,k,hb,hk,rfl⟩
  refine⟨n,?_,mem_rules.2 ⟨k,hk,rfl⟩⟩
  clear hk
  induction hb with
  |base=>simpa using h.first
  |next n' k' m' _ hk' hb' hn' ih=>simpa using h.closed n' ih k' hk' m' hb' hn'
end
theorem cl_iff {G:GramD} {st:Int} (hk:KnI G st) {l:List It} (hr: ∀x∈l,rightI G st x=true) (z:It):
  Cl G st l z↔z∈l∨ ∃x∈l,∃n m k,behindI G st x=(n,true)∧isNon G n=true∧Bg G st n m∧k∈ofOf G m∧z=(k,0):=by
 constructor
 ·intro h
  induction h with
  |base x hx _=>exact .inl hx
  |next y s k _ hb hs ih=>
   have hnon:=hk.non s k hs
   rcases ih with hy|⟨x,hx,n,m,q,e1,e2,e3,e4,rfl⟩
   ·exact .inr ⟨y,hy,s,s,k,hb,hnon,.base,hs,rfl⟩
   ·exact .inr ⟨x,hx,n,s,k,e1,e2,.next m q s e3 e4 hb hnon,hs,rfl⟩
 ·rintro(h|⟨x,hx,n,m,k,e1,e2,e3,e4,rfl⟩)
  ·exact .base z h (hr z h)
  ·have key: ∀m,Bg G st n m→ ∀k∈ofOf G m,Cl G st l (k,0):=by
    intro m hb
    induction hb with
    |base=>exact fun k hk'=> .next x n k (.base x hx (hr x hx)) e1 hk'
    |next n' k' m' _ hk' hb' _ ih=>exact fun k hk''=> .next (k',0) m' k (ih k' hk') hb' hk''
   exact key m e3 k e4
def Nx (G:GramD) (st:Int) (l:List It) (s:Int) (o:List It):Prop:=StrictI o∧ ∀z,z∈o↔ ∃x,Cl G st l x∧behindI G st x=(s,true)∧z=(x.1,x.2+1)
noncomputable def nxI (G:GramD) (st:Int) (l:List It) (s:Int):List It:=canonI ((allIt G st).filter fun z=> @decide (∃x,Cl G st l x∧behindI G st x=(s,true)∧z=(x.1,x.2+1)) (Classical.propDecidable _))
theorem nx_is (G:GramD) (st:Int) (l:List It) (s:Int):Nx G st l s (nxI G st l s):=by
 refine⟨canon_strict _,fun z=> ?_⟩
 unfold nxI
 rw [mem_canon,List.mem_filter, @decide_eq_true_eq _ (Classical.propDecidable _)]
 refine⟨fun h=>h.2,fun h=>⟨?_,h⟩⟩
 obtain⟨x,h1,h2,rfl⟩:=h
 exact mem_allIt (step_right h2).1
theorem nx_right {G:GramD} {st s:Int} {l:List It} {z:It} (h:z∈nxI G st l s):rightI G st z=true:=by
 obtain⟨x,h1,h2,rfl⟩:=((nx_is G st l s).2 z).1 h
 exact(step_right h2).1
theorem nx_of {G:GramD} {st s:Int} {l c:List It} (h:IsCl G st l c):canonI (stepsI G st c s)=nxI G st l s:=by
 refine strict_unique (canon_strict _) (nx_is G st l s).1 fun z=> ?_
 rw [mem_canon,(nx_is G st l s).2]
 unfold stepsI
 rw [List.mem_map]
 constructor
 ·rintro⟨x,hx,rfl⟩
  obtain⟨h1,h2⟩:=List.mem_filter.1 hx
  exact⟨x,(h.mem x).1 h1,of_decide_eq_true h2,rfl⟩
 ·rintro⟨x,h1,h2,rfl⟩
  exact⟨x,List.mem_filter.2 ⟨(h.mem x).2 h1,decide_eq_true h2⟩,rfl⟩
end
section
def findK (L:List (List It)) (k:List It):Int:=if k∈L then((L.idxOf k:Nat):Int)else -1
def putK (L:List (List It)) (k:List It):List (List It)×Int:=if k∈L then(L,((L.idxOf k:Nat):Int))else(L++[k],((L.length:Nat):Int))
theorem idx_get {L:List (List It)} {k:List It} (h:k∈L):L[L.idxOf k]? =some k:=by
 have h1:=List.idxOf_lt_length_of_mem h
 rw [List.getElem?_eq_getElem h1,List.getElem_idxOf]
theorem putK_yes {L:List (List It)} {k:List It} (h:k∈L):putK L k=(L,((L.idxOf k:Nat):Int)):=if_pos h
theorem putK_no {L:List (List It)} {k:List It} (h:k∉L):putK L k=(L++[k],((L.length:Nat):Int)):=if_neg h
noncomputable def rowA (G:GramD) (st:Int) (kern:List It) (L:List (List It)):Nat→List (List It)×List It
 |0=>(L,[])
 |m+1=>if nxI G st kern ((m+1:Nat):Int)=[]then rowA G st kern L m else((putK (rowA G st kern L m).1 (nxI G st kern ((m+1:Nat):Int))).1,(rowA G st kern L m).2++[(((m+1:Nat):Int),(putK (rowA G st kern L m).1 (nxI G st kern ((m+1:Nat):Int))).2)])
section
variable {G : GramD} {st : Int} {kern : List It} {L : List (List It)} {m : Nat}
theorem rowA_no (h:nxI G st kern ((m+1:Nat):Int)=[]):rowA G st kern L (m+1)=rowA G st kern L m:=by
 show(if _ then _ else _)=_
 rw [if_pos h]
theorem rowA_yes (h:nxI G st kern ((m+1:Nat):Int)≠[]):rowA G st kern L (m+1)=((putK (rowA G st kern L m).1 (nxI G st kern ((m+1:Nat):Int))).1,(rowA G st kern L m).2++[(((m+1:Nat):Int),(putK (rowA G st kern L m).1 (nxI G st kern ((m+1:Nat):Int))).2)]):=by
 show(if _ then _ else _)=_
 rw [if_neg h]
end
structure RowF (G:GramD) (st:Int) (kern:List It) (L:List (List It)) (m:Nat) (L':List (List It)) (t:List It):Prop where
 pre: ∃e,L'=L++e
 nodup:L.Nodup→L'.Nodup
 len:L'.length≤L.length+m
 mem: ∀s to:Int,((s,to):It)∈t→1≤s∧s≤m∧nxI G st kern s≠[]∧0≤to∧L'[to.toNat]? =some (nxI G st kern s)
 has: ∀s:Int,1≤s→s≤m→nxI G st kern s≠[]→ ∃to:Int,((s,to):It)∈t
 sort:t.Pairwise (fun a b=>a.1<b.1)
 new: ∀n,L.length≤n→n<L'.length→ ∃s:Int,((s,(n:Int)):It)∈t
 tlen:t.length≤m
 kind: ∀k∈L',k∈L∨ ∃s,k=nxI G st kern s∧k≠[]
theorem rowF (G:GramD) (st:Int) (kern:List It) {L:List (List It)} (hn:L.Nodup): ∀m,RowF G st kern L m (rowA G st kern L m).1 (rowA G st kern L m).2
 |0=>⟨⟨[],by simp [rowA]⟩,id,Nat.le_refl _,fun s to h=>(by cases h),fun s h1 h2=>by omega,List.Pairwise.nil,fun n h1 h2=>absurd h2 (by simp [rowA];omega),Nat.le_refl _,fun k hk=> .inl hk⟩
 |m+1=>by
  have ih:=rowF G st kern hn m
  by_cases h0:nxI G st kern ((m+1:Nat):Int)=[]
  ·rw [rowA_no h0]
   refine⟨ih.pre,ih.nodup,by have:=ih.len;omega,fun s to h=> ?_,fun s h1 h2 h3=>ih.has s h1 ?_ h3,ih.sort,ih.new,by have:=ih.tlen;omega,ih.kind⟩
   ·obtain⟨h1,h2,h3⟩:=ih.mem s to h
    exact⟨h1,by omega,h3⟩
   ·by_cases e:s=((m+1:Nat):Int)
    ·subst e;exact absurd h0 h3
    ·omega
  ·rw [rowA_yes h0]
   obtain⟨k,hk⟩: ∃k,k=nxI G st kern ((m+1:Nat):Int):=⟨_,rfl⟩
   rw [←hk]at h0⊢
   obtain⟨L1,hL1⟩: ∃L1,L1=(rowA G st kern L m).1:=⟨_,rfl⟩
   obtain⟨t1,ht1⟩: ∃t1,t1=(rowA G st kern L m).2:=⟨_,rfl⟩
   rw [←hL1,←ht1]at ih⊢
   have hn1:=ih.nodup hn
   -- the new list and the number
   obtain⟨L2,to2,he,hpre,hget,hn2,hlen,hnew⟩: ∃(L2:List (List It)) (to2:Nat),putK L1 k=(L2,(to2:Int))∧(∃e,L2=L1++e)∧L2[to2]? =some k∧L2.Nodup∧L2.length≤L1.length+1∧(∀n,L1.length≤n→n<L2.length→n=to2)∧(∀q∈L2,q∈L1∨q=k):=by
    by_cases hm:k∈L1
    ·exact⟨L1,L1.idxOf k,putK_yes hm,⟨[],by simp⟩,idx_get hm,hn1,by omega,fun n h1 h2=>by omega,fun q hq=> .inl hq⟩
    ·refine⟨L1++[k],L1.length,putK_no hm,⟨[k],rfl⟩,by simp,?_,by simp,fun n h1 h2=>by simp at h2;omega,fun q hq=> ?_⟩
     ·refine List.nodup_append.2 ⟨hn1,by simp,fun a ha b hb=> ?_⟩
      obtain rfl:=List.mem_singleton.1 hb
      exact fun e=>hm (e▸ha)
     ·rcases List.mem_append.1 hq with hq|hq
      ·exact .inl hq
      ·exact .inr (List.mem_singleton.1 hq)
   obtain⟨hnew,hkd⟩:=hnew
   rw [he]
   obtain⟨e1,hp1⟩:=ih.pre
   obtain⟨e2,hp2⟩:=hpre
   have up: ∀{n:Nat} {q:List It},L1[n]? =some q→L2[n]? =some q:=fun{n q} h=>by
    rw [hp2,List.getElem?_append_left (List.getElem?_eq_some_iff.1 h).1];exact h
   refine⟨⟨e1++e2,by rw [hp2,hp1,List.append_assoc]⟩,fun _=>hn2,by have:=ih.len;show L2.length≤_;omega,fun s to h=> ?_,fun s h1 h2 h3=> ?_,?_,fun n h1 h2=> ?_,by have:=ih.tlen;simp;omega,fun q hq=> ?_⟩
   ·rw [List.mem_append,List.mem_singleton]at h
    rcases h with h|h
    ·obtain⟨h1,h2,h3,h4,h5⟩:=ih.mem s to h
     exact⟨h1,by omega,h3,h4,up h5⟩
    ·injection h with h1 h2
     subst h1 h2
     rw [←hk]
     exact⟨by omega,Int.le_refl _,h0,by omega,hget⟩
   ·by_cases e:s=((m+1:Nat):Int)
    ·subst e
     exact⟨_,List.mem_append_right _ (List.mem_singleton.2 rfl)⟩
    ·obtain⟨to,h⟩:=ih.has s h1 (by omega) h3
     exact⟨to,List.mem_append_left _ h⟩
   ·refine List.pairwise_append.2 ⟨ih.sort,List.pairwise_singleton _ _,fun a ha b hb=> ?_⟩
    obtain rfl:=List.mem_singleton.1 hb
    obtain⟨a1,a2⟩:=a
    have:=(ih.mem a1 a2 ha).2.1
    simp only
    omega
   ·by_cases hlt:n<L1.length
    ·obtain⟨s,hs⟩:=ih.new n h1 hlt
     exact⟨s,List.mem_append_left _ hs⟩
    ·have:=hnew n (by omega) h2
     subst this
     exact⟨_,List.mem_append_right _ (List.mem_singleton.2 rfl)⟩
   ·rcases hkd q hq with hq|hq
    ·exact ih.kind q hq
    ·exact .inr ⟨_,hq.trans hk,hq▸h0⟩
inductive Bld (G:GramD) (st:Int):Nat→List (List It)→List (List It)→Prop
 |start:Bld G st 0 [[((G.rules.length:Int),0)]] []
 |next (i:Nat) (L T:List (List It)) (k:List It):Bld G st i L T→L[i]? =some k→(rowA G st k L (topOf G)).1.length≤2000→Bld G st (i+1) (rowA G st k L (topOf G)).1 (T++[(rowA G st k L (topOf G)).2])
theorem Bld.fn {G:GramD} {st:Int}: ∀{i:Nat} {L T L' T':List (List It)},Bld G st i L T→Bld G st i L' T'→L=L'∧T=T'
 |0,_,_,_,_,.start,.start=>⟨rfl,rfl⟩
 |i+1,_,_,_,_,.next _ L T k h hk _,.next _ L' T' k' h' hk' _=>by
  obtain⟨rfl,rfl⟩:=h.fn h'
  rw [hk]at hk'
  injection hk' with hk'
  subst hk'
  exact⟨rfl,rfl⟩
inductive Auto (G:GramD) (st:Int):Option (List (List It)×List (List It))→Prop
 |ok (L T:List (List It)):Bld G st L.length L T→Auto G st (some (L,T))
 |many (i:Nat) (L T:List (List It)) (k:List It):Bld G st i L T→L[i]? =some k→2000<(rowA G st k L (topOf G)).1.length→Auto G st none
structure BldF (G:GramD) (st:Int) (i:Nat) (L T:List (List It)):Prop where
 len:T.length=i
 le:i≤L.length
 small:L.length≤2000
 nodup:L.Nodup
 first:L[0]? =some [((G.rules.length:Int),0)]
 kind: ∀k∈L,k=[((G.rules.length:Int),0)]∨ ∃q s,k=nxI G st q s∧k≠[]
 mem: ∀(j:Nat) t k,T[j]? =some t→L[j]? =some k→ ∀s to:Int,((s,to):It)∈t→1≤s∧s≤topOf G∧nxI G st k s≠[]∧0≤to∧L[to.toNat]? =some (nxI G st k s)
 has: ∀(j:Nat) t k,T[j]? =some t→L[j]? =some k→ ∀s:Int,1≤s→s≤topOf G→nxI G st k s≠[]→ ∃to:Int,((s,to):It)∈t
 sort: ∀t∈T,t.Pairwise (fun a b:It=>a.1<b.1)
 tlen: ∀t∈T,t.length≤topOf G
 early: ∀n,0<n→n<L.length→ ∃(j:Nat) (t:List It) (s:Int),j<n∧j<i∧T[j]? =some t∧((s,(n:Int)):It)∈t
theorem Bld.f {G:GramD} {st:Int} {i:Nat} {L T:List (List It)} (h:Bld G st i L T):BldF G st i L T:=by
 induction h with
 |start=>
  refine⟨rfl,by simp,by simp,by simp,rfl,fun k hk=> .inl (by simpa using hk),fun j t k h=>(by simp at h),fun j t k h=>(by simp at h),fun t h=>(by cases h),fun t h=>(by cases h),fun n h1 h2=>by simp at h2;omega⟩
 |next i L T k hb hk hl ih=>
  have r:=rowF G st k ih.nodup (topOf G)
  generalize rowA G st k L (topOf G)=p at *
  obtain⟨L',t'⟩:=p
  simp only at r hl⊢
  obtain⟨e,hp⟩:=r.pre
  have hi:=(List.getElem?_eq_some_iff.1 hk).1
  have up: ∀{n:Nat} {q:List It},L[n]? =some q→L'[n]? =some q:=fun{n q} h=>by
   rw [hp,List.getElem?_append_left (List.getElem?_eq_some_iff.1 h).1];exact h
  have hLl:L.length≤L'.length:=by rw [hp];simp
  have hn':=r.nodup ih.nodup
  have split: ∀(j:Nat) t q,(T++[t'])[j]? =some t→L'[j]? =some q→(t=t'∧q=k)∨(T[j]? =some t∧L[j]? =some q):=fun j t q hj hq=>by
   have hil:=ih.len
   by_cases e:j=i
   ·subst e
    left
    rw [←hil,List.getElem?_concat_length]at hj
    rw [up hk]at hq
    exact⟨(Option.some.inj hj).symm,(Option.some.inj hq).symm⟩
   ·right
    have hji:j<T.length:=by
     have:=(List.getElem?_eq_some_iff.1 hj).1
     simp only [List.length_append,List.length_singleton]at this
     omega
    rw [List.getElem?_append_left hji]at hj
    have hjl:j<L.length:=by have:=ih.le;omega
    rw [hp,List.getElem?_append_left hjl]at hq
    exact⟨hj,hq⟩
  refine⟨by simp [ih.len],by omega,hl,hn',up ih.first,fun q hq=> ?_,fun j t q hj hq s to h=> ?_,fun j t q hj hq s h1 h2 h3=> ?_,fun t ht=> ?_,fun t ht=> ?_,fun n h1 h2=> ?_⟩
  ·rcases r.kind q hq with hq|⟨s,h1,h2⟩
   ·exact ih.kind q hq
   ·exact .inr ⟨k,s,h1,h2⟩
  ·rcases split j t q hj hq with⟨rfl,rfl⟩|⟨hj,hq⟩
   ·exact r.mem s to h
   ·obtain⟨a,b,c,d,f⟩:=ih.mem j t q hj hq s to h
    exact⟨a,b,c,d,up f⟩
  ·rcases split j t q hj hq with⟨rfl,rfl⟩|⟨hj,hq⟩
   ·exact r.has s h1 h2 h3
   ·exact ih.has j t q hj hq s h1 h2 h3
  ·rcases List.mem_append.1 ht with ht|ht
   ·exact ih.sort t ht
   ·obtain rfl:=List.mem_singleton.1 ht;exact r.sort
  ·rcases List.mem_append.1 ht with ht|ht
   ·exact ih.tlen t ht
   ·obtain rfl:=List.mem_singleton.1 ht;exact r.tlen
  ·by_cases hlt:n<L.length
   ·obtain⟨j,t,s,a,b,c,d⟩:=ih.early n h1 hlt
    exact⟨j,t,s,a,by omega,by rw [List.getElem?_append_left (by have:=ih.len;omega)];exact c,d⟩
   ·obtain⟨s,hs⟩:=r.new n (by omega) h2
    exact⟨i,t',s,by omega,by omega,by rw [←ih.len,List.getElem?_concat_length],hs⟩
end
section
theorem Bld.prev {G:GramD} {st:Int} {i':Nat} {L' T':List (List It)} (h:Bld G st i' L' T'): ∀{i:Nat},i<i'→ ∃L T k,Bld G st i L T∧L[i]? =some k∧(rowA G st k L (topOf G)).1.length≤2000:=by
 induction h with
 |start=>intro i hi;omega
 |next j L T k hb hk hl ih=>
  intro i hi
  by_cases e:i=j
  ·subst e;exact⟨L,T,k,hb,hk,hl⟩
  ·exact ih (by omega)
theorem Auto.unique {G:GramD} {st:Int} {r r':Option (List (List It)×List (List It))} (h:Auto G st r) (h':Auto G st r'):r=r':=by
 have ok: ∀{L T L' T':List (List It)} {i:Nat},Bld G st L.length L T→Bld G st i L' T'→i≤L.length:=fun{L T L' T' i} hb hb'=>by
  rcases Nat.lt_or_ge L.length i with e|e
  ·obtain⟨L2,T2,k,h1,h2,-⟩:=hb'.prev e
   obtain⟨rfl,-⟩:=hb.fn h1
   have:=(List.getElem?_eq_some_iff.1 h2).1
   omega
  ·exact e
 have two: ∀{L T:List (List It)} {i:Nat} {k:List It} {L' T':List (List It)} {j:Nat},Bld G st i L T→L[i]? =some k→2000<(rowA G st k L (topOf G)).1.length→Bld G st j L' T'→j≤i:=fun{L T i k L' T' j} hb hk hl hb'=>by
  rcases Nat.lt_or_ge i j with e|e
  ·obtain⟨L2,T2,k2,h1,h2,h3⟩:=hb'.prev e
   obtain⟨rfl,-⟩:=hb.fn h1
   rw [hk]at h2
   injection h2 with h2
   subst h2
   omega
  ·exact e
 cases h with
 |ok L T hb=>
  cases h' with
  |ok L' T' hb'=>
   have e1:=ok hb hb'
   have e2:=ok hb' hb
   have e:L.length=L'.length:=by omega
   rw [←e]at hb'
   obtain⟨rfl,rfl⟩:=hb.fn hb'
   rfl
  |many i L' T' k hb' hk hl=>
   exfalso
   have e1:=two hb' hk hl hb
   have e2:=ok hb hb'
   have e:i=L.length:=by omega
   subst e
   obtain⟨rfl,-⟩:=hb.fn hb'
   have:=(List.getElem?_eq_some_iff.1 hk).1
   omega
 |many i L T k hb hk hl=>
  cases h' with
  |ok L' T' hb'=>
   exfalso
   have e1:=two hb hk hl hb'
   have e2:=ok hb' hb
   have e:i=L'.length:=by omega
   subst e
   obtain⟨rfl,-⟩:=hb.fn hb'
   have:=(List.getElem?_eq_some_iff.1 hk).1
   omega
  |many _ _ _ _ _ _ _=>rfl
def moreC (G:GramD) (st:Int) (o:List It):List It:=canonI (o++o.flatMap fun x=>if(behindI G st x).2=true then rulesI (ofOf G (behindI G st x).1)else [])
def clC (G:GramD) (st:Int) (l:List It):Nat→List It
 |0=>canonI (l.filter (rightI G st))
 |n+1=>moreC G st (clC G st l n)
theorem clC_sound {G:GramD} {st:Int} {l:List It}: ∀(n:Nat),∀z∈clC G st l n,Cl G st l z
 |0,z,hz=>by
  obtain⟨h1,h2⟩:=List.mem_filter.1 (mem_canon.1 hz)
  exact .base z h1 h2
 |n+1,z,hz=>by
  rcases List.mem_append.1 (mem_canon.1 hz)with h|h
  ·exact clC_sound n z h
  ·obtain⟨x,hx,hz⟩:=List.mem_flatMap.1 h
   split at hz
   ·rename_i hb
    obtain⟨k,hk,rfl⟩:=mem_rules.1 hz
    exact .next x (behindI G st x).1 k (clC_sound n x hx) (by rw [←hb]) hk
   ·cases hz
theorem clC_base {G:GramD} {st:Int} {l:List It} {z:It} (h1:z∈l) (h2:rightI G st z=true): ∀(n:Nat),z∈clC G st l n
 |0=>mem_canon.2 (List.mem_filter.2 ⟨h1,h2⟩)
 |n+1=>mem_canon.2 (List.mem_append_left _ (clC_base h1 h2 n))
theorem clC_is {G:GramD} {st:Int} {l:List It} {n:Nat} (h:clC G st l (n+1)=clC G st l n):IsCl G st l (clC G st l n):=by
 refine⟨by cases n<;>exact canon_strict _,fun z=>⟨clC_sound n z,fun hz=> ?_⟩⟩
 induction hz with
 |base x hx hr=>exact clC_base hx hr n
 |next y s k _ hb hk ih=>
  rw [←h]
  refine mem_canon.2 (List.mem_append_right _ (List.mem_flatMap.2 ⟨y,ih,?_⟩))
  rw [hb,if_pos rfl]
  exact mem_rules.2 ⟨k,hk,rfl⟩
def rowC (G:GramD) (st:Int) (c:List It) (L:List (List It)):Nat→List (List It)×List It
 |0=>(L,[])
 |m+1=>if canonI (stepsI G st c ((m+1:Nat):Int))=[]then rowC G st c L m else((putK (rowC G st c L m).1 (canonI (stepsI G st c ((m+1:Nat):Int)))).1,(rowC G st c L m).2++[(((m+1:Nat):Int),(putK (rowC G st c L m).1 (canonI (stepsI G st c ((m+1:Nat):Int)))).2)])
theorem rowC_eq {G:GramD} {st:Int} {k:List It} {L:List (List It)} {c:List It} (h:IsCl G st k c): ∀m,rowA G st k L m=rowC G st c L m
 |0=>rfl
 |m+1=>by
  show(if _ then _ else _)=(if _ then _ else _)
  rw [rowC_eq h m,nx_of h]
end
end Go.Proofs.YtalbfonkhpeajaaGreat
namespace Go.Proofs.YtalbfonkhpeajaaGreat
set_option linter.unusedVariables false
section
set_option linter.unusedSimpArgs false
open Go.RowKit
attribute [local irreducible] wpStill wpOne wpPh
abbrev PtB (b:Nat):Value:= .pointer (some ⟨b,0,none⟩)
theorem touch_two (W:World) (z:Nat) (u v:Value):Touch (fun k=>k=z) W ((W.setCell ⟨z,0,none⟩ u).setCell ⟨z,1,none⟩ v):=
 ((Touch.refl (fun k=>k=z) W).setCell (p:=⟨z,0,none⟩) (fun _=>rfl) u).setCell (p:=⟨z,1,none⟩) (fun _=>rfl) v
structure Bd (w:World) (F:Nat→Prop) (B:Nat) (A1:Option Addr) (c1:Nat) (A2:Option Addr) (c2:Nat) (A3:Option Addr) (c3 T N R:Nat) (st:Int) (G:GramD) (vb vs:Value) (m1 m2:Nat):Prop where
 gram:IsGram w F (.slice A1 T c1) (.slice A2 N c2) (.slice A3 R c3) G
 blk:Blk w B 101 #[.slice A1 T c1,.slice A2 N c2,.slice A3 R c3,.int .i64 st,vb,vs,.map (some m1),.map (some m2)]
section
variable {w w' : World} {F : Nat → Prop} {B : Nat} {A1 : Option Addr} {c1 : Nat} {A2 : Option Addr} {c2 : Nat} {A3 : Option Addr} {c3 T N R : Nat} {st : Int} {G : GramD} {vb vs : Value} {m1 m2 : Nat}
theorem Bd.below (h:Bd w F B A1 c1 A2 c2 A3 c3 T N R st G vb vs m1 m2) (hb:Below w.heap.size w w'):Bd w' F B A1 c1 A2 c2 A3 c3 T N R st G vb vs m1 m2:=⟨h.gram.below hb,h.blk.below hb h.blk.lt⟩
theorem Bd.touch {S:Nat→Prop} (h:Bd w F B A1 c1 A2 c2 A3 c3 T N R st G vb vs m1 m2) (ht:Touch S w w') (hS: ∀b,F b→ ¬S b) (hB: ¬S B):Bd w' F B A1 c1 A2 c2 A3 c3 T N R st G vb vs m1 m2:=⟨h.gram.touch ht hS,h.blk.touch ht hB⟩
theorem Bd.drew (h:Bd w F B A1 c1 A2 c2 A3 c3 T N R st G vb vs m1 m2):Bd w.drew F B A1 c1 A2 c2 A3 c3 T N R st G vb vs m1 m2:=h.below ((Below.refl _ w).drew)
theorem Bd.cells (h:Bd w F B A1 c1 A2 c2 A3 c3 T N R st G vb vs m1 m2):w.cell? ⟨B,0,none⟩=some (.slice A1 T c1)∧w.cell? ⟨B,1,none⟩=some (.slice A2 N c2)∧w.cell? ⟨B,2,none⟩=some (.slice A3 R c3)∧w.cell? ⟨B,3,none⟩=some (.int .i64 st):=
 ⟨(h.blk.cell 0).trans rfl,(h.blk.cell 1).trans rfl,(h.blk.cell 2).trans rfl,(h.blk.cell 3).trans rfl⟩
end
def RuleP (w:World) (F:Nat→Prop) (r:(Int×List Int)×Bool) (e:Ending) (w':World):Prop:=
 ∃A n c,e= .returned (.tuple #[.agg #[.int .i64 r.1.1,.slice A n c],.bool r.2])∧RdI w' (fun b=>F b∨(w.heap.size≤b∧b<w'.heap.size)) (.slice A n c) r.1.2∧Below w.heap.size w w'
theorem RuleP.mk {w w':World} {F:Nat→Prop} {r:(Int×List Int)×Bool} {l:Int} {A:Option Addr} {n c:Nat} {xs:List Int} {ok:Bool} {e:Ending} (he:e= .returned (.tuple #[.agg #[.int .i64 l,.slice A n c],.bool ok])) (hr:r=((l,xs),ok)) (h:RdI w' (fun b=>F b∨(w.heap.size≤b∧b<w'.heap.size)) (.slice A n c) xs) (hb:Below w.heap.size w w'):RuleP w F r e w':=by
 subst hr he
 exact⟨A,n,c,rfl,h,hb⟩
set_option maxRecDepth 100000 in
set_option maxHeartbeats 2000000 in
theorem gram_rule2 {w:World} {F:Nat→Prop} {vt vn vr:Value} {G:GramD} (h:IsGram w F vt vn vr G) (st i:Int):
  Calls Tryz.prog 90 #[GV vt vn vr st,.int .i64 i] w (RuleP w F (ruleOf G st i)):=by
 have hF:=h.lt
 have hsm:=h.small
 obtain⟨A1,c1,A2,c2,A3,c3,rfl,rfl,rfl,l1,l2,l3,m1,m2,m3⟩:=h.slices
 obtain⟨-,-,-,hcell⟩:=ERule.at_ h.rules
 obtain⟨n,en⟩: ∃n,n=G.rules.length:=⟨_,rfl⟩
 have f1:(i<0∨(n:Int)<i)→ruleOf G st i=((0,[]),false):=fun e=>by unfold ruleOf;rw [←en,if_pos e]
 have f2:i=(n:Int)→ruleOf G st i=((0,[st]),true):=fun e=>by unfold ruleOf;rw [←en,if_neg (by omega),if_pos e]
 have f3: ∀(k:Nat) (l:Int) (x:List Int),i=(k:Int)→k<n→G.rules[k]? =some (l,x)→ruleOf G st i=((l,x),true):=fun k l x e e' hx=>by
  unfold ruleOf;rw [←en,if_neg (by omega),if_neg (by omega),show i.toNat=k by omega,hx];rfl
 rw [←en]at hsm hcell l3⊢
 obtain⟨s1,s2,s3⟩:=hsm
 have HN:=hide en
 have HC:=hide hcell
 have HF:=hide hF
 have F1:=hide f1
 have F2:=hide f2
 have F3:=hide f3
 clear en hcell hF h f1 f2 f3
 by_cases h0:i<0
 ·go_enter Tryz.func90,Tryz.ntmps90
  go_wp2_with fail
  refine bodyPost_ret (v:= .tuple #[.agg #[.int .i64 0,.slice none 0 0],.bool false]) (by simp [results,Tryz.results90,go_sem]) rfl ?_
  exact RuleP.mk rfl (F1.out (.inl h0)) (Rd.nil _ _ _) (((Below.refl _ w).alloc (Nat.le_refl _) _).alloc (by simp) _)
 ·by_cases h1:(n:Int)<i
  ·go_enter Tryz.func90,Tryz.ntmps90
   go_wp2_with fail
   refine bodyPost_ret (v:= .tuple #[.agg #[.int .i64 0,.slice none 0 0],.bool false]) (by simp [results,Tryz.results90,go_sem]) rfl ?_
   exact RuleP.mk rfl (F1.out (.inr h1)) (Rd.nil _ _ _) (((Below.refl _ w).alloc (Nat.le_refl _) _).alloc (by simp) _)
  ·by_cases h2:i=(n:Int)
   ·subst h2
    have r1:Rd (((w.alloc (.cells #[.slice A1 G.terms.length c1,.slice A2 G.nons.length c2,.slice A3 n c3,.int .i64 st] 25)).alloc (.cells #[.int .i64 0,.slice (some ⟨w.heap.size+2,0,none⟩) 1 1] 42)).alloc (.cells #[.int .i64 st] 3)) (fun b=>b=w.heap.size+2) (.slice (some ⟨w.heap.size+2,0,none⟩) 1 1) 1 [.int .i64 st]:=by
     have:=Rd.one' (w:=((w.alloc (.cells #[.slice A1 G.terms.length c1,.slice A2 G.nons.length c2,.slice A3 n c3,.int .i64 st] 25)).alloc (.cells #[.int .i64 0,.slice (some ⟨w.heap.size+2,0,none⟩) 1 1] 42))) (e:=3) [.int .i64 st] 1 rfl
     simpa using this
    go_enter Tryz.func90,Tryz.ntmps90
    go_wp2_with fail
    refine bodyPost_ret (v:= .tuple #[.agg #[.int .i64 0,.slice (some ⟨w.heap.size+2,0,none⟩) 1 1],.bool true]) (by simp [results,Tryz.results90,go_sem]) rfl ?_
    exact RuleP.mk rfl (F2.out (by first|rfl|trivial)) (r1.mono (fun b hb=> .inr (by simp;omega))) ((((Below.refl _ w).alloc (Nat.le_refl _) _).alloc (by simp) _).alloc (by simp;omega) _)
   ·obtain⟨k,rfl⟩:=Int.eq_ofNat_of_zero_le (by omega:0≤i)
    have hlt:k<n:=by omega
    obtain⟨b,off,rfl,hb,hc⟩:=HC.out (by omega)
    obtain⟨l0,x,vx,hx,hx0,hx1,hxr⟩:=RdR.get (n:=n) HF.out hb (Below.refl _ w) hc (k:=k) (by rw [←HN.out];omega)
    obtain⟨A5,n5,c5,rfl,_⟩:=id hxr
    have hbw:=HF.out b hb
    have hx0':=fun o=>cell_a hx0 o
    have hx1':=fun o=>cell_a hx1 o
    have hfin:=F3.out k l0 x rfl hlt hx
    have HFIN:=hide hfin
    have HXR:=hide hxr
    have hki:((k:Int)==(n:Int))=false:=by simpa using(by omega: ¬(k:Int)=(n:Int))
    clear hc hx hxr hfin h2
    go_enter Tryz.func90,Tryz.ntmps90
    go_wp2_with fail
    refine bodyPost_ret (v:= .tuple #[.agg #[.int .i64 l0,.slice A5 n5 c5],.bool true]) (by simp [results,Tryz.results90,go_sem]) rfl ?_
    have B2:Below w.heap.size w ((w.alloc (.cells #[.slice A1 G.terms.length c1,.slice A2 G.nons.length c2,.slice (some ⟨b,off,none⟩) n c3,.int .i64 st] 25)).alloc (.cells #[.int .i64 l0,.slice A5 n5 c5] 42)):=((Below.refl _ w).alloc (Nat.le_refl _) _).alloc (by simp) _
    exact RuleP.mk rfl HFIN.out ((HXR.out.below B2 HF.out).mono (fun b hb=> .inl hb)) B2
def nextI (G:GramD) (st:Int) (x:It):Int:=(behindI G st x).1
theorem next_end {G:GramD} {st:Int} {a d:Int} (h:((ruleOf G st a).1.2.length:Int)≤d):nextI G st (a,d)=0:=by unfold nextI;rw [behind_no (.inr (.inr h))]
theorem next_at {G:GramD} {st:Int} {a:Int} {k:Nat} {s:Int} (h:(ruleOf G st a).2=true) (hs:(ruleOf G st a).1.2[k]? =some s):nextI G st (a,(k:Int))=s:=by unfold nextI;rw [behind_yes h hs]
set_option maxRecDepth 100000 in
set_option maxHeartbeats 4000000 in
theorem auto_next {w:World} {F:Nat→Prop} {B:Nat} {A1:Option Addr} {c1:Nat} {A2:Option Addr} {c2:Nat} {A3:Option Addr} {c3 T N R:Nat} {st:Int} {G:GramD} {vb vs:Value} {m1 m2:Nat}
  (h:Bd w F B A1 c1 A2 c2 A3 c3 T N R st G vb vs m1 m2) (x:It) (hx:rightI G st x=true):
  Calls Tryz.prog 83 #[PtB B,ItV x] w (Quiet w (.int .i64 (nextI G st x))):=by
 obtain⟨a,d⟩:=x
 have n1:((ruleOf G st a).1.2.length:Int)≤d→nextI G st (a,d)=0:=next_end
 have n2: ∀(k:Nat) (s:Int),d=k→(ruleOf G st a).1.2[k]? =some s→nextI G st (a,d)=s:=fun k s e hs=>by
  rw [e]
  unfold rightI at hx
  simp only [Bool.and_eq_true]at hx
  exact next_at hx.1 hs
 have n3:0≤d:=by
  unfold rightI at hx
  simp only [Bool.and_eq_true,decide_eq_true_eq]at hx
  exact hx.2.1
 clear hx
 obtain⟨w1,hw1⟩: ∃w1,w1=w.alloc (.cells #[.int .i64 a,.int .i64 d] 86):=⟨_,rfl⟩
 have b1:Below w.heap.size w w1:=by rw [hw1];exact(Below.refl _ w).alloc (Nat.le_refl _) _
 have kx1:Blk w1 w.heap.size 86 #[.int .i64 a,.int .i64 d]:=by rw [hw1];exact Blk.new _ _ _
 have t1:=h.below b1
 have cr:=fun wr (g:Bd wr F B A1 c1 A2 c2 A3 c3 T N R st G vb vs m1 m2)=>gram_rule2 g.gram st a
 obtain⟨q0,q1,q2,q3⟩:=t1.cells
 have d0:=(kx1.cell 0).trans rfl
 have d1:=(kx1.cell 1).trans rfl
 generalize nextI G st (a,d)=r at *
 generalize ruleOf G st a=ru at *
 obtain⟨⟨l,xs⟩,ok⟩:=ru
 simp only at n1 n2
 rw [hw1]at q0 q1 q2 q3 d0 d1
 clear h
 have Xb1:=hide b1;have Xkx1:=hide kx1;have Xt1:=hide t1;have Xcr:=hide cr;have Xn1:=hide n1;have Xn2:=hide n2;have Xn3:=hide n3;clear b1 kx1 t1 cr n1 n2 n3
 go_enter Tryz.func83,Tryz.ntmps83
 go_wp2_with fail
 refine wp_region_held_drew (S:=(fun W=>W.cell? ⟨B,0,none⟩=some (.slice A1 T c1)∧W.cell? ⟨B,1,none⟩=some (.slice A2 N c2)∧W.cell? ⟨B,2,none⟩=some (.slice A3 R c3)∧W.cell? ⟨B,3,none⟩=some (.int .i64 st)∧W.cell? ⟨w.heap.size,0,none⟩=some (.int .i64 a)∧W.cell? ⟨w.heap.size,1,none⟩=some (.int .i64 d))) (by kernel_rfl) ?_ (fun hHeld=> ?_)
 ·exact⟨q0,q1,q2,q3,d0,d1⟩
 rw [←hw1]at hHeld⊢
 generalize hwd:w1.drew=wd at *
 have t2:Bd wd F B A1 c1 A2 c2 A3 c3 T N R st G vb vs m1 m2:=by rw [←hwd];exact Xt1.out.drew
 have kx2:Blk wd w.heap.size 86 #[.int .i64 a,.int .i64 d]:=by rw [←hwd];exact Xkx1.out.drew
 have bd:Below w.heap.size w wd:=by rw [←hwd];exact Xb1.out.drew
 have hS: ∀W,Below wd.heap.size wd W→W.cell? ⟨B,0,none⟩=some (.slice A1 T c1)∧W.cell? ⟨B,1,none⟩=some (.slice A2 N c2)∧W.cell? ⟨B,2,none⟩=some (.slice A3 R c3)∧W.cell? ⟨B,3,none⟩=some (.int .i64 st)∧W.cell? ⟨w.heap.size,0,none⟩=some (.int .i64 a)∧W.cell? ⟨w.heap.size,1,none⟩=some (.int .i64 d):=fun W hb=>by
  obtain⟨p0,p1,p2,p3⟩:=(t2.below hb).cells
  have kk:=kx2.below hb kx2.lt
  exact⟨p0,p1,p2,p3,(kk.cell 0).trans rfl,(kk.cell 1).trans rfl⟩
 clear hwd hw1 Xt1 Xkx1 Xb1 q0 q1 q2 q3 d0 d1
 have Xt2:=hide t2;have Xkx2:=hide kx2;have Xbd:=hide bd;have XhS:=hide hS;clear t2 kx2 bd hS
 refine tk (i:=0) (oi:= ?_) (v:= ?_) ?_ (by kernel_rfl) ?_ (Or.inl ⟨?_,?_⟩) (by assumption) ?_;rotate_left 2;(focus((try simp only [gT,gs,gz]);try rfl));exact fun _ _ _ h=>h;rfl;(focus(intro wS hwS;(try dsimp only at hwS);go_simp;all_goals with_reducible rfl));try simp only [Act.put,sT,s0,s1]
 refine tk (i:=1) (oi:= ?_) (v:= ?_) ?_ (by kernel_rfl) ?_ (Or.inl ⟨?_,?_⟩) (by assumption) ?_;rotate_left 2;(focus((try simp only [gT,gs,gz]);try rfl));exact fun _ _ _ h=>h;rfl;(focus(intro wS hwS;(try dsimp only at hwS);go_simp;all_goals with_reducible rfl));try simp only [Act.put,sT,s0,s1]
 refine tk (i:=2) (oi:= ?_) (v:= ?_) ?_ (by kernel_rfl) ?_ (Or.inl ⟨?_,?_⟩) (by assumption) ?_;rotate_left 2;(focus((try simp only [gT,gs,gz]);try rfl));exact fun _ _ _ h=>h;rfl;(focus(intro wS hwS;(try dsimp only at hwS);go_simp;all_goals with_reducible rfl));try simp only [Act.put,sT,s0,s1]
 refine tk (i:=3) (oi:= ?_) (v:= ?_) ?_ (by kernel_rfl) ?_ (Or.inl ⟨?_,?_⟩) (by assumption) ?_;rotate_left 2;(focus((try simp only [gT,gs,gz]);try rfl));exact fun _ _ _ h=>h;rfl;(focus(intro wS hwS;(try dsimp only at hwS);go_simp;all_goals with_reducible rfl));try simp only [Act.put,sT,s0,s1]
 refine tk (i:=4) (oi:= ?_) (v:= ?_) ?_ (by kernel_rfl) ?_ (Or.inl ⟨?_,?_⟩) (by assumption) ?_;rotate_left 2;(focus((try simp only [gT,gs,gz]);try rfl));exact fun _ _ _ h=>h;rfl;(focus(intro wS hwS;(try dsimp only at hwS);go_simp;all_goals with_reducible rfl));try simp only [Act.put,sT,s0,s1]
 refine tk (i:=5) (oi:= ?_) (v:= ?_) ?_ (by kernel_rfl) ?_ (Or.inl ⟨?_,?_⟩) (by assumption) ?_;rotate_left 2;(focus((try simp only [gT,gs,gz]);try rfl));exact fun _ _ _ h=>h;rfl;(focus(intro wS hwS;(try dsimp only at hwS);go_simp;all_goals with_reducible rfl));try simp only [Act.put,sT,s0,s1]
 refine wpAnyH_ready (rs:=[6,10]) (by kernel_rfl) (by simp) ?_
 refine AllReadyH.cons (o:= ?_) ?_ (fun K hK=> ?_) ?_;rotate_left 1;(focus((try simp only [gT,gs,gz]);try rfl))
 ·go_simp
  go_at_call 90
  refine(Xcr.out _ Xt2.out).mono ?_
  rintro e w3 ⟨A,n,c,rfl,hrd,b3⟩
  obtain⟨hn,hnc,hcm,-⟩:=RdI.at_ hrd
  unfold maxLen at hcm
  replace hn:n=xs.length:=hn
  replace hrd:RdI w3 (fun b=>F b∨(wd.heap.size≤b∧b<w3.heap.size)) (.slice A n c) xs:=hrd
  have Xhrd:=hide hrd;have Xhn:=hide hn;clear hrd hn
  refine hK.out _ _ ?_ (fun hHeld=> ?_)
  ·exact XhS.out _ b3
  clear hK K
  try simp only [Act.put,sT,s0,s1]
  refine tk (i:=7) (oi:= ?_) (v:= ?_) ?_ (by kernel_rfl) ?_ (Or.inl ⟨?_,?_⟩) (by assumption) ?_;rotate_left 2;(focus((try simp only [gT,gs,gz]);try rfl));exact fun _ _ _ h=>h;rfl;(focus(intro wS hwS;(try dsimp only at hwS);go_simp;all_goals with_reducible rfl));try simp only [Act.put,sT,s0,s1]
  refine tk (i:=8) (oi:= ?_) (v:= ?_) ?_ (by kernel_rfl) ?_ (Or.inl ⟨?_,?_⟩) (by assumption) ?_;rotate_left 2;(focus((try simp only [gT,gs,gz]);try rfl));exact fun _ _ _ h=>h;rfl;(focus(intro wS hwS;(try dsimp only at hwS);go_simp;all_goals with_reducible rfl));try simp only [Act.put,sT,s0,s1]
  refine tk (i:=9) (oi:= ?_) (v:= ?_) ?_ (by kernel_rfl) ?_ (Or.inl ⟨?_,?_⟩) (by assumption) ?_;rotate_left 2;(focus((try simp only [gT,gs,gz]);try rfl));exact fun _ _ _ h=>h;rfl;(focus(intro wS hwS;(try dsimp only at hwS);go_simp;all_goals with_reducible rfl));try simp only [Act.put,sT,s0,s1]
  have Xb3:=hide b3;clear b3
  refine wpAnyH_ready (rs:=[10]) (by kernel_rfl) (by simp) ?_
  refine AllReadyH.cons (o:= ?_) ?_ (fun K hK=> ?_) AllReadyH.nil;rotate_left 1;(focus((try simp only [gT,gs,gz]);try rfl))
  go_simp
  have b4:Below wd.heap.size wd (w3.alloc (.cells #[.int .i64 0,.slice none 0 0] 42)):=Xb3.out.alloc Xb3.out.size _
  have k4:Blk (w3.alloc (.cells #[.int .i64 0,.slice none 0 0] 42)) w3.heap.size 42 #[.int .i64 0,.slice none 0 0]:=Blk.new _ _ _
  have hK2:wd.heap.size≤w3.heap.size:=Xb3.out.size
  have hFl: ∀b,F b∨(wd.heap.size≤b∧b<w3.heap.size)→b<w3.heap.size:=fun b hb=>hb.elim (fun hb=>Nat.lt_of_lt_of_le (Xt2.out.gram.lt b hb) Xb3.out.size) (fun hb=>hb.2)
  have hrd4:=Xhrd.out.below (Below.refl _ w3|>.alloc (Nat.le_refl _) (.cells #[.int .i64 0,.slice none 0 0] 42)) hFl
  have hrl: ∀b,F b∨(wd.heap.size≤b∧b<w3.heap.size)→ ¬b=w3.heap.size:=fun b hb=>by have:=hFl b hb;omega
  clear hFl Xhrd
  refine hK.out _ _ ?_ (fun hHeld=> ?_)
  ·exact XhS.out _ b4
  clear hK K
  try simp only [Act.put,sT,s0,s1]
  generalize w3.heap.size=Kb at *
  generalize w3.alloc (.cells #[.int .i64 0,.slice none 0 0] 42)=w4 at *
  have f0:=(k4.cell 0).trans rfl
  have f1:=(k4.cell 1).trans rfl
  have z0:=k4.frozen 0
  have z1:=k4.frozen 1
  have k5:=(k4.put 0 (.int .i64 l)).put 1 (.slice A n c)
  have tt:=touch_two w4 (Kb) (.int .i64 l) (.slice A n c)
  have b5:Below wd.heap.size wd ((w4.setCell ⟨Kb,0,none⟩ (.int .i64 l)).setCell ⟨Kb,1,none⟩ (.slice A n c)):=b4.trans (tt.below (fun i hi _ e=>by omega) b4.size)
  have hrd5:=hrd4.touch tt hrl
  have Xb4:=hide b4;have Xk4:=hide k4;have Xhrd4:=hide hrd4;have XhK2:=hide hK2;have Xhrl:=hide hrl;have Xk5:=hide k5;have Xtt:=hide tt;have Xb5:=hide b5;have Xhrd5:=hide hrd5;clear b4 k4 hrd4 hK2 hrl k5 tt b5 hrd5
  refine wpAnyH_ready (rs:=[11]) (by kernel_rfl) (by simp) ?_
  refine AllReadyH.cons (o:= ?_) ?_ (fun K hK=> ?_) AllReadyH.nil;rotate_left 1;(focus((try simp only [gT,gs,gz]);try rfl))
  go_simp
  refine hK.out _ _ ?_ (fun hHeld=> ?_)
  ·exact XhS.out _ Xb5.out
  clear hK K
  try simp only [Act.put,sT,s0,s1]
  generalize (w4.setCell ⟨Kb,0,none⟩ (.int .i64 l)).setCell ⟨Kb,1,none⟩ (.slice A n c)=w5 at *
  refine tk (i:=12) (oi:= ?_) (v:= ?_) ?_ (by kernel_rfl) ?_ (Or.inl ⟨?_,?_⟩) (by assumption) ?_;rotate_left 2;(focus((try simp only [gT,gs,gz]);try rfl));exact fun _ _ _ h=>h;rfl;(focus(intro wS hwS;(try dsimp only at hwS);go_simp;all_goals with_reducible rfl));try simp only [Act.put,sT,s0,s1]
  refine wpAnyH_done (by kernel_rfl) ?_ _
  obtain⟨-,-,-,-,d0,d2⟩:=id hHeld
  have d3:=(Xk5.out.cell 0).trans rfl
  have d4:=(Xk5.out.cell 1).trans rfl
  have hb5:=Xbd.out.trans (Xb5.out.mono Xbd.out.size)
  have hrd:=Xhrd5.out
  have hn:=Xhn.out
  by_cases h1:(n:Int)≤d
  ·have hv:=Xn1.out (by rw [←hn];exact h1)
   have Xhv:=hide hv;have Xhb5:=hide hb5;have Xhrd:=hide hrd;have Xhn:=hide hn;clear hv hb5 hrd hn
   go_wp2_with fail
   go_ret
   exact⟨ret_int Xhv.out.symm,Xhb5.out⟩
  ·obtain⟨k,rfl⟩:=Int.eq_ofNat_of_zero_le (show 0≤d from Xn3.out)
   have hk:k<n:=by omega
   obtain⟨-,-,-,hcell⟩:=RdI.at_ hrd
   obtain⟨b,off,rfl,-,hcc⟩:=hcell (by omega)
   obtain⟨s,hs⟩: ∃s,xs[k]? =some s:=⟨_,List.getElem?_eq_getElem (by rw [←hn];exact hk)⟩
   have hcs:=hcc k s hs
   have hv:=Xn2.out k s rfl hs
   clear hcell hcc
   have Xhv:=hide hv;have Xhb5:=hide hb5;have Xhrd:=hide hrd;have Xhn:=hide hn;have Xhs:=hide hs;clear hv hb5 hrd hn hs
   go_wp2_with fail
   go_ret
   exact⟨ret_int Xhv.out.symm,Xhb5.out⟩
 ·refine AllReadyH.cons (o:= ?_) ?_ (fun K hK=> ?_) ?_;rotate_left 1;(focus((try simp only [gT,gs,gz]);try rfl))
  ·go_simp
   have b4:Below wd.heap.size wd (wd.alloc (.cells #[.int .i64 0,.slice none 0 0] 42)):=(Below.refl _ wd).alloc (Nat.le_refl _) _
   have k4:Blk (wd.alloc (.cells #[.int .i64 0,.slice none 0 0] 42)) wd.heap.size 42 #[.int .i64 0,.slice none 0 0]:=Blk.new _ _ _
   have t4:=Xt2.out.below b4
   refine hK.out _ _ ?_ (fun hHeld=> ?_)
   ·exact XhS.out _ b4
   clear hK K
   try simp only [Act.put,sT,s0,s1]
   have hK2:wd.heap.size≤wd.heap.size:=Nat.le_refl _
   generalize wd.alloc (.cells #[.int .i64 0,.slice none 0 0] 42)=wa at *
   have Xb4:=hide b4;have Xk4:=hide k4;have Xt4:=hide t4;clear b4 k4 t4
   refine wpAnyH_ready (rs:=[6]) (by kernel_rfl) (by simp) ?_
   refine AllReadyH.cons (o:= ?_) ?_ (fun K hK=> ?_) AllReadyH.nil;rotate_left 1;(focus((try simp only [gT,gs,gz]);try rfl))
   go_simp
   go_at_call 90
   refine(Xcr.out _ Xt4.out).mono ?_
   rintro e w4 ⟨A,n,c,rfl,hrd4,b5⟩
   obtain⟨hn,hnc,hcm,-⟩:=RdI.at_ hrd4
   unfold maxLen at hcm
   have k4:=Xk4.out.below b5 Xk4.out.lt
   have hwa:wd.heap.size<wa.heap.size:=Xk4.out.lt
   have hrl: ∀b,F b∨(wa.heap.size≤b∧b<w4.heap.size)→ ¬b=wd.heap.size:=fun b hb=>hb.elim (fun hb e=>by have:=Xt2.out.gram.lt b hb;omega) (fun hb=>by omega)
   have b4:=Xb4.out.trans (b5.mono Xb4.out.size)
   clear b5 Xb4 Xk4 Xt4 hwa
   replace hn:n=xs.length:=hn
   replace hrd4:RdI w4 (fun b=>F b∨(wa.heap.size≤b∧b<w4.heap.size)) (.slice A n c) xs:=hrd4
   have Xhn:=hide hn;clear hn
   refine hK.out _ _ ?_ (fun hHeld=> ?_)
   ·exact XhS.out _ b4
   clear hK K
   try simp only [Act.put,sT,s0,s1]
   refine tk (i:=7) (oi:= ?_) (v:= ?_) ?_ (by kernel_rfl) ?_ (Or.inl ⟨?_,?_⟩) (by assumption) ?_;rotate_left 2;(focus((try simp only [gT,gs,gz]);try rfl));exact fun _ _ _ h=>h;rfl;(focus(intro wS hwS;(try dsimp only at hwS);go_simp;all_goals with_reducible rfl));try simp only [Act.put,sT,s0,s1]
   refine tk (i:=8) (oi:= ?_) (v:= ?_) ?_ (by kernel_rfl) ?_ (Or.inl ⟨?_,?_⟩) (by assumption) ?_;rotate_left 2;(focus((try simp only [gT,gs,gz]);try rfl));exact fun _ _ _ h=>h;rfl;(focus(intro wS hwS;(try dsimp only at hwS);go_simp;all_goals with_reducible rfl));try simp only [Act.put,sT,s0,s1]
   refine tk (i:=9) (oi:= ?_) (v:= ?_) ?_ (by kernel_rfl) ?_ (Or.inl ⟨?_,?_⟩) (by assumption) ?_;rotate_left 2;(focus((try simp only [gT,gs,gz]);try rfl));exact fun _ _ _ h=>h;rfl;(focus(intro wS hwS;(try dsimp only at hwS);go_simp;all_goals with_reducible rfl));try simp only [Act.put,sT,s0,s1]
   have f0:=(k4.cell 0).trans rfl
   have f1:=(k4.cell 1).trans rfl
   have z0:=k4.frozen 0
   have z1:=k4.frozen 1
   have k5:=(k4.put 0 (.int .i64 l)).put 1 (.slice A n c)
   have tt:=touch_two w4 (wd.heap.size) (.int .i64 l) (.slice A n c)
   have b5:Below wd.heap.size wd ((w4.setCell ⟨wd.heap.size,0,none⟩ (.int .i64 l)).setCell ⟨wd.heap.size,1,none⟩ (.slice A n c)):=b4.trans (tt.below (fun i hi _ e=>by omega) b4.size)
   have hrd5:=hrd4.touch tt hrl
   have Xb4:=hide b4;have Xk4:=hide k4;have Xhrd4:=hide hrd4;have XhK2:=hide hK2;have Xhrl:=hide hrl;have Xk5:=hide k5;have Xtt:=hide tt;have Xb5:=hide b5;have Xhrd5:=hide hrd5;clear b4 k4 hrd4 hK2 hrl k5 tt b5 hrd5
   refine wpAnyH_ready (rs:=[11]) (by kernel_rfl) (by simp) ?_
   refine AllReadyH.cons (o:= ?_) ?_ (fun K hK=> ?_) AllReadyH.nil;rotate_left 1;(focus((try simp only [gT,gs,gz]);try rfl))
   go_simp
   refine hK.out _ _ ?_ (fun hHeld=> ?_)
   ·exact XhS.out _ Xb5.out
   clear hK K
   try simp only [Act.put,sT,s0,s1]
   generalize (w4.setCell ⟨wd.heap.size,0,none⟩ (.int .i64 l)).setCell ⟨wd.heap.size,1,none⟩ (.slice A n c)=w5 at *
   refine tk (i:=12) (oi:= ?_) (v:= ?_) ?_ (by kernel_rfl) ?_ (Or.inl ⟨?_,?_⟩) (by assumption) ?_;rotate_left 2;(focus((try simp only [gT,gs,gz]);try rfl));exact fun _ _ _ h=>h;rfl;(focus(intro wS hwS;(try dsimp only at hwS);go_simp;all_goals with_reducible rfl));try simp only [Act.put,sT,s0,s1]
   refine wpAnyH_done (by kernel_rfl) ?_ _
   obtain⟨-,-,-,-,d0,d2⟩:=id hHeld
   have d3:=(Xk5.out.cell 0).trans rfl
   have d4:=(Xk5.out.cell 1).trans rfl
   have hb5:=Xbd.out.trans (Xb5.out.mono Xbd.out.size)
   have hrd:=Xhrd5.out
   have hn:=Xhn.out
   by_cases h1:(n:Int)≤d
   ·have hv:=Xn1.out (by rw [←hn];exact h1)
    have Xhv:=hide hv;have Xhb5:=hide hb5;have Xhrd:=hide hrd;have Xhn:=hide hn;clear hv hb5 hrd hn
    go_wp2_with fail
    go_ret
    exact⟨ret_int Xhv.out.symm,Xhb5.out⟩
   ·obtain⟨k,rfl⟩:=Int.eq_ofNat_of_zero_le (show 0≤d from Xn3.out)
    have hk:k<n:=by omega
    obtain⟨-,-,-,hcell⟩:=RdI.at_ hrd
    obtain⟨b,off,rfl,-,hcc⟩:=hcell (by omega)
    obtain⟨s,hs⟩: ∃s,xs[k]? =some s:=⟨_,List.getElem?_eq_getElem (by rw [←hn];exact hk)⟩
    have hcs:=hcc k s hs
    have hv:=Xn2.out k s rfl hs
    clear hcell hcc
    have Xhv:=hide hv;have Xhb5:=hide hb5;have Xhrd:=hide hrd;have Xhn:=hide hn;have Xhs:=hide hs;clear hv hb5 hrd hn hs
    go_wp2_with fail
    go_ret
    exact⟨ret_int Xhv.out.symm,Xhb5.out⟩
  ·exact AllReadyH.nil
end
section
set_option linter.unusedSimpArgs false
open Go.RowKit
attribute [local irreducible] wpStill wpOne wpPh
def ItOwn (w:World) (l:List It) (e:Ending) (w':World):Prop:= ∃A c,e= .returned (.slice A l.length c)∧w'.ownsRow w.heap.size 86 2 (.slice A l.length c) l.length (itCells l)∧Below w.heap.size w w'
set_option maxRecDepth 100000 in
set_option maxHeartbeats 4000000 in
theorem auto_rules {w:World} {F:Nat→Prop} {B:Nat} {A1:Option Addr} {c1:Nat} {A2:Option Addr} {c2:Nat} {A3:Option Addr} {c3 T N R:Nat} {st:Int} {G:GramD} {vb vs:Value} {m1 m2:Nat}
  (h:Bd w F B A1 c1 A2 c2 A3 c3 T N R st G vb vs m1 m2) (s:Int) (hl:(ofOf G s).length≤300):
  Calls Tryz.prog 82 #[PtB B,.int .i64 s] w (ItOwn w (rulesI (ofOf G s))):=by
 have co:=gram_of h.gram st s
 obtain⟨q0,q1,q2,q3⟩:=h.cells
 generalize ofOf G s=ks at *
 have Xh:=hide h;have Xco:=hide co;clear h co
 go_enter Tryz.func82,Tryz.ntmps82
 go_wp2_with fail
 with_reducible refine Xco.out.mono ?_
 rintro e w2 ⟨Ar,cr,rfl,hown,b2⟩
 have hrd:RdI w2 (fun b=>w.heap.size≤b∧b<w2.heap.size) (.slice Ar ks.length cr) ks:=(Rd.of_own hown).mono (fun q hq=>hown.lt q hq)
 clear hown q0 q1 q2 q3 Xco Xh
 obtain⟨n,hn⟩: ∃n,n=ks.length:=⟨_,rfl⟩
 rw [←hn]at hl hrd⊢
 obtain⟨-,hnc,hcm,-⟩:=RdI.at_ hrd
 unfold maxLen at hcm
 have Xhrd:=hide hrd;have Xb2:=hide b2;have Xhn:=hide hn;clear hrd b2 hn
 go_wp2_with fail
 go_loopw [5,15] (fun o i wr=> ∃(k:Nat) (A:Option Addr) (c:Nat),k≤n∧i= .int .i64 k∧o= .slice A k c∧wr.ownsRow w2.heap.size 86 2 (.slice A k c) k (itCells (rulesI (ks.take k)))∧Below w2.heap.size w2 wr) (fun _ i _=>n - (intOf i).toNat)
 case atStart=>exact⟨0,none,0,Nat.zero_le _,rfl,rfl,World.ownsRow_nil _ _ _ _,Below.refl _ _⟩
 case round=>
  obtain⟨k,A,c,hk,rfl,rfl,own,le⟩:=hrel
  obtain⟨-,hkc,hkm,-⟩:=RdIt.at_ (Rd.of_own own)
  unfold maxLen at hkm
  by_cases hlt:k<n
  ·have hlt':(k:Int)<(n:Int):=by omega
   obtain⟨-,-,-,hcell⟩:=RdI.at_ (Xhrd.out.below le (fun b hb=>hb.2))
   obtain⟨b,off,rfl,hb,hcc⟩:=hcell (by omega)
   obtain⟨r,hr⟩: ∃r,ks[k]? =some r:=⟨_,List.getElem?_eq_getElem (by rw [←Xhn.out];exact hlt)⟩
   have hc:=hcc k r hr
   have hnx:=rules_next hr
   have hone:RdIt (wr.alloc (.cells #[.int .i64 r,.int .i64 0] 86)) (fun b=>b=wr.heap.size) (.slice (some ⟨wr.heap.size,0,none⟩) 1 1) [(r,0)]:=RdIt.one (w:=wr) (e:=86) (r,0)
   have own7:=own_alloc own (.cells #[.int .i64 r,.int .i64 0] 86)
   have le7:=le.alloc le.size (.cells #[.int .i64 r,.int .i64 0] 86)
   clear hcc hcell hb
   have Xown:=hide own;have Xle:=hide le;have Xhr:=hide hr;have Xhnx:=hide hnx;have Xhone:=hide hone;have Xown7:=hide own7;have Xle7:=hide le7;clear own le hr hnx hone own7 le7
   go_wp2_with (at_builtin;refine wp_append _ rfl (.tmp 19) (.tmp 22) _ rfl Tryz.elemItem w2.heap.size _ k _ rfl Xown7.out _ _ [I64 r,I64 0] 1 rfl rfl Xhone.out (itCells_one [(r,0)]) (by unfold maxLen;omega) (by omega) (Xle7.out.size) ?_)
   intro A8 c8 w8 own8 g8 hb8
   have le8:=Xle7.out.grown g8 Xle7.out.size (fun q hq=>(Xown7.out.lt q hq).1)
   rw [show [I64 r,I64 0]=itCells [(r,0)]from rfl,←itCells_append,←Xhnx.out]at own8
   have Xown8:=hide own8;have Xle8:=hide le8;clear own8 le8
   go_wp2_with fail
   go_roundw
   case rel=>exact⟨k+1,A8,c8,by omega,by go_num,rfl,Xown8.out,Xle8.out⟩
   case measure=>simp [intOf];omega
  ·have hlt': ¬(k:Int)<(n:Int):=by omega
   obtain rfl:k=n:=by omega
   have hall:rulesI (ks.take k)=rulesI ks:=by rw [Xhn.out,List.take_length]
   rw [hall]at own
   have hlen:k=(rulesI ks).length:=by rw [rules_len,←Xhn.out]
   have Xown:=hide own;have Xle:=hide le;have Xhall:=hide hall;have Xhlen:=hide hlen;clear own le hall hlen
   go_wp2_with fail
   go_ret
   unfold ItOwn
   rw [←Xhlen.out]
   exact⟨A,c,rfl,ownsRow_base Xown.out (fun q hq=>Nat.le_trans Xb2.out.size (World.ownsRow.lt Xown.out q hq).1),Xb2.out.trans (Xle.out.mono Xb2.out.size)⟩
end
section
set_option linter.unusedSimpArgs false
open Go.RowKit Go.Maps
structure QueI (w:World) (lo g off n c:Nat) (l:List Int):Prop where
 len:n=l.length
 cap:n≤c∧c≤maxLen
 low:lo≤g∧g<w.heap.size
 at_: ∀j x,l[j]? =some x→w.cell? ⟨g,off+j,none⟩=some (.int .i64 x)
 room: ∀j,j<c→(w.cell? ⟨g,off+j,none⟩).isSome=true∧w.frozen? ⟨g,off+j,none⟩=false
section
variable {w w' : World} {lo g off n c : Nat} {l : List Int}
theorem QueI.touch {S:Nat→Prop} (h:QueI w lo g off n c l) (ht:Touch S w w') (hg: ¬S g):QueI w' lo g off n c l:=by
 have e:w'.heap[g]? =w.heap[g]? :=ht.block g h.low.2 hg
 refine⟨h.len,h.cap,⟨h.low.1,Nat.lt_of_lt_of_le h.low.2 ht.size⟩,fun j x hx=>(World.cell?_of_block e).trans (h.at_ j x hx),fun j hj=> ?_⟩
 have:=h.room j hj
 rw [World.cell?_of_block (a:=⟨g,off+j,none⟩) e,World.frozen?_of_block (a:=⟨g,off+j,none⟩) e]
 exact this
theorem QueI.below (h:QueI w lo g off n c l) (hb:Below w.heap.size w w'):QueI w' lo g off n c l:=h.touch (Touch.of_size hb (fun _=>False)) (fun e=>e)
theorem QueI.one (w:World) (hlo:lo≤w.heap.size) (s:Int) (t:TypeId):QueI (w.alloc (.cells #[.int .i64 s] t)) lo w.heap.size 0 1 1 [s]:=by
 have k:Blk (w.alloc (.cells #[.int .i64 s] t)) w.heap.size t #[.int .i64 s]:=Blk.new _ _ _
 refine⟨rfl,⟨Nat.le_refl _,by decide⟩,⟨hlo,by simp⟩,fun j x hx=> ?_,fun j hj=> ?_⟩
 ·match j,hx with
  |0,hx=>simp at hx;subst hx;exact(k.cell 0).trans rfl
 ·obtain rfl:j=0:=by omega
  exact⟨by rw [Nat.zero_add,k.cell 0];rfl,k.frozen _⟩
theorem QueI.pop {x:Int} {r:List Int} (h:QueI w lo g off n c (x::r)):QueI w lo g (if c=1 then off else off+1) (n - 1) (c - 1) r:=by
 have hl:=h.len
 have hc:=h.cap
 simp only [List.length_cons]at hl
 refine⟨by omega,⟨by omega,by omega⟩,h.low,fun j y hy=> ?_,fun j hj=> ?_⟩
 ·have hj:=(List.getElem?_eq_some_iff.1 hy).1
  rw [if_neg (by omega),Nat.add_assoc,Nat.add_comm 1 j]
  exact h.at_ (j+1) y (by simpa using hy)
 ·rw [if_neg (by omega),Nat.add_assoc,Nat.add_comm 1 j]
  exact h.room (j+1) (by omega)
theorem QueI.push (h:QueI w lo g off n c l) {ad:Nat} {x:Int} (hx:w.cell? ⟨ad,0,none⟩=some (.int .i64 x)) (hn:n≤100000) (hlo:lo≤w.heap.size) (ty:TypeId):
  ∃g' off' c' w',(Builtin.append_ #[26,26] ty #[.slice (some ⟨g,off,none⟩) n c,.slice (some ⟨ad,0,none⟩) 1 1]).run Tryz.prog w= .ok (.slice (some ⟨g',off',none⟩) (n+1) c') w'∧QueI w' lo g' off' (n+1) c' (l++[x])∧Touch (fun b=>b=g) w w'∧(g'=g∨w.heap.size≤g'):=by
 obtain⟨i,hi,hz,hsize,hby⟩:=info_parts Tryz.infoInt
 have hnews: ∀j u,([Value.int .i64 x]:List Value)[j]? =some u→w.cell? ((⟨ad,0,none⟩:Addr).add j)=some u:=fun j u hu=>by
  match j,hu with
  |0,hu=>simp at hu;subst hu;rw [add_none];exact hx
 have hln:=h.len
 by_cases hroom:n+1≤c
 ·have hf:=run_firstCells_some (P:=Tryz.prog) w i.size 1 ⟨ad,0,none⟩ 1 1 [.int .i64 x] (by rw [hsize];rfl) hnews
  obtain⟨r1,r2⟩:=h.room n (by omega)
  have j0: ∀j,j<[Value.int .i64 x].length→j=0:=fun j hj=>by simpa using hj
  have hst:=run_storeCells_cells (P:=Tryz.prog) g (off+n) [.int .i64 x] 0 w (fun j hj=>by rw [j0 j hj];exact r1) (fun j hj=>by rw [j0 j hj];exact r2) (by simp [Value.oneCell'])
  have tt:Touch (fun b=>b=g) w (w.setCell ⟨g,off+n,none⟩ (.int .i64 x)):=(Touch.refl (fun b=>b=g) w).setCell (p:=⟨g,off+n,none⟩) (fun _=>rfl) _
  refine⟨g,off,c,w.setCell ⟨g,off+n,none⟩ (.int .i64 x),?_,⟨?_,?_,⟨h.low.1,by simpa [World.setCell]using h.low.2⟩,fun j y hy=> ?_,fun j hj=> ?_⟩,tt,.inl rfl⟩
  ·have hadd:(⟨g,off,none⟩:Addr).add n=⟨g,off+n,none⟩:=add_none _ _ _
   rw [hsize]at hf
   simp [Builtin.append_,run_underlying Tryz.underlying26,sizeOf,typeInfo,hi,hsize,Builtin.lenOf,hroom,hf,hadd,hst,World.setCells,Tryz.underlying3]
  ·rw [List.length_append,←hln];rfl
  ·exact⟨hroom,h.cap.2⟩
  ·by_cases e:j=n
   ·subst e
    rw [hln,List.getElem?_concat_length]at hy
    have hy:=Option.some.inj hy
    rw [←hy]
    exact World.cell?_setCell_same' _ _ _ r1
   ·have hjn:j<n:=by have:=(List.getElem?_eq_some_iff.1 hy).1;simp at this;omega
    rw [List.getElem?_append_left (by omega)]at hy
    rw [World.cell?_setCell_other _ _ _ _ (fun ea=>by injection ea with _ ea;omega)]
    exact h.at_ j y hy
  ·obtain⟨s1,s2⟩:=h.room j hj
   rw [World.frozen?_setCell]
   refine⟨?_,s2⟩
   by_cases e:j=n
   ·subst e
    rw [World.cell?_setCell_same' _ _ _ r1];rfl
   ·rw [World.cell?_setCell_other _ _ _ _ (fun ea=>by injection ea with _ ea;omega)]
    exact s1
 ·have hr:=run_append_grow (P:=Tryz.prog) w 26 ty 3 i (.int .i64 0) Tryz.underlying26 hi hz ⟨g,off,none⟩ n c (l.map (Value.int .i64)) (by rw [List.length_map,hsize];omega) (fun j u hu=>by
   rw [List.getElem?_map]at hu
   obtain⟨y,hy,rfl⟩:=Option.map_eq_some_iff.1 hu
   rw [add_none]
   exact h.at_ j y hy) ⟨ad,0,none⟩ 1 1 [.int .i64 x] (by rw [hsize];rfl) hnews (by omega) (by omega) (growslice_fits (by omega) (by rw [hby];omega))
  have hge:=grownCap_ge w (n+1) c 3
  have hcm:=grownCap_le_maxLen w (n+1) c 3 (by unfold maxLen;omega)
  generalize grownCap w (n+1) c 3=cc at *
  obtain⟨cs,hcs⟩: ∃cs,cs=(l.map (Value.int .i64)).toArray++[Value.int .i64 x].toArray++Builtin.zeroCells (Value.cells (.int .i64 0)) (cc - (n+1)):=⟨_,rfl⟩
  rw [←hcs]at hr
  have k:Blk (w.drew.alloc (.cells cs 3)) w.heap.size 3 cs:=Blk.new w.drew _ _
  have hsz:cs.size=cc:=by rw [hcs];simp [Builtin.zeroCells,Value.cells];omega
  refine⟨w.heap.size,0,cc,_,hr,⟨by rw [List.length_append,←hln];rfl,⟨hge,hcm⟩,⟨hlo,by simp⟩,fun j y hy=> ?_,fun j hj=>⟨?_,?_⟩⟩,((Touch.refl _ w).drew).alloc _,.inr (Nat.le_refl _)⟩
  ·rw [Nat.zero_add,k.cell,hcs]
   have:((l.map (Value.int .i64))++[Value.int .i64 x])[j]? =some (.int .i64 y):=by
    have:=congrArg (Option.map (Value.int .i64)) hy
    rw [←List.getElem?_map]at this
    simpa using this
   have hj:=(List.getElem?_eq_some_iff.1 this).1
   rw [Array.getElem?_append_left (by simpa using hj)]
   rw [←Array.getElem?_toList]
   simpa using this
  ·rw [Nat.zero_add,k.cell,Array.getElem?_eq_getElem (by omega)];rfl
  ·exact k.frozen _
theorem wp_push {ops:Array Oper} {rest:List Oper} {o:Oper} {a:Act} {Q:Exit→Act→World→Prop} (hgd:o.guard=none) (s x:Operand)
  (ho:o.op= .call {callee:= .builtin .append,args:= #[s,x],argTypes:= #[26,26]}) (h:QueI w lo g off n c l) (hs:a.eval s= .slice (some ⟨g,off,none⟩) n c) {ad:Nat} {y:Int} (hx:a.eval x= .slice (some ⟨ad,0,none⟩) 1 1) (hc:w.cell? ⟨ad,0,none⟩=some (.int .i64 y)) (hn:n≤100000) (hlo:lo≤w.heap.size)
  (hk: ∀g' off' c' w',QueI w' lo g' off' (n+1) c' (l++[y])→Touch (fun b=>b=g) w w'→(g'=g∨w.heap.size≤g')→wpList Tryz.prog ops Q rest (a.put o.dst (.slice (some ⟨g',off',none⟩) (n+1) c')) w'):wpList Tryz.prog ops Q (o::rest) a w:=by
 refine wpList_plain hgd fun _ hK=> ?_
 obtain⟨g',off',c',w',hrun,h2,h3,h4⟩:=h.push hc hn hlo o.type
 unfold Oper.wp execOp
 simp only [ho,resolve,invoke,builtin,Sem.run_bind,Sem.run_pure,Result.andThen_ok,List.map_toArray,List.map_cons,List.map_nil,hs,hx,hrun]
 exact hK _ _ (hk g' off' c' w' h2 h3 h4)
end
theorem Tryz.intKeyed:Keyed Tryz.prog 3:=int_keyed Tryz.underlying3
def nkey (n:Int):Lit:= .int .i64 n
theorem nkey_some {n:Int} (h: -9223372036854775808≤n∧n≤9223372036854775807):keyOf Tryz.prog 3 (.int .i64 n)=some (nkey n):=by
 have hw:=wf_i64_mk h
 have hkt:Tryz.prog.keyType 3=true:=by kernel_rfl
 unfold keyOf
 simp [Tryz.underlying3,hkt,Value.formed,mapKey,hw,nkey]
theorem nkey_inj {a b:Int} (h:nkey a=nkey b):a=b:=by injection h
structure NumMap (D:DataW Unit) (o:List Int):Prop where
 m:Maps.IsMap D
 at_: ∀x,D.atKey (nkey x) (.lit (.bool false))= .lit (.bool (decide (x∈o)))
theorem NumMap.empty:NumMap (.map []) []:=⟨⟨[],rfl⟩,fun x=>rfl⟩
theorem NumMap.put {D:DataW Unit} {o:List Int} (h:NumMap D o) {x:Int} (hx: -9223372036854775808≤x∧x≤9223372036854775807):NumMap (D.put (nkey x) (.lit (.bool true))) (o++[x]):=by
 refine⟨h.m.put _ _,fun y=> ?_⟩
 by_cases e:y=x
 ·subst e
  rw [Maps.atKey_put_same h.m (Tryz.intKeyed.key (nkey_some hx))]
  simp
 ·rw [Maps.atKey_put_other (fun c=>e (nkey_inj c)),h.at_ y]
  simp [e]
set_option maxRecDepth 100000 in
theorem NumMap.look {w:World} {b n:Nat} {D:DataW Unit} {o:List Int} (h:NumMap D o) (hm:w.ownsMap Tryz.prog 3 (plainElem Tryz.prog 4) b n D) {x:Int} (hx: -9223372036854775808≤x∧x≤9223372036854775807):
  (Instr.lookup 143 (.map (some b)) (.int .i64 x) false).run Tryz.prog w= .ok (.bool (decide (x∈o))) w:=by
 have hz:(zeroValue 4).run Tryz.prog w= .ok (.bool false) w:=Tryz.zeroValue4 w
 obtain⟨v,ps,hrun,hv⟩:=hm.lookup Tryz.intKeyed Tryz.underlying143 hz (plainElem_bool Tryz.underlying4 false) (nkey_some hx)
 rw [h.at_ x]at hv
 generalize decide (x∈o)=dd at *
 have hv2:v= .bool dd:=by
  unfold plainElem at hv
  rw [Tryz.underlying4]at hv
  cases v with
  |bool b=>simp only [Option.some.injEq,Prod.mk.injEq]at hv;have:=hv.1;injection this with this;injection this with this;rw [this]
  |_=>simp at hv
 subst hv2
 exact hrun
end
end Go.Proofs.YtalbfonkhpeajaaGreat

/- Lookaheads: what comes with a nonterminal: memory. -/
import Derived.Test.YthlbjgabhpdbfaaGreatBLook6
set_option linter.unusedVariables false
set_option linter.unusedSimpArgs false
namespace Go.Proofs.YthlbjgabhpdbfaaGreat
open Go.Proofs.Tryz
open List renaming length_append->Za,map_append->Zb
section
open Go.RowKit Go.Maps
structure iJ (D:DataW Unit) (f:Int->Option Int):Prop where
 isMap:Maps.IsMap D
 has: ∀x,Maps.has D (gS x)=(f x).isSome
 at_: ∀x v,f x=some v-> ∀z,D.atKey (gS x) z= .lit (.int .i64 v)
theorem iJ.empty:iJ (.map []) (λ_=>none):=⟨Maps.isMap_empty,λ_=>by simp [Maps.has],λ_ _ h=>by cases h⟩
def kp (f:Int->Option Int) (x v:Int):Int->Option Int:=λy=>if y=x then some v else f y
theorem iJ.put {D:DataW Unit} {f:Int->Option Int} (h:iJ D f) (x v:Int):iJ (D.put (gS x) (.lit (.int .i64 v))) (kp f x v):=by
 have d:WideAt.IsKeyLit (gS x):=by unfold gS;simp [WideAt.IsKeyLit]
 refine⟨h.isMap.put _ _,λb=> ?_,λb i a j=> ?_⟩
 ·unfold kp;by_cases e:b=x
  ·subst e;rw [Maps.has_put_same h.isMap d,if_pos rfl];rfl
  ·rw [Maps.has_put_other (λc=>e (rq c)),h.has b,if_neg e]
 ·unfold kp at a;by_cases e:b=x
  ·subst e;rw [if_pos rfl]at a;injection a with a
   subst a;rw [Maps.atKey_put_same h.isMap d]
  ·rw [if_neg e]at a;rw [Maps.atKey_put_other (λc=>e (rq c))];exact h.at_ b i a j
def PsV (ps:Nat->Nat) (n:Nat):List Value:=(List.range n).map λi=>aq (ps i)
theorem qm (ps:Nat->Nat) (n:Nat):(PsV ps n).length=n:=by simp [PsV]
theorem yO {ps:Nat->Nat} {n i:Nat} (h:i<n):(PsV ps n)[i]? =some (aq (ps i)):=by unfold PsV;rw [List.getElem?_map,List.getElem?_range h];rfl
theorem Dl (ps:Nat->Nat) (n b:Nat):PsV (upd ps n b) (n+1)=PsV ps n++[aq b]:=by
 unfold PsV;rw [List.range_succ,Zb,List.map_singleton,aC];congr 1;exact List.map_congr_left λa hi=>by rw [aN (by have:=List.mem_range.1 hi;omega)]
theorem ET {Ps:List Value} {l:List Co} (h:Ps.length=l.length) (p:Value) (x:Co):eo (Ps++[p]) (l++[x])=eo Ps l++[.int .i64 x.s,p,.bool x.self]:=by
 unfold eo;rw [List.zip_append h,List.flatMap_append];rfl
theorem Bh: ∀{Ps:List Value} {l:List Co} {i:Nat} {d d':Co},Ps.length=l.length->l[i]? =some d->d'.s=d.s->eo Ps (l.set i d')=(eo Ps l).set (i * 3+2) (.bool d'.self)
 |[],[],i,d,d',h,hd,hs=>by simp at hd
 |[],a::l,i,d,d',h,hd,hs=>by simp at h
 |p::Ps,[],i,d,d',h,hd,hs=>by simp at hd
 |p::Ps,a::l,0,d,d',h,hd,hs=>by
  have:a=d:=by simpa using hd
  subst this;simp [eo,hs]
 |p::Ps,a::l,i+1,d,d',h,hd,hs=>by
  have b:=Bh (Ps:=Ps) (l:=l) (i:=i) (d':=d') (by simpa using h) (by simpa using hd) hs;have e:(i+1) * 3+2=(i * 3+2)+1+1+1:=by omega
  unfold eo at b⊢;rw [e];simp only [List.set_cons_succ,List.zip_cons_cons,List.flatMap_cons,List.cons_append,List.nil_append,b]
theorem yd {w b:World} {base:Nat} {e:TypeId} {size n g c:Nat} {xs:List Value} (h:w.ownsRow base e size (.slice (some ⟨g,0,none⟩) n c) n xs) (j:b.heap[g]? =w.heap[g]?):b.ownsRow base e size (.slice (some ⟨g,0,none⟩) n c) n xs:=by
 refine⟨h.1,?_⟩;rcases h.2 with⟨a,-⟩|⟨d,f,i,a,k,l,o⟩
 ·cases a
 ·right;have e:d=g:=by injection a with a;injection a with a;injection a with a;exact a.symm
  exact⟨d,f,i,a,k,by rw [e,j,<-e];exact l,o⟩
structure CoM (V wr:World) (ow:Nat->Nat) (m mb:Nat) (A:Option Addr) (n c g off qn qc:Nat) (out:List Co) (todo:List Nat) (L:List Int) (ps:Nat->Nat) (foot:Nat->Nat->Prop):Prop where
 le:Below V.heap.size V wr
 old: ∀b,b<V.heap.size->ow b=2
 row:Row wr ow 1 293 3 A n c (eo (PsV ps n) out)
 hn:n=out.length
 set: ∀(j:Nat) d,out[j]? =some d->aG wr (ps j) (foot j) m d.f
 tag: ∀j k,j<n->foot j k->ow k=5+j
 q:eU wr V.heap.size g off qn qc (todo.map λi:Nat=>(i:Int))
 qt:ow g=3
 map: ∃(D:DataW Unit) (f:Int->Option Int),wr.ownsMap prog 3 (plainElem prog 3) mb L.length D/\iJ D f/\ ∀y i,f y=some i↔ ∃k:Nat,i=k/\L[k]? =some y
 mt:ow mb=4
section
variable {V wr wr' : World} {ow ow' : Nat -> Nat} {m mb : Nat} {A : Option Addr} {n c g off qn qc : Nat} {out : List Co} {todo : List Nat} {L : List Int} {ps : Nat -> Nat} {foot : Nat -> Nat -> Prop} {J : Nat -> Prop}
theorem CoM.low (h:CoM V wr ow m mb A n c g off qn qc out todo L ps foot) {b:Nat} (a:ow b≠2):V.heap.size<=b:=Nat.le_of_not_lt λd=>a (h.old b d)
theorem CoM.rest (h:CoM V wr ow m mb A n c g off qn qc out todo L ps foot) (s:StL J wr ow wr' ow') (d: ¬J 2):Below V.heap.size V wr'/\ ∀a,a<V.heap.size->ow' a=2:=
 ⟨s.t.toBelow (λi f=>h.low (λe=>d (by rw [<-e];exact f))) h.le h.le.size,λa b=>(s.eq a (Nat.lt_of_lt_of_le b h.le.size)).trans (h.old a b)⟩
theorem CoM.get (h:CoM V wr ow m mb A n c g off qn qc out todo L ps foot) {j:Nat} (b:j<n): ∃a,out[j]? =some a:=⟨_,List.getElem?_eq_getElem (by rw [<-h.hn];exact b)⟩
theorem CoM.lt (h:CoM V wr ow m mb A n c g off qn qc out todo L ps foot) {j:Nat} {d:Co} (a:out[j]? =some d):j<n:=by rw [h.hn];exact(List.getElem?_eq_some_iff.1 a).1
theorem CoM.sets (h:CoM V wr ow m mb A n c g off qn qc out todo L ps foot) (s:StL J wr ow wr' ow') (k: ∀i,5<=i-> ¬J i):(∀(j:Nat) b,out[j]? =some b->aG wr' (ps j) (foot j) m b.f)/\ ∀j a,j<n->foot j a->ow' a=5+j:=
 ⟨λj b d=>(h.set j b d).touch s.t (λa e=>by rw [h.tag j a (h.lt d) e];exact k _ (by omega)),λj a f e=>by
  obtain⟨b,d⟩:=h.get f
  exact(s.eq a ((h.set j b d).lt a e)).trans (h.tag j a f e)⟩
theorem CoM.que (h:CoM V wr ow m mb A n c g off qn qc out todo L ps foot) (s:StL J wr ow wr' ow') (a: ¬J 3):eU wr' V.heap.size g off qn qc (todo.map λi:Nat=>(i:Int))/\ow' g=3:=
 ⟨h.q.touch s.t (by rw [h.qt];exact a),(s.eq g h.q.low.2).trans h.qt⟩
theorem CoM.maps (h:CoM V wr ow m mb A n c g off qn qc out todo L ps foot) (s:StL J wr ow wr' ow') (i: ¬J 4):(∃(D:DataW Unit) (f:Int->Option Int),wr'.ownsMap prog 3 (plainElem prog 3) mb L.length D/\iJ D f/\ ∀e a,f e=some a↔ ∃b:Nat,a=b/\L[b]? =some e)/\ow' mb=4:=by
 obtain⟨D,f,d,j,k⟩:=h.map;exact⟨⟨D,f,s.t.ownsMap d (by rw [h.mt];exact i),j,k⟩,(s.eq mb d.lt).trans h.mt⟩
theorem CoM.step (h:CoM V wr ow m mb A n c g off qn qc out todo L ps foot) (s:StL J wr ow wr' ow') (a: ∀b,1<=b-> ¬J b):CoM V wr' ow' m mb A n c g off qn qc out todo L ps foot where
 le:=(h.rest s (a 2 (by omega))).1
 old:=(h.rest s (a 2 (by omega))).2
 row:=h.row.step s (a 1 (by omega))
 hn:=h.hn
 set:=(h.sets s (λb hi=>a b (by omega))).1
 tag:=(h.sets s (λb hi=>a b (by omega))).2
 q:=(h.que s (a 3 (by omega))).1
 qt:=(h.que s (a 3 (by omega))).2
 map:=(h.maps s (a 4 (by omega))).1
 mt:=(h.maps s (a 4 (by omega))).2
theorem CoM.below (h:CoM V wr ow m mb A n c g off qn qc out todo L ps foot) (b:Below wr.heap.size wr wr'):CoM V wr' (ext wr ow 0) m mb A n c g off qn qc out todo L ps foot:=
 h.step (StL.new (λ_=>False) b ow 0) (λ_ _ e=>e)
theorem CoM.pop {a:Nat} (h:CoM V wr ow m mb A n c g off qn qc out (a::todo) L ps foot):CoM V wr ow m mb A n c g (if qc=1 then off else off+1) (qn - 1) (qc - 1) out todo L ps foot:=
 ⟨h.le,h.old,h.row,h.hn,h.set,h.tag,h.q.pop,h.qt,h.map,h.mt⟩
theorem CoM.push {i b l k:Nat} (h:CoM V wr ow m mb A n c g off qn qc out todo L ps foot) (o:eU wr' V.heap.size b l (qn+1) k ((todo.map λi:Nat=>(i:Int))++[(i:Int)])) (t:aa (λj=>j=g) wr wr') (d:b=g\/wr.heap.size<=b):
  CoM V wr' (ext wr ow 3) m mb A n c b l (qn+1) k out (todo++[i]) L ps foot/\StL (λf=>f=3) wr ow wr' (ext wr ow 3):=by
 have a:StL (λf=>f=3) wr ow wr' (ext wr ow 3):=StL.ext (t.mono λj _ e=>by rw [e];exact h.qt) 3;refine⟨⟨(h.rest a (by omega)).1,(h.rest a (by omega)).2,h.row.step a (by omega),h.hn,(h.sets a (λi hi=>by omega)).1,(h.sets a (λi hi=>by omega)).2,by rw [Zb];exact o,?_,(h.maps a (by omega)).1,(h.maps a (by omega)).2⟩,a⟩;rcases d with rfl|d
 ·exact(bV h.q.low.2).trans h.qt
 ·exact dz d
theorem CoM.meet {D:DataW Unit} {f:Int->Option Int} {y:Int} (h:CoM V wr ow m mb A n c g off qn qc out todo L ps foot) (o:iJ D f) (l: ∀y i,f y=some i↔ ∃d:Nat,i=d/\L[d]? =some y) (r:y∉L)
  (hm:wr'.ownsMap prog 3 (plainElem prog 3) mb (L.length+1) (D.put (gS y) (.lit (.int .i64 (L.length:Int))))) (p:wr.grownBy wr' (some mb)):
  CoM V wr' (ext wr ow 4) m mb A n c g off qn qc out todo (L++[y]) ps foot/\StL (λk=>k=4) wr ow wr' (ext wr ow 4):=by
 have b:StL (λk=>k=4) wr ow wr' (ext wr ow 4):=StL.ext ((aa.refl _ _).grown p (λd e _=>by injection e with e;rw [<-e];exact h.mt)) 4;obtain⟨u,v,s,-,-⟩:=h.map;refine⟨⟨(h.rest b (by omega)).1,(h.rest b (by omega)).2,h.row.step b (by omega),h.hn,(h.sets b (λi hi=>by omega)).1,(h.sets b (λi hi=>by omega)).2,(h.que b (by omega)).1,(h.que b (by omega)).2,⟨_,_,by rw [Za];exact hm,o.put y _,λt i=> ?_⟩,(bV s.lt).trans h.mt⟩,b⟩;unfold kp;by_cases e:t=y
 ·subst e;rw [if_pos rfl];constructor
  ·intro a;injection a with a
   exact⟨L.length,a.symm,by simp⟩
  ·rintro⟨d,rfl,j⟩;rw [List.getElem?_append]at j
   split at j
   ·exact absurd (List.mem_of_getElem? j) r
   ·rename_i q
    have:=(List.getElem?_eq_some_iff.1 j).1;simp at this;rw [show d=L.length by omega]
 ·rw [if_neg e,l];refine exists_congr λd=>and_congr_right λ_=> ?_
  rw [List.getElem?_append]
  split
  ·exact Iff.rfl
  ·rename_i q
   rw [List.getElem?_eq_none (by omega)];constructor
   ·intro a;cases a
   ·intro a;rw [List.getElem?_singleton]at a
    split at a
    ·injection a with a;exact absurd a.symm e
    ·cases a
theorem CoM.add {w1 w2 w3:World} {b l:Nat} {k:Option Addr} {S:Nat->Prop} {y:Int} (h:CoM V wr ow m mb A n c g off qn qc out todo L ps foot) (r:aG w1 b S m aj) (w: ∀a,S a->wr.heap.size<=a) (p:Below wr.heap.size wr w1) (al:Below w1.heap.size w1 w2)
  (own:w3.ownsRow 0 293 3 (.slice k (n+1) l) (n+1) (eo (PsV ps n) out++[.int .i64 y,aq b,.bool false])) (v:w2.grownBy w3 (Value.slice A n c).ownBlock) (z:(Value.slice k (n+1) l).ownBlock=(Value.slice A n c).ownBlock\/(Value.slice k (n+1) l).ownBlock=some w2.heap.size):
  ∃ow',CoM V w3 ow' m mb k (n+1) l g off qn qc (out++[⟨y,aj,false⟩]) todo L (upd ps n b) (upd foot n S)/\StL (λf=>f=1) wr ow w3 ow':=by
 classical
 obtain⟨o,s⟩: ∃C:Nat->Nat,C=λa=>if a<wr.heap.size then ow a else if S a then 5+n else 0:=⟨_,rfl⟩
 have s1:StL (λ_=>False) wr ow w2 o:=⟨aa.of_size (p.trans (al.mono p.size)) _,λa d=>by rw [s];exact if_pos d⟩;have hwS: ∀a,S a->o a=5+n:=λa d=>by rw [s];simp only;rw [if_neg (by have:=w a d;omega),if_pos d]
 obtain⟨D,t⟩:=(h.row.step s1 (λe=>e)).app own v z;have i:StL (λf=>f=1) wr ow w3 (ext w2 o 1):=(s1.mono (J':=λf=>f=1) (λ_ e=>e.elim)).trans t;have x: ∀a,S a->a<w2.heap.size:=λa d=>Nat.lt_of_lt_of_le (r.lt a d) al.size
 refine⟨ext w2 o 1,⟨(h.rest i (by omega)).1,(h.rest i (by omega)).2,?_,by rw [Za,<-h.hn];rfl,λf u j=> ?_,λf a q d=> ?_,(h.que i (by omega)).1,(h.que i (by omega)).2,(h.maps i (by omega)).1,(h.maps i (by omega)).2⟩,i⟩
 ·rw [Dl,ET (by rw [qm,h.hn])];exact D
 ·by_cases e:f=n
  ·subst e;rw [h.hn,List.getElem?_concat_length]at j;injection j with j
   subst j;rw [aC,aC];exact(r.touch (aa.of_size al (λ_=>False)) (λ_ _ e=>e)).touch t.t (λa d e=>by rw [hwS a d]at e;omega)
  ·have q:f<n:=by
    have:=(List.getElem?_eq_some_iff.1 j).1;rw [Za,List.length_singleton,<-h.hn]at this;omega
   rw [List.getElem?_append_left (by rw [<-h.hn];exact q)]at j;rw [aN e,aN e];exact(h.sets i (λB hi=>by omega)).1 f u j
 ·by_cases e:f=n
  ·subst e;rw [aC]at d;exact(bV (x a d)).trans (hwS a d)
  ·rw [aN e]at d;exact(h.sets i (λB hi=>by omega)).2 f a (by omega) d
theorem CoM.hand {i p:Nat} {d d':Co} {e:Ending} (h:CoM V wr ow m mb A n c g off qn qc out todo L ps foot) (t:out[i]? =some d) (E:d'.s=d.s) (s:A=some ⟨p,0,none⟩) (o:dW wr p (i * 3) (ps i) (foot i) m d d' e wr'):
  CoM V wr' (ext wr ow 0) m mb A n c g off qn qc (out.set i d') todo L ps foot/\StL (λa=>a=1\/a=5+i) wr ow wr' (ext wr ow 0):=by
 have hi:=h.lt t;have b:StL (λa=>a=1\/a=5+i) wr ow wr' (ext wr ow 0):=StL.ext (o.t.mono λz _ q=>q.elim (λq=> .inr (h.tag i z hi q)) (λe=> .inl (by rw [e];exact h.row.tag p (by rw [s];rfl)))) 0;have w:(PsV ps n).length=out.length:=by rw [qm,h.hn]
 refine⟨⟨(h.rest b (by omega)).1,(h.rest b (by omega)).2,⟨?_,λj k=>(b.eq j (h.row.own.lt j k).2).trans (h.row.tag j k)⟩,by rw [List.length_set];exact h.hn,λa r f=> ?_,λa j u k=> ?_,(h.que b (by omega)).1,(h.que b (by omega)).2,(h.maps b (by omega)).1,(h.maps b (by omega)).2⟩,b⟩
 ·subst s;rw [Bh w t E];obtain⟨G,D,F⟩:=o.blk;have own:=yd h.row.own D;have v:i * 3+2<(eo (PsV ps n) out).length:=by
   unfold eo;rw [jJ (k:=3) (λ_=>rfl),qg w,<-h.hn];omega
  rcases F with rfl|rfl
  ·have l:=o.self;obtain⟨y,x⟩: ∃y,(eo (PsV ps n) out)[i * 3+2]? =some y:=⟨_,List.getElem?_eq_getElem v⟩;have C:=(ic own x).1;rw [C]at l;injection l with l
   subst l;rw [l9 x];exact own
  ·exact nf own v _
 ·by_cases e:a=i
  ·subst e;rw [List.getElem?_set_self (by rw [<-h.hn];exact hi)]at f;injection f with f
   subst f;exact o.set
  ·rw [List.getElem?_set_ne (λB=>e B.symm)]at f;exact(h.set a r f).touch b.t (λj k=>by rw [h.tag a j (h.lt f) k];omega)
 ·obtain⟨r,f⟩:=h.get u;exact(b.eq j ((h.set a r f).lt j k)).trans (h.tag a j u k)
theorem CoM.start {w1 w2:World} {D:DataW Unit} {b m:Nat} {S:Nat->Prop} {s:Int} {t:TypeId} (u:w1.ownsMap prog 3 (plainElem prog 3) V.heap.size 1 D) (v:iJ D (kp (λ_=>none) s 0)) (le:Below V.heap.size V w1) (q:aG w2 b S m aj) (w: ∀a,S a->w1.heap.size<=a) (j:Below w1.heap.size w1 w2):
  ∃ow,CoM V ((w2.alloc (.cells #[.int .i64 s,aq b,.bool true] 293)).alloc (.cells #[.int .i64 0] t)) ow m V.heap.size (some ⟨w2.heap.size,0,none⟩) 1 1 (w2.heap.size+1) 0 1 1 [⟨s,aj,true⟩] [0] [s] (λ_=>b) (λ_=>S):=by
 obtain⟨w3,i⟩: ∃w3,w3=w2.alloc (.cells #[.int .i64 s,aq b,.bool true] 293):=⟨_,rfl⟩;rw [<-i];have z:w3.heap.size=w2.heap.size+1:=by rw [i];simp
 have l:Below w2.heap.size w2 w3:=by rw [i];exact(Below.refl _ _).alloc (Nat.le_refl _) _
 have p:Below w3.heap.size w3 (w3.alloc (.cells #[.int .i64 0] t)):=(Below.refl _ _).alloc (Nat.le_refl _) _;have o:=l.trans (p.mono l.size);have k:=j.trans (o.mono j.size);have G:V.heap.size<w1.heap.size:=u.lt;have E:=j.size;have x:w3.ownsRow 0 293 3 (.slice (some ⟨w2.heap.size,0,none⟩) 1 1) 1 [.int .i64 s,aq b,.bool true]:=by
  rw [i];exact⟨rfl,.inr ⟨w2.heap.size,1, #[.int .i64 s,aq b,.bool true],rfl,Nat.zero_le _,heap_alloc_new w2 _,Nat.le_refl _,by decide,rfl,rfl⟩⟩
 have y:aa (λ_=>False) w3 (w3.alloc (.cells #[.int .i64 0] t)):=aa.of_size p _;refine⟨λa=>if a<V.heap.size then 2 else if a=V.heap.size then 4 else if a=w2.heap.size then 1 else if a=w2.heap.size+1 then 3 else 5,le.trans (k.mono le.size),λa d=>if_pos d,⟨y.own x (λ_ _ e=>e),λa d=> ?_⟩,rfl,λr B h=> ?_,λr a H d=> ?_,?_,?_,⟨D,_,(aa.of_size k (λ_=>False)).ownsMap u (λe=>e),v,λK I=> ?_⟩,?_⟩
 ·simp only [Value.ownBlock,Option.some.injEq]at d;subst d;rw [if_neg (by omega),if_neg (by omega),if_pos rfl]
 ·match r,h with
  |0,h=>
   simp at h;subst h;exact q.touch (aa.of_size o (λ_=>False)) (λ_ _ e=>e)
 ·have C:=w a d;have F:=q.lt a d;rw [if_neg (by omega),if_neg (by omega),if_neg (by omega),if_neg (by omega)];omega
 ·have:=eU.one w3 (lo:=V.heap.size) (by omega) 0 t;rw [z]at this;exact this
 ·rw [if_neg (by omega),if_neg (by omega),if_neg (by omega),if_pos rfl]
 ·unfold kp;constructor
  ·intro f
   split at f
   ·rename_i e
    injection f with f
    subst e;exact⟨0,by simp [<-f],rfl⟩
   ·cases f
  ·rintro⟨a,rfl,d⟩;have:=(List.getElem?_eq_some_iff.1 d).1;simp at this;subst this;simp at d;rw [if_pos d.symm];rfl
 ·rw [if_neg (by omega),if_pos rfl]
theorem CoM.rdco (h:CoM V wr ow m mb A n c g off qn qc out todo L ps foot):jA wr (λi=>V.heap.size<=i/\i<wr.heap.size) m (.slice A n c) out:=
 ⟨PsV ps n,by rw [qm,h.hn],(Rd.of_own h.row.own).mono (λd a=>⟨h.low (by rw [h.row.tag d a];decide),(h.row.own.lt d a).2⟩),λb k j e f=>⟨ps b,foot b,by
  rw [yO (h.lt f)]at e
  injection e with e
  exact e.symm,h.set b j f,λd a=>⟨h.low (by rw [h.tag b d (h.lt f) a];omega),(h.set b j f).lt d a⟩⟩⟩
theorem CoM.at_ (h:CoM V wr ow m mb A n c g off qn qc out todo L ps foot) {i:Nat} {d:Co} (o:out[i]? =some d): ∃a,A=some ⟨a,0,none⟩/\wr.cell? ⟨a,i * 3,none⟩=some (.int .i64 d.s)/\wr.cell? ⟨a,i * 3+1,none⟩=some (aq (ps i))/\wr.cell? ⟨a,i * 3+2,none⟩=some (.bool d.self)/\wr.frozen? ⟨a,i * 3+2,none⟩=false/\ow a=1:=by
 have u:(PsV ps n).length=out.length:=by rw [qm,h.hn]
 obtain⟨B,f,v⟩:=qh u o;rw [yO (h.lt o)]at f;injection f with f
 subst f;have j:=λw t=>ez (k:=3) (f:=λk:Value×Co=>[.int .i64 k.2.s,k.1,.bool k.2.self]) (λ_=>rfl) v (j:=w) t
 obtain⟨a,l,p,-,x⟩:=h.row.at_ (j 0 (by omega));obtain⟨y,b,q,-,-⟩:=h.row.at_ (j 1 (by omega));obtain⟨z,e,r,s,-⟩:=h.row.at_ (j 2 (by omega));rw [l]at b e;injection b with b
 injection b with b
 injection e with e
 injection e with e
 subst b e;exact⟨a,l,p,q,r,s,x⟩
end
end
def pY (K:Act->World->Prop):Exit->Act->World->Prop
 | .normal,a,w=>K a w
 |_,_,_=>False
theorem B5 {P:Program} {a:Act} {w:World} {Q k:Exit->Act->World->Prop} {j:Act->World->Prop} {l rest:Code} (d: ∀e a w,k e a w->e= .normal) (h:l.wp P (Exit.then j k) a w) (o: ∀f i,j f i->rest.wp P Q f i):(l.seq rest).wp P Q a w:=by
 refine wp_seq (wp_mono h λe f i b=> ?_);cases e with
 |normal=>exact o _ _ b
 |exit id=>have:=d _ _ _ b;cases this
 |goto q=>have:=d _ _ _ b;cases this
 |ret=>have:=d _ _ _ b;cases this
 |panic p=>have:=d _ _ _ b;cases this
 |outgrown=>have:=d _ _ _ b;cases this
theorem uo {d:Act->World->Prop}: ∀e a b,pY d e a b->e= .normal:=λe a b h=>by
 cases e with
 |normal=>rfl
 |_=>exact h.elim
theorem tN {P:Program} {a:Act} {w:World} {Q:Exit->Act->World->Prop} {s t u r:Code} (l:Nat) (J:Nat->Act->World->Prop)
  (o:findLabel s l=none) (x:findLabel t l=none) (B:findLabel u l=none)
  (pre:s.wp P (Exit.then (λa w=>t.wp P (Exit.then (λa w=>u.wp P (pY (λa w=> ∃d,J d a w)) a w) (pY (λa w=> ∃d,J d a w))) a w) (pY (λa w=> ∃d,J d a w))) a w)
  (k: ∀z,z=r-> ∀d a w,J d a w->z.wp P (Exit.jump l (λi j=> ∃f,f<d/\J f i j) Q) a w):(Code.scope (s.seq (t.seq (u.seq ((Code.label l).seq r))))).wp P Q a w:=by
 replace k:=k r rfl
 have F: ∀(E:Exit->Act->World->Prop),(∀e a w,pY (λa w=> ∃d,J d a w) e a w->e= .normal):=λ_=>uo
 refine wp_scope_jumps (rest:=Code.skip.seq r) l (λa w=> ∃d,J d a w) (λa w=>pm (λd=>J d a w)) (by simp [findLabel,o,x,B]) ?_ ?_
 ·refine B5 uo pre λa w h=>B5 uo h λa w h=>wp_seq (wp_mono h λe i j b=> ?_)
  cases e with
  |normal=>
   obtain⟨D,p⟩:=b;refine wp_seq (wp_label ?_);show r.wp P _ i j;refine wp_mono (k D i j p) λe i j b=> ?_
   cases e with
   |goto y=>exact⟨b.1,b.2.imp λf h=>h.2⟩
   |normal=>exact b
   |exit id=>exact b
   |ret=>exact b
   |panic v=>exact b
   |outgrown=>exact b
  |exit id=>exact b.elim
  |goto y=>exact b.elim
  |ret=>exact b.elim
  |panic v=>exact b.elim
  |outgrown=>exact b.elim
 ·intro a w p;obtain⟨o,x⟩:=jV p;refine wp_seq (wp_skip ?_);show r.wp P _ a w;refine wp_mono (k _ a w o) λe i j b=> ?_
  cases e with
  |goto y=>
   obtain⟨e,f,C,q⟩:=b;exact⟨e,⟨f,q⟩,Nat.lt_of_le_of_lt ((jV ⟨f,q⟩).2 f q) C⟩
  |normal=>exact b
  |exit id=>exact b
  |ret=>exact b
  |panic v=>exact b
  |outgrown=>exact b
end Go.Proofs.YthlbjgabhpdbfaaGreat

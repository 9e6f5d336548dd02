/- Lookaheads: what comes with a nonterminal: memory. -/
import Derived.Test.YthlbjgabhpdbfaaGreatALook6
namespace Go.Proofs.YthlbjgabhpdbfaaGreat
set_option linter.unusedVariables false
set_option linter.unusedSimpArgs false
section
open Go.RowKit Go.Maps
structure FnMap (D:DataW Unit) (f:Int->Option Int):Prop where
 isMap:Maps.IsMap D
 has: ∀x,Maps.has D (nkey x)=(f x).isSome
 at_: ∀x v,f x=some v-> ∀z,D.atKey (nkey x) z= .lit (.int .i64 v)
theorem FnMap.empty:FnMap (.map []) (fun _=>none):=⟨Maps.isMap_empty,fun _=>by simp [Maps.has],fun _ _ h=>by cases h⟩
def putF (f:Int->Option Int) (x v:Int):Int->Option Int:=fun y=>if y=x then some v else f y
theorem FnMap.put {D:DataW Unit} {f:Int->Option Int} (h:FnMap D f) (x v:Int):FnMap (D.put (nkey x) (.lit (.int .i64 v))) (putF f x v):=by
 have hkl:WideAt.IsKeyLit (nkey x):=by unfold nkey;simp [WideAt.IsKeyLit]
 refine⟨h.isMap.put _ _,fun t=> ?_,fun t u hu z=> ?_⟩
 ·unfold putF
  by_cases e:t=x
  ·subst e;rw [Maps.has_put_same h.isMap hkl,if_pos rfl];rfl
  ·rw [Maps.has_put_other (fun c=>e (nkey_inj c)),h.has t,if_neg e]
 ·unfold putF at hu
  by_cases e:t=x
  ·subst e
   rw [if_pos rfl]at hu
   injection hu with hu
   subst hu
   rw [Maps.atKey_put_same h.isMap hkl]
  ·rw [if_neg e]at hu
   rw [Maps.atKey_put_other (fun c=>e (nkey_inj c))]
   exact h.at_ t u hu z
def PsV (ps:Nat->Nat) (n:Nat):List Value:=(List.range n).map fun i=>PtrV (ps i)
theorem psv_len (ps:Nat->Nat) (n:Nat):(PsV ps n).length=n:=by simp [PsV]
theorem psv_get {ps:Nat->Nat} {n i:Nat} (h:i<n):(PsV ps n)[i]? =some (PtrV (ps i)):=by unfold PsV;rw [List.getElem?_map,List.getElem?_range h];rfl
theorem psv_snoc (ps:Nat->Nat) (n b:Nat):PsV (upd ps n b) (n+1)=PsV ps n++[PtrV b]:=by
 unfold PsV
 rw [List.range_succ,List.map_append,List.map_singleton,upd_same]
 congr 1
 exact List.map_congr_left fun i hi=>by rw [upd_ne (by have:=List.mem_range.1 hi;omega)]
theorem co_snoc {Ps:List Value} {l:List Co} (h:Ps.length=l.length) (p:Value) (x:Co):coCells (Ps++[p]) (l++[x])=coCells Ps l++[.int .i64 x.s,p,.bool x.self]:=by
 unfold coCells
 rw [List.zip_append h,List.flatMap_append];rfl
theorem co_set: ∀{Ps:List Value} {l:List Co} {i:Nat} {d d':Co},Ps.length=l.length->l[i]? =some d->d'.s=d.s->coCells Ps (l.set i d')=(coCells Ps l).set (i * 3+2) (.bool d'.self)
 |[],[],i,d,d',h,hd,hs=>by simp at hd
 |[],a::l,i,d,d',h,hd,hs=>by simp at h
 |p::Ps,[],i,d,d',h,hd,hs=>by simp at hd
 |p::Ps,a::l,0,d,d',h,hd,hs=>by
  have:a=d:=by simpa using hd
  subst this
  simp [coCells,hs]
 |p::Ps,a::l,i+1,d,d',h,hd,hs=>by
  have ih:=co_set (Ps:=Ps) (l:=l) (i:=i) (d':=d') (by simpa using h) (by simpa using hd) hs
  have e:(i+1) * 3+2=(i * 3+2)+1+1+1:=by omega
  unfold coCells at ih⊢
  rw [e]
  simp only [List.set_cons_succ,List.zip_cons_cons,List.flatMap_cons,List.cons_append,List.nil_append,ih]
theorem own_of_heap {w W:World} {base:Nat} {e:TypeId} {size n g c:Nat} {xs:List Value} (h:w.ownsRow base e size (.slice (some ⟨g,0,none⟩) n c) n xs) (hW:W.heap[g]? =w.heap[g]?):W.ownsRow base e size (.slice (some ⟨g,0,none⟩) n c) n xs:=by
 refine⟨h.1,?_⟩
 rcases h.2 with⟨hv,-⟩|⟨g',cap,cur,hv,hb,hh,r⟩
 ·cases hv
 ·right
  have e:g'=g:=by injection hv with hv;injection hv with hv;injection hv with hv;exact hv.symm
  exact⟨g',cap,cur,hv,hb,by rw [e,hW,<-e];exact hh,r⟩
structure CoM (V wr:World) (ow:Nat->Nat) (m mb:Nat) (A:Option Addr) (n c g off qn qc:Nat) (out:List Co) (todo:List Nat) (L:List Int) (ps:Nat->Nat) (foot:Nat->Nat->Prop):Prop where
 le:Below V.heap.size V wr
 old: ∀b,b<V.heap.size->ow b=2
 row:Row wr ow 1 293 3 A n c (coCells (PsV ps n) out)
 hn:n=out.length
 set: ∀(j:Nat) d,out[j]? =some d->IsSet wr (ps j) (foot j) m d.f
 tag: ∀j k,j<n->foot j k->ow k=5+j
 q:QueI wr V.heap.size g off qn qc (todo.map fun i:Nat=>(i:Int))
 qt:ow g=3
 map: ∃(D:DataW Unit) (f:Int->Option Int),wr.ownsMap Tryz.prog 3 (plainElem Tryz.prog 3) mb L.length D/\FnMap D f/\ ∀y i,f y=some i↔ ∃k:Nat,i=k/\L[k]? =some y
 mt:ow mb=4
section
variable {V wr wr' : World} {ow ow' : Nat -> Nat} {m mb : Nat} {A : Option Addr} {n c g off qn qc : Nat} {out : List Co} {todo : List Nat} {L : List Int} {ps : Nat -> Nat} {foot : Nat -> Nat -> Prop} {J : Nat -> Prop}
theorem CoM.low (h:CoM V wr ow m mb A n c g off qn qc out todo L ps foot) {b:Nat} (hb:ow b≠2):V.heap.size<=b:=Nat.le_of_not_lt fun hlt=>hb (h.old b hlt)
theorem CoM.rest (h:CoM V wr ow m mb A n c g off qn qc out todo L ps foot) (s:StL J wr ow wr' ow') (h2: ¬J 2):Below V.heap.size V wr'/\ ∀b,b<V.heap.size->ow' b=2:=
 ⟨s.t.toBelow (fun k hk=>h.low (fun e=>h2 (by rw [<-e];exact hk))) h.le h.le.size,fun b hb=>(s.eq b (Nat.lt_of_lt_of_le hb h.le.size)).trans (h.old b hb)⟩
theorem CoM.get (h:CoM V wr ow m mb A n c g off qn qc out todo L ps foot) {j:Nat} (hj:j<n): ∃d,out[j]? =some d:=⟨_,List.getElem?_eq_getElem (by rw [<-h.hn];exact hj)⟩
theorem CoM.lt (h:CoM V wr ow m mb A n c g off qn qc out todo L ps foot) {j:Nat} {d:Co} (hd:out[j]? =some d):j<n:=by rw [h.hn];exact(List.getElem?_eq_some_iff.1 hd).1
theorem CoM.sets (h:CoM V wr ow m mb A n c g off qn qc out todo L ps foot) (s:StL J wr ow wr' ow') (hJ: ∀i,5<=i-> ¬J i):(∀(j:Nat) d,out[j]? =some d->IsSet wr' (ps j) (foot j) m d.f)/\ ∀j k,j<n->foot j k->ow' k=5+j:=
 ⟨fun j d hd=>(h.set j d hd).touch s.t (fun k hk=>by rw [h.tag j k (h.lt hd) hk];exact hJ _ (by omega)),fun j k hj hk=>by
  obtain⟨d,hd⟩:=h.get hj
  exact(s.eq k ((h.set j d hd).lt k hk)).trans (h.tag j k hj hk)⟩
theorem CoM.que (h:CoM V wr ow m mb A n c g off qn qc out todo L ps foot) (s:StL J wr ow wr' ow') (hJ: ¬J 3):QueI wr' V.heap.size g off qn qc (todo.map fun i:Nat=>(i:Int))/\ow' g=3:=
 ⟨h.q.touch s.t (by rw [h.qt];exact hJ),(s.eq g h.q.low.2).trans h.qt⟩
theorem CoM.maps (h:CoM V wr ow m mb A n c g off qn qc out todo L ps foot) (s:StL J wr ow wr' ow') (hJ: ¬J 4):(∃(D:DataW Unit) (f:Int->Option Int),wr'.ownsMap Tryz.prog 3 (plainElem Tryz.prog 3) mb L.length D/\FnMap D f/\ ∀y i,f y=some i↔ ∃k:Nat,i=k/\L[k]? =some y)/\ow' mb=4:=by
 obtain⟨D,f,m1,m2,m3⟩:=h.map
 exact⟨⟨D,f,s.t.ownsMap m1 (by rw [h.mt];exact hJ),m2,m3⟩,(s.eq mb m1.lt).trans h.mt⟩
theorem CoM.step (h:CoM V wr ow m mb A n c g off qn qc out todo L ps foot) (s:StL J wr ow wr' ow') (hJ: ∀i,1<=i-> ¬J i):CoM V wr' ow' m mb A n c g off qn qc out todo L ps foot where
 le:=(h.rest s (hJ 2 (by omega))).1
 old:=(h.rest s (hJ 2 (by omega))).2
 row:=h.row.step s (hJ 1 (by omega))
 hn:=h.hn
 set:=(h.sets s (fun i hi=>hJ i (by omega))).1
 tag:=(h.sets s (fun i hi=>hJ i (by omega))).2
 q:=(h.que s (hJ 3 (by omega))).1
 qt:=(h.que s (hJ 3 (by omega))).2
 map:=(h.maps s (hJ 4 (by omega))).1
 mt:=(h.maps s (hJ 4 (by omega))).2
theorem CoM.below (h:CoM V wr ow m mb A n c g off qn qc out todo L ps foot) (b:Below wr.heap.size wr wr'):CoM V wr' (ext wr ow 0) m mb A n c g off qn qc out todo L ps foot:=
 h.step (StL.new (fun _=>False) b ow 0) (fun _ _ e=>e)
theorem CoM.pop {i0:Nat} (h:CoM V wr ow m mb A n c g off qn qc out (i0::todo) L ps foot):CoM V wr ow m mb A n c g (if qc=1 then off else off+1) (qn - 1) (qc - 1) out todo L ps foot:=
 ⟨h.le,h.old,h.row,h.hn,h.set,h.tag,h.q.pop,h.qt,h.map,h.mt⟩
theorem CoM.push {i g' off' c':Nat} (h:CoM V wr ow m mb A n c g off qn qc out todo L ps foot) (hq:QueI wr' V.heap.size g' off' (qn+1) c' ((todo.map fun i:Nat=>(i:Int))++[(i:Int)])) (t:Touch (fun b=>b=g) wr wr') (hg:g'=g\/wr.heap.size<=g'):
  CoM V wr' (ext wr ow 3) m mb A n c g' off' (qn+1) c' out (todo++[i]) L ps foot/\StL (fun j=>j=3) wr ow wr' (ext wr ow 3):=by
 have s:StL (fun j=>j=3) wr ow wr' (ext wr ow 3):=StL.ext (t.mono fun b _ e=>by rw [e];exact h.qt) 3
 refine⟨⟨(h.rest s (by omega)).1,(h.rest s (by omega)).2,h.row.step s (by omega),h.hn,(h.sets s (fun i hi=>by omega)).1,(h.sets s (fun i hi=>by omega)).2,by rw [List.map_append];exact hq,?_,(h.maps s (by omega)).1,(h.maps s (by omega)).2⟩,s⟩
 rcases hg with rfl|hg
 ·exact(ext_old h.q.low.2).trans h.qt
 ·exact ext_new hg
theorem CoM.meet {D:DataW Unit} {f:Int->Option Int} {y:Int} (h:CoM V wr ow m mb A n c g off qn qc out todo L ps foot) (hf:FnMap D f) (hL: ∀y i,f y=some i↔ ∃k:Nat,i=k/\L[k]? =some y) (hy:y∉L)
  (hm:wr'.ownsMap Tryz.prog 3 (plainElem Tryz.prog 3) mb (L.length+1) (D.put (nkey y) (.lit (.int .i64 (L.length:Int))))) (hg:wr.grownBy wr' (some mb)):
  CoM V wr' (ext wr ow 4) m mb A n c g off qn qc out todo (L++[y]) ps foot/\StL (fun j=>j=4) wr ow wr' (ext wr ow 4):=by
 have s:StL (fun j=>j=4) wr ow wr' (ext wr ow 4):=StL.ext ((Touch.refl _ _).grown hg (fun k e _=>by injection e with e;rw [<-e];exact h.mt)) 4
 obtain⟨D0,f0,m1,-,-⟩:=h.map
 refine⟨⟨(h.rest s (by omega)).1,(h.rest s (by omega)).2,h.row.step s (by omega),h.hn,(h.sets s (fun i hi=>by omega)).1,(h.sets s (fun i hi=>by omega)).2,(h.que s (by omega)).1,(h.que s (by omega)).2,⟨_,_,by rw [List.length_append];exact hm,hf.put y _,fun z i=> ?_⟩,(ext_old m1.lt).trans h.mt⟩,s⟩
 unfold putF
 by_cases e:z=y
 ·subst e
  rw [if_pos rfl]
  constructor
  ·intro hh
   injection hh with hh
   exact⟨L.length,hh.symm,by simp⟩
  ·rintro⟨k,rfl,hk⟩
   rw [List.getElem?_append]at hk
   split at hk
   ·exact absurd (List.mem_of_getElem? hk) hy
   ·rename_i hlt
    have:=(List.getElem?_eq_some_iff.1 hk).1
    simp at this
    rw [show k=L.length by omega]
 ·rw [if_neg e,hL]
  refine exists_congr fun k=>and_congr_right fun _=> ?_
  rw [List.getElem?_append]
  split
  ·exact Iff.rfl
  ·rename_i hlt
   rw [List.getElem?_eq_none (by omega)]
   constructor
   ·intro hh;cases hh
   ·intro hh
    rw [List.getElem?_singleton]at hh
    split at hh
    ·injection hh with hh;exact absurd hh.symm e
    ·cases hh
theorem CoM.add {w1 w2 w3:World} {b c':Nat} {A':Option Addr} {S:Nat->Prop} {y:Int} (h:CoM V wr ow m mb A n c g off qn qc out todo L ps foot) (hs:IsSet w1 b S m noBits) (hS: ∀k,S k->wr.heap.size<=k) (hb:Below wr.heap.size wr w1) (al:Below w1.heap.size w1 w2)
  (own:w3.ownsRow 0 293 3 (.slice A' (n+1) c') (n+1) (coCells (PsV ps n) out++[.int .i64 y,PtrV b,.bool false])) (g3:w2.grownBy w3 (Value.slice A n c).ownBlock) (ho:(Value.slice A' (n+1) c').ownBlock=(Value.slice A n c).ownBlock\/(Value.slice A' (n+1) c').ownBlock=some w2.heap.size):
  ∃ow',CoM V w3 ow' m mb A' (n+1) c' g off qn qc (out++[⟨y,noBits,false⟩]) todo L (upd ps n b) (upd foot n S)/\StL (fun j=>j=1) wr ow w3 ow':=by
 classical
 obtain⟨ow1,hw⟩: ∃o:Nat->Nat,o=fun k=>if k<wr.heap.size then ow k else if S k then 5+n else 0:=⟨_,rfl⟩
 have s1:StL (fun _=>False) wr ow w2 ow1:=⟨Touch.of_size (hb.trans (al.mono hb.size)) _,fun k hk=>by rw [hw];exact if_pos hk⟩
 have hwS: ∀k,S k->ow1 k=5+n:=fun k hk=>by rw [hw];simp only;rw [if_neg (by have:=hS k hk;omega),if_pos hk]
 obtain⟨row,s3⟩:=(h.row.step s1 (fun e=>e)).app own g3 ho
 have s:StL (fun j=>j=1) wr ow w3 (ext w2 ow1 1):=(s1.mono (J':=fun j=>j=1) (fun _ e=>e.elim)).trans s3
 have hSl: ∀k,S k->k<w2.heap.size:=fun k hk=>Nat.lt_of_lt_of_le (hs.lt k hk) al.size
 refine⟨ext w2 ow1 1,⟨(h.rest s (by omega)).1,(h.rest s (by omega)).2,?_,by rw [List.length_append,<-h.hn];rfl,fun j d hd=> ?_,fun j k hj hk=> ?_,(h.que s (by omega)).1,(h.que s (by omega)).2,(h.maps s (by omega)).1,(h.maps s (by omega)).2⟩,s⟩
 ·rw [psv_snoc,co_snoc (by rw [psv_len,h.hn])]
  exact row
 ·by_cases e:j=n
  ·subst e
   rw [h.hn,List.getElem?_concat_length]at hd
   injection hd with hd
   subst hd
   rw [upd_same,upd_same]
   exact(hs.touch (Touch.of_size al (fun _=>False)) (fun _ _ e=>e)).touch s3.t (fun k hk e=>by rw [hwS k hk]at e;omega)
  ·have hj:j<n:=by
    have:=(List.getElem?_eq_some_iff.1 hd).1
    rw [List.length_append,List.length_singleton,<-h.hn]at this
    omega
   rw [List.getElem?_append_left (by rw [<-h.hn];exact hj)]at hd
   rw [upd_ne e,upd_ne e]
   exact(h.sets s (fun i hi=>by omega)).1 j d hd
 ·by_cases e:j=n
  ·subst e
   rw [upd_same]at hk
   exact(ext_old (hSl k hk)).trans (hwS k hk)
  ·rw [upd_ne e]at hk
   exact(h.sets s (fun i hi=>by omega)).2 j k (by omega) hk
theorem CoM.hand {i gA:Nat} {d d':Co} {e:Ending} (h:CoM V wr ow m mb A n c g off qn qc out todo L ps foot) (hd:out[i]? =some d) (hs:d'.s=d.s) (hA:A=some ⟨gA,0,none⟩) (hp:HandPost wr gA (i * 3) (ps i) (foot i) m d d' e wr'):
  CoM V wr' (ext wr ow 0) m mb A n c g off qn qc (out.set i d') todo L ps foot/\StL (fun j=>j=1\/j=5+i) wr ow wr' (ext wr ow 0):=by
 have hi:=h.lt hd
 have s:StL (fun j=>j=1\/j=5+i) wr ow wr' (ext wr ow 0):=StL.ext (hp.t.mono fun b _ hb=>hb.elim (fun hb=> .inr (h.tag i b hi hb)) (fun e=> .inl (by rw [e];exact h.row.tag gA (by rw [hA];rfl)))) 0
 have hpl:(PsV ps n).length=out.length:=by rw [psv_len,h.hn]
 refine⟨⟨(h.rest s (by omega)).1,(h.rest s (by omega)).2,⟨?_,fun k hk=>(s.eq k (h.row.own.lt k hk).2).trans (h.row.tag k hk)⟩,by rw [List.length_set];exact h.hn,fun j x hx=> ?_,fun j k hj hk=> ?_,(h.que s (by omega)).1,(h.que s (by omega)).2,(h.maps s (by omega)).1,(h.maps s (by omega)).2⟩,s⟩
 ·subst hA
  rw [co_set hpl hd hs]
  obtain⟨W,hW,hv⟩:=hp.blk
  have own:=own_of_heap h.row.own hW
  have hlt:i * 3+2<(coCells (PsV ps n) out).length:=by
   unfold coCells
   rw [flat_len (k:=3) (fun _=>rfl),zip_len hpl,<-h.hn];omega
  rcases hv with rfl|rfl
  ·have hc:=hp.self
   obtain⟨u,hu⟩: ∃u,(coCells (PsV ps n) out)[i * 3+2]? =some u:=⟨_,List.getElem?_eq_getElem hlt⟩
   have h1:=(own_cell own hu).1
   rw [h1]at hc
   injection hc with hc
   subst hc
   rw [set_get hu]
   exact own
  ·exact own_put own hlt _
 ·by_cases e:j=i
  ·subst e
   rw [List.getElem?_set_self (by rw [<-h.hn];exact hi)]at hx
   injection hx with hx
   subst hx
   exact hp.set
  ·rw [List.getElem?_set_ne (fun e'=>e e'.symm)]at hx
   exact(h.set j x hx).touch s.t (fun k hk=>by rw [h.tag j k (h.lt hx) hk];omega)
 ·obtain⟨x,hx⟩:=h.get hj
  exact(s.eq k ((h.set j x hx).lt k hk)).trans (h.tag j k hj hk)
theorem CoM.start {w1 w2:World} {D:DataW Unit} {b m:Nat} {S:Nat->Prop} {s:Int} {t:TypeId} (m1:w1.ownsMap Tryz.prog 3 (plainElem Tryz.prog 3) V.heap.size 1 D) (hD:FnMap D (putF (fun _=>none) s 0)) (le:Below V.heap.size V w1) (hs:IsSet w2 b S m noBits) (hS: ∀k,S k->w1.heap.size<=k) (b2:Below w1.heap.size w1 w2):
  ∃ow,CoM V ((w2.alloc (.cells #[.int .i64 s,PtrV b,.bool true] 293)).alloc (.cells #[.int .i64 0] t)) ow m V.heap.size (some ⟨w2.heap.size,0,none⟩) 1 1 (w2.heap.size+1) 0 1 1 [⟨s,noBits,true⟩] [0] [s] (fun _=>b) (fun _=>S):=by
 obtain⟨w3,hw3⟩: ∃w3,w3=w2.alloc (.cells #[.int .i64 s,PtrV b,.bool true] 293):=⟨_,rfl⟩
 rw [<-hw3]
 have z3:w3.heap.size=w2.heap.size+1:=by rw [hw3];simp
 have b3:Below w2.heap.size w2 w3:=by rw [hw3];exact(Below.refl _ _).alloc (Nat.le_refl _) _
 have b4:Below w3.heap.size w3 (w3.alloc (.cells #[.int .i64 0] t)):=(Below.refl _ _).alloc (Nat.le_refl _) _
 have b34:=b3.trans (b4.mono b3.size)
 have b24:=b2.trans (b34.mono b2.size)
 have hV:V.heap.size<w1.heap.size:=m1.lt
 have h12:=b2.size
 have own3:w3.ownsRow 0 293 3 (.slice (some ⟨w2.heap.size,0,none⟩) 1 1) 1 [.int .i64 s,PtrV b,.bool true]:=by
  rw [hw3]
  exact⟨rfl,.inr ⟨w2.heap.size,1, #[.int .i64 s,PtrV b,.bool true],rfl,Nat.zero_le _,heap_alloc_new w2 _,Nat.le_refl _,by decide,rfl,rfl⟩⟩
 have t4:Touch (fun _=>False) w3 (w3.alloc (.cells #[.int .i64 0] t)):=Touch.of_size b4 _
 refine⟨fun k=>if k<V.heap.size then 2 else if k=V.heap.size then 4 else if k=w2.heap.size then 1 else if k=w2.heap.size+1 then 3 else 5,le.trans (b24.mono le.size),fun k hk=>if_pos hk,⟨t4.own own3 (fun _ _ e=>e),fun k hk=> ?_⟩,rfl,fun j d hd=> ?_,fun j k hj hk=> ?_,?_,?_,⟨D,_,(Touch.of_size b24 (fun _=>False)).ownsMap m1 (fun e=>e),hD,fun y i=> ?_⟩,?_⟩
 ·simp only [Value.ownBlock,Option.some.injEq]at hk
  subst hk
  rw [if_neg (by omega),if_neg (by omega),if_pos rfl]
 ·match j,hd with
  |0,hd=>
   simp at hd
   subst hd
   exact hs.touch (Touch.of_size b34 (fun _=>False)) (fun _ _ e=>e)
 ·have h1:=hS k hk
  have h2:=hs.lt k hk
  rw [if_neg (by omega),if_neg (by omega),if_neg (by omega),if_neg (by omega)]
  omega
 ·have:=QueI.one w3 (lo:=V.heap.size) (by omega) 0 t
  rw [z3]at this
  exact this
 ·rw [if_neg (by omega),if_neg (by omega),if_neg (by omega),if_pos rfl]
 ·unfold putF
  constructor
  ·intro hh
   split at hh
   ·rename_i e
    injection hh with hh
    subst e
    exact⟨0,by simp [<-hh],rfl⟩
   ·cases hh
  ·rintro⟨k,rfl,hk⟩
   have:=(List.getElem?_eq_some_iff.1 hk).1
   simp at this
   subst this
   simp at hk
   rw [if_pos hk.symm];rfl
 ·rw [if_neg (by omega),if_pos rfl]
theorem CoM.rdco (h:CoM V wr ow m mb A n c g off qn qc out todo L ps foot):RdCo wr (fun b=>V.heap.size<=b/\b<wr.heap.size) m (.slice A n c) out:=
 ⟨PsV ps n,by rw [psv_len,h.hn],(Rd.of_own h.row.own).mono (fun k hk=>⟨h.low (by rw [h.row.tag k hk];decide),(h.row.own.lt k hk).2⟩),fun j p x hp hx=>⟨ps j,foot j,by
  rw [psv_get (h.lt hx)]at hp
  injection hp with hp
  exact hp.symm,h.set j x hx,fun k hk=>⟨h.low (by rw [h.tag j k (h.lt hx) hk];omega),(h.set j x hx).lt k hk⟩⟩⟩
theorem CoM.at_ (h:CoM V wr ow m mb A n c g off qn qc out todo L ps foot) {i:Nat} {d:Co} (hd:out[i]? =some d): ∃gA,A=some ⟨gA,0,none⟩/\wr.cell? ⟨gA,i * 3,none⟩=some (.int .i64 d.s)/\wr.cell? ⟨gA,i * 3+1,none⟩=some (PtrV (ps i))/\wr.cell? ⟨gA,i * 3+2,none⟩=some (.bool d.self)/\wr.frozen? ⟨gA,i * 3+2,none⟩=false/\ow gA=1:=by
 have hpl:(PsV ps n).length=out.length:=by rw [psv_len,h.hn]
 obtain⟨p,hp,hz⟩:=zip_get hpl hd
 rw [psv_get (h.lt hd)]at hp
 injection hp with hp
 subst hp
 have fg:=fun j hj=>flat_get (k:=3) (f:=fun x:Value×Co=>[.int .i64 x.2.s,x.1,.bool x.2.self]) (fun _=>rfl) hz (j:=j) hj
 obtain⟨gA,eA,c0,-,tg⟩:=h.row.at_ (fg 0 (by omega))
 obtain⟨gA1,eA1,c1,-,-⟩:=h.row.at_ (fg 1 (by omega))
 obtain⟨gA2,eA2,c2,f2,-⟩:=h.row.at_ (fg 2 (by omega))
 rw [eA]at eA1 eA2
 injection eA1 with eA1
 injection eA1 with eA1
 injection eA2 with eA2
 injection eA2 with eA2
 subst eA1 eA2
 exact⟨gA,eA,c0,c1,c2,f2,tg⟩
end
end
def OnlyN (K:Act->World->Prop):Exit->Act->World->Prop
 | .normal,a,w=>K a w
 |_,_,_=>False
theorem wp_pre {P:Program} {a:Act} {w:World} {Q Q':Exit->Act->World->Prop} {K:Act->World->Prop} {r1 rest:Code} (hQ: ∀e a w,Q' e a w->e= .normal) (h:r1.wp P (Exit.then K Q') a w) (hk: ∀a' w',K a' w'->rest.wp P Q a' w'):(r1.seq rest).wp P Q a w:=by
 refine wp_seq (wp_mono h fun e a' w' hq=> ?_)
 cases e with
 |normal=>exact hk _ _ hq
 |exit id=>have:=hQ _ _ _ hq;cases this
 |goto l=>have:=hQ _ _ _ hq;cases this
 |ret=>have:=hQ _ _ _ hq;cases this
 |panic ch=>have:=hQ _ _ _ hq;cases this
 |outgrown=>have:=hQ _ _ _ hq;cases this
theorem onlyN_n {K:Act->World->Prop}: ∀e a w,OnlyN K e a w->e= .normal:=fun e a w h=>by
 cases e with
 |normal=>rfl
 |_=>exact h.elim
theorem wp_scope_label3 {P:Program} {a:Act} {w:World} {Q:Exit->Act->World->Prop} {r1 r2 r3 r:Code} (l:Nat) (J:Nat->Act->World->Prop)
  (h1:findLabel r1 l=none) (h2:findLabel r2 l=none) (h3:findLabel r3 l=none)
  (pre:r1.wp P (Exit.then (fun a w=>r2.wp P (Exit.then (fun a w=>r3.wp P (OnlyN (fun a w=> ∃κ,J κ a w)) a w) (OnlyN (fun a w=> ∃κ,J κ a w))) a w) (OnlyN (fun a w=> ∃κ,J κ a w))) a w)
  (pass: ∀r',r'=r-> ∀κ a w,J κ a w->r'.wp P (Exit.jump l (fun a' w'=> ∃κ',κ'<κ/\J κ' a' w') Q) a w):(Code.scope (r1.seq (r2.seq (r3.seq ((Code.label l).seq r))))).wp P Q a w:=by
 replace pass:=pass r rfl
 have key: ∀(Q':Exit->Act->World->Prop),(∀e a w,OnlyN (fun a w=> ∃κ,J κ a w) e a w->e= .normal):=fun _=>onlyN_n
 refine wp_scope_jumps (rest:=Code.skip.seq r) l (fun a w=> ∃κ,J κ a w) (fun a w=>leastN (fun κ=>J κ a w)) (by simp [findLabel,h1,h2,h3]) ?_ ?_
 ·refine wp_pre onlyN_n pre fun a w h=>wp_pre onlyN_n h fun a w h=>wp_seq (wp_mono h fun e a' w' hq=> ?_)
  cases e with
  |normal=>
   obtain⟨κ0,hJ⟩:=hq
   refine wp_seq (wp_label ?_)
   show r.wp P _ a' w'
   refine wp_mono (pass κ0 a' w' hJ) fun e a' w' hq=> ?_
   cases e with
   |goto l'=>exact⟨hq.1,hq.2.imp fun κ' h=>h.2⟩
   |normal=>exact hq
   |exit id=>exact hq
   |ret=>exact hq
   |panic ch=>exact hq
   |outgrown=>exact hq
  |exit id=>exact hq.elim
  |goto l'=>exact hq.elim
  |ret=>exact hq.elim
  |panic ch=>exact hq.elim
  |outgrown=>exact hq.elim
 ·intro a w hJ
  obtain⟨h1,h2⟩:=leastN_spec hJ
  refine wp_seq (wp_skip ?_)
  show r.wp P _ a w
  refine wp_mono (pass _ a w h1) fun e a' w' hq=> ?_
  cases e with
  |goto l'=>
   obtain⟨e,κ',hlt,hj⟩:=hq
   exact⟨e,⟨κ',hj⟩,Nat.lt_of_le_of_lt ((leastN_spec ⟨κ',hj⟩).2 κ' hj) hlt⟩
  |normal=>exact hq
  |exit id=>exact hq
  |ret=>exact hq
  |panic ch=>exact hq
  |outgrown=>exact hq
end Go.Proofs.YthlbjgabhpdbfaaGreat

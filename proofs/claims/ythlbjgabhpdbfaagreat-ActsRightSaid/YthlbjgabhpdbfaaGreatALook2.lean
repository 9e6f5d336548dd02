/- Lookaheads: the maker, in memory. -/
import Derived.Test.YthlbjgabhpdbfaaGreatAAuto11
import Derived.Test.YthlbjgabhpdbfaaGreatAFirstPlain
import Derived.Test.YthlbjgabhpdbfaaGreatAItemLay
namespace Go.Proofs.YthlbjgabhpdbfaaGreat
set_option linter.unusedVariables false
set_option linter.unusedSimpArgs false
section
open Go.RowKit
attribute [local irreducible] wpStill wpOne wpPh
def RgtV (V:World) (ow:Nat->Nat) (A:Option Addr) (c:Nat) (rs:List (List Int)):Prop:= ∃Z:List Value,Z.length=rs.length/\Row V ow 3 49 1 A rs.length c Z/\ ∀(i:Nat) z r,Z[i]? =some z->rs[i]? =some r->RdI V (TF V ow (fun t=>t=1\/t=2)) z r
def TlV (V:World) (ow:Nat->Nat) (A:Option Addr) (c m:Nat) (tl:List (List Tl)):Prop:= ∃Z:List Value,Z.length=tl.length/\Row V ow 4 273 1 A tl.length c Z/\ ∀(i:Nat) z l,Z[i]? =some z->tl[i]? =some l->RdTl V (TF V ow (fun t=>t=2)) m z l
def RuV (V:World) (ow:Nat->Nat) (v:Value) (n:Nat) (ru:Nat->List Int):Prop:=(v= .slice none 0 0/\n=0)\/ ∃P vs,v= .slice (some ⟨P,0,none⟩) n n/\Rows V ow 5 3 1 P n vs (fun k=>(ru k).map (Value.int .i64))
def CmV (V:World) (ow:Nat->Nat) (v:Value) (m n:Nat) (cm:Nat->List Co):Prop:=(v= .slice none 0 0/\n=0)\/ ∃P,v= .slice (some ⟨P,0,none⟩) n n/\(P<V.heap.size/\ow P=6)/\(∀k,k<n->V.frozen? ⟨P,k,none⟩=false)/\ ∀k,k<n-> ∃z,V.cell? ⟨P,k,none⟩=some z/\RdCo V (TF V ow (fun t=>t=2)) m z (cm k)
structure FamT (V:World) (ow:Nat->Nat) (A:Option Addr) (c n m:Nat) (ps:Nat->Nat) (foot:Nat->Nat->Prop) (F:Nat->Nat->Bool):Prop where
 row:Row V ow 8 257 1 A n c ((List.range n).map fun i=>PtrV (ps i))
 set: ∀i,i<n->IsSet V (ps i) (foot i) m (F i)
 tag: ∀i k,i<n->foot i k->ow k=8/\(Value.slice A n c).ownBlock≠some k
 apart: ∀i j k,i<n->j<n->foot i k->foot j k->i=j
def EdV (V:World) (ow:Nat->Nat) (A:Option Addr) (c m:Nat) (ed:List Ed):Prop:= ∃ps:List Value,ps.length=ed.length/\Row V ow 9 290 4 A ed.length c (edCells ps ed)/\ ∀(j:Nat) p x,ps[j]? =some p->ed[j]? =some x->SetP V (TF V ow (fun t=>t=2)) m p x.f
def fiCells (l:List (Int×Nat)):List Value:=l.flatMap fun x=>[.int .i64 x.1,.int .i64 (x.2:Int)]
section
variable {J : Nat -> Prop} {V V' : World} {ow ow' : Nat -> Nat} {A : Option Addr} {c m n : Nat}
theorem RgtV.step {rs:List (List Int)} (h:RgtV V ow A c rs) (s:StL J V ow V' ow') (h1: ¬J 1) (h2: ¬J 2) (h3: ¬J 3):RgtV V' ow' A c rs:=by
 obtain⟨Z,a,b,d⟩:=h
 exact⟨Z,a,b.step s h3,fun i z r hz hr=>(d i z r hz hr).step s (fun t ht=>by rcases ht with rfl|rfl<;>assumption)⟩
theorem TlV.step {tl:List (List Tl)} (h:TlV V ow A c m tl) (s:StL J V ow V' ow') (h2: ¬J 2) (h3: ¬J 4):TlV V' ow' A c m tl:=by
 obtain⟨Z,a,b,d⟩:=h
 exact⟨Z,a,b.step s h3,fun i z r hz hr=>(d i z r hz hr).step s (fun t ht=>by rw [ht];exact h2)⟩
theorem RuV.step {v:Value} {ru:Nat->List Int} (h:RuV V ow v n ru) (s:StL J V ow V' ow') (h5: ¬J 5):RuV V' ow' v n ru:=
 h.imp id fun⟨P,vs,a,b⟩=>⟨P,vs,a,b.step s h5⟩
theorem CmV.step {v:Value} {cm:Nat->List Co} (h:CmV V ow v m n cm) (s:StL J V ow V' ow') (h2: ¬J 2) (h6: ¬J 6):CmV V' ow' v m n cm:=
 h.imp id fun⟨P,a,b,d,e⟩=>⟨P,a,⟨Nat.lt_of_lt_of_le b.1 s.size,(s.eq P b.1).trans b.2⟩,fun k hk=>(World.frozen?_of_block (a:=⟨P,k,none⟩) (s.t.block P b.1 (by rw [b.2];exact h6))).trans (d k hk),fun k hk=>by
  obtain⟨z,e1,e2⟩:=e k hk
  exact⟨z,s.t.cell e1 (by rw [b.2];exact h6),e2.step s (fun t ht=>by rw [ht];exact h2)⟩⟩
theorem FamT.step {ps:Nat->Nat} {foot:Nat->Nat->Prop} {F:Nat->Nat->Bool} (h:FamT V ow A c n m ps foot F) (s:StL J V ow V' ow') (h8: ¬J 8):FamT V' ow' A c n m ps foot F:=
 ⟨h.row.step s h8,fun i hi=>(h.set i hi).touch s.t (fun k hk=>by rw [(h.tag i k hi hk).1];exact h8),fun i k hi hk=>⟨(s.eq k ((h.set i hi).lt k hk)).trans (h.tag i k hi hk).1,(h.tag i k hi hk).2⟩,h.apart⟩
theorem EdV.step {ed:List Ed} (h:EdV V ow A c m ed) (s:StL J V ow V' ow') (h2: ¬J 2) (h9: ¬J 9):EdV V' ow' A c m ed:=by
 obtain⟨ps,a,b,d⟩:=h
 exact⟨ps,a,b.step s h9,fun i z r hz hr=>(d i z r hz hr).step s (fun t ht=>by rw [ht];exact h2)⟩
end
structure LQ:Type where
 M:Nat
 ow:Nat->Nat
 Fg:Nat->Prop
 A1:Option Addr
 c1:Nat
 A2:Option Addr
 c2:Nat
 A3:Option Addr
 c3:Nat
 Al:Option Addr
 cl:Nat
 Ar:Option Addr
 cr:Nat
 At:Option Addr
 ct:Nat
 vu:Value
 vc:Value
 Ab:Option Addr
 cb:Nat
 Aa:Option Addr
 ca:Nat
 ps:Nat->Nat
 foot:Nat->Nat->Prop
 Ae:Option Addr
 ce:Nat
 Pf:Nat
structure LD:Type where
 G:GramD
 st:Int
 D:List (List It×List It)
 rs:List (List Int)
 tl:List (List Tl)
 nu:Nat
 ru:Nat->List Int
 nc:Nat
 cm:Nat->List Co
 ba:List Int
structure Dy:Type where
 na:Nat
 F:Nat->Nat->Bool
 ed:List Ed
 fi:Nat->List (Int×Nat)
def LD.T (d:LD):Nat:=d.G.terms.length
def boxCells (q:LQ) (d:LD) (y:Dy):Array Value:= #[.slice q.A1 d.G.terms.length q.c1,.slice q.A2 d.G.nons.length q.c2,.slice q.A3 d.G.rules.length q.c3,.int .i64 d.st,.slice q.Al d.D.length q.cl,.slice q.Ar d.rs.length q.cr,.slice q.At d.tl.length q.ct,q.vu,q.vc,.slice q.Ab d.ba.length q.cb,.slice q.Aa y.na q.ca,.slice q.Ae y.ed.length q.ce,.slice (some ⟨q.Pf,0,none⟩) d.D.length d.D.length]
structure MP (V:World) (q:LQ) (d:LD) (y:Dy):Prop where
 g:IsGram V q.Fg (.slice q.A1 d.G.terms.length q.c1) (.slice q.A2 d.G.nons.length q.c2) (.slice q.A3 d.G.rules.length q.c3) d.G
 gF: ∀b,q.Fg b->TF V q.ow (fun t=>t=1) b
 l:RdSt V (TF V q.ow (fun t=>t=1)) (.slice q.Al d.D.length q.cl) d.D
 r:RgtV V q.ow q.Ar q.cr d.rs
 t:TlV V q.ow q.At q.ct (d.T+1) d.tl
 u:RuV V q.ow q.vu d.nu d.ru
 c:CmV V q.ow q.vc (d.T+1) d.nc d.cm
 b:Row V q.ow 7 3 1 q.Ab d.ba.length q.cb (d.ba.map (Value.int .i64))
 a:FamT V q.ow q.Aa q.ca y.na (d.T+1) q.ps q.foot y.F
 e:EdV V q.ow q.Ae q.ce (d.T+1) y.ed
 f: ∃vs,Rows V q.ow 10 299 2 q.Pf d.D.length vs (fun k=>fiCells (y.fi k))
structure MK (V:World) (q:LQ) (d:LD) (y:Dy):Prop extends MP V q d y where
 box:Blk V q.M 256 (boxCells q d y)
 tm:q.ow q.M=0
section
variable {J : Nat -> Prop} {V V' : World} {q : LQ} {d : LD} {y : Dy} {ow' : Nat -> Nat}
theorem MP.gstep (h:MP V q d y) (s:StL J V q.ow V' ow') (h1: ¬J 1):IsGram V' q.Fg (.slice q.A1 d.G.terms.length q.c1) (.slice q.A2 d.G.nons.length q.c2) (.slice q.A3 d.G.rules.length q.c3) d.G/\(∀b,q.Fg b->TF V' ow' (fun t=>t=1) b)/\RdSt V' (TF V' ow' (fun t=>t=1)) (.slice q.Al d.D.length q.cl) d.D:=
 ⟨h.g.touch s.t (fun b hb=>by rw [(h.gF b hb).2];exact h1),fun b hb=>(h.gF b hb).step s,h.l.step s (fun t ht=>by rw [ht];exact h1)⟩
theorem MP.fstep (h:MP V q d y) (s:StL J V q.ow V' ow') (h1: ¬J 10): ∃vs,Rows V' ow' 10 299 2 q.Pf d.D.length vs (fun k=>fiCells (y.fi k)):=by
 obtain⟨vs,hv⟩:=h.f
 exact⟨vs,hv.step s h1⟩
theorem MP.step (h:MP V q d y) (s:StL J V q.ow V' ow') (hJ: ∀i,1<=i->i<=10-> ¬J i):MP V' {q with ow:=ow'} d y where
 g:=(h.gstep s (hJ 1 (by omega) (by omega))).1
 gF:=(h.gstep s (hJ 1 (by omega) (by omega))).2.1
 l:=(h.gstep s (hJ 1 (by omega) (by omega))).2.2
 r:=h.r.step s (hJ 1 (by omega) (by omega)) (hJ 2 (by omega) (by omega)) (hJ 3 (by omega) (by omega))
 t:=h.t.step s (hJ 2 (by omega) (by omega)) (hJ 4 (by omega) (by omega))
 u:=h.u.step s (hJ 5 (by omega) (by omega))
 c:=h.c.step s (hJ 2 (by omega) (by omega)) (hJ 6 (by omega) (by omega))
 b:=h.b.step s (hJ 7 (by omega) (by omega))
 a:=h.a.step s (hJ 8 (by omega) (by omega))
 e:=h.e.step s (hJ 2 (by omega) (by omega)) (hJ 9 (by omega) (by omega))
 f:=h.fstep s (hJ 10 (by omega) (by omega))
theorem MK.step (h:MK V q d y) (s:StL J V q.ow V' ow') (hJ: ∀i,i<=10-> ¬J i):MK V' {q with ow:=ow'} d y where
 toMP:=h.toMP.step s (fun i _ hi=>hJ i hi)
 box:=h.box.touch s.t (by rw [h.tm];exact hJ 0 (by omega))
 tm:=(s.eq q.M h.box.lt).trans h.tm
theorem MK.below (h:MK V q d y) (b:Below V.heap.size V V') (i:Nat):MK V' {q with ow:=ext V q.ow i} d y:=h.step (StL.new (fun _=>False) b q.ow i) (fun _ _ e=>e)
theorem MP.stM (h:MP V q d y) (ht:q.ow q.M=0) (i:Nat) (v:Value):MP (V.setCell ⟨q.M,i,none⟩ v) q d y:=by
 have s:StL (fun j=>j=0) V q.ow (V.setCell ⟨q.M,i,none⟩ v) q.ow:=⟨(Touch.refl _ V).setCell (p:=⟨q.M,i,none⟩) (fun _=>ht) v,fun _ _=>rfl⟩
 exact h.step s (fun i h1 _ e=>by omega)
theorem MK.cells (h:MK V q d y):V.cell? ⟨q.M,0,none⟩=some (.slice q.A1 d.G.terms.length q.c1)/\V.cell? ⟨q.M,1,none⟩=some (.slice q.A2 d.G.nons.length q.c2)/\V.cell? ⟨q.M,2,none⟩=some (.slice q.A3 d.G.rules.length q.c3)/\V.cell? ⟨q.M,3,none⟩=some (.int .i64 d.st)/\V.cell? ⟨q.M,4,none⟩=some (.slice q.Al d.D.length q.cl)/\V.cell? ⟨q.M,5,none⟩=some (.slice q.Ar d.rs.length q.cr)/\V.cell? ⟨q.M,6,none⟩=some (.slice q.At d.tl.length q.ct)/\V.cell? ⟨q.M,7,none⟩=some q.vu/\V.cell? ⟨q.M,8,none⟩=some q.vc/\V.cell? ⟨q.M,9,none⟩=some (.slice q.Ab d.ba.length q.cb)/\V.cell? ⟨q.M,10,none⟩=some (.slice q.Aa y.na q.ca)/\V.cell? ⟨q.M,11,none⟩=some (.slice q.Ae y.ed.length q.ce)/\V.cell? ⟨q.M,12,none⟩=some (.slice (some ⟨q.Pf,0,none⟩) d.D.length d.D.length):=
 ⟨(h.box.cell 0).trans rfl,(h.box.cell 1).trans rfl,(h.box.cell 2).trans rfl,(h.box.cell 3).trans rfl,(h.box.cell 4).trans rfl,(h.box.cell 5).trans rfl,(h.box.cell 6).trans rfl,(h.box.cell 7).trans rfl,(h.box.cell 8).trans rfl,(h.box.cell 9).trans rfl,(h.box.cell 10).trans rfl,(h.box.cell 11).trans rfl,(h.box.cell 12).trans rfl⟩
theorem FamT.push {W W1 W2:World} {ow:Nat->Nat} {A A':Option Addr} {c c' n m b:Nat} {ps:Nat->Nat} {foot:Nat->Nat->Prop} {F:Nat->Nat->Bool} {S:Nat->Prop} (h:FamT W ow A c n m ps foot F) (hs:IsSet W1 b S m noBits) (hS: ∀k,S k->W.heap.size<=k) (hb:Below W.heap.size W W1)
  (own:W2.ownsRow 0 257 1 (.slice A' (n+1) c') (n+1) ((List.range n).map (fun i=>PtrV (ps i))++[PtrV b])) (g:W1.grownBy W2 (Value.slice A n c).ownBlock) (ho:(Value.slice A' (n+1) c').ownBlock=(Value.slice A n c).ownBlock\/(Value.slice A' (n+1) c').ownBlock=some W1.heap.size):
  FamT W2 (ext W ow 8) A' c' (n+1) m (upd ps n b) (upd foot n S) (upd F n noBits)/\StL (fun j=>j=8) W ow W2 (ext W ow 8):=by
 have hl: ∀k,(Value.slice A n c).ownBlock=some k->k<W.heap.size:=fun k hk=>(h.row.own.lt k hk).2
 have t1:Touch (fun k=>(Value.slice A n c).ownBlock=some k) W1 W2:=(Touch.refl _ _).grown g (fun k e _=>e)
 have t:Touch (fun k=>(Value.slice A n c).ownBlock=some k) W W2:=(Touch.of_size hb _).trans t1 (fun _ _ e=>e)
 have new: ∀k,(Value.slice A' (n+1) c').ownBlock=some k->(Value.slice A n c).ownBlock=some k\/k=W1.heap.size:=fun k hk=>by
  rcases ho with ho|ho
  ·exact .inl (ho▸hk)
  ·rw [ho]at hk;injection hk with hk;exact .inr hk.symm
 have hsz:=hb.size
 refine⟨⟨⟨?_,fun k hk=> ?_⟩,fun i hi=> ?_,fun i k hi hk=> ?_,fun i j k hi hj h1 h2=> ?_⟩,StL.ext (t.mono fun k _ hk=>h.row.tag k hk) 8⟩
 ·rw [List.range_succ,List.map_append,List.map_singleton,upd_same]
  have:(List.range n).map (fun i=>PtrV (upd ps n b i))=(List.range n).map (fun i=>PtrV (ps i)):=List.map_congr_left fun i hi=>by rw [upd_ne (by have:=List.mem_range.1 hi;omega)]
  rw [this]
  exact own
 ·rcases new k hk with e|e
  ·rw [ext_old (hl k e)];exact h.row.tag k e
  ·exact ext_new (by omega)
 ·by_cases e:i=n
  ·subst e
   rw [upd_same,upd_same,upd_same]
   exact hs.touch t1 (fun k hk e=>by have:=hS k hk;have:=hl k e;omega)
  ·rw [upd_ne e,upd_ne e,upd_ne e]
   exact(h.set i (by omega)).touch t (fun k hk e'=>(h.tag i k (by omega) hk).2 e')
 ·by_cases e:i=n
  ·subst e
   rw [upd_same]at hk
   refine⟨ext_new (hS k hk),fun e=> ?_⟩
   have h1:=hS k hk
   have h2:=hs.lt k hk
   rcases new k e with e|e
   ·have:=hl k e;omega
   ·omega
  ·rw [upd_ne e]at hk
   have h1:=(h.set i (by omega)).lt k hk
   refine⟨(ext_old h1).trans (h.tag i k (by omega) hk).1,fun e'=> ?_⟩
   rcases new k e' with e'|e'
   ·exact(h.tag i k (by omega) hk).2 e'
   ·omega
 ·by_cases ei:i=n
  ·by_cases ej:j=n
   ·omega
   ·exfalso
    rw [ei,upd_same]at h1
    rw [upd_ne ej]at h2
    have:=hS k h1
    have:=(h.set j (by omega)).lt k h2
    omega
  ·rw [upd_ne ei]at h1
   by_cases ej:j=n
   ·exfalso
    rw [ej,upd_same]at h2
    have:=hS k h2
    have:=(h.set i (by omega)).lt k h1
    omega
   ·rw [upd_ne ej]at h2
    exact h.apart i j k (by omega) (by omega) h1 h2
theorem FamT.put {W W':World} {ow:Nat->Nat} {A:Option Addr} {c n m i:Nat} {ps:Nat->Nat} {foot:Nat->Nat->Prop} {F:Nat->Nat->Bool} {f:Nat->Bool} (h:FamT W ow A c n m ps foot F) (hi:i<n) (hs:IsSet W' (ps i) (foot i) m f) (t:Touch (foot i) W W'):
  FamT W' (ext W ow 8) A c n m ps foot (setF F i f)/\StL (fun j=>j=8) W ow W' (ext W ow 8):=by
 refine⟨⟨⟨t.own h.row.own (fun k hk e=>(h.tag i k hi e).2 hk),fun k hk=>(ext_old (h.row.own.lt k hk).2).trans (h.row.tag k hk)⟩,fun j hj=> ?_,fun j k hj hk=>⟨(ext_old ((h.set j hj).lt k hk)).trans (h.tag j k hj hk).1,(h.tag j k hj hk).2⟩,h.apart⟩,StL.ext (t.mono fun k _ hk=>(h.tag i k hi hk).1) 8⟩
 by_cases e:j=i
 ·subst e;rw [setF_same];exact hs
 ·rw [setF_ne e];exact(h.set j hj).touch t (fun k hk hk'=>e (h.apart j i k hj hi hk hk'))
theorem FamT.at_ {W:World} {ow:Nat->Nat} {A:Option Addr} {c n m i:Nat} {ps:Nat->Nat} {foot:Nat->Nat->Prop} {F:Nat->Nat->Bool} (h:FamT W ow A c n m ps foot F) (hi:i<n): ∃g,A=some ⟨g,0,none⟩/\W.cell? ⟨g,i,none⟩=some (PtrV (ps i)):=by
 obtain⟨A',n',c',hv,h1,h2,h3,h4⟩:=Rd.of_own h.row.own
 injection hv with e1 e2 e3
 subst e1 e2 e3
 obtain⟨b,off,hA,hF,hc⟩:=h4 (by omega)
 subst hA
 have:off=0:=by
  rcases h.row.own.2 with⟨e,-⟩|⟨g,cap,cur,e,-⟩
  ·cases e
  ·injection e with e;injection e with e;injection e
 subst this
 exact⟨b,rfl,by have:=hc i (PtrV (ps i)) (by rw [List.getElem?_map,List.getElem?_range hi];rfl);rwa [Nat.zero_add]at this⟩
theorem MK.put {q':LQ} {d':LD} {y':Dy} {i:Nat} {v:Value} (hbox:Blk V q.M 256 (boxCells q d y)) (hp:MP V q' d' y') (hM:q'.M=q.M) (ht:q'.ow q'.M=0) (hc:(boxCells q d y).setIfInBounds i v=boxCells q' d' y'):MK (V.setCell ⟨q.M,i,none⟩ v) q' d' y' where
 toMP:=by rw [<-hM];exact hp.stM ht i v
 box:=by rw [hM];have:=hbox.put i v;rwa [hc]at this
 tm:=ht
theorem MK.putA {A:Option Addr} {c n':Nat} {ps:Nat->Nat} {foot:Nat->Nat->Prop} {F:Nat->Nat->Bool} (h:MK V q d y) (hf:FamT V' ow' A c n' (d.T+1) ps foot F) (s:StL (fun j=>j=8) V q.ow V' ow'):
  ∃q',MK (V'.setCell ⟨q.M,10,none⟩ (.slice A n' c)) q' d {y with na:=n',F:=F}/\q'.M=q.M/\StL (fun j=>j=0\/j=8) V q.ow (V'.setCell ⟨q.M,10,none⟩ (.slice A n' c)) q'.ow:=by
 have hM:ow' q.M=0:=(s.eq q.M h.box.lt).trans h.tm
 have hg:=h.gstep s (by omega)
 refine⟨{q with ow:=ow',Aa:=A,ca:=c,ps:=ps,foot:=foot},MK.put (q:=q) (d:=d) (y:=y) (q':={q with ow:=ow',Aa:=A,ca:=c,ps:=ps,foot:=foot}) (h.box.touch s.t (by rw [h.tm];omega)) ?_ rfl hM rfl,rfl,?_⟩
 ·exact⟨hg.1,hg.2.1,hg.2.2,h.r.step s (by omega) (by omega) (by omega),h.t.step s (by omega) (by omega),h.u.step s (by omega),h.c.step s (by omega) (by omega),h.b.step s (by omega),hf,h.e.step s (by omega) (by omega),h.fstep s (by omega)⟩
 ·exact⟨(s.t.mono (S':=fun b=>q.ow b=0\/q.ow b=8) (fun b _ e=> .inr e)).setCell (p:=⟨q.M,10,none⟩) (fun _=> .inl h.tm) _,s.eq⟩
theorem MK.putF {F:Nat->Nat->Bool} (h:MK V q d y) (hf:FamT V' ow' q.Aa q.ca y.na (d.T+1) q.ps q.foot F) (s:StL (fun j=>j=8) V q.ow V' ow'):MK V' {q with ow:=ow'} d {y with F:=F}:=by
 have hM:ow' q.M=0:=(s.eq q.M h.box.lt).trans h.tm
 have hg:=h.gstep s (by omega)
 exact⟨⟨hg.1,hg.2.1,hg.2.2,h.r.step s (by omega) (by omega) (by omega),h.t.step s (by omega) (by omega),h.u.step s (by omega),h.c.step s (by omega) (by omega),h.b.step s (by omega),hf,h.e.step s (by omega) (by omega),h.fstep s (by omega)⟩,h.box.touch s.t (by rw [h.tm];omega),hM⟩
theorem MK.putE {A:Option Addr} {c:Nat} {ed:List Ed} (h:MK V q d y) (he:EdV V' ow' A c (d.T+1) ed) (s:StL (fun j=>j=9) V q.ow V' ow'):
  ∃q',MK (V'.setCell ⟨q.M,11,none⟩ (.slice A ed.length c)) q' d {y with ed:=ed}/\q'.M=q.M/\StL (fun j=>j=0\/j=9) V q.ow (V'.setCell ⟨q.M,11,none⟩ (.slice A ed.length c)) q'.ow:=by
 have hM:ow' q.M=0:=(s.eq q.M h.box.lt).trans h.tm
 have hg:=h.gstep s (by omega)
 refine⟨{q with ow:=ow',Ae:=A,ce:=c},MK.put (q:=q) (d:=d) (y:=y) (q':={q with ow:=ow',Ae:=A,ce:=c}) (h.box.touch s.t (by rw [h.tm];omega)) ?_ rfl hM rfl,rfl,?_⟩
 ·exact⟨hg.1,hg.2.1,hg.2.2,h.r.step s (by omega) (by omega) (by omega),h.t.step s (by omega) (by omega),h.u.step s (by omega),h.c.step s (by omega) (by omega),h.b.step s (by omega),h.a.step s (by omega),he,h.fstep s (by omega)⟩
 ·exact⟨(s.t.mono (S':=fun b=>q.ow b=0\/q.ow b=9) (fun b _ e=> .inr e)).setCell (p:=⟨q.M,11,none⟩) (fun _=> .inl h.tm) _,s.eq⟩
theorem MK.putB {A:Option Addr} {c n':Nat} {ba:List Int} (h:MK V q d y) (hn:n'=ba.length) (hb:Row V' ow' 7 3 1 A n' c (ba.map (Value.int .i64))) (s:StL (fun j=>j=7) V q.ow V' ow'):
  ∃q',MK (V'.setCell ⟨q.M,9,none⟩ (.slice A n' c)) q' {d with ba:=ba} y/\q'.M=q.M/\StL (fun j=>j=0\/j=7) V q.ow (V'.setCell ⟨q.M,9,none⟩ (.slice A n' c)) q'.ow:=by
 subst hn
 have hM:ow' q.M=0:=(s.eq q.M h.box.lt).trans h.tm
 have hg:=h.gstep s (by omega)
 refine⟨{q with ow:=ow',Ab:=A,cb:=c},MK.put (q:=q) (d:=d) (y:=y) (q':={q with ow:=ow',Ab:=A,cb:=c}) (h.box.touch s.t (by rw [h.tm];omega)) ?_ rfl hM rfl,rfl,?_⟩
 ·exact⟨hg.1,hg.2.1,hg.2.2,h.r.step s (by omega) (by omega) (by omega),h.t.step s (by omega) (by omega),h.u.step s (by omega),h.c.step s (by omega) (by omega),hb,h.a.step s (by omega),h.e.step s (by omega) (by omega),h.fstep s (by omega)⟩
 ·exact⟨(s.t.mono (S':=fun b=>q.ow b=0\/q.ow b=7) (fun b _ e=> .inr e)).setCell (p:=⟨q.M,9,none⟩) (fun _=> .inl h.tm) _,s.eq⟩
theorem MK.putR {A:Option Addr} {c n':Nat} {rs:List (List Int)} (h:MK V q d y) (hn:n'=rs.length) (hr:RgtV V' ow' A c rs) (s:StL (fun j=>j=3) V q.ow V' ow'):
  ∃q',MK (V'.setCell ⟨q.M,5,none⟩ (.slice A n' c)) q' {d with rs:=rs} y/\q'.M=q.M/\StL (fun j=>j=0\/j=3) V q.ow (V'.setCell ⟨q.M,5,none⟩ (.slice A n' c)) q'.ow:=by
 subst hn
 have hM:ow' q.M=0:=(s.eq q.M h.box.lt).trans h.tm
 have hg:=h.gstep s (by omega)
 refine⟨{q with ow:=ow',Ar:=A,cr:=c},MK.put (q:=q) (d:=d) (y:=y) (q':={q with ow:=ow',Ar:=A,cr:=c}) (h.box.touch s.t (by rw [h.tm];omega)) ?_ rfl hM rfl,rfl,?_⟩
 ·exact⟨hg.1,hg.2.1,hg.2.2,hr,h.t.step s (by omega) (by omega),h.u.step s (by omega),h.c.step s (by omega) (by omega),h.b.step s (by omega),h.a.step s (by omega),h.e.step s (by omega) (by omega),h.fstep s (by omega)⟩
 ·exact⟨(s.t.mono (S':=fun b=>q.ow b=0\/q.ow b=3) (fun b _ e=> .inr e)).setCell (p:=⟨q.M,5,none⟩) (fun _=> .inl h.tm) _,s.eq⟩
theorem MK.putT {A:Option Addr} {c n':Nat} {tl:List (List Tl)} (h:MK V q d y) (hn:n'=tl.length) (ht:TlV V' ow' A c (d.T+1) tl) (s:StL (fun j=>j=4) V q.ow V' ow'):
  ∃q',MK (V'.setCell ⟨q.M,6,none⟩ (.slice A n' c)) q' {d with tl:=tl} y/\q'.M=q.M/\StL (fun j=>j=0\/j=4) V q.ow (V'.setCell ⟨q.M,6,none⟩ (.slice A n' c)) q'.ow:=by
 subst hn
 have hM:ow' q.M=0:=(s.eq q.M h.box.lt).trans h.tm
 have hg:=h.gstep s (by omega)
 refine⟨{q with ow:=ow',At:=A,ct:=c},MK.put (q:=q) (d:=d) (y:=y) (q':={q with ow:=ow',At:=A,ct:=c}) (h.box.touch s.t (by rw [h.tm];omega)) ?_ rfl hM rfl,rfl,?_⟩
 ·exact⟨hg.1,hg.2.1,hg.2.2,h.r.step s (by omega) (by omega) (by omega),ht,h.u.step s (by omega),h.c.step s (by omega) (by omega),h.b.step s (by omega),h.a.step s (by omega),h.e.step s (by omega) (by omega),h.fstep s (by omega)⟩
 ·exact⟨(s.t.mono (S':=fun b=>q.ow b=0\/q.ow b=4) (fun b _ e=> .inr e)).setCell (p:=⟨q.M,6,none⟩) (fun _=> .inl h.tm) _,s.eq⟩
theorem MK.madeU {v:Value} {n':Nat} {ru:Nat->List Int} (h:MK V q d y) (hu:RuV V' ow' v n' ru) (s:StL (fun j=>j=5) V q.ow V' ow'):
  ∃q',MK (V'.setCell ⟨q.M,7,none⟩ v) q' {d with nu:=n',ru:=ru} y/\q'.M=q.M/\StL (fun j=>j=0\/j=5) V q.ow (V'.setCell ⟨q.M,7,none⟩ v) q'.ow:=by
 have hM:ow' q.M=0:=(s.eq q.M h.box.lt).trans h.tm
 have hg:=h.gstep s (by omega)
 refine⟨{q with ow:=ow',vu:=v},MK.put (q:=q) (d:=d) (y:=y) (q':={q with ow:=ow',vu:=v}) (h.box.touch s.t (by rw [h.tm];omega)) ?_ rfl hM rfl,rfl,?_⟩
 ·exact⟨hg.1,hg.2.1,hg.2.2,h.r.step s (by omega) (by omega) (by omega),h.t.step s (by omega) (by omega),hu,h.c.step s (by omega) (by omega),h.b.step s (by omega),h.a.step s (by omega),h.e.step s (by omega) (by omega),h.fstep s (by omega)⟩
 ·exact⟨(s.t.mono (S':=fun b=>q.ow b=0\/q.ow b=5) (fun b _ e=> .inr e)).setCell (p:=⟨q.M,7,none⟩) (fun _=> .inl h.tm) _,s.eq⟩
theorem MK.putU {n':Nat} {ru:Nat->List Int} (h:MK V q d y) (hu:RuV V' ow' q.vu n' ru) (s:StL (fun j=>j=5) V q.ow V' ow'):MK V' {q with ow:=ow'} {d with nu:=n',ru:=ru} y:=by
 have hM:ow' q.M=0:=(s.eq q.M h.box.lt).trans h.tm
 have hg:=h.gstep s (by omega)
 exact⟨⟨hg.1,hg.2.1,hg.2.2,h.r.step s (by omega) (by omega) (by omega),h.t.step s (by omega) (by omega),hu,h.c.step s (by omega) (by omega),h.b.step s (by omega),h.a.step s (by omega),h.e.step s (by omega) (by omega),h.fstep s (by omega)⟩,h.box.touch s.t (by rw [h.tm];omega),hM⟩
theorem MK.madeC {v:Value} {n':Nat} {cm:Nat->List Co} (h:MK V q d y) (hu:CmV V' ow' v (d.T+1) n' cm) (s:StL (fun j=>j=6) V q.ow V' ow'):
  ∃q',MK (V'.setCell ⟨q.M,8,none⟩ v) q' {d with nc:=n',cm:=cm} y/\q'.M=q.M/\StL (fun j=>j=0\/j=6) V q.ow (V'.setCell ⟨q.M,8,none⟩ v) q'.ow:=by
 have hM:ow' q.M=0:=(s.eq q.M h.box.lt).trans h.tm
 have hg:=h.gstep s (by omega)
 refine⟨{q with ow:=ow',vc:=v},MK.put (q:=q) (d:=d) (y:=y) (q':={q with ow:=ow',vc:=v}) (h.box.touch s.t (by rw [h.tm];omega)) ?_ rfl hM rfl,rfl,?_⟩
 ·exact⟨hg.1,hg.2.1,hg.2.2,h.r.step s (by omega) (by omega) (by omega),h.t.step s (by omega) (by omega),h.u.step s (by omega),hu,h.b.step s (by omega),h.a.step s (by omega),h.e.step s (by omega) (by omega),h.fstep s (by omega)⟩
 ·exact⟨(s.t.mono (S':=fun b=>q.ow b=0\/q.ow b=6) (fun b _ e=> .inr e)).setCell (p:=⟨q.M,8,none⟩) (fun _=> .inl h.tm) _,s.eq⟩
theorem MK.putC {k P:Nat} {z:Value} {l:List Co} (h:MK V q d y) (hv:q.vc= .slice (some ⟨P,0,none⟩) d.nc d.nc) (hk:k<d.nc) (hz:RdCo V (TF V q.ow (fun t=>t=2)) (d.T+1) z l):MK (V.setCell ⟨P,k,none⟩ z) q {d with cm:=upd d.cm k l} y/\StL (fun j=>j=6) V q.ow (V.setCell ⟨P,k,none⟩ z) q.ow:=by
 rcases h.c with⟨e,-⟩|⟨P',e,c1,c2,c3⟩
 ·rw [hv]at e;cases e
 ·rw [hv]at e
  iterate 3
   injection e with e
  subst e
  have s:StL (fun j=>j=6) V q.ow (V.setCell ⟨P,k,none⟩ z) q.ow:=⟨(Touch.refl _ V).setCell (p:=⟨P,k,none⟩) (fun _=>c1.2) z,fun _ _=>rfl⟩
  have hg:=h.gstep s (by omega)
  refine⟨⟨⟨hg.1,hg.2.1,hg.2.2,h.r.step s (by omega) (by omega) (by omega),h.t.step s (by omega) (by omega),h.u.step s (by omega),.inr ⟨P,hv,⟨Nat.lt_of_lt_of_le c1.1 s.size,c1.2⟩,fun j hj=>(World.frozen?_setCell ..).trans (c2 j hj),fun j hj=> ?_⟩,h.b.step s (by omega),h.a.step s (by omega),h.e.step s (by omega) (by omega),h.fstep s (by omega)⟩,h.box.touch s.t (by rw [h.tm];omega),h.tm⟩,s⟩
  obtain⟨z',e1,e2⟩:=c3 j hj
  dsimp only
  by_cases ej:j=k
  ·subst ej
   rw [upd_same]
   exact⟨z,World.cell?_setCell_same' _ _ _ (by rw [e1];rfl),hz.step s (fun t ht=>by omega)⟩
  ·rw [upd_ne ej]
   exact⟨z',by rw [World.cell?_setCell_other _ _ _ _ (fun ea=>by injection ea with _ ea;exact ej ea.symm)];exact e1,e2.step s (fun t ht=>by omega)⟩
theorem MK.putN {fi:Nat->List (Int×Nat)} (h:MK V q d y) (hf: ∃vs,Rows V' ow' 10 299 2 q.Pf d.D.length vs (fun k=>fiCells (fi k))) (s:StL (fun j=>j=10) V q.ow V' ow'):MK V' {q with ow:=ow'} d {y with fi:=fi}:=by
 have hM:ow' q.M=0:=(s.eq q.M h.box.lt).trans h.tm
 have hg:=h.gstep s (by omega)
 exact⟨⟨hg.1,hg.2.1,hg.2.2,h.r.step s (by omega) (by omega) (by omega),h.t.step s (by omega) (by omega),h.u.step s (by omega),h.c.step s (by omega) (by omega),h.b.step s (by omega),h.a.step s (by omega),h.e.step s (by omega) (by omega),hf⟩,h.box.touch s.t (by rw [h.tm];omega),hM⟩
end
end
end Go.Proofs.YthlbjgabhpdbfaaGreat
namespace Go.Proofs.YthlbjgabhpdbfaaGreat
set_option linter.unusedVariables false
section
set_option linter.unusedSimpArgs false
open Go.RowKit
attribute [local irreducible] wpStill wpOne wpPh
end
section
set_option linter.unusedSimpArgs false
open Go.RowKit
attribute [local irreducible] wpStill wpOne wpPh
end
section
set_option linter.unusedSimpArgs false
open Go.RowKit
attribute [local irreducible] wpStill wpOne wpPh
def wayTo (t:List It) (s:Int):Int:=match t.find? (fun x=>decide (x.1=s))with|some x=>x.2|none=> -1
theorem wayTo_yes: ∀{t:List It} {s:Int} {i:Nat} {x:It},t[i]? =some x->x.1=s->(∀(j:Nat) y,j<i->t[j]? =some y->y.1≠s)->wayTo t s=x.2
 |[],_,_,_,h,_,_=>by simp at h
 |y::r,s,0,x,h,hx,_=>by
  simp at h
  subst h
  unfold wayTo
  rw [List.find?_cons_of_pos (by simpa using hx)]
 |y::r,s,i+1,x,h,hx,hno=>by
  have h1:=hno 0 y (by omega) rfl
  have:=wayTo_yes (t:=r) (s:=s) (i:=i) (x:=x) (by simpa using h) hx (fun j z hj hz=>hno (j+1) z (by omega) (by simpa using hz))
  unfold wayTo at this⊢
  rw [List.find?_cons_of_neg (by simpa using h1)]
  exact this
theorem wayTo_no {t:List It} {s:Int} (h: ∀(j:Nat) y,t[j]? =some y->y.1≠s):wayTo t s= -1:=by
 unfold wayTo
 rw [List.find?_eq_none.2]
 intro x hx
 obtain⟨j,hj,e⟩:=List.getElem_of_mem hx
 have:=h j x (by rw [List.getElem?_eq_getElem hj,e])
 simpa using this
def gotoD (D:List (List It×List It)) (i s:Int):Int:=if i<0\/(D.length:Int)<=i then -1 else match D[i.toNat]? with|some d=>wayTo d.2 s|none=> -1
theorem gotoD_out {D:List (List It×List It)} {i s:Int} (h:i<0\/(D.length:Int)<=i):gotoD D i s= -1:=if_pos h
theorem gotoD_in {D:List (List It×List It)} {i:Nat} {s:Int} {d:List It×List It} (h:D[i]? =some d):gotoD D i s=wayTo d.2 s:=by
 have:=(List.getElem?_eq_some_iff.1 h).1
 unfold gotoD
 rw [if_neg (by omega),Int.toNat_natCast,h]
theorem rdst_shape {w:World} {F:Nat->Prop} {v:Value} {D:List (List It×List It)} (h:RdSt w F v D): ∃A n c,v= .slice A n c:=by
 obtain⟨Z,⟨A,n,c,h,-⟩,-⟩:=h
 exact⟨A,n,c,h⟩
set_option maxRecDepth 100000 in
set_option maxHeartbeats 2000000 in
theorem ref13_Goto {w:World} {F:Nat->Prop} {v:Value} {D:List (List It×List It)} (h:RdSt w F v D) (i s:Int):
  Calls Tryz.prog 23 #[v,.int .i64 i,.int .i64 s] w fun e w'=>e= .returned (.int .i64 (gotoD D i s))/\w=w':=by
 obtain⟨A,n,c,rfl⟩:=rdst_shape h
 obtain⟨hn,hnc,hcm,hcell⟩:=h.at_
 unfold maxLen at hcm
 obtain⟨r,hr⟩: ∃r,r=gotoD D i s:=⟨_,rfl⟩
 rw [<-hr]
 by_cases h0:i<0
 ·have hv:r= -1:=hr.trans (gotoD_out (.inl h0))
  clear hr
  obtain⟨Xh,Xhn,Xhcell,Xhv⟩:=HqZ4 h hn hcell hv;clear h hn hcell hv
  go_enter Tryz.func23,Tryz.ntmps23
  go_wp2_with fail
  go_ret
  exact⟨ret_int Xhv.out.symm,rfl⟩
 ·by_cases h1:(n:Int)<=i
  ·have hv:r= -1:=hr.trans (gotoD_out (.inr (by rw [<-hn];exact h1)))
   clear hr
   obtain⟨Xh,Xhn,Xhcell,Xhv⟩:=HqZ4 h hn hcell hv;clear h hn hcell hv
   go_enter Tryz.func23,Tryz.ntmps23
   go_wp2_with fail
   go_ret
   exact⟨ret_int Xhv.out.symm,rfl⟩
  ·obtain⟨k,rfl⟩:=Int.eq_ofNat_of_zero_le (by omega:0<=i)
   have hk:k<n:=by omega
   have hk':(k:Int)<(n:Int):=by omega
   obtain⟨b,off,rfl,hb,hcc⟩:=hcell (by omega)
   obtain⟨d,hd⟩: ∃x,D[k]? =some x:=⟨_,List.getElem?_eq_getElem (by rw [<-hn];exact hk)⟩
   obtain⟨z1,z2,e1,e2,r1,r2⟩:=hcc k d hd
   obtain⟨A2,n2,c2,rfl,-⟩:=id r2
   obtain⟨hn2,hnc2,hcm2,hcell2⟩:=RdIt.at_ r2
   unfold maxLen at hcm2
   rw [gotoD_in hd]at hr
   have hyes: ∀(i:Nat) x,d.2[i]? =some x->x.1=s->(∀(j:Nat) y,j<i->d.2[j]? =some y->y.1≠s)->r=x.2:=fun i x a b c=>hr.trans (wayTo_yes a b c)
   have hno:(∀(j:Nat) y,d.2[j]? =some y->y.1≠s)->r= -1:=fun a=>hr.trans (wayTo_no a)
   clear hr hcc e1 r1 r2 hcell h
   obtain⟨Xhn,Xhd,Xhn2,Xhyes,Xhno,Xhcell2,Xhb⟩:=HqZ7 hn hd hn2 hyes hno hcell2 hb;clear hn hd hn2 hyes hno hcell2 hb
   go_enter Tryz.func23,Tryz.ntmps23
   go_wp2_with fail
   go_loop [7] (fun i=> ∃j:Nat,j<=n2/\i= .int .i64 j/\ ∀(q:Nat) y,q<j->d.2[q]? =some y->y.1≠s) (fun i=>n2 - (intOf i).toNat)
   case atStart=>exact⟨0,Nat.zero_le _,rfl,fun q y hq=>absurd hq (by omega)⟩
   case round=>
    obtain⟨j,hj,rfl,hq⟩:=hrel
    by_cases hlt:j<n2
    ·have hlt':(j:Int)<(n2:Int):=by omega
     obtain⟨b3,o3,rfl,-,hcc3⟩:=Xhcell2.out (by omega)
     obtain⟨⟨x0,x1⟩,hx⟩: ∃x,d.2[j]? =some x:=⟨_,List.getElem?_eq_getElem (by rw [<-Xhn2.out];exact hlt)⟩
     obtain⟨p0,p1⟩:=hcc3 j _ hx
     simp only at p0 p1
     by_cases he:x0=s
     ·subst he
      have hv:=Xhyes.out j _ hx rfl hq
      simp only at hv
      clear hcc3
      obtain⟨Xhx,Xhq,Xhv⟩:=HqZ3 hx hq hv;clear hx hq hv
      go_wp2_with fail
      go_ret
      exact⟨ret_int Xhv.out.symm,rfl⟩
     ·have he':(x0==s)=false:=by simpa using he
      have hq2: ∀(q:Nat) y,q<j+1->d.2[q]? =some y->y.1≠s:=fun q y h1 h2=>by
       by_cases e:q=j
       ·subst e;rw [hx]at h2;injection h2 with h2;subst h2;exact he
       ·exact hq q y (by omega) h2
      clear hcc3
      obtain⟨Xhx,Xhq,Xhq2,Xhe⟩:=HqZ4 hx hq hq2 he;clear hx hq hq2 he
      go_wp2_with fail
      go_round
      case rel=>exact⟨j+1,by omega,by go_num,Xhq2.out⟩
      case measure=>simp [intOf];omega
    ·have hlt': ¬(j:Int)<(n2:Int):=by omega
     have hv:=Xhno.out (fun q y h2=>hq q y (by have:=(List.getElem?_eq_some_iff.1 h2).1;have:=Xhn2.out;omega) h2)
     obtain⟨Xhq,Xhv⟩:=HqZ2 hq hv;clear hq hv
     go_wp2_with fail
     go_ret
     exact⟨ret_int Xhv.out.symm,rfl⟩
end
section
set_option linter.unusedSimpArgs false
open Go.RowKit
attribute [local irreducible] wpStill wpOne wpPh
set_option maxRecDepth 100000 in
set_option maxHeartbeats 2000000 in
theorem auto_Goto {w:World} {F:Nat->Prop} {v:Value} {D:List (List It×List It)} (h:RdSt w F v D) (hF: ∀b,F b->b<w.heap.size) (i s:Int):
  Calls Tryz.prog 74 #[v,.int .i64 i,.int .i64 s] w (Quiet w (.int .i64 (gotoD D i s))):=by
 obtain⟨A,n,c,rfl⟩:=rdst_shape h
 obtain⟨hn,hnc,hcm,hcell⟩:=h.at_
 unfold maxLen at hcm
 obtain⟨r,hr⟩: ∃r,r=gotoD D i s:=⟨_,rfl⟩
 rw [<-hr]
 by_cases h0:i<0
 ·have hv:r= -1:=hr.trans (gotoD_out (.inl h0))
  clear hr
  obtain⟨Xh,Xhn,Xhcell,Xhv,XhF⟩:=HqZ5 h hn hcell hv hF;clear h hn hcell hv hF
  go_enter Tryz.func74,Tryz.ntmps74
  go_wp2_with fail
  go_ret
  exact⟨ret_int Xhv.out.symm,Below.refl _ _⟩
 ·by_cases h1:(n:Int)<=i
  ·have hv:r= -1:=hr.trans (gotoD_out (.inr (by rw [<-hn];exact h1)))
   clear hr
   obtain⟨Xh,Xhn,Xhcell,Xhv,XhF⟩:=HqZ5 h hn hcell hv hF;clear h hn hcell hv hF
   go_enter Tryz.func74,Tryz.ntmps74
   go_wp2_with fail
   go_ret
   exact⟨ret_int Xhv.out.symm,Below.refl _ _⟩
  ·obtain⟨k,rfl⟩:=Int.eq_ofNat_of_zero_le (by omega:0<=i)
   have hk:k<n:=by omega
   have hk':(k:Int)<(n:Int):=by omega
   obtain⟨b,off,rfl,hb,hcc⟩:=hcell (by omega)
   obtain⟨d,hd⟩: ∃x,D[k]? =some x:=⟨_,List.getElem?_eq_getElem (by rw [<-hn];exact hk)⟩
   obtain⟨z1,z2,e1,e2,r1,r2⟩:=hcc k d hd
   obtain⟨A2,n2,c2,rfl,-⟩:=id r2
   obtain⟨hn2,hnc2,hcm2,-⟩:=RdIt.at_ r2
   unfold maxLen at hcm2
   rw [gotoD_in hd]at hr
   have hyes: ∀(i:Nat) x,d.2[i]? =some x->x.1=s->(∀(j:Nat) y,j<i->d.2[j]? =some y->y.1≠s)->r=x.2:=fun i x a b c=>hr.trans (wayTo_yes a b c)
   have hno:(∀(j:Nat) y,d.2[j]? =some y->y.1≠s)->r= -1:=fun a=>hr.trans (wayTo_no a)
   clear hr hcc e1 r1 hcell h
   obtain⟨Xhn,Xhd,Xhn2,Xhyes,Xhno,Xr2,Xhb,XhF⟩:=HqZ8 hn hd hn2 hyes hno r2 hb hF;clear hn hd hn2 hyes hno r2 hb hF
   go_enter Tryz.func74,Tryz.ntmps74
   go_wp2_with fail
   go_loopw [23] (fun i wr=> ∃j:Nat,j<=n2/\i= .int .i64 j/\Below w.heap.size w wr/\ ∀(q:Nat) y,q<j->d.2[q]? =some y->y.1≠s) (fun i _=>n2 - (intOf i).toNat)
   case atStart=>exact⟨0,Nat.zero_le _,rfl,Below.refl _ _,fun q y hq=>absurd hq (by omega)⟩
   case round=>
    clear e2
    obtain⟨j,hj,rfl,le,hq⟩:=hrel
    by_cases hlt:j<n2
    ·have hlt':(j:Int)<(n2:Int):=by omega
     obtain⟨-,-,-,hcell2⟩:=RdIt.at_ (Xr2.out.below le XhF.out)
     obtain⟨b3,o3,rfl,-,hcc3⟩:=hcell2 (by omega)
     obtain⟨⟨x0,x1⟩,hx⟩: ∃x,d.2[j]? =some x:=⟨_,List.getElem?_eq_getElem (by rw [<-Xhn2.out];exact hlt)⟩
     obtain⟨p0,p1⟩:=hcc3 j _ hx
     simp only at p0 p1
     have le2:=le.alloc le.size (.cells #[.int .i64 x0,.int .i64 x1] 131)
     by_cases he:x0=s
     ·subst he
      have hv:=Xhyes.out j _ hx rfl hq
      simp only at hv
      clear hcc3 hcell2
      obtain⟨Xhx,Xhq,Xhv,Xle,Xle2⟩:=HqZ5 hx hq hv le le2;clear hx hq hv le le2
      go_wp2_with fail
      go_ret
      exact⟨ret_int Xhv.out.symm,Xle2.out⟩
     ·have he':(x0==s)=false:=by simpa using he
      have hq2: ∀(q:Nat) y,q<j+1->d.2[q]? =some y->y.1≠s:=fun q y h1 h2=>by
       by_cases e:q=j
       ·subst e;rw [hx]at h2;injection h2 with h2;subst h2;exact he
       ·exact hq q y (by omega) h2
      clear hcc3 hcell2
      obtain⟨Xhx,Xhq,Xhq2,Xhe,Xle,Xle2⟩:=HqZ6 hx hq hq2 he le le2;clear hx hq hq2 he le le2
      go_wp2_with fail
      go_roundw
      case rel=>exact⟨j+1,by omega,by go_num,Xle2.out,Xhq2.out⟩
      case measure=>simp [intOf];omega
    ·have hlt': ¬(j:Int)<(n2:Int):=by omega
     have hv:=Xhno.out (fun q y h2=>hq q y (by have:=(List.getElem?_eq_some_iff.1 h2).1;have:=Xhn2.out;omega) h2)
     obtain⟨Xhq,Xhv,Xle⟩:=HqZ3 hq hv le;clear hq hv le
     go_wp2_with fail
     go_ret
     exact⟨ret_int Xhv.out.symm,Xle.out⟩
end
section
set_option linter.unusedSimpArgs false
open Go.RowKit
attribute [local irreducible] wpStill wpOne wpPh
end
set_option linter.unusedSimpArgs false
open Go.RowKit
attribute [local irreducible] wpStill wpOne wpPh
def putAll (m:Nat) (l:List Int):Nat->Bool:=l.foldl (fun f t=>putSet m f t) noBits
theorem putAll_snoc (m:Nat) (l:List Int) (t:Int):putAll m (l++[t])=putSet m (putAll m l) t:=by unfold putAll;rw [List.foldl_append];rfl
theorem putAll_mem {m:Nat} {l:List Int} {t:Nat}:putAll m l t=true↔(t:Int)∈l/\t<m:=by
 have key: ∀(l:List Int) (f:Nat->Bool),(l.foldl (fun f t=>putSet m f t) f) t=true↔f t=true\/((t:Int)∈l/\t<m):=fun l=>by
  induction l with
  |nil=>intro f;simp
  |cons x r ih=>
   intro f
   rw [List.foldl_cons,ih]
   unfold putSet
   simp only [Bool.or_eq_true,Bool.and_eq_true,decide_eq_true_eq,List.mem_cons]
   constructor
   ·rintro((h|⟨⟨h1,h2⟩,h3⟩)|h)
    ·exact .inl h
    ·exact .inr ⟨.inl h3,by omega⟩
    ·exact .inr ⟨.inr h.1,h.2⟩
   ·rintro(h|⟨h|h,h'⟩)
    ·exact .inl (.inl h)
    ·exact .inl (.inr ⟨⟨by omega,by omega⟩,h⟩)
    ·exact .inr ⟨h,h'⟩
 have:=key l noBits
 simpa [putAll,noBits]using this
theorem putAll_below {m:Nat} {f:Nat->Bool} (hf: ∀t,m<=t->f t=false):putAll m ((below f m).map (fun n:Nat=>(n:Int)))=f:=by
 funext t
 refine bool_of ?_
 rw [putAll_mem]
 unfold below
 constructor
 ·rintro⟨h,-⟩
  obtain⟨k,hk,e⟩:=List.mem_map.1 h
  have:k=t:=by omega
  subst this
  exact(List.mem_filter.1 hk).2
 ·intro h
  have ht:t<m:=by
   apply Classical.byContradiction
   intro hn
   rw [hf t (by omega)]at h
   cases h
  exact⟨List.mem_map.2 ⟨t,List.mem_filter.2 ⟨List.mem_range.2 ht,h⟩,rfl⟩,ht⟩
def NewSet (V:World) (m:Nat) (f:Nat->Bool) (e:Ending) (V':World):Prop:= ∃b S,e= .returned (PtrV b)/\IsSet V' b S m f/\(∀k,S k->V.heap.size<=k)/\Below V.heap.size V V'
set_option maxRecDepth 100000 in
set_option maxHeartbeats 2000000 in
theorem look_set {V:World} {M T c1:Nat} {A1:Option Addr} (hc:V.cell? ⟨M,0,none⟩=some (.slice A1 T c1)) (hT:T<=120) {F:Nat->Prop} {v:Value} {l:List Int} (hl:RdI V F v l) (hF: ∀b,F b->b<V.heap.size):
  Calls Tryz.prog 225 #[PtrV M,v] V (NewSet V (T+1) (putAll (T+1) l)):=by
 obtain⟨A,n,c,rfl,-⟩:=id hl
 obtain⟨hn,hnc,hcm,hcell⟩:=RdI.at_ hl
 unfold maxLen at hcm
 have cn:=set_new ((T:Int)+1) V
 rw [show(min (max ((T:Int)+1) 0) 4096).toNat=T+1 by omega]at cn
 have hwr:IntKind.i64.wrap ((T:Int)+1)=(T:Int)+1:=by rw [IntKind.wrap_i64];omega
 clear hcell
 obtain⟨Xhl,XhF,Xhn,Xcn⟩:=HqZ4 hl hF hn cn;clear hl hF hn cn
 unfold PtrV
 go_enter Tryz.func225,Tryz.ntmps225
 go_wp2_with fail
 refine Xcn.out.mono ?_
 rintro e w1 ⟨rfl,hs,b1⟩
 have hlow: ∀k,New (fun _=>False) V w1 k->V.heap.size<=k:=fun k hk=>(hk.resolve_left id).1
 obtain⟨b,hb⟩: ∃q,q=V.heap.size+1:=⟨_,rfl⟩
 rw [<-hb]at hs⊢
 obtain⟨S,hS⟩: ∃S,S=New (fun _=>False) V w1:=⟨_,rfl⟩
 rw [<-hS]at hs hlow
 clear hb hS Xcn hc
 obtain⟨Xhs,Xb1,Xhlow⟩:=HqZ3 hs b1 hlow;clear hs b1 hlow
 go_wp2_with fail
 go_loopw [18] (fun i wr=> ∃k:Nat,k<=n/\i= .int .i64 k/\IsSet wr b S (T+1) (putAll (T+1) (l.take k))/\Below V.heap.size V wr) (fun i _=>n - (intOf i).toNat)
 case atStart=>exact⟨0,Nat.zero_le _,rfl,Xhs.out,Xb1.out⟩
 case round=>
  clear Xhs Xb1
  obtain⟨k,hk,rfl,hs,b1⟩:=hrel
  by_cases hlt:k<n
  ·have hlt':(k:Int)<(n:Int):=by omega
   have hr:=Xhl.out.below b1 XhF.out
   obtain⟨-,-,-,hcell⟩:=RdI.at_ hr
   obtain⟨bl,off,rfl,hbl,hcc⟩:=hcell (by omega)
   obtain⟨t,ht⟩: ∃t,l[k]? =some t:=⟨_,List.getElem?_eq_getElem (by rw [<-Xhn.out];exact hlt)⟩
   have hct:=hcc k t ht
   have cp:=set_put hs t
   have hsn:putSet (T+1) (putAll (T+1) (l.take k)) t=putAll (T+1) (l.take (k+1)):=by rw [<-putAll_snoc,take_get ht]
   rw [hsn]at cp
   unfold PtrV at cp
   clear hcell hcc hr hsn
   obtain⟨Xcp,Xht,Xb1,Xhs⟩:=HqZ4 cp ht b1 hs;clear cp ht b1 hs
   go_wp2_with fail
   with_reducible refine Xcp.out.mono ?_
   rintro e w2 ⟨rfl,hs2,t2⟩
   have b2:=t2.toBelow (B:=V.heap.size) Xhlow.out Xb1.out Xb1.out.size
   clear Xcp Xhs Xb1 t2 hct
   obtain⟨Xhs2,Xb2⟩:=HqZ2 hs2 b2;clear hs2 b2
   go_wp2_with fail
   go_roundw
   case rel=>exact⟨k+1,by omega,by go_num,Xhs2.out,Xb2.out⟩
   case measure=>simp [intOf];omega
  ·have hlt': ¬(k:Int)<(n:Int):=by omega
   rw [List.take_of_length_le (by have:=Xhn.out;omega)]at hs
   obtain⟨Xhs,Xb1⟩:=HqZ2 hs b1;clear hs b1
   go_wp2_with fail
   go_ret
   exact⟨b,S,rfl,Xhs.out,Xhlow.out,Xb1.out⟩
section
variable {V : World} {q : LQ} {d : LD} {y : Dy}
def freshD (y:Dy):Dy:={y with na:=y.na+1,F:=upd y.F y.na noBits}
def Dy01 (V:World) (q:LQ) (d:LD) (y:Dy) (J:Nat->Prop) (V':World):Prop:= ∃q',MK V' q' d y/\q'.M=q.M/\StL J V q.ow V' q'.ow
set_option maxRecDepth 100000 in
set_option maxHeartbeats 4000000 in
theorem look_fresh (h:MK V q d y) (hT:d.T<=120) (hn:y.na<=100000000):Calls Tryz.prog 196 #[PtrV q.M] V fun e V'=>e= .returned (.int .i64 (y.na:Int))/\Dy01 V q d (freshD y) (fun j=>j=0\/j=8) V':=by
 obtain⟨q0,-,-,-,-,-,-,-,-,-,q10,-,-⟩:=h.cells
 have qf:=h.box.frozen 10
 obtain⟨T,hTe⟩: ∃q,q=d.G.terms.length:=⟨_,rfl⟩
 have hT':T<=120:=by rw [hTe];exact hT
 rw [<-hTe]at q0
 obtain⟨n,hne⟩: ∃q,q=y.na:=⟨_,rfl⟩
 rw [<-hne]at q10 hn⊢
 obtain⟨M,hM⟩: ∃x,x=q.M:=⟨_,rfl⟩
 obtain⟨A,hA⟩: ∃x,x=q.Aa:=⟨_,rfl⟩
 obtain⟨c,hc⟩: ∃x,x=q.ca:=⟨_,rfl⟩
 obtain⟨A1,hA1⟩: ∃x,x=q.A1:=⟨_,rfl⟩
 obtain⟨c1,hc1⟩: ∃x,x=q.c1:=⟨_,rfl⟩
 rw [<-hM]at q0 q10 qf⊢
 rw [<-hA,<-hc]at q10
 rw [<-hA1,<-hc1]at q0
 have cn:=fun w=>set_new ((T:Int)+1) w
 rw [show(min (max ((T:Int)+1) 0) 4096).toNat=T+1 by omega]at cn
 have hwr:IntKind.i64.wrap ((T:Int)+1)=(T:Int)+1:=by rw [IntKind.wrap_i64];omega
 clear hT
 obtain⟨Xh,XhTe,Xhne,XhM,XhA,Xhc,XhA1,Xhc1,Xcn⟩:=HqZ9 h hTe hne hM hA hc hA1 hc1 cn;clear h hTe hne hM hA hc hA1 hc1 cn
 unfold PtrV
 go_enter Tryz.func196,Tryz.ntmps196
 go_wp2_with fail
 have hwn:IntKind.i64.wrap ((n:Int)+1 - 1)=(n:Int):=by rw [IntKind.wrap_i64];omega
 refine region_late (fun W=>W.cell? ⟨M,0,none⟩=some (.slice A1 T c1)/\W.cell? ⟨M,10,none⟩=some (.slice A n c)) 12 15 (by kernel_rfl) (by kernel_rfl) ⟨q0,q10⟩ ?_
 simp only [List.take_succ_cons,List.take_zero,List.drop_succ_cons,List.drop_zero]
 iterate 12
  refine wpHeld_cons ?_ (by rfl) (fun wS hwS=> ?_) ?_
  rotate_left
  ·(try dsimp only at hwS)
   go_simp
   all_goals with_reducible rfl
  simp only [Act.put,List.setIfInBounds_toArray,List.set_cons_zero,List.set_cons_succ]
 refine wpHeld_nil ?_
 have bd:Below V.heap.size V V.drew:=(Below.refl _ _).drew
 have h1:=Xh.out.below bd 8
 have q0':V.drew.cell? ⟨M,0,none⟩=some (.slice A1 T c1):=q0
 have q10':V.drew.cell? ⟨M,10,none⟩=some (.slice A n c):=q10
 have qf':V.drew.frozen? ⟨M,10,none⟩=false:=qf
 have hst:StL (fun _=>False) V q.ow V.drew (ext V q.ow 8):=StL.new _ bd _ _
 clear q0 q10 qf
 generalize hwd:V.drew=wd at *
 obtain⟨q1,hq1⟩: ∃x,x={q with ow:=ext V q.ow 8}:=⟨_,rfl⟩
 rw [<-hq1]at h1
 have hM1:M=q1.M:=by rw [hq1];exact XhM.out
 have hA1':A=q1.Aa/\c=q1.ca:=by rw [hq1];exact⟨XhA.out,Xhc.out⟩
 have hst:StL (fun j=>j=0\/j=8) V q.ow wd q1.ow:=by rw [hq1];exact hst.mono fun _ e=>e.elim
 obtain⟨Xh1,Xbd,Xhst,Xhwd,Xhq1,XhM1,XhA1'⟩:=HqZ7 h1 bd hst hwd hq1 hM1 hA1';clear h1 bd hst hwd hq1 hM1 hA1'
 refine wpMid_cons ?_
 go_wp2_with fail
 refine(Xcn.out wd).mono ?_
 rintro e w1 ⟨rfl,hs,b1⟩
 have hlow: ∀k,New (fun _=>False) wd w1 k->wd.heap.size<=k:=fun k hk=>(hk.resolve_left id).1
 have S1:w1.cell? ⟨M,0,none⟩=some (.slice A1 T c1)/\w1.cell? ⟨M,10,none⟩=some (.slice A n c):=⟨(b1.cell (p:=⟨M,0,none⟩) (World.block_lt_of_cell? _ _ q0')).trans q0',(b1.cell (p:=⟨M,10,none⟩) (World.block_lt_of_cell? _ _ q10')).trans q10'⟩
 clear Xcn q0' q10' qf'
 obtain⟨b,hb⟩: ∃x,x=wd.heap.size+1:=⟨_,rfl⟩
 rw [<-hb]at hs⊢
 obtain⟨S,hS⟩: ∃S,S=New (fun _=>False) wd w1:=⟨_,rfl⟩
 rw [<-hS]at hs hlow
 have al:Below w1.heap.size w1 (w1.alloc (.cells #[.pointer (some ⟨b,0,none⟩)] 257)):=(Below.refl _ _).alloc (Nat.le_refl _) _
 have hs2:=hs.touch (Touch.of_size al (fun _=>False)) (fun _ _ h=>h)
 have b2:=b1.trans (al.mono b1.size)
 have rone:Rd (w1.alloc (.cells #[.pointer (some ⟨b,0,none⟩)] 257)) (fun x=>x=w1.heap.size) (.slice (some ⟨w1.heap.size,0,none⟩) 1 1) 1 [.pointer (some ⟨b,0,none⟩)]:=Rd.one' (w:=w1) (e:=257) [.pointer (some ⟨b,0,none⟩)] 1 rfl
 have row2:=((Xh1.out.a.row).step (StL.new (fun _=>False) b2 _ 8) (fun e=>e)).own
 rw [<-Xhne.out,<-XhA1'.out.1,<-XhA1'.out.2]at row2
 have S2:(w1.alloc (.cells #[.pointer (some ⟨b,0,none⟩)] 257)).cell? ⟨M,0,none⟩=some (.slice A1 T c1)/\(w1.alloc (.cells #[.pointer (some ⟨b,0,none⟩)] 257)).cell? ⟨M,10,none⟩=some (.slice A n c):=⟨cell_a S1.1 _,cell_a S1.2 _⟩
 clear hs b1 hS hb al
 obtain⟨Xhlow,XS1,Xhs2,Xb2,Xrone,Xrow2,XS2⟩:=HqZ7 hlow S1 hs2 b2 rone row2 S2;clear hlow S1 hs2 b2 rone row2 S2
 go_wp2_with fail
 refine⟨XS1.out,wpMid_cons ?_⟩
 go_wp2_with fail
 refine⟨XS2.out,wpMid_cons ?_⟩
 generalize w1.alloc (.cells #[.pointer (some ⟨b,0,none⟩)] 257)=w2 at *
 go_wp2_with (at_builtin;refine wp_append _ rfl (.tmp 7) (.tmp 16) _ rfl Tryz.elemSetP 0 (.slice A n c) n ((List.range n).map fun i=>PtrV (q1.ps i)) rfl Xrow2.out _ _ [.pointer (some ⟨b,0,none⟩)] 1 rfl rfl Xrone.out (by intro u hu;obtain rfl:=List.mem_singleton.1 hu;rfl) (by unfold maxLen;omega) (by omega) (Nat.zero_le _) ?_)
 intro A3 c3 w3 own3 g3 ho3
 have fam0:=Xh1.out.a
 rw [<-Xhne.out,<-XhA1'.out.1,<-XhA1'.out.2]at fam0
 have hTd:d.T+1=T+1:=by unfold LD.T;rw [<-XhTe.out]
 rw [hTd]at fam0
 obtain⟨fam,st⟩:=fam0.push Xhs2.out Xhlow.out Xb2.out own3 g3 ho3
 rw [<-hTd]at fam
 obtain⟨q',mk,hm,sq⟩:=Xh1.out.putA fam st
 rw [<-XhM1.out]at mk hm sq
 have S3:w3.cell? ⟨M,0,none⟩=some (.slice A1 T c1)/\w3.cell? ⟨M,10,none⟩=some (.slice A n c):=by
  have hb:=Xh1.out.box.touch st.t (by rw [Xh1.out.tm];omega)
  rw [<-XhM1.out]at hb
  have e0:=(hb.cell 0).trans rfl
  have e10:=(hb.cell 10).trans rfl
  rw [XhTe.out,Xhne.out,XhA1'.out.1,XhA1'.out.2,XhA1.out,Xhc1.out]
  rw [Xhq1.out]at e0⊢
  exact⟨e0,by rw [Xhq1.out]at e10;exact e10⟩
 have qf3:w3.frozen? ⟨M,10,none⟩=false:=by
  have hb:=Xh1.out.box.touch st.t (by rw [Xh1.out.tm];omega)
  rw [<-XhM1.out]at hb
  exact hb.frozen 10
 have hfin:Dy01 V q d (freshD y) (fun j=>j=0\/j=8) (w3.setCell ⟨M,10,none⟩ (.slice A3 (n+1) c3)):=by
  have hF:Xh1.out.a=Xh1.out.a:=rfl
  refine⟨q',?_,hm.trans XhM.out,Xhst.out.trans sq⟩
  unfold freshD
  rw [<-Xhne.out]
  exact mk
 clear fam0 fam st mk hm sq own3 g3 ho3 hTd
 have Xhfin:=hide hfin;clear hfin
 have e10:=S3.2
 refine⟨S3,wpMid_nil ?_⟩
 clear S3
 go_wp2_with fail
 refine NoPanic.normal ?_
 go_wp2_with fail
 go_ret
 exact⟨rfl,Xhfin.out⟩
end
end Go.Proofs.YthlbjgabhpdbfaaGreat

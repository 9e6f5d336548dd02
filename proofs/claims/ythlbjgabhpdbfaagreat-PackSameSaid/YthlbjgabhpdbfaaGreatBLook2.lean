/- Lookaheads: the maker, in memory. -/
import Derived.Test.YthlbjgabhpdbfaaGreatBAuto11
import Derived.Test.YthlbjgabhpdbfaaGreatBFirstPlain
import Derived.Test.YthlbjgabhpdbfaaGreatBItemLay
set_option linter.unusedVariables false
set_option linter.unusedSimpArgs false
set_option maxRecDepth 100000
set_option maxHeartbeats 4000000
namespace Go.Proofs.YthlbjgabhpdbfaaGreat
open Go.Proofs.Tryz
section
open Go.RowKit
attribute [local irreducible] wpStill aB aO
def mN (V:World) (ow:Nat->Nat) (A:Option Addr) (c:Nat) (rs:List (List Int)):Prop:= ∃Z:List Value,Z.length=rs.length/\Row V ow 3 49 1 A rs.length c Z/\ ∀(i:Nat) z r,Z[i]? =some z->rs[i]? =some r->RdI V (TF V ow (λt=>t=1\/t=2)) z r
def TlV (V:World) (ow:Nat->Nat) (A:Option Addr) (c m:Nat) (tl:List (List Tl)):Prop:= ∃Z:List Value,Z.length=tl.length/\Row V ow 4 273 1 A tl.length c Z/\ ∀(i:Nat) z l,Z[i]? =some z->tl[i]? =some l->ja V (TF V ow (λt=>t=2)) m z l
def RuV (V:World) (ow:Nat->Nat) (v:Value) (n:Nat) (ru:Nat->List Int):Prop:=(v= .slice none 0 0/\n=0)\/ ∃P vs,v= .slice (some ⟨P,0,none⟩) n n/\Rows V ow 5 3 1 P n vs (λk=>(ru k).map (Value.int .i64))
def CmV (V:World) (ow:Nat->Nat) (v:Value) (m n:Nat) (cm:Nat->List Co):Prop:=(v= .slice none 0 0/\n=0)\/ ∃P,v= .slice (some ⟨P,0,none⟩) n n/\(P<V.heap.size/\ow P=6)/\(∀k,k<n->V.frozen? ⟨P,k,none⟩=false)/\ ∀k,k<n-> ∃z,V.cell? ⟨P,k,none⟩=some z/\jA V (TF V ow (λt=>t=2)) m z (cm k)
structure jd (V:World) (ow:Nat->Nat) (A:Option Addr) (c n m:Nat) (ps:Nat->Nat) (foot:Nat->Nat->Prop) (F:Nat->Nat->Bool):Prop where
 row:Row V ow 8 257 1 A n c ((List.range n).map λi=>aq (ps i))
 set: ∀i,i<n->aG V (ps i) (foot i) m (F i)
 tag: ∀i k,i<n->foot i k->ow k=8/\(Value.slice A n c).ownBlock≠some k
 apart: ∀i j k,i<n->j<n->foot i k->foot j k->i=j
def EdV (V:World) (ow:Nat->Nat) (A:Option Addr) (c m:Nat) (ed:List Ed):Prop:= ∃ps:List Value,ps.length=ed.length/\Row V ow 9 290 4 A ed.length c (lf ps ed)/\ ∀(j:Nat) p x,ps[j]? =some p->ed[j]? =some x->dx V (TF V ow (λt=>t=2)) m p x.f
def gK (l:List (Int×Nat)):List Value:=l.flatMap λx=>[.int .i64 x.1,.int .i64 (x.2:Int)]
section
variable {J : Nat -> Prop} {V V' : World} {ow ow' : Nat -> Nat} {A : Option Addr} {c m n : Nat}
theorem mN.step {rs:List (List Int)} (h:mN V ow A c rs) (s:StL J V ow V' ow') (p: ¬J 1) (r: ¬J 2) (f: ¬J 3):mN V' ow' A c rs:=by
 obtain⟨a,b,e,d⟩:=h;exact⟨a,b,e.step s f,λk o l j g=>(d k o l j g).step s (λt i=>by rcases i with rfl|rfl<;>assumption)⟩
theorem TlV.step {tl:List (List Tl)} (h:TlV V ow A c m tl) (s:StL J V ow V' ow') (f: ¬J 2) (g: ¬J 4):TlV V' ow' A c m tl:=by
 obtain⟨a,b,e,d⟩:=h;exact⟨a,b,e.step s g,λl p o k i=>(d l p o k i).step s (λr j=>by rw [j];exact f)⟩
theorem RuV.step {v:Value} {a:Nat->List Int} (h:RuV V ow v n a) (s:StL J V ow V' ow') (g: ¬J 5):RuV V' ow' v n a:=
 h.imp id λ⟨b,i,e,f⟩=>⟨b,i,e,f.step s g⟩
theorem CmV.step {v:Value} {i:Nat->List Co} (h:CmV V ow v m n i) (s:StL J V ow V' ow') (p: ¬J 2) (j: ¬J 6):CmV V' ow' v m n i:=
 h.imp id λ⟨b,k,a,d,e⟩=>⟨b,k,⟨Nat.lt_of_lt_of_le a.1 s.size,(s.eq b a.1).trans a.2⟩,λf g=>(World.frozen?_of_block (a:=⟨b,f,none⟩) (s.t.block b a.1 (by rw [a.2];exact j))).trans (d f g),λf g=>by
  obtain⟨t,l,o⟩:=e f g
  exact⟨t,s.t.cell l (by rw [a.2];exact j),o.step s (λu r=>by rw [r];exact p)⟩⟩
theorem jd.step {i:Nat->Nat} {f:Nat->Nat->Prop} {F:Nat->Nat->Bool} (h:jd V ow A c n m i f F) (s:StL J V ow V' ow') (g: ¬J 8):jd V' ow' A c n m i f F:=
 ⟨h.row.step s g,λa hi=>(h.set a hi).touch s.t (λb e=>by rw [(h.tag a b hi e).1];exact g),λa b hi e=>⟨(s.eq b ((h.set a hi).lt b e)).trans (h.tag a b hi e).1,(h.tag a b hi e).2⟩,h.apart⟩
theorem EdV.step {a:List Ed} (h:EdV V ow A c m a) (s:StL J V ow V' ow') (f: ¬J 2) (g: ¬J 9):EdV V' ow' A c m a:=by
 obtain⟨o,b,e,d⟩:=h;exact⟨o,b,e.step s g,λl r p k i=>(d l r p k i).step s (λt j=>by rw [j];exact f)⟩
end
structure LQ:Type where
 M:Nat
 ow:Nat->Nat
 Fg:Nat->Prop
 A1:Option Addr
 c1:Nat
 A2:Option Addr
 c2:Nat
 A3:Option Addr
 c3:Nat
 Al:Option Addr
 cl:Nat
 Ar:Option Addr
 cr:Nat
 At:Option Addr
 ct:Nat
 vu:Value
 vc:Value
 Ab:Option Addr
 cb:Nat
 Aa:Option Addr
 ca:Nat
 ps:Nat->Nat
 foot:Nat->Nat->Prop
 Ae:Option Addr
 ce:Nat
 Pf:Nat
structure LD:Type where
 G:ac
 st:Int
 D:List (List It×List It)
 rs:List (List Int)
 tl:List (List Tl)
 nu:Nat
 ru:Nat->List Int
 nc:Nat
 cm:Nat->List Co
 ba:List Int
structure Dy:Type where
 na:Nat
 F:Nat->Nat->Bool
 ed:List Ed
 fi:Nat->List (Int×Nat)
def LD.T (d:LD):Nat:=d.G.terms.length
def oc (q:LQ) (d:LD) (y:Dy):Array Value:= #[.slice q.A1 d.G.terms.length q.c1,.slice q.A2 d.G.nons.length q.c2,.slice q.A3 d.G.rules.length q.c3,.int .i64 d.st,.slice q.Al d.D.length q.cl,.slice q.Ar d.rs.length q.cr,.slice q.At d.tl.length q.ct,q.vu,q.vc,.slice q.Ab d.ba.length q.cb,.slice q.Aa y.na q.ca,.slice q.Ae y.ed.length q.ce,.slice (some ⟨q.Pf,0,none⟩) d.D.length d.D.length]
structure MP (V:World) (q:LQ) (d:LD) (y:Dy):Prop where
 g:bk V q.Fg (.slice q.A1 d.G.terms.length q.c1) (.slice q.A2 d.G.nons.length q.c2) (.slice q.A3 d.G.rules.length q.c3) d.G
 gF: ∀b,q.Fg b->TF V q.ow (λt=>t=1) b
 l:dG V (TF V q.ow (λt=>t=1)) (.slice q.Al d.D.length q.cl) d.D
 r:mN V q.ow q.Ar q.cr d.rs
 t:TlV V q.ow q.At q.ct (d.T+1) d.tl
 u:RuV V q.ow q.vu d.nu d.ru
 c:CmV V q.ow q.vc (d.T+1) d.nc d.cm
 b:Row V q.ow 7 3 1 q.Ab d.ba.length q.cb (d.ba.map (Value.int .i64))
 a:jd V q.ow q.Aa q.ca y.na (d.T+1) q.ps q.foot y.F
 e:EdV V q.ow q.Ae q.ce (d.T+1) y.ed
 f: ∃vs,Rows V q.ow 10 299 2 q.Pf d.D.length vs (λk=>gK (y.fi k))
structure MK (V:World) (q:LQ) (d:LD) (y:Dy):Prop extends MP V q d y where
 box:Blk V q.M 256 (oc q d y)
 tm:q.ow q.M=0
section
variable {J : Nat -> Prop} {V V' : World} {q : LQ} {d : LD} {y : Dy} {ow' : Nat -> Nat}
theorem MP.gstep (h:MP V q d y) (s:StL J V q.ow V' ow') (f: ¬J 1):bk V' q.Fg (.slice q.A1 d.G.terms.length q.c1) (.slice q.A2 d.G.nons.length q.c2) (.slice q.A3 d.G.rules.length q.c3) d.G/\(∀a,q.Fg a->TF V' ow' (λb=>b=1) a)/\dG V' (TF V' ow' (λb=>b=1)) (.slice q.Al d.D.length q.cl) d.D:=
 ⟨h.g.touch s.t (λa e=>by rw [(h.gF a e).2];exact f),λa e=>(h.gF a e).step s,h.l.step s (λb g=>by rw [g];exact f)⟩
theorem MP.fstep (h:MP V q d y) (s:StL J V q.ow V' ow') (b: ¬J 10): ∃a,Rows V' ow' 10 299 2 q.Pf d.D.length a (λf=>gK (y.fi f)):=by
 obtain⟨a,e⟩:=h.f;exact⟨a,e.step s b⟩
theorem MP.step (h:MP V q d y) (s:StL J V q.ow V' ow') (i: ∀j,1<=j->j<=10-> ¬J j):MP V' {q with ow:=ow'} d y where
 g:=(h.gstep s (i 1 (by omega) (by omega))).1
 gF:=(h.gstep s (i 1 (by omega) (by omega))).2.1
 l:=(h.gstep s (i 1 (by omega) (by omega))).2.2
 r:=h.r.step s (i 1 (by omega) (by omega)) (i 2 (by omega) (by omega)) (i 3 (by omega) (by omega))
 t:=h.t.step s (i 2 (by omega) (by omega)) (i 4 (by omega) (by omega))
 u:=h.u.step s (i 5 (by omega) (by omega))
 c:=h.c.step s (i 2 (by omega) (by omega)) (i 6 (by omega) (by omega))
 b:=h.b.step s (i 7 (by omega) (by omega))
 a:=h.a.step s (i 8 (by omega) (by omega))
 e:=h.e.step s (i 2 (by omega) (by omega)) (i 9 (by omega) (by omega))
 f:=h.fstep s (i 10 (by omega) (by omega))
theorem MK.step (h:MK V q d y) (s:StL J V q.ow V' ow') (b: ∀a,a<=10-> ¬J a):MK V' {q with ow:=ow'} d y where
 toMP:=h.toMP.step s (λa _ hi=>b a hi)
 box:=h.box.touch s.t (by rw [h.tm];exact b 0 (by omega))
 tm:=(s.eq q.M h.box.lt).trans h.tm
theorem MK.below (h:MK V q d y) (b:Below V.heap.size V V') (i:Nat):MK V' {q with ow:=ext V q.ow i} d y:=h.step (StL.new (λ_=>False) b q.ow i) (λ_ _ e=>e)
theorem MP.stM (h:MP V q d y) (a:q.ow q.M=0) (i:Nat) (v:Value):MP (V.setCell ⟨q.M,i,none⟩ v) q d y:=by
 have f:StL (λb=>b=0) V q.ow (V.setCell ⟨q.M,i,none⟩ v) q.ow:=⟨(aa.refl _ V).setCell (p:=⟨q.M,i,none⟩) (λ_=>a) v,λ_ _=>rfl⟩;exact h.step f (λi g _ e=>by omega)
theorem MK.cells (h:MK V q d y):V.cell? ⟨q.M,0,none⟩=some (.slice q.A1 d.G.terms.length q.c1)/\V.cell? ⟨q.M,1,none⟩=some (.slice q.A2 d.G.nons.length q.c2)/\V.cell? ⟨q.M,2,none⟩=some (.slice q.A3 d.G.rules.length q.c3)/\V.cell? ⟨q.M,3,none⟩=some (.int .i64 d.st)/\V.cell? ⟨q.M,4,none⟩=some (.slice q.Al d.D.length q.cl)/\V.cell? ⟨q.M,5,none⟩=some (.slice q.Ar d.rs.length q.cr)/\V.cell? ⟨q.M,6,none⟩=some (.slice q.At d.tl.length q.ct)/\V.cell? ⟨q.M,7,none⟩=some q.vu/\V.cell? ⟨q.M,8,none⟩=some q.vc/\V.cell? ⟨q.M,9,none⟩=some (.slice q.Ab d.ba.length q.cb)/\V.cell? ⟨q.M,10,none⟩=some (.slice q.Aa y.na q.ca)/\V.cell? ⟨q.M,11,none⟩=some (.slice q.Ae y.ed.length q.ce)/\V.cell? ⟨q.M,12,none⟩=some (.slice (some ⟨q.Pf,0,none⟩) d.D.length d.D.length):=
 ⟨(h.box.cell 0).trans rfl,(h.box.cell 1).trans rfl,(h.box.cell 2).trans rfl,(h.box.cell 3).trans rfl,(h.box.cell 4).trans rfl,(h.box.cell 5).trans rfl,(h.box.cell 6).trans rfl,(h.box.cell 7).trans rfl,(h.box.cell 8).trans rfl,(h.box.cell 9).trans rfl,(h.box.cell 10).trans rfl,(h.box.cell 11).trans rfl,(h.box.cell 12).trans rfl⟩
theorem jd.push {j o p:World} {ow:Nat->Nat} {A t:Option Addr} {c u n m b:Nat} {x:Nat->Nat} {E:Nat->Nat->Prop} {F:Nat->Nat->Bool} {S:Nat->Prop} (h:jd j ow A c n m x E F) (H:aG o b S m aj) (v: ∀a,S a->j.heap.size<=a) (G:Below j.heap.size j o)
  (own:p.ownsRow 0 257 1 (.slice t (n+1) u) (n+1) ((List.range n).map (λi=>aq (x i))++[aq b])) (g:o.grownBy p (Value.slice A n c).ownBlock) (w:(Value.slice t (n+1) u).ownBlock=(Value.slice A n c).ownBlock\/(Value.slice t (n+1) u).ownBlock=some o.heap.size):
  jd p (ext j ow 8) t u (n+1) m (upd x n b) (upd E n S) (upd F n aj)/\StL (λs=>s=8) j ow p (ext j ow 8):=by
 have B: ∀a,(Value.slice A n c).ownBlock=some a->a<j.heap.size:=λa f=>(h.row.own.lt a f).2
 have K:aa (λa=>(Value.slice A n c).ownBlock=some a) o p:=(aa.refl _ _).grown g (λa e _=>e);have I:aa (λa=>(Value.slice A n c).ownBlock=some a) j p:=(aa.of_size G _).trans K (λ_ _ e=>e);have C: ∀a,(Value.slice t (n+1) u).ownBlock=some a->(Value.slice A n c).ownBlock=some a\/a=o.heap.size:=λa f=>by
  rcases w with w|w
  ·exact .inl (w▸f)
  ·rw [w]at f;injection f with f;exact .inr f.symm
 have M:=G.size;refine⟨⟨⟨?_,λa f=> ?_⟩,λi hi=> ?_,λi a hi f=> ?_,λi s a hi L k l=> ?_⟩,StL.ext (I.mono λa _ f=>h.row.tag a f) 8⟩
 ·rw [List.range_succ,List.map_append,List.map_singleton,aC];have:(List.range n).map (λi=>aq (upd x n b i))=(List.range n).map (λi=>aq (x i)):=List.map_congr_left λi hi=>by rw [aN (by have:=List.mem_range.1 hi;omega)]
  rw [this];exact own
 ·rcases C a f with e|e
  ·rw [bV (B a e)];exact h.row.tag a e
  ·exact dz (by omega)
 ·by_cases e:i=n
  ·subst e;rw [aC,aC,aC];exact H.touch K (λa f e=>by have:=v a f;have:=B a e;omega)
  ·rw [aN e,aN e,aN e];exact(h.set i (by omega)).touch I (λa f r=>(h.tag i a (by omega) f).2 r)
 ·by_cases e:i=n
  ·subst e;rw [aC]at f;refine⟨dz (v a f),λe=> ?_⟩;have k:=v a f;have l:=H.lt a f;rcases C a e with e|e
   ·have:=B a e;omega
   ·omega
  ·rw [aN e]at f;have k:=(h.set i (by omega)).lt a f;refine⟨(bV k).trans (h.tag i a (by omega) f).1,λr=> ?_⟩;rcases C a r with r|r
   ·exact(h.tag i a (by omega) f).2 r
   ·omega
 ·by_cases D:i=n
  ·by_cases z:s=n
   ·omega
   ·exfalso;rw [D,aC]at k;rw [aN z]at l;have:=v a k;have:=(h.set s (by omega)).lt a l;omega
  ·rw [aN D]at k;by_cases z:s=n
   ·exfalso;rw [z,aC]at l;have:=v a l;have:=(h.set i (by omega)).lt a k;omega
   ·rw [aN z]at l;exact h.apart i s a (by omega) (by omega) k l
theorem jd.put {k l:World} {ow:Nat->Nat} {A:Option Addr} {c n m i:Nat} {p:Nat->Nat} {o:Nat->Nat->Prop} {F:Nat->Nat->Bool} {f:Nat->Bool} (h:jd k ow A c n m p o F) (hi:i<n) (s:aG l (p i) (o i) m f) (t:aa (o i) k l):
  jd l (ext k ow 8) A c n m p o (bv F i f)/\StL (λg=>g=8) k ow l (ext k ow 8):=by
 refine⟨⟨⟨t.own h.row.own (λb a e=>(h.tag i b hi e).2 a),λb a=>(bV (h.row.own.lt b a).2).trans (h.row.tag b a)⟩,λg j=> ?_,λg b j a=>⟨(bV ((h.set g j).lt b a)).trans (h.tag g b j a).1,(h.tag g b j a).2⟩,h.apart⟩,StL.ext (t.mono λb _ a=>(h.tag i b hi a).1) 8⟩;by_cases e:g=i
 ·subst e;rw [bm];exact s
 ·rw [cD e];exact(h.set g j).touch t (λb a r=>e (h.apart g i b j hi a r))
theorem jd.at_ {f:World} {ow:Nat->Nat} {A:Option Addr} {c n m i:Nat} {b:Nat->Nat} {o:Nat->Nat->Prop} {F:Nat->Nat->Bool} (h:jd f ow A c n m b o F) (hi:i<n): ∃a,A=some ⟨a,0,none⟩/\f.cell? ⟨a,i,none⟩=some (aq (b i)):=by
 obtain⟨v,G,w,t,B,C,D,p⟩:=Rd.of_own h.row.own;injection t with j k l
 subst j k l;obtain⟨g,u,r,E,s⟩:=p (by omega);subst r;have:u=0:=by
  rcases h.row.own.2 with⟨e,-⟩|⟨a,x,z,e,-⟩
  ·cases e
  ·injection e with e;injection e with e;injection e
 subst this;exact⟨g,rfl,by have:=s i (aq (b i)) (by rw [List.getElem?_map,List.getElem?_range hi];rfl);rwa [Nat.zero_add]at this⟩
theorem MK.put {q':LQ} {d':LD} {a:Dy} {i:Nat} {v:Value} (e:Blk V q.M 256 (oc q d y)) (g:MP V q' d' a) (hM:q'.M=q.M) (b:q'.ow q'.M=0) (f:(oc q d y).setIfInBounds i v=oc q' d' a):MK (V.setCell ⟨q.M,i,none⟩ v) q' d' a where
 toMP:=by rw [<-hM];exact g.stM b i v
 box:=by rw [hM];have:=e.put i v;rwa [f]at this
 tm:=b
theorem MK.putA {A:Option Addr} {c n':Nat} {ps:Nat->Nat} {foot:Nat->Nat->Prop} {F:Nat->Nat->Bool} (h:MK V q d y) (j:jd V' ow' A c n' (d.T+1) ps foot F) (s:StL (λa=>a=8) V q.ow V' ow'):
  ∃g,MK (V'.setCell ⟨q.M,10,none⟩ (.slice A n' c)) g d {y with na:=n',F:=F}/\g.M=q.M/\StL (λa=>a=0\/a=8) V q.ow (V'.setCell ⟨q.M,10,none⟩ (.slice A n' c)) g.ow:=by
 have i:ow' q.M=0:=(s.eq q.M h.box.lt).trans h.tm;have f:=h.gstep s (by omega);refine⟨{q with ow:=ow',Aa:=A,ca:=c,ps:=ps,foot:=foot},MK.put (q:=q) (d:=d) (y:=y) (q':={q with ow:=ow',Aa:=A,ca:=c,ps:=ps,foot:=foot}) (h.box.touch s.t (by rw [h.tm];omega)) ?_ rfl i rfl,rfl,?_⟩
 ·exact⟨f.1,f.2.1,f.2.2,h.r.step s (by omega) (by omega) (by omega),h.t.step s (by omega) (by omega),h.u.step s (by omega),h.c.step s (by omega) (by omega),h.b.step s (by omega),j,h.e.step s (by omega) (by omega),h.fstep s (by omega)⟩
 ·exact⟨(s.t.mono (S':=λb=>q.ow b=0\/q.ow b=8) (λb _ e=> .inr e)).setCell (p:=⟨q.M,10,none⟩) (λ_=> .inl h.tm) _,s.eq⟩
theorem MK.putF {F:Nat->Nat->Bool} (h:MK V q d y) (e:jd V' ow' q.Aa q.ca y.na (d.T+1) q.ps q.foot F) (s:StL (λf=>f=8) V q.ow V' ow'):MK V' {q with ow:=ow'} d {y with F:=F}:=by
 have b:ow' q.M=0:=(s.eq q.M h.box.lt).trans h.tm;have a:=h.gstep s (by omega);exact⟨⟨a.1,a.2.1,a.2.2,h.r.step s (by omega) (by omega) (by omega),h.t.step s (by omega) (by omega),h.u.step s (by omega),h.c.step s (by omega) (by omega),h.b.step s (by omega),e,h.e.step s (by omega) (by omega),h.fstep s (by omega)⟩,h.box.touch s.t (by rw [h.tm];omega),b⟩
theorem MK.putE {A:Option Addr} {c:Nat} {ed:List Ed} (h:MK V q d y) (j:EdV V' ow' A c (d.T+1) ed) (s:StL (λa=>a=9) V q.ow V' ow'):
  ∃g,MK (V'.setCell ⟨q.M,11,none⟩ (.slice A ed.length c)) g d {y with ed:=ed}/\g.M=q.M/\StL (λa=>a=0\/a=9) V q.ow (V'.setCell ⟨q.M,11,none⟩ (.slice A ed.length c)) g.ow:=by
 have i:ow' q.M=0:=(s.eq q.M h.box.lt).trans h.tm;have f:=h.gstep s (by omega);refine⟨{q with ow:=ow',Ae:=A,ce:=c},MK.put (q:=q) (d:=d) (y:=y) (q':={q with ow:=ow',Ae:=A,ce:=c}) (h.box.touch s.t (by rw [h.tm];omega)) ?_ rfl i rfl,rfl,?_⟩
 ·exact⟨f.1,f.2.1,f.2.2,h.r.step s (by omega) (by omega) (by omega),h.t.step s (by omega) (by omega),h.u.step s (by omega),h.c.step s (by omega) (by omega),h.b.step s (by omega),h.a.step s (by omega),j,h.fstep s (by omega)⟩
 ·exact⟨(s.t.mono (S':=λb=>q.ow b=0\/q.ow b=9) (λb _ e=> .inr e)).setCell (p:=⟨q.M,11,none⟩) (λ_=> .inl h.tm) _,s.eq⟩
theorem MK.putB {A:Option Addr} {c n':Nat} {ba:List Int} (h:MK V q d y) (k:n'=ba.length) (j:Row V' ow' 7 3 1 A n' c (ba.map (Value.int .i64))) (s:StL (λa=>a=7) V q.ow V' ow'):
  ∃g,MK (V'.setCell ⟨q.M,9,none⟩ (.slice A n' c)) g {d with ba:=ba} y/\g.M=q.M/\StL (λa=>a=0\/a=7) V q.ow (V'.setCell ⟨q.M,9,none⟩ (.slice A n' c)) g.ow:=by
 subst k;have i:ow' q.M=0:=(s.eq q.M h.box.lt).trans h.tm;have f:=h.gstep s (by omega);refine⟨{q with ow:=ow',Ab:=A,cb:=c},MK.put (q:=q) (d:=d) (y:=y) (q':={q with ow:=ow',Ab:=A,cb:=c}) (h.box.touch s.t (by rw [h.tm];omega)) ?_ rfl i rfl,rfl,?_⟩
 ·exact⟨f.1,f.2.1,f.2.2,h.r.step s (by omega) (by omega) (by omega),h.t.step s (by omega) (by omega),h.u.step s (by omega),h.c.step s (by omega) (by omega),j,h.a.step s (by omega),h.e.step s (by omega) (by omega),h.fstep s (by omega)⟩
 ·exact⟨(s.t.mono (S':=λb=>q.ow b=0\/q.ow b=7) (λb _ e=> .inr e)).setCell (p:=⟨q.M,9,none⟩) (λ_=> .inl h.tm) _,s.eq⟩
theorem MK.putR {A:Option Addr} {c n':Nat} {rs:List (List Int)} (h:MK V q d y) (j:n'=rs.length) (k:mN V' ow' A c rs) (s:StL (λa=>a=3) V q.ow V' ow'):
  ∃g,MK (V'.setCell ⟨q.M,5,none⟩ (.slice A n' c)) g {d with rs:=rs} y/\g.M=q.M/\StL (λa=>a=0\/a=3) V q.ow (V'.setCell ⟨q.M,5,none⟩ (.slice A n' c)) g.ow:=by
 subst j;have i:ow' q.M=0:=(s.eq q.M h.box.lt).trans h.tm;have f:=h.gstep s (by omega);refine⟨{q with ow:=ow',Ar:=A,cr:=c},MK.put (q:=q) (d:=d) (y:=y) (q':={q with ow:=ow',Ar:=A,cr:=c}) (h.box.touch s.t (by rw [h.tm];omega)) ?_ rfl i rfl,rfl,?_⟩
 ·exact⟨f.1,f.2.1,f.2.2,k,h.t.step s (by omega) (by omega),h.u.step s (by omega),h.c.step s (by omega) (by omega),h.b.step s (by omega),h.a.step s (by omega),h.e.step s (by omega) (by omega),h.fstep s (by omega)⟩
 ·exact⟨(s.t.mono (S':=λb=>q.ow b=0\/q.ow b=3) (λb _ e=> .inr e)).setCell (p:=⟨q.M,5,none⟩) (λ_=> .inl h.tm) _,s.eq⟩
theorem MK.putT {A:Option Addr} {c n':Nat} {tl:List (List Tl)} (h:MK V q d y) (j:n'=tl.length) (k:TlV V' ow' A c (d.T+1) tl) (s:StL (λa=>a=4) V q.ow V' ow'):
  ∃g,MK (V'.setCell ⟨q.M,6,none⟩ (.slice A n' c)) g {d with tl:=tl} y/\g.M=q.M/\StL (λa=>a=0\/a=4) V q.ow (V'.setCell ⟨q.M,6,none⟩ (.slice A n' c)) g.ow:=by
 subst j;have i:ow' q.M=0:=(s.eq q.M h.box.lt).trans h.tm;have f:=h.gstep s (by omega);refine⟨{q with ow:=ow',At:=A,ct:=c},MK.put (q:=q) (d:=d) (y:=y) (q':={q with ow:=ow',At:=A,ct:=c}) (h.box.touch s.t (by rw [h.tm];omega)) ?_ rfl i rfl,rfl,?_⟩
 ·exact⟨f.1,f.2.1,f.2.2,h.r.step s (by omega) (by omega) (by omega),k,h.u.step s (by omega),h.c.step s (by omega) (by omega),h.b.step s (by omega),h.a.step s (by omega),h.e.step s (by omega) (by omega),h.fstep s (by omega)⟩
 ·exact⟨(s.t.mono (S':=λb=>q.ow b=0\/q.ow b=4) (λb _ e=> .inr e)).setCell (p:=⟨q.M,6,none⟩) (λ_=> .inl h.tm) _,s.eq⟩
theorem MK.madeU {v:Value} {n':Nat} {ru:Nat->List Int} (h:MK V q d y) (j:RuV V' ow' v n' ru) (s:StL (λa=>a=5) V q.ow V' ow'):
  ∃g,MK (V'.setCell ⟨q.M,7,none⟩ v) g {d with nu:=n',ru:=ru} y/\g.M=q.M/\StL (λa=>a=0\/a=5) V q.ow (V'.setCell ⟨q.M,7,none⟩ v) g.ow:=by
 have i:ow' q.M=0:=(s.eq q.M h.box.lt).trans h.tm;have f:=h.gstep s (by omega);refine⟨{q with ow:=ow',vu:=v},MK.put (q:=q) (d:=d) (y:=y) (q':={q with ow:=ow',vu:=v}) (h.box.touch s.t (by rw [h.tm];omega)) ?_ rfl i rfl,rfl,?_⟩
 ·exact⟨f.1,f.2.1,f.2.2,h.r.step s (by omega) (by omega) (by omega),h.t.step s (by omega) (by omega),j,h.c.step s (by omega) (by omega),h.b.step s (by omega),h.a.step s (by omega),h.e.step s (by omega) (by omega),h.fstep s (by omega)⟩
 ·exact⟨(s.t.mono (S':=λb=>q.ow b=0\/q.ow b=5) (λb _ e=> .inr e)).setCell (p:=⟨q.M,7,none⟩) (λ_=> .inl h.tm) _,s.eq⟩
theorem MK.putU {n':Nat} {ru:Nat->List Int} (h:MK V q d y) (e:RuV V' ow' q.vu n' ru) (s:StL (λf=>f=5) V q.ow V' ow'):MK V' {q with ow:=ow'} {d with nu:=n',ru:=ru} y:=by
 have b:ow' q.M=0:=(s.eq q.M h.box.lt).trans h.tm;have a:=h.gstep s (by omega);exact⟨⟨a.1,a.2.1,a.2.2,h.r.step s (by omega) (by omega) (by omega),h.t.step s (by omega) (by omega),e,h.c.step s (by omega) (by omega),h.b.step s (by omega),h.a.step s (by omega),h.e.step s (by omega) (by omega),h.fstep s (by omega)⟩,h.box.touch s.t (by rw [h.tm];omega),b⟩
theorem MK.madeC {v:Value} {n':Nat} {cm:Nat->List Co} (h:MK V q d y) (j:CmV V' ow' v (d.T+1) n' cm) (s:StL (λa=>a=6) V q.ow V' ow'):
  ∃g,MK (V'.setCell ⟨q.M,8,none⟩ v) g {d with nc:=n',cm:=cm} y/\g.M=q.M/\StL (λa=>a=0\/a=6) V q.ow (V'.setCell ⟨q.M,8,none⟩ v) g.ow:=by
 have i:ow' q.M=0:=(s.eq q.M h.box.lt).trans h.tm;have f:=h.gstep s (by omega);refine⟨{q with ow:=ow',vc:=v},MK.put (q:=q) (d:=d) (y:=y) (q':={q with ow:=ow',vc:=v}) (h.box.touch s.t (by rw [h.tm];omega)) ?_ rfl i rfl,rfl,?_⟩
 ·exact⟨f.1,f.2.1,f.2.2,h.r.step s (by omega) (by omega) (by omega),h.t.step s (by omega) (by omega),h.u.step s (by omega),j,h.b.step s (by omega),h.a.step s (by omega),h.e.step s (by omega) (by omega),h.fstep s (by omega)⟩
 ·exact⟨(s.t.mono (S':=λb=>q.ow b=0\/q.ow b=6) (λb _ e=> .inr e)).setCell (p:=⟨q.M,8,none⟩) (λ_=> .inl h.tm) _,s.eq⟩
theorem MK.putC {k P:Nat} {z:Value} {l:List Co} (h:MK V q d y) (p:q.vc= .slice (some ⟨P,0,none⟩) d.nc d.nc) (D:k<d.nc) (x:jA V (TF V q.ow (λr=>r=2)) (d.T+1) z l):MK (V.setCell ⟨P,k,none⟩ z) q {d with cm:=upd d.cm k l} y/\StL (λb=>b=6) V q.ow (V.setCell ⟨P,k,none⟩ z) q.ow:=by
 rcases h.c with⟨e,-⟩|⟨C,e,f,t,u⟩
 ·rw [p]at e;cases e
 ·rw [p]at e
  iterate 3
   injection e with e
  subst e;have a:StL (λb=>b=6) V q.ow (V.setCell ⟨P,k,none⟩ z) q.ow:=⟨(aa.refl _ V).setCell (p:=⟨P,k,none⟩) (λ_=>f.2) z,λ_ _=>rfl⟩;have j:=h.gstep a (by omega);refine⟨⟨⟨j.1,j.2.1,j.2.2,h.r.step a (by omega) (by omega) (by omega),h.t.step a (by omega) (by omega),h.u.step a (by omega),.inr ⟨P,p,⟨Nat.lt_of_lt_of_le f.1 a.size,f.2⟩,λb o=>(World.frozen?_setCell ..).trans (t b o),λb o=> ?_⟩,h.b.step a (by omega),h.a.step a (by omega),h.e.step a (by omega) (by omega),h.fstep a (by omega)⟩,h.box.touch a.t (by rw [h.tm];omega),h.tm⟩,a⟩;obtain⟨B,s,v⟩:=u b o;dsimp only;by_cases i:b=k
  ·subst i;rw [aC];exact⟨z,World.cell?_setCell_same' _ _ _ (by rw [s];rfl),x.step a (λr w=>by omega)⟩
  ·rw [aN i];exact⟨B,by rw [World.cell?_setCell_other _ _ _ _ (λg=>by injection g with _ g;exact i g.symm)];exact s,v.step a (λr w=>by omega)⟩
theorem MK.putN {fi:Nat->List (Int×Nat)} (h:MK V q d y) (e: ∃i,Rows V' ow' 10 299 2 q.Pf d.D.length i (λg=>gK (fi g))) (s:StL (λf=>f=10) V q.ow V' ow'):MK V' {q with ow:=ow'} d {y with fi:=fi}:=by
 have b:ow' q.M=0:=(s.eq q.M h.box.lt).trans h.tm;have a:=h.gstep s (by omega);exact⟨⟨a.1,a.2.1,a.2.2,h.r.step s (by omega) (by omega) (by omega),h.t.step s (by omega) (by omega),h.u.step s (by omega),h.c.step s (by omega) (by omega),h.b.step s (by omega),h.a.step s (by omega),h.e.step s (by omega) (by omega),e⟩,h.box.touch s.t (by rw [h.tm];omega),b⟩
end
end
end Go.Proofs.YthlbjgabhpdbfaaGreat
namespace Go.Proofs.YthlbjgabhpdbfaaGreat
open Go.Proofs.Tryz
section
open Go.RowKit
attribute [local irreducible] wpStill aB aO
end
section
open Go.RowKit
attribute [local irreducible] wpStill aB aO
end
section
open Go.RowKit
attribute [local irreducible] wpStill aB aO
def jL (t:List It) (s:Int):Int:=match t.find? (λx=>decide (x.1=s))with|some x=>x.2|none=> -1
theorem pv: ∀{t:List It} {s:Int} {i:Nat} {x:It},t[i]? =some x->x.1=s->(∀(j:Nat) y,j<i->t[j]? =some y->y.1≠s)->jL t s=x.2
 |[],_,_,_,h,_,_=>by simp at h
 |y::r,s,0,x,h,hx,_=>by
  simp at h;subst h;unfold jL;rw [List.find?_cons_of_pos (by simpa using hx)]
 |y::r,s,i+1,x,h,hx,hno=>by
  have a:=hno 0 y (by omega) rfl;have:=pv (t:=r) (s:=s) (i:=i) (x:=x) (by simpa using h) hx (λj e f b=>hno (j+1) e (by omega) (by simpa using b));unfold jL at this⊢;rw [List.find?_cons_of_neg (by simpa using a)];exact this
theorem wB {t:List It} {s:Int} (h: ∀(j:Nat) y,t[j]? =some y->y.1≠s):jL t s= -1:=by
 unfold jL;rw [List.find?_eq_none.2];intro f b;obtain⟨j,a,e⟩:=List.getElem_of_mem b;have:=h j f (by rw [List.getElem?_eq_getElem a,e]);simpa using this
def dM (D:List (List It×List It)) (i s:Int):Int:=if i<0\/(D.length:Int)<=i then -1 else match D[i.toNat]? with|some d=>jL d.2 s|none=> -1
theorem uY {D:List (List It×List It)} {i s:Int} (h:i<0\/(D.length:Int)<=i):dM D i s= -1:=if_pos h
theorem o0 {D:List (List It×List It)} {i:Nat} {s:Int} {d:List It×List It} (h:D[i]? =some d):dM D i s=jL d.2 s:=by
 have:=(List.getElem?_eq_some_iff.1 h).1;unfold dM;rw [if_neg (by omega),Int.toNat_natCast,h]
theorem oE {w:World} {F:Nat->Prop} {v:Value} {D:List (List It×List It)} (h:dG w F v D): ∃A n c,v= .slice A n c:=by
 obtain⟨a,⟨A,n,c,h,-⟩,-⟩:=h;exact⟨A,n,c,h⟩
end
section
open Go.RowKit
attribute [local irreducible] wpStill aB aO
theorem vw {w:World} {F:Nat->Prop} {v:Value} {D:List (List It×List It)} (h:dG w F v D) (r: ∀x,F x->x<w.heap.size) (i s:Int):
  Calls prog 74 #[v,.int .i64 i,.int .i64 s] w (aI w (.int .i64 (dM D i s))):=by
 obtain⟨A,n,c,rfl⟩:=oE h;obtain⟨k,bq,a3,t⟩:=h.at_;unfold maxLen at a3;obtain⟨u,g⟩: ∃u,u=dM D i s:=⟨_,rfl⟩;rw [<-g];by_cases a2:i<0
 ·have b:u= -1:=g.trans (uY (.inl a2));clear g;obtain⟨ai,Q,ak,o,I⟩:=aX h k t b r;clear h k t b r
  go_enter func74,ntmps74
  go_wp2_with fail
  go_ret
  exact⟨au o.out.symm,Below.refl _ _⟩
 ·by_cases T:(n:Int)<=i
  ·have b:u= -1:=g.trans (uY (.inr (by rw [<-k];exact T)));clear g;obtain⟨ai,Q,ak,o,I⟩:=aX h k t b r;clear h k t b r
   go_enter func74,ntmps74
   go_wp2_with fail
   go_ret
   exact⟨au o.out.symm,Below.refl _ _⟩
  ·obtain⟨E,rfl⟩:=Int.eq_ofNat_of_zero_le (by omega:0<=i);have a5:E<n:=by omega
   have bp:(E:Int)<(n:Int):=by omega
   obtain⟨x,bt,rfl,U,W⟩:=t (by omega);obtain⟨d,C⟩: ∃l,D[E]? =some l:=⟨_,List.getElem?_eq_getElem (by rw [<-k];exact a5)⟩;obtain⟨bu,bw,a0,a1,ba,H⟩:=W E d C;obtain⟨bc,B,bi,rfl,-⟩:=id H;obtain⟨X,br,a4,-⟩:=aH.at_ H;unfold maxLen at a4;rw [o0 C]at g;have ad: ∀(i:Nat) l,d.2[i]? =some l->l.1=s->(∀(a:Nat) y,a<i->d.2[a]? =some y->y.1≠s)->u=l.2:=λi l M x c=>g.trans (pv M x c)
   have Y:(∀(a:Nat) y,d.2[a]? =some y->y.1≠s)->u= -1:=λM=>g.trans (wB M)
   clear g W a0 ba t h;obtain⟨Q,be,R,aS,al,aT,bd,I⟩:=dA k C X ad Y H U r;clear k C X ad Y H U r
   go_enter func74,ntmps74
   go_wp2_with fail
   go_loopw [23] (λi wr=> ∃a:Nat,a<=B/\i= .int .i64 a/\Below w.heap.size w wr/\ ∀(q:Nat) y,q<a->d.2[q]? =some y->y.1≠s) (λi _=>B - (intOf i).toNat)
   case atStart=>exact⟨0,Nat.zero_le _,rfl,Below.refl _ _,λq y f=>absurd f (by omega)⟩
   case round=>
    clear a1;obtain⟨a,bo,rfl,le,f⟩:=hrel;by_cases a6:a<B
    ·have a7:(a:Int)<(B:Int):=(by omega);obtain⟨-,-,-,O⟩:=aH.at_ (aT.out.below le I.out);obtain⟨bh,bs,rfl,-,N⟩:=O (by omega);obtain⟨⟨P,bb⟩,p⟩: ∃l,d.2[a]? =some l:=⟨_,List.getElem?_eq_getElem (by rw [<-R.out];exact a6)⟩;obtain⟨a8,a9⟩:=N a _ p;simp only at a8 a9;have G:=le.alloc le.size (.cells #[.int .i64 P,.int .i64 bb] 131);by_cases z:P=s
     ·subst z;have b:=aS.out a _ p rfl f;simp only at b;clear N O;obtain⟨ap,S,o,K,L⟩:=aX p f b le G;clear p f b le G
      go_wp2_with fail
      go_ret
      exact⟨au o.out.symm,L.out⟩
     ·have bl:(P==s)=false:=(by simpa using z);have Z: ∀(q:Nat) y,q<a+1->d.2[q]? =some y->y.1≠s:=λq y T j=>by
       by_cases e:q=a
       ·subst e;rw [p]at j;injection j with j;subst j;exact z
       ·exact f q y (by omega) j
      clear N O;obtain⟨ap,S,an,bg,K,L⟩:=aM p f Z z le G;clear p f Z z le G
      go_wp2_with fail
      go_roundw
      case rel=>exact⟨a+1,by omega,by go_num,L.out,an.out⟩
      case measure=>simp [intOf];omega
    ·have a7: ¬(a:Int)<(B:Int):=(by omega);have b:=al.out (λq y j=>f q y (by have:=(List.getElem?_eq_some_iff.1 j).1;have:=R.out;omega) j);obtain⟨S,o,K⟩:=aK f b le;clear f b le
     go_wp2_with fail
     go_ret
     exact⟨au o.out.symm,K.out⟩
end
section
open Go.RowKit
attribute [local irreducible] wpStill aB aO
end
open Go.RowKit
attribute [local irreducible] wpStill aB aO
def i6 (m:Nat) (l:List Int):Nat->Bool:=l.foldl (λf t=>cJ m f t) aj
theorem y8 (m:Nat) (l:List Int) (t:Int):i6 m (l++[t])=cJ m (i6 m l) t:=by unfold i6;rw [List.foldl_append];rfl
theorem zV {m:Nat} {l:List Int} {t:Nat}:i6 m l t=true↔(t:Int)∈l/\t<m:=by
 have g: ∀(l:List Int) (a:Nat->Bool),(l.foldl (λa t=>cJ m a t) a) t=true↔a t=true\/((t:Int)∈l/\t<m):=λl=>by
  induction l with
  |nil=>intro a;simp
  |cons o k f=>
   intro a;rw [List.foldl_cons,f];unfold cJ;simp only [Bool.or_eq_true,Bool.and_eq_true,decide_eq_true_eq,List.mem_cons];constructor
   ·rintro((h|⟨⟨i,j⟩,e⟩)|h)
    ·exact .inl h
    ·exact .inr ⟨.inl e,by omega⟩
    ·exact .inr ⟨.inr h.1,h.2⟩
   ·rintro(h|⟨h|h,b⟩)
    ·exact .inl (.inl h)
    ·exact .inl (.inr ⟨⟨by omega,by omega⟩,h⟩)
    ·exact .inr ⟨h,b⟩
 have:=g l aj;simpa [i6,aj]using this
theorem xH {m:Nat} {f:Nat->Bool} (g: ∀a,m<=a->f a=false):i6 m ((dV f m).map (λn:Nat=>(n:Int)))=f:=by
 funext a
 refine fl ?_;rw [zV];unfold dV;constructor
 ·rintro⟨h,-⟩;obtain⟨j,i,e⟩:=List.mem_map.1 h;have:j=a:=by omega
  subst this;exact(List.mem_filter.1 i).2
 ·intro h;have b:a<m:=by
   apply Classical.byContradiction;intro k;rw [g a (by omega)]at h;cases h
  exact⟨List.mem_map.2 ⟨a,List.mem_filter.2 ⟨List.mem_range.2 b,h⟩,rfl⟩,b⟩
def Bl (V:World) (m:Nat) (f:Nat->Bool) (e:Ending) (V':World):Prop:= ∃b S,e= .returned (aq b)/\aG V' b S m f/\(∀k,S k->V.heap.size<=k)/\Below V.heap.size V V'
theorem wZ {V:World} {M T c1:Nat} {A1:Option Addr} (X:V.cell? ⟨M,0,none⟩=some (.slice A1 T c1)) (hT:T<=120) {F:Nat->Prop} {v:Value} {l:List Int} (r:RdI V F v l) (E: ∀i,F i->i<V.heap.size):
  Calls prog 225 #[aq M,v] V (Bl V (T+1) (i6 (T+1) l)):=by
 obtain⟨A,n,c,rfl,-⟩:=id r;obtain⟨L,ap,Y,p⟩:=RdI.at_ r;unfold maxLen at Y;have t:=kZ ((T:Int)+1) V;rw [show(min (max ((T:Int)+1) 0) 4096).toNat=T+1 by omega]at t;have aS:IntKind.i64.wrap ((T:Int)+1)=(T:Int)+1:=by rw [IntKind.wrap_i64];omega
 clear p;obtain⟨U,S,C,x⟩:=aA r E L t;clear r E L t;unfold aq
 go_enter func225,ntmps225
 go_wp2_with fail
 refine x.out.mono ?_;rintro e w1 ⟨rfl,b,g⟩;have u: ∀a,New (λ_=>False) V w1 a->V.heap.size<=a:=λa K=>(K.resolve_left id).1
 obtain⟨i,H⟩: ∃q,q=V.heap.size+1:=⟨_,rfl⟩;rw [<-H]at b⊢;obtain⟨k,G⟩: ∃k,k=New (λ_=>False) V w1:=⟨_,rfl⟩;rw [<-G]at b u;clear H G x X;obtain⟨h,f,B⟩:=aK b g u;clear b g u
 go_wp2_with fail
 go_loopw [18] (λw wr=> ∃a:Nat,a<=n/\w= .int .i64 a/\aG wr i k (T+1) (i6 (T+1) (l.take a))/\Below V.heap.size V wr) (λw _=>n - (intOf w).toNat)
 case atStart=>exact⟨0,Nat.zero_le _,rfl,h.out,f.out⟩
 case round=>
  clear h f;obtain⟨a,K,rfl,b,g⟩:=hrel;by_cases ad:a<n
  ·have ai:(a:Int)<(n:Int):=by omega
   have N:=U.out.below g S.out;obtain⟨-,-,-,p⟩:=RdI.at_ N;obtain⟨al,aT,rfl,an,I⟩:=p (by omega);obtain⟨j,s⟩: ∃j,l[a]? =some j:=⟨_,List.getElem?_eq_getElem (by rw [<-C.out];exact ad)⟩;have Z:=I a j s;have o:=j1 b j;have P:cJ (T+1) (i6 (T+1) (l.take a)) j=i6 (T+1) (l.take (a+1)):=by rw [<-y8,nW s]
   rw [P]at o;unfold aq at o;clear p I N P;obtain⟨z,ak,f,h⟩:=aA o s g b;clear o s g b
   go_wp2_with fail
   with_reducible refine z.out.mono ?_
   rintro e w2 ⟨rfl,O,Q⟩;have D:=Q.toBelow (B:=V.heap.size) B.out f.out f.out.size;clear z h f Q Z;obtain⟨W,R⟩:=av O D;clear O D
   go_wp2_with fail
   go_roundw
   case rel=>exact⟨a+1,by omega,by go_num,W.out,R.out⟩
   case measure=>simp [intOf];omega
  ·have ai: ¬(a:Int)<(n:Int):=by omega
   rw [List.take_of_length_le (by have:=C.out;omega)]at b;obtain⟨h,f⟩:=av b g;clear b g
   go_wp2_with fail
   go_ret
   exact⟨i,k,rfl,h.out,B.out,f.out⟩
section
variable {V : World} {q : LQ} {d : LD} {y : Dy}
def i8 (y:Dy):Dy:={y with na:=y.na+1,F:=upd y.F y.na aj}
def ui (V:World) (q:LQ) (d:LD) (y:Dy) (J:Nat->Prop) (V':World):Prop:= ∃q',MK V' q' d y/\q'.M=q.M/\StL J V q.ow V' q'.ow
theorem sR (h:MK V q d y) (hT:d.T<=120) (bE:y.na<=100000000):Calls prog 196 #[aq q.M] V λe V'=>e= .returned (.int .i64 (y.na:Int))/\ui V q d (i8 y) (λk=>k=0\/k=8) V':=by
 obtain⟨p,-,-,-,-,-,-,-,-,-,r,-,-⟩:=h.cells;have ak:=h.box.frozen 10;obtain⟨f,D⟩: ∃q,q=d.G.terms.length:=⟨_,rfl⟩;have b1:f<=120:=by rw [D];exact hT
 rw [<-D]at p;obtain⟨n,Y⟩: ∃q,q=y.na:=⟨_,rfl⟩;rw [<-Y]at r bE⊢;obtain⟨a,S⟩: ∃b,b=q.M:=⟨_,rfl⟩;obtain⟨A,Q⟩: ∃b,b=q.Aa:=⟨_,rfl⟩;obtain⟨c,U⟩: ∃b,b=q.ca:=⟨_,rfl⟩;obtain⟨t,R⟩: ∃b,b=q.A1:=⟨_,rfl⟩;obtain⟨v,W⟩: ∃b,b=q.c1:=⟨_,rfl⟩;rw [<-S]at p r ak⊢;rw [<-Q,<-U]at r;rw [<-R,<-W]at p;have M:=λbS=>kZ ((f:Int)+1) bS
 rw [show(min (max ((f:Int)+1) 0) 4096).toNat=f+1 by omega]at M;have b3:IntKind.i64.wrap ((f:Int)+1)=(f:Int)+1:=by rw [IntKind.wrap_i64];omega
 clear hT;obtain⟨bo,a2,z,a1,bp,br,bq,bs,a0⟩:=dQ h D Y S Q U R W M;clear h D Y S Q U R W M;unfold aq
 go_enter func196,ntmps196
 go_wp2_with fail
 have b2:IntKind.i64.wrap ((n:Int)+1 - 1)=(n:Int):=by rw [IntKind.wrap_i64];omega
 refine cQ (λaT=>aT.cell? ⟨a,0,none⟩=some (.slice t f v)/\aT.cell? ⟨a,10,none⟩=some (.slice A n c)) 12 15 (by kernel_rfl) (by kernel_rfl) ⟨p,r⟩ ?_;simp only [List.take_succ_cons,List.take_zero,List.drop_succ_cons,List.drop_zero]
 iterate 12
  refine bI ?_ (by rfl) (λwS hwS=> ?_) ?_
  rotate_left
  ·(try dsimp only at hwS)
   go_simp
   all_goals with_reducible rfl
  simp only [Act.put,List.setIfInBounds_toArray,List.set_cons_zero,List.set_cons_succ]
 refine bU ?_;have B:Below V.heap.size V V.drew:=(Below.refl _ _).drew;have P:=bo.out.below B 8;have ad:V.drew.cell? ⟨a,0,none⟩=some (.slice t f v):=p;have ai:V.drew.cell? ⟨a,10,none⟩=some (.slice A n c):=r;have bR:V.drew.frozen? ⟨a,10,none⟩=false:=ak;have F:StL (λ_=>False) V q.ow V.drew (ext V q.ow 8):=StL.new _ B _ _;clear p r ak;generalize bc:V.drew=s at *;obtain⟨w,o⟩: ∃b,b={q with ow:=ext V q.ow 8}:=⟨_,rfl⟩;rw [<-o]at P;have a7:a=w.M:=by rw [o];exact a1.out
 have a6:A=w.Aa/\c=w.ca:=by rw [o];exact⟨bp.out,br.out⟩
 have F:StL (λk=>k=0\/k=8) V q.ow s w.ow:=by rw [o];exact F.mono λ_ e=>e.elim
 obtain⟨g,bW,bx,bY,a3,I,l⟩:=de P B F bc o a7 a6;clear P B F bc o a7 a6;refine ay ?_
 go_wp2_with fail
 refine(a0.out s).mono ?_;rintro e w1 ⟨rfl,E,u⟩;have X: ∀Z,New (λ_=>False) s w1 Z->s.heap.size<=Z:=λZ bC=>(bC.resolve_left id).1
 have x:w1.cell? ⟨a,0,none⟩=some (.slice t f v)/\w1.cell? ⟨a,10,none⟩=some (.slice A n c):=⟨(u.cell (p:=⟨a,0,none⟩) (World.block_lt_of_cell? _ _ ad)).trans ad,(u.cell (p:=⟨a,10,none⟩) (World.block_lt_of_cell? _ _ ai)).trans ai⟩;clear a0 ad ai bR;obtain⟨j,i⟩: ∃b,b=s.heap.size+1:=⟨_,rfl⟩;rw [<-i]at E⊢;obtain⟨ap,a8⟩: ∃ap,ap=New (λ_=>False) s w1:=⟨_,rfl⟩;rw [<-a8]at E X;have K:Below w1.heap.size w1 (w1.alloc (.cells #[.pointer (some ⟨j,0,none⟩)] 257)):=(Below.refl _ _).alloc (Nat.le_refl _) _;have bb:=E.touch (aa.of_size K (λ_=>False)) (λ_ _ h=>h);have L:=u.trans (K.mono u.size);have be:Rd (w1.alloc (.cells #[.pointer (some ⟨j,0,none⟩)] 257)) (λb=>b=w1.heap.size) (.slice (some ⟨w1.heap.size,0,none⟩) 1 1) 1 [.pointer (some ⟨j,0,none⟩)]:=Rd.one' (w:=w1) (e:=257) [.pointer (some ⟨j,0,none⟩)] 1 rfl;have al:=((g.out.a.row).step (StL.new (λ_=>False) L _ 8) (λe=>e)).own;rw [<-z.out,<-l.out.1,<-l.out.2]at al;have aS:(w1.alloc (.cells #[.pointer (some ⟨j,0,none⟩)] 257)).cell? ⟨a,0,none⟩=some (.slice t f v)/\(w1.alloc (.cells #[.pointer (some ⟨j,0,none⟩)] 257)).cell? ⟨a,10,none⟩=some (.slice A n c):=⟨kd x.1 _,kd x.2 _⟩;clear E u a8 i K;obtain⟨bu,bh,bw,bl,bz,bA,bi⟩:=de X x bb L be al aS;clear X x bb L be al aS
 go_wp2_with fail
 refine⟨bh.out,ay ?_⟩
 go_wp2_with fail
 refine⟨bi.out,ay ?_⟩;generalize w1.alloc (.cells #[.pointer (some ⟨j,0,none⟩)] 257)=w2 at *
 go_wp2_with (at_builtin;refine aJ _ rfl (.tmp 7) (.tmp 16) _ rfl elemSetP 0 (.slice A n c) n ((List.range n).map λbO=>aq (w.ps bO)) rfl bA.out _ _ [.pointer (some ⟨j,0,none⟩)] 1 rfl rfl bz.out (by intro b5 bG;obtain rfl:=List.mem_singleton.1 bG;rfl) (by unfold maxLen;omega) (by omega) (Nat.zero_le _) ?_)
 intro bg bB w3 bd a5 ba;have C:=g.out.a;rw [<-z.out,<-l.out.1,<-l.out.2]at C;have T:d.T+1=f+1:=by unfold LD.T;rw [<-a2.out]
 rw [T]at C;obtain⟨O,G⟩:=C.push bw.out bu.out bl.out bd a5 ba;rw [<-T]at O;obtain⟨bP,mk,hm,an⟩:=g.out.putA O G;rw [<-I.out]at mk hm an;have H:w3.cell? ⟨a,0,none⟩=some (.slice t f v)/\w3.cell? ⟨a,10,none⟩=some (.slice A n c):=by
  have i:=g.out.box.touch G.t (by rw [g.out.tm];omega);rw [<-I.out]at i;have a4:=(i.cell 0).trans rfl;have N:=(i.cell 10).trans rfl;rw [a2.out,z.out,l.out.1,l.out.2,bq.out,bs.out];rw [a3.out]at a4⊢;exact⟨a4,by rw [a3.out]at N;exact N⟩
 have b4:w3.frozen? ⟨a,10,none⟩=false:=by
  have i:=g.out.box.touch G.t (by rw [g.out.tm];omega);rw [<-I.out]at i;exact i.frozen 10
 have a9:ui V q d (i8 y) (λk=>k=0\/k=8) (w3.setCell ⟨a,10,none⟩ (.slice bg (n+1) bB)):=by
  have b0:g.out.a=g.out.a:=rfl;refine⟨bP,?_,hm.trans a1.out,bx.out.trans an⟩;unfold i8;rw [<-z.out];exact mk
 clear C O G mk hm an bd a5 ba T;have bt:=ab a9;clear a9;have N:=H.2;refine⟨H,cX ?_⟩;clear H
 go_wp2_with fail
 refine NoPanic.normal ?_
 go_wp2_with fail
 go_ret
 exact⟨rfl,bt.out⟩
end
end Go.Proofs.YthlbjgabhpdbfaaGreat

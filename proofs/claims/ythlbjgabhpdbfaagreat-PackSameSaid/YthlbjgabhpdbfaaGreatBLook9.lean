/- Lookaheads: rights, tails, rules: rows that are built. -/
import Derived.Test.YthlbjgabhpdbfaaGreatBLook8
import Derived.Test.YthlbjgabhpdbfaaGreatBFirst4
import Derived.Test.YthlbjgabhpdbfaaGreatBBitsL
set_option linter.unusedVariables false
set_option linter.unusedSimpArgs false
set_option maxRecDepth 100000
namespace Go.Proofs.YthlbjgabhpdbfaaGreat
open Go.Proofs.Tryz
open Bool renaming and_eq_true->Za,or_eq_true->Zb
open Int renaming toNat_natCast->Zc
open List renaming getElem_of_mem->Zd,length_append->Ze,map_append->Zf,mem_append->Zg,mem_append_left->Zh,mem_map->Zi,mem_of_getElem?->Zj,mem_singleton->Zk,range_succ->Zl,take_of_length_le->Zm
open Nat renaming le_refl->Zn,le_trans->Zo,mul_le_mul_right->Zp,one_mul->Zq
open Go.RowKit
attribute [local irreducible] wpStill aB aO
noncomputable def lu (G:ac) (st k:Int):List Tl:=(List.range (rgt G st k).length).map λj=>⟨lnB G ((rgt G st k).drop (j+1)),emB G ((rgt G st k).drop (j+1))⟩
def rsK (G:ac) (st:Int) (k:Nat):List (List Int):=(List.range k).map λi:Nat=>rgt G st i
noncomputable def tlK (G:ac) (st:Int) (k:Nat):List (List Tl):=(List.range k).map λi:Nat=>lu G st i
theorem De (G:ac) (st:Int) (k:Nat):rsK G st (k+1)=rsK G st k++[rgt G st k]:=by unfold rsK;rw [Zl,Zf];rfl
theorem D8 (G:ac) (st:Int) (k:Nat):tlK G st (k+1)=tlK G st k++[lu G st k]:=by unfold tlK;rw [Zl,Zf];rfl
theorem ul (G:ac) (st:Int) (k:Nat):(rsK G st k).length=k:=by simp [rsK]
theorem uj (G:ac) (st:Int) (k:Nat):(tlK G st k).length=k:=by simp [tlK]
theorem Eu {G:ac} {st:Int} {k i:Nat} (h:i<k):(rsK G st k)[i]? =some (rgt G st i):=by unfold rsK;rw [List.getElem?_map,List.getElem?_range h];rfl
theorem Es {G:ac} {st:Int} {k i:Nat} (h:i<k):(tlK G st k)[i]? =some (lu G st i):=by unfold tlK;rw [List.getElem?_map,List.getElem?_range h];rfl
theorem wE (G:ac) (st k:Int):(lu G st k).length=(rgt G st k).length:=by simp [lu]
theorem wF {G:ac} {st k:Int} {j:Nat} (h:j<(rgt G st k).length):(lu G st k)[j]? =some ⟨lnB G ((rgt G st k).drop (j+1)),emB G ((rgt G st k).drop (j+1))⟩:=by unfold lu;rw [List.getElem?_map,List.getElem?_range h];rfl
noncomputable def dK (d:LD) (k:Nat):LD:={d with rs:=rsK d.G d.st k,tl:=tlK d.G d.st k,nu:=ao d.G+1,ru:=λs=>d8 d.G.rules s (min k d.G.rules.length)}
noncomputable def jf (d:LD) (cm:Nat->List Co):LD:={d with rs:=rsK d.G d.st (d.G.rules.length+1),tl:=tlK d.G d.st (d.G.rules.length+1),nu:=ao d.G+1,ru:=λs=>az d.G s,nc:=ao d.G+1,cm:=cm}
theorem iU (d:LD) (cm:Nat->List Co):vV (jf d cm) where
 rl:=ul _ _ _
 rs:=λk a=>Eu (Nat.lt_succ_of_le a)
 tll:=uj _ _ _
 tl:=λk a=>⟨_,Es (Nat.lt_succ_of_le a),wE _ _ _,λe b=>wF b⟩
 nu:=rfl
 ru:=λs _=>rfl
section
variable {V V' : World} {ow : Nat -> Nat} {A A' : Option Addr} {c c' m : Nat}
theorem mN.push {rs:List (List Int)} {Z:List Value} {z:Value} {r:List Int} {n:Nat} (t:n=rs.length) (h:Z.length=rs.length) (j:Row V ow 3 49 1 A n c Z) (k: ∀(i:Nat) z r,Z[i]? =some z->rs[i]? =some r->RdI V (TF V ow (λb=>b=1\/b=2)) z r) (v:RdI V (TF V ow (λb=>b=1\/b=2)) z r)
  (own:V'.ownsRow 0 49 1 (.slice A' (n+1) c') (n+1) (Z++[z])) (g:V.grownBy V' (Value.slice A n c).ownBlock) (l:(Value.slice A' (n+1) c').ownBlock=(Value.slice A n c).ownBlock\/(Value.slice A' (n+1) c').ownBlock=some V.heap.size):
  mN V' (ext V ow 3) A' c' (rs++[r])/\StL (λf=>f=3) V ow V' (ext V ow 3):=by
 subst t;obtain⟨w,s⟩:=j.app own g l;refine⟨⟨Z++[z],by simp [h],by rw [Ze];exact w,λf B x a e=> ?_⟩,s⟩;by_cases o:f<Z.length
 ·rw [List.getElem?_append_left o]at a;rw [List.getElem?_append_left (by omega)]at e;exact(k f B x a e).step s (λb u=>by omega)
 ·have p:f=Z.length:=by have:=(List.getElem?_eq_some_iff.1 a).1;simp at this;omega
  subst p;rw [List.getElem?_append_right (Zn _),Nat.sub_self]at a;rw [List.getElem?_append_right (by omega),h,Nat.sub_self]at e;injection a with a
  injection e with e
  subst a e;exact v.step s (λb u=>by omega)
theorem TlV.push {tl:List (List Tl)} {Z:List Value} {z:Value} {l:List Tl} {n:Nat} (t:n=tl.length) (h:Z.length=tl.length) (j:Row V ow 4 273 1 A n c Z) (k: ∀(i:Nat) z l,Z[i]? =some z->tl[i]? =some l->ja V (TF V ow (λf=>f=2)) m z l) (v:ja V (TF V ow (λf=>f=2)) m z l)
  (own:V'.ownsRow 0 273 1 (.slice A' (n+1) c') (n+1) (Z++[z])) (g:V.grownBy V' (Value.slice A n c).ownBlock) (o:(Value.slice A' (n+1) c').ownBlock=(Value.slice A n c).ownBlock\/(Value.slice A' (n+1) c').ownBlock=some V.heap.size):
  TlV V' (ext V ow 4) A' c' m (tl++[l])/\StL (λe=>e=4) V ow V' (ext V ow 4):=by
 subst t;obtain⟨w,s⟩:=j.app own g o;refine⟨⟨Z++[z],by simp [h],by rw [Ze];exact w,λe B x a b=> ?_⟩,s⟩;by_cases p:e<Z.length
 ·rw [List.getElem?_append_left p]at a;rw [List.getElem?_append_left (by omega)]at b;exact(k e B x a b).step s (λf u=>by omega)
 ·have r:e=Z.length:=by have:=(List.getElem?_eq_some_iff.1 a).1;simp at this;omega
  subst r;rw [List.getElem?_append_right (Zn _),Nat.sub_self]at a;rw [List.getElem?_append_right (by omega),h,Nat.sub_self]at b;injection a with a
  injection b with b
  subst a b;exact v.step s (λf u=>by omega)
structure TlM (base:Nat) (w:World) (m:Nat) (A:Option Addr) (n c:Nat) (l:List Tl):Prop where
 ex: ∃Ps:List Value,Ps.length=l.length/\w.ownsRow base 278 2 (.slice A n c) n (iZ Ps l)/\ ∀(j:Nat) p x,Ps[j]? =some p->l[j]? =some x->dx w (λb=>base<=b/\b<w.heap.size/\(Value.slice A n c).ownBlock≠some b) m p x.f
 hn:n=l.length
theorem TlM.nil (base:Nat) (w:World) (m:Nat):TlM base w m none 0 0 []:=⟨⟨[],rfl,World.ownsRow_nil _ _ _ _,λa b x h=>by simp at h⟩,rfl⟩
theorem TlM.below {base n:Nat} {w w':World} {l:List Tl} (h:TlM base w m A n c l) (b:Below w.heap.size w w'):TlM base w' m A n c l:=by
 obtain⟨f,g,j,k⟩:=h.ex;exact⟨⟨f,g,ah j b,λr t x o p=>((k r t x o p).touch (aa.of_size b (λ_=>False)) (λ_ _ e=>e)).mono λu a=>⟨a.1,Nat.lt_of_lt_of_le a.2.1 b.size,a.2.2⟩⟩,h.hn⟩
theorem TlM.push {base n b:Nat} {w w1 w2 w3:World} {l:List Tl} {Ps:List Value} {f:Nat->Bool} {em:Bool} {S:Nat->Prop} (O:n=l.length) (z:Ps.length=l.length) (K:w.ownsRow base 278 2 (.slice A n c) n (iZ Ps l)) (L: ∀(j:Nat) r x,Ps[j]? =some r->l[j]? =some x->dx w (λb=>base<=b/\b<w.heap.size/\(Value.slice A n c).ownBlock≠some b) m r x.f) (E:base<=w.heap.size)
  (H:aG w1 b S m f) (C: ∀a,S a->w.heap.size<=a) (b1:Below w.heap.size w w1) (v:Below w1.heap.size w1 w2)
  (own:w3.ownsRow base 278 2 (.slice A' (n+1) c') (n+1) (iZ Ps l++[aq b,.bool em])) (g:w2.grownBy w3 (Value.slice A n c).ownBlock) (p:(Value.slice A' (n+1) c').ownBlock=(Value.slice A n c).ownBlock\/(Value.slice A' (n+1) c').ownBlock=some w2.heap.size):
  TlM base w3 m A' (n+1) c' (l++[⟨f,em⟩])/\Below base w w3:=by
 have t:aa (λa=>(Value.slice A n c).ownBlock=some a) w2 w3:=(aa.refl _ _).grown g (λa e _=>e);have u:=b1.trans (v.mono b1.size);have B: ∀a,(Value.slice A n c).ownBlock=some a->base<=a/\a<w.heap.size:=λa e=>K.lt a e
 have F: ∀a,(Value.slice A' (n+1) c').ownBlock=some a->(Value.slice A n c).ownBlock=some a\/a=w2.heap.size:=λa h=>by
  rcases p with p|p
  ·exact .inl (p▸h)
  ·rw [p]at h;injection h with h;exact .inr h.symm
 have s1:=b1.size;have U:=v.size;have W:=t.size;refine⟨⟨⟨Ps++[aq b],by simp [z],?_,λj r x k o=> ?_⟩,by rw [Ze,<-O];rfl⟩,t.toBelow (λa e=>(B a e).1) (u.mono E) (Zo E u.size)⟩
 ·have I:iZ (Ps++[aq b]) (l++[⟨f,em⟩])=iZ Ps l++[aq b,.bool em]:=by
   unfold iZ;rw [List.zip_append z,List.flatMap_append];rfl
  rw [I];exact own
 ·by_cases M:j<Ps.length
  ·rw [List.getElem?_append_left M]at k;rw [List.getElem?_append_left (by omega)]at o;refine(((L j r x k o).touch (aa.of_size u (λ_=>False)) (λ_ _ e=>e)).touch t (λa h=>h.2.2)).mono λa h=>⟨h.1,by omega,λe=> ?_⟩
   rcases F a e with e|e
   ·exact h.2.2 e
   ·omega
  ·have N:j=Ps.length:=by have:=(List.getElem?_eq_some_iff.1 k).1;simp at this;omega
   subst N;rw [List.getElem?_append_right (Zn _),Nat.sub_self]at k;rw [List.getElem?_append_right (by omega),z,Nat.sub_self]at o;injection k with k
   injection o with o
   subst k o;refine .inr ⟨b,S,rfl,(H.touch (aa.of_size v (λ_=>False)) (λ_ _ e=>e)).touch t (λa h e=>by have:=C a h;have:=B a e;omega),λa h=> ?_⟩;have R:=C a h;have T:=H.lt a h;refine⟨by omega,by omega,λe=> ?_⟩;rcases F a e with e|e
   ·have:=B a e;omega
   ·omega
theorem TlM.rd {base n:Nat} {w:World} {l:List Tl} (h:TlM base w m A n c l):ja w (λb=>base<=b/\b<w.heap.size) m (.slice A n c) l:=by
 obtain⟨g,j,e,k⟩:=h.ex;exact⟨g,j,(Rd.of_own e).mono (λf a=>e.lt f a),λr t x o p=>(k r t x o p).mono λf a=>⟨a.1,a.2.1⟩⟩
end
section
variable {V V' w1 : World} {q : LQ} {d : LD} {y : Dy} {J : Nat -> Prop}
theorem MK.gc {G:ac} {st:Int} {T N R M:Nat} (h:MK V q d y) (k:d.G=G) (p:d.st=st) (hT:T=G.terms.length) (n:N=G.nons.length) (o:R=G.rules.length) (l:q.M=M): ∃a f b g e j,V.cell? ⟨M,0,none⟩=some (.slice a T f)/\V.cell? ⟨M,1,none⟩=some (.slice b N g)/\V.cell? ⟨M,2,none⟩=some (.slice e R j)/\V.cell? ⟨M,3,none⟩=some (.int .i64 st)/\bk V q.Fg (.slice a T f) (.slice b N g) (.slice e R j) G:=by
 subst k p hT n o l;exact⟨q.A1,q.c1,q.A2,q.c2,q.A3,q.c3,h.cells.1,h.cells.2.1,h.cells.2.2.1,h.cells.2.2.2.1,h.g⟩
theorem aL.stepL {a:FD} {e:Nat->Bool} {b f:Nat->Nat->Bool} {ow:Nat->Nat} {l:Nat->Nat} (h:aL w1 a e b f) (n:V.heap.size<=a.z0) (s:StL J w1 (ext V ow 2) V' l) (j: ¬J 2):aL V' a e b f:=
 h.touch s.t λk g=>by
  by_cases o:k<V.heap.size
  ·left;omega
  ·exfalso;rw [dz (by omega)]at g;exact j g
theorem Dd {G:ac} {k:Nat} {l:Nat} {x:List Int} (h:G.rules[k]? =some ((l:Int),x)):(λs:Nat=>d8 G.rules s (k+1))=upd (λs:Nat=>d8 G.rules s k) l (d8 G.rules l k++[(k:Int)]):=by
 funext s
 by_cases e:s=l
 ·subst e;rw [aC];exact sM h
 ·rw [aN e];exact uQ h (λa=>e (by omega))
end
theorem infoIntsE:(prog.info? 49).map (λi=>(i.zero,i.size,i.bytes))=some (some (.slice none 0 0),1,24):=by kernel_rfl
theorem elemIntsE:dZ prog 33 49 (.slice none 0 0) 1 24:=⟨underlying33,infoIntsE,rfl,by decide⟩
theorem infoTails:(prog.info? 273).map (λi=>(i.zero,i.size,i.bytes))=some (some (.slice none 0 0),1,24):=by kernel_rfl
theorem elemTails:dZ prog 251 273 (.slice none 0 0) 1 24:=⟨underlying251,infoTails,rfl,by decide⟩
theorem infoTail:(prog.info? 278).map (λi=>(i.zero,i.size,i.bytes))=some (some (.agg #[.pointer none,.bool false]),2,16):=by kernel_rfl
theorem elemTail:dZ prog 273 278 (.agg #[.pointer none,.bool false]) 2 16:=⟨underlying273,infoTail,rfl,by decide⟩
theorem infoComes:(prog.info? 279).map (λi=>(i.zero,i.size,i.bytes))=some (some (.slice none 0 0),1,24):=by kernel_rfl
theorem Ce (n:Nat) (a:n<=65536) (w:World):(Instr.makeSlice 33 (.int .i64 (n:Int)) (.int .i64 (n:Int))).run prog w= .ok (.slice (some ⟨w.heap.size,0,none⟩) n n) (w.alloc (.cells (madeCells #[.slice none 0 0] n) 49)):=
 run_make_row' _ _ _ 24 underlying33 infoIntsE rfl .i64 .i64 n (by omega) (by omega) w
theorem zZ (n:Nat) (a:n<=65536) (w:World):(Instr.makeSlice 252 (.int .i64 (n:Int)) (.int .i64 (n:Int))).run prog w= .ok (.slice (some ⟨w.heap.size,0,none⟩) n n) (w.alloc (.cells (madeCells #[.slice none 0 0] n) 279)):=
 run_make_row' _ _ _ 24 underlying252 infoComes rfl .i64 .i64 n (by omega) (by omega) w
end Go.Proofs.YthlbjgabhpdbfaaGreat
namespace Go.Proofs.YthlbjgabhpdbfaaGreat
open Go.Proofs.Tryz
open Bool renaming and_eq_true->Za,or_eq_true->Zb
open Int renaming toNat_natCast->Zc
open List renaming getElem_of_mem->Zd,length_append->Ze,map_append->Zf,mem_append->Zg,mem_append_left->Zh,mem_map->Zi,mem_of_getElem?->Zj,mem_singleton->Zk,range_succ->Zl,take_of_length_le->Zm
open Nat renaming le_refl->Zn,le_trans->Zo,mul_le_mul_right->Zp,one_mul->Zq
abbrev aP:=List (List It×List It)
structure i9 (G:ac) (st:Int) (D:aP):Prop where
 n:D.length<=2000
 first: ∃t,D[0]? =some ([((G.rules.length:Int),0)],t)
 tq9: ∀(i j:Nat) e s,D[i]? =some e->dM D i s=(j:Int)-> ∃e',D[j]? =some e'/\e'.1=nxI G st e.1 s
 has: ∀(i:Nat) e x s,D[i]? =some e->Cl G st e.1 x->aw G st x=(s,true)-> ∃j:Nat,dM D i s=(j:Int)
 kern: ∀(i:Nat) e x,D[i]? =some e->x∈e.1->aQ G st x=true/\(x=((G.rules.length:Int),0)\/0<x.2)
 strict: ∀(i:Nat) e,D[i]? =some e->dY e.1
theorem yE {t:List It} (n:t.Pairwise (λa b:It=>a.1<b.1)) {s tq9:Int} (h:((s,tq9):It)∈t):jL t s=tq9:=by
 obtain⟨i,hi,e⟩:=Zd h;have j:t[i]? =some (s,tq9):=by rw [List.getElem?_eq_getElem hi,e]
 refine pv j rfl λp y k o r=> ?_
 obtain⟨l,g⟩:=List.getElem?_eq_some_iff.1 o;have f:=(List.pairwise_iff_getElem.1 n) p i l hi k;rw [g,e]at f;simp only at f;omega
theorem uF {t:List It} (g:t.Pairwise (λa b:It=>a.1<b.1)) (s:Int):(∃f,((s,f):It)∈t/\jL t s=f)\/((∀f,((s,f):It)∉t)/\jL t s= -1):=by
 by_cases h: ∃f,((s,f):It)∈t
 ·obtain⟨f,h⟩:=h;exact .inl ⟨f,h,yE g h⟩
 ·refine .inr ⟨λf j=>h ⟨f,j⟩,wB λl y k e=>h ⟨y.2,?_⟩⟩;have:=Zj k;rw [<-e];exact this
theorem i9.of_bld {G:ac} {st:Int} {L T:List (List It)} (h:Bld G st L.length L T) (C:KnA G st):i9 G st (stD L T):=by
 have j:=h.f;have n: ∀{i:Nat} {e:List It×List It},(stD L T)[i]? =some e-> ∃a,T[i]? =some a/\L[i]? =some e.1/\e.2=a:=fun{i e} f=>by
  rw [fX]at f;obtain⟨o,b,rfl⟩:=Option.map_eq_some_iff.1 f;have hi:=(List.getElem?_eq_some_iff.1 b).1;obtain⟨a,g⟩: ∃a,T[i]? =some a:=⟨_,List.getElem?_eq_getElem (by rw [j.len];exact hi)⟩;exact⟨a,g,b,by rw [g];rfl⟩
 have mk: ∀{i:Nat} {o:List It},L[i]? =some o-> ∃e,(stD L T)[i]? =some e/\e.1=o:=fun{i o} b=>⟨_,by rw [fX,b];rfl,rfl⟩
 refine⟨by rw [fj];exact j.small,?_,λi K e s f p=> ?_,λi e x s f E u=> ?_,λi e x f l=> ?_,λi e f=> ?_⟩
 ·exact⟨_,by rw [fX,j.first];rfl⟩
 ·obtain⟨a,g,b,k⟩:=n f;rw [o0 f,k]at p;rcases uF (j.sort a (Zj g)) s with⟨z,hm,w⟩|⟨-,w⟩
  ·rw [w]at p;subst p;obtain⟨-,-,-,-,t⟩:=j.mem i a e.1 g b s _ hm;rw [Zc]at t;exact mk t
  ·omega
 ·obtain⟨a,g,b,k⟩:=n f;have v:=C.sym x.1 x.2.toNat s (fY u).2.2;have F:nxI G st e.1 s≠[]:=λB=>by
   have:=((jg G st e.1 s).2 (x.1,x.2+1)).2 ⟨x,E,u,rfl⟩;rw [B]at this;cases this
  obtain⟨z,hm⟩:=j.has i a e.1 g b s v.1 v.2 F;obtain⟨-,-,-,I,-⟩:=j.mem i a e.1 g b s _ hm;exact⟨z.toNat,by rw [o0 f,k,yE (j.sort a (Zj g)) hm];omega⟩
 ·obtain⟨a,g,b,k⟩:=n f;rcases j.kind e.1 (Zj b)with h1|⟨q,s,h1,-⟩
  ·rw [h1]at l;rw [Zk]at l;subst l;refine⟨?_,.inl rfl⟩;unfold aQ aD;rw [if_neg (by omega),if_pos rfl];simp
  ·rw [h1]at l;obtain⟨M,H,r,rfl⟩:=((jg G st q s).2 x).1 l;exact⟨(iu r).1,.inr (iu r).2⟩
 ·obtain⟨a,g,b,k⟩:=n f;rcases j.kind e.1 (Zj b)with h1|⟨q,s,h1,-⟩
  ·rw [h1];exact List.pairwise_singleton _ _
  ·rw [h1];exact(jg G st q s).1
def dm (G:ac) (st:Int) (x:It):List Int:=(rgt G st x.1).drop (x.2.toNat+1)
inductive LA (G:ac) (st:Int) (D:aP):Nat->It->Nat->Prop
 |start:LA G st D 0 ((G.rules.length:Int),0) 0
 |step (i j:Nat) (x:It) (s:Int) (t:Nat):LA G st D i x t->aw G st x=(s,true)->dM D i s=(j:Int)->LA G st D j (x.1,x.2+1) t
 |close (i:Nat) (x:It) (s k:Int) (t u:Nat):LA G st D i x t->aw G st x=(s,true)->am G s=true->k∈az G s->lnB G (dm G st x) u=true->LA G st D i (k,0) u
 |pass (i:Nat) (x:It) (s k:Int) (t:Nat):LA G st D i x t->aw G st x=(s,true)->am G s=true->k∈az G s->emB G (dm G st x)=true->LA G st D i (k,0) t
theorem iT {G:ac} {st k y:Int} {r:List Int} (h:rgt G st k=y::r):dm G st (k,0)=r:=by
 unfold dm;rw [h];rfl
section
variable {G : ac} {st : Int} {D : aP} {i : Nat} {x : It} {s : Int} {u0 : Nat}
theorem LA.self {y:Int} (u:LA G st D i x u0) (o:aw G st x=(s,true)) (l:am G s=true) (v:fR G st s y):am G y=true/\ ∀b∈az G y,(∀a,lnB G (dm G st x) a=true->LA G st D i (b,0) a)/\(emB G (dm G st x)=true-> ∀a,LA G st D i x a->LA G st D i (b,0) a):=by
 induction v with
 |base=>exact⟨l,λb f=>⟨λa e=> .close i x s b u0 a u o l f e,λk a e=> .pass i x s b a e o l f k⟩⟩
 |next z j t w _ g h n p r=>
  refine⟨n,λb f=>⟨λa e=> ?_,λk a e=> ?_⟩⟩
  ·exact .pass i (j,0) t b a ((r.2 j g).1 a e) (jX g h) n f (by rw [iT h];exact p)
  ·exact .pass i (j,0) t b a ((r.2 j g).2 k a e) (jX g h) n f (by rw [iT h];exact p)
theorem LA.set {y:Int} {t:Nat} (u:LA G st D i x u0) (B:aw G st x=(s,true)) (H:am G s=true) (F:(∃b,lnB G (dm G st x) b=true)\/emB G (dm G st x)=true) (K:jB G st s y t):am G y=true/\ ∀h∈az G y,LA G st D i (h,0) t:=by
 have L: ∀j a,fR G st s j->a∈az G j-> ∃b,LA G st D i (a,0) b:=λj a w z=>by
  have r:=(LA.self u B H w).2 a z;rcases F with⟨b,o⟩|C
  ·exact⟨b,r.1 b o⟩
  ·exact⟨u0,r.2 C u0 u⟩
 induction K with
 |self j a l v t I e f g n=>
  obtain⟨b,o⟩:=L j a I e;exact⟨g,λh k=> .close i (a,0) l h b t o (jX e f) g k (by rw [iT f];exact n)⟩
 |line j a l v t b _ e f g n p=>exact⟨g,λh k=> .close i (a,0) l h b t (p.2 a e) (jX e f) g k (by rw [iT f];exact n)⟩
 |pass j a l v t _ e f g E p=>exact⟨g,λh k=> .pass i (a,0) l h t (p.2 a e) (jX e f) g k (by rw [iT f];exact E)⟩
end
theorem Fu {T:Nat} {rs:List (Int×List Int)} {s:Int} {t:Nat} (h:Beg T rs s t):t<=T:=by
 induction h with
 |self t a=>exact a
 |step _ _ _ _ _ _ _ _ _ b=>exact b
theorem wn {G:ac} {l:List Int} {t:Nat} (h:lnB G l t=true):t<G.terms.length+1:=by
 unfold lnB at h;obtain⟨e,x,b,-,-,a⟩:=il.1 h;have:=(gL a).2.2;unfold fV at this;have:=Fu (ek.1 this);omega
theorem LA.lt {G:ac} {st:Int} {D:aP} {i:Nat} {x:It} {t:Nat} (h:LA G st D i x t):t<G.terms.length+1:=by
 induction h with
 |start=>omega
 |step _ _ _ _ _ _ _ _ a=>exact a
 |close _ _ _ _ _ _ _ _ _ _ h _=>exact wn h
 |pass _ _ _ _ _ _ _ _ _ _ a=>exact a
def aR (D:aP) (i:Nat):Nat:=((D.take i).map λe=>e.1.length).sum
theorem ij {D:aP} {i:Nat} {e:List It×List It} (h:D[i]? =some e):aR D (i+1)=aR D i+e.1.length:=by
 unfold aR;rw [List.take_add_one,h,Zf,List.sum_append];simp
theorem qo (D:aP) (i d:Nat):aR D i<=aR D (i+d):=by
 induction d with
 |zero=>exact Zn _
 |succ d a=>
  refine Zo a ?_;cases h:D[i+d]? with
  |none=>
   have:=List.getElem?_eq_none_iff.1 h;unfold aR;rw [Zm this,Zm (by omega)];exact Zn _
  |some e=>rw [<-Nat.add_assoc,ij h];omega
def KP (D:aP) (p i:Nat) (x:It):Prop:= ∃(e:List It×List It) (m:Nat),D[i]? =some e/\e.1[m]? =some x/\p=aR D i+m
theorem KP.inj {D:aP} {p i n:Nat} {x w:It} (h:KP D p i x) (z:KP D p n w):i=n/\x=w:=by
 obtain⟨e,m,l,j,t⟩:=h;obtain⟨F,E,f,g,r⟩:=z;have hm:=(List.getElem?_eq_some_iff.1 j).1;have C:=(List.getElem?_eq_some_iff.1 g).1;have u: ∀{a b:Nat} {k:List It×List It} {o v:Nat},D[a]? =some k->o<k.1.length->a<b->aR D a+o≠aR D b+v:=fun{a b k o v} B I H=>by
  have l:=ij B;have j:=qo D (a+1) (b - (a+1));rw [show a+1+(b - (a+1))=b by omega]at j;omega
 rcases Nat.lt_trichotomy i n with h|h|h
 ·exact absurd (t.symm.trans r) (u l hm h)
 ·subst h;rw [l]at f;injection f with f
  subst f;have:m=E:=by omega
  subst this;rw [j]at g;injection g with g
  exact⟨rfl,g⟩
 ·exact absurd (r.symm.trans t) (u f C h)
theorem KP.lt {D:aP} {p i:Nat} {x:It} (h:KP D p i x):p<aR D D.length:=by
 obtain⟨e,m,a,b,g⟩:=h;have hm:=(List.getElem?_eq_some_iff.1 b).1;have hi:=(List.getElem?_eq_some_iff.1 a).1;have j:=ij a;have f:=qo D (i+1) (D.length - (i+1));rw [show i+1+(D.length - (i+1))=D.length by omega]at f;omega
theorem KP.fn {D:aP} {p f i:Nat} {x:It} (h:KP D p i x) (j:KP D f i x) (l: ∀(i:Nat) e,D[i]? =some e->e.1.Nodup):p=f:=by
 obtain⟨e,m,b,k,r⟩:=h;obtain⟨n,t,a,g,o⟩:=j;rw [b]at a;injection a with a
 subst a;have:=kj (l i e b) k g;omega
theorem KP.of_mem {D:aP} {i:Nat} {e:List It×List It} {x:It} (h:D[i]? =some e) (b:x∈e.1): ∃f,KP D f i x:=by
 obtain⟨m,hm,a⟩:=Zd b;exact⟨_,e,m,h,by rw [List.getElem?_eq_getElem hm,a],rfl⟩
theorem KP.mem {D:aP} {p i:Nat} {x:It} (h:KP D p i x): ∃e,D[i]? =some e/\x∈e.1:=by
 obtain⟨e,m,a,b,-⟩:=h;exact⟨e,a,Zj b⟩
abbrev jc:=Nat->List (Int×Nat)
def Pl (D:aP) (fi:jc) (p i:Nat) (x:It):Prop:=KP D p i x\/ ∃k,x=(k,0)/\(k,p)∈fi i
structure r8 (G:ac) (st:Int) (D:aP) (fi:jc) (na:Nat):Prop where
 le:aR D D.length<=na
 key: ∀i k p,(k,p)∈fi i->(0<=k/\k<(G.rules.length:Int))/\rgt G st k=[]/\aR D D.length<=p/\p<na
 nodup: ∀i,((fi i).map (·.1)).Nodup
 inj: ∀i i' k k' p,(k,p)∈fi i->(k',p)∈fi i'->i=i'/\k=k'
 out: ∀i,D.length<=i->fi i=[]
section
variable {G : ac} {st : Int} {D : aP} {fi fi' : jc} {na : Nat} {ed ed' : List Ed} {cm : Nat -> List Co}
theorem Pl.inj (b:r8 G st D fi na) {p i e:Nat} {x f:It} (h:Pl D fi p i x) (a:Pl D fi p e f):i=e/\x=f:=by
 rcases h with h|⟨l,rfl,h⟩
 ·rcases a with a|⟨k,rfl,a⟩
  ·exact h.inj a
  ·have:=h.lt;have:=(b.key _ _ _ a).2.2.1;omega
 ·rcases a with a|⟨k,rfl,a⟩
  ·have:=a.lt;have:=(b.key _ _ _ h).2.2.1;omega
  ·obtain⟨g,j⟩:=b.inj _ _ _ _ _ h a;exact⟨g,by rw [j]⟩
noncomputable def tlI (G:ac) (st:Int) (x:It):Tl:=⟨lnB G (dm G st x),emB G (dm G st x)⟩
def gV (m:Nat) (t:Tl):Bool:= !t.em&& !ku m t.f
def dR (c:Co) (t:Tl):Nat->Bool:=if c.self=true then λu=>c.f u||t.f u else c.f
def EA (D:aP) (e:Ed) (i:Nat) (x:It) (s:Int):Prop:=e.f=aj/\e.self=true/\ ∃j p:Nat,dM D i s=(j:Int)/\e.tq9=(p:Int)/\KP D p j (x.1,x.2+1)
def EB (G:ac) (st:Int) (D:aP) (fi:jc) (e:Ed) (i:Nat) (x:It) (c:Co) (k:Int):Prop:=e.f=dR c (tlI G st x)/\e.self=(c.self&&(tlI G st x).em)/\ ∃p:Nat,e.tq9=(p:Int)/\((rgt G st k=[]/\(k,p)∈fi i)\/ ∃y0 r j,rgt G st k=y0::r/\dM D i y0=((j:Nat):Int)/\KP D p j (k,1))
theorem EB.mono {e:Ed} {i:Nat} {x:It} {c:Co} {k:Int} (h:EB G st D fi e i x c k) (l: ∀i a,a∈fi i->a∈fi' i):EB G st D fi' e i x c k:=by
 obtain⟨b,f,n,g,j⟩:=h;exact⟨b,f,n,g,j.imp (λh=>⟨h.1,l _ _ h.2⟩) id⟩
def r9 (G:ac) (st:Int) (D:aP) (cm:Nat->List Co) (fi:jc) (e:Ed):Prop:= ∃i x s,KP D e.at_ i x/\aw G st x=(s,true)/\(EA D e i x s\/(am G s=true/\ ∃c∈cm s.toNat,∃k∈az G c.s,gV (G.terms.length+1) (tlI G st x)=false/\EB G st D fi e i x c k))
theorem r9.mono {e:Ed} (h:r9 G st D cm fi e) (o: ∀i a,a∈fi i->a∈fi' i):r9 G st D cm fi' e:=by
 obtain⟨i,x,s,k,l,n⟩:=h;exact⟨i,x,s,k,l,n.imp id λ⟨b,c,f,p,d,g,j⟩=>⟨b,c,f,p,d,g,j.mono o⟩⟩
def Em (G:ac) (st:Int) (D:aP) (cm:Nat->List Co) (i:Nat) (k:Int):Prop:= ∃e x s,D[i]? =some e/\x∈e.1/\aw G st x=(s,true)/\am G s=true/\ ∃c∈cm s.toNat,k∈az G c.s
def iQ (G:ac) (st:Int) (D:aP) (cm:Nat->List Co) (ed:List Ed) (fi:jc) (p i:Nat) (x:It):Prop:= ∀s,aw G st x=(s,true)->(∃e∈ed,e.at_=p/\EA D e i x s)/\(am G s=true-> ∀c∈cm s.toNat,∀k∈az G c.s,(rgt G st k=[]-> ∃p',(k,p')∈fi i)/\(gV (G.terms.length+1) (tlI G st x)=false-> ∃e∈ed,e.at_=p/\EB G st D fi e i x c k))
theorem iQ.mono {p i:Nat} {x:It} (h:iQ G st D cm ed fi p i x) (a: ∀e∈ed,e∈ed') (b: ∀i f,f∈fi i->f∈fi' i):iQ G st D cm ed' fi' p i x:=λs F=>by
 obtain⟨⟨e,l,n,o⟩,u⟩:=h s F;refine⟨⟨e,a e l,n,o⟩,λB c v H w=> ?_⟩;obtain⟨r,t⟩:=u B c v H w;refine⟨λE=> ?_,λz=> ?_⟩
 ·obtain⟨I,C⟩:=r E;exact⟨I,b _ _ C⟩
 ·obtain⟨e,g,j,k⟩:=t z;exact⟨e,a e g,j,k.mono b⟩
theorem sO {x:It} (h:gV (G.terms.length+1) (tlI G st x)=false):(∃e,lnB G (dm G st x) e=true)\/emB G (dm G st x)=true:=by
 unfold gV at h;simp only [Bool.and_eq_false_iff,Bool.not_eq_false']at h;rcases h with h|h
 ·exact .inr h
 ·obtain⟨b,-,a⟩:=oe.1 h;exact .inl ⟨b,a⟩
theorem wW {x:It} (h:(∃a,lnB G (dm G st x) a=true)\/emB G (dm G st x)=true):gV (G.terms.length+1) (tlI G st x)=false:=by
 unfold gV;simp only [Bool.and_eq_false_iff,Bool.not_eq_false'];rcases h with⟨a,b⟩|h
 ·exact .inr (oe.2 ⟨a,wn b,b⟩)
 ·exact .inl h
def F00 (p t:Nat):Bool:=decide (p=0)&&decide (t=0)
theorem Fl (W:i9 G st D) (z:r8 G st D fi na) (O: ∀s,am G s=true->gP G st s (cm s.toNat)) (N: ∀e∈ed,r9 G st D cm fi e) {p t:Nat} (h:LE F00 ed p t): ∀i x,Pl D fi p i x->LA G st D i x t:=by
 have T: ∀{e:Ed} {i:Nat} {x:It} {s:Int} {c:Co} {b:Int} {t:Nat} {o:Nat} {w:It},aw G st x=(s,true)->am G s=true->c∈cm s.toNat->b∈az G c.s->EB G st D fi e i x c b->LA G st D i (b,0) t->Pl D fi e.tq9.toNat o w->LA G st D o w t:=by
  rintro e i x s c b t o w ad g k f ⟨-,-,p,B,C⟩ R L;rw [B,Zc]at L;rcases C with⟨-,hm⟩|⟨y0,ai,Z,Y,I,X⟩
  ·obtain⟨rfl,rfl⟩:=Pl.inj z L (.inr ⟨b,rfl,hm⟩);exact R
  ·obtain⟨rfl,rfl⟩:=Pl.inj z L (.inl X);exact .step i o (b,0) y0 t R (jX f Y) I
 induction h with
 |base p t h=>
  intro i x l;unfold F00 at h;simp only [Za,decide_eq_true_eq]at h;obtain⟨rfl,rfl⟩:=h;obtain⟨ak,U⟩:=W.first;have f:KP D 0 0 ((G.rules.length:Int),0):=⟨_,0,U,rfl,by simp [aR]⟩;obtain⟨rfl,rfl⟩:=Pl.inj z l (.inl f);exact .start
 |set e t al H _ a M=>
  intro o w l;obtain⟨i,x,s,E,j,r⟩:=N e H;have n:=M i x (.inl E);rcases r with⟨r,-⟩|⟨g,c,k,b,f,K,u⟩
  ·rw [r]at a;cases a
  ·refine T j g k f u ?_ l;have F:=O s g;rw [u.1]at a;unfold dR at a
   split at a
   ·rename_i v
    rw [Zb]at a;rcases a with a|a
    ·exact(LA.set n j g (sO K) ((F.set c k t).1 a)).2 b f
    ·exact((LA.self n j g ((F.self c k).1 v)).2 b f).1 t a
   ·exact(LA.set n j g (sO K) ((F.set c k t).1 a)).2 b f
 |self e t H v _ M=>
  intro o w l;obtain⟨i,x,s,E,j,r⟩:=N e H;have n:=M i x (.inl E);rcases r with⟨-,-,Z,p,I,B,C⟩|⟨g,c,k,b,f,K,u⟩
  ·rw [B,Zc]at l;obtain⟨rfl,rfl⟩:=Pl.inj z l (.inl C);exact .step i o x s t n j I
  ·refine T j g k f u ?_ l;rw [u.2.1,Za]at v;exact((LA.self n j g (((O s g).self c k).1 v.1)).2 b f).2 v.2 t n
def KnL (G:ac) (st:Int) (D:aP) (F:Nat->Nat->Bool) (i:Nat) (z:It) (t:Nat):Prop:=(∃p,KP D p i z/\F p t=true)\/
 ∃p x s y k u,KP D p i x/\aw G st x=(s,true)/\am G s=true/\(u<G.terms.length+1/\F p u=true)/\z=(k,0)/\k∈az G y/\Bg G st s y/\gV (G.terms.length+1) (tlI G st x)=false/\
  ((fR G st s y/\lnB G (dm G st x) t=true)\/(fR G st s y/\emB G (dm G st x)=true/\F p t=true)\/jB G st s y t)
theorem Fo (a8:i9 G st D) (ba: ∀s,am G s=true->gP G st s (cm s.toNat)) (an: ∀b i x,KP D b i x->iQ G st D cm ed fi b i x) {F:Nat->Nat->Bool} {n:Nat} (W:po (G.terms.length+1) n F00 ed F):
  (∀i ai a,LA G st D i ai a->KnL G st D F i ai a)/\ ∀i y f b x s o a,KP D b i x->aw G st x=(s,true)->am G s=true->(o<G.terms.length+1/\F b o=true)->f∈az G y->Bg G st s y->gV (G.terms.length+1) (tlI G st x)=false->a<G.terms.length+1->
   ((fR G st s y/\lnB G (dm G st x) a=true)\/(fR G st s y/\emB G (dm G st x)=true/\F b a=true)\/jB G st s y a)-> ∃r:Nat,F r a=true/\((rgt G st f=[]/\(f,r)∈fi i)\/ ∃y0 v j,rgt G st f=y0::v/\dM D i y0=((j:Nat):Int)/\KP D r j (f,1)):=by
 have aS: ∀i y f b x s o a,KP D b i x->aw G st x=(s,true)->am G s=true->(o<G.terms.length+1/\F b o=true)->f∈az G y->Bg G st s y->gV (G.terms.length+1) (tlI G st x)=false->a<G.terms.length+1->
   ((fR G st s y/\lnB G (dm G st x) a=true)\/(fR G st s y/\emB G (dm G st x)=true/\F b a=true)\/jB G st s y a)-> ∃r:Nat,F r a=true/\((rgt G st f=[]/\(f,r)∈fi i)\/ ∃y0 v j,rgt G st f=y0::v/\dM D i y0=((j:Nat):Int)/\KP D r j (f,1)):=by
  intro i y f b x s o a p t l E z L k Z h;have T:=ba s l;obtain⟨c,U,rfl⟩:=(T.mem y).2 L;obtain⟨-,w⟩:=an b i x p s t;obtain⟨-,a5⟩:=w l c U f z;obtain⟨e,X,rfl,a9⟩:=a5 k;have I:=W.closed e X ⟨o,E.1,E.2⟩;obtain⟨ak,aT,r,a0,a1⟩:=a9;rw [a0,Zc]at I;refine⟨r,?_,a1⟩;rcases h with⟨g,w⟩|⟨g,w,a7⟩|g
  ·refine I.1 a Z ?_;rw [ak];unfold dR;rw [if_pos ((T.self c U).2 g)];show(c.f a||lnB G (dm G st x) a)=true;rw [w,Bool.or_true]
  ·refine I.2 ?_ a Z a7;rw [aT,(T.self c U).2 g];exact w
  ·refine I.1 a Z ?_;rw [ak];unfold dR;have:=(T.set c U a).2 g
   split
   ·show(c.f a||_)=true;rw [this,Bool.true_or]
   ·exact this
 refine⟨λi ai a h=> ?_,aS⟩
 induction h with
 |start=>
  obtain⟨bh,a6⟩:=a8.first;exact .inl ⟨0,⟨_,0,a6,rfl,by simp [aR]⟩,W.le 0 0 rfl⟩
 |step i j x s a K t bd O=>
  rcases O with⟨b,p,H⟩|⟨b,R,s0,y,f,o,p,M,N,E,rfl,z,L,k,h⟩
  ·obtain⟨⟨e,X,rfl,-,al,ad,r,bc,a3,a4⟩,-⟩:=an b i x p s t;have I:=(W.closed e X ⟨a,K.lt,H⟩).2 al a K.lt H;rw [a3,Zc]at I;have:j=ad:=by omega
   subst this;exact .inl ⟨r,a4,I⟩
  ·obtain⟨r,g,w⟩:=aS i y f b R s0 o a p M N E z L k K.lt h;obtain⟨v,u⟩:=rM t;rcases w with⟨e,-⟩|⟨y0,bg,ad,ap,be,bb⟩
   ·rw [u]at e;cases e
   ·rw [u]at ap;injection ap with a2 al
    subst a2;have:j=ad:=(by omega);subst this;exact .inl ⟨r,bb,g⟩
 |close i x s f a o K t l z k O=>
  rcases O with⟨b,p,H⟩|⟨b,R,s0,y,C,u0,p,M,N,E,rfl,B,L,Y,h⟩
  ·exact .inr ⟨b,x,s,s,f,a,p,t,l,⟨K.lt,H⟩,rfl,z,.base,wW (.inl ⟨o,k⟩),.inl ⟨.base,k⟩⟩
  ·obtain⟨v,u⟩:=rM t;rw [iT u]at k;refine .inr ⟨b,R,s0,s,f,u0,p,M,N,E,rfl,z,.next y C s L B t l,Y,.inr (.inr ?_)⟩;rcases h with⟨g,-⟩|⟨g,-⟩|g
   ·exact .self y C s v o g B u l k
   ·exact .self y C s v o g B u l k
   ·exact .line y C s v o a g B u l k
 |pass i x s f a K t l z k O=>
  rcases O with⟨b,p,H⟩|⟨b,R,s0,y,C,u0,p,M,N,E,rfl,B,L,Y,h⟩
  ·exact .inr ⟨b,x,s,s,f,a,p,t,l,⟨K.lt,H⟩,rfl,z,.base,wW (.inr k),.inr (.inl ⟨.base,k,H⟩)⟩
  ·obtain⟨v,u⟩:=rM t;rw [iT u]at k;refine .inr ⟨b,R,s0,s,f,u0,p,M,N,E,rfl,z,.next y C s L B t l,Y,?_⟩;rcases h with⟨g,w⟩|⟨g,w⟩|g
   ·exact .inl ⟨.next y C s v g B u l k,w⟩
   ·exact .inr (.inl ⟨.next y C s v g B u l k,w⟩)
   ·exact .inr (.inr (.pass y C s v a g B u l k))
theorem Fm (j:i9 G st D) (o:r8 G st D fi na) (z: ∀s,am G s=true->gP G st s (cm s.toNat)) (N: ∀e∈ed,r9 G st D cm fi e) (L: ∀p i x,KP D p i x->iQ G st D cm ed fi p i x) {F:Nat->Nat->Bool} {n:Nat} (w:po (G.terms.length+1) n F00 ed F) {p i t:Nat} {x:It} (f:Pl D fi p i x):F p t=true↔LA G st D i x t:=by
 have W: ∀(i:Nat) e,D[i]? =some e->e.1.Nodup:=λi e k=>(j.strict i e k).nodup
 have ak: ∀{p i:Nat} {b y:Int},KP D p i (b,0)->b∈az G y->False:=fun{p i b y} h g=>by
  obtain⟨e,k,u⟩:=h.mem;have r:=uq g;rcases(j.kern i e _ k u).2 with a|a
  ·injection a with a;omega
  ·simp at a
 refine⟨λh=>Fl j o z N (w.snd p t h) i x f,λh=> ?_⟩;obtain⟨I,K⟩:=Fo j z L w;rcases I i x t h with⟨v,C,M⟩|⟨al,ap,s,y,b,an,X,O,U,Z,rfl,g,ad,T,R⟩
 ·rcases f with f|⟨b,rfl,g⟩
  ·rw [f.fn C W];exact M
  ·exfalso;obtain⟨e,k,u⟩:=C.mem;have r:=(o.key _ _ _ g).1;rcases(j.kern i e _ k u).2 with a|a
   ·injection a with a;omega
   ·simp at a
 ·rcases f with f|⟨aT,e,B⟩
  ·exact(ak f g).elim
  ·injection e with e
   subst e;obtain⟨v,r,a⟩:=K i y b al ap s an t X O U Z g ad T h.lt R;have Y:=(o.key _ _ _ B).2.1;rcases a with⟨-,a⟩|⟨y0,a0,aS,a,-⟩
   ·have:p=v:=by
     have E: ∃m:Nat,(fi i)[m]? =some (b,p):=by
      obtain⟨m,hm,e⟩:=Zd B;exact⟨m,by rw [List.getElem?_eq_getElem hm,e]⟩
     have H: ∃m:Nat,(fi i)[m]? =some (b,v):=by
      obtain⟨m,hm,e⟩:=Zd a;exact⟨m,by rw [List.getElem?_eq_getElem hm,e]⟩
     obtain⟨m,hm⟩:=E;obtain⟨ai,l⟩:=H;have:=kj (o.nodup i) (i:=m) (j:=ai) (x:=b) (by rw [List.getElem?_map,hm];rfl) (by rw [List.getElem?_map,l];rfl);subst this;rw [hm]at l;injection l with l
     injection l
    rw [this];exact r
   ·rw [Y]at a;cases a
end
theorem Cj {G:ac} {st:Int} (ai:KnA G st) {D:aP} {i:Nat} {x:It} {t:Nat} (h:LA G st D i x t):aQ G st x=true/\(x.1=(G.rules.length:Int)->t=0)/\ ∀(k:Nat) a,x.1=(k:Int)->G.rules[k]? =some a->vY G st a.1 t:=by
 have own: ∀{y:It} {s:Int},y.1=(G.rules.length:Int)->aw G st y=(s,true)->s=st/\dm G st y=[]:=fun{y s} e g=>by
  obtain⟨F,j,f⟩:=fY g;have E:(aD G st y.1).1.2=[st]:=by
   rw [e];unfold aD;rw [if_neg (by omega),if_pos rfl]
  have aS:0<=y.2:=by
   unfold aQ at F;simp only [Za,decide_eq_true_eq]at F;exact F.2.1
  rw [E]at j f;simp at j;have:y.2=0:=by omega
  rw [this]at f;unfold dm rgt;rw [E,this];exact⟨by simpa using f.symm,rfl⟩
 have W: ∀{y:It} {s:Int} {k:Nat} {a:Int×List Int},y.1=(k:Int)->G.rules[k]? =some a->aw G st y=(s,true)-> ∃r,a.2=r++s::dm G st y:=fun{y s k a} e b g=>by
  obtain⟨F,j,f⟩:=fY g;have E:(aD G st y.1).1.2=a.2:=by rw [e,ju b]
  unfold dm rgt;rw [E]at f⊢;obtain⟨u,K⟩:=List.getElem?_eq_some_iff.1 f;exact⟨a.2.take y.2.toNat,by rw [<-K,List.getElem_cons_drop,List.take_append_drop]⟩
 have T: ∀{y:It},aQ G st y=true->y.1≠(G.rules.length:Int)-> ∃(k:Nat) (a:Int×List Int),y.1=(k:Int)/\G.rules[k]? =some a:=fun{y} b aT=>by
  have:=(ai.right b).1.1;unfold aQ aD at b
  split at b
  ·simp at b
  ·rename_i H
   refine⟨y.1.toNat,_,by omega,List.getElem?_eq_getElem (by omega)⟩
 have X: ∀{s:Int},am G s=true->(G.terms.length:Int)<s/\s<=G.terms.length+G.nons.length:=fun{s} h=>by
  unfold am ao at h;simp only [Za,decide_eq_true_eq]at h;omega
 have Y: ∀{p:List Int} {B:Nat},lnB G p B=true->vW G p B:=fun{p B} h=>by
  unfold lnB at h;obtain⟨r,x,al,Z,N,K⟩:=il.1 h;refine⟨r,x,al,Z,λy M=> ?_,?_⟩
  ·have:=N y M;unfold aF at this;simp only [Za,decide_eq_true_eq]at this;have j:=this.2;unfold eS at j;have f:=ek.1 j;rwa [show((y.toNat:Nat):Int)=y by omega]at f
  ·obtain⟨an,ap,O⟩:=gL K;unfold fV at O;have f:=ek.1 O;rwa [show((x.toNat:Nat):Int)=x by omega]at f
 have ad: ∀{p:List Int},emB G p=true-> ∀y∈p,mQ G y:=fun{p} h y M=>by
  have:=List.all_eq_true.1 h y M;unfold aF at this;simp only [Za,decide_eq_true_eq]at this;have j:=this.2;unfold eS at j;have f:=ek.1 j;rwa [show((y.toNat:Nat):Int)=y by omega]at f
 have U: ∀{s k:Int},k∈az G s-> ∀(o:Nat) a,k=(o:Int)->G.rules[o]? =some a->a.1=s:=fun{s k} l o a e b=>by
  obtain⟨ak,x,N,z⟩:=lF.1 l;have:ak=o:=by omega
  subst this;rw [b]at z;injection z with z
  rw [z]
 induction h with
 |start=>
  refine⟨?_,λ_=>rfl,λk a e b=> ?_⟩
  ·unfold aQ aD;rw [if_neg (by omega),if_pos rfl];simp
  ·have:=(List.getElem?_eq_some_iff.1 b).1;simp only at e;omega
 |step i a0 x s t _ g _ n=>exact⟨(iu g).1,n.2.1,n.2.2⟩
 |close i x s k t B z g H l u n=>
  refine⟨mz l,λe=> ?_,λo a e b=> ?_⟩
  ·have:=uq l;simp only at e;omega
  ·rw [U l o a e b];by_cases v:x.1=(G.rules.length:Int)
   ·rw [(own v g).2]at u;cases u
   ·obtain⟨R,I,C,w⟩:=T n.1 v;obtain⟨r,L⟩:=W C w g;exact .next I s B r _ (Zj w) L (X H) (Y u)
 |pass i x s k t z g H l u n=>
  refine⟨mz l,λe=> ?_,λo a e b=> ?_⟩
  ·have:=uq l;simp only at e;omega
  ·rw [U l o a e b];by_cases v:x.1=(G.rules.length:Int)
   ·rw [(own v g).1,n.2.1 v];exact .start
   ·obtain⟨R,I,C,w⟩:=T n.1 v;obtain⟨r,L⟩:=W C w g;exact .last I s t r _ (Zj w) L (X H) (ad u) (n.2.2 R I C w)
section
open Go.RowKit
def Ee (w:World) (n:Nat) (f:Nat->Bool) (e:Ending) (w':World):Prop:= ∃b,e= .returned (.pointer (some ⟨b,0,none⟩))/\aG w' b (New (λ_=>False) w w') n f/\Below w.heap.size w w'
theorem Dc {w:World} {b n:Nat} {f:Nat->Bool} {S:Nat->Prop} (h:aG w b S n f):
  Calls prog 231 #[.pointer (some ⟨b,0,none⟩)] w (Ee w n f):=by
 obtain⟨⟨r,a,hi,al,v⟩,ad,ak⟩:=h;obtain⟨c,g,ai,F⟩:=hi.blk;have k:=g.cell 0;have l:=g.cell 1;simp at k l;unfold maxLen at F;have N:=hi.room;have M:=hi.len;have z:=mC (P:=prog) elem64 rfl a.length (by omega) (by omega) .i64 .i64;have ap:=hi.words.lt;have u:=g.lt;obtain⟨e,p⟩: ∃r,r=List.replicate a.length (Value.int .u64 0):=⟨_,rfl⟩;rw [<-p]at z;have B:e.length=a.length:=by rw [p];simp
 have H:=kd k;have I:=kd l;have t:=ab B;have HI:=ab hi;have E:=ab v;have X:=ab g;clear B p hi v g M
 go_enter func231,ntmps231
 go_wp2_with (refine wpList_copy_splice rfl (.tmp 12) (.tmp 16) 285 285 rfl 282 underlying285 (by kernel_rfl) (some ⟨w.heap.size,0,none⟩) (some ⟨r,0,none⟩) a.length a.length a.length c rfl rfl w.heap.size 0 e 282 (Blk.new w 282 e.toArray) (a.map U64) ?len (λ_=>⟨rfl,_,rfl,?cells⟩) ?fit ?ones w.heap.size w ((Below.refl _ _).alloc (Zn _) _) (Zn _) ?_)
 case len=>simp
 case fit=>rw [t.out];simp
 case ones=>intro aT T;obtain⟨x,_,rfl⟩:=Zi.1 T;rfl
 case cells=>
  intro W a0 L;rw [fJ,Nat.zero_add];have:=(HI.out.words.alloc (.cells e.toArray 282)).cell W;rw [this];simpa using L
 intro w2 K o;have Y:=(o.cell (p:=⟨b,0,none⟩) u).trans k;have Z:=(o.cell (p:=⟨b,1,none⟩) u).trans l;clear H I z
 go_wp2_with fail
 go_ret
 have R:splice e 0 (a.map U64)=a.map U64:=by
  unfold splice;have:e.drop (0+(a.map U64).length)=[]:=List.drop_eq_nil_of_le (by rw [t.out];simp);rw [this];simp
 have C:Blk w2 w.heap.size 282 (a.map U64).toArray:=by have:=K.out;rw [R]at this;exact this
 have an:=C.lt;have U:=C.alloc (.cells #[.int .i64 n,.slice (some ⟨w.heap.size,0,none⟩) a.length a.length] 287);have O:=Blk.new w2 287 #[.int .i64 n,.slice (some ⟨w.heap.size,0,none⟩) a.length a.length];refine⟨w2.heap.size,rfl,⟨⟨w.heap.size,a,⟨⟨a.length,O,Zn _,by unfold maxLen;omega⟩,U,HI.out.len,N,HI.out.high⟩,.inr ⟨Zn _,by simp;omega⟩,E.out⟩,.inr ⟨by omega,by simp⟩,λaS j=>by rcases j with j|j;exact j.elim;exact j.2⟩,o.alloc (by omega) _⟩
end
theorem iG {G:ac} {st:Int} {k:List It} (a:KnA G st) (r:dY k) (b: ∀x∈k,aQ G st x=true):k.length<=2709:=by
 have h:=ki 2709 (-1) (l:=k.map λx=>9 * x.1+x.2) ?_ ?_
 ·simpa using h
 ·rw [List.Nodup,List.pairwise_map];refine List.Pairwise.imp_of_mem (fun{e n} o p h=> ?_) r;obtain⟨⟨f,g⟩,j,l⟩:=a.right (b e o);obtain⟨⟨v,w⟩,z,B⟩:=a.right (b n p);unfold i2 at h;simp only [Zb,Za,decide_eq_true_eq]at h;omega
 ·intro C u;obtain⟨x,t,rfl⟩:=Zi.1 u;obtain⟨⟨f,g⟩,j,l⟩:=a.right (b x t);omega
theorem kQ {D:aP} {B:Nat} (h: ∀e∈D,e.1.length<=B): ∀i:Nat,aR D i<=i * B
 |0=>by simp [aR]
 |i+1=>by
  have a:=kQ h i;rw [Nat.add_mul,Zq];cases hi:D[i]? with
  |none=>
   have:=List.getElem?_eq_none_iff.1 hi;have e:aR D (i+1)=aR D i:=by
    unfold aR;rw [Zm this,Zm (by omega)]
   omega
  |some e=>
   have:=ij hi;have:=h e (Zj hi);omega
def jM (n:Nat) (fi:jc):Nat:=((List.range n).map λi=>(fi i).length).sum
theorem oq (n:Nat) (fi:jc):jM (n+1) fi=jM n fi+(fi n).length:=by
 unfold jM;rw [Zl,Zf,List.sum_append];simp
theorem uI {fi:jc} {i:Nat} {z:Int×Nat}: ∀{n:Nat},jM n (upd fi i (fi i++[z]))=jM n fi+if i<n then 1 else 0
 |0=>by simp [jM]
 |n+1=>by
  rw [oq,oq,uI (n:=n)];by_cases e:n=i
  ·subst e;rw [aC,Ze,List.length_singleton,if_neg (by omega),if_pos (by omega)];omega
  ·rw [aN e];by_cases h:i<n
   ·rw [if_pos h,if_pos (by omega)];omega
   ·rw [if_neg h,if_neg (by omega)];omega
theorem rm {fi:jc} {B:Nat} (h: ∀i,(fi i).length<=B): ∀n:Nat,jM n fi<=n * B
 |0=>by simp [jM]
 |n+1=>by
  rw [oq,Nat.add_mul,Zq];have:=rm h n;have:=h n;omega
theorem r8.len {G:ac} {st:Int} {D:aP} {fi:jc} {na:Nat} (h:r8 G st D fi na) (i:Nat):(fi i).length<=G.rules.length:=by
 have:=ki G.rules.length (-1) (h.nodup i) (λx a=>by
  obtain⟨⟨e,f⟩,b,rfl⟩:=Zi.1 a
  have:=(h.key i e f b).1
  omega)
 simpa using this
structure ItI (d:LD) (cm:Nat->List Co) (y:Dy):Prop where
 fi:r8 d.G d.st d.D y.fi y.na
 ed: ∀e∈y.ed,r9 d.G d.st d.D cm y.fi e
 cnt:y.na=aR d.D d.D.length+jM d.D.length y.fi
 F:y.F=F00
 pos:1<=y.na
 src: ∀i k p,(k,p)∈y.fi i->Em d.G d.st d.D cm i k
structure GrI (y y':Dy):Prop where
 ed: ∀e∈y.ed,e∈y'.ed
 fi: ∀i z,z∈y.fi i->z∈y'.fi i
theorem GrI.refl (y:Dy):GrI y y:=⟨λ_ h=>h,λ_ _ h=>h⟩
theorem GrI.trans {a b c:Dy} (h:GrI a b) (g:GrI b c):GrI a c:=⟨λe j=>g.ed e (h.ed e j),λi f k=>g.fi i f (h.fi i f k)⟩
section
variable {d : LD} {cm : Nat -> List Co} {y : Dy}
theorem ItI.na_le (h:ItI d cm y) (a:i9 d.G d.st d.D) (f:KnA d.G d.st):y.na<=10000000:=by
 have k:=kQ (D:=d.D) (B:=2709) (λe g=>by
  obtain⟨i,hi,rfl⟩:=Zd g
  exact iG f (a.strict i _ (List.getElem?_eq_getElem hi)) (λx j=>(a.kern i _ x (List.getElem?_eq_getElem hi) j).1)) d.D.length
 have l:=rm (fi:=y.fi) (B:=300) (λi=>Zo (h.fi.len i) f.r) d.D.length;have b:=a.n;have n:d.D.length * 2709<=2000 * 2709:=Zp _ b;have o:d.D.length * 300<=2000 * 300:=Zp _ b;have:=h.cnt;omega
theorem ItI.fi_le (h:ItI d cm y) (a:KnA d.G d.st) (i:Nat):(y.fi i).length<=300:=Zo (h.fi.len i) a.r
theorem EP (y:Dy) (i:Nat) (k:Int):(i3 y i k).1.ed=y.ed:=by unfold i3;split<;>rfl
theorem ItI.end_ {i:Nat} {k:Int} (h:ItI d cm y) (hi:i<d.D.length) (T:0<=k/\k<(d.G.rules.length:Int)) (X:rgt d.G d.st k=[]) (Y:Em d.G d.st d.D cm i k):
  ItI d cm (i3 y i k).1/\(k,(i3 y i k).2)∈(i3 y i k).1.fi i/\GrI y (i3 y i k).1:=by
 cases p:(y.fi i).find? (λx=>decide (x.1=k))with
 |some x=>
  have e:i3 y i k=(y,x.2):=by unfold i3;rw [p]
  have n:=List.mem_of_find?_eq_some p;have o:=List.find?_some p;rw [decide_eq_true_eq]at o;rw [e];exact⟨h,by obtain⟨u,v⟩:=x;simp only at o;subst o;exact n,GrI.refl y⟩
 |none=>
  have e:i3 y i k=({i8 y with fi:=upd y.fi i (y.fi i++[(k,y.na)])},y.na):=by unfold i3;rw [p]
  have U: ∀f,(k,f)∉y.fi i:=λf W=>by
   have:=List.find?_eq_none.1 p _ W;simp at this
  rw [e];have I: ∀b l,l∈y.fi b->l∈upd y.fi i (y.fi i++[(k,y.na)]) b:=λb l a=>by
   by_cases j:b=i
   ·subst j;rw [aC];exact Zh _ a
   ·rw [aN j];exact a
  have r: ∀b l,l∈upd y.fi i (y.fi i++[(k,y.na)]) b->l∈y.fi b\/(b=i/\l=(k,y.na)):=λb l a=>by
   by_cases j:b=i
   ·subst j;rw [aC]at a;rcases Zg.1 a with a|a
    ·exact .inl a
    ·exact .inr ⟨rfl,Zk.1 a⟩
   ·rw [aN j]at a;exact .inl a
  refine⟨⟨⟨?_,λb C f a=> ?_,λb=> ?_,λb K L ad f a g=> ?_,λb R=> ?_⟩,λe B=>(h.ed e B).mono I,?_,?_,?_,λb C f a=> ?_⟩,?_,⟨λe B=>B,I⟩⟩
  ·exact Nat.le_succ_of_le h.fi.le
  ·rcases r b _ a with a|⟨-,a⟩
   ·obtain⟨u,v,c,e⟩:=h.fi.key b C f a;exact⟨u,v,c,Nat.lt_succ_of_lt e⟩
   ·injection a with n o
    subst n o;exact⟨T,X,h.fi.le,Nat.lt_succ_self _⟩
  ·by_cases j:b=i
   ·subst j;show((upd y.fi b (y.fi b++[(k,y.na)]) b).map (·.1)).Nodup;rw [aC,Zf,List.nodup_append];refine⟨h.fi.nodup b,by simp,λu N v H e=> ?_⟩;obtain⟨⟨Z,M⟩,O,rfl⟩:=Zi.1 N;simp only [List.map_cons,List.map_nil,Zk]at H;simp only at e;rw [H]at e;subst e;exact U M O
   ·show((upd y.fi i (y.fi i++[(k,y.na)]) b).map (·.1)).Nodup;rw [aN j];exact h.fi.nodup b
  ·have lt: ∀{b L},(L,f)∈y.fi b->f<y.na:=λa=>(h.fi.key _ _ _ a).2.2.2
   rcases r b _ a with a|⟨n,a⟩
   ·rcases r K _ g with g|⟨F,g⟩
    ·exact h.fi.inj _ _ _ _ _ a g
    ·injection g with _ e;have:=lt a;omega
   ·rcases r K _ g with g|⟨F,g⟩
    ·injection a with _ e;have:=lt g;omega
    ·injection a with w _
     injection g with z _
     exact⟨n.trans F.symm,w.trans z.symm⟩
  ·show upd y.fi i (y.fi i++[(k,y.na)]) b=[];rw [aN (by omega)];exact h.fi.out b R
  ·show y.na+1=aR d.D d.D.length+jM d.D.length (upd y.fi i (y.fi i++[(k,y.na)]));rw [uI,if_pos hi];have:=h.cnt;omega
  ·show upd y.F y.na aj=F00;rw [h.F]
   funext f t
   by_cases E:f=y.na
   ·subst E;rw [aC];have:=h.pos;unfold F00 aj;rw [show decide (y.na=0)=false from decide_eq_false (by omega)];rfl
   ·rw [aN E]
  ·exact Nat.le_add_left 1 y.na
  ·rcases r b _ a with a|⟨w,a⟩
   ·exact h.src b C f a
   ·injection a with z _
    rw [w,z];exact Y
  ·show(k,y.na)∈upd y.fi i (y.fi i++[(k,y.na)]) i;rw [aC];exact List.mem_append_right _ (Zk.2 rfl)
theorem ItI.edge {e:Ed} (h:ItI d cm y) (b:r9 d.G d.st d.D cm y.fi e):ItI d cm {y with ed:=y.ed++[e]}/\GrI y {y with ed:=y.ed++[e]}:=
 ⟨⟨h.fi,λx a=>by
  rcases Zg.1 a with a|a
  ·exact h.ed x a
  ·rw [Zk.1 a];exact b,h.cnt,h.F,h.pos,h.src⟩,⟨λx a=>Zh _ a,λ_ _ f=>f⟩⟩
theorem ItI.edv (h:ItI d cm y): ∀e∈y.ed,(0<=e.tq9/\e.tq9<(y.na:Int))/\e.at_<y.na:=λe j=>by
 obtain⟨i,x,s,f,n,g⟩:=h.ed e j;have o:=h.fi.le;refine⟨?_,by have:=f.lt;omega⟩;rcases g with⟨-,-,k,l,-,b,a⟩|⟨-,c,-,p,-,-,-,-,l,b,a⟩
 ·have:=a.lt;omega
 ·rcases a with⟨-,a⟩|⟨y0,r,k,-,-,a⟩
  ·have:=(h.fi.key _ _ _ a).2.2.2;omega
  ·have:=a.lt;omega
end
theorem wP {D:aP} {a:List Int} {j:Nat} {e:List It×List It} {x:It} (h:a[j]? =some ((aR D j:Nat):Int)) (b:D[j]? =some e) (g:x∈e.1): ∃p:Nat,i7 D a j x=(p:Int)/\KP D p j x:=by
 obtain⟨m,hm⟩: ∃m,m=e.1.idxOf x:=⟨_,rfl⟩;have f:m<e.1.length:=by rw [hm];exact List.idxOf_lt_length_of_mem g
 have k:e.1[m]? =some x:=by
  rw [List.getElem?_eq_getElem f];congr 1;subst hm;exact List.getElem_idxOf f
 refine⟨aR D j+m,?_,e,m,b,k,rfl⟩;unfold i7;rw [b,h];show(if x∈e.1 then _ else _)=_;rw [if_pos g];show((aR D j:Nat):Int)+((e.1.idxOf x:Nat):Int)=_;rw [<-hm];rfl
def D5 (d:LD):Prop:= ∀j:Nat,j<d.D.length->d.ba[j]? =some ((aR d.D j:Nat):Int)
theorem FQ {d:LD} (b:i9 d.G d.st d.D) (u:D5 d) {p i:Nat} {x:It} {s:Int} (w:KP d.D p i x) (g:aw d.G d.st x=(s,true)): ∃j:Nat,dM d.D i s=(j:Int)/\j<d.D.length/\EA d.D ⟨toD d i x s,p,aj,true⟩ i x s:=by
 obtain⟨e,f,n⟩:=w.mem;have h:Cl d.G d.st e.1 x:= .base x n (b.kern i e x f n).1;obtain⟨j,a⟩:=b.has i e x s f h g;obtain⟨o,k,v⟩:=b.tq9 i j e s f a;have l:=(List.getElem?_eq_some_iff.1 k).1;have hm:((x.1,x.2+1):It)∈o.1:=by rw [v];exact((jg d.G d.st e.1 s).2 _).2 ⟨x,h,g,rfl⟩
 obtain⟨z,r,t⟩:=wP (u j l) k hm;refine⟨j,a,l,rfl,rfl,j,z,a,?_,t⟩;show i7 d.D d.ba (dM d.D i s).toNat (x.1,x.2+1)=_;rw [a,Zc];exact r
theorem Ej {G:ac} {st:Int} {l:List It} {x:It} {s y k:Int} (g:Cl G st l x) (b:aw G st x=(s,true)) (h:Bg G st s y) (a:k∈az G y):Cl G st l (k,0):=by
 induction h generalizing k with
 |base=>exact .next x s k g b a
 |next o n m _ f e _ j=>exact .next (n,0) m k (j f) e a
theorem FO {d:LD} (b:i9 d.G d.st d.D) (B:D5 d) {p i:Nat} {x:It} {s y k y0:Int} {r:List Int} (F:KP d.D p i x) (C:aw d.G d.st x=(s,true)) (I:Bg d.G d.st s y) (t:k∈az d.G y) (H:rgt d.G d.st k=y0::r):
  ∃j a:Nat,dM d.D i y0=(j:Int)/\j<d.D.length/\toD d i (k,0) y0=(a:Int)/\KP d.D a j (k,1):=by
 obtain⟨e,f,u⟩:=F.mem;have l:=Ej (.base x u (b.kern i e x f u).1) C I t;have h:=jX t H;obtain⟨j,g⟩:=b.has i e (k,0) y0 f l h;obtain⟨v,n,E⟩:=b.tq9 i j e y0 f g;have o:=(List.getElem?_eq_some_iff.1 n).1;have hm:((k,0+1):It)∈v.1:=by rw [E];exact((jg d.G d.st e.1 y0).2 _).2 ⟨(k,0),l,h,rfl⟩
 obtain⟨a,w,z⟩:=wP (B j o) n hm;refine⟨j,a,g,o,?_,z⟩;show i7 d.D d.ba (dM d.D i y0).toNat (k,0+1)=_;rw [g,Zc];exact w
def jp (d:LD) (p i:Nat) (x:It) (c:Co) (k:Int) (y:Dy):Prop:=(rgt d.G d.st k=[]-> ∃p',(k,p')∈y.fi i)/\(gV (d.G.terms.length+1) (tlI d.G d.st x)=false-> ∃e∈y.ed,e.at_=p/\EB d.G d.st d.D y.fi e i x c k)
theorem jp.mono {d:LD} {p i:Nat} {x:It} {c:Co} {k:Int} {y a:Dy} (h:jp d p i x c k y) (g:GrI y a):jp d p i x c k a:=
 ⟨λo=>(h.1 o).imp λr n=>g.fi _ _ n,λl=>by
  obtain⟨e,j,b,f⟩:=h.2 l
  exact⟨e,g.ed e j,b,f.mono g.fi⟩⟩
end Go.Proofs.YthlbjgabhpdbfaaGreat
namespace Go.Proofs.YthlbjgabhpdbfaaGreat
open Go.Proofs.Tryz
open Bool renaming and_eq_true->Za,or_eq_true->Zb
open Int renaming toNat_natCast->Zc
open List renaming getElem_of_mem->Zd,length_append->Ze,map_append->Zf,mem_append->Zg,mem_append_left->Zh,mem_map->Zi,mem_of_getElem?->Zj,mem_singleton->Zk,range_succ->Zl,take_of_length_le->Zm
open Nat renaming le_refl->Zn,le_trans->Zo,mul_le_mul_right->Zp,one_mul->Zq
attribute [local irreducible] wpStill
section
variable {P : Program} {ops : Array Oper} {md : Region.Mode} {S : World -> Prop} {Q : Exit -> Act -> World -> Prop}
def fm (l:List Oper):List Nat->List Oper
 |[]=>[]
 |i::t=>match l[i]? with|some o=>o::fm l t|none=>fm l t
def iL:List Nat->Array Bool->Array Bool
 |[],listed=>listed
 |k::t,listed=>iL t (listed.setIfInBounds k true)
def zv (md:Region.Mode) (ops:Array Oper):List Nat->Array Bool->Bool
 |[],_=>true
 |k::t,listed=>(Region.ready md ops listed).contains k&&Region.free md ops listed k&&zv md ops t (listed.setIfInBounds k true)
def zw (md:Region.Mode) (ops:Array Oper):List Nat->Array Bool->Bool
 |[],_=>true
 |k::t,listed=>decide (Region.ready md ops listed=[k])&&zw md ops t (listed.setIfInBounds k true)
def B9 (ops:Array Oper) (rs ms:List Nat) (m:Nat):Bool:=
 Region.noSelect ops&&decide (m<ops.size)&&decide (rs.length+ms.length=m)&&rs.all (λi=>decide (i<m))&&ms.all (λi=>decide (i<m))&&pW .any ops 0 m&&uc .any ops m&&zv .any ops rs (Array.replicate ops.size false)&&zw .any ops ms (iL rs (Array.replicate ops.size false))&&
  decide (Region.ready .any ops (iL ms (iL rs (Array.replicate ops.size false)))=[m])&&Region.seqB .any ops (ops.size - m) m (iL ms (iL rs (Array.replicate ops.size false)))
theorem uD {m:Nat} {rest b:List Oper} {l2:Array Bool} (hm:m<=b.length): ∀(g:List Nat) (f:Array Bool) (a:Act) (w:World),g.all (λi=>decide (i<m))=true->iL g f=l2->zw md b.toArray g f=true->
  lV P b.toArray Q S rest (fm b g) a w->mH P md b.toArray Q S m (λv n B=>v=l2/\wpList P b.toArray Q rest n B) g.length f a w
 |[],f,a,w,_,he,_,h=>⟨he,h⟩
 |k::t,f,a,w,hk,he,hB,h=>by
  simp only [List.all_cons,Za,decide_eq_true_eq]at hk;simp only [zw,Za,decide_eq_true_eq]at hB;have p:b[k]? =some b[k]:=List.getElem?_eq_getElem (by omega);have r:fm b (k::t)=b[k]::fm b t:=by
   show(match b[k]? with|some z=>z::fm b t|none=>fm b t)=_;rw [p]
  rw [r]at h;refine⟨λe=>(by rw [hB.1]at e;cases e),λu l=> ?_⟩;rw [hB.1]at l;have:u=k:=by simpa using l
  subst this;refine⟨hk.1,qx (by simp) (λo w2 j=>⟨j.1,?_⟩) h⟩;exact uD hm t _ o w2 hk.2 he hB.2 j.2
theorem rV {m r:Nat} {b:List Oper} {L:Array Bool->Act->World->Prop} {w:World} (v:Region.noSelect b.toArray=true) (j: ∀c a f w,Q (.panic c) a w->Q (.panic c) f w) (u:pW md b.toArray 0 m=true) (n:uc md b.toArray m=true) (hm:m<b.toArray.size)
  (o: ∀e a w,L e a w-> ∀N∈Region.ready md b.toArray e,m<=N) (l:S w) {l2:Array Bool}:
  ∀(rs:List Nat) (e:Array Bool) (a:Act),rs.all (λi=>decide (i<m))=true->HeadInv md b.toArray m e->iL rs e=l2->zv md b.toArray rs e=true->
   fq P b.toArray S (λf=>mH P md b.toArray Q S m L r l2 f w) (fm b rs) a->mH P md b.toArray Q S m L (rs.length+r) e a w
 |[],e,a,_,_,he,_,h=>by
  have E:e=l2:=he;subst E;rw [List.length_nil,Nat.zero_add];exact h
 |k::t,e,a,hk,inv,he,hB,h=>by
  simp only [List.all_cons,Za,decide_eq_true_eq]at hk;simp only [zv,Za]at hB;have H:k<b.length:=by have:m<b.length:=(by simpa using hm);omega
  have z:b[k]? =some b[k]:=List.getElem?_eq_getElem H;have I:fm b (k::t)=b[k]::fm b t:=by
   show(match b[k]? with|some O=>O::fm b t|none=>fm b t)=_;rw [z]
  rw [I]at h;obtain⟨⟨K,F⟩,B⟩:=hB;obtain⟨R,M,C⟩:=h;have g:b.toArray[k]? =some b[k]:=by simp
  have p:k∈Region.ready md b.toArray e:=by simpa using K
  rw [List.length_cons,show t.length+1+r=(t.length+r)+1 by omega];refine rX g (Region.noSelect_spec v) (λc a w h=>j c _ _ w h) u n hm hk.1 o _ e a w inv (Region.free_spec g F) p M l ?_;exact rV v j u n hm o l t _ _ hk.2 (inv.set p hk.1) he B C
end
theorem zE {P:Program} {ops:Array Oper} {S:World->Prop} {b:Act->Prop} {a:Act} {o:Oper} {t:List Oper} (e:Region.wanted o (yielded ops a.tmps)=false) (h:fq P ops S b t (a.put o.dst undef)):fq P ops S b (o::t) a:=⟨undef,.inr ⟨e,rfl⟩,h⟩
theorem lO {P:Program} {id:Nat} {Q:Exit->Act->World->Prop} {a:Act} {w:World} {l:List Oper} (S:World->Prop) (rs b:List Nat) (m:Nat) (hm:P.follows .mixedOrders=true) (r:B9 l.toArray rs b m=true) (F:S w.drew)
  (h:fq P l.toArray S (λj=>lV P l.toArray (NoPanic Q) S (l.drop m) (fm l b) j w.drew) (fm l rs) a):(Code.region id l.toArray true).wp P Q a w:=by
 refine wp_region_noPanic ?_;simp only [B9,Za,decide_eq_true_eq]at r;obtain⟨⟨⟨⟨⟨⟨⟨⟨⟨⟨R,u⟩,K⟩,M⟩,L⟩,T⟩,I⟩,N⟩,H⟩,O⟩,U⟩:=r;have ak:m<l.length:=by simpa using u
 refine wp_region_any hm ?_;have Y:HeadInv .any l.toArray m (Array.replicate l.toArray.size false):=
  ⟨by simp,λp an _ k=>(by rw [getD_replicate_false]at k;cases k),λad _ W=>getD_in (by simpa using W) (getD_replicate_false _ _)⟩
 have E: ∀(e:Array Bool) (a:Act) (w:World),(e=iL b (iL rs (Array.replicate l.toArray.size false))/\wpList P l.toArray (NoPanic Q) (l.drop m) a w)->wpAny P .any l.toArray (NoPanic Q) (l.drop m).length e a w:=λe a w h=>by
  obtain⟨rfl,h⟩:=h;refine wpAny_of_seq (l.drop m) m _ a w (λp=>by rw [List.getElem?_drop];simp) ?_ h;rw [show(l.drop m).length=l.toArray.size - m by simp];exact U
 have v:=rV (md:= .any) (P:=P) (Q:=NoPanic Q) (S:=S) (w:=w.drew) (m:=m) (r:=b.length) (L:=λe a w=>e=iL b (iL rs (Array.replicate l.toArray.size false))/\wpList P l.toArray (NoPanic Q) (l.drop m) a w) R (λc a j w h=>h) T I u
  (λe a w k p t=>by rw [k.1,O]at t;have:p=m:=(by simpa using t);omega) F rs (Array.replicate l.toArray.size false) a M Y rfl N (by
   have Z: ∀(n:List Oper) (a:Act) (f g:Act->Prop),(∀a,f a->g a)->fq P l.toArray S f n a->fq P l.toArray S g n a:=by
    intro n
    induction n with
    |nil=>intro a f g o h;exact o a h
    |cons al ad X=>intro a f g o h;obtain⟨ai,B,C⟩:=h;exact⟨ai,B,X _ f g o C⟩
   refine Z _ _ _ _ (λj z=> ?_) h
   exact uD (md:= .any) (l2:=iL b (iL rs (Array.replicate l.toArray.size false))) (by omega) b (iL rs (Array.replicate l.toArray.size false)) j w.drew L rfl H z)
 have:=mS E _ _ _ _ v;rw [K,show m+(l.drop m).length=l.toArray.size by simp;omega]at this;exact this
end Go.Proofs.YthlbjgabhpdbfaaGreat

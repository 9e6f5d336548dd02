/- Sets of numbers: the list of all. (The part of XBits5 that other seats take; J64: a number as a value.) -/
import Derived.Test.YthlbjgabhpdbfaaGreatBBits3
import Derived.Test.YthlbjgabhpdbfaaGreatBBase
import Derived.OrdersHeld
import Derived.Test.YthlbjgabhpdbfaaGreatProg
set_option linter.unusedVariables false
set_option maxRecDepth 100000
set_option maxHeartbeats 1000000
namespace Go.Proofs.YthlbjgabhpdbfaaGreat
open Go.Proofs.Tryz
open Bool renaming and_eq_true->Za,or_eq_true->Zb
open List renaming length_cons->Zc,length_take->Zd,mem_range->Ze,range_succ->Zf
open Nat renaming le_refl->Zg,le_trans->Zh,lt_of_lt_of_le->Zi,zero_le->Zj
open Go.RowKit
abbrev J64 (n:Nat):Value:= .int .i64 (n:Int)
def dV (f:Nat->Bool) (k:Nat):List Nat:=(List.range k).filter f
theorem tC (f:Nat->Bool) (k:Nat):dV f (k+1)=dV f k++(if f k then [k]else []):=by
 unfold dV;rw [Zf,List.filter_append];cases h:f k<;>simp [h]
theorem tD {f:Nat->Bool} {k j:Nat} (g:k<=j) (h: ∀a,k<=a->a<j->f a=false):dV f j=dV f k:=by
 induction j with
 |zero=>rw [show k=0 by omega]
 |succ j c=>
  by_cases e:k=j+1
  ·rw [e]
  ·rw [tC,h j (by omega) (by omega),c (by omega) λa b d=>h a b (by omega)];simp
theorem xp (f:Nat->Bool) (k:Nat):(dV f k).length<=k:=by
 have:=List.length_filter_le f (List.range k);simpa [dV]using this
theorem lQ (f:Nat->Bool) (n k:Nat):(∃j:Nat,eL f n k=(j:Int)/\k<=j/\j<n/\f j=true/\ ∀a:Nat,k<=a->a<j->f a=false)\/(eL f n k= -1/\ ∀a:Nat,k<=a->a<n->f a=false):=by
 unfold eL;rcases h:(List.range n).find? (λj=>decide (k<=j)&&f j)with _|j
 ·right;refine⟨rfl,λa b c=> ?_⟩;rw [List.find?_eq_none]at h;have:=h a (Ze.2 c);simpa [b]using this
 ·left;have d:=h;rw [List.find?_range_eq_some]at d;obtain⟨b,c,e⟩:=d;simp at b;refine⟨j,rfl,b.1,Ze.1 c,b.2,λa hi g=> ?_⟩;have:=e a g;simpa [hi]using this
def xA (w:World) (l:List Nat) (e:Ending) (w':World):Prop:=
 ∃A c,e= .returned (.slice A l.length c)/\w'.ownsRow w.heap.size 3 1 (.slice A l.length c) l.length (l.map J64)/\Below w.heap.size w w'
theorem xG (i:Int) (w:World):Calls prog 230 #[.pointer none,.int .i64 i] w λe w'=>e= .returned (.int .i64 (-1))/\w=w':=by
 go_enter func230,ntmps230
 go_wp2
 all_goals
  go_loop [5,6] (λb c=> ∃a:Nat,b= .int .i64 a) (λb _=>0)
  case atStart=>exact⟨i.toNat,by first|rw [show((i.toNat:Nat):Int)=i by omega]|rw [show i.toNat=0 by omega];rfl⟩
  case round=>
   obtain⟨a,rfl⟩:=hrel
   go_wp2_with (go_at_call 255;refine(xF _).mono ?_;rintro e w' ⟨rfl,rfl⟩)
   go_ret
   exact⟨rfl,rfl⟩
theorem wK {w:World} {b n:Nat} {f:Nat->Bool} {S:Nat->Prop} (h:aG w b S n f):
  Calls prog 234 #[.pointer (some ⟨b,0,none⟩)] w (xA w (dV f n)):=by
 have ai:=h.room;have x:=h.lt;have r:=ab h;have Y:=ab x;clear h x
 go_enter func234,ntmps234
 go_wp2_with fail
 refine(nY r.out 0 (by decide)).mono ?_;rintro e w' ⟨rfl,rfl⟩
 go_wp2_with fail
 go_loopw [3,4] (λX p wr=> ∃(a:Nat) (d:Option Addr) (g:Nat),a<=n/\p= .int .i64 (eL f n a)/\X= .slice d (dV f a).length g/\wr.ownsRow w.heap.size 3 1 (.slice d (dV f a).length g) (dV f a).length ((dV f a).map J64)/\Below w.heap.size w wr) (λ_ p _=>if intOf p<0 then 0 else n+1 - (intOf p).toNat)
 case atStart=>exact⟨0,none,0,Zj _,rfl,rfl,World.ownsRow_nil _ _ _ _,Below.refl _ _⟩
 case round=>
  obtain⟨a,d,g,J,rfl,rfl,o,i⟩:=hrel;have U:=i.size;rcases lQ f n a with⟨c,k,K,ad,z,l⟩|⟨k,l⟩
  ·rw [k];have j:=tD K l;have m:=tC f c;rw [z,j]at m;simp only [if_true]at m;have L:=xp f a;obtain⟨q,A⟩: ∃q,q=dV f a:=⟨_,rfl⟩;rw [<-A]at o m L⊢;have v:=ab m;have C:=ab i;have Z:aG wr b S n f:=r.out.touch (aa.of_size i (λ_=>False)) (λ_ _ t=>t);clear k l j z m A i
   go_wp2_with (at_builtin;refine aJ _ rfl (.tmp 13) (.tmp 15) _ rfl elemInt w.heap.size _ q.length (q.map J64) rfl (o.alloc _) _ _ [J64 c] 1 rfl rfl (Rd.one [J64 c] 1 rfl) (by simp [Value.oneCell']) (by unfold maxLen;omega) (by omega) (by simp;omega) ?_)
   intro A2 c2 w2 M I _;have y:Below w.heap.size w w2:=((C.out.alloc U _).grown I (by simp;omega) (λW O=>(o.lt W O).1));have H:=r.out.touch (aa.of_size y (λ_=>False)) (λ_ _ t=>t)
   go_wp2_with fail
   refine(nY H ((c:Int)+1) (WalkArith.wf_i64 (by omega))).mono ?_;rintro e w' ⟨rfl,rfl⟩
   go_wp2_with fail
   go_roundw
   case rel=>
    refine⟨c+1,A2,c2,by omega,?_,?_,?_,y⟩
    ·rfl
    ·rw [v.out];simp
    ·rw [v.out];simpa using M
   case measure=>
    rcases lQ f n (c+1)with⟨V,hj',h1,h2,_⟩|⟨hj',_⟩
    ·have D: ¬(V:Int)<0:=(by omega);have s: ¬(c:Int)<0:=(by omega);simp [intOf,hj',D,s];omega
    ·have s: ¬(c:Int)<0:=(by omega);simp [intOf,hj',s];omega
  ·rw [k];have j:=tD J l;have u:=ab j;clear l j k
   go_wp2_with fail
   go_ret
   have E:xA w (dV f n) (.returned (.slice d (dV f a).length g)) wr:=⟨d,g,by rw [u.out],by rw [u.out];exact o,i⟩;exact E
end Go.Proofs.YthlbjgabhpdbfaaGreat
namespace Go.Proofs.YthlbjgabhpdbfaaGreat
open Go.Proofs.Tryz
open Bool renaming and_eq_true->Za,or_eq_true->Zb
open List renaming length_cons->Zc,length_take->Zd,mem_range->Ze,range_succ->Zf
open Nat renaming le_refl->Zg,le_trans->Zh,lt_of_lt_of_le->Zi,zero_le->Zj
section
section
variable {P : Program} {ops : Array Oper} {md : Region.Mode}
theorem tk {Q:Exit->Act->World->Prop} {S:World->Prop} {i:Nat} {oi:Oper} {v:Value} {e:Nat} {c:Array Bool} {a:Act} {w:World} (hi:ops[i]? =some oi)
  (b:(Region.noSelect ops&&(Region.free md ops c i&&(Region.ready md ops c).contains i))=true)
  (f: ∀d a w,Q (.panic d) (a.put oi.dst v) w->Q (.panic d) a w) (j:YieldsIf P ops S oi v a) (g:S w)
  (h:wpAnyH P md ops Q S e (c.setIfInBounds i true) (a.put oi.dst v) w):wpAnyH P md ops Q S (e+1) c a w:=by
 rw [Za,Za]at b;exact wpAnyH_take hi b.1 b.2.1 b.2.2 f j g h
theorem tZ {P:Program} {ops:Array Oper} {md:Region.Mode} {Q:Exit->Act->World->Prop} {S:World->Prop} (i:Nat) {oi:Oper} {v:Value} {d:Nat} {b:Array Bool} {a:Act} {w:World} (h:wpAnyH P md ops Q S d (b.setIfInBounds i true) (a.put oi.dst v) w) (hi:ops[i]? =some oi:=by ((try simp only [gT,gs,gz]);try rfl)) (g:(Region.noSelect ops&&(Region.free md ops b i&&(Region.ready md ops b).contains i))=true:=by kernel_rfl) (e: ∀c a w,Q (.panic c) (a.put oi.dst v) w->Q (.panic c) a w:=by exact λ_ _ _ h=>h) (j:YieldsIf P ops S oi v a:=by (refine Or.inl ⟨by rfl,?_⟩;intro wS hwS;(try dsimp only at hwS);go_simp;all_goals with_reducible rfl)) (f:S w:=by assumption):wpAnyH P md ops Q S (d+1) b a w:=tk hi g e j f h
theorem gT {α:Type} (l:List α) (i:Nat):l.toArray[i]? =l[i]? :=List.getElem?_toArray
theorem gs {α:Type} (a:α) (l:List α) (i:Nat):(a::l)[i+1]? =l[i]? :=List.getElem?_cons_succ
theorem gz {α:Type} (a:α) (l:List α):(a::l)[0]? =some a:=List.getElem?_cons_zero
theorem sT {α:Type} (l:List α) (i:Nat) (a:α):l.toArray.setIfInBounds i a=(l.set i a).toArray:=List.setIfInBounds_toArray ..
theorem s0 {α:Type} (a b:α) (l:List α):(a::l).set 0 b=b::l:=List.set_cons_zero
theorem s1 {α:Type} (a b:α) (l:List α) (i:Nat):(a::l).set (i+1) b=a::l.set i b:=List.set_cons_succ
def pW (md:Region.Mode) (ops:Array Oper) (s n:Nat):Bool:=
 (List.range n).all λi=>decide (i<s)||(List.range (n+1)).any λj=>decide (i<j)&&Region.waitsFor md ops j i
def uc (md:Region.Mode) (ops:Array Oper) (n:Nat):Bool:=
 (List.range ops.size).all λt=>decide (t<=n)||(List.range t).any λi=>decide (n<=i)&&Region.waitsFor md ops t i
theorem qB {w:World} {s n:Nat} {h:Array Bool} (E:pW md ops s n=true) (A:uc md ops n=true) (O:n<ops.size) (p:HeadInv md ops n h):
  ∀(d i:Nat),n - i=d->s<=i->i<n->h.getD i true=false-> ∀b,n<=b->b∉Region.ready md ops h:=by
 intro d
 induction d using Nat.strongRecOn with
 |_ d J=>
  intro i L U hi x b V v;obtain⟨_,z,o,q⟩:=mem_ready.1 v;have H:b<ops.size:=(Array.getElem?_eq_some_iff.1 o).1;by_cases I:b=n
  ·subst I;have a:=List.all_eq_true.1 E i (Ze.2 hi);rw [Zb]at a;rcases a with a|a
   ·have:=of_decide_eq_true a;omega
   obtain⟨c,m,g⟩:=List.any_eq_true.1 a;simp only [Za,decide_eq_true_eq]at g;obtain⟨y,u,e,k,j,l⟩:=Region.waitsFor_spec g.2;have M:c<=b:=by have:=Ze.1 m;omega
   by_cases r:c=b
   ·subst r;have:y=z:=Option.some.inj (u.symm.trans o);subst this;have f:=q e k j;rw [l,getD_both x]at f;cases f
   ·cases t:h.getD c false with
    |true=>
     have f:=p.closed c y u t e k j;rw [l,getD_both x]at f;cases f
    |false=>
     have C:c<h.size:=(by rw [p.size];omega);exact J (b - c) (by omega) c rfl (by omega) (by omega) (getD_in C t) b (Zg _) v
  ·have a:=List.all_eq_true.1 A b (Ze.2 H);simp only [Zb,decide_eq_true_eq]at a;rcases a with a|a
   ·omega
   ·obtain⟨c,m,g⟩:=List.any_eq_true.1 a;simp only [Za,decide_eq_true_eq]at g;obtain⟨K,D,e,k,j,l⟩:=Region.waitsFor_spec g.2;have:K=z:=Option.some.inj (D.symm.trans o);subst this;have f:=q e k j;have r:=Ze.1 m;rw [l,getD_both (p.tail c (by omega) (by omega))]at f;cases f
def rdB (md:Region.Mode) (ops:Array Oper):Nat->Nat->Array Bool->Bool
 |0,_,_=>true
 |m+1,k,listed=>(Region.ready md ops listed).contains k&&Region.free md ops listed k&&rdB md ops m (k+1) (listed.setIfInBounds k true)
def gY:Nat->Nat->Array Bool->Array Bool
 |0,_,listed=>listed
 |m+1,k,listed=>gY m (k+1) (listed.setIfInBounds k true)
def aB (P:Program) (ops:Array Oper) (Q:Exit->Act->World->Prop) (o:Oper) (K:Act->World->Prop) (a:Act) (w:World):Prop:=wpList P ops (Exit.then K Q) [o] a w
def aO (P:Program) (ops:Array Oper) (Q:Exit->Act->World->Prop):List Nat->List Oper->Act->World->Prop
 |[],l,a,w=>wpList P ops Q l a w
 |m::ms,l,a,w=>wpStill P ops w (λa'=>match l.drop m with|[]=>False|o::rest=>aB P ops Q o (aO P ops Q ms rest) a' w) (l.take m) a
theorem qx {Q:Exit->Act->World->Prop} {i:Nat} {o:Oper} {f g:Act->World->Prop} {a:Act} {w:World} (hi:ops[i]? =some o) (c: ∀a w,f a w->g a w) (h:aB P ops Q o f a w):wpOp P ops Q i g a w:=by
 unfold aB wpList at h;unfold wpOp;simp only [hi]
 split at h
 ·rename_i d
  rw [if_pos d];rcases h with h|⟨k,l⟩
  ·refine .inl ?_;unfold Oper.wp at *;generalize (execOp a.eval o).run P w=n at *;cases n with
   |ok m w'=>
    cases m<;>simp only [Oper.upon]at h⊢
    case enter t j=>
     refine Calls.mono h λe q b=> ?_
     cases e with
     |returned p=>exact c _ _ b
     |panicked s=>exact b
     |outgrown=>exact b
    case row row j=>exact Rows.mono h λp q b=>c _ _ b
    all_goals first|exact c _ _ h|exact h
   |halt r w'=>cases r<;>simp only [Oper.upon]at h⊢ <;>exact h
  ·exact .inr ⟨k,l⟩
 ·rename_i d
  rw [if_neg d];exact c _ _ h
end
end
section
theorem aU {P:Program} {id:Nat} {Q:Exit->Act->World->Prop} {a:Act} {w:World} {l:List Oper} (hm:P.follows .mixedOrders=true) (c:Region.lexB .any l.toArray=true)
  (h:wpStill P l.toArray w.drew (λb=>Q .normal b w.drew) l a):(Code.region id l.toArray true).wp P Q a w:=
 wp_region_still_lit hm c h
end
section
attribute [local irreducible] wpStill
section
variable {P : Program} {ops : Array Oper} {md : Region.Mode} {S : World -> Prop} {Q : Exit -> Act -> World -> Prop}
def mH (P:Program) (md:Region.Mode) (ops:Array Oper) (Q:Exit->Act->World->Prop) (S:World->Prop) (m:Nat) (L:Array Bool->Act->World->Prop):Nat->Array Bool->Act->World->Prop
 |0,listed,a,w=>L listed a w
 |f+1,listed,a,w=>Region.ready md ops listed≠[]/\ ∀j∈Region.ready md ops listed,j<m/\wpOp P ops Q j (λa' w'=>S w'/\mH P md ops Q S m L f (listed.setIfInBounds j true) a' w') a w
theorem mS {m g:Nat} {L:Array Bool->Act->World->Prop} (c: ∀b a w,L b a w->wpAny P md ops Q g b a w):
  ∀(f:Nat) (b:Array Bool) (a:Act) (w:World),mH P md ops Q S m L f b a w->wpAny P md ops Q (f+g) b a w
 |0,b,a,w,h=>by rw [Nat.zero_add];exact c _ _ _ h
 |f+1,b,a,w,h=>by
  rw [show f+1+g=(f+g)+1 by omega];exact⟨λi=>absurd i h.1,λj hi=>wpOp_mono (λd w' e=>mS c f _ d w' e.2) (h.2 j hi).2⟩
theorem rX {m i:Nat} {oi:Oper} {v:Value} {L:Array Bool->Act->World->Prop} (hi:ops[i]? =some oi) (O: ∀(j:Nat) (o:Oper) r q,ops[j]? =some o->o.op≠ .select r q)
  (W: ∀D a w,Q (.panic D) (a.put oi.dst v) w->Q (.panic D) a w) (M:pW md ops 0 m=true) (E:uc md ops m=true) (hm:m<ops.size) (I:i<m)
  (Z: ∀b a w,L b a w-> ∀j∈Region.ready md ops b,m<=j):
  ∀(f:Nat) (b:Array Bool) (a:Act) (w:World),HeadInv md ops m b->
   (∀j l,ops[j]? =some l->j≠i->b.getD j true=false->(∀e∈l.after,Region.binds md e=true->e.on≠i)->oi.apart ops l=true)->
   i∈Region.ready md ops b->YieldsIf P ops S oi v a->S w->
   mH P md ops Q S m L f (b.setIfInBounds i true) (a.put oi.dst v) w->mH P md ops Q S m L (f+1) b a w:=by
 intro f
 induction f with
 |zero=>
  intro b a w A _ d z s p;have k:=(mem_ready.1 d).1;refine⟨λh=>(by rw [h]at d;cases d),λj g=> ?_⟩;have y:j<m:=by
   rcases Nat.lt_or_ge j m with h|h
   ·exact h
   ·exact absurd g (qB (w:=w) M E hm A _ i rfl (Zj _) I k j h)
  refine⟨y,?_⟩;by_cases c:j=i
  ·subst c;exact z.wpOp hi s ⟨s,p⟩
  ·have:=Z _ _ _ p j (ready_mono g c);omega
 |succ f aT=>
  intro b a w A H d z s p;have k:=(mem_ready.1 d).1;refine⟨λh=>(by rw [h]at d;cases d),λj g=> ?_⟩;have y:j<m:=by
   rcases Nat.lt_or_ge j m with h|h
   ·exact h
   ·exact absurd g (qB (w:=w) M E hm A _ i rfl (Zj _) I k j h)
  refine⟨y,?_⟩;by_cases c:j=i
  ·subst c;exact z.wpOp hi s ⟨s,p⟩
  ·have u:=(p.2 j (ready_mono g c)).2;obtain⟨K,l,C,X⟩:=mem_ready.1 g;have aS: ∀e∈l.after,Region.binds md e=true->e.on≠i:=λe ad Y ai=>by
    have u:=X e ad Y;rw [ai,getD_both k]at u;cases u
   have V:=wpOp_putIf C (H j l C c K aS) (λr q=>O i oi r q hi) (λr q=>O j l r q C) W z u;have ak: ∀n t,ops[n]? =some t->n≠i->(b.setIfInBounds j true).getD n true=false->
     (∀e∈t.after,Region.binds md e=true->e.on≠i)->oi.apart ops t=true:=λn t al an k ap=>by
    refine H n t al an ?_ ap;by_cases J:j=n
    ·subst J;exact K
    ·rw [getD_set_ne true J]at k;exact k
   refine wpOp_mono (λU w' x=>⟨x.2.1,aT (b.setIfInBounds j true) U w' (A.set g y) ak (ready_mono d (Ne.symm c)) x.1 x.2.1 ?_⟩) V;rw [Array.setIfInBounds_comm _ _ c];exact x.2.2
def fq (P:Program) (ops:Array Oper) (S:World->Prop) (K:Act->Prop):List Oper->Act->Prop
 |[],a=>K a
 |o::t,a=> ∃v,YieldsIf P ops S o v a/\fq P ops S K t (a.put o.dst v)
def lV (P:Program) (ops:Array Oper) (Q:Exit->Act->World->Prop) (S:World->Prop) (rest:List Oper):List Oper->Act->World->Prop
 |[],a,w=>wpList P ops Q rest a w
 |o::t,a,w=>aB P ops Q o (λa' w'=>S w'/\lV P ops Q S rest t a' w') a w
def rS (md:Region.Mode) (ops:Array Oper):Nat->Nat->Array Bool->Bool
 |0,_,_=>true
 |m+1,k,listed=>decide (Region.ready md ops listed=[k])&&rS md ops m (k+1) (listed.setIfInBounds k true)
def Eh (ops:Array Oper) (n m:Nat):Bool:=
 Region.noSelect ops&&decide (n<=m)&&decide (m<ops.size)&&pW .any ops 0 m&&uc .any ops m&&rdB .any ops n 0 (Array.replicate ops.size false)&&rS .any ops (m - n) n (gY n 0 (Array.replicate ops.size false))&&
  decide (Region.ready .any ops (gY (m - n) n (gY n 0 (Array.replicate ops.size false)))=[m])&&Region.seqB .any ops (ops.size - m) m (gY (m - n) n (gY n 0 (Array.replicate ops.size false)))
theorem wy {m:Nat} {rest:List Oper} {l2:Array Bool}: ∀(l:List Oper) (k:Nat) (c:Array Bool) (a:Act) (w:World),(∀b,b<l.length->l[b]? =ops[k+b]?)->k+l.length<=m->gY l.length k c=l2->rS md ops l.length k c=true->
  lV P ops Q S rest l a w->mH P md ops Q S m (λp i w'=>p=l2/\wpList P ops Q rest i w') l.length c a w
 |[],k,c,a,w,_,_,he,_,h=>⟨he,h⟩
 |o::l,k,c,a,w,hl,hk,he,hB,h=>by
  have n:ops[k]? =some o:=by simpa using(hl 0 (by simp)).symm
  simp only [Zc,rS,Za,decide_eq_true_eq]at hB;simp only [Zc]at hk;refine⟨λe=>(by rw [hB.1]at e;cases e),λb f=> ?_⟩;rw [hB.1]at f;have:b=k:=by simpa using f
  subst this;refine⟨by omega,qx n (λj w2 d=>⟨d.1,?_⟩) h⟩;exact wy l (b+1) _ j w2 (λg hi=>by have:=hl (g+1) (by simp;omega);simpa [Nat.add_assoc,Nat.add_comm 1 g]using this) (by omega) (by simpa [gY]using he) hB.2 d.2
theorem uE {m r:Nat} {L:Array Bool->Act->World->Prop} {w:World} (s:Region.noSelect ops=true) (g: ∀d a e w,Q (.panic d) a w->Q (.panic d) e w) (q:pW md ops 0 m=true) (j:uc md ops m=true) (hm:m<ops.size)
  (n: ∀b a w,L b a w-> ∀c∈Region.ready md ops b,m<=c) (i:S w) {l2:Array Bool}:
  ∀(l:List Oper) (k:Nat) (b:Array Bool) (a:Act),(∀c,c<l.length->l[c]? =ops[k+c]?)->k+l.length<=m->HeadInv md ops m b->gY l.length k b=l2->rdB md ops l.length k b=true->
   fq P ops S (λe=>mH P md ops Q S m L r l2 e w) l a->mH P md ops Q S m L (l.length+r) b a w
 |[],k,b,a,_,_,_,he,_,h=>by
  have x:b=l2:=he;subst x;rw [List.length_nil,Nat.zero_add];exact h
 |o::l,k,b,a,hl,hk,inv,he,hB,h=>by
  have f:ops[k]? =some o:=by simpa using(hl 0 (by simp)).symm
  simp only [Zc,rdB,Za]at hB;simp only [Zc]at hk;obtain⟨⟨z,y⟩,u⟩:=hB;obtain⟨C,A,v⟩:=h;have p:k∈Region.ready md ops b:=by simpa using z
  rw [Zc,show l.length+1+r=(l.length+r)+1 by omega];refine rX f (Region.noSelect_spec s) (λd a w h=>g d _ _ w h) q j hm (by omega) n _ b a w inv (Region.free_spec f y) p A i ?_;exact uE s g q j hm n i l (k+1) _ _ (λt hi=>by have:=hl (t+1) (by simp;omega);simpa [Nat.add_assoc,Nat.add_comm 1 t]using this) (by omega) (inv.set p (by omega)) (by simpa [gY]using he) u v
end
theorem cQ {P:Program} {id:Nat} {Q:Exit->Act->World->Prop} {a:Act} {w:World} {l:List Oper} (S:World->Prop) (n m:Nat) (hm:P.follows .mixedOrders=true) (q:Eh l.toArray n m=true) (y:S w.drew)
  (h:fq P l.toArray S (λj=>lV P l.toArray (NoPanic Q) S (l.drop m) ((l.take m).drop n) j w.drew) (l.take n) a):(Code.region id l.toArray true).wp P Q a w:=by
 refine wp_region_noPanic ?_;simp only [Eh,Za,decide_eq_true_eq]at q;obtain⟨⟨⟨⟨⟨⟨⟨⟨E,X⟩,r⟩,H⟩,A⟩,C⟩,z⟩,D⟩,I⟩:=q;have W:m<l.length:=by simpa using r
 have g:(l.take n).length=n:=by simp;omega
 have f:((l.take m).drop n).length=m - n:=by simp;omega
 refine wp_region_any hm ?_;have L:HeadInv .any l.toArray m (Array.replicate l.toArray.size false):=
  ⟨by simp,λi Z _ k=>(by rw [getD_replicate_false]at k;cases k),λO _ J=>getD_in (by simpa using J) (getD_replicate_false _ _)⟩
 have x: ∀(c:Array Bool) (a:Act) (w:World),(c=gY (m - n) n (gY n 0 (Array.replicate l.toArray.size false))/\wpList P l.toArray (NoPanic Q) (l.drop m) a w)->wpAny P .any l.toArray (NoPanic Q) (l.drop m).length c a w:=λc a w h=>by
  obtain⟨rfl,h⟩:=h;refine wpAny_of_seq (l.drop m) m _ a w (λi=>by rw [List.getElem?_drop];simp) ?_ h;rw [show(l.drop m).length=l.toArray.size - m by simp];exact I
 have s:=uE (md:= .any) (P:=P) (Q:=NoPanic Q) (S:=S) (w:=w.drew) (m:=m) (r:=m - n) (L:=λc a w=>c=gY (m - n) n (gY n 0 (Array.replicate l.toArray.size false))/\wpList P l.toArray (NoPanic Q) (l.drop m) a w) E (λV a j w h=>h) H A r
  (λc a w k i b=>by rw [k.1,D]at b;have:i=m:=(by simpa using b);omega) y (l.take n) 0 (Array.replicate l.toArray.size false) a (λi b=>by rw [g]at b;rw [List.getElem?_take_of_lt b];simp) (by rw [g];omega) L rfl (by rw [g];exact C) (by
   rw [g]
   have M: ∀(o:List Oper) (a:Act) (d e:Act->Prop),(∀a,d a->e a)->fq P l.toArray S d o a->fq P l.toArray S e o a:=by
    intro o
    induction o with
    |nil=>intro a d e p h;exact p a h
    |cons Y O K=>intro a d e p h;obtain⟨U,u,v⟩:=h;exact⟨U,u,K _ d e p v⟩
   refine M _ _ _ _ (λj t=> ?_) h
   have:=wy (md:= .any) (m:=m) (l2:=gY (m - n) n (gY n 0 (Array.replicate l.toArray.size false))) ((l.take m).drop n) n (gY n 0 (Array.replicate l.toArray.size false)) j w.drew (λi b=>by
    rw [f]at b
    rw [List.getElem?_drop,List.getElem?_take_of_lt (by omega)];simp) (by rw [f];omega) (by rw [f]) (by rw [f];exact z) t
   rw [f]at this
   exact this)
 have:=mS x _ _ _ _ s;rw [g,show n+(m - n)+(l.drop m).length=l.toArray.size by simp;omega]at this;exact this
theorem bU {P:Program} {ops:Array Oper} {S:World->Prop} {b:Act->Prop} {a:Act} (h:b a):fq P ops S b [] a:=h
theorem bI {P:Program} {ops:Array Oper} {S:World->Prop} {b:Act->Prop} {a:Act} {o:Oper} {t:List Oper} (v:Value) (c:Region.wanted o (yielded ops a.tmps)=true) (d: ∀w,S w->(execOp a.eval o).run P w= .ok (.value v) w) (h:fq P ops S b t (a.put o.dst v)):fq P ops S b (o::t) a:=⟨v,.inl ⟨c,d⟩,h⟩
theorem cX {P:Program} {ops:Array Oper} {Q:Exit->Act->World->Prop} {S:World->Prop} {rest:List Oper} {a:Act} {w:World} (h:wpList P ops Q rest a w):lV P ops Q S rest [] a w:=h
theorem ay {P:Program} {ops:Array Oper} {Q:Exit->Act->World->Prop} {S:World->Prop} {rest:List Oper} {a:Act} {w:World} {o:Oper} {t:List Oper} (h:wpList P ops (Exit.then (λb w'=>S w'/\lV P ops Q S rest t b w') Q) [o] a w):lV P ops Q S rest (o::t) a w:=h
end
section
section
open Go.RowKit
end
section
open Go.RowKit
end
section
open Go.RowKit
end
section
open Go.RowKit
end
end
section
section
open Go.RowKit
theorem enters_short:Enters prog 141:=enters_of func141 (by kernel_rfl) rfl
theorem BH {w:World} {F:Nat->Prop}:mj w F 141 #[] (λb=>decide (b.2.length<=8)):=by
 intro a q b n c;obtain⟨f,d,i,rfl,_⟩:=id c;obtain⟨k,p,o,_⟩:=c.at_;unfold maxLen at o;have h:Below a.heap.size a (a.alloc (.cells #[.int .i64 b.1,.slice f d i] 98)):=(Below.refl _ a).alloc (Zg _) _;have g:=ab h;have m:=ab k;show Calls prog 141 #[.agg #[.int .i64 b.1,.slice f d i]] a _;obtain⟨l,j⟩: ∃l,l=b.1:=⟨_,rfl⟩;rw [<-j]at g⊢;clear n h c j k
 go_enter func141,ntmps141
 go_wp2
 go_ret
 exact⟨af (by rw [<-m.out];by_cases e:d<=8<;>simp [e]<;>omega),g.out⟩
theorem enters_known1:Enters prog 210:=enters_of func210 (by kernel_rfl) rfl
theorem Ck {w:World} {F:Nat->Prop} {k i j:Value} {G:ac} {st:Int} {B:Nat} (h:bk w F k i j G) (o:Blk w B 25 #[k,i,j,.int .i64 st]):
  pX w 210 #[.pointer (some ⟨B,0,none⟩)] (Value.int .i64) (λa=>gH G a||am G a):=by
 intro b a m;have l:=h.below m;have s:=Cu l st a;have r: ∀wr,Below b.heap.size b wr->Calls prog 148 #[GV k i j st,.int .i64 a] wr (aI wr (.bool (am G a))):=λwr n=>iV (l.below n) st a
 have p:=o.below m o.lt;have x:=p.lt;have d: ∀wr,Below b.heap.size b wr-> ∀g q,(#[k,i,j,Value.int .i64 st]:Array Value)[g]? =some q->wr.cell? ⟨B,g,none⟩=some q:=λwr n g q e=>((p.below n x).cell g).trans e
 have A:=d b (Below.refl _ _) 0 _ rfl;have C:=d b (Below.refl _ _) 1 _ rfl;have D:=d b (Below.refl _ _) 2 _ rfl;have E:=d b (Below.refl _ _) 3 _ rfl;show Calls prog 210 #[.int .i64 a,.pointer (some ⟨B,0,none⟩)] b (aI b (.bool (gH G a||am G a)));obtain⟨A1,c1,A2,c2,A3,c3,rfl,rfl,rfl,_⟩:=h.slices;generalize gH G a=z at *;generalize am G a=y at *;have u:=ab s;have t:=ab r;have f:=ab d;clear s r d o p l h m
 go_enter func210,ntmps210
 go_wp2_with fail
 refine u.out.mono ?_;rintro e w2 ⟨rfl,c⟩;have H:=f.out w2 c 0 _ rfl;have I:=f.out w2 c 1 _ rfl;have J:=f.out w2 c 2 _ rfl;have K:=f.out w2 c 3 _ rfl;cases z with
 |true=>
  go_wp2_with fail
  go_ret
  exact⟨rfl,c⟩
 |false=>
  go_wp2_with fail
  refine(t.out w2 c).mono ?_;rintro e w3 ⟨rfl,v⟩
  go_wp2_with fail
  go_ret
  exact⟨af (by cases y<;>rfl),c.trans (v.mono c.size)⟩
end
section
open Go.RowKit
def fk (G:ac) (r:Int×List Int):Bool:=am G r.1&&r.2.all (λs=>gH G s||am G s)
theorem AD {w:World} {F F':Nat->Prop} {k i j v:Value} {G:ac} {l:Int} {xs:List Int} (h:bk w F k i j G) (st:Int) (q:RdI w F' v xs) (p: ∀m,F' m->m<w.heap.size):
  Calls prog 150 #[GV k i j st,.agg #[.int .i64 l,v]] w (aI w (.bool (fk G (l,xs)))):=by
 obtain⟨w2,g⟩: ∃w2,w2=(w.alloc (.cells #[k,i,j,.int .i64 st] 25)).alloc (.cells #[.int .i64 l,v] 98):=⟨_,rfl⟩;have b:Below w.heap.size w w2:=by rw [g];exact((Below.refl _ w).alloc (Zg _) _).alloc (by simp) _
 have o:=h.below b;have I:=q.below b p;have r:Blk w2 w.heap.size 25 #[k,i,j,.int .i64 st]:=by rw [g];exact(Blk.new w _ _).alloc _
 have s:Blk w2 (w.heap.size+1) 98 #[.int .i64 l,v]:=by
  rw [g];have:=Blk.new (w.alloc (.cells #[k,i,j,.int .i64 st] 25)) 98 #[.int .i64 l,v];simpa using this
 have D:=iV o st l;have z: ∀wr,Below w2.heap.size w2 wr->Calls prog 209 #[v,.func (.func 210) #[] #[.pointer (some ⟨w.heap.size,0,none⟩)]] wr (aI wr (.bool (xs.all (λa=>gH G a||am G a)))):=λwr c=>
  E8 (I.below (c.mono b.size) p) (λm e=>Zi (p m e) (Zh b.size c.size)) enters_known1 (Ck (o.below c) (r.below c r.lt))
 have C: ∀wr,Below w2.heap.size w2 wr-> ∀n J,(#[Value.int .i64 l,v]:Array Value)[n]? =some J->wr.cell? ⟨w.heap.size+1,n,none⟩=some J:=λwr c n v e=>((s.below c s.lt).cell n).trans e
 have H:fk G (l,xs)=(am G l&&xs.all (λa=>gH G a||am G a)):=rfl;obtain⟨A1,c1,A2,c2,A3,c3,rfl,rfl,rfl,_⟩:=h.slices;obtain⟨U,Y,V,rfl,_⟩:=id q;generalize am G l=M at *;generalize xs.all (λa=>gH G a||am G a)=O at *;have y:=ab H;have x:=ab D;have u:=ab z;have t:=ab C;have d:=ab b;have L:=b.size;have W: ∀(E:Fn) (first A:Array Value) (w:World),(Instr.makeFunc E first A).run prog w= .ok (.func E first A) w:=λ_ _ _ _=>rfl
 clear H D z C r s o h I q b;rw [g]at x u t d;clear g L
 go_enter func150,ntmps150
 go_wp2_with fail
 refine x.out.mono ?_;rintro e w3 ⟨rfl,f⟩;have X:=t.out w3 f 1 _ rfl;cases M with
 |false=>
  go_wp2_with fail
  go_ret
  exact⟨af (by rw [y.out];rfl),d.out.trans (f.mono d.out.size)⟩
 |true=>
  go_wp2_with fail
  refine(u.out _ f).mono ?_;rintro e w4 ⟨rfl,K⟩
  go_wp2_with fail
  go_ret
  exact⟨af (by rw [y.out];cases O<;>rfl),d.out.trans ((f.trans (K.mono f.size)).mono d.out.size)⟩
theorem enters_known3:Enters prog 149:=enters_of func149 (by kernel_rfl) rfl
theorem An {w:World} {F F':Nat->Prop} {s q r:Value} {G:ac} {st:Int} {B:Nat} (h:bk w F s q r G) (g:Blk w B 25 #[s,q,r,.int .i64 st]) (u: ∀a,F' a->a<w.heap.size):
  mj w F' 149 #[.pointer (some ⟨B,0,none⟩)] (λb=>fk G b):=by
 intro d E b f o;obtain⟨j,n⟩: ∃j,j=d.alloc (.cells #[.int .i64 b.1,E] 98):=⟨_,rfl⟩;have c:Below d.heap.size d j:=by rw [n];exact(Below.refl _ d).alloc (Zg _) _
 have m: ∀a,F' a->a<d.heap.size:=λa e=>Zi (u a e) f.size
 have k:=AD (l:=b.1) (h.below (f.trans (c.mono f.size))) st (o.below c m) (λa e=>Zi (m a e) c.size);have x:=(g.below f g.lt).below c (g.below f g.lt).lt;have y:=g.below f g.lt;have O:=y.lt;have i: ∀l H,(#[s,q,r,Value.int .i64 st]:Array Value)[l]? =some H->j.cell? ⟨B,l,none⟩=some H:=λl E e=>(x.cell l).trans e
 have z:=i 0 _ rfl;have A:=i 1 _ rfl;have C:=i 2 _ rfl;have D:=i 3 _ rfl;obtain⟨A1,c1,A2,c2,A3,c3,rfl,rfl,rfl,_⟩:=h.slices;obtain⟨I,M,L,rfl,_⟩:=id o;rw [n]at k z A C D c;show Calls prog 149 #[.agg #[.int .i64 b.1,.slice I M L],.pointer (some ⟨B,0,none⟩)] d (aI d (.bool (fk G (b.1,b.2))));obtain⟨p,v⟩: ∃p,p=b.1:=⟨_,rfl⟩;rw [<-v]at k z A C D c⊢;generalize fk G (p,b.2)=U at *;have J:=ab k;have t:=ab c;clear f c o v k g x y h i n u m
 go_enter func149,ntmps149
 go_wp2_with fail
 refine J.out.mono ?_;rintro e w3 ⟨rfl,K⟩
 go_wp2_with fail
 go_ret
 exact⟨rfl,t.out.trans (K.mono t.out.size)⟩
end
section
open Go.RowKit
def jD (G:ac):Bool:=G.rules.all (λr=>decide (r.2.length<=8))
def js (G:ac):Bool:= !jD G||(decide (120<G.terms.length)||(decide (120<G.nons.length)||decide (300<G.rules.length)))
end
section
open Go.RowKit
theorem enters_unlike1:Enters prog 211:=enters_of func211 (by kernel_rfl) rfl
theorem zF {w:World} {F F':Nat->Prop} {rs:List (Int×List Int)} {v:Value} {i:Nat} {k:Int×List Int} {l m n:Nat} (A:Blk w l 142 #[.func (.func 152) #[] #[]]) (C:Blk w m 23 #[v]) (D:Blk w n 3 #[.int .i64 i])
  (h:RdR w F' v rs) (hi:rs[i]? =some k) (t: ∀b,F b->b<w.heap.size) (u: ∀b,F' b->b<w.heap.size):
  mj w F 211 #[.pointer (some ⟨l,0,none⟩),.pointer (some ⟨m,0,none⟩),.pointer (some ⟨n,0,none⟩)] (λa=>decide (a=k)):=by
 intro d a4 a p x;have V:=(List.getElem?_eq_some_iff.1 hi).1;obtain⟨c,q⟩: ∃c,c=d.alloc (.cells #[.int .i64 a.1,a4] 98):=⟨_,rfl⟩;have o:Below d.heap.size d c:=by rw [q];exact(Below.refl _ d).alloc (Zg _) _
 have f:=p.trans (o.mono p.size);have a2:c.cell? ⟨l,0,none⟩=some (.func (.func 152) #[] #[]):=((A.below f A.lt).cell 0).trans rfl;have Y:c.cell? ⟨m,0,none⟩=some v:=((C.below f C.lt).cell 0).trans rfl;have a3:c.cell? ⟨n,0,none⟩=some (.int .i64 i):=((D.below f D.lt).cell 0).trans rfl;obtain⟨A3,c3,rfl,_⟩:=id h;obtain⟨-,aS,an,U⟩:=dP.at_ h;obtain⟨b,a6,rfl,M,O⟩:=U (by omega);obtain⟨E,ad,a7,j,aT,a0,y⟩:=RdR.get (n:=rs.length) u M f O (k:=i) V;rw [hi]at j;injection j with j
 obtain⟨ai,a1,al,rfl,_⟩:=id y;obtain⟨H,X,J,rfl,_⟩:=id x;have z:w.heap.size<=c.heap.size:=f.size;have r: ∀g,Calls prog 152 #[.agg #[.int .i64 a.1,.slice H X J],.agg #[.int .i64 E,.slice ai a1 al]] (c.drewN g) (aI (c.drewN g) (.bool (decide ((a.1,a.2)=(E,ad))))):=λg=>
  BJ ((x.below o (λb e=>Zi (t b e) p.size)).drewN g) (y.drewN g) (λb e=>Zi (t b e) z) (λb e=>Zi (u b e) z)
 have K:decide ((a.1,a.2)=(E,ad))=decide (a=k):=by rw [j]
 have a5:=enters_same;have ap:(i:Int)<(rs.length:Int):=by omega
 show Calls prog 211 #[.agg #[.int .i64 a.1,.slice H X J],.pointer (some ⟨l,0,none⟩),.pointer (some ⟨m,0,none⟩),.pointer (some ⟨n,0,none⟩)] d (aI d (.bool (decide (a=k))));rw [K]at r;generalize decide (a=k)=g at *;obtain⟨Z,W⟩: ∃Z,Z=a.1:=⟨_,rfl⟩;rw [<-W]at r q⊢;obtain⟨R,L⟩: ∃R,R=rs.length:=⟨_,rfl⟩;rw [<-L]at Y ap aS;have I:=ab r;have s:=ab o;unfold maxLen at an;clear r K j hi V x y W L A C D O U h M p o t u f z;rw [q]at I s a2 Y a3 aT a0;clear q
 go_enter func211,ntmps211
 go_wp2_with fail
 refine bX 6 (by kernel_rfl) (by kernel_rfl) ?_;simp only [List.take_succ_cons,List.take_zero,List.drop_succ_cons,List.drop_zero]
 repeat still_step
 refine wpStill_nil ?_
 go_wp2_with (go_at_call 152;refine(I.out _).mono ?_;rintro e w5 ⟨rfl,ak⟩)
 go_ret
 exact⟨rfl,(yD s.out 1).trans (ak.mono s.out.size)⟩
end
section
open Go.RowKit
theorem RdR.take {w:World} {F:Nat->Prop} {A:Option Addr} {n c k:Nat} {rs:List (Int×List Int)} (h:RdR w F (.slice A n c) rs) (o:k<=n):RdR w F (.slice A k c) (rs.take k):=by
 obtain⟨u,v,e,x,i,q⟩:=h;injection e with d f g
 subst d f g;refine⟨A,c,by rw [Zd,Nat.min_eq_left o],by rw [Zd];omega,i,λp=> ?_⟩;rw [Zd]at p;obtain⟨b,s,j,l,m⟩:=q (by omega);refine⟨b,s,j,l,λr t a=>m r t ?_⟩;have hi:=(List.getElem?_eq_some_iff.1 a).1;rw [Zd]at hi;rw [List.getElem?_take_of_lt (by omega)]at a;exact a
def eN (rs:List (Int×List Int)) (k:Nat):Bool:=(List.range k).all (λi=> !(rs.take i).any (λr=>decide (some r=rs[i]?)))
def ia (rs:List (Int×List Int)):Bool:=eN rs rs.length
theorem tQ {rs:List (Int×List Int)} {k:Nat} {a:Int×List Int} (h:rs[k]? =some a):eN rs (k+1)=(eN rs k&& !(rs.take k).any (λb=>decide (b=a))):=by
 unfold eN;rw [Zf,List.all_append];simp [h]
end
section
open Go.RowKit
theorem tT {rs:List (Int×List Int)} {k n:Nat} (b:k<=n) (h:eN rs k=false):eN rs n=false:=by
 unfold eN at *;rw [List.all_eq_false]at *;obtain⟨a,hi,e⟩:=h;rw [Ze]at hi;exact⟨a,Ze.2 (by omega),e⟩
theorem yx {w:World} {F:Nat->Prop} {v:Value} {rs:List (Int×List Int)} (h:RdR w F v rs) (s: ∀c,F c->c<w.heap.size):
  Calls prog 151 #[v,.func (.func 152) #[] #[]] w (aI w (.bool (ia rs))):=by
 obtain⟨i,k,rfl,_⟩:=id h;obtain⟨-,ap,al,-⟩:=dP.at_ h;obtain⟨b,n⟩: ∃b,b=rs.length:=⟨_,rfl⟩;have U:eN rs b=ia rs:=by rw [n];rfl
 rw [<-n]at ap h⊢;unfold maxLen at al;obtain⟨w2,d⟩: ∃w2,w2=(w.alloc (.cells #[.slice i b k] 23)).alloc (.cells #[.func (.func 152) #[] #[]] 142):=⟨_,rfl⟩;have j:Below w.heap.size w w2:=by rw [d];exact((Below.refl _ w).alloc (Zg _) _).alloc (by simp) _
 have l:Blk w2 w.heap.size 23 #[.slice i b k]:=by rw [d];exact(Blk.new w _ _).alloc _
 have z:Blk w2 (w.heap.size+1) 142 #[.func (.func 152) #[] #[]]:=by
  rw [d];have:=Blk.new (w.alloc (.cells #[.slice i b k] 23)) 142 #[.func (.func 152) #[] #[]];simpa using this
 have L: ∀(wr:World) (a:Nat) (g:Int×List Int),a<=b->rs[a]? =some g->Below w2.heap.size w2 wr->Calls prog 202 #[.slice i a k,.func (.func 211) #[] #[.pointer (some ⟨w.heap.size+1,0,none⟩),.pointer (some ⟨w.heap.size,0,none⟩),.pointer (some ⟨wr.heap.size,0,none⟩)]] (wr.alloc (.cells #[.int .i64 a] 3)) (aI (wr.alloc (.cells #[.int .i64 a] 3)) (.bool ((rs.take a).any (λA=>decide (A=g))))):=λwr a g u hi o=>by
  have p:=o.alloc o.size (.cells #[.int .i64 a] 3);have O:=h.below (j.trans (p.mono j.size)) s;have x: ∀c,F c->c<(wr.alloc (.cells #[.int .i64 a] 3)).heap.size:=λc e=>Zi (s c e) (Zh j.size p.size)
  exact nI (O.take u) x enters_unlike1 (zF (z.below p z.lt) (l.below p l.lt) (Blk.new wr _ _) O hi x x)
 have X: ∀wr,Below w2.heap.size w2 wr->wr.cell? ⟨w.heap.size,0,none⟩=some (.slice i b k):=λwr o=>((l.below o l.lt).cell 0).trans rfl
 have a5:w2.heap.size=w.heap.size+2:=by rw [d];simp
 have ad:=ab n;have D:=ab U;have Y:=ab L;have ai:=ab X;have m:=ab j;have a1:=ab d;clear h n U L X l z j s
 go_enter func151,ntmps151
 go_wp2_with fail
 rw [<-d];clear d
 go_loopw [8] (λy wr=> ∃a:Nat,a<=b/\y= .int .i64 a/\eN rs a=true/\Below w2.heap.size w2 wr) (λy _=>b - (intOf y).toNat)
 case atStart=>exact⟨0,Zj _,rfl,rfl,Below.refl _ _⟩
 case round=>
  obtain⟨a,u,rfl,V,f⟩:=hrel;have H:=ab V;have r:=ab f;have aT:=ai.out wr f;have W:=f.size;have a4:=kd aT (.cells #[.int .i64 a] 3);clear V;by_cases a2:a<b
  ·obtain⟨g,hi⟩: ∃a0,rs[a]? =some a0:=⟨_,List.getElem?_eq_getElem (by rw [<-ad.out];omega)⟩;have t:=Y.out wr a g u hi f;have q:=tQ hi;rw [H.out]at q;have HI:=ab hi;generalize (rs.take a).any (λA=>decide (A=g))=aS at t q;have Z:=ab t;have E:=ab q;have I:Below wr.heap.size wr (wr.alloc (.cells #[.int .i64 a] 3)):=(Below.refl _ wr).alloc (Zg _) _;have C:=ab I;have a3: ∀(M:Fn) (first K:Array Value) (w:World),(Instr.makeFunc M first K).run prog w= .ok (.func M first K) w:=λ_ _ _ _=>rfl
   clear t q hi f I
   go_wp2_with fail
   refine Z.out.mono ?_;rintro e w3 ⟨rfl,ak⟩;have J:=C.out.trans (ak.mono C.out.size);cases aS with
   |true=>
    go_wp2_with fail
    go_ret
    exact⟨af (by rw [<-D.out];exact(tT (k:=a+1) (by omega) (by rw [E.out];rfl)).symm),m.out.trans ((r.out.trans (J.mono W)).mono m.out.size)⟩
   |false=>
    go_wp2_with fail
    go_roundw
    case rel=>exact⟨a+1,by omega,by go_num,by rw [E.out];rfl,r.out.trans (J.mono W)⟩
    case measure=>simp [intOf];omega
  ·have an:a=b:=by omega
   clear f
   go_wp2_with fail
   go_ret
   exact⟨af (by rw [<-D.out,<-an];exact H.out.symm),m.out.trans (r.out.mono m.out.size)⟩
end
end
section
section
open Go.RowKit
structure bj (w:World) (F:Nat->Prop) (B:Nat) (A1:Option Addr) (c1:Nat) (A2:Option Addr) (c2:Nat) (A3:Option Addr) (c3 T N R:Nat) (st:Int) (G:ac):Prop where
 gram:bk w F (.slice A1 T c1) (.slice A2 N c2) (.slice A3 R c3) G
 blk:Blk w B 25 #[.slice A1 T c1,.slice A2 N c2,.slice A3 R c3,.int .i64 st]
 t:T=G.terms.length
 n:N=G.nons.length
 r:R=G.rules.length
 tc:T<=c1
 nc:N<=c2
 rc:R<=c3
 c1m:c1<=9223372036854775807
 c2m:c2<=9223372036854775807
 c3m:c3<=9223372036854775807
 ts:T<=8796093022207
 ns:N<=8796093022207
 rs:R<=4398046511103
section
variable {w w' : World} {F : Nat -> Prop} {B : Nat} {A1 A2 A3 : Option Addr} {c1 c2 c3 T N R : Nat} {st : Int} {G : ac}
theorem bj.below (h:bj w F B A1 c1 A2 c2 A3 c3 T N R st G) (a:Below w.heap.size w w'):bj w' F B A1 c1 A2 c2 A3 c3 T N R st G:=
 ⟨h.gram.below a,h.blk.below a h.blk.lt,h.t,h.n,h.r,h.tc,h.nc,h.rc,h.c1m,h.c2m,h.c3m,h.ts,h.ns,h.rs⟩
theorem bj.cells (h:bj w F B A1 c1 A2 c2 A3 c3 T N R st G):w.cell? ⟨B,0,none⟩=some (.slice A1 T c1)/\w.cell? ⟨B,1,none⟩=some (.slice A2 N c2)/\w.cell? ⟨B,2,none⟩=some (.slice A3 R c3)/\w.cell? ⟨B,3,none⟩=some (.int .i64 st):=
 ⟨(h.blk.cell 0).trans rfl,(h.blk.cell 1).trans rfl,(h.blk.cell 2).trans rfl,(h.blk.cell 3).trans rfl⟩
theorem bj.rule (h:bj w F B A1 c1 A2 c2 A3 c3 T N R st G) {k:Nat} (p:k<R): ∃(b a:Nat) (l:Int) (x:List Int) (A:Option Addr) (n c:Nat),A3=some ⟨b,a,none⟩/\b<w.heap.size/\G.rules[k]? =some (l,x)/\w.cell? ⟨b,a+k * 2,none⟩=some (.int .i64 l)/\w.cell? ⟨b,a+k * 2+1,none⟩=some (.slice A n c)/\RdI w F (.slice A n c) x/\n=x.length/\n<=c/\c<=9223372036854775807:=by
 obtain⟨-,-,-,m⟩:=dP.at_ h.gram.rules;obtain⟨b,a,i,e,j⟩:=m (by omega);obtain⟨l,x,t,s,f,g,d⟩:=RdR.get (n:=R) h.gram.lt e (Below.refl _ w) j (k:=k) (by rw [<-h.r];exact p);obtain⟨A,n,c,rfl,_⟩:=id d;obtain⟨q,r,o,-⟩:=RdI.at_ d;exact⟨b,a,l,x,A,n,c,i,h.gram.lt b e,s,f,g,d,q,r,o⟩
theorem bj.new (h:bk w F (.slice A1 T c1) (.slice A2 N c2) (.slice A3 R c3) G) (st:Int):bj (w.alloc (.cells #[.slice A1 T c1,.slice A2 N c2,.slice A3 R c3,.int .i64 st] 25)) F w.heap.size A1 c1 A2 c2 A3 c3 T N R st G:=by
 have g:Below w.heap.size w (w.alloc (.cells #[.slice A1 T c1,.slice A2 N c2,.slice A3 R c3,.int .i64 st] 25)):=(Below.refl _ w).alloc (Zg _) _;obtain⟨i,l,j,m,k,n,a,b,c,r,s,t,u,v,x⟩:=h.slices;injection a with a d o
 injection b with b e p
 injection c with c f q
 obtain⟨s1,y,z⟩:=h.small;exact⟨h.below g,Blk.new w _ _,d,e,f,by omega,by omega,by omega,by omega,by omega,by omega,by omega,by omega,by omega⟩
end
end
section
open Go.RowKit
attribute [local irreducible] wpStill aB aO
def ie (G:ac) (st:Int):Bool:=am G st&&G.rules.all (λr=>fk G r)
end
end
open Go.RowKit
def bK (c:Int):Int:=if c=0 then 0 else if c=32\/c=9 then 1 else if c=10 then 2 else if 48<=c/\c<=57 then 3 else if(97<=c/\c<=122)\/(65<=c/\c<=90)\/c=95 then 4 else if c=38\/c=124\/c=59\/c=60\/c=62\/c=40\/c=41 then 5 else if c=39\/c=34\/c=92\/c=96 then 6 else if c=36 then 7 else 8
end Go.Proofs.YthlbjgabhpdbfaaGreat

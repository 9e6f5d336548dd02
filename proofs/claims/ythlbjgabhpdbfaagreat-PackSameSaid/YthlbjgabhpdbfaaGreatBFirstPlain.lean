/- What words begin with, and what stands behind: plain laws. -/
import Derived.Test.YthlbjgabhpdbfaaGreatBG7
import Derived.Test.YthlbjgabhpdbfaaGreatBBits3
import Derived.Shelf.SlSortCmp.NoneTotal
import Derived.Test.YthlbjgabhpdbfaaGreatBBase
import Derived.Test.YthlbjgabhpdbfaaGreatBBitsL
import Derived.Laws.StructEq
import Derived.Shelf.SlicesE.Kit
set_option linter.unusedVariables false
set_option maxRecDepth 100000
set_option maxHeartbeats 2000000
namespace Go.Proofs.YthlbjgabhpdbfaaGreat
open Go.Proofs.Tryz
open Bool renaming and_eq_true->Za,eq_iff_iff->Zb,not_eq_true->Zc,or_eq_false_iff->Zd,or_eq_true->Ze
open List renaming all_eq_true->Zf,getElem_of_mem->Zg,length_map->Zh,mem_append->Zi,mem_cons->Zj,mem_cons_of_mem->Zk,mem_cons_self->Zl,mem_map->Zm,mem_of_getElem?->Zn,mem_range->Zo,mem_singleton->Zp,take_add_one->Zq
open Nat renaming le_refl->Zr
section
inductive Emp (rs:List (Int×List Int)):Int->Prop
 |mk (r:Int×List Int):r∈rs->(∀x∈r.2,Emp rs x)->Emp rs r.1
inductive Beg (T:Nat) (rs:List (Int×List Int)):Int->Nat->Prop
 |self (t:Nat):t<=T->Beg T rs (t:Int) t
 |step (r:Int×List Int) (x:Int) (t:Nat) (pre post:List Int):r∈rs->r.2=pre++x::post->(∀y∈pre,Emp rs y)->Beg T rs x t->Beg T rs r.1 t
def F5 (T:Nat) (rs:List (Int×List Int)) (l:List Int) (t:Nat):Prop:= ∃pre x post,l=pre++x::post/\(∀y∈pre,Emp rs y)/\Beg T rs x t
inductive Beh (T N:Nat) (rs:List (Int×List Int)) (st:Int):Int->Nat->Prop
 |start:Beh T N rs st st 0
 |next (r:Int×List Int) (x:Int) (t:Nat) (pre post:List Int):r∈rs->r.2=pre++x::post->(T:Int)<x/\x<=T+N->F5 T rs post t->Beh T N rs st x t
 |last (r:Int×List Int) (x:Int) (t:Nat) (pre post:List Int):r∈rs->r.2=pre++x::post->(T:Int)<x/\x<=T+N->(∀y∈post,Emp rs y)->Beh T N rs st r.1 t->Beh T N rs st x t
def db (e:Int->Bool) (b:Int->Nat->Bool):List Int->Nat->Bool
 |[],_=>false
 |x::r,t=>b x t||(e x&&db e b r t)
theorem il {e:Int->Bool} {b:Int->Nat->Bool}: ∀{l:List Int} {t:Nat},db e b l t=true↔ ∃a x d,l=a++x::d/\(∀f∈a,e f=true)/\b x t=true
 |[],t=>by
  constructor
  ·intro h;cases h
  ·rintro⟨a,x,d,h,-⟩;cases a<;>cases h
 |x::r,t=>by
  unfold db;rw [Ze,Za,il];constructor
  ·rintro(h|⟨c,a,f,d,rfl,g,i⟩)
   ·exact⟨[],x,r,rfl,λ_ h=>(by cases h),h⟩
   ·exact⟨x::a,f,d,rfl,λq j=>(Zj.1 j).elim (λe=>e▸c) (λj=>g q j),i⟩
  ·rintro⟨a,f,d,c,g,i⟩;cases a with
   |nil=>injection c with c o;subst c;exact .inl i
   |cons q a=>
    injection c with c o
    subst c;exact .inr ⟨g _ (Zl ..),a,f,d,o,λu s=>g u (Zk _ s),i⟩
def aE (m:Nat) (f g:Nat->Bool):Bool:=(List.range m).any λt=>g t&& !f t
theorem ik {m:Nat} {f g:Nat->Bool}:aE m f g=true↔ ∃a,a<m/\g a=true/\f a=false:=by
 unfold aE;rw [List.any_eq_true];constructor
 ·rintro⟨a,c,h⟩;simp only [Za,Bool.not_eq_true']at h;exact⟨a,Zo.1 c,h.1,h.2⟩
 ·rintro⟨a,c,d,i⟩;exact⟨a,Zo.2 c,by simp [d,i]⟩
theorem lK {m:Nat} {f g:Nat->Bool}:aE m f g=false↔ ∀a,a<m->g a=true->f a=true:=by
 rw [<-Zc,ik];constructor
 ·intro h a i d;cases c:f a with
  |true=>rfl
  |false=>exact absurd ⟨a,i,d,c⟩ h
 ·rintro h ⟨a,i,d,c⟩;rw [h a i d]at c;cases c
theorem oH (m:Nat) (f:Nat->Bool):aE m f f=false:=lK.2 λ_ _ h=>h
theorem jU {m:Nat} {f g h:Nat->Bool} (j: ∀a,f a=true->g a=true) (o: ∀a,g a=true->h a=true):(aE m g h||aE m f g)=aE m f h:=by
 rw [Zb,Ze,ik,ik,ik];constructor
 ·rintro(⟨a,c,d,b⟩|⟨a,c,d,b⟩)
  ·refine⟨a,c,d,?_⟩;cases q:f a with
   |false=>rfl
   |true=>rw [j a q]at b;cases b
  ·exact⟨a,c,o a d,b⟩
 ·rintro⟨a,c,d,b⟩;cases i:g a with
  |true=>exact .inr ⟨a,c,i,b⟩
  |false=>exact .inl ⟨a,c,d,i⟩
theorem lL {m:Nat} {f g:Nat->Bool} (h:aE m f g=false) (i: ∀a,f a=true->g a=true) (j: ∀a,m<=a->g a=false):g=f:=by
 funext a
 rw [Zb];refine⟨λc=> ?_,i a⟩;rcases Nat.lt_or_ge a m with d|d
 ·exact lK.1 h a d c
 ·rw [j a d]at c;cases c
theorem sf {m:Nat} {f g:Nat->Bool} (h:aE m f g=true) (j: ∀c,f c=true->g c=true):eI g m<eI f m:=by
 obtain⟨c,q,i,b⟩:=ik.1 h;refine yX m (λd a=> ?_) q (by simp [b]) (by simp [i]);simp only [Bool.not_eq_true']at a⊢;cases o:f d with
 |false=>rfl
 |true=>rw [j d o]at a;cases a
theorem rh {m:Nat} {f g:Nat->Bool} (h: ∀d,f d=true->g d=true):eI g m<=eI f m:=by
 refine yY m (λc a=> ?_);simp only [Bool.not_eq_true']at a⊢;cases i:f c with
 |false=>rfl
 |true=>rw [h c i]at a;cases a
def bv (F:Nat->Nat->Bool) (i:Nat) (f:Nat->Bool) (j:Nat):Nat->Bool:=if j=i then f else F j
theorem bm (F:Nat->Nat->Bool) (i:Nat) (f:Nat->Bool):bv F i f i=f:=by simp [bv]
theorem cD {F:Nat->Nat->Bool} {i j:Nat} {f:Nat->Bool} (h:j≠i):bv F i f j=F j:=by simp [bv,h]
theorem j3 {F:Nat->Nat->Bool} {i:Nat} {f:Nat->Bool} (h:f=F i):bv F i f=F:=by
 funext j;by_cases e:j=i
 ·subst e;rw [bm,h]
 ·rw [cD e]
def bJ (F:Nat->Nat->Bool) (m:Nat):Nat->Nat
 |0=>0
 |n+1=>bJ F m n+eI (F n) m
theorem sg {F:Nat->Nat->Bool} {i:Nat} {f:Nat->Bool} {m:Nat}: ∀{n:Nat},n<=i->bJ (bv F i f) m n=bJ F m n
 |0,_=>rfl
 |n+1,h=>by unfold bJ;rw [sg (by omega),cD (by omega)]
theorem oo {F:Nat->Nat->Bool} {i:Nat} {f:Nat->Bool} {m:Nat}: ∀{n:Nat},i<n->bJ (bv F i f) m n+eI (F i) m=bJ F m n+eI f m
 |n+1,h=>by
  unfold bJ;by_cases e:n=i
  ·subst e;rw [sg (Zr _),bm];omega
  ·rw [cD e];have:=oo (F:=F) (f:=f) (m:=m) (n:=n) (i:=i) (by omega);omega
def aV (n:Nat) (F:Nat->Nat->Bool) (x:Int) (t:Nat):Bool:=decide (0<=x)&&decide (x<n)&&F x.toNat t
theorem iX {n:Nat} {F:Nat->Nat->Bool} {i:Nat} (h:i<n) (t:Nat):aV n F i t=F i t:=by
 unfold aV;have a:(i:Int)<n:=by omega
 simp [a]
theorem EO {n:Nat} {F:Nat->Nat->Bool} {x:Int} (h:x<0\/(n:Int)<=x) (t:Nat):aV n F x t=false:=by
 unfold aV;rcases h with h|h
 ·have: ¬0<=x:=by omega
  simp [this]
 ·have: ¬x<n:=by omega
  simp [this]
theorem gL {n:Nat} {F:Nat->Nat->Bool} {x:Int} {t:Nat} (h:aV n F x t=true):0<=x/\x<n/\F x.toNat t=true:=by
 unfold aV at h;simpa [and_assoc]using h
theorem j5 {n:Nat} {F:Nat->Nat->Bool} {x:Int} {t:Nat} (a:0<=x) (c:x<n) (h:F x.toNat t=true):aV n F x t=true:=by
 unfold aV;rw [decide_eq_true a,decide_eq_true c,h];rfl
abbrev mQ (G:ac):Int->Prop:=Emp G.rules
abbrev vZ (G:ac):Int->Nat->Prop:=Beg G.terms.length G.rules
abbrev vW (G:ac):List Int->Nat->Prop:=F5 G.terms.length G.rules
abbrev vY (G:ac) (st:Int):Int->Nat->Prop:=Beh G.terms.length G.nons.length G.rules st
abbrev ag (G:ac):Nat:=G.terms.length+G.nons.length+1
structure fu (G:ac) (e:Nat->Bool) (bg:Nat->Nat->Bool):Prop where
 e: ∀s,aF (ag G) e s=true->mQ G s
 b: ∀s t,aV (ag G) bg s t=true->vZ G s t
theorem fu.line {G:ac} {e:Nat->Bool} {a:Nat->Nat->Bool} (h:fu G e a) {l:List Int} {t:Nat} (i:db (aF (ag G) e) (aV (ag G) a) l t=true):vW G l t:=by
 obtain⟨q,x,o,d,f,g⟩:=il.1 i;exact⟨q,x,o,d,λc j=>h.e c (f c j),h.b x t g⟩
theorem fu.all {G:ac} {e:Nat->Bool} {a:Nat->Nat->Bool} (h:fu G e a) {l:List Int} (c:l.all (aF (ag G) e)=true): ∀x∈l,mQ G x:=λx d=>h.e x (Zf.1 c x d)
def gN (G:ac) (e:Nat->Bool) (bg:Nat->Nat->Bool) (r:Int×List Int):Prop:=
 (r.2.all (aF (ag G) e)=true->aF (ag G) e r.1=true)/\ ∀t,db (aF (ag G) e) (aV (ag G) bg) r.2 t=true->aV (ag G) bg r.1 t=true
theorem sY {G:ac} {e:Nat->Bool} {c:Nat->Nat->Bool} (d: ∀a∈G.rules,gN G e c a) {s:Int} (h:mQ G s):aF (ag G) e s=true:=by
 induction h with
 |mk a f i g=>exact(d a f).1 (Zf.2 g)
theorem AU {G:ac} {e:Nat->Bool} {a:Nat->Nat->Bool} (f: ∀t,t<=G.terms.length->a t t=true) (d: ∀c∈G.rules,gN G e a c) {s:Int} {t:Nat} (h:vZ G s t):aV (ag G) a s t=true:=by
 induction h with
 |self t o=>rw [iX (by unfold ag;omega)];exact f t o
 |step c x t v u j g i _ r=>exact(d c j).2 t (il.2 ⟨v,x,u,g,λy q=>sY d (i y q),r⟩)
noncomputable def eS (G:ac) (j:Nat):Bool:=toB (mQ G (j:Int))
noncomputable def fV (G:ac) (i t:Nat):Bool:=toB (vZ G (i:Int) t)
noncomputable def ud (G:ac) (st:Int) (i t:Nat):Bool:=toB (vY G st (i:Int) t)
theorem Kn.emp {G:ac} {st:Int} (h:Kn G st) {s:Int} (c:mQ G s):am G s=true:=by
 cases c with
 |mk d a _=>exact(h.k d a).1
theorem zd {G:ac} {st:Int} (j:Kn G st) {e:Nat->Bool} {d:Nat->Nat->Bool} (o:fu G e d) (f: ∀q∈G.rules,gN G e d q) (g: ∀a,ag G<=a->e a=false):e=eS G:=by
 funext a
 unfold eS;refine(wh ⟨λh=> ?_,λh=> ?_⟩).symm
 ·have i:a<ag G:=by
   rcases Nat.lt_or_ge a (ag G)with c|c
   ·exact c
   ·rw [g a c]at h;cases h
  exact o.e _ (by rw [rE i];exact h)
 ·have c:=sY f h;have:=j.emp h;rw [gn]at this;rwa [rE (by unfold ag;omega)]at c
theorem zk {G:ac} {e:Nat->Bool} {a:Nat->Nat->Bool} (f: ∀c,c<=G.terms.length->a c c=true) (j:fu G e a) (g: ∀o∈G.rules,gN G e a o) {i:Nat} (hi:i<ag G):a i=fV G i:=by
 funext c
 unfold fV;refine(wh ⟨λh=> ?_,λh=> ?_⟩).symm
 ·exact j.b _ _ (by rw [iX hi];exact h)
 ·have d:=AU f g h;rwa [iX hi]at d
def gu (G:ac) (e:Nat->Bool) (r:Int×List Int):Nat->Bool:=if r.2.all (aF (ag G) e)then cJ (ag G) e r.1 else e
def iI (G:ac) (e:Nat->Bool) (bg:Nat->Nat->Bool) (r:Int×List Int):Nat->Nat->Bool:=bv bg r.1.toNat λt=>bg r.1.toNat t||db (aF (ag G) e) (aV (ag G) bg) r.2 t
theorem fu.step {G:ac} {e:Nat->Bool} {f:Nat->Nat->Bool} (h:fu G e f) {r:Int×List Int} (j:r∈G.rules) (A:0<=r.1/\r.1<ag G):fu G (gu G e r) (iI G e f r):=by
 refine⟨λd a=> ?_,λd z a=> ?_⟩
 ·unfold gu at a
  split at a
  ·rename_i u
   rw [sC]at a;simp only [Ze,Za,decide_eq_true_eq]at a;rcases a with a|⟨-,rfl⟩
   ·exact h.e d a
   ·exact Emp.mk r j (h.all u)
  ·exact h.e d a
 ·obtain⟨g,i,c⟩:=gL a;unfold iI at c;by_cases o:d.toNat=r.1.toNat
  ·have:d=r.1:=by omega
   subst this;rw [bm,Ze]at c;rcases c with c|c
   ·exact h.b _ _ (j5 g i c)
   ·obtain⟨y,x,v,q,s,t⟩:=h.line c;exact Beg.step r x z y v j q s t
  ·rw [cD o]at c;exact h.b _ _ (j5 g i c)
theorem yy {G:ac} {e:Nat->Bool} {c:Nat->Nat->Bool} {r:Int×List Int} (a:0<=r.1/\r.1<ag G) (d:gu G e r=e) (f:iI G e c r=c):gN G e c r:=by
 refine⟨λh=> ?_,λi g=> ?_⟩
 ·unfold gu at d;rw [if_pos h]at d;have:=sC (n:=ag G) (f:=e) (i:=r.1) r.1;rw [d]at this;rw [this,decide_eq_true a.1,decide_eq_true a.2];simp
 ·have:=congrFun (congrFun f r.1.toNat) i;unfold iI at this;rw [bm,g,Bool.or_true]at this;exact j5 a.1 a.2 this.symm
structure mZ (G:ac) (st:Int) (bh:Nat->Nat->Bool):Prop where
 b: ∀s t,aV (ag G) bh s t=true->vY G st s t
def lg (G:ac) (bh:Nat->Nat->Bool) (r:Int×List Int):Prop:= ∀k x,r.2[k]? =some x->am G x=true->
 (∀t,vW G (r.2.drop (k+1)) t->aV (ag G) bh x t=true)/\((∀y∈r.2.drop (k+1),mQ G y)-> ∀t,aV (ag G) bh r.1 t=true->aV (ag G) bh x t=true)
theorem wH {l pre a:List Int} {x:Int} (h:l=pre++x::a):l[pre.length]? =some x/\l.drop (pre.length+1)=a:=by
 subst h;refine⟨by simp,?_⟩;rw [show pre++x::a=(pre++[x])++a by simp,List.drop_left' (by simp)]
theorem xr {l:List Int} {k:Nat} {x:Int} (h:l[k]? =some x):l=l.take k++x::l.drop (k+1):=by
 obtain⟨a,rfl⟩:=List.getElem?_eq_some_iff.1 h;rw [<-List.drop_eq_getElem_cons a,List.take_append_drop]
theorem AQ {G:ac} {st:Int} {bh:Nat->Nat->Bool} (o:aV (ag G) bh st 0=true) (j: ∀a∈G.rules,lg G bh a) {s:Int} {t:Nat} (h:vY G st s t):aV (ag G) bh s t=true:=by
 induction h with
 |start=>exact o
 |next a x t u r g d i f=>
  obtain⟨c,b⟩:=wH d;exact(j a g _ x c (kV.2 i)).1 t (by rw [b];exact f)
 |last a x t u r g d i f _ q=>
  obtain⟨c,b⟩:=wH d;exact(j a g _ x c (kV.2 i)).2 (by rw [b];exact f) t q
theorem zj {G:ac} {st:Int} {bh:Nat->Nat->Bool} (a:aV (ag G) bh st 0=true) (f:mZ G st bh) (d: ∀g∈G.rules,lg G bh g) {i:Nat} (hi:i<ag G):bh i=ud G st i:=by
 funext j
 unfold ud;refine(wh ⟨λh=> ?_,λh=> ?_⟩).symm
 ·exact f.b _ _ (by rw [iX hi];exact h)
 ·have c:=AQ a d h;rwa [iX hi]at c
end
section
theorem oJ {e:Int->Bool} {b:Int->Nat->Bool} {x:Int} {t:Nat}: ∀{l:List Int},l.all e=true->db e b (l++[x]) t=(db e b l t||b x t)
 |[],_=>by simp [db]
 |y::l,h=>by
  simp only [List.all_cons,Za]at h;simp only [List.cons_append,db,oJ h.2,h.1,Bool.true_and,Bool.or_assoc]
theorem oI {e:Int->Bool} {b:Int->Nat->Bool} {t:Nat}: ∀{l:List Int} {k:Nat} {x:Int},l[k]? =some x->e x=false->db e b l t=db e b (l.take (k+1)) t
 |[],k,x,h,_=>by simp at h
 |y::l,0,x,h,he=>by
  simp at h;subst h;simp [db,he]
 |y::l,k+1,x,h,he=>by
  have:=oI (e:=e) (b:=b) (t:=t) (l:=l) (k:=k) (by simpa using h) he;simp only [List.take_succ_cons,db,this]
theorem xu {e:Int->Bool} {l:List Int} {k:Nat} {x:Int} (h:l[k]? =some x) (a:e x=false):l.all e=false:=by
 rw [List.all_eq_false];exact⟨x,Zn h,by simp [a]⟩
theorem nW {l:List Int} {k:Nat} {x:Int} (h:l[k]? =some x):l.take (k+1)=l.take k++[x]:=by
 rw [Zq,h];rfl
theorem E7 {e:Int->Bool} {l:List Int} {k:Nat} {x:Int} (h:l[k]? =some x) (a:(l.take k).all e=true) (c:e x=true):(l.take (k+1)).all e=true:=by
 rw [nW h,List.all_append,a];simp [c]
def bM (f:Nat->Bool) (e:Int->Bool) (b:Int->Nat->Bool) (l:List Int) (t:Nat):Bool:=f t||db e b l t
theorem gC {f:Nat->Bool} {e:Int->Bool} {b:Int->Nat->Bool} {l:List Int} (t:Nat) (h:f t=true):bM f e b l t=true:=by unfold bM;rw [h];rfl
theorem oK {n M:Nat} {e:Int->Bool} {a:Nat->Nat->Bool} {l:List Int} {t:Nat} (h: ∀d t,d<n->M<=t->a d t=false) (g:M<=t):db e (aV n a) l t=false:=by
 cases f:db e (aV n a) l t with
 |false=>rfl
 |true=>
  obtain⟨r,x,q,-,-,i⟩:=il.1 f;obtain⟨j,o,c⟩:=gL i;rw [h x.toNat t (by omega) g]at c;cases c
theorem jR {F:Nat->Nat->Bool} {n M i:Nat} {f:Nat->Bool} (hi:i<n) (h:aE M (F i) f=true) (c: ∀a,F i a=true->f a=true):bJ (bv F i f) M n<bJ F M n:=by
 have:=oo (F:=F) (f:=f) (m:=M) hi;have:=sf h c;omega
theorem kN {F:Nat->Nat->Bool} {n M i:Nat} {f:Nat->Bool} (hi:i<n) (c: ∀a,F i a=true->f a=true):bJ (bv F i f) M n<=bJ F M n:=by
 have:=oo (F:=F) (f:=f) (m:=M) hi;have:=rh (m:=M) c;omega
def gv (n M:Nat) (e:Nat->Bool) (bg:Nat->Nat->Bool):Nat:=eI e n+bJ bg M n
theorem BP {n:Nat} {f:Nat->Bool} {i:Int} (t:Nat) (h:f t=true):cJ n f i t=true:=by unfold cJ;rw [h];rfl
theorem uN {n:Nat} {f:Nat->Bool} {i:Int} (h:eK n f i=false):cJ n f i=f:=by
 funext c
 unfold cJ;cases d:f c with
 |true=>rfl
 |false=>
  cases a:(decide (0<=i)&&decide (i<n)&&decide ((c:Int)=i))with
  |false=>rfl
  |true=>
   simp only [Za,decide_eq_true_eq]at a;unfold eK at h;rw [decide_eq_true a.1.1,decide_eq_true a.1.2,show i.toNat=c by omega,d]at h;cases h
theorem AP {G:ac} {e:Nat->Bool} {a:Nat->Nat->Bool} {r:Int×List Int} {M:Nat} (j:0<=r.1/\r.1<ag G)
  (h:(r.2.all (aF (ag G) e)&&eK (ag G) e r.1)=true\/aE M (a r.1.toNat) (bM (a r.1.toNat) (aF (ag G) e) (aV (ag G) a) r.2)=true):
  gv (ag G) M (gu G e r) (iI G e a r)<gv (ag G) M e a:=by
 have hi:r.1.toNat<ag G:=by omega
 have g:=kN (M:=M) (f:=bM (a r.1.toNat) (aF (ag G) e) (aV (ag G) a) r.2) hi (λc=>gC c);have i:eI (gu G e r) (ag G)<=eI e (ag G):=by
  refine rh λc d=> ?_
  unfold gu
  split
  ·exact BP c d
  ·exact d
 have f:iI G e a r=bv a r.1.toNat (bM (a r.1.toNat) (aF (ag G) e) (aV (ag G) a) r.2):=rfl;unfold gv;rw [f];rcases h with h|h
 ·rw [Za]at h;have:eI (gu G e r) (ag G)<eI e (ag G):=by
   unfold gu;rw [if_pos h.1];exact Br h.2
  omega
 ·have:=jR hi h (λc=>gC c);omega
theorem qU {G:ac} {e:Nat->Bool} {a:Nat->Nat->Bool} {r:Int×List Int} {M:Nat} (s:0<=r.1/\r.1<ag G) (g: ∀j c,j<ag G->M<=c->a j c=false)
  (h:(r.2.all (aF (ag G) e)&&eK (ag G) e r.1)=false) (o:aE M (a r.1.toNat) (bM (a r.1.toNat) (aF (ag G) e) (aV (ag G) a) r.2)=false):
  gu G e r=e/\iI G e a r=a/\gN G e a r:=by
 have hi:r.1.toNat<ag G:=by omega
 have d:gu G e r=e:=by
  unfold gu
  split
  ·rename_i q
   rw [q,Bool.true_and]at h;exact uN h
  ·rfl
 have f:iI G e a r=a:=by
  refine j3 ?_;refine lL o (λc=>gC c) λc i=> ?_
  show(a r.1.toNat c||db (aF (ag G) e) (aV (ag G) a) r.2 c)=false;rw [g _ c hi i,oK g i];rfl
 exact⟨d,f,yy s d f⟩
def mK (T p:Nat) (x:Int):Bool:=decide ((T:Int)<x)&&decide (x<=p)
structure gy (T p n M:Nat) (e:Int->Bool) (b:Int->Nat->Bool) (bh:Nat->Nat->Bool) (l:Int) (xs:List Int) (k:Nat) (bh':Nat->Nat->Bool) (m:Bool):Prop where
 le: ∀i t,bh i t=true->bh' i t=true
 sound: ∀Q:Nat->Nat->Prop,(∀i t,bh i t=true->Q i t)->(∀j x,j<k->xs[j]? =some x->mK T p x=true->(∀t,db e b (xs.drop (j+1)) t=true->Q x.toNat t)/\((xs.drop (j+1)).all e=true-> ∀t,Q l.toNat t->Q x.toNat t))-> ∀i t,bh' i t=true->Q i t
 still:m=false->bh'=bh/\ ∀j x,j<k->xs[j]? =some x->mK T p x=true->(∀t,db e b (xs.drop (j+1)) t=true->bh x.toNat t=true)/\((xs.drop (j+1)).all e=true-> ∀t,bh l.toNat t=true->bh x.toNat t=true)
 grow:bJ bh' M n<=bJ bh M n/\(m=true->bJ bh' M n<bJ bh M n)
section
variable {T p n M : Nat} {e : Int -> Bool} {b : Int -> Nat -> Bool} {bh bh' : Nat -> Nat -> Bool} {l : Int} {xs : List Int} {k : Nat} {m : Bool} {x : Int}
theorem gy.zero (T p n M:Nat) (e:Int->Bool) (b:Int->Nat->Bool) (bh:Nat->Nat->Bool) (l:Int) (xs:List Int):gy T p n M e b bh l xs 0 bh false:=
 ⟨λ_ _ h=>h,λd a _=>a,λ_=>⟨rfl,λf x c=>absurd c (by omega)⟩,Zr _,λh=>(by cases h)⟩
theorem gy.skip (h:gy T p n M e b bh l xs k bh' m) (u:xs[k]? =some x) (t:mK T p x=false):gy T p n M e b bh l xs (k+1) bh' m:=by
 refine⟨h.le,λg q r=>h.sound g q λc f s=>r c f (by omega),λhm=> ?_,h.grow⟩;obtain⟨i,j⟩:=h.still hm;refine⟨i,λc f s a d=> ?_⟩;by_cases o:c=k
 ·subst o;rw [u]at a;injection a with a;subst a;rw [t]at d;cases d
 ·exact j c f (by omega) a d
theorem gy.part (h:gy T p n M e b bh l xs k bh' m) (v:xs[k]? =some x) (j:mK T p x=true) (L:p<n) (F: ∀d a,d<n->M<=a->bh' d a=false) (E: ∀a,M<=a->db e b (xs.drop (k+1)) a=false) (D:(xs.drop (k+1)).all e=false):
  gy T p n M e b bh l xs (k+1) (bv bh' x.toNat (bM (bh' x.toNat) e b (xs.drop (k+1)))) (m||aE M (bh' x.toNat) (bM (bh' x.toNat) e b (xs.drop (k+1)))):=by
 have N:0<=x/\x<=p:=by unfold mK at j;simp only [Za,decide_eq_true_eq]at j;omega
 have hi:x.toNat<n:=by omega
 obtain⟨J,B⟩:=h.grow;have K:=kN (M:=M) (f:=bM (bh' x.toNat) e b (xs.drop (k+1))) hi (λa=>gC a);refine⟨λd a c=> ?_,λy C r d a c=> ?_,λhm=> ?_,by omega,λhm=> ?_⟩
 ·by_cases f:d=x.toNat
  ·subst f;rw [bm];exact gC a (h.le _ a c)
  ·rw [cD f];exact h.le d a c
 ·have s:=h.sound y C λi o G=>r i o (by omega)
  by_cases f:d=x.toNat
  ·subst f;rw [bm]at c;unfold bM at c;rw [Ze]at c;rcases c with c|c
   ·exact s _ a c
   ·exact(r k x (by omega) v j).1 a c
  ·rw [cD f]at c;exact s d a c
 ·rw [Zd]at hm;obtain⟨q,z⟩:=h.still hm.1;have u:bM (bh' x.toNat) e b (xs.drop (k+1))=bh' x.toNat:=lL hm.2 (λa=>gC a) λa c=>by
   unfold bM;rw [F _ a hi c,E a c];rfl
  refine⟨by rw [j3 u,q],λi o G g I=> ?_⟩;by_cases A:i=k
  ·subst A;rw [v]at g;injection g with g
   subst g;refine⟨λa c=> ?_,λt=>by rw [D]at t;cases t⟩;rw [<-q,<-u];unfold bM;rw [c,Bool.or_true]
  ·exact z i o (by omega) g I
 ·rw [Ze]at hm;rcases hm with hm|hm
  ·have:=B hm;omega
  ·have:=jR hi hm (λa=>gC a);omega
theorem gy.whole {f f2:Nat->Bool} (h:gy T p n M e b bh l xs k bh' m) (C:xs[k]? =some x) (v:mK T p x=true) (Y:p<n) (F: ∀d a,d<n->M<=a->bh' d a=false) (P: ∀a,M<=a->db e b (xs.drop (k+1)) a=false) (O:(xs.drop (k+1)).all e=true) (R:l.toNat<n)
  (u:f=bM (bh' x.toNat) e b (xs.drop (k+1))) (A:f2=λa=>f a||bv bh' x.toNat f l.toNat a):
  gy T p n M e b bh l xs (k+1) (bv (bv bh' x.toNat f) x.toNat f2) (m||(aE M f f2||aE M (bh' x.toNat) f)):=by
 have Z:0<=x/\x<=p:=by unfold mK at v;simp only [Za,decide_eq_true_eq]at v;omega
 have hi:x.toNat<n:=by omega
 have V:bv (bv bh' x.toNat f) x.toNat f2=bv bh' x.toNat f2:=by
  funext o;by_cases i:o=x.toNat
  ·subst i;rw [bm,bm]
  ·rw [cD i,cD i,cD i]
 have s: ∀a,bh' x.toNat a=true->f a=true:=λa c=>by rw [u];exact gC a c
 have j: ∀a,f a=true->f2 a=true:=λa c=>by rw [A];simp [c]
 have S:(aE M f f2||aE M (bh' x.toNat) f)=aE M (bh' x.toNat) f2:=jU s j;have G: ∀a,f2 a=true->f a=true\/bh' l.toNat a=true:=λa c=>by
  rw [A]at c;simp only [Ze]at c;rcases c with c|c
  ·exact .inl c
  ·by_cases r:l.toNat=x.toNat
   ·rw [r,bm]at c;exact .inl c
   ·rw [cD r]at c;exact .inr c
 rw [V,S];obtain⟨W,K⟩:=h.grow;have X:=kN (M:=M) (f:=f2) hi (λa c=>j a (s a c));refine⟨λd a c=> ?_,λI L y d a c=> ?_,λhm=> ?_,by omega,λhm=> ?_⟩
 ·by_cases q:d=x.toNat
  ·subst q;rw [bm];exact j a (s a (h.le _ a c))
  ·rw [cD q];exact h.le d a c
 ·have z:=h.sound I L λo D Q=>y o D (by omega)
  by_cases q:d=x.toNat
  ·subst q;rw [bm]at c;rcases G a c with c|c
   ·rw [u]at c;unfold bM at c;rw [Ze]at c;rcases c with c|c
    ·exact z _ a c
    ·exact(y k x (by omega) C v).1 a c
   ·exact(y k x (by omega) C v).2 O a (z _ a c)
  ·rw [cD q]at c;exact z d a c
 ·rw [Zd]at hm;obtain⟨E,J⟩:=h.still hm.1;have B:f2=bh' x.toNat:=lL hm.2 (λa c=>j a (s a c)) λa c=>by
   cases N:f2 a with
   |false=>rfl
   |true=>
    rcases G a N with g|g
    ·rw [u]at g;unfold bM at g;rw [F _ a hi c,P a c]at g;cases g
    ·rw [F _ a R c]at g;cases g
  refine⟨by rw [j3 B,E],λo D Q t U=> ?_⟩;by_cases i:o=k
  ·subst i;rw [C]at t;injection t with t
   subst t;rw [<-E,<-B];refine⟨λa c=>j a ?_,λ_ a c=> ?_⟩
   ·rw [u];unfold bM;rw [c,Bool.or_true]
   ·by_cases r:l.toNat=x.toNat
    ·rw [r,<-B]at c;exact c
    ·rw [A];simp only [cD r,c,Bool.or_true]
  ·exact J o D (by omega) t U
 ·rw [Ze]at hm;rcases hm with hm|hm
  ·have:=K hm;omega
  ·have:=jR hi hm (λa c=>j a (s a c));omega
end
end
section
theorem Kn.left {G:ac} {st:Int} (h:Kn G st) {r:Int×List Int} (a:r∈G.rules):0<=r.1/\r.1<ag G:=by
 have:=(h.k r a).1;rw [gn]at this;unfold ag;omega
structure jq (G:ac) (M:Nat) (e0:Nat->Bool) (bg0:Nat->Nat->Bool) (q:Nat) (e:Nat->Bool) (bg:Nat->Nat->Bool) (m:Bool):Prop where
 sound:fu G e bg
 base: ∀t,t<=G.terms.length->bg t t=true
 still:m=false->e=e0/\bg=bg0/\ ∀(j:Nat) (r:Int×List Int),j<q->G.rules[j]? =some r->gN G e0 bg0 r
 grow:m=true->gv (ag G) M e bg<gv (ag G) M e0 bg0
theorem jq.start {G:ac} {M:Nat} {e:Nat->Bool} {a:Nat->Nat->Bool} (h:fu G e a) (d: ∀c,c<=G.terms.length->a c c=true):jq G M e a 0 e a false:=
 ⟨h,d,λ_=>⟨rfl,rfl,λg i f=>absurd f (by omega)⟩,λh=>(by cases h)⟩
theorem jq.step {G:ac} {st:Int} {M:Nat} {s e:Nat->Bool} {o a:Nat->Nat->Bool} {q:Nat} {m:Bool} (h:jq G M s o q e a m) (J:Kn G st) {r:Int×List Int} (z:G.rules[q]? =some r) (y: ∀C f,C<ag G->M<=f->a C f=false):
  jq G M s o (q+1) (gu G e r) (iI G e a r) (m||((r.2.all (aF (ag G) e)&&eK (ag G) e r.1)||aE M (a r.1.toNat) (bM (a r.1.toNat) (aF (ag G) e) (aV (ag G) a) r.2))):=by
 have A:=Zn z;have j:=J.left A;have N:gv (ag G) M e a<=gv (ag G) M s o:=by
  cases m with
  |false=>obtain⟨g,i,-⟩:=h.still rfl;rw [g,i];exact Zr _
  |true=>exact Nat.le_of_lt (h.grow rfl)
 refine⟨h.sound.step A j,λf B=> ?_,λhm=> ?_,λhm=> ?_⟩
 ·unfold iI;by_cases v:f=r.1.toNat
  ·subst v;rw [bm,h.base _ B];rfl
  ·rw [cD v];exact h.base f B
 ·rw [Zd,Zd]at hm;obtain⟨g,i,E⟩:=h.still hm.1;obtain⟨t,u,I⟩:=qU j y hm.2.1 hm.2.2;refine⟨by rw [t,g],by rw [u,i],λD K L d=> ?_⟩;by_cases F:D=q
  ·subst F;rw [z]at d;injection d with d
   subst d;rw [<-g,<-i];exact I
  ·exact E D K (by omega) d
 ·by_cases c:((r.2.all (aF (ag G) e)&&eK (ag G) e r.1)||aE M (a r.1.toNat) (bM (a r.1.toNat) (aF (ag G) e) (aV (ag G) a) r.2))=true
  ·have:=AP (M:=M) j (by simpa using c);omega
  ·rw [Zc]at c;rw [c,Bool.or_false]at hm;rw [Zd]at c;obtain⟨t,u,-⟩:=qU j y c.1 c.2;rw [t,u];exact h.grow hm
theorem jq.closed {G:ac} {M:Nat} {f e:Nat->Bool} {d c:Nat->Nat->Bool} {q:Nat} (h:jq G M f d q e c false) (t:q=G.rules.length): ∀a∈G.rules,gN G e c a:=λa r=>by
 obtain⟨g,i,j⟩:=h.still rfl;obtain⟨s,o,e⟩:=Zg r;rw [g,i];exact j s a (by omega) (by rw [List.getElem?_eq_getElem o,e])
def ef (k:Nat) (i t:Nat):Bool:=decide (i<k)&&decide (t=i)
theorem sw {T k:Nat} (g:k<=T):bv (ef k) k (cJ (T+1) (ef k k) (k:Int))=ef (k+1):=by
 funext a f
 unfold ef cJ;by_cases e:a=k
 ·subst e;rw [bm];by_cases d:f=a
  ·subst d;simp;omega
  ·have: ¬((f:Int)=(a:Int)):=by omega
   simp [d,this]
 ·rw [cD e];by_cases c:a<k
  ·have:a<k+1:=by omega
   simp [c,this]
  ·have: ¬a<k+1:=by omega
   simp [c,this]
theorem pQ (G:ac):fu G aj (ef (G.terms.length+1)):=by
 refine⟨λc h=> ?_,λc d h=> ?_⟩
 ·unfold aF aj at h;simp at h
 ·obtain⟨f,g,a⟩:=gL h;unfold ef at a;simp only [Za,decide_eq_true_eq]at a;have:=Beg.self (T:=G.terms.length) (rs:=G.rules) d (by omega);rwa [show(d:Int)=c by omega]at this
theorem qD {T:Nat}: ∀a,a<=T->ef (T+1) a a=true:=λa c=>by
 unfold ef;have:a<T+1:=by omega
 simp [this]
theorem qC:ef 0=λ_=>aj:=by funext i t;simp [ef,aj]
theorem Kn.beg {G:ac} {st:Int} (h:Kn G st) {s:Int} {t:Nat} (c:vZ G s t):0<=s/\s<ag G:=by
 cases c with
 |self t d=>unfold ag;omega
 |step i x _ g f a _ _ _=>exact h.left a
theorem Kn.emp' {G:ac} {st:Int} (h:Kn G st) {s:Int} (a:mQ G s):0<=s/\s<ag G:=by
 have:=h.emp a;rw [gn]at this;unfold ag;omega
theorem qq {G:ac} {st:Int} (d:Kn G st) {s:Int}:aF (ag G) (eS G) s=true↔mQ G s:=by
 constructor
 ·intro h;unfold aF at h;simp only [Za,decide_eq_true_eq]at h;have:=ek.1 h.2;rwa [show((s.toNat:Nat):Int)=s by omega]at this
 ·intro h;obtain⟨a,c⟩:=d.emp' h;unfold aF;rw [decide_eq_true a,decide_eq_true c];exact ek.2 (by rwa [show((s.toNat:Nat):Int)=s by omega])
theorem yZ {G:ac} {st:Int} (f:Kn G st) {s:Int} {t:Nat}:aV (ag G) (fV G) s t=true↔vZ G s t:=by
 constructor
 ·intro h;obtain⟨a,c,d⟩:=gL h;have:=ek.1 d;rwa [show((s.toNat:Nat):Int)=s by omega]at this
 ·intro h;obtain⟨a,c⟩:=f.beg h;exact j5 a c (ek.2 (by rwa [show((s.toNat:Nat):Int)=s by omega]))
theorem x6 {G:ac} {st:Int} (a:Kn G st) {l:List Int} {t:Nat}:db (aF (ag G) (eS G)) (aV (ag G) (fV G)) l t=true↔vW G l t:=by
 rw [il];constructor
 ·rintro⟨h,x,g,e,c,d⟩;exact⟨h,x,g,e,λi f=>(qq a).1 (c i f),(yZ a).1 d⟩
 ·rintro⟨h,x,g,e,c,d⟩;exact⟨h,x,g,e,λi f=>(qq a).2 (c i f),(yZ a).2 d⟩
theorem zm {G:ac} {st:Int} (d:Kn G st) {l:List Int}:l.all (aF (ag G) (eS G))=true↔ ∀a∈l,mQ G a:=by
 rw [Zf];exact⟨λh a c=>(qq d).1 (h a c),λh a c=>(qq d).2 (h a c)⟩
structure jo (G:ac) (st:Int) (M:Nat) (bh0:Nat->Nat->Bool) (q:Nat) (bh:Nat->Nat->Bool) (m:Bool):Prop where
 sound:mZ G st bh
 start:aV (ag G) bh st 0=true
 still:m=false->bh=bh0/\ ∀(j:Nat) (r:Int×List Int),j<q->G.rules[j]? =some r->lg G bh0 r
 grow:m=true->bJ bh M (ag G)<bJ bh0 M (ag G)
theorem jo.begin {G:ac} {st:Int} {M:Nat} {bh:Nat->Nat->Bool} (h:mZ G st bh) (a:aV (ag G) bh st 0=true):jo G st M bh 0 bh false:=
 ⟨h,a,λ_=>⟨rfl,λd f c=>absurd c (by omega)⟩,λh=>(by cases h)⟩
theorem jo.step {G:ac} {st:Int} {M:Nat} {t bh bh':Nat->Nat->Bool} {q:Nat} {m K:Bool} (h:jo G st M t q bh m) (d:Kn G st) {r:Int×List Int} (I:G.rules[q]? =some r)
  (s:gy G.terms.length (ao G) (ag G) M (aF (ag G) (eS G)) (aV (ag G) (fV G)) bh r.1 r.2 r.2.length bh' K):jo G st M t (q+1) bh' (m||K):=by
 have o:=Zn I;have ad:=d.left o;have F: ∀{x:Int} {f:Nat},r.2[f]? =some x->0<=x/\x<ag G:=fun{x f} c=>by
  have:=(d.k r o).2 x (Zn c);unfold ag;omega
 have ai:bJ bh M (ag G)<=bJ t M (ag G):=by
  cases m with
  |false=>rw [(h.still rfl).1];exact Zr _
  |true=>exact Nat.le_of_lt (h.grow rfl)
 obtain⟨Z,S⟩:=s.grow;refine⟨⟨λL a X=> ?_⟩,?_,λhm=> ?_,λhm=> ?_⟩
 ·obtain⟨D,E,u⟩:=gL X;have:=s.sound (λz a=>z<ag G->vY G st (z:Int) a) (λz a hi y=>h.sound.b _ _ (by rw [iX y];exact hi)) (λf x V c j=>by
   obtain⟨A,B⟩:=F c
   have J:((x.toNat:Nat):Int)=x:=by omega
   refine⟨λa i y=> ?_,λv a U y=> ?_⟩
   ·rw [J]
    exact Beh.next r x a _ _ o (xr c) (kV.1 j) ((x6 d).1 i)
   ·rw [J]
    refine Beh.last r x a _ _ o (xr c) (kV.1 j) ((zm d).1 v) ?_
    have:=U (by omega)
    rwa [show((r.1.toNat:Nat):Int)=r.1 by omega]at this) _ _ u (by omega)
  rwa [show((L.toNat:Nat):Int)=L by omega]at this
 ·obtain⟨D,E,u⟩:=gL h.start;exact j5 D E (s.le _ _ u)
 ·rw [Zd]at hm;obtain⟨C,O⟩:=h.still hm.1;obtain⟨Q,R⟩:=s.still hm.2;refine⟨by rw [Q,C],λf Y V g=> ?_⟩;by_cases P:f=q
  ·subst P;rw [I]at g;injection g with g
   subst g;intro k x c j;obtain⟨A,B⟩:=F c;have W:=(List.getElem?_eq_some_iff.1 c).1;obtain⟨N,b⟩:=R k x W c j;rw [<-C];refine⟨λa i=>j5 A B (N a ((x6 d).2 i)),λv a i=>j5 A B (b ((zm d).2 v) a (gL i).2.2)⟩
  ·exact O f Y (by omega) g
 ·rw [Ze]at hm;rcases hm with hm|hm
  ·have:=h.grow hm;omega
  ·have:=S hm;omega
theorem jo.closed {G:ac} {st:Int} {M:Nat} {c bh:Nat->Nat->Bool} {q:Nat} (h:jo G st M c q bh false) (o:q=G.rules.length): ∀a∈G.rules,lg G bh a:=λa i=>by
 obtain⟨d,f⟩:=h.still rfl;obtain⟨j,g,e⟩:=Zg i;rw [d];exact f j a (by omega) (by rw [List.getElem?_eq_getElem g,e])
def iA (s i t:Nat):Bool:=decide (i=s)&&decide (t=0)
theorem su {T s:Nat}:bv (λ_=>aj) s (cJ (T+1) aj 0)=iA s:=by
 funext i t
 unfold iA cJ aj;by_cases e:i=s
 ·subst e;rw [bm];by_cases a:t=0
  ·subst a;simp<;>omega
  ·simp [a]
 ·rw [cD e];simp [e]
theorem pP {G:ac} {st:Int} (c:Kn G st):mZ G st (iA st.toNat)/\aV (ag G) (iA st.toNat) st 0=true:=by
 have d:=c.st;rw [gn]at d;refine⟨⟨λf o h=> ?_⟩,j5 (by omega) (by unfold ag;omega) (by simp [iA])⟩;obtain⟨i,j,a⟩:=gL h;unfold iA at a;simp only [Za,decide_eq_true_eq]at a;obtain⟨g,rfl⟩:=a;rw [show f=st by omega];exact Beh.start
end
section
abbrev It:=Int×Int
def i2 (a b:It):Bool:=decide (a.1<b.1)||(decide (a.1=b.1)&&decide (a.2<b.2))
theorem rD {a b:It}:i2 a b=true↔a.1<b.1\/(a.1=b.1/\a.2<b.2):=by
 unfold i2;simp
theorem jI {a b:It}:i2 a b=false↔ ¬(a.1<b.1\/(a.1=b.1/\a.2<b.2)):=by
 rw [<-rD,Zc]
theorem lM (a:It):i2 a a=false:=by rw [jI];omega
theorem oL {a b c:It} (d:i2 a b=true) (f:i2 b c=true):i2 a c=true:=by
 rw [rD]at *;omega
theorem rC {a b:It} (c:i2 a b=false) (d:i2 b a=false):a=b:=by
 rw [jI]at *;exact Prod.ext (by omega) (by omega)
def dY (l:List It):Prop:=l.Pairwise (λa b=>i2 a b=true)
theorem iK: ∀{a b:List It},dY a->dY b->(∀x,x∈a↔x∈b)->a=b
 |[],[],_,_,_=>rfl
 |[],y::t,_,_,h=>absurd ((h y).2 (Zl ..)) (by simp)
 |x::r,[],_,_,h=>absurd ((h x).1 (Zl ..)) (by simp)
 |x::r,y::t,ha,hb,h=>by
  obtain⟨f,i⟩:=List.pairwise_cons.1 ha;obtain⟨g,j⟩:=List.pairwise_cons.1 hb;have e:x=y:=by
   rcases Zj.1 ((h x).1 (Zl ..))with e|e
   ·exact e
   ·rcases Zj.1 ((h y).2 (Zl ..))with e'|e'
    ·exact e'.symm
    ·have:=oL (f y e') (g x e);rw [lM]at this;cases this
  subst e;rw [iK i j λd=> ?_];constructor
  ·intro c;rcases Zj.1 ((h d).1 (Zk _ c))with e|e
   ·subst e;have:=f d c;rw [lM]at this;cases this
   ·exact e
  ·intro c;rcases Zj.1 ((h d).2 (Zk _ c))with e|e
   ·subst e;have:=g d c;rw [lM]at this;cases this
   ·exact e
theorem dY.nodup {l:List It} (h:dY l):l.Nodup:=by
 refine List.Pairwise.imp (fun{c b} a e=> ?_) h;subst e;rw [lM]at a;cases a
def iM (x:It):List It->List It
 |[]=>[x]
 |y::r=>if i2 y x=true then y::iM x r else if y=x then y::r else x::y::r
theorem rB {x z:It}: ∀{l:List It},z∈iM x l↔z=x\/z∈l
 |[]=>by simp [iM]
 |y::r=>by
  unfold iM
  split
  ·rw [Zj,rB,Zj];constructor
   ·rintro(h|h|h)<;>simp [h]
   ·rintro(h|h|h)<;>simp [h]
  ·split
   ·rename_i _ e;subst e;simp
   ·simp
theorem sm {x:It}: ∀{l:List It},dY l->dY (iM x l)
 |[],_=>List.pairwise_singleton _ _
 |y::r,h=>by
  obtain⟨f,i⟩:=List.pairwise_cons.1 h;unfold iM
  split
  ·rename_i c
   refine List.pairwise_cons.2 ⟨λd a=> ?_,sm i⟩;rcases rB.1 a with rfl|a
   ·exact c
   ·exact f d a
  ·rename_i c
   split
   ·exact h
   ·rename_i j
    have g:i2 x y=true:=by
     cases e:i2 x y with
     |true=>rfl
     |false=>exact absurd (rC (by simpa using c) e) j
    refine List.pairwise_cons.2 ⟨λd a=> ?_,h⟩;rcases Zj.1 a with rfl|a
    ·exact g
    ·exact oL g (f d a)
def dg (l:List It):List It:=l.foldl (λo x=>iM x o) []
theorem oW: ∀(l o:List It),dY o->dY (l.foldl (λo x=>iM x o) o)/\ ∀a,a∈l.foldl (λo x=>iM x o) o↔a∈l\/a∈o
 |[],o,h=>⟨h,λa=>by simp⟩
 |x::r,o,h=>by
  obtain⟨c,d⟩:=oW r (iM x o) (sm h);refine⟨c,λa=> ?_⟩;rw [List.foldl_cons,d,rB,Zj];constructor
  ·rintro(h|h|h)<;>simp [h]
  ·rintro((h|h)|h)<;>simp [h]
theorem ip (l:List It):dY (dg l):=(oW l [] List.Pairwise.nil).1
theorem fB {l:List It} {z:It}:z∈dg l↔z∈l:=by
 rw [show(z∈dg l)=_ from rfl];unfold dg;rw [(oW l [] List.Pairwise.nil).2];simp
theorem DT {l o:List It} (h:dY o) (hm: ∀a,a∈o↔a∈l):o=dg l:=iK h (ip l) λa=>by rw [hm,fB]
theorem yN (x:It): ∀l:List It,(iM x l).length<=l.length+1
 |[]=>by simp [iM]
 |y::r=>by
  unfold iM
  split
  ·have:=yN x r;simp;omega
  ·split<;>simp
theorem vi (l:List It):(dg l).length<=l.length:=by
 have: ∀(l a:List It),(l.foldl (λa x=>iM x a) a).length<=l.length+a.length:=by
  intro l
  induction l with
  |nil=>intro a;simp
  |cons x d c=>intro a;rw [List.foldl_cons];have:=c (iM x a);have:=yN x a;simp;omega
 have:=this l [];simpa [dg]using this
def vU (l:List It):Prop:=l.Pairwise (λa b=>i2 b a=false)
def dk (l:List It):List It:=l.foldl (λo x=>if o.getLast? =some x then o else o++[x]) []
theorem pG (l:List It) (x:It):dk (l++[x])=if(dk l).getLast? =some x then dk l else dk l++[x]:=by unfold dk;rw [List.foldl_append];rfl
theorem Cz: ∀(l:List It),(dk l).getLast? =l.getLast? :=by
 intro l;rcases List.eq_nil_or_concat l with rfl|⟨p,x,rfl⟩
 ·rfl
 ·rw [List.concat_eq_append,pG]
  split
  ·rename_i h;rw [h];simp
  ·simp
theorem qR: ∀(n:Nat) (l:List It),l.length=n->vU l->dY (dk l)/\ ∀f,f∈dk l↔f∈l
 |0,l,hn,_=>by
  obtain rfl:=List.length_eq_zero_iff.1 hn;exact⟨List.Pairwise.nil,λf=>Iff.rfl⟩
 |n+1,l,hn,h=>by
  rcases List.eq_nil_or_concat l with rfl|⟨p,x,rfl⟩
  ·simp at hn
  ·rw [List.concat_eq_append]at hn h⊢;obtain⟨v,E,s⟩:=List.pairwise_append.1 h;obtain⟨j,i⟩:=qR n p (by simpa using hn) v;rw [pG]
   split
   ·rename_i e
    refine⟨j,λf=> ?_⟩;rw [i,Zi,Zp];refine⟨.inl,λD=>D.elim id λq=> ?_⟩;subst q;exact(i f).1 (List.mem_of_getLast? e)
   ·rename_i e
    refine⟨List.pairwise_append.2 ⟨j,List.pairwise_singleton _ _,λc g b A=> ?_⟩,λf=>by rw [Zi,i,Zi]⟩;obtain rfl:=Zp.1 A;have B:=s c ((i c).1 g) b (by simp);cases u:i2 c b with
    |true=>rfl
    |false=>
     exfalso;have z:=rC u B;subst z
     -- c stands in dk p,and is the greatest of them:so it is the last
     obtain⟨o,a,d⟩: ∃o a,dk p=o++[a]:=by
      rcases List.eq_nil_or_concat (dk p)with d|⟨o,a,d⟩
      ·rw [d]at g;cases g
      ·exact⟨o,a,by rw [d,List.concat_eq_append]⟩
     rw [d]at g e j;have C:a≠c:=λq=>e (by rw [q];simp)
     rcases Zi.1 g with r|r
     ·have y:=(List.pairwise_append.1 j).2.2 c r a (by simp);have t:=s a ((i a).1 (by rw [d];simp)) c (by simp);rw [y]at t;cases t
     ·exact C (Zp.1 r).symm
theorem AK {l o:List It} (h:vU o) (hm: ∀a,a∈o↔a∈l):dk o=dg l:=by
 obtain⟨c,d⟩:=qR _ o rfl h;exact DT c λa=>by rw [d,hm]
theorem vf {l:List It} {r:Nat} {x y:It} (f:l[r]? =some y) (d:l[r+1]? =some x):dk (l.take (r+2))=if y=x then dk (l.take (r+1))else dk (l.take (r+1))++[x]:=by
 have a:l.take (r+1+1)=l.take (r+1)++[x]:=by rw [Zq,d];rfl
 have c:l.take (r+1)=l.take r++[y]:=by rw [Zq,f];rfl
 rw [show r+2=r+1+1 from rfl,a,pG,Cz];have:(l.take (r+1)).getLast? =some y:=by rw [c];simp
 rw [this];by_cases e:y=x
 ·rw [if_pos e,if_pos (by rw [e])]
 ·rw [if_neg e,if_neg (λh=>e (by injection h))]
theorem AJ {l:List It}:dk (l.take 1)=l.take 1:=by
 cases l with
 |nil=>rfl
 |cons x a=>rfl
theorem AI {l:List It} (h:l.length<2):dk l=l:=by
 match l,h with
 |[],_=>rfl
 |[x],_=>rfl
def aQ (G:ac) (st:Int) (x:It):Bool:=(aD G st x.1).2&&(decide (0<=x.2)&&decide (x.2<=(aD G st x.1).1.2.length))
def aw (G:ac) (st:Int) (x:It):Int×Bool:=if aQ G st x=true/\x.2<(aD G st x.1).1.2.length then(((aD G st x.1).1.2[x.2.toNat]?).getD 0,true)else(0,false)
inductive Cl (G:ac) (st:Int) (l:List It):It->Prop
 |base (x:It):x∈l->aQ G st x=true->Cl G st l x
 |next (y:It) (s k:Int):Cl G st l y->aw G st y=(s,true)->k∈az G s->Cl G st l (k,0)
def eH (G:ac) (st:Int) (l:List It) (s:Int):List It:=(l.filter λx=>decide (aw G st x=(s,true))).map λx=>(x.1,x.2+1)
theorem ju {G:ac} {st:Int} {n:Nat} {r:Int×List Int} (h:G.rules[n]? =some r):aD G st n=(r,true):=by
 have a:=(List.getElem?_eq_some_iff.1 h).1;unfold aD;rw [if_neg (by omega),if_neg (by omega),Int.toNat_natCast,h];rfl
theorem mz {G:ac} {st s k:Int} (h:k∈az G s):aQ G st (k,0)=true:=by
 obtain⟨n,x,rfl,a⟩:=lF.1 h;unfold aQ;rw [ju a];simp
theorem uq {G:ac} {s k:Int} (h:k∈az G s):0<=k/\k<G.rules.length:=by
 obtain⟨n,x,rfl,a⟩:=lF.1 h;have:=(List.getElem?_eq_some_iff.1 a).1;omega
theorem fY {G:ac} {st:Int} {x:It} {s:Int} (h:aw G st x=(s,true)):aQ G st x=true/\x.2<(aD G st x.1).1.2.length/\(aD G st x.1).1.2[x.2.toNat]? =some s:=by
 unfold aw at h
 split at h
 ·rename_i a
  refine⟨a.1,a.2,?_⟩;injection h with h _
  have c:=a.1;unfold aQ at c;simp only [Za,decide_eq_true_eq]at c;have d:x.2.toNat<(aD G st x.1).1.2.length:=by omega
  rw [List.getElem?_eq_getElem d]at h⊢;simp at h;rw [h]
 ·injection h with _ h;cases h
theorem iu {G:ac} {st:Int} {x:It} {s:Int} (h:aw G st x=(s,true)):aQ G st (x.1,x.2+1)=true/\0<x.2+1:=by
 obtain⟨a,c,-⟩:=fY h;unfold aQ at a⊢;simp only [Za,decide_eq_true_eq]at a⊢;exact⟨⟨a.1,by omega,by omega⟩,by omega⟩
structure CZ (G:ac) (st:Int) (l o:List It):Prop where
 strict:dY o
 mem: ∀z,z∈o↔Cl G st l z
theorem BB {G:ac} {st:Int} {l:List It} {s:Int} {z:It} (h:z∈eH G st l s):aQ G st z=true/\0<z.2:=by
 unfold eH at h;obtain⟨x,a,rfl⟩:=Zm.1 h;exact iu (of_decide_eq_true (List.mem_filter.1 a).2)
theorem uH {l:List It} {k:Nat} {x:It} (h:l[k]? =some x):l.take (k+1)=l.take k++[x]:=by
 rw [Zq,h];rfl
theorem BC (G:ac) (st:Int) (l:List It) (s:Int):(eH G st l s).length<=l.length:=by
 unfold eH;rw [Zh];exact List.length_filter_le _ _
def Bk (G:ac) (st:Int):Prop:= ∀i,(aD G st i).1.2.length<=1000
def kI (G:ac) (st:Int):List It:=(List.range (G.rules.length+1)).flatMap λ(i:Nat)=>(List.range ((aD G st (i:Int)).1.2.length+1)).map λ(d:Nat)=>(((i:Int),(d:Int)):It)
theorem pB {G:ac} {st:Int} {x:It} (h:aQ G st x=true):x∈kI G st:=by
 unfold aQ at h;simp only [Za,decide_eq_true_eq]at h;obtain⟨a,c,f⟩:=h;have d:0<=x.1/\x.1<=G.rules.length:=by
  unfold aD at a
  split at a
  ·cases a
  ·omega
 unfold kI;rw [List.mem_flatMap];refine⟨x.1.toNat,Zo.2 (by omega),?_⟩;rw [Int.toNat_of_nonneg d.1,Zm];exact⟨x.2.toNat,Zo.2 (by omega),Prod.ext rfl (Int.toNat_of_nonneg c)⟩
def mh (G:ac) (st:Int) (o:List It):Nat:=((kI G st).filter λx=>decide (x∉o)).length
theorem vM {l:List It} {p q:It->Bool} (h: ∀x,p x=true->q x=true) {a:It} (c:a∈l) (o:q a=true) (r:p a=false):(l.filter p).length<(l.filter q).length:=by
 induction l with
 |nil=>cases c
 |cons i g f=>
  have s:(g.filter p).length<=(g.filter q).length:=by
   clear f c
   induction g with
   |nil=>exact Zr _
   |cons j t f=>
    rw [List.filter_cons,List.filter_cons];cases d:p j with
    |true=>rw [h j d];simp;omega
    |false=>cases q j<;>simp<;>omega
  rw [List.filter_cons,List.filter_cons];rcases Zj.1 c with e|e
  ·subst e;rw [o,r];simp;omega
  ·have:=f e;cases d:p i with
   |true=>rw [h i d];simp;omega
   |false=>cases q i<;>simp<;>omega
theorem EE {G:ac} {st:Int} {o c:List It} (h: ∀x∈o,x∈c) {a:It} (i:aQ G st a=true) (f:a∉o) (g:a∈c):mh G st c<mh G st o:=by
 unfold mh;exact vM (λx d=>by rw [decide_eq_true_eq]at d⊢;exact λj=>d (h x j)) (pB i) (by simpa using f) (by simpa using g)
theorem zl {G:ac} {st:Int} (d:Bk G st) (h:G.rules.length<=300):(kI G st).length<=400000:=by
 have g: ∀n:Nat,((List.range n).flatMap λ(a:Nat)=>(List.range ((aD G st (a:Int)).1.2.length+1)).map λ(c:Nat)=>(((a:Int),(c:Int)):It)).length<=n * 1001:=by
  intro n
  induction n with
  |zero=>simp
  |succ n f=>
   rw [List.range_succ,List.flatMap_append,List.length_append];have:=d (n:Int);simp only [List.flatMap_cons,List.flatMap_nil,List.append_nil,Zh,List.length_range]at f⊢;omega
 have:=g (G.rules.length+1);unfold kI;omega
end
section
open Go.Sort
end
section
open Go.RowKit
def ar:List It->List Value
 |[]=>[]
 |x::r=>I64 x.1::I64 x.2::ar r
theorem dL: ∀l:List It,(ar l).length=l.length * 2
 |[]=>rfl
 |x::r=>by simp [ar,dL r];omega
theorem eD: ∀a b:List It,ar (a++b)=ar a++ar b
 |[],b=>rfl
 |x::r,b=>by simp [ar,eD r b]
theorem jW: ∀{l:List It} {k:Nat} {x:It},l[k]? =some x->(ar l)[k * 2]? =some (I64 x.1)/\(ar l)[k * 2+1]? =some (I64 x.2)
 |[],k,x,h=>by simp at h
 |y::r,0,x,h=>by simp at h;subst h;exact⟨rfl,rfl⟩
 |y::r,k+1,x,h=>by
  have:=jW (l:=r) (k:=k) (x:=x) (by simpa using h);rw [show(k+1) * 2=k * 2+1+1 by omega];simpa [ar]using this
theorem iH (l:List It): ∀c∈ar l,c.oneCell'=true:=by
 induction l with
 |nil=>simp [ar]
 |cons x f d=>
  intro c a;simp only [ar,Zj]at a;rcases a with rfl|rfl|a
  ·rfl
  ·rfl
  ·exact d c a
theorem Aq {l:List It} {j:Nat} {u:Value} (h:(ar l)[j]? =some u): ∃k x,l[k]? =some x/\((j=k * 2/\u=I64 x.1)\/(j=k * 2+1/\u=I64 x.2)):=by
 induction l generalizing j with
 |nil=>simp [ar]at h
 |cons c o i=>
  match j,h with
  |0,h=>simp [ar]at h;exact⟨0,c,rfl,.inl ⟨rfl,h.symm⟩⟩
  |1,h=>simp [ar]at h;exact⟨0,c,rfl,.inr ⟨rfl,h.symm⟩⟩
  |j+2,h=>
   simp [ar]at h;obtain⟨k,x,f,g⟩:=i h;refine⟨k+1,x,by simpa using f,?_⟩;rcases g with⟨d,a⟩|⟨d,a⟩
   ·exact .inl ⟨by omega,a⟩
   ·exact .inr ⟨by omega,a⟩
abbrev aH (w:World) (F:Nat->Prop) (v:Value) (l:List It):Prop:=Rd w F v 2 (ar l)
theorem aH.at_ {w:World} {F:Nat->Prop} {A:Option Addr} {n c:Nat} {l:List It} (h:aH w F (.slice A n c) l):n=l.length/\n<=c/\c<=maxLen/\(0<n-> ∃b a,A=some ⟨b,a,none⟩/\F b/\ ∀k x,l[k]? =some x->w.cell? ⟨b,a+k * 2,none⟩=some (.int .i64 x.1)/\w.cell? ⟨b,a+k * 2+1,none⟩=some (.int .i64 x.2)):=by
 obtain⟨C,E,D,v,j,o,s,u⟩:=h;injection v with f g i
 subst f g i;rw [dL]at s;refine⟨by omega,j,o,λt=> ?_⟩;obtain⟨b,a,q,r,d⟩:=u t;refine⟨b,a,q,r,λk x y=> ?_⟩;obtain⟨z,B⟩:=jW y;exact⟨d _ _ z,by rw [Nat.add_assoc];exact d _ _ B⟩
theorem aH.mk {w:World} {F:Nat->Prop} {b d n c:Nat} {l:List It} (j:n=l.length) (i:n<=c) (hm:c<=maxLen) (g:F b) (h: ∀k x,l[k]? =some x->w.cell? ⟨b,d+k * 2,none⟩=some (.int .i64 x.1)/\w.cell? ⟨b,d+k * 2+1,none⟩=some (.int .i64 x.2)):aH w F (.slice (some ⟨b,d,none⟩) n c) l:=by
 refine⟨_,_,_,rfl,i,hm,by rw [dL,j],λ_=>⟨b,d,rfl,g,λq r o=> ?_⟩⟩;obtain⟨k,x,f,a|a⟩:=Aq o
 ·rw [a.1,a.2];exact(h k x f).1
 ·rw [a.1,a.2,<-Nat.add_assoc];exact(h k x f).2
theorem aH.one {w:World} {e:TypeId} (x:It):aH (w.alloc (.cells #[.int .i64 x.1,.int .i64 x.2] e)) (λb=>b=w.heap.size) (.slice (some ⟨w.heap.size,0,none⟩) 1 1) [x]:=Rd.one' (w:=w) (e:=e) [I64 x.1,I64 x.2] 2 rfl
section
open Go.ChangeShapes Go.WideShapes Go.ChangeAt Go.RowKit Go.Deep
variable {H : Type} {enc : TypeId × Value -> H} {w : World} {sp : Nat -> Bool}
end
def WfI (x:It):Prop:=(-9223372036854775808<=x.1/\x.1<=9223372036854775807)/\(-9223372036854775808<=x.2/\x.2<=9223372036854775807)
end
section
open Go.RowKit
attribute [local irreducible] wpStill aB aO
abbrev ItV (x:It):Value:= .agg #[.int .i64 x.1,.int .i64 x.2]
theorem CK {G:ac} {st a d:Int} (h:(aD G st a).2=false\/d<0\/((aD G st a).1.2.length:Int)<=d):aw G st (a,d)=(0,false):=by
 unfold aw aQ;rw [if_neg];rintro⟨c,f⟩;simp only [Za,decide_eq_true_eq]at c f;rcases h with h|h|h
 ·rw [h]at c;exact absurd c.1 (by simp)
 ·omega
 ·omega
theorem tE {G:ac} {st a:Int} {k:Nat} {s:Int} (h:(aD G st a).2=true) (c:(aD G st a).1.2[k]? =some s):aw G st (a,(k:Int))=(s,true):=by
 have d:=(List.getElem?_eq_some_iff.1 c).1;unfold aw aQ;rw [if_pos,Int.toNat_natCast,c];rfl;simp only [h,Bool.true_and,Za,decide_eq_true_eq];omega
def vX (G:ac) (st:Int):Bool:=decide (bf G st=0)
theorem DF {w:World} {F:Nat->Prop} {A y z:Value} {G:ac} (h:bk w F A y z G) (st:Int):
  Calls prog 157 #[GV A y z st] w (aI w (.bool (vX G st))):=by
 obtain⟨B,I,C,J,D,K,rfl,rfl,rfl,-⟩:=h.slices;obtain⟨w1,c⟩: ∃w1,w1=w.alloc (.cells #[.slice B G.terms.length I,.slice C G.nons.length J,.slice D G.rules.length K,.int .i64 st] 25):=⟨_,rfl⟩;have a:=bj.new h st;have j:Below w.heap.size w w1:=by rw [c];exact(Below.refl _ w).alloc (Zr _) _
 rw [<-c]at a;have d:=oQ a.gram st;have hm:vX G st=decide (bf G st=0):=rfl;obtain⟨s,t,u,v⟩:=a.cells;generalize bf G st=q at *;generalize G.terms.length=T at *;generalize G.nons.length=L at *;generalize G.rules.length=N at *;rw [c]at d s t u v;obtain⟨E,g,O,P,i⟩:=aX d j a h hm;clear d j a h hm
 go_enter func157,ntmps157
 go_wp2_with fail
 with_reducible refine E.out.mono ?_
 rintro e w2 ⟨rfl,o⟩;rw [<-c]at o;clear c s t u v;have r:=g.out.trans (o.mono g.out.size);by_cases f:q=0
 ·subst f
  go_wp2_with fail
  go_ret
  exact⟨af (by rw [i.out];rfl),r⟩
 ·have Q:(q==0)=false:=by simpa using f
  go_wp2_with fail
  go_ret
  exact⟨af (by rw [i.out,decide_eq_false f]),r⟩
end
section
open Go.RowKit
attribute [local irreducible] wpStill aB aO
def rU (w:World) (l:List It) (e:Ending) (w':World):Prop:= ∃A n c,e= .returned (.slice A n c)/\aH w' (λb=>w.heap.size<=b/\b<w'.heap.size) (.slice A n c) l/\Below w.heap.size w w'
theorem rU.nil {w w':World} (h:Below w.heap.size w w'):rU w [] (.returned (.slice none 0 0)) w':=⟨none,0,0,rfl,Rd.nil _ _ _,h⟩
theorem Ap {w:World} {F:Nat->Prop} {I D E:Value} {G:ac} (h:bk w F I D E G) (st:Int):
  Calls prog 78 #[GV I D E st] w (rU w (if vX G st=true then [((G.rules.length:Int),0)]else [])):=by
 obtain⟨J,O,K,P,L,Q,rfl,rfl,rfl,-⟩:=h.slices;obtain⟨w1,f⟩: ∃w1,w1=w.alloc (.cells #[.slice J G.terms.length O,.slice K G.nons.length P,.slice L G.rules.length Q,.int .i64 st] 25):=⟨_,rfl⟩;have c:=bj.new h st;have B:Below w.heap.size w w1:=by rw [f];exact(Below.refl _ w).alloc (Zr _) _
 rw [<-f]at c;have o:=DF c.gram st;obtain⟨r,s,t,u⟩:=c.cells;generalize vX G st=C at *;generalize G.terms.length=T at *;generalize G.nons.length=S at *;generalize G.rules.length=v at *;obtain⟨V,q⟩: ∃R,R=(if C=true then [((v:Int),(0:Int))]else []):=⟨_,rfl⟩;rw [<-q];rw [f]at o r s t u;obtain⟨z,j,y,U,A⟩:=aX o B c h q;clear o B c h q
 go_enter func78,ntmps78
 go_wp2_with fail
 with_reducible refine z.out.mono ?_
 rintro e w2 ⟨rfl,g⟩;rw [<-f]at g;have d:=y.out.below g;have i:=j.out.trans (g.mono j.out.size);clear f r s t u z j y g;obtain⟨r,s,t,u⟩:=d.cells;cases C with
 |false=>
  obtain⟨a,N⟩:=av i d;clear i d
  go_wp2_with fail
  go_ret
  rw [A.out];exact rU.nil a.out
 |true=>
  obtain⟨a,N⟩:=av i d;clear i d
  go_wp2_with fail
  go_ret
  rw [A.out];exact⟨_,_,_,rfl,Rd.mono (aH.one (w:=w2) (e:=226) ((v:Int),0)) (λb e=>by rw [e];exact⟨a.out.size,by simp⟩),a.out.alloc a.out.size _⟩
theorem fieldsItem:prog.underlying 226=some (.struct (prog.fieldsOf 226)):=by kernel_rfl
theorem stoodItem:prog.stoodInHeld 226=false:=by kernel_rfl
theorem guardItem:prog.eqGuardType prog.depth 226=false:=by kernel_rfl
theorem rF (a b c d:Int) (w:World):Sem.run prog (binOp .eql 226 (.agg #[.int .i64 a,.int .i64 b]) (.agg #[.int .i64 c,.int .i64 d])) w= .ok (.bool (decide (((a,b):It)=(c,d)))) w:=by
 have u3:=underlying3;have h:=fieldsItem;have i:=stoodItem;rw [run_eql_struct,show(10000:Nat)=9999+1 from rfl,run_equalIn_agg w 9999 226 _ _ h i];simp only [Program.fieldsOf,underlying226];have j:=isAgg3;have o:=sizeOf3
 go_simp
 by_cases f:a=c<;>by_cases g:b=d<;>simp [f,g]
theorem Dv (a b c d:Int) (w:World):Sem.run prog (binOp .neq 226 (.agg #[.int .i64 a,.int .i64 b]) (.agg #[.int .i64 c,.int .i64 d])) w= .ok (.bool (!decide (((a,b):It)=(c,d)))) w:=by
 have h:=rF a b c d w;rw [run_eql_struct]at h;rw [run_neq_struct];generalize Sem.run prog (Op.equalIn 10000 226 (.agg #[.int .i64 a,.int .i64 b]) (.agg #[.int .i64 c,.int .i64 d])) w=f at h⊢;cases f<;>simp_all [Result.andThen]
theorem sU (a:BinOp) (p q:Operand) (x y:It) (w:World):(eqGuard a 226 p q (ItV x) (ItV y)).run prog w= .ok () w:=run_eqGuard_agg w a 226 p q _ _ guardItem
end
section
open Go.RowKit
attribute [local irreducible] wpStill aB aO
theorem DU {w:World} (a b c d:Int): ∃w2,w2=(w.alloc (.cells #[.int .i64 a,.int .i64 b] 226)).alloc (.cells #[.int .i64 c,.int .i64 d] 226)/\Blk w2 w.heap.size 226 #[.int .i64 a,.int .i64 b]/\Blk w2 (w.heap.size+1) 226 #[.int .i64 c,.int .i64 d]/\Below w.heap.size w w2:=by
 obtain⟨w1,f⟩: ∃w1,w1=w.alloc (.cells #[.int .i64 a,.int .i64 b] 226):=⟨_,rfl⟩;have j:w1.heap.size=w.heap.size+1:=by rw [f];simp
 have i:Blk w1 w.heap.size 226 #[.int .i64 a,.int .i64 b]:=by rw [f];exact Blk.new _ _ _
 have g:Below w.heap.size w w1:=by rw [f];exact(Below.refl _ w).alloc (Zr _) _
 have h:Below w1.heap.size w1 (w1.alloc (.cells #[.int .i64 c,.int .i64 d] 226)):=(Below.refl _ _).alloc (Zr _) _;refine⟨_,rfl,?_,?_,?_⟩
 ·rw [<-f];exact i.below h i.lt
 ·rw [<-f,<-j];exact Blk.new _ _ _
 ·rw [<-f];exact g.trans (h.mono g.size)
end
end Go.Proofs.YthlbjgabhpdbfaaGreat

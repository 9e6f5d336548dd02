/- What words begin with, and what stands behind: plain laws. -/
import Derived.Test.YthlbjgabhpdbfaaGreatAG7
import Derived.Test.YthlbjgabhpdbfaaGreatABits3
import Derived.Shelf.SlSortCmp.NoneTotal
import Derived.Test.YthlbjgabhpdbfaaGreatABase
import Derived.Test.YthlbjgabhpdbfaaGreatABitsL
import Derived.Laws.StructEq
import Derived.Shelf.SlicesE.Kit
namespace Go.Proofs.YthlbjgabhpdbfaaGreat
set_option linter.unusedVariables false
section
inductive Emp (rs:List (Int×List Int)):Int->Prop
 |mk (r:Int×List Int):r∈rs->(∀x∈r.2,Emp rs x)->Emp rs r.1
inductive Beg (T:Nat) (rs:List (Int×List Int)):Int->Nat->Prop
 |self (t:Nat):t<=T->Beg T rs (t:Int) t
 |step (r:Int×List Int) (x:Int) (t:Nat) (pre post:List Int):r∈rs->r.2=pre++x::post->(∀y∈pre,Emp rs y)->Beg T rs x t->Beg T rs r.1 t
def BegL (T:Nat) (rs:List (Int×List Int)) (l:List Int) (t:Nat):Prop:= ∃pre x post,l=pre++x::post/\(∀y∈pre,Emp rs y)/\Beg T rs x t
inductive Beh (T N:Nat) (rs:List (Int×List Int)) (st:Int):Int->Nat->Prop
 |start:Beh T N rs st st 0
 |next (r:Int×List Int) (x:Int) (t:Nat) (pre post:List Int):r∈rs->r.2=pre++x::post->(T:Int)<x/\x<=T+N->BegL T rs post t->Beh T N rs st x t
 |last (r:Int×List Int) (x:Int) (t:Nat) (pre post:List Int):r∈rs->r.2=pre++x::post->(T:Int)<x/\x<=T+N->(∀y∈post,Emp rs y)->Beh T N rs st r.1 t->Beh T N rs st x t
def lineB (e:Int->Bool) (b:Int->Nat->Bool):List Int->Nat->Bool
 |[],_=>false
 |x::r,t=>b x t||(e x&&lineB e b r t)
theorem lineB_iff {e:Int->Bool} {b:Int->Nat->Bool}: ∀{l:List Int} {t:Nat},lineB e b l t=true↔ ∃pre x post,l=pre++x::post/\(∀y∈pre,e y=true)/\b x t=true
 |[],t=>by
  constructor
  ·intro h;cases h
  ·rintro⟨pre,x,post,h,-⟩;cases pre<;>cases h
 |x::r,t=>by
  unfold lineB
  rw [Bool.or_eq_true,Bool.and_eq_true,lineB_iff]
  constructor
  ·rintro(h|⟨h1,pre,y,post,rfl,h2,h3⟩)
   ·exact⟨[],x,r,rfl,fun _ h=>(by cases h),h⟩
   ·exact⟨x::pre,y,post,rfl,fun z hz=>(List.mem_cons.1 hz).elim (fun e=>e▸h1) (fun hz=>h2 z hz),h3⟩
  ·rintro⟨pre,y,post,h1,h2,h3⟩
   cases pre with
   |nil=>injection h1 with h1 h4;subst h1;exact .inl h3
   |cons z pre=>
    injection h1 with h1 h4
    subst h1
    exact .inr ⟨h2 _ (List.mem_cons_self ..),pre,y,post,h4,fun q hq=>h2 q (List.mem_cons_of_mem _ hq),h3⟩
def moreB (m:Nat) (f g:Nat->Bool):Bool:=(List.range m).any fun t=>g t&& !f t
theorem moreB_iff {m:Nat} {f g:Nat->Bool}:moreB m f g=true↔ ∃t,t<m/\g t=true/\f t=false:=by
 unfold moreB
 rw [List.any_eq_true]
 constructor
 ·rintro⟨t,ht,h⟩;simp only [Bool.and_eq_true,Bool.not_eq_true']at h;exact⟨t,List.mem_range.1 ht,h.1,h.2⟩
 ·rintro⟨t,ht,h1,h2⟩;exact⟨t,List.mem_range.2 ht,by simp [h1,h2]⟩
theorem moreB_no {m:Nat} {f g:Nat->Bool}:moreB m f g=false↔ ∀t,t<m->g t=true->f t=true:=by
 rw [<-Bool.not_eq_true,moreB_iff]
 constructor
 ·intro h t ht hg
  cases hf:f t with
  |true=>rfl
  |false=>exact absurd ⟨t,ht,hg,hf⟩ h
 ·rintro h ⟨t,ht,hg,hf⟩
  rw [h t ht hg]at hf;cases hf
theorem moreB_self (m:Nat) (f:Nat->Bool):moreB m f f=false:=moreB_no.2 fun _ _ h=>h
theorem moreB_trans {m:Nat} {f g h:Nat->Bool} (h1: ∀t,f t=true->g t=true) (h2: ∀t,g t=true->h t=true):(moreB m g h||moreB m f g)=moreB m f h:=by
 rw [Bool.eq_iff_iff,Bool.or_eq_true,moreB_iff,moreB_iff,moreB_iff]
 constructor
 ·rintro(⟨t,ht,a,b⟩|⟨t,ht,a,b⟩)
  ·refine⟨t,ht,a,?_⟩
   cases hf:f t with
   |false=>rfl
   |true=>rw [h1 t hf]at b;cases b
  ·exact⟨t,ht,h2 t a,b⟩
 ·rintro⟨t,ht,a,b⟩
  cases hg:g t with
  |true=>exact .inr ⟨t,ht,hg,b⟩
  |false=>exact .inl ⟨t,ht,a,hg⟩
theorem moreB_eq {m:Nat} {f g:Nat->Bool} (h:moreB m f g=false) (h1: ∀t,f t=true->g t=true) (hg: ∀t,m<=t->g t=false):g=f:=by
 funext t
 rw [Bool.eq_iff_iff]
 refine⟨fun hh=> ?_,h1 t⟩
 rcases Nat.lt_or_ge t m with ht|ht
 ·exact moreB_no.1 h t ht hh
 ·rw [hg t ht]at hh;cases hh
theorem unset_more {m:Nat} {f g:Nat->Bool} (h:moreB m f g=true) (h1: ∀t,f t=true->g t=true):unset g m<unset f m:=by
 obtain⟨t,ht,a,b⟩:=moreB_iff.1 h
 refine filt_lt m (fun j hj=> ?_) ht (by simp [b]) (by simp [a])
 simp only [Bool.not_eq_true']at hj⊢
 cases hf:f j with
 |false=>rfl
 |true=>rw [h1 j hf]at hj;cases hj
theorem unset_le {m:Nat} {f g:Nat->Bool} (h1: ∀t,f t=true->g t=true):unset g m<=unset f m:=by
 refine filt_le m (fun j hj=> ?_)
 simp only [Bool.not_eq_true']at hj⊢
 cases hf:f j with
 |false=>rfl
 |true=>rw [h1 j hf]at hj;cases hj
def setF (F:Nat->Nat->Bool) (i:Nat) (f:Nat->Bool) (j:Nat):Nat->Bool:=if j=i then f else F j
theorem setF_same (F:Nat->Nat->Bool) (i:Nat) (f:Nat->Bool):setF F i f i=f:=by simp [setF]
theorem setF_ne {F:Nat->Nat->Bool} {i j:Nat} {f:Nat->Bool} (h:j≠i):setF F i f j=F j:=by simp [setF,h]
theorem setF_id {F:Nat->Nat->Bool} {i:Nat} {f:Nat->Bool} (h:f=F i):setF F i f=F:=by
 funext j;by_cases e:j=i
 ·subst e;rw [setF_same,h]
 ·rw [setF_ne e]
def unsetF (F:Nat->Nat->Bool) (m:Nat):Nat->Nat
 |0=>0
 |n+1=>unsetF F m n+unset (F n) m
theorem unsetF_far {F:Nat->Nat->Bool} {i:Nat} {f:Nat->Bool} {m:Nat}: ∀{n:Nat},n<=i->unsetF (setF F i f) m n=unsetF F m n
 |0,_=>rfl
 |n+1,h=>by unfold unsetF;rw [unsetF_far (by omega),setF_ne (by omega)]
theorem unsetF_set {F:Nat->Nat->Bool} {i:Nat} {f:Nat->Bool} {m:Nat}: ∀{n:Nat},i<n->unsetF (setF F i f) m n+unset (F i) m=unsetF F m n+unset f m
 |n+1,h=>by
  unfold unsetF
  by_cases e:n=i
  ·subst e;rw [unsetF_far (Nat.le_refl _),setF_same];omega
  ·rw [setF_ne e];have:=unsetF_set (F:=F) (f:=f) (m:=m) (n:=n) (i:=i) (by omega);omega
def famI (n:Nat) (F:Nat->Nat->Bool) (x:Int) (t:Nat):Bool:=decide (0<=x)&&decide (x<n)&&F x.toNat t
theorem famI_nat {n:Nat} {F:Nat->Nat->Bool} {i:Nat} (h:i<n) (t:Nat):famI n F i t=F i t:=by
 unfold famI
 have h':(i:Int)<n:=by omega
 simp [h']
theorem famI_no {n:Nat} {F:Nat->Nat->Bool} {x:Int} (h:x<0\/(n:Int)<=x) (t:Nat):famI n F x t=false:=by
 unfold famI
 rcases h with h|h
 ·have: ¬0<=x:=by omega
  simp [this]
 ·have: ¬x<n:=by omega
  simp [this]
theorem famI_in {n:Nat} {F:Nat->Nat->Bool} {x:Int} {t:Nat} (h:famI n F x t=true):0<=x/\x<n/\F x.toNat t=true:=by
 unfold famI at h
 simpa [and_assoc]using h
theorem famI_mk {n:Nat} {F:Nat->Nat->Bool} {x:Int} {t:Nat} (h0:0<=x) (h1:x<n) (h:F x.toNat t=true):famI n F x t=true:=by
 unfold famI
 rw [decide_eq_true h0,decide_eq_true h1,h];rfl
abbrev EmpG (G:GramD):Int->Prop:=Emp G.rules
abbrev BegG (G:GramD):Int->Nat->Prop:=Beg G.terms.length G.rules
abbrev BegLG (G:GramD):List Int->Nat->Prop:=BegL G.terms.length G.rules
abbrev BehG (G:GramD) (st:Int):Int->Nat->Prop:=Beh G.terms.length G.nons.length G.rules st
abbrev topN (G:GramD):Nat:=G.terms.length+G.nons.length+1
structure SoundB (G:GramD) (e:Nat->Bool) (bg:Nat->Nat->Bool):Prop where
 e: ∀s,hasI (topN G) e s=true->EmpG G s
 b: ∀s t,famI (topN G) bg s t=true->BegG G s t
theorem SoundB.line {G:GramD} {e:Nat->Bool} {bg:Nat->Nat->Bool} (h:SoundB G e bg) {l:List Int} {t:Nat} (hl:lineB (hasI (topN G) e) (famI (topN G) bg) l t=true):BegLG G l t:=by
 obtain⟨pre,x,post,e1,e2,e3⟩:=lineB_iff.1 hl
 exact⟨pre,x,post,e1,fun y hy=>h.e y (e2 y hy),h.b x t e3⟩
theorem SoundB.all {G:GramD} {e:Nat->Bool} {bg:Nat->Nat->Bool} (h:SoundB G e bg) {l:List Int} (hl:l.all (hasI (topN G) e)=true): ∀x∈l,EmpG G x:=fun x hx=>h.e x (List.all_eq_true.1 hl x hx)
def closedB (G:GramD) (e:Nat->Bool) (bg:Nat->Nat->Bool) (r:Int×List Int):Prop:=
 (r.2.all (hasI (topN G) e)=true->hasI (topN G) e r.1=true)/\ ∀t,lineB (hasI (topN G) e) (famI (topN G) bg) r.2 t=true->famI (topN G) bg r.1 t=true
theorem emp_closed {G:GramD} {e:Nat->Bool} {bg:Nat->Nat->Bool} (hc: ∀r∈G.rules,closedB G e bg r) {s:Int} (h:EmpG G s):hasI (topN G) e s=true:=by
 induction h with
 |mk r hr hx ih=>exact(hc r hr).1 (List.all_eq_true.2 ih)
theorem beg_closed {G:GramD} {e:Nat->Bool} {bg:Nat->Nat->Bool} (hb: ∀t,t<=G.terms.length->bg t t=true) (hc: ∀r∈G.rules,closedB G e bg r) {s:Int} {t:Nat} (h:BegG G s t):famI (topN G) bg s t=true:=by
 induction h with
 |self t ht=>rw [famI_nat (by unfold topN;omega)];exact hb t ht
 |step r x t pre post hr he hp _ ih=>exact(hc r hr).2 t (lineB_iff.2 ⟨pre,x,post,he,fun y hy=>emp_closed hc (hp y hy),ih⟩)
noncomputable def empB (G:GramD) (j:Nat):Bool:=toB (EmpG G (j:Int))
noncomputable def begB (G:GramD) (i t:Nat):Bool:=toB (BegG G (i:Int) t)
noncomputable def behB (G:GramD) (st:Int) (i t:Nat):Bool:=toB (BehG G st (i:Int) t)
theorem Kn.emp {G:GramD} {st:Int} (h:Kn G st) {s:Int} (hs:EmpG G s):isNon G s=true:=by
 cases hs with
 |mk r hr _=>exact(h.k r hr).1
theorem emp_set {G:GramD} {st:Int} (hk:Kn G st) {e:Nat->Bool} {bg:Nat->Nat->Bool} (hs:SoundB G e bg) (hc: ∀r∈G.rules,closedB G e bg r) (hhi: ∀j,topN G<=j->e j=false):e=empB G:=by
 funext j
 unfold empB
 refine(toB_eq ⟨fun h=> ?_,fun h=> ?_⟩).symm
 ·have hj:j<topN G:=by
   rcases Nat.lt_or_ge j (topN G)with h1|h1
   ·exact h1
   ·rw [hhi j h1]at h;cases h
  exact hs.e _ (by rw [hasI_nat hj];exact h)
 ·have h1:=emp_closed hc h
  have:=hk.emp h
  rw [isNon_iff]at this
  rwa [hasI_nat (by unfold topN;omega)]at h1
theorem beg_set {G:GramD} {e:Nat->Bool} {bg:Nat->Nat->Bool} (hb: ∀t,t<=G.terms.length->bg t t=true) (hs:SoundB G e bg) (hc: ∀r∈G.rules,closedB G e bg r) {i:Nat} (hi:i<topN G):bg i=begB G i:=by
 funext t
 unfold begB
 refine(toB_eq ⟨fun h=> ?_,fun h=> ?_⟩).symm
 ·exact hs.b _ _ (by rw [famI_nat hi];exact h)
 ·have h1:=beg_closed hb hc h
  rwa [famI_nat hi]at h1
def stepE (G:GramD) (e:Nat->Bool) (r:Int×List Int):Nat->Bool:=if r.2.all (hasI (topN G) e)then putSet (topN G) e r.1 else e
def stepB (G:GramD) (e:Nat->Bool) (bg:Nat->Nat->Bool) (r:Int×List Int):Nat->Nat->Bool:=setF bg r.1.toNat fun t=>bg r.1.toNat t||lineB (hasI (topN G) e) (famI (topN G) bg) r.2 t
theorem SoundB.step {G:GramD} {e:Nat->Bool} {bg:Nat->Nat->Bool} (h:SoundB G e bg) {r:Int×List Int} (hr:r∈G.rules) (hl:0<=r.1/\r.1<topN G):SoundB G (stepE G e r) (stepB G e bg r):=by
 refine⟨fun s hs=> ?_,fun s t hs=> ?_⟩
 ·unfold stepE at hs
  split at hs
  ·rename_i hall
   rw [putSet_has]at hs
   simp only [Bool.or_eq_true,Bool.and_eq_true,decide_eq_true_eq]at hs
   rcases hs with hs|⟨-,rfl⟩
   ·exact h.e s hs
   ·exact Emp.mk r hr (h.all hall)
  ·exact h.e s hs
 ·obtain⟨h0,h1,h2⟩:=famI_in hs
  unfold stepB at h2
  by_cases e':s.toNat=r.1.toNat
  ·have:s=r.1:=by omega
   subst this
   rw [setF_same,Bool.or_eq_true]at h2
   rcases h2 with h2|h2
   ·exact h.b _ _ (famI_mk h0 h1 h2)
   ·obtain⟨pre,x,post,e1,e2,e3⟩:=h.line h2
    exact Beg.step r x t pre post hr e1 e2 e3
  ·rw [setF_ne e']at h2
   exact h.b _ _ (famI_mk h0 h1 h2)
theorem closed_step {G:GramD} {e:Nat->Bool} {bg:Nat->Nat->Bool} {r:Int×List Int} (hl:0<=r.1/\r.1<topN G) (h1:stepE G e r=e) (h2:stepB G e bg r=bg):closedB G e bg r:=by
 refine⟨fun h=> ?_,fun t ht=> ?_⟩
 ·unfold stepE at h1
  rw [if_pos h]at h1
  have:=putSet_has (n:=topN G) (f:=e) (i:=r.1) r.1
  rw [h1]at this
  rw [this,decide_eq_true hl.1,decide_eq_true hl.2]
  simp
 ·have:=congrFun (congrFun h2 r.1.toNat) t
  unfold stepB at this
  rw [setF_same,ht,Bool.or_true]at this
  exact famI_mk hl.1 hl.2 this.symm
structure SoundH (G:GramD) (st:Int) (bh:Nat->Nat->Bool):Prop where
 b: ∀s t,famI (topN G) bh s t=true->BehG G st s t
def closedH (G:GramD) (bh:Nat->Nat->Bool) (r:Int×List Int):Prop:= ∀k x,r.2[k]? =some x->isNon G x=true->
 (∀t,BegLG G (r.2.drop (k+1)) t->famI (topN G) bh x t=true)/\((∀y∈r.2.drop (k+1),EmpG G y)-> ∀t,famI (topN G) bh r.1 t=true->famI (topN G) bh x t=true)
theorem split_at {l pre post:List Int} {x:Int} (h:l=pre++x::post):l[pre.length]? =some x/\l.drop (pre.length+1)=post:=by
 subst h
 refine⟨by simp,?_⟩
 rw [show pre++x::post=(pre++[x])++post by simp,List.drop_left' (by simp)]
theorem at_split {l:List Int} {k:Nat} {x:Int} (h:l[k]? =some x):l=l.take k++x::l.drop (k+1):=by
 obtain⟨hk,rfl⟩:=List.getElem?_eq_some_iff.1 h
 rw [<-List.drop_eq_getElem_cons hk,List.take_append_drop]
theorem beh_closed {G:GramD} {st:Int} {bh:Nat->Nat->Bool} (h0:famI (topN G) bh st 0=true) (hc: ∀r∈G.rules,closedH G bh r) {s:Int} {t:Nat} (h:BehG G st s t):famI (topN G) bh s t=true:=by
 induction h with
 |start=>exact h0
 |next r x t pre post hr he hx hp=>
  obtain⟨a,b⟩:=split_at he
  exact(hc r hr _ x a (isNon_iff'.2 hx)).1 t (by rw [b];exact hp)
 |last r x t pre post hr he hx hp _ ih=>
  obtain⟨a,b⟩:=split_at he
  exact(hc r hr _ x a (isNon_iff'.2 hx)).2 (by rw [b];exact hp) t ih
theorem beh_set {G:GramD} {st:Int} {bh:Nat->Nat->Bool} (h0:famI (topN G) bh st 0=true) (hs:SoundH G st bh) (hc: ∀r∈G.rules,closedH G bh r) {i:Nat} (hi:i<topN G):bh i=behB G st i:=by
 funext t
 unfold behB
 refine(toB_eq ⟨fun h=> ?_,fun h=> ?_⟩).symm
 ·exact hs.b _ _ (by rw [famI_nat hi];exact h)
 ·have h1:=beh_closed h0 hc h
  rwa [famI_nat hi]at h1
end
section
theorem lineB_snoc {e:Int->Bool} {b:Int->Nat->Bool} {x:Int} {t:Nat}: ∀{l:List Int},l.all e=true->lineB e b (l++[x]) t=(lineB e b l t||b x t)
 |[],_=>by simp [lineB]
 |y::l,h=>by
  simp only [List.all_cons,Bool.and_eq_true]at h
  simp only [List.cons_append,lineB,lineB_snoc h.2,h.1,Bool.true_and,Bool.or_assoc]
theorem lineB_stop {e:Int->Bool} {b:Int->Nat->Bool} {t:Nat}: ∀{l:List Int} {k:Nat} {x:Int},l[k]? =some x->e x=false->lineB e b l t=lineB e b (l.take (k+1)) t
 |[],k,x,h,_=>by simp at h
 |y::l,0,x,h,he=>by
  simp at h
  subst h
  simp [lineB,he]
 |y::l,k+1,x,h,he=>by
  have:=lineB_stop (e:=e) (b:=b) (t:=t) (l:=l) (k:=k) (by simpa using h) he
  simp only [List.take_succ_cons,lineB,this]
theorem all_stop {e:Int->Bool} {l:List Int} {k:Nat} {x:Int} (h:l[k]? =some x) (he:e x=false):l.all e=false:=by
 rw [List.all_eq_false]
 exact⟨x,List.mem_of_getElem? h,by simp [he]⟩
theorem take_get {l:List Int} {k:Nat} {x:Int} (h:l[k]? =some x):l.take (k+1)=l.take k++[x]:=by
 rw [List.take_add_one,h];rfl
theorem all_take {e:Int->Bool} {l:List Int} {k:Nat} {x:Int} (h:l[k]? =some x) (ha:(l.take k).all e=true) (he:e x=true):(l.take (k+1)).all e=true:=by
 rw [take_get h,List.all_append,ha];simp [he]
def joinL (f:Nat->Bool) (e:Int->Bool) (b:Int->Nat->Bool) (l:List Int) (t:Nat):Bool:=f t||lineB e b l t
theorem joinL_le {f:Nat->Bool} {e:Int->Bool} {b:Int->Nat->Bool} {l:List Int} (t:Nat) (h:f t=true):joinL f e b l t=true:=by unfold joinL;rw [h];rfl
theorem lineB_high {n M:Nat} {e:Int->Bool} {bg:Nat->Nat->Bool} {l:List Int} {t:Nat} (h: ∀i t,i<n->M<=t->bg i t=false) (ht:M<=t):lineB e (famI n bg) l t=false:=by
 cases hl:lineB e (famI n bg) l t with
 |false=>rfl
 |true=>
  obtain⟨pre,x,post,-,-,hx⟩:=lineB_iff.1 hl
  obtain⟨h0,h1,h2⟩:=famI_in hx
  rw [h x.toNat t (by omega) ht]at h2
  cases h2
theorem unsetF_less {F:Nat->Nat->Bool} {n M i:Nat} {f:Nat->Bool} (hi:i<n) (h:moreB M (F i) f=true) (h1: ∀t,F i t=true->f t=true):unsetF (setF F i f) M n<unsetF F M n:=by
 have:=unsetF_set (F:=F) (f:=f) (m:=M) hi
 have:=unset_more h h1
 omega
theorem unsetF_leq {F:Nat->Nat->Bool} {n M i:Nat} {f:Nat->Bool} (hi:i<n) (h1: ∀t,F i t=true->f t=true):unsetF (setF F i f) M n<=unsetF F M n:=by
 have:=unsetF_set (F:=F) (f:=f) (m:=M) hi
 have:=unset_le (m:=M) h1
 omega
def measB (n M:Nat) (e:Nat->Bool) (bg:Nat->Nat->Bool):Nat:=unset e n+unsetF bg M n
theorem putSet_le {n:Nat} {f:Nat->Bool} {i:Int} (t:Nat) (h:f t=true):putSet n f i t=true:=by unfold putSet;rw [h];rfl
theorem putSet_id {n:Nat} {f:Nat->Bool} {i:Int} (h:putAns n f i=false):putSet n f i=f:=by
 funext j
 unfold putSet
 cases hf:f j with
 |true=>rfl
 |false=>
  cases hh:(decide (0<=i)&&decide (i<n)&&decide ((j:Int)=i))with
  |false=>rfl
  |true=>
   simp only [Bool.and_eq_true,decide_eq_true_eq]at hh
   unfold putAns at h
   rw [decide_eq_true hh.1.1,decide_eq_true hh.1.2,show i.toNat=j by omega,hf]at h
   cases h
theorem bstep_grow {G:GramD} {e:Nat->Bool} {bg:Nat->Nat->Bool} {r:Int×List Int} {M:Nat} (hl:0<=r.1/\r.1<topN G)
  (h:(r.2.all (hasI (topN G) e)&&putAns (topN G) e r.1)=true\/moreB M (bg r.1.toNat) (joinL (bg r.1.toNat) (hasI (topN G) e) (famI (topN G) bg) r.2)=true):
  measB (topN G) M (stepE G e r) (stepB G e bg r)<measB (topN G) M e bg:=by
 have hi:r.1.toNat<topN G:=by omega
 have h1:=unsetF_leq (M:=M) (f:=joinL (bg r.1.toNat) (hasI (topN G) e) (famI (topN G) bg) r.2) hi (fun t=>joinL_le t)
 have h2:unset (stepE G e r) (topN G)<=unset e (topN G):=by
  refine unset_le fun t ht=> ?_
  unfold stepE
  split
  ·exact putSet_le t ht
  ·exact ht
 have e2:stepB G e bg r=setF bg r.1.toNat (joinL (bg r.1.toNat) (hasI (topN G) e) (famI (topN G) bg) r.2):=rfl
 unfold measB
 rw [e2]
 rcases h with h|h
 ·rw [Bool.and_eq_true]at h
  have:unset (stepE G e r) (topN G)<unset e (topN G):=by
   unfold stepE
   rw [if_pos h.1]
   exact unset_put h.2
  omega
 ·have:=unsetF_less hi h (fun t=>joinL_le t)
  omega
theorem bstep_still {G:GramD} {e:Nat->Bool} {bg:Nat->Nat->Bool} {r:Int×List Int} {M:Nat} (hl:0<=r.1/\r.1<topN G) (hh: ∀i t,i<topN G->M<=t->bg i t=false)
  (h:(r.2.all (hasI (topN G) e)&&putAns (topN G) e r.1)=false) (h':moreB M (bg r.1.toNat) (joinL (bg r.1.toNat) (hasI (topN G) e) (famI (topN G) bg) r.2)=false):
  stepE G e r=e/\stepB G e bg r=bg/\closedB G e bg r:=by
 have hi:r.1.toNat<topN G:=by omega
 have h1:stepE G e r=e:=by
  unfold stepE
  split
  ·rename_i ha
   rw [ha,Bool.true_and]at h
   exact putSet_id h
  ·rfl
 have h2:stepB G e bg r=bg:=by
  refine setF_id ?_
  refine moreB_eq h' (fun t=>joinL_le t) fun t ht=> ?_
  show(bg r.1.toNat t||lineB (hasI (topN G) e) (famI (topN G) bg) r.2 t)=false
  rw [hh _ t hi ht,lineB_high hh ht];rfl
 exact⟨h1,h2,closed_step hl h1 h2⟩
def nonB (T p:Nat) (x:Int):Bool:=decide ((T:Int)<x)&&decide (x<=p)
structure HStep (T p n M:Nat) (e:Int->Bool) (b:Int->Nat->Bool) (bh:Nat->Nat->Bool) (l:Int) (xs:List Int) (k:Nat) (bh':Nat->Nat->Bool) (m:Bool):Prop where
 le: ∀i t,bh i t=true->bh' i t=true
 sound: ∀Q:Nat->Nat->Prop,(∀i t,bh i t=true->Q i t)->(∀j x,j<k->xs[j]? =some x->nonB T p x=true->(∀t,lineB e b (xs.drop (j+1)) t=true->Q x.toNat t)/\((xs.drop (j+1)).all e=true-> ∀t,Q l.toNat t->Q x.toNat t))-> ∀i t,bh' i t=true->Q i t
 still:m=false->bh'=bh/\ ∀j x,j<k->xs[j]? =some x->nonB T p x=true->(∀t,lineB e b (xs.drop (j+1)) t=true->bh x.toNat t=true)/\((xs.drop (j+1)).all e=true-> ∀t,bh l.toNat t=true->bh x.toNat t=true)
 grow:unsetF bh' M n<=unsetF bh M n/\(m=true->unsetF bh' M n<unsetF bh M n)
section
variable {T p n M : Nat} {e : Int -> Bool} {b : Int -> Nat -> Bool} {bh bh' : Nat -> Nat -> Bool} {l : Int} {xs : List Int} {k : Nat} {m : Bool} {x : Int}
theorem HStep.zero (T p n M:Nat) (e:Int->Bool) (b:Int->Nat->Bool) (bh:Nat->Nat->Bool) (l:Int) (xs:List Int):HStep T p n M e b bh l xs 0 bh false:=
 ⟨fun _ _ h=>h,fun Q h0 _=>h0,fun _=>⟨rfl,fun j x hj=>absurd hj (by omega)⟩,Nat.le_refl _,fun h=>(by cases h)⟩
theorem HStep.skip (h:HStep T p n M e b bh l xs k bh' m) (hx:xs[k]? =some x) (hn:nonB T p x=false):HStep T p n M e b bh l xs (k+1) bh' m:=by
 refine⟨h.le,fun Q h0 h1=>h.sound Q h0 fun j y hj=>h1 j y (by omega),fun hm=> ?_,h.grow⟩
 obtain⟨e1,e2⟩:=h.still hm
 refine⟨e1,fun j y hj hy hny=> ?_⟩
 by_cases ej:j=k
 ·subst ej;rw [hx]at hy;injection hy with hy;subst hy;rw [hn]at hny;cases hny
 ·exact e2 j y (by omega) hy hny
theorem HStep.part (h:HStep T p n M e b bh l xs k bh' m) (hx:xs[k]? =some x) (hn:nonB T p x=true) (hp:p<n) (hh: ∀i t,i<n->M<=t->bh' i t=false) (hbh: ∀t,M<=t->lineB e b (xs.drop (k+1)) t=false) (ha:(xs.drop (k+1)).all e=false):
  HStep T p n M e b bh l xs (k+1) (setF bh' x.toNat (joinL (bh' x.toNat) e b (xs.drop (k+1)))) (m||moreB M (bh' x.toNat) (joinL (bh' x.toNat) e b (xs.drop (k+1)))):=by
 have hxr:0<=x/\x<=p:=by unfold nonB at hn;simp only [Bool.and_eq_true,decide_eq_true_eq]at hn;omega
 have hi:x.toNat<n:=by omega
 obtain⟨g1,g2⟩:=h.grow
 have g3:=unsetF_leq (M:=M) (f:=joinL (bh' x.toNat) e b (xs.drop (k+1))) hi (fun t=>joinL_le t)
 refine⟨fun i t ht=> ?_,fun Q h0 h1 i t ht=> ?_,fun hm=> ?_,by omega,fun hm=> ?_⟩
 ·by_cases ei:i=x.toNat
  ·subst ei;rw [setF_same];exact joinL_le t (h.le _ t ht)
  ·rw [setF_ne ei];exact h.le i t ht
 ·have hQ:=h.sound Q h0 fun j y hj=>h1 j y (by omega)
  by_cases ei:i=x.toNat
  ·subst ei
   rw [setF_same]at ht
   unfold joinL at ht
   rw [Bool.or_eq_true]at ht
   rcases ht with ht|ht
   ·exact hQ _ t ht
   ·exact(h1 k x (by omega) hx hn).1 t ht
  ·rw [setF_ne ei]at ht;exact hQ i t ht
 ·rw [Bool.or_eq_false_iff]at hm
  obtain⟨e1,e2⟩:=h.still hm.1
  have hid:joinL (bh' x.toNat) e b (xs.drop (k+1))=bh' x.toNat:=moreB_eq hm.2 (fun t=>joinL_le t) fun t ht=>by
   unfold joinL;rw [hh _ t hi ht,hbh t ht];rfl
  refine⟨by rw [setF_id hid,e1],fun j y hj hy hny=> ?_⟩
  by_cases ej:j=k
  ·subst ej
   rw [hx]at hy
   injection hy with hy
   subst hy
   refine⟨fun t ht=> ?_,fun hall=>by rw [ha]at hall;cases hall⟩
   rw [<-e1,<-hid]
   unfold joinL
   rw [ht,Bool.or_true]
  ·exact e2 j y (by omega) hy hny
 ·rw [Bool.or_eq_true]at hm
  rcases hm with hm|hm
  ·have:=g2 hm;omega
  ·have:=unsetF_less hi hm (fun t=>joinL_le t);omega
theorem HStep.whole {f f2:Nat->Bool} (h:HStep T p n M e b bh l xs k bh' m) (hx:xs[k]? =some x) (hn:nonB T p x=true) (hp:p<n) (hh: ∀i t,i<n->M<=t->bh' i t=false) (hbh: ∀t,M<=t->lineB e b (xs.drop (k+1)) t=false) (ha:(xs.drop (k+1)).all e=true) (hl:l.toNat<n)
  (hf:f=joinL (bh' x.toNat) e b (xs.drop (k+1))) (hf2:f2=fun t=>f t||setF bh' x.toNat f l.toNat t):
  HStep T p n M e b bh l xs (k+1) (setF (setF bh' x.toNat f) x.toNat f2) (m||(moreB M f f2||moreB M (bh' x.toNat) f)):=by
 have hxr:0<=x/\x<=p:=by unfold nonB at hn;simp only [Bool.and_eq_true,decide_eq_true_eq]at hn;omega
 have hi:x.toNat<n:=by omega
 have hss:setF (setF bh' x.toNat f) x.toNat f2=setF bh' x.toNat f2:=by
  funext j;by_cases ej:j=x.toNat
  ·subst ej;rw [setF_same,setF_same]
  ·rw [setF_ne ej,setF_ne ej,setF_ne ej]
 have hle1: ∀t,bh' x.toNat t=true->f t=true:=fun t ht=>by rw [hf];exact joinL_le t ht
 have hle2: ∀t,f t=true->f2 t=true:=fun t ht=>by rw [hf2];simp [ht]
 have hmm:(moreB M f f2||moreB M (bh' x.toNat) f)=moreB M (bh' x.toNat) f2:=moreB_trans hle1 hle2
 have hlf: ∀t,f2 t=true->f t=true\/bh' l.toNat t=true:=fun t ht=>by
  rw [hf2]at ht
  simp only [Bool.or_eq_true]at ht
  rcases ht with ht|ht
  ·exact .inl ht
  ·by_cases el:l.toNat=x.toNat
   ·rw [el,setF_same]at ht;exact .inl ht
   ·rw [setF_ne el]at ht;exact .inr ht
 rw [hss,hmm]
 obtain⟨g1,g2⟩:=h.grow
 have g3:=unsetF_leq (M:=M) (f:=f2) hi (fun t ht=>hle2 t (hle1 t ht))
 refine⟨fun i t ht=> ?_,fun Q h0 h1 i t ht=> ?_,fun hm=> ?_,by omega,fun hm=> ?_⟩
 ·by_cases ei:i=x.toNat
  ·subst ei;rw [setF_same];exact hle2 t (hle1 t (h.le _ t ht))
  ·rw [setF_ne ei];exact h.le i t ht
 ·have hQ:=h.sound Q h0 fun j y hj=>h1 j y (by omega)
  by_cases ei:i=x.toNat
  ·subst ei
   rw [setF_same]at ht
   rcases hlf t ht with ht|ht
   ·rw [hf]at ht
    unfold joinL at ht
    rw [Bool.or_eq_true]at ht
    rcases ht with ht|ht
    ·exact hQ _ t ht
    ·exact(h1 k x (by omega) hx hn).1 t ht
   ·exact(h1 k x (by omega) hx hn).2 ha t (hQ _ t ht)
  ·rw [setF_ne ei]at ht;exact hQ i t ht
 ·rw [Bool.or_eq_false_iff]at hm
  obtain⟨e1,e2⟩:=h.still hm.1
  have hid:f2=bh' x.toNat:=moreB_eq hm.2 (fun t ht=>hle2 t (hle1 t ht)) fun t ht=>by
   cases h2:f2 t with
   |false=>rfl
   |true=>
    rcases hlf t h2 with h3|h3
    ·rw [hf]at h3;unfold joinL at h3;rw [hh _ t hi ht,hbh t ht]at h3;cases h3
    ·rw [hh _ t hl ht]at h3;cases h3
  refine⟨by rw [setF_id hid,e1],fun j y hj hy hny=> ?_⟩
  by_cases ej:j=k
  ·subst ej
   rw [hx]at hy
   injection hy with hy
   subst hy
   rw [<-e1,<-hid]
   refine⟨fun t ht=>hle2 t ?_,fun _ t ht=> ?_⟩
   ·rw [hf];unfold joinL;rw [ht,Bool.or_true]
   ·by_cases el:l.toNat=x.toNat
    ·rw [el,<-hid]at ht;exact ht
    ·rw [hf2]
     simp only [setF_ne el,ht,Bool.or_true]
  ·exact e2 j y (by omega) hy hny
 ·rw [Bool.or_eq_true]at hm
  rcases hm with hm|hm
  ·have:=g2 hm;omega
  ·have:=unsetF_less hi hm (fun t ht=>hle2 t (hle1 t ht));omega
end
end
section
theorem Kn.left {G:GramD} {st:Int} (h:Kn G st) {r:Int×List Int} (hr:r∈G.rules):0<=r.1/\r.1<topN G:=by
 have:=(h.k r hr).1
 rw [isNon_iff]at this
 unfold topN
 omega
structure BPass (G:GramD) (M:Nat) (e0:Nat->Bool) (bg0:Nat->Nat->Bool) (q:Nat) (e:Nat->Bool) (bg:Nat->Nat->Bool) (m:Bool):Prop where
 sound:SoundB G e bg
 base: ∀t,t<=G.terms.length->bg t t=true
 still:m=false->e=e0/\bg=bg0/\ ∀(j:Nat) (r:Int×List Int),j<q->G.rules[j]? =some r->closedB G e0 bg0 r
 grow:m=true->measB (topN G) M e bg<measB (topN G) M e0 bg0
theorem BPass.start {G:GramD} {M:Nat} {e:Nat->Bool} {bg:Nat->Nat->Bool} (h:SoundB G e bg) (hb: ∀t,t<=G.terms.length->bg t t=true):BPass G M e bg 0 e bg false:=
 ⟨h,hb,fun _=>⟨rfl,rfl,fun j r hj=>absurd hj (by omega)⟩,fun h=>(by cases h)⟩
theorem BPass.step {G:GramD} {st:Int} {M:Nat} {e0 e:Nat->Bool} {bg0 bg:Nat->Nat->Bool} {q:Nat} {m:Bool} (h:BPass G M e0 bg0 q e bg m) (hk:Kn G st) {r:Int×List Int} (hr:G.rules[q]? =some r) (hh: ∀i t,i<topN G->M<=t->bg i t=false):
  BPass G M e0 bg0 (q+1) (stepE G e r) (stepB G e bg r) (m||((r.2.all (hasI (topN G) e)&&putAns (topN G) e r.1)||moreB M (bg r.1.toNat) (joinL (bg r.1.toNat) (hasI (topN G) e) (famI (topN G) bg) r.2))):=by
 have hrm:=List.mem_of_getElem? hr
 have hl:=hk.left hrm
 have hle:measB (topN G) M e bg<=measB (topN G) M e0 bg0:=by
  cases m with
  |false=>obtain⟨e1,e2,-⟩:=h.still rfl;rw [e1,e2];exact Nat.le_refl _
  |true=>exact Nat.le_of_lt (h.grow rfl)
 refine⟨h.sound.step hrm hl,fun t ht=> ?_,fun hm=> ?_,fun hm=> ?_⟩
 ·unfold stepB
  by_cases et:t=r.1.toNat
  ·subst et;rw [setF_same,h.base _ ht];rfl
  ·rw [setF_ne et];exact h.base t ht
 ·rw [Bool.or_eq_false_iff,Bool.or_eq_false_iff]at hm
  obtain⟨e1,e2,e3⟩:=h.still hm.1
  obtain⟨f1,f2,f3⟩:=bstep_still hl hh hm.2.1 hm.2.2
  refine⟨by rw [f1,e1],by rw [f2,e2],fun j r' hj hr'=> ?_⟩
  by_cases ej:j=q
  ·subst ej
   rw [hr]at hr'
   injection hr' with hr'
   subst hr'
   rw [<-e1,<-e2];exact f3
  ·exact e3 j r' (by omega) hr'
 ·by_cases hn:((r.2.all (hasI (topN G) e)&&putAns (topN G) e r.1)||moreB M (bg r.1.toNat) (joinL (bg r.1.toNat) (hasI (topN G) e) (famI (topN G) bg) r.2))=true
  ·have:=bstep_grow (M:=M) hl (by simpa using hn)
   omega
  ·rw [Bool.not_eq_true]at hn
   rw [hn,Bool.or_false]at hm
   rw [Bool.or_eq_false_iff]at hn
   obtain⟨f1,f2,-⟩:=bstep_still hl hh hn.1 hn.2
   rw [f1,f2]
   exact h.grow hm
theorem BPass.closed {G:GramD} {M:Nat} {e0 e:Nat->Bool} {bg0 bg:Nat->Nat->Bool} {q:Nat} (h:BPass G M e0 bg0 q e bg false) (hq:q=G.rules.length): ∀r∈G.rules,closedB G e bg r:=fun r hr=>by
 obtain⟨e1,e2,e3⟩:=h.still rfl
 obtain⟨j,hj,e⟩:=List.getElem_of_mem hr
 rw [e1,e2]
 exact e3 j r (by omega) (by rw [List.getElem?_eq_getElem hj,e])
def startB (k:Nat) (i t:Nat):Bool:=decide (i<k)&&decide (t=i)
theorem startB_put {T k:Nat} (hk:k<=T):setF (startB k) k (putSet (T+1) (startB k k) (k:Int))=startB (k+1):=by
 funext i t
 unfold startB putSet
 by_cases e:i=k
 ·subst e
  rw [setF_same]
  by_cases ht:t=i
  ·subst ht;simp;omega
  ·have: ¬((t:Int)=(i:Int)):=by omega
   simp [ht,this]
 ·rw [setF_ne e]
  by_cases h1:i<k
  ·have:i<k+1:=by omega
   simp [h1,this]
  ·have: ¬i<k+1:=by omega
   simp [h1,this]
theorem startB_sound (G:GramD):SoundB G noBits (startB (G.terms.length+1)):=by
 refine⟨fun s h=> ?_,fun s t h=> ?_⟩
 ·unfold hasI noBits at h;simp at h
 ·obtain⟨h0,h1,h2⟩:=famI_in h
  unfold startB at h2
  simp only [Bool.and_eq_true,decide_eq_true_eq]at h2
  have:=Beg.self (T:=G.terms.length) (rs:=G.rules) t (by omega)
  rwa [show(t:Int)=s by omega]at this
theorem startB_base {T:Nat}: ∀t,t<=T->startB (T+1) t t=true:=fun t ht=>by
 unfold startB
 have:t<T+1:=by omega
 simp [this]
theorem startB_zero:startB 0=fun _=>noBits:=by funext i t;simp [startB,noBits]
theorem Kn.beg {G:GramD} {st:Int} (h:Kn G st) {s:Int} {t:Nat} (hs:BegG G s t):0<=s/\s<topN G:=by
 cases hs with
 |self t ht=>unfold topN;omega
 |step r x _ pre post hr _ _ _=>exact h.left hr
theorem Kn.emp' {G:GramD} {st:Int} (h:Kn G st) {s:Int} (hs:EmpG G s):0<=s/\s<topN G:=by
 have:=h.emp hs
 rw [isNon_iff]at this
 unfold topN
 omega
theorem has_emp {G:GramD} {st:Int} (hk:Kn G st) {s:Int}:hasI (topN G) (empB G) s=true↔EmpG G s:=by
 constructor
 ·intro h
  unfold hasI at h
  simp only [Bool.and_eq_true,decide_eq_true_eq]at h
  have:=toB_iff.1 h.2
  rwa [show((s.toNat:Nat):Int)=s by omega]at this
 ·intro h
  obtain⟨h0,h1⟩:=hk.emp' h
  unfold hasI
  rw [decide_eq_true h0,decide_eq_true h1]
  exact toB_iff.2 (by rwa [show((s.toNat:Nat):Int)=s by omega])
theorem fam_beg {G:GramD} {st:Int} (hk:Kn G st) {s:Int} {t:Nat}:famI (topN G) (begB G) s t=true↔BegG G s t:=by
 constructor
 ·intro h
  obtain⟨h0,h1,h2⟩:=famI_in h
  have:=toB_iff.1 h2
  rwa [show((s.toNat:Nat):Int)=s by omega]at this
 ·intro h
  obtain⟨h0,h1⟩:=hk.beg h
  exact famI_mk h0 h1 (toB_iff.2 (by rwa [show((s.toNat:Nat):Int)=s by omega]))
theorem line_beg {G:GramD} {st:Int} (hk:Kn G st) {l:List Int} {t:Nat}:lineB (hasI (topN G) (empB G)) (famI (topN G) (begB G)) l t=true↔BegLG G l t:=by
 rw [lineB_iff]
 constructor
 ·rintro⟨pre,x,post,e,h1,h2⟩
  exact⟨pre,x,post,e,fun y hy=>(has_emp hk).1 (h1 y hy),(fam_beg hk).1 h2⟩
 ·rintro⟨pre,x,post,e,h1,h2⟩
  exact⟨pre,x,post,e,fun y hy=>(has_emp hk).2 (h1 y hy),(fam_beg hk).2 h2⟩
theorem all_emp {G:GramD} {st:Int} (hk:Kn G st) {l:List Int}:l.all (hasI (topN G) (empB G))=true↔ ∀y∈l,EmpG G y:=by
 rw [List.all_eq_true]
 exact⟨fun h y hy=>(has_emp hk).1 (h y hy),fun h y hy=>(has_emp hk).2 (h y hy)⟩
structure HPass (G:GramD) (st:Int) (M:Nat) (bh0:Nat->Nat->Bool) (q:Nat) (bh:Nat->Nat->Bool) (m:Bool):Prop where
 sound:SoundH G st bh
 start:famI (topN G) bh st 0=true
 still:m=false->bh=bh0/\ ∀(j:Nat) (r:Int×List Int),j<q->G.rules[j]? =some r->closedH G bh0 r
 grow:m=true->unsetF bh M (topN G)<unsetF bh0 M (topN G)
theorem HPass.begin {G:GramD} {st:Int} {M:Nat} {bh:Nat->Nat->Bool} (h:SoundH G st bh) (h0:famI (topN G) bh st 0=true):HPass G st M bh 0 bh false:=
 ⟨h,h0,fun _=>⟨rfl,fun j r hj=>absurd hj (by omega)⟩,fun h=>(by cases h)⟩
theorem HPass.step {G:GramD} {st:Int} {M:Nat} {bh0 bh bh':Nat->Nat->Bool} {q:Nat} {m m':Bool} (h:HPass G st M bh0 q bh m) (hk:Kn G st) {r:Int×List Int} (hr:G.rules[q]? =some r)
  (hs:HStep G.terms.length (topOf G) (topN G) M (hasI (topN G) (empB G)) (famI (topN G) (begB G)) bh r.1 r.2 r.2.length bh' m'):HPass G st M bh0 (q+1) bh' (m||m'):=by
 have hrm:=List.mem_of_getElem? hr
 have hl:=hk.left hrm
 have hin: ∀{x:Int} {j:Nat},r.2[j]? =some x->0<=x/\x<topN G:=fun{x j} hx=>by
  have:=(hk.k r hrm).2 x (List.mem_of_getElem? hx)
  unfold topN;omega
 have hle:unsetF bh M (topN G)<=unsetF bh0 M (topN G):=by
  cases m with
  |false=>rw [(h.still rfl).1];exact Nat.le_refl _
  |true=>exact Nat.le_of_lt (h.grow rfl)
 obtain⟨g1,g2⟩:=hs.grow
 refine⟨⟨fun s t hst=> ?_⟩,?_,fun hm=> ?_,fun hm=> ?_⟩
 ·obtain⟨h0,h1,h2⟩:=famI_in hst
  have:=hs.sound (fun i t=>i<topN G->BehG G st (i:Int) t) (fun i t hi hlt=>h.sound.b _ _ (by rw [famI_nat hlt];exact hi)) (fun j x hj hx hn=>by
   obtain⟨x0,x1⟩:=hin hx
   have hxx:((x.toNat:Nat):Int)=x:=by omega
   refine⟨fun t ht hlt=> ?_,fun hall t hQ hlt=> ?_⟩
   ·rw [hxx]
    exact Beh.next r x t _ _ hrm (at_split hx) (isNon_iff'.1 hn) ((line_beg hk).1 ht)
   ·rw [hxx]
    refine Beh.last r x t _ _ hrm (at_split hx) (isNon_iff'.1 hn) ((all_emp hk).1 hall) ?_
    have:=hQ (by omega)
    rwa [show((r.1.toNat:Nat):Int)=r.1 by omega]at this) _ _ h2 (by omega)
  rwa [show((s.toNat:Nat):Int)=s by omega]at this
 ·obtain⟨h0,h1,h2⟩:=famI_in h.start
  exact famI_mk h0 h1 (hs.le _ _ h2)
 ·rw [Bool.or_eq_false_iff]at hm
  obtain⟨e1,e2⟩:=h.still hm.1
  obtain⟨f1,f2⟩:=hs.still hm.2
  refine⟨by rw [f1,e1],fun j r' hj hr'=> ?_⟩
  by_cases ej:j=q
  ·subst ej
   rw [hr]at hr'
   injection hr' with hr'
   subst hr'
   intro k x hx hn
   obtain⟨x0,x1⟩:=hin hx
   have hkl:=(List.getElem?_eq_some_iff.1 hx).1
   obtain⟨a,b⟩:=f2 k x hkl hx hn
   rw [<-e1]
   refine⟨fun t ht=>famI_mk x0 x1 (a t ((line_beg hk).2 ht)),fun hall t ht=>famI_mk x0 x1 (b ((all_emp hk).2 hall) t (famI_in ht).2.2)⟩
  ·exact e2 j r' (by omega) hr'
 ·rw [Bool.or_eq_true]at hm
  rcases hm with hm|hm
  ·have:=h.grow hm;omega
  ·have:=g2 hm;omega
theorem HPass.closed {G:GramD} {st:Int} {M:Nat} {bh0 bh:Nat->Nat->Bool} {q:Nat} (h:HPass G st M bh0 q bh false) (hq:q=G.rules.length): ∀r∈G.rules,closedH G bh r:=fun r hr=>by
 obtain⟨e1,e2⟩:=h.still rfl
 obtain⟨j,hj,e⟩:=List.getElem_of_mem hr
 rw [e1]
 exact e2 j r (by omega) (by rw [List.getElem?_eq_getElem hj,e])
def startH (s i t:Nat):Bool:=decide (i=s)&&decide (t=0)
theorem startH_put {T s:Nat}:setF (fun _=>noBits) s (putSet (T+1) noBits 0)=startH s:=by
 funext i t
 unfold startH putSet noBits
 by_cases e:i=s
 ·subst e;rw [setF_same]
  by_cases ht:t=0
  ·subst ht;simp<;>omega
  ·simp [ht]
 ·rw [setF_ne e];simp [e]
theorem startH_sound {G:GramD} {st:Int} (hk:Kn G st):SoundH G st (startH st.toNat)/\famI (topN G) (startH st.toNat) st 0=true:=by
 have hs:=hk.st
 rw [isNon_iff]at hs
 refine⟨⟨fun s t h=> ?_⟩,famI_mk (by omega) (by unfold topN;omega) (by simp [startH])⟩
 obtain⟨h0,h1,h2⟩:=famI_in h
 unfold startH at h2
 simp only [Bool.and_eq_true,decide_eq_true_eq]at h2
 obtain⟨e1,rfl⟩:=h2
 rw [show s=st by omega]
 exact Beh.start
end
section
abbrev It:=Int×Int
def itLt (a b:It):Bool:=decide (a.1<b.1)||(decide (a.1=b.1)&&decide (a.2<b.2))
theorem itLt_iff {a b:It}:itLt a b=true↔a.1<b.1\/(a.1=b.1/\a.2<b.2):=by
 unfold itLt;simp
theorem itLt_not {a b:It}:itLt a b=false↔ ¬(a.1<b.1\/(a.1=b.1/\a.2<b.2)):=by
 rw [<-itLt_iff,Bool.not_eq_true]
theorem itLt_irr (a:It):itLt a a=false:=by rw [itLt_not];omega
theorem itLt_trans {a b c:It} (h1:itLt a b=true) (h2:itLt b c=true):itLt a c=true:=by
 rw [itLt_iff]at *;omega
theorem itLt_tri {a b:It} (h1:itLt a b=false) (h2:itLt b a=false):a=b:=by
 rw [itLt_not]at *
 exact Prod.ext (by omega) (by omega)
def StrictI (l:List It):Prop:=l.Pairwise (fun a b=>itLt a b=true)
theorem strict_unique: ∀{a b:List It},StrictI a->StrictI b->(∀x,x∈a↔x∈b)->a=b
 |[],[],_,_,_=>rfl
 |[],y::t,_,_,h=>absurd ((h y).2 (List.mem_cons_self ..)) (by simp)
 |x::r,[],_,_,h=>absurd ((h x).1 (List.mem_cons_self ..)) (by simp)
 |x::r,y::t,ha,hb,h=>by
  obtain⟨a1,a2⟩:=List.pairwise_cons.1 ha
  obtain⟨b1,b2⟩:=List.pairwise_cons.1 hb
  have e:x=y:=by
   rcases List.mem_cons.1 ((h x).1 (List.mem_cons_self ..))with e|e
   ·exact e
   ·rcases List.mem_cons.1 ((h y).2 (List.mem_cons_self ..))with e'|e'
    ·exact e'.symm
    ·have:=itLt_trans (a1 y e') (b1 x e)
     rw [itLt_irr]at this;cases this
  subst e
  rw [strict_unique a2 b2 fun z=> ?_]
  constructor
  ·intro hz
   rcases List.mem_cons.1 ((h z).1 (List.mem_cons_of_mem _ hz))with e|e
   ·subst e;have:=a1 z hz;rw [itLt_irr]at this;cases this
   ·exact e
  ·intro hz
   rcases List.mem_cons.1 ((h z).2 (List.mem_cons_of_mem _ hz))with e|e
   ·subst e;have:=b1 z hz;rw [itLt_irr]at this;cases this
   ·exact e
theorem StrictI.nodup {l:List It} (h:StrictI l):l.Nodup:=by
 refine List.Pairwise.imp (fun{a b} hab e=> ?_) h
 subst e;rw [itLt_irr]at hab;cases hab
def putI (x:It):List It->List It
 |[]=>[x]
 |y::r=>if itLt y x=true then y::putI x r else if y=x then y::r else x::y::r
theorem mem_putI {x z:It}: ∀{l:List It},z∈putI x l↔z=x\/z∈l
 |[]=>by simp [putI]
 |y::r=>by
  unfold putI
  split
  ·rw [List.mem_cons,mem_putI,List.mem_cons]
   constructor
   ·rintro(h|h|h)<;>simp [h]
   ·rintro(h|h|h)<;>simp [h]
  ·split
   ·rename_i _ e;subst e;simp
   ·simp
theorem strict_put {x:It}: ∀{l:List It},StrictI l->StrictI (putI x l)
 |[],_=>List.pairwise_singleton _ _
 |y::r,h=>by
  obtain⟨h1,h2⟩:=List.pairwise_cons.1 h
  unfold putI
  split
  ·rename_i hlt
   refine List.pairwise_cons.2 ⟨fun z hz=> ?_,strict_put h2⟩
   rcases mem_putI.1 hz with rfl|hz
   ·exact hlt
   ·exact h1 z hz
  ·rename_i hlt
   split
   ·exact h
   ·rename_i hne
    have hxy:itLt x y=true:=by
     cases e:itLt x y with
     |true=>rfl
     |false=>exact absurd (itLt_tri (by simpa using hlt) e) hne
    refine List.pairwise_cons.2 ⟨fun z hz=> ?_,h⟩
    rcases List.mem_cons.1 hz with rfl|hz
    ·exact hxy
    ·exact itLt_trans hxy (h1 z hz)
def canonI (l:List It):List It:=l.foldl (fun o x=>putI x o) []
theorem canon_from: ∀(l o:List It),StrictI o->StrictI (l.foldl (fun o x=>putI x o) o)/\ ∀z,z∈l.foldl (fun o x=>putI x o) o↔z∈l\/z∈o
 |[],o,h=>⟨h,fun z=>by simp⟩
 |x::r,o,h=>by
  obtain⟨h1,h2⟩:=canon_from r (putI x o) (strict_put h)
  refine⟨h1,fun z=> ?_⟩
  rw [List.foldl_cons,h2,mem_putI,List.mem_cons]
  constructor
  ·rintro(h|h|h)<;>simp [h]
  ·rintro((h|h)|h)<;>simp [h]
theorem canon_strict (l:List It):StrictI (canonI l):=(canon_from l [] List.Pairwise.nil).1
theorem mem_canon {l:List It} {z:It}:z∈canonI l↔z∈l:=by
 rw [show(z∈canonI l)=_ from rfl]
 unfold canonI
 rw [(canon_from l [] List.Pairwise.nil).2];simp
theorem canon_eq {l o:List It} (h:StrictI o) (hm: ∀z,z∈o↔z∈l):o=canonI l:=strict_unique h (canon_strict l) fun z=>by rw [hm,mem_canon]
theorem put_len (x:It): ∀l:List It,(putI x l).length<=l.length+1
 |[]=>by simp [putI]
 |y::r=>by
  unfold putI
  split
  ·have:=put_len x r;simp;omega
  ·split<;>simp
theorem canon_len (l:List It):(canonI l).length<=l.length:=by
 have: ∀(l o:List It),(l.foldl (fun o x=>putI x o) o).length<=l.length+o.length:=by
  intro l
  induction l with
  |nil=>intro o;simp
  |cons x r ih=>intro o;rw [List.foldl_cons];have:=ih (putI x o);have:=put_len x o;simp;omega
 have:=this l []
 simpa [canonI]using this
def WeakI (l:List It):Prop:=l.Pairwise (fun a b=>itLt b a=false)
def compI (l:List It):List It:=l.foldl (fun o x=>if o.getLast? =some x then o else o++[x]) []
theorem comp_snoc (l:List It) (x:It):compI (l++[x])=if(compI l).getLast? =some x then compI l else compI l++[x]:=by unfold compI;rw [List.foldl_append];rfl
theorem comp_last: ∀(l:List It),(compI l).getLast? =l.getLast? :=by
 intro l
 rcases List.eq_nil_or_concat l with rfl|⟨p,x,rfl⟩
 ·rfl
 ·rw [List.concat_eq_append,comp_snoc]
  split
  ·rename_i h;rw [h];simp
  ·simp
theorem comp_strict: ∀(n:Nat) (l:List It),l.length=n->WeakI l->StrictI (compI l)/\ ∀z,z∈compI l↔z∈l
 |0,l,hn,_=>by
  obtain rfl:=List.length_eq_zero_iff.1 hn
  exact⟨List.Pairwise.nil,fun z=>Iff.rfl⟩
 |n+1,l,hn,h=>by
  rcases List.eq_nil_or_concat l with rfl|⟨p,x,rfl⟩
  ·simp at hn
  ·rw [List.concat_eq_append]at hn h⊢
   obtain⟨h1,h2,h3⟩:=List.pairwise_append.1 h
   obtain⟨k1,k2⟩:=comp_strict n p (by simpa using hn) h1
   rw [comp_snoc]
   split
   ·rename_i e
    refine⟨k1,fun z=> ?_⟩
    rw [k2,List.mem_append,List.mem_singleton]
    refine⟨.inl,fun hz=>hz.elim id fun e'=> ?_⟩
    subst e'
    exact(k2 z).1 (List.mem_of_getLast? e)
   ·rename_i e
    refine⟨List.pairwise_append.2 ⟨k1,List.pairwise_singleton _ _,fun a ha b hb=> ?_⟩,fun z=>by rw [List.mem_append,k2,List.mem_append]⟩
    obtain rfl:=List.mem_singleton.1 hb
    have hle:=h3 a ((k2 a).1 ha) b (by simp)
    cases e1:itLt a b with
    |true=>rfl
    |false=>
     exfalso
     have hab:=itLt_tri e1 hle
     subst hab
     -- a stands in compI p,and is the greatest of them:so it is the last
     obtain⟨q,y,hq⟩: ∃q y,compI p=q++[y]:=by
      rcases List.eq_nil_or_concat (compI p)with hq|⟨q,y,hq⟩
      ·rw [hq]at ha;cases ha
      ·exact⟨q,y,by rw [hq,List.concat_eq_append]⟩
     rw [hq]at ha e k1
     have hy:y≠a:=fun e'=>e (by rw [e'];simp)
     rcases List.mem_append.1 ha with ha'|ha'
     ·have h4:=(List.pairwise_append.1 k1).2.2 a ha' y (by simp)
      have h5:=h3 y ((k2 y).1 (by rw [hq];simp)) a (by simp)
      rw [h4]at h5;cases h5
     ·exact hy (List.mem_singleton.1 ha').symm
theorem comp_canon {l o:List It} (h:WeakI o) (hm: ∀z,z∈o↔z∈l):compI o=canonI l:=by
 obtain⟨h1,h2⟩:=comp_strict _ o rfl h
 exact canon_eq h1 fun z=>by rw [h2,hm]
theorem comp_next {l:List It} {r:Nat} {x y:It} (hy:l[r]? =some y) (hx:l[r+1]? =some x):compI (l.take (r+2))=if y=x then compI (l.take (r+1))else compI (l.take (r+1))++[x]:=by
 have h1:l.take (r+1+1)=l.take (r+1)++[x]:=by rw [List.take_add_one,hx];rfl
 have h2:l.take (r+1)=l.take r++[y]:=by rw [List.take_add_one,hy];rfl
 rw [show r+2=r+1+1 from rfl,h1,comp_snoc,comp_last]
 have:(l.take (r+1)).getLast? =some y:=by rw [h2];simp
 rw [this]
 by_cases e:y=x
 ·rw [if_pos e,if_pos (by rw [e])]
 ·rw [if_neg e,if_neg (fun h=>e (by injection h))]
theorem comp_first {l:List It}:compI (l.take 1)=l.take 1:=by
 cases l with
 |nil=>rfl
 |cons x r=>rfl
theorem comp_short {l:List It} (h:l.length<2):compI l=l:=by
 match l,h with
 |[],_=>rfl
 |[x],_=>rfl
def rightI (G:GramD) (st:Int) (x:It):Bool:=(ruleOf G st x.1).2&&(decide (0<=x.2)&&decide (x.2<=(ruleOf G st x.1).1.2.length))
def behindI (G:GramD) (st:Int) (x:It):Int×Bool:=if rightI G st x=true/\x.2<(ruleOf G st x.1).1.2.length then(((ruleOf G st x.1).1.2[x.2.toNat]?).getD 0,true)else(0,false)
inductive Cl (G:GramD) (st:Int) (l:List It):It->Prop
 |base (x:It):x∈l->rightI G st x=true->Cl G st l x
 |next (y:It) (s k:Int):Cl G st l y->behindI G st y=(s,true)->k∈ofOf G s->Cl G st l (k,0)
def stepsI (G:GramD) (st:Int) (l:List It) (s:Int):List It:=(l.filter fun x=>decide (behindI G st x=(s,true))).map fun x=>(x.1,x.2+1)
theorem ruleOf_nat {G:GramD} {st:Int} {n:Nat} {r:Int×List Int} (h:G.rules[n]? =some r):ruleOf G st n=(r,true):=by
 have hn:=(List.getElem?_eq_some_iff.1 h).1
 unfold ruleOf
 rw [if_neg (by omega),if_neg (by omega),Int.toNat_natCast,h];rfl
theorem right_new {G:GramD} {st s k:Int} (h:k∈ofOf G s):rightI G st (k,0)=true:=by
 obtain⟨n,x,rfl,hx⟩:=of_mem.1 h
 unfold rightI
 rw [ruleOf_nat hx]
 simp
theorem new_low {G:GramD} {s k:Int} (h:k∈ofOf G s):0<=k/\k<G.rules.length:=by
 obtain⟨n,x,rfl,hx⟩:=of_mem.1 h
 have:=(List.getElem?_eq_some_iff.1 hx).1
 omega
theorem behind_right {G:GramD} {st:Int} {x:It} {s:Int} (h:behindI G st x=(s,true)):rightI G st x=true/\x.2<(ruleOf G st x.1).1.2.length/\(ruleOf G st x.1).1.2[x.2.toNat]? =some s:=by
 unfold behindI at h
 split at h
 ·rename_i h1
  refine⟨h1.1,h1.2,?_⟩
  injection h with h _
  have h0:=h1.1
  unfold rightI at h0
  simp only [Bool.and_eq_true,decide_eq_true_eq]at h0
  have hlt:x.2.toNat<(ruleOf G st x.1).1.2.length:=by omega
  rw [List.getElem?_eq_getElem hlt]at h⊢
  simp at h
  rw [h]
 ·injection h with _ h;cases h
theorem step_right {G:GramD} {st:Int} {x:It} {s:Int} (h:behindI G st x=(s,true)):rightI G st (x.1,x.2+1)=true/\0<x.2+1:=by
 obtain⟨h1,h2,-⟩:=behind_right h
 unfold rightI at h1⊢
 simp only [Bool.and_eq_true,decide_eq_true_eq]at h1⊢
 exact⟨⟨h1.1,by omega,by omega⟩,by omega⟩
structure IsCl (G:GramD) (st:Int) (l o:List It):Prop where
 strict:StrictI o
 mem: ∀z,z∈o↔Cl G st l z
theorem steps_mem {G:GramD} {st:Int} {l:List It} {s:Int} {z:It} (h:z∈stepsI G st l s):rightI G st z=true/\0<z.2:=by
 unfold stepsI at h
 obtain⟨x,hx,rfl⟩:=List.mem_map.1 h
 exact step_right (of_decide_eq_true (List.mem_filter.1 hx).2)
theorem take_snoc {l:List It} {k:Nat} {x:It} (h:l[k]? =some x):l.take (k+1)=l.take k++[x]:=by
 rw [List.take_add_one,h];rfl
theorem steps_len (G:GramD) (st:Int) (l:List It) (s:Int):(stepsI G st l s).length<=l.length:=by
 unfold stepsI;rw [List.length_map];exact List.length_filter_le _ _
def ShortG (G:GramD) (st:Int):Prop:= ∀i,(ruleOf G st i).1.2.length<=1000
def allIt (G:GramD) (st:Int):List It:=(List.range (G.rules.length+1)).flatMap fun(i:Nat)=>(List.range ((ruleOf G st (i:Int)).1.2.length+1)).map fun(d:Nat)=>(((i:Int),(d:Int)):It)
theorem mem_allIt {G:GramD} {st:Int} {x:It} (h:rightI G st x=true):x∈allIt G st:=by
 unfold rightI at h
 simp only [Bool.and_eq_true,decide_eq_true_eq]at h
 obtain⟨h1,h2,h3⟩:=h
 have hr:0<=x.1/\x.1<=G.rules.length:=by
  unfold ruleOf at h1
  split at h1
  ·cases h1
  ·omega
 unfold allIt
 rw [List.mem_flatMap]
 refine⟨x.1.toNat,List.mem_range.2 (by omega),?_⟩
 rw [Int.toNat_of_nonneg hr.1,List.mem_map]
 exact⟨x.2.toNat,List.mem_range.2 (by omega),Prod.ext rfl (Int.toNat_of_nonneg h2)⟩
def missI (G:GramD) (st:Int) (o:List It):Nat:=((allIt G st).filter fun x=>decide (x∉o)).length
theorem filter_len_lt {l:List It} {p q:It->Bool} (h: ∀x,p x=true->q x=true) {a:It} (ha:a∈l) (h1:q a=true) (h2:p a=false):(l.filter p).length<(l.filter q).length:=by
 induction l with
 |nil=>cases ha
 |cons y r ih=>
  have hle:(r.filter p).length<=(r.filter q).length:=by
   clear ih ha
   induction r with
   |nil=>exact Nat.le_refl _
   |cons z t ih=>
    rw [List.filter_cons,List.filter_cons]
    cases hp:p z with
    |true=>rw [h z hp];simp;omega
    |false=>cases q z<;>simp<;>omega
  rw [List.filter_cons,List.filter_cons]
  rcases List.mem_cons.1 ha with e|e
  ·subst e;rw [h1,h2];simp;omega
  ·have:=ih e
   cases hp:p y with
   |true=>rw [h y hp];simp;omega
   |false=>cases q y<;>simp<;>omega
theorem miss_lt {G:GramD} {st:Int} {o o':List It} (h: ∀x∈o,x∈o') {a:It} (ha:rightI G st a=true) (h1:a∉o) (h2:a∈o'):missI G st o'<missI G st o:=by
 unfold missI
 exact filter_len_lt (fun x hx=>by rw [decide_eq_true_eq]at hx⊢;exact fun hh=>hx (h x hh)) (mem_allIt ha) (by simpa using h1) (by simpa using h2)
theorem all_len {G:GramD} {st:Int} (hs:ShortG G st) (hr:G.rules.length<=300):(allIt G st).length<=400000:=by
 have key: ∀n:Nat,((List.range n).flatMap fun(i:Nat)=>(List.range ((ruleOf G st (i:Int)).1.2.length+1)).map fun(d:Nat)=>(((i:Int),(d:Int)):It)).length<=n * 1001:=by
  intro n
  induction n with
  |zero=>simp
  |succ n ih=>
   rw [List.range_succ,List.flatMap_append,List.length_append]
   have:=hs (n:Int)
   simp only [List.flatMap_cons,List.flatMap_nil,List.append_nil,List.length_map,List.length_range]at ih⊢
   omega
 have:=key (G.rules.length+1)
 unfold allIt
 omega
end
section
open Go.Sort
end
section
open Go.RowKit
def itCells:List It->List Value
 |[]=>[]
 |x::r=>I64 x.1::I64 x.2::itCells r
theorem itCells_length: ∀l:List It,(itCells l).length=l.length * 2
 |[]=>rfl
 |x::r=>by simp [itCells,itCells_length r];omega
theorem itCells_append: ∀a b:List It,itCells (a++b)=itCells a++itCells b
 |[],b=>rfl
 |x::r,b=>by simp [itCells,itCells_append r b]
theorem itCells_get: ∀{l:List It} {k:Nat} {x:It},l[k]? =some x->(itCells l)[k * 2]? =some (I64 x.1)/\(itCells l)[k * 2+1]? =some (I64 x.2)
 |[],k,x,h=>by simp at h
 |y::r,0,x,h=>by simp at h;subst h;exact⟨rfl,rfl⟩
 |y::r,k+1,x,h=>by
  have:=itCells_get (l:=r) (k:=k) (x:=x) (by simpa using h)
  rw [show(k+1) * 2=k * 2+1+1 by omega]
  simpa [itCells]using this
theorem itCells_one (l:List It): ∀u∈itCells l,u.oneCell'=true:=by
 induction l with
 |nil=>simp [itCells]
 |cons x r ih=>
  intro u hu
  simp only [itCells,List.mem_cons]at hu
  rcases hu with rfl|rfl|hu
  ·rfl
  ·rfl
  ·exact ih u hu
theorem itCells_at {l:List It} {j:Nat} {u:Value} (h:(itCells l)[j]? =some u): ∃k x,l[k]? =some x/\((j=k * 2/\u=I64 x.1)\/(j=k * 2+1/\u=I64 x.2)):=by
 induction l generalizing j with
 |nil=>simp [itCells]at h
 |cons y r ih=>
  match j,h with
  |0,h=>simp [itCells]at h;exact⟨0,y,rfl,.inl ⟨rfl,h.symm⟩⟩
  |1,h=>simp [itCells]at h;exact⟨0,y,rfl,.inr ⟨rfl,h.symm⟩⟩
  |j+2,h=>
   simp [itCells]at h
   obtain⟨k,x,h1,h2⟩:=ih h
   refine⟨k+1,x,by simpa using h1,?_⟩
   rcases h2 with⟨e1,e2⟩|⟨e1,e2⟩
   ·exact .inl ⟨by omega,e2⟩
   ·exact .inr ⟨by omega,e2⟩
abbrev RdIt (w:World) (F:Nat->Prop) (v:Value) (l:List It):Prop:=Rd w F v 2 (itCells l)
theorem RdIt.at_ {w:World} {F:Nat->Prop} {A:Option Addr} {n c:Nat} {l:List It} (h:RdIt w F (.slice A n c) l):n=l.length/\n<=c/\c<=maxLen/\(0<n-> ∃b off,A=some ⟨b,off,none⟩/\F b/\ ∀k x,l[k]? =some x->w.cell? ⟨b,off+k * 2,none⟩=some (.int .i64 x.1)/\w.cell? ⟨b,off+k * 2+1,none⟩=some (.int .i64 x.2)):=by
 obtain⟨A',n',c',hv,h1,h2,hl,hr⟩:=h
 injection hv with e1 e2 e3
 subst e1 e2 e3
 rw [itCells_length]at hl
 refine⟨by omega,h1,h2,fun hn=> ?_⟩
 obtain⟨b,off,hA,hF,hc⟩:=hr hn
 refine⟨b,off,hA,hF,fun k x hx=> ?_⟩
 obtain⟨k1,k2⟩:=itCells_get hx
 exact⟨hc _ _ k1,by rw [Nat.add_assoc];exact hc _ _ k2⟩
theorem RdIt.mk {w:World} {F:Nat->Prop} {b off n c:Nat} {l:List It} (hn:n=l.length) (hc:n<=c) (hm:c<=maxLen) (hF:F b) (h: ∀k x,l[k]? =some x->w.cell? ⟨b,off+k * 2,none⟩=some (.int .i64 x.1)/\w.cell? ⟨b,off+k * 2+1,none⟩=some (.int .i64 x.2)):RdIt w F (.slice (some ⟨b,off,none⟩) n c) l:=by
 refine⟨_,_,_,rfl,hc,hm,by rw [itCells_length,hn],fun _=>⟨b,off,rfl,hF,fun j u hu=> ?_⟩⟩
 obtain⟨k,x,hx,h2|h2⟩:=itCells_at hu
 ·rw [h2.1,h2.2];exact(h k x hx).1
 ·rw [h2.1,h2.2,<-Nat.add_assoc];exact(h k x hx).2
theorem RdIt.one {w:World} {e:TypeId} (x:It):RdIt (w.alloc (.cells #[.int .i64 x.1,.int .i64 x.2] e)) (fun b=>b=w.heap.size) (.slice (some ⟨w.heap.size,0,none⟩) 1 1) [x]:=Rd.one' (w:=w) (e:=e) [I64 x.1,I64 x.2] 2 rfl
section
open Go.ChangeShapes Go.WideShapes Go.ChangeAt Go.RowKit Go.Deep
variable {H : Type} {enc : TypeId × Value -> H} {w : World} {sp : Nat -> Bool}
end
def WfI (x:It):Prop:=(-9223372036854775808<=x.1/\x.1<=9223372036854775807)/\(-9223372036854775808<=x.2/\x.2<=9223372036854775807)
end
section
open Go.RowKit
attribute [local irreducible] wpStill wpOne wpPh
abbrev ItV (x:It):Value:= .agg #[.int .i64 x.1,.int .i64 x.2]
theorem behind_no {G:GramD} {st a d:Int} (h:(ruleOf G st a).2=false\/d<0\/((ruleOf G st a).1.2.length:Int)<=d):behindI G st (a,d)=(0,false):=by
 unfold behindI rightI
 rw [if_neg]
 rintro⟨h1,h2⟩
 simp only [Bool.and_eq_true,decide_eq_true_eq]at h1 h2
 rcases h with h|h|h
 ·rw [h]at h1;exact absurd h1.1 (by simp)
 ·omega
 ·omega
theorem behind_yes {G:GramD} {st a:Int} {k:Nat} {s:Int} (h:(ruleOf G st a).2=true) (hs:(ruleOf G st a).1.2[k]? =some s):behindI G st (a,(k:Int))=(s,true):=by
 have hk:=(List.getElem?_eq_some_iff.1 hs).1
 unfold behindI rightI
 rw [if_pos,Int.toNat_natCast,hs];rfl
 simp only [h,Bool.true_and,Bool.and_eq_true,decide_eq_true_eq]
 omega
def mayB (G:GramD) (st:Int):Bool:=decide (checkOf G st=0)
set_option maxRecDepth 100000 in
set_option maxHeartbeats 2000000 in
theorem item_may {w:World} {F:Nat->Prop} {vt vn vr:Value} {G:GramD} (h:IsGram w F vt vn vr G) (st:Int):
  Calls Tryz.prog 157 #[GV vt vn vr st] w (Quiet w (.bool (mayB G st))):=by
 obtain⟨A1,c1,A2,c2,A3,c3,rfl,rfl,rfl,-⟩:=h.slices
 obtain⟨w1,hw1⟩: ∃w1,w1=w.alloc (.cells #[.slice A1 G.terms.length c1,.slice A2 G.nons.length c2,.slice A3 G.rules.length c3,.int .i64 st] 25):=⟨_,rfl⟩
 have g1:=GBox.new h st
 have b1:Below w.heap.size w w1:=by rw [hw1];exact(Below.refl _ w).alloc (Nat.le_refl _) _
 rw [<-hw1]at g1
 have hc:=gram_check g1.gram st
 have hm:mayB G st=decide (checkOf G st=0):=rfl
 obtain⟨q0,q1,q2,q3⟩:=g1.cells
 generalize checkOf G st=cz at *
 generalize G.terms.length=T at *
 generalize G.nons.length=N at *
 generalize G.rules.length=R at *
 rw [hw1]at hc q0 q1 q2 q3
 obtain⟨Xhc,Xb1,Xg1,Xh,Xhm⟩:=HqZ5 hc b1 g1 h hm;clear hc b1 g1 h hm
 go_enter Tryz.func157,Tryz.ntmps157
 go_wp2_with fail
 with_reducible refine Xhc.out.mono ?_
 rintro e w2 ⟨rfl,b2⟩
 rw [<-hw1]at b2
 clear hw1 q0 q1 q2 q3
 have hb2:=Xb1.out.trans (b2.mono Xb1.out.size)
 by_cases hz:cz=0
 ·subst hz
  go_wp2_with fail
  go_ret
  exact⟨ret_bool (by rw [Xhm.out];rfl),hb2⟩
 ·have hz':(cz==0)=false:=by simpa using hz
  go_wp2_with fail
  go_ret
  exact⟨ret_bool (by rw [Xhm.out,decide_eq_false hz]),hb2⟩
end
section
open Go.RowKit
attribute [local irreducible] wpStill wpOne wpPh
def ItPost (w:World) (l:List It) (e:Ending) (w':World):Prop:= ∃A n c,e= .returned (.slice A n c)/\RdIt w' (fun b=>w.heap.size<=b/\b<w'.heap.size) (.slice A n c) l/\Below w.heap.size w w'
theorem ItPost.nil {w w':World} (h:Below w.heap.size w w'):ItPost w [] (.returned (.slice none 0 0)) w':=⟨none,0,0,rfl,Rd.nil _ _ _,h⟩
set_option maxRecDepth 100000 in
set_option maxHeartbeats 2000000 in
theorem item_Begin {w:World} {F:Nat->Prop} {vt vn vr:Value} {G:GramD} (h:IsGram w F vt vn vr G) (st:Int):
  Calls Tryz.prog 78 #[GV vt vn vr st] w (ItPost w (if mayB G st=true then [((G.rules.length:Int),0)]else [])):=by
 obtain⟨A1,c1,A2,c2,A3,c3,rfl,rfl,rfl,-⟩:=h.slices
 obtain⟨w1,hw1⟩: ∃w1,w1=w.alloc (.cells #[.slice A1 G.terms.length c1,.slice A2 G.nons.length c2,.slice A3 G.rules.length c3,.int .i64 st] 25):=⟨_,rfl⟩
 have g1:=GBox.new h st
 have b1:Below w.heap.size w w1:=by rw [hw1];exact(Below.refl _ w).alloc (Nat.le_refl _) _
 rw [<-hw1]at g1
 have hc:=item_may g1.gram st
 obtain⟨q0,q1,q2,q3⟩:=g1.cells
 generalize mayB G st=mb at *
 generalize G.terms.length=T at *
 generalize G.nons.length=N at *
 generalize G.rules.length=R at *
 obtain⟨rs,hrs⟩: ∃r,r=(if mb=true then [((R:Int),(0:Int))]else []):=⟨_,rfl⟩
 rw [<-hrs]
 rw [hw1]at hc q0 q1 q2 q3
 obtain⟨Xhc,Xb1,Xg1,Xh,Xhrs⟩:=HqZ5 hc b1 g1 h hrs;clear hc b1 g1 h hrs
 go_enter Tryz.func78,Tryz.ntmps78
 go_wp2_with fail
 with_reducible refine Xhc.out.mono ?_
 rintro e w2 ⟨rfl,b2⟩
 rw [<-hw1]at b2
 have g2:=Xg1.out.below b2
 have hb2:=Xb1.out.trans (b2.mono Xb1.out.size)
 clear hw1 q0 q1 q2 q3 Xhc Xb1 Xg1 b2
 obtain⟨q0,q1,q2,q3⟩:=g2.cells
 cases mb with
 |false=>
  obtain⟨Xhb2,Xg2⟩:=HqZ2 hb2 g2;clear hb2 g2
  go_wp2_with fail
  go_ret
  rw [Xhrs.out]
  exact ItPost.nil Xhb2.out
 |true=>
  obtain⟨Xhb2,Xg2⟩:=HqZ2 hb2 g2;clear hb2 g2
  go_wp2_with fail
  go_ret
  rw [Xhrs.out]
  exact⟨_,_,_,rfl,Rd.mono (RdIt.one (w:=w2) (e:=226) ((R:Int),0)) (fun b e=>by rw [e];exact⟨Xhb2.out.size,by simp⟩),Xhb2.out.alloc Xhb2.out.size _⟩
theorem Tryz.fieldsItem:Tryz.prog.underlying 226=some (.struct (Tryz.prog.fieldsOf 226)):=by kernel_rfl
theorem Tryz.stoodItem:Tryz.prog.stoodInHeld 226=false:=by kernel_rfl
theorem Tryz.guardItem:Tryz.prog.eqGuardType Tryz.prog.depth 226=false:=by kernel_rfl
theorem eql_item (a b c d:Int) (w:World):Sem.run Tryz.prog (binOp .eql 226 (.agg #[.int .i64 a,.int .i64 b]) (.agg #[.int .i64 c,.int .i64 d])) w= .ok (.bool (decide (((a,b):It)=(c,d)))) w:=by
 have u3:=Tryz.underlying3
 have hS:=Tryz.fieldsItem
 have hp:=Tryz.stoodItem
 rw [run_eql_struct,show(10000:Nat)=9999+1 from rfl,run_equalIn_agg w 9999 226 _ _ hS hp]
 simp only [Program.fieldsOf,Tryz.underlying226]
 have a3:=Tryz.isAgg3
 have z3:=Tryz.sizeOf3
 go_simp
 by_cases h1:a=c<;>by_cases h2:b=d<;>simp [h1,h2]
theorem neq_item (a b c d:Int) (w:World):Sem.run Tryz.prog (binOp .neq 226 (.agg #[.int .i64 a,.int .i64 b]) (.agg #[.int .i64 c,.int .i64 d])) w= .ok (.bool (!decide (((a,b):It)=(c,d)))) w:=by
 have h:=eql_item a b c d w
 rw [run_eql_struct]at h
 rw [run_neq_struct]
 generalize Sem.run Tryz.prog (Op.equalIn 10000 226 (.agg #[.int .i64 a,.int .i64 b]) (.agg #[.int .i64 c,.int .i64 d])) w=r at h⊢
 cases r<;>simp_all [Result.andThen]
theorem guard_item (op:BinOp) (p q:Operand) (x y:It) (w:World):(eqGuard op 226 p q (ItV x) (ItV y)).run Tryz.prog w= .ok () w:=run_eqGuard_agg w op 226 p q _ _ Tryz.guardItem
end
section
open Go.RowKit
attribute [local irreducible] wpStill wpOne wpPh
theorem boxes_it {w:World} (a b c d:Int): ∃w2,w2=(w.alloc (.cells #[.int .i64 a,.int .i64 b] 226)).alloc (.cells #[.int .i64 c,.int .i64 d] 226)/\Blk w2 w.heap.size 226 #[.int .i64 a,.int .i64 b]/\Blk w2 (w.heap.size+1) 226 #[.int .i64 c,.int .i64 d]/\Below w.heap.size w w2:=by
 obtain⟨w1,hw1⟩: ∃w1,w1=w.alloc (.cells #[.int .i64 a,.int .i64 b] 226):=⟨_,rfl⟩
 have hs:w1.heap.size=w.heap.size+1:=by rw [hw1];simp
 have k1:Blk w1 w.heap.size 226 #[.int .i64 a,.int .i64 b]:=by rw [hw1];exact Blk.new _ _ _
 have b1:Below w.heap.size w w1:=by rw [hw1];exact(Below.refl _ w).alloc (Nat.le_refl _) _
 have b2:Below w1.heap.size w1 (w1.alloc (.cells #[.int .i64 c,.int .i64 d] 226)):=(Below.refl _ _).alloc (Nat.le_refl _) _
 refine⟨_,rfl,?_,?_,?_⟩
 ·rw [<-hw1];exact k1.below b2 k1.lt
 ·rw [<-hw1,<-hs];exact Blk.new _ _ _
 ·rw [<-hw1];exact b1.trans (b2.mono b1.size)
end
end Go.Proofs.YthlbjgabhpdbfaaGreat

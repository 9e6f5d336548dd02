/- A region that draws, in phases: reads in whatever order, then one operation that the rest waits for, and so on. Of no program. No condition. -/
import Derived.Test.YtalbfonkhpeajaaGreatHBase
import Derived.OrdersHeld
namespace Go.Proofs.YtalbfonkhpeajaaGreat
set_option linter.unusedVariables false
section
section
variable {P : Program} {ops : Array Oper} {md : Region.Mode}
theorem tk {Q:Exit→Act→World→Prop} {S:World→Prop} {i:Nat} {oi:Oper} {v:Value} {fuel:Nat} {listed:Array Bool} {a:Act} {w:World} (hi:ops[i]? =some oi)
  (hb:(Region.noSelect ops&&(Region.free md ops listed i&&(Region.ready md ops listed).contains i))=true)
  (hQ: ∀c a w,Q (.panic c) (a.put oi.dst v) w→Q (.panic c) a w) (hy:YieldsIf P ops S oi v a) (hS:S w)
  (h:wpAnyH P md ops Q S fuel (listed.setIfInBounds i true) (a.put oi.dst v) w):wpAnyH P md ops Q S (fuel+1) listed a w:=by
 rw [Bool.and_eq_true,Bool.and_eq_true]at hb
 exact wpAnyH_take hi hb.1 hb.2.1 hb.2.2 hQ hy hS h
theorem gT {α:Type} (l:List α) (i:Nat):l.toArray[i]? =l[i]? :=List.getElem?_toArray
theorem gs {α:Type} (a:α) (l:List α) (i:Nat):(a::l)[i+1]? =l[i]? :=List.getElem?_cons_succ
theorem gz {α:Type} (a:α) (l:List α):(a::l)[0]? =some a:=List.getElem?_cons_zero
theorem sT {α:Type} (l:List α) (i:Nat) (a:α):l.toArray.setIfInBounds i a=(l.set i a).toArray:=List.setIfInBounds_toArray ..
theorem s0 {α:Type} (a b:α) (l:List α):(a::l).set 0 b=b::l:=List.set_cons_zero
theorem s1 {α:Type} (a b:α) (l:List α) (i:Nat):(a::l).set (i+1) b=a::l.set i b:=List.set_cons_succ
def sinkS (md:Region.Mode) (ops:Array Oper) (s n:Nat):Bool:=
 (List.range n).all fun i=>decide (i<s)||(List.range (n+1)).any fun j=>decide (i<j)&&Region.waitsFor md ops j i
def depB (md:Region.Mode) (ops:Array Oper) (n:Nat):Bool:=
 (List.range ops.size).all fun t=>decide (t≤n)||(List.range t).any fun i=>decide (n≤i)&&Region.waitsFor md ops t i
structure PhInv (ops:Array Oper) (s:Nat) (listed:Array Bool):Prop where
 size:listed.size=ops.size
 low: ∀j,j<s→j<ops.size→listed.getD j false=true
 high: ∀t,s≤t→t<ops.size→listed.getD t true=false
theorem tail_waits' {w:World} {s n:Nat} {listed:Array Bool} (hs:sinkS md ops s n=true) (hc:depB md ops n=true) (hn:n<ops.size) (inv:HeadInv md ops n listed):
  ∀(d i:Nat),n - i=d→s≤i→i<n→listed.getD i true=false→ ∀t,n≤t→t∉Region.ready md ops listed:=by
 intro d
 induction d using Nat.strongRecOn with
 |_ d ih=>
  intro i hd hsi hi hun t ht hr
  obtain⟨_,ot,hot,hall⟩:=mem_ready.1 hr
  have htlt:t<ops.size:=(Array.getElem?_eq_some_iff.1 hot).1
  by_cases htn:t=n
  ·subst htn
   have h1:=List.all_eq_true.1 hs i (List.mem_range.2 hi)
   rw [Bool.or_eq_true]at h1
   rcases h1 with h1|h1
   ·have:=of_decide_eq_true h1;omega
   obtain⟨j,hj,hj2⟩:=List.any_eq_true.1 h1
   simp only [Bool.and_eq_true,decide_eq_true_eq]at hj2
   obtain⟨oj,hoj,e,he,hb,hon⟩:=Region.waitsFor_spec hj2.2
   have hjle:j≤t:=by have:=List.mem_range.1 hj;omega
   by_cases hjt:j=t
   ·subst hjt
    have:oj=ot:=Option.some.inj (hoj.symm.trans hot)
    subst this
    have h2:=hall e he hb
    rw [hon,getD_both hun]at h2
    cases h2
   ·cases hl:listed.getD j false with
    |true=>
     have h2:=inv.closed j oj hoj hl e he hb
     rw [hon,getD_both hun]at h2
     cases h2
    |false=>
     have hjs:j<listed.size:=by rw [inv.size];omega
     exact ih (t - j) (by omega) j rfl (by omega) (by omega) (getD_in hjs hl) t (Nat.le_refl _) hr
  ·have h1:=List.all_eq_true.1 hc t (List.mem_range.2 htlt)
   simp only [Bool.or_eq_true,decide_eq_true_eq]at h1
   rcases h1 with h1|h1
   ·omega
   ·obtain⟨j,hj,hj2⟩:=List.any_eq_true.1 h1
    simp only [Bool.and_eq_true,decide_eq_true_eq]at hj2
    obtain⟨o',ho',e,he,hb,hon⟩:=Region.waitsFor_spec hj2.2
    have:o'=ot:=Option.some.inj (ho'.symm.trans hot)
    subst this
    have h2:=hall e he hb
    have hjt:=List.mem_range.1 hj
    rw [hon,getD_both (inv.tail j (by omega) (by omega))]at h2
    cases h2
theorem wpAnyL_first' {w:World} {s n i:Nat} {oi:Oper} {v:Value} {L:Array Bool→Act→Prop} (hi:ops[i]? =some oi) (hsel: ∀(j:Nat) (o:Oper) cs b,ops[j]? =some o→o.op≠ .select cs b)
  (hs:sinkS md ops s n=true) (hc:depB md ops n=true) (hn:n<ops.size) (hin:i<n) (hsi:s≤i)
  (hdone: ∀listed a,L listed a→ ∀j∈Region.ready md ops listed,n≤j):
  ∀(f:Nat) (listed:Array Bool) (a:Act),HeadInv md ops n listed→
   (∀j oj,ops[j]? =some oj→j≠i→listed.getD j true=false→(∀e∈oj.after,Region.binds md e=true→e.on≠i)→oi.apart ops oj=true)→
   i∈Region.ready md ops listed→YieldsAt P ops w oi v a→
   wpAnyL P md ops w n L f (listed.setIfInBounds i true) (a.put oi.dst v)→wpAnyL P md ops w n L (f+1) listed a:=by
 intro f
 induction f with
 |zero=>
  intro listed a inv _ hr hy H
  have hun:=(mem_ready.1 hr).1
  refine⟨fun h=>(by rw [h]at hr;cases hr),fun j hj=> ?_⟩
  have hjn:j<n:=by
   rcases Nat.lt_or_ge j n with h|h
   ·exact h
   ·exact absurd hj (tail_waits' (w:=w) hs hc hn inv _ i rfl hsi hin hun j h)
  refine⟨hjn,?_⟩
  by_cases hji:j=i
  ·subst hji;exact hy.stOp hi H
  ·have:=hdone _ _ H j (ready_mono hj hji)
   omega
 |succ f ih=>
  intro listed a inv hfree hr hy H
  have hun:=(mem_ready.1 hr).1
  refine⟨fun h=>(by rw [h]at hr;cases hr),fun j hj=> ?_⟩
  have hjn:j<n:=by
   rcases Nat.lt_or_ge j n with h|h
   ·exact h
   ·exact absurd hj (tail_waits' (w:=w) hs hc hn inv _ i rfl hsi hin hun j h)
  refine⟨hjn,?_⟩
  by_cases hji:j=i
  ·subst hji;exact hy.stOp hi H
  ·have h1:=(H.2 j (ready_mono hj hji)).2
   obtain⟨hjun,oj,hoj,hall⟩:=mem_ready.1 hj
   have hnot: ∀e∈oj.after,Region.binds md e=true→e.on≠i:=fun e he hb heq=>by
    have h1:=hall e he hb
    rw [heq,getD_both hun]at h1
    cases h1
   have h2:=stOp_put hoj (hfree j oj hoj hji hjun hnot) (fun cs b=>hsel i oi cs b hi) (fun cs b=>hsel j oj cs b hoj) hy h1
   have hfree': ∀k ok,ops[k]? =some ok→k≠i→(listed.setIfInBounds j true).getD k true=false→
     (∀e∈ok.after,Region.binds md e=true→e.on≠i)→oi.apart ops ok=true:=fun k ok hk hki hun hno=>by
    refine hfree k ok hk hki ?_ hno
    by_cases hjk:j=k
    ·subst hjk;exact hjun
    ·rw [getD_set_ne true hjk]at hun;exact hun
   refine stOp_mono (fun a' h3=>ih (listed.setIfInBounds j true) a' (inv.set hj hjn) hfree' (ready_mono hr (Ne.symm hji)) h3.1 ?_) h2
   rw [Array.setIfInBounds_comm _ _ hji]
   exact h3.2
def rdB (md:Region.Mode) (ops:Array Oper):Nat→Nat→Array Bool→Bool
 |0,_,_=>true
 |m+1,k,listed=>(Region.ready md ops listed).contains k&&Region.free md ops listed k&&rdB md ops m (k+1) (listed.setIfInBounds k true)
def setN:Nat→Nat→Array Bool→Array Bool
 |0,_,listed=>listed
 |m+1,k,listed=>setN m (k+1) (listed.setIfInBounds k true)
def phB (md:Region.Mode) (ops:Array Oper):List Nat→Nat→Array Bool→Bool
 |[],k,listed=>Region.seqB md ops (ops.size - k) k listed
 |m::ms,k,listed=>decide (k+m<ops.size)&&sinkS md ops k (k+m)&&depB md ops (k+m)&&rdB md ops m k listed&&decide (Region.ready md ops (setN m k listed)=[k+m])&&
  phB md ops ms (k+m+1) ((setN m k listed).setIfInBounds (k+m) true)
theorem wpAnyL_lex' {w:World} {s n:Nat} {Lq:Act→Prop} (hsel:Region.noSelect ops=true) (hs:sinkS md ops s n=true) (hc:depB md ops n=true) (hn:n<ops.size) (l2:Array Bool) (hl2:Region.ready md ops l2=[n]):
  ∀(l:List Oper) (k:Nat) (listed:Array Bool) (a:Act),(∀j,j<l.length→l[j]? =ops[k+j]?)→k+l.length=n→s≤k→HeadInv md ops n listed→setN l.length k listed=l2→
  rdB md ops l.length k listed=true→wpStill P ops w Lq l a→
  wpAnyL P md ops w n (fun listed' a'=>listed'=l2∧Lq a') l.length listed a
 |[],k,listed,a,_,hk,_,_,he,hB,h=>⟨he,h⟩
 |o::l,k,listed,a,hl,hk,hsk,inv,he,hB,h=>by
  have h0:ops[k]? =some o:=by simpa using(hl 0 (by simp)).symm
  simp only [List.length_cons,rdB,Bool.and_eq_true]at hB
  obtain⟨⟨hr,hf⟩,hB'⟩:=hB
  have hkn:k<n:=by simp only [List.length_cons]at hk;omega
  have hr':k∈Region.ready md ops listed:=by simpa using hr
  have hst:stOp P ops w k (wpStill P ops w Lq l) a:=by unfold stOp;simp only [h0];exact h
  obtain⟨v,hy,hK⟩:=yieldsAt_of_stOp h0 hst
  exact wpAnyL_first' h0 (Region.noSelect_spec hsel) hs hc hn hkn hsk (fun listed' a' hL j hj=>by rw [hL.1,hl2]at hj;have:j=n:=(by simpa using hj);omega) l.length listed a inv (Region.free_spec h0 hf) hr' hy
   (wpAnyL_lex' hsel hs hc hn l2 hl2 l (k+1) _ _ (fun j hj=>by have:=hl (j+1) (by simp;omega);simpa [Nat.add_assoc,Nat.add_comm 1 j]using this) (by simp only [List.length_cons]at hk;omega) (by omega) (inv.set hr' hkn) (by simpa [setN]using he) hB' hK)
theorem setN_size: ∀(m k:Nat) (listed:Array Bool),(setN m k listed).size=listed.size
 |0,_,_=>rfl
 |m+1,k,listed=>by unfold setN;rw [setN_size];simp
theorem setN_getD: ∀(m k:Nat) (listed:Array Bool) (j:Nat) (d:Bool),k+m≤listed.size→(setN m k listed).getD j d=if k≤j∧j<k+m then true else listed.getD j d
 |0,k,listed,j,d,_=>by rw [if_neg (by omega)];rfl
 |m+1,k,listed,j,d,h=>by
  unfold setN
  rw [setN_getD m (k+1) _ j d (by simp;omega)]
  by_cases h1:k+1≤j∧j<k+1+m
  ·rw [if_pos h1,if_pos (by omega)]
  ·rw [if_neg h1]
   by_cases h2:j=k
   ·subst h2
    rw [if_pos (by omega)]
    have:j<listed.size:=by omega
    simp [this]
   ·rw [if_neg (by omega),getD_set_ne d (by omega)]
def wpOne (P:Program) (ops:Array Oper) (Q:Exit→Act→World→Prop) (o:Oper) (K:Act→World→Prop) (a:Act) (w:World):Prop:=wpList P ops (Exit.then K Q) [o] a w
def wpPh (P:Program) (ops:Array Oper) (Q:Exit→Act→World→Prop):List Nat→List Oper→Act→World→Prop
 |[],l,a,w=>wpList P ops Q l a w
 |m::ms,l,a,w=>wpStill P ops w (fun a'=>match l.drop m with|[]=>False|o::rest=>wpOne P ops Q o (wpPh P ops Q ms rest) a' w) (l.take m) a
theorem wpOp_of_one {Q:Exit→Act→World→Prop} {i:Nat} {o:Oper} {K K':Act→World→Prop} {a:Act} {w:World} (hi:ops[i]? =some o) (hK: ∀a w,K a w→K' a w) (h:wpOne P ops Q o K a w):wpOp P ops Q i K' a w:=by
 unfold wpOne wpList at h
 unfold wpOp
 simp only [hi]
 split at h
 ·rename_i hw
  rw [if_pos hw]
  rcases h with h|⟨ha,hlet⟩
  ·refine .inl ?_
   unfold Oper.wp at *
   generalize (execOp a.eval o).run P w=r at *
   cases r with
   |ok n w'=>
    cases n<;>simp only [Oper.upon]at h⊢
    case enter f args=>
     refine Calls.mono h fun e w'' he=> ?_
     cases e with
     |returned u=>exact hK _ _ he
     |panicked c=>exact he
     |outgrown=>exact he
    case row row args=>exact Rows.mono h fun u w'' he=>hK _ _ he
    all_goals first|exact hK _ _ h|exact h
   |halt x w'=>cases x<;>simp only [Oper.upon]at h⊢ <;>exact h
  ·exact .inr ⟨ha,hlet⟩
 ·rename_i hw
  rw [if_neg hw]
  exact hK _ _ h
theorem PhInv.head {s n:Nat} {listed:Array Bool} (inv:PhInv ops s listed) (hsn:s≤n) (hclosed: ∀j oj,ops[j]? =some oj→j<s→ ∀e∈oj.after,Region.binds md e=true→e.on<s) (hs:s≤ops.size):HeadInv md ops n listed:=by
 refine⟨inv.size,fun j oj hj hl e he hb=> ?_,fun t ht ht'=>inv.high t (by omega) ht'⟩
 have hjl:j<ops.size:=(Array.getElem?_eq_some_iff.1 hj).1
 rcases Nat.lt_or_ge j s with h|h
 ·have:=hclosed j oj hj h e he hb
  exact inv.low _ this (by omega)
 ·rw [getD_both (inv.high j h hjl)]at hl;cases hl
theorem wpAny_phases {Q:Exit→Act→World→Prop} (hsel:Region.noSelect ops=true) (hcl: ∀j oj,ops[j]? =some oj→ ∀e∈oj.after,Region.binds md e=true→e.on<j):
  ∀(ms:List Nat) (l:List Oper) (k:Nat) (listed:Array Bool) (a:Act) (w:World),(∀j,l[j]? =ops[k+j]?)→k+l.length=ops.size→PhInv ops k listed→phB md ops ms k listed=true→wpPh P ops Q ms l a w→
   wpAny P md ops Q l.length listed a w
 |[],l,k,listed,a,w,hl,hk,inv,hB,h=>wpAny_of_seq l k listed a w hl (by have:ops.size - k=l.length:=(by omega);rw [←this];exact hB) h
 |m::ms,l,k,listed,a,w,hl,hk,inv,hB,h=>by
  simp only [phB,Bool.and_eq_true,decide_eq_true_eq]at hB
  obtain⟨⟨⟨⟨⟨hn,hs⟩,hd⟩,hr⟩,hr2⟩,hB'⟩:=hB
  have hml:m<l.length:=by omega
  have htl:(l.take m).length=m:=by simp;omega
  have hdl:l.drop m=l[m]::l.drop (m+1):=List.drop_eq_getElem_cons hml
  have ho:ops[k+m]? =some l[m]:=by rw [←hl m];simp [hml]
  have H:=wpAnyL_lex' (md:=md) (P:=P) (w:=w) hsel hs hd hn (setN m k listed) hr2 (l.take m) k listed a
   (fun j hj=>by rw [htl]at hj;rw [List.getElem?_take_of_lt hj];exact hl j) (by rw [htl]) (Nat.le_refl _)
   (inv.head (by omega) (fun j oj hj hjk e he hb=>by have:=hcl j oj hj e he hb;omega) (by omega)) (by rw [htl]) (by rw [htl];exact hr) (by unfold wpPh at h;exact h)
  have hsz:(setN m k listed).size=ops.size:=by rw [setN_size];exact inv.size
  have:=wpAny_of_head (Q':=Q) (g:=(l.drop (m+1)).length+1) (fun listed' a' hL=>by
   obtain⟨rfl,hL2⟩:=hL
   rw [hdl]at hL2
   refine⟨fun e=>(by rw [hr2]at e;cases e),fun i hi=> ?_⟩
   rw [hr2]at hi
   have:i=k+m:=by simpa using hi
   subst this
   refine wpOp_of_one ho (fun a2 w2 h2=> ?_) hL2
   refine wpAny_phases hsel hcl ms (l.drop (m+1)) (k+m+1) _ a2 w2 (fun j=>by rw [List.getElem?_drop,hl];congr 1;omega) (by simp;omega) ?_ hB' h2
   refine⟨by simp [hsz],fun j hj hj'=> ?_,fun t ht ht'=> ?_⟩
   ·by_cases e:j=k+m
    ·subst e
     have:k+m<(setN m k listed).size:=by rw [hsz];exact hn
     simp [this]
    ·rw [getD_set_ne false (by omega),setN_getD m k listed j false (by rw [inv.size];omega)]
     split
     ·rfl
     ·exact inv.low j (by omega) hj'
   ·rw [getD_set_ne true (by omega),setN_getD m k listed t true (by rw [inv.size];omega),if_neg (by omega)]
    exact inv.high t (by omega) ht') _ _ _ H
  rw [htl]at this
  have e:m+((l.drop (m+1)).length+1)=l.length:=by simp;omega
  rw [e]at this
  exact this
def backB (md:Region.Mode) (ops:Array Oper):Bool:=(List.range ops.size).all fun j=>match ops[j]? with|none=>true|some oj=>oj.after.all fun e=> !Region.binds md e||decide (e.on<j)
theorem backB_spec (h:backB md ops=true): ∀j oj,ops[j]? =some oj→ ∀e∈oj.after,Region.binds md e=true→e.on<j:=by
 intro j oj hj e he hb
 have h1:=List.all_eq_true.1 h j (List.mem_range.2 (Array.getElem?_eq_some_iff.1 hj).1)
 simp only [hj]at h1
 have h2:=Array.all_eq_true_iff_forall_mem.1 h1 e he
 simpa [hb]using h2
def regB (ops:Array Oper) (ms:List Nat):Bool:=Region.noSelect ops&&backB .any ops&&phB .any ops ms 0 (Array.replicate ops.size false)
end
theorem region_phases {P:Program} {id:Nat} {Q:Exit→Act→World→Prop} {a:Act} {w:World} {l:List Oper} (ms:List Nat) (hm:P.follows .mixedOrders=true) (hB:regB l.toArray ms=true)
  (h:wpPh P l.toArray Q ms l a w.drew):(Code.region id l.toArray true).wp P Q a w:=by
 simp only [regB,Bool.and_eq_true]at hB
 obtain⟨⟨hsel,hb⟩,hph⟩:=hB
 refine wp_region_any hm ?_
 have:=wpAny_phases (md:= .any) (P:=P) (Q:=Q) hsel (backB_spec hb) ms l 0 (Array.replicate l.toArray.size false) a w.drew (by simp) (by simp)
  ⟨by simp,fun j hj=>absurd hj (by omega),fun t _ ht=>getD_in (by simpa using ht) (getD_replicate_false _ _)⟩ hph h
 simpa using this
theorem wpPh_nil {P:Program} {ops:Array Oper} {Q:Exit→Act→World→Prop} {l:List Oper} {a:Act} {w:World} (h:wpList P ops Q l a w):wpPh P ops Q [] l a w:=h
theorem wpPh_cons {P:Program} {ops:Array Oper} {Q:Exit→Act→World→Prop} {l:List Oper} {a:Act} {w:World} (m:Nat) (ms:List Nat) (h:wpStill P ops w (fun a'=>match l.drop m with|[]=>False|o::rest=>wpOne P ops Q o (wpPh P ops Q ms rest) a' w) (l.take m) a):wpPh P ops Q (m::ms) l a w:=h
theorem wpOne_list {P:Program} {ops:Array Oper} {Q:Exit→Act→World→Prop} {o:Oper} {K:Act→World→Prop} {a:Act} {w:World} (h:wpList P ops (Exit.then K Q) [o] a w):wpOne P ops Q o K a w:=h
end
section
theorem region_reads {P:Program} {id:Nat} {Q:Exit→Act→World→Prop} {a:Act} {w:World} {l:List Oper} (hm:P.follows .mixedOrders=true) (hB:Region.lexB .any l.toArray=true)
  (h:wpStill P l.toArray w.drew (fun a'=>Q .normal a' w.drew) l a):(Code.region id l.toArray true).wp P Q a w:=
 wp_region_still_lit hm hB h
end
section
attribute [local irreducible] wpStill
section
variable {P : Program} {ops : Array Oper} {md : Region.Mode} {S : World → Prop} {Q : Exit → Act → World → Prop}
def wpHd (P:Program) (md:Region.Mode) (ops:Array Oper) (Q:Exit→Act→World→Prop) (S:World→Prop) (m:Nat) (L:Array Bool→Act→World→Prop):Nat→Array Bool→Act→World→Prop
 |0,listed,a,w=>L listed a w
 |f+1,listed,a,w=>Region.ready md ops listed≠[]∧ ∀j∈Region.ready md ops listed,j<m∧wpOp P ops Q j (fun a' w'=>S w'∧wpHd P md ops Q S m L f (listed.setIfInBounds j true) a' w') a w
theorem wpAny_of_hd {m g:Nat} {L:Array Bool→Act→World→Prop} (hL: ∀listed a w,L listed a w→wpAny P md ops Q g listed a w):
  ∀(f:Nat) (listed:Array Bool) (a:Act) (w:World),wpHd P md ops Q S m L f listed a w→wpAny P md ops Q (f+g) listed a w
 |0,listed,a,w,h=>by rw [Nat.zero_add];exact hL _ _ _ h
 |f+1,listed,a,w,h=>by
  rw [show f+1+g=(f+g)+1 by omega]
  exact⟨fun h0=>absurd h0 h.1,fun i hi=>wpOp_mono (fun a' w' h'=>wpAny_of_hd hL f _ a' w' h'.2) (h.2 i hi).2⟩
theorem wpHd_first {m i:Nat} {oi:Oper} {v:Value} {L:Array Bool→Act→World→Prop} (hi:ops[i]? =some oi) (hsel: ∀(j:Nat) (o:Oper) cs b,ops[j]? =some o→o.op≠ .select cs b)
  (hQ: ∀c a w,Q (.panic c) (a.put oi.dst v) w→Q (.panic c) a w) (hs:sinkS md ops 0 m=true) (hc:depB md ops m=true) (hm:m<ops.size) (him:i<m)
  (hdone: ∀listed a w,L listed a w→ ∀j∈Region.ready md ops listed,m≤j):
  ∀(f:Nat) (listed:Array Bool) (a:Act) (w:World),HeadInv md ops m listed→
   (∀j oj,ops[j]? =some oj→j≠i→listed.getD j true=false→(∀e∈oj.after,Region.binds md e=true→e.on≠i)→oi.apart ops oj=true)→
   i∈Region.ready md ops listed→YieldsIf P ops S oi v a→S w→
   wpHd P md ops Q S m L f (listed.setIfInBounds i true) (a.put oi.dst v) w→wpHd P md ops Q S m L (f+1) listed a w:=by
 intro f
 induction f with
 |zero=>
  intro listed a w inv _ hr hy hS H
  have hun:=(mem_ready.1 hr).1
  refine⟨fun h=>(by rw [h]at hr;cases hr),fun j hj=> ?_⟩
  have hjm:j<m:=by
   rcases Nat.lt_or_ge j m with h|h
   ·exact h
   ·exact absurd hj (tail_waits' (w:=w) hs hc hm inv _ i rfl (Nat.zero_le _) him hun j h)
  refine⟨hjm,?_⟩
  by_cases hji:j=i
  ·subst hji;exact hy.wpOp hi hS ⟨hS,H⟩
  ·have:=hdone _ _ _ H j (ready_mono hj hji)
   omega
 |succ f ih=>
  intro listed a w inv hfree hr hy hS H
  have hun:=(mem_ready.1 hr).1
  refine⟨fun h=>(by rw [h]at hr;cases hr),fun j hj=> ?_⟩
  have hjm:j<m:=by
   rcases Nat.lt_or_ge j m with h|h
   ·exact h
   ·exact absurd hj (tail_waits' (w:=w) hs hc hm inv _ i rfl (Nat.zero_le _) him hun j h)
  refine⟨hjm,?_⟩
  by_cases hji:j=i
  ·subst hji;exact hy.wpOp hi hS ⟨hS,H⟩
  ·have h1:=(H.2 j (ready_mono hj hji)).2
   obtain⟨hjun,oj,hoj,hall⟩:=mem_ready.1 hj
   have hnot: ∀e∈oj.after,Region.binds md e=true→e.on≠i:=fun e he hb heq=>by
    have h1:=hall e he hb
    rw [heq,getD_both hun]at h1
    cases h1
   have h2:=wpOp_putIf hoj (hfree j oj hoj hji hjun hnot) (fun cs b=>hsel i oi cs b hi) (fun cs b=>hsel j oj cs b hoj) hQ hy h1
   have hfree': ∀k ok,ops[k]? =some ok→k≠i→(listed.setIfInBounds j true).getD k true=false→
     (∀e∈ok.after,Region.binds md e=true→e.on≠i)→oi.apart ops ok=true:=fun k ok hk hki hun hno=>by
    refine hfree k ok hk hki ?_ hno
    by_cases hjk:j=k
    ·subst hjk;exact hjun
    ·rw [getD_set_ne true hjk]at hun;exact hun
   refine wpOp_mono (fun a' w' h3=>⟨h3.2.1,ih (listed.setIfInBounds j true) a' w' (inv.set hj hjm) hfree' (ready_mono hr (Ne.symm hji)) h3.1 h3.2.1 ?_⟩) h2
   rw [Array.setIfInBounds_comm _ _ hji]
   exact h3.2.2
def wpHeld (P:Program) (ops:Array Oper) (S:World→Prop) (K:Act→Prop):List Oper→Act→Prop
 |[],a=>K a
 |o::t,a=> ∃v,YieldsIf P ops S o v a∧wpHeld P ops S K t (a.put o.dst v)
def wpMid (P:Program) (ops:Array Oper) (Q:Exit→Act→World→Prop) (S:World→Prop) (rest:List Oper):List Oper→Act→World→Prop
 |[],a,w=>wpList P ops Q rest a w
 |o::t,a,w=>wpOne P ops Q o (fun a' w'=>S w'∧wpMid P ops Q S rest t a' w') a w
def aloneB (md:Region.Mode) (ops:Array Oper):Nat→Nat→Array Bool→Bool
 |0,_,_=>true
 |m+1,k,listed=>decide (Region.ready md ops listed=[k])&&aloneB md ops m (k+1) (listed.setIfInBounds k true)
def lateB (ops:Array Oper) (n m:Nat):Bool:=
 Region.noSelect ops&&decide (n≤m)&&decide (m<ops.size)&&sinkS .any ops 0 m&&depB .any ops m&&rdB .any ops n 0 (Array.replicate ops.size false)&&aloneB .any ops (m - n) n (setN n 0 (Array.replicate ops.size false))&&
  decide (Region.ready .any ops (setN (m - n) n (setN n 0 (Array.replicate ops.size false)))=[m])&&Region.seqB .any ops (ops.size - m) m (setN (m - n) n (setN n 0 (Array.replicate ops.size false)))
theorem wpHd_mid {m:Nat} {rest:List Oper} {l2:Array Bool}: ∀(l:List Oper) (k:Nat) (listed:Array Bool) (a:Act) (w:World),(∀j,j<l.length→l[j]? =ops[k+j]?)→k+l.length≤m→setN l.length k listed=l2→aloneB md ops l.length k listed=true→
  wpMid P ops Q S rest l a w→wpHd P md ops Q S m (fun listed' a' w'=>listed'=l2∧wpList P ops Q rest a' w') l.length listed a w
 |[],k,listed,a,w,_,_,he,_,h=>⟨he,h⟩
 |o::l,k,listed,a,w,hl,hk,he,hB,h=>by
  have h0:ops[k]? =some o:=by simpa using(hl 0 (by simp)).symm
  simp only [List.length_cons,aloneB,Bool.and_eq_true,decide_eq_true_eq]at hB
  simp only [List.length_cons]at hk
  refine⟨fun e=>(by rw [hB.1]at e;cases e),fun j hj=> ?_⟩
  rw [hB.1]at hj
  have:j=k:=by simpa using hj
  subst this
  refine⟨by omega,wpOp_of_one h0 (fun a2 w2 h2=>⟨h2.1,?_⟩) h⟩
  exact wpHd_mid l (j+1) _ a2 w2 (fun i hi=>by have:=hl (i+1) (by simp;omega);simpa [Nat.add_assoc,Nat.add_comm 1 i]using this) (by omega) (by simpa [setN]using he) hB.2 h2.2
theorem wpHd_held {m r:Nat} {L:Array Bool→Act→World→Prop} {w:World} (hsel:Region.noSelect ops=true) (hQ: ∀c a a' w,Q (.panic c) a w→Q (.panic c) a' w) (hs:sinkS md ops 0 m=true) (hc:depB md ops m=true) (hm:m<ops.size)
  (hdone: ∀listed a w,L listed a w→ ∀j∈Region.ready md ops listed,m≤j) (hS:S w) {l2:Array Bool}:
  ∀(l:List Oper) (k:Nat) (listed:Array Bool) (a:Act),(∀j,j<l.length→l[j]? =ops[k+j]?)→k+l.length≤m→HeadInv md ops m listed→setN l.length k listed=l2→rdB md ops l.length k listed=true→
   wpHeld P ops S (fun a'=>wpHd P md ops Q S m L r l2 a' w) l a→wpHd P md ops Q S m L (l.length+r) listed a w
 |[],k,listed,a,_,_,_,he,_,h=>by
  have he':listed=l2:=he
  subst he'
  rw [List.length_nil,Nat.zero_add]
  exact h
 |o::l,k,listed,a,hl,hk,inv,he,hB,h=>by
  have h0:ops[k]? =some o:=by simpa using(hl 0 (by simp)).symm
  simp only [List.length_cons,rdB,Bool.and_eq_true]at hB
  simp only [List.length_cons]at hk
  obtain⟨⟨hr,hf⟩,hB'⟩:=hB
  obtain⟨v,hy,hK⟩:=h
  have hr':k∈Region.ready md ops listed:=by simpa using hr
  rw [List.length_cons,show l.length+1+r=(l.length+r)+1 by omega]
  refine wpHd_first h0 (Region.noSelect_spec hsel) (fun c a w h=>hQ c _ _ w h) hs hc hm (by omega) hdone _ listed a w inv (Region.free_spec h0 hf) hr' hy hS ?_
  exact wpHd_held hsel hQ hs hc hm hdone hS l (k+1) _ _ (fun i hi=>by have:=hl (i+1) (by simp;omega);simpa [Nat.add_assoc,Nat.add_comm 1 i]using this) (by omega) (inv.set hr' (by omega)) (by simpa [setN]using he) hB' hK
end
theorem region_late {P:Program} {id:Nat} {Q:Exit→Act→World→Prop} {a:Act} {w:World} {l:List Oper} (S:World→Prop) (n m:Nat) (hm:P.follows .mixedOrders=true) (hB:lateB l.toArray n m=true) (hS:S w.drew)
  (h:wpHeld P l.toArray S (fun a'=>wpMid P l.toArray (NoPanic Q) S (l.drop m) ((l.take m).drop n) a' w.drew) (l.take n) a):(Code.region id l.toArray true).wp P Q a w:=by
 refine wp_region_noPanic ?_
 simp only [lateB,Bool.and_eq_true,decide_eq_true_eq]at hB
 obtain⟨⟨⟨⟨⟨⟨⟨⟨hsel,hnm⟩,hms⟩,hsk⟩,hdp⟩,hrd⟩,hal⟩,hrl⟩,hsq⟩:=hB
 have hms':m<l.length:=by simpa using hms
 have htl:(l.take n).length=n:=by simp;omega
 have hml:((l.take m).drop n).length=m - n:=by simp;omega
 refine wp_region_any hm ?_
 have inv0:HeadInv .any l.toArray m (Array.replicate l.toArray.size false):=
  ⟨by simp,fun j oj _ hl=>(by rw [getD_replicate_false]at hl;cases hl),fun t _ ht=>getD_in (by simpa using ht) (getD_replicate_false _ _)⟩
 have hL: ∀(listed:Array Bool) (a:Act) (w:World),(listed=setN (m - n) n (setN n 0 (Array.replicate l.toArray.size false))∧wpList P l.toArray (NoPanic Q) (l.drop m) a w)→wpAny P .any l.toArray (NoPanic Q) (l.drop m).length listed a w:=fun listed a w h=>by
  obtain⟨rfl,h⟩:=h
  refine wpAny_of_seq (l.drop m) m _ a w (fun j=>by rw [List.getElem?_drop];simp) ?_ h
  rw [show(l.drop m).length=l.toArray.size - m by simp]
  exact hsq
 have H:=wpHd_held (md:= .any) (P:=P) (Q:=NoPanic Q) (S:=S) (w:=w.drew) (m:=m) (r:=m - n) (L:=fun listed a w=>listed=setN (m - n) n (setN n 0 (Array.replicate l.toArray.size false))∧wpList P l.toArray (NoPanic Q) (l.drop m) a w) hsel (fun c a a' w h=>h) hsk hdp hms
  (fun listed a w hl j hj=>by rw [hl.1,hrl]at hj;have:j=m:=(by simpa using hj);omega) hS (l.take n) 0 (Array.replicate l.toArray.size false) a (fun j hj=>by rw [htl]at hj;rw [List.getElem?_take_of_lt hj];simp) (by rw [htl];omega) inv0 rfl (by rw [htl];exact hrd) (by
   rw [htl]
   have mono: ∀(l':List Oper) (a:Act) (K K':Act→Prop),(∀a,K a→K' a)→wpHeld P l.toArray S K l' a→wpHeld P l.toArray S K' l' a:=by
    intro l'
    induction l' with
    |nil=>intro a K K' hk h;exact hk a h
    |cons o t ih=>intro a K K' hk h;obtain⟨v,h1,h2⟩:=h;exact⟨v,h1,ih _ K K' hk h2⟩
   refine mono _ _ _ _ (fun a' h'=> ?_) h
   have:=wpHd_mid (md:= .any) (m:=m) (l2:=setN (m - n) n (setN n 0 (Array.replicate l.toArray.size false))) ((l.take m).drop n) n (setN n 0 (Array.replicate l.toArray.size false)) a' w.drew (fun j hj=>by
    rw [hml]at hj
    rw [List.getElem?_drop,List.getElem?_take_of_lt (by omega)];simp) (by rw [hml];omega) (by rw [hml]) (by rw [hml];exact hal) h'
   rw [hml]at this
   exact this)
 have:=wpAny_of_hd hL _ _ _ _ H
 rw [htl,show n+(m - n)+(l.drop m).length=l.toArray.size by simp;omega]at this
 exact this
theorem wpHeld_nil {P:Program} {ops:Array Oper} {S:World→Prop} {K:Act→Prop} {a:Act} (h:K a):wpHeld P ops S K [] a:=h
theorem wpHeld_cons {P:Program} {ops:Array Oper} {S:World→Prop} {K:Act→Prop} {a:Act} {o:Oper} {t:List Oper} (v:Value) (hw:Region.wanted o (yielded ops a.tmps)=true) (hy: ∀w,S w→(execOp a.eval o).run P w= .ok (.value v) w) (h:wpHeld P ops S K t (a.put o.dst v)):wpHeld P ops S K (o::t) a:=⟨v,.inl ⟨hw,hy⟩,h⟩
theorem wpMid_nil {P:Program} {ops:Array Oper} {Q:Exit→Act→World→Prop} {S:World→Prop} {rest:List Oper} {a:Act} {w:World} (h:wpList P ops Q rest a w):wpMid P ops Q S rest [] a w:=h
theorem wpMid_cons {P:Program} {ops:Array Oper} {Q:Exit→Act→World→Prop} {S:World→Prop} {rest:List Oper} {a:Act} {w:World} {o:Oper} {t:List Oper} (h:wpList P ops (Exit.then (fun a' w'=>S w'∧wpMid P ops Q S rest t a' w') Q) [o] a w):wpMid P ops Q S rest (o::t) a w:=h
end
end Go.Proofs.YtalbfonkhpeajaaGreat

/- Sets of numbers: the list of all. (The part of XBits5 that other seats take; J64: a number as a value.) -/
import Derived.Test.YthlbjgabhpdbfaaGreatABits3
import Derived.Test.YthlbjgabhpdbfaaGreatABase
import Derived.OrdersHeld
import Derived.Test.YthlbjgabhpdbfaaGreatProg
namespace Go.Proofs.YthlbjgabhpdbfaaGreat
set_option linter.unusedVariables false
open Go.RowKit
abbrev J64 (n:Nat):Value:= .int .i64 (n:Int)
def below (f:Nat->Bool) (k:Nat):List Nat:=(List.range k).filter f
theorem below_succ (f:Nat->Bool) (k:Nat):below f (k+1)=below f k++(if f k then [k]else []):=by
 unfold below
 rw [List.range_succ,List.filter_append]
 cases h:f k<;>simp [h]
theorem below_skip {f:Nat->Bool} {k j:Nat} (hkj:k<=j) (h: ∀i,k<=i->i<j->f i=false):below f j=below f k:=by
 induction j with
 |zero=>rw [show k=0 by omega]
 |succ j ih=>
  by_cases e:k=j+1
  ·rw [e]
  ·rw [below_succ,h j (by omega) (by omega),ih (by omega) fun i h1 h2=>h i h1 (by omega)];simp
theorem below_le (f:Nat->Bool) (k:Nat):(below f k).length<=k:=by
 have:=List.length_filter_le f (List.range k)
 simpa [below]using this
theorem nextOf_cases (f:Nat->Bool) (n k:Nat):(∃j:Nat,nextOf f n k=(j:Int)/\k<=j/\j<n/\f j=true/\ ∀i:Nat,k<=i->i<j->f i=false)\/(nextOf f n k= -1/\ ∀i:Nat,k<=i->i<n->f i=false):=by
 unfold nextOf
 rcases h:(List.range n).find? (fun j=>decide (k<=j)&&f j)with _|j
 ·right
  refine⟨rfl,fun i h1 h2=> ?_⟩
  rw [List.find?_eq_none]at h
  have:=h i (List.mem_range.2 h2)
  simpa [h1]using this
 ·left
  have h':=h
  rw [List.find?_range_eq_some]at h'
  obtain⟨h1,h2,h3⟩:=h'
  simp at h1
  refine⟨j,rfl,h1.1,List.mem_range.1 h2,h1.2,fun i hi hij=> ?_⟩
  have:=h3 i hij
  simpa [hi]using this
def ListPost (w:World) (l:List Nat) (e:Ending) (w':World):Prop:=
 ∃A c,e= .returned (.slice A l.length c)/\w'.ownsRow w.heap.size 3 1 (.slice A l.length c) l.length (l.map J64)/\Below w.heap.size w w'
theorem set_next_nil (i:Int) (w:World):Calls Tryz.prog 230 #[.pointer none,.int .i64 i] w fun e w'=>e= .returned (.int .i64 (-1))/\w=w':=by
 go_enter Tryz.func230,Tryz.ntmps230
 go_wp2
 all_goals
  go_loop [5,6] (fun v u=> ∃k:Nat,v= .int .i64 k) (fun v _=>0)
  case atStart=>exact⟨i.toNat,by first|rw [show((i.toNat:Nat):Int)=i by omega]|rw [show i.toNat=0 by omega];rfl⟩
  case round=>
   obtain⟨k,rfl⟩:=hrel
   go_wp2_with (go_at_call 255;refine(set_room_nil _).mono ?_;rintro e w' ⟨rfl,rfl⟩)
   go_ret
   exact⟨rfl,rfl⟩
set_option maxHeartbeats 1000000 in
theorem set_list {w:World} {b n:Nat} {f:Nat->Bool} {S:Nat->Prop} (h:IsSet w b S n f):
  Calls Tryz.prog 234 #[.pointer (some ⟨b,0,none⟩)] w (ListPost w (below f n)):=by
 have hroom:=h.room
 have hS:=h.lt
 have H:=hide h
 have HS:=hide hS
 clear h hS
 go_enter Tryz.func234,Tryz.ntmps234
 go_wp2_with fail
 refine(set_next H.out 0 (by decide)).mono ?_
 rintro e w' ⟨rfl,rfl⟩
 go_wp2_with fail
 go_loopw [3,4] (fun v i wr=> ∃(k:Nat) (A:Option Addr) (c:Nat),k<=n/\i= .int .i64 (nextOf f n k)/\v= .slice A (below f k).length c/\wr.ownsRow w.heap.size 3 1 (.slice A (below f k).length c) (below f k).length ((below f k).map J64)/\Below w.heap.size w wr) (fun _ i _=>if intOf i<0 then 0 else n+1 - (intOf i).toNat)
 case atStart=>exact⟨0,none,0,Nat.zero_le _,rfl,rfl,World.ownsRow_nil _ _ _ _,Below.refl _ _⟩
 case round=>
  obtain⟨k,A,c,hk,rfl,rfl,hown,hbel⟩:=hrel
  have hz:=hbel.size
  rcases nextOf_cases f n k with⟨j,hj,hkj,hjn,hfj,hno⟩|⟨hj,hno⟩
  ·rw [hj]
   have hbs:=below_skip hkj hno
   have hsucc:=below_succ f j
   rw [hfj,hbs]at hsucc
   simp only [if_true]at hsucc
   have hle:=below_le f k
   obtain⟨l,hl⟩: ∃l,l=below f k:=⟨_,rfl⟩
   rw [<-hl]at hown hsucc hle⊢
   have HSU:=hide hsucc
   have HBEL:=hide hbel
   have h3:IsSet wr b S n f:=H.out.touch (Touch.of_size hbel (fun _=>False)) (fun _ _ hf=>hf)
   clear hj hno hbs hfj hsucc hl hbel
   go_wp2_with (at_builtin;refine wp_append _ rfl (.tmp 13) (.tmp 15) _ rfl Tryz.elemInt w.heap.size _ l.length (l.map J64) rfl (hown.alloc _) _ _ [J64 j] 1 rfl rfl (Rd.one [J64 j] 1 rfl) (by simp [Value.oneCell']) (by unfold maxLen;omega) (by omega) (by simp;omega) ?_)
   intro A2 c2 w2 hown2 hg2 _
   have hb2:Below w.heap.size w w2:=((HBEL.out.alloc hz _).grown hg2 (by simp;omega) (fun q hq=>(hown.lt q hq).1))
   have h4:=H.out.touch (Touch.of_size hb2 (fun _=>False)) (fun _ _ hf=>hf)
   go_wp2_with fail
   refine(set_next h4 ((j:Int)+1) (WalkArith.wf_i64 (by omega))).mono ?_
   rintro e w' ⟨rfl,rfl⟩
   go_wp2_with fail
   go_roundw
   case rel=>
    refine⟨j+1,A2,c2,by omega,?_,?_,?_,hb2⟩
    ·rfl
    ·rw [HSU.out];simp
    ·rw [HSU.out];simpa using hown2
   case measure=>
    rcases nextOf_cases f n (j+1)with⟨j',hj',h1,h2,_⟩|⟨hj',_⟩
    ·have a1: ¬(j':Int)<0:=by omega
     have a2: ¬(j:Int)<0:=by omega
     simp [intOf,hj',a1,a2];omega
    ·have a2: ¬(j:Int)<0:=by omega
     simp [intOf,hj',a2];omega
  ·rw [hj]
   have hbs:=below_skip hk hno
   have HB:=hide hbs
   clear hno hbs hj
   go_wp2_with fail
   go_ret
   have fin:ListPost w (below f n) (.returned (.slice A (below f k).length c)) wr:=⟨A,c,by rw [HB.out],by rw [HB.out];exact hown,hbel⟩
   exact fin
end Go.Proofs.YthlbjgabhpdbfaaGreat
namespace Go.Proofs.YthlbjgabhpdbfaaGreat
set_option linter.unusedVariables false
section
section
variable {P : Program} {ops : Array Oper} {md : Region.Mode}
theorem tk {Q:Exit->Act->World->Prop} {S:World->Prop} {i:Nat} {oi:Oper} {v:Value} {fuel:Nat} {listed:Array Bool} {a:Act} {w:World} (hi:ops[i]? =some oi)
  (hb:(Region.noSelect ops&&(Region.free md ops listed i&&(Region.ready md ops listed).contains i))=true)
  (hQ: ∀c a w,Q (.panic c) (a.put oi.dst v) w->Q (.panic c) a w) (hy:YieldsIf P ops S oi v a) (hS:S w)
  (h:wpAnyH P md ops Q S fuel (listed.setIfInBounds i true) (a.put oi.dst v) w):wpAnyH P md ops Q S (fuel+1) listed a w:=by
 rw [Bool.and_eq_true,Bool.and_eq_true]at hb
 exact wpAnyH_take hi hb.1 hb.2.1 hb.2.2 hQ hy hS h
theorem tZ {P:Program} {ops:Array Oper} {md:Region.Mode} {Q:Exit->Act->World->Prop} {S:World->Prop} (i:Nat) {oi:Oper} {v:Value} {fuel:Nat} {listed:Array Bool} {a:Act} {w:World} (h:wpAnyH P md ops Q S fuel (listed.setIfInBounds i true) (a.put oi.dst v) w) (hi:ops[i]? =some oi:=by ((try simp only [gT,gs,gz]);try rfl)) (hb:(Region.noSelect ops&&(Region.free md ops listed i&&(Region.ready md ops listed).contains i))=true:=by kernel_rfl) (hQ: ∀c a w,Q (.panic c) (a.put oi.dst v) w->Q (.panic c) a w:=by exact fun _ _ _ h=>h) (hy:YieldsIf P ops S oi v a:=by (refine Or.inl ⟨by rfl,?_⟩;intro wS hwS;(try dsimp only at hwS);go_simp;all_goals with_reducible rfl)) (hS:S w:=by assumption):wpAnyH P md ops Q S (fuel+1) listed a w:=tk hi hb hQ hy hS h
theorem gT {α:Type} (l:List α) (i:Nat):l.toArray[i]? =l[i]? :=List.getElem?_toArray
theorem gs {α:Type} (a:α) (l:List α) (i:Nat):(a::l)[i+1]? =l[i]? :=List.getElem?_cons_succ
theorem gz {α:Type} (a:α) (l:List α):(a::l)[0]? =some a:=List.getElem?_cons_zero
theorem sT {α:Type} (l:List α) (i:Nat) (a:α):l.toArray.setIfInBounds i a=(l.set i a).toArray:=List.setIfInBounds_toArray ..
theorem s0 {α:Type} (a b:α) (l:List α):(a::l).set 0 b=b::l:=List.set_cons_zero
theorem s1 {α:Type} (a b:α) (l:List α) (i:Nat):(a::l).set (i+1) b=a::l.set i b:=List.set_cons_succ
def sinkS (md:Region.Mode) (ops:Array Oper) (s n:Nat):Bool:=
 (List.range n).all fun i=>decide (i<s)||(List.range (n+1)).any fun j=>decide (i<j)&&Region.waitsFor md ops j i
def depB (md:Region.Mode) (ops:Array Oper) (n:Nat):Bool:=
 (List.range ops.size).all fun t=>decide (t<=n)||(List.range t).any fun i=>decide (n<=i)&&Region.waitsFor md ops t i
theorem tail_waits' {w:World} {s n:Nat} {listed:Array Bool} (hs:sinkS md ops s n=true) (hc:depB md ops n=true) (hn:n<ops.size) (inv:HeadInv md ops n listed):
  ∀(d i:Nat),n - i=d->s<=i->i<n->listed.getD i true=false-> ∀t,n<=t->t∉Region.ready md ops listed:=by
 intro d
 induction d using Nat.strongRecOn with
 |_ d ih=>
  intro i hd hsi hi hun t ht hr
  obtain⟨_,ot,hot,hall⟩:=mem_ready.1 hr
  have htlt:t<ops.size:=(Array.getElem?_eq_some_iff.1 hot).1
  by_cases htn:t=n
  ·subst htn
   have h1:=List.all_eq_true.1 hs i (List.mem_range.2 hi)
   rw [Bool.or_eq_true]at h1
   rcases h1 with h1|h1
   ·have:=of_decide_eq_true h1;omega
   obtain⟨j,hj,hj2⟩:=List.any_eq_true.1 h1
   simp only [Bool.and_eq_true,decide_eq_true_eq]at hj2
   obtain⟨oj,hoj,e,he,hb,hon⟩:=Region.waitsFor_spec hj2.2
   have hjle:j<=t:=by have:=List.mem_range.1 hj;omega
   by_cases hjt:j=t
   ·subst hjt
    have:oj=ot:=Option.some.inj (hoj.symm.trans hot)
    subst this
    have h2:=hall e he hb
    rw [hon,getD_both hun]at h2
    cases h2
   ·cases hl:listed.getD j false with
    |true=>
     have h2:=inv.closed j oj hoj hl e he hb
     rw [hon,getD_both hun]at h2
     cases h2
    |false=>
     have hjs:j<listed.size:=by rw [inv.size];omega
     exact ih (t - j) (by omega) j rfl (by omega) (by omega) (getD_in hjs hl) t (Nat.le_refl _) hr
  ·have h1:=List.all_eq_true.1 hc t (List.mem_range.2 htlt)
   simp only [Bool.or_eq_true,decide_eq_true_eq]at h1
   rcases h1 with h1|h1
   ·omega
   ·obtain⟨j,hj,hj2⟩:=List.any_eq_true.1 h1
    simp only [Bool.and_eq_true,decide_eq_true_eq]at hj2
    obtain⟨o',ho',e,he,hb,hon⟩:=Region.waitsFor_spec hj2.2
    have:o'=ot:=Option.some.inj (ho'.symm.trans hot)
    subst this
    have h2:=hall e he hb
    have hjt:=List.mem_range.1 hj
    rw [hon,getD_both (inv.tail j (by omega) (by omega))]at h2
    cases h2
def rdB (md:Region.Mode) (ops:Array Oper):Nat->Nat->Array Bool->Bool
 |0,_,_=>true
 |m+1,k,listed=>(Region.ready md ops listed).contains k&&Region.free md ops listed k&&rdB md ops m (k+1) (listed.setIfInBounds k true)
def setN:Nat->Nat->Array Bool->Array Bool
 |0,_,listed=>listed
 |m+1,k,listed=>setN m (k+1) (listed.setIfInBounds k true)
def wpOne (P:Program) (ops:Array Oper) (Q:Exit->Act->World->Prop) (o:Oper) (K:Act->World->Prop) (a:Act) (w:World):Prop:=wpList P ops (Exit.then K Q) [o] a w
def wpPh (P:Program) (ops:Array Oper) (Q:Exit->Act->World->Prop):List Nat->List Oper->Act->World->Prop
 |[],l,a,w=>wpList P ops Q l a w
 |m::ms,l,a,w=>wpStill P ops w (fun a'=>match l.drop m with|[]=>False|o::rest=>wpOne P ops Q o (wpPh P ops Q ms rest) a' w) (l.take m) a
theorem wpOp_of_one {Q:Exit->Act->World->Prop} {i:Nat} {o:Oper} {K K':Act->World->Prop} {a:Act} {w:World} (hi:ops[i]? =some o) (hK: ∀a w,K a w->K' a w) (h:wpOne P ops Q o K a w):wpOp P ops Q i K' a w:=by
 unfold wpOne wpList at h
 unfold wpOp
 simp only [hi]
 split at h
 ·rename_i hw
  rw [if_pos hw]
  rcases h with h|⟨ha,hlet⟩
  ·refine .inl ?_
   unfold Oper.wp at *
   generalize (execOp a.eval o).run P w=r at *
   cases r with
   |ok n w'=>
    cases n<;>simp only [Oper.upon]at h⊢
    case enter f args=>
     refine Calls.mono h fun e w'' he=> ?_
     cases e with
     |returned u=>exact hK _ _ he
     |panicked c=>exact he
     |outgrown=>exact he
    case row row args=>exact Rows.mono h fun u w'' he=>hK _ _ he
    all_goals first|exact hK _ _ h|exact h
   |halt x w'=>cases x<;>simp only [Oper.upon]at h⊢ <;>exact h
  ·exact .inr ⟨ha,hlet⟩
 ·rename_i hw
  rw [if_neg hw]
  exact hK _ _ h
end
end
section
theorem region_reads {P:Program} {id:Nat} {Q:Exit->Act->World->Prop} {a:Act} {w:World} {l:List Oper} (hm:P.follows .mixedOrders=true) (hB:Region.lexB .any l.toArray=true)
  (h:wpStill P l.toArray w.drew (fun a'=>Q .normal a' w.drew) l a):(Code.region id l.toArray true).wp P Q a w:=
 wp_region_still_lit hm hB h
end
section
attribute [local irreducible] wpStill
section
variable {P : Program} {ops : Array Oper} {md : Region.Mode} {S : World -> Prop} {Q : Exit -> Act -> World -> Prop}
def wpHd (P:Program) (md:Region.Mode) (ops:Array Oper) (Q:Exit->Act->World->Prop) (S:World->Prop) (m:Nat) (L:Array Bool->Act->World->Prop):Nat->Array Bool->Act->World->Prop
 |0,listed,a,w=>L listed a w
 |f+1,listed,a,w=>Region.ready md ops listed≠[]/\ ∀j∈Region.ready md ops listed,j<m/\wpOp P ops Q j (fun a' w'=>S w'/\wpHd P md ops Q S m L f (listed.setIfInBounds j true) a' w') a w
theorem wpAny_of_hd {m g:Nat} {L:Array Bool->Act->World->Prop} (hL: ∀listed a w,L listed a w->wpAny P md ops Q g listed a w):
  ∀(f:Nat) (listed:Array Bool) (a:Act) (w:World),wpHd P md ops Q S m L f listed a w->wpAny P md ops Q (f+g) listed a w
 |0,listed,a,w,h=>by rw [Nat.zero_add];exact hL _ _ _ h
 |f+1,listed,a,w,h=>by
  rw [show f+1+g=(f+g)+1 by omega]
  exact⟨fun h0=>absurd h0 h.1,fun i hi=>wpOp_mono (fun a' w' h'=>wpAny_of_hd hL f _ a' w' h'.2) (h.2 i hi).2⟩
theorem wpHd_first {m i:Nat} {oi:Oper} {v:Value} {L:Array Bool->Act->World->Prop} (hi:ops[i]? =some oi) (hsel: ∀(j:Nat) (o:Oper) cs b,ops[j]? =some o->o.op≠ .select cs b)
  (hQ: ∀c a w,Q (.panic c) (a.put oi.dst v) w->Q (.panic c) a w) (hs:sinkS md ops 0 m=true) (hc:depB md ops m=true) (hm:m<ops.size) (him:i<m)
  (hdone: ∀listed a w,L listed a w-> ∀j∈Region.ready md ops listed,m<=j):
  ∀(f:Nat) (listed:Array Bool) (a:Act) (w:World),HeadInv md ops m listed->
   (∀j oj,ops[j]? =some oj->j≠i->listed.getD j true=false->(∀e∈oj.after,Region.binds md e=true->e.on≠i)->oi.apart ops oj=true)->
   i∈Region.ready md ops listed->YieldsIf P ops S oi v a->S w->
   wpHd P md ops Q S m L f (listed.setIfInBounds i true) (a.put oi.dst v) w->wpHd P md ops Q S m L (f+1) listed a w:=by
 intro f
 induction f with
 |zero=>
  intro listed a w inv _ hr hy hS H
  have hun:=(mem_ready.1 hr).1
  refine⟨fun h=>(by rw [h]at hr;cases hr),fun j hj=> ?_⟩
  have hjm:j<m:=by
   rcases Nat.lt_or_ge j m with h|h
   ·exact h
   ·exact absurd hj (tail_waits' (w:=w) hs hc hm inv _ i rfl (Nat.zero_le _) him hun j h)
  refine⟨hjm,?_⟩
  by_cases hji:j=i
  ·subst hji;exact hy.wpOp hi hS ⟨hS,H⟩
  ·have:=hdone _ _ _ H j (ready_mono hj hji)
   omega
 |succ f ih=>
  intro listed a w inv hfree hr hy hS H
  have hun:=(mem_ready.1 hr).1
  refine⟨fun h=>(by rw [h]at hr;cases hr),fun j hj=> ?_⟩
  have hjm:j<m:=by
   rcases Nat.lt_or_ge j m with h|h
   ·exact h
   ·exact absurd hj (tail_waits' (w:=w) hs hc hm inv _ i rfl (Nat.zero_le _) him hun j h)
  refine⟨hjm,?_⟩
  by_cases hji:j=i
  ·subst hji;exact hy.wpOp hi hS ⟨hS,H⟩
  ·have h1:=(H.2 j (ready_mono hj hji)).2
   obtain⟨hjun,oj,hoj,hall⟩:=mem_ready.1 hj
   have hnot: ∀e∈oj.after,Region.binds md e=true->e.on≠i:=fun e he hb heq=>by
    have h1:=hall e he hb
    rw [heq,getD_both hun]at h1
    cases h1
   have h2:=wpOp_putIf hoj (hfree j oj hoj hji hjun hnot) (fun cs b=>hsel i oi cs b hi) (fun cs b=>hsel j oj cs b hoj) hQ hy h1
   have hfree': ∀k ok,ops[k]? =some ok->k≠i->(listed.setIfInBounds j true).getD k true=false->
     (∀e∈ok.after,Region.binds md e=true->e.on≠i)->oi.apart ops ok=true:=fun k ok hk hki hun hno=>by
    refine hfree k ok hk hki ?_ hno
    by_cases hjk:j=k
    ·subst hjk;exact hjun
    ·rw [getD_set_ne true hjk]at hun;exact hun
   refine wpOp_mono (fun a' w' h3=>⟨h3.2.1,ih (listed.setIfInBounds j true) a' w' (inv.set hj hjm) hfree' (ready_mono hr (Ne.symm hji)) h3.1 h3.2.1 ?_⟩) h2
   rw [Array.setIfInBounds_comm _ _ hji]
   exact h3.2.2
def wpHeld (P:Program) (ops:Array Oper) (S:World->Prop) (K:Act->Prop):List Oper->Act->Prop
 |[],a=>K a
 |o::t,a=> ∃v,YieldsIf P ops S o v a/\wpHeld P ops S K t (a.put o.dst v)
def wpMid (P:Program) (ops:Array Oper) (Q:Exit->Act->World->Prop) (S:World->Prop) (rest:List Oper):List Oper->Act->World->Prop
 |[],a,w=>wpList P ops Q rest a w
 |o::t,a,w=>wpOne P ops Q o (fun a' w'=>S w'/\wpMid P ops Q S rest t a' w') a w
def aloneB (md:Region.Mode) (ops:Array Oper):Nat->Nat->Array Bool->Bool
 |0,_,_=>true
 |m+1,k,listed=>decide (Region.ready md ops listed=[k])&&aloneB md ops m (k+1) (listed.setIfInBounds k true)
def lateB (ops:Array Oper) (n m:Nat):Bool:=
 Region.noSelect ops&&decide (n<=m)&&decide (m<ops.size)&&sinkS .any ops 0 m&&depB .any ops m&&rdB .any ops n 0 (Array.replicate ops.size false)&&aloneB .any ops (m - n) n (setN n 0 (Array.replicate ops.size false))&&
  decide (Region.ready .any ops (setN (m - n) n (setN n 0 (Array.replicate ops.size false)))=[m])&&Region.seqB .any ops (ops.size - m) m (setN (m - n) n (setN n 0 (Array.replicate ops.size false)))
theorem wpHd_mid {m:Nat} {rest:List Oper} {l2:Array Bool}: ∀(l:List Oper) (k:Nat) (listed:Array Bool) (a:Act) (w:World),(∀j,j<l.length->l[j]? =ops[k+j]?)->k+l.length<=m->setN l.length k listed=l2->aloneB md ops l.length k listed=true->
  wpMid P ops Q S rest l a w->wpHd P md ops Q S m (fun listed' a' w'=>listed'=l2/\wpList P ops Q rest a' w') l.length listed a w
 |[],k,listed,a,w,_,_,he,_,h=>⟨he,h⟩
 |o::l,k,listed,a,w,hl,hk,he,hB,h=>by
  have h0:ops[k]? =some o:=by simpa using(hl 0 (by simp)).symm
  simp only [List.length_cons,aloneB,Bool.and_eq_true,decide_eq_true_eq]at hB
  simp only [List.length_cons]at hk
  refine⟨fun e=>(by rw [hB.1]at e;cases e),fun j hj=> ?_⟩
  rw [hB.1]at hj
  have:j=k:=by simpa using hj
  subst this
  refine⟨by omega,wpOp_of_one h0 (fun a2 w2 h2=>⟨h2.1,?_⟩) h⟩
  exact wpHd_mid l (j+1) _ a2 w2 (fun i hi=>by have:=hl (i+1) (by simp;omega);simpa [Nat.add_assoc,Nat.add_comm 1 i]using this) (by omega) (by simpa [setN]using he) hB.2 h2.2
theorem wpHd_held {m r:Nat} {L:Array Bool->Act->World->Prop} {w:World} (hsel:Region.noSelect ops=true) (hQ: ∀c a a' w,Q (.panic c) a w->Q (.panic c) a' w) (hs:sinkS md ops 0 m=true) (hc:depB md ops m=true) (hm:m<ops.size)
  (hdone: ∀listed a w,L listed a w-> ∀j∈Region.ready md ops listed,m<=j) (hS:S w) {l2:Array Bool}:
  ∀(l:List Oper) (k:Nat) (listed:Array Bool) (a:Act),(∀j,j<l.length->l[j]? =ops[k+j]?)->k+l.length<=m->HeadInv md ops m listed->setN l.length k listed=l2->rdB md ops l.length k listed=true->
   wpHeld P ops S (fun a'=>wpHd P md ops Q S m L r l2 a' w) l a->wpHd P md ops Q S m L (l.length+r) listed a w
 |[],k,listed,a,_,_,_,he,_,h=>by
  have he':listed=l2:=he
  subst he'
  rw [List.length_nil,Nat.zero_add]
  exact h
 |o::l,k,listed,a,hl,hk,inv,he,hB,h=>by
  have h0:ops[k]? =some o:=by simpa using(hl 0 (by simp)).symm
  simp only [List.length_cons,rdB,Bool.and_eq_true]at hB
  simp only [List.length_cons]at hk
  obtain⟨⟨hr,hf⟩,hB'⟩:=hB
  obtain⟨v,hy,hK⟩:=h
  have hr':k∈Region.ready md ops listed:=by simpa using hr
  rw [List.length_cons,show l.length+1+r=(l.length+r)+1 by omega]
  refine wpHd_first h0 (Region.noSelect_spec hsel) (fun c a w h=>hQ c _ _ w h) hs hc hm (by omega) hdone _ listed a w inv (Region.free_spec h0 hf) hr' hy hS ?_
  exact wpHd_held hsel hQ hs hc hm hdone hS l (k+1) _ _ (fun i hi=>by have:=hl (i+1) (by simp;omega);simpa [Nat.add_assoc,Nat.add_comm 1 i]using this) (by omega) (inv.set hr' (by omega)) (by simpa [setN]using he) hB' hK
end
theorem region_late {P:Program} {id:Nat} {Q:Exit->Act->World->Prop} {a:Act} {w:World} {l:List Oper} (S:World->Prop) (n m:Nat) (hm:P.follows .mixedOrders=true) (hB:lateB l.toArray n m=true) (hS:S w.drew)
  (h:wpHeld P l.toArray S (fun a'=>wpMid P l.toArray (NoPanic Q) S (l.drop m) ((l.take m).drop n) a' w.drew) (l.take n) a):(Code.region id l.toArray true).wp P Q a w:=by
 refine wp_region_noPanic ?_
 simp only [lateB,Bool.and_eq_true,decide_eq_true_eq]at hB
 obtain⟨⟨⟨⟨⟨⟨⟨⟨hsel,hnm⟩,hms⟩,hsk⟩,hdp⟩,hrd⟩,hal⟩,hrl⟩,hsq⟩:=hB
 have hms':m<l.length:=by simpa using hms
 have htl:(l.take n).length=n:=by simp;omega
 have hml:((l.take m).drop n).length=m - n:=by simp;omega
 refine wp_region_any hm ?_
 have inv0:HeadInv .any l.toArray m (Array.replicate l.toArray.size false):=
  ⟨by simp,fun j oj _ hl=>(by rw [getD_replicate_false]at hl;cases hl),fun t _ ht=>getD_in (by simpa using ht) (getD_replicate_false _ _)⟩
 have hL: ∀(listed:Array Bool) (a:Act) (w:World),(listed=setN (m - n) n (setN n 0 (Array.replicate l.toArray.size false))/\wpList P l.toArray (NoPanic Q) (l.drop m) a w)->wpAny P .any l.toArray (NoPanic Q) (l.drop m).length listed a w:=fun listed a w h=>by
  obtain⟨rfl,h⟩:=h
  refine wpAny_of_seq (l.drop m) m _ a w (fun j=>by rw [List.getElem?_drop];simp) ?_ h
  rw [show(l.drop m).length=l.toArray.size - m by simp]
  exact hsq
 have H:=wpHd_held (md:= .any) (P:=P) (Q:=NoPanic Q) (S:=S) (w:=w.drew) (m:=m) (r:=m - n) (L:=fun listed a w=>listed=setN (m - n) n (setN n 0 (Array.replicate l.toArray.size false))/\wpList P l.toArray (NoPanic Q) (l.drop m) a w) hsel (fun c a a' w h=>h) hsk hdp hms
  (fun listed a w hl j hj=>by rw [hl.1,hrl]at hj;have:j=m:=(by simpa using hj);omega) hS (l.take n) 0 (Array.replicate l.toArray.size false) a (fun j hj=>by rw [htl]at hj;rw [List.getElem?_take_of_lt hj];simp) (by rw [htl];omega) inv0 rfl (by rw [htl];exact hrd) (by
   rw [htl]
   have mono: ∀(l':List Oper) (a:Act) (K K':Act->Prop),(∀a,K a->K' a)->wpHeld P l.toArray S K l' a->wpHeld P l.toArray S K' l' a:=by
    intro l'
    induction l' with
    |nil=>intro a K K' hk h;exact hk a h
    |cons o t ih=>intro a K K' hk h;obtain⟨v,h1,h2⟩:=h;exact⟨v,h1,ih _ K K' hk h2⟩
   refine mono _ _ _ _ (fun a' h'=> ?_) h
   have:=wpHd_mid (md:= .any) (m:=m) (l2:=setN (m - n) n (setN n 0 (Array.replicate l.toArray.size false))) ((l.take m).drop n) n (setN n 0 (Array.replicate l.toArray.size false)) a' w.drew (fun j hj=>by
    rw [hml]at hj
    rw [List.getElem?_drop,List.getElem?_take_of_lt (by omega)];simp) (by rw [hml];omega) (by rw [hml]) (by rw [hml];exact hal) h'
   rw [hml]at this
   exact this)
 have:=wpAny_of_hd hL _ _ _ _ H
 rw [htl,show n+(m - n)+(l.drop m).length=l.toArray.size by simp;omega]at this
 exact this
theorem wpHeld_nil {P:Program} {ops:Array Oper} {S:World->Prop} {K:Act->Prop} {a:Act} (h:K a):wpHeld P ops S K [] a:=h
theorem wpHeld_cons {P:Program} {ops:Array Oper} {S:World->Prop} {K:Act->Prop} {a:Act} {o:Oper} {t:List Oper} (v:Value) (hw:Region.wanted o (yielded ops a.tmps)=true) (hy: ∀w,S w->(execOp a.eval o).run P w= .ok (.value v) w) (h:wpHeld P ops S K t (a.put o.dst v)):wpHeld P ops S K (o::t) a:=⟨v,.inl ⟨hw,hy⟩,h⟩
theorem wpMid_nil {P:Program} {ops:Array Oper} {Q:Exit->Act->World->Prop} {S:World->Prop} {rest:List Oper} {a:Act} {w:World} (h:wpList P ops Q rest a w):wpMid P ops Q S rest [] a w:=h
theorem wpMid_cons {P:Program} {ops:Array Oper} {Q:Exit->Act->World->Prop} {S:World->Prop} {rest:List Oper} {a:Act} {w:World} {o:Oper} {t:List Oper} (h:wpList P ops (Exit.then (fun a' w'=>S w'/\wpMid P ops Q S rest t a' w') Q) [o] a w):wpMid P ops Q S rest (o::t) a w:=h
end
section
section
open Go.RowKit
end
section
open Go.RowKit
end
section
open Go.RowKit
end
section
open Go.RowKit
end
end
section
section
open Go.RowKit
theorem Tryz.enters_short:Enters Tryz.prog 141:=enters_of Tryz.func141 (by kernel_rfl) rfl
theorem short_clo {w:World} {F:Nat->Prop}:PredR w F 141 #[] (fun r=>decide (r.2.length<=8)):=by
 intro W v r hW hr
 obtain⟨A,n,c,rfl,_⟩:=id hr
 obtain⟨hn,hnc,hcm,_⟩:=hr.at_
 unfold maxLen at hcm
 have b2:Below W.heap.size W (W.alloc (.cells #[.int .i64 r.1,.slice A n c] 98)):=(Below.refl _ W).alloc (Nat.le_refl _) _
 have HB:=hide b2
 have HN:=hide hn
 show Calls Tryz.prog 141 #[.agg #[.int .i64 r.1,.slice A n c]] W _
 obtain⟨l,hl⟩: ∃l,l=r.1:=⟨_,rfl⟩
 rw [<-hl]at HB⊢
 clear hW b2 hr hl hn
 go_enter Tryz.func141,Tryz.ntmps141
 go_wp2
 go_ret
 exact⟨ret_bool (by rw [<-HN.out];by_cases e:n<=8<;>simp [e]<;>omega),HB.out⟩
theorem Tryz.enters_known1:Enters Tryz.prog 210:=enters_of Tryz.func210 (by kernel_rfl) rfl
theorem known_clo {w:World} {F:Nat->Prop} {vt vn vr:Value} {G:GramD} {st:Int} {B:Nat} (h:IsGram w F vt vn vr G) (k1:Blk w B 25 #[vt,vn,vr,.int .i64 st]):
  PredV w 210 #[.pointer (some ⟨B,0,none⟩)] (Value.int .i64) (fun s=>isTerm G s||isNon G s):=by
 intro W s hW
 have h1:=h.below hW
 have ct:=gram_term h1 st s
 have cn: ∀wr,Below W.heap.size W wr->Calls Tryz.prog 148 #[GV vt vn vr st,.int .i64 s] wr (Quiet wr (.bool (isNon G s))):=fun wr hb=>gram_non (h1.below hb) st s
 have k2:=k1.below hW k1.lt
 have hB:=k2.lt
 have cl: ∀wr,Below W.heap.size W wr-> ∀i v,(#[vt,vn,vr,Value.int .i64 st]:Array Value)[i]? =some v->wr.cell? ⟨B,i,none⟩=some v:=fun wr hb i v e=>((k2.below hb hB).cell i).trans e
 have p0:=cl W (Below.refl _ _) 0 _ rfl
 have p1:=cl W (Below.refl _ _) 1 _ rfl
 have p2:=cl W (Below.refl _ _) 2 _ rfl
 have p3:=cl W (Below.refl _ _) 3 _ rfl
 show Calls Tryz.prog 210 #[.int .i64 s,.pointer (some ⟨B,0,none⟩)] W (Quiet W (.bool (isTerm G s||isNon G s)))
 obtain⟨A1,c1,A2,c2,A3,c3,rfl,rfl,rfl,_⟩:=h.slices
 generalize isTerm G s=it at *
 generalize isNon G s=ino at *
 have CT:=hide ct
 have CN:=hide cn
 have CL:=hide cl
 clear ct cn cl k1 k2 h1 h hW
 go_enter Tryz.func210,Tryz.ntmps210
 go_wp2_with fail
 refine CT.out.mono ?_
 rintro e w2 ⟨rfl,b2⟩
 have q0:=CL.out w2 b2 0 _ rfl
 have q1:=CL.out w2 b2 1 _ rfl
 have q2:=CL.out w2 b2 2 _ rfl
 have q3:=CL.out w2 b2 3 _ rfl
 cases it with
 |true=>
  go_wp2_with fail
  go_ret
  exact⟨rfl,b2⟩
 |false=>
  go_wp2_with fail
  refine(CN.out w2 b2).mono ?_
  rintro e w3 ⟨rfl,b3⟩
  go_wp2_with fail
  go_ret
  exact⟨ret_bool (by cases ino<;>rfl),b2.trans (b3.mono b2.size)⟩
end
section
open Go.RowKit
def knownOf (G:GramD) (r:Int×List Int):Bool:=isNon G r.1&&r.2.all (fun s=>isTerm G s||isNon G s)
set_option maxHeartbeats 1000000 in
theorem gram_known {w:World} {F F':Nat->Prop} {vt vn vr v:Value} {G:GramD} {l:Int} {xs:List Int} (h:IsGram w F vt vn vr G) (st:Int) (hr:RdI w F' v xs) (hF: ∀b,F' b->b<w.heap.size):
  Calls Tryz.prog 150 #[GV vt vn vr st,.agg #[.int .i64 l,v]] w (Quiet w (.bool (knownOf G (l,xs)))):=by
 obtain⟨w2,hw2⟩: ∃w2,w2=(w.alloc (.cells #[vt,vn,vr,.int .i64 st] 25)).alloc (.cells #[.int .i64 l,v] 98):=⟨_,rfl⟩
 have B0:Below w.heap.size w w2:=by rw [hw2];exact((Below.refl _ w).alloc (Nat.le_refl _) _).alloc (by simp) _
 have h2:=h.below B0
 have r2:=hr.below B0 hF
 have k1:Blk w2 w.heap.size 25 #[vt,vn,vr,.int .i64 st]:=by rw [hw2];exact(Blk.new w _ _).alloc _
 have k2:Blk w2 (w.heap.size+1) 98 #[.int .i64 l,v]:=by
  rw [hw2]
  have:=Blk.new (w.alloc (.cells #[vt,vn,vr,.int .i64 st] 25)) 98 #[.int .i64 l,v]
  simpa using this
 have cn:=gram_non h2 st l
 have ca: ∀wr,Below w2.heap.size w2 wr->Calls Tryz.prog 209 #[v,.func (.func 210) #[] #[.pointer (some ⟨w.heap.size,0,none⟩)]] wr (Quiet wr (.bool (xs.all (fun s=>isTerm G s||isNon G s)))):=fun wr hb=>
  all_ints (r2.below (hb.mono B0.size) hF) (fun b e=>Nat.lt_of_lt_of_le (hF b e) (Nat.le_trans B0.size hb.size)) Tryz.enters_known1 (known_clo (h2.below hb) (k1.below hb k1.lt))
 have cl2: ∀wr,Below w2.heap.size w2 wr-> ∀i v',(#[Value.int .i64 l,v]:Array Value)[i]? =some v'->wr.cell? ⟨w.heap.size+1,i,none⟩=some v':=fun wr hb i v e=>((k2.below hb k2.lt).cell i).trans e
 have hko:knownOf G (l,xs)=(isNon G l&&xs.all (fun s=>isTerm G s||isNon G s)):=rfl
 obtain⟨A1,c1,A2,c2,A3,c3,rfl,rfl,rfl,_⟩:=h.slices
 obtain⟨A,n,c,rfl,_⟩:=id hr
 generalize isNon G l=q1 at *
 generalize xs.all (fun s=>isTerm G s||isNon G s)=q2 at *
 have HKO:=hide hko
 have CN:=hide cn
 have CA:=hide ca
 have C2:=hide cl2
 have HB:=hide B0
 have hz:=B0.size
 have hmf: ∀(fn:Fn) (first cap:Array Value) (w:World),(Instr.makeFunc fn first cap).run Tryz.prog w= .ok (.func fn first cap) w:=fun _ _ _ _=>rfl
 clear hko cn ca cl2 k1 k2 h2 h r2 hr B0
 rw [hw2]at CN CA C2 HB
 clear hw2 hz
 go_enter Tryz.func150,Tryz.ntmps150
 go_wp2_with fail
 refine CN.out.mono ?_
 rintro e w3 ⟨rfl,b3⟩
 have m1:=C2.out w3 b3 1 _ rfl
 cases q1 with
 |false=>
  go_wp2_with fail
  go_ret
  exact⟨ret_bool (by rw [HKO.out];rfl),HB.out.trans (b3.mono HB.out.size)⟩
 |true=>
  go_wp2_with fail
  refine(CA.out _ b3).mono ?_
  rintro e w4 ⟨rfl,b4⟩
  go_wp2_with fail
  go_ret
  exact⟨ret_bool (by rw [HKO.out];cases q2<;>rfl),HB.out.trans ((b3.trans (b4.mono b3.size)).mono HB.out.size)⟩
theorem Tryz.enters_known3:Enters Tryz.prog 149:=enters_of Tryz.func149 (by kernel_rfl) rfl
theorem known3_clo {w:World} {F F':Nat->Prop} {vt vn vr:Value} {G:GramD} {st:Int} {B:Nat} (h:IsGram w F vt vn vr G) (k1:Blk w B 25 #[vt,vn,vr,.int .i64 st]) (hF: ∀b,F' b->b<w.heap.size):
  PredR w F' 149 #[.pointer (some ⟨B,0,none⟩)] (fun r=>knownOf G r):=by
 intro W v r hW hr
 obtain⟨W2,hW2⟩: ∃W2,W2=W.alloc (.cells #[.int .i64 r.1,v] 98):=⟨_,rfl⟩
 have b2:Below W.heap.size W W2:=by rw [hW2];exact(Below.refl _ W).alloc (Nat.le_refl _) _
 have hFW: ∀b,F' b->b<W.heap.size:=fun b e=>Nat.lt_of_lt_of_le (hF b e) hW.size
 have hk:=gram_known (l:=r.1) (h.below (hW.trans (b2.mono hW.size))) st (hr.below b2 hFW) (fun b e=>Nat.lt_of_lt_of_le (hFW b e) b2.size)
 have k2:=(k1.below hW k1.lt).below b2 (k1.below hW k1.lt).lt
 have k3:=k1.below hW k1.lt
 have hB:=k3.lt
 have cl: ∀i v',(#[vt,vn,vr,Value.int .i64 st]:Array Value)[i]? =some v'->W2.cell? ⟨B,i,none⟩=some v':=fun i v e=>(k2.cell i).trans e
 have p0:=cl 0 _ rfl
 have p1:=cl 1 _ rfl
 have p2:=cl 2 _ rfl
 have p3:=cl 3 _ rfl
 obtain⟨A1,c1,A2,c2,A3,c3,rfl,rfl,rfl,_⟩:=h.slices
 obtain⟨A,n,c,rfl,_⟩:=id hr
 rw [hW2]at hk p0 p1 p2 p3 b2
 show Calls Tryz.prog 149 #[.agg #[.int .i64 r.1,.slice A n c],.pointer (some ⟨B,0,none⟩)] W (Quiet W (.bool (knownOf G (r.1,r.2))))
 obtain⟨l,hl⟩: ∃l,l=r.1:=⟨_,rfl⟩
 rw [<-hl]at hk p0 p1 p2 p3 b2⊢
 generalize knownOf G (l,r.2)=q at *
 have HK:=hide hk
 have HB:=hide b2
 clear hW b2 hr hl hk k1 k2 k3 h cl hW2 hF hFW
 go_enter Tryz.func149,Tryz.ntmps149
 go_wp2_with fail
 refine HK.out.mono ?_
 rintro e w3 ⟨rfl,b3⟩
 go_wp2_with fail
 go_ret
 exact⟨rfl,HB.out.trans (b3.mono HB.out.size)⟩
end
section
open Go.RowKit
def shortOf (G:GramD):Bool:=G.rules.all (fun r=>decide (r.2.length<=8))
def manyOf (G:GramD):Bool:= !shortOf G||(decide (120<G.terms.length)||(decide (120<G.nons.length)||decide (300<G.rules.length)))
end
section
open Go.RowKit
theorem Tryz.enters_unlike1:Enters Tryz.prog 211:=enters_of Tryz.func211 (by kernel_rfl) rfl
set_option maxRecDepth 100000 in
set_option maxHeartbeats 1000000 in
theorem unlike_clo {w:World} {F F':Nat->Prop} {rs:List (Int×List Int)} {v:Value} {i:Nat} {ri:Int×List Int} {C1 C2 C3:Nat} (k1:Blk w C1 142 #[.func (.func 152) #[] #[]]) (k2:Blk w C2 23 #[v]) (k3:Blk w C3 3 #[.int .i64 i])
  (h:RdR w F' v rs) (hi:rs[i]? =some ri) (hF: ∀b,F b->b<w.heap.size) (hF': ∀b,F' b->b<w.heap.size):
  PredR w F 211 #[.pointer (some ⟨C1,0,none⟩),.pointer (some ⟨C2,0,none⟩),.pointer (some ⟨C3,0,none⟩)] (fun r=>decide (r=ri)):=by
 intro W u r hW hr
 have hil:=(List.getElem?_eq_some_iff.1 hi).1
 obtain⟨W2,hW2⟩: ∃W2,W2=W.alloc (.cells #[.int .i64 r.1,u] 98):=⟨_,rfl⟩
 have b2:Below W.heap.size W W2:=by rw [hW2];exact(Below.refl _ W).alloc (Nat.le_refl _) _
 have hb2:=hW.trans (b2.mono hW.size)
 have p1:W2.cell? ⟨C1,0,none⟩=some (.func (.func 152) #[] #[]):=((k1.below hb2 k1.lt).cell 0).trans rfl
 have p2:W2.cell? ⟨C2,0,none⟩=some v:=((k2.below hb2 k2.lt).cell 0).trans rfl
 have p3:W2.cell? ⟨C3,0,none⟩=some (.int .i64 i):=((k3.below hb2 k3.lt).cell 0).trans rfl
 obtain⟨A3,c3,rfl,_⟩:=id h
 obtain⟨-,hnc,hcm,hcell⟩:=ERule.at_ h
 obtain⟨b,off,rfl,hb,hc⟩:=hcell (by omega)
 obtain⟨l,x,vx,hx,hx0,hx1,hxr⟩:=RdR.get (n:=rs.length) hF' hb hb2 hc (k:=i) hil
 rw [hi]at hx
 injection hx with hx
 obtain⟨A5,n5,c5,rfl,_⟩:=id hxr
 obtain⟨A,n,c,rfl,_⟩:=id hr
 have hzW:w.heap.size<=W2.heap.size:=hb2.size
 have hs: ∀q,Calls Tryz.prog 152 #[.agg #[.int .i64 r.1,.slice A n c],.agg #[.int .i64 l,.slice A5 n5 c5]] (W2.drewN q) (Quiet (W2.drewN q) (.bool (decide ((r.1,r.2)=(l,x))))):=fun q=>
  same_rule ((hr.below b2 (fun b e=>Nat.lt_of_lt_of_le (hF b e) hW.size)).drewN q) (hxr.drewN q) (fun b e=>Nat.lt_of_lt_of_le (hF b e) hzW) (fun b e=>Nat.lt_of_lt_of_le (hF' b e) hzW)
 have hR:decide ((r.1,r.2)=(l,x))=decide (r=ri):=by rw [hx]
 have eg:=Tryz.enters_same
 have hl1:(i:Int)<(rs.length:Int):=by omega
 show Calls Tryz.prog 211 #[.agg #[.int .i64 r.1,.slice A n c],.pointer (some ⟨C1,0,none⟩),.pointer (some ⟨C2,0,none⟩),.pointer (some ⟨C3,0,none⟩)] W (Quiet W (.bool (decide (r=ri))))
 rw [hR]at hs
 generalize decide (r=ri)=q at *
 obtain⟨rl,hrl⟩: ∃rl,rl=r.1:=⟨_,rfl⟩
 rw [<-hrl]at hs hW2⊢
 obtain⟨R,hRR⟩: ∃R,R=rs.length:=⟨_,rfl⟩
 rw [<-hRR]at p2 hl1 hnc
 have HS:=hide hs
 have HB:=hide b2
 unfold maxLen at hcm
 clear hs hR hx hi hil hr hxr hrl hRR k1 k2 k3 hc hcell h hb hW b2 hF hF' hb2 hzW
 rw [hW2]at HS HB p1 p2 p3 hx0 hx1
 clear hW2
 go_enter Tryz.func211,Tryz.ntmps211
 go_wp2_with fail
 refine region_tail 6 (by kernel_rfl) (by kernel_rfl) ?_
 simp only [List.take_succ_cons,List.take_zero,List.drop_succ_cons,List.drop_zero]
 repeat still_step
 refine wpStill_nil ?_
 go_wp2_with (go_at_call 152;refine(HS.out _).mono ?_;rintro e w5 ⟨rfl,b5⟩)
 go_ret
 exact⟨rfl,(below_drewN HB.out 1).trans (b5.mono HB.out.size)⟩
end
section
open Go.RowKit
theorem RdR.take {w:World} {F:Nat->Prop} {A:Option Addr} {n c k:Nat} {rs:List (Int×List Int)} (h:RdR w F (.slice A n c) rs) (hk:k<=n):RdR w F (.slice A k c) (rs.take k):=by
 obtain⟨A',c',e,h1,h2,hr⟩:=h
 injection e with e1 e2 e3
 subst e1 e2 e3
 refine⟨A,c,by rw [List.length_take,Nat.min_eq_left hk],by rw [List.length_take];omega,h2,fun hn=> ?_⟩
 rw [List.length_take]at hn
 obtain⟨b,off,hA,hF,hc⟩:=hr (by omega)
 refine⟨b,off,hA,hF,fun i x hx=>hc i x ?_⟩
 have hi:=(List.getElem?_eq_some_iff.1 hx).1
 rw [List.length_take]at hi
 rw [List.getElem?_take_of_lt (by omega)]at hx
 exact hx
def unlikeUpto (rs:List (Int×List Int)) (k:Nat):Bool:=(List.range k).all (fun i=> !(rs.take i).any (fun r=>decide (some r=rs[i]?)))
def unlikeOf (rs:List (Int×List Int)):Bool:=unlikeUpto rs rs.length
theorem unlikeUpto_succ {rs:List (Int×List Int)} {k:Nat} {ri:Int×List Int} (h:rs[k]? =some ri):unlikeUpto rs (k+1)=(unlikeUpto rs k&& !(rs.take k).any (fun r=>decide (r=ri))):=by
 unfold unlikeUpto
 rw [List.range_succ,List.all_append]
 simp [h]
end
section
open Go.RowKit
theorem unlikeUpto_mono {rs:List (Int×List Int)} {k n:Nat} (hk:k<=n) (h:unlikeUpto rs k=false):unlikeUpto rs n=false:=by
 unfold unlikeUpto at *
 rw [List.all_eq_false]at *
 obtain⟨i,hi,e⟩:=h
 rw [List.mem_range]at hi
 exact⟨i,List.mem_range.2 (by omega),e⟩
set_option maxRecDepth 100000 in
set_option maxHeartbeats 1000000 in
theorem gram_unlike {w:World} {F:Nat->Prop} {v:Value} {rs:List (Int×List Int)} (h:RdR w F v rs) (hF: ∀b,F b->b<w.heap.size):
  Calls Tryz.prog 151 #[v,.func (.func 152) #[] #[]] w (Quiet w (.bool (unlikeOf rs))):=by
 obtain⟨A,c,rfl,_⟩:=id h
 obtain⟨-,hnc,hcm,-⟩:=ERule.at_ h
 obtain⟨n,en⟩: ∃n,n=rs.length:=⟨_,rfl⟩
 have hend:unlikeUpto rs n=unlikeOf rs:=by rw [en];rfl
 rw [<-en]at hnc h⊢
 unfold maxLen at hcm
 obtain⟨w2,hw2⟩: ∃w2,w2=(w.alloc (.cells #[.slice A n c] 23)).alloc (.cells #[.func (.func 152) #[] #[]] 142):=⟨_,rfl⟩
 have B0:Below w.heap.size w w2:=by rw [hw2];exact((Below.refl _ w).alloc (Nat.le_refl _) _).alloc (by simp) _
 have k1:Blk w2 w.heap.size 23 #[.slice A n c]:=by rw [hw2];exact(Blk.new w _ _).alloc _
 have k2:Blk w2 (w.heap.size+1) 142 #[.func (.func 152) #[] #[]]:=by
  rw [hw2]
  have:=Blk.new (w.alloc (.cells #[.slice A n c] 23)) 142 #[.func (.func 152) #[] #[]]
  simpa using this
 have con: ∀(wr:World) (k:Nat) (ri:Int×List Int),k<=n->rs[k]? =some ri->Below w2.heap.size w2 wr->Calls Tryz.prog 202 #[.slice A k c,.func (.func 211) #[] #[.pointer (some ⟨w.heap.size+1,0,none⟩),.pointer (some ⟨w.heap.size,0,none⟩),.pointer (some ⟨wr.heap.size,0,none⟩)]] (wr.alloc (.cells #[.int .i64 k] 3)) (Quiet (wr.alloc (.cells #[.int .i64 k] 3)) (.bool ((rs.take k).any (fun r=>decide (r=ri))))):=fun wr k ri hk hi hb=>by
  have hb':=hb.alloc hb.size (.cells #[.int .i64 k] 3)
  have h3:=h.below (B0.trans (hb'.mono B0.size)) hF
  have hl: ∀b,F b->b<(wr.alloc (.cells #[.int .i64 k] 3)).heap.size:=fun b e=>Nat.lt_of_lt_of_le (hF b e) (Nat.le_trans B0.size hb'.size)
  exact contains_rules (h3.take hk) hl Tryz.enters_unlike1 (unlike_clo (k2.below hb' k2.lt) (k1.below hb' k1.lt) (Blk.new wr _ _) h3 hi hl hl)
 have q1: ∀wr,Below w2.heap.size w2 wr->wr.cell? ⟨w.heap.size,0,none⟩=some (.slice A n c):=fun wr hb=>((k1.below hb k1.lt).cell 0).trans rfl
 have z0:w2.heap.size=w.heap.size+2:=by rw [hw2];simp
 have HN:=hide en
 have HE:=hide hend
 have CON:=hide con
 have Q1:=hide q1
 have HB:=hide B0
 have HW2:=hide hw2
 clear h en hend con q1 k1 k2 B0 hF
 go_enter Tryz.func151,Tryz.ntmps151
 go_wp2_with fail
 rw [<-hw2]
 clear hw2
 go_loopw [8] (fun i wr=> ∃k:Nat,k<=n/\i= .int .i64 k/\unlikeUpto rs k=true/\Below w2.heap.size w2 wr) (fun i _=>n - (intOf i).toNat)
 case atStart=>exact⟨0,Nat.zero_le _,rfl,rfl,Below.refl _ _⟩
 case round=>
  obtain⟨k,hk,rfl,hu,hw⟩:=hrel
  have HU:=hide hu
  have HW:=hide hw
  have r1:=Q1.out wr hw
  have hwz:=hw.size
  have r2:=cell_a r1 (.cells #[.int .i64 k] 3)
  clear hu
  by_cases hlt:k<n
  ·obtain⟨ri,hi⟩: ∃x,rs[k]? =some x:=⟨_,List.getElem?_eq_getElem (by rw [<-HN.out];omega)⟩
   have hc:=CON.out wr k ri hk hi hw
   have hsu:=unlikeUpto_succ hi
   rw [HU.out]at hsu
   have HI:=hide hi
   generalize (rs.take k).any (fun r=>decide (r=ri))=q at hc hsu
   have HC:=hide hc
   have HS:=hide hsu
   have b1:Below wr.heap.size wr (wr.alloc (.cells #[.int .i64 k] 3)):=(Below.refl _ wr).alloc (Nat.le_refl _) _
   have HB1:=hide b1
   have hmf: ∀(fn:Fn) (first cap:Array Value) (w:World),(Instr.makeFunc fn first cap).run Tryz.prog w= .ok (.func fn first cap) w:=fun _ _ _ _=>rfl
   clear hc hsu hi hw b1
   go_wp2_with fail
   refine HC.out.mono ?_
   rintro e w3 ⟨rfl,b3⟩
   have b4:=HB1.out.trans (b3.mono HB1.out.size)
   cases q with
   |true=>
    go_wp2_with fail
    go_ret
    exact⟨ret_bool (by rw [<-HE.out];exact(unlikeUpto_mono (k:=k+1) (by omega) (by rw [HS.out];rfl)).symm),HB.out.trans ((HW.out.trans (b4.mono hwz)).mono HB.out.size)⟩
   |false=>
    go_wp2_with fail
    go_roundw
    case rel=>exact⟨k+1,by omega,by go_num,by rw [HS.out];rfl,HW.out.trans (b4.mono hwz)⟩
    case measure=>simp [intOf];omega
  ·have hkn:k=n:=by omega
   clear hw
   go_wp2_with fail
   go_ret
   exact⟨ret_bool (by rw [<-HE.out,<-hkn];exact HU.out.symm),HB.out.trans (HW.out.mono HB.out.size)⟩
end
end
section
section
open Go.RowKit
structure GBox (w:World) (F:Nat->Prop) (B:Nat) (A1:Option Addr) (c1:Nat) (A2:Option Addr) (c2:Nat) (A3:Option Addr) (c3 T N R:Nat) (st:Int) (G:GramD):Prop where
 gram:IsGram w F (.slice A1 T c1) (.slice A2 N c2) (.slice A3 R c3) G
 blk:Blk w B 25 #[.slice A1 T c1,.slice A2 N c2,.slice A3 R c3,.int .i64 st]
 t:T=G.terms.length
 n:N=G.nons.length
 r:R=G.rules.length
 tc:T<=c1
 nc:N<=c2
 rc:R<=c3
 c1m:c1<=9223372036854775807
 c2m:c2<=9223372036854775807
 c3m:c3<=9223372036854775807
 ts:T<=8796093022207
 ns:N<=8796093022207
 rs:R<=4398046511103
section
variable {w w' : World} {F : Nat -> Prop} {B : Nat} {A1 A2 A3 : Option Addr} {c1 c2 c3 T N R : Nat} {st : Int} {G : GramD}
theorem GBox.below (h:GBox w F B A1 c1 A2 c2 A3 c3 T N R st G) (hb:Below w.heap.size w w'):GBox w' F B A1 c1 A2 c2 A3 c3 T N R st G:=
 ⟨h.gram.below hb,h.blk.below hb h.blk.lt,h.t,h.n,h.r,h.tc,h.nc,h.rc,h.c1m,h.c2m,h.c3m,h.ts,h.ns,h.rs⟩
theorem GBox.cells (h:GBox w F B A1 c1 A2 c2 A3 c3 T N R st G):w.cell? ⟨B,0,none⟩=some (.slice A1 T c1)/\w.cell? ⟨B,1,none⟩=some (.slice A2 N c2)/\w.cell? ⟨B,2,none⟩=some (.slice A3 R c3)/\w.cell? ⟨B,3,none⟩=some (.int .i64 st):=
 ⟨(h.blk.cell 0).trans rfl,(h.blk.cell 1).trans rfl,(h.blk.cell 2).trans rfl,(h.blk.cell 3).trans rfl⟩
theorem GBox.rule (h:GBox w F B A1 c1 A2 c2 A3 c3 T N R st G) {k:Nat} (hk:k<R): ∃(b off:Nat) (l:Int) (x:List Int) (A:Option Addr) (n c:Nat),A3=some ⟨b,off,none⟩/\b<w.heap.size/\G.rules[k]? =some (l,x)/\w.cell? ⟨b,off+k * 2,none⟩=some (.int .i64 l)/\w.cell? ⟨b,off+k * 2+1,none⟩=some (.slice A n c)/\RdI w F (.slice A n c) x/\n=x.length/\n<=c/\c<=9223372036854775807:=by
 obtain⟨-,-,-,hcell⟩:=ERule.at_ h.gram.rules
 obtain⟨b,off,hA,hb,hc⟩:=hcell (by omega)
 obtain⟨l,x,v,hx,h0,h1,hr⟩:=RdR.get (n:=R) h.gram.lt hb (Below.refl _ w) hc (k:=k) (by rw [<-h.r];exact hk)
 obtain⟨A,n,c,rfl,_⟩:=id hr
 obtain⟨hn,hnc,hcm,-⟩:=RdI.at_ hr
 exact⟨b,off,l,x,A,n,c,hA,h.gram.lt b hb,hx,h0,h1,hr,hn,hnc,hcm⟩
theorem GBox.new (h:IsGram w F (.slice A1 T c1) (.slice A2 N c2) (.slice A3 R c3) G) (st:Int):GBox (w.alloc (.cells #[.slice A1 T c1,.slice A2 N c2,.slice A3 R c3,.int .i64 st] 25)) F w.heap.size A1 c1 A2 c2 A3 c3 T N R st G:=by
 have hb:Below w.heap.size w (w.alloc (.cells #[.slice A1 T c1,.slice A2 N c2,.slice A3 R c3,.int .i64 st] 25)):=(Below.refl _ w).alloc (Nat.le_refl _) _
 obtain⟨a1,d1,a2,d2,a3,d3,e1,e2,e3,l1,l2,l3,m1,m2,m3⟩:=h.slices
 injection e1 with e1 f1 g1
 injection e2 with e2 f2 g2
 injection e3 with e3 f3 g3
 obtain⟨s1,s2,s3⟩:=h.small
 exact⟨h.below hb,Blk.new w _ _,f1,f2,f3,by omega,by omega,by omega,by omega,by omega,by omega,by omega,by omega,by omega⟩
end
end
section
open Go.RowKit
attribute [local irreducible] wpStill wpOne wpPh
def allKnown (G:GramD) (st:Int):Bool:=isNon G st&&G.rules.all (fun r=>knownOf G r)
end
end
open Go.RowKit
def classOf (c:Int):Int:=if c=0 then 0 else if c=32\/c=9 then 1 else if c=10 then 2 else if 48<=c/\c<=57 then 3 else if(97<=c/\c<=122)\/(65<=c/\c<=90)\/c=95 then 4 else if c=38\/c=124\/c=59\/c=60\/c=62\/c=40\/c=41 then 5 else if c=39\/c=34\/c=92\/c=96 then 6 else if c=36 then 7 else 8
end Go.Proofs.YthlbjgabhpdbfaaGreat

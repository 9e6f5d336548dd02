/- Of no program: a drawn region whose stores wait for all else: what comes ahead of them in whatever order, S behind each; then the stores. -/
import Derived.Test.YthlbjgabhpdbfaaGreatABitsL
import Derived.Test.YthlbjgabhpdbfaaGreatAActs4
namespace Go.Proofs.YthlbjgabhpdbfaaGreat
set_option linter.unusedVariables false
open Go Go.RowKit
section
variable {P : Program} {ops : Array Oper} {md : Region.Mode} {S : World -> Prop} {Q : Exit -> Act -> World -> Prop}
def wpHq (P:Program) (md:Region.Mode) (ops:Array Oper) (Q:Exit->Act->World->Prop) (S:World->Prop) (hd:Nat->Bool) (L:Array Bool->Act->World->Prop):Nat->Array Bool->Act->World->Prop
 |0,listed,a,w=>L listed a w
 |f+1,listed,a,w=>Region.ready md ops listed≠[]/\ ∀j∈Region.ready md ops listed,hd j=true/\wpOp P ops Q j (fun a' w'=>S w'/\wpHq P md ops Q S hd L f (listed.setIfInBounds j true) a' w') a w
theorem wpAny_of_hq {hd:Nat->Bool} {g:Nat} {L:Array Bool->Act->World->Prop} (hL: ∀listed a w,L listed a w->wpAny P md ops Q g listed a w):
  ∀(f:Nat) (listed:Array Bool) (a:Act) (w:World),wpHq P md ops Q S hd L f listed a w->wpAny P md ops Q (f+g) listed a w
 |0,listed,a,w,h=>by rw [Nat.zero_add];exact hL _ _ _ h
 |f+1,listed,a,w,h=>by
  rw [show f+1+g=(f+g)+1 by omega]
  exact⟨fun h0=>absurd h0 h.1,fun i hi=>wpOp_mono (fun a' w' h'=>wpAny_of_hq hL f _ a' w' h'.2) (h.2 i hi).2⟩
def waitsF (md:Region.Mode) (ops:Array Oper):Nat->Oper->Nat->Bool
 |0,_,_=>false
 |f+1,oj,i=>oj.after.any fun e=>Region.binds md e&&(decide (e.on=i)||match ops[e.on]? with
  |none=>false
  |some ok=>waitsF md ops f ok i)
def waitsB (md:Region.Mode) (ops:Array Oper) (hd:Nat->Bool):Bool:=(List.range ops.size).all fun j=>hd j||match ops[j]? with
 |none=>true
 |some oj=>(List.range ops.size).all fun i=> !hd i||waitsF md ops 3 oj i
def ClosedQ (md:Region.Mode) (ops:Array Oper) (listed:Array Bool):Prop:= ∀(k:Nat) (ok:Oper),ops[k]? =some ok->listed.getD k false=true-> ∀e∈ok.after,Region.binds md e=true->listed.getD e.on false=true
def closedQ (md:Region.Mode) (ops:Array Oper) (listed:Array Bool):Bool:=(List.range ops.size).all fun k=> !listed.getD k false||match ops[k]? with
 |none=>true
 |some ok=>ok.after.all fun e=> !Region.binds md e||listed.getD e.on false
theorem closedQ_spec {listed:Array Bool} (h:closedQ md ops listed=true):ClosedQ md ops listed:=fun k ok hk hl e he hb=>by
 unfold closedQ at h
 rw [List.all_eq_true]at h
 have h1:=h k (List.mem_range.2 (Array.getElem?_eq_some_iff.1 hk).1)
 rw [hl,hk,Bool.not_true,Bool.false_or]at h1
 simp only at h1
 rw [Array.all_eq_true]at h1
 obtain⟨n,hn,rfl⟩:=Array.mem_iff_getElem.1 he
 have h2:=h1 n hn
 rw [hb,Bool.not_true,Bool.false_or]at h2
 exact h2
theorem getD_set_keepQ {l:Array Bool} {i k:Nat} (h:l.getD k false=true):(l.setIfInBounds i true).getD k false=true:=by
 by_cases hik:i=k
 ·subst hik
  rw [Array.getD_eq_getD_getElem?]at h⊢
  rw [Array.getElem?_setIfInBounds]
  by_cases hl:i<l.size
  ·simp [hl]
  ·rw [Array.getElem?_eq_none (by omega)]at h;cases h
 ·rw [Array.getD_eq_getD_getElem?]at h⊢
  rw [Array.getElem?_setIfInBounds,if_neg hik]
  exact h
theorem ClosedQ.set {listed:Array Bool} {i:Nat} (h:ClosedQ md ops listed) (hr:i∈Region.ready md ops listed):ClosedQ md ops (listed.setIfInBounds i true):=fun k ok hk hl e he hb=>by
 by_cases hik:i=k
 ·subst hik
  obtain⟨_,oj,hoj,hall⟩:=mem_ready.1 hr
  rw [hoj]at hk
  cases hk
  exact getD_set_keepQ (hall e he hb)
 ·refine getD_set_keepQ (h k ok hk ?_ e he hb)
  rw [Array.getD_eq_getD_getElem?]at hl⊢
  rw [Array.getElem?_setIfInBounds,if_neg hik]at hl
  exact hl
theorem waitsF_spec {listed:Array Bool} (hc:ClosedQ md ops listed) {i:Nat}: ∀(f:Nat) (oj:Oper),(∀e∈oj.after,Region.binds md e=true->listed.getD e.on false=true)->waitsF md ops f oj i=true->listed.getD i false=true
 |0,_,_,h=>by cases h
 |f+1,oj,hall,h=>by
  unfold waitsF at h
  rw [Array.any_eq_true]at h
  obtain⟨n,hn,e⟩:=h
  rw [Bool.and_eq_true,Bool.or_eq_true,decide_eq_true_eq]at e
  have l1:=hall _ (Array.getElem_mem hn) e.1
  rcases e.2 with e2|e2
  ·rw [e2]at l1;exact l1
  ·split at e2
   ·cases e2
   ·rename_i ok hok
    exact waitsF_spec hc f ok (fun e he hb=>hc _ ok hok l1 e he hb) e2
theorem waitsB_spec {hd:Nat->Bool} (h:waitsB md ops hd=true) {listed:Array Bool} (hc:ClosedQ md ops listed) {i j:Nat} {oj:Oper} (hj:ops[j]? =some oj) (h1:hd j=false) (h2:hd i=true) (hi:i<ops.size)
  (hall: ∀e∈oj.after,Region.binds md e=true->listed.getD e.on false=true):listed.getD i false=true:=by
 unfold waitsB at h
 rw [List.all_eq_true]at h
 have hjs:=(Array.getElem?_eq_some_iff.1 hj).1
 have k:=h j (List.mem_range.2 hjs)
 rw [h1,Bool.false_or,hj]at k
 simp only at k
 rw [List.all_eq_true]at k
 have k2:=k i (List.mem_range.2 hi)
 rw [h2,Bool.not_true,Bool.false_or]at k2
 exact waitsF_spec hc 3 oj hall k2
theorem wpHq_first {hd:Nat->Bool} {i:Nat} {oi:Oper} {v:Value} {L:Array Bool->Act->World->Prop} (hi:ops[i]? =some oi) (hsel: ∀(j:Nat) (o:Oper) cs b,ops[j]? =some o->o.op≠ .select cs b)
  (hQ: ∀c a w,Q (.panic c) (a.put oi.dst v) w->Q (.panic c) a w) (hw:waitsB md ops hd=true) (him:hd i=true)
  (hdone: ∀listed a w,L listed a w-> ∀j∈Region.ready md ops listed,hd j=false):
  ∀(f:Nat) (listed:Array Bool) (a:Act) (w:World),
   (∀j oj,ops[j]? =some oj->j≠i->listed.getD j true=false->(∀e∈oj.after,Region.binds md e=true->e.on≠i)->oi.apart ops oj=true)->
   ClosedQ md ops listed->i∈Region.ready md ops listed->YieldsIf P ops S oi v a->S w->
   wpHq P md ops Q S hd L f (listed.setIfInBounds i true) (a.put oi.dst v) w->wpHq P md ops Q S hd L (f+1) listed a w:=by
 have his:=(Array.getElem?_eq_some_iff.1 hi).1
 have head: ∀(listed:Array Bool),ClosedQ md ops listed->i∈Region.ready md ops listed-> ∀j∈Region.ready md ops listed,hd j=true:=fun listed hc hr j hj=>by
  cases hh:hd j with
  |true=>rfl
  |false=>
   obtain⟨hjun,oj,hoj,hall⟩:=mem_ready.1 hj
   have h1:=waitsB_spec hw hc hoj hh him his hall
   rw [getD_both (mem_ready.1 hr).1]at h1
   cases h1
 intro f
 induction f with
 |zero=>
  intro listed a w _ hc hr hy hS H
  refine⟨fun h=>(by rw [h]at hr;cases hr),fun j hj=>⟨head listed hc hr j hj,?_⟩⟩
  by_cases hji:j=i
  ·subst hji;exact hy.wpOp hi hS ⟨hS,H⟩
  ·have:=hdone _ _ _ H j (ready_mono hj hji)
   rw [head listed hc hr j hj]at this
   cases this
 |succ f ih=>
  intro listed a w hfree hc hr hy hS H
  have hun:=(mem_ready.1 hr).1
  refine⟨fun h=>(by rw [h]at hr;cases hr),fun j hj=>⟨head listed hc hr j hj,?_⟩⟩
  by_cases hji:j=i
  ·subst hji;exact hy.wpOp hi hS ⟨hS,H⟩
  ·have h1:=(H.2 j (ready_mono hj hji)).2
   obtain⟨hjun,oj,hoj,hall⟩:=mem_ready.1 hj
   have hnot: ∀e∈oj.after,Region.binds md e=true->e.on≠i:=fun e he hb heq=>by
    have h1:=hall e he hb
    rw [heq,getD_both hun]at h1
    cases h1
   have h2:=wpOp_putIf hoj (hfree j oj hoj hji hjun hnot) (fun cs b=>hsel i oi cs b hi) (fun cs b=>hsel j oj cs b hoj) hQ hy h1
   have hfree': ∀k ok,ops[k]? =some ok->k≠i->(listed.setIfInBounds j true).getD k true=false->
     (∀e∈ok.after,Region.binds md e=true->e.on≠i)->oi.apart ops ok=true:=fun k ok hk hki hun hno=>by
    refine hfree k ok hk hki ?_ hno
    by_cases hjk:j=k
    ·subst hjk;exact hjun
    ·rw [getD_set_ne true hjk]at hun;exact hun
   refine wpOp_mono (fun a' w' h3=>⟨h3.2.1,ih (listed.setIfInBounds j true) a' w' hfree' (hc.set hj) (ready_mono hr (Ne.symm hji)) h3.1 h3.2.1 ?_⟩) h2
   rw [Array.setIfInBounds_comm _ _ hji]
   exact h3.2.2
end
section
variable {P : Program} {ops : Array Oper} {md : Region.Mode} {S : World -> Prop} {Q : Exit -> Act -> World -> Prop}
def Lq (P:Program) (md:Region.Mode) (ops:Array Oper) (Q:Exit->Act->World->Prop) (hd:Nat->Bool) (g:Nat) (listed:Array Bool) (a:Act) (w:World):Prop:=
 ((Region.ready md ops listed).all fun j=> !hd j)=true/\wpAny P md ops Q g listed a w
theorem wpHq_take {hd:Nat->Bool} {g i:Nat} {oi:Oper} {v:Value} {fuel:Nat} {listed:Array Bool} {a:Act} {w:World} (hi:ops[i]? =some oi)
  (hs:Region.noSelect ops=true) (hwt:waitsB md ops hd=true) (him:hd i=true) (hcl:closedQ md ops listed=true) (hf:Region.free md ops listed i=true) (hr:(Region.ready md ops listed).contains i=true)
  (hQ: ∀c a w,Q (.panic c) (a.put oi.dst v) w->Q (.panic c) a w) (hy:YieldsIf P ops S oi v a) (hS:S w)
  (h:wpHq P md ops Q S hd (Lq P md ops Q hd g) fuel (listed.setIfInBounds i true) (a.put oi.dst v) w):wpHq P md ops Q S hd (Lq P md ops Q hd g) (fuel+1) listed a w:=
 wpHq_first hi (Region.noSelect_spec hs) hQ hwt him (fun l b u hL j hj=>by
  have:=(List.all_eq_true.1 hL.1) j hj
  simpa using this) fuel listed a w (Region.free_spec hi hf) (closedQ_spec hcl) (by simpa using hr) hy hS h
theorem tkq {hd:Nat->Bool} {g i:Nat} {oi:Oper} {v:Value} {fuel:Nat} {listed:Array Bool} {a:Act} {w:World} (hi:ops[i]? =some oi)
  (hb:(Region.noSelect ops&&(waitsB md ops hd&&(hd i&&(closedQ md ops listed&&(Region.free md ops listed i&&(Region.ready md ops listed).contains i)))))=true)
  (hQ: ∀c a w,Q (.panic c) (a.put oi.dst v) w->Q (.panic c) a w) (hy:YieldsIf P ops S oi v a) (hS:S w)
  (h:wpHq P md ops Q S hd (Lq P md ops Q hd g) fuel (listed.setIfInBounds i true) (a.put oi.dst v) w):wpHq P md ops Q S hd (Lq P md ops Q hd g) (fuel+1) listed a w:=by
 rw [Bool.and_eq_true,Bool.and_eq_true,Bool.and_eq_true,Bool.and_eq_true,Bool.and_eq_true]at hb
 exact wpHq_take hi hb.1 hb.2.1 hb.2.2.1 hb.2.2.2.1 hb.2.2.2.2.1 hb.2.2.2.2.2 hQ hy hS h
def AllReadyQ (P:Program) (md:Region.Mode) (ops:Array Oper) (Q:Exit->Act->World->Prop) (S:World->Prop) (hd:Nat->Bool) (L:Array Bool->Act->World->Prop) (f:Nat) (listed:Array Bool) (a:Act) (w:World) (rs:List Nat):Prop:=
 ∀i∈rs,wpOp P ops Q i (fun a' w'=>S w'/\wpHq P md ops Q S hd L f (listed.setIfInBounds i true) a' w') a w
theorem AllReadyQ.nil {hd:Nat->Bool} {L:Array Bool->Act->World->Prop} {f:Nat} {listed:Array Bool} {a:Act} {w:World}:AllReadyQ P md ops Q S hd L f listed a w []:=fun _ h=>(by cases h)
theorem AllReadyQ.cons {hd:Nat->Bool} {L:Array Bool->Act->World->Prop} {f i:Nat} {o:Oper} {is:List Nat} {listed:Array Bool} {a:Act} {w:World} (ho:ops[i]? =some o)
  (h: ∀K':Act->World->Prop,Shut (∀a w,S w->(S w->wpHq P md ops Q S hd L f (listed.setIfInBounds i true) a w)->K' a w)->if Region.wanted o (yielded ops a.tmps)=true then Oper.wp P o a w K' Q else K' (a.put o.dst undef) w)
  (h2:AllReadyQ P md ops Q S hd L f listed a w is):AllReadyQ P md ops Q S hd L f listed a w (i::is):=fun j hj=>by
 rcases List.mem_cons.1 hj with rfl|hj
 ·exact wpOp_step ho (fun K' hK=>h K' (fun a w hS hW=>hK a w ⟨hS,hW hS⟩))
 ·exact h2 j hj
theorem wpHq_ready {hd:Nat->Bool} {L:Array Bool->Act->World->Prop} {rs:List Nat} {f:Nat} {listed:Array Bool} {a:Act} {w:World} (hr:Region.ready md ops listed=rs) (hne:rs≠[]) (hh:rs.all hd=true)
  (h:AllReadyQ P md ops Q S hd L f listed a w rs):wpHq P md ops Q S hd L (f+1) listed a w:=by
 subst hr
 exact⟨hne,fun j hj=>⟨(List.all_eq_true.1 hh) j hj,h j hj⟩⟩
theorem wpHq_seq {hd:Nat->Bool} {g:Nat} (k:Nat) {listed:Array Bool} {a:Act} {w:World} (hg:(ops.toList.drop k).length=g) (hr:((Region.ready md ops listed).all fun j=> !hd j)=true) (hB:Region.seqB md ops g k listed=true) (h:wpList P ops Q (ops.toList.drop k) a w):
  wpHq P md ops Q S hd (Lq P md ops Q hd g) 0 listed a w:=⟨hr,by
 subst hg
 exact wpAny_of_seq _ k _ a w (fun j=>by rw [List.getElem?_drop,Array.getElem?_toList]) hB h⟩
theorem wp_region_hq (f g:Nat) (hd:Nat->Bool) {id:Nat} {a:Act} {w:World} (hm:P.follows .mixedOrders=true) (hfg:f+g=ops.size)
  (hS:S w.drew) (h:S w.drew->wpHq P .any ops Q S hd (Lq P .any ops Q hd g) f (Array.replicate ops.size false) a w.drew):(Code.region id ops true).wp P Q a w:=
 wp_region_any hm (by
  have:=wpAny_of_hq (fun _ _ _ hL=>hL.2) f _ _ _ (h hS)
  rwa [hfg]at this)
end
end Go.Proofs.YthlbjgabhpdbfaaGreat
namespace Go.Proofs.YthlbjgabhpdbfaaGreat
set_option linter.unusedVariables false
open Go.RowKit
theorem Tryz.step_RA {ops:Array Oper} {o:Oper} {a:Act} {w:World} {K:Act->World->Prop} {Q:Exit->Act->World->Prop} {E':Prop} (hgd:o.guard=none) (x:Operand) (ho:o.op= .buildSlice 32 1 #[(0,x)]) (v:Value) (hx:a.eval x=v) {A:Option Addr} {n c:Nat} (hv:v= .slice A n c)
  (h:K (a.put o.dst (.slice (some ⟨w.heap.size,0,none⟩) 1 1)) (w.alloc (.cells #[v] 113))):if Region.wanted o (yielded ops a.tmps)=true then Oper.wp Tryz.prog o a w K Q else E':=by
 have hw:Region.wanted o (yielded ops a.tmps)=true:=by simp [Region.wanted,hgd]
 rw [if_pos hw]
 subst hv
 unfold Oper.wp execOp
 simp only [ho,List.map_toArray,List.map_cons,List.map_nil,hx]
 go_simp
 exact h
theorem Tryz.step_RI {ops:Array Oper} {o:Oper} {a:Act} {w:World} {K:Act->World->Prop} {Q:Exit->Act->World->Prop} {E':Prop} (hgd:o.guard=none) (x:Operand) (ho:o.op= .buildSlice 33 1 #[(0,x)]) (v:Value) (hx:a.eval x=v) {A:Option Addr} {n c:Nat} (hv:v= .slice A n c)
  (h:K (a.put o.dst (.slice (some ⟨w.heap.size,0,none⟩) 1 1)) (w.alloc (.cells #[v] 49))):if Region.wanted o (yielded ops a.tmps)=true then Oper.wp Tryz.prog o a w K Q else E':=by
 have hw:Region.wanted o (yielded ops a.tmps)=true:=by simp [Region.wanted,hgd]
 rw [if_pos hw]
 subst hv
 unfold Oper.wp execOp
 simp only [ho,List.map_toArray,List.map_cons,List.map_nil,hx]
 go_simp
 exact h
end Go.Proofs.YthlbjgabhpdbfaaGreat

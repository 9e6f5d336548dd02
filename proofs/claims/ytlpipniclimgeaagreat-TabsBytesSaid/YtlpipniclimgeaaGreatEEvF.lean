/- The reckoning machine: drawn regions, frames, steps, tables. -/
import Derived.Test.YtlpipniclimgeaaGreatEEvE
import Derived.AtR
import Derived.Defers
import Derived.RangeFuncIn
import Derived.RangeFuncNested
import Derived.Laws.Externs
namespace Go.Ev
open Go Go.RowKit
set_option linter.unusedVariables false
set_option linter.unusedSimpArgs false
def Grows (h h':H):Prop:= ∀b,hget h b≠ .dead->hget h' b=hget h b
section
variable {T : Tab} {h h' : H} {tm : Tr Value} {o : Oper} {v : Value}
theorem Grows.cells (g:Grows h h') {b:Nat} {c:Cells} (hc:oCells (hget h b)=some c):oCells (hget h' b)=some c:=by
 rw [g b (by rw [oCells_some hc];exact fun e=>by cases e)];exact hc
theorem Grows.load (g:Grows h h') {a:Addr} {n:Nat} {l:List Value} (hl:loadN h a n=some l):loadN h' a n=some l:=by
 obtain⟨c,h1,h2⟩:=ob_some.1 hl
 unfold loadN
 rw [g.cells h1]
 exact h2
theorem Grows.entries (g:Grows h h') {es:List MapEntry} (he:entries h v=some es):entries h' v=some es:=by
 obtain⟨r,h1,h2⟩:=ob_some.1 he
 unfold Ev.entries
 rw [h1]
 cases r with
 |none=>exact h2
 |some r=>
  obtain⟨p,h3,h4⟩:=ob_some.1 (show(ob (oMap (hget h r)) fun p=>some p.1)=some es from h2)
  show(ob (oMap (hget h' r)) fun p=>some p.1)=some es
  rw [g r (by rw [oMap_some h3];exact fun e=>by cases e),h3]
  exact h4
theorem rd_eq {x y:Option Value} {v:Value} (hxy: ∀v,x=some v->y=some v) (h:rd x=some (.rd v)):rd y=some (.rd v):=by
 obtain⟨u,h1,h2⟩:=rd_some h
 injection h2 with h2
 subst h2
 rw [hxy _ h1]
 rfl
theorem tn_rd {p:Option (ANext×H)} (h:tn p=some (.rd v)):False:=by
 obtain⟨q,-,e⟩:=tn_some h
 cases e
theorem mk_rd {p:Option (AObj×Mk)} (h:mk p=some (.rd v)):False:=by
 obtain⟨q,-,e⟩:=mk_some h
 cases e
theorem aop_grows (g:Grows h h') (hr:aop T h tm o=some (.rd v)):aop T h' tm o=some (.rd v):=by
 unfold aop at hr⊢
 cases hop:o.op with
 |load t x=>
  rw [hop]at hr
  refine rd_eq (fun v e=> ?_) (show rd (r_load T h tm t x)=some (.rd v)from hr)
  unfold r_load at e⊢
  obtain⟨i,h1,h2⟩:=ob_some.1 e
  obtain⟨u,h3,h4⟩:=ob_some.1 h2
  rw [h1,h3]
  unfold aload at h4
  obtain⟨a,h5,h6⟩:=ob_some.1 h4
  obtain⟨cs,h7,h8⟩:=ob_some.1 h6
  show aload h' i u=some v
  unfold aload
  rw [h5]
  show(ob (loadN h' a i.size) fun cs=>one cs i.agg)=some v
  rw [g.load h7]
  exact h8
 |lookup t x i k=>
  rw [hop]at hr
  refine rd_eq (fun v e=> ?_) (show rd (r_lookup T h tm t x i k)=some (.rd v)from hr)
  unfold r_lookup at e⊢
  obtain⟨i,h1,h2⟩:=ob_some.1 e
  obtain⟨m,h3,h4⟩:=ob_some.1 h2
  obtain⟨kk,h5,h6⟩:=ob_some.1 h4
  obtain⟨q,h7,h8⟩:=ob_some.1 h6
  obtain⟨es,h9,h10⟩:=ob_some.1 h8
  rw [h1,h3,h5]
  show(ob (mapE i.und) fun q=>ob (entries h' m) fun es=>ob (keyOk T es.isEmpty q.1 kk) fun _=>ob (findE T.P q.1 kk es) fun r=>Option.rec (ob (zeroOf T q.2) fun z=>some (okV k z false)) (fun p=>some (okV k p.2 true)) r)=some v
  rw [h7]
  show(ob (entries h' m) fun es=>ob (keyOk T es.isEmpty q.1 kk) fun _=>ob (findE T.P q.1 kk es) fun r=>Option.rec (ob (zeroOf T q.2) fun z=>some (okV k z false)) (fun p=>some (okV k p.2 true)) r)=some v
  rw [g.entries h9]
  exact h10
 |convert s d x=>
  rw [hop]at hr
  have hr:c_conv T h tm s d x o=some (.rd v):=hr
  show c_conv T h' tm s d x o=some (.rd v)
  unfold c_conv at hr⊢
  obtain⟨i,h1,h2⟩:=ob_some.1 hr
  obtain⟨j,h3,h4⟩:=ob_some.1 h2
  obtain⟨u,h5,h6⟩:=ob_some.1 h4
  rw [h1,h3,h5]
  show c_conv2 T h' tm (Nat.beq s d) o i.und j.und u=some (.rd v)
  unfold c_conv2 at h6⊢
  split at h6
  ·exact h6
  ·rename_i e0 A l c q1 q2
   refine rd_eq (fun v e=> ?_) h6
   unfold r_bytes at e⊢
   obtain⟨j,e1,e2⟩:=ob_some.1 e
   obtain⟨e3,e4⟩:=oif_some.1 e2
   rw [e1]
   show oif (isU8 j.und) _=some v
   rw [e3]
   cases A with
   |none=>exact e4
   |some A=>
    obtain⟨cs,e5,e6⟩:=ob_some.1 e4
    show(ob (loadN h' A _) fun cs=>ob (bytesL cs .empty) fun s=>some (.string s))=some v
    rw [g.load e5]
    exact e6
  ·refine rd_eq (fun v e=> ?_) h6
   unfold r_unsafe at e⊢
   obtain⟨j,e1,e2⟩:=ob_some.1 e
   obtain⟨c,e3,e4⟩:=ob_some.1 e2
   rw [e1]
   show(ob (oCells (hget h' _)) fun c=>_)=some v
   rw [g.cells e3]
   exact e4
  ·refine rd_eq (fun v e=> ?_) h6
   unfold r_back at e⊢
   obtain⟨j,e1,e2⟩:=ob_some.1 e
   obtain⟨c,e3,e4⟩:=ob_some.1 e2
   rw [e1]
   show(ob (oCells (hget h' _)) fun c=>_)=some v
   rw [g.cells e3]
   exact e4
  ·exact(mk_rd h6).elim
  ·obtain⟨jj,e1,e2⟩:=ob_some.1 h6
   obtain⟨e3,e4⟩:=oif_some.1 e2
   exact(tn_rd e4).elim
  ·exact h6
 |call c=>
  rw [hop]at hr
  obtain⟨vs,h1,h2⟩:=ob_some.1 (show c_call T h tm c.argTypes.toList c.args.toList o c.callee=some (.rd v)from hr)
  show c_call T h' tm c.argTypes.toList c.args.toList o c.callee=some (.rd v)
  unfold c_call
  rw [h1]
  cases hc:c.callee with
  |value f=>rw [hc]at h2;exact(tn_rd (show tn (ob (lev tm f) fun v=>callV T h vs v)=some (.rd v)from h2)).elim
  |invoke r n=>rw [hc]at h2;cases h2
  |builtin bb=>
   rw [hc]at h2
   cases bb with
   |len=>
    refine rd_eq (fun v e=> ?_) (show rd (r_len T h c.argTypes.toList vs)=some (.rd v)from h2)
    unfold r_len at e⊢
    obtain⟨u,e1,e2⟩:=ob_some.1 e
    obtain⟨k,e3,e4⟩:=ob_some.1 e2
    rw [e1]
    show(ob (kindT T c.argTypes.toList) (r_len1 h' u))=some v
    rw [e3]
    show r_len1 h' u k=some v
    match k,e4 with
    |0,e4=>cases e4
    |1,e4=>exact e4
    |2,e4=>exact e4
    |n+3,e4=>
     obtain⟨es,e5,e6⟩:=ob_some.1 (show(ob (entries h u) fun es=>some (intV (llen es)))=some v from e4)
     show(ob (entries h' u) fun es=>some (intV (llen es)))=some v
     rw [g.entries e5]
     exact e6
   |cap=>exact h2
   |unsafeSliceData=>exact h2
   |min=>exact h2
   |max=>exact h2
   |append=>exact(tn_rd h2).elim
   |copy=>exact(tn_rd h2).elim
   |clear=>exact(tn_rd h2).elim
   |unsafeString=>exact(tn_rd h2).elim
   |recover=>cases h2
   |_=>cases h2
 |alloc e=>rw [hop]at hr;exact(mk_rd hr).elim
 |box e x=>rw [hop]at hr;exact(mk_rd hr).elim
 |buildSlice t n p=>rw [hop]at hr;exact(mk_rd hr).elim
 |makeSlice t l c=>rw [hop]at hr;exact(mk_rd hr).elim
 |makeMap t x=>rw [hop]at hr;exact(mk_rd hr).elim
 |range t x=>rw [hop]at hr;exact(mk_rd hr).elim
 |store t x y=>rw [hop]at hr;exact(tn_rd hr).elim
 |mapUpdate t x k y=>rw [hop]at hr;exact(tn_rd hr).elim
 |insert t x k y=>rw [hop]at hr;exact(tn_rd hr).elim
 |next x st=>rw [hop]at hr;exact(tn_rd hr).elim
 |defer c=>rw [hop]at hr;exact(tn_rd hr).elim
 |_=>rw [hop]at hr;exact hr
end
theorem grows_hnew {h:H} (hd:hget h h.nx= .dead) (hn:h.nx<=8 * TOP) (b:AObj):Grows h (hnew h b):=fun b' hb=>by
 rw [hget_hnew _ _ _ hn,if_neg (fun e=>hb (by rw [e];exact hd))]
theorem HR.reserve {base:Nat} {w0 w:World} {m:Mp} {h:H} (H:HR base w0 m h w) (hn:h.nx<=8 * TOP) (b:AObj):HR base w0 m (hnew h b) w/\Ext h.nx m h m (hnew h b):=by
 have g:=fun b'=>hget_hnew h b' b hn
 have hlt: ∀b' k s n,m b'=some (k,s,n)->hget (hnew h b) b'=hget h b':=fun b' k s n e=>by
  have:=(H.dom _ _ _ _ e).1
  rw [g,if_neg (by omega)]
 refine⟨⟨H.below,H.size,fun b' k s n e=>⟨Nat.lt_succ_of_lt (H.dom _ _ _ _ e).1,(H.dom _ _ _ _ e).2⟩,fun b' k s n e=>by rw [hlt _ _ _ _ e];exact H.obj _ _ _ _ e,fun b1 b2 k s n s' n' e1 e2 h1 h2=> ?_,fun b' hb'=>by have hb'':h.nx+1<=b':=hb';rw [g,if_neg (by omega)];exact H.above b' (by omega)⟩,Sub.refl m,Nat.le_succ _,fun f hf e=>⟨e,by rw [g,if_neg (by omega)]⟩⟩
 rw [hlt _ _ _ _ e1]at h1
 rw [hlt _ _ _ _ e2]at h2
 exact H.inj _ _ _ _ _ _ _ e1 e2 h1 h2
open Go Go.RowKit
set_option linter.unusedVariables false
set_option linter.unusedSimpArgs false
section
variable {P : Program} {b : Frame} {a : Act} {k : List Item} {cs : List Frame} {w w' : World} {ops : Array Oper}
theorem stepR_val {i:Nat} {rest:List Nat} {o:Oper} {v:Value} (ho:ops[i]? =some o) (hw:Region.wanted o (yielded ops a.tmps)=true) (hr:(o.semAt b.roundOf a.eval).run P w= .ok (.value v) w'):
  step P (lone (b.atR a (.inRegion ops (i::rest)::k)) cs w)= .next (lone (b.atR (a.put o.dst v) (.inRegion ops rest::k)) cs w'):=by
 have e:a.put o.dst v=a.put ((ops[i]?).bind (·.dst)) v:=by rw [ho];rfl
 rw [e,<-Frame.finish_atR]
 exact step_lone_go (by rw [stepGR_op ho hw];simp [stepG.apply,Sem.runT_eq,hr,GStep.bare_after])
theorem stepR_skp {i:Nat} {rest:List Nat} {o:Oper} (ho:ops[i]? =some o) (hw:Region.wanted o (yielded ops a.tmps)=true) (hr:(o.semAt b.roundOf a.eval).run P w= .ok .skip w'):
  step P (lone (b.atR a (.inRegion ops (i::rest)::k)) cs w)= .next (lone (b.atR (a.put o.dst undef) (.inRegion ops rest::k)) cs w'):=by
 have e:a.put o.dst undef=a.put ((ops[i]?).bind (·.dst)) undef:=by rw [ho];rfl
 rw [e,<-Frame.finish_atR]
 exact step_lone_go (by rw [stepGR_op ho hw];simp [stepG.apply,Sem.runT_eq,hr,GStep.bare_after])
theorem stepR_off {i:Nat} {rest:List Nat} {o:Oper} (ho:ops[i]? =some o) (hw:Region.wanted o (yielded ops a.tmps)=false):
  step P (lone (b.atR a (.inRegion ops (i::rest)::k)) cs w)= .next (lone (b.atR (a.put o.dst undef) (.inRegion ops rest::k)) cs w):=by
 have e:a.put o.dst undef=a.put ((ops[i]?).bind (·.dst)) undef:=by rw [ho];rfl
 rw [e]
 exact stepR_op_skip (by rw [ho];simpa using hw)
end
theorem guardT_mem {L:List Oper} {o:Oper} {j:Nat} {x:Bool} {p:Oper} {d:Tmp} (hg:o.guard=some (j,x)) (hp:L[j]? =some p) (hd:p.dst=some d):d∈looks L o:=by
 unfold looks guardT
 rw [lapp_eq,List.mem_append,hg]
 right
 show d∈(Option.rec [] (fun p=>Option.rec [] (fun d=>[d]) p.dst) (lnth L j):List Tmp)
 rw [lnth_eq,hp]
 show d∈(Option.rec [] (fun d=>[d]) p.dst:List Tmp)
 rw [hd]
 exact List.mem_singleton.2 rfl
theorem looks_op {L:List Oper} {o:Oper} {t:Tmp} (h:Operand.tmp t∈o.op.operands.toList):t∈looks L o:=by
 unfold looks
 rw [lapp_eq,List.mem_append]
 exact .inl (tmpsOf_mem h)
theorem VR.bool_iff {m:Mp} {v v':Value} (h:VR m v v'):vBool v'=vBool v:=by
 cases h with
 |pure _=>rfl
 |_=>rfl
theorem yielded_eq (ops:Array Oper) (ts:Array Value) (j:Nat):yielded ops ts j=((ops[j]?).bind (·.dst)).bind fun d=>vBool (ts.getD d undef):=by
 unfold yielded
 cases h1:(ops[j]?).bind (·.dst)with
 |none=>simp
 |some d=>
  simp only [Option.bind_some,Array.getD_eq_getD_getElem?]
  cases h2:ts[d]? with
  |none=>rfl
  |some v=>cases v<;>rfl
theorem wanted_ok {m:Mp} {L:List Oper} {ops:Array Oper} {tm:Tr Value} {ts:Array Value} {o:Oper} (hL:ops.toList=L) (hR: ∀t∈looks L o,VR m (od undefV (tm.get t)) (ts.getD t undef)):Region.wanted o (yielded ops ts)=wantedIn L tm o:=by
 unfold Region.wanted wantedIn
 cases hg:o.guard with
 |none=>rfl
 |some g=>
  obtain⟨j,x⟩:=g
  show(yielded ops ts j==some x)=want2 L tm j x
  rw [yielded_eq]
  have hop:ops[j]? =L[j]? :=by rw [<-hL,Array.getElem?_toList]
  unfold want2
  rw [hop,lnth_eq]
  cases hp:L[j]? with
  |none=>rfl
  |some p=>
   change (_:Bool)=(Option.rec false (fun d=>Option.rec false (fun b=>Bool.rec (Bool.rec true false x) x b) (ob (Tr.get tm d) vBool)) p.dst:Bool)
   cases hd:p.dst with
   |none=>
    simp only [Option.bind_some,hd]
    rfl
   |some d=>
    have hv:=hR d (guardT_mem hg hp hd)
    have e:=hv.bool_iff
    simp only [Option.bind_some,hd,e]
    cases hg':Tr.get tm d with
    |none=>rfl
    |some u=>
     show(vBool u==some x)=(Option.rec false (fun b=>Bool.rec (Bool.rec true false x) x b) (vBool u):Bool)
     cases hu:vBool u with
     |none=>rfl
     |some t=>cases t<;>cases x<;>rfl
noncomputable def lagD (L:List Oper) (done todo:List Nat):List Tmp:=todo.filterMap fun i=>if i∈done then(L[i]?).bind (·.dst)else none
theorem mem_lagD {L:List Oper} {done todo:List Nat} {t:Tmp}:t∈lagD L done todo↔ ∃i o,i∈todo/\i∈done/\L[i]? =some o/\o.dst=some t:=by
 unfold lagD
 rw [List.mem_filterMap]
 constructor
 ·rintro⟨i,h1,h2⟩
  split at h2
  ·rename_i hd
   cases ho:L[i]? with
   |none=>rw [ho]at h2;cases h2
   |some o=>rw [ho]at h2;exact⟨i,o,h1,hd,ho,h2⟩
  ·cases h2
 ·rintro⟨i,o,h1,h2,h3,h4⟩
  exact⟨i,h1,by rw [if_pos h2,h3];exact h4⟩
section
variable (T : Tab)
def LagW (m:Mp) (h:H) (lo:Nat) (L:List Oper) (tm:Tr Value) (sz:Nat) (als:List (Nat×Nat)) (i:Nat):Prop:=
 ∃o,L[i]? =some o/\turnsO o.op=false/\(∀d,o.dst=some d->d<sz)/\
  ((wantedIn L tm o=false/\ ∀d,o.dst=some d->od undefV (tm.get d)=undefV)\/
  (wantedIn L tm o=true/\((∃h0 v,aop T h0 tm o=some (.rd v))\/
   ∃b k f,aop T h tm o=some (.mk b k)/\(i,f)∈als/\m f=none/\hget h f=b/\lo<=f/\f<h.nx/\ ∀d,o.dst=some d->od undefV (tm.get d)=mkV f k)))
def Now (h:H) (L:List Oper) (tm:Tr Value) (i:Nat):Prop:= ∀o,L[i]? =some o->wantedIn L tm o=true-> ∃r,aop T h tm o=some r/\(∀v,r= .rd v-> ∀d,o.dst=some d->v=od undefV (tm.get d))/\ ∀n h',r≠ .tn n h'
structure DrR (now:Bool) (m:Mp) (h:H) (lo:Nat) (L:List Oper) (rest done:List Nat) (als:List (Nat×Nat)) (tm:Tr Value) (sz:Nat) (ts:Array Value) (todo:List Nat):Prop where
 chk:chkAll L (upto L.length) rest done=true
 cl: ∀i∈done,∀d∈depsAt L i,d∈done
 c2: ∀i∈done,chk2 L (upto L.length) i=true
 sch:Sch L todo
 lt: ∀i∈todo,i<L.length
 cover: ∀i,i<L.length->i∉done->i∈todo
 R:TRL m tm sz ts (lagD L done todo)
 lag: ∀i∈done,i∈todo->LagW T m h lo L tm sz als i
 now:now=true-> ∀i∈done,i∈todo->Now T h L tm i
 als1: ∀p∈als,∀q∈als,p.2=q.2->p=q
 als2: ∀p∈als,lo<=p.2/\p.2<h.nx
end
theorem looks_lev {L:List Oper} {o:Oper} {tm tm':Tr Value} (h: ∀t∈looks L o,tm'.get t=tm.get t): ∀x∈o.op.operands.toList,lev tm x=lev tm' x:=by
 intro x hx
 cases x with
 |tmp t=>show some (od undefV (tm.get t))=some (od undefV (tm'.get t));rw [h t (looks_op hx)]
 |_=>rfl
theorem wanted_congr {L:List Oper} {o:Oper} {tm tm':Tr Value} (h: ∀t∈looks L o,tm'.get t=tm.get t):wantedIn L tm' o=wantedIn L tm o:=by
 unfold wantedIn
 cases hg:o.guard with
 |none=>rfl
 |some g=>
  obtain⟨j,x⟩:=g
  show want2 L tm' j x=want2 L tm j x
  unfold want2
  rw [lnth_eq]
  cases hp:L[j]? with
  |none=>rfl
  |some p=>
   show(Option.rec false (fun d=>Option.rec false (fun b=>Bool.rec (Bool.rec true false x) x b) (ob (Tr.get tm' d) vBool)) p.dst:Bool)=Option.rec false (fun d=>Option.rec false (fun b=>Bool.rec (Bool.rec true false x) x b) (ob (Tr.get tm d) vBool)) p.dst
   cases hd:p.dst with
   |none=>rfl
   |some d=>
    show(Option.rec false (fun b=>Bool.rec (Bool.rec true false x) x b) (ob (Tr.get tm' d) vBool):Bool)=Option.rec false (fun b=>Bool.rec (Bool.rec true false x) x b) (ob (Tr.get tm d) vBool)
    rw [h d (guardT_mem hg hp hd)]
section
variable {T : Tab} {base : Nat} {w0 w w' : World} {m m' : Mp} {h h' : H} {lo sz : Nat} {L : List Oper} {rest done todo : List Nat} {als als' : List (Nat × Nat)} {tm tm' : Tr Value} {a : Act} {i k : Nat} {o : Oper}
theorem LagW.move (W:LagW T m h lo L tm sz als i) (ht: ∀o,L[i]? =some o->turnsO o.op=false->(∀t∈looks L o,tm'.get t=tm.get t)/\ ∀d,o.dst=some d->tm'.get d=tm.get d) (hm: ∀f,(i,f)∈als->f<h.nx->m f=none->m' f=none/\hget h' f=hget h f) (hx:h.nx<=h'.nx) (ha: ∀p∈als,p∈als'):LagW T m' h' lo L tm' sz als' i:=by
 obtain⟨o,h1,h2,h3,h4⟩:=W
 obtain⟨t1,t2⟩:=ht o h1 h2
 refine⟨o,h1,h2,h3,?_⟩
 rw [wanted_congr t1]
 rcases h4 with⟨h5,h6⟩|⟨h5,⟨h0,v,h6⟩|⟨b,k,f,h6,h7,h8,h9,h10,h11,h12⟩⟩
 ·exact .inl ⟨h5,fun d hd=>by rw [t2 d hd];exact h6 d hd⟩
 ·exact .inr ⟨h5,.inl ⟨h0,v,by rw [<-aop_congr (looks_lev t1)];exact h6⟩⟩
 ·obtain⟨g1,g2⟩:=hm f h7 h11 h8
  exact .inr ⟨h5,.inr ⟨b,k,f,by rw [<-aop_congr (looks_lev t1)];exact aop_mk h6 h',ha _ h7,g1,g2.trans h9,h10,by omega,fun d hd=>by rw [t2 d hd];exact h12 d hd⟩⟩
theorem chk2_some (h:chk2 L (upto L.length) i=true) (ho:L[i]? =some o) {d:Tmp} (hd:o.dst=some d):(turnsO o.op=true\/d∉looks L o)/\ ∀j p,L[j]? =some p->j≠i->(d∈looks L p->i∈depsAt L j\/(turnsO o.op=true/\j∈depsAt L i))/\(p.dst=some d->turnsO o.op=true/\turnsO p.op=true):=by
 have hdep: ∀j p,L[j]? =some p->depsAt L j=deps p:=fun j p e=>by unfold depsAt;rw [e]
 have htu: ∀j p,L[j]? =some p->turns L j=turnsO p.op:=fun j p e=>by unfold turns;rw [lnth_eq,e]
 unfold chk2 at h
 rw [lnth_eq,ho]at h
 have h:(Option.rec true (fun d=>(turnsO o.op|| !lmem d (looks L o))&&lall (chk3 L i o d) (upto L.length)) o.dst:Bool)=true:=h
 rw [hd]at h
 have h:((turnsO o.op|| !lmem d (looks L o))&&lall (chk3 L i o d) (upto L.length))=true:=h
 simp only [Bool.and_eq_true,Bool.or_eq_true,Bool.not_eq_true',lall_iff]at h
 refine⟨h.1.imp id fun e=>by rw [<-Bool.not_eq_true,lmem_iff]at e;exact e,fun j p hp hj=> ?_⟩
 have h3:=h.2 j (mem_upto.2 (List.getElem?_eq_some_iff.1 hp).1)
 unfold chk3 at h3
 rw [lnth_eq,hp]at h3
 have hjb:Nat.beq j i=false:=by rw [<-Bool.not_eq_true,Nat.beq_eq];exact hj
 rw [hjb]at h3
 have h3:((!lmem d (looks L p)||(lmem i (deps p)||(turns L i&&lmem j (deps o))))&&((Option.rec true (fun d'=> !Nat.beq d d') p.dst:Bool)||(turns L i&&turns L j)))=true:=h3
 simp only [Bool.and_eq_true,Bool.or_eq_true,Bool.not_eq_true',lmem_iff,htu i o ho,htu j p hp]at h3
 rw [hdep j p hp,hdep i o ho]
 refine⟨fun hm=> ?_,fun hm=> ?_⟩
 ·rcases h3.1 with e|e
  ·rw [<-Bool.not_eq_true,lmem_iff]at e;exact absurd hm e
  ·exact e
 ·rcases h3.2 with e|e
  ·rw [hm]at e
   simp at e
  ·exact e
theorem DrR.notMem (D:DrR T true m h lo L rest done als tm sz a.tmps (i::todo)) (ho:L[i]? =some o) (hself:i∈done->turnsO o.op=false): ∀t∈looks L o,t∉lagD L done (i::todo):=by
 intro t ht hm
 obtain⟨j,p,h1,h2,h3,h4⟩:=mem_lagD.1 hm
 obtain⟨p',q1,q2,-⟩:=D.lag j h2 h1
 rw [h3]at q1
 injection q1 with q1
 subst q1
 obtain⟨c1,c2⟩:=chk2_some (D.c2 j h2) h3 h4
 by_cases hij:i=j
 ·subst hij
  rw [ho]at h3
  injection h3 with h3
  subst h3
  rcases c1 with e|e
  ·rw [q2]at e;cases e
  ·exact e ht
 ·rcases(c2 i o ho hij).1 ht with e|⟨e,-⟩
  ·rcases List.mem_cons.1 h1 with e'|e'
   ·exact hij e'.symm
   ·exact((List.pairwise_cons.1 D.sch).1 j e').2 e
  ·rw [q2]at e;cases e
theorem DrR.opR (ok:TabOK T) (fok:FldOK T) (H:HR base w0 m h w) (hn:h.nx<=8 * TOP) (D:DrR T true m h lo L rest done als tm sz a.tmps (i::todo)) (ho:L[i]? =some o) (hself:i∈done->turnsO o.op=false) {r:ORes} (hr:aop T h tm o=some r):AR T.P base w0 o a w m h r:=by
 have hno:=D.notMem ho hself
 obtain⟨tm',ts',h1,h2⟩:=TRL.mask _ D.R (fun t ht=>by
  obtain⟨j,p,q1,q2,q3,q4⟩:=mem_lagD.1 ht
  obtain⟨p',r1,-,r3,-⟩:=D.lag j q2 q1
  rw [q3]at r1
  injection r1 with r1
  subst r1
  exact r3 t q4)
 have e1:aop T h tm' o=some r:=by
  rw [<-aop_congr (tm:=tm) (looks_lev (L:=L) fun t ht=>(h2 t (hno t ht)).1)]
  exact hr
 have hs: ∀cs bb,o.op≠ .select cs bb:=fun cs bb e=>by
  unfold aop at hr
  rw [e]at hr
  cases hr
 have e2:execOp (Act.eval {tmps:=ts',defers:=a.defers}) o=execOp a.eval o:=execOp_congr o hs fun x hx=>by
  cases x with
  |tmp t=>exact(h2 t (hno t (looks_op (by simpa using hx)))).2
  |_=>rfl
 have key:=aop_ok (a:={tmps:=ts',defers:=a.defers}) ok fok H hn h1 e1
 cases key with
 |rd y=>
  obtain⟨v',y1,y2⟩:=y
  exact .rd ⟨v',by rw [<-e2];exact y1,y2⟩
 |mk y=>
  obtain⟨w',n,v',y1,y2⟩:=y
  exact .mk ⟨w',n,v',by rw [<-e2];exact y1,y2⟩
 |tn y=>
  obtain⟨w',m',n',y1,y2⟩:=y
  exact .tn ⟨w',m',n',by rw [<-e2];exact y1,y2⟩
end
open Go Go.RowKit
set_option linter.unusedVariables false
set_option linter.unusedSimpArgs false
theorem put_tmps (a:Act) (d:Option Tmp) (v:Value):(a.put d v).tmps=(match d with|some t=>a.tmps.setIfInBounds t v|none=>a.tmps)/\(a.put d v).defers=a.defers:=by cases d<;>exact⟨rfl,rfl⟩
section
variable {T : Tab} {base : Nat} {w0 w w' : World} {m m' : Mp} {h h' : H} {lo sz : Nat} {L : List Oper} {rest done todo : List Nat} {als als' : List (Nat × Nat)} {tm tm' : Tr Value} {a : Act} {i k : Nat} {o : Oper}
variable {b : Frame} {K : List Item} {cs : List Frame} {ops : Array Oper}
theorem sem_exec {ro:Option Nat} (ht: ∀c,o.op≠ .defer c):o.semAt ro a.eval=execOp a.eval o:=Oper.semAt_eq ro a.eval o ht
theorem DrR.late (D:DrR T true m h lo L rest done als tm sz a.tmps (i::todo)) (hi:i∈done) (ho:L[i]? =some o) {v':Value} (hm:Sub m m') (hals: ∀j f,j∈todo->(j,f)∈als->m f=none->m' f=none) (hv: ∀d,o.dst=some d->VR m' (od undefV (tm.get d)) v'):DrR T true m' h lo L rest done als tm sz (a.put o.dst v').tmps todo:=by
 have hsz:=D.R.1
 obtain⟨oo,q1,q2,q3,-⟩:=D.lag i hi (by simp)
 rw [ho]at q1
 injection q1 with q1
 subst q1
 refine⟨D.chk,D.cl,D.c2,(List.pairwise_cons.1 D.sch).2,fun j hj=>D.lt j (List.mem_cons_of_mem _ hj),fun j h1 h2=> ?_,?_,fun j h1 h2=>(D.lag j h1 (List.mem_cons_of_mem _ h2)).move (fun _ _ _=>⟨fun _ _=>rfl,fun _ _=>rfl⟩) (fun f hf _ hn=>⟨hals j f h2 hf hn,rfl⟩) (Nat.le_refl _) (fun p hp=>hp),fun hn j h1 h2=>D.now hn j h1 (List.mem_cons_of_mem _ h2),D.als1,D.als2⟩
 ·rcases List.mem_cons.1 (D.cover j h1 h2)with e|e
  ·subst e;exact absurd hi h2
  ·exact e
 ·have R:=D.R.mono hm
  cases hd:o.dst with
  |none=>
   exact R.less fun t ht=>by
    obtain⟨j,p,r1,r2,r3,r4⟩:=mem_lagD.1 ht
    rcases List.mem_cons.1 r1 with e|e
    ·subst e
     rw [ho]at r3
     injection r3 with r3
     subst r3
     rw [hd]at r4;cases r4
    ·exact .inl (mem_lagD.2 ⟨j,p,e,r2,r3,r4⟩)
  |some d=>
   have hlt:d<a.tmps.size:=by rw [hsz];exact q3 d hd
   refine⟨by show(a.tmps.setIfInBounds d v').size=sz;simpa using hsz,R.2.1,fun t ht=> ?_⟩
   show VR m' (od undefV (tm.get t)) ((a.tmps.setIfInBounds d v').getD t undef)
   rw [getD_set _ _ _ _ hlt]
   by_cases e:t=d
   ·subst e
    rw [if_pos rfl]
    exact hv t hd
   ·rw [if_neg e]
    refine R.2.2 t fun hm=>ht ?_
    obtain⟨j,p,r1,r2,r3,r4⟩:=mem_lagD.1 hm
    rcases List.mem_cons.1 r1 with e'|e'
    ·subst e'
     rw [ho]at r3
     injection r3 with r3
     subst r3
     rw [hd]at r4
     injection r4 with r4
     exact absurd r4.symm e
    ·exact mem_lagD.2 ⟨j,p,e',r2,r3,r4⟩
theorem DrR.exec (ok:TabOK T) (fok:FldOK T) (H:HR base w0 m h w) (hn:h.nx<=8 * TOP) (hL:ops.toList=L) (D:DrR T true m h lo L rest done als tm sz a.tmps (i::todo)) (hi:i∈done):
  ∃m' w' a',step T.P (lone (b.atR a (.inRegion ops (i::todo)::K)) cs w)= .next (lone (b.atR a' (.inRegion ops todo::K)) cs w')/\a'.defers=a.defers/\HR base w0 m' h w'/\Ext lo m h m' h/\DrR T true m' h lo L rest done als tm sz a'.tmps todo:=by
 obtain⟨o,ho,ht,hsz,hlag⟩:=D.lag i hi (by simp)
 have hops:ops[i]? =some o:=by rw [<-Array.getElem?_toList,hL];exact ho
 have hno:=D.notMem ho (fun _=>ht)
 have hw:=wanted_ok (tm:=tm) hL (fun t h=>D.R.2.2 t (hno t h))
 have hnd: ∀c,o.op≠ .defer c:=fun c e=>by rw [e]at ht;exact absurd ht (by simp [turnsO])
 have hsame: ∀j f,j∈todo->(j,f)∈als->m f=none->m f=none:=fun _ _ _ _ e=>e
 rcases hlag with⟨h5,h6⟩|⟨h5,h6⟩
 ·refine⟨m,w,a.put o.dst undef,stepR_off hops (by rw [hw];exact h5),(put_tmps a _ _).2,H,Ext.refl _ _ _,D.late hi ho (Sub.refl m) hsame fun d hd=>by rw [h6 d hd];exact VR.undef⟩
 ·obtain⟨r,n1,n2,n3⟩:=D.now rfl i hi (by simp) o ho h5
  have key:=D.opR ok fok H hn ho (fun _=>ht) n1
  cases key with
  |rd y=>
   obtain⟨v',y1,y2⟩:=y
   refine⟨m,w,a.put o.dst v',stepR_val hops (by rw [hw];exact h5) (by rw [sem_exec hnd];exact y1),(put_tmps a _ _).2,H,Ext.refl _ _ _,D.late hi ho (Sub.refl m) hsame fun d hd=>by rw [<-n2 _ rfl d hd];exact y2⟩
  |tn y=>exact absurd rfl (n3 _ _)
  |mk y=>
   rcases h6 with⟨h0,v,h6⟩|⟨bb,kk,f,h6,h7,h8,h9,h10,h11,h12⟩
   ·have:=aop_mk n1 h0
    rw [h6]at this
    cases this
   ·rw [n1]at h6
    injection h6 with h6
    injection h6 with h6 h6'
    subst h6 h6'
    obtain⟨w',n,v',y1,y2,y3,y4⟩:=y
    obtain⟨y5,y6⟩:=y4 f h8
    refine⟨upd m f (w.heap.size,0,n),w',a.put o.dst v',stepR_val hops (by rw [hw];exact h5) (by rw [sem_exec hnd];exact y1),(put_tmps a _ _).2,H.name h8 h11 (Nat.le_refl _) y2 y3 (fun _ _=>rfl) (by rw [h9];exact y5),⟨upd_sub h8,Nat.le_refl _,fun f' hf' e=>⟨by unfold upd;rw [if_neg (by omega)];exact e,rfl⟩⟩,?_⟩
    refine D.late hi ho (upd_sub h8) (fun j f' hj hf' hnn=> ?_) fun d hd=>by rw [h12 d hd];exact y6
    unfold upd
    rw [if_neg (fun e=> ?_)]
    ·exact hnn
    ·subst e
     have:=D.als1 _ hf' _ h7 rfl
     injection this with this
     subst this
     exact((List.pairwise_cons.1 D.sch).1 j hj).1 rfl
theorem chkAll_deps {all:List Nat}: ∀{l done:List Nat},chkAll L all l done=true->(∀j∈done,j<L.length)-> ∀i∈l,∀d∈depsAt L i,d≠i/\d<L.length
 |[],done,_,_,i,hi,_,_=>by cases hi
 |k::l,done,h,hd,i,hi,d,hdd=>by
  rw [chkAll_cons]at h
  simp only [Bool.and_eq_true]at h
  obtain⟨h1,-,h3⟩:=h
  obtain⟨c1,c2,-⟩:=chk1_iff.1 h1
  obtain⟨c4,c5⟩:=rdy_iff.1 c2
  rcases List.mem_cons.1 hi with e|e
  ·subst e
   have:=c5 d hdd
   exact⟨fun e=>by subst e;exact c1 this,hd d this⟩
  ·exact chkAll_deps h3 (fun j hj=>by
    rcases List.mem_cons.1 hj with e|e
    ·subst e;exact c4
    ·exact hd j e) i e d hdd
theorem DrR.head {now:Bool} {ts:Array Value} (D:DrR T now m h lo L (k::rest) done als tm sz ts todo):k∉done/\(k<L.length/\ ∀d∈depsAt L k,d∈done)/\(turns L k=true-> ∀j,j<L.length->j=k\/j∈done\/rdy L done j=false)/\chk2 L (upto L.length) k=true/\chkAll L (upto L.length) rest (k::done)=true:=by
 have hc:=D.chk
 rw [chkAll_cons]at hc
 simp only [Bool.and_eq_true]at hc
 obtain⟨c1,c2,c3⟩:=chk1_iff.1 hc.1
 exact⟨c1,rdy_iff.1 c2,fun ht j hj=>c3 ht j (mem_upto.2 hj),hc.2.1,hc.2.2⟩
theorem DrR.done_lt {now:Bool} {ts:Array Value} (D:DrR T now m h lo L rest done als tm sz ts todo): ∀j∈done,j<L.length:=fun j hj=>by
 have:=D.c2 j hj
 unfold chk2 at this
 rw [lnth_eq]at this
 cases ho:L[j]? with
 |none=>rw [ho]at this;cases this
 |some o=>exact(List.getElem?_eq_some_iff.1 ho).1
theorem DrR.catch (ok:TabOK T) (fok:FldOK T) (hn:h.nx<=8 * TOP) (hL:ops.toList=L) (hk:turns L k=true): ∀(todo:List Nat) {m:Mp} {w:World} {a:Act},HR base w0 m h w->DrR T true m h lo L (k::rest) done als tm sz a.tmps todo->
  ∃m' w' a' post,Steps T.P (lone (b.atR a (.inRegion ops todo::K)) cs w) (lone (b.atR a' (.inRegion ops (k::post)::K)) cs w')/\a'.defers=a.defers/\HR base w0 m' h w'/\Ext lo m h m' h/\DrR T true m' h lo L (k::rest) done als tm sz a'.tmps (k::post)
 |[],m,w,a,H,D=>by
  have:=D.cover k D.head.2.1.1 D.head.1
  cases this
 |i::todo,m,w,a,H,D=>by
  by_cases hi:i∈done
  ·obtain⟨m',w',a',e1,e2,e3,e4,e5⟩:=D.exec (b:=b) (K:=K) (cs:=cs) ok fok H hn hL hi
   obtain⟨m'',w'',a'',post,f1,f2,f3,f4,f5⟩:=DrR.catch ok fok hn hL hk todo e3 e5
   exact⟨m'',w'',a'',post,.head e1 f1,f2.trans e2,f3,e4.trans f4,f5⟩
  ·have hik:i=k:=by
    have hlt:=D.lt i (by simp)
    rcases D.head.2.2.1 hk i hlt with e|e|e
    ·exact e
    ·exact absurd e hi
    ·exfalso
     have hr:rdy L done i=true:=rdy_iff.2 ⟨hlt,fun d hd=>by
      have hir:i∈k::rest:=(chkAll_ends D.chk i (mem_upto.2 hlt)).resolve_left hi
      obtain⟨d1,d2⟩:=chkAll_deps D.chk D.done_lt i hir d hd
      by_cases hdd:d∈done
      ·exact hdd
      ·rcases List.mem_cons.1 (D.cover d d2 hdd)with e'|e'
       ·exact absurd e' d1
       ·exact absurd hd ((List.pairwise_cons.1 D.sch).1 d e').2⟩
     rw [e]at hr;cases hr
   subst hik
   exact⟨m,w,a,todo,.refl _ _,rfl,H,Ext.refl _ _ _,D⟩
theorem DrR.ends (ok:TabOK T) (fok:FldOK T) (hn:h.nx<=8 * TOP) (hL:ops.toList=L): ∀(todo:List Nat) {m:Mp} {w:World} {a:Act},HR base w0 m h w->DrR T true m h lo L [] done als tm sz a.tmps todo->
  ∃m' w' a',Steps T.P (lone (b.atR a (.inRegion ops todo::K)) cs w) (lone (b.atR a' K) cs w')/\a'.defers=a.defers/\HR base w0 m' h w'/\Ext lo m h m' h/\TR m' tm sz a'.tmps
 |[],m,w,a,H,D=>⟨m,w,a,.one stepR_region_end,rfl,H,Ext.refl _ _ _,TRL.nil.1 (D.R.less fun t ht=>by
   obtain⟨j,p,r1,-⟩:=mem_lagD.1 ht
   cases r1)⟩
 |i::todo,m,w,a,H,D=>by
  have hi:i∈done:=(chkAll_ends D.chk i (mem_upto.2 (D.lt i (by simp)))).resolve_right (by simp)
  obtain⟨m',w',a',e1,e2,e3,e4,e5⟩:=D.exec (b:=b) (K:=K) (cs:=cs) ok fok H hn hL hi
  obtain⟨m'',w'',a'',f1,f2,f3,f4,f5⟩:=DrR.ends ok fok hn hL todo e3 e5
  exact⟨m'',w'',a'',.head e1 f1,f2.trans e2,f3,e4.trans f4,f5⟩
theorem tmPut_get {tm:Tr Value} {d:Option Tmp} {v:Value} (hd: ∀t,d=some t->t<=8 * TOP) (t:Tmp):(tmPut tm d v).get t=if d=some t then some v else tm.get t:=by
 cases d with
 |none=>rfl
 |some d=>
  show(Tr.set v DEP tm d).get t=_
  rw [Tr.get_put _ _ _ (hd d rfl)]
  by_cases e:t=d
  ·rw [if_pos e,if_pos (by rw [e])]
  ·rw [if_neg e,if_neg (fun e'=>by injection e' with e';exact e e'.symm)]
theorem DrR.ahead (D:DrR T true m h lo L (i::rest) done als tm sz a.tmps todo) (ho:L[i]? =some o) (ht:turnsO o.op=false) {v:Value} (hd: ∀d,o.dst=some d->d<sz) (hg:Grows h h') (hx:h.nx<=h'.nx) (hm: ∀f,f<h.nx->m f=none->hget h' f=hget h f)
  (ha:(als'=als)\/als'=(i,h.nx)::als/\h.nx<h'.nx/\lo<=h.nx)
  (hnew:(wantedIn L tm o=false/\v=undefV)\/(wantedIn L tm o=true/\(aop T h tm o=some (.rd v)\/ ∃b k,aop T h tm o=some (.mk b k)/\v=mkV h.nx k/\(i,h.nx)∈als'/\m h.nx=none/\hget h' h.nx=b/\lo<=h.nx/\h.nx<h'.nx))):
  DrR T true m h' lo L rest (i::done) als' (tmPut tm o.dst v) sz a.tmps todo:=by
 obtain⟨c1,c2,-,c3,c4⟩:=D.head
 have hsz:=D.R.2.1
 have hput:=fun t=>tmPut_get (tm:=tm) (d:=o.dst) (v:=v) (fun t e=>by
  have h1:t<sz:=hd t e
  have h2:=D.R.2.1
  exact Nat.le_trans (Nat.le_of_lt h1) (Nat.le_trans h2 (Nat.le_mul_of_pos_left _ (by decide)))) t
 have hself: ∀t∈looks L o,(tmPut tm o.dst v).get t=tm.get t:=fun t htt=>by
  rw [hput,if_neg]
  intro e
  rcases(chk2_some c3 ho e).1 with e'|e'
  ·rw [ht]at e';cases e'
  ·exact e' htt
 have hother: ∀j,j∈done-> ∀p,L[j]? =some p->(∀t∈looks L p,(tmPut tm o.dst v).get t=tm.get t)/\ ∀d,p.dst=some d->(tmPut tm o.dst v).get d=tm.get d:=fun j hj p hp=>by
  have hji:j≠i:=fun e=>by subst e;exact c1 hj
  refine⟨fun t htt=> ?_,fun d hdd=> ?_⟩
  ·rw [hput,if_neg]
   intro e
   rcases((chk2_some c3 ho e).2 j p hp hji).1 htt with e'|⟨e',-⟩
   ·exact c1 (D.cl j hj i e')
   ·rw [ht]at e';cases e'
  ·rw [hput,if_neg]
   intro e
   have:=((chk2_some c3 ho e).2 j p hp hji).2 hdd
   rw [ht]at this
   cases this.1
 have hsub: ∀p∈als,p∈als':=fun p hp=>by
  rcases ha with e|⟨e,-⟩<;>rw [e]
  ·exact hp
  ·exact List.mem_cons_of_mem _ hp
 have haop: ∀r,aop T h tm o=some r->aop T h (tmPut tm o.dst v) o=some r:=fun r e=>by rw [<-aop_congr (looks_lev hself)];exact e
 refine⟨c4,fun j hj d hdd=> ?_,fun j hj=> ?_,D.sch,D.lt,fun j h1 h2=>D.cover j h1 fun e=>h2 (List.mem_cons_of_mem _ e),?_,fun j h1 h2=> ?_,fun _ j h1 h2=> ?_,?_,?_⟩
 ·rcases List.mem_cons.1 hj with e|e
  ·subst e;exact List.mem_cons_of_mem _ (c2.2 d hdd)
  ·exact List.mem_cons_of_mem _ (D.cl j e d hdd)
 ·rcases List.mem_cons.1 hj with e|e
  ·subst e;exact c3
  ·exact D.c2 j e
 ·refine⟨D.R.1,D.R.2.1,fun t ht'=> ?_⟩
  rw [hput,if_neg (fun e=>ht' (mem_lagD.2 ⟨i,o,D.cover i c2.1 c1,by simp,ho,e⟩))]
  exact D.R.2.2 t fun hm=>by
   obtain⟨j,p,r1,r2,r3,r4⟩:=mem_lagD.1 hm
   exact ht' (mem_lagD.2 ⟨j,p,r1,List.mem_cons_of_mem _ r2,r3,r4⟩)
 ·rcases List.mem_cons.1 h1 with e|e
  ·subst e
   refine⟨o,ho,ht,hd,?_⟩
   rw [wanted_congr hself]
   have hdst: ∀d,o.dst=some d->od undefV ((tmPut tm o.dst v).get d)=v:=fun d e=>by rw [hput,if_pos e];rfl
   rcases hnew with⟨e1,e2⟩|⟨e1,e2|⟨b,k,e2,e3,e4,e5,e6,e7,e8⟩⟩
   ·exact .inl ⟨e1,fun d e=>by rw [hdst d e,e2]⟩
   ·exact .inr ⟨e1,.inl ⟨h,v,haop _ e2⟩⟩
   ·exact .inr ⟨e1,.inr ⟨b,k,h.nx,aop_mk (haop _ e2) h',e4,e5,e6,e7,e8,fun d e=>by rw [hdst d e,e3]⟩⟩
  ·exact(D.lag j e h2).move (fun p hp _=>hother j e p hp) (fun f hf hlt hnn=>⟨hnn,hm f hlt hnn⟩) hx hsub
 ·intro p hp hwp
  rcases List.mem_cons.1 h1 with e|e
  ·subst e
   rw [ho]at hp
   injection hp with hp
   subst hp
   rw [wanted_congr hself]at hwp
   have hdst: ∀d,o.dst=some d->od undefV ((tmPut tm o.dst v).get d)=v:=fun d e=>by rw [hput,if_pos e];rfl
   rcases hnew with⟨e1,e2⟩|⟨e1,e2|⟨b,k,e2,e3,-⟩⟩
   ·rw [e1]at hwp;cases hwp
   ·exact⟨_,aop_grows hg (haop _ e2),fun u e d hdd=>by injection e with e;rw [hdst d hdd,e],fun n h'' e=>(by cases e)⟩
   ·exact⟨_,aop_mk (haop _ e2) h',fun u e=>(by cases e),fun n h'' e=>(by cases e)⟩
  ·obtain⟨t1,t2⟩:=hother j e p hp
   rw [wanted_congr t1]at hwp
   obtain⟨r,n1,n2,n3⟩:=D.now rfl j e h2 p hp hwp
   have n1':aop T h (tmPut tm o.dst v) p=some r:=by rw [<-aop_congr (looks_lev t1)];exact n1
   refine⟨r,?_,fun u e' d hdd=>by rw [t2 d hdd];exact n2 u e' d hdd,n3⟩
   cases r with
   |rd u=>exact aop_grows hg n1'
   |mk b k=>exact aop_mk n1' h'
   |tn n h''=>exact absurd rfl (n3 n h'')
 ·rcases ha with e|⟨e,-,-⟩
  ·rw [e];exact D.als1
  ·rw [e]
   intro p hp q hq hpq
   rcases List.mem_cons.1 hp with e1|e1<;>rcases List.mem_cons.1 hq with e2|e2
   ·rw [e1,e2]
   ·subst e1
    have:=(D.als2 q e2).2
    simp only at hpq
    omega
   ·subst e2
    have:=(D.als2 p e1).2
    simp only at hpq
    omega
   ·exact D.als1 p e1 q e2 hpq
 ·rcases ha with e|⟨e,e1,e2⟩
  ·rw [e];exact fun p hp=>⟨(D.als2 p hp).1,Nat.lt_of_lt_of_le (D.als2 p hp).2 hx⟩
  ·rw [e]
   intro p hp
   rcases List.mem_cons.1 hp with e3|e3
   ·subst e3;exact⟨e2,e1⟩
   ·exact⟨(D.als2 p e3).1,Nat.lt_of_lt_of_le (D.als2 p e3).2 hx⟩
theorem DrR.wait {now:Bool} {ts:Array Value} {B:Nat} (D:DrR T now m h lo L rest done als tm sz ts todo) (hB: ∀p∈als,p.2<B) (E:Ext B m h m' h'):DrR T false m' h' lo L rest done als tm sz ts todo:=
 ⟨D.chk,D.cl,D.c2,D.sch,D.lt,D.cover,D.R.mono E.sub,fun j h1 h2=>(D.lag j h1 h2).move (fun _ _ _=>⟨fun _ _=>rfl,fun _ _=>rfl⟩) (fun f hf hlt hnn=>E.old f (hB _ hf) hnn) E.nx (fun p hp=>hp),fun e=>(by cases e),D.als1,fun p hp=>⟨(D.als2 p hp).1,Nat.lt_of_lt_of_le (D.als2 p hp).2 E.nx⟩⟩
theorem again_iff {k:Nat} (ho:L[k]? =some o):again T h L tm k done=true↔ ∀i∈done,i=k\/i∈deps o\/again1 T h L tm i=true:=by
 unfold again
 rw [lnth_eq,ho]
 show lall _ _=true↔_
 rw [lall_iff]
 simp only [Bool.or_eq_true,Nat.beq_eq,lmem_iff]
theorem DrR.turned {todo:List Nat} (D:DrR T false m h lo L (k::rest) done als tm sz a.tmps (k::todo)) (ho:L[k]? =some o) (ht:turnsO o.op=true) {v v':Value} (hv:VR m v v') (hd: ∀d,o.dst=some d->d<sz) (hag:again T h L (tmPut tm o.dst v) k done=true):
  DrR T true m h lo L rest (k::done) als (tmPut tm o.dst v) sz (a.put o.dst v').tmps todo:=by
 obtain⟨c1,c2,-,c3,c4⟩:=D.head
 have hput:=fun t=>tmPut_get (tm:=tm) (d:=o.dst) (v:=v) (fun t e=>by
  have h1:t<sz:=hd t e
  have h2:=D.R.2.1
  exact Nat.le_trans (Nat.le_of_lt h1) (Nat.le_trans h2 (Nat.le_mul_of_pos_left _ (by decide)))) t
 have hkt:k∉todo:=fun e=>((List.pairwise_cons.1 D.sch).1 k e).1 rfl
 have hdk:depsAt L k=deps o:=by unfold depsAt;rw [ho]
 have hsplit: ∀j,j∈k::done->j∈todo->j∈done/\j∈k::todo/\j≠k/\j∉depsAt L k:=fun j h1 h2=>by
  have hjk:j≠k:=fun e=>by subst e;exact hkt h2
  exact⟨(List.mem_cons.1 h1).resolve_left hjk,List.mem_cons_of_mem _ h2,hjk,((List.pairwise_cons.1 D.sch).1 j h2).2⟩
 have hother: ∀j,j∈k::done->j∈todo-> ∀p,L[j]? =some p->turnsO p.op=false->(∀t∈looks L p,(tmPut tm o.dst v).get t=tm.get t)/\ ∀d,p.dst=some d->(tmPut tm o.dst v).get d=tm.get d:=fun j h1 h2 p hp hpt=>by
  obtain⟨q1,q2,q3,q4⟩:=hsplit j h1 h2
  refine⟨fun t htt=> ?_,fun d hdd=> ?_⟩
  ·rw [hput,if_neg]
   intro e
   rcases((chk2_some c3 ho e).2 j p hp q3).1 htt with e'|⟨-,e'⟩
   ·exact c1 (D.cl j q1 k e')
   ·exact q4 e'
  ·rw [hput,if_neg]
   intro e
   have:=((chk2_some c3 ho e).2 j p hp q3).2 hdd
   rw [hpt]at this
   cases this.2
 refine⟨c4,fun j hj d hdd=> ?_,fun j hj=> ?_,(List.pairwise_cons.1 D.sch).2,fun j hj=>D.lt j (List.mem_cons_of_mem _ hj),fun j h1 h2=> ?_,?_,fun j h1 h2=> ?_,fun _ j h1 h2=> ?_,D.als1,D.als2⟩
 ·rcases List.mem_cons.1 hj with e|e
  ·subst e;exact List.mem_cons_of_mem _ (c2.2 d hdd)
  ·exact List.mem_cons_of_mem _ (D.cl j e d hdd)
 ·rcases List.mem_cons.1 hj with e|e
  ·subst e;exact c3
  ·exact D.c2 j e
 ·rcases List.mem_cons.1 (D.cover j h1 fun e=>h2 (List.mem_cons_of_mem _ e))with e|e
  ·subst e;exact absurd (List.mem_cons_self) h2
  ·exact e
 ·have hmem: ∀t,t∈lagD L done (k::todo)->t∈lagD L (k::done) todo:=fun t hm=>by
   obtain⟨j,p,r1,r2,r3,r4⟩:=mem_lagD.1 hm
   rcases List.mem_cons.1 r1 with e|e
   ·subst e;exact absurd r2 c1
   ·exact mem_lagD.2 ⟨j,p,e,List.mem_cons_of_mem _ r2,r3,r4⟩
  cases hdd:o.dst with
  |none=>exact⟨D.R.1,D.R.2.1,fun t htt=>D.R.2.2 t fun e=>htt (hmem t e)⟩
  |some d=>
   have hlt:d<a.tmps.size:=by rw [D.R.1];exact hd d hdd
   refine⟨by show(a.tmps.setIfInBounds d v').size=sz;simpa using D.R.1,D.R.2.1,fun t htt=> ?_⟩
   show VR m _ ((a.tmps.setIfInBounds d v').getD t undef)
   have hp:=hput t
   rw [hdd]at hp
   rw [getD_set _ _ _ _ hlt,hp]
   by_cases e:t=d
   ·rw [if_pos e,if_pos (by rw [e])];exact hv
   ·rw [if_neg e,if_neg (fun e'=>by injection e' with e';exact e e'.symm)]
    exact D.R.2.2 t fun e=>htt (hmem t e)
 ·obtain⟨q1,q2,q3,q4⟩:=hsplit j h1 h2
  exact(D.lag j q1 q2).move (fun p hp hpt=>hother j h1 h2 p hp hpt) (fun f _ _ hnn=>⟨hnn,rfl⟩) (Nat.le_refl _) (fun p hp=>hp)
 ·obtain⟨q1,q2,q3,q4⟩:=hsplit j h1 h2
  obtain⟨p0,r1,r2,-⟩:=D.lag j q1 q2
  intro p hp hwp
  rw [hp]at r1
  injection r1 with r1
  subst r1
  rw [hdk]at q4
  have hj:=((again_iff ho).1 hag j q1).resolve_left q3|>.resolve_left q4
  unfold again1 at hj
  rw [lnth_eq,hp]at hj
  have hj:(turnsO p.op||(!wantedIn L (tmPut tm o.dst v) p||againR (tmPut tm o.dst v) p (aop T h (tmPut tm o.dst v) p)))=true:=hj
  rw [r2,hwp]at hj
  have hj:againR (tmPut tm o.dst v) p (aop T h (tmPut tm o.dst v) p)=true:=hj
  cases hr:aop T h (tmPut tm o.dst v) p with
  |none=>rw [hr]at hj;cases hj
  |some r=>
   rw [hr]at hj
   cases r with
   |rd u=>
    refine⟨_,rfl,fun u' e d hdd=> ?_,fun n h'' e=>(by cases e)⟩
    injection e with e
    subst e
    have hj:(Option.rec false (fun d=>sameV u (od undefV (Tr.get (tmPut tm o.dst v) d))) p.dst:Bool)=true:=hj
    rw [hdd]at hj
    exact sameV_true hj
   |mk bb kk=>exact⟨_,rfl,fun u e=>(by cases e),fun n h'' e=>(by cases e)⟩
   |tn n h''=>cases hj
theorem DrR.begin (hp:plan L=some rest) (R:TR m tm sz a.tmps) (hs:Sch L todo) (hmem: ∀i,i∈todo↔i<L.length):DrR T true m h lo L rest [] [] tm sz a.tmps todo:=
 ⟨plan_some hp,fun i h=>(by cases h),fun i h=>(by cases h),hs,fun i hi=>(hmem i).1 hi,fun i hi _=>(hmem i).2 hi,(TRL.nil.2 R).less fun t ht=>(by cases ht),fun i h=>(by cases h),fun _ i h=>(by cases h),fun p h=>(by cases h),fun p h=>(by cases h)⟩
end
open Go Go.RowKit
set_option linter.unusedVariables false
set_option linter.unusedSimpArgs false
inductive IR (m:Mp):AItem->Item->Prop where
 |code (c:Code):IR m (.code c) (.code c)
 |inBlock (i:Nat):IR m (.inBlock i) (.inBlock i)
 |inLoop (c:Code):IR m (.inLoop c) (.inLoop c)
 |inScope (c:Code):IR m (.inScope c) (.inScope c)
 |inRange {l k s n:Nat} (h:m l=some (k,s,n)):IR m (.inRangeFunc l) (.inRangeFunc k)
 |endRange {l k s n:Nat} (h:m l=some (k,s,n)):IR m (.endRangeFunc l) (.endRangeFunc k)
 |begin:IR m .beginRound .beginRound
inductive IL (m:Mp):List AItem->List Item->Prop where
 |nil:IL m [] []
 |cons {x:AItem} {x':Item} {l:List AItem} {l':List Item} (h:IR m x x') (t:IL m l l'):IL m (x::l) (x'::l')
inductive DL (m:Mp):List Deferred->List Deferred->Prop where
 |nil:DL m [] []
 |cons {x x':Deferred} {l l':List Deferred} (h:DR m x x') (t:DL m l l'):DL m (x::l) (x'::l')
inductive RO (m:Mp):Option Nat->Option Nat->Prop where
 |none:RO m none none
 |some {l k s n:Nat} (h:m l=some (k,s,n)):RO m (some l) (some k)
section
variable {m m' : Mp}
theorem IR.mono (s:Sub m m') {x:AItem} {x':Item} (h:IR m x x'):IR m' x x':=by
 cases h with
 |code c=>exact .code c
 |inBlock i=>exact .inBlock i
 |inLoop c=>exact .inLoop c
 |inScope c=>exact .inScope c
 |inRange h=>exact .inRange (s _ _ h)
 |endRange h=>exact .endRange (s _ _ h)
 |begin=>exact .begin
theorem IL.mono (s:Sub m m'): ∀{l:List AItem} {l':List Item},IL m l l'->IL m' l l'
 |_,_,.nil=> .nil
 |_,_,.cons h t=> .cons (h.mono s) (t.mono s)
theorem DR.mono (s:Sub m m') {d d':Deferred} (h:DR m d d'):DR m' d d':=⟨h.target.imp (fun⟨b,k,x,n,h1,h2,h3⟩=>⟨b,k,x,n,h1,h2,s _ _ h3⟩) fun⟨f,c,c',h1,h2,h3⟩=>⟨f,c,c',h1,h2,h3.mono s⟩,h.args.mono s⟩
theorem DL.mono (s:Sub m m'): ∀{l l':List Deferred},DL m l l'->DL m' l l'
 |_,_,.nil=> .nil
 |_,_,.cons h t=> .cons (h.mono s) (t.mono s)
theorem DL.append: ∀{l l' k k':List Deferred},DL m l l'->DL m k k'->DL m (l++k) (l'++k')
 |_,_,_,_,.nil,h=>h
 |_,_,_,_,.cons h t,q=> .cons h (t.append q)
theorem RO.mono (s:Sub m m') {x x':Option Nat} (h:RO m x x'):RO m' x x':=by
 cases h with
 |none=>exact .none
 |some h=>exact .some (s _ _ h)
theorem exit_ok (id:Nat): ∀{l:List AItem} {l':List Item},IL m l l'->(exitTo' id l=none/\exitTo id l'=none)\/ ∃t t',exitTo' id l=some t/\exitTo id l'=some t'/\IL m t t'
 |_,_,.nil=> .inl ⟨rfl,rfl⟩
 |_,_,.cons (x:=x) (x':=x') (l:=l) (l':=l') h t=>by
  have ih:=exit_ok id t
  cases h with
  |inBlock i=>
   have e1:exitTo' id (.inBlock i::l)=Bool.rec (exitTo' id l) (some l) (Nat.beq i id):=rfl
   have e2:exitTo id (.inBlock i::l')=if i==id then some l' else exitTo id l':=rfl
   rw [e1,e2]
   by_cases e:i=id
   ·have:Nat.beq i id=true:=by rw [Nat.beq_eq];exact e
    rw [this,if_pos (by simpa using e)]
    exact .inr ⟨l,l',rfl,rfl,t⟩
   ·have:Nat.beq i id=false:=by rw [<-Bool.not_eq_true,Nat.beq_eq];exact e
    rw [this,if_neg (by simpa using e)]
    exact ih
  |code c=>exact ih
  |inLoop c=>exact ih
  |inScope c=>exact ih
  |inRange h=>exact ih
  |endRange h=>exact ih
  |begin=>exact ih
theorem goto_ok (g:Nat): ∀{l:List AItem} {l':List Item},IL m l l'->(gotoIn' g l=none/\gotoIn g l'=none)\/ ∃t t',gotoIn' g l=some t/\gotoIn g l'=some t'/\IL m t t'
 |_,_,.nil=> .inl ⟨rfl,rfl⟩
 |_,_,.cons (x:=x) (x':=x') (l:=l) (l':=l') h t=>by
  have ih:=goto_ok g t
  cases h with
  |inScope c=>
   have e1:gotoIn' g (.inScope c::l)=Option.rec (gotoIn' g l) (fun rest=>some (.code rest:: .inScope c::l)) (findLabel c g):=rfl
   have e2:gotoIn g (.inScope c::l')=match findLabel c g with
    |some rest=>some (.code rest:: .inScope c::l')
    |none=>gotoIn g l':=rfl
   rw [e1,e2]
   cases findLabel c g with
   |none=>exact ih
   |some rest=>exact .inr ⟨_,_,rfl,rfl,.cons (.code rest) (.cons (.inScope c) t)⟩
  |code c=>exact ih
  |inBlock c=>exact ih
  |inLoop c=>exact ih
  |inRange h=>exact ih
  |endRange h=>exact ih
  |begin=>exact ih
end
structure BR (m:Mp) (s:FS) (b:Frame):Prop where
 fn:b.fn=s.fn
 kind:b.kind=(if s.dfr then .deferred else .normal)
 round:RO m s.round b.roundOf
 rd:s.round≠none->s.dfr=false
theorem BR.mono {m m':Mp} {s:FS} {b:Frame} (h:BR m s b) (x:Sub m m'):BR m' s b:=⟨h.fn,h.kind,h.round.mono x,h.rd⟩
def frOf (ret:Bool) (b:Frame) (a:Act) (todo:List Item):Frame:=if ret then{b.atR a todo with mode:= .returning}else b.atR a todo
section
variable (T : Tab)
inductive HdR (m:Mp) (h:H) (lo sz:Nat) (tm:Tr Value) (ts:Array Value):List AItem->List Item->Prop where
 |plain {k:List AItem} {k':List Item} (R:TR m tm sz ts) (hk:IL m k k'):HdR m h lo sz tm ts k k'
 |reg {L rest:List Oper} {k:List AItem} {k':List Item} {ops:Array Oper} {i:Nat} (R:TR m tm sz ts) (hL:ops.toList=L) (hr:L.drop i=rest) (hi:i<=L.length) (hk:IL m k k'):HdR m h lo sz tm ts (.reg L rest::k) (.inRegion ops (List.range' i (L.length - i))::k')
 |drawn {L:List Oper} {rest done todo:List Nat} {als:List (Nat×Nat)} {k:List AItem} {k':List Item} {ops:Array Oper} (D:DrR T true m h lo L rest done als tm sz ts todo) (hL:ops.toList=L) (hk:IL m k k'):HdR m h lo sz tm ts (.drawn L rest done als::k) (.inRegion ops todo::k')
inductive WtR (m:Mp) (h:H) (lo B sz:Nat) (tm:Tr Value) (ts:Array Value):List AItem->List Item->Prop where
 |reg {L rest:List Oper} {o:Oper} {k:List AItem} {k':List Item} {ops:Array Oper} {i:Nat} (R:TR m tm sz ts) (hL:ops.toList=L) (hr:L.drop i=o::rest) (hk:IL m k k'):WtR m h lo B sz tm ts (.reg L (o::rest)::k) (.inRegion ops (List.range' i (L.length - i))::k')
 |drawn {L:List Oper} {j:Nat} {rest done todo:List Nat} {als:List (Nat×Nat)} {k:List AItem} {k':List Item} {ops:Array Oper} (D:DrR T false m h lo L (j::rest) done als tm sz ts (j::todo)) (hL:ops.toList=L) (ht:turns L j=true) (hB: ∀p∈als,p.2<B) (hk:IL m k k'):WtR m h lo B sz tm ts (.drawn L (j::rest) done als::k) (.inRegion ops (j::todo)::k')
 |range {l q s n:Nat} {k:List AItem} {k':List Item} (R:TR m tm sz ts) (hl:m l=some (q,s,n)) (hk:IL m k k'):WtR m h lo B sz tm ts (.inRangeFunc l::k) (.inRangeFunc q::k')
def WfR (m:Mp) (h:H) (B:Nat) (s:FS) (tm:Tr Value) (df:List Deferred) (todo:List AItem) (fr:Frame):Prop:=
 ∃b a todo',fr=frOf s.ret b a todo'/\BR m s b/\DL m df a.defers/\(s.ret=true->TR m tm s.sz a.tmps)/\(s.ret=false->WtR T m h s.lo B s.sz tm a.tmps todo todo')/\s.lo<=B
inductive StkR (m:Mp) (h:H) (cs0:List Frame) (f0:FuncId):FS->List AFr->List Frame->Prop where
 |nil {s:FS} (hd:s.dfr=false) (hf:s.fn=f0):StkR m h cs0 f0 s [] cs0
 |cons {s:FS} {c:AFr} {cs:List AFr} {fr:Frame} {rs:List Frame} (W:WfR T m h s.lo c.s c.tm c.df c.todo fr) (hd:c.s.ret=s.dfr) (S:StkR m h cs0 f0 c.s cs rs):StkR m h cs0 f0 s (c::cs) (fr::rs)
end
section
variable {T : Tab} {base : Nat} {w0 w w' : World} {cs0 : List Frame} {f0 : FuncId} {m m' : Mp} {h h' : H} {s s' : FS} {tm : Tr Value} {df : List Deferred} {todo : List AItem} {cs : List AFr} {fr : Frame} {rs : List Frame} {B : Nat}
theorem WtR.ext {lo sz:Nat} {ts:Array Value} {todo':List Item} (W:WtR T m h lo B sz tm ts todo todo') (E:Ext B m h m' h'):WtR T m' h' lo B sz tm ts todo todo':=by
 cases W with
 |reg R hL hr hk=>exact .reg (R.mono E.sub) hL hr (hk.mono E.sub)
 |drawn D hL ht hB hk=>exact .drawn (D.wait hB E) hL ht hB (hk.mono E.sub)
 |range R hl hk=>exact .range (R.mono E.sub) (E.sub _ _ hl) (hk.mono E.sub)
theorem WfR.ext (W:WfR T m h B s tm df todo fr) (E:Ext B m h m' h'):WfR T m' h' B s tm df todo fr:=by
 obtain⟨b,a,todo',h1,h2,h3,h4,h5,h6⟩:=W
 exact⟨b,a,todo',h1,h2.mono E.sub,h3.mono E.sub,fun e=>(h4 e).mono E.sub,fun e=>(h5 e).ext E,h6⟩
theorem StkR.ext (S:StkR T m h cs0 f0 s cs rs): ∀{m':Mp} {h':H},Ext s.lo m h m' h'->StkR T m' h' cs0 f0 s cs rs:=by
 induction S with
 |nil hd hf=>exact fun _=> .nil hd hf
 |cons W hd S ih=>
  intro m' h' E
  obtain⟨b,a,todo',h1,h2,h3,h4,h5,h6⟩:=W
  exact .cons (WfR.ext ⟨b,a,todo',h1,h2,h3,h4,h5,h6⟩ E) hd (ih (E.less h6))
theorem StkR.same (S:StkR T m h cs0 f0 s cs rs) (h1:s'.dfr=s.dfr) (h2:s'.fn=s.fn) (h3:s'.lo=s.lo):StkR T m h cs0 f0 s' cs rs:=by
 cases S with
 |nil hd hf=>exact .nil (h1.trans hd) (h2.trans hf)
 |cons W hd S=>exact .cons (by rw [h3];exact W) (hd.trans h1.symm) S
variable (T base w0 cs0 f0)
def TopR (m:Mp) (h:H) (w:World) (s:FS) (tm:Tr Value) (df:List Deferred) (todo:List AItem) (cs:List AFr) (fr:Frame) (rs:List Frame):Prop:=
 HR base w0 m h w/\h.nx<=TOP/\s.lo<=h.nx/\StkR T m h cs0 f0 s cs rs/\
 ∃b a todo',fr=frOf s.ret b a todo'/\BR m s b/\DL m df a.defers/\(s.ret=true->TR m tm s.sz a.tmps)/\(s.ret=false->HdR T m h s.lo s.sz tm a.tmps todo todo')
def ResR:Res->Machine->Prop
 | .go s tm df todo cs h,M=> ∃m w fr rs,M=lone fr rs w/\TopR T base w0 cs0 f0 m h w s tm df todo cs fr rs
 | .over v h,M=> ∃m w fr v',M=lone fr cs0 w/\Below base w0 w/\fr.leaving T.P w (.returned v')/\VR m v v'/\fr.fn=f0
 | .bad,_=>True
def Nx (r:Res) (M:Machine):Prop:= ∃M',Steps T.P M M'/\ResR T base w0 cs0 f0 r M'
end
section
variable {T : Tab} {base : Nat} {w0 w w' : World} {cs0 : List Frame} {f0 : FuncId} {m m' : Mp} {h h' : H} {s s' : FS} {tm : Tr Value} {df : List Deferred} {todo : List AItem} {cs : List AFr} {fr : Frame} {rs : List Frame} {B : Nat} {M M' : Machine} {r : Res}
theorem Nx.zero (h:ResR T base w0 cs0 f0 r M):Nx T base w0 cs0 f0 r M:=⟨M,.refl _ _,h⟩
theorem Nx.step (hs:step T.P M= .next M') (h:Nx T base w0 cs0 f0 r M'):Nx T base w0 cs0 f0 r M:=by
 obtain⟨M'',h1,h2⟩:=h
 exact⟨M'',.head hs h1,h2⟩
theorem Nx.steps (hs:Steps T.P M M') (h:Nx T base w0 cs0 f0 r M'):Nx T base w0 cs0 f0 r M:=by
 obtain⟨M'',h1,h2⟩:=h
 exact⟨M'',hs.trans h1,h2⟩
theorem Nx.bad:Nx T base w0 cs0 f0 .bad M:=⟨M,.refl _ _,trivial⟩
theorem TR.put {sz:Nat} {a:Act} (R:TR m tm sz a.tmps) {d:Option Tmp} {v v':Value} (hd: ∀t,d=some t->t<sz) (hv:VR m v v'):TR m (tmPut tm d v) sz (a.put d v').tmps:=by
 cases d with
 |none=>exact R
 |some t=>exact R.set (hd t rfl) hv
theorem putT_cases (d:Option Tmp) (v:Value):putT s tm df cs h d v todo= .bad\/((∀t,d=some t->t<s.sz)/\putT s tm df cs h d v todo= .go s (tmPut tm d v) df todo cs h):=by
 cases d with
 |none=>exact .inr ⟨fun t e=>(by cases e),rfl⟩
 |some t=>
  have e:putT s tm df cs h (some t) v todo=Bool.rec .bad (.go s (Tr.set v DEP tm t) df todo cs h) (Nat.ble (Nat.succ t) s.sz):=rfl
  cases hb:Nat.ble (Nat.succ t) s.sz with
  |false=>rw [e,hb];exact .inl rfl
  |true=>
   rw [e,hb]
   refine .inr ⟨fun t' e'=> ?_,rfl⟩
   injection e' with e'
   subst e'
   exact Nat.le_of_ble_eq_true hb
theorem frOf_run (hr:s.ret=false) (b:Frame) (a:Act) (todo:List Item):frOf s.ret b a todo=b.atR a todo:=by rw [hr];rfl
theorem range'_cons {i n:Nat} (h:i<n):List.range' i (n - i)=i::List.range' (i+1) (n - (i+1)):=by
 obtain⟨q,hq⟩: ∃q,n - i=q+1:=⟨n - i - 1,by omega⟩
 rw [hq,List.range'_succ]
 congr 2
 omega
theorem drop_cons {α:Type} {L rest:List α} {i:Nat} {o:α} (h:L.drop i=o::rest):i<L.length/\L[i]? =some o/\L.drop (i+1)=rest:=by
 have h1:i<L.length:=by
  rcases Nat.lt_or_ge i L.length with h1|h1
  ·exact h1
  ·rw [List.drop_eq_nil_of_le h1]at h;cases h
 rw [List.drop_eq_getElem_cons h1]at h
 injection h with h2 h3
 exact⟨h1,by rw [List.getElem?_eq_getElem h1,h2],h3⟩
theorem finish_ok (H:HR base w0 m h w) (hn:h.nx<=TOP) (hlo:s.lo<=h.nx) (hr:s.ret=false) (W:WfR T m h B s tm df todo fr) (S:StkR T m h cs0 f0 s cs rs) {v v':Value} (hv:VR m v v'):ResR T base w0 cs0 f0 (finish T s tm df todo cs h v) (lone (fr.finish v') rs w):=by
 obtain⟨b,a,todo',rfl,h2,h3,h4,h5,h6⟩:=W
 rw [frOf_run hr]
 have top: ∀{tm':Tr Value} {k:List AItem} {a':Act} {k':List Item},a'.defers=a.defers->HdR T m h s.lo s.sz tm' a'.tmps k k'->ResR T base w0 cs0 f0 (.go s tm' df k cs h) (lone (b.atR a' k') rs w):=fun{tm' k a' k'} e1 e2=>
  ⟨m,w,_,rs,rfl,H,hn,hlo,S,b,a',k',by rw [frOf_run hr],h2,by rw [e1];exact h3,fun e=>(by rw [hr]at e;cases e),fun _=>e2⟩
 cases h5 hr with
 | @reg L rest o k k' ops i R hL hrr hk=>
  obtain⟨q1,q2,q3⟩:=drop_cons hrr
  have hops:ops[i]? =some o:=by rw [<-Array.getElem?_toList,hL];exact q2
  rw [range'_cons q1,Frame.finish_atR,hops]
  show ResR T base w0 cs0 f0 (putT s tm df cs h o.dst v (.reg L rest::k)) _
  rcases putT_cases (s:=s) (tm:=tm) (df:=df) (cs:=cs) (h:=h) (todo:= .reg L rest::k) o.dst v with e|⟨e1,e2⟩
  ·rw [e];trivial
  ·rw [e2]
   exact top (put_tmps a _ _).2 (.reg (R.put e1 hv) hL q3 q1 hk)
 | @drawn L j rest done todo als k k' ops D hL ht hB hk=>
  obtain⟨o,ho⟩: ∃o,L[j]? =some o:=⟨L[j]'(D.head.2.1.1),List.getElem?_eq_getElem _⟩
  have hops:ops[j]? =some o:=by rw [<-Array.getElem?_toList,hL];exact ho
  have hto:turnsO o.op=true:=by
   unfold turns at ht
   rw [lnth_eq,ho]at ht
   exact ht
  rw [Frame.finish_atR,hops]
  show ResR T base w0 cs0 f0 (Option.rec .bad (finD T s tm df cs h v L j rest done als k) (lnth L j)) _
  rw [lnth_eq,ho]
  show ResR T base w0 cs0 f0 (Bool.rec .bad (putT s tm df cs h o.dst v (.drawn L rest (j::done) als::k)) (!turns L j||again T h L (tmPut tm o.dst v) j done)) _
  rw [ht]
  cases hag:again T h L (tmPut tm o.dst v) j done with
  |false=>trivial
  |true=>
   show ResR T base w0 cs0 f0 (putT s tm df cs h o.dst v (.drawn L rest (j::done) als::k)) _
   rcases putT_cases (s:=s) (tm:=tm) (df:=df) (cs:=cs) (h:=h) (todo:= .drawn L rest (j::done) als::k) o.dst v with e|⟨e1,e2⟩
   ·rw [e];trivial
   ·rw [e2]
    exact top (put_tmps a _ _).2 (.drawn (D.turned ho hto hv e1 hag) hL hk)
 |range R hl hk=>
  rw [finish_atR_inRangeFunc]
  exact top rfl (.plain R (.cons (.endRange hl) hk))
end
open Go Go.RowKit
set_option linter.unusedVariables false
set_option linter.unusedSimpArgs false
theorem args0_go {sz:Nat} (hsz:sz<=TOP): ∀{xs:List Value} {n:Nat} {tm tm':Tr Value},(List.rec (motive:=fun _=>Nat->Tr Value->Option (Tr Value)) (fun _ tm=>some tm) (fun x _ ih n tm=>oif (Nat.ble (Nat.succ n) sz) (ih (Nat.succ n) (Tr.set x DEP tm n))) xs) n tm=some tm'->
  (xs≠[]->n+xs.length<=sz)/\ ∀t,tm'.get t=if n<=t/\t<n+xs.length then xs[t - n]? else tm.get t
 |[],n,tm,tm',h=>by
  injection h with h
  subst h
  refine⟨fun e=>absurd rfl e,fun t=> ?_⟩
  rw [if_neg (by simp)]
 |x::xs,n,tm,tm',h=>by
  obtain⟨h1,h2⟩:=oif_some.1 (show oif (Nat.ble (Nat.succ n) sz) ((List.rec (motive:=fun _=>Nat->Tr Value->Option (Tr Value)) (fun _ tm=>some tm) (fun x _ ih n tm=>oif (Nat.ble (Nat.succ n) sz) (ih (Nat.succ n) (Tr.set x DEP tm n))) xs) (Nat.succ n) (Tr.set x DEP tm n))=some tm' from h)
  have hn:n+1<=sz:=Nat.le_of_ble_eq_true h1
  obtain⟨h3,h4⟩:=args0_go hsz h2
  refine⟨fun _=> ?_,fun t=> ?_⟩
  ·cases xs with
   |nil=>exact hn
   |cons y ys=>
    have:=h3 (by simp)
    simp only [List.length_cons]at this⊢
    omega
  ·rw [h4,Tr.get_put _ _ _ (by unfold TOP at *;omega)]
   simp only [List.length_cons]
   by_cases e:t=n
   ·subst e
    rw [if_neg (by omega),if_pos rfl,if_pos (by omega)]
    simp
   ·by_cases e':Nat.succ n<=t/\t<Nat.succ n+xs.length
    ·rw [if_pos e',if_pos (by omega)]
     obtain⟨q,hq⟩: ∃q,t - n=q+1:=⟨t - n - 1,by omega⟩
     rw [hq,List.getElem?_cons_succ]
     congr 1
     omega
    ·rw [if_neg e',if_neg e,if_neg (by omega)]
section
variable {T : Tab} {base : Nat} {w0 w w' : World} {cs0 : List Frame} {f0 : FuncId} {m m' : Mp} {h h' : H} {s s' : FS} {tm : Tr Value} {df : List Deferred} {todo : List AItem} {cs : List AFr} {fr : Frame} {rs : List Frame} {B : Nat} {M M' : Machine} {r : Res}
theorem enter_ok (ok:TabOK T) (H:HR base w0 m h w) (hn:h.nx<=TOP) {f:FuncId} {xs:List Value} {xs':Array Value} (hx:LR m xs xs'.toList) (dfr:Bool) (S: ∀n,StkR T m h cs0 f0 ⟨f,n,false,dfr,none,h.nx⟩ cs rs):
  ResR T base w0 cs0 f0 (enterF T f xs dfr cs h) (lone (Frame.enter T.P f xs' (if dfr then .deferred else .normal)) rs w):=by
 have e0:enterF T f xs dfr cs h=Option.rec .bad (fun fn=>Option.rec .bad (enterB f xs dfr cs h fn.ntmps) fn.body) (Tr.get T.fn f):=rfl
 rw [e0]
 cases hf:Tr.get T.fn f with
 |none=>trivial
 |some fn=>
  show ResR T base w0 cs0 f0 (Option.rec .bad (enterB f xs dfr cs h fn.ntmps) fn.body) _
  cases hb:fn.body with
  |none=>trivial
  |some body=>
   show ResR T base w0 cs0 f0 (Option.rec .bad (fun tm=> .go ⟨f,fn.ntmps,false,dfr,none,h.nx⟩ tm [] [.code body] cs h) (oif (Nat.ble fn.ntmps TOP) (args0 xs fn.ntmps))) _
   cases ha:oif (Nat.ble fn.ntmps TOP) (args0 xs fn.ntmps)with
   |none=>trivial
   |some tm=>
    obtain⟨h1,h2⟩:=oif_some.1 ha
    have hsz:=Nat.le_of_ble_eq_true h1
    obtain⟨h3,h4⟩:=args0_go hsz (show(List.rec (motive:=fun _=>Nat->Tr Value->Option (Tr Value)) (fun _ tm=>some tm) (fun x _ ih n tm=>oif (Nat.ble (Nat.succ n) fn.ntmps) (ih (Nat.succ n) (Tr.set x DEP tm n))) xs) 0 .leaf=some tm from h2)
    obtain⟨q1,q2⟩:=ok.fn f fn hf
    have hlen:xs.length=xs'.size:=by simpa using hx.len
    have hle:xs'.size<=fn.ntmps:=by
     rw [<-hlen]
     cases xs with
     |nil=>exact Nat.zero_le _
     |cons x xs=>have:=h3 (by simp);omega
    let b:Frame:={(default:Frame)with fn:=f,kind:=if dfr then .deferred else .normal}
    let a:Act:={tmps:=xs'++Array.replicate (fn.ntmps - xs'.size) undef,defers:=[]}
    have henter:Frame.enter T.P f xs' (if dfr then .deferred else .normal)=b.atR a [.code body]:=by
     simp [Frame.enter,Frame.atR,q1,hb,b,a]
     rfl
    rw [henter]
    refine⟨m,w,_,rs,rfl,H,hn,Nat.le_refl _,S _,b,a,[.code body],rfl,⟨rfl,rfl,.none,fun e=>absurd rfl e⟩,.nil,fun e=>(by cases e),fun _=> .plain ⟨?_,hsz,fun t=> ?_⟩ (.cons (.code body) .nil)⟩
    ·show(xs'++Array.replicate (fn.ntmps - xs'.size) undef).size=fn.ntmps
     simp;omega
    ·rw [h4]
     show VR m _ ((xs'++Array.replicate (fn.ntmps - xs'.size) undef).getD t undef)
     simp only [Nat.zero_le,Nat.zero_add,true_and,Nat.sub_zero]
     by_cases e:t<xs.length
     ·rw [if_pos e]
      obtain⟨v',v1,v2⟩:=hx.get (i:=t) (v:=xs[t]) (List.getElem?_eq_getElem e)
      rw [List.getElem?_eq_getElem e]
      have:(xs'++Array.replicate (fn.ntmps - xs'.size) undef).getD t undef=v':=by
       rw [Array.getElem?_toList]at v1
       rw [Array.getD_eq_getD_getElem?,Array.getElem?_append_left (by omega),v1]
       rfl
      rw [this]
      exact v2
     ·rw [if_neg e]
      have:(xs'++Array.replicate (fn.ntmps - xs'.size) undef).getD t undef=undef:=by
       rw [Array.getD_eq_getD_getElem?,Array.getElem?_append_right (by omega),Array.getElem?_replicate]
       split<;>rfl
      rw [this]
      exact VR.undef
section steps
variable {P : Program} {b : Frame} {a : Act} {k : List Item} {ops : Array Oper} {i : Nat} {is : List Nat} {o : Oper}
theorem stepR_enter {f:FuncId} {xs:Array Value} (ho:ops[i]? =some o) (hw:Region.wanted o (yielded ops a.tmps)=true) (hr:(o.semAt b.roundOf a.eval).run P w= .ok (.enter f xs) w'):
  step P (lone (b.atR a (.inRegion ops (i::is)::k)) rs w)= .next (lone (Frame.enter P f xs .normal) (b.atR a (.inRegion ops (i::is)::k)::rs) w'):=
 step_lone_go (by rw [stepGR_op ho hw];simp [stepG.apply,Sem.runT_eq,hr,GStep.bare_after,Frame.atR])
theorem stepR_rnd {l:Nat} {f:FuncId} {ts:Array Value} {as bd:Code} (ho:ops[i]? =some o) (hw:Region.wanted o (yielded ops a.tmps)=true) (hr:(o.semAt b.roundOf a.eval).run P w= .ok (.round l f ts as bd) w'):
  step P (lone (b.atR a (.inRegion ops (i::is)::k)) rs w)= .next (lone (Frame.round l f ts as bd .normal) (b.atR a (.inRegion ops (i::is)::k)::rs) w'):=
 step_lone_go (by rw [stepGR_op ho hw];simp [stepG.apply,Sem.runT_eq,hr,GStep.bare_after,Frame.atR])
theorem stepR_dfr {d:Deferred} (ho:ops[i]? =some o) (hw:Region.wanted o (yielded ops a.tmps)=true) (hr:(o.semAt b.roundOf a.eval).run P w= .ok (.defer d) w'):
  step P (lone (b.atR a (.inRegion ops (i::is)::k)) rs w)= .next (lone ((b.atR {a with defers:=d::a.defers} (.inRegion ops (i::is)::k)).finish undef) rs w'):=
 step_lone_go (by rw [stepGR_op ho hw];simp [stepG.apply,Sem.runT_eq,hr,GStep.bare_after,Frame.atR])
theorem stepR_rec (hb:b.roundOf=none) (hno:tryRecover (b.atR a (.inRegion ops (i::is)::k)) rs=none) (ho:ops[i]? =some o) (hw:Region.wanted o (yielded ops a.tmps)=true) (hr:(o.semAt b.roundOf a.eval).run P w= .ok .recover w'):
  step P (lone (b.atR a (.inRegion ops (i::is)::k)) rs w)= .next (lone ((b.atR a (.inRegion ops (i::is)::k)).finish .nilIface) rs w'):=by
 have hb':(b.atR a (.inRegion ops (i::is)::k)).roundOf=none:=hb
 exact step_lone_go (by rw [stepGR_op ho hw];simp [stepG.apply,Sem.runT_eq,hr,GStep.bare_after,hb',hno])
end steps
theorem recover_none (S:StkR T m h cs0 f0 s cs rs) {b:Frame} (hb:BR m s b) (a:Act) (k:List Item):tryRecover (b.atR a k) rs=none:=by
 have hk:(b.atR a k).kind=(if s.dfr then .deferred else .normal):=hb.kind
 unfold tryRecover
 rw [hk]
 cases hd:s.dfr with
 |false=>rfl
 |true=>
  cases S with
  |nil hd' _=>rw [hd]at hd';cases hd'
  |cons W hd' S=>
   obtain⟨b,a,todo',rfl,-⟩:=W
   rw [hd',hd]
   rfl
theorem apply_ok (ok:TabOK T) {ops:Array Oper} {i:Nat} {is:List Nat} {k':List Item} {b:Frame} {a:Act} {o:Oper} {n:ANext} {n':Next} (ho:ops[i]? =some o) (hw:Region.wanted o (yielded ops a.tmps)=true) (hrun:(execOp a.eval o).run T.P w= .ok n' w') (hdef: ∀c,o.op= .defer c-> ∃d,n= .defer d)
  (H:HR base w0 m' h' w') (hn:h'.nx<=TOP) (hlo:s.lo<=h'.nx) (N:NR m' n n') (hb:BR m' s b) (hd:DL m' df a.defers) (hret:s.ret=false) (W:WtR T m' h' s.lo h'.nx s.sz tm a.tmps todo (.inRegion ops (i::is)::k')) (S:StkR T m' h' cs0 f0 s cs rs):
  Nx T base w0 cs0 f0 (apply T s tm df todo cs h' n) (lone (b.atR a (.inRegion ops (i::is)::k')) rs w):=by
 have fin: ∀{df':List Deferred} {a':Act} {v v':Value},a'.tmps=a.tmps->DL m' df' a'.defers->VR m' v v'->ResR T base w0 cs0 f0 (finish T s tm df' todo cs h' v) (lone ((b.atR a' (.inRegion ops (i::is)::k')).finish v') rs w'):=fun{df' a' v v'} e1 e2 e3=>
  finish_ok H hn hlo hret ⟨b,a',_,by rw [frOf_run hret],hb,e2,fun e=>(by rw [hret]at e;cases e),fun _=>by rw [e1];exact W,hlo⟩ S e3
 have wait:WfR T m' h' h'.nx s tm df todo (b.atR a (.inRegion ops (i::is)::k')):=⟨b,a,_,by rw [frOf_run hret],hb,hd,fun e=>(by rw [hret]at e;cases e),fun _=>W,hlo⟩
 have put: ∀v,(b.atR a (.inRegion ops (i::is)::k')).finish v=b.atR (a.put o.dst v) (.inRegion ops is::k'):=fun v=>by
  rw [Frame.finish_atR,ho];rfl
 have sem:(∀d,n≠ .defer d)->(o.semAt b.roundOf a.eval).run T.P w= .ok n' w':=fun e=>by
  rw [Oper.semAt_eq]
  ·exact hrun
  ·intro c hc
   obtain⟨d,hd⟩:=hdef c hc
   exact e d hd
 cases N with
 |val hv=>
  refine Nx.step (stepR_val ho hw (sem fun d e=>by cases e)) (Nx.zero ?_)
  rw [<-put]
  exact fin rfl hd hv
 |skip=>
  refine Nx.step (stepR_skp ho hw (sem fun d e=>by cases e)) (Nx.zero ?_)
  rw [<-put]
  exact fin rfl hd VR.undef
 |enter hx=>
  refine Nx.step (stepR_enter ho hw (sem fun d e=>by cases e)) (Nx.zero ?_)
  exact enter_ok ok H hn hx false fun n=> .cons wait hret S
 | @round l kk ss nn f tm' sz ts as bd hl ht=>
  refine Nx.step (stepR_rnd ho hw (sem fun d e=>by cases e)) (Nx.zero ?_)
  let b':Frame:={(default:Frame)with fn:=f,kind:= .normal,roundOf:=some kk}
  have hb0:Frame.round kk f ts as bd .normal=b'.atR {tmps:=ts,defers:=[]} [.code as,.beginRound,.code bd]:=by
   simp [Frame.round,Frame.atR,b']
  rw [hb0]
  exact⟨m',w',_,_,rfl,H,hn,Nat.le_refl _,.cons wait hret S,b',_,_,rfl,⟨rfl,rfl,.some hl,fun _=>rfl⟩,.nil,fun e=>(by cases e),fun _=> .plain ht (.cons (.code as) (.cons .begin (.cons (.code bd) .nil)))⟩
 | @defer d d' hdd=>
  show Nx T base w0 cs0 f0 (Option.rec (finish T s tm (d::df) todo cs h' undefV) (fun _=> .bad) s.round) _
  have hro:=hb.round
  generalize hsr:s.round=x at hro
  generalize hbr:b.roundOf=y at hro
  cases hro with
  |none=>
   refine Nx.step (stepR_dfr (d:=d') ho hw (by rw [hbr,Oper.semAt_none];exact hrun)) (Nx.zero ?_)
   exact fin rfl (.cons hdd hd) VR.undef
  |some _=>exact Nx.bad
 |recov=>
  show Nx T base w0 cs0 f0 (Option.rec (finish T s tm df todo cs h' .nilIface) (fun _=> .bad) s.round) _
  have hro:=hb.round
  generalize hsr:s.round=x at hro
  generalize hbr:b.roundOf=y at hro
  cases hro with
  |none=>
   refine Nx.step (stepR_rec hbr (recover_none S hb _ _) ho hw (sem fun d e=>by cases e)) (Nx.zero ?_)
   exact fin rfl hd (.pure rfl)
  |some _=>exact Nx.bad
theorem results_ok (ok:TabOK T) (H:HR base w0 m h w) {sz:Nat} {ts:Array Value} (R:TR m tm sz ts) {f:FuncId} {v:Value} (hr:results' T h tm f=some v): ∃fn v',T.P.funcs[f]? =some fn/\(results fn ts).run T.P w= .ok v' w/\VR m v v':=by
 obtain⟨fn,h1,h2⟩:=ob_some.1 (show(ob (Tr.get T.fn f) fun fn=>ob (lmapO (resV T h tm) fn.results.toList) fun vs=>some (od (.tuple vs.toArray) (l1 vs)))=some v from hr)
 obtain⟨vs,h3,h4⟩:=ob_some.1 h2
 injection h4 with h4
 obtain⟨q1,q2⟩:=ok.fn f fn h1
 have key: ∀{l:List ResultVar} {vs:List Value},lmapO (resV T h tm) l=some vs-> ∃vs',(l.mapM (m:=Sem) fun
   | .tmp t=>pure (ts.getD t undef)
   | .cell a t=>do loadVar t (←asAddr (ts.getD a undef))).run T.P w= .ok vs' w/\LR m vs vs':=by
  intro l
  induction l with
  |nil=>
   intro vs e
   injection e with e
   subst e
   exact⟨[],by simp [Sem.run],.nil⟩
  |cons x l ih=>
   intro vs e
   obtain⟨y,e1,e2⟩:=ob_some.1 (show(ob (resV T h tm x) fun y=>ob (lmapO (resV T h tm) l) fun r=>some (y::r))=some vs from e)
   obtain⟨r,e3,e4⟩:=ob_some.1 e2
   injection e4 with e4
   subst e4
   obtain⟨vs',i1,i2⟩:=ih e3
   cases x with
   |tmp t=>
    injection e1 with e1
    subst e1
    refine⟨ts.getD t undef::vs',?_,.cons (R.2.2 t) i2⟩
    rw [List.mapM_cons]
    rw [run_sub _ _ w w (ts.getD t undef) rfl,run_sub _ _ w w vs' i1]
    rfl
   |cell c t=>
    obtain⟨j,e5,e6⟩:=ob_some.1 (show(ob (ti T t) fun i=>ob (Tr.get tm c) fun v=>aload h i v)=some y from e1)
    obtain⟨u,e7,e8⟩:=ob_some.1 e6
    have hu:=R.2.2 c
    rw [e7]at hu
    obtain⟨y',e9,e10⟩:=aload_ok ok H e5 hu e8
    have hp: ∃A,ts.getD c undef= .pointer (some A):=by
     obtain⟨A,g1,g2⟩:=ob_some.1 (show(ob (vPtr u) fun a=>ob (loadN h a j.size) fun cs=>one cs j.agg)=some y from e8)
     have:=vPtr_some g1
     subst this
     obtain⟨k,s,n,-,-,g3⟩:=(show VR m (.pointer (some A)) _ from hu).ptr_of
     exact⟨_,g3⟩
    obtain⟨A,hA⟩:=hp
    refine⟨y'::vs',?_,.cons e10 i2⟩
    rw [List.mapM_cons]
    rw [run_sub _ _ w w y' (by
     rw [hA]at e9
     show(do loadVar t (←asAddr (ts.getD c undef))).run T.P w=_
     rw [hA]
     simpa [Instr.loadAt,Instr.sureAddr,asAddr]using e9),run_sub _ _ w w vs' i1]
    rfl
 obtain⟨vs',e1,e2⟩:=key h3
 have hrl:fn.results=fn.results.toList.toArray:=by simp
 refine⟨fn,if h:vs'.toArray.size=1 then vs'.toArray[0]else .tuple vs'.toArray,q1,?_,?_⟩
 ·have e3:(List.toArray<$>fn.results.toList.mapM (m:=Sem) fun
    | .tmp t=>pure (ts.getD t undef)
    | .cell a t=>do loadVar t (←asAddr (ts.getD a undef))).run T.P w= .ok vs'.toArray w:=by rw [Sem.run_map,e1];rfl
  unfold results
  refine(run_sub _ _ w w vs'.toArray ?_).trans rfl
  rw [hrl,List.mapM_toArray]
  exact e3
 ·subst h4
  cases e2 with
  |nil=>exact .tup .nil
  |cons hv t=>cases t with
   |nil=>exact hv
   |cons hv' t'=>
    rw [dif_neg (by simp)]
    exact .tup (.cons hv (.cons hv' t'))
end
open Go Go.RowKit
set_option linter.unusedVariables false
set_option linter.unusedSimpArgs false
structure RunS (T:Tab) (base:Nat) (w0:World) (cs0:List Frame) (f0:FuncId) (m:Mp) (h:H) (w:World) (s:FS) (df:List Deferred) (cs:List AFr) (b:Frame) (a:Act) (rs:List Frame):Prop where
 mem:HR base w0 m h w
 hn:h.nx<=TOP
 hlo:s.lo<=h.nx
 S:StkR T m h cs0 f0 s cs rs
 hb:BR m s b
 hd:DL m df a.defers
 hret:s.ret=false
section
variable {T : Tab} {base : Nat} {w0 w w' : World} {cs0 : List Frame} {f0 : FuncId} {m m' : Mp} {h h' : H} {s s' : FS} {tm : Tr Value} {df : List Deferred} {todo : List AItem} {cs : List AFr} {fr : Frame} {rs : List Frame} {B : Nat} {M M' : Machine} {r : Res} {b : Frame} {a : Act} {k : List AItem} {k' : List Item}
theorem top8 (hn:h.nx<=TOP):h.nx<=8 * TOP:=by omega
theorem RunS.go (X:RunS T base w0 cs0 f0 m h w s df cs b a rs) (R:HdR T m h s.lo s.sz tm a.tmps k k'):ResR T base w0 cs0 f0 (.go s tm df k cs h) (lone (b.atR a k') rs w):=
 ⟨m,w,_,rs,rfl,X.mem,X.hn,X.hlo,X.S,b,a,k',by rw [frOf_run X.hret],X.hb,X.hd,fun e=>(by rw [X.hret]at e;cases e),fun _=>R⟩
theorem RunS.ext (X:RunS T base w0 cs0 f0 m h w s df cs b a rs) (E:Ext s.lo m h m' h') (H':HR base w0 m' h' w') (hn':h'.nx<=TOP) {a':Act} (ha:a'.defers=a.defers):RunS T base w0 cs0 f0 m' h' w' s df cs b a' rs:=
 ⟨H',hn',Nat.le_trans X.hlo E.nx,X.S.ext E,X.hb.mono E.sub,by rw [ha];exact X.hd.mono E.sub,X.hret⟩
theorem RunS.put (X:RunS T base w0 cs0 f0 m h w s df cs b a rs) (d:Option Tmp) (v:Value):RunS T base w0 cs0 f0 m h w s df cs b (a.put d v) rs:=
 ⟨X.mem,X.hn,X.hlo,X.S,X.hb,by rw [(put_tmps a d v).2];exact X.hd,X.hret⟩
theorem pop_ok (S:StkR T m h cs0 f0 s cs rs) (hlo:s.lo<=h.nx) (E:Ext h.nx m h m' h') (H':HR base w0 m' h' w') (hn':h'.nx<=TOP) {v v':Value} (hv:VR m' v v') (hd:s.dfr=false) (hs: ∀c rs',rs=c::rs'->step T.P M= .next (lone (c.finish v') rs' w')):Nx T base w0 cs0 f0 (doRet T s h' v cs) M:=by
 cases S with
 |nil _ _=>exact Nx.bad
 | @cons _ c cs1 fr1 rs1 W hd' S1=>
  show Nx T base w0 cs0 f0 (Bool.rec (finish T c.s c.tm c.df c.todo cs1 h' v) (.go c.s c.tm c.df c.todo cs1 h') s.dfr) M
  rw [hd]
  have hlo2:c.s.lo<=s.lo:=by obtain⟨_,_,_,_,_,_,_,_,q⟩:=W;exact q
  exact Nx.step (hs _ _ rfl) (Nx.zero (finish_ok H' hn' (Nat.le_trans hlo2 (Nat.le_trans hlo E.nx)) (hd'.trans hd) (W.ext (E.less hlo)) (S1.ext (E.less (Nat.le_trans hlo2 hlo))) hv))
theorem leave2_ok (X:RunS T base w0 cs0 f0 m h w s df cs b a rs) {l:Nat} (hl:s.round=some l) {r:Lp} (hr:oLoop (hget h l)=some r) (jump:Option Code)
  (hs: ∀q w' c rs',b.roundOf=some q->b.kind= .normal->(Instr.endRound q jump).run T.P w= .ok (.bool jump.isNone) w'->rs=c::rs'->step T.P M= .next (lone (c.finish (.bool jump.isNone)) rs' w')):
  Nx T base w0 cs0 f0 (leave2 T s cs h l jump r) M:=by
 have hro:=X.hb.round
 rw [hl]at hro
 have hdf:s.dfr=false:=X.hb.rd (by rw [hl];exact fun e=>by cases e)
 have hkind:b.kind= .normal:=by rw [X.hb.kind,hdf];rfl
 generalize hbr:b.roundOf=y at hro
 cases hro with
 | @some _ q s1 n1 hm=>
  have ho:=X.mem.obj _ _ _ _ hm
  have heq:=oLoop_some hr
  have hne:hget h l≠ .dead:=by rw [heq];exact fun e=>by cases e
  rw [heq]at ho
  cases ho with
  |loop ts ps d' s' n' hb ht hp hd=>
   have hrun:=run_endRound (P:=T.P) jump hb
   have hnone:isNone jump=jump.isNone:=by cases jump<;>rfl
   have hlt:q<w.heap.size:=(X.mem.dom _ _ _ _ hm).2.2
   obtain⟨H',E⟩:=X.mem.turn (w':=w.putObj q (.loop {state:=if jump.isNone then .ready else .done,pending:=jump,fn:=r.fn,tmps:=ts,params:=ps,assign:=r.assign,body:=r.body,defers:=d'})) hm (top8 X.hn) hne
    ⟨rfl,rfl,rfl,by simp,fun k hk=>World.putObj_heap_other (by omega)⟩ (fun j hj=>World.putObj_heap_other hj)
    (o:= .loop (Bool.rec .done .ready (isNone jump)) jump r.fn r.tm r.sz r.params r.assign r.body r.defers)
    (.loop ts ps d' s' n' (by rw [World.putObj_heap_same hlt,hnone];cases jump<;>rfl) ht hp hd)
   have hval:VR m (.bool (isNone jump)) (.bool jump.isNone):=by rw [hnone];exact .pure rfl
   exact pop_ok X.S X.hlo E H' (by exact X.hn) hval hdf fun c rs' e=>hs q _ c rs' hbr hkind hrun e
theorem RunS.ret (X:RunS T base w0 cs0 f0 m h w s df cs b a rs) (R:TR m tm s.sz a.tmps) (todo':List Item):ResR T base w0 cs0 f0 (.go ⟨s.fn,s.sz,true,s.dfr,s.round,s.lo⟩ tm df [] cs h) (lone {b.atR a todo' with mode:= .returning} rs w):=
 ⟨m,w,_,rs,rfl,X.mem,X.hn,X.hlo,X.S.same rfl rfl rfl,b,a,todo',rfl,⟨X.hb.fn,X.hb.kind,X.hb.round,X.hb.rd⟩,X.hd,fun _=>R,fun e=>by cases e⟩
theorem leave_ok (X:RunS T base w0 cs0 f0 m h w s df cs b a rs) (jump:Option Code) (plain:Bool) (R:TR m tm s.sz a.tmps)
  (h1:b.roundOf=none->plain=true-> ∃todo',step T.P M= .next (lone {b.atR a todo' with mode:= .returning} rs w))
  (hs: ∀q w' c rs',b.roundOf=some q->b.kind= .normal->(Instr.endRound q jump).run T.P w= .ok (.bool jump.isNone) w'->rs=c::rs'->step T.P M= .next (lone (c.finish (.bool jump.isNone)) rs' w')):
  Nx T base w0 cs0 f0 (leave T s tm df cs h jump plain) M:=by
 have e0:leave T s tm df cs h jump plain=Option.rec (Bool.rec .bad (.go ⟨s.fn,s.sz,true,s.dfr,s.round,s.lo⟩ tm df [] cs h) plain) (fun l=>Option.rec .bad (leave2 T s cs h l jump) (oLoop (hget h l))) s.round:=rfl
 rw [e0]
 cases hsr:s.round with
 |none=>
  have hbr:b.roundOf=none:=by
   have hro:=X.hb.round
   rw [hsr]at hro
   cases hx:b.roundOf with
   |none=>rfl
   |some y=>rw [hx]at hro;cases hro
  cases plain with
  |false=>exact Nx.bad
  |true=>
   obtain⟨todo',h2⟩:=h1 hbr rfl
   have:=X.ret R todo'
   rw [hsr]at this
   exact Nx.step h2 (Nx.zero this)
 |some l=>
  show Nx T base w0 cs0 f0 (Option.rec .bad (leave2 T s cs h l jump) (oLoop (hget h l))) M
  cases hlp:oLoop (hget h l)with
  |none=>exact Nx.bad
  |some r=>exact leave2_ok X hsr hlp jump hs
end
open Go Go.RowKit
set_option linter.unusedVariables false
set_option linter.unusedSimpArgs false
section
variable {T : Tab} {base : Nat} {w0 w w' : World} {cs0 : List Frame} {f0 : FuncId} {m m' : Mp} {h h' : H} {s s' : FS} {tm : Tr Value} {df : List Deferred} {todo : List AItem} {cs : List AFr} {fr : Frame} {rs : List Frame} {B : Nat} {M M' : Machine} {r : Res} {b : Frame} {a : Act} {k : List AItem} {k' : List Item} {ops : Array Oper} {L : List Oper} {o : Oper}
theorem aop_defer {c:Call} (ho:o.op= .defer c) {r:ORes} (hr:aop T h tm o=some r): ∃d h',r= .tn (.defer d) h':=by
 unfold aop at hr
 rw [ho]at hr
 obtain⟨q,e1,rfl⟩:=tn_some (show tn (e_defer h tm c.args.toList c.callee)=some r from hr)
 unfold e_defer at e1
 obtain⟨vs,h1,h2⟩:=ob_some.1 e1
 cases hc:c.callee with
 |builtin b=>rw [hc]at h2;cases h2
 |invoke r n=>rw [hc]at h2;cases h2
 |value f=>
  rw [hc]at h2
  obtain⟨p,h3,h4⟩:=ob_some.1 (show(ob (ob (lev tm f) vFn) fun p=>Fn.rec (fun g=>some (.defer {target:= .fn (.func g) p.2.2.toArray,args:=(lapp p.2.1 vs).toArray},h)) (fun _=>none) (fun _ _=>none) (fun _ _ _ _=>none) (fun _=>none) p.1)=some q from h2)
  obtain⟨fn,p1,p2⟩:=p
  cases fn with
  |func g=>
   injection h4 with h4
   subst h4
   exact⟨_,_,rfl⟩
  |_=>cases h4
theorem sem_of {r:ORes} (hr:aop T h tm o=some r) (hn: ∀d h',r≠ .tn (.defer d) h') (ro:Option Nat):o.semAt ro a.eval=execOp a.eval o:=
 Oper.semAt_eq ro a.eval o fun c hc=>by
  obtain⟨d,h',e⟩:=aop_defer hc hr
  exact hn d h' e
theorem putR_cases (d:Option Tmp) (sz:Nat) (v:Value) (ih:Tr Value->H->RR):putR d sz v tm h ih= .bad\/((∀t,d=some t->t<sz)/\putR d sz v tm h ih=ih (tmPut tm d v) h):=by
 cases d with
 |none=>exact .inr ⟨fun t e=>(by cases e),rfl⟩
 |some t=>
  have e:putR (some t) sz v tm h ih=Bool.rec .bad (ih (Tr.set v DEP tm t) h) (Nat.ble (Nat.succ t) sz):=rfl
  cases hb:Nat.ble (Nat.succ t) sz with
  |false=>rw [e,hb];exact .inl rfl
  |true=>
   rw [e,hb]
   refine .inr ⟨fun t' e'=> ?_,rfl⟩
   injection e' with e'
   subst e'
   exact Nat.le_of_ble_eq_true hb
theorem made_ok (H:HR base w0 m h w) (hn:h.nx<=8 * TOP) {ob:AObj} {kd:Mk} (y:Mkd T.P o a w m ob kd): ∃w' m' v',(execOp a.eval o).run T.P w= .ok (.value v') w'/\HR base w0 m' (hnew h ob) w'/\Ext h.nx m h m' (hnew h ob)/\VR m' (mkV h.nx kd) v':=by
 obtain⟨w',n,v',y1,y2,y3,y4⟩:=y
 obtain⟨y5,y6⟩:=y4 h.nx (H.fresh (Nat.le_refl _))
 obtain⟨H',E⟩:=H.new hn y2 y3 y5
 exact⟨w',_,v',y1,H',E,y6⟩
theorem RunS.reg (ok:TabOK T) (fok:FldOK T) (hL:ops.toList=L): ∀(rest:List Oper) (i:Nat) {m:Mp} {h:Ev.H} {w:World} {tm:Tr Value} {a:Act},L.drop i=rest->i<=L.length->RunS T base w0 cs0 f0 m h w s df cs b a rs->TR m tm s.sz a.tmps->IL m k k'->
  Nx T base w0 cs0 f0 (regF T s df cs L k (opsR T L s.sz rest tm h)) (lone (b.atR a (.inRegion ops (List.range' i (L.length - i))::k')) rs w)
 |[],i,m,h,w,tm,a,hr,hi,X,R,hk=>by
  have:L.length<=i:=by
   have:=congrArg List.length hr
   simp at this
   omega
  have e:L.length - i=0:=by omega
  rw [e]
  exact Nx.step stepR_region_end (Nx.zero (X.go (.plain R hk)))
 |o::rest,i,m,h,w,tm,a,hr,hi,X,R,hk=>by
  obtain⟨q1,q2,q3⟩:=drop_cons hr
  have hops:ops[i]? =some o:=by rw [<-Array.getElem?_toList,hL];exact q2
  have hw:=wanted_ok (tm:=tm) (o:=o) hL (fun t _=>R.2.2 t)
  have W: ∀{m':Mp} {h':Ev.H},Ext h.nx m h m' h'->WtR T m' h' s.lo h'.nx s.sz tm a.tmps (.reg L (o::rest)::k) (.inRegion ops (i::List.range' (i+1) (L.length - (i+1)))::k'):=fun{m' h'} E=>by
   rw [<-range'_cons q1]
   exact .reg (R.mono E.sub) hL hr (hk.mono E.sub)
  rw [range'_cons q1]
  have e0:opsR T L s.sz (o::rest) tm h=Bool.rec (putR o.dst s.sz undefV tm h (opsR T L s.sz rest)) (Option.rec .bad (goR o rest s.sz (opsR T L s.sz rest) tm h) (aop T h tm o)) (wantedIn L tm o):=rfl
  rw [e0]
  -- a value comes
  have val: ∀{m':Mp} {h':Ev.H} {w':World} {v v':Value},Ext h.nx m h m' h'->HR base w0 m' h' w'->h'.nx<=TOP->VR m' v v'->step T.P (lone (b.atR a (.inRegion ops (i::List.range' (i+1) (L.length - (i+1)))::k')) rs w)= .next (lone (b.atR (a.put o.dst v') (.inRegion ops (List.range' (i+1) (L.length - (i+1)))::k')) rs w')->
    Nx T base w0 cs0 f0 (regF T s df cs L k (putR o.dst s.sz v tm h' (opsR T L s.sz rest))) (lone (b.atR a (.inRegion ops (i::List.range' (i+1) (L.length - (i+1)))::k')) rs w):=fun{m' h' w' v v'} E H' hn' hv hs=>by
   rcases putR_cases (tm:=tm) (h:=h') o.dst s.sz v (opsR T L s.sz rest)with e|⟨e1,e2⟩
   ·rw [e];exact Nx.bad
   ·rw [e2]
    exact Nx.step hs (RunS.reg ok fok hL rest (i+1) q3 q1 ((X.ext (E.less X.hlo) H' hn' rfl).put _ _) ((R.mono E.sub).put e1 hv) (hk.mono E.sub))
  cases hwi:wantedIn L tm o with
  |false=>exact val (Ext.refl _ _ _) X.mem X.hn VR.undef (stepR_off hops (hw.trans hwi))
  |true=>
   cases hao:aop T h tm o with
   |none=>exact Nx.bad
   |some r=>
    have AO:=aop_ok ok fok X.mem (top8 X.hn) R hao
    cases AO with
    | @rd v y=>
     obtain⟨v',y1,y2⟩:=y
     exact val (Ext.refl _ _ _) X.mem X.hn y2 (stepR_val hops (hw.trans hwi) (by rw [sem_of hao fun d h' e=>by cases e];exact y1))
    | @mk ob kd y=>
     obtain⟨w',m',v',y1,H',E,y2⟩:=made_ok X.mem (top8 X.hn) y
     show Nx T base w0 cs0 f0 (regF T s df cs L k (Bool.rec .bad (putR o.dst s.sz (mkV h.nx kd) tm (hnew h ob) (opsR T L s.sz rest)) (Nat.ble (Nat.succ h.nx) TOP))) _
     cases hb:Nat.ble (Nat.succ h.nx) TOP with
     |false=>exact Nx.bad
     |true=>exact val E H' (Nat.le_of_ble_eq_true hb) y2 (stepR_val hops (hw.trans hwi) (by rw [sem_of hao fun d h' e=>by cases e];exact y1))
    | @tn n h' y=>
     obtain⟨w',m',n',y1,H',E,N⟩:=y
     show Nx T base w0 cs0 f0 (regF T s df cs L k (Bool.rec .bad (goN o rest s.sz (opsR T L s.sz rest) tm h' n) (Nat.ble h'.nx TOP))) _
     cases hb:Nat.ble h'.nx TOP with
     |false=>exact Nx.bad
     |true=>
      have hn':=Nat.le_of_ble_eq_true hb
      have X':=X.ext (E.less X.hlo) H' hn' (a':=a) rfl
      have stop:Nx T base w0 cs0 f0 (apply T s tm df (.reg L (o::rest)::k) cs h' n) (lone (b.atR a (.inRegion ops (i::List.range' (i+1) (L.length - (i+1)))::k')) rs w):=
       apply_ok ok hops (hw.trans hwi) y1 (fun c hc=>by
        obtain⟨d,h'',e⟩:=aop_defer hc hao
        injection e with e1 e2
        exact⟨d,e1⟩) H' hn' X'.hlo N X'.hb X'.hd X.hret (W E) X'.S
      cases N with
      |val hv=>exact val E H' hn' hv (stepR_val hops (hw.trans hwi) (by rw [sem_of hao fun d h' e=>by cases e];exact y1))
      |skip=>exact val E H' hn' VR.undef (stepR_skp hops (hw.trans hwi) (by rw [sem_of hao fun d h' e=>by cases e];exact y1))
      |enter _=>exact stop
      |round _ _=>exact stop
      |defer _=>exact stop
      |recov=>exact stop
theorem RunS.drawn (ok:TabOK T) (fok:FldOK T) (hL:ops.toList=L) {rest done todo:List Nat} {als:List (Nat×Nat)} (X:RunS T base w0 cs0 f0 m h w s df cs b a rs) (D:DrR T true m h s.lo L rest done als tm s.sz a.tmps todo) (hk:IL m k k'):
  Nx T base w0 cs0 f0 (itemD (.drawn L rest done als) T s tm df cs h k) (lone (b.atR a (.inRegion ops todo::k')) rs w):=by
 cases rest with
 |nil=>
  obtain⟨m',w',a',h1,h2,h3,h4,h5⟩:=D.ends (b:=b) (K:=k') (cs:=rs) ok fok (top8 X.hn) hL todo X.mem
  exact Nx.steps h1 (Nx.zero ((X.ext h4 h3 X.hn h2).go (.plain h5 (hk.mono h4.sub))))
 |cons i rest=>
  have hi:=D.head.2.1.1
  obtain⟨o,ho⟩: ∃o,L[i]? =some o:=⟨L[i],List.getElem?_eq_getElem hi⟩
  have hops:ops[i]? =some o:=by rw [<-Array.getElem?_toList,hL];exact ho
  have htu:turns L i=turnsO o.op:=by unfold turns;rw [lnth_eq,ho]
  show Nx T base w0 cs0 f0 (Option.rec .bad (fun o=>Bool.rec (finish T s tm df (.drawn L (i::rest) done als::k) cs h undefV) (Option.rec .bad (drawnO T s tm df cs h L i rest done als k) (aop T h tm o)) (wantedIn L tm o)) (lnth L i)) _
  rw [lnth_eq,ho]
  show Nx T base w0 cs0 f0 (Bool.rec (finish T s tm df (.drawn L (i::rest) done als::k) cs h undefV) (Option.rec .bad (drawnO T s tm df cs h L i rest done als k) (aop T h tm o)) (wantedIn L tm o)) _
  have fin: ∀{als':List (Nat×Nat)} {h':Ev.H} {v:Value},finish T s tm df (.drawn L (i::rest) done als'::k) cs h' v=Bool.rec .bad (putT s tm df cs h' o.dst v (.drawn L rest (i::done) als'::k)) (!turns L i||again T h' L (tmPut tm o.dst v) i done):=fun{als' h' v}=>by
   show(Option.rec .bad (finD T s tm df cs h' v L i rest done als' k) (lnth L i):Res)=_
   rw [lnth_eq,ho]
   rfl
  cases htb:turns L i with
  |false=>
   have hto:turnsO o.op=false:=htu.symm.trans htb
   -- the model stays where it is
   have ahead: ∀{als':List (Nat×Nat)} {h':Ev.H} {v:Value},RunS T base w0 cs0 f0 m h' w s df cs b a rs->((∀d,o.dst=some d->d<s.sz)->DrR T true m h' s.lo L rest (i::done) als' (tmPut tm o.dst v) s.sz a.tmps todo)->Nx T base w0 cs0 f0 (finish T s tm df (.drawn L (i::rest) done als'::k) cs h' v) (lone (b.atR a (.inRegion ops todo::k')) rs w):=fun{als' h' v} X' hD=>by
    rw [fin,htb]
    show Nx T base w0 cs0 f0 (putT s tm df cs h' o.dst v (.drawn L rest (i::done) als'::k)) _
    rcases putT_cases (s:=s) (tm:=tm) (df:=df) (cs:=cs) (h:=h') (todo:= .drawn L rest (i::done) als'::k) o.dst v with e|⟨e1,e2⟩
    ·rw [e];exact Nx.bad
    ·rw [e2]
     exact Nx.zero (X'.go (.drawn (hD e1) hL hk))
   cases hwi:wantedIn L tm o with
   |false=>exact ahead X fun hd=>D.ahead ho hto hd (fun _ _=>rfl) (Nat.le_refl _) (fun _ _ _=>rfl) (.inl rfl) (.inl ⟨hwi,rfl⟩)
   |true=>
    cases hao:aop T h tm o with
    |none=>exact Nx.bad
    |some r=>
     show Nx T base w0 cs0 f0 (Bool.rec (ORes.rec (fun v=>finish T s tm df (.drawn L (i::rest) done als::k) cs h v) (fun o m=>applyT T s tm df (.drawn L (i::rest) done ((i,h.nx)::als)::k) cs (hnew h o) (.val (mkV h.nx m))) (fun _ _=> .bad) r)
      (applyO T s tm df (.drawn L (i::rest) done als::k) cs h r) (turns L i)) _
     rw [htb]
     cases r with
     |rd v=>exact ahead X fun hd=>D.ahead ho hto hd (fun _ _=>rfl) (Nat.le_refl _) (fun _ _ _=>rfl) (.inl rfl) (.inr ⟨hwi,.inl hao⟩)
     |mk ob kd=>
      show Nx T base w0 cs0 f0 (Bool.rec .bad (finish T s tm df (.drawn L (i::rest) done ((i,h.nx)::als)::k) cs (hnew h ob) (mkV h.nx kd)) (Nat.ble (Nat.succ h.nx) TOP)) _
      cases hb:Nat.ble (Nat.succ h.nx) TOP with
      |false=>exact Nx.bad
      |true=>
       obtain⟨H',E⟩:=X.mem.reserve (top8 X.hn) ob
       have hnx:(hnew h ob).nx=h.nx+1:=rfl
       exact ahead (X.ext (E.less X.hlo) H' (Nat.le_of_ble_eq_true hb) rfl) fun hd=>D.ahead ho hto hd (grows_hnew (X.mem.above _ (Nat.le_refl _)) (top8 X.hn) ob) E.nx (fun f hf e=>(E.old f hf e).2) (.inr ⟨rfl,by omega,X.hlo⟩)
        (.inr ⟨hwi,.inr ⟨ob,kd,hao,rfl,by simp,X.mem.fresh (Nat.le_refl _),by rw [hget_hnew _ _ _ (top8 X.hn),if_pos rfl],X.hlo,by omega⟩⟩)
     |tn n h'=>exact Nx.bad
  |true=>
   have hto:turnsO o.op=true:=htu.symm.trans htb
   obtain⟨m1,w1,a1,post,h1,h2,h3,h4,D1⟩:=D.catch (b:=b) (K:=k') (cs:=rs) ok fok (top8 X.hn) hL htb todo X.mem
   refine Nx.steps h1 ?_
   have X1:=X.ext h4 h3 X.hn h2
   have hk1:=hk.mono h4.sub
   have hself:i∈done->turnsO o.op=false:=fun e=>absurd e D.head.1
   have hno:=D1.notMem ho hself
   have hw:=wanted_ok (tm:=tm) hL (fun t hh=>D1.R.2.2 t (hno t hh))
   have W: ∀{m':Mp} {h':Ev.H},Ext h.nx m1 h m' h'->WtR T m' h' s.lo h'.nx s.sz tm a1.tmps (.drawn L (i::rest) done als::k) (.inRegion ops (i::post)::k'):=fun{m' h'} E=>
    .drawn (D1.wait (fun p hp=>(D1.als2 p hp).2) E) hL htb (fun p hp=>Nat.lt_of_lt_of_le (D1.als2 p hp).2 E.nx) (hk1.mono E.sub)
   cases hwi:wantedIn L tm o with
   |false=>
    show Nx T base w0 cs0 f0 (finish T s tm df (.drawn L (i::rest) done als::k) cs h undefV) _
    refine Nx.step (stepR_off hops (hw.trans hwi)) (Nx.zero ?_)
    have hfr:(b.atR a1 (.inRegion ops (i::post)::k')).finish undef=b.atR (a1.put o.dst undef) (.inRegion ops post::k'):=by rw [Frame.finish_atR,hops];rfl
    rw [<-hfr]
    exact finish_ok X1.mem X1.hn X1.hlo X1.hret (B:=h.nx) ⟨b,a1,_,by rw [frOf_run X1.hret],X1.hb,X1.hd,fun e=>(by rw [X1.hret]at e;cases e),fun _=>W (Ext.refl _ _ _),X1.hlo⟩ X1.S VR.undef
   |true=>
    cases hao:aop T h tm o with
    |none=>exact Nx.bad
    |some r=>
     show Nx T base w0 cs0 f0 (Bool.rec (ORes.rec (fun v=>finish T s tm df (.drawn L (i::rest) done als::k) cs h v) (fun o m=>applyT T s tm df (.drawn L (i::rest) done ((i,h.nx)::als)::k) cs (hnew h o) (.val (mkV h.nx m))) (fun _ _=> .bad) r)
      (applyO T s tm df (.drawn L (i::rest) done als::k) cs h r) (turns L i)) _
     rw [htb]
     show Nx T base w0 cs0 f0 (applyO T s tm df (.drawn L (i::rest) done als::k) cs h r) _
     have AO:=D1.opR ok fok X1.mem (top8 X1.hn) ho hself hao
     have use: ∀{m':Mp} {h':Ev.H} {w':World} {n:ANext} {n':Next},(execOp a1.eval o).run T.P w1= .ok n' w'->(∀c,o.op= .defer c-> ∃d,n= .defer d)->HR base w0 m' h' w'->Ext h.nx m1 h m' h'->h'.nx<=TOP->NR m' n n'->
       Nx T base w0 cs0 f0 (apply T s tm df (.drawn L (i::rest) done als::k) cs h' n) (lone (b.atR a1 (.inRegion ops (i::post)::k')) rs w1):=fun{m' h' w' n n'} y1 yd H' E hn' N=>by
      have X':=X1.ext (E.less X1.hlo) H' hn' (a':=a1) rfl
      exact apply_ok ok hops (hw.trans hwi) y1 yd H' hn' X'.hlo N X'.hb X'.hd X1.hret (W E) X'.S
     cases AO with
     | @rd v y=>
      obtain⟨v',y1,y2⟩:=y
      exact use (n:= .val v) y1 (fun c hc=>by obtain⟨d,h',e⟩:=aop_defer hc hao;cases e) X1.mem (Ext.refl _ _ _) X1.hn (.val y2)
     | @mk ob kd y=>
      obtain⟨w',m',v',y1,H',E,y2⟩:=made_ok X1.mem (top8 X1.hn) y
      show Nx T base w0 cs0 f0 (Bool.rec .bad (apply T s tm df (.drawn L (i::rest) done als::k) cs (hnew h ob) (.val (mkV h.nx kd))) (Nat.ble (Nat.succ h.nx) TOP)) _
      cases hb:Nat.ble (Nat.succ h.nx) TOP with
      |false=>exact Nx.bad
      |true=>exact use y1 (fun c hc=>by obtain⟨d,h',e⟩:=aop_defer hc hao;cases e) H' E (Nat.le_of_ble_eq_true hb) (.val y2)
     | @tn n h' y=>
      obtain⟨w',m',n',y1,H',E,N⟩:=y
      show Nx T base w0 cs0 f0 (Bool.rec .bad (apply T s tm df (.drawn L (i::rest) done als::k) cs h' n) (Nat.ble h'.nx TOP)) _
      cases hb:Nat.ble h'.nx TOP with
      |false=>exact Nx.bad
      |true=>exact use y1 (fun c hc=>by
        obtain⟨d,h'',e⟩:=aop_defer hc hao
        injection e with e1 e2
        exact⟨d,e1⟩) H' E (Nat.le_of_ble_eq_true hb) N
end
open Go Go.RowKit
set_option linter.unusedVariables false
set_option linter.unusedSimpArgs false
section
variable {T : Tab} {base : Nat} {w0 w w' : World} {cs0 : List Frame} {f0 : FuncId} {m m' : Mp} {h h' : H} {s s' : FS} {tm : Tr Value} {df : List Deferred} {todo : List AItem} {cs : List AFr} {fr : Frame} {rs : List Frame} {B : Nat} {M M' : Machine} {r : Res} {b : Frame} {a : Act} {k : List AItem} {k' : List Item}
theorem stepR_scope {P:Program} {c:Code}:step P (lone (b.atR a (.code (.scope c)::k')) rs w)= .next (lone (b.atR a (.code c:: .inScope c::k')) rs w):=
 step_lone_go (by simp [stepG,stepG.exec,Frame.atR])
theorem stepR_inScope {P:Program} {c:Code}:step P (lone (b.atR a (.inScope c::k')) rs w)= .next (lone (b.atR a k') rs w):=
 step_lone_go (by simp [stepG,stepG.exec,Frame.atR])
theorem range2_ok (ok:TabOK T) (X:RunS T base w0 cs0 f0 m h w s df cs b a rs) (R:TR m tm s.sz a.tmps) (hk:IL m k k') {g:Operand} {fv:Value} (hf:lev tm g=some fv) {ps:Array Tmp} {assign body:Code}
  {m1:Mp} {h1:Ev.H} {w1:World} (H1:HR base w0 m1 h1 w1) (E1:Ext h.nx m h m1 h1) (hn1:h1.nx<=8 * TOP) {dn d' s' n':Nat} (hd1:m1 dn=some (d',s',n')) {mark mark':List Deferred} (hmk:DL m1 mark mark')
  (he:(Instr.enterLoop b.fn a.tmps ps assign body b.roundOf).run T.P w= .ok (w1.heap.size,mark') (w1.alloc (.loop {state:= .ready,pending:=none,fn:=b.fn,tmps:=a.tmps,params:=ps,assign,body,defers:=d'}))):
  Nx T base w0 cs0 f0 (rangeS2 T s tm df cs h1 fv ps.toList assign body k mark dn) (lone (b.atR a (.code (.rangeFunc g ps assign body)::k')) rs w):=by
 have e0:rangeS2 T s tm df cs h1 fv ps.toList assign body k mark dn=Option.rec .bad (fun p=>Fn.rec (fun g=>Option.rec .bad (fun q=>onlyE q.1 (applyT T s tm (lapp mark df) (.inRangeFunc h1.nx::k) cs q.2 q.1))
   (callF T g (lapp p.2.1 (.func (.yield h1.nx) #[] #[]::p.2.2)) (hnew h1 (.loop .ready none s.fn tm s.sz ps.toList assign body dn)))) (fun _=> .bad) (fun _ _=> .bad) (fun _ _ _ _=> .bad) (fun _=> .bad) p.1) (vFn fv):=rfl
 rw [e0]
 cases hv:vFn fv with
 |none=>exact Nx.bad
 |some p=>
  have:=vFn_some hv
  subst this
  obtain⟨fn,p1,p2⟩:=p
  cases fn with
  |func f=>
   obtain⟨q1,q2,he1,e1,e2⟩:=(lev_ok R hf).fn_of
   have hfn:=X.hb.fn
   obtain⟨H2,E2⟩:=H1.new (n:=0) (w':=w1.alloc (.loop {state:= .ready,pending:=none,fn:=b.fn,tmps:=a.tmps,params:=ps,assign,body,defers:=d'})) (o:= .loop .ready none s.fn tm s.sz ps.toList assign body dn) hn1 (alloc_below _ _) (alloc_lt _ _)
    (.loop a.tmps ps d' s' n' (by rw [alloc_at,hfn]) ((R.mono E1.sub).mono (upd_sub (H1.fresh (Nat.le_refl _)))) rfl (upd_sub (H1.fresh (Nat.le_refl _)) _ _ hd1))
   have E:=E1.trans (E2.less E1.nx)
   have hy:VR (upd m1 h1.nx (w1.heap.size,0,0)) (.func (.yield h1.nx) #[] #[]) (.func (.yield w1.heap.size) #[] #[]):= .yl (upd_same _ _ _)
   show Nx T base w0 cs0 f0 (Option.rec .bad (fun q=>onlyE q.1 (applyT T s tm (lapp mark df) (.inRangeFunc h1.nx::k) cs q.2 q.1))
    (callF T f (lapp p1 (.func (.yield h1.nx) #[] #[]::p2)) (hnew h1 (.loop .ready none s.fn tm s.sz ps.toList assign body dn)))) _
   cases hc:callF T f (lapp p1 (.func (.yield h1.nx) #[] #[]::p2)) (hnew h1 (.loop .ready none s.fn tm s.sz ps.toList assign body dn))with
   |none=>exact Nx.bad
   |some q=>
    obtain⟨n1,f1,f2,f3⟩:=callF_ok ok (m:=upd m1 h1.nx (w1.heap.size,0,0)) (xs':=q1++ #[.func (.yield w1.heap.size) #[] #[]]++q2) (by
     rw [lapp_eq,Array.toList_append,Array.toList_append,List.append_assoc]
     exact LR.append (LR.mono E.sub (by simpa using e1)) (.cons hy (LR.mono E.sub (by simpa using e2)))) hc (w1.alloc (.loop {state:= .ready,pending:=none,fn:=b.fn,tmps:=a.tmps,params:=ps,assign,body,defers:=d'}))
    obtain⟨qn,qh⟩:=q
    have f2:qh=_:=f2
    subst f2
    have f3:NR (upd m1 h1.nx (w1.heap.size,0,0)) qn n1:=f3
    show Nx T base w0 cs0 f0 (onlyE qn (applyT T s tm (lapp mark df) (.inRangeFunc h1.nx::k) cs (hnew h1 (.loop .ready none s.fn tm s.sz ps.toList assign body dn)) qn)) _
    cases f3 with
    | @enter f' xs xs' hx=>
     show Nx T base w0 cs0 f0 (Bool.rec .bad (enterF T f' xs false (⟨s,tm,lapp mark df,.inRangeFunc h1.nx::k⟩::cs) (hnew h1 (.loop .ready none s.fn tm s.sz ps.toList assign body dn))) (Nat.ble (hnew h1 (.loop .ready none s.fn tm s.sz ps.toList assign body dn)).nx TOP)) _
     cases hb:Nat.ble (hnew h1 (.loop .ready none s.fn tm s.sz ps.toList assign body dn)).nx TOP with
     |false=>exact Nx.bad
     |true=>
      have hn2:=Nat.le_of_ble_eq_true hb
      have hstep:=stepR_rangeFunc (P:=T.P) (b:=b) (a:=a) (k:=k') (cs:=rs) (w:=w) (g:=g) (ps:=ps) (assign:=assign) (body:=body) (l:=w1.heap.size) (mark:=mark') (f:=f') (args:=xs')
       (d:={target:= .fn (.func f) q2,args:=q1++ #[.func (.yield w1.heap.size) #[] #[]]}) he (by
        have hk0:a.eval (.const (.func (.yield w1.heap.size) #[] #[]))= .func (.yield w1.heap.size) #[] #[]:=rfl
        simp [resolve,rangeCall,he1,hk0,Deferred.ofValue]
        rfl) (by simp only [invoke];exact f1)
      refine Nx.step hstep (Nx.zero ?_)
      have hlo2:s.lo<=(hnew h1 (.loop .ready none s.fn tm s.sz ps.toList assign body dn)).nx:=Nat.le_trans X.hlo E.nx
      refine enter_ok ok H2 hn2 hx false fun n=> .cons (fr:=b.atR {a with defers:=mark'++a.defers} (.inRangeFunc w1.heap.size::k')) ⟨b,{a with defers:=mark'++a.defers},_,by rw [frOf_run X.hret],X.hb.mono E.sub,?_,fun e=>(by rw [X.hret]at e;cases e),fun _=> .range (R.mono E.sub) (upd_same _ _ _) (hk.mono E.sub),hlo2⟩ X.hret (X.S.ext (E.less X.hlo))
      rw [lapp_eq]
      exact(hmk.mono E2.sub).append (X.hd.mono E.sub)
    |val _=>exact Nx.bad
    |skip=>exact Nx.bad
    |round _ _=>exact Nx.bad
    |defer _=>exact Nx.bad
    |recov=>exact Nx.bad
  |_=>exact Nx.bad
theorem range_ok (ok:TabOK T) (X:RunS T base w0 cs0 f0 m h w s df cs b a rs) (R:TR m tm s.sz a.tmps) (hk:IL m k k') {g:Operand} {ps:Array Tmp} {assign body:Code}:
  Nx T base w0 cs0 f0 (rangeS T s tm df cs h (lev tm g) ps.toList assign body k) (lone (b.atR a (.code (.rangeFunc g ps assign body)::k')) rs w):=by
 have hro:=X.hb.round
 cases hf:lev tm g with
 |none=>exact Nx.bad
 |some fv=>
  show Nx T base w0 cs0 f0 (Option.rec (rangeS2 T s tm df cs (hnew h .defs) fv ps.toList assign body k [{target:= .collected h.nx,args:= #[]}] h.nx)
   (fun l=>Option.rec .bad (fun r=>rangeS2 T s tm df cs h fv ps.toList assign body k [] r.defers) (oLoop (hget h l))) s.round) _
  cases hsr:s.round with
  |none=>
   rw [hsr]at hro
   have hbr:b.roundOf=none:=by
    cases hx:b.roundOf with
    |none=>rfl
    |some y=>rw [hx]at hro;cases hro
   obtain⟨H1,E1⟩:=X.mem.new (n:=0) (w':=w.alloc (.deferred (some []))) (o:= .defs) (top8 X.hn) (alloc_below _ _) (alloc_lt _ _) (.defs (alloc_at _ _))
   have hsz:(w.alloc (.deferred (some []))).heap.size=w.heap.size+1:=by simp
   refine range2_ok ok X R hk hf H1 E1 (show h.nx+1<=8 * TOP by have:=X.hn;unfold TOP at *;omega) (upd_same _ _ _) (mark':=[{target:= .collected w.heap.size,args:= #[]}]) (.cons ⟨.inl ⟨_,_,_,_,rfl,rfl,upd_same _ _ _⟩,.nil⟩ .nil) ?_
   rw [hbr,run_enterLoop_outer,hsz]
  |some l=>
   rw [hsr]at hro
   show Nx T base w0 cs0 f0 (Option.rec .bad (fun r=>rangeS2 T s tm df cs h fv ps.toList assign body k [] r.defers) (oLoop (hget h l))) _
   cases hlp:oLoop (hget h l)with
   |none=>exact Nx.bad
   |some r=>
    generalize hbr:b.roundOf=y at hro
    cases hro with
    | @some _ q s1 n1 hm=>
     have ho:=X.mem.obj _ _ _ _ hm
     rw [oLoop_some hlp]at ho
     cases ho with
     |loop ts ps' d' s' n' hb ht hp hd=>
      refine range2_ok ok X R hk hf X.mem (Ext.refl _ _ _) (top8 X.hn) hd (mark':=[]) .nil ?_
      rw [hbr,run_enterLoop_inner hb]
theorem code_ok (ok:TabOK T) (fok:FldOK T) (mo:T.P.follows .mixedOrders=true) (c:Code) (X:RunS T base w0 cs0 f0 m h w s df cs b a rs) (R:TR m tm s.sz a.tmps) (hk:IL m k k'):
  Nx T base w0 cs0 f0 (codeD c T s tm df cs h k) (lone (b.atR a (.code c::k')) rs w):=by
 cases c with
 |skip=>exact Nx.step stepR_skip (Nx.zero (X.go (.plain R hk)))
 |region id ops d=>
  cases d with
  |false=>
   refine Nx.step stepR_region ?_
   have:=X.reg (k:=k) (k':=k') ok fok (ops:=ops) rfl ops.toList 0 rfl (Nat.zero_le _) R hk
   rw [List.range_eq_range']
   have e1:List.range' 0 (ops.toList.length - 0)=List.range' 0 ops.size:=by simp
   rw [e1]at this
   exact this
  |true=>
   show Nx T base w0 cs0 f0 (Option.rec .bad (fun p=> .go s tm df (.drawn ops.toList p [] []::k) cs h) (plan ops.toList)) _
   cases hp:plan ops.toList with
   |none=>exact Nx.bad
   |some l=>
    obtain⟨q1,q2⟩:=sched_ok mo hp (w.tape w.drawn (.order b.fn id))
    have H':HR base w0 m h {w with drawn:=w.drawn+1}:=X.mem.drawn rfl rfl rfl rfl
    have X':RunS T base w0 cs0 f0 m h {w with drawn:=w.drawn+1} s df cs b a rs:=⟨H',X.hn,X.hlo,X.S,X.hb,X.hd,X.hret⟩
    exact Nx.step stepR_region_draw (Nx.zero (X'.go (.drawn (DrR.begin hp R q1 (by simpa using q2)) rfl hk)))
 |seq x y=>exact Nx.step stepR_seq (Nx.zero (X.go (.plain R (.cons (.code x) (.cons (.code y) hk)))))
 |cond c x y=>
  show Nx T base w0 cs0 f0 (condS s tm df cs h x y k (lev tm c)) _
  unfold condS
  cases hv:ob (lev tm c) vBool with
  |none=>exact Nx.bad
  |some t=>
   obtain⟨v,h1,h2⟩:=ob_some.1 hv
   have:=vBool_some h2
   subst this
   have hev:=(lev_ok R h1).bool_of
   refine Nx.step (stepR_cond hev) (Nx.zero ?_)
   cases t with
   |true=>exact X.go (.plain R (.cons (.code x) hk))
   |false=>exact X.go (.plain R (.cons (.code y) hk))
 |block id c=>exact Nx.step stepR_block (Nx.zero (X.go (.plain R (.cons (.code c) (.cons (.inBlock id) hk)))))
 |loop c=>exact Nx.step stepR_loop (Nx.zero (X.go (.plain R (.cons (.code c) (.cons (.inLoop c) hk)))))
 |rangeFunc g ps assign body=>exact range_ok ok X R hk
 |exit id=>
  show Nx T base w0 cs0 f0 (toO T s tm df cs h (.exit id) (exitTo' id k)) _
  rcases exit_ok id hk with⟨e1,e2⟩|⟨t,t',e1,e2,e3⟩
  ·rw [e1]
   refine leave_ok X (some (.exit id)) false R (fun _ e=>by cases e) fun q w' c rs' hb hkd hrun e=> ?_
   subst e
   exact stepR_round_exit hb hkd e2 hrun
  ·rw [e1]
   exact Nx.step (stepR_exit e2) (Nx.zero (X.go (.plain R e3)))
 |scope c=>exact Nx.step stepR_scope (Nx.zero (X.go (.plain R (.cons (.code c) (.cons (.inScope c) hk)))))
 |label l=>exact Nx.step stepR_label (Nx.zero (X.go (.plain R hk)))
 |goto l=>
  show Nx T base w0 cs0 f0 (toO T s tm df cs h (.goto l) (gotoIn' l k)) _
  rcases goto_ok l hk with⟨e1,e2⟩|⟨t,t',e1,e2,e3⟩
  ·rw [e1]
   refine leave_ok X (some (.goto l)) false R (fun _ e=>by cases e) fun q w' c rs' hb hkd hrun e=> ?_
   subst e
   exact stepR_round_goto hb hkd e2 hrun
  ·rw [e1]
   exact Nx.step (stepR_goto e2) (Nx.zero (X.go (.plain R e3)))
 |ret=>
  refine leave_ok X (some .ret) true R (fun hb _=>⟨_,stepR_ret hb⟩) fun q w' c rs' hb hkd hrun e=> ?_
  subst e
  exact stepR_round_ret hb hkd hrun
 |refuse why=>exact Nx.bad
theorem run_ok (ok:TabOK T) (fok:FldOK T) (mo:T.P.follows .mixedOrders=true) (X:RunS T base w0 cs0 f0 m h w s df cs b a rs) {todo':List Item} (hd:HdR T m h s.lo s.sz tm a.tmps todo todo'):
  Nx T base w0 cs0 f0 (runF T s tm df todo cs h) (lone (b.atR a todo') rs w):=by
 cases hd with
 |plain R hk=>
  cases hk with
  |nil=>
   refine leave_ok X none true R (fun hb _=>⟨_,stepR_end hb⟩) fun q w' c rs' hb hkd hrun e=> ?_
   subst e
   exact stepR_round_end hb hkd hrun
  |cons hx hk=>
   cases hx with
   |code c=>exact code_ok ok fok mo c X R hk
   |inBlock i=>exact Nx.step stepR_inBlock (Nx.zero (X.go (.plain R hk)))
   |inLoop c=>exact Nx.step stepR_inLoop (Nx.zero (X.go (.plain R (.cons (.code c) (.cons (.inLoop c) hk)))))
   |inScope c=>exact Nx.step stepR_inScope (Nx.zero (X.go (.plain R hk)))
   |inRange _=>exact Nx.bad
   | @endRange l q s1 n1 hm=>
    show Nx T base w0 cs0 f0 (endS s tm df cs h l _) _
    unfold endS
    cases hlp:oLoop (hget h l)with
    |none=>exact Nx.bad
    |some r=>
     have ho:=X.mem.obj _ _ _ _ hm
     have heq:=oLoop_some hlp
     have hne:hget h l≠ .dead:=by rw [heq];exact fun e=>by cases e
     rw [heq]at ho
     cases ho with
     |loop ts ps d' s' n' hb ht hp hd=>
      show Nx T base w0 cs0 f0 (Bool.rec (.go s tm df (Option.rec _ (fun c=> .code c::_) r.pending) cs (hput h l (.loop .exhausted r.pending r.fn r.tm r.sz r.params r.assign r.body r.defers))) .bad (isBusy r.state)) _
      cases hby:isBusy r.state with
      |true=>exact Nx.bad
      |false=>
       have hnb:r.state≠ .busy:=fun e=>by rw [e]at hby;cases hby
       have hrun:=run_endLoop (P:=T.P) hb hnb
       have hlt:q<w.heap.size:=(X.mem.dom _ _ _ _ hm).2.2
       obtain⟨H',E⟩:=X.mem.turn (w':=w.putObj q (.loop {state:= .exhausted,pending:=r.pending,fn:=r.fn,tmps:=ts,params:=ps,assign:=r.assign,body:=r.body,defers:=d'})) hm (top8 X.hn) hne
        ⟨rfl,rfl,rfl,by simp,fun k hk=>World.putObj_heap_other (by omega)⟩ (fun j hj=>World.putObj_heap_other hj)
        (o:= .loop .exhausted r.pending r.fn r.tm r.sz r.params r.assign r.body r.defers)
        (.loop ts ps d' s' n' (World.putObj_heap_same hlt) ht hp hd)
       refine Nx.step (stepR_endRangeFunc hrun) (Nx.zero ?_)
       have X':=X.ext (E.less X.hlo) H' X.hn (a':=a) rfl
       cases hpe:r.pending with
       |none=>rw [hpe]at X';exact X'.go (.plain R hk)
       |some c=>rw [hpe]at X';exact X'.go (.plain R (.cons (.code c) hk))
   |begin=>
    show Nx T base w0 cs0 f0 (Option.rec .bad (fun l=>beginS s tm df cs h _ l) s.round) _
    cases hsr:s.round with
    |none=>exact Nx.bad
    |some l=>
     show Nx T base w0 cs0 f0 (beginS s tm df cs h _ l) _
     unfold beginS
     cases hlp:oLoop (hget h l)with
     |none=>exact Nx.bad
     |some r=>
      have hro:=X.hb.round
      rw [hsr]at hro
      generalize hbr:b.roundOf=y at hro
      cases hro with
      | @some _ q s1 n1 hm=>
       have ho:=X.mem.obj _ _ _ _ hm
       have heq:=oLoop_some hlp
       have hne:hget h l≠ .dead:=by rw [heq];exact fun e=>by cases e
       rw [heq]at ho
       cases ho with
       |loop ts ps d' s' n' hb ht hp hd=>
        show Nx T base w0 cs0 f0 (Bool.rec .bad (.go s tm df _ cs (hput h l (.loop .busy r.pending r.fn r.tm r.sz r.params r.assign r.body r.defers))) (isReady r.state)) _
        cases hby:isReady r.state with
        |false=>exact Nx.bad
        |true=>
         have hnb:r.state= .ready:=by cases hx:r.state<;>rw [hx]at hby<;>first|rfl|cases hby
         have hrun:=run_beginRound (P:=T.P) hb hnb
         have hlt:q<w.heap.size:=(X.mem.dom _ _ _ _ hm).2.2
         obtain⟨H',E⟩:=X.mem.turn (w':=w.putObj q (.loop {state:= .busy,pending:=r.pending,fn:=r.fn,tmps:=ts,params:=ps,assign:=r.assign,body:=r.body,defers:=d'})) hm (top8 X.hn) hne
          ⟨rfl,rfl,rfl,by simp,fun k hk=>World.putObj_heap_other (by omega)⟩ (fun j hj=>World.putObj_heap_other hj)
          (o:= .loop .busy r.pending r.fn r.tm r.sz r.params r.assign r.body r.defers)
          (.loop ts ps d' s' n' (World.putObj_heap_same hlt) ht hp hd)
         exact Nx.step (stepR_beginRound hbr hrun) (Nx.zero ((X.ext (E.less X.hlo) H' X.hn (a':=a) rfl).go (.plain R hk)))
 | @reg L rest k k' ops i R hL hr hi hk=>exact X.reg ok fok hL rest i hr hi R hk
 |drawn D hL hk=>exact X.drawn ok fok hL D hk
theorem ret_ok (ok:TabOK T) (H:HR base w0 m h w) (hn:h.nx<=TOP) (hlo:s.lo<=h.nx) (S:StkR T m h cs0 f0 s cs rs) (hb:BR m s b) (hd:DL m df a.defers) (R:TR m tm s.sz a.tmps) (todo':List Item) (hret:s.ret=true):
  Nx T base w0 cs0 f0 (retF T s tm df todo cs h) (lone {b.atR a todo' with mode:= .returning} rs w):=by
 generalize hds:a.defers=ds at hd
 cases hd with
 |nil=>
  show Nx T base w0 cs0 f0 (Option.rec .bad (ends T s h cs) (results' T h tm s.fn)) _
  cases hr:results' T h tm s.fn with
  |none=>exact Nx.bad
  |some v=>
   obtain⟨fn,v',h1,h2,h3⟩:=results_ok ok H R hr
   have hfn:=hb.fn
   have hkd:=hb.kind
   cases S with
   |nil hdf hff=>
    show Nx T base w0 cs0 f0 (Bool.rec (.over v h) .bad s.dfr) _
    rw [hdf]
    rw [hdf]at hkd
    exact Nx.zero ⟨m,w,_,v',rfl,H.below,⟨rfl,hds,hkd,fn,by rw [show({b.atR a todo' with mode:= .returning}:Frame).fn=s.fn from hfn];exact h1,h2⟩,h3,hfn.trans hff⟩
   | @cons _ c cs1 fr1 rs1 W hd' S1=>
    show Nx T base w0 cs0 f0 (Bool.rec (finish T c.s c.tm c.df c.todo cs1 h v) (.go c.s c.tm c.df c.todo cs1 h) s.dfr) _
    have hlo2:c.s.lo<=s.lo:=by obtain⟨_,_,_,_,_,_,_,_,q⟩:=W;exact q
    cases hdf:s.dfr with
    |false=>
     rw [hdf]at hkd hd'
     exact Nx.step (step_leave_returned (v:=v') ⟨rfl,hds,hkd,fn,by rw [show({b.atR a todo' with mode:= .returning}:Frame).fn=s.fn from hfn];exact h1,h2⟩) (Nx.zero (finish_ok H hn (Nat.le_trans hlo2 hlo) hd' W S1 h3))
    |true=>
     rw [hdf]at hkd hd'
     obtain⟨b1,a1,t1,g1,g2,g3,g4,g5,g6⟩:=W
     refine Nx.step (step_going_returned (v:=v') hkd ⟨rfl,hds,fn,by rw [show({b.atR a todo' with mode:= .returning}:Frame).fn=s.fn from hfn];exact h1,h2⟩) (Nx.zero ?_)
     have hmode:({fr1 with mode:=settle fr1.mode}:Frame)=frOf c.s.ret b1 a1 t1:=by
      rw [g1,hd']
      rfl
     rw [hmode]
     exact⟨m,w,_,rs1,rfl,H,hn,Nat.le_trans hlo2 hlo,S1,b1,a1,t1,rfl,g2,g3,g4,fun e=>by rw [hd']at e;cases e⟩
 | @cons d d' ds ds' hdd hdl=>
  show Nx T base w0 cs0 f0 (retD T s tm todo cs h ds d) _
  obtain⟨tg,ag⟩:=d
  obtain⟨htg,hag⟩:=hdd
  rcases htg with⟨bk,q,s1,n1,t1,t2,hm⟩|⟨f,c,c',t1,t2,hc⟩
  ·have t1:tg=_:=t1
   subst t1
   show Nx T base w0 cs0 f0 (Bool.rec .bad (.go s tm ds todo cs (hput h bk .dead)) (oDefs (hget h bk))) _
   cases hod:oDefs (hget h bk)with
   |false=>exact Nx.bad
   |true=>
    have heq:=oDefs_true hod
    have ho:=H.obj _ _ _ _ hm
    have hne:hget h bk≠ .dead:=by rw [heq];exact fun e=>by cases e
    rw [heq]at ho
    cases ho with
    |defs hbk=>
     have hrun:=run_takeDeferred (P:=T.P) hbk
     obtain⟨H',E⟩:=H.turn (w':=w.putObj q (.deferred none)) hm (top8 hn) hne ⟨rfl,rfl,rfl,by simp,fun k hk=>World.putObj_heap_other (by omega)⟩ (fun j hj=>World.putObj_heap_other hj) (o:= .dead) .dead
     refine Nx.step (step_collected (fr:={b.atR a todo' with mode:= .returning}) (d:=d') (ds:=ds') (fun e=>by cases e) hds t2 hrun) (Nx.zero ?_)
     exact⟨m,_,_,rs,rfl,H',hn,hlo,S.ext (E.less hlo),b,{a with defers:=ds'},todo',by rw [hret];rfl,hb,hdl,fun _=>R,fun e=>by rw [hret]at e;cases e⟩
  ·have t1:tg=_:=t1
   subst t1
   show Nx T base w0 cs0 f0 (enterF T f (lapp ag.toList c.toList) true (⟨s,tm,ds,todo⟩::cs) h) _
   cases hfn:Tr.get T.fn f with
   |none=>
    have:enterF T f (lapp ag.toList c.toList) true (⟨s,tm,ds,todo⟩::cs) h= .bad:=by unfold enterF;rw [hfn]
    rw [this]
    exact Nx.bad
   |some fn=>
    cases hbd:fn.body with
    |none=>
     have:enterF T f (lapp ag.toList c.toList) true (⟨s,tm,ds,todo⟩::cs) h= .bad:=by
      have e0:enterF T f (lapp ag.toList c.toList) true (⟨s,tm,ds,todo⟩::cs) h=Option.rec .bad (fun fn=>Option.rec .bad (enterB f (lapp ag.toList c.toList) true (⟨s,tm,ds,todo⟩::cs) h fn.ntmps) fn.body) (Tr.get T.fn f):=rfl
      rw [e0,hfn]
      show(Option.rec .bad (enterB f (lapp ag.toList c.toList) true (⟨s,tm,ds,todo⟩::cs) h fn.ntmps) fn.body:Res)= .bad
      rw [hbd]
     rw [this]
     exact Nx.bad
    |some body=>
     obtain⟨q1,q2⟩:=ok.fn f fn hfn
     have q3:fn.name≠ "runtime.NumGoroutine" :=fun e=>by rw [e]at q2;exact absurd q2 (by decide)
     refine Nx.step (step_defer (fr:={b.atR a todo' with mode:= .returning}) (d:=d') (ds:=ds') (f:=f) (args:=d'.args++c') (fun e=>by cases e) hds t2 (by rw [t2];simp [invoke,callFunc,q1,q3,hbd])) (Nx.zero ?_)
     refine enter_ok ok H hn (xs':=d'.args++c') (by rw [lapp_eq,Array.toList_append];exact hag.append hc) true fun n=> .cons (fr:={({b.atR a todo' with mode:= .returning}:Frame)with defers:=ds'}) ⟨b,{a with defers:=ds'},todo',by rw [hret];rfl,hb,hdl,fun _=>R,fun e=>(by rw [hret]at e;cases e),hlo⟩ hret S
theorem astep_ok (ok:TabOK T) (fok:FldOK T) (mo:T.P.follows .mixedOrders=true) (X:ResR T base w0 cs0 f0 (.go s tm df todo cs h) M):Nx T base w0 cs0 f0 (astep T s tm df todo cs h) M:=by
 obtain⟨m,w,fr,rs,rfl,H,hn,hlo,S,b,a,todo',rfl,hb,hd,hR,hH⟩:=X
 show Nx T base w0 cs0 f0 (Bool.rec (runF T s tm df todo cs h) (retF T s tm df todo cs h) s.ret) _
 cases hret:s.ret with
 |false=>exact run_ok ok fok mo ⟨H,hn,hlo,S,hb,hd,hret⟩ (hH hret)
 |true=>exact ret_ok ok H hn hlo S hb hd (hR hret) todo' hret
theorem runs_ok (ok:TabOK T) (fok:FldOK T) (mo:T.P.follows .mixedOrders=true): ∀(n:Nat) {r:Res} {M:Machine},ResR T base w0 cs0 f0 r M->run T n r=true-> ∃M' v h,Steps T.P M M'/\ResR T base w0 cs0 f0 (.over v h) M'/\isT v=true
 |0,r,M,X,e=>by cases e
 |n+1,r,M,X,e=>by
  cases r with
  |go s tm df todo cs h=>
   obtain⟨M1,h1,h2⟩:=astep_ok ok fok mo X
   obtain⟨M2,v,h',h3,h4,h5⟩:=runs_ok ok fok mo n h2 e
   exact⟨M2,v,h',h1.trans h3,h4,h5⟩
  |over v h=>exact⟨M,v,h,.refl _ _,X,e⟩
  |bad=>cases e
end
theorem evalT_ok {T:Tab} (ok:TabOK T) (fok:FldOK T) (mo:T.P.follows .mixedOrders=true) {f:FuncId} {n:Nat} (e:evalT T f n=true) (w:World):Calls T.P f #[] w fun
  | .returned v,w'=>v= .bool true/\Below w.heap.size w w'
  |_,_=>False:=by
 intro cs0
 have H:HR w.heap.size w (fun _=>none) ⟨.leaf,0⟩ w:=⟨Below.refl _ _,Nat.le_refl _,fun b k s n e=>(by cases e),fun b k s n e=>(by cases e),fun b b' k s n s' n' e=>(by cases e),fun b hb=>by
  show od AObj.dead (Tr.get .leaf b)=AObj.dead
  rw [Tr.get_leaf]
  rfl⟩
 have hz:(⟨.leaf,0⟩:Ev.H).nx<=TOP:=Nat.zero_le _
 have X:=enter_ok (cs0:=cs0) (f0:=f) ok H hz (f:=f) (xs:=[]) (xs':= #[]) .nil false fun n=> .nil rfl rfl
 obtain⟨M',v,h',h1,⟨m,w',fr,v',rfl,h2,h3,h4,h5⟩,h6⟩:=runs_ok ok fok mo n X e
 refine⟨.returned v',w',fr,⟨?_,h2⟩,h1,h5,h3⟩
 unfold isT at h6
 cases hv:vBool v with
 |none=>rw [hv]at h6;cases h6
 |some t=>
  rw [hv]at h6
  have:=vBool_some hv
  subst this
  have h6:t=true:=h6
  subst h6
  exact h4.bool_of
open Go Go.RowKit
set_option linter.unusedVariables false
set_option linter.unusedSimpArgs false
theorem trGo_get {α:Type} {k:Nat} {y:α}: ∀(l:List (Option α)) (n:Nat) (t:Tr α),n+l.length<=8 * TOP->((List.rec (motive:=fun _=>Nat->Tr α->Tr α) (fun _ t=>t) (fun x _ ih n t=>ih (Nat.succ n) (Option.rec t (fun x=>Tr.set x DEP t n) x)) l:Nat->Tr α->Tr α) n t).get k=some y->
  t.get k=some y\/ ∃j,k=n+j/\l[j]? =some (some y)
 |[],n,t,_,h=> .inl h
 |x::l,n,t,hn,h=>by
  simp only [List.length_cons]at hn
  rcases trGo_get l (n+1) (Option.rec t (fun x=>Tr.set x DEP t n) x) (by omega) h with h1|⟨j,h1,h2⟩
  ·cases x with
   |none=>exact .inl h1
   |some x=>
    have h1:(Tr.set x DEP t n).get k=some y:=h1
    rw [Tr.get_put _ _ _ (by omega)]at h1
    by_cases e:k=n
    ·rw [if_pos e]at h1
     injection h1 with h1
     exact .inr ⟨0,by omega,by rw [h1];rfl⟩
    ·rw [if_neg e]at h1
     exact .inl h1
  ·exact .inr ⟨j+1,by omega,by simpa using h2⟩
theorem trOf_get {α:Type} {l:List (Option α)} {k:Nat} {y:α} (hl:l.length<=8 * TOP) (h:(trOf l).get k=some y):l[k]? =some (some y):=by
 rcases trGo_get l 0 .leaf (by omega) h with h1|⟨j,h1,h2⟩
 ·cases h1
 ·have:k=j:=by omega
  rw [this]
  exact h2
def tabChk (P:Program):Bool:=
 P.funcs.toList.all (fun f=> !(f.name== "runtime.NumGoroutine"))&&(Nat.ble P.funcs.toList.length TOP&&(Nat.ble P.types.toList.length TOP&&
  P.types.toList.all fun i=>match i.desc with
   | .struct fs=>fs.toList.all fun f=>Nat.ble (f.type+1) P.types.toList.length
   |_=>true))
theorem info_at {P:Program} {t:Nat} {i:TypeInfo} (h:P.types.toList[t]? =some i):P.info? t=some i:=by
 have h':P.types[t]? =some i:=by rw [<-Array.getElem?_toList];exact h
 have hlt:t<P.types.size:=(Array.getElem?_eq_some_iff.1 h').1
 show P.toTables.info? t=some i
 unfold Tables.info?
 rw [if_pos hlt]
 exact h'
theorem tab_ti {P:Program} {esc:Nat} {ext:List (Nat×(Array Value->Sem Value))} (hl:P.types.toList.length<=8 * TOP) {t:Nat} {i:TI} (h:Tr.get (mkTab P esc ext).ti t=some i):
  ∃info,P.types.toList[t]? =some info/\tiOf P.types.toList info=some i:=by
 have h1:(lmap (tiOf P.types.toList) P.types.toList)[t]? =some (some i):=trOf_get (by rw [lmap_eq];simpa using hl) h
 rw [lmap_eq,List.getElem?_map]at h1
 cases hx:P.types.toList[t]? with
 |none=>rw [hx]at h1;cases h1
 |some info=>
  rw [hx]at h1
  have h1:some (tiOf P.types.toList info)=some (some i):=h1
  injection h1 with h1
  exact⟨info,rfl,h1⟩
theorem und_at {P:Program} {t:Nat} {info:TypeInfo} {d:TypeDesc} (h:P.types.toList[t]? =some info) (hu:undD P.types.toList info.desc=some d):P.underlying t=some d/\ ∃(u:Nat) (i2:TypeInfo),P.types.toList[u]? =some i2/\i2.desc=d:=by
 have h1:=info_at h
 unfold Program.underlying
 rw [h1]
 by_cases hn: ∃n u,info.desc= .named n u
 ·obtain⟨n,u,hd⟩:=hn
  rw [hd]at hu
  obtain⟨i2,h2,h3⟩:=ob_some.1 (show(ob (lnth P.types.toList u) fun i=>some i.desc)=some d from hu)
  injection h3 with h3
  rw [lnth_eq]at h2
  have h4:=info_at h2
  obtain⟨_⟩:=info
  simp only at hd
  subst hd
  exact⟨by simp only [h4,Option.map_some,h3],u,i2,h2,h3⟩
 ·have hu':info.desc=d:=by
   unfold undD at hu
   split at hu
   ·rename_i n u e;exact absurd ⟨_,_,e⟩ hn
   ·injection hu
  refine⟨?_,t,info,h,hu'⟩
  split
  ·rename_i e
   injection e with e
   rw [e]at hn
   exact absurd ⟨_,_,rfl⟩ hn
  ·rename_i e
   injection e with e
   rw [<-e,hu']
  ·rename_i e;cases e
theorem mkTab_ok {P:Program} {esc:Nat} {ext:List (Nat×(Array Value->Sem Value))} (hc:tabChk P=true)
  (he: ∀v w,(callFunc esc #[v]).run P w= .ok (.value v) w)
  (hx: ∀f e,extN ext f=some e-> ∀args w,(callFunc f args).run P w=(e args>>=fun v=>pure (Next.value v)).run P w) (hm:P.follows .mixedOrders=true):
  TabOK (mkTab P esc ext)/\FldOK (mkTab P esc ext):=by
 unfold tabChk at hc
 simp only [Bool.and_eq_true,List.all_eq_true,Bool.not_eq_true']at hc
 obtain⟨c1,c2,c3,c4⟩:=hc
 have c2:=Nat.le_of_ble_eq_true c2
 have c3:=Nat.le_of_ble_eq_true c3
 refine⟨⟨fun t i h=> ?_,fun f fn h=> ?_,he,hx,hm⟩,⟨fun t i fs h hu f hf=> ?_⟩⟩
 ·obtain⟨info,h1,h2⟩:=tab_ti (by omega) h
  obtain⟨d,h3,h4⟩:=ob_some.1 (show(ob (undD P.types.toList info.desc) fun d=>some {size:=info.size,agg:=aggD d,zero:=zeroD info,bytes:=info.bytes,und:=d})=some i from h2)
  injection h4 with h4
  subst h4
  refine⟨info,info_at h1,(und_at h1 h3).1,rfl,rfl,rfl,fun z hz=> ?_⟩
  obtain⟨z',h5,h6⟩:=ob_some.1 (show(ob info.zero fun z=>oif (pureV z&&Nat.beq (llen (cellsL z)) info.size) (some z))=some z from hz)
  obtain⟨h7,h8⟩:=oif_some.1 h6
  injection h8 with h8
  subst h8
  simp only [Bool.and_eq_true,llen_eq]at h7
  exact⟨h5,h7.1,Nat.eq_of_beq_eq_true h7.2⟩
 ·have h1:(lmap some P.funcs.toList)[f]? =some (some fn):=trOf_get (by rw [lmap_eq];simp only [List.length_map];omega) h
  rw [lmap_eq,List.getElem?_map]at h1
  cases hx:P.funcs.toList[f]? with
  |none=>rw [hx]at h1;cases h1
  |some fn'=>
   rw [hx]at h1
   have h1:some (some fn')=some (some fn):=h1
   injection h1 with h1
   injection h1 with h1
   subst h1
   exact⟨by rw [<-Array.getElem?_toList];exact hx,c1 _ (List.mem_of_getElem? hx)⟩
 ·obtain⟨info,h1,h2⟩:=tab_ti (by omega) (show Tr.get (mkTab P esc ext).ti t=some i from h)
  obtain⟨d,h3,h4⟩:=ob_some.1 (show(ob (undD P.types.toList info.desc) fun d=>some {size:=info.size,agg:=aggD d,zero:=zeroD info,bytes:=info.bytes,und:=d})=some i from h2)
  injection h4 with h4
  subst h4
  have hu:d= .struct fs:=hu
  subst hu
  obtain⟨-,u,i2,h5,h6⟩:=und_at h1 h3
  have h7:=c4 i2 (List.mem_of_getElem? h5)
  rw [h6]at h7
  have h8:=Nat.le_of_ble_eq_true (List.all_eq_true.1 h7 f hf)
  obtain⟨j,hj⟩: ∃j,P.types.toList[f.type]? =some j:=⟨_,List.getElem?_eq_getElem (by omega)⟩
  exact⟨j,info_at hj⟩
theorem esc_ok {P:Program} {f:FuncId} {fn:Func} (hf:P.funcs[f]? =some fn) (hname:(fn.name== "runtime.NumGoroutine")=false)
  (hb:fn.body.isNone=true) (hn:Extern.findNext fn=none) (he:Extern.find fn=some Extern.AbiNoEscape.same) (v:Value) (w:World):(callFunc f #[v]).run P w= .ok (.value v) w:=by
 rw [run_callFunc_extern hf hname hb hn he]
 rfl
end Go.Ev

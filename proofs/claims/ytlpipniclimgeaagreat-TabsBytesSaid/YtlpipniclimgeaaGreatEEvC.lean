/- The reckoning machine: aggregates, addresses, maps, what is made. -/
import Derived.Test.YtlpipniclimgeaaGreatEEvB
import Derived.Great.FillDense
import Derived.LaidEqlPtr
import Derived.Laws.BytesString
import Derived.Lib.UnsafeStr
import Derived.Laws.MakeOwn
namespace Go.Ev
open Go Go.RowKit
set_option linter.unusedVariables false
set_option linter.unusedSimpArgs false
theorem run_sub {P:Program} {α β:Type} (s:Sem α) (f:α->Sem β) (w w':World) (x:α) (h:s.run P w= .ok x w'):(s>>=f).run P w=(f x).run P w':=by
 rw [Sem.run_bind,h];rfl
theorem set_fold: ∀(vs:List Value) (off s:Nat) (cells:Array Value),off+s+vs.length<=cells.size->((vs.zipIdx s).foldl (fun cs (x:Value×Nat)=>cs.setIfInBounds (off+x.2) x.1) cells).toList=cells.toList.take (off+s)++vs++cells.toList.drop (off+s+vs.length)
 |[],off,s,cells,h=>by simp
 |v::vs,off,s,cells,h=>by
  rw [List.zipIdx_cons,List.foldl_cons]
  rw [set_fold vs off (s+1) _ (by simp at h⊢;omega)]
  simp only [Array.toList_setIfInBounds]
  have e:=list_seg_step cells.toList (off+s) v vs (by simp at h⊢;omega)
  simpa [Nat.add_assoc]using e
section
variable {T : Tab} {base : Nat} {w0 w w' : World} {m m' : Mp} {h h' : H} {b k s n N sz : Nat} {tm : Tr Value} {a : Act} {o : Oper} {v v' : Value}
theorem fill_ok (R:TR m tm sz a.tmps) {place place':Nat->Option (Nat×Nat)} (hp: ∀i q,place i=some q->place' i=some q): ∀{l:List (Nat×Operand)} {cs cs' r:List Value},LR m cs cs'->fillL place tm l cs=some r->
  ∃r',Instr.fill place' cs'.toArray (l.map fun p=>(p.1,a.eval p.2))=some r'.toArray/\LR m r r'
 |[],cs,cs',r,hc,h=>by
  injection h with h
  subst h
  exact⟨cs',rfl,hc⟩
 |(i,x)::l,cs,cs',r,hc,h=>by
  have e:fillL place tm ((i,x)::l) cs=ob (place i) fun q=>ob (lev tm x) fun v=>oif (Nat.beq (llen (cellsL v)) q.2) (ob (lputAt (cellsL v) cs q.1) (fillL place tm l)):=rfl
  rw [e]at h
  obtain⟨q,h1,h2⟩:=ob_some.1 h
  obtain⟨v,h3,h4⟩:=ob_some.1 h2
  obtain⟨h5,h6⟩:=oif_some.1 h4
  obtain⟨cs2,h7,h8⟩:=ob_some.1 h6
  have hv:=(lev_ok R h3).cells
  obtain⟨rfl,hle⟩:=lputAt_some h7
  rw [llen_eq,Nat.beq_eq]at h5
  have hl:=hv.len
  have hcl:=hc.len
  obtain⟨r',h9,h10⟩:=fill_ok R hp (((hc.take q.1).append hv).append (by rw [hl];exact hc.drop (q.1+(cellsL (a.eval x)).length))) h8
  refine⟨r',?_,h10⟩
  obtain⟨off,size⟩:=q
  simp only at h5 hle h9 h7⊢
  rw [cellsL_eq (a.eval x)]at hl h9
  have e1:(a.eval x).cells.size=size:=by rw [<-Array.length_toList,<-hl,h5]
  simp only [List.map_cons,Instr.fill,hp _ _ h1]
  rw [if_neg (by simp [e1];omega)]
  have hf:=set_fold (a.eval x).cells.toList off 0 cs'.toArray (by simp;omega)
  have:((a.eval x).cells.zipIdx.foldl (fun cs (x:Value×Nat)=>cs.setIfInBounds (off+x.2) x.1) cs'.toArray)=(List.take off cs'++(a.eval x).cells.toList++List.drop (off+(a.eval x).cells.toList.length) cs').toArray:=by
   rw [<-Array.toList_inj,<-Array.foldl_toList,Array.toList_zipIdx]
   simpa using hf
  rw [<-h9]
  congr 1
theorem run_fields {P:Program} (w:World): ∀(fs:List Field),(∀f∈fs,∃i,P.info? f.type=some i)-> ∃ps:List (Nat×Nat),(fs.mapM (m:=Sem) fun f=>Prod.mk f.offset<$>sizeOf f.type).run P w= .ok ps w/\ ∀(k:Nat) f i,fs[k]? =some f->P.info? f.type=some i->ps[k]? =some (f.offset,i.size)
 |[],_=>⟨[],by simp [Sem.run],fun k f i h=>by simp at h⟩
 |f::fs,hf=>by
  obtain⟨i,hi⟩:=hf f (by simp)
  obtain⟨ps,h1,h2⟩:=run_fields w fs fun g hg=>hf g (by simp [hg])
  refine⟨(f.offset,i.size)::ps,?_,fun k g j hk hj=> ?_⟩
  ·rw [List.mapM_cons]
   rw [run_sub _ _ w w (f.offset,i.size) (by simp [run_size hi w]),run_sub _ _ w w ps h1]
   rfl
  ·cases k with
   |zero=>
    simp at hk
    subst hk
    rw [hi]at hj
    injection hj with hj
    subst hj;rfl
   |succ k=>simpa using h2 k g j (by simpa using hk) hj
structure FldOK (T:Tab):Prop where
 fld: ∀t i fs,ti T t=some i->i.und= .struct fs-> ∀f∈fs.toList,∃j,T.P.info? f.type=some j
theorem structF_some {d:TypeDesc} {fs:List Field} (h:structF d=some fs):d= .struct fs.toArray:=by
 cases d<;>first|(injection h with h;subst h;simp)|cases h
theorem arrE_some {d:TypeDesc} {e:TypeId} (h:arrE d=some e): ∃n,d= .array n e:=by
 cases d<;>first|(injection h with h;subst h;exact⟨_,rfl⟩)|cases h
theorem sliceE_some {d:TypeDesc} {e:TypeId} (h:sliceE d=some e):d= .slice e:=by
 cases d<;>first|(injection h with h;subst h;rfl)|cases h
theorem ptrE_some {d:TypeDesc} {e:TypeId} (h:ptrE d=some e):d= .pointer e:=by
 cases d<;>first|(injection h with h;subst h;rfl)|cases h
theorem mapE_some {d:TypeDesc} {q:TypeId×TypeId} (h:mapE d=some q):d= .map q.1 q.2:=by
 cases d<;>first|(injection h with h;subst h;rfl)|cases h
theorem yld_build (ok:TabOK T) (fok:FldOK T) (R:TR m tm sz a.tmps) {t:TypeId} {parts:Array (Nat×Operand)} (ho:o.op= .build t parts) (hv:r_build T tm t parts.toList=some v):Yld T.P o a w m v:=by
 unfold r_build at hv
 obtain⟨i,h1,h2⟩:=ob_some.1 hv
 obtain⟨z,h3,h4⟩:=ob_some.1 h2
 obtain⟨pl,h5,h6⟩:=ob_some.1 h4
 obtain⟨cs,h7,h8⟩:=ob_some.1 h6
 injection h8 with h8
 subst h8
 obtain⟨info,q1,q2,q3,-,q5,q6⟩:=ok.at h1
 obtain⟨q7,q8,-⟩:=q6 z h3
 have hz:LR m (cellsL z) (cellsL z):=(VR.of q8).cells
 have hzr:=run_zero q1 q7 w
 have hpm:(parts.map fun p=>(p.1,a.eval p.2)).toList=parts.toList.map fun p=>(p.1,a.eval p.2):=by simp
 cases hst:structF i.und with
 |some fs=>
  rw [hst]at h5
  injection h5 with h5
  subst h5
  have hd:=structF_some hst
  obtain⟨ps,e1,e2⟩:=run_fields (P:=T.P) w fs (fun f hf=>fok.fld t i _ h1 hd f (by simpa using hf))
  obtain⟨r',e3,e4⟩:=fill_ok (a:=a) (place':=fun k=>ps[k]?) R (fun k q hq=>by
   unfold plF at hq
   obtain⟨f,p1,p2⟩:=ob_some.1 hq
   obtain⟨j,p3,p4⟩:=ob_some.1 p2
   injection p4 with p4
   subst p4
   rw [lnth_eq]at p1
   obtain⟨info',r1,-,r3,-⟩:=ok.at p3
   rw [<-r3]
   exact e2 k f info' p1 r1) hz h7
  refine⟨.agg r'.toArray,?_,.agg (by simpa using e4)⟩
  rw [hd]at q2
  rw [cellsL_eq,Array.toArray_toList]at e3
  simp [execOp,ho,Instr.build,hzr,run_underlying q2,e1,e3,Result.andThen]
 |none=>
  rw [hst]at h5
  obtain⟨e,p1,p2⟩:=ob_some.1 h5
  obtain⟨j,p3,p4⟩:=ob_some.1 p2
  injection p4 with p4
  subst p4
  obtain⟨n,hd⟩:=arrE_some p1
  rw [hd]at q2
  obtain⟨info',r1,-,r3,-⟩:=ok.at p3
  obtain⟨r',e3,e4⟩:=fill_ok (a:=a) (place':=fun k=>some (k * j.size,j.size)) R (fun k q hq=>hq) hz h7
  refine⟨.agg r'.toArray,?_,.agg (by simpa using e4)⟩
  rw [cellsL_eq,Array.toArray_toList]at e3
  simp [execOp,ho,Instr.build,hzr,run_underlying q2,run_size r1,r3,e3,Result.andThen]
theorem i64_some {v:Value} {n:Int} (h:i64 v=some n):v= .int .i64 n:=by
 unfold i64 at h
 obtain⟨p,h1,h2⟩:=ob_some.1 h
 have:=vInt_some h1
 subst this
 obtain⟨k,x⟩:=p
 cases k<;>first|(injection h2 with h2;subst h2;rfl)|cases h2
theorem guard_int {P:Program} {op:BinOp} {t:TypeId} {x y:Operand} {p q:Value} (h:(∃k n,p= .int k n)\/(∃z,p= .pointer z)\/(∃z l c,p= .slice z l c)\/(∃z,p= .map z)\/(∃f u v,p= .func f u v)\/p= .nilFunc) (w:World):(eqGuard op t x y p q).run P w= .ok () w:=by
 rcases h with⟨k,n,rfl⟩|⟨z,rfl⟩|⟨z,l,c,rfl⟩|⟨z,rfl⟩|⟨f,u,v,rfl⟩|rfl<;>unfold eqGuard<;>cases op<;>simp<;>rfl
theorem yld_binI {op:BinOp} {t:TypeId} {x y:Operand} {t':TypeId} {p q:Int} (ho:o.op= .binOp op t x y t') (hx:a.eval x= .int .i64 p) (hy:a.eval y= .int .i64 q) (hv:binI p q op=some v):Yld T.P o a w m v:=by
 have hg:=guard_int (P:=T.P) (op:=op) (t:=t) (x:=x) (y:=y) (p:= .int .i64 p) (q:= .int .i64 q) (.inl ⟨_,_,rfl⟩) w
 cases op<;>first|(injection hv with hv;subst hv)|cases hv
 all_goals
  refine⟨_,?_,.pure rfl⟩
  simp [execOp,ho,hx,hy,hg,Go.binOp,Op.intArith,Op.intCmp,iadd_eq,isub_eq,wrp_eq,ilt_eq,ieq_eq,Result.andThen]
 all_goals
  try(rw [Bool.eq_iff_iff];simp [Int.not_lt])
theorem run_equalIn {P:Program} {t:TypeId} {d:TypeDesc} (h:P.underlying t=some d) {x y:Value} {r:Bool} (hr:aeq d x y=some r) {x' y':Value} (hx:VR m x x') (hy:VR m y y') (w:World) (n:Nat):(Op.equalIn (n+1) t x' y').run P w= .ok r w:=by
 unfold aeq at hr
 split at hr
 all_goals first|cases hr|(injection hr with hr;subst hr)
 all_goals
  cases hx
  all_goals first|(rename_i hp;exact Bool.noConfusion hp)|skip
  all_goals cases hy
  all_goals first|(rename_i hp;exact Bool.noConfusion hp)|skip
  all_goals simp [Op.equalIn,run_underlying h]
theorem run_equal {P:Program} {t:TypeId} {d:TypeDesc} (h:P.underlying t=some d) {x y:Value} {r:Bool} (hr:aeq d x y=some r) {x' y':Value} (hx:VR m x x') (hy:VR m y y') (w:World):(Op.equal t x' y').run P w= .ok r w:=run_equalIn h hr hx hy w 9999
theorem run_equalP {P:Program} {t e:TypeId} {j:TypeInfo} (h:P.underlying t=some (.pointer e)) (hj:P.info? e=some j) (hz:j.size≠0) (p q:Addr) (hb:p.block=q.block) (w:World) (n:Nat):(Op.equalIn (n+1) t (.pointer (some p)) (.pointer (some q))).run P w= .ok (p==q) w:=by
 have hb':(p.block==q.block)=true:=by simp [hb]
 simp [Op.equalIn,run_underlying h,sizeOf,typeInfo,hj,hz,sameAddr,hb]
inductive RefV:Value->Prop where
 |ptr (z):RefV (.pointer z)
 |sl (z l c):RefV (.slice z l c)
 |mp (z):RefV (.map z)
 |fn (f u v):RefV (.func f u v)
 |nf:RefV .nilFunc
theorem RefV.bin {x y:Value} (hx:RefV x) (hy:RefV y) (t:TypeId):Go.binOp .eql t x y=(do pure (.bool (←Op.equal t x y)))/\Go.binOp .neq t x y=(do pure (.bool (!(←Op.equal t x y)))):=by
 cases hx<;>cases hy<;>exact⟨rfl,rfl⟩
theorem RefV.guard {P:Program} {x:Value} (hx:RefV x) (op:BinOp) (t:TypeId) (p q:Operand) (y:Value) (w:World):(eqGuard op t p q x y).run P w= .ok () w:=by
 refine guard_int ?_ w
 cases hx
 ·exact .inr (.inl ⟨_,rfl⟩)
 ·exact .inr (.inr (.inl ⟨_,_,_,rfl⟩))
 ·exact .inr (.inr (.inr (.inl ⟨_,rfl⟩)))
 ·exact .inr (.inr (.inr (.inr (.inl ⟨_,_,_,rfl⟩))))
 ·exact .inr (.inr (.inr (.inr (.inr rfl))))
theorem VR.ref (h:VR m v v') (hr:RefV v):RefV v':=by
 cases hr<;>cases h<;>constructor
theorem aeq_ref {d:TypeDesc} {x y:Value} {r:Bool} (hr:aeq d x y=some r):RefV x/\RefV y:=by
 unfold aeq at hr
 split at hr
 all_goals first|exact⟨by constructor,by constructor⟩|cases hr
theorem yld_binA (ok:TabOK T) (R:TR m tm sz a.tmps) {op:BinOp} {t:TypeId} {x y:Operand} {t':TypeId} {p q:Value} (ho:o.op= .binOp op t x y t') (hx:lev tm x=some p) (hy:lev tm y=some q) (hv:r_binA T op t p q=some v):Yld T.P o a w m v:=by
 unfold r_binA at hv
 obtain⟨i,h1,h2⟩:=ob_some.1 hv
 obtain⟨r,h3,h4⟩:=ob_some.1 h2
 obtain⟨info,q1,q2,-⟩:=ok.at h1
 have hxx:=lev_ok R hx
 have hyy:=lev_ok R hy
 have hop:(op= .eql/\v= .bool r)\/(op= .neq/\v= .bool (!r)):=by
  cases op<;>first|(injection h4 with h4;subst h4;first|exact .inl ⟨rfl,rfl⟩|exact .inr ⟨rfl,rfl⟩)|cases h4
 have key:(Op.equal t (a.eval x) (a.eval y)).run T.P w= .ok r w/\RefV (a.eval x)/\RefV (a.eval y):=by
  cases ha:aeq i.und p q with
  |some r'=>
   rw [ha]at h3
   injection h3 with h3
   subst h3
   obtain⟨r1,r2⟩:=aeq_ref ha
   exact⟨run_equal q2 ha hxx hyy w,hxx.ref r1,hyy.ref r2⟩
  |none=>
   rw [ha]at h3
   have h3:aeqP i (ob (ptrE i.und) (ti T)) p q=some r:=h3
   unfold aeqP at h3
   obtain⟨A,e1,e2⟩:=ob_some.1 h3
   obtain⟨B,e3,e4⟩:=ob_some.1 e2
   obtain⟨j,e5,e6⟩:=ob_some.1 e4
   obtain⟨e7,e8⟩:=oif_some.1 e6
   injection e8 with e8
   obtain⟨e,e9,e10⟩:=ob_some.1 e5
   have e9:=ptrE_some e9
   rw [e9]at q2
   obtain⟨info',p1,-,p3,-⟩:=ok.at e10
   have:=vPtr_some e1
   have:=vPtr_some e3
   subst p q
   obtain⟨k1,s1,n1,g1,g2,g3⟩:=hxx.ptr_of
   obtain⟨k2,s2,n2,g4,g5,g6⟩:=hyy.ptr_of
   simp only [Bool.and_eq_true,Bool.not_eq_true',Nat.beq_eq]at e7
   rw [e7.1]at g1
   rw [g1]at g4
   injection g4 with g4
   injection g4 with g7 g8
   injection g8 with g8 g9
   subst g7 g8 g9
   have hj:info'.size≠0:=by
    rw [p3]
    intro c
    rw [c]at e7
    exact absurd e7.2 (by decide)
   refine⟨?_,by rw [g3];constructor,by rw [g6];constructor⟩
   rw [g3,g6]
   have:=run_equalP q2 p1 hj ⟨k1,s1+A.off,none⟩ ⟨k1,s1+B.off,none⟩ rfl w 9999
   rw [show(Op.equal t (.pointer (some ⟨k1,s1+A.off,none⟩)) (.pointer (some ⟨k1,s1+B.off,none⟩))).run T.P w=_ from this]
   congr 1
   obtain⟨Ab,Ao,As⟩:=A
   obtain⟨Bb,Bo,Bs⟩:=B
   simp only at g2 g5 e7⊢
   subst g2 g5
   rw [<-e8,Bool.eq_iff_iff,beq_iff_eq,beq_iff_eq]
   rw [Addr.mk.injEq,Addr.mk.injEq]
   constructor
   ·rintro⟨-,c,-⟩
    exact⟨e7.1,by omega,rfl⟩
   ·rintro⟨-,c,-⟩
    exact⟨rfl,by omega,rfl⟩
 obtain⟨k1,k2,k3⟩:=key
 have hg:=fun op=>k2.guard (P:=T.P) op t x y (a.eval y) w
 obtain⟨b1,b2⟩:=k2.bin k3 t
 rcases hop with⟨rfl,rfl⟩|⟨rfl,rfl⟩
 ·exact⟨_,by simp [execOp,ho,hg,b1,k1,Result.andThen],.pure rfl⟩
 ·exact⟨_,by simp [execOp,ho,hg,b2,k1,Result.andThen],.pure rfl⟩
theorem yld_bin (ok:TabOK T) (R:TR m tm sz a.tmps) {op:BinOp} {t:TypeId} {x y:Operand} {t':TypeId} (ho:o.op= .binOp op t x y t') (hv:r_bin T tm op t x y o=some v):Yld T.P o a w m v:=by
 unfold r_bin at hv
 obtain⟨p,h1,h2⟩:=ob_some.1 hv
 obtain⟨q,h3,h4⟩:=ob_some.1 h2
 cases hb:(ob (i64 p) fun m=>ob (i64 q) fun n=>binI m n op)with
 |some u=>
  rw [hb]at h4
  injection h4 with h4
  subst h4
  obtain⟨i,e1,e2⟩:=ob_some.1 hb
  obtain⟨j,e3,e4⟩:=ob_some.1 e2
  have hp:=i64_some e1
  have hq:=i64_some e3
  subst hp hq
  exact yld_binI ho (lev_ok R h1).int_of (lev_ok R h3).int_of e4
 |none=>
  rw [hb]at h4
  have h4:r_bin2 T tm op t o p q=some v:=h4
  unfold r_bin2 at h4
  cases hpq:(pureV p&&pureV q)with
  |true=>rw [hpq]at h4;exact plain_ok R (fun cs b e=>by rw [ho]at e;cases e) h4
  |false=>rw [hpq]at h4;exact yld_binA ok R ho h1 h3 h4
theorem yld_un (R:TR m tm sz a.tmps) {op:UnOp} {t:TypeId} {x:Operand} (ho:o.op= .unOp op t x) (hv:r_un T tm op x o=some v):Yld T.P o a w m v:=by
 have hs: ∀cs b,o.op≠ .select cs b:=fun cs b e=>by rw [ho]at e;cases e
 cases op with
 |not=>
  obtain⟨t,h1,h2⟩:=ob_some.1 (show(ob (ob (lev tm x) vBool) fun b=>some (.bool (Bool.rec true false b)))=some v from hv)
  obtain⟨u,h3,h4⟩:=ob_some.1 h1
  have:=vBool_some h4
  subst this
  injection h2 with h2
  subst h2
  have hc:=(lev_ok R h3).bool_of
  cases t with
  |true=>exact⟨.bool false,by simp [execOp,ho,hc,Op.unary],.pure rfl⟩
  |false=>exact⟨.bool true,by simp [execOp,ho,hc,Op.unary],.pure rfl⟩
 |_=>exact plain_ok R hs hv
end
open Go Go.RowKit
set_option linter.unusedVariables false
set_option linter.unusedSimpArgs false
section
variable {T : Tab} {base : Nat} {w0 w w' : World} {m m' : Mp} {h h' : H} {b k s n N sz : Nat} {tm : Tr Value} {a : Act} {o : Oper} {v v' : Value}
theorem yld_func (R:TR m tm sz a.tmps) {f:Fn} {p q:Array Operand} (ho:o.op= .makeFunc f p q) (hv:r_func tm f p.toList q.toList=some v):Yld T.P o a w m v:=by
 unfold r_func at hv
 obtain⟨x,h1,h2⟩:=ob_some.1 hv
 obtain⟨y,h3,h4⟩:=ob_some.1 h2
 cases f with
 |func g=>
  injection h4 with h4
  subst h4
  refine⟨.func (.func g) (p.map a.eval) (q.map a.eval),by simp [execOp,ho,Instr.makeFunc],.fn ?_ ?_⟩
  ·simpa using levs_ok R h1
  ·simpa using levs_ok R h3
 |_=>cases h4
theorem lnth_toList {fs:List Field} {f:Nat} {fd:Field} (h:lnth fs f=some fd):fs.toArray[f]? =some fd:=by
 rw [lnth_eq]at h
 simpa using h
theorem run_fieldPlace {P:Program} {k o:Nat} {fd:Field} {j:TypeInfo} (hj:P.info? fd.type=some j) (hz:j.size≠0) (w:World):(fieldPlace ⟨k,o,none⟩ fd).run P w= .ok ⟨k,o+fd.offset,none⟩ w:=by
 simp [fieldPlace,run_size hj,hz,addr_add]
theorem yld_faddr (ok:TabOK T) (R:TR m tm sz a.tmps) {t:TypeId} {x:Operand} {f:Nat} (ho:o.op= .fieldAddr t x f) (hv:r_faddr T tm t x f=some v):Yld T.P o a w m v:=by
 unfold r_faddr at hv
 obtain⟨i,h1,h2⟩:=ob_some.1 hv
 obtain⟨A,h3,h4⟩:=ob_some.1 h2
 obtain⟨fs,h5,h6⟩:=ob_some.1 h4
 obtain⟨fd,h7,h8⟩:=ob_some.1 h6
 obtain⟨j,h9,h10⟩:=ob_some.1 h8
 obtain⟨h11,h12⟩:=oif_some.1 h10
 injection h12 with h12
 obtain⟨u,h13,h14⟩:=ob_some.1 h3
 have:=vPtr_some h14
 subst this h12
 obtain⟨info,q1,q2,-⟩:=ok.at h1
 obtain⟨info',p1,-,p3,-⟩:=ok.at h9
 obtain⟨k,s,N,g1,g2,g3⟩:=(lev_ok R h13).ptr_of
 rw [structF_some h5]at q2
 have hz:info'.size≠0:=by
  rw [p3]
  intro c
  rw [c]at h11
  exact absurd h11 (by decide)
 refine⟨.pointer (some ⟨k,s+A.off+fd.offset,none⟩),?_,?_⟩
 ·simp [execOp,ho,g3,Instr.fieldAt,run_underlying q2,Instr.sureAddr,lnth_toList h7,run_fieldPlace p1 hz]
 ·rw [addr_eta g2,addr_add]
  rw [Nat.add_assoc]
  exact .ptr g1
theorem one_ok {P:Program} {t:TypeId} {d:TypeDesc} {j:TypeInfo} {agg:Bool} (hd:P.underlying t=some d) (hj:P.info? t=some j) (hag:agg=aggD d) {cs cs':List Value} {off:Nat} (hc:LR m cs cs') {r:List Value} (hr:ltake (ldrop cs off) j.size=some r) (hv:one r agg=some v) (w:World):
  ∃v',(part t cs'.toArray off).run P w= .ok v' w/\VR m v v':=by
 rw [ldrop_eq]at hr
 obtain⟨rfl,hle⟩:=ltake_some hr
 have hlr:=(hc.drop off).take j.size
 rcases one_some hv with⟨e,rfl⟩|⟨e,e2⟩
 ·refine⟨.agg ((cs'.drop off).take j.size).toArray,?_,.agg (by simpa using hlr)⟩
  rw [hag]at e
  simp [part,run_agg hd,run_size hj,e,List.extract_toArray]
 ·rw [e2]at hlr
  obtain⟨v',h1,h2⟩:=hlr.single
  refine⟨v',?_,h2⟩
  rw [hag]at e
  have:cs'[off]? =some v':=by
   have h0:((cs'.drop off).take j.size)[0]? =some v':=by rw [h1];rfl
   rw [List.getElem?_take]at h0
   split at h0
   ·rw [List.getElem?_drop]at h0
    simpa using h0
   ·cases h0
  simp [part,run_agg hd,e,this]
theorem yld_field (ok:TabOK T) (R:TR m tm sz a.tmps) {t:TypeId} {x:Operand} {f:Nat} (ho:o.op= .field t x f) (hv:r_field T tm t x f=some v):Yld T.P o a w m v:=by
 unfold r_field at hv
 obtain⟨i,h1,h2⟩:=ob_some.1 hv
 obtain⟨cs,h3,h4⟩:=ob_some.1 h2
 obtain⟨fs,h5,h6⟩:=ob_some.1 h4
 obtain⟨fd,h7,h8⟩:=ob_some.1 h6
 obtain⟨j,h9,h10⟩:=ob_some.1 h8
 obtain⟨r,h11,h12⟩:=ob_some.1 h10
 obtain⟨u,h13,h14⟩:=ob_some.1 h3
 have:=vAgg_some h14
 subst this
 obtain⟨info,q1,q2,-⟩:=ok.at h1
 obtain⟨info',p1,p2,p3,-,p5,-⟩:=ok.at h9
 obtain⟨cs',g1,g2⟩:=(lev_ok R h13).agg_of
 rw [structF_some h5]at q2
 rw [<-p3]at h11
 obtain⟨v',e1,e2⟩:=one_ok p2 p1 p5 (cs:=cs) (cs':=cs'.toList) (by simpa using g2) h11 h12 w
 refine⟨v',?_,e2⟩
 rw [lnth_eq]at h7
 simp only [Array.toArray_toList]at e1
 simp [execOp,ho,g1,Instr.field,run_underlying q2,h7,asAgg,e1]
theorem idxE_some {d:TypeDesc} {p:Addr×Nat×TypeId} (h:idxE d v=some p):(∃c,d= .slice p.2.2/\v= .slice (some p.1) p.2.1 c)\/(d= .array p.2.1 p.2.2/\v= .pointer (some p.1)):=by
 unfold idxE at h
 split at h
 ·injection h with h;subst h;exact .inl ⟨_,rfl,rfl⟩
 ·injection h with h;subst h;exact .inr ⟨rfl,rfl⟩
 ·cases h
theorem VR.sl_of {A:Addr} {l c:Nat} (h:VR m (.slice (some A) l c) v') (hl:0<l): ∃k s n c',m A.block=some (k,s,n)/\A.spot=none/\v'= .slice (some ⟨k,s+A.off,none⟩) l c':=by
 cases h with
 |pure h=>exact Bool.noConfusion h
 |slk h _ _=>exact⟨_,_,_,_,h,rfl,rfl⟩
 |slu h _ _ _=>exact⟨_,_,_,_,h,rfl,rfl⟩
 |sle h _ _=>omega
theorem VR.len_of {A:Option Addr} {l c:Nat} (h:VR m (.slice A l c) v'): ∃A' c',v'= .slice A' l c'/\(A=none->A'=none/\l=0/\c'=0)/\(∀B,A=some B-> ∃k s n B',m B.block=some (k,s,n)/\B.spot=none/\A'=some B'/\B'.block=k/\B'.spot=none):=by
 cases h with
 |pure h=>
  cases A with
  |some A=>exact Bool.noConfusion h
  |none=>
   have:(Nat.beq c 0&&Nat.beq l 0)=true:=h
   simp only [Bool.and_eq_true,Nat.beq_eq]at this
   exact⟨_,_,rfl,fun _=>⟨rfl,this.2,this.1⟩,fun B e=>by cases e⟩
 |slk h _ _=>exact⟨_,_,rfl,fun e=>(by cases e),fun B e=>by injection e with e;subst e;exact⟨_,_,_,_,h,rfl,rfl,rfl,rfl⟩⟩
 |slu h _ _ _=>exact⟨_,_,rfl,fun e=>(by cases e),fun B e=>by injection e with e;subst e;exact⟨_,_,_,_,h,rfl,rfl,rfl,rfl⟩⟩
 |sle h _ _=>exact⟨_,_,rfl,fun e=>(by cases e),fun B e=>by injection e with e;subst e;exact⟨_,_,_,_,h,rfl,rfl,rfl,rfl⟩⟩
theorem yld_iaddr (ok:TabOK T) (R:TR m tm sz a.tmps) {t:TypeId} {x ix:Operand} (ho:o.op= .indexAddr t x ix) (hv:r_iaddr T tm t x ix=some v):Yld T.P o a w m v:=by
 unfold r_iaddr at hv
 obtain⟨i,h1,h2⟩:=ob_some.1 hv
 obtain⟨u,h3,h4⟩:=ob_some.1 h2
 obtain⟨q,h5,h6⟩:=ob_some.1 h4
 obtain⟨p,h7,h8⟩:=ob_some.1 h6
 obtain⟨j,h9,h10⟩:=ob_some.1 h8
 obtain⟨h11,h12⟩:=oif_some.1 h10
 injection h12 with h12
 obtain⟨y,h13,h14⟩:=ob_some.1 h5
 obtain⟨kd,rfl⟩:=vNat_some h14
 subst h12
 have hlt:=Nat.le_of_ble_eq_true h11
 obtain⟨info,q1,q2,-⟩:=ok.at h1
 obtain⟨info',p1,p2,p3,-⟩:=ok.at h9
 have hix:=(lev_ok R h13).int_of
 have hb:(0:Int)<=(Int.ofNat q)/\(Int.ofNat q)<(p.2.1:Int):=⟨by simp,by have:(Int.ofNat q)=(q:Int):=rfl;omega⟩
 rcases idxE_some h7 with⟨c,e1,rfl⟩|⟨e1,rfl⟩
 ·obtain⟨k,s,n,c',g1,g2,g3⟩:=(lev_ok R h3).sl_of (by omega)
  rw [e1]at q2
  refine⟨.pointer (some ⟨k,s+(p.1.off+q * j.size),none⟩),?_,?_⟩
  ·simp only [execOp,ho,g3,hix,Instr.indexAt,Sem.run_bind,run_underlying q2,asIntOf,Sem.run_pure,Result.andThen_ok]
   rw [if_pos hb]
   simp [run_size p1,p3,addr_add,Nat.add_assoc]
  ·rw [addr_eta g2,addr_add]
   exact .ptr g1
 ·obtain⟨k,s,n,g1,g2,g3⟩:=(lev_ok R h3).ptr_of
  rw [e1]at q2
  refine⟨.pointer (some ⟨k,s+(p.1.off+q * j.size),none⟩),?_,?_⟩
  ·simp only [execOp,ho,g3,hix,Instr.indexAt,Sem.run_bind,run_underlying q2,asIntOf,Sem.run_pure,Result.andThen_ok,Instr.sureAddr]
   rw [if_pos hb]
   simp [run_size p1,p3,addr_add,Nat.add_assoc]
  ·rw [addr_eta g2,addr_add]
   exact .ptr g1
theorem yld_extract (R:TR m tm sz a.tmps) {x:Operand} {k:Nat} (ho:o.op= .extract x k) (hv:r_extract tm x k=some v):Yld T.P o a w m v:=by
 unfold r_extract at hv
 obtain⟨vs,h1,h2⟩:=ob_some.1 hv
 obtain⟨u,h3,h4⟩:=ob_some.1 h1
 have:=vTup_some h4
 subst this
 obtain⟨a',g1,g2⟩:=(lev_ok R h3).tup_of
 rw [lnth_eq]at h2
 obtain⟨v',e1,e2⟩:=g2.get (by simpa using h2)
 refine⟨v',?_,e2⟩
 rw [Array.getElem?_toList]at e1
 simp [execOp,ho,g1,Instr.extract,e1]
inductive OV (m:Mp):Option Value->Option Value->Prop where
 |none:OV m none none
 |some {v v':Value} (h:VR m v v'):OV m (some v) (some v')
theorem levO_ok (R:TR m tm sz a.tmps) {x:Option Operand} {r:Option Value} (h:levO tm x=some r):OV m r (x.map a.eval):=by
 cases x with
 |none=>injection h with h;subst h;exact .none
 |some x=>
  obtain⟨v,h1,h2⟩:=ob_some.1 (show(ob (lev tm x) fun v=>some (some v))=some r from h)
  injection h2 with h2
  subst h2
  exact .some (lev_ok R h1)
theorem run_bound {P:Program} {v v':Value} (hv:VR m v v') {i y:Nat} (h:vNat v=some i) (hle:i<=y) (c:BoundsCode) (w:World):(Instr.sliceBound v' y c).run P w= .ok i w:=by
 obtain⟨k,rfl⟩:=vNat_some h
 rw [hv.int_of]
 have hb:(0:Int)<=(Int.ofNat i)/\(Int.ofNat i)<=(y:Int):=⟨by simp,by have:(Int.ofNat i)=(i:Int):=rfl;omega⟩
 simp only [Instr.sliceBound,asIntOf,Sem.run_bind,Sem.run_pure,Result.andThen_ok]
 rw [if_pos hb]
 rfl
theorem bnd_ok {v v':Option Value} (hv:OV m v v') {d y i:Nat} (h:bnd v d y=some i):(v=none/\v'=none/\i=d)\/(∃u u',v=some u/\v'=some u'/\VR m u u'/\vNat u=some i/\i<=y):=by
 cases hv with
 |none=>injection h with h;exact .inl ⟨rfl,rfl,h.symm⟩
 |some hu=>
  obtain⟨j,h1,h2⟩:=ob_some.1 (show(ob (vNat _) fun i=>oif (Nat.ble i y) (some i))=some i from h)
  obtain⟨h3,h4⟩:=oif_some.1 h2
  injection h4 with h4
  subst h4
  exact .inr ⟨_,_,rfl,rfl,hu,h1,Nat.le_of_ble_eq_true h3⟩
theorem bnds_ok {P:Program} {len top cap':Nat} (hle:top<=cap') (hlt:len<=top) {lo hi mx lo' hi' mx':Option Value} (hlo:OV m lo lo') (hhi:OV m hi hi') (hmx:OV m mx mx') {p:Nat×Nat×Nat} (h:bnds len top lo hi mx=some p) (w:World):
  (mx=none/\p.2.2=top/\(Instr.sliceBounds true len cap' lo' hi' mx').run P w= .ok (p.1,p.2.1,cap') w/\p.1<=p.2.1/\p.2.1<=top)\/
  (mx≠none/\p.2.2<=top/\(Instr.sliceBounds true len cap' lo' hi' mx').run P w= .ok (p.1,p.2.1,p.2.2) w/\p.1<=p.2.1/\p.2.1<=p.2.2):=by
 unfold bnds at h
 obtain⟨m1,h1,h2⟩:=ob_some.1 h
 obtain⟨h',h3,h4⟩:=ob_some.1 h2
 obtain⟨l,h5,h6⟩:=ob_some.1 h4
 injection h6 with h6
 subst h6
 have hl:l<=h'/\((lo'=none/\l=0)\/ ∃u',lo'=some u'/\ ∀c,(Instr.sliceBound u' h' c).run P w= .ok l w):=by
  rcases bnd_ok hlo h5 with⟨rfl,rfl,rfl⟩|⟨u,u',rfl,rfl,e1,e2,e3⟩
  ·exact⟨Nat.zero_le _,.inl ⟨rfl,rfl⟩⟩
  ·exact⟨e3,.inr ⟨u',rfl,fun c=>run_bound e1 e2 e3 c w⟩⟩
 obtain⟨hl3,hl⟩:=hl
 cases hmx with
 |none=>
  injection h1 with h1
  subst h1
  refine .inl ⟨rfl,rfl,?_⟩
  cases hhi with
  |none=>
   injection h3 with h3
   subst h3
   refine⟨?_,hl3,hlt⟩
   rcases hl with⟨rfl,rfl⟩|⟨u',rfl,hu'⟩
   ·simp [Instr.sliceBounds]
   ·simp [Instr.sliceBounds,hu']
  |some hu=>
   rcases bnd_ok (.some hu) h3 with⟨e,-⟩|⟨u,u',e,e',e1,e2,e3⟩
   ·cases e
   ·injection e with e
    injection e' with e'
    subst e e'
    refine⟨?_,hl3,e3⟩
    have:=fun c=>run_bound (P:=P) e1 e2 (Nat.le_trans e3 hle) c w
    rcases hl with⟨rfl,rfl⟩|⟨u',rfl,hu'⟩
    ·simp [Instr.sliceBounds,this]
    ·simp [Instr.sliceBounds,hu',this]
 |some hm=>
  rcases bnd_ok (.some hm) h1 with⟨e,-⟩|⟨y,y',e,e',f1,f2,f3⟩
  ·cases e
  ·injection e with e
   injection e' with e'
   subst e e'
   refine .inr ⟨by simp,f3,?_⟩
   have hmm:=fun c=>run_bound (P:=P) f1 f2 (Nat.le_trans f3 hle) c w
   cases hhi with
   |none=>cases h3
   |some hu=>
    rcases bnd_ok (.some hu) h3 with⟨e,-⟩|⟨u,u',e,e',e1,e2,e3⟩
    ·cases e
    ·injection e with e
     injection e' with e'
     subst e e'
     refine⟨?_,hl3,e3⟩
     have:=fun c=>run_bound (P:=P) e1 e2 e3 c w
     rcases hl with⟨rfl,rfl⟩|⟨u',rfl,hu'⟩
     ·simp [Instr.sliceBounds,this,hmm]
     ·simp [Instr.sliceBounds,hu',this,hmm]
theorem run_slice {P:Program} {t e:TypeId} {j:TypeInfo} (hu:P.underlying t=some (.slice e)) (hj:P.info? e=some j) {A:Option Addr} {len cap l h' M:Nat} {lo hi mx:Option Value} (w:World) (hb:(Instr.sliceBounds true len cap lo hi mx).run P w= .ok (l,h',M) w):
  (Instr.sliceAt t (.slice A len cap) lo hi mx).run P w= .ok (.slice (if M=l then A else A.map (·.add (l * j.size))) (h' - l) (M - l)) w:=by
 simp [Instr.sliceAt,run_underlying hu,Instr.slice,hb,run_size hj]
theorem UNK_lt:UNK<END:=by unfold UNK END;decide
theorem aslice_ok {P:Program} {t e:TypeId} {j:TypeInfo} (hu:P.underlying t=some (.slice e)) (hj:P.info? e=some j) {z:Nat} (hz:j.size=z) {A:Option Addr} {len cap:Nat} {u':Value} (hv:VR m (.slice A len cap) u') {lo hi mx lo' hi' mx':Option Value} (hlo:OV m lo lo') (hhi:OV m hi hi') (hmx:OV m mx mx')
  (h:aslice z A len cap lo hi mx=some v) (w:World): ∃v',(Instr.sliceAt t u' lo' hi' mx').run P w= .ok v' w/\VR m v v':=by
 unfold aslice at h
 cases A with
 |none=>
  obtain⟨p,h1,h2⟩:=ob_some.1 (show(ob (bnds len cap lo hi mx) fun p=>some (.slice none (Nat.sub p.2.1 p.1) (Nat.sub p.2.2 p.1)))=some v from h)
  injection h2 with h2
  subst h2
  cases hv with
  |pure hp=>
   have hp:(Nat.beq cap 0&&Nat.beq len 0)=true:=hp
   simp only [Bool.and_eq_true,Nat.beq_eq]at hp
   obtain⟨rfl,rfl⟩:=hp
   have hb: ∃M,(Instr.sliceBounds true 0 0 lo' hi' mx').run P w= .ok (p.1,p.2.1,M) w/\M<=0/\p.2.2=M/\p.1<=p.2.1/\p.2.1<=0:=by
    rcases bnds_ok (P:=P) (Nat.le_refl 0) (Nat.le_refl 0) hlo hhi hmx h1 w with⟨-,e1,e2,e3,e4⟩|⟨-,e1,e2,e3,e4⟩
    ·exact⟨0,e2,Nat.le_refl _,e1,e3,e4⟩
    ·exact⟨_,e2,e1,rfl,e3,by omega⟩
   obtain⟨M,e1,e2,e3,e4,e5⟩:=hb
   refine⟨_,run_slice hu hj w e1,?_⟩
   have:M=0:=by omega
   subst this
   have h1':p.1=0:=by omega
   have h2':p.2.1=0:=by omega
   rw [e3,h1',h2']
   exact .pure rfl
 |some A=>
  by_cases hk:cap<UNK
  ·have hkb:Nat.ble (Nat.succ cap) UNK=true:=by rw [Nat.ble_eq];exact hk
   have h:(ob (bnds len cap lo hi mx) fun p=>slK z A p)=some v:=by
    have:=h
    simp only [hkb]at this
    exact this
   obtain⟨p,h1,h2⟩:=ob_some.1 h
   unfold slK at h2
   obtain⟨h3,h4⟩:=oif_some.1 h2
   have h3:=Nat.le_of_ble_eq_true h3
   injection h4 with h4
   cases hv with
   |pure hp=>exact Bool.noConfusion hp
   |slu _ _ _ _=>omega
   |sle _ _ _=>have:=UNK_lt;omega
   | @slk b o _ _ k s n hb hc hl=>
    have hM: ∃M,(Instr.sliceBounds true len cap lo' hi' mx').run P w= .ok (p.1,p.2.1,M) w/\p.2.2=M/\p.1<=p.2.1/\p.2.1<=M:=by
     rcases bnds_ok (P:=P) (Nat.le_refl cap) hl hlo hhi hmx h1 w with⟨-,e1,e2,e3,e4⟩|⟨-,e1,e2,e3,e4⟩
     ·exact⟨cap,e2,e1,e3,e4⟩
     ·exact⟨_,e2,rfl,e3,e4⟩
    obtain⟨M,e1,e2,e3,e4⟩:=hM
    subst e2 h4
    refine⟨_,run_slice hu hj w e1,?_⟩
    rw [hz]
    by_cases hpl:p.2.2=p.1
    ·rw [if_pos hpl]
     have:Nat.beq p.2.2 p.1=true:=by rw [Nat.beq_eq];exact hpl
     rw [this]
     exact .slk hb (by show p.2.2 - p.1<UNK;omega) (by show p.2.1 - p.1<=p.2.2 - p.1;omega)
    ·rw [if_neg hpl]
     have:Nat.beq p.2.2 p.1=false:=by rw [<-Bool.not_eq_true,Nat.beq_eq];exact hpl
     rw [this]
     simp only [Option.map_some,addr_add,Nat.add_assoc]
     exact .slk hb (by show p.2.2 - p.1<UNK;omega) (by show p.2.1 - p.1<=p.2.2 - p.1;omega)
  ·have hkb:Nat.ble (Nat.succ cap) UNK=false:=by rw [<-Bool.not_eq_true,Nat.ble_eq];exact hk
   by_cases hE:cap<END
   ·have hEb:Nat.ble (Nat.succ cap) END=true:=by rw [Nat.ble_eq];exact hE
    have h:(ob (bnds len len lo hi mx) fun p=>Option.rec (slU z A len cap p) (fun _=>slK z A p) mx)=some v:=by
     have:=h
     simp only [hkb,hEb]at this
     exact this
    obtain⟨p,h1,h2⟩:=ob_some.1 h
    cases hv with
    |pure hp=>exact Bool.noConfusion hp
    |slk _ hc _=>omega
    |sle _ _ _=>omega
    | @slu b o _ y c' k s n hb hz1 hl hn=>
     rcases bnds_ok (P:=P) hl (Nat.le_refl len) hlo hhi hmx h1 w with⟨e0,e1,e2,e3,e4⟩|⟨e0,e1,e2,e3,e4⟩
     ·rw [e0]at h2
      have h2:slU z ⟨b,o,none⟩ len (UNK+y) p=some v:=h2
      unfold slU at h2
      obtain⟨h3,h4⟩:=oif_some.1 h2
      rw [Nat.beq_eq]at h3
      have:y=z:=by omega
      subst this
      injection h4 with h4
      subst h4
      refine⟨_,run_slice hu hj w e2,?_⟩
      rw [hz]
      have hmul:p.1 * y+(c' - p.1) * y=c' * y:=by
       rw [<-Nat.add_mul]
       congr 1
       omega
      by_cases hpl:p.1<len\/p.1=0
      ·have:(Nat.ble (Nat.succ p.1) len||Nat.beq p.1 0)=true:=by
        rw [Bool.or_eq_true,Nat.ble_eq,Nat.beq_eq]
        exact hpl
       rw [this]
       have key:(if c'=p.1 then some (⟨k,s+o,none⟩:Addr)else Option.map (·.add (p.1 * y)) (some (⟨k,s+o,none⟩:Addr)))=some ⟨k,s+(o+p.1 * y),none⟩:=by
        split
        ·have:p.1=0:=by omega
         rw [this];simp
        ·simp only [Option.map_some,addr_add,Nat.add_assoc]
       rw [key]
       have hadd:(⟨b,o,none⟩:Addr).add (Nat.mul p.1 y)=⟨b,o+p.1 * y,none⟩:=addr_add _ _ _
       rw [hadd]
       exact .slu hb hz1 (by show p.2.1 - p.1<=c' - p.1;omega) (by omega)
      ·have:(Nat.ble (Nat.succ p.1) len||Nat.beq p.1 0)=false:=by
        rw [<-Bool.not_eq_true,Bool.or_eq_true,Nat.ble_eq,Nat.beq_eq]
        exact hpl
       rw [this]
       have hadd:(⟨b,o,none⟩:Addr).add (Nat.mul p.1 y)=⟨b,o+p.1 * y,none⟩:=addr_add _ _ _
       rw [hadd]
       have h0:p.2.1 - p.1=0:=by omega
       rw [h0]
       by_cases hc:c'=p.1
       ·rw [if_pos hc]
        have:c' - p.1=0:=by omega
        rw [this]
        exact .sle hb hz1 (.inl rfl)
       ·rw [if_neg hc]
        simp only [Option.map_some,addr_add]
        exact .sle hb hz1 (.inr ⟨by omega,by omega⟩)
     ·have h2:slK z ⟨b,o,none⟩ p=some v:=by
       cases hmx with
       |none=>exact absurd rfl e0
       |some _=>exact h2
      unfold slK at h2
      obtain⟨h3,h4⟩:=oif_some.1 h2
      have h3:=Nat.le_of_ble_eq_true h3
      injection h4 with h4
      subst h4
      refine⟨_,run_slice hu hj w e2,?_⟩
      rw [hz]
      by_cases hpl:p.2.2=p.1
      ·rw [if_pos hpl]
       have:Nat.beq p.2.2 p.1=true:=by rw [Nat.beq_eq];exact hpl
       rw [this]
       exact .slk hb (by show p.2.2 - p.1<UNK;omega) (by show p.2.1 - p.1<=p.2.2 - p.1;omega)
      ·rw [if_neg hpl]
       have:Nat.beq p.2.2 p.1=false:=by rw [<-Bool.not_eq_true,Nat.beq_eq];exact hpl
       rw [this]
       simp only [Option.map_some,addr_add,Nat.add_assoc]
       exact .slk hb (by show p.2.2 - p.1<UNK;omega) (by show p.2.1 - p.1<=p.2.2 - p.1;omega)
   ·have hEb:Nat.ble (Nat.succ cap) END=false:=by rw [<-Bool.not_eq_true,Nat.ble_eq];exact hE
    simp only [hkb,hEb]at h
    cases h
theorem yld_slice (ok:TabOK T) (R:TR m tm sz a.tmps) {t:TypeId} {x:Operand} {lo hi mx:Option Operand} (ho:o.op= .slice t x lo hi mx) (hv:r_slice T tm t x lo hi mx o=some v):Yld T.P o a w m v:=by
 unfold r_slice at hv
 obtain⟨i,h1,h2⟩:=ob_some.1 hv
 obtain⟨u,h3,h4⟩:=ob_some.1 h2
 obtain⟨lo',h5,h6⟩:=ob_some.1 h4
 obtain⟨hi',h7,h8⟩:=ob_some.1 h6
 obtain⟨mx',h9,h10⟩:=ob_some.1 h8
 have hs: ∀cs b,o.op≠ .select cs b:=fun cs b e=>by rw [ho]at e;cases e
 cases hd:sliceE i.und with
 |none=>rw [hd]at h10;exact plain_ok R hs h10
 |some e=>
  rw [hd]at h10
  obtain⟨j,h11,h12⟩:=ob_some.1 (show(ob (ti T e) fun j=>ob (vSl u) fun p=>aslice j.size p.1 p.2.1 p.2.2 lo' hi' mx')=some v from h10)
  obtain⟨p,h13,h14⟩:=ob_some.1 h12
  have:=vSl_some h13
  subst this
  obtain⟨info,q1,q2,-⟩:=ok.at h1
  obtain⟨info',p1,p2,p3,-⟩:=ok.at h11
  rw [sliceE_some hd]at q2
  obtain⟨v',e1,e2⟩:=aslice_ok q2 p1 p3 (lev_ok R h3) (levO_ok R h5) (levO_ok R h7) (levO_ok R h9) h14 w
  exact⟨v',by simp [execOp,ho,e1,Result.andThen],e2⟩
end
open Go Go.RowKit
set_option linter.unusedVariables false
set_option linter.unusedSimpArgs false
theorem hRun_bind {P:Program} {α β:Type}: ∀(s:Sem α) (f:α->Sem β),hRun P (s>>=f)=ob (hRun P s) fun a=>hRun P (f a)
 | .pure a,f=>rfl
 | .program k,f=>hRun_bind (k P) f
 | .mark _ k,f=>hRun_bind k f
 | .load ..,_=>rfl
 | .store ..,_=>rfl
 | .new ..,_=>rfl
 | .shape ..,_=>rfl
 | .freeze ..,_=>rfl
 | .frozen ..,_=>rfl
 | .getObj ..,_=>rfl
 | .setObj ..,_=>rfl
 | .choose ..,_=>rfl
 | .sys ..,_=>rfl
 | .halt ..,_=>rfl
inductive FR (m:Mp):Option (Nat×Value)->Option (Nat×Value)->Prop where
 |none:FR m none none
 |some {i:Nat} {v v':Value} (h:VR m v v'):FR m (some (i,v)) (some (i,v'))
section
variable {T : Tab} {base : Nat} {w0 w w' : World} {m m' : Mp} {h h' : H} {b k s n N sz : Nat} {tm : Tr Value} {a : Act} {o : Oper} {v v' : Value}
theorem findNow_ok {d:TypeDesc} {k:Value}: ∀{es es':List MapEntry} {i:Nat},EL m es es'->(Instr.findNow d k es i=none/\Instr.findNow d k es' i=none)\/ ∃r r',Instr.findNow d k es i=some r/\Instr.findNow d k es' i=some r'/\FR m r r'
 |_,_,i,.nil=> .inr ⟨none,none,rfl,rfl,.none⟩
 |_,_,i,.cons (e:=e) (e':=e') (l:=l) (l':=l') he t=>by
  have ih:=findNow_ok (d:=d) (k:=k) (i:=i+1) t
  simp only [Instr.findNow,he.key]
  cases Instr.sameNow d k e.key with
  |none=>exact .inl ⟨rfl,rfl⟩
  |some b=>cases b with
   |true=>exact .inr ⟨_,_,rfl,rfl,.some he.val⟩
   |false=>exact ih
theorem findAsking_ok {P:Program} {kt:TypeId} {k:Value} (w:World): ∀{es es':List MapEntry} {i:Nat} {r:Option (Nat×Value)},EL m es es'->hRun P (Instr.findAsking kt k es i)=some r-> ∃r',(Instr.findAsking kt k es' i).run P w= .ok r' w/\FR m r r'
 |_,_,i,r,.nil,h=>by
  injection h with h
  subst h
  exact⟨none,rfl,.none⟩
 |_,_,i,r,.cons (e:=e) (e':=e') (l:=l) (l':=l') he t,h=>by
  rw [Instr.findAsking,hRun_bind]at h
  obtain⟨b,h1,h2⟩:=ob_some.1 h
  have h1':=hRun_ok h1 w
  cases b with
  |true=>
   injection h2 with h2
   subst h2
   exact⟨_,by simp [Instr.findAsking,he.key,h1'],.some he.val⟩
  |false=>
   obtain⟨r',h3,h4⟩:=findAsking_ok w t h2
   exact⟨r',by simp [Instr.findAsking,he.key,h1',h3],h4⟩
theorem find_ok {P:Program} {kt:TypeId} {k:Value} (w:World) {es es':List MapEntry} {r:Option (Nat×Value)} (he:EL m es es') (h:findE P kt k es=some r): ∃r',(Instr.findKey kt k es').run P w= .ok r' w/\FR m r r':=by
 unfold findE Instr.findKey at h
 rw [hRun_bind]at h
 obtain⟨d,h1,h2⟩:=ob_some.1 h
 have h1':=hRun_ok h1 w
 rcases findNow_ok (d:=d) (k:=k) (i:=0) he with⟨e1,e2⟩|⟨q,q',e1,e2,e3⟩
 ·rw [e1]at h2
  obtain⟨r',h3,h4⟩:=findAsking_ok w he h2
  exact⟨r',by simp [Instr.findKey,h1',e2,h3],h4⟩
 ·rw [e1]at h2
  injection h2 with h2
  subst h2
  exact⟨q',by simp [Instr.findKey,h1',e2],e3⟩
theorem EL.len: ∀{l l':List MapEntry},EL m l l'->l.length=l'.length
 |_,_,.nil=>rfl
 |_,_,.cons _ t=>by simp [t.len]
theorem EL.emp {l l':List MapEntry} (h:EL m l l'):l'.isEmpty=l.isEmpty:=by cases h<;>rfl
theorem EL.append: ∀{l l' k k':List MapEntry},EL m l l'->EL m k k'->EL m (l++k) (l'++k')
 |_,_,_,_,.nil,h=>h
 |_,_,_,_,.cons he t,h=> .cons he (t.append h)
theorem EL.get: ∀{l l':List MapEntry} {i:Nat} {e:MapEntry},EL m l l'->l[i]? =some e-> ∃e',l'[i]? =some e'/\ER m e e'
 |_,_,i,e,.nil,h=>by simp at h
 |_,_,0,e,.cons (e':=e') he t,h=>by
  simp at h
  subst h
  exact⟨e',rfl,he⟩
 |_,_,i+1,e,.cons he t,h=>by
  obtain⟨u,h1,h2⟩:=t.get (i:=i) (e:=e) (by simpa using h)
  exact⟨u,by simpa using h1,h2⟩
theorem EL.set: ∀{l l':List MapEntry} {i:Nat} {e e':MapEntry},EL m l l'->ER m e e'->EL m (l.set i e) (l'.set i e')
 |_,_,i,e,e',.nil,h=> .nil
 |_,_,0,e,e',.cons he t,h=> .cons h t
 |_,_,i+1,e,e',.cons he t,h=> .cons he (t.set h)
inductive MV (m:Mp) (w:World) (es:List MapEntry):Value->Prop where
 |nil (h:es=[]):MV m w es (.map none)
 |some {k clock:Nat} {es':Array MapEntry} (hb:w.heap[k]? =some (.map es' clock)) (he:EL m es es'.toList):MV m w es (.map (some k))
theorem entries_ok (H:HR base w0 m h w) (hv:VR m v v') {es:List MapEntry} (he:entries h v=some es):MV m w es v':=by
 unfold entries at he
 obtain⟨r,h1,h2⟩:=ob_some.1 he
 have:=vMap_some h1
 subst this
 cases r with
 |none=>
  injection h2 with h2
  subst h2
  rw [hv.atom1 rfl]
  exact .nil rfl
 |some r=>
  obtain⟨p,h3,h4⟩:=ob_some.1 h2
  injection h4 with h4
  subst h4
  obtain⟨k,s,n,g1,rfl⟩:=hv.map_of
  have ho:=H.obj _ _ _ _ g1
  rw [oMap_some h3]at ho
  cases ho with
  |map es' hb he=>exact .some hb he
theorem run_getMap {P:Program} {r:Nat} {es:Array MapEntry} {clock:Nat} (w:World) (hb:w.heap[r]? =some (.map es clock)):(getObj r).run P w= .ok (.map es clock) w:=by simp [getObj,Sem.run,hb]
theorem okV_ok {ok b:Bool} (hv:VR m v v'):VR m (okV ok v b) (if ok then .tuple #[v',.bool b]else v'):=by
 cases ok with
 |true=>exact .tup (.cons hv (.cons (.pure rfl) .nil))
 |false=>exact hv
theorem yld_lookup (ok:TabOK T) (H:HR base w0 m h w) (R:TR m tm sz a.tmps) {t:TypeId} {x ix:Operand} {c:Bool} (ho:o.op= .lookup t x ix c) (hv:r_lookup T h tm t x ix c=some v):Yld T.P o a w m v:=by
 unfold r_lookup at hv
 obtain⟨i,h1,h2⟩:=ob_some.1 hv
 obtain⟨u,h3,h4⟩:=ob_some.1 h2
 obtain⟨k,h5,h6⟩:=ob_some.1 h4
 obtain⟨q,h7,h8⟩:=ob_some.1 h6
 obtain⟨es,h9,h10⟩:=ob_some.1 h8
 obtain⟨_,h11,h12⟩:=ob_some.1 h10
 obtain⟨r,h13,h14⟩:=ob_some.1 h12
 clear hv h2 h4 h6 h8 h10 h12
 obtain⟨info,q1,q2,-⟩:=ok.at h1
 rw [mapE_some h7]at q2
 unfold keyOk at h11
 obtain⟨p1,p2⟩:=oif_some.1 h11
 have hk:=(lev_ok R h5).atom p1
 have hck:=hRun_ok p2 w
 have hmv:=entries_ok H (lev_ok R h3) h9
 obtain⟨es',e1,e2⟩: ∃es':Array MapEntry,EL m es es'.toList/\((a.eval x= .map none/\es'= #[])\/ ∃k clock,a.eval x= .map (some k)/\w.heap[k]? =some (.map es' clock)):=by
  generalize a.eval x=X at hmv
  cases hmv with
  |nil he=>exact⟨#[],by rw [he];exact .nil,.inl ⟨rfl,rfl⟩⟩
  |some hb he=>exact⟨_,he,.inr ⟨_,_,rfl,hb⟩⟩
 obtain⟨r',e3,e4⟩:=find_ok w e1 h13
 have hem:es'.isEmpty=es.isEmpty:=by rw [<-e1.emp];simp
 rw [<-hk]at hck e3
 have hck':(Instr.checkKey es'.isEmpty 10000 q.1 (a.eval ix)).run T.P w= .ok () w:=by rw [hem];exact hck
 cases e4 with
 |none=>
  obtain⟨z,g1,g2⟩:=ob_some.1 h14
  injection g2 with g2
  subst g2
  obtain⟨j,g3,g4⟩:=ob_some.1 (show(ob (ti T q.2) fun j=>j.zero)=some z from g1)
  obtain⟨info',r1,-,-,-,-,r6⟩:=ok.at g3
  obtain⟨r7,r8,-⟩:=r6 z g4
  refine⟨_,?_,okV_ok (VR.of r8)⟩
  have:(Instr.lookup t (a.eval x) (a.eval ix) c).run T.P w= .ok (if c then .tuple #[z,.bool false]else z) w:=by
   unfold Instr.lookup
   rw [run_sub _ _ w w _ (run_underlying q2 w)]
   rcases e2 with⟨hx,rfl⟩|⟨q,cl,hx,hb⟩<;>rw [hx]
   ·simp at hck' e3
    simp [hck',e3,run_zero r1 r7]
   ·simp [run_getMap w hb,hck',e3,run_zero r1 r7]
  simp [execOp,ho,this]
 |some hvv=>
  injection h14 with h14
  subst h14
  rename_i iix vv vv'
  refine⟨_,?_,okV_ok hvv⟩
  have:(Instr.lookup t (a.eval x) (a.eval ix) c).run T.P w= .ok (if c then .tuple #[vv',.bool true]else vv') w:=by
   unfold Instr.lookup
   rw [run_sub _ _ w w _ (run_underlying q2 w)]
   rcases e2 with⟨hx,rfl⟩|⟨q,cl,hx,hb⟩<;>rw [hx]
   ·simp at hck' e3
    simp [hck',e3]
   ·simp [run_getMap w hb,hck',e3]
  simp [execOp,ho,this]
theorem run_builtin {P:Program} {c:Call} {bb:Builtin} (ho:o.op= .call c) (hc:c.callee= .builtin bb): ∃cs,∀(ev:Operand->Value) (w:World),(execOp ev o).run P w=(builtin bb c.argTypes o.type cs (c.args.map ev)).run P w:=
 ⟨c.args.map fun| .const _=>true|_=>false,fun ev w=>by simp [execOp,ho,resolve,hc,invoke];rfl⟩
theorem args_arr (R:TR m tm sz a.tmps) {xs:Array Operand} {vs:List Value} (h:levs tm xs.toList=some vs):LR m vs (xs.map a.eval).toList:=by
 have:=levs_ok R h
 simpa using this
theorem kindT_some (ok:TabOK T) {ts:Array TypeId} {k:Nat} (h:kindT T ts.toList=some k): ∃t d,ts[0]? =some t/\T.P.underlying t=some d/\kindD d=k:=by
 obtain⟨t,h1,h2⟩:=ob_some.1 (show(ob (lnth ts.toList 0) fun t=>ob (ti T t) fun i=>some (kindD i.und))=some k from h)
 obtain⟨i,h3,h4⟩:=ob_some.1 h2
 injection h4 with h4
 rw [lnth_eq]at h1
 obtain⟨info,q1,q2,-⟩:=ok.at h3
 exact⟨t,i.und,by simpa using h1,q2,h4⟩
theorem arr1 {xs:Array Value} (hl:LR m [v] xs.toList): ∃v',xs= #[v']/\VR m v v':=by
 obtain⟨v',h1,h2⟩:=hl.single
 exact⟨v',by rw [<-Array.toList_inj,h1],h2⟩
theorem arr2 {u:Value} {xs:Array Value} (hl:LR m [v,u] xs.toList): ∃v' u',xs= #[v',u']/\VR m v v'/\VR m u u':=by
 obtain⟨v',u',h1,h2,h3⟩:=hl.two
 exact⟨v',u',by rw [<-Array.toList_inj,h1],h2,h3⟩
theorem intV_eq (n:Nat):intV n=goInt n:=rfl
theorem run_len (ok:TabOK T) (H:HR base w0 m h w) {ts:Array TypeId} {vs:List Value} {xs:Array Value} (hl:LR m vs xs.toList) (hv:r_len T h ts.toList vs=some v) (ty:TypeId): ∃v',(Builtin.len_ ts ty xs).run T.P w= .ok v' w/\VR m v v':=by
 unfold r_len at hv
 obtain⟨u,h1,h2⟩:=ob_some.1 hv
 obtain⟨k,h3,h4⟩:=ob_some.1 h2
 obtain⟨t,d,q1,q2,q3⟩:=kindT_some ok h3
 rw [l1_some]at h1
 subst h1
 obtain⟨u',rfl,hu⟩:=arr1 hl
 unfold r_len1 at h4
 have q1':ts.toList[0]? =some t:=by simpa using q1
 cases d<;>(simp only [kindD]at q3;subst q3)<;>try cases h4
 ·obtain⟨es,e1,e2⟩:=ob_some.1 (show(ob (vStr u) fun s=>some (intV s.size))=some v from h4)
  injection e2 with e2
  subst e2
  have:=vStr_some e1
  subst this
  rw [hu.str_of]
  exact⟨_,by simp [intV_eq,Builtin.len_,q1,run_underlying q2],.pure rfl⟩
 ·obtain⟨p,e1,e2⟩:=ob_some.1 (show(ob (vSl u) fun p=>some (intV p.2.1))=some v from h4)
  injection e2 with e2
  subst e2
  have:=vSl_some e1
  subst this
  obtain⟨A',c',rfl,-⟩:=hu.len_of
  exact⟨_,by simp [intV_eq,Builtin.len_,q1,run_underlying q2],.pure rfl⟩
 ·obtain⟨es,e1,e2⟩:=ob_some.1 (show(ob (entries h u) fun es=>some (intV (llen es)))=some v from h4)
  injection e2 with e2
  subst e2
  have hmv:=entries_ok H hu e1
  rw [llen_eq]
  cases hmv with
  |nil he=>exact⟨goInt 0,by simp [Builtin.len_,q1,run_underlying q2],by rw [he];exact .pure rfl⟩
  | @some _ _ es' hb he=>exact⟨goInt es'.size,by simp [Builtin.len_,q1,run_underlying q2,run_getMap w hb],by rw [he.len,Array.length_toList];exact .pure rfl⟩
theorem run_cap (ok:TabOK T) {ts:Array TypeId} {vs:List Value} {xs:Array Value} (hl:LR m vs xs.toList) (hv:r_cap T ts.toList vs=some v) (ty:TypeId): ∃v',(Builtin.cap_ ts ty xs).run T.P w= .ok v' w/\VR m v v':=by
 unfold r_cap at hv
 obtain⟨u,h1,h2⟩:=ob_some.1 hv
 obtain⟨p,h3,h4⟩:=ob_some.1 h2
 obtain⟨k,h5,h6⟩:=ob_some.1 h4
 obtain⟨h7,h8⟩:=oif_some.1 h6
 injection h8 with h8
 subst h8
 simp only [Bool.and_eq_true]at h7
 obtain⟨t,d,q1,q2,q3⟩:=kindT_some ok h5
 have hk:k=1:=Nat.eq_of_beq_eq_true h7.1
 have hc:=Nat.le_of_ble_eq_true h7.2
 rw [l1_some]at h1
 subst h1
 have:=vSl_some h3
 subst this
 obtain⟨u',rfl,hu⟩:=arr1 hl
 subst hk
 have hd: ∃e,d= .slice e:=by cases d<;>first|exact⟨_,rfl⟩|(exact absurd q3 (by simp [kindD]))
 obtain⟨e,rfl⟩:=hd
 have hcap: ∃A',u'= .slice A' p.2.1 p.2.2:=by
  generalize hq:p.2.2=c at hu hc
  generalize hq':p.2.1=l at hu
  generalize hq'':p.1=A at hu
  cases hu with
  |pure h=>exact⟨_,rfl⟩
  |slk h _ _=>exact⟨_,rfl⟩
  |slu h _ _ _=>exact absurd hc (by omega)
  |sle h _ _=>have:=UNK_lt;exact absurd hc (by omega)
 obtain⟨A',rfl⟩:=hcap
 exact⟨_,by simp [intV_eq,Builtin.cap_,q1,run_underlying q2],.pure rfl⟩
theorem run_data {vs:List Value} {xs:Array Value} (hl:LR m vs xs.toList) (hv:r_data vs=some v) {P:Program} {ts:Array TypeId} {ty:TypeId}: ∃v',(Builtin.unsafeSliceData_ ts ty xs).run P w= .ok v' w/\VR m v v':=by
 unfold r_data at hv
 obtain⟨u,h1,h2⟩:=ob_some.1 hv
 obtain⟨p,h3,h4⟩:=ob_some.1 h2
 rw [l1_some]at h1
 subst h1
 have:=vSl_some h3
 subst this
 obtain⟨u',rfl,hu⟩:=arr1 hl
 obtain⟨A,l,c⟩:=p
 cases A with
 |none=>
  injection h4 with h4
  subst h4
  obtain⟨A',c',rfl,h5,-⟩:=hu.len_of
  rw [(h5 rfl).1]
  exact⟨.pointer none,rfl,.pure rfl⟩
 |some A=>
  obtain⟨h5,h6⟩:=oif_some.1 (show oif (Nat.ble 1 l&&Nat.ble (Nat.succ c) END) (some (.pointer (some A)))=some v from h4)
  injection h6 with h6
  subst h6
  simp only [Bool.and_eq_true]at h5
  have hl1:=Nat.le_of_ble_eq_true h5.1
  have hc:=Nat.le_of_ble_eq_true h5.2
  have key: ∃k s n c',m A.block=some (k,s,n)/\A.spot=none/\u'= .slice (some ⟨k,s+A.off,none⟩) l c'/\c'≠0:=by
   cases hu with
   |pure h=>exact Bool.noConfusion h
   |slk h _ _=>exact⟨_,_,_,_,h,rfl,rfl,by simp only at *;omega⟩
   |slu h _ _ _=>exact⟨_,_,_,_,h,rfl,rfl,by simp only at *;omega⟩
   |sle h _ _=>simp only at *;omega
  obtain⟨k,s,n,c',e1,e2,rfl,e4⟩:=key
  refine⟨.pointer (some ⟨k,s+A.off,none⟩),by show(if c'≠0 then(pure (.pointer (some ⟨k,s+A.off,none⟩)):Sem Value)else _).run P w=_;rw [if_pos e4];rfl,?_⟩
  rw [addr_eta e2]
  exact .ptr e1
end
open Go Go.RowKit
set_option linter.unusedVariables false
set_option linter.unusedSimpArgs false
def Mkd (P:Program) (o:Oper) (a:Act) (w:World) (m:Mp) (ob:AObj) (k:Mk):Prop:=
 ∃w' n v',(execOp a.eval o).run P w= .ok (.value v') w'/\Below w.heap.size w w'/\w.heap.size<w'.heap.size/\ ∀f,m f=none->OR (upd m f (w.heap.size,0,n)) w.heap.size 0 n w' ob/\VR (upd m f (w.heap.size,0,n)) (mkV f k) v'
structure DR (m:Mp) (d d':Deferred):Prop where
 target:(∃b k s n,d.target= .collected b/\d'.target= .collected k/\m b=some (k,s,n))\/(∃f c c',d.target= .fn (.func f) c/\d'.target= .fn (.func f) c'/\LR m c.toList c'.toList)
 args:LR m d.args.toList d'.args.toList
inductive NR (m:Mp):ANext->Next->Prop where
 |val {v v':Value} (h:VR m v v'):NR m (.val v) (.value v')
 |skip:NR m .skip .skip
 |enter {f:FuncId} {xs:List Value} {xs':Array Value} (h:LR m xs xs'.toList):NR m (.enter f xs) (.enter f xs')
 |round {l k s n:Nat} {f:FuncId} {tm:Tr Value} {sz:Nat} {ts:Array Value} {assign body:Code} (h:m l=some (k,s,n)) (ht:TR m tm sz ts):NR m (.round l f tm sz assign body) (.round k f ts assign body)
 |defer {d d':Deferred} (h:DR m d d'):NR m (.defer d) (.defer d')
 |recov:NR m .recov .recover
def Tnd (P:Program) (base:Nat) (w0:World) (o:Oper) (a:Act) (w:World) (m:Mp) (h:H) (n:ANext) (h':H):Prop:=
 ∃w' m' n',(execOp a.eval o).run P w= .ok n' w'/\HR base w0 m' h' w'/\Ext h.nx m h m' h'/\NR m' n n'
inductive AR (P:Program) (base:Nat) (w0:World) (o:Oper) (a:Act) (w:World) (m:Mp) (h:H):ORes->Prop where
 |rd {v:Value} (y:Yld P o a w m v):AR P base w0 o a w m h (.rd v)
 |mk {ob:AObj} {k:Mk} (y:Mkd P o a w m ob k):AR P base w0 o a w m h (.mk ob k)
 |tn {n:ANext} {h':H} (y:Tnd P base w0 o a w m h n h'):AR P base w0 o a w m h (.tn n h')
theorem rd_some {o:Option Value} {r:ORes} (h:rd o=some r): ∃v,o=some v/\r= .rd v:=by
 obtain⟨v,h1,h2⟩:=ob_some.1 h
 injection h2 with h2
 exact⟨v,h1,h2.symm⟩
theorem mk_some {o:Option (AObj×Mk)} {r:ORes} (h:mk o=some r): ∃p,o=some p/\r= .mk p.1 p.2:=by
 obtain⟨v,h1,h2⟩:=ob_some.1 h
 injection h2 with h2
 exact⟨v,h1,h2.symm⟩
theorem tn_some {o:Option (ANext×H)} {r:ORes} (h:tn o=some r): ∃p,o=some p/\r= .tn p.1 p.2:=by
 obtain⟨v,h1,h2⟩:=ob_some.1 h
 injection h2 with h2
 exact⟨v,h1,h2.symm⟩
section
variable {T : Tab} {base : Nat} {w0 w w' : World} {m m' : Mp} {h h' : H} {b k s n N sz : Nat} {tm : Tr Value} {a : Act} {o : Oper} {v v' : Value}
theorem alloc_below (w:World) (o:Obj):Below w.heap.size w (w.alloc o):=⟨rfl,rfl,rfl,by show w.heap.size<=(w.heap.push o).size;simp,fun k hk=>by show(w.heap.push o)[k]? =_;rw [Array.getElem?_push,if_neg (by omega)]⟩
theorem alloc_at (w:World) (o:Obj):(w.alloc o).heap[w.heap.size]? =some o:=by show(w.heap.push o)[w.heap.size]? =_;simp
theorem alloc_lt (w:World) (o:Obj):w.heap.size<(w.alloc o).heap.size:=by show w.heap.size<(w.heap.push o).size;simp
theorem OR.fresh (w:World) {cs:List Value} {cs':Array Value} {e:TypeId} (hv:LR m cs cs'.toList):OR m w.heap.size 0 cs.length (w.alloc (.cells cs' e)) (.cells cs e false true 0 0):=by
 have hl:cs.length=cs'.size:=by simpa using hv.len
 refine .cells cs' (0,0) (alloc_at w _) (by omega) (Nat.le_refl _) (fun _=>⟨rfl,rfl⟩) ?_ (.inl ⟨rfl,.inl ⟨rfl,rfl⟩⟩)
 rw [List.drop_zero,List.take_of_length_le (by simp [hl])]
 exact hv
theorem mkd_cells {P:Program} {cs:List Value} {cs':Array Value} {e:TypeId} {kd:Mk} {v':Value} (hr:(execOp a.eval o).run P w= .ok (.value v') (w.alloc (.cells cs' e))) (hv:LR m cs cs'.toList) (hk: ∀m:Mp,∀f,m f=some (w.heap.size,0,cs.length)->VR m (mkV f kd) v'):
  Mkd P o a w m (.cells cs e false true 0 0) kd:=
 ⟨_,cs.length,v',hr,alloc_below w _,alloc_lt w _,fun f hf=>⟨OR.fresh w (hv.mono (upd_sub hf)),hk _ f (upd_same _ _ _)⟩⟩
theorem mk_alloc (ok:TabOK T) {e:TypeId} {p:AObj×Mk} (ho:o.op= .alloc e) (hp:a_alloc T e=some p):Mkd T.P o a w m p.1 p.2:=by
 unfold a_alloc at hp
 obtain⟨i,h1,h2⟩:=ob_some.1 hp
 obtain⟨z,h3,h4⟩:=ob_some.1 h2
 injection h4 with h4
 subst h4
 obtain⟨info,q1,q2,q3,-,q5,q6⟩:=ok.at h1
 obtain⟨q7,q8,-⟩:=q6 z h3
 refine mkd_cells (cs':=z.cells) (v':= .pointer (some ⟨w.heap.size,0,none⟩)) ?_ (by have:=(VR.of (m:=m) q8).cells;rwa [cellsL_eq]at this⊢) fun m f hf=> .ptr hf
 simp [execOp,ho,Instr.alloc,run_zero q1 q7,newVar,newRow]
theorem mk_box (R:TR m tm sz a.tmps) {e:TypeId} {x:Operand} {p:AObj×Mk} (ho:o.op= .box e x) (hp:a_box tm e x=some p):Mkd T.P o a w m p.1 p.2:=by
 unfold a_box at hp
 obtain⟨u,h1,h2⟩:=ob_some.1 hp
 injection h2 with h2
 subst h2
 refine mkd_cells (cs':=(a.eval x).cells) (v':= .pointer (some ⟨w.heap.size,0,none⟩)) ?_ (by have:=(lev_ok R h1).cells;rw [cellsL_eq (a.eval x)]at this;exact this) fun m f hf=> .ptr hf
 simp [execOp,ho,Instr.box,newVar,newRow]
theorem zeros_eq (l:List Value) (n:Nat):(Array.range (n * l.length)).map (fun i=>(l.toArray)[i%l.length]!)=(List.replicate n l).flatten.toArray:=by
 have key:(List.range (n * l.length)).map (fun i=>(l.toArray)[i%l.length]!)=(List.replicate n l).flatten:=by
  induction n with
  |zero=>simp
  |succ n ih=>
   rw [Nat.succ_mul,Nat.add_comm,List.range_add,List.map_append,List.replicate_succ,List.flatten_cons]
   congr 1
   ·apply List.ext_getElem (by simp)
    intro i h1 h2
    have:i%l.length=i:=Nat.mod_eq_of_lt h2
    simp [this,h2]
   ·rw [List.map_map,<-ih]
    apply List.map_congr_left
    intro i _
    simp [Function.comp]
 rw [<-Array.toList_inj]
 simpa using key
theorem zerosA_eq (z:Array Value) (n s:Nat) (hs:z.size=s):(Array.range (n * s)).map (fun i=>z[i%z.size]!)=(List.replicate n z.toList).flatten.toArray:=by
 have:=zeros_eq z.toList n
 simp only [Array.length_toList,Array.toArray_toList]at this
 rw [<-hs];exact this
theorem zerosA_nil (n s:Nat) (l:List Value) (hl:l.length=s) (h0:n * s=0):(Array.range (n * s)).map (fun i=>(#[]:Array Value)[i%(#[]:Array Value).size]!)=(List.replicate n l).flatten.toArray:=by
 rw [h0]
 rcases Nat.mul_eq_zero.1 h0 with h|h
 ·subst h;simp
 ·subst h
  have:l=[]:=List.length_eq_zero_iff.1 hl
  subst this
  rw [<-Array.toList_inj]
  simp
theorem mk_row (ok:TabOK T) (R:TR m tm sz a.tmps) {t:TypeId} {len:Nat} {parts:Array (Nat×Operand)} {p:AObj×Mk} (ho:o.op= .buildSlice t len parts) (hp:a_row T tm t len parts.toList=some p):Mkd T.P o a w m p.1 p.2:=by
 unfold a_row at hp
 obtain⟨i,h1,h2⟩:=ob_some.1 hp
 obtain⟨e,h3,h4⟩:=ob_some.1 h2
 obtain⟨j,h5,h6⟩:=ob_some.1 h4
 obtain⟨z,h7,h8⟩:=ob_some.1 h6
 obtain⟨h9,h10⟩:=oif_some.1 h8
 obtain⟨cs,h11,h12⟩:=ob_some.1 h10
 injection h12 with h12
 subst h12
 simp only [Bool.and_eq_true]at h9
 have hle:=Nat.le_of_ble_eq_true h9.1
 have h1z:=Nat.le_of_ble_eq_true h9.2
 have hle:len * j.size<=10000:=hle
 have hlen:len<=10000:=by
  have:=Nat.le_mul_of_pos_right len h1z
  omega
 obtain⟨info,q1,q2,-⟩:=ok.at h1
 rw [sliceE_some h3]at q2
 obtain⟨info',p1,p2,p3,-,-,p6⟩:=ok.at h5
 obtain⟨p7,p8,p9⟩:=p6 z h7
 have hz:LR m (cellsL z) (cellsL z):=(VR.of p8).cells
 obtain⟨r',e3,e4⟩:=fill_ok (a:=a) (place':=fun k=>some (k * j.size,j.size)) R (fun k q hq=>hq) (hz.rep len) h11
 have hzs:z.cells.size=j.size:=by rw [<-p9,cellsL_eq,Array.length_toList]
 rw [cellsL_eq]at e3
 refine mkd_cells (cs':=r'.toArray) (v':= .slice (some ⟨w.heap.size,0,none⟩) len len) ?_ (by simpa using e4) fun m f hf=> .slk hf (by unfold UNK;omega) (Nat.le_refl _)
 have hno: ¬(2^24<len * j.size):=by omega
 by_cases h0:len * j.size=0
 ·have e:=zerosA_nil len j.size z.cells.toList (by simpa using hzs) h0
  rw [<-e]at e3
  simp only [execOp,ho,Instr.buildSlice,Sem.run_bind,run_underlying q2,run_size p1,p3,Result.andThen_ok,hno,if_false,Sem.run_pure,Array.toList_map]
  simp [h0,newRow]
  simp [h0]at e3
  rw [e3]
  simp
 ·have e:=zerosA_eq z.cells len j.size hzs
  rw [<-e]at e3
  simp only [execOp,ho,Instr.buildSlice,Sem.run_bind,run_underlying q2,run_size p1,p3,Result.andThen_ok,hno,if_false,Sem.run_pure,Array.toList_map,h0,run_zero p1 p7,e3]
  simp [newRow]
theorem mk_make (ok:TabOK T) (R:TR m tm sz a.tmps) {t:TypeId} {l c:Operand} {p:AObj×Mk} (ho:o.op= .makeSlice t l c) (hp:a_make T tm t l c=some p):Mkd T.P o a w m p.1 p.2:=by
 unfold a_make at hp
 obtain⟨i,h1,h2⟩:=ob_some.1 hp
 obtain⟨e,h3,h4⟩:=ob_some.1 h2
 obtain⟨j,h5,h6⟩:=ob_some.1 h4
 obtain⟨z,h7,h8⟩:=ob_some.1 h6
 obtain⟨L,h9,h10⟩:=ob_some.1 h8
 obtain⟨C,h11,h12⟩:=ob_some.1 h10
 obtain⟨h13,h14⟩:=oif_some.1 h12
 injection h14 with h14
 subst h14
 obtain⟨u1,g1,g2⟩:=ob_some.1 h9
 obtain⟨u2,g3,g4⟩:=ob_some.1 h11
 obtain⟨k1,rfl⟩:=vNat_some g2
 obtain⟨k2,rfl⟩:=vNat_some g4
 have hl:a.eval l= .int k1 (L:Int):=(lev_ok R g1).int_of
 have hc:a.eval c= .int k2 (C:Int):=(lev_ok R g3).int_of
 simp only [Bool.and_eq_true]at h13
 have b1:=Nat.le_of_ble_eq_true h13.1
 have b2:=Nat.le_of_ble_eq_true h13.2.1
 have b3:=Nat.le_of_ble_eq_true h13.2.2
 obtain⟨info,q1,q2,-⟩:=ok.at h1
 rw [sliceE_some h3]at q2
 obtain⟨info',p1,p2,p3,p4,-,p6⟩:=ok.at h5
 obtain⟨p7,p8,p9⟩:=p6 z h7
 have hz:LR m (cellsL z) (cellsL z):=(VR.of p8).cells
 have hzs:z.cells.size=j.size:=by rw [<-p9,cellsL_eq,Array.length_toList]
 have hbig:((info'.bytes:Nat):Int) * (C:Int)<=281474976710656:=by
  have h9:info'.bytes * C<=100000000:=Nat.mul_le_mul (show info'.bytes<=10000 by rw [p4];exact b3) b2
  rw [<-Int.natCast_mul]
  omega
 have hcells: ∃cs':Array Value,LR m (rep (cellsL z) C) cs'.toList/\(execOp a.eval o).run T.P w= .ok (.value (.slice (some ⟨w.heap.size,0,none⟩) L C)) (w.alloc (.cells cs' e)):=by
  refine⟨(List.replicate C (cellsL z)).flatten.toArray,by simpa using hz.rep C,?_⟩
  have:=run_make w t e info' z q2 p1 p7 k1 k2 (L:Int) (C:Int) (by omega) (by omega) hbig (by omega)
  rw [cellsL_eq,<-zerosA_eq z.cells C j.size hzs]
  rw [p3]at this
  simp [execOp,ho,hl,hc,this,madeCells]
 obtain⟨cs',e1,e2⟩:=hcells
 exact mkd_cells e2 e1 fun m f hf=> .slk hf (by unfold UNK;omega) b1
theorem mk_map {t:TypeId} {r:Option Operand} {p:AObj×Mk} (ho:o.op= .makeMap t r) (hp:a_map r=some p):Mkd T.P o a w m p.1 p.2:=by
 cases r with
 |some x=>cases hp
 |none=>
  injection hp with hp
  subst hp
  refine⟨w.alloc (.map #[] 0),0,.map (some w.heap.size),by simp [execOp,ho,Instr.makeMap],alloc_below w _,alloc_lt w _,fun f hf=>⟨.map #[] (alloc_at w _) .nil,.mp (upd_same _ _ _)⟩⟩
theorem isStr_true {d:TypeDesc} (h:isStr d=true):d= .string:=by cases d<;>first|rfl|cases h
theorem mk_range (ok:TabOK T) (R:TR m tm sz a.tmps) {t:TypeId} {x:Operand} {p:AObj×Mk} (ho:o.op= .range t x) (hp:a_range T tm t x=some p):Mkd T.P o a w m p.1 p.2:=by
 unfold a_range at hp
 obtain⟨i,h1,h2⟩:=ob_some.1 hp
 obtain⟨S,h3,h4⟩:=ob_some.1 h2
 obtain⟨h5,h6⟩:=oif_some.1 h4
 injection h6 with h6
 subst h6
 obtain⟨u,g1,g2⟩:=ob_some.1 h3
 have:=vStr_some g2
 subst this
 obtain⟨info,q1,q2,-⟩:=ok.at h1
 rw [isStr_true h5]at q2
 have hx:=(lev_ok R g1).str_of
 exact⟨w.alloc (.stringIter S 0),0,.pointer (some ⟨w.heap.size,0,none⟩),by simp [execOp,ho,hx,Instr.range,run_underlying q2],alloc_below w _,alloc_lt w _,fun f hf=>⟨.siter (alloc_at w _) rfl,.ptr (upd_same _ _ _)⟩⟩
end
end Go.Ev

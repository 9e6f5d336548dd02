/- The reckoning machine: calls, all operations, orders. -/
import Derived.Test.YtlpipniclimgeaaGreatDEvD
namespace Go.Ev
open Go Go.RowKit
set_option linter.unusedVariables false
set_option linter.unusedSimpArgs false
section
variable {T : Tab} {base : Nat} {w0 w w' : World} {m m' : Mp} {h h' : H} {b k s n N sz : Nat} {tm : Tr Value} {a : Act} {o : Oper} {v v' : Value}
theorem tn_store (ok:TabOK T) (H:HR base w0 m h w) (hn:h.nx<=8 * TOP) (R:TR m tm sz a.tmps) {t:TypeId} {x y:Operand} {r:ANext×Ev.H} (ho:o.op= .store t x y) (hr:e_store T h tm t x y=some r):Tnd T.P base w0 o a w m h r.1 r.2:=by
 unfold e_store at hr
 obtain⟨i,h1,h2⟩:=ob_some.1 hr
 obtain⟨u,h3,h4⟩:=ob_some.1 h2
 obtain⟨z,h5,h6⟩:=ob_some.1 h4
 obtain⟨hh,h7,h8⟩:=ob_some.1 h6
 injection h8 with h8
 subst h8
 unfold astore at h7
 obtain⟨A,h9,h10⟩:=ob_some.1 h7
 obtain⟨h11,h12⟩:=oif_some.1 h10
 have:=vPtr_some h9
 subst this
 obtain⟨k,s,N,g1,g2,g3⟩:=(lev_ok R h3).ptr_of
 have hz:=(lev_ok R h5).cells
 rw [addr_eta g2]at h12
 obtain⟨w',e1,e2,e3⟩:=store_ok H hn g1 hz h12
 obtain⟨info,q1,q2,q3,-⟩:=ok.at h1
 rw [llen_eq,Nat.beq_eq,hz.len,cellsL_eq,Array.length_toList]at h11
 rw [cellsL_eq]at e1
 refine⟨w',m,.skip,?_,e2,e3,.skip⟩
 simp [execOp,ho,g3,Instr.storeAt,Instr.sureAddr,storeVar,run_size q1,q3,h11,e1]
theorem put_below (w:World) (r:Nat) (o:Obj):Below r w (w.putObj r o):=⟨rfl,rfl,rfl,by simp [World.putObj],fun k hk=>World.putObj_heap_other (by omega)⟩
theorem tn_map (ok:TabOK T) (H:HR base w0 m h w) (hn:h.nx<=8 * TOP) (R:TR m tm sz a.tmps) {t:TypeId} {mo ko xo:Operand} {r:ANext×Ev.H} (ho:o.op= .mapUpdate t mo ko xo\/o.op= .insert t mo ko xo) (hr:e_map T h tm t mo ko xo=some r):Tnd T.P base w0 o a w m h r.1 r.2:=by
 unfold e_map at hr
 obtain⟨i,h1,h2⟩:=ob_some.1 hr
 obtain⟨mv,h3,h4⟩:=ob_some.1 h2
 obtain⟨kv,h5,h6⟩:=ob_some.1 h4
 obtain⟨xv,h7,h8⟩:=ob_some.1 h6
 obtain⟨q,h9,h10⟩:=ob_some.1 h8
 obtain⟨b,h11,h12⟩:=ob_some.1 h10
 obtain⟨p,h13,h14⟩:=ob_some.1 h12
 obtain⟨_,h15,h16⟩:=ob_some.1 h14
 obtain⟨f,h17,h18⟩:=ob_some.1 h16
 clear hr h2 h4 h6 h8 h10 h12 h14 h16
 obtain⟨mr,g1,g2⟩:=ob_some.1 h11
 have:=vMap_some g1
 subst this g2
 obtain⟨info,q1,q2,-⟩:=ok.at h1
 rw [mapE_some h9]at q2
 obtain⟨k,s,n,e1,e2⟩:=(lev_ok R h3).map_of
 have hO:=H.obj _ _ _ _ e1
 have hoo:=oMap_some h13
 rw [hoo]at hO
 obtain⟨p1,p2⟩:=oif_some.1 h15
 have hk:=(lev_ok R h5).atom p1
 have hck:=hRun_ok p2 w
 have hd:hget h b≠ .dead:=by rw [hoo];exact fun e=>by cases e
 have hx:=lev_ok R h7
 cases hO with
 |map es' hb he=>
  have hkk:k<w.heap.size:=(H.dom _ _ _ _ e1).2.2
  obtain⟨f',f1,f2⟩:=find_ok w he h17
  have run: ∀s':Sem Unit,∀w1,(Instr.mapUpdate t (a.eval mo) (a.eval ko) (a.eval xo)).run T.P w= .ok () w1->(execOp a.eval o).run T.P w= .ok .skip w1:=fun s' w1 e=>by
   rcases ho with ho|ho<;>simp [execOp,ho,e]
  unfold e_map2 at h18
  cases f2 with
  |none=>
   injection h18 with h18
   subst h18
   rw [lapp_eq]
   have hh:hput h b (.map (p.1++[{key:=kv,val:=xv,born:=p.2}]) (p.2.succ))=hput h b (.map (p.1++[{key:=kv,val:=xv,born:=p.2}]) (p.2+1)):=rfl
   obtain⟨K1,K2⟩:=H.turn e1 hn hd (put_below w k _) (fun j hj=>World.putObj_heap_other hj) (o:= .map (p.1++[{key:=kv,val:=xv,born:=p.2}]) (p.2+1))
    (.map (es'.push {key:=kv,val:=a.eval xo,born:=p.2}) (World.putObj_heap_same hkk) (by rw [Array.toList_push];exact he.append (.cons ⟨rfl,p1,rfl,hx⟩ .nil)))
   refine⟨_,m,.skip,run (pure ()) _ ?_,K1,K2,.skip⟩
   rw [e2,hk]
   simp [Instr.mapUpdate,run_underlying q2,run_getMap w hb,hck,f1,setObj,Sem.run,hb,World.putObj]
  | @some ix v0 v0' hvv=>
   obtain⟨en,h19,h20⟩:=ob_some.1 (show(ob (lnth p.1 ix) fun e=>oif (Instr.sameBits 10000 e.key kv) (some (.skip,hput h b (.map (lset {key:=kv,val:=xv,born:=e.born} p.1 ix) p.2))))=some r from h18)
   obtain⟨h21,h22⟩:=oif_some.1 h20
   injection h22 with h22
   subst h22
   rw [lnth_eq]at h19
   rw [lset_eq]
   obtain⟨en',g3,g4⟩:=he.get h19
   have hmod:(es'.modify ix fun e=>{e with key:=kv,val:=a.eval xo}).toList=es'.toList.set ix {key:=kv,val:=a.eval xo,born:=en'.born}:=by
    apply List.ext_getElem?
    intro j
    rw [Array.getElem?_toList,Array.getElem?_modify,List.getElem?_set]
    rw [Array.getElem?_toList]at g3
    by_cases hj:ix=j
    ·subst hj
     have hlt:ix<es'.toList.length:=by
      rw [Array.length_toList]
      exact(Array.getElem?_eq_some_iff.1 g3).1
     simp only [if_true,g3,Option.map_some]
     rw [if_pos hlt]
    ·rw [if_neg hj,if_neg hj,Array.getElem?_toList]
   obtain⟨K1,K2⟩:=H.turn e1 hn hd (put_below w k _) (fun j hj=>World.putObj_heap_other hj) (o:= .map (p.1.set ix {key:=kv,val:=xv,born:=en.born}) p.2)
    (.map (es'.modify ix fun e=>{e with key:=kv,val:=a.eval xo}) (World.putObj_heap_same hkk) (by rw [hmod];exact he.set ⟨rfl,p1,g4.born,hx⟩))
   refine⟨_,m,.skip,run (pure ()) _ ?_,K1,K2,.skip⟩
   rw [e2,hk]
   have g3':es'[ix]? =some en':=by rwa [Array.getElem?_toList]at g3
   have hkt:(Instr.keyThatStays en'.key kv).run T.P w= .ok kv w:=by
    unfold Instr.keyThatStays
    rw [g4.key,h21]
    rfl
   simp [Instr.mapUpdate,run_underlying q2,run_getMap w hb,hck,f1,g3',hkt,setObj,Sem.run,hb,World.putObj]
theorem tn_next (H:HR base w0 m h w) (hn:h.nx<=8 * TOP) (R:TR m tm sz a.tmps) {x:Operand} {st:Bool} {r:ANext×Ev.H} (ho:o.op= .next x st) (hr:e_next h tm x st=some r):Tnd T.P base w0 o a w m h r.1 r.2:=by
 unfold e_next at hr
 obtain⟨A,h1,h2⟩:=ob_some.1 hr
 obtain⟨p,h3,h4⟩:=ob_some.1 h2
 obtain⟨h5,h6⟩:=oif_some.1 h4
 obtain⟨u,h7,h8⟩:=ob_some.1 h1
 have:=vPtr_some h8
 subst this
 simp only [Bool.and_eq_true,Nat.beq_eq]at h5
 obtain⟨rfl,hoff⟩:=h5
 obtain⟨k,s,n,g1,g2,g3⟩:=(lev_ok R h7).ptr_of
 have hO:=H.obj _ _ _ _ g1
 have hoo:=oIter_some h3
 rw [hoo]at hO
 have hd:hget h A.block≠ .dead:=by rw [hoo];exact fun e=>by cases e
 have hkk:k<w.heap.size:=(H.dom _ _ _ _ g1).2.2
 cases hO with
 |siter hb hs=>
  have hx:a.eval x= .pointer (some ⟨k,0,none⟩):=by rw [g3,hs,hoff]
  by_cases hp:p.2<p.1.size
  ·have hpb:Nat.ble (Nat.succ p.2) p.1.size=true:=by rw [Nat.ble_eq];exact hp
   rw [hpb]at h6
   injection h6 with h6
   subst h6
   obtain⟨K1,K2⟩:=H.turn g1 hn hd (put_below w k _) (fun j hj=>World.putObj_heap_other hj) (o:= .siter p.1 (p.2+(Utf8.decode p.1 p.2).2)) (.siter (World.putObj_heap_same hkk) hs)
   refine⟨_,m,.value (.tuple #[.bool true,goInt p.2,.int .i32 (Utf8.decode p.1 p.2).1]),?_,K1,K2,.val (.tup (.cons (.pure rfl) (.cons (.pure rfl) (.cons (.pure rfl) .nil))))⟩
   simp [execOp,ho,hx,Instr.next,getObj,setObj,Sem.run,hb,hp,World.putObj]
  ·have hpb:Nat.ble (Nat.succ p.2) p.1.size=false:=by rw [<-Bool.not_eq_true,Nat.ble_eq];exact hp
   rw [hpb]at h6
   injection h6 with h6
   subst h6
   refine⟨w,m,.value (.tuple #[.bool false]),?_,H,Ext.refl _ _ _,.val (.tup (.cons (.pure rfl) .nil))⟩
   simp [execOp,ho,hx,Instr.next,getObj,Sem.run,hb,hp]
theorem store_sl (H:HR base w0 m h w) (hn:h.nx<=8 * TOP) {A:Addr} {l c:Nat} {x':Value} (hx:VR m (.slice (some A) l c) x') {cs cs':List Value} (hc:LR m cs cs') (h0:l=0->cs=[]) (hst:storeN h A cs=some h'):
  ∃A' c' w',x'= .slice (some A') l c'/\(∀P,(storeCells A' cs').run P w= .ok () w')/\HR base w0 m h' w'/\Ext h.nx m h m h':=by
 obtain⟨A'',c',rfl,-,g2⟩:=hx.len_of
 obtain⟨k,s,n,B',e1,e2,rfl,e4,e5⟩:=g2 A rfl
 rw [addr_eta e2]at hst
 obtain⟨w',q1,q2,q3⟩:=store_ok H hn e1 hc hst
 refine⟨B',c',w',rfl,fun P=> ?_,q2,q3⟩
 by_cases hl:l=0
 ·have:=h0 hl
  subst this
  cases hc
  have:=q1 P
  simp only [storeCells,Sem.run_pure]at this⊢
  exact this
 ·obtain⟨k,s,n,c'',f1,f2,f3⟩:=hx.sl_of (by omega)
  rw [e1]at f1
  injection f1 with f1
  injection f1 with f1 f4
  injection f4 with f4 f5
  subst f1 f4 f5
  injection f3 with f3 _ f6
  injection f3 with f3
  rw [f3]
  exact q1 P
theorem e_copy_ok (ok:TabOK T) (H:HR base w0 m h w) (hn:h.nx<=8 * TOP) {ts:Array TypeId} {vs:List Value} {xs:Array Value} (hl:LR m vs xs.toList) {r:ANext×Ev.H} (hr:e_copy T h ts.toList vs=some r) (ty:TypeId):BltR T.P base w0 (Builtin.copy_ ts ty xs) w m h r:=by
 unfold e_copy at hr
 obtain⟨q,h1,h2⟩:=ob_some.1 hr
 obtain⟨p,h3,h4⟩:=ob_some.1 h2
 obtain⟨d,h5,h6⟩:=ob_some.1 h4
 obtain⟨n,h7,h8⟩:=ob_some.1 h6
 obtain⟨cs,h9,h10⟩:=ob_some.1 h8
 rw [l2_some]at h3
 subst h3
 obtain⟨s',x',rfl,hs,hx⟩:=arr2 hl
 obtain⟨t,info,q1,q2,q3,q4,q5,q6⟩:=elemT_some ok h1
 have q1':ts[0]? =some t:=by simpa using q1
 have hd:=vSl_some h5
 rw [hd]at hs
 obtain⟨cs',f1,f2,f3⟩:=srcN_ok H hx h7 (Nat.min_le_left n d.2.1) h9
 rw [<-q4]at f3
 have f3':=f3 T.P w rfl
 have f2':=f2 T.P
 obtain⟨A,l,c⟩:=d
 simp only at hs h10 f3'
 cases A with
 |none=>
  injection h10 with h10
  subst h10
  obtain⟨A'',c',rfl,g1,-⟩:=hs.len_of
  rw [(g1 rfl).1]
  refine⟨w,m,goInt (Nat.min n l),?_,H,Ext.refl _ _ _,.val (.pure rfl)⟩
  simp only [Builtin.copy_,q1',run_underlying q2,Sem.run_bind,Result.andThen_ok,f2',run_size q3,f3',Sem.run_pure]
  simp [run_underlying q2,f2',run_size q3,f3']
 |some A=>
  obtain⟨hh,g1,g2⟩:=ob_some.1 (show(ob (storeN h A cs) fun h'=>some (.val (intV (Nat.min n l)),h'))=some r from h10)
  injection g2 with g2
  subst g2
  have hz:l=0->cs=[]:=fun e=>by
   subst e
   have:Nat.min n 0=0:=Nat.min_zero n
   unfold srcN at h9
   rw [this]at h9
   cases hv:vSl p.2 with
   |none=>
    rw [hv]at h9
    obtain⟨S,-,e2⟩:=ob_some.1 (show(ob (vStr p.2) fun s=>ltake (lmap (fun u:UInt8=>Value.int .u8 (.ofNat u.toNat)) s.data.toList) 0)=some cs from h9)
    have:=(ltake_some e2).1
    simpa using this
   |some pp=>
    rw [hv]at h9
    obtain⟨B,l2,c2⟩:=pp
    cases B with
    |none=>
     obtain⟨-,e2⟩:=oif_some.1 (show oif (Nat.beq 0 0) (some [])=some cs from h9)
     injection e2 with e2
     exact e2.symm
    |some B=>
     have h9:loadN h B (0 * q.2.size)=some cs:=h9
     obtain⟨cc,-,e2⟩:=ob_some.1 h9
     have:=(ltake_some e2).1
     simpa using this
  obtain⟨A',c',w',rfl,e2,e3,e4⟩:=store_sl H hn hs f1 hz g1
  refine⟨w',m,goInt (Nat.min n l),?_,e3,e4,.val (.pure rfl)⟩
  have e2':=e2 T.P
  simp [Builtin.copy_,q1',run_underlying q2,f2',run_size q3,f3',e2']
theorem e_clear_ok (ok:TabOK T) (H:HR base w0 m h w) (hn:h.nx<=8 * TOP) {ts:Array TypeId} {vs:List Value} {xs:Array Value} (hl:LR m vs xs.toList) {r:ANext×Ev.H} (hr:e_clear T h ts.toList vs=some r) (ty:TypeId):BltR T.P base w0 (Builtin.clear_ ts ty xs) w m h r:=by
 unfold e_clear at hr
 obtain⟨q,h1,h2⟩:=ob_some.1 hr
 obtain⟨d,h3,h4⟩:=ob_some.1 h2
 obtain⟨z,h5,h6⟩:=ob_some.1 h4
 obtain⟨u,h7,h8⟩:=ob_some.1 h3
 rw [l1_some]at h7
 subst h7
 have:=vSl_some h8
 subst this
 obtain⟨u',rfl,hu⟩:=arr1 hl
 obtain⟨t,info,q1,q2,q3,q4,q5,q6⟩:=elemT_some ok h1
 have q1':ts[0]? =some t:=by simpa using q1
 obtain⟨z1,z2,z3⟩:=q6 z h5
 obtain⟨A,l,c⟩:=d
 simp only at hu h6
 cases A with
 |none=>
  injection h6 with h6
  subst h6
  obtain⟨A'',c',rfl,g1,-⟩:=hu.len_of
  rw [(g1 rfl).1]
  exact⟨w,m,.tuple #[],by simp [Builtin.clear_,q1',run_underlying q2],H,Ext.refl _ _ _,.val VR.undef⟩
 |some A=>
  cases l with
  |zero=>
   injection h6 with h6
   subst h6
   obtain⟨A'',c',rfl,-,g2⟩:=hu.len_of
   obtain⟨k,s,n,B',-,-,rfl,-,-⟩:=g2 A rfl
   exact⟨w,m,.tuple #[],by simp [Builtin.clear_,q1',run_underlying q2],H,Ext.refl _ _ _,.val VR.undef⟩
  |succ l=>
   obtain⟨hh,g1,g2⟩:=ob_some.1 (show(ob (storeN h A (rep (cellsL z) (l+1))) fun h'=>some (.val undefV,h'))=some r from h6)
   injection g2 with g2
   subst g2
   obtain⟨A',c',w',rfl,e2,e3,e4⟩:=store_sl H hn hu (((VR.of z2).cells (m:=m)).rep (l+1)) (fun e=>by cases e) g1
   have e2':=e2 T.P
   have hzc:=zeroCells_eq z.cells (l+1)
   rw [cellsL_eq]at e2'
   refine⟨w',m,.tuple #[],?_,e3,e4,.val VR.undef⟩
   simp [Builtin.clear_,q1',run_underlying q2,run_zero q3 z1,hzc,e2']
end
open Go Go.RowKit
set_option linter.unusedVariables false
set_option linter.unusedSimpArgs false
theorem run_loadInts {P:Program} {w:World}: ∀(ns:List Int) (a:Addr) (acc:ByteArray),(∀j x,ns[j]? =some x->w.cell? (a.add j)=some (.int .u8 x))->(loadBytes a acc ns.length).run P w= .ok (ns.foldl pushB acc) w
 |[],a,acc,_=>rfl
 |x::l,a,acc,h=>by
  have h0:w.cell? a=some (.int .u8 x):=by
   have:=h 0 x rfl
   simpa [Addr.add]using this
  have ih:=run_loadInts (P:=P) l (a.add 1) (acc.push x.toNat.toUInt8) fun j y hj=>by
   have:=h (j+1) y (by simpa using hj)
   rw [show(a.add 1).add j=a.add (j+1)from by unfold Addr.add;split<;>simp_all<;>omega]
   exact this
  simp only [List.length_cons,loadBytes,Go.load,Sem.run_bind,Sem.run,h0,Result.andThen_ok,List.foldl_cons]
  exact ih
theorem TR.set {m:Mp} {tm:Tr Value} {sz:Nat} {ts:Array Value} (R:TR m tm sz ts) {t:Nat} (ht:t<sz) {v v':Value} (hv:VR m v v'):TR m (Tr.set v DEP tm t) sz (ts.setIfInBounds t v'):=by
 obtain⟨r1,r2,r3⟩:=R
 refine⟨by simpa using r1,r2,fun t'=> ?_⟩
 rw [Tr.get_put _ _ _ (by omega)]
 by_cases e:t'=t
 ·subst e
  rw [if_pos rfl]
  have:(ts.setIfInBounds t' v').getD t' undef=v':=by simp [Array.getD_eq_getD_getElem?,r1,ht]
  rw [this]
  exact hv
 ·rw [if_neg e]
  have:(ts.setIfInBounds t v').getD t' undef=ts.getD t' undef:=by simp [Array.getD_eq_getD_getElem?,Array.getElem?_setIfInBounds_ne (Ne.symm e)]
  rw [this]
  exact r3 t'
section
variable {T : Tab} {base : Nat} {w0 w w' : World} {m m' : Mp} {h h' : H} {b k s n N sz : Nat} {tm : Tr Value} {a : Act} {o : Oper} {v v' : Value}
theorem liesAt_same {P:Program} {e:TypeId} (hc:P.cellsOf e=1) (count off n:Nat) (hn:off+n<=count):liesAt P P.depth e count off e n=true:=by
 have hd:P.depth=(2 * (P.types.size+Made.depth)+1)+1:=rfl
 rw [hd]
 simp only [liesAt,Bool.or_eq_true]
 left
 rw [hd]
 simp [rowAt,hc,hn,sameLayout,Nat.mod_one]
theorem vPtr0_some {A:Option Addr} (h:vPtr0 v=some A):v= .pointer A:=by
 cases v with
 |pointer x=>injection h with h;subst h;rfl
 |_=>cases h
theorem e_string_ok (ok:TabOK T) (H:HR base w0 m h w) (hn:h.nx<=8 * TOP) {ts:Array TypeId} {vs:List Value} {xs:Array Value} (hl:LR m vs xs.toList) {r:ANext×Ev.H} (hr:e_string T h ts.toList vs=some r) (ty:TypeId):BltR T.P base w0 (Builtin.unsafeString_ ts ty xs) w m h r:=by
 unfold e_string at hr
 obtain⟨p,h1,h2⟩:=ob_some.1 hr
 obtain⟨A,h3,h4⟩:=ob_some.1 h2
 obtain⟨n,h5,h6⟩:=ob_some.1 h4
 obtain⟨pt,h7,h8⟩:=ob_some.1 h6
 rw [l2_some]at h1
 subst h1
 obtain⟨p',x',rfl,hp,hx⟩:=arr2 hl
 rw [lnth_eq]at h7
 have h7':ts[0]? =some pt:=by simpa using h7
 obtain⟨kd,hpx⟩:=vNat_some h5
 rw [hpx]at hx
 have hx':x'= .int kd (n:Int):=hx.int_of
 have hA:=vPtr0_some h3
 rw [hA]at hp
 have hmax:IntKind.i64.max=9223372036854775807:=rfl
 cases n with
 |zero=>
  injection h8 with h8
  subst h8
  refine⟨w,m,.string .empty,?_,H,Ext.refl _ _ _,.val (.pure rfl)⟩
  have: ∃A',p'= .pointer A':=by
   cases hp with
   |pure _=>exact⟨_,rfl⟩
   |ptr _=>exact⟨_,rfl⟩
  obtain⟨A',rfl⟩:=this
  rw [hx']
  unfold Builtin.unsafeString_
  show Sem.run T.P (asInt (.int kd ((0:Nat):Int))>>=_) w=_
  cases A'<;>simp [asInt,asIntOf,h7',hmax]
 |succ n=>
  obtain⟨B,g1,g2⟩:=ob_some.1 (show(ob A fun a=>ob (ti T pt) fun i=>ob (ptrE i.und) fun pe=>ob (oCells (hget h a.block)) fun c=>e_str2 T h a (n+1) pe c)=some r from h8)
  subst g1
  obtain⟨i,g3,g4⟩:=ob_some.1 g2
  obtain⟨pe,g5,g6⟩:=ob_some.1 g4
  obtain⟨c,g7,g8⟩:=ob_some.1 g6
  unfold e_str2 at g8
  obtain⟨e1,e2⟩:=oif_some.1 g8
  obtain⟨l,e3,e4⟩:=ob_some.1 e2
  obtain⟨S,e5,e6⟩:=ob_some.1 e4
  injection e6 with e6
  subst e6
  simp only [Bool.and_eq_true,Nat.beq_eq]at e1
  obtain⟨hn1,hcx,hce,hc1⟩:=e1
  have hn1:n+1<=100000:=Nat.le_of_ble_eq_true hn1
  obtain⟨k,s,N,f1,f2,f3⟩:=hp.ptr_of
  obtain⟨cur,fz,C⟩:=H.cells_of f1 g7
  obtain⟨lo,hi⟩:=fz
  obtain⟨ns,rfl,rfl⟩:=bytesL_some e5
  have hload:loadN h ⟨B.block,B.off,none⟩ (n+1)=some (ns.map (Value.int .u8)):=by
   unfold loadN
   rw [g7]
   exact e3
  obtain⟨l',l1,l2,l3⟩:=load_ok H f1 hload
  have:=l1.atoms (ints_pure ns)
  subst this
  have hnl:ns.length=n+1:=by simpa using l2
  obtain⟨info,q1,q2,-⟩:=ok.at g3
  rw [ptrE_some g5]at q2
  rw [ldrop_eq]at e3
  have hle:=(ltake_some e3).2
  rw [List.length_drop]at hle
  have hcl:=C.hl
  have hlies:=liesAt_same (P:=T.P) hc1 ((s+N)/T.P.cellsOf c.e) (s+B.off) (n+1) (by rw [hc1,Nat.div_one];omega)
  have hlb:=run_loadInts (P:=T.P) (w:=w) ns ⟨k,s+B.off,none⟩ .empty fun j x hj=>by
   rw [addr_add]
   exact l3 j _ (by rw [List.getElem?_map,hj];rfl)
  rw [hnl]at hlb
  have hd:hget h B.block≠ .dead:=by rw [oCells_some g7];exact fun e=>by cases e
  have hfr:=freeze_at w k (s+B.off) (n+1) (Nat.succ_ne_zero n) C.hb
  obtain⟨K1,K2⟩:=H.turn f1 hn hd (freeze_below w k (s+B.off) (n+1)) (fun j hj=>freeze_other _ _ _ _ _ hj) (o:= .cells c.cs c.e c.g true (froz c.lo c.hi B.off (n+1)).1 (froz c.lo c.hi B.off (n+1)).2)
   (.cells cur _ hfr C.hs C.hl C.hg C.hv (.inl ⟨rfl,by
    unfold froz
    rcases C.hf with⟨-,⟨b1,b2⟩|⟨b1,b2⟩⟩|⟨b1,-⟩
    ·simp only at b2
     rw [b1,Nat.beq_refl,b2]
     refine .inr ⟨?_,?_⟩
     ·show B.off<B.off+(n+1);omega
     ·simp [Nat.add_assoc]
    ·have hb:Nat.beq c.lo c.hi=false:=by rw [<-Bool.not_eq_true,Nat.beq_eq];omega
     rw [hb]
     injection b2 with b2 b3
     refine .inr ⟨?_,?_⟩
     ·show Nat.min c.lo B.off<Nat.max c.hi (B.off+(n+1))
      have:=Nat.min_le_right c.lo B.off
      have:=Nat.le_max_right c.hi (B.off+(n+1))
      have e:Nat.min c.lo B.off=min c.lo B.off:=rfl
      have e':Nat.max c.hi (B.off+(n+1))=max c.hi (B.off+(n+1)):=rfl
      omega
     ·subst b2 b3
      have hne:(s+c.lo==s+c.hi)=false:=by simp;omega
      rw [hne]
      show(min (s+c.lo) (s+B.off),max (s+c.hi) (s+B.off+(n+1)))=(s+min c.lo B.off,s+max c.hi (B.off+(n+1)))
      congr 1<;>omega
    ·rw [hcx]at b1
     cases b1⟩))
  refine⟨_,m,.string (ns.foldl pushB .empty),?_,K1,K2,.val (.pure rfl)⟩
  rw [hx',f3]
  have b1: ¬((9223372036854775807:Int)<((n+1:Nat):Int)):=by omega
  have b2: ¬(((n+1:Nat):Int)<0):=by omega
  have b3: ¬(((n+1:Nat):Int)=0):=by omega
  have b4:(((n+1:Nat):Int)).toNat=n+1:=by omega
  unfold Builtin.unsafeString_
  show Sem.run T.P (asInt (.int kd ((n+1:Nat):Int))>>=_) w=_
  simp only [Sem.run_bind,asInt,asIntOf,Sem.run_pure,Result.andThen_ok,h7',hmax,b1,b2,b3,b4,if_false,gt_iff_lt,elemOf,run_underlying q2,variablesAt,run_program,run_shape,C.shape,<-hce,hlies,if_true,hlb,run_freeze]
end
open Go Go.RowKit
set_option linter.unusedVariables false
set_option linter.unusedSimpArgs false
section
variable {T : Tab} {base : Nat} {w0 w w' : World} {m m' : Mp} {h h' : H} {b k s n N sz : Nat} {tm : Tr Value} {a : Act} {o : Oper} {v v' : Value}
theorem callF_ok (ok:TabOK T) {f:FuncId} {xs:List Value} {xs':Array Value} (hx:LR m xs xs'.toList) {r:ANext×Ev.H} (hr:callF T f xs h=some r) (w:World): ∃n',(callFunc f xs').run T.P w= .ok n' w/\r.2=h/\NR m r.1 n':=by
 unfold callF at hr
 obtain⟨fn,h1,h2⟩:=ob_some.1 hr
 obtain⟨q1,q2⟩:=ok.fn f fn h1
 cases hb:fn.body with
 |some body=>
  rw [hb]at h2
  injection h2 with h2
  subst h2
  have q3:fn.name≠ "runtime.NumGoroutine" :=fun e=>by rw [e]at q2;exact absurd q2 (by decide)
  exact⟨.enter f xs',by simp [callFunc,q1,q3,hb],rfl,.enter hx⟩
 |none=>
  rw [hb]at h2
  have h2:callX T f xs h=some r:=h2
  unfold callX at h2
  by_cases he:f=T.esc
  ·have heb:Nat.beq f T.esc=true:=by rw [Nat.beq_eq];exact he
   rw [heb]at h2
   obtain⟨v,h3,h4⟩:=ob_some.1 (show(ob (l1 xs) fun v=>some (.val v,h))=some r from h2)
   injection h4 with h4
   subst h4
   rw [l1_some]at h3
   subst h3
   obtain⟨v',rfl,hv⟩:=arr1 hx
   rw [he]
   exact⟨_,ok.esc v' w,rfl,.val hv⟩
  ·have heb:Nat.beq f T.esc=false:=by rw [<-Bool.not_eq_true,Nat.beq_eq];exact he
   rw [heb]at h2
   obtain⟨e,h3,h4⟩:=ob_some.1 (show(ob (extN T.ext f) fun e=>oif (lall pureV xs) (ob (pureO (hRun T.P (e xs.toArray))) fun v=>some (.val v,h)))=some r from h2)
   obtain⟨h5,h6⟩:=oif_some.1 h4
   obtain⟨v,h7,h8⟩:=ob_some.1 h6
   injection h8 with h8
   subst h8
   obtain⟨u,h9,h10⟩:=ob_some.1 (show(ob (hRun T.P (e xs.toArray)) fun v=>oif (pureV v) (some v))=some v from h7)
   obtain⟨h11,h12⟩:=oif_some.1 h10
   injection h12 with h12
   subst h12
   have hxs:=hx.atomsV (lall_iff.1 h5)
   have hrun:=hRun_ok h9 w
   rw [<-hxs,Array.toArray_toList]at hrun
   exact⟨.value u,by rw [ok.ext f e h3];simp [hrun],rfl,.val (VR.of h11)⟩
theorem tputs_ok: ∀{ps:List Tmp} {xs xs':List Value} {tm tm':Tr Value} {ts:Array Value},TR m tm sz ts->LR m xs xs'->tputs ps sz xs tm=some tm'->ps.length=xs'.length/\TR m tm' sz ((ps.zip xs').foldl (fun ts (x:Tmp×Value)=>ts.setIfInBounds x.1 x.2) ts)
 |[],[],_,tm,tm',ts,R,.nil,h=>by
  injection h with h
  subst h
  exact⟨rfl,R⟩
 |[],_::_,_,tm,tm',ts,R,_,h=>by cases h
 |_::_,[],_,tm,tm',ts,R,_,h=>by cases h
 |p::ps,x::xs,_,tm,tm',ts,R,.cons (v':=x') (l':=xs') hx ht,h=>by
  obtain⟨h1,h2⟩:=oif_some.1 (show oif (Nat.ble (Nat.succ p) sz) (tputs ps sz xs (Tr.set x DEP tm p))=some tm' from h)
  obtain⟨h3,h4⟩:=tputs_ok (R.set (Nat.le_of_ble_eq_true h1) hx) ht h2
  exact⟨by simp [h3],h4⟩
theorem yield_ok (H:HR base w0 m h w) {l:Nat} (hl:m l=some (k,s,n)) {xs:List Value} {xs':Array Value} (hx:LR m xs xs'.toList) {r:ANext×Ev.H} (hr:yieldF h l xs=some r) (P:Program): ∃n',(Instr.yield k xs').run P w= .ok n' w/\r.2=h/\NR m r.1 n':=by
 unfold yieldF at hr
 obtain⟨q,h1,h2⟩:=ob_some.1 hr
 obtain⟨tm',h3,h4⟩:=ob_some.1 h2
 injection h4 with h4
 subst h4
 have hO:=H.obj _ _ _ _ hl
 rw [oLoop_some h1]at hO
 cases hO with
 |loop ts ps d' s' n' hb ht hp hd=>
  rw [<-hp]at h3
  obtain⟨e1,e2⟩:=tputs_ok ht hx h3
  have hsz:xs'.size=ps.size:=by simpa using e1.symm
  refine⟨.round k q.fn ((ps.zip xs').foldl (fun ts (x:Tmp×Value)=>ts.setIfInBounds x.1 x.2) ts) q.assign q.body,?_,rfl,.round hl ?_⟩
  ·simp [Instr.yield,Instr.getLoop,run_getObj_loop hb,hsz]
  ·rw [<-Array.foldl_toList,Array.toList_zip]
   exact e2
theorem VR.fn_of {g:FuncId} {p q:Array Value} (h:VR m (.func (.func g) p q) v'): ∃p' q',v'= .func (.func g) p' q'/\LR m p.toList p'.toList/\LR m q.toList q'.toList:=by
 cases h with
 |pure h=>exact Bool.noConfusion h
 |fn h1 h2=>exact⟨_,_,rfl,h1,h2⟩
theorem VR.yl_of {l:Nat} {p q:Array Value} (h:VR m (.func (.yield l) p q) v'): ∃k s n,m l=some (k,s,n)/\v'= .func (.yield k) #[] #[]:=by
 cases h with
 |pure h=>exact Bool.noConfusion h
 |yl h=>exact⟨_,_,_,h,rfl⟩
theorem callV_ok (ok:TabOK T) (H:HR base w0 m h w) {u u':Value} (hu:VR m u u') {xs:List Value} {xs':Array Value} (hx:LR m xs xs'.toList) {r:ANext×Ev.H} (hr:callV T h xs u=some r): ∃n',((Deferred.ofValue u' xs':Sem Deferred)>>=fun d=>invoke d.target d.args).run T.P w= .ok n' w/\r.2=h/\NR m r.1 n':=by
 unfold callV at hr
 obtain⟨p,h1,h2⟩:=ob_some.1 hr
 have:=vFn_some h1
 subst this
 obtain⟨f,p1,p2⟩:=p
 cases f with
 |func g=>
  obtain⟨q1,q2,rfl,e1,e2⟩:=hu.fn_of
  obtain⟨n',f1,f2,f3⟩:=callF_ok ok (xs':=q1++xs'++q2) (by
   rw [lapp_eq,lapp_eq,Array.toList_append,Array.toList_append,List.append_assoc]
   exact LR.append (by simpa using e1) (hx.append (by simpa using e2))) h2 w
  refine⟨n',?_,f2,f3⟩
  rw [Array.append_assoc]at f1
  simp [Deferred.ofValue,invoke,f1]
 |yield l=>
  obtain⟨k,s,n,e1,rfl⟩:=hu.yl_of
  obtain⟨n',f1,f2,f3⟩:=yield_ok H e1 hx (show yieldF h l xs=some r from h2) T.P
  refine⟨n',?_,f2,f3⟩
  simp [Deferred.ofValue,invoke,f1]
 |_=>cases h2
theorem tn_defer (H:HR base w0 m h w) (R:TR m tm sz a.tmps) {c:Call} {r:ANext×Ev.H} (ho:o.op= .defer c) (hr:e_defer h tm c.args.toList c.callee=some r):Tnd T.P base w0 o a w m h r.1 r.2:=by
 unfold e_defer at hr
 obtain⟨vs,h1,h2⟩:=ob_some.1 hr
 have hvs:=args_arr R h1
 cases hc:c.callee with
 |builtin b=>rw [hc]at h2;cases h2
 |invoke r n=>rw [hc]at h2;cases h2
 |value f=>
  rw [hc]at h2
  obtain⟨p,h3,h4⟩:=ob_some.1 (show(ob (ob (lev tm f) vFn) fun p=>Fn.rec (fun g=>some (.defer {target:= .fn (.func g) p.2.2.toArray,args:=(lapp p.2.1 vs).toArray},h)) (fun _=>none) (fun _ _=>none) (fun _ _ _ _=>none) (fun _=>none) p.1)=some r from h2)
  obtain⟨u,h5,h6⟩:=ob_some.1 h3
  have hu:=lev_ok R h5
  have:=vFn_some h6
  subst this
  obtain⟨fn,p1,p2⟩:=p
  cases fn with
  |func g=>
   injection h4 with h4
   subst h4
   obtain⟨q1,q2,e0,e1,e2⟩:=hu.fn_of
   refine⟨w,m,.defer {target:= .fn (.func g) q2,args:=q1++c.args.map a.eval},?_,H,Ext.refl _ _ _,.defer ⟨.inr ⟨g,_,_,rfl,rfl,by simpa using e2⟩,?_⟩⟩
   ·simp [execOp,ho,resolve,hc,e0,Deferred.ofValue]
   ·simp only [lapp_eq]
    rw [Array.toList_append]
    exact LR.append (by simpa using e1) hvs
  |_=>cases h4
theorem call_ok (ok:TabOK T) (H:HR base w0 m h w) (hn:h.nx<=8 * TOP) (R:TR m tm sz a.tmps) {c:Call} {r:ORes} (ho:o.op= .call c) (hr:c_call T h tm c.argTypes.toList c.args.toList o c.callee=some r):AR T.P base w0 o a w m h r:=by
 unfold c_call at hr
 obtain⟨vs,h1,h2⟩:=ob_some.1 hr
 have hvs:=args_arr R h1
 have hs: ∀cs b,o.op≠ .select cs b:=fun cs b e=>by rw [ho]at e;cases e
 cases hc:c.callee with
 |invoke r n=>rw [hc]at h2;cases h2
 |value f=>
  rw [hc]at h2
  obtain⟨q,h3,rfl⟩:=tn_some (show tn (ob (lev tm f) fun v=>callV T h vs v)=some r from h2)
  obtain⟨u,h4,h5⟩:=ob_some.1 h3
  obtain⟨n',e1,e2,e3⟩:=callV_ok ok H (lev_ok R h4) hvs h5
  refine .tn ⟨w,m,n',?_,by rw [e2];exact H,by rw [e2];exact Ext.refl _ _ _,e3⟩
  simp only [execOp,ho,resolve,hc]
  exact e1
 |builtin bb=>
  rw [hc]at h2
  have h2:bltD bb T h c.argTypes.toList vs tm o=some r:=h2
  obtain⟨cs,hrun⟩:=run_builtin (P:=T.P) ho hc
  have hrun:=hrun a.eval w
  have tnR: ∀{s:Sem Value} {q:ANext×Ev.H},(builtin bb c.argTypes o.type cs (c.args.map a.eval))=(do pure (.value (←s)))->BltR T.P base w0 s w m h q->AR T.P base w0 o a w m h (.tn q.1 q.2):=fun hb ⟨w',m',v',f1,f2,f3,f4⟩=>
   .tn ⟨w',m',.value v',by rw [hrun,hb];simp [f1],f2,f3,f4⟩
  have rdR: ∀{s:Sem Value} {v:Value},(builtin bb c.argTypes o.type cs (c.args.map a.eval))=(do pure (.value (←s)))->(∃v',s.run T.P w= .ok v' w/\VR m v v')->AR T.P base w0 o a w m h (.rd v):=fun hb ⟨v',f1,f2⟩=>
   .rd ⟨v',by rw [hrun,hb];simp [f1],f2⟩
  cases bb with
  |append=>
   obtain⟨q,e1,rfl⟩:=tn_some (show tn (e_append T h c.argTypes.toList vs)=some r from h2)
   exact tnR rfl (e_append_ok ok H hn hvs e1 o.type)
  |copy=>
   obtain⟨q,e1,rfl⟩:=tn_some (show tn (e_copy T h c.argTypes.toList vs)=some r from h2)
   exact tnR rfl (e_copy_ok ok H hn hvs e1 o.type)
  |clear=>
   obtain⟨q,e1,rfl⟩:=tn_some (show tn (e_clear T h c.argTypes.toList vs)=some r from h2)
   exact tnR rfl (e_clear_ok ok H hn hvs e1 o.type)
  |unsafeString=>
   obtain⟨q,e1,rfl⟩:=tn_some (show tn (e_string T h c.argTypes.toList vs)=some r from h2)
   exact tnR rfl (e_string_ok ok H hn hvs e1 o.type)
  |recover=>
   injection h2 with h2
   subst h2
   exact .tn ⟨w,m,.recover,by rw [hrun];rfl,H,Ext.refl _ _ _,.recov⟩
  |len=>
   obtain⟨v,e1,rfl⟩:=rd_some (show rd (r_len T h c.argTypes.toList vs)=some r from h2)
   exact rdR rfl (run_len ok H hvs e1 o.type)
  |cap=>
   obtain⟨v,e1,rfl⟩:=rd_some (show rd (r_cap T c.argTypes.toList vs)=some r from h2)
   exact rdR rfl (run_cap ok hvs e1 o.type)
  |unsafeSliceData=>
   obtain⟨v,e1,rfl⟩:=rd_some (show rd (r_data vs)=some r from h2)
   exact rdR rfl (run_data hvs e1)
  |min=>
   obtain⟨v,e1,rfl⟩:=rd_some (show rd (plain T tm o)=some r from h2)
   exact .rd (plain_ok R hs e1)
  |max=>
   obtain⟨v,e1,rfl⟩:=rd_some (show rd (plain T tm o)=some r from h2)
   exact .rd (plain_ok R hs e1)
  |_=>cases h2
theorem aop_ok (ok:TabOK T) (fok:FldOK T) (H:HR base w0 m h w) (hn:h.nx<=8 * TOP) (R:TR m tm sz a.tmps) {r:ORes} (hr:aop T h tm o=some r):AR T.P base w0 o a w m h r:=by
 unfold aop at hr
 have hs': ∀op,o.op=op->(∀cs b,op≠ .select cs b)-> ∀cs b,o.op≠ .select cs b:=fun op e h cs b=>by rw [e];exact h cs b
 cases hop:o.op with
 |move x=>rw [hop]at hr;obtain⟨v,e1,rfl⟩:=rd_some (show rd (lev tm x)=some r from hr);exact .rd (yld_move R (.inl hop) e1)
 |assign x=>rw [hop]at hr;obtain⟨v,e1,rfl⟩:=rd_some (show rd (lev tm x)=some r from hr);exact .rd (yld_move R (.inr hop) e1)
 |pick c x y=>rw [hop]at hr;obtain⟨v,e1,rfl⟩:=rd_some (show rd (r_pick tm c x y)=some r from hr);exact .rd (yld_pick R hop e1)
 |build t p=>rw [hop]at hr;obtain⟨v,e1,rfl⟩:=rd_some (show rd (r_build T tm t p.toList)=some r from hr);exact .rd (yld_build ok fok R hop e1)
 |load t x=>rw [hop]at hr;obtain⟨v,e1,rfl⟩:=rd_some (show rd (r_load T h tm t x)=some r from hr);exact .rd (yld_load ok H R hop e1)
 |nilCheck x=>rw [hop]at hr;obtain⟨v,e1,rfl⟩:=rd_some (show rd (r_nil tm x)=some r from hr);exact .rd (yld_nil R hop e1)
 |binOp op t x y t'=>rw [hop]at hr;obtain⟨v,e1,rfl⟩:=rd_some (show rd (r_bin T tm op t x y o)=some r from hr);exact .rd (yld_bin ok R hop e1)
 |unOp op t x=>rw [hop]at hr;obtain⟨v,e1,rfl⟩:=rd_some (show rd (r_un T tm op x o)=some r from hr);exact .rd (yld_un R hop e1)
 |convert s d x=>rw [hop]at hr;exact conv_ok ok H hn R hop hr
 |makeFunc f p q=>rw [hop]at hr;obtain⟨v,e1,rfl⟩:=rd_some (show rd (r_func tm f p.toList q.toList)=some r from hr);exact .rd (yld_func R hop e1)
 |slice t x lo hi mx=>rw [hop]at hr;obtain⟨v,e1,rfl⟩:=rd_some (show rd (r_slice T tm t x lo hi mx o)=some r from hr);exact .rd (yld_slice ok R hop e1)
 |fieldAddr t x f=>rw [hop]at hr;obtain⟨v,e1,rfl⟩:=rd_some (show rd (r_faddr T tm t x f)=some r from hr);exact .rd (yld_faddr ok R hop e1)
 |field t x f=>rw [hop]at hr;obtain⟨v,e1,rfl⟩:=rd_some (show rd (r_field T tm t x f)=some r from hr);exact .rd (yld_field ok R hop e1)
 |indexAddr t x i=>rw [hop]at hr;obtain⟨v,e1,rfl⟩:=rd_some (show rd (r_iaddr T tm t x i)=some r from hr);exact .rd (yld_iaddr ok R hop e1)
 |lookup t x i k=>rw [hop]at hr;obtain⟨v,e1,rfl⟩:=rd_some (show rd (r_lookup T h tm t x i k)=some r from hr);exact .rd (yld_lookup ok H R hop e1)
 |extract x k=>rw [hop]at hr;obtain⟨v,e1,rfl⟩:=rd_some (show rd (r_extract tm x k)=some r from hr);exact .rd (yld_extract R hop e1)
 |index t x i=>rw [hop]at hr;obtain⟨v,e1,rfl⟩:=rd_some (show rd (plain T tm o)=some r from hr);exact .rd (plain_ok R (hs' _ hop fun _ _ e=>by cases e) e1)
 |makeInterface t x=>rw [hop]at hr;obtain⟨v,e1,rfl⟩:=rd_some (show rd (plain T tm o)=some r from hr);exact .rd (plain_ok R (hs' _ hop fun _ _ e=>by cases e) e1)
 |typeAssert x t t' c=>rw [hop]at hr;obtain⟨v,e1,rfl⟩:=rd_some (show rd (plain T tm o)=some r from hr);exact .rd (plain_ok R (hs' _ hop fun _ _ e=>by cases e) e1)
 |alloc e=>rw [hop]at hr;obtain⟨q,e1,rfl⟩:=mk_some (show mk (a_alloc T e)=some r from hr);exact .mk (mk_alloc ok hop e1)
 |box e x=>rw [hop]at hr;obtain⟨q,e1,rfl⟩:=mk_some (show mk (a_box tm e x)=some r from hr);exact .mk (mk_box R hop e1)
 |buildSlice t n p=>rw [hop]at hr;obtain⟨q,e1,rfl⟩:=mk_some (show mk (a_row T tm t n p.toList)=some r from hr);exact .mk (mk_row ok R hop e1)
 |makeSlice t l c=>rw [hop]at hr;obtain⟨q,e1,rfl⟩:=mk_some (show mk (a_make T tm t l c)=some r from hr);exact .mk (mk_make ok R hop e1)
 |makeMap t x=>rw [hop]at hr;obtain⟨q,e1,rfl⟩:=mk_some (show mk (a_map x)=some r from hr);exact .mk (mk_map hop e1)
 |range t x=>rw [hop]at hr;obtain⟨q,e1,rfl⟩:=mk_some (show mk (a_range T tm t x)=some r from hr);exact .mk (mk_range ok R hop e1)
 |store t x y=>rw [hop]at hr;obtain⟨q,e1,rfl⟩:=tn_some (show tn (e_store T h tm t x y)=some r from hr);exact .tn (tn_store ok H hn R hop e1)
 |mapUpdate t x k y=>rw [hop]at hr;obtain⟨q,e1,rfl⟩:=tn_some (show tn (e_map T h tm t x k y)=some r from hr);exact .tn (tn_map ok H hn R (.inl hop) e1)
 |insert t x k y=>rw [hop]at hr;obtain⟨q,e1,rfl⟩:=tn_some (show tn (e_map T h tm t x k y)=some r from hr);exact .tn (tn_map ok H hn R (.inr hop) e1)
 |next x st=>rw [hop]at hr;obtain⟨q,e1,rfl⟩:=tn_some (show tn (e_next h tm x st)=some r from hr);exact .tn (tn_next H hn R hop e1)
 |call c=>rw [hop]at hr;exact call_ok ok H hn R hop hr
 |defer c=>rw [hop]at hr;obtain⟨q,e1,rfl⟩:=tn_some (show tn (e_defer h tm c.args.toList c.callee)=some r from hr);exact .tn (tn_defer H R hop e1)
 |_=>rw [hop]at hr;cases hr
end
open Go Go.RowKit
set_option linter.unusedVariables false
set_option linter.unusedSimpArgs false
theorem tmpsOf_mem {t:Tmp}: ∀{l:List Operand},Operand.tmp t∈l->t∈tmpsOf l
 |[],h=>by cases h
 |x::l,h=>by
  have ih:=tmpsOf_mem (t:=t) (l:=l)
  rcases List.mem_cons.1 h with e|e
  ·subst e
   exact List.mem_cons_self
  ·cases x with
   |tmp u=>exact List.mem_cons_of_mem _ (ih e)
   |const _=>exact ih e
   |global _=>exact ih e
   |func _=>exact ih e
theorem lmapO_congr {α β:Type} {f g:α->Option β}: ∀{l:List α},(∀x∈l,f x=g x)->lmapO f l=lmapO g l
 |[],_=>rfl
 |x::l,h=>by
  have e: ∀f:α->Option β,lmapO f (x::l)=ob (f x) fun y=>ob (lmapO f l) fun r=>some (y::r):=fun _=>rfl
  rw [e,e,h x (by simp),lmapO_congr fun y hy=>h y (by simp [hy])]
theorem fillL_congr {place:Nat->Option (Nat×Nat)} {tm tm':Tr Value}: ∀{l:List (Nat×Operand)},(∀p∈l,lev tm p.2=lev tm' p.2)-> ∀cs,fillL place tm l cs=fillL place tm' l cs
 |[],_,cs=>rfl
 |p::l,h,cs=>by
  have e: ∀tm,fillL place tm (p::l) cs=ob (place p.1) fun q=>ob (lev tm p.2) fun v=>oif (Nat.beq (llen (cellsL v)) q.2) (ob (lputAt (cellsL v) cs q.1) (fillL place tm l)):=fun _=>rfl
  have ih:=fillL_congr (place:=place) (tm:=tm) (tm':=tm') (l:=l) fun q hq=>h q (by simp [hq])
  rw [e,e,h p (by simp),funext ih]
theorem lall_congr {α:Type} {f g:α->Bool}: ∀{l:List α},(∀x∈l,f x=g x)->lall f l=lall g l
 |[],_=>rfl
 |x::l,h=>by
  have e: ∀f:α->Bool,lall f (x::l)=Bool.rec false (lall f l) (f x):=fun _=>rfl
  rw [e,e,h x (by simp),lall_congr fun y hy=>h y (by simp [hy])]
section
variable {T : Tab} {h h' : H} {tm tm' : Tr Value} {o : Oper}
theorem plain_congr (hs: ∀cs b,o.op≠ .select cs b) (hl: ∀x∈o.op.operands.toList,lev tm x=lev tm' x):plain T tm o=plain T tm' o:=by
 unfold plain allPure
 have e1:lall (fun x=>Option.rec false pureV (lev tm x)) o.op.operands.toList=lall (fun x=>Option.rec false pureV (lev tm' x)) o.op.operands.toList:=lall_congr fun x hx=>by rw [hl x hx]
 have e2:execOp (rho tm) o=execOp (rho tm') o:=execOp_congr o hs fun x hx=>by
  unfold rho
  rw [hl x (by simpa using hx)]
 rw [e1,e2]
theorem levO_congr {x:Option Operand} (h: ∀y,x=some y->lev tm y=lev tm' y):levO tm x=levO tm' x:=by
 cases x with
 |none=>rfl
 |some y=>
  have e: ∀tm,levO tm (some y)=ob (lev tm y) fun v=>some (some v):=fun _=>rfl
  rw [e,e,h y rfl]
theorem aop_congr (hl: ∀x∈o.op.operands.toList,lev tm x=lev tm' x):aop T h tm o=aop T h tm' o:=by
 unfold aop
 have hs': ∀op,o.op=op->(∀cs b,op≠ .select cs b)-> ∀cs b,o.op≠ .select cs b:=fun op e h cs b=>by rw [e];exact h cs b
 have pl:=fun op (e:o.op=op) h=>plain_congr (T:=T) (hs' op e h) hl
 cases hop:o.op with
 |move x=>rw [hop]at hl;have e1:=hl x (by simp [Op.operands]);show rd (lev tm x)=rd (lev tm' x);rw [e1]
 |assign x=>rw [hop]at hl;have e1:=hl x (by simp [Op.operands]);show rd (lev tm x)=rd (lev tm' x);rw [e1]
 |pick c x y=>
  rw [hop]at hl
  have e1:=hl c (by simp [Op.operands]);have e2:=hl x (by simp [Op.operands]);have e3:=hl y (by simp [Op.operands])
  show rd (r_pick tm c x y)=rd (r_pick tm' c x y)
  unfold r_pick;rw [e1,e2,e3]
 |build t p=>
  rw [hop]at hl
  have e1: ∀q∈p.toList,lev tm q.2=lev tm' q.2:=fun q hq=>hl q.2 (by simp only [Op.operands];simpa using⟨q.1,by simpa using hq⟩)
  show rd (r_build T tm t p.toList)=rd (r_build T tm' t p.toList)
  unfold r_build
  have e2:=fun pl cs=>fillL_congr (place:=pl) e1 cs
  simp only [e2]
 |load t x=>rw [hop]at hl;have e1:=hl x (by simp [Op.operands]);show rd (r_load T h tm t x)=rd (r_load T h tm' t x);unfold r_load;rw [e1]
 |nilCheck x=>rw [hop]at hl;have e1:=hl x (by simp [Op.operands]);show rd (r_nil tm x)=rd (r_nil tm' x);unfold r_nil;rw [e1]
 |binOp op t x y t'=>
  have p1:=pl _ hop (fun _ _ e=>by cases e)
  rw [hop]at hl
  have e1:=hl x (by simp [Op.operands]);have e2:=hl y (by simp [Op.operands])
  show rd (r_bin T tm op t x y o)=rd (r_bin T tm' op t x y o)
  unfold r_bin r_bin2;rw [e1,e2,p1]
 |unOp op t x=>
  have p1:=pl _ hop (fun _ _ e=>by cases e)
  rw [hop]at hl
  have e1:=hl x (by simp [Op.operands])
  show rd (r_un T tm op x o)=rd (r_un T tm' op x o)
  unfold r_un;rw [e1,p1]
 |convert s d x=>
  have p1:=pl _ hop (fun _ _ e=>by cases e)
  rw [hop]at hl
  have e1:=hl x (by simp [Op.operands])
  show c_conv T h tm s d x o=c_conv T h tm' s d x o
  unfold c_conv c_conv2;rw [e1,p1]
 |makeFunc f p q=>
  rw [hop]at hl
  have e1:levs tm p.toList=levs tm' p.toList:=lmapO_congr fun x hx=>hl x (by simp [Op.operands];left;simpa using hx)
  have e2:levs tm q.toList=levs tm' q.toList:=lmapO_congr fun x hx=>hl x (by simp [Op.operands];right;simpa using hx)
  show rd (r_func tm f p.toList q.toList)=rd (r_func tm' f p.toList q.toList)
  unfold r_func;rw [e1,e2]
 |slice t x lo hi mx=>
  have p1:=pl _ hop (fun _ _ e=>by cases e)
  rw [hop]at hl
  have e1:=hl x (by simp [Op.operands])
  have e2:levO tm lo=levO tm' lo:=levO_congr fun y e=>hl y (by subst e;simp [Op.operands])
  have e3:levO tm hi=levO tm' hi:=levO_congr fun y e=>hl y (by subst e;simp [Op.operands])
  have e4:levO tm mx=levO tm' mx:=levO_congr fun y e=>hl y (by subst e;simp [Op.operands])
  show rd (r_slice T tm t x lo hi mx o)=rd (r_slice T tm' t x lo hi mx o)
  unfold r_slice;rw [e1,e2,e3,e4,p1]
 |fieldAddr t x f=>rw [hop]at hl;have e1:=hl x (by simp [Op.operands]);show rd (r_faddr T tm t x f)=rd (r_faddr T tm' t x f);unfold r_faddr;rw [e1]
 |field t x f=>rw [hop]at hl;have e1:=hl x (by simp [Op.operands]);show rd (r_field T tm t x f)=rd (r_field T tm' t x f);unfold r_field;rw [e1]
 |indexAddr t x i=>rw [hop]at hl;have e1:=hl x (by simp [Op.operands]);have e2:=hl i (by simp [Op.operands]);show rd (r_iaddr T tm t x i)=rd (r_iaddr T tm' t x i);unfold r_iaddr;rw [e1,e2]
 |lookup t x i k=>rw [hop]at hl;have e1:=hl x (by simp [Op.operands]);have e2:=hl i (by simp [Op.operands]);show rd (r_lookup T h tm t x i k)=rd (r_lookup T h tm' t x i k);unfold r_lookup;rw [e1,e2]
 |extract x k=>rw [hop]at hl;have e1:=hl x (by simp [Op.operands]);show rd (r_extract tm x k)=rd (r_extract tm' x k);unfold r_extract;rw [e1]
 |index t x i=>have p1:=pl _ hop (fun _ _ e=>by cases e);show rd (plain T tm o)=rd (plain T tm' o);rw [p1]
 |makeInterface t x=>have p1:=pl _ hop (fun _ _ e=>by cases e);show rd (plain T tm o)=rd (plain T tm' o);rw [p1]
 |typeAssert x t t' c=>have p1:=pl _ hop (fun _ _ e=>by cases e);show rd (plain T tm o)=rd (plain T tm' o);rw [p1]
 |alloc e=>rfl
 |box e x=>rw [hop]at hl;have e1:=hl x (by simp [Op.operands]);show mk (a_box tm e x)=mk (a_box tm' e x);unfold a_box;rw [e1]
 |buildSlice t n p=>
  rw [hop]at hl
  have e1: ∀q∈p.toList,lev tm q.2=lev tm' q.2:=fun q hq=>hl q.2 (by simp only [Op.operands];simpa using⟨q.1,by simpa using hq⟩)
  show mk (a_row T tm t n p.toList)=mk (a_row T tm' t n p.toList)
  unfold a_row
  have e2:=fun pl cs=>fillL_congr (place:=pl) e1 cs
  simp only [e2]
 |makeSlice t l c=>rw [hop]at hl;have e1:=hl l (by simp [Op.operands]);have e2:=hl c (by simp [Op.operands]);show mk (a_make T tm t l c)=mk (a_make T tm' t l c);unfold a_make;rw [e1,e2]
 |makeMap t x=>rfl
 |range t x=>rw [hop]at hl;have e1:=hl x (by simp [Op.operands]);show mk (a_range T tm t x)=mk (a_range T tm' t x);unfold a_range;rw [e1]
 |store t x y=>rw [hop]at hl;have e1:=hl x (by simp [Op.operands]);have e2:=hl y (by simp [Op.operands]);show tn (e_store T h tm t x y)=tn (e_store T h tm' t x y);unfold e_store;rw [e1,e2]
 |mapUpdate t x k y=>rw [hop]at hl;have e1:=hl x (by simp [Op.operands]);have e2:=hl k (by simp [Op.operands]);have e3:=hl y (by simp [Op.operands]);show tn (e_map T h tm t x k y)=tn (e_map T h tm' t x k y);unfold e_map;rw [e1,e2,e3]
 |insert t x k y=>rw [hop]at hl;have e1:=hl x (by simp [Op.operands]);have e2:=hl k (by simp [Op.operands]);have e3:=hl y (by simp [Op.operands]);show tn (e_map T h tm t x k y)=tn (e_map T h tm' t x k y);unfold e_map;rw [e1,e2,e3]
 |next x st=>rw [hop]at hl;have e1:=hl x (by simp [Op.operands]);show tn (e_next h tm x st)=tn (e_next h tm' x st);unfold e_next;rw [e1]
 |call c=>
  have p1:=pl _ hop (fun _ _ e=>by cases e)
  rw [hop]at hl
  have e1:levs tm c.args.toList=levs tm' c.args.toList:=lmapO_congr fun x hx=>hl x (by simp only [Op.operands,Call.operands,Array.toList_append];exact List.mem_append_right _ hx)
  show c_call T h tm c.argTypes.toList c.args.toList o c.callee=c_call T h tm' c.argTypes.toList c.args.toList o c.callee
  unfold c_call
  rw [e1]
  cases hc:c.callee with
  |value f=>
   have e2:=hl f (by simp [Op.operands,Call.operands,hc])
   simp only [e2]
  |invoke r n=>rfl
  |builtin b=>cases b<;>first|rfl|(show(ob (levs tm' c.args.toList) fun vs=>rd (plain T tm o))=ob (levs tm' c.args.toList) fun vs=>rd (plain T tm' o);rw [p1])
 |defer c=>
  rw [hop]at hl
  have e1:levs tm c.args.toList=levs tm' c.args.toList:=lmapO_congr fun x hx=>hl x (by simp only [Op.operands,Call.operands,Array.toList_append];exact List.mem_append_right _ hx)
  show tn (e_defer h tm c.args.toList c.callee)=tn (e_defer h tm' c.args.toList c.callee)
  unfold e_defer
  rw [e1]
  cases hc:c.callee with
  |value f=>
   have e2:=hl f (by simp [Op.operands,Call.operands,hc])
   simp only [e2]
  |invoke r n=>rfl
  |builtin b=>rfl
 |_=>rfl
theorem rd_mk {v:Option Value} {ob:AObj} {k:Mk} (h:rd v=some (.mk ob k)):False:=by
 obtain⟨v,-,e⟩:=rd_some h
 cases e
theorem tn_mk {v:Option (ANext×H)} {ob:AObj} {k:Mk} (h:tn v=some (.mk ob k)):False:=by
 obtain⟨v,-,e⟩:=tn_some h
 cases e
theorem aop_mk {b:AObj} {k:Mk} (hr:aop T h tm o=some (.mk b k)) (h':H):aop T h' tm o=some (.mk b k):=by
 unfold aop at hr⊢
 cases hop:o.op with
 |alloc e=>rw [hop]at hr;exact hr
 |box e x=>rw [hop]at hr;exact hr
 |buildSlice t n p=>rw [hop]at hr;exact hr
 |makeSlice t l c=>rw [hop]at hr;exact hr
 |makeMap t x=>rw [hop]at hr;exact hr
 |range t x=>rw [hop]at hr;exact hr
 |convert s d x=>
  rw [hop]at hr
  have hr:c_conv T h tm s d x o=some (.mk b k):=hr
  show c_conv T h' tm s d x o=some (.mk b k)
  unfold c_conv at hr⊢
  obtain⟨i,h1,h2⟩:=ob_some.1 hr
  obtain⟨j,h3,h4⟩:=ob_some.1 h2
  obtain⟨u,h5,h6⟩:=ob_some.1 h4
  rw [h1,h3,h5]
  show c_conv2 T h' tm (Nat.beq s d) o i.und j.und u=some (.mk b k)
  unfold c_conv2 at h6⊢
  split at h6
  ·cases h6
  ·exact(rd_mk h6).elim
  ·exact(rd_mk h6).elim
  ·exact(rd_mk h6).elim
  ·exact h6
  ·obtain⟨jj,e1,e2⟩:=ob_some.1 h6
   obtain⟨e3,e4⟩:=oif_some.1 e2
   exact(tn_mk e4).elim
  ·exact(rd_mk h6).elim
 |call c=>
  rw [hop]at hr
  exfalso
  obtain⟨vs,h1,h2⟩:=ob_some.1 (show c_call T h tm c.argTypes.toList c.args.toList o c.callee=some (.mk b k)from hr)
  cases hc:c.callee with
  |value f=>rw [hc]at h2;exact tn_mk (show tn (ob (lev tm f) fun v=>callV T h vs v)=some (.mk b k)from h2)
  |invoke r n=>rw [hc]at h2;cases h2
  |builtin bb=>rw [hc]at h2;cases bb<;>first|exact tn_mk h2|exact rd_mk h2|(cases h2;done)
 |move x=>rw [hop]at hr;exact(rd_mk hr).elim
 |assign x=>rw [hop]at hr;exact(rd_mk hr).elim
 |pick c x y=>rw [hop]at hr;exact(rd_mk hr).elim
 |build t p=>rw [hop]at hr;exact(rd_mk hr).elim
 |load t x=>rw [hop]at hr;exact(rd_mk hr).elim
 |nilCheck x=>rw [hop]at hr;exact(rd_mk hr).elim
 |binOp op t x y t'=>rw [hop]at hr;exact(rd_mk hr).elim
 |unOp op t x=>rw [hop]at hr;exact(rd_mk hr).elim
 |makeFunc f p q=>rw [hop]at hr;exact(rd_mk hr).elim
 |slice t x lo hi mx=>rw [hop]at hr;exact(rd_mk hr).elim
 |fieldAddr t x f=>rw [hop]at hr;exact(rd_mk hr).elim
 |field t x f=>rw [hop]at hr;exact(rd_mk hr).elim
 |indexAddr t x i=>rw [hop]at hr;exact(rd_mk hr).elim
 |lookup t x i k=>rw [hop]at hr;exact(rd_mk hr).elim
 |extract x k=>rw [hop]at hr;exact(rd_mk hr).elim
 |index t x i=>rw [hop]at hr;exact(rd_mk hr).elim
 |makeInterface t x=>rw [hop]at hr;exact(rd_mk hr).elim
 |typeAssert x t t' c=>rw [hop]at hr;exact(rd_mk hr).elim
 |store t x y=>rw [hop]at hr;exact(tn_mk hr).elim
 |mapUpdate t x k y=>rw [hop]at hr;exact(tn_mk hr).elim
 |insert t x k y=>rw [hop]at hr;exact(tn_mk hr).elim
 |next x st=>rw [hop]at hr;exact(tn_mk hr).elim
 |defer c=>rw [hop]at hr;exact(tn_mk hr).elim
 |_=>rw [hop]at hr;cases hr
end
open Go Go.RowKit
set_option linter.unusedVariables false
set_option linter.unusedSimpArgs false
theorem oeq_true {a b:Option Addr} (h:oeq a b=true):a=b:=by unfold oeq at h;exact beq_iff_eq.1 h
theorem sameL_true {f:Value->Value->Bool} (hf: ∀a b,f a b=true->a=b): ∀{a b:List Value},sameL f a b=true->a=b
 |[],[],_=>rfl
 |[],_::_,h=>by cases h
 |_::_,[],h=>by cases h
 |x::a,y::b,h=>by
  have h:(f x y&&sameL f a b)=true:=h
  simp only [Bool.and_eq_true]at h
  rw [hf _ _ h.1,sameL_true hf h.2]
theorem same0_true: ∀a b:Value,same0 a b=true->a=b:=by
 intro a b h
 unfold same0 at h
 split at h
 ·simp only [Bool.and_eq_true,ieq_eq,beq_iff_eq]at h
  rw [h.1,h.2]
 ·rw [oeq_true h]
 ·simp only [Bool.and_eq_true,Nat.beq_eq]at h
  rw [oeq_true h.1,h.2.1,h.2.2]
 ·rw [beq_iff_eq.1 h]
 ·cases h
theorem same1_true: ∀a b:Value,same1 a b=true->a=b:=by
 intro a b h
 unfold same1 at h
 split at h
 ·rw [beq_iff_eq.1 h]
 ·simp only [Bool.and_eq_true,ieq_eq,beq_iff_eq]at h
  rw [h.1,h.2]
 ·rename_i s t
  congr 1
  have:=beq_iff_eq.1 h
  have:=Array.toList_inj.1 this
  cases s;cases t
  simp only at this
  rw [this]
 ·rw [oeq_true h]
 ·simp only [Bool.and_eq_true,Nat.beq_eq]at h
  rw [oeq_true h.1,h.2.1,h.2.2]
 ·rw [beq_iff_eq.1 h]
 ·rfl
 ·rfl
 ·simp only [Bool.and_eq_true,Nat.beq_eq]at h
  rw [h.1,Array.toList_inj.1 (sameL_true same0_true h.2.1),Array.toList_inj.1 (sameL_true same0_true h.2.2)]
 ·cases h
theorem sameV_true: ∀{a b:Value},sameV a b=true->a=b:=by
 intro a b h
 unfold sameV at h
 split at h
 ·rw [Array.toList_inj.1 (sameL_true same1_true h)]
 ·rw [Array.toList_inj.1 (sameL_true same1_true h)]
 ·exact same1_true _ _ h
def TRL (m:Mp) (tm:Tr Value) (sz:Nat) (ts:Array Value) (D:List Tmp):Prop:=ts.size=sz/\sz<=TOP/\ ∀t,t∉D->VR m (od undefV (tm.get t)) (ts.getD t undef)
theorem TRL.nil {m:Mp} {tm:Tr Value} {sz:Nat} {ts:Array Value}:TRL m tm sz ts []↔TR m tm sz ts:=⟨fun h=>⟨h.1,h.2.1,fun t=>h.2.2 t (by simp)⟩,fun h=>⟨h.1,h.2.1,fun t _=>h.2.2 t⟩⟩
theorem TRL.mono {m m':Mp} {tm:Tr Value} {sz:Nat} {ts:Array Value} {D:List Tmp} (h:TRL m tm sz ts D) (s:Sub m m'):TRL m' tm sz ts D:=⟨h.1,h.2.1,fun t ht=>(h.2.2 t ht).mono s⟩
theorem TRL.less {m:Mp} {tm:Tr Value} {sz:Nat} {ts:Array Value} {D D':List Tmp} (h:TRL m tm sz ts D) (s: ∀t,t∈D->t∈D'\/VR m (od undefV (tm.get t)) (ts.getD t undef)):TRL m tm sz ts D':=⟨h.1,h.2.1,fun t ht=>by
 by_cases e:t∈D
 ·exact(s t e).resolve_left ht
 ·exact h.2.2 t e⟩
theorem getD_set (ts:Array Value) (t t':Nat) (v:Value) (ht:t<ts.size):(ts.setIfInBounds t v).getD t' undef=if t'=t then v else ts.getD t' undef:=by
 by_cases e:t'=t
 ·subst e
  rw [if_pos rfl]
  simp [Array.getD_eq_getD_getElem?,ht]
 ·rw [if_neg e]
  simp [Array.getD_eq_getD_getElem?,Array.getElem?_setIfInBounds_ne (Ne.symm e)]
theorem TRL.mask {m:Mp} {sz:Nat}: ∀(D:List Tmp) {tm:Tr Value} {ts:Array Value},TRL m tm sz ts D->(∀t∈D,t<sz)-> ∃tm' ts',TR m tm' sz ts'/\ ∀t,t∉D->tm'.get t=tm.get t/\ts'.getD t undef=ts.getD t undef
 |[],tm,ts,R,_=>⟨tm,ts,TRL.nil.1 R,fun t _=>⟨rfl,rfl⟩⟩
 |d::D,tm,ts,R,hD=>by
  have hd:=hD d (by simp)
  have hlt:d<ts.size:=by rw [R.1];exact hd
  have hb:d<=8 * TOP:=Nat.le_trans (Nat.le_of_lt hd) (Nat.le_trans R.2.1 (Nat.le_mul_of_pos_left _ (by decide)))
  have R1:TRL m (Tr.set undefV DEP tm d) sz (ts.setIfInBounds d undef) D:=⟨by simpa using R.1,R.2.1,fun t ht=>by
   rw [Tr.get_put _ _ _ hb,getD_set _ _ _ _ hlt]
   by_cases e:t=d
   ·rw [if_pos e,if_pos e];exact VR.undef
   ·rw [if_neg e,if_neg e];exact R.2.2 t (by simp [e,ht])⟩
  obtain⟨tm',ts',h1,h2⟩:=TRL.mask D R1 fun t ht=>hD t (by simp [ht])
  refine⟨tm',ts',h1,fun t ht=> ?_⟩
  have hne:t≠d:=fun e=>ht (by simp [e])
  obtain⟨h3,h4⟩:=h2 t (fun e=>ht (by simp [e]))
  rw [h3,h4,Tr.get_put _ _ _ hb,getD_set _ _ _ _ hlt,if_neg hne,if_neg hne]
  exact⟨rfl,rfl⟩
noncomputable def depsAt (L:List Oper) (i:Nat):List Nat:=match L[i]? with
 |some o=>deps o
 |none=>[]
theorem mem_deps {o:Oper} {d:Nat}:d∈deps o↔ ∃e∈o.after.toList,Region.binds .any e=true/\e.on=d:=by
 unfold deps
 generalize o.after.toList=l
 induction l with
 |nil=>simp
 |cons e l ih=>
  show d∈(Bool.rec (List.rec (motive:=fun _=>List Nat) [] (fun e _ ih=>Bool.rec ih (e.on::ih) (Region.binds .any e)) l) (e.on::List.rec (motive:=fun _=>List Nat) [] (fun e _ ih=>Bool.rec ih (e.on::ih) (Region.binds .any e)) l) (Region.binds .any e):List Nat)↔_
  cases hb:Region.binds .any e with
  |false=>
   simp only [List.mem_cons]
   rw [ih]
   constructor
   ·rintro⟨x,h1,h2⟩;exact⟨x,.inr h1,h2⟩
   ·rintro⟨x,rfl|h1,h2⟩
    ·rw [hb]at h2;exact absurd h2.1 (by simp)
    ·exact⟨x,h1,h2⟩
  |true=>
   simp only [List.mem_cons]
   rw [ih]
   constructor
   ·rintro(rfl|⟨x,h1,h2⟩)
    ·exact⟨e,.inl rfl,hb,rfl⟩
    ·exact⟨x,.inr h1,h2⟩
   ·rintro⟨x,rfl|h1,h2⟩
    ·exact .inl h2.2.symm
    ·exact .inr ⟨x,h1,h2⟩
theorem rdy_iff {L:List Oper} {done:List Nat} {i:Nat}:rdy L done i=true↔i<L.length/\ ∀d∈depsAt L i,d∈done:=by
 unfold rdy depsAt
 rw [lnth_eq]
 cases h:L[i]? with
 |none=>
  have:=List.getElem?_eq_none_iff.1 h
  simp;omega
 |some o=>
  have:=(List.getElem?_eq_some_iff.1 h).1
  show lall (fun j=>lmem j done) (deps o)=true↔_
  rw [lall_iff]
  simp only [lmem_iff]
  exact⟨fun h=>⟨this,h⟩,fun h=>h.2⟩
def Sch (L:List Oper) (l:List Nat):Prop:=l.Pairwise fun i j=>i≠j/\j∉depsAt L i
theorem ready_mem {ops:Array Oper} {listed:Array Bool} {i:Nat}:i∈Region.ready .any ops listed↔i<ops.size/\listed.getD i true=false/\ ∀d∈depsAt ops.toList i,listed.getD d false=true:=by
 unfold Region.ready
 rw [List.mem_filter,List.mem_range]
 simp only [Bool.and_eq_true,Bool.not_eq_true',and_congr_right_iff]
 intro hi hl
 have ho:ops[i]? =some ops[i]:=Array.getElem?_eq_getElem hi
 have ho':ops.toList[i]? =some ops[i]:=by rw [Array.getElem?_toList,ho]
 rw [ho]
 unfold depsAt
 rw [ho']
 simp only [Option.map_some,Option.getD_some]
 constructor
 ·intro h d hd
  obtain⟨e,h1,h2,rfl⟩:=mem_deps.1 hd
  rw [Array.all_eq_true']at h
  have:=h e (by simpa using h1)
  rw [h2]at this
  simpa using this
 ·intro h
  rw [Array.all_eq_true']
  intro e he
  cases hb:Region.binds .any e with
  |false=>rfl
  |true=>
   simpa using h e.on (mem_deps.2 ⟨e,by simpa using he,hb,rfl⟩)
theorem getD_setB (l:Array Bool) (i j:Nat) (v d:Bool) (hi:i<l.size):(l.setIfInBounds i v).getD j d=if j=i then v else l.getD j d:=by
 by_cases e:j=i
 ·subst e
  rw [if_pos rfl]
  simp [Array.getD_eq_getD_getElem?,hi]
 ·rw [if_neg e]
  simp [Array.getD_eq_getD_getElem?,Array.getElem?_setIfInBounds_ne (Ne.symm e)]
theorem lin_go (ops:Array Oper) (prog: ∀listed:Array Bool,listed.size=ops.size->(∃i,i<ops.size/\listed.getD i true=false)->Region.ready .any ops listed≠[]): ∀(fuel t:Nat) (listed:Array Bool),listed.size=ops.size->listed.toList.count false<=fuel->
  (∀i∈Region.linearise.go .any ops fuel t listed [],i<ops.size/\listed.getD i true=false)/\Sch ops.toList (Region.linearise.go .any ops fuel t listed [])/\ ∀i,i<ops.size->listed.getD i true=true\/i∈Region.linearise.go .any ops fuel t listed []
 |0,t,listed,hs,hc=>by
  refine⟨fun i h=>by simp [Region.linearise.go]at h,by simp [Region.linearise.go,Sch],fun i hi=> .inl ?_⟩
  have h0:listed.toList.count false=0:=by omega
  rw [List.count_eq_zero]at h0
  have hi':i<listed.size:=by omega
  have:listed[i]∈listed.toList:=by simp
  cases hb:listed[i]with
  |true=>simp [Array.getD_eq_getD_getElem?,hi',hb]
  |false=>rw [hb]at this;exact absurd this h0
 |fuel+1,t,listed,hs,hc=>by
  have hgo:Region.linearise.go .any ops (fuel+1) t listed []=match(Region.ready .any ops listed)[t%(Region.ready .any ops listed).length]? with
   |some i=>Region.linearise.go .any ops fuel (t/(Region.ready .any ops listed).length) (listed.setIfInBounds i true) [i]
   |none=>[].reverse:=rfl
  rw [hgo]
  cases hi:(Region.ready .any ops listed)[t%(Region.ready .any ops listed).length]? with
  |none=>
   have hnil:Region.ready .any ops listed=[]:=by
    cases hr:Region.ready .any ops listed with
    |nil=>rfl
    |cons x xs=>
     rw [hr]at hi
     have hlt:t%(x::xs).length<(x::xs).length:=Nat.mod_lt _ (by simp)
     rw [List.getElem?_eq_none_iff]at hi
     omega
   refine⟨fun i h=>by simp at h,by simp [Sch],fun i hlt=> .inl ?_⟩
   cases hb:listed.getD i true with
   |true=>rfl
   |false=>exact absurd hnil (prog listed hs ⟨i,hlt,hb⟩)
  |some i=>
   simp only
   rw [linearise_go_acc,List.reverse_singleton,List.singleton_append]
   obtain⟨hi1,hi2,hi3⟩:=ready_mem.1 (List.mem_of_getElem? hi)
   have hil:i<listed.size:=by omega
   have hcount:(listed.setIfInBounds i true).toList.count false<=fuel:=by
    have hl:listed[i]=false:=by simpa [Array.getD_eq_getD_getElem?,hil]using hi2
    have hil':i<listed.toList.length:=by simpa using hil
    rw [Array.toList_setIfInBounds,List.count_set (by simpa using hil)]
    have:listed.toList[i]=false:=by simpa using hl
    rw [this]
    have hpos:0<listed.toList.count false:=by
     rw [List.count_pos_iff,<-this]
     exact List.getElem_mem _
    show List.count false listed.toList - 1+0<=fuel
    omega
   obtain⟨h1,h2,h3⟩:=lin_go ops prog fuel (t/(Region.ready .any ops listed).length) (listed.setIfInBounds i true) (by simpa using hs) hcount
   have hget:=fun j d=>getD_setB listed i j true d hil
   have hlater: ∀j∈Region.linearise.go .any ops fuel (t/(Region.ready .any ops listed).length) (listed.setIfInBounds i true) [],j<ops.size/\j≠i/\listed.getD j true=false:=fun j hj=>by
    obtain⟨q1,q2⟩:=h1 j hj
    rw [hget]at q2
    by_cases e:j=i
    ·rw [if_pos e]at q2;cases q2
    ·rw [if_neg e]at q2;exact⟨q1,e,q2⟩
   refine⟨fun j hj=> ?_,?_,fun j hj=> ?_⟩
   ·rcases List.mem_cons.1 hj with e|e
    ·subst e;exact⟨hi1,hi2⟩
    ·exact⟨(hlater j e).1,(hlater j e).2.2⟩
   ·refine List.pairwise_cons.2 ⟨fun j hj=>⟨fun e=>(hlater j hj).2.1 e.symm,fun hd=> ?_⟩,h2⟩
    have q1:=hi3 j hd
    have q2:=(hlater j hj).2.2
    simp only [Array.getD_eq_getD_getElem?]at q1 q2
    cases hb:listed[j]? with
    |none=>rw [hb]at q2;cases q2
    |some x=>rw [hb]at q1 q2;simp at q1 q2;rw [q1]at q2;cases q2
   ·rcases h3 j hj with e|e
    ·rw [hget]at e
     by_cases e':j=i
     ·exact .inr (by simp [e'])
     ·rw [if_neg e']at e;exact .inl e
    ·exact .inr (List.mem_cons_of_mem _ e)
theorem chkAll_nil {L:List Oper} {all done:List Nat}:chkAll L all [] done=lall (fun i=>lmem i done) all:=rfl
theorem chkAll_cons {L:List Oper} {all done:List Nat} {i:Nat} {l:List Nat}:chkAll L all (i::l) done=(chk1 L all done i&&(chk2 L all i&&chkAll L all l (i::done))):=rfl
theorem chkAll_ends {L:List Oper} {all:List Nat}: ∀{l done:List Nat},chkAll L all l done=true-> ∀i∈all,i∈done\/i∈l
 |[],done,h,i,hi=>by
  rw [chkAll_nil,lall_iff]at h
  exact .inl (lmem_iff.1 (h i hi))
 |k::l,done,h,i,hi=>by
  rw [chkAll_cons]at h
  simp only [Bool.and_eq_true]at h
  rcases chkAll_ends h.2.2 i hi with e|e
  ·rcases List.mem_cons.1 e with e|e
   ·subst e;exact .inr (by simp)
   ·exact .inl e
  ·exact .inr (List.mem_cons_of_mem _ e)
theorem chk1_iff {L:List Oper} {all done:List Nat} {i:Nat}:chk1 L all done i=true↔i∉done/\rdy L done i=true/\(turns L i=true-> ∀j∈all,j=i\/j∈done\/rdy L done j=false):=by
 unfold chk1
 simp only [Bool.and_eq_true,Bool.not_eq_true',Bool.or_eq_true,lall_iff,Nat.beq_eq,lmem_iff]
 rw [<-Bool.not_eq_true,lmem_iff]
 cases turns L i<;>simp
theorem chkAll_prog {L:List Oper} {all:List Nat} (S:Nat->Prop): ∀{l done:List Nat},chkAll L all l done=true->(∀i∈done,S i)->(∃i∈l,¬S i)-> ∃i∈l,¬S i/\i<L.length/\ ∀d∈depsAt L i,S d
 |[],done,h,hd,⟨i,hi,_⟩=>by cases hi
 |k::l,done,h,hd,hx=>by
  rw [chkAll_cons]at h
  simp only [Bool.and_eq_true]at h
  obtain⟨h1,h2,h3⟩:=h
  obtain⟨c1,c2,c3⟩:=chk1_iff.1 h1
  obtain⟨c4,c5⟩:=rdy_iff.1 c2
  by_cases hk:S k
  ·obtain⟨i,q1,q2,q3⟩:=chkAll_prog S h3 (fun i hi=>by
    rcases List.mem_cons.1 hi with e|e
    ·subst e;exact hk
    ·exact hd i e) (by
    obtain⟨i,hi,hn⟩:=hx
    rcases List.mem_cons.1 hi with e|e
    ·subst e;exact absurd hk hn
    ·exact⟨i,e,hn⟩)
   exact⟨i,List.mem_cons_of_mem _ q1,q2,q3⟩
  ·exact⟨k,by simp,hk,c4,fun d hd'=>hd d (c5 d hd')⟩
theorem plan_some {L:List Oper} {l:List Nat} (h:plan L=some l):chkAll L (upto L.length) l []=true:=by
 obtain⟨h1,h2⟩:=oif_some.1 h
 injection h2 with h2
 rw [<-h2,<-llen_eq]
 exact h1
theorem sched_ok {P:Program} (hm:P.follows .mixedOrders=true) {ops:Array Oper} {l:List Nat} (hp:plan ops.toList=some l) (t:Nat):Sch ops.toList (Region.schedule (P.follows .mixedOrders) ops t)/\ ∀i,i∈Region.schedule (P.follows .mixedOrders) ops t↔i<ops.size:=by
 have hc:=plan_some hp
 have prog: ∀listed:Array Bool,listed.size=ops.size->(∃i,i<ops.size/\listed.getD i true=false)->Region.ready .any ops listed≠[]:=by
  intro listed hs ⟨i,hi,hb⟩
  have hun: ∀j,j<ops.size->(listed.getD j true=false↔ ¬listed.getD j false=true):=fun j hj=>by
   have:j<listed.size:=by omega
   simp [Array.getD_eq_getD_getElem?,this]
  obtain⟨k,q1,q2,q3,q4⟩:=chkAll_prog (fun j=>listed.getD j false=true) hc (fun i h=>by cases h) (by
   rcases chkAll_ends hc i (mem_upto.2 (by simpa using hi))with e|e
   ·cases e
   ·exact⟨i,e,(hun i hi).1 hb⟩)
  have hk:k<ops.size:=by simpa using q3
  have:k∈Region.ready .any ops listed:=ready_mem.2 ⟨hk,(hun k hk).2 q2,q4⟩
  intro e
  rw [e]at this
  cases this
 have hrep: ∀i,i<ops.size->(Array.replicate ops.size false).getD i true=false:=fun i hi=>by simp [Array.getD_eq_getD_getElem?,hi]
 obtain⟨h1,h2,h3⟩:=lin_go ops prog ops.size t (Array.replicate ops.size false) (by simp) (by simp)
 have e:Region.schedule (P.follows .mixedOrders) ops t=Region.linearise.go .any ops ops.size t (Array.replicate ops.size false) []:=by
  simp only [Region.schedule,hm,Bool.true_or,if_true]
  rfl
 rw [e]
 refine⟨h2,fun i=>⟨fun h=>(h1 i h).1,fun h=> ?_⟩⟩
 rcases h3 i h with q|q
 ·rw [hrep i h]at q;cases q
 ·exact q
end Go.Ev

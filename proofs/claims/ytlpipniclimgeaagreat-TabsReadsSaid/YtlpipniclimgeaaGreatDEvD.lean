/- The reckoning machine: stores, appends, conversions. -/
import Derived.Test.YtlpipniclimgeaaGreatDEvC
import Derived.Laws.AppendOwn
namespace Go.Ev
open Go Go.RowKit
set_option linter.unusedVariables false
set_option linter.unusedSimpArgs false
section
variable {T : Tab} {base : Nat} {w0 w w' : World} {m m' : Mp} {h h' : H} {b k s n N sz : Nat} {tm : Tr Value} {a : Act} {o : Oper} {v v' : Value}
structure CR (m:Mp) (k s n:Nat) (w:World) (c:Cells) (cur:Array Value) (fz:Nat×Nat):Prop where
 hb:w.heap[k]? =some (.cells cur c.e fz)
 hs:cur.size=s+n
 hl:c.cs.length<=n
 hg:c.g=false->c.cs.length=n/\s=0
 hv:LR m c.cs ((cur.toList.drop s).take c.cs.length)
 hf:FzR c.x c.lo c.hi s n fz
theorem HR.cells_of (H:HR base w0 m h w) {b:Nat} (hb:m b=some (k,s,N)) {c:Cells} (hc:oCells (hget h b)=some c): ∃cur fz,CR m k s N w c cur fz:=by
 have ho:=H.obj _ _ _ _ hb
 rw [oCells_some hc]at ho
 cases ho with
 |cells cur fz hw hs hl hg hv hf=>exact⟨cur,fz,hw,hs,hl,hg,hv,hf⟩
theorem CR.shape {c:Cells} {cur:Array Value} {fz:Nat×Nat} (h:CR m k s n w c cur fz):w.shape? k=some (c.e,s+n):=by simp [World.shape?,h.hb,h.hs]
def pushB (r:ByteArray) (n:Int):ByteArray:=r.push (UInt8.ofNat n.toNat)
theorem bytesL_some: ∀{cs:List Value} {acc s:ByteArray},bytesL cs acc=some s-> ∃ns:List Int,cs=ns.map (Value.int .u8)/\s=ns.foldl pushB acc
 |[],acc,s,h=>by
  injection h with h
  subst h
  exact⟨[],rfl,rfl⟩
 |v::cs,acc,s,h=>by
  have e:bytesL (v::cs) acc=ob (vInt v) fun p=>IntKind.rec none none none none (bytesL cs (acc.push (UInt8.ofNat p.2.toNat))) none none none p.1:=rfl
  rw [e]at h
  obtain⟨p,h1,h2⟩:=ob_some.1 h
  have:=vInt_some h1
  subst this
  obtain⟨kd,x⟩:=p
  cases kd<;>try cases h2
  obtain⟨ns,rfl,h4⟩:=bytesL_some (show bytesL cs (acc.push (UInt8.ofNat x.toNat))=some s from h2)
  exact⟨x::ns,rfl,h4⟩
theorem isU8_true {d:TypeDesc} (h:isU8 d=true):d= .int .u8:=by
 cases d with
 |int k=>cases k<;>first|rfl|cases h
 |_=>cases h
theorem ints_pure (ns:List Int): ∀v∈ns.map (Value.int .u8),pure1 v=true:=by
 intro v hv
 obtain⟨n,-,rfl⟩:=List.mem_map.1 hv
 rfl
theorem conv_bytes (ok:TabOK T) (H:HR base w0 m h w) {e:TypeId} {A:Option Addr} {len cap:Nat} {u:Value} (hu:VR m (.slice A len cap) u) {ty:TypeId} {src dst:TypeId} (q1:T.P.underlying src=some (.slice e)) (q2:T.P.underlying dst=some .string) (hv:r_bytes T h e A len=some v): ∃v',(convert src dst u).run T.P w= .ok v' w/\VR m v v':=by
 unfold r_bytes at hv
 obtain⟨j,h1,h2⟩:=ob_some.1 hv
 obtain⟨h3,h4⟩:=oif_some.1 h2
 obtain⟨info,p1,p2,-⟩:=ok.at h1
 rw [isU8_true h3]at p2
 obtain⟨A',c',rfl,g1,g2⟩:=hu.len_of
 rw [run_convert_bytes_string w src dst e A' len c' q1 p2 q2]
 cases A with
 |none=>
  injection h4 with h4
  subst h4
  rw [(g1 rfl).1]
  exact⟨_,by simp [Conv.bytesToString],.pure rfl⟩
 |some A=>
  obtain⟨cs,h5,h6⟩:=ob_some.1 (show(ob (loadN h A len) fun cs=>ob (bytesL cs .empty) fun s=>some (.string s))=some v from h4)
  obtain⟨S,h7,h8⟩:=ob_some.1 h6
  injection h8 with h8
  subst h8
  obtain⟨ns,rfl,rfl⟩:=bytesL_some h7
  by_cases h0:len=0
  ·subst h0
   obtain⟨k,s,n,B',e1,e2,rfl,e4,e5⟩:=g2 A rfl
   have hn:ns=[]:=by
    rw [addr_eta e2]at h5
    obtain⟨l',l1,l2,l3⟩:=load_ok H e1 h5
    have:=l1.len
    rw [l2]at this
    simpa using this
   subst hn
   exact⟨_,run_bytesToString w B' 0 c' [] (by simp [loadCells,loadCellsFrom]),.pure rfl⟩
  ·obtain⟨k,s,n,c'',e1,e2,e3⟩:=hu.sl_of (by omega)
   injection e3 with e3 _ e4
   subst e3 e4
   rw [addr_eta e2]at h5
   obtain⟨l',l1,l2,l3⟩:=load_ok H e1 h5
   have:=l1.atoms (ints_pure ns)
   subst this
   exact⟨_,run_bytesToString w _ len c' ns (run_load l2 l3),.pure rfl⟩
theorem run_seen {c:Cells} {cur:Array Value} {fz:Nat×Nat} (h:CR m k s n w c cur fz) (P:Program) (o:Nat):(Conv.seenAt ⟨k,o,none⟩).run P w= .ok ⟨k,o,none⟩ w:=by
 simp [Conv.seenAt,viewAt,h.shape]
theorem conv_unsafe (ok:TabOK T) (H:HR base w0 m h w) {t:TypeId} {A:Addr} {u:Value} (hu:VR m (.pointer (some A)) u) {src dst:TypeId} (q1:T.P.underlying src=some (.pointer t)) (q2:T.P.underlying dst=some .unsafePointer) (hv:r_unsafe T h t A=some v): ∃v',(convert src dst u).run T.P w= .ok v' w/\VR m v v':=by
 unfold r_unsafe at hv
 obtain⟨j,h1,h2⟩:=ob_some.1 hv
 obtain⟨c,h3,h4⟩:=ob_some.1 h2
 obtain⟨h5,h6⟩:=oif_some.1 h4
 injection h6 with h6
 subst h6
 simp only [Bool.and_eq_true]at h5
 rw [llen_eq]at h5
 obtain⟨k,s,n,g1,g2,g3⟩:=hu.ptr_of
 obtain⟨cur,fz,C⟩:=H.cells_of g1 h3
 obtain⟨info,p1,p2,p3,-⟩:=ok.at h1
 have hz:info.size≠0:=by
  rw [p3]
  intro c
  rw [c]at h5
  exact absurd h5.1 (by decide)
 have hlt:=Nat.le_of_ble_eq_true h5.2
 have hl:=C.hl
 rw [g3]at hu⊢
 refine⟨_,?_,hu⟩
 have hno: ¬(s+n<=s+A.off):=by omega
 simp [convert,run_underlying q1,run_underlying q2,Conv.unsafePointer,run_seen C,cellsIn,C.shape,run_size p1,hz,hno]
theorem conv_back (ok:TabOK T) (H:HR base w0 m h w) {t:TypeId} {A:Addr} {u:Value} (hu:VR m (.pointer (some A)) u) {src dst:TypeId} (q1:T.P.underlying src=some .unsafePointer) (q2:T.P.underlying dst=some (.pointer t)) (hv:r_back T h t A=some v): ∃v',(convert src dst u).run T.P w= .ok v' w/\VR m v v':=by
 unfold r_back at hv
 obtain⟨j,h1,h2⟩:=ob_some.1 hv
 obtain⟨c,h3,h4⟩:=ob_some.1 h2
 obtain⟨h5,h6⟩:=oif_some.1 h4
 injection h6 with h6
 subst h6
 simp only [Bool.and_eq_true,Bool.not_eq_true']at h5
 rw [llen_eq]at h5
 obtain⟨k,s,n,g1,g2,g3⟩:=hu.ptr_of
 obtain⟨cur,fz,C⟩:=H.cells_of g1 h3
 obtain⟨info,p1,p2,p3,-⟩:=ok.at h1
 obtain⟨e1,e2⟩:=C.hg h5.1
 rw [g3]at hu⊢
 refine⟨_,?_,hu⟩
 subst e2
 rw [e1]at h5
 simp [convert,run_underlying q1,run_underlying q2,Conv.unsafePointer,run_seen C,variablesAt,C.shape,run_size p1,h5.2]
theorem freeze_at (w:World) (k off n:Nat) (hn:n≠0) {cur:Array Value} {e:TypeId} {lo hi:Nat} (hb:w.heap[k]? =some (.cells cur e (lo,hi))):(w.freeze ⟨k,off,none⟩ n).heap[k]? =some (.cells cur e (if lo==hi then(off,off+n)else(min lo off,max hi (off+n)))):=by
 unfold World.freeze
 rw [if_neg hn]
 simp [Array.getElem?_modify,hb]
theorem freeze_other (w:World) (k off n j:Nat) (hj:j≠k):(w.freeze ⟨k,off,none⟩ n).heap[j]? =w.heap[j]? :=by
 unfold World.freeze
 split
 ·rfl
 ·simp [Array.getElem?_modify];omega
theorem freeze_below (w:World) (k off n:Nat):Below k w (w.freeze ⟨k,off,none⟩ n):=Lib.below_freeze (Below.refl k w) (Nat.le_refl k) n
theorem conv_text (ok:TabOK T) {S:ByteArray} {e:TypeId} {x:Operand} {src dst:TypeId} (ho:o.op= .convert src dst x) (hu:a.eval x= .string S) (q1:T.P.underlying src=some .string) (q2:T.P.underlying dst=some (.slice e)) {p:AObj×Mk} (hv:a_text T S e=some p):Mkd T.P o a w m p.1 p.2:=by
 unfold a_text at hv
 obtain⟨j,h1,h2⟩:=ob_some.1 hv
 obtain⟨h3,h4⟩:=oif_some.1 h2
 injection h4 with h4
 subst h4
 simp only [Bool.and_eq_true]at h3
 obtain⟨info,p1,p2,p3,-⟩:=ok.at h1
 rw [isU8_true h3.1]at p2
 have hsz:=Nat.le_of_ble_eq_true h3.2
 have hcut:S.size<=(Question.appendCap S.size 0 e).cut (w.tape w.drawn (Question.appendCap S.size 0 e)):=by simp [Question.cut]
 generalize hcap:(Question.appendCap S.size 0 e).cut (w.tape w.drawn (Question.appendCap S.size 0 e))=cap at hcut
 have hq:(Question.appendCap S.size 0 e).forced=false:=rfl
 let bs:Array Value:=S.data.map fun b=> .int .u8 b.toNat
 have hbs:bs.size=S.size:=by simp [bs]
 let cur:Array Value:=bs++Array.replicate (cap - S.size) (.int .u8 0)
 have hcur:cur.size=cap:=by simp only [cur,Array.size_append,hbs,Array.size_replicate];omega
 let w1:World:=w.drew.alloc (.cells cur e)
 have hw1:w1.heap[w.heap.size]? =some (.cells cur e (0,0)):=alloc_at w.drew _
 have hsh:w1.shape? w.heap.size=some (e,cap):=by simp [World.shape?,hw1,hcur]
 refine⟨w1.freeze ⟨w.heap.size,cap,none⟩ 1,cap,.slice (some ⟨w.heap.size,0,none⟩) S.size cap,?_,?_,?_,fun f hf=>⟨?_,?_⟩⟩
 ·have e1:(Conv.stringToBytes e S).run T.P w= .ok (.slice (some ⟨w.heap.size,0,none⟩) S.size cap) (w1.freeze ⟨w.heap.size,cap,none⟩ 1):=by
   unfold Conv.stringToBytes
   rw [run_sub _ _ w w.drew cap (by rw [run_choose_drew,hq,hcap];rfl)]
   rw [run_sub _ _ w.drew w1 ⟨w.heap.size,0,none⟩ (by rfl)]
   rw [run_sub _ _ w1 (w1.freeze ⟨w.heap.size,cap,none⟩ 1) () (by simp [markStringish,hsh])]
   rfl
  simp [execOp,ho,hu,convert,run_underlying q1,run_underlying q2,run_underlying p2,e1]
 ·have hb:Below w.heap.size w w1:=⟨rfl,rfl,rfl,(alloc_below w.drew _).size,(alloc_below w.drew (.cells cur e)).block⟩
  exact hb.trans (freeze_below _ _ _ _)
 ·exact Nat.lt_of_lt_of_le (alloc_lt w.drew (.cells cur e)) (freeze_below w1 w.heap.size cap 1).size
 ·refine .cells cur (cap,cap+1) ?_ (by rw [hcur];omega) ?_ (fun e=>by cases e) ?_ (.inr ⟨rfl,rfl,rfl,.inr (by simp)⟩)
  ·rw [freeze_at w1 w.heap.size cap 1 (by decide) hw1];rfl
  ·rw [lmap_eq]
   have:S.data.toList.length=S.size:=rfl
   simp only [List.length_map,this]
   exact hcut
  ·rw [lmap_eq]
   have hl:S.data.toList.length=S.size:=rfl
   have:(cur.toList.drop 0).take (S.data.toList.map fun u:UInt8=>Value.int .u8 (.ofNat u.toNat)).length=S.data.toList.map fun u:UInt8=>Value.int .u8 (.ofNat u.toNat):=by
    simp only [cur,bs,List.drop_zero,Array.toList_append,Array.toList_map,List.length_map]
    rw [List.take_append_of_le_length (by simp),List.take_of_length_le (by simp)]
    rfl
   rw [this]
   exact LR.pures fun v hv=>by
    obtain⟨x,-,rfl⟩:=List.mem_map.1 hv
    rfl
 ·exact .slu (upd_same _ _ _) ⟨by decide,by decide⟩ hcut (by omega)
theorem mark_turn (H:HR base w0 m h w) (hn:h.nx<=8 * TOP) {A:Addr} {x:Value} (hA:m A.block=some (k,s,n)) {q:ANext×Ev.H} (hq:e_mark h x A=some q): ∃w',(∀P off,(markStringish ⟨k,off,none⟩).run P w= .ok () w')/\q.1= .val x/\HR base w0 m q.2 w'/\Ext h.nx m h m q.2:=by
 unfold e_mark at hq
 obtain⟨c,h1,h2⟩:=ob_some.1 hq
 obtain⟨h3,h4⟩:=oif_some.1 h2
 injection h4 with h4
 subst h4
 simp only [Bool.and_eq_true,Nat.beq_eq]at h3
 obtain⟨cur,fz,C⟩:=H.cells_of hA h1
 obtain⟨lo,hi⟩:=fz
 refine⟨w.freeze ⟨k,s+n,none⟩ 1,fun P off=>by simp [markStringish,C.shape],rfl,?_⟩
 refine H.turn hA hn (by rw [oCells_some h1];exact fun e=>by cases e) (freeze_below _ _ _ _) (fun j hj=>freeze_other _ _ _ _ _ hj) ?_
 refine .cells cur (s+n,s+n+1) ?_ C.hs C.hl C.hg C.hv (.inr ⟨rfl,rfl,rfl,.inr rfl⟩)
 rw [freeze_at w k (s+n) 1 (by decide) C.hb]
 congr 2
 rcases C.hf with⟨-,⟨-,e2⟩|⟨e1,-⟩⟩|⟨-,-,-,e2|e2⟩
 ·simp only at e2
  simp [e2]
 ·omega
 ·simp only at e2
  simp [e2]
 ·injection e2 with e2 e3
  subst e2 e3
  simp
theorem conv_ok (ok:TabOK T) (H:HR base w0 m h w) (hn:h.nx<=8 * TOP) (R:TR m tm sz a.tmps) {src dst:TypeId} {x:Operand} {r:ORes} (ho:o.op= .convert src dst x) (hr:c_conv T h tm src dst x o=some r):AR T.P base w0 o a w m h r:=by
 unfold c_conv at hr
 obtain⟨i,h1,h2⟩:=ob_some.1 hr
 obtain⟨j,h3,h4⟩:=ob_some.1 h2
 obtain⟨u,h5,h6⟩:=ob_some.1 h4
 obtain⟨info,q1,q2,-⟩:=ok.at h1
 obtain⟨info',p1,p2,-⟩:=ok.at h3
 have hu:=lev_ok R h5
 have yld: ∀{v:Value},(∃v',(convert src dst (a.eval x)).run T.P w= .ok v' w/\VR m v v')->AR T.P base w0 o a w m h (.rd v):=fun⟨v',e1,e2⟩=> .rd ⟨v',by simp [execOp,ho,e1],e2⟩
 generalize hd1:i.und=d1 at h6 q2
 generalize hd2:j.und=d2 at h6 p2
 unfold c_conv2 at h6
 split at h6
 ·injection h6 with h6
  subst h6
  refine yld ⟨_,?_,.pure rfl⟩
  rw [hu.int_of,wrp_eq]
  simp [convert,run_underlying q2,run_underlying p2,Conv.intToInt]
 ·obtain⟨v,e1,rfl⟩:=rd_some h6
  exact yld (conv_bytes (ty:=0) ok H hu q2 p2 e1)
 ·obtain⟨v,e1,rfl⟩:=rd_some h6
  exact yld (conv_unsafe ok H hu q2 p2 e1)
 ·obtain⟨v,e1,rfl⟩:=rd_some h6
  exact yld (conv_back ok H hu q2 p2 e1)
 ·obtain⟨p,e1,rfl⟩:=mk_some h6
  exact .mk (conv_text ok ho hu.str_of q2 p2 e1)
 ·rename_i e0 e A l c
  obtain⟨jj,e1,e2⟩:=ob_some.1 h6
  obtain⟨e3,e4⟩:=oif_some.1 e2
  obtain⟨q,e5,rfl⟩:=tn_some e4
  simp only [Bool.and_eq_true]at e3
  have hsd:=Nat.eq_of_beq_eq_true e3.1
  subst hsd
  obtain⟨info'',r1,r2,-⟩:=ok.at e1
  rw [isU8_true e3.2]at r2
  obtain⟨A',c',hx,-,g2⟩:=hu.len_of
  obtain⟨k,s,n,B',g3,g4,rfl,rfl,g6⟩:=g2 A rfl
  obtain⟨w',f1,f2,f3,f4⟩:=mark_turn H hn g3 e5
  refine .tn ⟨w',m,.value (a.eval x),?_,f3,f4,by rw [f2];exact .val hu⟩
  have:=f1 T.P B'.off
  rw [<-addr_eta g6]at this
  have hee:e0=e:=by
   rw [q2]at p2
   injection p2 with p2
   injection p2
  subst hee
  simp [execOp,ho,hx,convert,run_underlying q2,run_underlying r2,this]
 ·obtain⟨v,e1,rfl⟩:=rd_some h6
  exact .rd (plain_ok R (fun cs b e=>by rw [ho]at e;cases e) e1)
end
open Go Go.RowKit
set_option linter.unusedVariables false
set_option linter.unusedSimpArgs false
section
variable {base : Nat} {w0 w w' : World} {m m' : Mp} {h h' : H} {b k s n N : Nat} {o : AObj}
theorem HR.kill (H:HR base w0 m h w) {b:Nat} (hb:b<h.nx) (hn:h.nx<=8 * TOP) (hm:m b≠none):HR base w0 m (hput h b .dead) w/\Ext h.nx m h m (hput h b .dead):=by
 have g:=fun b'=>hget_hput h b' .dead (by omega:b<=8 * TOP)
 refine⟨⟨H.below,H.size,H.dom,fun b' k' s' n' e=> ?_,fun b1 b2 k' s' n' s'' n'' e1 e2 h1 h2=> ?_,fun b' hb'=>by rw [g];split<;>first|rfl|exact H.above b' hb'⟩,⟨Sub.refl m,Nat.le_refl _,fun f hf e=>⟨e,?_⟩⟩⟩
 ·rw [g]
  split
  ·exact .dead
  ·exact H.obj _ _ _ _ e
 ·rw [g]at h1 h2
  split at h1
  ·exact absurd rfl h1
  ·split at h2
   ·exact absurd rfl h2
   ·exact H.inj _ _ _ _ _ _ _ e1 e2 h1 h2
 ·rw [g,if_neg (fun e'=>by subst e';exact hm e)]
theorem HR.rename (H:HR base w0 m h w) (hb:m b=some (k,s,N)) (hn:h.nx<=8 * TOP) (hd:hget h b≠ .dead) (hw:Below k w w') (hwk: ∀j,j≠k->w'.heap[j]? =w.heap[j]?) {s' n':Nat} (ho:OR (upd m h.nx (k,s',n')) k s' n' w' o):
  HR base w0 (upd m h.nx (k,s',n')) (hnew (hput h b .dead) o) w'/\Ext h.nx m h (upd m h.nx (k,s',n')) (hnew (hput h b .dead) o):=by
 obtain⟨d1,d2,d3⟩:=H.dom _ _ _ _ hb
 have g1:=fun b'=>hget_hput h b' .dead (by omega:b<=8 * TOP)
 have g:=fun b'=>hget_hnew (hput h b .dead) b' o hn
 have hnx:(hput h b .dead).nx=h.nx:=rfl
 rw [hnx]at g
 have hf:=H.fresh (Nat.le_refl h.nx)
 have su:=upd_sub (x:=(k,s',n')) hf
 have alive: ∀b' s1 n1,m b'=some (k,s1,n1)->b'≠b->hget h b'= .dead:=fun b' s1 n1 e hne=>by
  cases hh:hget h b' with
  |dead=>rfl
  |_=>exact absurd (H.inj _ _ _ _ _ _ _ e hb (by rw [hh];exact fun e=>by cases e) hd) hne
 refine⟨⟨H.below.trans (hw.mono d2),Nat.le_trans H.size hw.size,fun b' k' s1 n1 e=> ?_,fun b' k' s1 n1 e=> ?_,fun b1 b2 k' s1 n1 s2 n2 e1 e2 h1 h2=> ?_,fun b' hb'=>by have hb'':h.nx+1<=b':=hb';rw [g,if_neg (by omega),g1];split<;>first|rfl|exact H.above b' (by omega)⟩,su,Nat.le_succ _,fun f hf' e=>⟨?_,?_⟩⟩
 ·unfold upd at e
  split at e
  ·rename_i e'
   injection e with e;injection e with e1 e2
   subst e1
   exact⟨by subst e';exact Nat.lt_succ_self _,d2,Nat.lt_of_lt_of_le d3 hw.size⟩
  ·obtain⟨h1,h2,h3⟩:=H.dom _ _ _ _ e
   exact⟨Nat.lt_succ_of_lt h1,h2,Nat.lt_of_lt_of_le h3 hw.size⟩
 ·rw [g]
  unfold upd at e
  split at e
  ·rename_i e'
   injection e with e;injection e with e1 e2;injection e2 with e2 e3
   subst e1 e2 e3 e'
   rw [if_pos rfl]
   exact ho
  ·rename_i e'
   rw [if_neg e',g1]
   split
   ·exact .dead
   ·rename_i hne
    by_cases hk:k'=k
    ·subst hk
     rw [alive b' s1 n1 e hne]
     exact .dead
    ·exact(H.obj _ _ _ _ e).mono su (hwk _ hk)
 ·rw [g]at h1 h2
  unfold upd at e1 e2
  by_cases p:b1=h.nx
  ·by_cases q:b2=h.nx
   ·rw [p,q]
   ·rw [if_pos p]at e1
    rw [if_neg q]at e2 h2
    injection e1 with e1;injection e1 with e1 _
    subst e1
    rw [g1]at h2
    split at h2
    ·exact absurd rfl h2
    ·exact absurd (alive _ _ _ e2 (by assumption)) h2
  ·by_cases q:b2=h.nx
   ·rw [if_neg p]at e1 h1
    rw [if_pos q]at e2
    injection e2 with e2;injection e2 with e2 _
    subst e2
    rw [g1]at h1
    split at h1
    ·exact absurd rfl h1
    ·exact absurd (alive _ _ _ e1 (by assumption)) h1
   ·rw [if_neg p]at e1 h1
    rw [if_neg q]at e2 h2
    rw [g1]at h1 h2
    split at h1
    ·exact absurd rfl h1
    ·split at h2
     ·exact absurd rfl h2
     ·exact H.inj _ _ _ _ _ _ _ e1 e2 h1 h2
 ·unfold upd
  rw [if_neg (by omega)]
  exact e
 ·rw [g,if_neg (by omega),g1,if_neg (fun e'=>by subst e';rw [e]at hb;cases hb)]
end
def SrcR (P:Program) (w:World) (i:TypeInfo) (z:Value) (n:Nat) (d:TypeDesc) (x:Value) (new:List Value):Prop:=
 ((d= .string\/ ∃e',d= .slice e')/\(∀w',(Builtin.lenOf x).run P w'= .ok n w')/\ ∀w':World,w'.heap=w.heap->(Builtin.firstCells i.size n x).run P w'= .ok new.toArray w')\/
 ((∃kd,d= .int kd)/\ ∃q,x= .int q (n:Int)/\n<=100000/\i.bytes<=100000/\new=(List.replicate n z.cells.toList).flatten)
section
variable {P : Program} {w : World} {ts : Array TypeId} {t tx ty e : TypeId} {d : TypeDesc} {i : TypeInfo} {z : Value} {A : Option Addr} {l c n : Nat} {x : Value} {new : List Value}
theorem zeroCells_eq (z:Array Value) (n:Nat):Builtin.zeroCells z n=(List.replicate n z.toList).flatten.toArray:=zerosA_eq z n z.size rfl
theorem wrap_small (n:Nat) (hn:n<=100000):IntKind.i64.wrap (n:Int)=n:=by rw [IntKind.wrap_i64];omega
theorem flat_nil (n s:Nat) (l:List Value) (hl:l.length=s) (h0:n * s=0):(List.replicate n l).flatten=[]:=by
 rcases Nat.mul_eq_zero.1 h0 with h|h
 ·subst h;simp
 ·subst h
  have:l=[]:=List.length_eq_zero_iff.1 hl
  subst this;simp
theorem app_fits (h0:ts[0]? =some t) (h1:ts[1]? =some tx) (ht:P.underlying t=some (.slice e)) (htx:P.underlying tx=some d) (hi:P.info? e=some i) (hz:i.zero=some z) (hs:z.cells.size=i.size) (hsrc:SrcR P w i z n d x new) (hr:l+n<=c) (ty:TypeId):
  (Builtin.append_ ts ty #[.slice A l c,x]).run P w=((match A with|some a=>storeCells (a.add (l * i.size)) new|none=>pure ())>>=fun _=>(pure (.slice A (l+n) c):Sem Value)).run P w:=by
 rcases hsrc with⟨hd,h2,h3⟩|⟨⟨kd,rfl⟩,q,rfl,h2,h3,rfl⟩
 ·have h3':=h3 w rfl
  rcases hd with rfl|⟨e',rfl⟩<;>cases A<;>simp [Builtin.append_,h0,h1,run_underlying ht,run_underlying htx,sizeOf,typeInfo,hi,h2,hr,h3']
 ·have hw:=wrap_small n h2
  have hneg: ¬((n:Int)<0):=by omega
  have hb: ¬((281474976710656:Int)<(n:Int) * (i.bytes:Int)):=by
   rw [<-Int.natCast_mul]
   have:n * i.bytes<=10000000000:=Nat.mul_le_mul h2 h3
   omega
  by_cases hns:n * i.size=0
  ·have:=flat_nil n i.size z.cells.toList (by simpa using hs) hns
   cases A<;>simp [Builtin.append_,h0,h1,run_underlying ht,run_underlying htx,sizeOf,typeInfo,hi,hr,asInt,asIntOf,hw,hneg,hb,hns,this]
  ·have:=zeroCells_eq z.cells n
   cases A<;>simp [Builtin.append_,h0,h1,run_underlying ht,run_underlying htx,sizeOf,typeInfo,hi,hr,asInt,asIntOf,hw,hneg,hb,hns,zeroValue,hz,this]
theorem app_grow (h0:ts[0]? =some t) (h1:ts[1]? =some tx) (ht:P.underlying t=some (.slice e)) (htx:P.underlying tx=some d) (hi:P.info? e=some i) (hz:i.zero=some z) (hs:z.cells.size=i.size) (hsrc:SrcR P w i z n d x new) (hr:c<l+n) {old:List Value} (hold:(Builtin.firstCells i.size l (.slice A l c)).run P w.drew= .ok old.toArray w.drew)
  (hle:l+n<=200000) (hby:i.bytes<=100000) (ty:TypeId): ∃c',l+n<=c'/\
  (Builtin.append_ ts ty #[.slice A l c,x]).run P w= .ok (.slice (some ⟨w.heap.size,0,none⟩) (l+n) c') (w.drew.alloc (.cells (old++new++(List.replicate (c' - (l+n)) z.cells.toList).flatten).toArray e)):=by
 have hn: ¬(l+n<=c):=by omega
 have h63': ¬(9223372036854775807<((l:Int)+(n:Int))):=by omega
 have h48': ¬(281474976710656<Builtin.nextslicecap (l+n) c * i.bytes):=by
  have:=growslice_fits hr (bytes:=i.bytes) (by
   have:(l+n) * i.bytes<=20000000000:=Nat.mul_le_mul hle hby
   omega)
  omega
 refine⟨grownCap w (l+n) c e,grownCap_ge _ _ _ _,?_⟩
 have hzc:=zeroCells_eq z.cells (grownCap w (l+n) c e - (l+n))
 unfold grownCap at hzc⊢
 rcases hsrc with⟨hd,h2,h3⟩|⟨⟨kd,rfl⟩,q,rfl,h2,h3,rfl⟩
 ·have h3':=h3 w.drew rfl
  rcases hd with rfl|⟨e',rfl⟩<;>simp [Builtin.append_,h0,h1,run_underlying ht,run_underlying htx,sizeOf,typeInfo,hi,h2,hn,h63',h48',h3',zeroValue,hz,Question.forced,hold,newRow,hzc]
 ·have hw:=wrap_small n h2
  have hneg: ¬((n:Int)<0):=by omega
  have hb: ¬((281474976710656:Int)<(n:Int) * (i.bytes:Int)):=by
   rw [<-Int.natCast_mul]
   have:n * i.bytes<=10000000000:=Nat.mul_le_mul h2 h3
   omega
  by_cases hns:n * i.size=0
  ·have:=flat_nil n i.size z.cells.toList (by simpa using hs) hns
   simp [Builtin.append_,h0,h1,run_underlying ht,run_underlying htx,sizeOf,typeInfo,hi,hn,asInt,asIntOf,hw,hneg,hb,hns,this,h63',h48',zeroValue,hz,Question.forced,hold,newRow,hzc]
  ·have:=zeroCells_eq z.cells n
   simp [Builtin.append_,h0,h1,run_underlying ht,run_underlying htx,sizeOf,typeInfo,hi,hn,asInt,asIntOf,hw,hneg,hb,hns,this,h63',h48',zeroValue,hz,Question.forced,hold,newRow,hzc]
end
open Go Go.RowKit
set_option linter.unusedVariables false
set_option linter.unusedSimpArgs false
section
variable {T : Tab} {base : Nat} {w0 w w' : World} {m m' : Mp} {h h' : H} {b k s n N sz : Nat} {tm : Tr Value} {a : Act} {o : Oper} {v v' : Value}
theorem cell_heap {w w':World} (e:w'.heap=w.heap) (a:Addr):w'.cell? a=w.cell? a:=by unfold World.cell?;rw [e]
theorem loads_ok (H:HR base w0 m h w) {A:Addr} {l c:Nat} {x':Value} (hx:VR m (.slice (some A) l c) x') {q:Nat} (hq:l=0->q=0) {cs:List Value} (hl:loadN h A q=some cs):
  ∃A' c',x'= .slice (some A') l c'/\ ∃cs',LR m cs cs'/\cs'.length=q/\ ∀(P:Program) (w':World),w'.heap=w.heap->(loadCells A' q).run P w'= .ok cs'.toArray w':=by
 obtain⟨A'',c',rfl,-,g2⟩:=hx.len_of
 obtain⟨k,s,n,B',e1,e2,rfl,e4,e5⟩:=g2 A rfl
 rw [addr_eta e2]at hl
 obtain⟨l',l1,l2,l3⟩:=load_ok H e1 hl
 refine⟨B',c',rfl,l',l1,l2,fun P w' hw=> ?_⟩
 by_cases h0:l=0
 ·have hq0:=hq h0
  subst hq0
  have:l'=[]:=List.length_eq_zero_iff.1 l2
  subst this
  rfl
 ·obtain⟨k,s,n,c'',f1,f2,f3⟩:=hx.sl_of (by omega)
  rw [e1]at f1
  injection f1 with f1
  injection f1 with f1 f4
  injection f4 with f4 f5
  subst f1 f4 f5
  injection f3 with f3 _ f6
  injection f3 with f3
  rw [f3]
  exact run_load l2 fun j v hj=>by rw [cell_heap hw];exact l3 j v hj
theorem srcN_ok (H:HR base w0 m h w) {x x':Value} (hx:VR m x x') {n0:Nat} (hl:lenV x=some n0) {n:Nat} (hle:n<=n0) {sz:Nat} {new:List Value} (hs:srcN h sz n x=some new):
  ∃new':List Value,LR m new new'/\(∀(P:Program) w',(Builtin.lenOf x').run P w'= .ok n0 w')/\ ∀(P:Program) (w':World),w'.heap=w.heap->(Builtin.firstCells sz n x').run P w'= .ok new'.toArray w':=by
 unfold lenV at hl
 unfold srcN at hs
 cases hv:vSl x with
 |none=>
  rw [hv]at hl hs
  obtain⟨S,h1,h2⟩:=ob_some.1 (show(ob (vStr x) fun s=>some s.size)=some n0 from hl)
  injection h2 with h2
  have:=vStr_some h1
  subst this h2
  rw [hx.str_of]
  obtain⟨S',h3,h4⟩:=ob_some.1 (show(ob (vStr (.string S)) fun s=>ltake (lmap (fun u:UInt8=>Value.int .u8 (.ofNat u.toNat)) s.data.toList) n)=some new from hs)
  injection h3 with h3
  subst h3
  rw [lmap_eq]at h4
  obtain⟨rfl,h5⟩:=ltake_some h4
  refine⟨_,LR.pures fun v hv=> ?_,fun P w'=>by simp [Builtin.lenOf],fun P w' _=> ?_⟩
  ·obtain⟨y,-,rfl⟩:=List.mem_map.1 (List.mem_of_mem_take hv)
   rfl
  ·simp only [Builtin.firstCells,Sem.run_pure]
   congr 1
   rw [<-Array.toList_inj]
   simp
 |some p=>
  rw [hv]at hl hs
  have:=vSl_some hv
  subst this
  injection hl with hl
  obtain⟨A,l,c⟩:=p
  simp only at hl hx
  subst hl
  cases A with
  |none=>
   obtain⟨h1,h2⟩:=oif_some.1 (show oif (Nat.beq n 0) (some [])=some new from hs)
   injection h2 with h2
   subst h2
   obtain⟨A'',c',rfl,g1,-⟩:=hx.len_of
   rw [(g1 rfl).1]
   exact⟨[],.nil,fun P w'=>by simp [Builtin.lenOf],fun P w' _=>by simp [Builtin.firstCells]⟩
  |some A=>
   have hs:loadN h A (n * sz)=some new:=hs
   obtain⟨A',c',rfl,cs',e1,e2,e3⟩:=loads_ok H hx (q:=n * sz) (fun e=>by rw [show n=0 by omega,Nat.zero_mul]) hs
   exact⟨cs',e1,fun P w'=>by simp [Builtin.lenOf],fun P w' hw=>by simp [Builtin.firstCells,e3 P w' hw]⟩
theorem flat_len (l:List Value): ∀n,(List.replicate n l).flatten.length=n * l.length
 |0=>by simp
 |n+1=>by rw [List.replicate_succ,List.flatten_cons,List.length_append,flat_len l n,Nat.succ_mul];omega
theorem grow_ok (H:HR base w0 m h w) (hn:h.nx<=8 * TOP) {e:TypeId} {x:Bool} {z n:Nat} {cs cs':List Value} {r:Value×Ev.H} (hg:grow h e x z n cs=some r) (hv:LR m cs cs') (hl:cs.length=n * z) {c':Nat} (hc:n<=c') {zl:List Value} (hz:zl.length=z):
  n<=200000/\ ∃m',HR base w0 m' r.2 (w.drew.alloc (.cells (cs'++(List.replicate (c' - n) zl).flatten).toArray e))/\Ext h.nx m h m' r.2/\VR m' r.1 (.slice (some ⟨w.heap.size,0,none⟩) n c'):=by
 unfold grow at hg
 obtain⟨h1,h2⟩:=oif_some.1 hg
 injection h2 with h2
 subst h2
 simp only [Bool.and_eq_true]at h1
 have b1:=Nat.le_of_ble_eq_true h1.1
 have b2:=Nat.le_of_ble_eq_true h1.2.1
 have b3:=Nat.le_of_ble_eq_true h1.2.2
 refine⟨b1,upd m h.nx (w.heap.size,0,c' * z),?_⟩
 have hsz:(cs'++(List.replicate (c' - n) zl).flatten).length=c' * z:=by
  rw [List.length_append,<-hv.len,hl,flat_len,hz,<-Nat.add_mul]
  congr 1
  omega
 have hb:Below w.heap.size w (w.drew.alloc (.cells (cs'++(List.replicate (c' - n) zl).flatten).toArray e)):=⟨rfl,rfl,rfl,(alloc_below w.drew _).size,(alloc_below w.drew (.cells (cs'++(List.replicate (c' - n) zl).flatten).toArray e)).block⟩
 have hr:=H.new (n:=c' * z) (o:= .cells cs e true x 0 0) hn hb (alloc_lt w.drew (.cells (cs'++(List.replicate (c' - n) zl).flatten).toArray e)) (by
  refine .cells _ (0,0) (alloc_at w.drew _) (by simpa using hsz) ?_ (fun e=>by cases e) ?_ ?_
  ·rw [hl];exact Nat.mul_le_mul_right _ hc
  ·rw [List.drop_zero,hv.len,List.take_left]
   exact hv.mono (upd_sub (H.fresh (Nat.le_refl _)))
  ·cases x with
   |true=>exact .inl ⟨rfl,.inl ⟨rfl,rfl⟩⟩
   |false=>exact .inr ⟨rfl,rfl,rfl,.inl rfl⟩)
 exact⟨hr.1,hr.2,.slu (upd_same _ _ _) ⟨b3,b2⟩ hc (by omega)⟩
theorem place_ok (H:HR base w0 m h w) (hn:h.nx<=8 * TOP) {b:Nat} (hb:m b=some (k,s,N)) {c:Cells} (hc:oCells (hget h b)=some c) {o L:Nat} (hoL:o+L=c.cs.length) (h0:c.lo=0/\c.hi=0) {new new':List Value} (hw:LR m new new') (hone:lall oneC new=true) (hroom:o+L+new.length<=N):
  ∃w',(∀P,(storeCells ⟨k,s+o+L,none⟩ new').run P w= .ok () w')/\HR base w0 (upd m h.nx (k,s+o,N - o)) (hnew (hput h b .dead) (.cells ((c.cs.drop o).take L++new) c.e true c.x 0 0)) w'/\Ext h.nx m h (upd m h.nx (k,s+o,N - o)) (hnew (hput h b .dead) (.cells ((c.cs.drop o).take L++new) c.e true c.x 0 0)):=by
 obtain⟨cur,fz,C⟩:=H.cells_of hb hc
 have hnl:=hw.len
 have hs:=C.hs
 have hfree: ∀j,s+o+L+0<=j->j<s+o+L+0+new'.length-> ¬(fz.1<=j/\j<fz.2):=by
  intro j h1 h2
  have hf:=C.hf
  rw [h0.1,h0.2]at hf
  exact free_ok hf (o:=o+L) (len:=new'.length) (by simp [free]) (by omega) j (by omega) (by omega)
 have hrun:=fun P=>run_storeRow P k (s+o+L) c.e fz new' 0 cur w C.hb hfree (by omega) (hw.oneC hone)
 simp only [Nat.add_zero]at hrun
 refine⟨_,hrun,H.rename hb hn (by rw [oCells_some hc];exact fun e=>by cases e) (setRow_below _ _ _) (fun j hj=>setRow_other _ _ _ _ hj) ?_⟩
 have hlen:((c.cs.drop o).take L++new).length=L+new.length:=by simp;omega
 refine .cells _ fz (setRow_heap _ _ _ _ _ _ C.hb) ?_ ?_ (fun e=>by cases e) ?_ ?_
 ·simp;omega
 ·rw [hlen];omega
 ·have key:((cur.toList.take (s+o+L)++new'++cur.toList.drop (s+o+L+new'.length)).toArray.toList.drop (s+o)).take ((c.cs.drop o).take L++new).length=(((cur.toList.drop s).take c.cs.length).drop o).take L++new':=by
   rw [hlen]
   apply List.ext_getElem?
   intro j
   have hcl:cur.toList.length=s+N:=by simpa using hs
   simp only [List.getElem?_take,List.getElem?_drop,List.getElem?_append,List.length_append,List.length_take,List.length_drop,hcl]
   repeat' split
   all_goals first|rfl|omega|(congr 1;omega)|(symm;apply List.getElem?_eq_none;omega)|(apply List.getElem?_eq_none;omega)
  rw [key]
  exact((((C.hv.drop o).take L).append hw)).mono (upd_sub (H.fresh (Nat.le_refl _)))
 ·have hf:=C.hf
  rw [h0.1,h0.2]at hf
  rcases hf with⟨e1,⟨-,e2⟩|⟨e3,-⟩⟩|⟨e1,-,-,e2⟩
  ·exact .inl ⟨e1,.inl ⟨rfl,e2⟩⟩
  ·exact absurd e3 (by omega)
  ·refine .inr ⟨e1,rfl,rfl,?_⟩
   rcases e2 with e2|e2
   ·exact .inl e2
   ·refine .inr ?_
    rw [e2]
    have:s+o+(N - o)=s+N:=by omega
    rw [this]
end
open Go Go.RowKit
set_option linter.unusedVariables false
set_option linter.unusedSimpArgs false
def AppR (P:Program) (base:Nat) (w0:World) (ts:Array TypeId) (ty:TypeId) (s' x':Value) (w:World) (m:Mp) (h:H) (r:Value×H):Prop:=
 ∃w' m' v',(Builtin.append_ ts ty #[s',x']).run P w= .ok v' w'/\HR base w0 m' r.2 w'/\Ext h.nx m h m' r.2/\VR m' r.1 v'
section
variable {T : Tab} {base : Nat} {w0 w w' : World} {m m' : Mp} {h h' : H} {b k s n N sz : Nat} {tm : Tr Value} {a : Act} {o : Oper} {v v' : Value}
variable {P : Program} {ts : Array TypeId} {t tx ty e : TypeId} {d : TypeDesc} {i : TypeInfo} {z : Value} {x' : Value} {new new' : List Value}
structure AppC (P:Program) (w:World) (m:Mp) (ts:Array TypeId) (t tx e:TypeId) (d:TypeDesc) (i:TypeInfo) (z:Value) (n:Nat) (x':Value) (new new':List Value):Prop where
 h0:ts[0]? =some t
 h1:ts[1]? =some tx
 ht:P.underlying t=some (.slice e)
 htx:P.underlying tx=some d
 hi:P.info? e=some i
 hz:i.zero=some z
 hs:z.cells.size=i.size
 src:SrcR P w i z n d x' new'
 hnew:LR m new new'
 by_:i.bytes<=100000
theorem app_in (C:AppC P w m ts t tx e d i z n x' new new') (H:HR base w0 m h w) (hn:h.nx<=8 * TOP) {b o l c:Nat} (hb:m b=some (k,s,N)) {hh:Ev.H} (hst:storeN h ⟨b,o+l * i.size,none⟩ new=some hh) (hr:l+n<=c):
  ∃w',(Builtin.append_ ts ty #[.slice (some ⟨k,s+o,none⟩) l c,x']).run P w= .ok (.slice (some ⟨k,s+o,none⟩) (l+n) c) w'/\HR base w0 m hh w'/\Ext h.nx m h m hh:=by
 obtain⟨w',e1,e2,e3⟩:=store_ok H hn hb C.hnew hst
 refine⟨w',?_,e2,e3⟩
 rw [app_fits C.h0 C.h1 C.ht C.htx C.hi C.hz C.hs C.src hr ty]
 simp only [addr_add,Sem.run_bind]
 rw [Nat.add_assoc,e1 P]
 rfl
theorem app_new (C:AppC P w m ts t tx e d i z n x' new new') {h1:Ev.H} (H:HR base w0 m h1 w) (hn:h1.nx<=8 * TOP) {A':Option Addr} {l c:Nat} {x:Bool} {old old':List Value} (hold:LR m old old') (hol:old.length=l * i.size) (hnl:new.length=n * i.size)
  (hrun: ∀w':World,w'.heap=w.heap->(Builtin.firstCells i.size l (.slice A' l c)).run P w'= .ok old'.toArray w') {r:Value×Ev.H} (hg:grow h1 e x i.size (l+n) (lapp old new)=some r) (hr:c<l+n):
  ∃w' m' v',(Builtin.append_ ts ty #[.slice A' l c,x']).run P w= .ok v' w'/\HR base w0 m' r.2 w'/\Ext h1.nx m h1 m' r.2/\VR m' r.1 v':=by
 rw [lapp_eq]at hg
 have hlen:(old++new).length=(l+n) * i.size:=by rw [List.length_append,hol,hnl,Nat.add_mul]
 have hle:l+n<=200000:=(grow_ok H hn hg (hold.append C.hnew) hlen (Nat.le_refl _) (zl:=z.cells.toList) (by simpa using C.hs)).1
 obtain⟨c',e1,e2⟩:=app_grow C.h0 C.h1 C.ht C.htx C.hi C.hz C.hs C.src hr (hrun w.drew rfl) hle C.by_ ty
 obtain⟨-,m',e3,e4,e5⟩:=grow_ok H hn hg (hold.append C.hnew) hlen e1 (zl:=z.cells.toList) (by simpa using C.hs)
 exact⟨_,m',_,e2,e3,e4,e5⟩
theorem appIn_some {z:Nat} {A:Addr} {len cap n:Nat} {r:Value×H} (hr:appIn h z A len cap n new=some r) (hA:A.spot=none):storeN h ⟨A.block,A.off+len * z,none⟩ new=some r.2/\r.1= .slice (some A) (len+n) cap:=by
 obtain⟨h',h1,h2⟩:=ob_some.1 (show(ob (storeN h (A.add (Nat.mul len z)) new) fun h'=>some (.slice (some A) (Nat.add len n) cap,h'))=some r from hr)
 injection h2 with h2
 subst h2
 rw [addr_eta hA,addr_add]at h1
 exact⟨h1,rfl⟩
theorem old_run {k s o l c:Nat} {l':List Value} {q:Nat} (h2:l'.length=q) (h3: ∀(j:Nat) v,l'[j]? =some v->w.cell? ⟨k,s+o+j,none⟩=some v) {sz:Nat} (hq:q=l * sz): ∀(P:Program) (w':World),w'.heap=w.heap->(Builtin.firstCells sz l (.slice (some ⟨k,s+o,none⟩) l c)).run P w'= .ok l'.toArray w':=by
 intro P w' hw
 simp only [Builtin.firstCells]
 subst hq
 exact run_load h2 fun j v hj=>by rw [cell_heap hw];exact h3 j v hj
theorem appTo_ok (C:AppC P w m ts t tx e d i z n x' new new') (H:HR base w0 m h w) (hn:h.nx<=8 * TOP) (hpos:0<n) {sv sv':Value} (hs:VR m sv sv') {r:Value×Ev.H} (hr:appTo h e i.size sv n new=some r):AppR P base w0 ts ty sv' x' w m h r:=by
 unfold appTo at hr
 obtain⟨p,h1,h2⟩:=ob_some.1 hr
 obtain⟨h3,h4⟩:=oif_some.1 h2
 simp only [Bool.and_eq_true,Nat.beq_eq]at h3
 rw [llen_eq]at h3
 obtain⟨hnl,hone⟩:=h3
 have hnl:new.length=n * i.size:=hnl
 have:=vSl_some h1
 subst this
 obtain⟨A,l,c⟩:=p
 clear hr h2 h1
 simp only at hs h4
 cases A with
 |none=>
  obtain⟨h5,h6⟩:=oif_some.1 (show oif (Nat.beq l 0&&Nat.beq c 0) (grow h e true i.size n new)=some r from h4)
  simp only [Bool.and_eq_true,Nat.beq_eq]at h5
  obtain⟨rfl,rfl⟩:=h5
  rw [hs.atom1 rfl]
  exact app_new C H hn (l:=0) (old:=[]) (old':=[]) .nil (by simp) hnl (fun w' _=>by simp [Builtin.firstCells]) (by rw [Nat.zero_add];exact h6) (by omega)
 |some A=>
  by_cases hk:c<UNK
  ·have hkb:Nat.ble (Nat.succ c) UNK=true:=by rw [Nat.ble_eq];exact hk
   have h4:appK h e i.size A l c n new=some r:=by
    have:=h4
    simp only [hkb]at this
    exact this
   unfold appK at h4
   cases hs with
   |pure hp=>exact Bool.noConfusion hp
   |slu _ _ _ _=>omega
   |sle _ _ _=>have:=UNK_lt;omega
   | @slk b o _ _ k s N hb hc hl=>
    by_cases hf:l+n<=c
    ·have hfb:Nat.ble (Nat.add l n) c=true:=by rw [Nat.ble_eq];exact hf
     rw [hfb]at h4
     obtain⟨e1,e2⟩:=appIn_some h4 rfl
     obtain⟨w',f1,f2,f3⟩:=app_in (ty:=ty) C H hn hb e1 hf
     exact⟨w',m,_,f1,f2,f3,by rw [e2];exact .slk hb hc hf⟩
    ·have hfb:Nat.ble (Nat.add l n) c=false:=by rw [<-Bool.not_eq_true,Nat.ble_eq];exact hf
     rw [hfb]at h4
     obtain⟨old,e1,e2⟩:=ob_some.1 (show(ob (loadN h ⟨b,o,none⟩ (l * i.size)) fun old=>grow h e true i.size (l+n) (lapp old new))=some r from h4)
     obtain⟨l',g1,g2,g3⟩:=load_ok H hb e1
     exact app_new C H hn g1 (by rw [g1.len,g2]) hnl (old_run g2 g3 rfl P) e2 (by omega)
  ·have hkb:Nat.ble (Nat.succ c) UNK=false:=by rw [<-Bool.not_eq_true,Nat.ble_eq];exact hk
   have h4:(ob (oCells (hget h A.block)) fun cl=>Bool.rec (appE h e i.size A l c n new cl) (appU h e i.size A l c n new cl) (Nat.ble (Nat.succ c) END))=some r:=by
    have:=h4
    simp only [hkb]at this
    exact this
   obtain⟨cl,h5,h6⟩:=ob_some.1 h4
   by_cases hE:c<END
   ·have hEb:Nat.ble (Nat.succ c) END=true:=by rw [Nat.ble_eq];exact hE
    rw [hEb]at h6
    have h6:appU h e i.size A l c n new cl=some r:=h6
    unfold appU at h6
    obtain⟨h7,h8⟩:=oif_some.1 h6
    simp only [Bool.and_eq_true,Nat.beq_eq]at h7
    obtain⟨hc,hce,hlo,hhi⟩:=h7
    rw [llen_eq]at h8
    cases hs with
    |pure hp=>exact Bool.noConfusion hp
    |slk _ hc _=>omega
    |sle _ _ _=>omega
    | @slu b o _ y c' k s N hb hz1 hl hN=>
     have hy:y=i.size:=by omega
     subst hy
     obtain⟨cur,fz,CC⟩:=H.cells_of hb h5
     have hcl:=CC.hl
     simp only at h5 h8
     by_cases hf:o+(l+n) * i.size<=cl.cs.length
     ·have hfb:Nat.ble (Nat.add o (Nat.mul (Nat.add l n) i.size)) cl.cs.length=true:=by rw [Nat.ble_eq];exact hf
      rw [hfb]at h8
      obtain⟨e1,e2⟩:=appIn_some h8 rfl
      have hroom:l+n<=c':=by
       have:(l+n) * i.size<=c' * i.size:=by omega
       exact Nat.le_of_mul_le_mul_right this hz1.1
      obtain⟨w',f1,f2,f3⟩:=app_in (ty:=ty) C H hn hb e1 hroom
      exact⟨w',m,_,f1,f2,f3,by rw [e2];exact .slu hb hz1 hroom hN⟩
     ·have hfb:Nat.ble (Nat.add o (Nat.mul (Nat.add l n) i.size)) cl.cs.length=false:=by rw [<-Bool.not_eq_true,Nat.ble_eq];exact hf
      rw [hfb]at h8
      obtain⟨h9,h10⟩:=oif_some.1 (show oif (cl.g&&Nat.beq (Nat.add o (Nat.mul l i.size)) cl.cs.length) (appNew h (hput h b .dead) e cl.x i.size ⟨b,o,none⟩ l n new)=some r from h8)
      simp only [Bool.and_eq_true,Nat.beq_eq]at h9
      have hoL:o+l * i.size=cl.cs.length:=h9.2
      obtain⟨old,e1,e2⟩:=ob_some.1 (show(ob (loadN h ⟨b,o,none⟩ (l * i.size)) fun old=>grow (hput h b .dead) e cl.x i.size (l+n) (lapp old new))=some r from h10)
      by_cases hroom:l+n<=c'
      ·have hold:old=(cl.cs.drop o).take (l * i.size):=by
        unfold loadN at e1
        obtain⟨q,e3,e4⟩:=ob_some.1 e1
        rw [h5]at e3
        injection e3 with e3
        subst e3
        rw [ldrop_eq]at e4
        exact(ltake_some e4).1
       have hmul:l * i.size+n * i.size+(c' - (l+n)) * i.size=c' * i.size:=by
        rw [<-Nat.add_mul,<-Nat.add_mul];congr 1;omega
       obtain⟨w',f1,f2,f3⟩:=place_ok H hn hb h5 hoL ⟨hlo,hhi⟩ C.hnew hone (by omega)
       have hg:=e2
       unfold grow at hg
       obtain⟨-,h11⟩:=oif_some.1 hg
       injection h11 with h11
       subst h11
       refine⟨w',_,_,?_,by rw [lapp_eq,hold,<-hce];exact f2,by rw [lapp_eq,hold,<-hce];exact f3,.slu (upd_same _ _ _) hz1 hroom (by omega)⟩
       rw [app_fits C.h0 C.h1 C.ht C.htx C.hi C.hz C.hs C.src hroom ty]
       simp only [addr_add,Sem.run_bind,f1 P]
       simp only [Nat.add_zero]
       rfl
      ·obtain⟨l',g1,g2,g3⟩:=load_ok H hb e1
       obtain⟨K1,K2⟩:=H.kill (H.dom _ _ _ _ hb).1 hn (by rw [hb];exact fun e=>by cases e)
       obtain⟨w',m',v',f1,f2,f3,f4⟩:=app_new (ty:=ty) (A':=some ⟨k,s+o,none⟩) (l:=l) (c:=c') C K1 hn g1 (by rw [g1.len,g2]) hnl (old_run g2 g3 rfl P) e2 (by omega)
       exact⟨w',m',v',f1,f2,K2.trans f3,f4⟩
   ·have hEb:Nat.ble (Nat.succ c) END=false:=by rw [<-Bool.not_eq_true,Nat.ble_eq];exact hE
    rw [hEb]at h6
    have h6:appE h e i.size A l c n new cl=some r:=h6
    unfold appE at h6
    obtain⟨h7,h8⟩:=oif_some.1 h6
    simp only [Bool.and_eq_true,Nat.beq_eq]at h7
    obtain⟨hc,hce,hl0,hg,hoff,hlo,hhi⟩:=h7
    rw [llen_eq]at hoff
    subst hl0
    cases hs with
    |pure hp=>exact Bool.noConfusion hp
    |slk _ hc _=>omega
    |slu _ hz1 _ _=>unfold UNK END at *;omega
    | @sle b o y c' o' k s N hb hz1 hN=>
     have hy:y=i.size:=by omega
     subst hy
     simp only at h5 hoff
     obtain⟨cur,fz,CC⟩:=H.cells_of hb h5
     by_cases hroom:n<=c'
     ·have hN:o'=s+o/\o+c' * i.size=N:=by
       rcases hN with hN|hN
       ·omega
       ·exact hN
      obtain⟨rfl,hN⟩:=hN
      have hmul:n * i.size+(c' - n) * i.size=c' * i.size:=by
       rw [<-Nat.add_mul];congr 1;omega
      obtain⟨w',f1,f2,f3⟩:=place_ok H hn hb h5 (o:=o) (L:=0) (by omega) ⟨hlo,hhi⟩ C.hnew hone (by omega)
      have hg:=h8
      unfold grow at hg
      obtain⟨-,h11⟩:=oif_some.1 hg
      injection h11 with h11
      subst h11
      rw [List.take_zero,List.nil_append]at f2 f3
      refine⟨w',_,_,?_,by rw [<-hce];exact f2,by rw [<-hce];exact f3,.slu (upd_same _ _ _) hz1 hroom (by omega)⟩
      rw [app_fits C.h0 C.h1 C.ht C.htx C.hi C.hz C.hs C.src (by omega) ty]
      simp only [addr_add,Sem.run_bind,Nat.zero_mul,f1 P]
      rw [Nat.zero_add]
      rfl
     ·obtain⟨K1,K2⟩:=H.kill (H.dom _ _ _ _ hb).1 hn (by rw [hb];exact fun e=>by cases e)
      obtain⟨w',m',v',f1,f2,f3,f4⟩:=app_new (ty:=ty) C K1 hn (l:=0) (old:=[]) (old':=[]) (A':=some ⟨k,o',none⟩) (c:=c') .nil (by simp) hnl (fun w' _=>by simp [Builtin.firstCells,loadCells,loadCellsFrom]) (by rw [Nat.zero_add];exact h8) (by omega)
      exact⟨w',m',v',f1,f2,K2.trans f3,f4⟩
end
open Go Go.RowKit
set_option linter.unusedVariables false
set_option linter.unusedSimpArgs false
def BltR (P:Program) (base:Nat) (w0:World) (s:Sem Value) (w:World) (m:Mp) (h:H) (r:ANext×H):Prop:=
 ∃w' m' v',s.run P w= .ok v' w'/\HR base w0 m' r.2 w'/\Ext h.nx m h m' r.2/\NR m' r.1 (.value v')
section
variable {T : Tab} {base : Nat} {w0 w w' : World} {m m' : Mp} {h h' : H} {b k s n N sz : Nat} {tm : Tr Value} {a : Act} {o : Oper} {v v' : Value}
theorem elemT_some (ok:TabOK T) {ts:Array TypeId} {q:TypeId×TI} (h:elemT T ts.toList=some q): ∃t info,ts[0]? =some t/\T.P.underlying t=some (.slice q.1)/\T.P.info? q.1=some info/\info.size=q.2.size/\info.bytes=q.2.bytes/\ ∀z,q.2.zero=some z->info.zero=some z/\pureV z=true/\(cellsL z).length=q.2.size:=by
 obtain⟨t,h1,h2⟩:=ob_some.1 (show(ob (lnth ts.toList 0) fun t=>ob (ti T t) fun i=>ob (sliceE i.und) fun e=>ob (ti T e) fun j=>some (e,j))=some q from h)
 obtain⟨i,h3,h4⟩:=ob_some.1 h2
 obtain⟨e,h5,h6⟩:=ob_some.1 h4
 obtain⟨j,h7,h8⟩:=ob_some.1 h6
 injection h8 with h8
 subst h8
 rw [lnth_eq]at h1
 obtain⟨info,q1,q2,-⟩:=ok.at h3
 obtain⟨info',p1,p2,p3,p4,p5,p6⟩:=ok.at h7
 rw [sliceE_some h5]at q2
 exact⟨t,info',by simpa using h1,q2,p1,p3,p4,p6⟩
theorem VR.le_of {A:Option Addr} {l c:Nat} (h:VR m (.slice A l c) v'): ∃A' c',v'= .slice A' l c'/\l<=c':=by
 cases h with
 |pure h=>
  cases A with
  |some A=>exact Bool.noConfusion h
  |none=>
   have:(Nat.beq c 0&&Nat.beq l 0)=true:=h
   simp only [Bool.and_eq_true,Nat.beq_eq]at this
   exact⟨_,_,rfl,by omega⟩
 |slk h _ hl=>exact⟨_,_,rfl,hl⟩
 |slu h _ hl _=>exact⟨_,_,rfl,hl⟩
 |sle h _ _=>exact⟨_,_,rfl,Nat.zero_le _⟩
theorem src_zero {x x':Value} (hx:VR m x x') (hl:lenV x=some 0) (P:Program) (sz:Nat):(∀w',(Builtin.lenOf x').run P w'= .ok 0 w')/\ ∀w',(Builtin.firstCells sz 0 x').run P w'= .ok #[] w':=by
 unfold lenV at hl
 cases hv:vSl x with
 |none=>
  rw [hv]at hl
  obtain⟨S,h1,h2⟩:=ob_some.1 (show(ob (vStr x) fun s=>some s.size)=some 0 from hl)
  injection h2 with h2
  have:=vStr_some h1
  subst this
  rw [hx.str_of]
  exact⟨fun w'=>by simp [Builtin.lenOf,h2],fun w'=>by simp [Builtin.firstCells]⟩
 |some p=>
  rw [hv]at hl
  have:=vSl_some hv
  subst this
  injection hl with hl
  obtain⟨A',c',rfl,-⟩:=hx.le_of
  refine⟨fun w'=>by simp [Builtin.lenOf,hl],fun w'=> ?_⟩
  cases A'<;>simp [Builtin.firstCells,loadCells,loadCellsFrom]
theorem app_zero {P:Program} {ts:Array TypeId} {t tx ty e:TypeId} {d:TypeDesc} {i:TypeInfo} {z x' sv sv':Value} {new new':List Value} (C:AppC P w m ts t tx e d i z 0 x' [] []) (H:HR base w0 m h w) (hs:VR m sv sv') {r:Value×Ev.H} (hr:(ob (vSl sv) fun _=>some (sv,h))=some r):AppR P base w0 ts ty sv' x' w m h r:=by
 obtain⟨p,h1,h2⟩:=ob_some.1 hr
 injection h2 with h2
 subst h2
 have:=vSl_some h1
 subst this
 obtain⟨A',c',e1,e2⟩:=hs.le_of
 refine⟨w,m,sv',?_,H,Ext.refl _ _ _,hs⟩
 rw [e1,app_fits C.h0 C.h1 C.ht C.htx C.hi C.hz C.hs C.src (by omega) ty]
 cases A'<;>simp [storeCells]
theorem e_append_ok (ok:TabOK T) (H:HR base w0 m h w) (hn:h.nx<=8 * TOP) {ts:Array TypeId} {vs:List Value} {xs:Array Value} (hl:LR m vs xs.toList) {r:ANext×Ev.H} (hr:e_append T h ts.toList vs=some r) (ty:TypeId):BltR T.P base w0 (Builtin.append_ ts ty xs) w m h r:=by
 unfold e_append at hr
 obtain⟨q,h1,h2⟩:=ob_some.1 hr
 obtain⟨p,h3,h4⟩:=ob_some.1 h2
 obtain⟨K,h5,h6⟩:=ob_some.1 h4
 obtain⟨z,hz,h6⟩:=ob_some.1 h6
 obtain⟨h7,h8⟩:=oif_some.1 h6
 obtain⟨R,h9,h10⟩:=ob_some.1 h8
 injection h10 with h10
 subst h10
 have hby:q.2.bytes<=100000:=Nat.le_of_ble_eq_true h7
 rw [l2_some]at h3
 subst h3
 obtain⟨s',x',rfl,hs,hx⟩:=arr2 hl
 obtain⟨t,info,q1,q2,q3,q4,q5,q6⟩:=elemT_some ok h1
 obtain⟨tx,g1,g2⟩:=ob_some.1 h5
 rw [lnth_eq]at g1
 obtain⟨info',r1,r2,-⟩:=ok.at g2
 obtain⟨z1,z2,z3⟩:=q6 z hz
 have zs:z.cells.size=info.size:=by rw [q4,<-z3,cellsL_eq,Array.length_toList]
 suffices hh:AppR T.P base w0 ts ty s' x' w m h R by
  obtain⟨w',m',v',e1,e2,e3,e4⟩:=hh
  exact⟨w',m',v',e1,e2,e3,.val e4⟩
 cases hss:isSS K.und with
 |true=>
  rw [hss]at h9
  have h9:app1 h q.1 q.2 p.1 p.2=some R:=h9
  unfold app1 at h9
  obtain⟨n,e1,e2⟩:=ob_some.1 h9
  have hd:K.und= .string\/ ∃e',K.und= .slice e':=by
   cases hu:K.und<;>rw [hu]at hss<;>first|exact .inl rfl|exact .inr ⟨_,rfl⟩|cases hss
  by_cases h0:n=0
  ·subst h0
   obtain⟨f1,f2⟩:=src_zero hx e1 T.P info.size
   exact app_zero (new:=[]) (new':=[]) ⟨by simpa using q1,by simpa using g1,q2,r2,q3,z1,zs,.inl ⟨hd,f1,fun w' _=>f2 w'⟩,.nil,by omega⟩ H hs e2
  ·obtain⟨j,rfl⟩: ∃j,n=j+1:=⟨n - 1,by omega⟩
   obtain⟨new,e3,e4⟩:=ob_some.1 (show(ob (srcN h q.2.size (j+1) p.2) fun new=>appTo h q.1 q.2.size p.1 (j+1) new)=some R from e2)
   obtain⟨new',f1,f2,f3⟩:=srcN_ok H hx e1 (Nat.le_refl _) e3
   rw [<-q4]at e4 f3
   exact appTo_ok ⟨by simpa using q1,by simpa using g1,q2,r2,q3,z1,zs,.inl ⟨hd,f2 T.P,f3 T.P⟩,f1,by omega⟩ H hn (Nat.succ_pos j) hs e4
 |false=>
  rw [hss]at h9
  obtain⟨f0,h9⟩:=oif_some.1 (show oif (isInt K.und) (app2 h q.1 q.2 p.1 p.2)=some R from h9)
  have hd: ∃kd,K.und= .int kd:=by
   cases hu:K.und<;>rw [hu]at f0<;>first|exact⟨_,rfl⟩|cases f0
  unfold app2 at h9
  obtain⟨n,e1,e2⟩:=ob_some.1 h9
  obtain⟨zz,e3,e4⟩:=ob_some.1 e2
  obtain⟨e5,e6⟩:=oif_some.1 e4
  rw [hz]at e3
  injection e3 with e3
  subst e3
  have hn1:n<=100000:=Nat.le_of_ble_eq_true e5
  obtain⟨kd,hpx⟩:=vNat_some e1
  rw [hpx]at hx
  have hx':x'= .int kd (n:Int):=hx.int_of
  have hzr:LR m (cellsL z) (cellsL z):=(VR.of z2).cells
  have src: ∀j,j<=n->j=n->SrcR T.P w info z j K.und x' (List.replicate j (cellsL z)).flatten:=fun j hj e=> .inr ⟨hd,kd,by rw [hx',e],by omega,by omega,by rw [cellsL_eq]⟩
  by_cases h0:n=0
  ·subst h0
   exact app_zero (new:=[]) (new':=[]) ⟨by simpa using q1,by simpa using g1,q2,r2,q3,z1,zs,src 0 (Nat.le_refl _) rfl,.nil,by omega⟩ H hs e6
  ·obtain⟨j,rfl⟩: ∃j,n=j+1:=⟨n - 1,by omega⟩
   have e6:appTo h q.1 q.2.size p.1 (j+1) (rep (cellsL z) (j+1))=some R:=e6
   rw [<-q4]at e6
   exact appTo_ok ⟨by simpa using q1,by simpa using g1,q2,r2,q3,z1,zs,src _ (Nat.le_refl _) rfl,hzr.rep (j+1),by omega⟩ H hn (Nat.succ_pos j) hs e6
end
end Go.Ev

/- Packed tables: rows, each once. -/
import Derived.Test.YthlbjgabhpdbfaaGreatCTab
import Derived.Test.YthlbjgabhpdbfaaGreatCItem1
import Derived.Laws.BytesArg
namespace Go.Proofs.YthlbjgabhpdbfaaGreat
set_option linter.unusedVariables false
set_option linter.unusedSimpArgs false
open Go.RowKit Go.Maps
attribute [local irreducible] wpStill wpOne wpPh
def U16 (r:List Int):Prop:= ∀n∈r,0<=n/\n<65536
def bytesN (l:List Int):List Int:=l.flatMap fun n=>[n/256,n%256]
theorem bytesN_cons (x:Int) (l:List Int):bytesN (x::l)=x/256::x%256::bytesN l:=rfl
theorem bytesN_app (l r:List Int):bytesN (l++r)=bytesN l++bytesN r:=by unfold bytesN;rw [List.flatMap_append]
theorem bytesN_snoc (l:List Int) (x:Int):bytesN (l++[x])=bytesN l++[x/256,x%256]:=bytesN_app l [x]
theorem bytesN_len: ∀l:List Int,(bytesN l).length=l.length * 2
 |[]=>rfl
 |x::l=>by rw [bytesN_cons,List.length_cons,List.length_cons,bytesN_len l,List.length_cons];omega
theorem U16.cons {x:Int} {l:List Int} (h:U16 (x::l)):(0<=x/\x<65536)/\U16 l:=⟨h x (List.mem_cons_self ..),fun n hn=>h n (List.mem_cons_of_mem _ hn)⟩
theorem bytesN_byte: ∀{l:List Int},U16 l-> ∀b∈bytesN l,0<=b/\b<256
 |[],_,b,hb=>by cases hb
 |x::l,h,b,hb=>by
  rw [bytesN_cons]at hb
  have hx:=h.cons.1
  rcases List.mem_cons.1 hb with e|hb
  ·omega
  ·rcases List.mem_cons.1 hb with e|hb
   ·omega
   ·exact bytesN_byte h.cons.2 b hb
theorem bytesN_inj: ∀{l l':List Int},bytesN l=bytesN l'->l=l'
 |[],[],_=>rfl
 |[],y::r,h=>by rw [bytesN_cons]at h;cases h
 |x::r,[],h=>by rw [bytesN_cons]at h;cases h
 |x::r,y::t,h=>by
  rw [bytesN_cons,bytesN_cons]at h
  injection h with h1 h2
  injection h2 with h2 h3
  have e:x=y:=by omega
  rw [e,bytesN_inj h3]
theorem u8_inj {a b:Int} (ha:0<=a/\a<256) (hb:0<=b/\b<256) (e:UInt8.ofNat a.toNat=UInt8.ofNat b.toNat):a=b:=by
 have h:=congrArg UInt8.toNat e
 simp only [UInt8.toNat_ofNat']at h
 omega
theorem map_u8_inj: ∀{l l':List Int},(∀b∈l,0<=b/\b<256)->(∀b∈l',0<=b/\b<256)->(l.map fun n=>UInt8.ofNat n.toNat)=(l'.map fun n=>UInt8.ofNat n.toNat)->l=l'
 |[],[],_,_,_=>rfl
 |[],_::_,_,_,h=>by cases h
 |_::_,[],_,_,h=>by cases h
 |x::r,y::t,hx,hy,h=>by
  rw [List.map_cons,List.map_cons]at h
  injection h with h1 h2
  rw [u8_inj (hx x (List.mem_cons_self ..)) (hy y (List.mem_cons_self ..)) h1,map_u8_inj (fun b hb=>hx b (List.mem_cons_of_mem _ hb)) (fun b hb=>hy b (List.mem_cons_of_mem _ hb)) h2]
def ukey (r:List Int):Lit:= .string ((bytesN r).map fun n=>UInt8.ofNat n.toNat)
theorem ukey_inj {r r':List Int} (h:U16 r) (h':U16 r') (e:ukey r=ukey r'):r=r':=by
 unfold ukey at e
 injection e with e
 exact bytesN_inj (map_u8_inj (bytesN_byte h) (bytesN_byte h') e)
theorem ukey_some {r:List Int} (h:r.length<=70000):keyOf Tryz.prog 9 (.string (strOfNums (bytesN r)))=some (ukey r):=by
 have:=Go.WideMaps.keyOf_string_mk (P:=Tryz.prog) (s:=strOfNums (bytesN r)) Tryz.underlying9 (by
  have e:(strOfNums (bytesN r)).size=(bytesN r).length:=by unfold strOfNums;simp [ByteArray.size]
  rw [e,bytesN_len];unfold maxLen;omega)
 rw [this]
 unfold ukey strOfNums
 simp
structure NMap (D:DataW Unit) (R:List (List Int)):Prop where
 isMap:Maps.IsMap D
 has: ∀r,U16 r->(Maps.has D (ukey r)=true↔r∈R)
 at_: ∀r,U16 r->r∈R-> ∀z,D.atKey (ukey r) z= .lit (.int .i64 (plR R r))
theorem NMap.empty:NMap (.map []) []:=⟨Maps.isMap_empty,fun _ _=>by simp [Maps.has],fun _ _ h=>by cases h⟩
theorem plR_app {R:List (List Int)} {r x:List Int} (h:r∈R):plR (R++[x]) r=plR R r:=by
 induction R with
 |nil=>cases h
 |cons y R ih=>
  rw [List.cons_append]
  unfold plR
  by_cases e:y=r
  ·rw [if_pos e,if_pos e]
  ·rw [if_neg e,if_neg e,ih (by rcases List.mem_cons.1 h with h|h;exact absurd h.symm e;exact h)]
theorem plR_new {R:List (List Int)} {r:List Int} (h:r∉R):plR (R++[r]) r=R.length:=by
 induction R with
 |nil=>rw [List.nil_append];unfold plR;rw [if_pos rfl];rfl
 |cons y R ih=>
  rw [List.cons_append]
  unfold plR
  have hne: ¬y=r:=fun e=>h (by rw [e];exact List.mem_cons_self ..)
  rw [if_neg hne,ih (fun c=>h (List.mem_cons_of_mem _ c))];rfl
theorem NMap.put {D:DataW Unit} {R:List (List Int)} (h:NMap D R) {r:List Int} (hL: ∀q∈R,U16 q) (hr:U16 r) (hn:r∉R):NMap (D.put (ukey r) (.lit (.int .i64 R.length))) (R++[r]):=by
 have hkl:WideAt.IsKeyLit (ukey r):=by unfold ukey;simp [WideAt.IsKeyLit]
 refine⟨h.isMap.put _ _,fun t ht=> ?_,fun t ht hi z=> ?_⟩
 ·by_cases e:t=r
  ·subst e
   rw [Maps.has_put_same h.isMap hkl];simp
  ·rw [Maps.has_put_other (fun c=>e (ukey_inj ht hr c)),h.has t ht];simp [e]
 ·by_cases e:t=r
  ·subst e
   rw [Maps.atKey_put_same h.isMap hkl,plR_new hn]
  ·rw [Maps.atKey_put_other (fun c=>e (ukey_inj ht hr c))]
   have hi':t∈R:=by simpa [e]using hi
   rw [plR_app hi']
   exact h.at_ t ht hi' z
structure RowsT (V:World) (ow:Nat->Nat) (tb tm ta te B M:Nat) (A:Option Addr) (n c:Nat) (R:List (List Int)):Prop where
 hn:n=R.length
 oB:ow B=tb
 oM:ow M=tm
 blk:Blk V B 135 #[.map (some M),.slice A n c]
 map: ∃D:DataW Unit,V.ownsMap Tryz.prog 9 (plainElem Tryz.prog 3) M n D/\NMap D R
 row: ∃Z:List Value,Z.length=R.length/\Row V ow ta 137 1 A n c Z/\ ∀(j:Nat) z r,Z[j]? =some z->R[j]? =some r->RdU V (TF V ow (fun i=>i=te)) z r
 u16: ∀r∈R,U16 r
section
variable {V V' : World} {ow ow' : Nat -> Nat} {tb tm ta te B M : Nat} {A : Option Addr} {n c : Nat} {R : List (List Int)} {J : Nat -> Prop}
theorem RowsT.step (h:RowsT V ow tb tm ta te B M A n c R) (s:StL J V ow V' ow') (h1: ¬J tb) (h2: ¬J tm) (h3: ¬J ta) (h4: ¬J te):RowsT V' ow' tb tm ta te B M A n c R:=by
 obtain⟨D,m1,m2⟩:=h.map
 obtain⟨Z,r1,r2,r3⟩:=h.row
 have hlM:M<V.heap.size:=by obtain⟨es,clock,hb,_⟩:=m1;exact(Array.getElem?_eq_some_iff.1 hb).1
 exact⟨h.hn,(s.eq B h.blk.lt).trans h.oB,(s.eq M hlM).trans h.oM,h.blk.touch s.t (by rw [h.oB];exact h1),⟨D,s.t.ownsMap m1 (by rw [h.oM];exact h2),m2⟩,⟨Z,r1,r2.step s h3,fun j z r hz hr=>Rd.step (r3 j z r hz hr) s (fun i e=>by subst e;exact h4)⟩,h.u16⟩
end
theorem conv_own {w:World} {base:Nat} {A:Option Addr} {n c:Nat} {xs:List Int} (h:w.ownsRow base 5 1 (.slice A n c) n (xs.map (Value.int .u8))):(convert 74 9 (.slice A n c)).run Tryz.prog w= .ok (.string (strOfNums xs)) w:=by
 have hl:xs.length=n:=by have:=h.1;simpa using this
 rcases h.2 with⟨e,h0⟩|⟨g,cap,cur,e,-,hg,-,-,-,ht⟩
 ·simp only [Value.slice.injEq]at e
  obtain⟨rfl,rfl,rfl⟩:=e
  have:xs=[]:=List.eq_nil_of_length_eq_zero hl
  subst this
  rw [run_convert_bytes_nil w 74 5 Tryz.underlying74 Tryz.underlying5 0 0 9 Tryz.underlying9]
  rfl
 ·simp only [Value.slice.injEq]at e
  obtain⟨rfl,-,rfl⟩:=e
  obtain⟨A',n',c',hv,h1,h2,h3,hr⟩:=Rd.of_own h
  simp only [Value.slice.injEq]at hv
  obtain⟨e1,rfl,rfl⟩:=hv
  refine run_convert_bytes_arg w 74 5 Tryz.underlying74 Tryz.underlying5 g 0 n c xs hl (fun i hi=> ?_) 9 Tryz.underlying9
  obtain⟨b,off,hA,-,hcell⟩:=hr (by omega)
  rw [<-e1]at hA
  injection hA with hA
  injection hA with hA1 hA2
  subst hA1 hA2
  refine hcell i _ ?_
  rw [List.getElem?_map,List.getD_eq_getElem?_getD,List.getElem?_eq_getElem (by omega)];rfl
theorem Tryz.infoU8:(Tryz.prog.info? 5).map (fun i=>(i.zero,i.size,i.bytes))=some (some (.int .u8 0),1,1):=by kernel_rfl
theorem Tryz.elemU8:Elem Tryz.prog 74 5 (.int .u8 0) 1 1:=⟨Tryz.underlying74,Tryz.infoU8,rfl,by decide⟩
theorem Tryz.infoRU:(Tryz.prog.info? 137).map (fun i=>(i.zero,i.size,i.bytes))=some (some (.slice none 0 0),1,24):=by kernel_rfl
theorem Tryz.elemRU:Elem Tryz.prog 50 137 (.slice none 0 0) 1 24:=⟨Tryz.underlying50,Tryz.infoRU,rfl,by decide⟩
theorem make_bytes (m:Nat) (hm:m<=1000000) (w:World):(Instr.makeSlice 74 (.int .i64 0) (.int .i64 (m:Int))).run Tryz.prog w= .ok (.slice (some ⟨w.heap.size,0,none⟩) 0 m) (w.alloc (.cells (madeCells #[.int .u8 0] m) 5)):=by
 obtain⟨i,hi,hz,hsize,hby⟩:=info_parts Tryz.infoU8
 have hr:=run_make (P:=Tryz.prog) w 74 5 i _ Tryz.underlying74 hi hz .i64 .i64 0 m (by omega) (by omega) (by rw [hby];omega) (by omega)
 simp only [Int.toNat_natCast]at hr
 rw [hr,hsize,Nat.mul_one];rfl
theorem own_made (w:World) (m:Nat) (hm:m<=1000000):(w.alloc (.cells (madeCells #[.int .u8 0] m) 5)).ownsRow w.heap.size 5 1 (.slice (some ⟨w.heap.size,0,none⟩) 0 m) 0 ((bytesN []).map (Value.int .u8)):=
 ⟨rfl,.inr ⟨w.heap.size,m,madeCells #[.int .u8 0] m,rfl,Nat.le_refl _,Blk.new _ _ _,Nat.zero_le _,by unfold maxLen;omega,by unfold madeCells;simp,by simp [bytesN]⟩⟩
theorem wrap_u8 {x:Int} (h0:0<=x) (h1:x<65536):IntKind.u8.wrap (x/256)=x/256/\IntKind.u8.wrap x=x%256:=by
 simp [IntKind.wrap,IntKind.bits,IntKind.signed]
 omega
def PuPost (V:World) (ow:Nat->Nat) (tb tm ta te B M:Nat) (R:List (List Int)) (x:List Int) (e:Ending) (V':World):Prop:=e= .returned (.int .i64 ((plR R x:Nat):Int))/\ ∃ow' A' n' c',StL (fun i=>i=tb\/i=tm\/i=ta) V ow V' ow'/\RowsT V' ow' tb tm ta te B M A' n' c' (putR R x)
set_option maxRecDepth 100000 in
set_option maxHeartbeats 4000000 in
theorem pack_put {V:World} {ow:Nat->Nat} {tb tm ta te B M:Nat} {A:Option Addr} {n c:Nat} {R:List (List Int)} (h:RowsT V ow tb tm ta te B M A n c R) (hd:tb≠tm/\tb≠ta/\tb≠te/\tm≠ta/\tm≠te/\ta≠te) {v:Value} {x:List Int} (hx:RdU V (TF V ow (fun i=>i=te)) v x) (hu:U16 x) (hl:x.length<=70000) (hR:n<=100000):
  Calls Tryz.prog 82 #[PtB B,v] V (PuPost V ow tb tm ta te B M R x):=by
 obtain⟨Ax,nx,cx,rfl,-⟩:=id hx
 obtain⟨hnx,hxc,hxm,-⟩:=RdU.at_ hx
 unfold maxLen at hxm
 have hBl:=h.blk.lt
 obtain⟨m2,hm2⟩: ∃m2:Nat,m2=nx * 2:=⟨_,rfl⟩
 have hwm:IntKind.i64.wrap (2 * (nx:Int))=(m2:Int):=by rw [IntKind.wrap_i64];omega
 have hmk:=fun W=>make_bytes m2 (by omega) W
 have hon:=own_made V m2 (by omega)
 obtain⟨V1,hV1⟩: ∃x,x=V.alloc (.cells (madeCells #[.int .u8 0] m2) 5):=⟨_,rfl⟩
 rw [<-hV1]at hon
 have b1:Below V.heap.size V V1:=by rw [hV1];exact(Below.refl _ _).alloc (Nat.le_refl _) _
 rw [<-hnx]at hl
 have hk:=ukey_some (r:=x) (by omega)
 generalize madeCells #[.int .u8 0] m2=mc at *
 obtain⟨Xh,Xhx,Xhu,Xhnx,Xhm2,Xhon,XhBl,Xhd,Xhk,Xb1⟩:=HqZ10 h hx hu hnx hm2 hon hBl hd hk b1;clear h hx hu hnx hm2 hon hBl hd hk b1
 go_enter Tryz.func82,Tryz.ntmps82
 go_wp2_with fail
 rw [<-hV1]
 go_loopw [5,17] (fun ov iv wr=> ∃(k c:Nat) (A:Option Addr),k<=nx/\ov= .slice A (k * 2) c/\iv= .int .i64 (k:Int)/\Below V.heap.size V wr/\wr.ownsRow V.heap.size 5 1 (.slice A (k * 2) c) (k * 2) ((bytesN (x.take k)).map (Value.int .u8))) (fun _ iv _=>nx - (intOf iv).toNat)
 case atStart=>exact⟨0,m2,some ⟨V.heap.size,0,none⟩,Nat.zero_le _,rfl,rfl,Xb1.out,Xhon.out⟩
 case round=>
  clear Xhon hV1 Xb1
  obtain⟨k,cb,Ab,hk,rfl,rfl,le,own⟩:=hrel
  by_cases hlk:k<nx
  ·have hlk':(k:Int)<(nx:Int):=by omega
   obtain⟨a,ha⟩: ∃a,x[k]? =some a:=⟨_,List.getElem?_eq_getElem (by rw [<-Xhnx.out];exact hlk)⟩
   obtain⟨a0,a1⟩:=Xhu.out a (List.mem_of_getElem? ha)
   obtain⟨-,-,-,hcell⟩:=RdU.at_ (Rd.below Xhx.out le (fun b hb=>hb.1))
   obtain⟨b4,o4,rfl,-,hcc⟩:=hcell (by omega)
   have p0:=hcc k a ha
   obtain⟨hw1,hw2⟩:=wrap_u8 a0 a1
   have hnb:(bytesN (x.take k)).map (Value.int .u8)++[.int .u8 (a/256),.int .u8 (a%256)]=(bytesN (x.take (k+1))).map (Value.int .u8):=by rw [take_next ha,bytesN_snoc,List.map_append];rfl
   have al7:Below wr.heap.size wr (wr.alloc (.cells #[.int .u8 (a/256),.int .u8 (a%256)] 5)):=(Below.refl _ _).alloc (Nat.le_refl _) _
   have own7:=own_below' own al7
   have le7:=le.trans (al7.mono le.size)
   have rtwo:Rd (wr.alloc (.cells #[.int .u8 (a/256),.int .u8 (a%256)] 5)) (fun x=>x=wr.heap.size) (.slice (some ⟨wr.heap.size,0,none⟩) 2 2) 1 [.int .u8 (a/256),.int .u8 (a%256)]:=Rd.of_blk (F:=fun b=>b=wr.heap.size) (us:=[.int .u8 (a/256),.int .u8 (a%256)]) (n:=2) (Blk.new _ _ _) rfl rfl (by decide)
   obtain⟨us,hus⟩: ∃q,q=(bytesN (x.take k)).map (Value.int .u8):=⟨_,rfl⟩
   rw [<-hus]at own7 hnb
   clear hus hcell hcc ha al7 own le
   obtain⟨Xown7,Xle7,Xrtwo,Xhnb⟩:=HqZ4 own7 le7 rtwo hnb;clear own7 le7 rtwo hnb
   go_wp2_with (at_builtin;refine wp_append _ rfl (.tmp 21) (.tmp 27) _ rfl Tryz.elemU8 V.heap.size (.slice Ab (k * 2) cb) (k * 2) _ rfl Xown7.out _ _ [.int .u8 (a/256),.int .u8 (a%256)] 2 rfl rfl Xrtwo.out (by simp [Value.oneCell']) (by unfold maxLen;omega) (by omega) Xle7.out.size ?_)
   intro A8 c8 w8 own8 g8 hb8
   rw [Xhnb.out]at own8
   have le8:=Xle7.out.grown g8 Xle7.out.size (fun q hq=>(World.ownsRow.lt Xown7.out q hq).1)
   rw [show k * 2+2=(k+1) * 2 by omega]at own8⊢
   clear g8 hb8 Xown7 Xle7 Xrtwo Xhnb
   obtain⟨Xown8,Xle8⟩:=HqZ2 own8 le8;clear own8 le8
   go_wp2_with fail
   go_roundw
   case rel=>exact⟨k+1,c8,A8,by omega,rfl,by go_num,Xle8.out,Xown8.out⟩
   case measure=>simp [intOf];omega
  ·have hlk': ¬(k:Int)<(nx:Int):=by omega
   obtain rfl:nx=k:=by omega
   rw [List.take_of_length_le (by rw [<-Xhnx.out];exact Nat.le_refl _)]at own
   have hconv:=conv_own own
   have hkey:=Xhk.out
   obtain⟨ow1,how1⟩: ∃q,q=ext V ow ta:=⟨_,rfl⟩
   have s1:StL (fun _=>False) V ow wr ow1:=by rw [how1];exact StL.new _ le ow ta
   have h1:=Xh.out.step s1 id id id id
   have hx1:=Rd.step Xhx.out s1 (fun _ _ e=>e)
   obtain⟨D,a1,a2⟩:=h1.map
   have q0:=(h1.blk.cell 0).trans rfl
   have hh:=a2.has x Xhu.out
   by_cases hin:x∈R
   ·have hyes:=hh.2 hin
    have hat:=a2.at_ x Xhu.out hin
    obtain⟨pl,hpl⟩: ∃q,q=plR R x:=⟨_,rfl⟩
    rw [<-hpl]at hat
    clear hh own le hx1
    obtain⟨Xh1,Xhat,Xhpl,Xhin,Xs1,Xhow1⟩:=HqZ6 h1 hat hpl hin s1 how1;clear h1 hat hpl hin s1 how1
    go_wp2_with (at_lookup;refine wpList_lookup_own_ok_int _ rfl _ _ 120 rfl 9 3 .i64 Tryz.strKeyd Tryz.underlying120 Tryz.underlying3 (Tryz.zeroInt _) _ _ D rfl a1 _ _ rfl hkey ?_;intro cc hat' hwc)
    have hcv:cc=(pl:Int):=by
     rw [Xhat.out]at hat'
     injection hat' with e
     injection e with _ e
     exact e.symm
    subst hcv
    clear hat'
    go_wp2_with fail
    go_ret
    exact⟨ret_int (by rw [Xhpl.out]),ow1,A,n,c,Xs1.out.mono (fun _ e=>e.elim),by rw [putR_yes Xhin.out];exact Xh1.out⟩
   ·have hno:Maps.has D (ukey x)=false:=by rw [Bool.eq_false_iff];exact fun e=>hin (hh.1 e)
    have sd:StL (fun _=>False) wr ow1 wr.drew ow1:=⟨Touch.of_size ((Below.refl _ wr).drew) _,fun _ _=>rfl⟩
    have h2:=h1.step sd id id id id
    have hx2:=Rd.step hx1 sd (fun _ _ e=>e)
    have q1:=(h1.blk.cell 1).trans rfl
    have a1d:wr.drew.ownsMap Tryz.prog 9 (plainElem Tryz.prog 3) M n D:=a1
    have hwfn:(Lit.int .i64 (n:Int)).wf=true:=wf_i64_mk (by omega)
    have hLl:n<maxLen:=by unfold maxLen;omega
    have hput:=a2.put h1.u16 Xhu.out hin
    rw [<-h1.hn]at hput
    have hpl:plR R x=n:=by rw [plR_no hin,h1.hn]
    clear hh a2 own le hx1
    obtain⟨Xh1,Xh2,Xhx2,Xhput,Xhpl,Xhin,Xs1,Xsd,Xhow1⟩:=HqZ9 h1 h2 hx2 hput hpl hin s1 sd how1;clear h1 h2 hx2 hput hpl hin s1 sd how1
    go_wp2_with (at_lookup;refine wpList_lookup_own_ok_int _ rfl _ _ 120 rfl 9 3 .i64 Tryz.strKeyd Tryz.underlying120 Tryz.underlying3 (Tryz.zeroInt _) _ _ D rfl a1 _ _ rfl hkey ?_;intro cc hat hwc)
    clear hat hwc a1 hno
    refine region_tail 10 (by kernel_rfl) (by kernel_rfl) ?_
    simp only [List.take_succ_cons,List.take_zero,List.drop_succ_cons,List.drop_zero]
    repeat still_step
    refine wpStill_nil ?_
    go_wp2_with (at_mapUpdate;refine wpList_mapUpdate_own _ rfl _ _ _ 120 rfl 9 3 Tryz.strKeyd Tryz.underlying120 _ M n D rfl a1d hLl _ _ _ rfl rfl hkey _ [] (plainElem_int Tryz.underlying3 hwfn) ?_)
    intro w2 m2' g2
    obtain⟨d1,d2,d3,d4,d5,d6⟩:=Xhd.out
    have h2:=Xh2.out
    have s2:StL (fun i=>i=tm) wr.drew ow1 w2 (ext wr.drew ow1 ta):=StL.ext ((Touch.refl _ _).grown g2 (fun b e _=>by injection e with e;subst e;exact h2.oM)) ta
    obtain⟨ow2,how2⟩: ∃q,q=ext wr.drew ow1 ta:=⟨_,rfl⟩
    rw [<-how2]at s2
    obtain⟨Z,z1,z2,z3⟩:=h2.row
    have bk2:=h2.blk.touch s2.t (by rw [h2.oB];exact d1)
    have oB2:=(s2.eq B h2.blk.lt).trans h2.oB
    have hlM:M<wr.drew.heap.size:=by obtain⟨es,clock,hb,_⟩:=a1d;exact(Array.getElem?_eq_some_iff.1 hb).1
    have oM2:=(s2.eq M hlM).trans h2.oM
    have rw2:=z2.step s2 (fun e=>d4 e.symm)
    have hx2:=Rd.step Xhx2.out s2 (fun i e e'=>d5 (e'.symm.trans e))
    have z32:=fun(j:Nat) z r hz hr=>Rd.step (z3 j z r hz hr) s2 (fun i e e'=>d5 (e'.symm.trans e))
    have q1:=(bk2.cell 1).trans rfl
    obtain⟨w7,hw7⟩: ∃q,q=w2.alloc (.cells #[.slice Ax nx cx] 137):=⟨_,rfl⟩
    have b7:Below w2.heap.size w2 w7:=by rw [hw7];exact(Below.refl _ _).alloc (Nat.le_refl _) _
    obtain⟨ow7,how7⟩: ∃q,q=ext w2 ow2 ta:=⟨_,rfl⟩
    have s7:StL (fun _=>False) w2 ow2 w7 ow7:=by rw [how7];exact StL.new _ b7 ow2 ta
    have rw7:=rw2.step s7 id
    have hx7:=Rd.step hx2 s7 (fun _ _ e=>e)
    have z37:=fun(j:Nat) z r hz hr=>Rd.step (z32 j z r hz hr) s7 (fun _ _ e=>e)
    have bk7:=bk2.below b7 bk2.lt
    have oB7:=(s7.eq B bk2.lt).trans oB2
    have hlM2:M<w2.heap.size:=Nat.lt_of_lt_of_le hlM s2.size
    have oM7:=(s7.eq M hlM2).trans oM2
    have m7:=s7.t.ownsMap m2' (fun e=>e)
    have own7:=rw7.own
    have hone:Rd w7 (fun b=>b=w2.heap.size) (.slice (some ⟨w2.heap.size,0,none⟩) 1 1) 1 [.slice Ax nx cx]:=by rw [hw7];exact Rd.one' (w:=w2) (e:=137) [.slice Ax nx cx] 1 rfl
    rw [hw7]at own7 hone
    clear q0 a1d hwfn z2 z3 rw2 hx2 z32 h2
    obtain⟨Xm2',Xg2,Xs2,Xhow2,Xbk2,Xown7,Xhone,Xs7,Xhow7,Xrw7,Xhx7,Xz37,Xbk7,Xm7⟩:=HqZ14 m2' g2 s2 how2 bk2 own7 hone s7 how7 rw7 hx7 z37 bk7 m7;obtain⟨Xz1,XoB2,XoM2,XoB7,XoM7,XhlM,XhlM2,Xb7,Xd1,Xd2,Xd3,Xd4,Xd5,Xd6⟩:=HqZ14 z1 oB2 oM2 oB7 oM7 hlM hlM2 b7 d1 d2 d3 d4 d5 d6;clear m2' g2 s2 how2 bk2 own7 hone s7 how7 rw7 hx7 z37 bk7 m7 z1 oB2 oM2 oB7 oM7 hlM hlM2 b7 d1 d2 d3 d4 d5 d6
    go_wp2_with (at_builtin;refine wp_append _ rfl (.tmp 57) (.tmp 59) _ rfl Tryz.elemRU 0 (.slice A n c) n _ rfl Xown7.out _ _ [.slice Ax nx cx] 1 rfl rfl Xhone.out (by simp [Value.oneCell']) (by unfold maxLen;omega) (by omega) (Nat.zero_le _) ?_)
    intro A8 c8 w8 own8 g8 hb8
    rw [<-hw7]at g8
    rw [show w2.heap.size+1=w7.heap.size by rw [hw7];simp]at hb8
    obtain⟨rw8,s8⟩:=Xrw7.out.app own8 g8 hb8
    obtain⟨ow8,how8⟩: ∃q,q=ext w7 ow7 ta:=⟨_,rfl⟩
    rw [<-how8]at rw8 s8
    have hx8:=Rd.step Xhx7.out s8 (fun i e e'=>Xd6.out (e'.symm.trans e))
    have z38:=fun(j:Nat) z r hz hr=>Rd.step (Xz37.out j z r hz hr) s8 (fun i e e'=>Xd6.out (e'.symm.trans e))
    have bk8:=Xbk7.out.touch s8.t (by rw [XoB7.out];exact Xd2.out)
    have oB8:=(s8.eq B Xbk7.out.lt).trans XoB7.out
    have oM8:=(s8.eq M (Nat.lt_of_lt_of_le XhlM2.out Xb7.out.size)).trans XoM7.out
    have m8:=s8.t.ownsMap Xm7.out (by rw [XoM7.out];exact Xd4.out)
    have bk9:=bk8.put 1 (.slice A8 (n+1) c8)
    have s9:StL (fun i=>i=tb) w8 ow8 (w8.setCell ⟨B,1,none⟩ (.slice A8 (n+1) c8)) ow8:=⟨(Touch.refl _ _).setCell (p:=⟨B,1,none⟩) (fun _=>oB8) _,fun _ _=>rfl⟩
    have hT:RowsT (w8.setCell ⟨B,1,none⟩ (.slice A8 (n+1) c8)) ow8 tb tm ta te B M A8 (n+1) c8 (putR R x):=by
     rw [putR_no Xhin.out]
     refine⟨by rw [List.length_append,<-Xh1.out.hn];rfl,oB8,oM8,bk9,⟨_,s9.t.ownsMap m8 (by rw [oM8];exact fun e=>Xd1.out e.symm),Xhput.out⟩,⟨Z++[.slice Ax nx cx],by rw [List.length_append,List.length_append,Xz1.out];rfl,rw8.step s9 (fun e=>Xd2.out e.symm),fun j z r hz hr=> ?_⟩,fun r hr=> ?_⟩
     ·by_cases hj:j<Z.length
      ·rw [List.getElem?_append_left hj]at hz
       rw [List.getElem?_append_left (by rw [<-Xz1.out];exact hj)]at hr
       exact Rd.step (z38 j z r hz hr) s9 (fun i e e'=>Xd3.out (e'.symm.trans e))
      ·have hj':j=Z.length:=by have:=(List.getElem?_eq_some_iff.1 hz).1;simp at this;omega
       subst hj'
       rw [List.getElem?_append_right (Nat.le_refl _),Nat.sub_self]at hz
       rw [List.getElem?_append_right (by rw [Xz1.out];exact Nat.le_refl _),Xz1.out,Nat.sub_self]at hr
       injection hz with hz
       injection hr with hr
       subst hz hr
       exact Rd.step hx8 s9 (fun i e e'=>Xd3.out (e'.symm.trans e))
     ·rcases List.mem_append.1 hr with hr|hr
      ·exact Xh1.out.u16 r hr
      ·rw [List.mem_singleton]at hr;subst hr;exact Xhu.out
    have sall:StL (fun i=>i=tb\/i=tm\/i=ta) V ow (w8.setCell ⟨B,1,none⟩ (.slice A8 (n+1) c8)) ow8:=
     ((((((Xs1.out.mono fun _ e=>e.elim).trans (Xsd.out.mono fun _ e=>e.elim)).trans (Xs2.out.mono fun _ e=> .inr (.inl e))).trans (Xs7.out.mono fun _ e=>e.elim)).trans (s8.mono fun _ e=> .inr (.inr e))).trans (s9.mono fun _ e=> .inl e))
    have q1:=(bk8.cell 1).trans rfl
    have f1:=bk8.frozen 1
    have q9:=(bk9.cell 1).trans rfl
    clear own8 g8 hb8 rw8 s8 z38 bk8 m8 bk9 s9 hx8 Xrw7 Xhx7 Xz37 Xbk7 Xm7 Xhone Xown7 hw7
    obtain⟨XhT,Xsall⟩:=HqZ2 hT sall;clear hT sall
    go_wp2_with fail
    go_ret
    exact⟨ret_int (by rw [Xhpl.out]),ow8,A8,n+1,c8,Xsall.out,XhT.out⟩
abbrev PV (vr:Value) (T N:Int) (vrow vrows vgow vgows:Value):Value:= .agg #[vr,.int .i64 T,.int .i64 N,vrow,vrows,vgow,vgows]
structure IsPack (w:World) (F:Nat->Prop) (vr vrow vrows vgow vgows:Value) (p:PackD):Prop where
 rules:RdL w F 2 (ERule w F) vr p.rules
 row:RdI w F vrow p.row
 rows:RdUs w F vrows p.rows
 gow:RdI w F vgow p.gow
 gows:RdUs w F vgows p.gows
 lt: ∀b,F b->b<w.heap.size
 tn:W64 p.terms/\W64 p.nons
 wr: ∀r∈p.rules,W64 r.1
 wrow: ∀x∈p.row,W64 x
 wgow: ∀x∈p.gow,W64 x
 u1: ∀r∈p.rows,U16 r
 u2: ∀r∈p.gows,U16 r
theorem IsPack.below {w w':World} {F:Nat->Prop} {vr vrow vrows vgow vgows:Value} {p:PackD} (h:IsPack w F vr vrow vrows vgow vgows p) (b:Below w.heap.size w w'):IsPack w' F vr vrow vrows vgow vgows p:=
 ⟨h.rules.below b h.lt fun cs x _ e=>e.below b h.lt,Rd.below h.row b h.lt,h.rows.below b h.lt,Rd.below h.gow b h.lt,h.gows.below b h.lt,fun k hk=>Nat.lt_of_lt_of_le (h.lt k hk) b.size,h.tn,h.wr,h.wrow,h.wgow,h.u1,h.u2⟩
theorem IsPack.touch {w w':World} {F S:Nat->Prop} {vr vrow vrows vgow vgows:Value} {p:PackD} (h:IsPack w F vr vrow vrows vgow vgows p) (t:Touch S w w') (hS: ∀b,F b-> ¬S b):IsPack w' F vr vrow vrows vgow vgows p:=
 ⟨h.rules.touch t hS fun cs x _ e=>by
  obtain⟨v,e1,e2⟩:=e
  exact⟨v,e1,Rd.touch e2 t hS⟩,Rd.touch h.row t hS,h.rows.touch t hS,Rd.touch h.gow t hS,h.gows.touch t hS,fun k hk=>Nat.lt_of_lt_of_le (h.lt k hk) t.size,h.tn,h.wr,h.wrow,h.wgow,h.u1,h.u2⟩
theorem RdL.mono {X:Type} {w:World} {F F':Nat->Prop} {k:Nat} {E E':List Value->X->Prop} {v:Value} {xs:List X} (h:RdL w F k E v xs) (hF: ∀b,F b->F' b) (hE: ∀cs x,E cs x->E' cs x):RdL w F' k E' v xs:=by
 obtain⟨A,c,hv,h1,h2,hr⟩:=h
 refine⟨A,c,hv,h1,h2,fun hn=> ?_⟩
 obtain⟨b,off,hA,hb,hcell⟩:=hr hn
 refine⟨b,off,hA,hF b hb,fun i x hx=> ?_⟩
 obtain⟨cs,e1,e2,e3⟩:=hcell i x hx
 exact⟨cs,e1,hE cs x e2,e3⟩
theorem IsPack.mono {w:World} {F F':Nat->Prop} {vr vrow vrows vgow vgows:Value} {p:PackD} (h:IsPack w F vr vrow vrows vgow vgows p) (hF: ∀b,F b->F' b) (hl: ∀b,F' b->b<w.heap.size):IsPack w F' vr vrow vrows vgow vgows p:=
 ⟨h.rules.mono hF fun cs x e=>by
  obtain⟨v,e1,e2⟩:=e
  exact⟨v,e1,Rd.mono e2 hF⟩,Rd.mono h.row hF,h.rows.mono hF,Rd.mono h.gow hF,h.gows.mono hF,hl,h.tn,h.wr,h.wrow,h.wgow,h.u1,h.u2⟩
theorem rdl_nil {X:Type} (w:World) (F:Nat->Prop) (k:Nat) (E:List Value->X->Prop):RdL w F k E (.slice none 0 0) []:=⟨none,0,rfl,Nat.le_refl _,by unfold maxLen;omega,fun h=>absurd h (by simp)⟩
theorem rdrw_nil {X:Type} (E:Value->X->Prop) (w:World) (F:Nat->Prop):RdRw E w F (.slice none 0 0) []:=⟨[],rfl,Rd.nil _ _ _,fun j z x h=>by simp at h⟩
theorem IsPack.none (w:World) (F:Nat->Prop) (hl: ∀b,F b->b<w.heap.size):IsPack w F (.slice none 0 0) (.slice none 0 0) (.slice none 0 0) (.slice none 0 0) (.slice none 0 0) noPack:=
 ⟨rdl_nil _ _ _ _,Rd.nil _ _ _,rdrw_nil _ _ _,Rd.nil _ _ _,rdrw_nil _ _ _,hl,by unfold W64 noPack;decide,fun r h=>(by cases h),fun r h=>(by cases h),fun r h=>(by cases h),fun r h=>(by cases h),fun r h=>(by cases h)⟩
theorem IsPack.slices {w:World} {F:Nat->Prop} {vr vrow vrows vgow vgows:Value} {p:PackD} (h:IsPack w F vr vrow vrows vgow vgows p): ∃A1 c1 A2 c2 A3 c3 A4 c4 A5 c5,vr= .slice A1 p.rules.length c1/\vrow= .slice A2 p.row.length c2/\vrows= .slice A3 p.rows.length c3/\vgow= .slice A4 p.gow.length c4/\vgows= .slice A5 p.gows.length c5/\
  (p.rules.length<=c1/\c1<=9223372036854775807)/\(p.row.length<=c2/\c2<=9223372036854775807)/\(p.rows.length<=c3/\c3<=9223372036854775807)/\(p.gow.length<=c4/\c4<=9223372036854775807)/\(p.gows.length<=c5/\c5<=9223372036854775807):=by
 obtain⟨A1,c1,e1,h1,m1,-⟩:=h.rules
 obtain⟨A2,n2,c2,e2,h2,m2,l2,-⟩:=h.row
 obtain⟨A3,c3,e3,h3,m3⟩:=RdRw.shape h.rows
 obtain⟨A4,n4,c4,e4,h4,m4,l4,-⟩:=h.gow
 obtain⟨A5,c5,e5,h5,m5⟩:=RdRw.shape h.gows
 rw [List.length_map,Nat.mul_one]at l2 l4
 subst l2 l4
 unfold maxLen at m1 m2 m3 m4 m5
 exact⟨A1,c1,A2,c2,A3,c3,A4,c4,A5,c5,e1,e2,e3,e4,e5,⟨h1,by omega⟩,⟨h2,by omega⟩,⟨h3,by omega⟩,⟨h4,by omega⟩,⟨h5,by omega⟩⟩
def LenT (t:TabD):Prop:=(∀r∈t.acts,r.length<=70000)/\ ∀r∈t.goto,r.length<=70000
def packO (t:TabD):PackD:=if fitT t=true then packT t else noPack
theorem nums_u16A {t:TabD} (h:fitT t=true): ∀r∈numsA t,U16 r:=fun r hr n hn=>by
 obtain⟨x,hx,rfl⟩:=List.mem_map.1 hr
 obtain⟨a,ha,rfl⟩:=List.mem_map.1 hn
 obtain⟨i,hi,e⟩:=List.getElem_of_mem hx
 have:=fit_act h (i:=i) (x:=x) (by rw [List.getElem?_eq_getElem hi,e]) ha
 unfold codeA
 omega
theorem nums_u16G {t:TabD} (h:fitT t=true): ∀r∈numsG t,U16 r:=fun r hr n hn=>by
 obtain⟨x,hx,rfl⟩:=List.mem_map.1 hr
 obtain⟨a,ha,rfl⟩:=List.mem_map.1 hn
 obtain⟨i,hi,e⟩:=List.getElem_of_mem hx
 have:=fit_way h (i:=i) (y:=x) (by rw [List.getElem?_eq_getElem hi,e]) ha
 omega
theorem packU_next {rs:List (List Int)} {j:Nat} {x:List Int} (h:rs[j]? =some x):packU (rs.take (j+1))=(putR (packU (rs.take j)).1 x,(packU (rs.take j)).2++[((plR (packU (rs.take j)).1 x:Nat):Int)]):=by rw [take_next h,packU_snoc];rfl
structure PkS (V0:World) (ow0:Nat->Nat) (V:World) (ow:Nat->Nat) (P Ba Ma Bg Mg:Nat) (A1:Option Addr) (R c1:Nat) (T N:Int) (Ar:Option Addr) (cr:Nat) (Ao:Option Addr) (co:Nat) (Aa:Option Addr) (na ca:Nat) (Ag:Option Addr) (ng cg j i:Nat) (t:TabD):Prop where
 st:StL (fun k=>k≠0) V0 ow0 V ow
 oP:ow P=1
 kP:Blk V P 52 #[.slice A1 R c1,.int .i64 T,.int .i64 N,.slice Ar j cr,.slice none 0 0,.slice Ao i co,.slice none 0 0]
 ra:RowsT V ow 2 3 4 5 Ba Ma Aa na ca (packU ((numsA t).take j)).1
 rg:RowsT V ow 6 7 8 9 Bg Mg Ag ng cg (packU ((numsG t).take i)).1
 rr:Row V ow 10 3 1 Ar j cr ((packU ((numsA t).take j)).2.map (Value.int .i64))
 ro:Row V ow 11 3 1 Ao i co ((packU ((numsG t).take i)).2.map (Value.int .i64))
section
variable {V0 V V' V6 V7 V8 V9 : World} {ow0 ow ow' ow6 ow7 ow8 : Nat -> Nat} {P Ba Ma Bg Mg : Nat} {A1 : Option Addr} {R c1 : Nat} {T N : Int} {Ar : Option Addr} {cr : Nat} {Ao : Option Addr} {co : Nat} {Aa : Option Addr} {na ca : Nat} {Ag : Option Addr} {ng cg j i : Nat} {t : TabD} {J : Nat -> Prop}
theorem PkS.step (h:PkS V0 ow0 V ow P Ba Ma Bg Mg A1 R c1 T N Ar cr Ao co Aa na ca Ag ng cg j i t) (s:StL (fun _=>False) V ow V' ow'):PkS V0 ow0 V' ow' P Ba Ma Bg Mg A1 R c1 T N Ar cr Ao co Aa na ca Ag ng cg j i t:=
 ⟨h.st.trans (s.mono fun _ e=>e.elim),(s.eq P h.kP.lt).trans h.oP,h.kP.touch s.t id,h.ra.step s id id id id,h.rg.step s id id id id,h.rr.step s id,h.ro.step s id⟩
theorem PkS.pushA {Aa':Option Addr} {na' ca':Nat} {x:List Int} {A9:Option Addr} {c9:Nat} (h:PkS V0 ow0 V6 ow6 P Ba Ma Bg Mg A1 R c1 T N Ar cr Ao co Aa na ca Ag ng cg j i t) (hx:(numsA t)[j]? =some x)
  (s7:StL (fun k=>k=2\/k=3\/k=4) V6 ow6 V7 ow7) (ra:RowsT V7 ow7 2 3 4 5 Ba Ma Aa' na' ca' (putR (packU ((numsA t).take j)).1 x)) (s8:StL (fun _=>False) V7 ow7 V8 ow8)
  (own:V9.ownsRow 0 3 1 (.slice A9 (j+1) c9) (j+1) ((packU ((numsA t).take j)).2.map (Value.int .i64)++[.int .i64 ((plR (packU ((numsA t).take j)).1 x:Nat):Int)])) (g:V8.grownBy V9 (Value.slice Ar j cr).ownBlock) (hb:(Value.slice A9 (j+1) c9).ownBlock=(Value.slice Ar j cr).ownBlock\/(Value.slice A9 (j+1) c9).ownBlock=some V8.heap.size):
  ∃ow9,PkS V0 ow0 (V9.setCell ⟨P,3,none⟩ (.slice A9 (j+1) c9)) ow9 P Ba Ma Bg Mg A1 R c1 T N A9 c9 Ao co Aa' na' ca' Ag ng cg (j+1) i t/\Blk V9 P 52 #[.slice A1 R c1,.int .i64 T,.int .i64 N,.slice Ar j cr,.slice none 0 0,.slice Ao i co,.slice none 0 0]:=by
 have rr8:=(h.rr.step s7 (by omega)).step s8 id
 obtain⟨rr9,s9⟩:=rr8.app own g hb
 have oP7:=(s7.eq P h.kP.lt).trans h.oP
 have kP7:=h.kP.touch s7.t (by rw [h.oP];omega)
 have oP8:=(s8.eq P kP7.lt).trans oP7
 have kP8:=kP7.touch s8.t id
 have oP9:=(s9.eq P kP8.lt).trans oP8
 have kP9:=kP8.touch s9.t (by rw [oP8];omega)
 obtain⟨ow9,how9⟩: ∃q,q=ext V8 ow8 10:=⟨_,rfl⟩
 rw [<-how9]at rr9 s9 oP9
 have s10:StL (fun k=>k=1) V9 ow9 (V9.setCell ⟨P,3,none⟩ (.slice A9 (j+1) c9)) ow9:=⟨(Touch.refl _ _).setCell (p:=⟨P,3,none⟩) (fun _=>oP9) _,fun _ _=>rfl⟩
 have hn:=packU_next hx
 refine⟨ow9,⟨((((h.st.trans (s7.mono fun k e=>by omega)).trans (s8.mono fun _ e=>e.elim)).trans (s9.mono fun k e=>by omega)).trans (s10.mono fun k e=>by omega)),oP9,kP9.put 3 _,?_,?_,?_,?_⟩,kP9⟩
 ·rw [hn]
  exact((ra.step s8 id id id id).step s9 (by omega) (by omega) (by omega) (by omega)).step s10 (by omega) (by omega) (by omega) (by omega)
 ·exact(((h.rg.step s7 (by omega) (by omega) (by omega) (by omega)).step s8 id id id id).step s9 (by omega) (by omega) (by omega) (by omega)).step s10 (by omega) (by omega) (by omega) (by omega)
 ·rw [hn,List.map_append]
  exact rr9.step s10 (by omega)
 ·exact(((h.ro.step s7 (by omega)).step s8 id).step s9 (by omega)).step s10 (by omega)
theorem PkS.pushG {Ag':Option Addr} {ng' cg':Nat} {x:List Int} {A9:Option Addr} {c9:Nat} (h:PkS V0 ow0 V6 ow6 P Ba Ma Bg Mg A1 R c1 T N Ar cr Ao co Aa na ca Ag ng cg j i t) (hx:(numsG t)[i]? =some x)
  (s7:StL (fun k=>k=6\/k=7\/k=8) V6 ow6 V7 ow7) (rg:RowsT V7 ow7 6 7 8 9 Bg Mg Ag' ng' cg' (putR (packU ((numsG t).take i)).1 x)) (s8:StL (fun _=>False) V7 ow7 V8 ow8)
  (own:V9.ownsRow 0 3 1 (.slice A9 (i+1) c9) (i+1) ((packU ((numsG t).take i)).2.map (Value.int .i64)++[.int .i64 ((plR (packU ((numsG t).take i)).1 x:Nat):Int)])) (g:V8.grownBy V9 (Value.slice Ao i co).ownBlock) (hb:(Value.slice A9 (i+1) c9).ownBlock=(Value.slice Ao i co).ownBlock\/(Value.slice A9 (i+1) c9).ownBlock=some V8.heap.size):
  ∃ow9,PkS V0 ow0 (V9.setCell ⟨P,5,none⟩ (.slice A9 (i+1) c9)) ow9 P Ba Ma Bg Mg A1 R c1 T N Ar cr A9 c9 Aa na ca Ag' ng' cg' j (i+1) t/\Blk V9 P 52 #[.slice A1 R c1,.int .i64 T,.int .i64 N,.slice Ar j cr,.slice none 0 0,.slice Ao i co,.slice none 0 0]:=by
 have ro8:=(h.ro.step s7 (by omega)).step s8 id
 obtain⟨ro9,s9⟩:=ro8.app own g hb
 have oP7:=(s7.eq P h.kP.lt).trans h.oP
 have kP7:=h.kP.touch s7.t (by rw [h.oP];omega)
 have oP8:=(s8.eq P kP7.lt).trans oP7
 have kP8:=kP7.touch s8.t id
 have oP9:=(s9.eq P kP8.lt).trans oP8
 have kP9:=kP8.touch s9.t (by rw [oP8];omega)
 obtain⟨ow9,how9⟩: ∃q,q=ext V8 ow8 11:=⟨_,rfl⟩
 rw [<-how9]at ro9 s9 oP9
 have s10:StL (fun k=>k=1) V9 ow9 (V9.setCell ⟨P,5,none⟩ (.slice A9 (i+1) c9)) ow9:=⟨(Touch.refl _ _).setCell (p:=⟨P,5,none⟩) (fun _=>oP9) _,fun _ _=>rfl⟩
 have hn:=packU_next hx
 refine⟨ow9,⟨((((h.st.trans (s7.mono fun k e=>by omega)).trans (s8.mono fun _ e=>e.elim)).trans (s9.mono fun k e=>by omega)).trans (s10.mono fun k e=>by omega)),oP9,kP9.put 5 _,?_,?_,?_,?_⟩,kP9⟩
 ·exact(((h.ra.step s7 (by omega) (by omega) (by omega) (by omega)).step s8 id id id id).step s9 (by omega) (by omega) (by omega) (by omega)).step s10 (by omega) (by omega) (by omega) (by omega)
 ·rw [hn]
  exact((rg.step s8 id id id id).step s9 (by omega) (by omega) (by omega) (by omega)).step s10 (by omega) (by omega) (by omega) (by omega)
 ·exact(((h.rr.step s7 (by omega)).step s8 id).step s9 (by omega)).step s10 (by omega)
 ·rw [hn,List.map_append]
  exact ro9.step s10 (by omega)
end
end Go.Proofs.YthlbjgabhpdbfaaGreat

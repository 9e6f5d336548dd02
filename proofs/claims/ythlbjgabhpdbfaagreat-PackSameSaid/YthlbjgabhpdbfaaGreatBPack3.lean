/- Packed tables: rows, each once. -/
import Derived.Test.YthlbjgabhpdbfaaGreatBTab2
import Derived.Test.YthlbjgabhpdbfaaGreatBAuto11
import Derived.Laws.BytesArg
set_option linter.unusedVariables false
set_option linter.unusedSimpArgs false
set_option maxRecDepth 100000
set_option maxHeartbeats 4000000
namespace Go.Proofs.YthlbjgabhpdbfaaGreat
open Go.Proofs.Tryz
open Int renaming eq_ofNat_of_zero_le->Za,toNat_natCast->Zb
open List renaming length_append->Zc,length_cons->Zd,map_append->Ze,map_cons->Zf,mem_cons->Zg,mem_cons_of_mem->Zh,mem_cons_self->Zi,mem_map->Zj,mem_of_getElem?->Zk
open Nat renaming le_refl->Zl,lt_of_lt_of_le->Zm,zero_le->Zn
open Go.RowKit Go.Maps
attribute [local irreducible] wpStill aB aO
def U16 (r:List Int):Prop:= ∀n∈r,0<=n/\n<65536
def dq (l:List Int):List Int:=l.flatMap λn=>[n/256,n%256]
theorem gR (x:Int) (l:List Int):dq (x::l)=x/256::x%256::dq l:=rfl
theorem AO (l r:List Int):dq (l++r)=dq l++dq r:=by unfold dq;rw [List.flatMap_append]
theorem yC (l:List Int) (x:Int):dq (l++[x])=dq l++[x/256,x%256]:=AO l [x]
theorem th: ∀a:List Int,(dq a).length=a.length * 2
 |[]=>rfl
 |x::a=>by rw [gR,Zd,Zd,th a,Zd];omega
theorem U16.cons {x:Int} {l:List Int} (h:U16 (x::l)):(0<=x/\x<65536)/\U16 l:=⟨h x (Zi ..),λn a=>h n (Zh _ a)⟩
theorem mX: ∀{l:List Int},U16 l-> ∀b∈dq l,0<=b/\b<256
 |[],_,b,a=>by cases a
 |x::l,h,b,a=>by
  rw [gR]at a;have d:=h.cons.1;rcases Zg.1 a with e|a
  ·omega
  ·rcases Zg.1 a with e|a
   ·omega
   ·exact mX h.cons.2 b a
theorem ti: ∀{l b:List Int},dq l=dq b->l=b
 |[],[],_=>rfl
 |[],y::r,h=>by rw [gR]at h;cases h
 |x::r,[],h=>by rw [gR]at h;cases h
 |x::r,y::t,h=>by
  rw [gR,gR]at h;injection h with f a
  injection a with a d
  have e:x=y:=by omega
  rw [e,ti d]
theorem F9 {a b:Int} (d:0<=a/\a<256) (f:0<=b/\b<256) (e:UInt8.ofNat a.toNat=UInt8.ofNat b.toNat):a=b:=by
 have h:=congrArg UInt8.toNat e;simp only [UInt8.toNat_ofNat']at h;omega
theorem sP: ∀{l d:List Int},(∀a∈l,0<=a/\a<256)->(∀a∈d,0<=a/\a<256)->(l.map λn=>UInt8.ofNat n.toNat)=(d.map λn=>UInt8.ofNat n.toNat)->l=d
 |[],[],_,_,_=>rfl
 |[],_::_,_,_,h=>by cases h
 |_::_,[],_,_,h=>by cases h
 |x::r,y::t,hx,hy,h=>by
  rw [Zf,Zf]at h;injection h with e f
  rw [F9 (hx x (Zi ..)) (hy y (Zi ..)) e,sP (λa b=>hx a (Zh _ b)) (λa b=>hy a (Zh _ b)) f]
def lq (r:List Int):Lit:= .string ((dq r).map λn=>UInt8.ofNat n.toNat)
theorem wD {r a:List Int} (h:U16 r) (b:U16 a) (e:lq r=lq a):r=a:=by
 unfold lq at e;injection e with e
 exact ti (sP (mX h) (mX b) e)
theorem Bs {r:List Int} (h:r.length<=70000):keyOf prog 9 (.string (strOfNums (dq r)))=some (lq r):=by
 have:=Go.WideMaps.keyOf_string_mk (P:=prog) (s:=strOfNums (dq r)) underlying9 (by
  have e:(strOfNums (dq r)).size=(dq r).length:=by unfold strOfNums;simp [ByteArray.size]
  rw [e,th];unfold maxLen;omega)
 rw [this];unfold lq strOfNums;simp
structure pi (D:DataW Unit) (R:List (List Int)):Prop where
 isMap:Maps.IsMap D
 has: ∀r,U16 r->(Maps.has D (lq r)=true↔r∈R)
 at_: ∀r,U16 r->r∈R-> ∀z,D.atKey (lq r) z= .lit (.int .i64 (plR R r))
theorem pi.empty:pi (.map []) []:=⟨Maps.isMap_empty,λ_ _=>by simp [Maps.has],λ_ _ h=>by cases h⟩
theorem Ez {R:List (List Int)} {r x:List Int} (h:r∈R):plR (R++[x]) r=plR R r:=by
 induction R with
 |nil=>cases h
 |cons b R a=>
  rw [List.cons_append];unfold plR;by_cases e:b=r
  ·rw [if_pos e,if_pos e]
  ·rw [if_neg e,if_neg e,a (by rcases Zg.1 h with h|h;exact absurd h.symm e;exact h)]
theorem Ey {R:List (List Int)} {r:List Int} (h:r∉R):plR (R++[r]) r=R.length:=by
 induction R with
 |nil=>rw [List.nil_append];unfold plR;rw [if_pos rfl];rfl
 |cons d R b=>
  rw [List.cons_append];unfold plR;have a: ¬d=r:=λe=>h (by rw [e];exact Zi ..)
  rw [if_neg a,b (λc=>h (Zh _ c))];rfl
theorem pi.put {D:DataW Unit} {R:List (List Int)} (h:pi D R) {r:List Int} (m: ∀k∈R,U16 k) (f:U16 r) (g:r∉R):pi (D.put (lq r) (.lit (.int .i64 R.length))) (R++[r]):=by
 have d:WideAt.IsKeyLit (lq r):=by unfold lq;simp [WideAt.IsKeyLit]
 refine⟨h.isMap.put _ _,λt a=> ?_,λt a hi l=> ?_⟩
 ·by_cases e:t=r
  ·subst e;rw [Maps.has_put_same h.isMap d];simp
  ·rw [Maps.has_put_other (λc=>e (wD a f c)),h.has t a];simp [e]
 ·by_cases e:t=r
  ·subst e;rw [Maps.atKey_put_same h.isMap d,Ey g]
  ·rw [Maps.atKey_put_other (λc=>e (wD a f c))];have b:t∈R:=by simpa [e]using hi
   rw [Ez b];exact h.at_ t a b l
structure jn (V:World) (ow:Nat->Nat) (tb tm ta te B M:Nat) (A:Option Addr) (n c:Nat) (R:List (List Int)):Prop where
 hn:n=R.length
 oB:ow B=tb
 oM:ow M=tm
 blk:Blk V B 135 #[.map (some M),.slice A n c]
 map: ∃D:DataW Unit,V.ownsMap prog 9 (plainElem prog 3) M n D/\pi D R
 row: ∃Z:List Value,Z.length=R.length/\Row V ow ta 137 1 A n c Z/\ ∀(j:Nat) z r,Z[j]? =some z->R[j]? =some r->RdU V (TF V ow (λi=>i=te)) z r
 u16: ∀r∈R,U16 r
section
variable {V V' : World} {ow ow' : Nat -> Nat} {tb tm ta te B M : Nat} {A : Option Addr} {n c : Nat} {R : List (List Int)} {J : Nat -> Prop}
theorem jn.step (h:jn V ow tb tm ta te B M A n c R) (s:StL J V ow V' ow') (f: ¬J tb) (g: ¬J tm) (k: ¬J ta) (l: ¬J te):jn V' ow' tb tm ta te B M A n c R:=by
 obtain⟨b,a,u⟩:=h.map;obtain⟨d,x,y,z⟩:=h.row;have o:M<V.heap.size:=by obtain⟨E,D,m,_⟩:=a;exact(Array.getElem?_eq_some_iff.1 m).1
 exact⟨h.hn,(s.eq B h.blk.lt).trans h.oB,(s.eq M o).trans h.oM,h.blk.touch s.t (by rw [h.oB];exact f),⟨b,s.t.ownsMap a (by rw [h.oM];exact g),u⟩,⟨d,x,y.step s k,λj C v r q=>Rd.step (z j C v r q) s (λi e=>by subst e;exact l)⟩,h.u16⟩
end
theorem DQ {w:World} {base:Nat} {A:Option Addr} {n c:Nat} {xs:List Int} (h:w.ownsRow base 5 1 (.slice A n c) n (xs.map (Value.int .u8))):(convert 74 9 (.slice A n c)).run prog w= .ok (.string (strOfNums xs)) w:=by
 have b:xs.length=n:=by have:=h.1;simpa using this
 rcases h.2 with⟨e,x⟩|⟨g,u,v,e,-,D,-,-,-,E⟩
 ·simp only [Value.slice.injEq]at e;obtain⟨rfl,rfl,rfl⟩:=e;have:xs=[]:=List.eq_nil_of_length_eq_zero b;subst this;rw [run_convert_bytes_nil w 74 5 underlying74 underlying5 0 0 9 underlying9];rfl
 ·simp only [Value.slice.injEq]at e;obtain⟨rfl,-,rfl⟩:=e;obtain⟨q,G,s,d,y,z,C,o⟩:=Rd.of_own h;simp only [Value.slice.injEq]at d;obtain⟨f,rfl,rfl⟩:=d;refine run_convert_bytes_arg w 74 5 underlying74 underlying5 g 0 n c xs b (λi hi=> ?_) 9 underlying9;obtain⟨r,H,a,-,m⟩:=o (by omega);rw [<-f]at a;injection a with a
  injection a with k l
  subst k l;refine m i _ ?_;rw [List.getElem?_map,List.getD_eq_getElem?_getD,List.getElem?_eq_getElem (by omega)];rfl
theorem infoU8:(prog.info? 5).map (λi=>(i.zero,i.size,i.bytes))=some (some (.int .u8 0),1,1):=by kernel_rfl
theorem elemU8:dZ prog 74 5 (.int .u8 0) 1 1:=⟨underlying74,infoU8,rfl,by decide⟩
theorem infoRU:(prog.info? 137).map (λi=>(i.zero,i.size,i.bytes))=some (some (.slice none 0 0),1,24):=by kernel_rfl
theorem elemRU:dZ prog 50 137 (.slice none 0 0) 1 24:=⟨underlying50,infoRU,rfl,by decide⟩
theorem A0 (m:Nat) (hm:m<=1000000) (w:World):(Instr.makeSlice 74 (.int .i64 0) (.int .i64 (m:Int))).run prog w= .ok (.slice (some ⟨w.heap.size,0,none⟩) 0 m) (w.alloc (.cells (madeCells #[.int .u8 0] m) 5)):=by
 obtain⟨i,hi,e,d,b⟩:=info_parts infoU8;have a:=run_make (P:=prog) w 74 5 i _ underlying74 hi e .i64 .i64 0 m (by omega) (by omega) (by rw [b];omega) (by omega);simp only [Zb]at a;rw [a,d,Nat.mul_one];rfl
theorem Dq (w:World) (m:Nat) (hm:m<=1000000):(w.alloc (.cells (madeCells #[.int .u8 0] m) 5)).ownsRow w.heap.size 5 1 (.slice (some ⟨w.heap.size,0,none⟩) 0 m) 0 ((dq []).map (Value.int .u8)):=
 ⟨rfl,.inr ⟨w.heap.size,m,madeCells #[.int .u8 0] m,rfl,Zl _,Blk.new _ _ _,Zn _,by unfold maxLen;omega,by unfold madeCells;simp,by simp [dq]⟩⟩
theorem Eo {x:Int} (a:0<=x) (b:x<65536):IntKind.u8.wrap (x/256)=x/256/\IntKind.u8.wrap x=x%256:=by
 simp [IntKind.wrap,IntKind.bits,IntKind.signed];omega
def wv (V:World) (ow:Nat->Nat) (tb tm ta te B M:Nat) (R:List (List Int)) (x:List Int) (e:Ending) (V':World):Prop:=e= .returned (.int .i64 ((plR R x:Nat):Int))/\ ∃ow' A' n' c',StL (λi=>i=tb\/i=tm\/i=ta) V ow V' ow'/\jn V' ow' tb tm ta te B M A' n' c' (gZ R x)
theorem wT {V:World} {ow:Nat->Nat} {tb tm ta te B M:Nat} {A:Option Addr} {n c:Nat} {R:List (List Int)} (h:jn V ow tb tm ta te B M A n c R) (cw:tb≠tm/\tb≠ta/\tb≠te/\tm≠ta/\tm≠te/\ta≠te) {v:Value} {x:List Int} (a9:RdU V (TF V ow (λi=>i=te)) v x) (cz:U16 x) (ev:x.length<=70000) (fh:n<=100000):
  Calls prog 82 #[PtB B,v] V (wv V ow tb tm ta te B M R x):=by
 obtain⟨X,k,ai,rfl,-⟩:=id a9;obtain⟨bz,fw,eE,-⟩:=RdU.at_ a9;unfold maxLen at eE;have ct:=h.blk.lt;obtain⟨C,cy⟩: ∃C:Nat,C=k * 2:=⟨_,rfl⟩;have fv:IntKind.i64.wrap (2 * (k:Int))=(C:Int):=by rw [IntKind.wrap_i64];omega
 have fn:=λdt=>A0 C (by omega) dt
 have bA:=Dq V C (by omega);obtain⟨ds,a5⟩: ∃x,x=V.alloc (.cells (madeCells #[.int .u8 0] C) 5):=⟨_,rfl⟩;rw [<-a5]at bA;have ck:Below V.heap.size V ds:=by rw [a5];exact(Below.refl _ _).alloc (Zl _) _
 rw [<-bz]at ev;have bt:=Bs (r:=x) (by omega);generalize madeCells #[.int .u8 0] C=fz at *;obtain⟨d1,cb,Z,b7,e3,b8,e1,d5,d6,b2⟩:=fp h a9 cz bz cy bA ct cw bt ck;clear h a9 cz bz cy bA ct cw bt ck
 go_enter func82,ntmps82
 go_wp2_with fail
 rw [<-a5]
 go_loopw [5,17] (λeG bP wr=> ∃(a c:Nat) (A:Option Addr),a<=k/\eG= .slice A (a * 2) c/\bP= .int .i64 (a:Int)/\Below V.heap.size V wr/\wr.ownsRow V.heap.size 5 1 (.slice A (a * 2) c) (a * 2) ((dq (x.take a)).map (Value.int .u8))) (λ_ bP _=>k - (intOf bP).toNat)
 case atStart=>exact⟨0,C,some ⟨V.heap.size,0,none⟩,Zn _,rfl,rfl,b2.out,b8.out⟩
 case round=>
  clear b8 a5 b2;obtain⟨a,ep,dr,bt,rfl,rfl,le,own⟩:=hrel;by_cases ew:a<k
  ·have ex:(a:Int)<(k:Int):=by omega
   obtain⟨d,a6⟩: ∃d,x[a]? =some d:=⟨_,List.getElem?_eq_getElem (by rw [<-b7.out];exact ew)⟩;obtain⟨en,L⟩:=Z.out d (Zk a6);obtain⟨-,-,-,cv⟩:=RdU.at_ (Rd.below cb.out le (λad bs=>bs.1));obtain⟨fb,fF,rfl,-,cu⟩:=cv (by omega);have fL:=cu a d a6;obtain⟨fs,ft⟩:=Eo en L;have bx:(dq (x.take a)).map (Value.int .u8)++[.int .u8 (d/256),.int .u8 (d%256)]=(dq (x.take (a+1))).map (Value.int .u8):=by rw [gj a6,yC,Ze];rfl
   have bi:Below wr.heap.size wr (wr.alloc (.cells #[.int .u8 (d/256),.int .u8 (d%256)] 5)):=(Below.refl _ _).alloc (Zl _) _;have G:=ah own bi;have cH:=le.trans (bi.mono le.size);have cT:Rd (wr.alloc (.cells #[.int .u8 (d/256),.int .u8 (d%256)] 5)) (λx=>x=wr.heap.size) (.slice (some ⟨wr.heap.size,0,none⟩) 2 2) 1 [.int .u8 (d/256),.int .u8 (d%256)]:=Rd.of_blk (F:=λad=>ad=wr.heap.size) (us:=[.int .u8 (d/256),.int .u8 (d%256)]) (n:=2) (Blk.new _ _ _) rfl rfl (by decide);obtain⟨f0,cA⟩: ∃f,f=(dq (x.take a)).map (Value.int .u8):=⟨_,rfl⟩;rw [<-cA]at G bx;clear cA cv cu a6 bi own le;obtain⟨K,aT,ch,b6⟩:=aA G cH cT bx;clear G cH cT bx
   go_wp2_with (at_builtin;refine aJ _ rfl (.tmp 21) (.tmp 27) _ rfl elemU8 V.heap.size (.slice dr (a * 2) ep) (a * 2) _ rfl K.out _ _ [.int .u8 (d/256),.int .u8 (d%256)] 2 rfl rfl ch.out (by simp [Value.oneCell']) (by unfold maxLen;omega) (by omega) aT.out.size ?_)
   intro y z w8 H Q al;rw [b6.out]at H;have cI:=aT.out.grown Q aT.out.size (λf eB=>(World.ownsRow.lt K.out f eB).1);rw [show a * 2+2=(a+1) * 2 by omega]at H⊢;clear Q al K aT ch b6;obtain⟨eg,ee⟩:=av H cI;clear H cI
   go_wp2_with fail
   go_roundw
   case rel=>exact⟨a+1,z,y,by omega,rfl,by go_num,ee.out,eg.out⟩
   case measure=>simp [intOf];omega
  ·have ex: ¬(a:Int)<(k:Int):=by omega
   obtain rfl:k=a:=by omega
   rw [List.take_of_length_le (by rw [<-b7.out];exact Zl _)]at own;have fi:=DQ own;have bu:=d6.out;obtain⟨E,an⟩: ∃f,f=ext V ow ta:=⟨_,rfl⟩;have s1:StL (λ_=>False) V ow wr E:=by rw [an];exact StL.new _ le ow ta
   have m:=d1.out.step s1 id id id id;have bO:=Rd.step cb.out s1 (λ_ _ e=>e);obtain⟨Y,L,a1⟩:=m.map;have eR:=(m.blk.cell 0).trans rfl;have a7:=a1.has x Z.out;by_cases r:x∈R
   ·have fx:=a7.2 r;have ak:=a1.at_ x Z.out r;obtain⟨eQ,S⟩: ∃f,f=plR R x:=⟨_,rfl⟩;rw [<-S]at ak;clear a7 own le bO;obtain⟨aS,d4,bd,bc,be,eb⟩:=aM m ak S r s1 an;clear m ak S r s1 an
    go_wp2_with (at_lookup;refine wpList_lookup_own_ok_int _ rfl _ _ 120 rfl 9 3 .i64 strKeyd underlying120 underlying3 (zeroInt _) _ _ Y rfl L _ _ rfl bu ?_;intro cm br cB)
    have es:cm=(eQ:Int):=by
     rw [d4.out]at br;injection br with e
     injection e with _ e
     exact e.symm
    subst es;clear br
    go_wp2_with fail
    go_ret
    exact⟨au (by rw [bd.out]),E,A,n,c,be.out.mono (λ_ e=>e.elim),by rw [rn bc.out];exact aS.out⟩
   ·have ey:Maps.has Y (lq x)=false:=(by rw [Bool.eq_false_iff];exact λe=>r (a7.1 e));have ba:StL (λ_=>False) wr E wr.drew E:=⟨aa.of_size ((Below.refl _ wr).drew) _,λ_ _=>rfl⟩;have o:=m.step ba id id id id;have ap:=Rd.step bO ba (λ_ _ e=>e);have cS:=(m.blk.cell 1).trans rfl;have bh:wr.drew.ownsMap prog 9 (plainElem prog 3) M n Y:=L;have cC:(Lit.int .i64 (n:Int)).wf=true:=ii (by omega);have er:n<maxLen:=(by unfold maxLen;omega);have bG:=a1.put m.u16 Z.out r;rw [<-m.hn]at bG;have S:plR R x=n:=(by rw [wm r,m.hn]);clear a7 a1 own le bO;obtain⟨aS,d2,ed,ec,bd,bc,be,em,eb⟩:=dQ m o ap bG S r s1 ba an;clear m o ap bG S r s1 ba an
    go_wp2_with (at_lookup;refine wpList_lookup_own_ok_int _ rfl _ _ 120 rfl 9 3 .i64 strKeyd underlying120 underlying3 (zeroInt _) _ _ Y rfl L _ _ rfl bu ?_;intro cm ak cB)
    clear ak cB L ey;refine bX 10 (by kernel_rfl) (by kernel_rfl) ?_;simp only [List.take_succ_cons,List.take_zero,List.drop_succ_cons,List.drop_zero]
    repeat still_step
    refine wpStill_nil ?_
    go_wp2_with (at_mapUpdate;refine wpList_mapUpdate_own _ rfl _ _ _ 120 rfl 9 3 strKeyd underlying120 _ M n Y rfl bh er _ _ _ rfl rfl bu _ [] (plainElem_int underlying3 cC) ?_)
    intro w2 bR bq;obtain⟨bo,cn,cp,bp,a4,cs⟩:=d5.out;have o:=d2.out;have q:StL (λi=>i=tm) wr.drew E w2 (ext wr.drew E ta):=StL.ext ((aa.refl _ _).grown bq (λad e _=>by injection e with e;subst e;exact o.oM)) ta;obtain⟨bY,bC⟩: ∃f,f=ext wr.drew E ta:=⟨_,rfl⟩;rw [<-bC]at q;obtain⟨bg,c6,c7,c8⟩:=o.row;have O:=o.blk.touch q.t (by rw [o.oB];exact bo);have bS:=(q.eq B o.blk.lt).trans o.oB;have a8:M<wr.drew.heap.size:=(by obtain⟨fd,fc,bs,_⟩:=bh;exact(Array.getElem?_eq_some_iff.1 bs).1);have bW:=(q.eq M a8).trans o.oM;have cU:=c7.step q (λe=>bp e.symm);have ap:=Rd.step ed.out q (λi e l=>a4 (l.symm.trans e));have c9:=λ(j:Nat) I s g b=>Rd.step (c8 j I s g b) q (λi e l=>a4 (l.symm.trans e))
    have cS:=(O.cell 1).trans rfl;obtain⟨w7,U⟩: ∃f,f=w2.alloc (.cells #[.slice X k ai] 137):=⟨_,rfl⟩;have a2:Below w2.heap.size w2 w7:=(by rw [U];exact(Below.refl _ _).alloc (Zl _) _);obtain⟨ow7,bE⟩: ∃f,f=ext w2 bY ta:=⟨_,rfl⟩;have D:StL (λ_=>False) w2 bY w7 ow7:=(by rw [bE];exact StL.new _ a2 bY ta);have b0:=cU.step D id;have cE:=Rd.step ap D (λ_ _ e=>e);have dd:=λ(j:Nat) I s g b=>Rd.step (c9 j I s g b) D (λ_ _ e=>e)
    have cl:=O.below a2 O.lt;have cN:=(D.eq B O.lt).trans bS;have bw:M<w2.heap.size:=Zm a8 q.size;have cP:=(D.eq M bw).trans bW;have cK:=D.t.ownsMap bR (λe=>e);have G:=b0.own;have bB:Rd w7 (λad=>ad=w2.heap.size) (.slice (some ⟨w2.heap.size,0,none⟩) 1 1) 1 [.slice X k ai]:=(by rw [U];exact Rd.one' (w:=w2) (e:=137) [.slice X k ai] 1 rfl);rw [U]at G bB;clear eR bh cC c7 c8 cU ap c9 o;obtain⟨e6,e0,ei,e4,eX,K,b9,ej,e5,ci,cc,cj,bb,cd⟩:=dh bR bq q bC O G bB D bE b0 cE dd cl cK;obtain⟨a0,e8,e9,ce,cf,e2,ea,dF,dO,b3,b4,dS,eZ,b5⟩:=dh c6 bS bW cN cP a8 bw a2 bo cn cp bp a4 cs;clear bR bq q bC O G bB D bE b0 cE dd cl cK c6 bS bW cN cP a8 bw a2 bo cn cp bp a4 cs
    go_wp2_with (at_builtin;refine aJ _ rfl (.tmp 57) (.tmp 59) _ rfl elemRU 0 (.slice A n c) n _ rfl K.out _ _ [.slice X k ai] 1 rfl rfl b9.out (by simp [Value.oneCell']) (by unfold maxLen;omega) (by omega) (Zn _) ?_)
    intro y z w8 H Q al;rw [<-U]at Q;rw [show w2.heap.size+1=w7.heap.size by rw [U];simp]at al;obtain⟨b1,u⟩:=ci.out.app H Q al;obtain⟨ow8,eA⟩: ∃f,f=ext w7 ow7 ta:=⟨_,rfl⟩;rw [<-eA]at b1 u;have cG:=Rd.step cc.out u (λi e l=>b5.out (l.symm.trans e));have dn:=λ(j:Nat) I s g b=>Rd.step (cj.out j I s g b) u (λi e l=>b5.out (l.symm.trans e))
    have a3:=bb.out.touch u.t (by rw [ce.out];exact b3.out);have cO:=(u.eq B bb.out.lt).trans ce.out;have cR:=(u.eq M (Zm ea.out dF.out.size)).trans cf.out;have cM:=u.t.ownsMap cd.out (by rw [cf.out];exact dS.out);have bl:=a3.put 1 (.slice y (n+1) z);have W:StL (λi=>i=tb) w8 ow8 (w8.setCell ⟨B,1,none⟩ (.slice y (n+1) z)) ow8:=⟨(aa.refl _ _).setCell (p:=⟨B,1,none⟩) (λ_=>cO) _,λ_ _=>rfl⟩;have hT:jn (w8.setCell ⟨B,1,none⟩ (.slice y (n+1) z)) ow8 tb tm ta te B M y (n+1) z (gZ R x):=by
     rw [um bc.out];refine⟨by rw [Zc,<-aS.out.hn];rfl,cO,cR,bl,⟨_,W.t.ownsMap cM (by rw [cR];exact λe=>dO.out e.symm),ec.out⟩,⟨bg++[.slice X k ai],by rw [Zc,Zc,a0.out];rfl,b1.step W (λe=>b3.out e.symm),λj I s g b=> ?_⟩,λs b=> ?_⟩
     ·by_cases cx:j<bg.length
      ·rw [List.getElem?_append_left cx]at g;rw [List.getElem?_append_left (by rw [<-a0.out];exact cx)]at b;exact Rd.step (dn j I s g b) W (λi e l=>b4.out (l.symm.trans e))
      ·have et:j=bg.length:=(by have:=(List.getElem?_eq_some_iff.1 g).1;simp at this;omega);subst et;rw [List.getElem?_append_right (Zl _),Nat.sub_self]at g;rw [List.getElem?_append_right (by rw [a0.out];exact Zl _),a0.out,Nat.sub_self]at b;injection g with g
       injection b with b
       subst g b;exact Rd.step cG W (λi e l=>b4.out (l.symm.trans e))
     ·rcases List.mem_append.1 b with b|b
      ·exact aS.out.u16 s b
      ·rw [List.mem_singleton]at b;subst b;exact Z.out
    have c0:StL (λi=>i=tb\/i=tm\/i=ta) V ow (w8.setCell ⟨B,1,none⟩ (.slice y (n+1) z)) ow8:=
     ((((((be.out.mono λ_ e=>e.elim).trans (em.out.mono λ_ e=>e.elim)).trans (ei.out.mono λ_ e=> .inr (.inl e))).trans (ej.out.mono λ_ e=>e.elim)).trans (u.mono λ_ e=> .inr (.inr e))).trans (W.mono λ_ e=> .inl e))
    have cS:=(a3.cell 1).trans rfl;have fg:=a3.frozen 1;have fT:=(bl.cell 1).trans rfl;clear H Q al b1 u dn a3 cM bl W cG ci cc cj bb cd b9 K U;obtain⟨d3,el⟩:=av hT c0;clear hT c0
    go_wp2_with fail
    go_ret
    exact⟨au (by rw [bd.out]),ow8,y,n+1,z,el.out,d3.out⟩
abbrev PV (vr:Value) (T N:Int) (vrow vrows vgow vgows:Value):Value:= .agg #[vr,.int .i64 T,.int .i64 N,vrow,vrows,vgow,vgows]
structure dc (w:World) (F:Nat->Prop) (vr vrow vrows vgow vgows:Value) (p:cq):Prop where
 rules:RdL w F 2 (dP w F) vr p.rules
 row:RdI w F vrow p.row
 rows:fe w F vrows p.rows
 gow:RdI w F vgow p.gow
 gows:fe w F vgows p.gows
 lt: ∀b,F b->b<w.heap.size
 tn:W64 p.terms/\W64 p.nons
 wr: ∀r∈p.rules,W64 r.1
 wrow: ∀x∈p.row,W64 x
 wgow: ∀x∈p.gow,W64 x
 u1: ∀r∈p.rows,U16 r
 u2: ∀r∈p.gows,U16 r
theorem dc.below {w w':World} {F:Nat->Prop} {f g k a d:Value} {p:cq} (h:dc w F f g k a d p) (b:Below w.heap.size w w'):dc w' F f g k a d p:=
 ⟨h.rules.below b h.lt λo q _ e=>e.below b h.lt,Rd.below h.row b h.lt,h.rows.below b h.lt,Rd.below h.gow b h.lt,h.gows.below b h.lt,λm l=>Zm (h.lt m l) b.size,h.tn,h.wr,h.wrow,h.wgow,h.u1,h.u2⟩
theorem dc.touch {w w':World} {F S:Nat->Prop} {g k l d f:Value} {p:cq} (h:dc w F g k l d f p) (t:aa S w w') (a: ∀b,F b-> ¬S b):dc w' F g k l d f p:=
 ⟨h.rules.touch t a λu v _ e=>by
  obtain⟨s,m,o⟩:=e
  exact⟨s,m,Rd.touch o t a⟩,Rd.touch h.row t a,h.rows.touch t a,Rd.touch h.gow t a,h.gows.touch t a,λr q=>Zm (h.lt r q) t.size,h.tn,h.wr,h.wrow,h.wgow,h.u1,h.u2⟩
theorem RdL.mono {X:Type} {w:World} {F F':Nat->Prop} {k:Nat} {E E':List Value->X->Prop} {v:Value} {xs:List X} (h:RdL w F k E v xs) (r: ∀a,F a->F' a) (q: ∀b d,E b d->E' b d):RdL w F' k E' v xs:=by
 obtain⟨A,c,z,l,m,y⟩:=h;refine⟨A,c,z,l,m,λx=> ?_⟩;obtain⟨a,D,o,s,u⟩:=y x;refine⟨a,D,o,r a s,λi d C=> ?_⟩;obtain⟨b,e,f,g⟩:=u i d C;exact⟨b,e,q b d f,g⟩
theorem dc.mono {w:World} {F F':Nat->Prop} {g k l d f:Value} {p:cq} (h:dc w F g k l d f p) (a: ∀b,F b->F' b) (q: ∀b,F' b->b<w.heap.size):dc w F' g k l d f p:=
 ⟨h.rules.mono a λs u e=>by
  obtain⟨r,m,o⟩:=e
  exact⟨r,m,Rd.mono o a⟩,Rd.mono h.row a,h.rows.mono a,Rd.mono h.gow a,h.gows.mono a,q,h.tn,h.wr,h.wrow,h.wgow,h.u1,h.u2⟩
theorem yM {X:Type} (w:World) (F:Nat->Prop) (k:Nat) (E:List Value->X->Prop):RdL w F k E (.slice none 0 0) []:=⟨none,0,rfl,Zl _,by unfold maxLen;omega,λh=>absurd h (by simp)⟩
theorem nZ {X:Type} (E:Value->X->Prop) (w:World) (F:Nat->Prop):dH E w F (.slice none 0 0) []:=⟨[],rfl,Rd.nil _ _ _,λj b a h=>by simp at h⟩
theorem dc.none (w:World) (F:Nat->Prop) (d: ∀b,F b->b<w.heap.size):dc w F (.slice none 0 0) (.slice none 0 0) (.slice none 0 0) (.slice none 0 0) (.slice none 0 0) mY:=
 ⟨yM _ _ _ _,Rd.nil _ _ _,nZ _ _ _,Rd.nil _ _ _,nZ _ _ _,d,by unfold W64 mY;decide,λa h=>(by cases h),λa h=>(by cases h),λa h=>(by cases h),λa h=>(by cases h),λa h=>(by cases h)⟩
theorem dc.slices {w:World} {F:Nat->Prop} {f g k d e:Value} {p:cq} (h:dc w F f g k d e p): ∃A1 c1 A2 c2 A3 c3 A4 c4 A5 c5,f= .slice A1 p.rules.length c1/\g= .slice A2 p.row.length c2/\k= .slice A3 p.rows.length c3/\d= .slice A4 p.gow.length c4/\e= .slice A5 p.gows.length c5/\
  (p.rules.length<=c1/\c1<=9223372036854775807)/\(p.row.length<=c2/\c2<=9223372036854775807)/\(p.rows.length<=c3/\c3<=9223372036854775807)/\(p.gow.length<=c4/\c4<=9223372036854775807)/\(p.gows.length<=c5/\c5<=9223372036854775807):=by
 obtain⟨A1,c1,l,s,z,-⟩:=h.rules;obtain⟨A2,n2,c2,m,u,C,a,-⟩:=h.row;obtain⟨A3,c3,o,v,D⟩:=dH.shape h.rows;obtain⟨A4,n4,c4,q,x,E,b,-⟩:=h.gow;obtain⟨A5,c5,r,y,G⟩:=dH.shape h.gows;rw [List.length_map,Nat.mul_one]at a b;subst a b;unfold maxLen at z C D E G;exact⟨A1,c1,A2,c2,A3,c3,A4,c4,A5,c5,l,m,o,q,r,⟨s,by omega⟩,⟨u,by omega⟩,⟨v,by omega⟩,⟨x,by omega⟩,⟨y,by omega⟩⟩
def ug (t:aW):Prop:=(∀r∈t.acts,r.length<=70000)/\ ∀r∈t.goto,r.length<=70000
def e7 (t:aW):cq:=if dE t=true then aZ t else mY
theorem Cb {t:aW} (h:dE t=true): ∀a∈bZ t,U16 a:=λa f n d=>by
 obtain⟨k,g,rfl⟩:=Zj.1 f;obtain⟨l,b,rfl⟩:=Zj.1 d;obtain⟨i,hi,e⟩:=List.getElem_of_mem g;have:=qr h (i:=i) (x:=k) (by rw [List.getElem?_eq_getElem hi,e]) b;unfold dD;omega
theorem Ca {t:aW} (h:dE t=true): ∀a∈cY t,U16 a:=λa f n d=>by
 obtain⟨k,g,rfl⟩:=Zj.1 f;obtain⟨l,b,rfl⟩:=Zj.1 d;obtain⟨i,hi,e⟩:=List.getElem_of_mem g;have:=yW h (i:=i) (y:=k) (by rw [List.getElem?_eq_getElem hi,e]) b;omega
theorem sH {rs:List (List Int)} {j:Nat} {x:List Int} (h:rs[j]? =some x):bn (rs.take (j+1))=(gZ (bn (rs.take j)).1 x,(bn (rs.take j)).2++[((plR (bn (rs.take j)).1 x:Nat):Int)]):=by rw [gj h,zX];rfl
structure PkS (V0:World) (ow0:Nat->Nat) (V:World) (ow:Nat->Nat) (P Ba Ma Bg Mg:Nat) (A1:Option Addr) (R c1:Nat) (T N:Int) (Ar:Option Addr) (cr:Nat) (Ao:Option Addr) (co:Nat) (Aa:Option Addr) (na ca:Nat) (Ag:Option Addr) (ng cg j i:Nat) (t:aW):Prop where
 st:StL (λk=>k≠0) V0 ow0 V ow
 oP:ow P=1
 kP:Blk V P 52 #[.slice A1 R c1,.int .i64 T,.int .i64 N,.slice Ar j cr,.slice none 0 0,.slice Ao i co,.slice none 0 0]
 ra:jn V ow 2 3 4 5 Ba Ma Aa na ca (bn ((bZ t).take j)).1
 rg:jn V ow 6 7 8 9 Bg Mg Ag ng cg (bn ((cY t).take i)).1
 rr:Row V ow 10 3 1 Ar j cr ((bn ((bZ t).take j)).2.map (Value.int .i64))
 ro:Row V ow 11 3 1 Ao i co ((bn ((cY t).take i)).2.map (Value.int .i64))
section
variable {V0 V V' V6 V7 V8 V9 : World} {ow0 ow ow' ow6 ow7 ow8 : Nat -> Nat} {P Ba Ma Bg Mg : Nat} {A1 : Option Addr} {R c1 : Nat} {T N : Int} {Ar : Option Addr} {cr : Nat} {Ao : Option Addr} {co : Nat} {Aa : Option Addr} {na ca : Nat} {Ag : Option Addr} {ng cg j i : Nat} {t : aW} {J : Nat -> Prop}
theorem PkS.step (h:PkS V0 ow0 V ow P Ba Ma Bg Mg A1 R c1 T N Ar cr Ao co Aa na ca Ag ng cg j i t) (s:StL (λ_=>False) V ow V' ow'):PkS V0 ow0 V' ow' P Ba Ma Bg Mg A1 R c1 T N Ar cr Ao co Aa na ca Ag ng cg j i t:=
 ⟨h.st.trans (s.mono λ_ e=>e.elim),(s.eq P h.kP.lt).trans h.oP,h.kP.touch s.t id,h.ra.step s id id id id,h.rg.step s id id id id,h.rr.step s id,h.ro.step s id⟩
theorem PkS.pushA {r:Option Addr} {C s:Nat} {x:List Int} {f:Option Addr} {k:Nat} (h:PkS V0 ow0 V6 ow6 P Ba Ma Bg Mg A1 R c1 T N Ar cr Ao co Aa na ca Ag ng cg j i t) (I:(bZ t)[j]? =some x)
  (l:StL (λa=>a=2\/a=3\/a=4) V6 ow6 V7 ow7) (O:jn V7 ow7 2 3 4 5 Ba Ma r C s (gZ (bn ((bZ t).take j)).1 x)) (b:StL (λ_=>False) V7 ow7 V8 ow8)
  (own:V9.ownsRow 0 3 1 (.slice f (j+1) k) (j+1) ((bn ((bZ t).take j)).2.map (Value.int .i64)++[.int .i64 ((plR (bn ((bZ t).take j)).1 x:Nat):Int)])) (g:V8.grownBy V9 (Value.slice Ar j cr).ownBlock) (G:(Value.slice f (j+1) k).ownBlock=(Value.slice Ar j cr).ownBlock\/(Value.slice f (j+1) k).ownBlock=some V8.heap.size):
  ∃m,PkS V0 ow0 (V9.setCell ⟨P,3,none⟩ (.slice f (j+1) k)) m P Ba Ma Bg Mg A1 R c1 T N f k Ao co r C s Ag ng cg (j+1) i t/\Blk V9 P 52 #[.slice A1 R c1,.int .i64 T,.int .i64 N,.slice Ar j cr,.slice none 0 0,.slice Ao i co,.slice none 0 0]:=by
 have Q:=(h.rr.step l (by omega)).step b id;obtain⟨E,d⟩:=Q.app own g G;have K:=(l.eq P h.kP.lt).trans h.oP;have v:=h.kP.touch l.t (by rw [h.oP];omega);have D:=(b.eq P v.lt).trans K;have y:=v.touch b.t id;have q:=(d.eq P y.lt).trans D;have z:=y.touch d.t (by rw [D];omega);obtain⟨m,H⟩: ∃L,L=ext V8 ow8 10:=⟨_,rfl⟩;rw [<-H]at E d q;have o:StL (λa=>a=1) V9 m (V9.setCell ⟨P,3,none⟩ (.slice f (j+1) k)) m:=⟨(aa.refl _ _).setCell (p:=⟨P,3,none⟩) (λ_=>q) _,λ_ _=>rfl⟩;have u:=sH I;refine⟨m,⟨((((h.st.trans (l.mono λa e=>by omega)).trans (b.mono λ_ e=>e.elim)).trans (d.mono λa e=>by omega)).trans (o.mono λa e=>by omega)),q,z.put 3 _,?_,?_,?_,?_⟩,z⟩
 ·rw [u];exact((O.step b id id id id).step d (by omega) (by omega) (by omega) (by omega)).step o (by omega) (by omega) (by omega) (by omega)
 ·exact(((h.rg.step l (by omega) (by omega) (by omega) (by omega)).step b id id id id).step d (by omega) (by omega) (by omega) (by omega)).step o (by omega) (by omega) (by omega) (by omega)
 ·rw [u,Ze];exact E.step o (by omega)
 ·exact(((h.ro.step l (by omega)).step b id).step d (by omega)).step o (by omega)
theorem PkS.pushG {r:Option Addr} {C s:Nat} {x:List Int} {f:Option Addr} {k:Nat} (h:PkS V0 ow0 V6 ow6 P Ba Ma Bg Mg A1 R c1 T N Ar cr Ao co Aa na ca Ag ng cg j i t) (I:(cY t)[i]? =some x)
  (l:StL (λa=>a=6\/a=7\/a=8) V6 ow6 V7 ow7) (O:jn V7 ow7 6 7 8 9 Bg Mg r C s (gZ (bn ((cY t).take i)).1 x)) (b:StL (λ_=>False) V7 ow7 V8 ow8)
  (own:V9.ownsRow 0 3 1 (.slice f (i+1) k) (i+1) ((bn ((cY t).take i)).2.map (Value.int .i64)++[.int .i64 ((plR (bn ((cY t).take i)).1 x:Nat):Int)])) (g:V8.grownBy V9 (Value.slice Ao i co).ownBlock) (G:(Value.slice f (i+1) k).ownBlock=(Value.slice Ao i co).ownBlock\/(Value.slice f (i+1) k).ownBlock=some V8.heap.size):
  ∃m,PkS V0 ow0 (V9.setCell ⟨P,5,none⟩ (.slice f (i+1) k)) m P Ba Ma Bg Mg A1 R c1 T N Ar cr f k Aa na ca r C s j (i+1) t/\Blk V9 P 52 #[.slice A1 R c1,.int .i64 T,.int .i64 N,.slice Ar j cr,.slice none 0 0,.slice Ao i co,.slice none 0 0]:=by
 have Q:=(h.ro.step l (by omega)).step b id;obtain⟨E,d⟩:=Q.app own g G;have K:=(l.eq P h.kP.lt).trans h.oP;have v:=h.kP.touch l.t (by rw [h.oP];omega);have D:=(b.eq P v.lt).trans K;have y:=v.touch b.t id;have q:=(d.eq P y.lt).trans D;have z:=y.touch d.t (by rw [D];omega);obtain⟨m,H⟩: ∃L,L=ext V8 ow8 11:=⟨_,rfl⟩;rw [<-H]at E d q;have o:StL (λa=>a=1) V9 m (V9.setCell ⟨P,5,none⟩ (.slice f (i+1) k)) m:=⟨(aa.refl _ _).setCell (p:=⟨P,5,none⟩) (λ_=>q) _,λ_ _=>rfl⟩;have u:=sH I;refine⟨m,⟨((((h.st.trans (l.mono λa e=>by omega)).trans (b.mono λ_ e=>e.elim)).trans (d.mono λa e=>by omega)).trans (o.mono λa e=>by omega)),q,z.put 5 _,?_,?_,?_,?_⟩,z⟩
 ·exact(((h.ra.step l (by omega) (by omega) (by omega) (by omega)).step b id id id id).step d (by omega) (by omega) (by omega) (by omega)).step o (by omega) (by omega) (by omega) (by omega)
 ·rw [u];exact((O.step b id id id id).step d (by omega) (by omega) (by omega) (by omega)).step o (by omega) (by omega) (by omega) (by omega)
 ·exact(((h.rr.step l (by omega)).step b id).step d (by omega)).step o (by omega)
 ·rw [u,Ze];exact E.step o (by omega)
end
end Go.Proofs.YthlbjgabhpdbfaaGreat
namespace Go.Proofs.YthlbjgabhpdbfaaGreat
open Go.Proofs.Tryz
open Int renaming eq_ofNat_of_zero_le->Za,toNat_natCast->Zb
open List renaming length_append->Zc,length_cons->Zd,map_append->Ze,map_cons->Zf,mem_cons->Zg,mem_cons_of_mem->Zh,mem_cons_self->Zi,mem_map->Zj,mem_of_getElem?->Zk
open Nat renaming le_refl->Zl,lt_of_lt_of_le->Zm,zero_le->Zn
open Go.RowKit
attribute [local irreducible] wpStill aB aO
def fD (at_:List Int) (all:List (List Int)) (i:Int):List Int:=if i<0\/(at_.length:Int)<=i then []else if inR all.length (at_.getD i.toNat (-1))=true then all.getD (at_.getD i.toNat (-1)).toNat []else []
theorem Ec (p:cq) (i k:Int):lC p i k=if k<0\/((fD p.row p.rows i).length:Int)<=k then(0,0)else fE ((fD p.row p.rows i).getD k.toNat 0):=by
 have g:fE 0=(0,0):=rfl;by_cases b:k<0
 ·unfold lC;rw [if_pos (.inr (.inr b)),if_pos (.inl b)]
 ·by_cases hi:i<0\/(p.row.length:Int)<=i
  ·unfold lC fD;rw [if_pos (by omega),if_pos hi,if_pos (.inr (by simp;omega))]
  ·have d:lC p i k=if inR p.rows.length (p.row.getD i.toNat (-1))=true then fE ((p.rows.getD (p.row.getD i.toNat (-1)).toNat []).getD k.toNat 0)else(0,0):=by unfold lC;rw [if_neg (by omega)]
   have e:fD p.row p.rows i=if inR p.rows.length (p.row.getD i.toNat (-1))=true then p.rows.getD (p.row.getD i.toNat (-1)).toNat []else []:=by unfold fD;rw [if_neg hi]
   rw [d,e];by_cases a:inR p.rows.length (p.row.getD i.toNat (-1))=true
   ·rw [if_pos a,if_pos a];by_cases f:((p.rows.getD (p.row.getD i.toNat (-1)).toNat []).length:Int)<=k
    ·rw [if_pos (.inr f)];rw [List.getD_eq_getElem?_getD (i:=k.toNat),List.getElem?_eq_none (by omega)];rfl
    ·rw [if_neg (by omega)]
   ·rw [if_neg a,if_neg a,if_pos (.inr (by simp;omega))]
theorem Cx (p:cq) (i s:Int):jj p i s=if p.terms<0\/s<=p.terms\/((fD p.gow p.gows i).length:Int)<=s - p.terms - 1 then -1 else(fD p.gow p.gows i).getD (s - p.terms - 1).toNat 0 - 1:=by
 by_cases e:p.terms<0\/s<=p.terms
 ·unfold jj;rw [if_pos (by omega),if_pos (by omega)]
 ·by_cases hi:i<0\/(p.gow.length:Int)<=i
  ·unfold jj fD;rw [if_pos (by omega),if_pos hi,if_pos (.inr (.inr (by simp;omega)))]
  ·have b:jj p i s=if inR p.gows.length (p.gow.getD i.toNat (-1))=true then(p.gows.getD (p.gow.getD i.toNat (-1)).toNat []).getD (s - p.terms - 1).toNat 0 - 1 else -1:=by unfold jj;rw [if_neg (by omega)]
   have d:fD p.gow p.gows i=if inR p.gows.length (p.gow.getD i.toNat (-1))=true then p.gows.getD (p.gow.getD i.toNat (-1)).toNat []else []:=by unfold fD;rw [if_neg hi]
   rw [b,d];by_cases a:inR p.gows.length (p.gow.getD i.toNat (-1))=true
   ·rw [if_pos a,if_pos a];by_cases f:((p.gows.getD (p.gow.getD i.toNat (-1)).toNat []).length:Int)<=s - p.terms - 1
    ·rw [if_pos (by omega)];rw [List.getD_eq_getElem?_getD (i:=(s - p.terms - 1).toNat),List.getElem?_eq_none (by omega)];rfl
    ·rw [if_neg (by omega)]
   ·rw [if_neg a,if_neg a,if_pos (.inr (.inr (by simp;omega)))]
theorem Ev {at_:List Int} {all:List (List Int)} {i:Int} (h:i<0\/(at_.length:Int)<=i):fD at_ all i=[]:=if_pos h
theorem Ew {at_:List Int} {all:List (List Int)} {j:Nat} {x:Int} (h:at_[j]? =some x):fD at_ all (j:Int)=if inR all.length x=true then all.getD x.toNat []else []:=by
 have:=(List.getElem?_eq_some_iff.1 h).1;unfold fD;rw [if_neg (by omega),List.getD_eq_getElem?_getD,Zb,h,Option.getD_some]
def jE (w:World) (F:Nat->Prop) (L:List Int) (e:Ending) (w':World):Prop:=Below w.heap.size w w'/\ ∃A c,e= .returned (.slice A L.length c)/\RdU w' F (.slice A L.length c) L
theorem jE.nil {w w':World} {F:Nat->Prop} {L:List Int} {e:Ending} (b:Below w.heap.size w w') (a:L=[]) (d:e= .returned (.slice none 0 0)):jE w F L e w':=by
 subst a;exact⟨b,none,0,d,Rd.nil _ _ _⟩
theorem wR {w:World} {F:Nat->Prop} {L O:Value} {at_:List Int} {all:List (List Int)} (h:RdI w F L at_) (g:fe w F O all) (i:Int) (hi:i<=9223372036854775807):
  Calls prog 91 #[L,O,.int .i64 i] w (jE w F (fD at_ all i)):=by
 obtain⟨Aa,na,ca,rfl,-⟩:=id h;obtain⟨d,a0,Y,s⟩:=RdI.at_ h;obtain⟨an,aT,rfl,ad,ai⟩:=dH.shape g;unfold maxLen at Y ai;have q:=λZ=>Ev (at_:=at_) (all:=all) (i:=i) Z
 have r:=λ(j:Nat) e m=>Ew (at_:=at_) (all:=all) (j:=j) (x:=e) m
 obtain⟨D,b⟩: ∃o,o=all.length:=⟨_,rfl⟩;rw [<-b]at g ad r⊢;have k:Below w.heap.size w w:=Below.refl _ _;by_cases X:i<0
 ·have a:=q (.inl X);clear q r s;obtain⟨x,v,y,z,f,l⟩:=aM h g d b a k;clear h g d b a k
  go_enter func91,ntmps91
  go_wp2_with fail
  go_ret
  exact jE.nil l.out f.out rfl
 ·by_cases ak:(na:Int)<=i
  ·have a:=q (.inr (by rw [<-d];exact ak));clear q r s;obtain⟨x,v,y,z,f,l⟩:=aM h g d b a k;clear h g d b a k
   go_enter func91,ntmps91
   go_wp2_with fail
   go_ret
   exact jE.nil l.out f.out rfl
  ·obtain⟨j,rfl⟩:=Za (by omega:0<=i);obtain⟨e,m⟩: ∃e,at_[j]? =some e:=⟨_,List.getElem?_eq_getElem (by omega)⟩;have u:=r j e m;obtain⟨ap,a8,rfl,-,C⟩:=s (by omega);have ba:=C j e m;have a1: ¬(j:Int)<0:=by omega
   have a2:(j:Int)<(na:Int):=by omega
   by_cases a5:e<0
   ·have a:fD at_ all (j:Int)=[]:=(by rw [u,if_neg];unfold inR;rw [decide_eq_false (by omega: ¬0<=e)];simp);clear q r s C u m;obtain⟨x,v,y,z,f,l⟩:=aM h g d b a k;clear h g d b a k
    go_enter func91,ntmps91
    go_wp2_with fail
    go_ret
    exact jE.nil l.out f.out rfl
   ·by_cases a6:(D:Int)<=e
    ·have a:fD at_ all (j:Int)=[]:=(by rw [u,if_neg];unfold inR;rw [decide_eq_false (by omega: ¬e<(D:Int)),Bool.and_false];simp);clear q r s C u m;obtain⟨x,v,y,z,f,l⟩:=aM h g d b a k;clear h g d b a k
     go_enter func91,ntmps91
     go_wp2_with fail
     go_ret
     exact jE.nil l.out f.out rfl
    ·obtain⟨o,rfl⟩:=Za (by omega:0<=e);obtain⟨E,H⟩: ∃E,all[o]? =some E:=⟨_,List.getElem?_eq_getElem (by rw [<-b];omega)⟩;have a:fD at_ all (j:Int)=E:=by
      rw [u,if_pos]
      ·rw [List.getD_eq_getElem?_getD,Zb,H,Option.getD_some]
      ·unfold inR;rw [decide_eq_true (by omega:(0:Int)<=o),decide_eq_true (by omega:(o:Int)<(D:Int))];rfl
     obtain⟨aS,a9,Q,U,rfl,-,W,I,-,-⟩:=fe.row g H;have a3: ¬(o:Int)<0:=(by omega);have a4:(o:Int)<(D:Int):=(by omega);clear q r s C u m H;obtain⟨a7,G⟩: ∃al,al=E.length:=⟨_,rfl⟩;rw [<-G]at W I;obtain⟨x,v,y,z,f,l,S,K⟩:=dA h g d b a k I G;clear h g d b a k I G
     go_enter func91,ntmps91
     go_wp2_with fail
     go_ret
     refine⟨l.out,Q,U,?_,?_⟩
     ·rw [f.out,<-K.out];rfl
     ·rw [f.out,<-K.out];exact S.out
structure fH (w:World) (F:Nat->Prop) (B:Nat) (A1:Option Addr) (n1 c1:Nat) (A2:Option Addr) (n2 c2:Nat) (A3:Option Addr) (n3 c3:Nat) (A4:Option Addr) (n4 c4:Nat) (A5:Option Addr) (n5 c5:Nat) (T N:Int) (p:cq):Prop where
 pk:dc w F (.slice A1 n1 c1) (.slice A2 n2 c2) (.slice A3 n3 c3) (.slice A4 n4 c4) (.slice A5 n5 c5) p
 blk:Blk w B 52 #[.slice A1 n1 c1,.int .i64 T,.int .i64 N,.slice A2 n2 c2,.slice A3 n3 c3,.slice A4 n4 c4,.slice A5 n5 c5]
section
variable {w w' : World} {F : Nat -> Prop} {B : Nat} {A1 : Option Addr} {n1 c1 : Nat} {A2 : Option Addr} {n2 c2 : Nat} {A3 : Option Addr} {n3 c3 : Nat} {A4 : Option Addr} {n4 c4 : Nat} {A5 : Option Addr} {n5 c5 : Nat} {T N : Int} {p : cq}
theorem fH.new (h:dc w F (.slice A1 n1 c1) (.slice A2 n2 c2) (.slice A3 n3 c3) (.slice A4 n4 c4) (.slice A5 n5 c5) p) (T N:Int):fH (w.alloc (.cells #[.slice A1 n1 c1,.int .i64 T,.int .i64 N,.slice A2 n2 c2,.slice A3 n3 c3,.slice A4 n4 c4,.slice A5 n5 c5] 52)) F w.heap.size A1 n1 c1 A2 n2 c2 A3 n3 c3 A4 n4 c4 A5 n5 c5 T N p:=⟨h.below ((Below.refl _ _).alloc (Zl _) _),Blk.new _ _ _⟩
theorem fH.below (h:fH w F B A1 n1 c1 A2 n2 c2 A3 n3 c3 A4 n4 c4 A5 n5 c5 T N p) (b:Below w.heap.size w w'):fH w' F B A1 n1 c1 A2 n2 c2 A3 n3 c3 A4 n4 c4 A5 n5 c5 T N p:=⟨h.pk.below b,h.blk.below b h.blk.lt⟩
theorem fH.touch {S:Nat->Prop} (h:fH w F B A1 n1 c1 A2 n2 c2 A3 n3 c3 A4 n4 c4 A5 n5 c5 T N p) (t:aa S w w') (d: ∀a,F a-> ¬S a) (b: ¬S B):fH w' F B A1 n1 c1 A2 n2 c2 A3 n3 c3 A4 n4 c4 A5 n5 c5 T N p:=⟨h.pk.touch t d,h.blk.touch t b⟩
theorem fH.cells (h:fH w F B A1 n1 c1 A2 n2 c2 A3 n3 c3 A4 n4 c4 A5 n5 c5 T N p):w.cell? ⟨B,0,none⟩=some (.slice A1 n1 c1)/\w.cell? ⟨B,1,none⟩=some (.int .i64 T)/\w.cell? ⟨B,2,none⟩=some (.int .i64 N)/\w.cell? ⟨B,3,none⟩=some (.slice A2 n2 c2)/\w.cell? ⟨B,4,none⟩=some (.slice A3 n3 c3)/\w.cell? ⟨B,5,none⟩=some (.slice A4 n4 c4)/\w.cell? ⟨B,6,none⟩=some (.slice A5 n5 c5):=
 ⟨(h.blk.cell 0).trans rfl,(h.blk.cell 1).trans rfl,(h.blk.cell 2).trans rfl,(h.blk.cell 3).trans rfl,(h.blk.cell 4).trans rfl,(h.blk.cell 5).trans rfl,(h.blk.cell 6).trans rfl⟩
end
theorem wL {at_:List Int} {all:List (List Int)} (h: ∀a∈all,U16 a) (i:Int):U16 (fD at_ all i):=by
 unfold fD
 split
 ·intro n b;cases b
 ·split
  ·rename_i e
   unfold inR at e;simp only [Bool.and_eq_true,decide_eq_true_eq]at e;rw [List.getD_eq_getElem?_getD];obtain⟨a,d⟩: ∃a,all[(at_.getD i.toNat (-1)).toNat]? =some a:=⟨_,List.getElem?_eq_getElem (by omega)⟩;rw [d];exact h a (Zk d)
  ·intro n b;cases b
theorem wV {w:World} {F:Nat->Prop} {bc bd be bg bh:Value} {p:cq} (h:dc w F bc bd be bg bh p) (i k:Int) (hi:i<=9223372036854775807):
  Calls prog 35 #[PV bc p.terms p.nons bd be bg bh,.int .i64 i,.int .i64 k] w (aI w (AcV (lC p i k))):=by
 obtain⟨A1,c1,A2,c2,A3,c3,A4,c4,A5,c5,rfl,rfl,rfl,rfl,rfl,-⟩:=h.slices;have b:=Ec p i k;obtain⟨w1,l⟩: ∃a,a=(w.alloc (.cells #[.slice A1 p.rules.length c1,.int .i64 p.terms,.int .i64 p.nons,.slice A2 p.row.length c2,.slice A3 p.rows.length c3,.slice A4 p.gow.length c4,.slice A5 p.gows.length c5] 52)).alloc (.cells #[.int .i64 0,.int .i64 0] 46):=⟨_,rfl⟩;have a6:=fH.new h p.terms p.nons;have r:=a6.below (w':=w1) (by rw [l];exact(Below.refl _ _).alloc (Zl _) _);have a1:Below w.heap.size w w1:=by rw [l];exact((Below.refl _ w).alloc (Zl _) _).alloc (by simp) _
 have ba:Blk w1 (w.heap.size+1) 46 #[.int .i64 0,.int .i64 0]:=by
  rw [l];have:=Blk.new (w.alloc (.cells #[.slice A1 p.rules.length c1,.int .i64 p.terms,.int .i64 p.nons,.slice A2 p.row.length c2,.slice A3 p.rows.length c3,.slice A4 p.gow.length c4,.slice A5 p.gows.length c5] 52)) 46 #[.int .i64 0,.int .i64 0];simpa using this
 have cr:=wR r.pk.row r.pk.rows i hi;have a9:=wL (at_:=p.row) r.pk.u1 i;have a7:=r.pk.lt;obtain⟨X,Y,Z,ad,ai,ak,al⟩:=r.cells;rw [l]at X Y Z ad ai ak al;generalize fD p.row p.rows i=an at *;generalize lC p i k=bs at *;obtain⟨C,D⟩:=bs;generalize p.terms=T at *;generalize p.nons=N at *;generalize p.rules.length=n1 at *;generalize p.row.length=n2 at *;generalize p.rows.length=n3 at *;generalize p.gow.length=n4 at *;generalize p.gows.length=n5 at *;clear h a6 r;obtain⟨S,bl,bu,ap,aT,U⟩:=aM cr a9 a7 a1 ba b;clear cr a9 a7 a1 ba b
 go_enter func35,ntmps35
 go_wp2_with fail
 rw [<-l];refine S.out.mono ?_;rintro e w2 ⟨a2,Ar,bz,rfl,u⟩;have q:=ap.out.trans (a2.mono ap.out.size);have f:=aT.out.below a2 aT.out.lt;obtain⟨d0,a3⟩:w2.cell? ⟨w.heap.size+1,0,none⟩=some (.int .i64 0)/\w2.cell? ⟨w.heap.size+1,1,none⟩=some (.int .i64 0):=⟨(f.cell 0).trans rfl,(f.cell 1).trans rfl⟩;have a4:=f.frozen 0;have a5:=f.frozen 1;obtain⟨bb,y⟩: ∃a,a=an.length:=⟨_,rfl⟩;obtain⟨-,bq,br,K⟩:=RdU.at_ u;unfold maxLen at br;have b:=U.out;rw [<-y]at b u bq K⊢;have g:aa (λa=>a=w.heap.size+1) w2 ((w2.setCell ⟨w.heap.size+1,0,none⟩ (.int .i64 C)).setCell ⟨w.heap.size+1,1,none⟩ (.int .i64 D)):=((aa.refl (λa=>a=w.heap.size+1) w2).setCell (p:=⟨w.heap.size+1,0,none⟩) (λ_=>rfl) _).setCell (p:=⟨w.heap.size+1,1,none⟩) (λ_=>rfl) _;have d:=(f.put 0 (.int .i64 C)).put 1 (.int .i64 D);have v:=(d.cell 0).trans rfl;have x:=(d.cell 1).trans rfl;have o:=g.toBelow (B:=w.heap.size) (λa e=>by omega) q q.size;by_cases s:k<0\/(bb:Int)<=k
 ·rw [if_pos s]at b;injection b with O Q
  subst O Q;clear X Y Z ad ai ak al l S U K;obtain⟨a0,bi,H,G,bp,bo,E⟩:=de u y f q g d o;clear u y f q g d o;rcases s with s|s
  ·go_wp2_with fail
   refine bodyPost_ret (v:= .agg #[.int .i64 0,.int .i64 0]) (by simp [results,results35,go_sem,v,x]) rfl ?_;exact⟨rfl,E.out⟩
  ·have bA: ¬k<0:=by omega
   go_wp2_with fail
   refine bodyPost_ret (v:= .agg #[.int .i64 0,.int .i64 0]) (by simp [results,results35,go_sem,v,x]) rfl ?_;exact⟨rfl,E.out⟩
 ·rw [if_neg s]at b;obtain⟨j,rfl⟩:=Za (by omega:0<=k);have bB: ¬(j:Int)<0:=by omega
  have bC:(j:Int)<(bb:Int):=by omega
  obtain⟨z,L⟩: ∃z,an[j]? =some z:=⟨_,List.getElem?_eq_getElem (by omega)⟩;rw [List.getD_eq_getElem?_getD,Zb,L,Option.getD_some]at b;have ca:=wU z (bl.out z (Zk L)) w2;unfold fE at b;injection b with O Q
  rw [<-O,<-Q]at ca;obtain⟨bx,bE,rfl,-,a8⟩:=K (by omega);have bG:=a8 j z L;clear O Q X Y Z ad ai ak al l S U K a8 L s d0 a3 a4 a5 g d v x o;obtain⟨a0,bi,H,G,aS⟩:=aX u y f q ca;clear u y f q ca
  go_wp2_with fail
  refine aS.out.mono ?_;rintro e w3 ⟨rfl,W⟩;have m:=H.out.below W H.out.lt;obtain⟨d0,a3⟩:w3.cell? ⟨w.heap.size+1,0,none⟩=some (.int .i64 0)/\w3.cell? ⟨w.heap.size+1,1,none⟩=some (.int .i64 0):=⟨(m.cell 0).trans rfl,(m.cell 1).trans rfl⟩;have a4:=m.frozen 0;have a5:=m.frozen 1;have I:=G.out.trans (W.mono G.out.size);have g:aa (λa=>a=w.heap.size+1) w3 ((w3.setCell ⟨w.heap.size+1,0,none⟩ (.int .i64 C)).setCell ⟨w.heap.size+1,1,none⟩ (.int .i64 D)):=((aa.refl (λa=>a=w.heap.size+1) w3).setCell (p:=⟨w.heap.size+1,0,none⟩) (λ_=>rfl) _).setCell (p:=⟨w.heap.size+1,1,none⟩) (λ_=>rfl) _;have d:=(m.put 0 (.int .i64 C)).put 1 (.int .i64 D);have v:=(d.cell 0).trans rfl;have x:=(d.cell 1).trans rfl;have o:=g.toBelow (B:=w.heap.size) (λa e=>by omega) I I.size;clear aS W G H a0;obtain⟨bw,bt,bp,bo,E⟩:=aX m I g d o;clear m I g d o
  go_wp2_with fail
  refine bodyPost_ret (v:= .agg #[.int .i64 C,.int .i64 D]) (by simp [results,results35,go_sem,v,x]) rfl ?_;exact⟨rfl,E.out⟩
theorem uO {w:World} {F:Nat->Prop} {a2 a3 a4 a5 a6:Value} {p:cq} (h:dc w F a2 a3 a4 a5 a6 p) (i s:Int) (hi:i<=9223372036854775807) (bw:s<=9223372036854775807):
  Calls prog 36 #[PV a2 p.terms p.nons a3 a4 a5 a6,.int .i64 i,.int .i64 s] w (aI w (.int .i64 (jj p i s))):=by
 obtain⟨A1,c1,A2,c2,A3,c3,A4,c4,A5,c5,rfl,rfl,rfl,rfl,rfl,-⟩:=h.slices;have a:=Cx p i s;obtain⟨w1,f⟩: ∃D,D=w.alloc (.cells #[.slice A1 p.rules.length c1,.int .i64 p.terms,.int .i64 p.nons,.slice A2 p.row.length c2,.slice A3 p.rows.length c3,.slice A4 p.gow.length c4,.slice A5 p.gows.length c5] 52):=⟨_,rfl⟩;have b:=fH.new h p.terms p.nons;rw [<-f]at b;have Q:Below w.heap.size w w1:=by rw [f];exact(Below.refl _ w).alloc (Zl _) _
 have cr:=λk (X:Below w1.heap.size w1 k)=>wR (Rd.below b.pk.gow X b.pk.lt) (b.pk.gows.below X b.pk.lt) i hi
 have ad:=wL (at_:=p.gow) b.pk.u2 i;have Z:=h.tn;obtain⟨al,an,ap,aS,aT,a0,a1⟩:=b.cells;rw [f]at al an ap aS aT a0 a1;generalize fD p.gow p.gows i=I at *;generalize jj p i s=bO at *;generalize p.terms=T at *;generalize p.nons=N at *;generalize p.rules.length=n1 at *;generalize p.row.length=n2 at *;generalize p.rows.length=n3 at *;generalize p.gow.length=n4 at *;generalize p.gows.length=n5 at *;unfold W64 at Z;obtain⟨⟨-,hT⟩,-⟩:=Z;clear h;obtain⟨L,ba,o,g,a8⟩:=aX cr ad Q a b;clear cr ad Q a b;by_cases bb:T<0
 ·have m:=g.out;rw [if_pos (.inl bb)]at m;subst m
  go_enter func36,ntmps36
  go_wp2_with fail
  rw [<-f]
  go_ret
  exact⟨rfl,o.out⟩
 ·by_cases bh:s<=T
  ·have m:=g.out;rw [if_pos (.inr (.inl bh))]at m;subst m
   go_enter func36,ntmps36
   go_wp2_with fail
   rw [<-f]
   go_ret
   exact⟨rfl,o.out⟩
  ·have bx:IntKind.i64.wrap (s - T)=s - T:=by rw [IntKind.wrap_i64];omega
   have bz:IntKind.i64.wrap (s - T - 1)=s - T - 1:=by rw [IntKind.wrap_i64];omega
   obtain⟨j,bc⟩:=Za (by omega:0<=s - T - 1);have y:Below w1.heap.size w1 w1.drew:=(Below.refl _ w1).drew;have U:=L.out _ y;obtain⟨O,v⟩:=av U y;clear U y
   go_enter func36,ntmps36
   go_wp2_with fail
   rw [<-f];clear f al an ap aS aT a0 a1;have z:=a8.out.below v.out;obtain⟨bi,E,bl,bo,bp,G,H⟩:=z.cells;have ai:w.heap.size<w1.drew.heap.size:=z.blk.lt;clear z;have x:=ab ai;clear ai;refine wp_region_held_drew (S:=(λk:World=>k.cell? ⟨w.heap.size,5,none⟩=some (.slice A4 n4 c4)/\k.cell? ⟨w.heap.size,6,none⟩=some (.slice A5 n5 c5)/\k.cell? ⟨w.heap.size,1,none⟩=some (.int .i64 T))) (by kernel_rfl) ?_ (λhHeld=> ?_)
   ·exact⟨G,H,E⟩
   refine tZ 0 ?_;try simp only [Act.put,sT,s0,s1]
   refine tZ 1 ?_;try simp only [Act.put,sT,s0,s1]
   refine tZ 2 ?_;try simp only [Act.put,sT,s0,s1]
   refine tZ 3 ?_;try simp only [Act.put,sT,s0,s1]
   refine tZ 4 ?_;try simp only [Act.put,sT,s0,s1]
   refine tZ 6 ?_;try simp only [Act.put,sT,s0,s1]
   refine tZ 7 ?_;try simp only [Act.put,sT,s0,s1]
   refine tZ 8 ?_;try simp only [Act.put,sT,s0,s1]
   refine tZ 9 ?_;try simp only [Act.put,sT,s0,s1]
   refine tZ 10 ?_;try simp only [Act.put,sT,s0,s1]
   refine wpAnyH_ready (rs:=[5]) (by kernel_rfl) (by simp) ?_;refine AllReadyH.cons (o:= ?_) ?_ (λa7 W=> ?_) AllReadyH.nil;rotate_left 1;(focus((try simp only [gT,gs,gz]);try rfl))
   go_simp
   go_at_call 91
   with_reducible refine O.out.mono ?_
   rintro e w2 ⟨l,Ar,bs,rfl,u⟩;refine W.out _ _ ?_ (λhHeld=> ?_)
   ·exact⟨(l.cell (p:=⟨w.heap.size,5,none⟩) x.out).trans G,(l.cell (p:=⟨w.heap.size,6,none⟩) x.out).trans H,(l.cell (p:=⟨w.heap.size,1,none⟩) x.out).trans E⟩
   clear W a7
   try simp only [Act.put,sT,s0,s1]
   have S:=o.out.trans ((v.out.trans (l.mono v.out.size)).mono o.out.size);obtain⟨ak,C⟩: ∃D,D=I.length:=⟨_,rfl⟩;obtain⟨-,be,bg,q⟩:=RdU.at_ u;unfold maxLen at bg;have a:=g.out;rw [<-C]at a u be q⊢;clear bi E bl bo bp G H O L g l;obtain⟨K,bq,a9⟩:=aK S u C;clear S u C;rw [bc]at a;refine tZ 11 ?_;try simp only [Act.put,sT,s0,s1]
   refine tZ 12 ?_;try simp only [Act.put,sT,s0,s1]
   refine wpAnyH_done (by kernel_rfl) ?_ _;by_cases bd:(ak:Int)<=(j:Int)
   ·rw [if_pos (.inr (.inr bd))]at a;subst a;clear q
    go_wp2_with fail
    go_ret
    exact⟨rfl,K.out⟩
   ·rw [if_neg (by omega)]at a;obtain⟨d,r⟩: ∃d,I[j]? =some d:=⟨_,List.getElem?_eq_getElem (by have:=a9.out;omega)⟩;rw [List.getD_eq_getElem?_getD,Zb,r,Option.getD_some]at a;have bC:=ba.out d (Zk r);obtain⟨br,bE,rfl,-,Y⟩:=q (by omega);have bG:=Y j d r;have bt:(0:Int)<=(j:Int):=(by omega);have bu:(j:Int)<(ak:Int):=(by omega);have bA:IntKind.i64.wrap d=d:=(by rw [IntKind.wrap_i64];omega);have bB:IntKind.i64.wrap (d - 1)=d - 1:=(by rw [IntKind.wrap_i64];omega);clear q Y r;have g:=ab a;clear a
    go_wp2_with fail
    go_ret
    exact⟨au g.out.symm,K.out⟩
end Go.Proofs.YthlbjgabhpdbfaaGreat

/- Packed tables: rows of numbers, read; are two the same. -/
import Derived.Test.YtlpipniclimgeaaGreatDTabsPlain
import Derived.Test.YtlpipniclimgeaaGreatDItem8
import Derived.Laws.BytesArg
namespace Go.Proofs.YtlpipniclimgeaaGreat
set_option linter.unusedVariables false
set_option linter.unusedSimpArgs false
open Go.RowKit
attribute [local irreducible] wpStill wpOne wpPh
theorem equal_u16 {w:World} {F G:Nat->Prop} {v u:Value} {xs ys:List Int} (h:RdU w F v xs) (g:RdU w G u ys):
  Calls Tryz.prog 65 #[v,u] w (Quiet w (.bool (decide (xs=ys)))):=by
 obtain⟨A,n,c,rfl,_⟩:=id h
 obtain⟨B,m,d,rfl,_⟩:=id g
 obtain⟨hn,hnc,hcm,hcell⟩:=RdU.at_ h
 obtain⟨hm,hmd,hdm,hcell'⟩:=RdU.at_ g
 unfold maxLen at hcm hdm
 by_cases hnm:n=m
 ·subst hnm
  have HN:=hide hn
  have HM:=hide hm
  clear hn hm
  go_enter Tryz.func65,Tryz.ntmps65
  go_wp2
  go_loopw [13] (fun i wr=> ∃k q:Nat,k<=n/\i= .int .i64 k/\wr=w.drewN q/\ ∀j:Nat,j<k->xs[j]? =ys[j]?) (fun i _=>n - (intOf i).toNat)
  case atStart=>exact⟨0,0,Nat.zero_le _,rfl,rfl,fun j hj=>absurd hj (by omega)⟩
  case round=>
   obtain⟨k,q,hk,rfl,rfl,hbefore⟩:=hrel
   have HB:=hide hbefore
   clear hbefore
   by_cases hlt:k<n
   ·obtain⟨b,off,rfl,_,hc⟩:=hcell (by omega)
    obtain⟨b',off',rfl,_,hc'⟩:=hcell' (by omega)
    obtain⟨x,hx⟩: ∃x,xs[k]? =some x:=⟨_,List.getElem?_eq_getElem (by rw [<-HN.out];omega)⟩
    obtain⟨y,hy⟩: ∃y,ys[k]? =some y:=⟨_,List.getElem?_eq_getElem (by rw [<-HM.out];omega)⟩
    have hcx:=hc k x hx
    have hcy:=hc' k y hy
    have HX:=hide hx
    have HY:=hide hy
    clear hcell hc hx hcell' hc' hy
    by_cases he:x=y
    ·have HE:=hide he
     have he':(x==y)=true:=by subst he;simp
     clear he
     go_wp2_with fail
     go_quiet (fail)
     go_wp2
     go_roundw
     case rel=>
      refine⟨k+1,q+nq,by omega,by go_num,rfl,fun j hj=> ?_⟩
      by_cases hjk:j=k
      ·subst hjk;rw [HX.out,HY.out,HE.out]
      ·exact HB.out j (by omega)
     case measure=>simp [intOf];omega
    ·have HE:=hide he
     have he':(x==y)=false:=by simpa using he
     clear he
     go_wp2_with fail
     go_quiet (fail)
     go_wp2
     go_ret
     refine⟨ret_bool ?_,⟨rfl,rfl,rfl,Nat.le_refl _,fun _ _=>rfl⟩⟩
     symm
     rw [decide_eq_false_iff_not]
     rintro rfl
     rw [HX.out]at HY
     have:=HY.out
     injection this with this
     exact HE.out this
   ·go_wp2
    go_ret
    refine⟨ret_bool ?_,⟨rfl,rfl,rfl,Nat.le_refl _,fun _ _=>rfl⟩⟩
    symm
    rw [decide_eq_true_eq]
    apply List.ext_getElem?
    intro j
    by_cases hj:j<n
    ·exact HB.out j (by omega)
    ·rw [List.getElem?_eq_none (by rw [<-HN.out];omega),List.getElem?_eq_none (by rw [<-HM.out];omega)]
 ·have hne:((n:Int)==(m:Int))=false:=by simpa using(by omega: ¬(n:Int)=(m:Int))
  have HN:=hide hn
  have HM:=hide hm
  clear hn hm
  go_enter Tryz.func65,Tryz.ntmps65
  go_wp2
  go_ret
  refine⟨ret_bool ?_,⟨rfl,rfl,rfl,Nat.le_refl _,fun _ _=>rfl⟩⟩
  symm
  rw [decide_eq_false_iff_not]
  rintro rfl
  exact hnm (by rw [HN.out,HM.out])
abbrev RdUs (w:World) (F:Nat->Prop) (v:Value) (l:List (List Int)):Prop:=RdRw (fun z x=>RdU w F z x) w F v l
theorem RdUs.below {w w':World} {F:Nat->Prop} {B:Nat} {v:Value} {l:List (List Int)} (h:RdUs w F v l) (b:Below B w w') (hF: ∀k,F k->k<B):RdUs w' F v l:=RdRw.mono' h (fun Z r=>r.below b hF) fun z x r=>Rd.below r b hF
theorem RdUs.touch {w w':World} {F S:Nat->Prop} {v:Value} {l:List (List Int)} (h:RdUs w F v l) (t:Touch S w w') (hF: ∀k,F k-> ¬S k):RdUs w' F v l:=RdRw.mono' h (fun Z r=>r.touch t hF) fun z x r=>Rd.touch r t hF
theorem RdUs.mono {w:World} {F F':Nat->Prop} {v:Value} {l:List (List Int)} (h:RdUs w F v l) (hF: ∀k,F k->F' k):RdUs w F' v l:=RdRw.mono' h (fun Z r=>r.mono hF) fun z x r=>Rd.mono r hF
theorem RdUs.row {w:World} {F:Nat->Prop} {A:Option Addr} {n c:Nat} {l:List (List Int)} (h:RdUs w F (.slice A n c) l) {i:Nat} {x:List Int} (hx:l[i]? =some x): ∃b off A' c',A=some ⟨b,off,none⟩/\F b/\w.cell? ⟨b,off+i,none⟩=some (.slice A' x.length c')/\RdU w F (.slice A' x.length c') x/\x.length<=c'/\c'<=maxLen:=by
 obtain⟨hn,-,-,hc⟩:=RdRw.at_ h
 obtain⟨b,off,hA,hF,hcc⟩:=hc (by have:=(List.getElem?_eq_some_iff.1 hx).1;omega)
 obtain⟨z,hz,r⟩:=hcc i x hx
 obtain⟨A',n',c',rfl,-⟩:=id r
 obtain⟨rfl,h1,h2,-⟩:=RdU.at_ r
 exact⟨b,off,A',c',hA,hF,hz,r,h1,h2⟩
theorem Tryz.enters_equ: ∀args w,(callFunc 65 args).run Tryz.prog w= .ok (.enter 65 args) w:=enters_of Tryz.func65 (by kernel_rfl) rfl
set_option maxHeartbeats 2000000 in
theorem equal_rows {w:World} {F G:Nat->Prop} {v u:Value} {xs ys:List (List Int)} (h:RdUs w F v xs) (g:RdUs w G u ys) (hF: ∀b,F b->b<w.heap.size) (hG: ∀b,G b->b<w.heap.size):
  Calls Tryz.prog 64 #[v,u,.func (.func 65) #[] #[]] w (Quiet w (.bool (decide (xs=ys)))):=by
 obtain⟨A,c,rfl,hc1,hc2⟩:=RdRw.shape h
 obtain⟨B,d,rfl,hd1,hd2⟩:=RdRw.shape g
 obtain⟨n,en⟩: ∃n,n=xs.length:=⟨_,rfl⟩
 obtain⟨m,em⟩: ∃m,m=ys.length:=⟨_,rfl⟩
 rw [<-en]at h hc1⊢
 rw [<-em]at g hd1⊢
 unfold maxLen at hc2 hd2
 have eg:=Tryz.enters_equ
 obtain⟨Xh,Xg,Xen,Xem,XhF,XhG⟩:=HqZ6 h g en em hF hG;clear h g en em hF hG
 by_cases hnm:n=m
 ·subst hnm
  go_enter Tryz.func64,Tryz.ntmps64
  go_wp2_with fail
  go_loopw [17] (fun i wr=> ∃k:Nat,k<=n/\i= .int .i64 k/\Below w.heap.size w wr/\ ∀j:Nat,j<k->xs[j]? =ys[j]?) (fun i _=>n - (intOf i).toNat)
  case atStart=>exact⟨0,Nat.zero_le _,rfl,Below.refl _ _,fun j hj=>absurd hj (by omega)⟩
  case round=>
   obtain⟨k,hk,rfl,hw,hbefore⟩:=hrel
   by_cases hlt:k<n
   ·have hlt':(k:Int)<(n:Int):=by omega
    obtain⟨x,hx⟩: ∃x,xs[k]? =some x:=⟨_,List.getElem?_eq_getElem (by rw [<-Xen.out];omega)⟩
    obtain⟨y,hy⟩: ∃y,ys[k]? =some y:=⟨_,List.getElem?_eq_getElem (by rw [<-Xem.out];omega)⟩
    have h2:=Xh.out.below hw XhF.out
    have g2:=Xg.out.below hw XhG.out
    obtain⟨b,off,A5,c5,rfl,-,cx,rx,-,m5⟩:=RdUs.row h2 hx
    obtain⟨b',off',A6,c6,rfl,-,cy,ry,-,m6⟩:=RdUs.row g2 hy
    unfold maxLen at m5 m6
    have hs:=equal_u16 rx ry
    obtain⟨ln,hln⟩: ∃q,q=x.length:=⟨_,rfl⟩
    obtain⟨lm,hlm⟩: ∃q,q=y.length:=⟨_,rfl⟩
    rw [<-hln]at hs cx
    rw [<-hlm]at hs cy
    clear rx ry h2 g2
    by_cases he:x=y
    ·have hd:decide (x=y)=true:=by simpa using he
     rw [hd]at hs
     obtain⟨Xhe,Xhd,Xhs,Xhx,Xhy,Xhw,Xhbefore,Xhln,Xhlm⟩:=HqZ9 he hd hs hx hy hw hbefore hln hlm;clear he hd hs hx hy hw hbefore hln hlm
     go_wp2_with fail
     refine Xhs.out.mono ?_
     rintro e w1 ⟨rfl,b1⟩
     go_wp2_with fail
     go_roundw
     case rel=>
      refine⟨k+1,by omega,by go_num,Xhw.out.trans (b1.mono Xhw.out.size),fun j hj=> ?_⟩
      by_cases hjk:j=k
      ·subst hjk;rw [Xhx.out,Xhy.out,Xhe.out]
      ·exact Xhbefore.out j (by omega)
     case measure=>simp [intOf];omega
    ·have hd:decide (x=y)=false:=by simpa using he
     rw [hd]at hs
     obtain⟨Xhe,Xhd,Xhs,Xhx,Xhy,Xhw,Xhbefore,Xhln,Xhlm⟩:=HqZ9 he hd hs hx hy hw hbefore hln hlm;clear he hd hs hx hy hw hbefore hln hlm
     go_wp2_with fail
     refine Xhs.out.mono ?_
     rintro e w1 ⟨rfl,b1⟩
     go_wp2_with fail
     go_ret
     refine⟨ret_bool ?_,Xhw.out.trans (b1.mono Xhw.out.size)⟩
     symm
     rw [decide_eq_false_iff_not]
     rintro rfl
     have:=Xhx.out.symm.trans Xhy.out
     injection this with this
     exact Xhe.out this
   ·have hlt': ¬(k:Int)<(n:Int):=by omega
    obtain⟨Xhbefore,Xhw⟩:=HqZ2 hbefore hw;clear hbefore hw
    go_wp2_with fail
    go_ret
    refine⟨ret_bool ?_,Xhw.out⟩
    symm
    rw [decide_eq_true_eq]
    apply List.ext_getElem?
    intro j
    by_cases hj:j<n
    ·exact Xhbefore.out j (by omega)
    ·rw [List.getElem?_eq_none (by rw [<-Xen.out];omega),List.getElem?_eq_none (by rw [<-Xem.out];omega)]
 ·have hne:((n:Int) !=(m:Int))=true:=by simpa using(by omega: ¬(n:Int)=(m:Int))
  have hnm':=hnm
  have Xhnm:=hide hnm;clear hnm
  go_enter Tryz.func64,Tryz.ntmps64
  go_wp2_with fail
  go_ret
  refine⟨ret_bool ?_,Below.refl _ _⟩
  symm
  rw [decide_eq_false_iff_not]
  rintro rfl
  exact Xhnm.out (by rw [Xen.out,Xem.out])
end Go.Proofs.YtlpipniclimgeaaGreat
namespace Go.Proofs.YtlpipniclimgeaaGreat
set_option linter.unusedVariables false
set_option linter.unusedSimpArgs false
open Go.RowKit Go.Maps
attribute [local irreducible] wpStill wpOne wpPh
def U16 (r:List Int):Prop:= ∀n∈r,0<=n/\n<65536
def bytesN (l:List Int):List Int:=l.flatMap fun n=>[n/256,n%256]
theorem bytesN_cons (x:Int) (l:List Int):bytesN (x::l)=x/256::x%256::bytesN l:=rfl
theorem bytesN_app (l r:List Int):bytesN (l++r)=bytesN l++bytesN r:=by unfold bytesN;rw [List.flatMap_append]
theorem bytesN_snoc (l:List Int) (x:Int):bytesN (l++[x])=bytesN l++[x/256,x%256]:=bytesN_app l [x]
theorem bytesN_len: ∀l:List Int,(bytesN l).length=l.length * 2
 |[]=>rfl
 |x::l=>by rw [bytesN_cons,List.length_cons,List.length_cons,bytesN_len l,List.length_cons];omega
theorem U16.cons {x:Int} {l:List Int} (h:U16 (x::l)):(0<=x/\x<65536)/\U16 l:=⟨h x (List.mem_cons_self ..),fun n hn=>h n (List.mem_cons_of_mem _ hn)⟩
theorem bytesN_byte: ∀{l:List Int},U16 l-> ∀b∈bytesN l,0<=b/\b<256
 |[],_,b,hb=>by cases hb
 |x::l,h,b,hb=>by
  rw [bytesN_cons]at hb
  have hx:=h.cons.1
  rcases List.mem_cons.1 hb with e|hb
  ·omega
  ·rcases List.mem_cons.1 hb with e|hb
   ·omega
   ·exact bytesN_byte h.cons.2 b hb
theorem bytesN_inj: ∀{l l':List Int},bytesN l=bytesN l'->l=l'
 |[],[],_=>rfl
 |[],y::r,h=>by rw [bytesN_cons]at h;cases h
 |x::r,[],h=>by rw [bytesN_cons]at h;cases h
 |x::r,y::t,h=>by
  rw [bytesN_cons,bytesN_cons]at h
  injection h with h1 h2
  injection h2 with h2 h3
  have e:x=y:=by omega
  rw [e,bytesN_inj h3]
theorem u8_inj {a b:Int} (ha:0<=a/\a<256) (hb:0<=b/\b<256) (e:UInt8.ofNat a.toNat=UInt8.ofNat b.toNat):a=b:=by
 have h:=congrArg UInt8.toNat e
 simp only [UInt8.toNat_ofNat']at h
 omega
theorem map_u8_inj: ∀{l l':List Int},(∀b∈l,0<=b/\b<256)->(∀b∈l',0<=b/\b<256)->(l.map fun n=>UInt8.ofNat n.toNat)=(l'.map fun n=>UInt8.ofNat n.toNat)->l=l'
 |[],[],_,_,_=>rfl
 |[],_::_,_,_,h=>by cases h
 |_::_,[],_,_,h=>by cases h
 |x::r,y::t,hx,hy,h=>by
  rw [List.map_cons,List.map_cons]at h
  injection h with h1 h2
  rw [u8_inj (hx x (List.mem_cons_self ..)) (hy y (List.mem_cons_self ..)) h1,map_u8_inj (fun b hb=>hx b (List.mem_cons_of_mem _ hb)) (fun b hb=>hy b (List.mem_cons_of_mem _ hb)) h2]
def ukey (r:List Int):Lit:= .string ((bytesN r).map fun n=>UInt8.ofNat n.toNat)
theorem ukey_inj {r r':List Int} (h:U16 r) (h':U16 r') (e:ukey r=ukey r'):r=r':=by
 unfold ukey at e
 injection e with e
 exact bytesN_inj (map_u8_inj (bytesN_byte h) (bytesN_byte h') e)
theorem ukey_some {r:List Int} (h:r.length<=70000):keyOf Tryz.prog 9 (.string (strOfNums (bytesN r)))=some (ukey r):=by
 have:=Go.WideMaps.keyOf_string_mk (P:=Tryz.prog) (s:=strOfNums (bytesN r)) Tryz.underlying9 (by
  have e:(strOfNums (bytesN r)).size=(bytesN r).length:=by unfold strOfNums;simp [ByteArray.size]
  rw [e,bytesN_len];unfold maxLen;omega)
 rw [this]
 unfold ukey strOfNums
 simp
structure NMap (D:DataW Unit) (R:List (List Int)):Prop where
 isMap:Maps.IsMap D
 has: ∀r,U16 r->(Maps.has D (ukey r)=true↔r∈R)
 at_: ∀r,U16 r->r∈R-> ∀z,D.atKey (ukey r) z= .lit (.int .i64 (plR R r))
theorem NMap.empty:NMap (.map []) []:=⟨Maps.isMap_empty,fun _ _=>by simp [Maps.has],fun _ _ h=>by cases h⟩
theorem plR_app {R:List (List Int)} {r x:List Int} (h:r∈R):plR (R++[x]) r=plR R r:=by
 induction R with
 |nil=>cases h
 |cons y R ih=>
  rw [List.cons_append]
  unfold plR
  by_cases e:y=r
  ·rw [if_pos e,if_pos e]
  ·rw [if_neg e,if_neg e,ih (by rcases List.mem_cons.1 h with h|h;exact absurd h.symm e;exact h)]
theorem plR_new {R:List (List Int)} {r:List Int} (h:r∉R):plR (R++[r]) r=R.length:=by
 induction R with
 |nil=>rw [List.nil_append];unfold plR;rw [if_pos rfl];rfl
 |cons y R ih=>
  rw [List.cons_append]
  unfold plR
  have hne: ¬y=r:=fun e=>h (by rw [e];exact List.mem_cons_self ..)
  rw [if_neg hne,ih (fun c=>h (List.mem_cons_of_mem _ c))];rfl
theorem NMap.put {D:DataW Unit} {R:List (List Int)} (h:NMap D R) {r:List Int} (hL: ∀q∈R,U16 q) (hr:U16 r) (hn:r∉R):NMap (D.put (ukey r) (.lit (.int .i64 R.length))) (R++[r]):=by
 have hkl:WideAt.IsKeyLit (ukey r):=by unfold ukey;simp [WideAt.IsKeyLit]
 refine⟨h.isMap.put _ _,fun t ht=> ?_,fun t ht hi z=> ?_⟩
 ·by_cases e:t=r
  ·subst e
   rw [Maps.has_put_same h.isMap hkl];simp
  ·rw [Maps.has_put_other (fun c=>e (ukey_inj ht hr c)),h.has t ht];simp [e]
 ·by_cases e:t=r
  ·subst e
   rw [Maps.atKey_put_same h.isMap hkl,plR_new hn]
  ·rw [Maps.atKey_put_other (fun c=>e (ukey_inj ht hr c))]
   have hi':t∈R:=by simpa [e]using hi
   rw [plR_app hi']
   exact h.at_ t ht hi' z
structure RowsT (V:World) (ow:Nat->Nat) (tb tm ta te B M:Nat) (A:Option Addr) (n c:Nat) (R:List (List Int)):Prop where
 hn:n=R.length
 oB:ow B=tb
 oM:ow M=tm
 blk:Blk V B 104 #[.map (some M),.slice A n c]
 map: ∃D:DataW Unit,V.ownsMap Tryz.prog 9 (plainElem Tryz.prog 3) M n D/\NMap D R
 row: ∃Z:List Value,Z.length=R.length/\Row V ow ta 51 1 A n c Z/\ ∀(j:Nat) z r,Z[j]? =some z->R[j]? =some r->RdU V (TF V ow (fun i=>i=te)) z r
 u16: ∀r∈R,U16 r
section
variable {V V' : World} {ow ow' : Nat -> Nat} {tb tm ta te B M : Nat} {A : Option Addr} {n c : Nat} {R : List (List Int)} {J : Nat -> Prop}
theorem RowsT.step (h:RowsT V ow tb tm ta te B M A n c R) (s:StL J V ow V' ow') (h1: ¬J tb) (h2: ¬J tm) (h3: ¬J ta) (h4: ¬J te):RowsT V' ow' tb tm ta te B M A n c R:=by
 obtain⟨D,m1,m2⟩:=h.map
 obtain⟨Z,r1,r2,r3⟩:=h.row
 have hlM:M<V.heap.size:=by obtain⟨es,clock,hb,_⟩:=m1;exact(Array.getElem?_eq_some_iff.1 hb).1
 exact⟨h.hn,(s.eq B h.blk.lt).trans h.oB,(s.eq M hlM).trans h.oM,h.blk.touch s.t (by rw [h.oB];exact h1),⟨D,s.t.ownsMap m1 (by rw [h.oM];exact h2),m2⟩,⟨Z,r1,r2.step s h3,fun j z r hz hr=>Rd.step (r3 j z r hz hr) s (fun i e=>by subst e;exact h4)⟩,h.u16⟩
end
theorem conv_own {w:World} {base:Nat} {A:Option Addr} {n c:Nat} {xs:List Int} (h:w.ownsRow base 5 1 (.slice A n c) n (xs.map (Value.int .u8))):(convert 29 9 (.slice A n c)).run Tryz.prog w= .ok (.string (strOfNums xs)) w:=by
 have hl:xs.length=n:=by have:=h.1;simpa using this
 rcases h.2 with⟨e,h0⟩|⟨g,cap,cur,e,-,hg,-,-,-,ht⟩
 ·simp only [Value.slice.injEq]at e
  obtain⟨rfl,rfl,rfl⟩:=e
  have:xs=[]:=List.eq_nil_of_length_eq_zero hl
  subst this
  rw [run_convert_bytes_nil w 29 5 Tryz.underlying29 Tryz.underlying5 0 0 9 Tryz.underlying9]
  rfl
 ·simp only [Value.slice.injEq]at e
  obtain⟨rfl,-,rfl⟩:=e
  obtain⟨A',n',c',hv,h1,h2,h3,hr⟩:=Rd.of_own h
  simp only [Value.slice.injEq]at hv
  obtain⟨e1,rfl,rfl⟩:=hv
  refine run_convert_bytes_arg w 29 5 Tryz.underlying29 Tryz.underlying5 g 0 n c xs hl (fun i hi=> ?_) 9 Tryz.underlying9
  obtain⟨b,off,hA,-,hcell⟩:=hr (by omega)
  rw [<-e1]at hA
  injection hA with hA
  injection hA with hA1 hA2
  subst hA1 hA2
  refine hcell i _ ?_
  rw [List.getElem?_map,List.getD_eq_getElem?_getD,List.getElem?_eq_getElem (by omega)];rfl
theorem Tryz.infoU8:(Tryz.prog.info? 5).map (fun i=>(i.zero,i.size,i.bytes))=some (some (.int .u8 0),1,1):=by kernel_rfl
theorem Tryz.elemU8:Elem Tryz.prog 29 5 (.int .u8 0) 1 1:=⟨Tryz.underlying29,Tryz.infoU8,rfl,by decide⟩
theorem Tryz.infoRU:(Tryz.prog.info? 51).map (fun i=>(i.zero,i.size,i.bytes))=some (some (.slice none 0 0),1,24):=by kernel_rfl
theorem Tryz.elemRU:Elem Tryz.prog 24 51 (.slice none 0 0) 1 24:=⟨Tryz.underlying24,Tryz.infoRU,rfl,by decide⟩
theorem make_bytes (m:Nat) (hm:m<=1000000) (w:World):(Instr.makeSlice 29 (.int .i64 0) (.int .i64 (m:Int))).run Tryz.prog w= .ok (.slice (some ⟨w.heap.size,0,none⟩) 0 m) (w.alloc (.cells (madeCells #[.int .u8 0] m) 5)):=by
 obtain⟨i,hi,hz,hsize,hby⟩:=info_parts Tryz.infoU8
 have hr:=run_make (P:=Tryz.prog) w 29 5 i _ Tryz.underlying29 hi hz .i64 .i64 0 m (by omega) (by omega) (by rw [hby];omega) (by omega)
 simp only [Int.toNat_natCast]at hr
 rw [hr,hsize,Nat.mul_one];rfl
theorem own_made (w:World) (m:Nat) (hm:m<=1000000):(w.alloc (.cells (madeCells #[.int .u8 0] m) 5)).ownsRow w.heap.size 5 1 (.slice (some ⟨w.heap.size,0,none⟩) 0 m) 0 ((bytesN []).map (Value.int .u8)):=
 ⟨rfl,.inr ⟨w.heap.size,m,madeCells #[.int .u8 0] m,rfl,Nat.le_refl _,Blk.new _ _ _,Nat.zero_le _,by unfold maxLen;omega,by unfold madeCells;simp,by simp [bytesN]⟩⟩
theorem wrap_u8 {x:Int} (h0:0<=x) (h1:x<65536):IntKind.u8.wrap (x/256)=x/256/\IntKind.u8.wrap x=x%256:=by
 simp [IntKind.wrap,IntKind.bits,IntKind.signed]
 omega
def PuPost (V:World) (ow:Nat->Nat) (tb tm ta te B M:Nat) (R:List (List Int)) (x:List Int) (e:Ending) (V':World):Prop:=e= .returned (.int .i64 ((plR R x:Nat):Int))/\ ∃ow' A' n' c',StL (fun i=>i=tb\/i=tm\/i=ta) V ow V' ow'/\RowsT V' ow' tb tm ta te B M A' n' c' (putR R x)
set_option maxRecDepth 100000 in
set_option maxHeartbeats 4000000 in
theorem pack_put {V:World} {ow:Nat->Nat} {tb tm ta te B M:Nat} {A:Option Addr} {n c:Nat} {R:List (List Int)} (h:RowsT V ow tb tm ta te B M A n c R) (hd:tb≠tm/\tb≠ta/\tb≠te/\tm≠ta/\tm≠te/\ta≠te) {v:Value} {x:List Int} (hx:RdU V (TF V ow (fun i=>i=te)) v x) (hu:U16 x) (hl:x.length<=70000) (hR:n<=100000):
  Calls Tryz.prog 44 #[PtB B,v] V (PuPost V ow tb tm ta te B M R x):=by
 obtain⟨Ax,nx,cx,rfl,-⟩:=id hx
 obtain⟨hnx,hxc,hxm,-⟩:=RdU.at_ hx
 unfold maxLen at hxm
 have hBl:=h.blk.lt
 obtain⟨m2,hm2⟩: ∃m2:Nat,m2=nx * 2:=⟨_,rfl⟩
 have hwm:IntKind.i64.wrap (2 * (nx:Int))=(m2:Int):=by rw [IntKind.wrap_i64];omega
 have hmk:=fun W=>make_bytes m2 (by omega) W
 have hon:=own_made V m2 (by omega)
 obtain⟨V1,hV1⟩: ∃x,x=V.alloc (.cells (madeCells #[.int .u8 0] m2) 5):=⟨_,rfl⟩
 rw [<-hV1]at hon
 have b1:Below V.heap.size V V1:=by rw [hV1];exact(Below.refl _ _).alloc (Nat.le_refl _) _
 rw [<-hnx]at hl
 have hk:=ukey_some (r:=x) (by omega)
 generalize madeCells #[.int .u8 0] m2=mc at *
 obtain⟨Xh,Xhx,Xhu,Xhnx,Xhm2,Xhon,XhBl,Xhd,Xhk,Xb1⟩:=HqZ10 h hx hu hnx hm2 hon hBl hd hk b1;clear h hx hu hnx hm2 hon hBl hd hk b1
 go_enter Tryz.func44,Tryz.ntmps44
 go_wp2_with fail
 rw [<-hV1]
 go_loopw [5,17] (fun ov iv wr=> ∃(k c:Nat) (A:Option Addr),k<=nx/\ov= .slice A (k * 2) c/\iv= .int .i64 (k:Int)/\Below V.heap.size V wr/\wr.ownsRow V.heap.size 5 1 (.slice A (k * 2) c) (k * 2) ((bytesN (x.take k)).map (Value.int .u8))) (fun _ iv _=>nx - (intOf iv).toNat)
 case atStart=>exact⟨0,m2,some ⟨V.heap.size,0,none⟩,Nat.zero_le _,rfl,rfl,Xb1.out,Xhon.out⟩
 case round=>
  clear Xhon hV1 Xb1
  obtain⟨k,cb,Ab,hk,rfl,rfl,le,own⟩:=hrel
  by_cases hlk:k<nx
  ·have hlk':(k:Int)<(nx:Int):=by omega
   obtain⟨a,ha⟩: ∃a,x[k]? =some a:=⟨_,List.getElem?_eq_getElem (by rw [<-Xhnx.out];exact hlk)⟩
   obtain⟨a0,a1⟩:=Xhu.out a (List.mem_of_getElem? ha)
   obtain⟨-,-,-,hcell⟩:=RdU.at_ (Rd.below Xhx.out le (fun b hb=>hb.1))
   obtain⟨b4,o4,rfl,-,hcc⟩:=hcell (by omega)
   have p0:=hcc k a ha
   obtain⟨hw1,hw2⟩:=wrap_u8 a0 a1
   have hnb:(bytesN (x.take k)).map (Value.int .u8)++[.int .u8 (a/256),.int .u8 (a%256)]=(bytesN (x.take (k+1))).map (Value.int .u8):=by rw [take_next ha,bytesN_snoc,List.map_append];rfl
   have al7:Below wr.heap.size wr (wr.alloc (.cells #[.int .u8 (a/256),.int .u8 (a%256)] 5)):=(Below.refl _ _).alloc (Nat.le_refl _) _
   have own7:=own_below' own al7
   have le7:=le.trans (al7.mono le.size)
   have rtwo:Rd (wr.alloc (.cells #[.int .u8 (a/256),.int .u8 (a%256)] 5)) (fun x=>x=wr.heap.size) (.slice (some ⟨wr.heap.size,0,none⟩) 2 2) 1 [.int .u8 (a/256),.int .u8 (a%256)]:=Rd.of_blk (F:=fun b=>b=wr.heap.size) (us:=[.int .u8 (a/256),.int .u8 (a%256)]) (n:=2) (Blk.new _ _ _) rfl rfl (by decide)
   obtain⟨us,hus⟩: ∃q,q=(bytesN (x.take k)).map (Value.int .u8):=⟨_,rfl⟩
   rw [<-hus]at own7 hnb
   clear hus hcell hcc ha al7 own le
   obtain⟨Xown7,Xle7,Xrtwo,Xhnb⟩:=HqZ4 own7 le7 rtwo hnb;clear own7 le7 rtwo hnb
   go_wp2_with (at_builtin;refine wp_append _ rfl (.tmp 21) (.tmp 27) _ rfl Tryz.elemU8 V.heap.size (.slice Ab (k * 2) cb) (k * 2) _ rfl Xown7.out _ _ [.int .u8 (a/256),.int .u8 (a%256)] 2 rfl rfl Xrtwo.out (by simp [Value.oneCell']) (by unfold maxLen;omega) (by omega) Xle7.out.size ?_)
   intro A8 c8 w8 own8 g8 hb8
   rw [Xhnb.out]at own8
   have le8:=Xle7.out.grown g8 Xle7.out.size (fun q hq=>(World.ownsRow.lt Xown7.out q hq).1)
   rw [show k * 2+2=(k+1) * 2 by omega]at own8⊢
   clear g8 hb8 Xown7 Xle7 Xrtwo Xhnb
   obtain⟨Xown8,Xle8⟩:=HqZ2 own8 le8;clear own8 le8
   go_wp2_with fail
   go_roundw
   case rel=>exact⟨k+1,c8,A8,by omega,rfl,by go_num,Xle8.out,Xown8.out⟩
   case measure=>simp [intOf];omega
  ·have hlk': ¬(k:Int)<(nx:Int):=by omega
   obtain rfl:nx=k:=by omega
   rw [List.take_of_length_le (by rw [<-Xhnx.out];exact Nat.le_refl _)]at own
   have hconv:=conv_own own
   have hkey:=Xhk.out
   obtain⟨ow1,how1⟩: ∃q,q=ext V ow ta:=⟨_,rfl⟩
   have s1:StL (fun _=>False) V ow wr ow1:=by rw [how1];exact StL.new _ le ow ta
   have h1:=Xh.out.step s1 id id id id
   have hx1:=Rd.step Xhx.out s1 (fun _ _ e=>e)
   obtain⟨D,a1,a2⟩:=h1.map
   have q0:=(h1.blk.cell 0).trans rfl
   have hh:=a2.has x Xhu.out
   by_cases hin:x∈R
   ·have hyes:=hh.2 hin
    have hat:=a2.at_ x Xhu.out hin
    obtain⟨pl,hpl⟩: ∃q,q=plR R x:=⟨_,rfl⟩
    rw [<-hpl]at hat
    clear hh own le hx1
    obtain⟨Xh1,Xhat,Xhpl,Xhin,Xs1,Xhow1⟩:=HqZ6 h1 hat hpl hin s1 how1;clear h1 hat hpl hin s1 how1
    go_wp2_with (at_lookup;refine wpList_lookup_own_ok_int _ rfl _ _ 102 rfl 9 3 .i64 Tryz.strKeyd Tryz.underlying102 Tryz.underlying3 (Tryz.zeroInt _) _ _ D rfl a1 _ _ rfl hkey ?_;intro cc hat' hwc)
    have hcv:cc=(pl:Int):=by
     rw [Xhat.out]at hat'
     injection hat' with e
     injection e with _ e
     exact e.symm
    subst hcv
    clear hat'
    go_wp2_with fail
    go_ret
    exact⟨ret_int (by rw [Xhpl.out]),ow1,A,n,c,Xs1.out.mono (fun _ e=>e.elim),by rw [putR_yes Xhin.out];exact Xh1.out⟩
   ·have hno:Maps.has D (ukey x)=false:=by rw [Bool.eq_false_iff];exact fun e=>hin (hh.1 e)
    have sd:StL (fun _=>False) wr ow1 wr.drew ow1:=⟨Touch.of_size ((Below.refl _ wr).drew) _,fun _ _=>rfl⟩
    have h2:=h1.step sd id id id id
    have hx2:=Rd.step hx1 sd (fun _ _ e=>e)
    have q1:=(h1.blk.cell 1).trans rfl
    have a1d:wr.drew.ownsMap Tryz.prog 9 (plainElem Tryz.prog 3) M n D:=a1
    have hwfn:(Lit.int .i64 (n:Int)).wf=true:=wf_i64_mk (by omega)
    have hLl:n<maxLen:=by unfold maxLen;omega
    have hput:=a2.put h1.u16 Xhu.out hin
    rw [<-h1.hn]at hput
    have hpl:plR R x=n:=by rw [plR_no hin,h1.hn]
    clear hh a2 own le hx1
    obtain⟨Xh1,Xh2,Xhx2,Xhput,Xhpl,Xhin,Xs1,Xsd,Xhow1⟩:=HqZ9 h1 h2 hx2 hput hpl hin s1 sd how1;clear h1 h2 hx2 hput hpl hin s1 sd how1
    go_wp2_with (at_lookup;refine wpList_lookup_own_ok_int _ rfl _ _ 102 rfl 9 3 .i64 Tryz.strKeyd Tryz.underlying102 Tryz.underlying3 (Tryz.zeroInt _) _ _ D rfl a1 _ _ rfl hkey ?_;intro cc hat hwc)
    clear hat hwc a1 hno
    refine region_tail 10 (by kernel_rfl) (by kernel_rfl) ?_
    simp only [List.take_succ_cons,List.take_zero,List.drop_succ_cons,List.drop_zero]
    repeat still_step
    refine wpStill_nil ?_
    go_wp2_with (at_mapUpdate;refine wpList_mapUpdate_own _ rfl _ _ _ 102 rfl 9 3 Tryz.strKeyd Tryz.underlying102 _ M n D rfl a1d hLl _ _ _ rfl rfl hkey _ [] (plainElem_int Tryz.underlying3 hwfn) ?_)
    intro w2 m2' g2
    obtain⟨d1,d2,d3,d4,d5,d6⟩:=Xhd.out
    have h2:=Xh2.out
    have s2:StL (fun i=>i=tm) wr.drew ow1 w2 (ext wr.drew ow1 ta):=StL.ext ((Touch.refl _ _).grown g2 (fun b e _=>by injection e with e;subst e;exact h2.oM)) ta
    obtain⟨ow2,how2⟩: ∃q,q=ext wr.drew ow1 ta:=⟨_,rfl⟩
    rw [<-how2]at s2
    obtain⟨Z,z1,z2,z3⟩:=h2.row
    have bk2:=h2.blk.touch s2.t (by rw [h2.oB];exact d1)
    have oB2:=(s2.eq B h2.blk.lt).trans h2.oB
    have hlM:M<wr.drew.heap.size:=by obtain⟨es,clock,hb,_⟩:=a1d;exact(Array.getElem?_eq_some_iff.1 hb).1
    have oM2:=(s2.eq M hlM).trans h2.oM
    have rw2:=z2.step s2 (fun e=>d4 e.symm)
    have hx2:=Rd.step Xhx2.out s2 (fun i e e'=>d5 (e'.symm.trans e))
    have z32:=fun(j:Nat) z r hz hr=>Rd.step (z3 j z r hz hr) s2 (fun i e e'=>d5 (e'.symm.trans e))
    have q1:=(bk2.cell 1).trans rfl
    obtain⟨w7,hw7⟩: ∃q,q=w2.alloc (.cells #[.slice Ax nx cx] 51):=⟨_,rfl⟩
    have b7:Below w2.heap.size w2 w7:=by rw [hw7];exact(Below.refl _ _).alloc (Nat.le_refl _) _
    obtain⟨ow7,how7⟩: ∃q,q=ext w2 ow2 ta:=⟨_,rfl⟩
    have s7:StL (fun _=>False) w2 ow2 w7 ow7:=by rw [how7];exact StL.new _ b7 ow2 ta
    have rw7:=rw2.step s7 id
    have hx7:=Rd.step hx2 s7 (fun _ _ e=>e)
    have z37:=fun(j:Nat) z r hz hr=>Rd.step (z32 j z r hz hr) s7 (fun _ _ e=>e)
    have bk7:=bk2.below b7 bk2.lt
    have oB7:=(s7.eq B bk2.lt).trans oB2
    have hlM2:M<w2.heap.size:=Nat.lt_of_lt_of_le hlM s2.size
    have oM7:=(s7.eq M hlM2).trans oM2
    have m7:=s7.t.ownsMap m2' (fun e=>e)
    have own7:=rw7.own
    have hone:Rd w7 (fun b=>b=w2.heap.size) (.slice (some ⟨w2.heap.size,0,none⟩) 1 1) 1 [.slice Ax nx cx]:=by rw [hw7];exact Rd.one' (w:=w2) (e:=51) [.slice Ax nx cx] 1 rfl
    rw [hw7]at own7 hone
    clear q0 a1d hwfn z2 z3 rw2 hx2 z32 h2
    obtain⟨Xm2',Xg2,Xs2,Xhow2,Xbk2,Xown7,Xhone,Xs7,Xhow7,Xrw7,Xhx7,Xz37,Xbk7,Xm7⟩:=HqZ14 m2' g2 s2 how2 bk2 own7 hone s7 how7 rw7 hx7 z37 bk7 m7;obtain⟨Xz1,XoB2,XoM2,XoB7,XoM7,XhlM,XhlM2,Xb7,Xd1,Xd2,Xd3,Xd4,Xd5,Xd6⟩:=HqZ14 z1 oB2 oM2 oB7 oM7 hlM hlM2 b7 d1 d2 d3 d4 d5 d6;clear m2' g2 s2 how2 bk2 own7 hone s7 how7 rw7 hx7 z37 bk7 m7 z1 oB2 oM2 oB7 oM7 hlM hlM2 b7 d1 d2 d3 d4 d5 d6
    go_wp2_with (at_builtin;refine wp_append _ rfl (.tmp 57) (.tmp 59) _ rfl Tryz.elemRU 0 (.slice A n c) n _ rfl Xown7.out _ _ [.slice Ax nx cx] 1 rfl rfl Xhone.out (by simp [Value.oneCell']) (by unfold maxLen;omega) (by omega) (Nat.zero_le _) ?_)
    intro A8 c8 w8 own8 g8 hb8
    rw [<-hw7]at g8
    rw [show w2.heap.size+1=w7.heap.size by rw [hw7];simp]at hb8
    obtain⟨rw8,s8⟩:=Xrw7.out.app own8 g8 hb8
    obtain⟨ow8,how8⟩: ∃q,q=ext w7 ow7 ta:=⟨_,rfl⟩
    rw [<-how8]at rw8 s8
    have hx8:=Rd.step Xhx7.out s8 (fun i e e'=>Xd6.out (e'.symm.trans e))
    have z38:=fun(j:Nat) z r hz hr=>Rd.step (Xz37.out j z r hz hr) s8 (fun i e e'=>Xd6.out (e'.symm.trans e))
    have bk8:=Xbk7.out.touch s8.t (by rw [XoB7.out];exact Xd2.out)
    have oB8:=(s8.eq B Xbk7.out.lt).trans XoB7.out
    have oM8:=(s8.eq M (Nat.lt_of_lt_of_le XhlM2.out Xb7.out.size)).trans XoM7.out
    have m8:=s8.t.ownsMap Xm7.out (by rw [XoM7.out];exact Xd4.out)
    have bk9:=bk8.put 1 (.slice A8 (n+1) c8)
    have s9:StL (fun i=>i=tb) w8 ow8 (w8.setCell ⟨B,1,none⟩ (.slice A8 (n+1) c8)) ow8:=⟨(Touch.refl _ _).setCell (p:=⟨B,1,none⟩) (fun _=>oB8) _,fun _ _=>rfl⟩
    have hT:RowsT (w8.setCell ⟨B,1,none⟩ (.slice A8 (n+1) c8)) ow8 tb tm ta te B M A8 (n+1) c8 (putR R x):=by
     rw [putR_no Xhin.out]
     refine⟨by rw [List.length_append,<-Xh1.out.hn];rfl,oB8,oM8,bk9,⟨_,s9.t.ownsMap m8 (by rw [oM8];exact fun e=>Xd1.out e.symm),Xhput.out⟩,⟨Z++[.slice Ax nx cx],by rw [List.length_append,List.length_append,Xz1.out];rfl,rw8.step s9 (fun e=>Xd2.out e.symm),fun j z r hz hr=> ?_⟩,fun r hr=> ?_⟩
     ·by_cases hj:j<Z.length
      ·rw [List.getElem?_append_left hj]at hz
       rw [List.getElem?_append_left (by rw [<-Xz1.out];exact hj)]at hr
       exact Rd.step (z38 j z r hz hr) s9 (fun i e e'=>Xd3.out (e'.symm.trans e))
      ·have hj':j=Z.length:=by have:=(List.getElem?_eq_some_iff.1 hz).1;simp at this;omega
       subst hj'
       rw [List.getElem?_append_right (Nat.le_refl _),Nat.sub_self]at hz
       rw [List.getElem?_append_right (by rw [Xz1.out];exact Nat.le_refl _),Xz1.out,Nat.sub_self]at hr
       injection hz with hz
       injection hr with hr
       subst hz hr
       exact Rd.step hx8 s9 (fun i e e'=>Xd3.out (e'.symm.trans e))
     ·rcases List.mem_append.1 hr with hr|hr
      ·exact Xh1.out.u16 r hr
      ·rw [List.mem_singleton]at hr;subst hr;exact Xhu.out
    have sall:StL (fun i=>i=tb\/i=tm\/i=ta) V ow (w8.setCell ⟨B,1,none⟩ (.slice A8 (n+1) c8)) ow8:=
     ((((((Xs1.out.mono fun _ e=>e.elim).trans (Xsd.out.mono fun _ e=>e.elim)).trans (Xs2.out.mono fun _ e=> .inr (.inl e))).trans (Xs7.out.mono fun _ e=>e.elim)).trans (s8.mono fun _ e=> .inr (.inr e))).trans (s9.mono fun _ e=> .inl e))
    have q1:=(bk8.cell 1).trans rfl
    have f1:=bk8.frozen 1
    have q9:=(bk9.cell 1).trans rfl
    clear own8 g8 hb8 rw8 s8 z38 bk8 m8 bk9 s9 hx8 Xrw7 Xhx7 Xz37 Xbk7 Xm7 Xhone Xown7 hw7
    obtain⟨XhT,Xsall⟩:=HqZ2 hT sall;clear hT sall
    go_wp2_with fail
    go_ret
    exact⟨ret_int (by rw [Xhpl.out]),ow8,A8,n+1,c8,Xsall.out,XhT.out⟩
end Go.Proofs.YtlpipniclimgeaaGreat
namespace Go.Proofs.YtlpipniclimgeaaGreat
set_option linter.unusedVariables false
set_option linter.unusedSimpArgs false
open Go.RowKit
attribute [local irreducible] wpStill wpOne wpPh
def I8 (n:Int):Value:= .int .u8 n
abbrev RdY (w:World) (F:Nat->Prop) (v:Value) (l:List Int):Prop:=Rd w F v 1 (l.map I8)
theorem RdY.at_ {w:World} {F:Nat->Prop} {A:Option Addr} {n c:Nat} {l:List Int} (h:RdY w F (.slice A n c) l):n=l.length/\n<=c/\c<=maxLen/\(0<n-> ∃b off,A=some ⟨b,off,none⟩/\F b/\ ∀(k:Nat) x,l[k]? =some x->w.cell? ⟨b,off+k,none⟩=some (.int .u8 x)):=by
 obtain⟨A',n',c',hv,hc,hm,hl,hr⟩:=h
 injection hv with e1 e2 e3
 subst e1 e2 e3
 rw [List.length_map,Nat.mul_one]at hl
 refine⟨hl.symm,hc,hm,fun hn=> ?_⟩
 obtain⟨b,off,hA,hF,hcell⟩:=hr hn
 exact⟨b,off,hA,hF,fun k x hx=>hcell k (.int .u8 x) (by rw [List.getElem?_map,hx];rfl)⟩
theorem touch_setT (w:World) (g i:Nat) (u:Value):Touch (fun b=>b=g) w (w.setCell ⟨g,i,none⟩ u):=Touch.setCell (S:=fun b=>b=g) (p:=⟨g,i,none⟩) (Touch.refl _ _) (fun _=>rfl) u
theorem setc_sizeT (w:World) (p:Addr) (v:Value):(w.setCell p v).heap.size=w.heap.size:=by simp [World.setCell]
def OwnF (w:World) (base:Nat) (e:TypeId) (size:Nat) (v:Value) (n:Nat) (xs:List Value):Prop:=
 w.ownsRow base e size v n xs\/ ∃g,v= .slice (some ⟨g,0,none⟩) n n/\n<=maxLen/\xs.length=n * size/\g<w.heap.size/\ ∀j u,xs[j]? =some u->w.cell? ⟨g,j,none⟩=some u
theorem OwnF.touch {w w':World} {base:Nat} {e:TypeId} {size n:Nat} {v:Value} {xs:List Value} {S:Nat->Prop} (h:OwnF w base e size v n xs) (t:Touch S w w') (hS: ∀k,v.ownBlock=some k-> ¬S k):OwnF w' base e size v n xs:=by
 rcases h with h|⟨g,rfl,h1,h2,h3,h4⟩
 ·exact .inl (t.own h hS)
 ·exact .inr ⟨g,rfl,h1,h2,Nat.lt_of_lt_of_le h3 t.size,fun j u hu=>t.cell (h4 j u hu) (hS g rfl)⟩
theorem OwnF.rd {w:World} {base:Nat} {e:TypeId} {size n:Nat} {v:Value} {xs:List Value} (h:OwnF w base e size v n xs):Rd w (fun b=>v.ownBlock=some b) v size xs:=by
 rcases h with h|⟨g,rfl,h1,h2,h3,h4⟩
 ·exact Rd.of_own h
 ·exact⟨_,n,n,rfl,Nat.le_refl _,h1,h2,fun _=>⟨g,0,rfl,rfl,fun j u hu=>by rw [Nat.zero_add];exact h4 j u hu⟩⟩
theorem append_run2 {P:Program} (w:World) {t e:TypeId} {z:Value} {size bytes:Nat} (E:Elem P t e z size bytes) (ty:TypeId) (base:Nat)
  (v:Value) (n:Nat) (xs:List Value) (hown:OwnF w base e size v n xs) (F:Nat->Prop) (vx:Value) (news:List Value) (m:Nat) (hm:news.length=m * size) (h0:0<m) (hr:Rd w F vx size news) (h1: ∀u∈news,u.oneCell'=true)
  (h63:n+m<=maxLen) (hbytes:(n+m) * bytes<=140737488355328) (hbase:base<=w.heap.size):
  ∃A c w',(Builtin.append_ #[t,t] ty #[v,vx]).run P w= .ok (.slice A (n+m) c) w'/\w'.ownsRow base e size (.slice A (n+m) c) (n+m) (xs++news)/\w.grownBy w' v.ownBlock/\
   ((Value.slice A (n+m) c).ownBlock=v.ownBlock\/(Value.slice A (n+m) c).ownBlock=some w.heap.size):=by
 rcases hown with hown|⟨g,rfl,g1,g2,g3,g4⟩
 ·exact append_run w E ty base v n xs hown F vx news m hm hr h1 h63 hbytes hbase
 ·obtain⟨i,hi,hz,hsize,hby⟩:=info_parts E.info
  subst hsize
  subst hby
  obtain⟨A,m',c,rfl,hc,hcm,hl,hcell⟩:=hr
  obtain rfl:m'=m:=Nat.eq_of_mul_eq_mul_right E.pos (by rw [<-hl,hm])
  obtain⟨b,off,rfl,-,hcs⟩:=hcell h0
  have hrun:=run_append_grow (P:=P) w t ty e i z E.slice hi hz ⟨g,0,none⟩ n n xs g2 (fun j u hu=>by rw [add_none,Nat.zero_add];exact g4 j u hu) ⟨b,off,none⟩ m' c news hl (fun j u hu=>by rw [add_none];exact hcs j u hu) (by omega) (by simp only [maxLen]at h63;omega) (growslice_fits (by omega) hbytes)
  refine⟨_,_,_,hrun,⟨by rw [List.length_append,g2,hl,Nat.add_mul],.inr ⟨w.heap.size,_,xs.toArray++news.toArray++Builtin.zeroCells z.cells (grownCap w (n+m') n e - (n+m')),rfl,hbase,heap_alloc_new w.drew _,grownCap_ge w (n+m') n e,grownCap_le_maxLen w (n+m') n e h63,?_,?_⟩⟩,⟨rfl,rfl,rfl,by simp,fun k hk _=>heap_alloc_old w.drew _ hk⟩,.inr rfl⟩
  ·have:=grownCap_ge w (n+m') n e
   simp only [Array.size_append,List.size_toArray,size_zeroCells,E.zs,g2,hl,<-Nat.add_mul]
   congr 1
   omega
  ·simp only [Array.toList_append,List.append_assoc]
   rw [<-List.append_assoc,show(n+m') * i.size=(xs++news).length by rw [List.length_append,g2,hl,Nat.add_mul]]
   exact List.take_left
theorem wp_append2 {P:Program} (w:World) {ops:Array Oper} {rest:List Oper} {o:Oper} {a:Act} {Q:Exit->Act->World->Prop} (hgd:o.guard=none) (s x:Operand) (t:TypeId)
  (ho:o.op= .call {callee:= .builtin .append,args:= #[s,x],argTypes:= #[t,t]}) {e:TypeId} {z:Value} {size bytes:Nat} (E:Elem P t e z size bytes) (base:Nat)
  (v:Value) (n:Nat) (xs:List Value) (hs:a.eval s=v) (hown:OwnF w base e size v n xs) (F:Nat->Prop) (vx:Value) (news:List Value) (m:Nat) (hx:a.eval x=vx) (hm:news.length=m * size) (h0:0<m) (hr:Rd w F vx size news) (h1: ∀u∈news,u.oneCell'=true)
  (h63:n+m<=maxLen) (hbytes:(n+m) * bytes<=140737488355328) (hbase:base<=w.heap.size)
  (h: ∀A c w',w'.ownsRow base e size (.slice A (n+m) c) (n+m) (xs++news)->w.grownBy w' v.ownBlock->((Value.slice A (n+m) c).ownBlock=v.ownBlock\/(Value.slice A (n+m) c).ownBlock=some w.heap.size)->wpList P ops Q rest (a.put o.dst (.slice A (n+m) c)) w'):
  wpList P ops Q (o::rest) a w:=by
 refine wpList_plain hgd fun _ hK=> ?_
 obtain⟨A,c,w',hrun,h2,h3,h4⟩:=append_run2 (P:=P) w E o.type base v n xs hown F vx news m hm h0 hr h1 h63 hbytes hbase
 unfold Oper.wp execOp
 simp only [ho,resolve,invoke,builtin,Sem.run_bind,Sem.run_pure,Result.andThen_ok,List.map_toArray,List.map_cons,List.map_nil,hs,hx,hrun]
 exact hK _ _ (h A c w' h2 h3 h4)
structure WrM (w:World) (B:Nat) (S:Nat->Prop) (v:Value) (L:List Int) (bad:Bool):Prop where
 box:Blk w B 56 #[v,.bool bad]
 own:OwnF w 0 5 1 v L.length (L.map I8)
 sb:S B
 sv: ∀k,v.ownBlock=some k->S k/\k≠B
 lt: ∀b,S b->b<w.heap.size
def Wr (w:World) (B:Nat) (S:Nat->Prop) (L:List Int) (bad:Bool):Prop:= ∃v,WrM w B S v L bad
section
variable {w w' : World} {B : Nat} {S S' X : Nat -> Prop} {v : Value} {L : List Int} {bad : Bool}
theorem WrM.touch (h:WrM w B S v L bad) (t:Touch X w w') (hX: ∀b,S b-> ¬X b):WrM w' B S v L bad:=
 ⟨h.box.touch t (hX _ h.sb),h.own.touch t fun k e=>hX k (h.sv k e).1,h.sb,h.sv,fun b hb=>Nat.lt_of_lt_of_le (h.lt b hb) t.size⟩
theorem WrM.below (h:WrM w B S v L bad) (b:Below w.heap.size w w'):WrM w' B S v L bad:=h.touch (Touch.of_size b (fun _=>False)) fun _ _ c=>c
theorem Wr.below (h:Wr w B S L bad) (b:Below w.heap.size w w'):Wr w' B S L bad:=by
 obtain⟨v,h⟩:=h
 exact⟨v,h.below b⟩
theorem WrM.shape (h:WrM w B S v L bad): ∃A c,v= .slice A L.length c/\L.length<=c/\c<=9223372036854775807:=by
 obtain⟨A,n,c,rfl,h1,h2,h3,-⟩:=h.own.rd
 rw [List.length_map,Nat.mul_one]at h3
 unfold maxLen at h2
 exact⟨A,c,by rw [h3],by omega,by omega⟩
end
theorem byte_hi (n:Int):IntKind.u8.wrap (n/256)=n/256%256:=by simp [IntKind.wrap,IntKind.bits,IntKind.signed]
theorem byte_lo (n:Int):IntKind.u8.wrap n=n%256:=by simp [IntKind.wrap,IntKind.bits,IntKind.signed]
def badN (n:Int):Bool:=decide (n<0)||decide (65535<n)
set_option maxRecDepth 100000 in
theorem writer_num {w:World} {B:Nat} {S:Nat->Prop} {L:List Int} {bad:Bool} (h:Wr w B S L bad) (hl:L.length<=100000000) (n:Int):
  Calls Tryz.prog 19 #[.pointer (some ⟨B,0,none⟩),.int .i64 n] w fun e w'=>e= .returned (.tuple #[])/\Wr w' B (New S w w') (L++twoB n) (bad||badN n)/\Touch S w w':=by
 obtain⟨v,h⟩:=h
 obtain⟨A,c,rfl,hc,hm⟩:=h.shape
 obtain⟨b2,hb2⟩: ∃q,q=(bad||badN n):=⟨_,rfl⟩
 rw [<-hb2]
 obtain⟨w1,hw1⟩: ∃q,q=w.setCell ⟨B,1,none⟩ (.bool b2):=⟨_,rfl⟩
 have t1:Touch (fun b=>b=B) w w1:=by rw [hw1];exact touch_setT _ _ _ _
 have k1:Blk w1 B 56 #[.slice A L.length c,.bool b2]:=by rw [hw1];exact h.box.put 1 _
 have own1:=h.own.touch t1 fun k e=>(h.sv k e).2
 have p1:=(h.box.cell 1).trans rfl
 have f1:=h.box.frozen 1
 have q0:=(k1.cell 0).trans rfl
 have hh:=byte_hi n
 have hlo:=byte_lo n
 have al:Below w1.heap.size w1 (w1.alloc (.cells #[.int .u8 (n/256%256),.int .u8 (n%256)] 5)):=(Below.refl _ _).alloc (Nat.le_refl _) _
 have own2:=own1.touch (Touch.of_size al (fun _=>False)) fun _ _ c=>c
 have rtwo:Rd (w1.alloc (.cells #[.int .u8 (n/256%256),.int .u8 (n%256)] 5)) (fun x=>x=w1.heap.size) (.slice (some ⟨w1.heap.size,0,none⟩) 2 2) 1 [.int .u8 (n/256%256),.int .u8 (n%256)]:=Rd.of_blk (F:=fun b=>b=w1.heap.size) (us:=[.int .u8 (n/256%256),.int .u8 (n%256)]) (n:=2) (Blk.new _ _ _) rfl rfl (by decide)
 have hsv:=h.sv
 have hsb:=h.sb
 have hlt:=h.lt
 have z1:w1.heap.size=w.heap.size:=by rw [hw1,setc_sizeT]
 rw [z1]at rtwo
 obtain⟨m,hM⟩: ∃m,m=L.length:=⟨_,rfl⟩
 rw [<-hM]at k1 q0 own1 own2 hl hsv
 have two:L.map I8++[.int .u8 (n/256%256),.int .u8 (n%256)]=(L++twoB n).map I8:=by rw [List.map_append];rfl
 obtain⟨us,hus⟩: ∃q,q=L.map I8:=⟨_,rfl⟩
 rw [<-hus]at own1 own2 two
 clear h own1 hus hc
 subst hw1
 obtain⟨Xt1,Xk1,Xal,Xown2,Xrtwo,Xhsv,Xhsb,Xhlt,Xz1,Xtwo,XhM⟩:=HqZ11 t1 k1 al own2 rtwo hsv hsb hlt z1 two hM;clear t1 k1 al own2 rtwo hsv hsb hlt z1 two hM
 cases bad with
 |true=>
  have e2:b2=true:=hb2
  clear hb2
  subst e2
  go_enter Tryz.func19,Tryz.ntmps19
  go_wp2_with (at_builtin;refine wp_append2 _ rfl (.tmp 23) (.tmp 29) _ rfl Tryz.elemU8 0 (.slice A m c) m _ rfl Xown2.out _ _ [.int .u8 (n/256%256),.int .u8 (n%256)] 2 rfl rfl (by decide) Xrtwo.out (by simp [Value.oneCell']) (by unfold maxLen;omega) (by omega) (Nat.zero_le _) ?_)
  intro A4 c4 w4 own4 g4 ho4
  have t4:Touch (fun k=>(Value.slice A m c).ownBlock=some k) (w.setCell ⟨B,1,none⟩ (.bool true)) w4:=(Touch.of_size Xal.out _).trans' ((Touch.refl _ _).grown g4 (fun k e _=>e))
  have kb4:=Xk1.out.touch t4 (fun e=>(Xhsv.out B e).2 rfl)
  have hb4:=(kb4.cell 0).trans rfl
  have hf4:=kb4.frozen 0
  have hB4:B<w4.heap.size:=kb4.lt
  have T:Touch S w (w4.setCell ⟨B,0,none⟩ (.slice A4 (m+2) c4)):=((Xt1.out.mono (fun k _ e=>by rw [e];exact Xhsb.out)).trans' (t4.mono (fun k _ e=>(Xhsv.out k e).1))).setCell (p:=⟨B,0,none⟩) (fun _=>Xhsb.out) _
  have z4:=t4.size
  have hsz:(Value.slice A4 (m+2) c4).ownBlock=(Value.slice A m c).ownBlock\/(Value.slice A4 (m+2) c4).ownBlock=some (w.heap.size+1):=by
   rcases ho4 with q|q
   ·exact .inl q
   ·exact .inr q
  have own5:=own4
  rw [Xtwo.out]at own5
  have hg:=g4.size
  have M:WrM (w4.setCell ⟨B,0,none⟩ (.slice A4 (m+2) c4)) B (New S w (w4.setCell ⟨B,0,none⟩ (.slice A4 (m+2) c4))) (.slice A4 (m+2) c4) (L++twoB n) true:=by
   have hlen:(L++twoB n).length=m+2:=by rw [List.length_append,<-XhM.out];rfl
   have hne: ∀k,(Value.slice A4 (m+2) c4).ownBlock=some k->k≠B/\(S k\/w.heap.size<=k):=fun k e=>by
    rcases hsz with q|q
    ·rw [q]at e;exact⟨(Xhsv.out k e).2,.inl (Xhsv.out k e).1⟩
    ·rw [q]at e
     injection e with e
     have:=Xhlt.out B Xhsb.out
     exact⟨by omega,.inr (by omega)⟩
   refine⟨kb4.put 0 _,?_,.inl Xhsb.out,fun k e=>⟨?_,(hne k e).1⟩,fun b hb=> ?_⟩
   ·rw [hlen];exact .inl ((touch_setT w4 B 0 _).own own5 fun k e=>(hne k e).1)
   ·rcases(hne k e).2 with q|q
    ·exact .inl q
    ·have:=own5.lt k e
     exact .inr ⟨q,by rw [setc_sizeT];exact this.2⟩
   ·rcases hb with q|q
    ·have:=Xhlt.out b q
     exact Nat.lt_of_lt_of_le this T.size
    ·exact q.2
  clear own4 own5 g4 ho4 t4 kb4 hsz z4 hg hB4
  obtain⟨XM,XT⟩:=HqZ2 M T;clear M T
  go_wp2_with fail
  go_end0
  exact⟨rfl,⟨_,XM.out⟩,XT.out⟩
 |false=>
  by_cases h1:n<0
  ·have e2:b2=true:=by rw [hb2];unfold badN;rw [decide_eq_true h1];rfl
   clear hb2
   subst e2
   go_enter Tryz.func19,Tryz.ntmps19
   go_wp2_with (at_builtin;refine wp_append2 _ rfl (.tmp 23) (.tmp 29) _ rfl Tryz.elemU8 0 (.slice A m c) m _ rfl Xown2.out _ _ [.int .u8 (n/256%256),.int .u8 (n%256)] 2 rfl rfl (by decide) Xrtwo.out (by simp [Value.oneCell']) (by unfold maxLen;omega) (by omega) (Nat.zero_le _) ?_)
   intro A4 c4 w4 own4 g4 ho4
   have t4:Touch (fun k=>(Value.slice A m c).ownBlock=some k) (w.setCell ⟨B,1,none⟩ (.bool true)) w4:=(Touch.of_size Xal.out _).trans' ((Touch.refl _ _).grown g4 (fun k e _=>e))
   have kb4:=Xk1.out.touch t4 (fun e=>(Xhsv.out B e).2 rfl)
   have hb4:=(kb4.cell 0).trans rfl
   have hf4:=kb4.frozen 0
   have hB4:B<w4.heap.size:=kb4.lt
   have T:Touch S w (w4.setCell ⟨B,0,none⟩ (.slice A4 (m+2) c4)):=((Xt1.out.mono (fun k _ e=>by rw [e];exact Xhsb.out)).trans' (t4.mono (fun k _ e=>(Xhsv.out k e).1))).setCell (p:=⟨B,0,none⟩) (fun _=>Xhsb.out) _
   have z4:=t4.size
   have hsz:(Value.slice A4 (m+2) c4).ownBlock=(Value.slice A m c).ownBlock\/(Value.slice A4 (m+2) c4).ownBlock=some (w.heap.size+1):=by
    rcases ho4 with q|q
    ·exact .inl q
    ·exact .inr q
   have own5:=own4
   rw [Xtwo.out]at own5
   have hg:=g4.size
   have M:WrM (w4.setCell ⟨B,0,none⟩ (.slice A4 (m+2) c4)) B (New S w (w4.setCell ⟨B,0,none⟩ (.slice A4 (m+2) c4))) (.slice A4 (m+2) c4) (L++twoB n) true:=by
    have hlen:(L++twoB n).length=m+2:=by rw [List.length_append,<-XhM.out];rfl
    have hne: ∀k,(Value.slice A4 (m+2) c4).ownBlock=some k->k≠B/\(S k\/w.heap.size<=k):=fun k e=>by
     rcases hsz with q|q
     ·rw [q]at e;exact⟨(Xhsv.out k e).2,.inl (Xhsv.out k e).1⟩
     ·rw [q]at e
      injection e with e
      have:=Xhlt.out B Xhsb.out
      exact⟨by omega,.inr (by omega)⟩
    refine⟨kb4.put 0 _,?_,.inl Xhsb.out,fun k e=>⟨?_,(hne k e).1⟩,fun b hb=> ?_⟩
    ·rw [hlen];exact .inl ((touch_setT w4 B 0 _).own own5 fun k e=>(hne k e).1)
    ·rcases(hne k e).2 with q|q
     ·exact .inl q
     ·have:=own5.lt k e
      exact .inr ⟨q,by rw [setc_sizeT];exact this.2⟩
    ·rcases hb with q|q
     ·have:=Xhlt.out b q
      exact Nat.lt_of_lt_of_le this T.size
     ·exact q.2
   clear own4 own5 g4 ho4 t4 kb4 hsz z4 hg hB4
   obtain⟨XM,XT⟩:=HqZ2 M T;clear M T
   go_wp2_with fail
   go_end0
   exact⟨rfl,⟨_,XM.out⟩,XT.out⟩
  ·by_cases h2:65535<n
   ·have e2:b2=true:=by rw [hb2];unfold badN;rw [decide_eq_true h2,Bool.or_true];rfl
    clear hb2
    subst e2
    go_enter Tryz.func19,Tryz.ntmps19
    go_wp2_with (at_builtin;refine wp_append2 _ rfl (.tmp 23) (.tmp 29) _ rfl Tryz.elemU8 0 (.slice A m c) m _ rfl Xown2.out _ _ [.int .u8 (n/256%256),.int .u8 (n%256)] 2 rfl rfl (by decide) Xrtwo.out (by simp [Value.oneCell']) (by unfold maxLen;omega) (by omega) (Nat.zero_le _) ?_)
    intro A4 c4 w4 own4 g4 ho4
    have t4:Touch (fun k=>(Value.slice A m c).ownBlock=some k) (w.setCell ⟨B,1,none⟩ (.bool true)) w4:=(Touch.of_size Xal.out _).trans' ((Touch.refl _ _).grown g4 (fun k e _=>e))
    have kb4:=Xk1.out.touch t4 (fun e=>(Xhsv.out B e).2 rfl)
    have hb4:=(kb4.cell 0).trans rfl
    have hf4:=kb4.frozen 0
    have hB4:B<w4.heap.size:=kb4.lt
    have T:Touch S w (w4.setCell ⟨B,0,none⟩ (.slice A4 (m+2) c4)):=((Xt1.out.mono (fun k _ e=>by rw [e];exact Xhsb.out)).trans' (t4.mono (fun k _ e=>(Xhsv.out k e).1))).setCell (p:=⟨B,0,none⟩) (fun _=>Xhsb.out) _
    have z4:=t4.size
    have hsz:(Value.slice A4 (m+2) c4).ownBlock=(Value.slice A m c).ownBlock\/(Value.slice A4 (m+2) c4).ownBlock=some (w.heap.size+1):=by
     rcases ho4 with q|q
     ·exact .inl q
     ·exact .inr q
    have own5:=own4
    rw [Xtwo.out]at own5
    have hg:=g4.size
    have M:WrM (w4.setCell ⟨B,0,none⟩ (.slice A4 (m+2) c4)) B (New S w (w4.setCell ⟨B,0,none⟩ (.slice A4 (m+2) c4))) (.slice A4 (m+2) c4) (L++twoB n) true:=by
     have hlen:(L++twoB n).length=m+2:=by rw [List.length_append,<-XhM.out];rfl
     have hne: ∀k,(Value.slice A4 (m+2) c4).ownBlock=some k->k≠B/\(S k\/w.heap.size<=k):=fun k e=>by
      rcases hsz with q|q
      ·rw [q]at e;exact⟨(Xhsv.out k e).2,.inl (Xhsv.out k e).1⟩
      ·rw [q]at e
       injection e with e
       have:=Xhlt.out B Xhsb.out
       exact⟨by omega,.inr (by omega)⟩
     refine⟨kb4.put 0 _,?_,.inl Xhsb.out,fun k e=>⟨?_,(hne k e).1⟩,fun b hb=> ?_⟩
     ·rw [hlen];exact .inl ((touch_setT w4 B 0 _).own own5 fun k e=>(hne k e).1)
     ·rcases(hne k e).2 with q|q
      ·exact .inl q
      ·have:=own5.lt k e
       exact .inr ⟨q,by rw [setc_sizeT];exact this.2⟩
     ·rcases hb with q|q
      ·have:=Xhlt.out b q
       exact Nat.lt_of_lt_of_le this T.size
      ·exact q.2
    clear own4 own5 g4 ho4 t4 kb4 hsz z4 hg hB4
    obtain⟨XM,XT⟩:=HqZ2 M T;clear M T
    go_wp2_with fail
    go_end0
    exact⟨rfl,⟨_,XM.out⟩,XT.out⟩
   ·have e2:b2=false:=by rw [hb2];unfold badN;rw [decide_eq_false h1,decide_eq_false h2];rfl
    clear hb2
    subst e2
    go_enter Tryz.func19,Tryz.ntmps19
    go_wp2_with (at_builtin;refine wp_append2 _ rfl (.tmp 23) (.tmp 29) _ rfl Tryz.elemU8 0 (.slice A m c) m _ rfl Xown2.out _ _ [.int .u8 (n/256%256),.int .u8 (n%256)] 2 rfl rfl (by decide) Xrtwo.out (by simp [Value.oneCell']) (by unfold maxLen;omega) (by omega) (Nat.zero_le _) ?_)
    intro A4 c4 w4 own4 g4 ho4
    have t4:Touch (fun k=>(Value.slice A m c).ownBlock=some k) (w.setCell ⟨B,1,none⟩ (.bool false)) w4:=(Touch.of_size Xal.out _).trans' ((Touch.refl _ _).grown g4 (fun k e _=>e))
    have kb4:=Xk1.out.touch t4 (fun e=>(Xhsv.out B e).2 rfl)
    have hb4:=(kb4.cell 0).trans rfl
    have hf4:=kb4.frozen 0
    have hB4:B<w4.heap.size:=kb4.lt
    have T:Touch S w (w4.setCell ⟨B,0,none⟩ (.slice A4 (m+2) c4)):=((Xt1.out.mono (fun k _ e=>by rw [e];exact Xhsb.out)).trans' (t4.mono (fun k _ e=>(Xhsv.out k e).1))).setCell (p:=⟨B,0,none⟩) (fun _=>Xhsb.out) _
    have z4:=t4.size
    have hsz:(Value.slice A4 (m+2) c4).ownBlock=(Value.slice A m c).ownBlock\/(Value.slice A4 (m+2) c4).ownBlock=some (w.heap.size+1):=by
     rcases ho4 with q|q
     ·exact .inl q
     ·exact .inr q
    have own5:=own4
    rw [Xtwo.out]at own5
    have hg:=g4.size
    have M:WrM (w4.setCell ⟨B,0,none⟩ (.slice A4 (m+2) c4)) B (New S w (w4.setCell ⟨B,0,none⟩ (.slice A4 (m+2) c4))) (.slice A4 (m+2) c4) (L++twoB n) false:=by
     have hlen:(L++twoB n).length=m+2:=by rw [List.length_append,<-XhM.out];rfl
     have hne: ∀k,(Value.slice A4 (m+2) c4).ownBlock=some k->k≠B/\(S k\/w.heap.size<=k):=fun k e=>by
      rcases hsz with q|q
      ·rw [q]at e;exact⟨(Xhsv.out k e).2,.inl (Xhsv.out k e).1⟩
      ·rw [q]at e
       injection e with e
       have:=Xhlt.out B Xhsb.out
       exact⟨by omega,.inr (by omega)⟩
     refine⟨kb4.put 0 _,?_,.inl Xhsb.out,fun k e=>⟨?_,(hne k e).1⟩,fun b hb=> ?_⟩
     ·rw [hlen];exact .inl ((touch_setT w4 B 0 _).own own5 fun k e=>(hne k e).1)
     ·rcases(hne k e).2 with q|q
      ·exact .inl q
      ·have:=own5.lt k e
       exact .inr ⟨q,by rw [setc_sizeT];exact this.2⟩
     ·rcases hb with q|q
      ·have:=Xhlt.out b q
       exact Nat.lt_of_lt_of_le this T.size
      ·exact q.2
    clear own4 own5 g4 ho4 t4 kb4 hsz z4 hg hB4
    obtain⟨XM,XT⟩:=HqZ2 M T;clear M T
    go_wp2_with fail
    go_end0
    exact⟨rfl,⟨_,XM.out⟩,XT.out⟩
theorem New.step {a b c:World} {S:Nat->Prop} (h1:a.heap.size<=b.heap.size) (h2:b.heap.size<=c.heap.size): ∀k,New (New S a b) b c k->New S a c k:=fun k h=>by
 rcases h with(h|⟨p,q⟩)|⟨p,q⟩
 ·exact .inl h
 ·exact .inr ⟨p,by omega⟩
 ·exact .inr ⟨by omega,q⟩
theorem New.touch {a b c:World} {S:Nat->Prop} (t:Touch S a b) (u:Touch (New S a b) b c):Touch S a c:=t.trans u fun k hk h=>by
 rcases h with h|h
 ·exact h
 ·omega
theorem Wr.mono {w:World} {B:Nat} {S S':Nat->Prop} {L:List Int} {bad:Bool} (h:Wr w B S L bad) (hS: ∀b,S b->S' b) (hl: ∀b,S' b->b<w.heap.size):Wr w B S' L bad:=by
 obtain⟨v,h⟩:=h
 exact⟨v,h.box,h.own,hS _ h.sb,fun k e=>⟨hS k (h.sv k e).1,(h.sv k e).2⟩,hl⟩
theorem Wr.lt {w:World} {B:Nat} {S:Nat->Prop} {L:List Int} {bad:Bool} (h:Wr w B S L bad): ∀b,S b->b<w.heap.size:=by
 obtain⟨v,h⟩:=h
 exact h.lt
theorem Wr.then {a b c:World} {B:Nat} {S:Nat->Prop} {L:List Int} {bad:Bool} (h:Wr c B (New (New S a b) b c) L bad) (hl: ∀k,S k->k<a.heap.size) (t:Touch S a b) (u:Touch (New S a b) b c):Wr c B (New S a c) L bad:=
 h.mono (New.step t.size u.size) fun k hk=>by
  rcases hk with q|q
  ·have:=hl k q
   have:=t.size
   have:=u.size
   omega
  ·exact q.2
def badL (l:List Int):Bool:=l.any badN
theorem badL_app (a b:List Int):badL (a++b)=(badL a||badL b):=by unfold badL;rw [List.any_append]
theorem badL_one (a:Int):badL [a]=badN a:=by unfold badL;simp
theorem takeT_snoc {α:Type} {l:List α} {k:Nat} {x:α} (h:l[k]? =some x):l.take (k+1)=l.take k++[x]:=by rw [List.take_add_one,h];rfl
def WrPost (w:World) (B:Nat) (S:Nat->Prop) (L:List Int) (bad:Bool) (e:Ending) (w':World):Prop:=e= .returned (.tuple #[])/\Wr w' B (New S w w') L bad/\Touch S w w'
theorem New.self {w:World} {S:Nat->Prop} (h: ∀k,S k->k<w.heap.size): ∀k,New S w w k->k<w.heap.size:=fun k hk=>by
 rcases hk with q|q
 ·exact h k q
 ·exact q.2
set_option maxRecDepth 100000 in
theorem writer_line {w:World} {B:Nat} {S F:Nat->Prop} {L:List Int} {bad:Bool} (h:Wr w B S L bad) {v:Value} {xs:List Int} (hx:RdI w F v xs) (hF: ∀b,F b->b<w.heap.size/\ ¬S b) (hl:L.length+2 * xs.length<=100000000):
  Calls Tryz.prog 18 #[.pointer (some ⟨B,0,none⟩),v] w (WrPost w B S (L++encB xs) (bad||badL xs)):=by
 obtain⟨A,n,c,rfl,-⟩:=id hx
 obtain⟨hn,hnc,hcm,-⟩:=RdI.at_ hx
 unfold maxLen at hcm
 have hS:=h.lt
 obtain⟨Xh,Xhx,XhF,Xhn,XhS⟩:=HqZ5 h hx hF hn hS;clear h hx hF hn hS
 go_enter Tryz.func18,Tryz.ntmps18
 go_wp2_with fail
 go_loopw [8] (fun i wr=> ∃k:Nat,k<=n/\i= .int .i64 k/\Wr wr B (New S w wr) (L++encB (xs.take k)) (bad||badL (xs.take k))/\Touch S w wr) (fun i _=>n - (intOf i).toNat)
 case atStart=>exact⟨0,Nat.zero_le _,rfl,by rw [List.take_zero];show Wr w B _ (L++[]) (bad||false);rw [List.append_nil,Bool.or_false];exact Xh.out.mono (fun b hb=> .inl hb) (New.self XhS.out),Touch.refl _ _⟩
 case round=>
  obtain⟨k,hk,rfl,hW,hT⟩:=hrel
  by_cases hlt:k<n
  ·have hlt1:(k:Int)<(n:Int):=by omega
   obtain⟨x,hx⟩: ∃x,xs[k]? =some x:=⟨_,List.getElem?_eq_getElem (by rw [<-Xhn.out];exact hlt)⟩
   have hr:=Rd.touch Xhx.out hT fun b hb=>(XhF.out b hb).2
   obtain⟨-,-,-,hcell⟩:=RdI.at_ hr
   obtain⟨bk,off,rfl,-,hc⟩:=hcell (by omega)
   have p0:=hc k x hx
   have cN:=writer_num hW (by rw [List.length_append,encB_len,List.length_take];have:=Xhn.out;omega) x
   have e1:L++encB (xs.take k)++twoB x=L++encB (xs.take (k+1)):=by rw [takeT_snoc hx,encB_app,List.append_assoc];rfl
   have e2:(bad||badL (xs.take k)||badN x)=(bad||badL (xs.take (k+1))):=by rw [takeT_snoc hx,badL_app,badL_one,Bool.or_assoc]
   rw [e1,e2]at cN
   clear hr hcell hc hx e1 e2 hW
   obtain⟨XcN,XhT⟩:=HqZ2 cN hT;clear cN hT
   go_wp2_with fail
   refine XcN.out.mono ?_
   rintro e w5 ⟨rfl,hW5,t5⟩
   have hW:=hW5.then XhS.out XhT.out t5
   have hT:=New.touch XhT.out t5
   clear hW5 t5 XhT XcN
   obtain⟨XhW,XhT⟩:=HqZ2 hW hT;clear hW hT
   go_wp2_with fail
   go_roundw
   case rel=>exact⟨k+1,by omega,by go_num,XhW.out,XhT.out⟩
   case measure=>simp [intOf];omega
  ·have e0:xs.take k=xs:=List.take_of_length_le (by have:=Xhn.out;omega)
   rw [e0]at hW
   clear e0
   obtain⟨XhW,XhT⟩:=HqZ2 hW hT;clear hW hT
   go_wp2_with fail
   go_end0
   exact⟨rfl,XhW.out,XhT.out⟩
set_option maxRecDepth 100000 in
set_option maxHeartbeats 2000000 in
theorem writer_rows {w:World} {B:Nat} {S F:Nat->Prop} {L:List Int} {bad:Bool} (h:Wr w B S L bad) {v:Value} {R:List (List Int)} (hx:RdUs w F v R) (hu: ∀r∈R,U16 r) (hF: ∀b,F b->b<w.heap.size/\ ¬S b) (hl:L.length+2 * (rowsN R).length<=100000000):
  Calls Tryz.prog 20 #[.pointer (some ⟨B,0,none⟩),v] w (WrPost w B S (L++encB (rowsN R)) (bad||badL (rowsN R))):=by
 obtain⟨A,c,rfl,hnc,hcm⟩:=RdRw.shape hx
 unfold maxLen at hcm
 have hS:=h.lt
 obtain⟨n,hn⟩: ∃q,q=R.length:=⟨_,rfl⟩
 have hlen:(rowsN R).length=R.flatten.length+1:=rfl
 have cN0:=writer_num h (by omega) (n:Int)
 have hd:rowsN R=[(n:Int)]++R.flatten:=by rw [hn];rfl
 rw [<-hn]at hx hnc
 rw [<-hn]
 have e1:encB (rowsN R)=twoB (n:Int)++encB R.flatten:=by rw [hd,encB_app];rfl
 have e2:badL (rowsN R)=(badN (n:Int)||badL R.flatten):=by rw [hd,badL_app,badL_one]
 rw [e1,e2,<-List.append_assoc,<-Bool.or_assoc]
 have hl2:L.length+2+2 * R.flatten.length<=100000000:=by omega
 obtain⟨L1,hL1⟩: ∃q,q=L++twoB (n:Int):=⟨_,rfl⟩
 obtain⟨bd,hbd⟩: ∃q,q=(bad||badN (n:Int)):=⟨_,rfl⟩
 have hll:L1.length=L.length+2:=by rw [hL1,List.length_append];rfl
 rw [<-hL1,<-hbd]at cN0⊢
 clear hd e1 e2 hlen hl hL1 hbd
 obtain⟨Xhx,XhF,Xhn,XhS,XcN0,Xhu,Xh,Xhll⟩:=HqZ8 hx hF hn hS cN0 hu h hll;clear hx hF hn hS cN0 hu h hll
 go_enter Tryz.func20,Tryz.ntmps20
 go_wp2_with fail
 refine XcN0.out.mono ?_
 rintro e w1 ⟨rfl,hW1,t1⟩
 have hS1: ∀k,New S w w1 k->k<w1.heap.size:=hW1.lt
 clear XcN0
 obtain⟨XhW1,Xt1,XhS1⟩:=HqZ3 hW1 t1 hS1;clear hW1 t1 hS1
 go_wp2_with fail
 go_loopw [14] (fun i wr=> ∃k:Nat,k<=n/\i= .int .i64 k/\Wr wr B (New S w wr) (L1++encB (R.take k).flatten) (bd||badL (R.take k).flatten)/\Touch S w wr) (fun i _=>n - (intOf i).toNat)
 case atStart=>exact⟨0,Nat.zero_le _,rfl,by rw [List.take_zero];show Wr w1 B _ (L1++[]) (bd||false);rw [List.append_nil,Bool.or_false];exact XhW1.out,Xt1.out⟩
 case round=>
  obtain⟨k,hk,rfl,hW,hT⟩:=hrel
  by_cases hlt:k<n
  ·have hlt1:(k:Int)<(n:Int):=by omega
   obtain⟨x,hx⟩: ∃x,R[k]? =some x:=⟨_,List.getElem?_eq_getElem (by rw [<-Xhn.out];exact hlt)⟩
   obtain⟨b0,o0,A',c',rfl,hb0,p0,rx,hxc,hxm⟩:=RdUs.row Xhx.out hx
   have p0:=hT.cell p0 (XhF.out b0 hb0).2
   unfold maxLen at hxm
   obtain⟨m,hm⟩: ∃q,q=x.length:=⟨_,rfl⟩
   rw [<-hm]at p0 rx hxc
   have hfl:(R.take (k+1)).flatten=(R.take k).flatten++x:=by rw [takeT_snoc hx,List.flatten_append];simp
   have hle:(R.take k).flatten.length+m<=R.flatten.length:=by
    have e:R.flatten=(R.take (k+1)).flatten++(R.drop (k+1)).flatten:=by rw [<-List.flatten_append,List.take_append_drop]
    rw [e,hfl,List.length_append,List.length_append,<-hm]
    omega
   have hux:=Xhu.out x (List.mem_of_getElem? hx)
   obtain⟨L2,hL2⟩: ∃q,q=L1++encB (R.take k).flatten:=⟨_,rfl⟩
   obtain⟨b2,hb2⟩: ∃q,q=(bd||badL (R.take k).flatten):=⟨_,rfl⟩
   have hl2l:L2.length+2 * m<=100000000:=by rw [hL2,List.length_append,encB_len];have:=Xhll.out;omega
   have eL:L1++encB (R.take (k+1)).flatten=L2++encB x:=by rw [hfl,hL2,encB_app,List.append_assoc]
   have eB:(bd||badL (R.take (k+1)).flatten)=(b2||badL x):=by rw [hfl,hb2,badL_app,Bool.or_assoc]
   rw [<-hL2,<-hb2]at hW
   clear hx hfl hle hL2 hb2 hb0
   obtain⟨XhW,XhT,Xrx,Xhm,Xhux,Xhl2l,XeL,XeB⟩:=HqZ8 hW hT rx hm hux hl2l eL eB;clear hW hT rx hm hux hl2l eL eB
   go_wp2_with fail
   go_loopw [20] (fun j wj=> ∃i:Nat,i<=m/\j= .int .i64 i/\Wr wj B (New S w wj) (L2++encB (x.take i)) (b2||badL (x.take i))/\Touch S w wj) (fun j _=>m - (intOf j).toNat)
   case atStart=>exact⟨0,Nat.zero_le _,rfl,by rw [List.take_zero];show Wr _ B _ (L2++[]) (b2||false);rw [List.append_nil,Bool.or_false];exact XhW.out,XhT.out⟩
   case round=>
    clear XhW XhT
    obtain⟨i,hi,rfl,hW,hT⟩:=hrel
    by_cases hli:i<m
    ·have hli1:(i:Int)<(m:Int):=by omega
     obtain⟨y,hy⟩: ∃y,x[i]? =some y:=⟨_,List.getElem?_eq_getElem (by rw [<-Xhm.out];exact hli)⟩
     have hr:=Rd.touch Xrx.out hT fun b hb=>(XhF.out b hb).2
     obtain⟨-,-,-,hcell⟩:=RdU.at_ hr
     obtain⟨bk,off,rfl,-,hc⟩:=hcell (by omega)
     have p1:=hc i y hy
     have hy2:=Xhux.out y (List.mem_of_getElem? hy)
     have hwy:IntKind.i64.wrap y=y:=by rw [IntKind.wrap_i64];omega
     have cN:=writer_num hW (by rw [List.length_append,encB_len,List.length_take];have:=Xhl2l.out;omega) y
     have e1:L2++encB (x.take i)++twoB y=L2++encB (x.take (i+1)):=by rw [takeT_snoc hy,encB_app,List.append_assoc];rfl
     have e2:(b2||badL (x.take i)||badN y)=(b2||badL (x.take (i+1))):=by rw [takeT_snoc hy,badL_app,badL_one,Bool.or_assoc]
     rw [e1,e2]at cN
     clear hr hcell hc hy e1 e2 hW hy2
     obtain⟨XcN,XhT⟩:=HqZ2 cN hT;clear cN hT
     go_wp2_with fail
     refine XcN.out.mono ?_
     rintro e w5 ⟨rfl,hW5,t5⟩
     have hW:=hW5.then XhS.out XhT.out t5
     have hT:=New.touch XhT.out t5
     clear hW5 t5 XhT XcN
     obtain⟨XhW,XhT⟩:=HqZ2 hW hT;clear hW hT
     go_wp2_with fail
     go_roundw
     case rel=>exact⟨i+1,by omega,by go_num,XhW.out,XhT.out⟩
     case measure=>simp [intOf];omega
    ·have e0:x.take i=x:=List.take_of_length_le (by have:=Xhm.out;omega)
     rw [e0,<-XeL.out,<-XeB.out]at hW
     clear e0
     obtain⟨XhW,XhT⟩:=HqZ2 hW hT;clear hW hT
     go_wp2_with fail
     go_roundw
     case rel=>exact⟨k+1,by omega,by go_num,XhW.out,XhT.out⟩
     case measure=>simp [intOf];omega
  ·have e0:R.take k=R:=List.take_of_length_le (by have:=Xhn.out;omega)
   rw [e0]at hW
   clear e0
   obtain⟨XhW,XhT⟩:=HqZ2 hW hT;clear hW hT
   go_wp2_with fail
   go_end0
   exact⟨rfl,XhW.out,XhT.out⟩
end Go.Proofs.YtlpipniclimgeaaGreat

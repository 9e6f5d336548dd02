/- first.Sets in memory; first.Sets.rule. -/
import Derived.Test.YthlbjgabhpdbfaaGreatALookPlain
namespace Go.Proofs.YthlbjgabhpdbfaaGreat
set_option linter.unusedVariables false
open Go.RowKit
attribute [local irreducible] wpStill wpOne wpPh
structure FD:Type where
 (s T p n pe:Nat)
 Se:Nat->Prop
 (gb cb:Nat)
 psb:Nat->Nat
 fb:Nat->Nat->Prop
 (gh ch:Nat)
 psh:Nat->Nat
 fh:Nat->Nat->Prop
 (z0 z1 z2 z3:Nat)
structure FSets (w:World) (q:FD) (e:Nat->Bool) (bg bh:Nat->Nat->Bool):Prop where
 blk:Blk w q.s 320 #[.int .i64 q.T,.int .i64 q.p,PtrV q.pe,.slice (some ⟨q.gb,0,none⟩) q.n q.cb,.slice (some ⟨q.gh,0,none⟩) q.n q.ch]
 em:IsSet w q.pe q.Se q.n e
 bgn:Fam w q.gb q.n (q.T+1) q.psb q.fb bg
 bhd:Fam w q.gh q.n (q.T+1) q.psh q.fh bh
 np:q.n=q.p+1
 cap:(q.n<=q.cb/\q.cb<=9223372036854775807)/\q.n<=q.ch/\q.ch<=9223372036854775807
 sz:q.n<=4096/\q.T<q.n
 zs: ∀k,q.Se k->q.z0<=k/\k<q.z1
 zb:(q.z1<=q.gb/\q.gb<q.z2)/\ ∀i k,i<q.n->q.fb i k->q.z1<=k/\k<q.z2
 zh:(q.z2<=q.gh/\q.gh<q.z3)/\ ∀i k,i<q.n->q.fh i k->q.z2<=k/\k<q.z3
 z:q.z0<=q.z1/\q.z1<=q.z2/\q.z2<=q.z3/\q.z3<=q.s
section
variable {w w' : World} {q : FD} {e e' : Nat -> Bool} {bg bh : Nat -> Nat -> Bool} {S : Nat -> Prop}
theorem FSets.touch (h:FSets w q e bg bh) (ht:Touch S w w') (hS: ∀k,S k->k<q.z0\/q.s<k):FSets w' q e bg bh:=by
 obtain⟨z1,z2,z3,z4⟩:=h.z
 have fs: ∀k,q.z0<=k->k<=q.s-> ¬S k:=fun k h1 h2 hk=>by have:=hS k hk;omega
 refine⟨h.blk.touch ht (fs _ (by omega) (Nat.le_refl _)),h.em.touch ht fun k hk=> ?_,h.bgn.touch ht (fs _ ?_ ?_) fun i hi k hk=> ?_,h.bhd.touch ht (fs _ ?_ ?_) fun i hi k hk=> ?_,h.np,h.cap,h.sz,h.zs,h.zb,h.zh,h.z⟩
 ·have:=h.zs k hk;exact fs k (by omega) (by omega)
 ·have:=h.zb.1;omega
 ·have:=h.zb.1;omega
 ·have:=h.zb.2 i k hi hk;exact fs k (by omega) (by omega)
 ·have:=h.zh.1;omega
 ·have:=h.zh.1;omega
 ·have:=h.zh.2 i k hi hk;exact fs k (by omega) (by omega)
theorem FSets.below (h:FSets w q e bg bh) (hb:Below w.heap.size w w'):FSets w' q e bg bh:=h.touch (Touch.of_size hb (fun _=>False)) fun _ h=>h.elim
theorem FSets.putE (h:FSets w q e bg bh) (hs:IsSet w' q.pe q.Se q.n e') (ht:Touch q.Se w w'):FSets w' q e' bg bh:=by
 obtain⟨z1,z2,z3,z4⟩:=h.z
 have fs: ∀k,q.z1<=k-> ¬q.Se k:=fun k h1 hk=>by have:=h.zs k hk;omega
 exact⟨h.blk.touch ht (fs _ (by omega)),hs,h.bgn.touch ht (fs _ h.zb.1.1) (fun i hi k hk=>fs k (h.zb.2 i k hi hk).1),h.bhd.touch ht (fs _ (by have:=h.zh.1.1;omega)) (fun i hi k hk=>fs k (by have:=(h.zh.2 i k hi hk).1;omega)),h.np,h.cap,h.sz,h.zs,h.zb,h.zh,h.z⟩
theorem FSets.putB (h:FSets w q e bg bh) {i:Nat} (hi:i<q.n) {f:Nat->Bool} (hs:IsSet w' (q.psb i) (q.fb i) (q.T+1) f) (ht:Touch (q.fb i) w w'):FSets w' q e (setF bg i f) bh:=by
 obtain⟨z1,z2,z3,z4⟩:=h.z
 have fs: ∀k,k<q.z1\/q.z2<=k-> ¬q.fb i k:=fun k h1 hk=>by have:=h.zb.2 i k hi hk;omega
 exact⟨h.blk.touch ht (fs _ (by omega)),h.em.touch ht (fun k hk=>fs k (by have:=h.zs k hk;omega)),h.bgn.put hi hs ht,h.bhd.touch ht (fs _ (by have:=h.zh.1.1;omega)) (fun j hj k hk=>fs k (by have:=(h.zh.2 j k hj hk).1;omega)),h.np,h.cap,h.sz,h.zs,h.zb,h.zh,h.z⟩
theorem FSets.putH (h:FSets w q e bg bh) {i:Nat} (hi:i<q.n) {f:Nat->Bool} (hs:IsSet w' (q.psh i) (q.fh i) (q.T+1) f) (ht:Touch (q.fh i) w w'):FSets w' q e bg (setF bh i f):=by
 obtain⟨z1,z2,z3,z4⟩:=h.z
 have fs: ∀k,k<q.z2\/q.z3<=k-> ¬q.fh i k:=fun k h1 hk=>by have:=h.zh.2 i k hi hk;omega
 exact⟨h.blk.touch ht (fs _ (by omega)),h.em.touch ht (fun k hk=>fs k (by have:=h.zs k hk;omega)),h.bgn.touch ht (fs _ (by have:=h.zb.1;omega)) (fun j hj k hk=>fs k (by have:=(h.zb.2 j k hj hk);omega)),h.bhd.put hi hs ht,h.np,h.cap,h.sz,h.zs,h.zb,h.zh,h.z⟩
theorem FSets.cells (h:FSets w q e bg bh):w.cell? ⟨q.s,0,none⟩=some (.int .i64 q.T)/\w.cell? ⟨q.s,1,none⟩=some (.int .i64 q.p)/\w.cell? ⟨q.s,2,none⟩=some (PtrV q.pe)/\w.cell? ⟨q.s,3,none⟩=some (.slice (some ⟨q.gb,0,none⟩) q.n q.cb)/\w.cell? ⟨q.s,4,none⟩=some (.slice (some ⟨q.gh,0,none⟩) q.n q.ch):=
 ⟨(h.blk.cell 0).trans rfl,(h.blk.cell 1).trans rfl,(h.blk.cell 2).trans rfl,(h.blk.cell 3).trans rfl,(h.blk.cell 4).trans rfl⟩
theorem FSets.hiB (h:FSets w q e bg bh): ∀i t,i<q.n->q.T+1<=t->bg i t=false:=fun i t hi ht=>(h.bgn.set i hi).high t ht
theorem FSets.hiH (h:FSets w q e bg bh): ∀i t,i<q.n->q.T+1<=t->bh i t=false:=fun i t hi ht=>(h.bhd.set i hi).high t ht
end
theorem FSets.extB {w:World} {q:FD} {e:Nat->Bool} {bg bg' bh:Nat->Nat->Bool} (h:FSets w q e bg bh) (hb: ∀i,i<q.n->bg' i=bg i):FSets w q e bg' bh:=⟨h.blk,h.em,h.bgn.ext hb,h.bhd,h.np,h.cap,h.sz,h.zs,h.zb,h.zh,h.z⟩
theorem FSets.extH {w:World} {q:FD} {e:Nat->Bool} {bg bh bh':Nat->Nat->Bool} (h:FSets w q e bg bh) (hb: ∀i,i<q.n->bh' i=bh i):FSets w q e bg bh':=⟨h.blk,h.em,h.bgn,h.bhd.ext hb,h.np,h.cap,h.sz,h.zs,h.zb,h.zh,h.z⟩
theorem FSets.relB (q:FD) (e:Nat->Bool) (bg bh:Nat->Nat->Bool) {i:Nat} (hi:i<q.n) (hw: ∃w f,FSets w q e f bh):LineRel (fun w f=>FSets w q e (setF bg i f) bh) q.s q.T q.p q.pe q.gb q.cb q.n (q.T+1) (q.psb i) q.Se (q.fb i) e q.psb (fun j f=>setF bg i f j):=by
 obtain⟨w0,f0,h0⟩:=hw
 refine⟨fun h=>by have:=h.bgn.set i hi;rwa [setF_same]at this,fun h=>⟨h.cells.1,h.cells.2.1,h.cells.2.2.1,h.cells.2.2.2.1⟩,fun h=>h.em,fun h j hj=>⟨h.bgn.cell j hj,_,h.bgn.set j hj⟩,fun{w w' f f'} h hs ht=> ?_,h0.np,h0.cap.1.1,h0.cap.1.2,h0.sz.1⟩
 have:=h.putB hi hs ht
 have e2:setF (setF bg i f) i f'=setF bg i f':=by
  funext j;by_cases ej:j=i
  ·subst ej;rw [setF_same,setF_same]
  ·rw [setF_ne ej,setF_ne ej,setF_ne ej]
 rwa [e2]at this
theorem relB_al (n:Nat) (bg:Nat->Nat->Bool) (i:Nat): ∀j,j<n->(∀f,setF bg i f j=bg j)\/((∀f,setF bg i f j=f)/\bg j=bg i):=fun j _=>by
 by_cases e:j=i
 ·subst e;exact .inr ⟨fun f=>setF_same _ _ _,rfl⟩
 ·exact .inl fun f=>setF_ne e
theorem FSets.relH (q:FD) (e:Nat->Bool) (bg bh:Nat->Nat->Bool) {i:Nat} (hi:i<q.n) (hw: ∃w f,FSets w q e bg f):LineRel (fun w f=>FSets w q e bg (setF bh i f)) q.s q.T q.p q.pe q.gb q.cb q.n (q.T+1) (q.psh i) q.Se (q.fh i) e q.psb (fun j f=>bg j):=by
 obtain⟨w0,f0,h0⟩:=hw
 refine⟨fun h=>by have:=h.bhd.set i hi;rwa [setF_same]at this,fun h=>⟨h.cells.1,h.cells.2.1,h.cells.2.2.1,h.cells.2.2.2.1⟩,fun h=>h.em,fun h j hj=>⟨h.bgn.cell j hj,_,h.bgn.set j hj⟩,fun{w w' f f'} h hs ht=> ?_,h0.np,h0.cap.1.1,h0.cap.1.2,h0.sz.1⟩
 have:=h.putH hi hs ht
 have e2:setF (setF bh i f) i f'=setF bh i f':=by
  funext j;by_cases ej:j=i
  ·subst ej;rw [setF_same,setF_same]
  ·rw [setF_ne ej,setF_ne ej,setF_ne ej]
 rwa [e2]at this
theorem FSets.relN (q:FD) (e:Nat->Bool) (bg bh:Nat->Nat->Bool) {b:Nat} {S:Nat->Prop} (hS: ∀k,S k->q.s<k) (hw: ∃w,FSets w q e bg bh):LineRel (fun w f=>FSets w q e bg bh/\IsSet w b S (q.T+1) f) q.s q.T q.p q.pe q.gb q.cb q.n (q.T+1) b q.Se S e q.psb (fun j f=>bg j):=by
 obtain⟨w0,h0⟩:=hw
 exact⟨fun h=>h.2,fun h=>⟨h.1.cells.1,h.1.cells.2.1,h.1.cells.2.2.1,h.1.cells.2.2.2.1⟩,fun h=>h.1.em,fun h j hj=>⟨h.1.bgn.cell j hj,_,h.1.bgn.set j hj⟩,fun h hs ht=>⟨h.1.touch ht (fun k hk=> .inr (hS k hk)),hs⟩,h0.np,h0.cap.1.1,h0.cap.1.2,h0.sz.1⟩
theorem rel_al (n:Nat) (bg:Nat->Nat->Bool) (f0:Nat->Bool): ∀j,j<n->(∀f:Nat->Bool,(fun(j:Nat) (f:Nat->Bool)=>bg j) j f=bg j)\/((∀f:Nat->Bool,(fun(j:Nat) (f:Nat->Bool)=>bg j) j f=f)/\bg j=f0):=fun _ _=> .inl fun _=>rfl
def HPost (w:World) (q:FD) (e:Nat->Bool) (bg bh:Nat->Nat->Bool) (l:Int) (xs:List Int) (ee:Ending) (w':World):Prop:=
 ∃bh' m,ee= .returned (.bool m)/\FSets w' q e bg bh'/\HStep q.T q.p q.n (q.T+1) (hasI q.n e) (famI q.n bg) bh l xs xs.length bh' m/\Touch (fun k=>q.z2<=k/\k<q.z3) w w'
set_option maxRecDepth 100000 in
set_option maxHeartbeats 4000000 in
theorem first_rule {w:World} {q:FD} {e:Nat->Bool} {bg bh:Nat->Nat->Bool} (h:FSets w q e bg bh) {F:Nat->Prop} {v:Value} {l:Int} {xs:List Int} (hl:RdI w F v xs) (hF: ∀k,F k->k<q.z0\/(q.s<k/\k<w.heap.size)) (hlr:0<=l/\l<q.n):
  Calls Tryz.prog 253 #[PtrV q.s,.agg #[.int .i64 l,v]] w (HPost w q e bg bh l xs):=by
 obtain⟨li,rfl⟩:=Int.eq_ofNat_of_zero_le hlr.1
 have hli:li<q.n:=by omega
 have hli2:(li:Int)<(q.n:Int):=by omega
 clear hlr
 obtain⟨A,nx,d,rfl,-⟩:=id hl
 obtain⟨hn,hnd,hdm,hcell⟩:=RdI.at_ hl
 unfold maxLen at hdm
 obtain⟨w1,hw1⟩: ∃w1,w1=w.alloc (.cells #[.int .i64 (li:Int),.slice A nx d] 98):=⟨_,rfl⟩
 have b1:Below w.heap.size w w1:=by rw [hw1];exact(Below.refl _ w).alloc (Nat.le_refl _) _
 have k1:Blk w1 w.heap.size 98 #[.int .i64 (li:Int),.slice A nx d]:=by rw [hw1];exact Blk.new _ _ _
 have h1:=h.below b1
 have hsw:=h.blk.lt
 have hl1:RdI w1 F (.slice A nx d) xs:=hl.below b1 (fun k hk=>by have:=hF k hk;have:=h.z;omega)
 obtain⟨z1,z2,z3,z4⟩:=h.z
 have c1:=(k1.cell 1).trans rfl
 rw [hw1]at c1
 obtain⟨Xhn,Xhl,XhF,Xk1,Xh1,Xhl1,Xb1,Xz1,Xz2,Xz3,Xz4,Xhsw⟩:=HqZ12 hn hl hF k1 h1 hl1 b1 z1 z2 z3 z4 hsw;clear hn hl hF k1 h1 hl1 b1 z1 z2 z3 z4 hsw;clear h
 go_enter Tryz.func253,Tryz.ntmps253
 go_wp2_with fail
 rw [<-hw1]
 go_loopw [5,13] (fun mo i wr=> ∃(k:Nat) (bh':Nat->Nat->Bool) (m:Bool),k<=nx/\i= .int .i64 k/\mo= .bool m/\FSets wr q e bg bh'/\HStep q.T q.p q.n (q.T+1) (hasI q.n e) (famI q.n bg) bh (li:Int) xs k bh' m/\Touch (fun k=>q.z2<=k/\k<q.z3) w1 wr) (fun _ i _=>nx - (intOf i).toNat)
 case atStart=>exact⟨0,bh,false,Nat.zero_le _,rfl,rfl,Xh1.out,HStep.zero _ _ _ _ _ _ _ _ _,Touch.refl _ _⟩
 case round=>
  obtain⟨k,bh',m,hk,rfl,rfl,hS,hst,ht⟩:=hrel
  by_cases hlt:k<nx
  ·have hlt':(k:Int)<(nx:Int):=by omega
   obtain⟨bb,off,rfl,hFb,hc1⟩:=hcell (by omega)
   obtain⟨x,hx⟩: ∃x,xs[k]? =some x:=⟨_,List.getElem?_eq_getElem (by rw [<-Xhn.out];exact hlt)⟩
   have far: ∀j,F j-> ¬(q.z2<=j/\j<q.z3):=fun j hj=>by have:=XhF.out j hj;have:=Xz1.out;have:=Xz2.out;have:=Xz3.out;have:=Xz4.out;omega
   have hcx:=ht.cell ((Xb1.out.cell (p:=⟨bb,off+k,none⟩) (by have:=XhF.out _ hFb;have:=Xz1.out;have:=Xz2.out;have:=Xz3.out;have:=Xz4.out;have:=Xhsw.out;show bb<_;omega)).trans (hc1 k x hx)) (far _ hFb)
   obtain⟨s0,s1,s2,s3,s4⟩:=hS.cells
   clear hcell hc1
   obtain⟨Xhx,XhS,Xht,Xfar⟩:=HqZ4 hx hS ht far;clear hx hS ht far
   go_wp2_with fail
   refine(sizes_non q.T q.p x wr).mono ?_
   rintro ee w2 ⟨rfl,b2⟩
   have hS2:=XhS.out.below b2
   have ht2:=Xht.out.trans' ((Touch.of_size b2 (fun _=>False)).mono fun _ _ h=>h.elim)
   clear s0 s1 s2 s3 s4 hcx XhS Xht
   cases hnon:nonB q.T q.p x with
   |false=>
    have hst2:=hst.skip Xhx.out hnon
    unfold nonB at hnon
    rw [hnon]
    clear b2
    obtain⟨Xhst,Xhst2,XhS2,Xht2,Xhnon⟩:=HqZ5 hst hst2 hS2 ht2 hnon;clear hst hst2 hS2 ht2 hnon
    go_wp2_with fail
    go_roundw
    case rel=>exact⟨k+1,bh',m,by omega,by go_num,rfl,XhS2.out,Xhst2.out,Xht2.out⟩
    case measure=>simp [intOf];omega
   |true=>
    have hnn:=hnon
    unfold nonB at hnn
    rw [hnn]
    simp only [Bool.and_eq_true,decide_eq_true_eq]at hnn
    obtain⟨i,rfl⟩:=Int.eq_ofNat_of_zero_le (show 0<=x by omega)
    have hi:i<q.n:=by have:=hS2.np;omega
    have hi2:(i:Int)<(q.n:Int):=by omega
    obtain⟨s0,s1,s2,s3,s4⟩:=hS2.cells
    have hp:=hS2.bhd.cell i hi
    have hb1:=((Xk1.out.touch ht2 (fun hk=>by have:=Xz4.out;have:=Xhsw.out;omega)).cell 1).trans rfl
    obtain⟨kc1,kc2⟩:=hS2.cap.2
    have hnk:(k:Int)+1<=(nx:Int):=by omega
    have hw63:IntKind.i64.wrap ((k:Int)+1)=(k:Int)+1:=by rw [IntKind.wrap_i64];omega
    have htn:((k:Int)+1).toNat=k+1:=by omega
    have h0k:(0:Int)<=(k:Int)+1:=by omega
    have hrt:=RdI.tail (Rd.touch Xhl1.out ht2 Xfar.out) (k:=k+1) (by omega)
    by_cases hdk:d=k+1
    ·subst hdk
     rw [if_pos rfl,Nat.sub_self,show nx - (k+1)=0 by omega]at hrt
     have cl:=first_line (FSets.relH q e bg bh' hi ⟨_,_,hS2⟩) (rel_al q.n bg (bh' i)) (w:=w2.drew) (f0:=bh' i) (by rw [setF_id rfl];exact hS2.below ((Below.refl _ w2).drew)) hrt (fun j hj hf=>by have:=hS2.zh.2 i j hi hf;exact Xfar.out j hj this)
     obtain⟨f,hf⟩: ∃f,f=joinL (bh' i) (hasI q.n e) (famI q.n bg) (xs.drop (k+1)):=⟨_,rfl⟩
     obtain⟨m1,hm1⟩: ∃m1,m1=moreB (q.T+1) (bh' i) f:=⟨_,rfl⟩
     obtain⟨al,hal⟩: ∃al,al=(xs.drop (k+1)).all (hasI q.n e):=⟨_,rfl⟩
     rw [<-hf,<-hal]at cl
     unfold FLinePost at cl
     rw [<-hm1]at cl
     have tfh: ∀j,q.fh i j->q.z2<=j/\j<q.z3:=fun j hj=>hS2.zh.2 i j hi hj
     clear b2
     obtain⟨Xhst,XhS2,Xht2,Xhnon,Xhrt,Xcl,Xhf,Xhm1,Xhal,Xtfh⟩:=HqZ10 hst hS2 ht2 hnon hrt cl hf hm1 hal tfh;clear hst hS2 ht2 hnon hrt cl hf hm1 hal tfh
     go_wp2_with fail
     go_region_held3 (fun w'=>w'.cell? ⟨q.s,4,none⟩=some (.slice (some ⟨q.gh,0,none⟩) q.n q.ch)/\w'.cell? ⟨q.gh,i,none⟩=some (PtrV (q.psh i))/\w'.cell? ⟨w.heap.size,1,none⟩=some (.slice (some ⟨bb,off,none⟩) nx (k+1)))
      (first|assumption|go_keep)
      (first|(go_at_call 252;(with_reducible refine Xcl.out.mono ?_);rintro ee w3 ⟨rfl,hR3,t3⟩;have hS3:=id hR3;have ht3:=Xht2.out.trans (Touch.trans' ((Touch.refl _ w2).drew) t3) (fun j _ hj=>Xtfh.out j hj);have hb3:=((Xk1.out.touch ht3 (fun hk=>by have:=Xz4.out;have:=Xhsw.out;omega)).cell 1).trans rfl;have k3:=And.intro hS3.cells.2.2.2.2 (And.intro (hS3.bhd.cell i hi) hb3)))
     clear s0 s1 s2 s3 s4 hp hb1 k3 hb3 hR3 t3 Xcl Xhrt
     have hb3:=Xk1.out.touch ht3 (fun hk=>by have:=Xz4.out;have:=Xhsw.out;omega)
     have hb30:=(hb3.cell 0).trans rfl
     have hnp:q.p<q.n:=by have:=hS3.np;omega
     have hhi:=XhS2.out.hiH
     have hhb: ∀t,q.T+1<=t->lineB (hasI q.n e) (famI q.n bg) (xs.drop (k+1)) t=false:=fun t ht=>lineB_high hS3.hiB ht
     clear hb3
     cases al with
     |false=>
      have hpart:=Xhst.out.part Xhx.out Xhnon.out hnp hhi hhb Xhal.out.symm
      rw [Int.toNat_natCast,<-Xhf.out,<-Xhm1.out]at hpart
      clear hhi hhb hb30
      cases m with
      |true=>
       obtain⟨Xhpart,XhS3,Xht3⟩:=HqZ3 hpart hS3 ht3;clear hpart hS3 ht3
       go_wp2_with fail
       go_roundw
       case rel=>exact⟨k+1,_,true,by omega,by go_num,rfl,XhS3.out,Xhpart.out,Xht3.out⟩
       case measure=>simp [intOf];omega
      |false=>
       obtain⟨Xhpart,XhS3,Xht3⟩:=HqZ3 hpart hS3 ht3;clear hpart hS3 ht3
       go_wp2_with fail
       go_roundw
       case rel=>exact⟨k+1,_,m1,by omega,by go_num,rfl,XhS3.out,Xhpart.out,Xht3.out⟩
       case measure=>simp [intOf];omega
     |true=>
      obtain⟨f2,hf2⟩: ∃f2,f2=fun t=>f t||setF bh' i f li t:=⟨_,rfl⟩
      obtain⟨m2,hm2⟩: ∃m2,m2=moreB (q.T+1) f f2:=⟨_,rfl⟩
      have hwhole:=Xhst.out.whole (f:=f) (f2:=f2) Xhx.out Xhnon.out hnp hhi hhb Xhal.out.symm (by rw [Int.toNat_natCast];exact hli) (by rw [Int.toNat_natCast];exact Xhf.out) (by rw [Int.toNat_natCast,Int.toNat_natCast];exact hf2)
      rw [Int.toNat_natCast,<-hm2,<-Xhm1.out]at hwhole
      clear hhi hhb
      have hSd:=hS3.below ((Below.refl _ w3).drew)
      have co:=set_or' (hSd.bhd.set i hi) (hSd.bhd.set li hli)
      rw [setF_same,<-hf2,<-hm2]at co
      have s4:=hS3.cells.2.2.2.2
      have hp:=hS3.bhd.cell i hi
      have hp2:=hS3.bhd.cell li hli
      have tfh2:=ht3.trans' ((Touch.refl _ w3).drew)
      have tfh3: ∀j,q.fh i j->q.z2<=j/\j<q.z3:=fun j hj=>hS3.zh.2 i j hi hj
      cases m2
      all_goals
       cases m
       all_goals
        obtain⟨Xhwhole,Xtfh2,Xco,XhSd,Xtfh3,Xhf2,Xhm2⟩:=HqZ7 hwhole tfh2 co hSd tfh3 hf2 hm2;clear hwhole tfh2 co hSd tfh3 hf2 hm2;clear hS3 ht3
        go_wp2_with fail
        refine region_tail 15 (by kernel_rfl) (by kernel_rfl) ?_
        simp only [List.take_succ_cons,List.take_zero,List.drop_succ_cons,List.drop_zero]
        repeat still_step
        refine wpStill_nil ?_
        go_wp2_with fail
        with_reducible refine Xco.out.mono ?_
        rintro ee w4 ⟨rfl,hs4,t4⟩
        have hS4:=XhSd.out.putH hi hs4 t4
        have ht4:=Xtfh2.out.trans t4 (fun j _ hj=>Xtfh3.out j hj)
        clear s4 hp hp2 hb30 hs4 t4 Xco XhSd Xtfh2
        obtain⟨XhS4,Xht4⟩:=HqZ2 hS4 ht4;clear hS4 ht4
        go_wp2_with fail
        go_roundw
        case rel=>exact⟨k+1,_,_,by omega,by go_num,rfl,XhS4.out,Xhwhole.out,Xht4.out⟩
        case measure=>simp [intOf];omega
    ·rw [if_neg hdk]at hrt
     have cl:=first_line (FSets.relH q e bg bh' hi ⟨_,_,hS2⟩) (rel_al q.n bg (bh' i)) (w:=w2.drew) (f0:=bh' i) (by rw [setF_id rfl];exact hS2.below ((Below.refl _ w2).drew)) hrt (fun j hj hf=>by have:=hS2.zh.2 i j hi hf;exact Xfar.out j hj this)
     obtain⟨f,hf⟩: ∃f,f=joinL (bh' i) (hasI q.n e) (famI q.n bg) (xs.drop (k+1)):=⟨_,rfl⟩
     obtain⟨m1,hm1⟩: ∃m1,m1=moreB (q.T+1) (bh' i) f:=⟨_,rfl⟩
     obtain⟨al,hal⟩: ∃al,al=(xs.drop (k+1)).all (hasI q.n e):=⟨_,rfl⟩
     rw [<-hf,<-hal]at cl
     unfold FLinePost at cl
     rw [<-hm1]at cl
     have tfh: ∀j,q.fh i j->q.z2<=j/\j<q.z3:=fun j hj=>hS2.zh.2 i j hi hj
     clear b2
     obtain⟨Xhst,XhS2,Xht2,Xhnon,Xhrt,Xcl,Xhf,Xhm1,Xhal,Xtfh⟩:=HqZ10 hst hS2 ht2 hnon hrt cl hf hm1 hal tfh;clear hst hS2 ht2 hnon hrt cl hf hm1 hal tfh
     go_wp2_with fail
     go_region_held3 (fun w'=>w'.cell? ⟨q.s,4,none⟩=some (.slice (some ⟨q.gh,0,none⟩) q.n q.ch)/\w'.cell? ⟨q.gh,i,none⟩=some (PtrV (q.psh i))/\w'.cell? ⟨w.heap.size,1,none⟩=some (.slice (some ⟨bb,off,none⟩) nx d))
      (first|assumption|go_keep)
      (first|(go_at_call 252;(with_reducible refine Xcl.out.mono ?_);rintro ee w3 ⟨rfl,hR3,t3⟩;have hS3:=id hR3;have ht3:=Xht2.out.trans (Touch.trans' ((Touch.refl _ w2).drew) t3) (fun j _ hj=>Xtfh.out j hj);have hb3:=((Xk1.out.touch ht3 (fun hk=>by have:=Xz4.out;have:=Xhsw.out;omega)).cell 1).trans rfl;have k3:=And.intro hS3.cells.2.2.2.2 (And.intro (hS3.bhd.cell i hi) hb3)))
     clear s0 s1 s2 s3 s4 hp hb1 k3 hb3 hR3 t3 Xcl Xhrt
     have hb3:=Xk1.out.touch ht3 (fun hk=>by have:=Xz4.out;have:=Xhsw.out;omega)
     have hb30:=(hb3.cell 0).trans rfl
     have hnp:q.p<q.n:=by have:=hS3.np;omega
     have hhi:=XhS2.out.hiH
     have hhb: ∀t,q.T+1<=t->lineB (hasI q.n e) (famI q.n bg) (xs.drop (k+1)) t=false:=fun t ht=>lineB_high hS3.hiB ht
     clear hb3
     cases al with
     |false=>
      have hpart:=Xhst.out.part Xhx.out Xhnon.out hnp hhi hhb Xhal.out.symm
      rw [Int.toNat_natCast,<-Xhf.out,<-Xhm1.out]at hpart
      clear hhi hhb hb30
      cases m with
      |true=>
       obtain⟨Xhpart,XhS3,Xht3⟩:=HqZ3 hpart hS3 ht3;clear hpart hS3 ht3
       go_wp2_with fail
       go_roundw
       case rel=>exact⟨k+1,_,true,by omega,by go_num,rfl,XhS3.out,Xhpart.out,Xht3.out⟩
       case measure=>simp [intOf];omega
      |false=>
       obtain⟨Xhpart,XhS3,Xht3⟩:=HqZ3 hpart hS3 ht3;clear hpart hS3 ht3
       go_wp2_with fail
       go_roundw
       case rel=>exact⟨k+1,_,m1,by omega,by go_num,rfl,XhS3.out,Xhpart.out,Xht3.out⟩
       case measure=>simp [intOf];omega
     |true=>
      obtain⟨f2,hf2⟩: ∃f2,f2=fun t=>f t||setF bh' i f li t:=⟨_,rfl⟩
      obtain⟨m2,hm2⟩: ∃m2,m2=moreB (q.T+1) f f2:=⟨_,rfl⟩
      have hwhole:=Xhst.out.whole (f:=f) (f2:=f2) Xhx.out Xhnon.out hnp hhi hhb Xhal.out.symm (by rw [Int.toNat_natCast];exact hli) (by rw [Int.toNat_natCast];exact Xhf.out) (by rw [Int.toNat_natCast,Int.toNat_natCast];exact hf2)
      rw [Int.toNat_natCast,<-hm2,<-Xhm1.out]at hwhole
      clear hhi hhb
      have hSd:=hS3.below ((Below.refl _ w3).drew)
      have co:=set_or' (hSd.bhd.set i hi) (hSd.bhd.set li hli)
      rw [setF_same,<-hf2,<-hm2]at co
      have s4:=hS3.cells.2.2.2.2
      have hp:=hS3.bhd.cell i hi
      have hp2:=hS3.bhd.cell li hli
      have tfh2:=ht3.trans' ((Touch.refl _ w3).drew)
      have tfh3: ∀j,q.fh i j->q.z2<=j/\j<q.z3:=fun j hj=>hS3.zh.2 i j hi hj
      cases m2
      all_goals
       cases m
       all_goals
        obtain⟨Xhwhole,Xtfh2,Xco,XhSd,Xtfh3,Xhf2,Xhm2⟩:=HqZ7 hwhole tfh2 co hSd tfh3 hf2 hm2;clear hwhole tfh2 co hSd tfh3 hf2 hm2;clear hS3 ht3
        go_wp2_with fail
        refine region_tail 15 (by kernel_rfl) (by kernel_rfl) ?_
        simp only [List.take_succ_cons,List.take_zero,List.drop_succ_cons,List.drop_zero]
        repeat still_step
        refine wpStill_nil ?_
        go_wp2_with fail
        with_reducible refine Xco.out.mono ?_
        rintro ee w4 ⟨rfl,hs4,t4⟩
        have hS4:=XhSd.out.putH hi hs4 t4
        have ht4:=Xtfh2.out.trans t4 (fun j _ hj=>Xtfh3.out j hj)
        clear s4 hp hp2 hb30 hs4 t4 Xco XhSd Xtfh2
        obtain⟨XhS4,Xht4⟩:=HqZ2 hS4 ht4;clear hS4 ht4
        go_wp2_with fail
        go_roundw
        case rel=>exact⟨k+1,_,_,by omega,by go_num,rfl,XhS4.out,Xhwhole.out,Xht4.out⟩
        case measure=>simp [intOf];omega
  ·have hkq:k=nx:=by omega
   have hlt': ¬(k:Int)<(nx:Int):=by omega
   have hlen:k=xs.length:=by have:=Xhn.out;omega
   rw [hlen]at hst
   have fin:HPost w q e bg bh (li:Int) xs (.returned (.bool m)) wr:=⟨bh',m,rfl,hS,hst,(Touch.of_size Xb1.out _).trans' ht⟩
   obtain⟨Xfin,XhS,Xhst,Xht,Xhlen⟩:=HqZ5 fin hS hst ht hlen;clear fin hS hst ht hlen;clear hkq
   go_wp2_with fail
   go_ret
   exact Xfin.out
end Go.Proofs.YthlbjgabhpdbfaaGreat

/- conchref11.Of. -/
import Derived.Test.YtlpokomfljmogaaGreatQFirstR1
import Derived.Deep.Cut
import Derived.Deep.CutRange
import Derived.Test.YtlpokomfljmogaaGreatQFirst4
import Derived.Test.YtlpokomfljmogaaGreatQItem1
import Derived.Test.YtlpokomfljmogaaGreatQLook15
import Derived.Test.YtlpokomfljmogaaGreatQBitsL
namespace Go.Proofs.YtlpokomfljmogaaGreat
set_option linter.unusedVariables false
open Go.RowKit
attribute [local irreducible] wpStill wpOne wpPh
theorem RSets.make {w7:World} {T p gi gb cb gh ch z N R:Nat} {psb psh:Nat→Nat} {A1:Option Addr} {c1:Nat} {A2:Option Addr} {c2:Nat} {A3:Option Addr} {c3:Nat} {st:Int} {F:Nat→Prop} {G:GramD} (hg:IsGram w7 F (.slice A1 T c1) (.slice A2 N c2) (.slice A3 R c3) G)
  (hcan:BSet w7 gi (p+1) noBits) (f1:BFam w7 gb (p+1) (T+1) psb (fun _=>noBits)) (f2:BFam w7 gh (p+1) (T+1) psh (fun _=>noBits)) (hcap:(p+1≤cb∧cb≤9223372036854775807)∧p+1≤ch∧ch≤9223372036854775807) (hc1:T≤c1∧c1≤9223372036854775807)
  (hnG:p+1=topN G∧T=G.terms.length) (hp:p+1≤4096) (hlo: ∀k,F k→k<z) (hz:z≤gi∧z≤gb∧z≤gh∧ ∀i,i<p+1→z≤psb i∧z≤psh i) (hzw:z≤w7.heap.size)
  (hne:(gi≠gb∧gi≠gh)∧ ∀i,i<p+1→psb i≠gi∧psb i≠gh∧psh i≠gi∧psh i≠gb∧ ∀j,j<p+1→psb i≠psh j):
  RSets (w7.alloc (.cells #[.slice A1 T c1,.slice A2 N c2,.slice A3 R c3,.int .i64 st,RowV gi (p+1),.slice (some ⟨gb,0,none⟩) (p+1) cb,.slice (some ⟨gh,0,none⟩) (p+1) ch] 134))
   ⟨w7.heap.size,gi,gb,cb,gh,ch,p+1,T+1,z,psb,psh,A1,T,c1,A2,N,c2,A3,R,c3,st,F⟩ G noBits (fun _=>noBits) (fun _=>noBits):=by
 have b8:Below w7.heap.size w7 (w7.alloc (.cells #[.slice A1 T c1,.slice A2 N c2,.slice A3 R c3,.int .i64 st,RowV gi (p+1),.slice (some ⟨gb,0,none⟩) (p+1) cb,.slice (some ⟨gh,0,none⟩) (p+1) ch] 134)):=(Below.refl _ _).alloc (Nat.le_refl _) _
 have hT:T<p+1:=by rw [hnG.1,hnG.2];unfold topN;omega
 exact⟨Blk.new _ _ _,hg.below b8,hcan.below b8,f1.below b8,f2.below b8,⟨hcap,hc1⟩,rfl,hnG,⟨hp,by simp only;omega,hT⟩,hlo,⟨hzw,hz⟩,⟨hcan.lt,f1.lt,f2.lt,fun i hi=>⟨(f1.set i hi).lt,(f2.set i hi).lt⟩⟩,hne⟩
structure ROfSt (w wr:World) (F:Nat→Prop) (A1:Option Addr) (c1:Nat) (A2:Option Addr) (c2:Nat) (A3:Option Addr) (c3 T N R:Nat) (st:Int) (G:GramD) (q:RD) (e:Nat→Bool) (bg bh:Nat→Nat→Bool):Prop where
 g:GBox wr F w.heap.size A1 c1 A2 c2 A3 c3 T N R st G
 f:RSets wr q G e bg bh
 z:w.heap.size<q.z
 b:Below w.heap.size w wr
section
variable {w wr wr' : World} {F : Nat → Prop} {A1 : Option Addr} {c1 : Nat} {A2 : Option Addr} {c2 : Nat} {A3 : Option Addr} {c3 T N R : Nat} {st : Int} {G : GramD} {q : RD} {e e' : Nat → Bool} {bg bh bg' bh' : Nat → Nat → Bool} {S : Nat → Prop}
theorem ROfSt.below (h:ROfSt w wr F A1 c1 A2 c2 A3 c3 T N R st G q e bg bh) (b:Below wr.heap.size wr wr'):ROfSt w wr' F A1 c1 A2 c2 A3 c3 T N R st G q e bg bh:=
 ⟨h.g.below b,h.f.below b,h.z,h.b.trans (b.mono h.b.size)⟩
theorem ROfSt.set (h:ROfSt w wr F A1 c1 A2 c2 A3 c3 T N R st G q e bg bh) (hF: ∀k,F k→k<w.heap.size) (hf:RSets wr' q G e' bg' bh') (ht:Touch S wr wr') (hS: ∀k,S k→q.z≤k):ROfSt w wr' F A1 c1 A2 c2 A3 c3 T N R st G q e' bg' bh':=by
 have:=h.z
 exact⟨h.g.touch ht (fun k hk hk'=>by have:=hF k hk;have:=hS k hk';omega) (fun hk'=>by have:=hS _ hk';omega),hf,h.z,h.b.trans (ht.below (fun k hk _ hk'=>by have:=hS k hk';omega) h.b.size)⟩
end
def RFirstPost (w:World) (G:GramD) (st:Int) (e:Ending) (w':World):Prop:=
 (checkOf G st≠0∧e= .returned (.pointer none)∧Below w.heap.size w w')∨
 (checkOf G st=0∧ ∃q:RD,e= .returned (PtrV q.s)∧RSets w' q G (empB G) (begB G) (behB G st)∧w.heap.size≤q.z∧Below w.heap.size w w')
def RMade (w w4:World) (F:Nat→Prop) (T p:Nat) (G:GramD) (v:Value) (wx:World):Prop:= ∃q:RD,v=PtrV q.s∧RSets wx q G noBits (fun _=>noBits) (fun _=>noBits)∧q.T=T∧q.n=p+1∧w.heap.size<q.z∧Below w4.heap.size w4 wx
theorem can_step {n:Nat} {e:Nat→Bool} {li:Nat} (hli:li<n) (al:Bool) (t:Nat):(if al then putSet n e (li:Int)else e) t=if t=li then(e li||al)else e t:=by
 cases al with
 |true=>
  simp only [if_true,Bool.or_true]
  unfold putSet
  by_cases h:t=li
  ·subst h
   have:(t:Int)<n:=by omega
   simp [this]
  ·have: ¬(t:Int)=li:=by omega
   simp [h,this]
 |false=>
  simp only [Bool.false_eq_true,if_false,Bool.or_false]
  by_cases h:t=li
  ·subst h;simp
  ·simp [h]
theorem putAns_nat {n:Nat} {e:Nat→Bool} {li:Nat} (hli:li<n):putAns n e (li:Int)= !e li:=by
 unfold putAns
 have h1:(li:Int)<n:=by omega
 rw [decide_eq_true (show(0:Int)≤(li:Int) by omega),decide_eq_true h1]
 simp
set_option maxRecDepth 100000 in
set_option maxHeartbeats 8000000 in
theorem ref11_Of {w:World} {F:Nat→Prop} {vt vn vr:Value} {G:GramD} (h:IsGram w F vt vn vr G) (st:Int):
  Calls Tryz.prog 47 #[GV vt vn vr st] w (RFirstPost w G st):=by
 obtain⟨A1,c1,A2,c2,A3,c3,rfl,rfl,rfl,-⟩:=h.slices
 obtain⟨w1,hw1⟩: ∃w1,w1=w.alloc (.cells #[.slice A1 G.terms.length c1,.slice A2 G.nons.length c2,.slice A3 G.rules.length c3,.int .i64 st] 25):=⟨_,rfl⟩
 have g1:=GBox.new h st
 have b1:Below w.heap.size w w1:=by rw [hw1];exact(Below.refl _ w).alloc (Nat.le_refl _) _
 rw [←hw1]at g1
 have cc:=ref_check g1.gram st
 have hF:=h.lt
 have hkn:checkOf G st=0→Kn G st:=Kn.of_check
 have hno: ∀w',checkOf G st≠0→Below w.heap.size w w'→RFirstPost w G st (.returned (.pointer none)) w':=fun w' h1 h2=> .inl ⟨h1,rfl,h2⟩
 have hyes: ∀w' (q:RD),checkOf G st=0→RSets w' q G (empB G) (begB G) (behB G st)→w.heap.size≤q.z→Below w.heap.size w w'→RFirstPost w G st (.returned (PtrV q.s)) w':=fun w' q h1 h2 h3 h4=> .inr ⟨h1,q,rfl,h2,h3,h4⟩
 have ct:=fun wr (g:GBox wr F w.heap.size A1 c1 A2 c2 A3 c3 G.terms.length G.nons.length G.rules.length st G)=>ref_top g.gram st
 rw [show topOf G=G.terms.length+G.nons.length from rfl]at ct
 generalize hT:G.terms.length=T at *
 generalize hN:G.nons.length=N at *
 generalize hR:G.rules.length=R at *
 obtain⟨q0,q1,q2,q3⟩:=g1.cells
 rw [hw1]at cc q0 q1 q2 q3
 generalize hcz:checkOf G st=cz at *
 clear h
 have XhF:=hide hF;have Xcc:=hide cc;have Xg1:=hide g1;have Xb1:=hide b1;have Xhkn:=hide hkn;have Xhno:=hide hno;have Xhyes:=hide hyes;have Xct:=hide ct;have XhT:=hide hT;have XhN:=hide hN;have XhR:=hide hR;have Xhcz:=hide hcz;clear hF cc g1 b1 hkn hno hyes ct hT hN hR hcz
 go_enter Tryz.func47,Tryz.ntmps47
 go_wp2_with fail
 with_reducible refine Xcc.out.mono ?_
 rintro ee w2 ⟨rfl,b2⟩
 rw [←hw1]at b2
 have g2:=Xg1.out.below b2
 have hb2:=Xb1.out.trans (b2.mono Xb1.out.size)
 clear q0 q1 q2 q3 hw1 Xg1 Xb1 b2 Xcc
 by_cases hz:cz=0
 case neg=>
  have fin:=Xhno.out w2 hz hb2
  have hz':(cz !=0)=true:=by simpa using hz
  clear hb2
  have Xfin:=hide fin;have Xg2:=hide g2;clear fin g2
  go_wp2_with fail
  go_ret
  exact Xfin.out
 case pos=>
  subst hz
  have hk:=Xhkn.out (by first|rfl|trivial)
  have k1:=hk.t
  have k2:=hk.n
  rw [XhT.out]at k1
  rw [XhN.out]at k2
  obtain⟨q0,q1,q2,q3⟩:=g2.cells
  have c2t:=Xct.out _ g2
  have Xg2:=hide g2;have Xhb2:=hide hb2;have Xhk:=hide hk;have Xc2t:=hide c2t;clear g2 hb2 hk c2t
  go_wp2_with fail
  with_reducible refine Xc2t.out.mono ?_
  rintro ee w4 ⟨rfl,b4⟩
  have g4:=Xg2.out.below b4
  have hb4:=Xhb2.out.trans (b4.mono Xhb2.out.size)
  obtain⟨p,hp⟩: ∃p:Nat,p=T+N:=⟨_,rfl⟩
  rw [←hp]
  have hwp:IntKind.i64.wrap ((p:Int)+1)=(p:Int)+1:=by rw [IntKind.wrap_i64];omega
  have hwT:IntKind.i64.wrap ((T:Int)+1)=(T:Int)+1:=by rw [IntKind.wrap_i64];omega
  have hzz:=g4.blk.lt
  have hnG:p+1=topN G∧T=G.terms.length:=⟨by unfold topN;rw [XhT.out,XhN.out,hp],XhT.out.symm⟩
  have hpp:p+1≤4096:=by omega
  have cr:=fun wr=>ref11_rows wr (p+1) (T+1) (by omega) (by omega)
  push_cast at cr
  have hmk:=fun wr=>make_bools (p+1) (by omega) wr
  push_cast at hmk
  have hBnew:=fun wr=>BSet.new wr (p+1)
  generalize hmc:madeCells #[.bool false] (p+1)=mc at hmk hBnew
  clear q0 q1 q2 q3 Xg2 Xhb2 Xc2t b4 Xct Xhno
  have Xhp:=hide hp;have XhnG:=hide hnG;have Xhpp:=hide hpp;have Xcr:=hide cr;have Xg4:=hide g4;have Xhb4:=hide hb4;have Xhmc:=hide hmc;have XhBnew:=hide hBnew;clear hp hnG hpp cr g4 hb4 hmc hBnew
  go_upto_region 4 with fail
  obtain⟨q0,q1,q2,q3⟩:=Xg4.out.cells
  go_cut [4]from 19 to 35 (fun v wx=>RMade w w4 F T p G v wx)
  case first=>
   go_region_held3 (fun w'=>w'.cell? ⟨w.heap.size,0,none⟩=some (.slice A1 T c1)∧w'.cell? ⟨w.heap.size,1,none⟩=some (.slice A2 N c2)∧w'.cell? ⟨w.heap.size,2,none⟩=some (.slice A3 R c3)∧w'.cell? ⟨w.heap.size,3,none⟩=some (.int .i64 st))
    (first|assumption|go_keep)
    (first
     |(go_at_call 93;(with_reducible refine(Xcr.out w4.drew).mono ?_);rintro ee w5 ⟨gb,cb,psb,rfl,c51,c52,l5,m5,f5,b5⟩;have bb5:=(Below.refl _ w4).drew.trans (b5.mono (Nat.le_refl _));have k5:=(Xg4.out.below bb5).cells)
     |(go_at_call 93;(with_reducible refine(Xcr.out (w4.alloc (.cells mc 4)).drew).mono ?_);rintro ee w5 ⟨gb,cb,psb,rfl,c51,c52,l5,m5,f5,b5⟩;have ba5:=((Below.refl _ w4).alloc (Nat.le_refl _) (.cells mc 4)).drew;have bb5:=ba5.trans (b5.mono ba5.size);have kc5:=((XhBnew.out w4).below ((Below.refl _ _).drew)).below b5;have k5:=(Xg4.out.below bb5).cells)
     |(go_at_call 93;(with_reducible refine(Xcr.out w5).mono ?_);rintro ee w6 ⟨gh,ch,psh,rfl,c61,c62,l6,m6,f6,b6⟩;have bb6:=bb5.trans (b6.mono bb5.size);have k6:=(Xg4.out.below bb6).cells)
     |(go_at_call 93;(with_reducible refine(Xcr.out (w5.alloc (.cells mc 4))).mono ?_);rintro ee w6 ⟨gh,ch,psh,rfl,c61,c62,l6,m6,f6,b6⟩;have ba6:=(Below.refl _ w5).alloc (Nat.le_refl _) (.cells mc 4);have bc6:=ba6.trans (b6.mono ba6.size);have bb6:=bb5.trans (bc6.mono bb5.size);have kc6:=(XhBnew.out w5).below b6;have k6:=(Xg4.out.below bb6).cells))
   ·have RM:=RSets.make (w7:=w6) (st:=st) (z:=w4.heap.size) (Xg4.out.below bb6).gram (kc5.below b6) (f5.below b6) f6 ⟨⟨c51,c52⟩,c61,c62⟩ ⟨Xg4.out.tc,Xg4.out.c1m⟩ XhnG.out Xhpp.out (fun k hk=>by have:=XhF.out k hk;omega)
     ⟨Nat.le_refl _,by simp at l5;omega,by have:=bb5.size;omega,fun i hi=>⟨by have:=m5 i hi;simp at this;omega,by have:=m6 i hi;have:=bb5.size;omega⟩⟩ bb6.size
     ⟨⟨by simp at l5;omega,by have:=kc5.lt;omega⟩,fun i hi=>⟨by have:=m5 i hi;simp at this;omega,by have:=(f5.set i hi).lt;omega,by have:=m6 i hi;have:=kc5.lt;omega,by have:=m6 i hi;have:=f5.lt;omega,fun j hj=>by have:=m6 j hj;have:=(f5.set i hi).lt;omega⟩⟩
    have bx:=bb6.trans (((Below.refl _ w6).alloc (Nat.le_refl _) (.cells #[.slice A1 T c1,.slice A2 N c2,.slice A3 R c3,.int .i64 st,RowV w4.heap.size (p+1),.slice (some ⟨gb,0,none⟩) (p+1) cb,.slice (some ⟨gh,0,none⟩) (p+1) ch] 134)).mono bb6.size)
    have XRM:=hide RM;have Xbx:=hide bx;clear RM bx
    go_wp2_with fail
    go_meet
    exact⟨_,rfl,XRM.out,rfl,rfl,hzz,Xbx.out⟩
   ·have RM:=RSets.make (w7:=w6) (st:=st) (z:=w4.heap.size) (Xg4.out.below bb6).gram kc6 (f5.below bc6) f6 ⟨⟨c51,c52⟩,c61,c62⟩ ⟨Xg4.out.tc,Xg4.out.c1m⟩ XhnG.out Xhpp.out (fun k hk=>by have:=XhF.out k hk;omega)
     ⟨bb5.size,l5,by simp at l6;have:=bb5.size;omega,fun i hi=>⟨m5 i hi,by have:=m6 i hi;simp at this;have:=bb5.size;omega⟩⟩ bb6.size
     ⟨⟨by have:=f5.lt;omega,by simp at l6;omega⟩,fun i hi=>⟨by have:=(f5.set i hi).lt;omega,by have:=(f5.set i hi).lt;simp at l6;omega,by have:=m6 i hi;simp at this;omega,by have:=m6 i hi;simp at this;have:=f5.lt;omega,fun j hj=>by have:=m6 j hj;simp at this;have:=(f5.set i hi).lt;omega⟩⟩
    have bx:=bb6.trans (((Below.refl _ w6).alloc (Nat.le_refl _) (.cells #[.slice A1 T c1,.slice A2 N c2,.slice A3 R c3,.int .i64 st,RowV w5.heap.size (p+1),.slice (some ⟨gb,0,none⟩) (p+1) cb,.slice (some ⟨gh,0,none⟩) (p+1) ch] 134)).mono bb6.size)
    have XRM:=hide RM;have Xbx:=hide bx;clear RM bx
    go_wp2_with fail
    go_meet
    exact⟨_,rfl,XRM.out,rfl,rfl,hzz,Xbx.out⟩
   ·have bm:=(Below.refl _ w6).alloc (Nat.le_refl _) (.cells mc 4)
    have bb7:=bb6.trans (bm.mono bb6.size)
    have RM:=RSets.make (w7:=w6.alloc (.cells mc 4)) (st:=st) (z:=w4.heap.size) (Xg4.out.below bb7).gram (XhBnew.out w6) ((f5.below b6).below bm) (f6.below bm) ⟨⟨c51,c52⟩,c61,c62⟩ ⟨Xg4.out.tc,Xg4.out.c1m⟩ XhnG.out Xhpp.out (fun k hk=>by have:=XhF.out k hk;omega)
     ⟨bb6.size,l5,by have:=bb5.size;omega,fun i hi=>⟨m5 i hi,by have:=m6 i hi;have:=bb5.size;omega⟩⟩ bb7.size
     ⟨⟨by have:=f5.lt;have:=b6.size;omega,by have:=f6.lt;omega⟩,fun i hi=>⟨by have:=(f5.set i hi).lt;have:=b6.size;omega,by have:=(f5.set i hi).lt;omega,by have:=(f6.set i hi).lt;omega,by have:=m6 i hi;have:=f5.lt;omega,fun j hj=>by have:=m6 j hj;have:=(f5.set i hi).lt;omega⟩⟩
    have bx:=bb7.trans (((Below.refl _ (w6.alloc (.cells mc 4))).alloc (Nat.le_refl _) (.cells #[.slice A1 T c1,.slice A2 N c2,.slice A3 R c3,.int .i64 st,RowV w6.heap.size (p+1),.slice (some ⟨gb,0,none⟩) (p+1) cb,.slice (some ⟨gh,0,none⟩) (p+1) ch] 134)).mono bb7.size)
    rw [World.size_alloc]at RM
    have XRM:=hide RM;have Xbx:=hide bx;clear RM bx
    go_wp2_with fail
    go_meet
    exact⟨_,rfl,XRM.out,rfl,rfl,hzz,Xbx.out⟩
  case rest=>
   obtain⟨q,rfl,f8,hqT,hqn,hqz,b8⟩:=hcut
   have t8:ROfSt w wc F A1 c1 A2 c2 A3 c3 T N R st G q noBits (fun _=>noBits) (fun _=>noBits):=⟨Xg4.out.below b8,f8,hqz,Xhb4.out.trans (b8.mono Xhb4.out.size)⟩
   have hqnG:q.n=topN G:=by rw [hqn];exact XhnG.out.1
   have hqm:q.m=T+1:=by rw [f8.mT,hqT]
   have hn16:q.n≤4096:=f8.sz.1
   clear f8 b8 q0 q1 q2 q3 Xhb4 Xg4 Xcr Xhmc XhBnew hmk hwp hwT hqz hzz
   have Xt8:=hide t8;have XhqT:=hide hqT;have Xhqn:=hide hqn;have XhqnG:=hide hqnG;have Xhqm:=hide hqm;have Xhn16:=hide hn16;clear t8 hqT hqn hqnG hqm hn16
   go_wp2_with fail
   go_loopw [5] (fun i wr=> ∃k:Nat,k≤T+1∧i= .int .i64 k∧ROfSt w wr F A1 c1 A2 c2 A3 c3 T N R st G q noBits (startB k) (fun _=>noBits)) (fun i _=>T+1 - (intOf i).toNat)
   case atStart=>exact⟨0,Nat.zero_le _,rfl,by rw [startB_zero];exact Xt8.out⟩
   case round=>
    clear Xt8
    obtain⟨k,hk,rfl,t⟩:=hrel
    obtain⟨q0,q1,q2,q3⟩:=t.g.cells
    have tc1:=t.g.tc
    have tc2:=t.g.c1m
    by_cases hlt:k<T+1
    ·have hlt':(k:Int)≤(T:Int):=by omega
     have hkn:k<q.n:=by have:=Xhp.out;have:=Xhqn.out;omega
     have hkn2:(k:Int)<(q.n:Int):=by omega
     have hkm:(k:Int)<(q.m:Int):=by have:=Xhqm.out;omega
     have s5:=t.f.cells.2.2.1
     have hpk:=t.f.bgn.cell k hkn
     obtain⟨⟨⟨d1,d2⟩,d3,d4⟩,-⟩:=t.f.cap
     have hrow:=t.f.bgn.set k hkn
     have hkm':k<q.m:=by omega
     have hce:=hrow.cell hkm'
     have hfr:=hrow.frozen k
     have hset:=hrow.put hkm' true (g:=putSet (T+1) (startB k k) (k:Int)) (fun t=>by have:=can_step (n:=T+1) (e:=startB k k) (li:=k) (by omega) true t;simpa using this)
     have hts:Touch (fun j=>j=q.psb k) wr (wr.setCell ⟨q.psb k,k,none⟩ (.bool true)):=(Touch.refl (fun j=>j=q.psb k) wr).setCell (p:=⟨q.psb k,k,none⟩) (fun _=>rfl) _
     have f9:=t.f.putB hkn hset hts
     have t10:=t.set XhF.out f9 hts (fun j hj=>by have:=(t.f.zs.2.2.2.2 k hkn).1;omega)
     rw [startB_put (by omega)]at t10
     have hm4:(q.m:Int)≤4096:=by have:=t.f.sz.2.1;omega
     clear hrow hset hts f9
     obtain⟨w9,hw9⟩: ∃w9,w9=wr.setCell ⟨q.psb k,k,none⟩ (.bool true):=⟨_,rfl⟩
     rw [←hw9]at t10
     have Xt:=hide t;have Xt10:=hide t10;have Xhw9:=hide hw9;clear t t10 hw9
     go_wp2_with fail
     rw [←Xhw9.out]
     go_roundw
     case rel=>exact⟨k+1,by omega,by go_num,Xt10.out⟩
     case measure=>simp [intOf];omega
    ·have hlt': ¬(k:Int)≤(T:Int):=by omega
     obtain rfl:k=T+1:=by omega
     have t11:=t
     clear hk hlt t
     have hsd:=startB_sound G
     rw [XhT.out]at hsd
     have hbs: ∀t,t≤T→startB (T+1) t t=true:=startB_base
     obtain⟨n0,hn0⟩: ∃n0,n0=measB (topN G) (T+1) noBits (startB (T+1))+1:=⟨_,rfl⟩
     have Xt11:=hide t11;have Xhsd:=hide hsd;have Xhbs:=hide hbs;have Xhn0:=hide hn0;clear t11 hsd hbs hn0
     go_wp2_with fail
     clear q0 q1 q2 q3 tc1 tc2
     go_loopg [6] n0 (fun κ more wr=> ∃(e:Nat→Bool) (bg:Nat→Nat→Bool) (m:Bool),more= .bool m∧ROfSt w wr F A1 c1 A2 c2 A3 c3 T N R st G q e bg (fun _=>noBits)∧SoundB G e bg∧(∀t,t≤T→bg t t=true)∧(m=false→ ∀r∈G.rules,closedB G e bg r)∧(m=true→measB (topN G) (T+1) e bg+1≤κ))
     case atStart=>exact⟨noBits,startB (T+1),true,rfl,Xt11.out,Xhsd.out,Xhbs.out,fun h=>(by cases h),fun _=>Nat.le_of_eq Xhn0.out.symm⟩
     case round=>
      clear Xt11 Xhsd Xhbs Xhn0
      obtain⟨e,bg,m,rfl,t,hsd,hbs,hm1,hm2⟩:=hrel
      cases m with
      |false=>
       have hcl:=hm1 rfl
       clear hm1 hm2
       have hee:e=empB G:=emp_set Xhk.out hsd hcl (by have:=t.f.can.high;rw [XhqnG.out]at this;exact this)
       have hbb: ∀i,i<q.n→begB G i=bg i:=fun i hi=>(beg_set (by rw [XhT.out];exact hbs) hsd hcl (by rw [←XhqnG.out];exact hi)).symm
       have t2:ROfSt w wr F A1 c1 A2 c2 A3 c3 T N R st G q (empB G) (begB G) (fun _=>noBits):=⟨t.g,(hee▸t.f).extB hbb,t.z,t.b⟩
       obtain⟨hs0,hs1⟩:0≤st∧st<topN G:=by have:=Xhk.out.st;rw [isNon_iff]at this;unfold topN;omega
       obtain⟨si,rfl⟩:=Int.eq_ofNat_of_zero_le hs0
       have hsi:si<q.n:=by have:=XhqnG.out;omega
       have hsi2:(si:Int)<(q.n:Int):=by omega
       have t2d:=t2.below ((Below.refl _ wr).drew)
       have s6:=t2.f.cells.2.2.2
       have hp4:=t2.f.bhd.cell si hsi
       have g3:=t2.g.cells.2.2.2
       have hm0:0<q.m:=by have:=Xhqm.out;omega
       have hm02:(0:Int)<(q.m:Int):=by omega
       have hm4:(q.m:Int)≤4096:=by have:=t2.f.sz.2.1;omega
       have hce:=t2.f.bhd.set si hsi|>.cell hm0
       have hcd:=t2d.f.bhd.set si hsi|>.cell hm0
       have hfr:=t2d.f.bhd.set si hsi|>.frozen 0
       have hst:=startH_sound Xhk.out
       rw [Int.toNat_natCast]at hst
       obtain⟨hst1,hst2⟩:=hst
       obtain⟨n1,hn1⟩: ∃n1,n1=unsetF (startH si) (T+1) (topN G)+1:=⟨_,rfl⟩
       have hset:=(t2d.f.bhd.set si hsi).put hm0 true (g:=putSet (T+1) noBits ((0:Nat):Int)) (fun t=>by have:=can_step (n:=T+1) (e:=noBits) (li:=0) (by omega) true t;simpa using this)
       have hts:Touch (fun j=>j=q.psh si) wr.drew (wr.drew.setCell ⟨q.psh si,0,none⟩ (.bool true)):=(Touch.refl (fun j=>j=q.psh si) wr.drew).setCell (p:=⟨q.psh si,0,none⟩) (fun _=>rfl) _
       have f9:=t2d.f.putH hsi hset hts
       have tcc:=t2d.set XhF.out f9 hts (fun j hj=>by have:=(t2d.f.zs.2.2.2.2 si hsi).2;omega)
       rw [show setF (fun _=>noBits) si (putSet (T+1) noBits ((0:Nat):Int))=startH si from startH_put]at tcc
       obtain⟨⟨-,d1,d2⟩,-⟩:=t2.f.cap
       clear hs0 hs1 t hsd hcl hbs hee hbb hset hts f9
       have Xt2:=hide t2;have Xt2d:=hide t2d;have Xhst1:=hide hst1;have Xhst2:=hide hst2;have Xhn1:=hide hn1;have Xtcc:=hide tcc;clear t2 t2d hst1 hst2 hn1 tcc
       go_wp2_with fail
       refine region_tail 9 (by kernel_rfl) (by kernel_rfl) ?_
       simp only [List.take_succ_cons,List.take_zero,List.drop_succ_cons,List.drop_zero]
       repeat still_step
       refine wpStill_nil ?_
       go_wp2_with fail
       clear s6 hp4 g3 hce hcd hfr d1 d2 Xt2 Xt2d
       go_loopg [11] n1 (fun κ more wr=> ∃(bh:Nat→Nat→Bool) (m:Bool),more= .bool m∧ROfSt w wr F A1 c1 A2 c2 A3 c3 T N R (si:Int) G q (empB G) (begB G) bh∧SoundH G (si:Int) bh∧famI (topN G) bh (si:Int) 0=true∧(m=false→ ∀r∈G.rules,closedH G bh r)∧(m=true→unsetF bh (T+1) (topN G)+1≤κ))
       case atStart=>exact⟨startH si,true,rfl,Xtcc.out,Xhst1.out,Xhst2.out,fun h=>(by cases h),fun _=>Nat.le_of_eq Xhn1.out.symm⟩
       case round=>
        clear Xtcc Xhst1 Xhst2 Xhn1
        obtain⟨bh,m,rfl,t,hsd,hbs,hm1,hm2⟩:=hrel
        cases m with
        |false=>
         have hcl:=hm1 rfl
         have hbb: ∀i,i<q.n→behB G (si:Int) i=bh i:=fun i hi=>(beh_set hbs hsd hcl (by rw [←XhqnG.out];exact hi)).symm
         have fin:=Xhyes.out wr q (by first|rfl|trivial) (t.f.extH hbb) (by have:=t.z;omega) t.b
         clear hm1 hm2 hcl hbb
         have Xt:=hide t;have Xhsd:=hide hsd;have Xhbs:=hide hbs;have Xfin:=hide fin;clear t hsd hbs fin
         go_wp2_with fail
         go_ret
         exact Xfin.out
        |true=>
         have hκ:=hm2 rfl
         clear hm1 hm2
         have bp:=HPass.begin (M:=T+1) hsd hbs
         clear hbs
         have Xhsd:=hide hsd;have Xhκ:=hide hκ;have Xt:=hide t;have Xbp:=hide bp;clear hsd hκ t bp
         go_wp2_with fail
         go_loopw [11,12] (fun more i wr=> ∃(j:Nat) (bh':Nat→Nat→Bool) (m:Bool),j≤R∧i= .int .i64 j∧more= .bool m∧ROfSt w wr F A1 c1 A2 c2 A3 c3 T N R (si:Int) G q (empB G) (begB G) bh'∧HPass G (si:Int) (T+1) bh j bh' m) (fun _ i _=>R - (intOf i).toNat)
         case atStart=>exact⟨0,bh,false,Nat.zero_le _,rfl,rfl,Xt.out,Xbp.out⟩
         case round=>
          clear Xt Xhsd Xbp
          obtain⟨j,bh',m,hj,rfl,rfl,t,bp⟩:=hrel
          obtain⟨q0,q1,q2,q3⟩:=t.g.cells
          have r0:=t.g.rs
          have r1:=t.g.rc
          have r2:=t.g.c3m
          by_cases hlt:j<R
          ·obtain⟨bb,off,l,x,A,nx,c,rfl,hbl,hx,h0,h1,hr,hnx,hnc,hcm⟩:=t.g.rule hlt
           have hj':(j:Int)<(R:Int):=by omega
           have hll:=Xhk.out.left (List.mem_of_getElem? hx)
           simp only at hll
           rw [←XhqnG.out]at hll
           have hz:=t.z
           have hxr: ∀y∈x,1≤y∧y<q.n:=fun y hy=>by have:=(Xhk.out.k _ (List.mem_of_getElem? hx)).2 y hy;rw [XhqnG.out];unfold topN;omega
           have cl:=ref11_behind t.f hr (fun k hk=>by have:=XhF.out k hk;omega) hll hxr
           clear hll hnx hz hxr
           have Xcl:=hide cl;have Xhx:=hide hx;have Xt:=hide t;have Xbp:=hide bp;have Xhr:=hide hr;clear cl hx t bp hr
           go_wp2_with fail
           with_reducible refine Xcl.out.mono ?_
           rintro ee wb ⟨bh2,m2,rfl,fb2,hst,tb⟩
           have tb2:=Xt.out.set XhF.out fb2 tb (fun k hk=>by obtain⟨i,hi,rfl⟩:=hk;exact(Xt.out.f.zs.2.2.2.2 i hi).2)
           rw [XhqnG.out,Xhqm.out]at hst
           have bs:=Xbp.out.step Xhk.out Xhx.out hst
           clear h0 h1 tb hst fb2 Xcl Xt Xhr q0 q1 q2 q3
           cases m2
           all_goals
            simp only [Bool.or_true,Bool.or_false]at bs
            have Xbs:=hide bs;have Xtb2:=hide tb2;clear bs tb2
            go_wp2_with fail
            go_roundw
            case rel=>exact⟨j+1,_,_,by omega,by go_num,rfl,Xtb2.out,Xbs.out⟩
            case measure=>simp [intOf];omega
          ·obtain rfl:j=R:=by omega
           have hlt': ¬(j:Int)<(j:Int):=by omega
           clear hj hlt
           cases m with
           |false=>
            have hcl:=bp.closed XhR.out.symm
            have hsd2:=bp.sound
            have hbs2:=bp.start
            have Xt:=hide t;have Xhcl:=hide hcl;have Xhsd2:=hide hsd2;have Xhbs2:=hide hbs2;have Xbp:=hide bp;clear t hcl hsd2 hbs2 bp
            go_wp2_with fail
            go_roundg 0
            case measure=>have:=Xhκ.out;omega
            case rel=>exact⟨bh',false,rfl,Xt.out,Xhsd2.out,Xhbs2.out,fun _=>Xhcl.out,fun h=>(by cases h)⟩
           |true=>
            have hu:=bp.grow rfl
            have hsd2:=bp.sound
            have hbs2:=bp.start
            have hm:unsetF bh' (T+1) (topN G)+1<gk:=by have:=Xhκ.out;omega
            have Xt:=hide t;have Xhsd2:=hide hsd2;have Xhbs2:=hide hbs2;have Xbp:=hide bp;have Xhu:=hide hu;have Xhm:=hide hm;clear t hsd2 hbs2 bp hu hm
            go_wp2_with fail
            go_roundg (unsetF bh' (T+1) (topN G)+1)
            case measure=>exact Xhm.out
            case rel=>exact⟨bh',true,rfl,Xt.out,Xhsd2.out,Xhbs2.out,fun h=>(by cases h),fun _=>Nat.le_refl _⟩
      |true=>
       have hκ:=hm2 rfl
       clear hm1 hm2
       have bp:=BPass.start (M:=T+1) hsd (by rw [XhT.out];exact hbs)
       clear hbs
       have Xhsd:=hide hsd;have Xhκ:=hide hκ;have Xt:=hide t;have Xbp:=hide bp;clear hsd hκ t bp
       go_wp2_with fail
       go_loopw [6,7] (fun more i wr=> ∃(j:Nat) (e':Nat→Bool) (bg':Nat→Nat→Bool) (m:Bool),j≤R∧i= .int .i64 j∧more= .bool m∧ROfSt w wr F A1 c1 A2 c2 A3 c3 T N R st G q e' bg' (fun _=>noBits)∧BPass G (T+1) e bg j e' bg' m) (fun _ i _=>R - (intOf i).toNat)
       case atStart=>exact⟨0,e,bg,false,Nat.zero_le _,rfl,rfl,Xt.out,Xbp.out⟩
       case round=>
        clear Xt Xhsd Xbp
        obtain⟨j,e',bg',m,hj,rfl,rfl,t,bp⟩:=hrel
        obtain⟨q0,q1,q2,q3⟩:=t.g.cells
        have r0:=t.g.rs
        have r1:=t.g.rc
        have r2:=t.g.c3m
        by_cases hlt:j<R
        ·obtain⟨bb,off,l,x,A,nx,c,rfl,hbl,hx,h0,h1,hr,hnx,hnc,hcm⟩:=t.g.rule hlt
         have hj':(j:Int)<(R:Int):=by omega
         have hll:=Xhk.out.left (List.mem_of_getElem? hx)
         simp only at hll
         obtain⟨li,rfl⟩:=Int.eq_ofNat_of_zero_le hll.1
         have hli:li<q.n:=by have:=XhqnG.out;omega
         have hli2:(li:Int)<(q.n:Int):=by omega
         have cb:=ref11_begins t.f hr t.g.gram.lt
         obtain⟨g,hg⟩: ∃g,g=lineB (hasI q.n e') (famI q.n bg') x:=⟨_,rfl⟩
         obtain⟨f,hf⟩: ∃f,f=joinL (bg' li) (hasI q.n e') (famI q.n bg') x:=⟨_,rfl⟩
         have hfg:f=fun t=>bg' li t||g t:=by rw [hf,hg];rfl
         obtain⟨m1,hm1⟩: ∃m1,m1=moreB q.m (bg' li) f:=⟨_,rfl⟩
         obtain⟨al,hal⟩: ∃al,al=x.all (hasI q.n e'):=⟨_,rfl⟩
         rw [←hg,←hal]at cb
         have bs:=bp.step Xhk.out hx (by have:=t.f.hiB;rw [XhqnG.out,Xhqm.out]at this;exact this)
         simp only [Int.toNat_natCast]at bs
         have e2:stepB G e' bg' ((li:Int),x)=setF bg' li f:=by rw [hf,XhqnG.out];rfl
         have e1:stepE G e' ((li:Int),x)=if al then putSet q.n e' (li:Int)else e':=by rw [hal,XhqnG.out];rfl
         rw [e1,e2,←XhqnG.out,←hal,←hf,←Xhqm.out,←hm1,putAns_nat hli]at bs
         rw [Xhqm.out]at bs
         have hbl2:=t.g.gram.lt
         obtain⟨wz,hwz⟩: ∃wz,wz=wr:=⟨_,rfl⟩
         clear hll hnx e1 e2
         have Xcb:=hide cb;have Xhf:=hide hf;have Xhm1:=hide hm1;have Xhal:=hide hal;have Xhg:=hide hg;have Xhfg:=hide hfg;have Xbs:=hide bs;have Xhx:=hide hx;have Xt:=hide t;have Xbp:=hide bp;have Xhwz:=hide hwz;have Xhr:=hide hr;clear cb hf hm1 hal hg hfg bs hx t bp hwz hr
         go_wp2_with fail
         refine Xcb.out.mono ?_
         rintro ee w5 ⟨b,rfl,hs5,hbge,b5⟩
         have t5:=Xt.out.below b5
         have h05:=(b5.cell (p:=⟨bb,off+j * 2,none⟩) hbl).trans h0
         obtain⟨q0',q1',q2',q3'⟩:=t5.g.cells
         have s5:=t5.f.cells.2.2.1
         have s4:=t5.f.cells.2.1
         have hpl:=t5.f.bgn.cell li hli
         obtain⟨⟨⟨d1,d2⟩,d3,d4⟩,-⟩:=t5.f.cap
         have cp:=ref11_put (t5.f.bgn.set li hli) hs5 t5.f.sz.2.1 (fun e=>by have:=(t5.f.hi.2.2.2 li hli).1;have:=Xt.out.f.blk.lt;omega)
         rw [←Xhfg.out]at cp
         unfold RowPutPost at cp
         rw [←Xhm1.out]at cp
         clear q0 q1 q2 q3 h0 h1 Xcb hbge hs5 b5
         have Xt5:=hide t5;have Xcp:=hide cp;clear t5 cp
         go_wp2_with fail
         refine Xcp.out.mono ?_
         rintro ee w6 ⟨rfl,hs6,t6⟩
         have f6:=Xt5.out.f.putB hli hs6 t6
         have t66:=Xt5.out.set XhF.out f6 t6 (fun j hj=>by have:=(Xt5.out.f.zs.2.2.2.2 li hli).1;omega)
         have t6d:=t66.below ((Below.refl _ w6).drew)
         have s46:=t66.f.cells.2.1
         have hce:=t66.f.can.cell hli
         have hcd:=t6d.f.can.cell hli
         have hfr:=t6d.f.can.frozen li
         have hset:=t6d.f.can.put hli (e' li||al) (can_step hli al)
         have hts:Touch (fun j=>j=q.gi) w6.drew (w6.drew.setCell ⟨q.gi,li,none⟩ (.bool (e' li||al))):=(Touch.refl (fun j=>j=q.gi) w6.drew).setCell (p:=⟨q.gi,li,none⟩) (fun _=>rfl) _
         have f7:=t6d.f.putE hset hts
         have t7:=t6d.set XhF.out f7 hts (fun j hj=>by have:=t6d.f.zs.2.1;omega)
         have bs2:=Xbs.out
         have hn4:(q.n:Int)≤9223372036854775807:=by have:=Xhn16.out;omega
         clear h05 q0' q1' q2' q3' s5 s4 hpl d1 d2 d3 d4 hs6 t6 f6 hset hts f7 Xcp Xt5 Xbs
         cases hel:e' li
         all_goals
          rw [hel]at hce hcd t7 bs2
          cases al
          all_goals
           simp only [Bool.false_eq_true,if_false,if_true,Bool.or_false,Bool.or_true]at t7
           cases m1
           all_goals
            simp only [Bool.false_eq_true,if_false,if_true,Bool.and_false,Bool.and_true,Bool.not_true,Bool.not_false,Bool.or_false,Bool.or_true]at bs2
            have Xt66:=hide t66;have Xt6d:=hide t6d;have Xt7:=hide t7;have Xbs2:=hide bs2;have Xhel:=hide hel;clear t66 t6d t7 bs2 hel
            go_wp2_with fail
            refine region_tail 16 (by kernel_rfl) (by kernel_rfl) ?_
            simp only [List.take_succ_cons,List.take_zero,List.drop_succ_cons,List.drop_zero]
            repeat still_step
            refine wpStill_nil ?_
            go_wp2_with fail
            go_roundw
            case rel=>exact⟨j+1,_,_,_,by omega,by go_num,rfl,Xt7.out,Xbs2.out⟩
            case measure=>simp [intOf];omega
        ·obtain rfl:j=R:=by omega
         have hlt': ¬(j:Int)<(j:Int):=by omega
         clear hj hlt
         cases m with
         |false=>
          have hcl:=bp.closed XhR.out.symm
          have hsd2:=bp.sound
          have hbs2:=bp.base
          rw [XhT.out]at hbs2
          have Xt:=hide t;have Xhcl:=hide hcl;have Xhsd2:=hide hsd2;have Xhbs2:=hide hbs2;have Xbp:=hide bp;clear t hcl hsd2 hbs2 bp
          go_wp2_with fail
          go_roundg 0
          case measure=>have:=Xhκ.out;omega
          case rel=>exact⟨e',bg',false,rfl,Xt.out,Xhsd2.out,Xhbs2.out,fun _=>Xhcl.out,fun h=>(by cases h)⟩
         |true=>
          have hu:=bp.grow rfl
          have hsd2:=bp.sound
          have hbs2:=bp.base
          rw [XhT.out]at hbs2
          have hm:measB (topN G) (T+1) e' bg'+1<gk:=by have:=Xhκ.out;omega
          have Xt:=hide t;have Xhsd2:=hide hsd2;have Xhbs2:=hide hbs2;have Xbp:=hide bp;have Xhu:=hide hu;have Xhm:=hide hm;clear t hsd2 hbs2 bp hu hm
          go_wp2_with fail
          go_roundg (measB (topN G) (T+1) e' bg'+1)
          case measure=>exact Xhm.out
          case rel=>exact⟨e',bg',true,rfl,Xt.out,Xhsd2.out,Xhbs2.out,fun h=>(by cases h),fun _=>Nat.le_refl _⟩
end Go.Proofs.YtlpokomfljmogaaGreat
namespace Go.Proofs.YtlpokomfljmogaaGreat
set_option linter.unusedVariables false
open Go.RowKit
attribute [local irreducible] wpStill wpOne wpPh
set_option maxRecDepth 100000 in
set_option maxHeartbeats 2000000 in
theorem ref11_follow {w:World} {q:RD} {G:GramD} {e:Nat→Bool} {bg bh:Nat→Nat→Bool} (h:RSets w q G e bg bh) (x:Int):Calls Tryz.prog 50 #[PtrV q.s,.int .i64 x] w (IntsPost w (folL q.T (topOf G) q.n bh x)):=by
 have ci:=ref11_in h x
 have cn:=ref_non h.gram q.st x
 have hnb:nonB q.T (topOf G) x=isNon G x:=by rw [h.nG.2];rfl
 rw [←hnb]at cn
 by_cases hin:0≤x∧x<(q.n:Int)
 ·have hsy:(decide (0≤x)&&decide (x<(q.n:Int)))=true:=by rw [decide_eq_true hin.1,decide_eq_true hin.2];rfl
  rw [hsy]at ci
  obtain⟨i,rfl⟩:=Int.eq_ofNat_of_zero_le hin.1
  have hi2:=hin.2
  have hi:i<q.n:=by omega
  obtain⟨⟨s0,s1,s2,s3⟩,-⟩:=h.cells
  have hmT:=h.mT
  cases hnon:nonB q.T (topOf G) (i:Int)with
  |true=>
   rw [hnon]at cn
   have hyes:folL q.T (topOf G) q.n bh (i:Int)=(below (bh i) q.m).map (fun n:Nat=>(n:Int)):=by unfold folL;rw [if_pos hnon,Int.toNat_natCast,hmT]
   clear hsy hin hnon hnb hmT
   have Xci:=hide ci;have Xh:=hide h;have Xcn:=hide cn;clear ci h cn
   go_enter Tryz.func50,Tryz.ntmps50
   go_wp2_with fail
   refine Xci.out.mono ?_
   rintro ee w2 ⟨rfl,rfl⟩
   go_wp2_with fail
   with_reducible refine Xcn.out.mono ?_
   rintro ee w2 ⟨rfl,b2⟩
   have h:=Xh.out.below b2
   clear s0 s1 s2 s3
   obtain⟨-,s4,s5,s6⟩:=h.cells
   have hp:=h.bhd.cell i hi
   have cl:=ref11_list (h.bhd.set i hi) h.sz.2.1
   obtain⟨⟨⟨d1,d2⟩,d3,d4⟩,-⟩:=h.cap
   clear h
   have Xcl:=hide cl;have Xhyes:=hide hyes;clear cl hyes
   go_wp2_with fail
   refine Xcl.out.mono ?_
   rintro ee w3 hl
   have hl2:=IntsPost.of_list hl b2
   rw [←Xhyes.out]at hl2
   obtain⟨A,c,rfl,-,-⟩:=id hl
   clear hl
   have Xhl2:=hide hl2;clear hl2
   go_wp2_with fail
   go_ret
   exact Xhl2.out
  |false=>
   rw [hnon]at cn
   have fin: ∀w2,Below w.heap.size w w2→IntsPost w (folL q.T (topOf G) q.n bh (i:Int)) (.returned (.slice none 0 0)) w2:=fun w2 b=>by unfold folL;rw [hnon];exact IntsPost.nil b
   clear hsy hin hnon hnb hmT h
   have Xci:=hide ci;have Xcn:=hide cn;have Xfin:=hide fin;clear ci cn fin
   go_enter Tryz.func50,Tryz.ntmps50
   go_wp2_with fail
   refine Xci.out.mono ?_
   rintro ee w2 ⟨rfl,rfl⟩
   go_wp2_with fail
   with_reducible refine Xcn.out.mono ?_
   rintro ee w2 ⟨rfl,b2⟩
   have fin2:=Xfin.out w2 b2
   clear b2
   have Xfin2:=hide fin2;clear fin2
   go_wp2_with fail
   go_ret
   exact Xfin2.out
 ·have hsy:(decide (0≤x)&&decide (x<(q.n:Int)))=false:=by
   rw [Bool.and_eq_false_iff,decide_eq_false_iff_not,decide_eq_false_iff_not];omega
  rw [hsy]at ci
  have hno:folL q.T (topOf G) q.n bh x=[]:=by
   unfold folL
   rw [if_neg]
   unfold nonB
   have:=h.nG.1
   simp only [Bool.and_eq_true,decide_eq_true_eq]
   unfold topN at this
   unfold topOf
   omega
  have fin:IntsPost w (folL q.T (topOf G) q.n bh x) (.returned (.slice none 0 0)) w:=by rw [hno];exact IntsPost.nil (Below.refl _ _)
  clear h hsy hin hnb cn
  have Xci:=hide ci;have Xhno:=hide hno;have Xfin:=hide fin;clear ci hno fin
  go_enter Tryz.func50,Tryz.ntmps50
  go_wp2_with fail
  refine Xci.out.mono ?_
  rintro ee w2 ⟨rfl,rfl⟩
  go_wp2_with fail
  go_ret
  exact Xfin.out
def eT (j:Nat):Bool:=decide (j=4)
def hT (i t:Nat):Bool:=decide (i=3∧t=0)||decide (i=4∧t=1)
end Go.Proofs.YtlpokomfljmogaaGreat
namespace Go.Proofs.YtlpokomfljmogaaGreat
set_option linter.unusedVariables false
set_option linter.unusedSimpArgs false
open Go.RowKit
attribute [local irreducible] wpStill wpOne wpPh
def within11 (a b:List Int):Bool:=a.all fun x=>decide (x∈b)
theorem within11_no {a b:List Int} {k:Nat} {x:Int} (h:a[k]? =some x) (hn:x∉b):within11 a b=false:=by
 unfold within11
 rw [List.all_eq_false]
 exact⟨x,List.mem_of_getElem? h,by simpa using hn⟩
theorem within11_yes {a b:List Int} (h: ∀(j:Nat) (x:Int),a[j]? =some x→x∈b):within11 a b=true:=by
 unfold within11
 rw [List.all_eq_true]
 intro x hx
 obtain⟨j,hj,e⟩:=List.getElem_of_mem hx
 exact decide_eq_true (h j x (by rw [List.getElem?_eq_getElem hj,e]))
set_option maxRecDepth 100000 in
set_option maxHeartbeats 2000000 in
theorem law14_within {w:World} {F G:Nat→Prop} {v u:Value} {xs ys:List Int} (h:RdI w F v xs) (g:RdI w G u ys):
  Calls Tryz.prog 49 #[v,u] w (Quiet w (.bool (within11 xs ys))):=by
 obtain⟨A,n,c,rfl,-⟩:=id h
 obtain⟨B,m,d,rfl,-⟩:=id g
 obtain⟨hn,hnc,hcm,hcell⟩:=h.at_
 obtain⟨hm,hmd,hdm,hcell'⟩:=g.at_
 unfold maxLen at hcm hdm
 clear h g
 have Xhn:=hide hn;have Xhm:=hide hm;clear hn hm
 go_enter Tryz.func49,Tryz.ntmps49
 go_wp2_with fail
 go_loopw [5] (fun i wr=> ∃k q:Nat,k≤n∧i= .int .i64 k∧(∀(j:Nat) (x:Int),j<k→xs[j]? =some x→x∈ys)∧wr=w.drewN q) (fun i _=>n - (intOf i).toNat)
 case atStart=>exact⟨0,0,Nat.zero_le _,rfl,fun j x hj=>absurd hj (by omega),rfl⟩
 case round=>
  obtain⟨k,q,hk,rfl,hb,rfl⟩:=hrel
  by_cases hlt:k<n
  ·have hlt':(k:Int)<(n:Int):=by omega
   obtain⟨b,off,rfl,-,hc1⟩:=hcell (by omega)
   obtain⟨x,hx⟩: ∃x,xs[k]? =some x:=⟨_,List.getElem?_eq_getElem (by rw [←Xhn.out];exact hlt)⟩
   have hcx:=hc1 k x hx
   have Xhb:=hide hb;have Xhx:=hide hx;clear hb hx;clear hc1 hcell
   go_wp2_with fail
   go_loopw [6,7] (fun th i wr=> ∃(p q':Nat) (t:Bool),p≤m∧i= .int .i64 p∧th= .bool t∧(t=true→x∈ys)∧(t=false→ ∀(j:Nat) (y:Int),j<p→ys[j]? =some y→y≠x)∧wr=w.drewN q') (fun _ i _=>m - (intOf i).toNat)
   case atStart=>exact⟨0,q,false,Nat.zero_le _,rfl,rfl,fun h=>(by cases h),fun _ j y hj=>absurd hj (by omega),rfl⟩
   case round=>
    obtain⟨p,q',t,hp,rfl,rfl,ht1,ht2,rfl⟩:=hrel
    by_cases hpm:p<m
    ·have hpm':(p:Int)<(m:Int):=by omega
     obtain⟨b',off',rfl,-,hc2⟩:=hcell' (by omega)
     obtain⟨y,hy⟩: ∃y,ys[p]? =some y:=⟨_,List.getElem?_eq_getElem (by rw [←Xhm.out];exact hpm)⟩
     have hcy:=hc2 p y hy
     clear hc2 hcell'
     cases t with
     |true=>
      have hin:=ht1 rfl
      have Xhy:=hide hy;have Xhin:=hide hin;have Xht1:=hide ht1;have Xht2:=hide ht2;clear hy hin ht1 ht2
      go_wp2_with fail
      refine region_reads (by kernel_rfl) (by kernel_rfl) ?_
      repeat still_step
      refine wpStill_nil ?_
      go_wp2_with fail
      go_roundw
      case rel=>exact⟨p+1,q'+1,true,by omega,by go_num,rfl,fun _=>Xhin.out,fun h=>(by cases h),rfl⟩
      case measure=>simp [intOf];omega
     |false=>
      have hno:=ht2 rfl
      by_cases he:x=y
      ·have heq:(x==y)=true:=by simpa using he
       have hin:x∈ys:=by rw [he];exact List.mem_of_getElem? hy
       have Xhy:=hide hy;have Xhno:=hide hno;have Xhe:=hide he;have Xht1:=hide ht1;have Xht2:=hide ht2;have Xhin:=hide hin;clear hy hno he ht1 ht2 hin
       go_wp2_with fail
       refine region_reads (by kernel_rfl) (by kernel_rfl) ?_
       repeat still_step
       refine wpStill_nil ?_
       go_wp2_with fail
       go_roundw
       case rel=>exact⟨p+1,q'+1,true,by omega,by go_num,rfl,fun _=>Xhin.out,fun h=>(by cases h),rfl⟩
       case measure=>simp [intOf];omega
      ·have heq:(x==y)=false:=by simpa using he
       have hno2: ∀(j:Nat) (z:Int),j<p+1→ys[j]? =some z→z≠x:=fun j z hj hz=>by
        by_cases e:j=p
        ·subst e;rw [hy]at hz;injection hz with hz;rw [←hz];exact fun h=>he h.symm
        ·exact hno j z (by omega) hz
       have Xhy:=hide hy;have Xhno:=hide hno;have Xhe:=hide he;have Xht1:=hide ht1;have Xht2:=hide ht2;have Xhno2:=hide hno2;clear hy hno he ht1 ht2 hno2
       go_wp2_with fail
       refine region_reads (by kernel_rfl) (by kernel_rfl) ?_
       repeat still_step
       refine wpStill_nil ?_
       go_wp2_with fail
       go_roundw
       case rel=>exact⟨p+1,q'+1,false,by omega,by go_num,rfl,fun h=>(by cases h),fun _=>Xhno2.out,rfl⟩
       case measure=>simp [intOf];omega
    ·have hpe:p=m:=by omega
     have hpm': ¬(p:Int)<(m:Int):=by omega
     cases t with
     |true=>
      have hb2: ∀(j:Nat) (z:Int),j<k+1→xs[j]? =some z→z∈ys:=fun j z hj hz=>by
       by_cases e:j=k
       ·subst e;rw [Xhx.out]at hz;injection hz with hz;rw [←hz];exact ht1 rfl
       ·exact Xhb.out j z (by omega) hz
      have Xht1:=hide ht1;have Xht2:=hide ht2;have Xhb2:=hide hb2;clear ht1 ht2 hb2;clear hcell'
      go_wp2_with fail
      go_roundw
      case rel=>exact⟨k+1,q',by omega,by go_num,Xhb2.out,rfl⟩
      case measure=>simp [intOf];omega
     |false=>
      have fin:=within11_no (b:=ys) Xhx.out fun hin=>by
       obtain⟨j,hj,e⟩:=List.getElem_of_mem hin
       exact ht2 rfl j x (by have:=Xhm.out;omega) (by rw [List.getElem?_eq_getElem hj,e]) rfl
      have Xht1:=hide ht1;have Xht2:=hide ht2;have Xfin:=hide fin;clear ht1 ht2 fin;clear hcell'
      go_wp2_with fail
      go_ret
      exact⟨ret_bool Xfin.out.symm,below_drewN (Below.refl _ w) q'⟩
  ·have hlt': ¬(k:Int)<(n:Int):=by omega
   have fin:=within11_yes fun j x hx=>hb j x (by have:=(List.getElem?_eq_some_iff.1 hx).1;have:=Xhn.out;omega) hx
   have Xhb:=hide hb;have Xfin:=hide fin;clear hb fin;clear hcell hcell'
   go_wp2_with fail
   go_ret
   exact⟨ret_bool Xfin.out.symm,below_drewN (Below.refl _ w) q⟩
theorem within11_iff {a b:List Int}:within11 a b=true↔ ∀x∈a,x∈b:=by
 unfold within11
 rw [List.all_eq_true]
 exact⟨fun h x hx=>of_decide_eq_true (h x hx),fun h x hx=>decide_eq_true (h x hx)⟩
theorem mem_folL {T p n:Nat} {F:Nat→Nat→Bool} {x y:Int}:y∈folL T p n F x↔nonB T p x=true∧hasI (T+1) (F x.toNat) y=true:=by
 unfold folL
 split
 ·rename_i h;rw [mem_below];exact⟨fun hh=>⟨h,hh⟩,fun hh=>hh.2⟩
 ·rename_i h;exact⟨fun hh=>(by cases hh),fun hh=>absurd hh.1 h⟩
theorem hasI_iff {n:Nat} {f:Nat→Bool} {y:Int}:hasI n f y=true↔(0≤y∧y<n)∧f y.toNat=true:=by
 unfold hasI;simp [and_assoc]
noncomputable def followG (G:GramD) (st x:Int):List Int:=folL G.terms.length (topOf G) (topN G) (behB G st) x
theorem below_zero: ∀m:Nat,below (fun t=>decide (t=0)) (m+1)=[0]
 |0=>rfl
 |m+1=>by
  have h:=below_zero m
  unfold below at h⊢
  rw [List.range_succ,List.filter_append,h]
  simp
theorem lks_mem {G:GramD} {st:Int} {D:Sts0} {i:Nat} {e:List It×List It} {x:Lk} (h:x∈lksD G st D i e): ∃k:Nat,k≤G.rules.length∧x.1=(k:Int)∧Cl G st e.1 ((k:Int),lnI G st k)∧x.2=tmsOf (G.terms.length+1) (fun t=>toB (LA G st D i ((k:Int),lnI G st k) t)):=by
 unfold lksD at h
 obtain⟨k,hk,hx⟩:=List.mem_filterMap.1 h
 split at hx
 ·rename_i hc
  injection hx with hx
  rw [←hx]
  exact⟨k,by have:=List.mem_range.1 hk;omega,rfl,toB_iff.1 hc,rfl⟩
 ·cases hx
theorem own_la {G:GramD} {st:Int} {L T:List (List It)} (hb:Bld G st L.length L T) (hK:KnA G st) {i:Nat} {e:List It×List It} (he:(stD L T)[i]? =some e) (hc:Cl G st e.1 ((G.rules.length:Int),1)):LA G st (stD L T) i ((G.rules.length:Int),1) 0:=by
 have hA:=IsAuto.of_bld hb hK
 have f:=hb.f
 have kern: ∀{l:List It} {d:Int},(∀x∈l,rightI G st x=true)→Cl G st l ((G.rules.length:Int),d)→((G.rules.length:Int),d)∈l:=fun{l d} hr hc=>by
  rcases(cl_iff hK.toKnI hr _).1 hc with hx|⟨x,-,n,m,k',-,-,-,hk',e1⟩
  ·exact hx
  ·injection e1 with e1 _
   have:=new_low hk'
   omega
 have he':=he
 rw [stD_get]at he'
 obtain⟨k,hk,rfl⟩:=Option.map_eq_some_iff.1 he'
 have hil:=(List.getElem?_eq_some_iff.1 hk).1
 have hin:=kern (fun x hx=>(hA.kern i _ x he hx).1) hc
 have h0:0<i:=by
  apply Nat.pos_of_ne_zero
  intro e0
  subst e0
  rw [f.first]at hk
  injection hk with hk
  have hin:((G.rules.length:Int),(1:Int))∈k:=hin
  rw [←hk,List.mem_singleton]at hin
  injection hin with _ hin
  cases hin
 obtain⟨j,t,s,hji,hj,hT,hs⟩:=f.early i h0 hil
 obtain⟨kj,hkj⟩: ∃kj,L[j]? =some kj:=⟨_,List.getElem?_eq_getElem (by omega)⟩
 obtain⟨-,-,-,-,h5⟩:=f.mem j t kj hT hkj s _ hs
 rw [Int.toNat_natCast,hk]at h5
 injection h5 with h5
 have hin:((G.rules.length:Int),(1:Int))∈k:=hin
 rw [h5]at hin
 obtain⟨x',h6,h7,h8⟩:=((nx_is G st kj s).2 _).1 hin
 injection h8 with h8 h9
 have hx':x'=((G.rules.length:Int),0):=by
  obtain⟨a,b⟩:=x'
  simp only at h8 h9
  rw [←h8]
  have:b=0:=by omega
  rw [this]
 rw [hx']at h6 h7
 have hDj:(stD L T)[j]? =some (kj,t):=by rw [stD_get,hkj,hT];rfl
 have h10:=kern (fun x hx=>(hA.kern j _ x hDj hx).1) h6
 have hj0:j=0:=by
  have h11:kj=[((G.rules.length:Int),0)]:=by
   rcases f.kind kj (List.mem_of_getElem? hkj)with h|⟨q,s',h,-⟩
   ·exact h
   ·rw [h]at h10
    obtain⟨y,-,h12,h13⟩:=((nx_is G st q s').2 _).1 h10
    injection h13 with _ h13
    have:=(step_right h12).2
    omega
  rw [h11]at hkj
  exact nodup_get f.nodup hkj f.first
 subst hj0
 have hg:gotoD (stD L T) 0 s=(i:Int):=by
  have:=gotoD_in (s:=s) hDj
  rw [way_mem (f.sort t (List.mem_of_getElem? hT)) hs]at this
  exact this
 exact LA.step 0 i _ s 0 LA.start h7 hg
theorem lks_own {G:GramD} {st:Int} {L T:List (List It)} (hb:Bld G st L.length L T) (hK:KnA G st) {i:Nat} {e:List It×List It} (he:(stD L T)[i]? =some e) {x:Lk} (h:x∈lksD G st (stD L T) i e) (hx:x.1=(G.rules.length:Int)):x.2=[0]:=by
 obtain⟨k,hk,h1,h2,h3⟩:=lks_mem h
 have hk2:k=G.rules.length:=by omega
 subst hk2
 have hl:lnI G st (G.rules.length:Int)=1:=by
  unfold lnI rgt ruleOf
  rw [if_neg (by omega),if_pos rfl];rfl
 rw [hl]at h2 h3
 have hla:=own_la hb hK he h2
 have:(fun t=>toB (LA G st (stD L T) i ((G.rules.length:Int),1) t))=fun t=>decide (t=0):=funext fun t=>bool_of (toB_iff.trans ⟨fun h=>decide_eq_true ((la_follow hK h).2.1 rfl),fun h=>by rw [of_decide_eq_true h];exact hla⟩)
 rw [h3,this]
 unfold tmsOf
 rw [below_zero];rfl
theorem lks_within {G:GramD} {st:Int} (hc:checkOf G st=0) {D:Sts0} {i:Nat} {e:List It×List It} {x:Lk} (h:x∈lksD G st D i e) {k:Nat} {r:Int×List Int} (hx:x.1=(k:Int)) (hr:G.rules[k]? =some r):within11 x.2 (followG G st r.1)=true:=by
 have hK:=KnA.of_check hc
 have hk:=Kn.of_check hc
 obtain⟨k',hk',h1,h2,h3⟩:=lks_mem h
 have:k'=k:=by omega
 subst this
 rw [within11_iff]
 intro y hy
 rw [h3]at hy
 unfold tmsOf below at hy
 obtain⟨t,ht,rfl⟩:=List.mem_map.1 hy
 have hla:=toB_iff.1 (List.mem_filter.1 ht).2
 have hb:=(la_follow hK hla).2.2 k' r rfl hr
 have htl:=List.mem_range.1 (List.mem_filter.1 ht).1
 unfold followG
 rw [mem_folL,hasI_iff]
 have hmr:=List.mem_of_getElem? hr
 have hl:=hk.left hmr
 exact⟨(hk.k r hmr).1,⟨by omega,by omega⟩,(famI_in ((fam_beh hl.1 hl.2).2 (by rw [Int.toNat_natCast];exact hb))).2.2⟩
end Go.Proofs.YtlpokomfljmogaaGreat
namespace Go.Proofs.YtlpokomfljmogaaGreat
set_option linter.unusedVariables false
set_option linter.unusedSimpArgs false
open Go.RowKit
attribute [local irreducible] wpStill wpOne wpPh
set_option maxRecDepth 100000 in
set_option maxHeartbeats 8000000 in
theorem walk_LookFollows (C:Array Value) (G:GramD) (w:World) (hg:GramCells w C.toList G):
  Calls Tryz.prog 10 #[.agg C] w (Quiet w (.bool true)):=by
 obtain⟨vt,vn,vr,hC,hg,-⟩:=hg
 obtain rfl:C= #[vt,vn,vr,.int .i64 G.start]:=Array.toList_inj.1 hC
 clear hC
 generalize G.start=st at *
 obtain⟨A1,c1,A2,c2,A3,c3,rfl,rfl,rfl,-⟩:=hg.slices
 obtain⟨w1,hw1⟩: ∃w1,w1=w.alloc (.cells #[.slice A1 G.terms.length c1,.slice A2 G.nons.length c2,.slice A3 G.rules.length c3,.int .i64 st] 25):=⟨_,rfl⟩
 have g1:=GBox.new hg st
 have b1:Below w.heap.size w w1:=by rw [hw1];exact(Below.refl _ w).alloc (Nat.le_refl _) _
 rw [←hw1]at g1
 have hm:=law_much g1.gram st
 have cb:=fun wr (g:GBox wr (· <w.heap.size) w.heap.size A1 c1 A2 c2 A3 c3 G.terms.length G.nons.length G.rules.length st G)=>look_Of g.gram g.gram.lt st
 have cf:=fun wr (g:GBox wr (· <w.heap.size) w.heap.size A1 c1 A2 c2 A3 c3 G.terms.length G.nons.length G.rules.length st G)=>ref11_Of g.gram st
 have cr:=fun wr (g:GBox wr (· <w.heap.size) w.heap.size A1 c1 A2 c2 A3 c3 G.terms.length G.nons.length G.rules.length st G) k=>ref_rule g.gram st k
 obtain⟨q0,q1,q2,q3⟩:=g1.cells
 generalize hT:G.terms.length=T at *
 generalize hN:G.nons.length=N at *
 generalize hR:G.rules.length=R at *
 obtain⟨F,hF⟩: ∃F:Nat→Prop,F=fun b=>b<w.heap.size:=⟨_,rfl⟩
 rw [←hF]at g1 cb cf cr
 rw [hw1]at q0 q1 q2 q3 hm
 clear hg hF
 have Xhm:=hide hm;have Xcb:=hide cb;have Xcf:=hide cf;have Xcr:=hide cr;have Xg1:=hide g1;have Xb1:=hide b1;have XhT:=hide hT;have XhN:=hide hN;have XhR:=hide hR;clear hm cb cf cr g1 b1 hT hN hR
 go_enter Tryz.func10,Tryz.ntmps10
 go_wp2_with fail
 refine Xhm.out.mono ?_
 rintro e w2 ⟨r,hr,rfl,b2⟩
 rw [←hw1]at b2
 have g2:=Xg1.out.below b2
 have bb2:=Xb1.out.trans (b2.mono Xb1.out.size)
 clear q0 q1 q2 q3 hw1 Xhm Xg1 Xb1 b2 hr
 by_cases hbig:60<r
 ·have Xbb2:=hide bb2
  have Xg2:=hide g2;clear bb2 g2
  go_wp2_with fail
  refine(law14_awake _).mono ?_
  rintro e w3 ⟨rfl,b3⟩
  have bb3:=Xbb2.out.trans (b3.mono Xbb2.out.size)
  clear b3
  have Xbb3:=hide bb3;clear bb3
  go_wp2_with fail
  go_ret
  exact⟨rfl,Xbb3.out⟩
 ·have c2':=Xcb.out _ g2
  obtain⟨q0,q1,q2,q3⟩:=g2.cells
  have Xbb2:=hide bb2;have Xg2:=hide g2;have Xc2':=hide c2';clear bb2 g2 c2'
  go_wp2_with fail
  refine Xc2'.out.mono ?_
  rintro e w3 hp
  obtain⟨b3,Aa,na,ca,ev,D,rfl,hai,rd3⟩:=hp
  have g3:=Xg2.out.below b3
  have bb3:=Xbb2.out.trans (b3.mono Xbb2.out.size)
  have rd3:=rd3.mono (F':=fun b=>b<w3.heap.size) (fun b hb=>hb.2)
  clear q0 q1 q2 q3 Xc2' Xg2 Xbb2 b3
  have c3':=Xcf.out _ g3
  obtain⟨q0,q1,q2,q3⟩:=g3.cells
  have Xbb3:=hide bb3;have Xg3:=hide g3;have Xc3':=hide c3';have Xrd3:=hide rd3;have Xhai:=hide hai;clear bb3 g3 c3' rd3 hai
  go_wp2_with fail
  refine Xc3'.out.mono ?_
  rintro e w4 hp
  obtain⟨Pf,rfl,b4,hpf⟩: ∃Pf:Option Addr,e= .returned (.pointer Pf)∧Below w3.heap.size w3 w4∧(ev=0→checkOf G st=0∧ ∃q:RD,Pf=some ⟨q.s,0,none⟩∧RSets w4 q G (empB G) (begB G) (behB G st)):=by
   have hck:ev=0→checkOf G st=0:=fun h=>by
    rcases Xhai.out with⟨h1,h2,-⟩|⟨h1,-,-⟩|⟨h1,-⟩
    ·exact absurd (h2.symm.trans h) h1
    ·exact h1
    ·exact h1
   rcases hp with⟨h1,rfl,h2⟩|⟨h1,q,rfl,h2,-,h3⟩
   ·exact⟨none,rfl,h2,fun h=>absurd (hck h) h1⟩
   ·exact⟨_,rfl,h3,fun _=>⟨h1,q,rfl,h2⟩⟩
  have g4:=Xg3.out.below b4
  have bb4:=Xbb3.out.trans (b4.mono Xbb3.out.size)
  have rd4:=(Xrd3.out.below b4 (fun b hb=>hb)).mono (F':=fun b=>b<w4.heap.size) (fun b hb=>Nat.lt_of_lt_of_le hb b4.size)
  obtain⟨hna,hnc,hcm,-⟩:=rd4.at_
  rw [looksD_len]at hna
  unfold maxLen at hcm
  clear q0 q1 q2 q3 hp Xc3' Xg3 Xbb3 b4 Xrd3
  have Xbb4:=hide bb4;have Xg4:=hide g4;have Xrd4:=hide rd4;have Xhpf:=hide hpf;have Xhna:=hide hna;clear bb4 g4 rd4 hpf hna
  go_wp2_with fail
  go_loopw [6] (fun iv wr=> ∃i:Nat,i≤na∧iv= .int .i64 (i:Int)∧Below w4.heap.size w4 wr) (fun iv _=>na - (intOf iv).toNat)
  case atStart=>exact⟨0,Nat.zero_le _,rfl,Below.refl _ _⟩
  case round=>
   obtain⟨i,hi,rfl,le⟩:=hrel
   by_cases hlt:i<na
   ·have hlt':(i:Int)<(na:Int):=by omega
    obtain⟨e,he⟩: ∃e,D[i]? =some e:=⟨_,List.getElem?_eq_getElem (by rw [←Xhna.out];exact hlt)⟩
    obtain⟨hev,L,Tt,hb,hD⟩:ev=0∧ ∃L Tt,Bld G st L.length L Tt∧D=stD L Tt:=by
     rcases Xhai.out with⟨-,-,h⟩|⟨-,-,-,h⟩|⟨-,L,Tt,h1,h2,h3⟩
     ·rw [h]at he;cases he
     ·rw [h]at he;cases he
     ·cases h1 with
      |ok _ _ hb=>exact⟨h2,L,Tt,hb,h3⟩
    obtain⟨hck,qf,rfl,rf⟩:=Xhpf.out hev
    subst hev
    have hK:=KnA.of_check hck
    have rd:=Xrd4.out.below le (fun b hb=>hb)
    obtain⟨-,-,-,hcell⟩:=rd.at_
    obtain⟨bl,ol,rfl,-,hcc⟩:=hcell (by omega)
    obtain⟨A8,n8,c8,cl8,r8⟩:=hcc i _ (looksD_get he)
    have cl8':=cl8
    obtain⟨hn8,hnc8,hcm8,-⟩:=r8.at_
    unfold maxLen at hcm8
    have hn83:n8≤301:=by
     have h1:(lksD G st D i e).length≤G.rules.length+1:=by
      unfold lksD
      exact Nat.le_trans (List.length_filterMap_le _ _) (by simp)
     have:=hK.r
     omega
    obtain⟨w5,hw5⟩: ∃x,x=wr:=⟨_,rfl⟩
    clear rd hcell hcc cl8'
    rw [←hw5]at cl8 r8 le⊢
    clear hw5
    have lew:Below w5.heap.size w5 w5:=Below.refl _ _
    have Xle:=hide le;have Xhe:=hide he;have Xhb:=hide hb;have XhD:=hide hD;have Xhck:=hide hck;have Xrf:=hide rf;have XhK:=hide hK;have Xr8:=hide r8;have Xhn8:=hide hn8;have Xlew:=hide lew;clear le he hb hD hck rf hK r8 hn8 lew
    go_wp2_with fail
    go_loopw [7] (fun iv wr=> ∃k:Nat,k≤n8∧iv= .int .i64 (k:Int)∧Below w5.heap.size w5 wr) (fun iv _=>n8 - (intOf iv).toNat)
    case atStart=>exact⟨0,Nat.zero_le _,rfl,Xlew.out⟩
    case round=>
     obtain⟨k,hk,rfl,le5⟩:=hrel
     have cl8:=up_cell le5 cl8
     by_cases hlk:k<n8
     ·have hlk':(k:Int)<(n8:Int):=by omega
      have rdk:=Xr8.out.below (le5.mono Xle.out.size) (fun b hb=>hb)
      obtain⟨-,-,-,hcell⟩:=rdk.at_
      obtain⟨bk,ok,rfl,-,hcc⟩:=hcell (by omega)
      obtain⟨x,hx⟩: ∃x,(lksD G st D i e)[k]? =some x:=⟨_,List.getElem?_eq_getElem (by rw [←Xhn8.out];exact hlk)⟩
      have hxm:=List.mem_of_getElem? hx
      obtain⟨A9,n9,c9,v0,v1,rt⟩:=hcc k x hx
      obtain⟨kr,hkr,hxk,-,-⟩:=lks_mem hxm
      rw [hxk]at v0
      obtain⟨hn9,hnc9,hcm9,hcell9⟩:=RdI.at_ rt
      unfold maxLen at hcm9
      have lek:=le5
      have g5:=Xg4.out.below (Xle.out.trans (le5.mono Xle.out.size))
      have bA:Below wr.heap.size wr (wr.alloc (.cells #[.int .i64 (kr:Int),.slice A9 n9 c9] 78)):=(Below.refl _ _).alloc (Nat.le_refl _) _
      have kA:Blk (wr.alloc (.cells #[.int .i64 (kr:Int),.slice A9 n9 c9] 78)) wr.heap.size 78 #[.int .i64 (kr:Int),.slice A9 n9 c9]:=Blk.new _ _ _
      have gA:=g5.below bA
      have lA:=le5.trans (bA.mono le5.size)
      have rt:=rt.below bA (fun b hb=>Nat.lt_of_lt_of_le hb (Nat.le_trans Xle.out.size le5.size))
      have crA:=Xcr.out _ gA (kr:Int)
      obtain⟨q0,q1,q2,q3⟩:=gA.cells
      have f0:=(kA.cell 0).trans rfl
      have f1:=(kA.cell 1).trans rfl
      by_cases hown:kr=R
      ·subst hown
       have hxt:=lks_own Xhb.out XhK.out (by rw [←XhD.out];exact Xhe.out) (by rw [←XhD.out];exact hxm) (by rw [hxk,XhR.out])
       rw [hxt]at rt hn9 hcell9
       obtain rfl:n9=1:=hn9
       have hru:ruleOf G st (kr:Int)=((0,[st]),true):=by
        unfold ruleOf
        rw [←XhR.out,if_neg (by omega),if_pos rfl]
       rw [hru]at crA
       obtain⟨-,-,-,hcell9⟩:=RdI.at_ rt
       obtain⟨b9,o9,rfl,-,hc9⟩:=hcell9 (by omega)
       have t0:=hc9 0 0 rfl
       rw [Nat.add_zero]at t0
       have hkR:((kr:Int)==(kr:Int))=true:=by simp
       clear hcell hcc hcell9 hc9 rdk le5 g5 bA kA gA rt hxt hru hxm hx hkr
       have Xlek:=hide lek;have XlA:=hide lA;have XcrA:=hide crA;have Xhxk:=hide hxk;clear lek lA crA hxk
       go_wp2_with fail
       refine XcrA.out.mono ?_
       rintro e wB ⟨Ar,nr,cr',rfl,-,bB⟩
       have lB:=XlA.out.trans (bB.mono XlA.out.size)
       have bC:Below wB.heap.size wB (wB.alloc (.cells #[.int .i64 0,.slice Ar nr cr'] 80)):=(Below.refl _ _).alloc (Nat.le_refl _) _
       have lC:=lB.trans (bC.mono lB.size)
       have bAC:=bB.trans (bC.mono bB.size)
       have f0:=up_cell bAC f0
       have f1:=up_cell bAC f1
       have t0:=up_cell bAC t0
       have q2:=up_cell bAC q2
       clear q0 q1 q3 bC bAC
       clear bB lB XlA Xlek XcrA
       have XlC:=hide lC;clear lC
       go_wp2_with fail
       go_roundw
       case rel=>exact⟨k+1,by omega,by go_num,XlC.out⟩
       case measure=>simp [intOf];omega
      ·have hkl:kr<R:=by rw [←XhR.out]at hown⊢;omega
       obtain⟨ru,hru⟩: ∃r,G.rules[kr]? =some r:=⟨_,List.getElem?_eq_getElem (by rw [XhR.out];exact hkl)⟩
       rw [ruleOf_nat hru]at crA
       have hwi:=lks_within Xhck.out hxm hxk hru
       have hkR:((kr:Int)==(R:Int))=false:=by simp;omega
       obtain⟨rl,rr⟩:=ru
       have rfA:=Xrf.out.below (Xle.out.trans (lA.mono Xle.out.size))
       obtain⟨xt,hxt⟩: ∃y,y=x.2:=⟨_,rfl⟩
       rw [←hxt]at rt hwi
       simp only at hwi crA
       clear hcell hcc hcell9 rdk le5 g5 bA kA gA hxm hx hkr hxt
       have Xlek:=hide lek;have XlA:=hide lA;have XcrA:=hide crA;have Xhxk:=hide hxk;have Xhown:=hide hown;have XrfA:=hide rfA;have Xrt:=hide rt;have Xhwi:=hide hwi;have Xhru:=hide hru;have Xhn9:=hide hn9;clear lek lA crA hxk hown rfA rt hwi hru hn9
       go_wp2_with fail
       refine XcrA.out.mono ?_
       rintro e wB ⟨Ar,nr,cr',rfl,-,bB⟩
       have bC:Below wB.heap.size wB (wB.alloc (.cells #[.int .i64 rl,.slice Ar nr cr'] 80)):=(Below.refl _ _).alloc (Nat.le_refl _) _
       have kC:Blk (wB.alloc (.cells #[.int .i64 rl,.slice Ar nr cr'] 80)) wB.heap.size 80 #[.int .i64 rl,.slice Ar nr cr']:=Blk.new _ _ _
       have lB:=XlA.out.trans (bB.mono XlA.out.size)
       have lC:=lB.trans (bC.mono lB.size)
       have bAC:=bB.trans (bC.mono bB.size)
       have rfC:=XrfA.out.below bAC
       have hz4:w4.heap.size≤(wr.alloc (.cells #[.int .i64 (kr:Int),.slice A9 n9 c9] 78)).heap.size:=Nat.le_trans Xle.out.size XlA.out.size
       have rtC:=Xrt.out.below bAC (fun b hb=>Nat.lt_of_lt_of_le hb hz4)
       have e0:=(kC.cell 0).trans rfl
       have f0:=up_cell bAC f0
       have f1:=up_cell bAC f1
       have q2:=up_cell bAC q2
       clear q0 q1 q3 hz4 bB bC bAC lB kC XlA Xlek XcrA XrfA Xrt
       have XlC:=hide lC;have XrfC:=hide rfC;have XrtC:=hide rtC;clear lC rfC rtC
       go_wp2_with fail
       have dr:Below (wB.alloc (.cells #[.int .i64 rl,.slice Ar nr cr'] 80)).heap.size (wB.alloc (.cells #[.int .i64 rl,.slice Ar nr cr'] 80)) (wB.alloc (.cells #[.int .i64 rl,.slice Ar nr cr'] 80)).drew:=(Below.refl _ _).drew
       have lD:=XlC.out.trans (dr.mono XlC.out.size)
       have rfD:=XrfC.out.below dr
       have rtD:RdI (wB.alloc (.cells #[.int .i64 rl,.slice Ar nr cr'] 80)).drew (fun b=>b<w4.heap.size) (.slice A9 n9 c9) xt:=XrtC.out
       have SD:(wB.alloc (.cells #[.int .i64 rl,.slice Ar nr cr'] 80)).drew.cell? ⟨wr.heap.size,1,none⟩=some (.slice A9 n9 c9)∧(wB.alloc (.cells #[.int .i64 rl,.slice Ar nr cr'] 80)).drew.cell? ⟨wB.heap.size,0,none⟩=some (.int .i64 rl):=⟨f1,e0⟩
       have hz4:=Nat.le_trans Xle.out.size lD.size
       have cfo:=ref11_follow rfD rl
       rw [rfD.nG.1,rfD.nG.2]at cfo
       have cfo:Calls Tryz.prog 50 #[PtrV qf.s,.int .i64 rl] (wB.alloc (.cells #[.int .i64 rl,.slice Ar nr cr'] 80)).drew (IntsPost (wB.alloc (.cells #[.int .i64 rl,.slice Ar nr cr'] 80)).drew (followG G st rl)):=cfo
       unfold PtrV at cfo
       clear f0 f1 e0 q2 dr rfD XlC XrfC XrtC
       have XSD:=hide SD;have XlD:=hide lD;have XrtD:=hide rtD;have Xcfo:=hide cfo;clear SD lD rtD cfo
       refine region_late (fun W=>W.cell? ⟨wr.heap.size,1,none⟩=some (.slice A9 n9 c9)∧W.cell? ⟨wB.heap.size,0,none⟩=some (.int .i64 rl)) 5 7 (by kernel_rfl) (by kernel_rfl) XSD.out ?_
       simp only [List.take_succ_cons,List.take_zero,List.drop_succ_cons,List.drop_zero]
       iterate 5
        refine wpHeld_cons ?_ (by rfl) (fun wS hwS=> ?_) ?_
        rotate_left
        ·(try dsimp only at hwS)
         go_simp
         all_goals with_reducible rfl
        simp only [Act.put,List.setIfInBounds_toArray,List.set_cons_zero,List.set_cons_succ]
       refine wpHeld_nil ?_
       generalize (wB.alloc (.cells #[.int .i64 rl,.slice Ar nr cr'] 80)).drew=wD at *
       refine wpMid_cons ?_
       go_wp2_with fail
       refine Xcfo.out.mono ?_
       rintro e wE ⟨Af,nf,cf',rfl,rdf,bE⟩
       have SE:wE.cell? ⟨wr.heap.size,1,none⟩=some (.slice A9 n9 c9)∧wE.cell? ⟨wB.heap.size,0,none⟩=some (.int .i64 rl):=⟨up_cell bE XSD.out.1,up_cell bE XSD.out.2⟩
       have cw:=law14_within (XrtD.out.below bE (fun b hb=>Nat.lt_of_lt_of_le hb hz4)) rdf
       rw [Xhwi.out]at cw
       have lE:=XlD.out.trans (bE.mono XlD.out.size)
       clear rdf bE XrtD XlD XSD Xcfo hz4
       have XSE:=hide SE;have Xcw:=hide cw;have XlE:=hide lE;clear SE cw lE
       go_wp2_with fail
       refine⟨XSE.out,wpMid_cons ?_⟩
       go_wp2_with fail
       refine Xcw.out.mono ?_
       rintro e wF ⟨rfl,bF⟩
       have SF:wF.cell? ⟨wr.heap.size,1,none⟩=some (.slice A9 n9 c9)∧wF.cell? ⟨wB.heap.size,0,none⟩=some (.int .i64 rl):=⟨up_cell bF XSE.out.1,up_cell bF XSE.out.2⟩
       have lF:=XlE.out.trans (bF.mono XlE.out.size)
       clear bF XlE XSE Xcw
       have XSF:=hide SF;have XlF:=hide lF;clear SF lF
       go_wp2_with fail
       refine⟨XSF.out,wpMid_nil ?_⟩
       go_wp2_with fail
       refine NoPanic.normal ?_
       go_wp2_with fail
       go_roundw
       case rel=>exact⟨k+1,by omega,by go_num,XlF.out⟩
       case measure=>simp [intOf];omega
     ·have hlk': ¬(k:Int)<(n8:Int):=by omega
      have le6:=Xle.out.trans (le5.mono Xle.out.size)
      clear le5
      have Xle6:=hide le6;clear le6
      go_wp2_with fail
      go_roundw
      case rel=>exact⟨i+1,by omega,by go_num,Xle6.out⟩
      case measure=>simp [intOf];omega
   ·have hlt': ¬(i:Int)<(na:Int):=by omega
    have hbb:=Xbb4.out.trans (le.mono Xbb4.out.size)
    have hev:ev=0∧0<na∨ev≠0∧na=0:=by
     rw [Xhna.out]
     rcases Xhai.out with⟨h1,h2,h3⟩|⟨-,-,h2,h3⟩|⟨-,L,Tt,h1,h2,h3⟩
     ·exact .inr ⟨by rw [h2];exact h1,by rw [h3];rfl⟩
     ·exact .inr ⟨by rw [h2];decide,by rw [h3];rfl⟩
     ·cases h1 with
      |ok _ _ hb=>exact .inl ⟨h2,by rw [h3,stD_len];exact(List.getElem?_eq_some_iff.1 hb.f.first).1⟩
    clear le
    rcases hev with⟨h1,h2⟩|⟨h1,h2⟩
    ·subst h1
     have h3:(0:Int)<(na:Int):=by omega
     have Xhbb:=hide hbb;clear hbb
     go_wp2_with fail
     refine(law14_awake _).mono ?_
     rintro e w6 ⟨rfl,b6⟩
     have bb6:=Xhbb.out.trans (b6.mono Xhbb.out.size)
     clear b6
     have Xbb6:=hide bb6;clear bb6
     go_wp2_with fail
     go_ret
     exact⟨rfl,Xbb6.out⟩
    ·subst h2
     have h3:(ev==0)=false:=by simpa using h1
     have Xhbb:=hide hbb;clear hbb
     go_wp2_with fail
     refine(law14_awake _).mono ?_
     rintro e w6 ⟨rfl,b6⟩
     have bb6:=Xhbb.out.trans (b6.mono Xhbb.out.size)
     clear b6
     have Xbb6:=hide bb6;clear bb6
     go_wp2_with fail
     go_ret
     exact⟨rfl,Xbb6.out⟩
end Go.Proofs.YtlpokomfljmogaaGreat

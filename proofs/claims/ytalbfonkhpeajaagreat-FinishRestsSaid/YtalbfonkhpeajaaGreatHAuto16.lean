/- The automaton, the reference's: Find, Same. -/
import Derived.Test.YtalbfonkhpeajaaGreatHAuto11
import Derived.Test.YtalbfonkhpeajaaGreatHItemPlain
import Derived.Test.YtalbfonkhpeajaaGreatHItem5
import Derived.Test.YtalbfonkhpeajaaGreatHAutoPlain
namespace Go.Proofs.YtalbfonkhpeajaaGreat
set_option linter.unusedVariables false
section
set_option linter.unusedSimpArgs false
open Go.RowKit
attribute [local irreducible] wpStill wpOne wpPh
def findD (D:List (List It×List It)) (k:List It):Int:=findK (D.map Prod.fst) k
theorem findD_yes {D:List (List It×List It)} {k:List It} {i:Nat} {d:List It×List It} (hd:D[i]? =some d) (hk:d.1=k) (hno: ∀(j:Nat) e,j<i→D[j]? =some e→e.1≠k):findD D k=i:=by
 have hm:(D.map Prod.fst)[i]? =some k:=by rw [List.getElem?_map,hd];exact congrArg some hk
 have hmem:=List.mem_of_getElem? hm
 unfold findD findK
 rw [if_pos hmem]
 congr 1
 have h1:=idx_get hmem
 rcases Nat.lt_trichotomy ((D.map Prod.fst).idxOf k) i with e|e|e
 ·exfalso
  rw [List.getElem?_map]at h1
  obtain⟨q,h2,h3⟩:=Option.map_eq_some_iff.1 h1
  exact hno _ q e h2 h3
 ·exact e
 ·exfalso
  have hi:=(List.getElem?_eq_some_iff.1 hm).1
  have hne:=List.not_of_lt_findIdx (p:=fun x=>x==k) (xs:=D.map Prod.fst) (i:=i) e
  have:(D.map Prod.fst)[i]=k:=by rw [List.getElem?_eq_getElem hi]at hm;exact Option.some.inj hm
  simp [this]at hne
theorem findD_no {D:List (List It×List It)} {k:List It} (hno: ∀(j:Nat) e,D[j]? =some e→e.1≠k):findD D k= -1:=by
 unfold findD findK
 rw [if_neg]
 intro h
 obtain⟨e,he,hk⟩:=List.mem_map.1 h
 obtain⟨j,hj,h2⟩:=List.getElem_of_mem he
 exact hno j e (by rw [List.getElem?_eq_getElem hj,h2]) hk
set_option maxRecDepth 100000 in
set_option maxHeartbeats 2000000 in
theorem ref13_Find {w:World} {F F':Nat→Prop} {v u:Value} {D:List (List It×List It)} {k:List It} (h:RdSt w F v D) (hF: ∀b,F b→b<w.heap.size) (g:RdIt w F' u k) (hF': ∀b,F' b→b<w.heap.size):
  Calls Tryz.prog 16 #[v,u] w (Quiet w (.int .i64 (findD D k))):=by
 obtain⟨A,n,c,rfl⟩: ∃A n c,v= .slice A n c:=by
  obtain⟨Z,⟨A,n,c,h,-⟩,-⟩:=h
  exact⟨A,n,c,h⟩
 obtain⟨hn,hnc,hcm,hcell⟩:=h.at_
 unfold maxLen at hcm
 obtain⟨r,hr⟩: ∃r,r=findD D k:=⟨_,rfl⟩
 rw [←hr]
 have hno:(∀(j:Nat) e,D[j]? =some e→e.1≠k)→r= -1:=fun e=>hr.trans (findD_no e)
 have hyes: ∀(i:Nat) d,D[i]? =some d→d.1=k→(∀(j:Nat) e,j<i→D[j]? =some e→e.1≠k)→r=i:=fun i d h1 h2 h3=>hr.trans (findD_yes h1 h2 h3)
 clear hr
 have Xh:=hide h;have XhF:=hide hF;have Xg:=hide g;have XhF':=hide hF';have Xhn:=hide hn;have Xhno:=hide hno;have Xhyes:=hide hyes;have Xhcell:=hide hcell;clear h hF g hF' hn hno hyes hcell
 go_enter Tryz.func16,Tryz.ntmps16
 go_wp2_with fail
 go_loopw [5] (fun i wr=> ∃k':Nat,k'≤n∧i= .int .i64 k'∧Below w.heap.size w wr∧ ∀(j:Nat) e,j<k'→D[j]? =some e→e.1≠k) (fun i _=>n - (intOf i).toNat)
 case atStart=>exact⟨0,Nat.zero_le _,rfl,Below.refl _ _,fun j e hj=>absurd hj (by omega)⟩
 case round=>
  obtain⟨i,hi,rfl,le,hb⟩:=hrel
  by_cases hlt:i<n
  ·have hlt':(i:Int)<(n:Int):=by omega
   obtain⟨b,off,rfl,hbF,hcc⟩:=Xhcell.out (by omega)
   obtain⟨d,hd⟩: ∃x,D[i]? =some x:=⟨_,List.getElem?_eq_getElem (by rw [←Xhn.out];exact hlt)⟩
   obtain⟨z1,z2,c1,c2,r1,r2⟩:=hcc i d hd
   have hbw:=XhF.out b hbF
   have c1':=(le.cell (p:=⟨b,off+i * 2,none⟩) hbw).trans c1
   have cs:=ref12_Same (r1.below le XhF.out) (Xg.out.below le XhF'.out)
   obtain⟨same,hsame⟩: ∃q,q=decide (d.1=k):=⟨_,rfl⟩
   rw [←hsame]at cs
   clear hcc c1 c2 r2
   have Xle:=hide le;have Xhb:=hide hb;have Xhd:=hide hd;have Xr1:=hide r1;have XhbF:=hide hbF;have Xcs:=hide cs;clear le hb hd r1 hbF cs
   go_wp2_with fail
   with_reducible refine Xcs.out.mono ?_
   rintro e w2 ⟨rfl,b2⟩
   have le2:=Xle.out.trans (b2.mono Xle.out.size)
   clear c1' b2 Xcs
   cases same with
   |true=>
    have hv:=Xhyes.out i d Xhd.out (of_decide_eq_true hsame.symm) Xhb.out
    have Xhv:=hide hv;have Xle2:=hide le2;have Xhsame:=hide hsame;clear hv le2 hsame
    go_wp2_with fail
    go_ret
    exact⟨ret_int Xhv.out.symm,Xle2.out⟩
   |false=>
    have hb2: ∀(j:Nat) e,j<i+1→D[j]? =some e→e.1≠k:=fun j e hj he=>by
     by_cases e':j=i
     ·subst e'
      rw [Xhd.out]at he
      injection he with he
      subst he
      exact of_decide_eq_false hsame.symm
     ·exact Xhb.out j e (by omega) he
    have Xhb2:=hide hb2;have Xle2:=hide le2;have Xhsame:=hide hsame;clear hb2 le2 hsame
    go_wp2_with fail
    go_roundw
    case rel=>exact⟨i+1,by omega,by go_num,Xle2.out,Xhb2.out⟩
    case measure=>simp [intOf];omega
  ·have hlt': ¬(i:Int)<(n:Int):=by omega
   have hv:=Xhno.out (fun j e he=>hb j e (by have:=(List.getElem?_eq_some_iff.1 he).1;have:=Xhn.out;omega) he)
   have Xhv:=hide hv;have Xle:=hide le;have Xhb:=hide hb;clear hv le hb
   go_wp2_with fail
   go_ret
   exact⟨ret_int Xhv.out.symm,Xle.out⟩
end
section
set_option linter.unusedSimpArgs false
open Go.RowKit
attribute [local irreducible] wpStill wpOne wpPh
theorem stD_fst (L T:List (List It)):(stD L T).map Prod.fst=L:=by
 apply List.ext_getElem?
 intro i
 rw [List.getElem?_map,stD_get,Option.map_map]
 cases L[i]? <;>rfl
theorem findD_st (L T:List (List It)) (k:List It):findD (stD L T) k=findK L k:=by unfold findD;rw [stD_fst]
theorem own_new (w:World) (e:TypeId) (size:Nat) (us:List Value) (h:us.length=size):World.ownsRow (w.alloc (.cells us.toArray e)) w.heap.size e size (.slice (some ⟨w.heap.size,0,none⟩) 1 1) 1 us:=by
 refine⟨by rw [h,Nat.one_mul],.inr ⟨w.heap.size,1,us.toArray,rfl,Nat.le_refl _,heap_alloc_new w _,Nat.le_refl _,by decide,by simp [h],?_⟩⟩
 rw [Nat.one_mul,←h]
 simp
theorem strict_len {G:GramD} {st:Int} {k:List It} (hK:KnA G st) (hs:StrictI k) (hr: ∀x∈k,rightI G st x=true):k.length≤400000:=by
 have: ∀(k:List It),k.Nodup→(∀x∈k,rightI G st x=true)→missI G st k+k.length≤(allIt G st).length:=by
  intro k
  induction k with
  |nil=>intro _ _;unfold missI;rw [List.length_nil,Nat.add_zero];exact List.length_filter_le _ _
  |cons x r ih=>
   intro hn hr
   obtain⟨hx,hn'⟩:=List.nodup_cons.1 hn
   have:=ih hn' (fun y hy=>hr y (by simp [hy]))
   have h3:missI G st (x::r)<missI G st r:=miss_lt (fun y hy=>by simp [hy]) (hr x (by simp)) hx (by simp)
   simp only [List.length_cons]
   omega
 have h1:=this k hs.nodup hr
 have:=all_len hK.short hK.r
 omega
set_option maxRecDepth 100000 in
set_option maxHeartbeats 16000000 in
theorem ref13_Build {w:World} {F:Nat→Prop} {vt vn vr:Value} {G:GramD} (h:IsGram w F vt vn vr G) (hF: ∀b,F b→b<w.heap.size) (st:Int):
  Calls Tryz.prog 6 #[GV vt vn vr st] w (AutoPost w G st (checkOf G st)):=by
 obtain⟨A1,c1,A2,c2,A3,c3,rfl,rfl,rfl,-⟩:=h.slices
 obtain⟨w1,hw1⟩: ∃w1,w1=w.alloc (.cells #[.slice A1 G.terms.length c1,.slice A2 G.nons.length c2,.slice A3 G.rules.length c3,.int .i64 st] 25):=⟨_,rfl⟩
 have g1:=GBox.new h st
 have b1:Below w.heap.size w w1:=by rw [hw1];exact(Below.refl _ w).alloc (Nat.le_refl _) _
 have hz1:w1.heap.size=w.heap.size+1:=by rw [hw1];simp
 rw [←hw1]at g1
 have cc:=ref_check g1.gram st
 have cM:=fun wr (g:GBox wr F w.heap.size A1 c1 A2 c2 A3 c3 G.terms.length G.nons.length G.rules.length st G)=>ref12_Begin g.gram st
 have cT:=fun wr (g:GBox wr F w.heap.size A1 c1 A2 c2 A3 c3 G.terms.length G.nons.length G.rules.length st G)=>ref_top g.gram st
 obtain⟨q0,q1,q2,q3⟩:=g1.cells
 have hK0:checkOf G st=0→KnA G st:=KnA.of_check
 obtain⟨ck,hck⟩: ∃q,q=checkOf G st:=⟨_,rfl⟩
 rw [←hck]at cc hK0⊢
 have htop:topOf G=G.terms.length+G.nons.length:=rfl
 obtain⟨p,hp⟩: ∃p,p=topOf G:=⟨_,rfl⟩
 rw [←hp]at htop cT
 obtain⟨T,hT⟩: ∃q,q=G.terms.length:=⟨_,rfl⟩
 obtain⟨N,hN⟩: ∃q,q=G.nons.length:=⟨_,rfl⟩
 obtain⟨R,hR⟩: ∃q,q=G.rules.length:=⟨_,rfl⟩
 rw [←hT,←hN,←hR]at g1 cM cT
 rw [←hT]at q0
 rw [←hN]at q1
 rw [←hR]at q2
 rw [←hT,←hN]at htop
 rw [←hT,←hN,←hR]at hw1 cc
 rw [hw1]at cc q0 q1 q2 q3
 rw [←hT,←hN,←hR]
 clear h
 have Xg1:=hide g1;have Xb1:=hide b1;have Xhz1:=hide hz1;have Xcc:=hide cc;have XcM:=hide cM;have XcT:=hide cT;have XhK0:=hide hK0;have Xhck:=hide hck;have Xhtop:=hide htop;have Xhp:=hide hp;have XhT:=hide hT;have XhN:=hide hN;have XhR:=hide hR;have XhF:=hide hF;clear g1 b1 hz1 cc cM cT hK0 hck htop hp hT hN hR hF
 go_enter Tryz.func6,Tryz.ntmps6
 go_wp2_with fail
 with_reducible refine Xcc.out.mono ?_
 rintro e w2 ⟨rfl,b2⟩
 rw [←hw1]at b2
 have g2:=Xg1.out.below b2
 have bb2:=Xb1.out.trans (b2.mono Xb1.out.size)
 have hz2:w.heap.size+1≤w2.heap.size:=by have:=b2.size;have:=Xhz1.out;omega
 clear hw1 q0 q1 q2 q3 b2 Xg1 Xb1 Xcc Xhz1
 by_cases hc0:ck=0
 ·subst hc0
  have hK:=XhK0.out (by first|rfl|trivial)
  have hpb:p≤240:=by have:=hK.t;have:=hK.n;have:=Xhtop.out;have:=XhT.out;have:=XhN.out;omega
  obtain⟨q0,q1,q2,q3⟩:=g2.cells
  have cB:=XcM.out w2 g2
  have XhK:=hide hK;have XcB:=hide cB;have Xg2:=hide g2;have Xbb2:=hide bb2;clear hK cB g2 bb2
  go_wp2_with fail
  refine XcB.out.mono ?_
  rintro e w3 ⟨Av,nv,cv,rfl,rv3,b3⟩
  have g3:=Xg2.out.below b3
  have bb3:=Xbb2.out.trans (b3.mono Xbb2.out.size)
  obtain⟨w4,hw4⟩: ∃q,q=w3.alloc (.cells #[.slice Av nv cv,.slice none 0 0] 48):=⟨_,rfl⟩
  have b4:Below w3.heap.size w3 w4:=by rw [hw4];exact(Below.refl _ _).alloc (Nat.le_refl _) _
  have g4:=g3.below b4
  have bb4:=bb3.trans (b4.mono bb3.size)
  have s3:=b3.size
  have s4:w4.heap.size=w3.heap.size+1:=by rw [hw4];simp
  have sr4:SRow w4 (w.heap.size+1) NoX (.slice (some ⟨w3.heap.size,0,none⟩) 1 1) [(.slice Av nv cv,.slice none 0 0)] (stD [[((G.rules.length:Int),0)]] []):=by
   refine⟨?_,rfl,fun i z d hz hd=> ?_⟩
   ·have:=own_new w3 48 2 [.slice Av nv cv,.slice none 0 0] rfl
    rw [←hw4]at this
    exact ownsRow_base this (fun b hb=>by simp only [Value.ownBlock,Option.some.injEq]at hb;omega)
   ·match i,hz,hd with
    |0,hz,hd=>
     simp at hz
     have hd':(([((G.rules.length:Int),(0:Int))],[]):List It×List It)=d:=by
      have:(stD [[((G.rules.length:Int),0)]] [])[0]? =some ([((G.rules.length:Int),0)],[]):=rfl
      rw [this]at hd
      exact Option.some.inj hd
     subst hz hd'
     rw [XhR.out]at rv3
     exact⟨(rv3.below b4 (fun b hb=>hb.2)).mono (fun b hb=>⟨by omega,by omega,fun e=>by simp only [Value.ownBlock,Option.some.injEq]at e;omega,fun e=>e⟩),Rd.nil _ _ _⟩
  have bl4:=Bld.start (G:=G) (st:=st)
  clear q0 q1 q2 q3 rv3 b3 b4 g3 bb3 XcB Xg2 Xbb2
  have Xg4:=hide g4;have Xbb4:=hide bb4;have Xsr4:=hide sr4;have Xbl4:=hide bl4;clear g4 bb4 sr4 bl4
  go_wp2_with fail
  rw [←hw4]
  clear hw4
  go_loopw [5,6] (fun lv i wr=> ∃(k ln:Nat) (L Tm:List (List It)) (As:Option Addr) (cs:Nat) (Z:List (Value×Value)),ln=L.length∧i= .int .i64 k∧lv= .slice As ln cs∧SRow wr (w.heap.size+1) NoX (.slice As ln cs) Z (stD L Tm)∧Bld G st k L Tm∧GBox wr F w.heap.size A1 c1 A2 c2 A3 c3 T N R st G∧Below w.heap.size w wr) (fun _ i _=>2001 - (intOf i).toNat)
  case atStart=>exact⟨0,1,_,[],_,1,_,rfl,rfl,rfl,Xsr4.out,Xbl4.out,Xg4.out,Xbb4.out⟩
  case round=>
   clear Xg4 Xbb4 Xsr4 Xbl4 s3 s4
   obtain⟨k,ln,L,Tm,As,cs,Z,hln,rfl,rfl,sr,bl,g,bb⟩:=hrel
   have blf:=bl.f
   have hsm:=blf.small
   rw [←hln]at hsm
   by_cases hlt:k<ln
   ·have hlt':(k:Int)<(ln:Int):=by omega
    obtain⟨kern,hkern⟩: ∃x,L[k]? =some x:=⟨_,List.getElem?_eq_getElem (by rw [←hln];exact hlt)⟩
    have hdk:(stD L Tm)[k]? =some (kern,[]):=by rw [stD_get,hkern,List.getElem?_eq_none (by rw [blf.len];exact Nat.le_refl _)];rfl
    obtain⟨hnZ,hsc,hsm2,gs,z,rfl,hgs1,hgs2,hz,-,cz1,cz2,-,rz1,-⟩:=sr.at_ hdk
    unfold maxLen at hsm2
    obtain⟨Ak,nk,ck',hz1,-⟩:=id rz1
    obtain⟨zz1,zz2⟩:=z
    simp only at hz1 cz1 cz2 rz1
    subst hz1
    have hkm:=bl.by_ XhK.out kern (List.mem_of_getElem? hkern)
    have gd:=g.below ((Below.refl _ wr).drew)
    have ccl:=ref12_Close gd.gram st (rz1.drew.mono (fun b hb=>(hb.2.1:b<wr.drew.heap.size))) XhK.out.short XhK.out.r
    obtain⟨q0,q1,q2,q3⟩:=g.cells
    clear gd
    have Xsr:=hide sr;have Xbl:=hide bl;have Xblf:=hide blf;have Xg:=hide g;have Xbb:=hide bb;have Xhln:=hide hln;have Xhkern:=hide hkern;have Xrz1:=hide rz1;have Xhkm:=hide hkm;have Xccl:=hide ccl;have Xhz:=hide hz;have Xhdk:=hide hdk;have XhnZ:=hide hnZ;clear sr bl blf g bb hln hkern rz1 hkm ccl hz hdk hnZ
    go_wp2_with fail
    refine region_tail 6 (by kernel_rfl) (by kernel_rfl) ?_
    simp only [List.take_succ_cons,List.take_zero,List.drop_succ_cons,List.drop_zero]
    repeat still_step
    refine wpStill_nil ?_
    go_wp2_with fail
    refine Xccl.out.mono ?_
    rintro e w5 ⟨cl,hcl,Ac,ncl,ccl',rfl,rc5,b5⟩
    have srd:=Xsr.out.drew.below b5
    have g5:=(Xg.out.below ((Below.refl _ wr).drew)).below b5
    have bb5:=(Xbb.out.drew).trans (b5.mono Xbb.out.drew.size)
    have hs5:wr.heap.size≤w5.heap.size:=b5.size
    have hclr: ∀x∈cl,rightI G st x=true:=fun x hx=>((hcl.mem x).1 hx).right
    have hcll:=strict_len XhK.out hcl.strict hclr
    have hr0:((L,[]):List (List It)×List It)=rowA G st kern L (1 - 1):=rfl
    have hown1: ∀b,(Value.slice (some ⟨gs,0,none⟩) ln cs).ownBlock=some b→b=gs:=fun b e=>by
     simp only [Value.ownBlock,Option.some.injEq]at e;exact e.symm
    have hwb:w.heap.size+1≤w5.heap.size:=by omega
    have sr50:SRow w5 (w.heap.size+1) (fun b=>(Value.slice none 0 0).ownBlock=some b) (.slice (some ⟨gs,0,none⟩) ln cs) Z (stD L Tm):=srd.mono (fun b e=>by simp [Value.ownBlock]at e)
    replace rc5:=rc5.mono (F':=fun b=>gs<b∧b<w5.heap.size) (fun b hb=>⟨Nat.lt_of_lt_of_le hgs2 hb.1,hb.2⟩)
    clear srd q0 q1 q2 q3 cz1 cz2 b5 Xsr Xg Xbb Xrz1 Xccl
    have Xsr50:=hide sr50;have Xg5:=hide g5;have Xbb5:=hide bb5;have Xhown1:=hide hown1;have Xhr0:=hide hr0;have Xhcl:=hide hcl;have Xrc5:=hide rc5;have Xhclr:=hide hclr;clear sr50 g5 bb5 hown1 hr0 hcl rc5 hclr
    go_wp2_with fail
    go_loopw [5,8,9] (fun lv tv s wr=> ∃(m lm tn:Nat) (L':List (List It)) (t':List It) (As':Option Addr) (cs':Nat) (Z':List (Value×Value)) (At:Option Addr) (ct:Nat),lm=L'.length∧tn=t'.length∧1≤m∧m≤p+1∧s= .int .i64 m∧lv= .slice As' lm cs'∧tv= .slice At tn ct∧((L',t'):List (List It)×List It)=rowA G st kern L (m - 1)∧
     SRow wr (w.heap.size+1) (fun b=>(Value.slice At tn ct).ownBlock=some b) (.slice As' lm cs') Z' (stD L' Tm)∧wr.ownsRow w5.heap.size 53 2 (.slice At tn ct) tn (itCells t')∧Touch (fun b=>(Value.slice (some ⟨gs,0,none⟩) ln cs).ownBlock=some b) w5 wr∧(∀b,(Value.slice As' lm cs').ownBlock=some b→b=gs∨w5.heap.size≤b)∧(∀b,(Value.slice As' lm cs').ownBlock=some b→(Value.slice At tn ct).ownBlock≠some b)) (fun _ _ s _=>p+2 - (intOf s).toNat)
    case atStart=>exact⟨1,ln,0,L,[],_,_,Z,none,0,Xhln.out,rfl,Nat.le_refl _,by omega,rfl,rfl,rfl,Xhr0.out,Xsr50.out,World.ownsRow_nil _ _ _ _,Touch.refl _ _,fun b e=> .inl (Xhown1.out b e),fun b _ e=>by simp [Value.ownBlock]at e⟩
    case round=>
     clear Xsr50 Xhr0
     obtain⟨m,lm,tn,L',t',As',cs',Z',At,ct,hlm,htn,hm1,hm,rfl,rfl,rfl,hrow,sr,ownT,tt,hvs,hap⟩:=hrel
     have rf:=rowF G st kern Xblf.out.nodup (m - 1)
     rw [←hrow]at rf
     simp only at rf
     have hSlt: ∀b,(fun b=>(Value.slice (some ⟨gs,0,none⟩) ln cs).ownBlock=some b) b→b<wr.heap.size∧w.heap.size<b:=fun b e=>by
      have:=Xhown1.out b e
      have:=tt.size
      omega
     have gr:=Xg5.out.touch' tt (fun b hb e=>by have:=(hSlt b e).2;have:=XhF.out b hb;omega) (fun e=>by have:=(hSlt _ e).2;omega)
     have ctt:=XcT.out wr gr
     obtain⟨q0,q1,q2,q3⟩:=gr.cells
     have hLm:=rf.len
     rw [←hlm,←Xhln.out]at hLm
     have htl:=rf.tlen
     rw [←htn]at htl
     have Xsr:=hide sr;have XownT:=hide ownT;have Xtt:=hide tt;have Xhvs:=hide hvs;have Xhap:=hide hap;have Xhrow:=hide hrow;have Xrf:=hide rf;have Xgr:=hide gr;have Xctt:=hide ctt;have XhSlt:=hide hSlt;have Xhlm:=hide hlm;have Xhtn:=hide htn;clear sr ownT tt hvs hap hrow rf gr ctt hSlt hlm htn
     go_wp2_with fail
     refine Xctt.out.mono ?_
     rintro e w6 ⟨rfl,b6⟩
     have g6:=Xgr.out.below b6
     have sr6:=Xsr.out.below b6
     have ownT6:=own_below' XownT.out b6
     have tt6:=Xtt.out.trans' (Touch.of_size b6 (fun b=>(Value.slice (some ⟨gs,0,none⟩) ln cs).ownBlock=some b))
     clear q0 q1 q2 q3 b6 Xgr Xsr XownT Xtt Xctt
     by_cases hle:m≤p
     ·have hle':(m:Int)≤(p:Int):=by omega
      have rc6:=Xrc5.out.touch tt6 (fun b hb e=>by have h1:=Xhown1.out b e;have h2:=hb.1;omega)
      have hs6:w5.heap.size≤w6.heap.size:=tt6.size
      have cst:=ref12_Step g6.gram st (rc6.mono (fun b hb=>(Nat.lt_of_lt_of_le hb.2 hs6:b<w6.heap.size))) XhK.out.short (by omega) (m:Int)
      rw [nx_of Xhcl.out]at cst
      obtain⟨kx,hkx⟩: ∃q,q=nxI G st kern (m:Int):=⟨_,rfl⟩
      rw [←hkx]at cst
      obtain⟨q0,q1,q2,q3⟩:=g6.cells
      have Xsr6:=hide sr6;have XownT6:=hide ownT6;have Xtt6:=hide tt6;have Xg6:=hide g6;have Xrc6:=hide rc6;have Xcst:=hide cst;have Xhkx:=hide hkx;clear sr6 ownT6 tt6 g6 rc6 cst hkx
      go_wp2_with fail
      refine Xcst.out.mono ?_
      rintro e w7 ⟨Ak',nk',ckk,rfl,rk7,b7⟩
      have sr7:=Xsr6.out.below b7
      have ownT7:=own_below' XownT6.out b7
      have tt7:=Xtt6.out.trans' (Touch.of_size b7 (fun b=>(Value.slice (some ⟨gs,0,none⟩) ln cs).ownBlock=some b))
      have hs7:=b7.size
      obtain⟨hnk',hnk2,hnk3,-⟩:=RdIt.at_ rk7
      unfold maxLen at hnk3
      have hvl6: ∀b,(Value.slice As' lm cs').ownBlock=some b→b<w6.heap.size:=fun b e=>(Xsr6.out.own.lt b e).2
      have hul6: ∀b,(Value.slice At tn ct).ownBlock=some b→w5.heap.size≤b∧b<w6.heap.size:=fun b e=>XownT6.out.lt b e
      clear q0 q1 q2 q3 b7 Xg6 Xsr6 XownT6 Xtt6 Xrc6 Xcst
      have hmm:m=(m - 1)+1:=by omega
      by_cases hnil:kx=[]
      ·have hnk0:nk'=0:=by rw [hnk',hnil];rfl
       subst hnk0
       have hrow2:((L',t'):List (List It)×List It)=rowA G st kern L (m+1 - 1):=by
        rw [Nat.add_sub_cancel]
        conv=>rhs;rw [hmm]
        rw [rowA_no (by rw [←hmm,←Xhkx.out];exact hnil)]
        exact Xhrow.out
       clear hnk' rk7
       have Xsr7:=hide sr7;have XownT7:=hide ownT7;have Xtt7:=hide tt7;have Xhrow2:=hide hrow2;have Xhmm:=hide hmm;have Xhvl6:=hide hvl6;have Xhul6:=hide hul6;have Xhnil:=hide hnil;clear sr7 ownT7 tt7 hrow2 hmm hvl6 hul6 hnil
       go_wp2_with fail
       go_roundw
       case rel=>exact⟨m+1,lm,tn,L',t',As',cs',Z',At,ct,Xhlm.out,Xhtn.out,by omega,by omega,by go_num,rfl,rfl,Xhrow2.out,Xsr7.out,XownT7.out,Xtt7.out,Xhvs.out,Xhap.out⟩
       case measure=>simp [intOf];omega
      ·have hnkp:0<nk':=by rw [hnk'];exact List.length_pos_iff.2 hnil
       have hnkz:((nk':Int)==0)=false:=by simp;omega
       have hnkz':(nk'==0)=false:=by simp;omega
       have cf:=ref13_Find (sr7.rd) (fun b hb=>hb.2) rk7 (fun b hb=>hb.2)
       rw [findD_st]at cf
       obtain⟨fk,hfk⟩: ∃q,q=findK L' kx:=⟨_,rfl⟩
       rw [←hfk]at cf
       have hrow2:(((putK L' kx).1,t'++[((m:Int),(putK L' kx).2)]):List (List It)×List It)=rowA G st kern L (m+1 - 1):=by
        rw [Nat.add_sub_cancel]
        conv=>rhs;rw [hmm]
        rw [rowA_yes (by rw [←hmm,←Xhkx.out];exact hnil),←Xhrow.out,←hmm,←Xhkx.out]
       clear hnk'
       have Xsr7:=hide sr7;have XownT7:=hide ownT7;have Xtt7:=hide tt7;have Xhrow2:=hide hrow2;have Xhmm:=hide hmm;have Xhvl6:=hide hvl6;have Xhul6:=hide hul6;have Xhnil:=hide hnil;have Xcf:=hide cf;have Xhfk:=hide hfk;have Xrk7:=hide rk7;clear sr7 ownT7 tt7 hrow2 hmm hvl6 hul6 hnil cf hfk rk7
       go_wp2_with fail
       refine Xcf.out.mono ?_
       rintro e w8 ⟨rfl,b8⟩
       have sr8:=Xsr7.out.below b8
       have ownT8:=own_below' XownT7.out b8
       have tt8:=Xtt7.out.trans' (Touch.of_size b8 (fun b=>(Value.slice (some ⟨gs,0,none⟩) ln cs).ownBlock=some b))
       have rk8:=Xrk7.out.below b8 (fun b hb=>hb.2)
       have hs8:=b8.size
       clear b8 Xsr7 XownT7 Xtt7 Xrk7 Xcf
       by_cases hin:kx∈L'
       ·obtain⟨ix,hix⟩: ∃q:Nat,q=L'.idxOf kx:=⟨_,rfl⟩
        have hfk2:fk=(ix:Int):=by rw [Xhfk.out,hix];unfold findK;rw [if_pos hin]
        subst hfk2
        have hrow2:=Xhrow2.out
        rw [putK_yes hin,←hix]at hrow2
        have hixl:ix<lm:=by rw [hix,Xhlm.out];exact List.idxOf_lt_length_of_mem hin
        clear Xhrow2
        have Xsrv:=hide sr8;have XownTv:=hide ownT8;have Xttv:=hide tt8
        have Xhlv:=Xhlm
        have Xhvsv:=Xhvs
        have Xhapv:=Xhap
        clear sr8 ownT8 tt8
        have Xhrow2:=hide hrow2;have Xhix:=hide hix;have Xrk8:=hide rk8;have Xhin:=hide hin;clear hrow2 hix rk8 hin
        obtain⟨wa,hwa⟩: ∃q,q=w8.alloc (.cells #[.int .i64 (m:Int),.int .i64 (ix:Int)] 53):=⟨_,rfl⟩
        have ba:Below w8.heap.size w8 wa:=by rw [hwa];exact(Below.refl _ _).alloc (Nat.le_refl _) _
        have sra:=Xsrv.out.below ba
        have ownTa:=own_below' XownTv.out ba
        have tta:=Xttv.out.trans' (Touch.of_size ba (fun b=>(Value.slice (some ⟨gs,0,none⟩) ln cs).ownBlock=some b))
        have hone:RdIt wa (fun b=>b=w8.heap.size) (.slice (some ⟨w8.heap.size,0,none⟩) 1 1) [((m:Int),(ix:Int))]:=by rw [hwa];exact RdIt.one (w:=w8) (e:=53) ((m:Int),(ix:Int))
        have hza:w5.heap.size≤wa.heap.size:=tta.size
        have sza:wa.heap.size=w8.heap.size+1:=by rw [hwa];simp
        obtain⟨-,hct1,hct2,-⟩:=RdIt.at_ (Rd.of_own ownTa)
        unfold maxLen at hct2
        have ownTr:=ownTa
        rw [hwa]at ownTr hone hza
        clear ba
        have Xsra:=hide sra;have XownTa:=hide ownTa;have Xtta:=hide tta;have Xhone:=hide hone;have XownTr:=hide ownTr;have Xsza:=hide sza;clear sra ownTa tta hone ownTr sza
        go_wp2_with (at_builtin;refine wp_append _ rfl (.tmp 59) (.tmp 63) _ rfl Tryz.elemTrans w5.heap.size _ tn (itCells t') rfl XownTr.out _ _ [I64 (m:Int),I64 (ix:Int)] 1 rfl rfl Xhone.out (itCells_one [((m:Int),(ix:Int))]) (by unfold maxLen;omega) (by omega) hza ?_)
        intro A9 c9 w9 own9 g9 hb9
        rw [←hwa]at g9
        rw [←Xsza.out]at hb9
        have hTl:=fun b e=>XownTa.out.lt b e
        have t9:Touch (fun b=>(Value.slice At tn ct).ownBlock=some b) wa w9:=(Touch.refl _ _).grown g9 (fun b e _=>e)
        have hnew: ∀b,(Value.slice A9 (tn+1) c9).ownBlock=some b→(Value.slice At tn ct).ownBlock=some b∨wa.heap.size≤b:=fun b e=>by
         rcases hb9 with e8|e8
         ·exact .inl (e8▸e)
         ·rw [e8]at e;injection e with e;right;omega
        have sr9:SRow w9 (w.heap.size+1) (fun b=>(Value.slice A9 (tn+1) c9).ownBlock=some b) (.slice As' lm cs') Z' (stD L' Tm):=by
         have h0:=Xsra.out.touch t9 (fun b _ _ hx e=>hx e) (fun b e e'=>Xhapv.out b e e')
         have h1:=Xsra.out.mono (X':=fun b=>(Value.slice A9 (tn+1) c9).ownBlock=some b) (fun b e=>(hnew b e).imp id (fun e h=>by omega))
         refine⟨h0.own,h0.len,fun i z d hz hd=> ?_⟩
         obtain⟨r1,r2⟩:=Xsra.out.it i z d hz hd
         have f1: ∀b,StF wa (w.heap.size+1) (fun b=>(Value.slice At tn ct).ownBlock=some b) (.slice As' lm cs') b→ ¬(Value.slice At tn ct).ownBlock=some b:=fun b hb=>hb.2.2.2
         have f2: ∀b,StF wa (w.heap.size+1) (fun b=>(Value.slice At tn ct).ownBlock=some b) (.slice As' lm cs') b→StF w9 (w.heap.size+1) (fun b=>(Value.slice A9 (tn+1) c9).ownBlock=some b) (.slice As' lm cs') b:=fun b hb=>⟨hb.1,Nat.lt_of_lt_of_le hb.2.1 t9.size,hb.2.2.1,fun e=>by
          rcases hnew b e with e|e
          ·exact hb.2.2.2 e
          ·have:=hb.2.1;omega⟩
         exact⟨(r1.touch t9 f1).mono f2,(r2.touch t9 f1).mono f2⟩
        have tt9:Touch (fun b=>(Value.slice (some ⟨gs,0,none⟩) ln cs).ownBlock=some b) w5 w9:=Xtta.out.trans t9 (fun b hb e=>by have:=hTl b e;omega)
        have hap9: ∀b,(Value.slice As' lm cs').ownBlock=some b→(Value.slice A9 (tn+1) c9).ownBlock≠some b:=fun b e e'=>by
         rcases hnew b e' with e''|e''
         ·exact Xhapv.out b e e''
         ·have:=(Xsra.out.own.lt b e).2;omega
        have htn9:tn+1=(t'++[((m:Int),(ix:Int))]).length:=by rw [List.length_append,←Xhtn.out];rfl
        have own9':w9.ownsRow w5.heap.size 53 2 (.slice A9 (tn+1) c9) (tn+1) (itCells (t'++[((m:Int),(ix:Int))])):=by rw [itCells_append];exact own9
        clear own9 g9 hb9 t9 hTl hnew hza hwa Xsra XownTa Xtta Xhone XownTr Xsza Xsrv XownTv Xttv Xhapv
        have Xsr9:=hide sr9;have Xtt9:=hide tt9;have Xhap9:=hide hap9;have Xhtn9:=hide htn9;have Xown9':=hide own9';clear sr9 tt9 hap9 htn9 own9'
        go_wp2_with fail
        go_roundw
        case rel=>exact⟨m+1,lm,tn+1,L',_,As',cs',Z',A9,c9,Xhlv.out,Xhtn9.out,by omega,by omega,by go_num,rfl,rfl,Xhrow2.out,Xsr9.out,Xown9'.out,Xtt9.out,Xhvsv.out,Xhap9.out⟩
        case measure=>simp [intOf];omega
       ·have hfk2:fk= -1:=by rw [Xhfk.out];unfold findK;rw [if_neg hin]
        subst hfk2
        have hrow2:=Xhrow2.out
        rw [putK_no hin,←Xhlm.out]at hrow2
        clear Xhrow2
        obtain⟨wb,hwb⟩: ∃q,q=w8.alloc (.cells #[.slice Ak' nk' ckk,.slice none 0 0] 48):=⟨_,rfl⟩
        have bb8:Below w8.heap.size w8 wb:=by rw [hwb];exact(Below.refl _ _).alloc (Nat.le_refl _) _
        have srb:=sr8.below bb8
        have ownTb:=own_below' ownT8 bb8
        have ttb:=tt8.trans' (Touch.of_size bb8 (fun b=>(Value.slice (some ⟨gs,0,none⟩) ln cs).ownBlock=some b))
        have rkb:=rk8.below bb8 (fun b hb=>Nat.lt_of_lt_of_le hb.2 hs8)
        have honeb:Rd wb (fun b=>b=w8.heap.size) (.slice (some ⟨w8.heap.size,0,none⟩) 1 1) 2 [.slice Ak' nk' ckk,.slice none 0 0]:=by rw [hwb];exact Rd.one' (w:=w8) (e:=48) [.slice Ak' nk' ckk,.slice none 0 0] 2 rfl
        have hzb:w.heap.size+1≤wb.heap.size:=by have:=ttb.size;omega
        have szb:wb.heap.size=w8.heap.size+1:=by rw [hwb];simp
        have hlZ:lm=Z'.length:=by rw [Xhlm.out,srb.len,stD_len]
        obtain⟨hcs1,hcs2⟩:lm≤cs'∧cs'≤maxLen:=by
         obtain⟨A0,c0,e0,h1,h2⟩:=ownsRow_shape srb.own
         injection e0 with _ _ e3
         rw [←hlZ,←e3]at h1
         rw [←e3]at h2
         exact⟨h1,h2⟩
        unfold maxLen at hcs2
        have ownSb:=srb.own
        rw [←hlZ]at ownSb
        rw [hwb]at ownSb honeb hzb
        clear bb8 sr8 ownT8 tt8 rk8
        have Xsrb:=hide srb;have XownTb:=hide ownTb;have Xttb:=hide ttb;have Xrkb:=hide rkb;have Xhoneb:=hide honeb;have XownSb:=hide ownSb;have Xszb:=hide szb;have XhlZ:=hide hlZ;have Xhrow2:=hide hrow2;have Xhin:=hide hin;clear srb ownTb ttb rkb honeb ownSb szb hlZ hrow2 hin
        go_wp2_with (at_builtin;refine wp_append _ rfl (.tmp 54) (.tmp 57) _ rfl Tryz.elemState (w.heap.size+1) _ lm (stCells Z') rfl XownSb.out _ _ [.slice Ak' nk' ckk,.slice none 0 0] 1 rfl rfl Xhoneb.out (by simp [Value.oneCell']) (by unfold maxLen;omega) (by omega) hzb ?_)
        intro A8 c8 w10 own8 g8 hb8
        rw [←hwb]at g8
        rw [←Xszb.out]at hb8
        have hsv: ∀b,(Value.slice As' lm cs').ownBlock=some b→b<w6.heap.size:=Xhvl6.out
        have hkF:RdIt wb (StF wb (w.heap.size+1) (fun b=>(Value.slice At tn ct).ownBlock=some b) (.slice As' lm cs')) (.slice Ak' nk' ckk) kx:=Xrkb.out.mono (fun b hb=>by
         have h1:=hb.1
         have h2:=hb.2
         have h3:=Xszb.out
         refine⟨by omega,by omega,fun e=> ?_,fun e=> ?_⟩
         ·have:=hsv b e;omega
         ·have:=Xhul6.out b e;omega)
        have srv:=Xsrb.out.app (k:=kx) (kv:= .slice Ak' nk' ckk) (w':=w10) (A:=A8) (c:=c8) hkF (by rw [←XhlZ.out];exact own8) g8 (by rw [←XhlZ.out];exact hb8)
        rw [←XhlZ.out,←stD_snoc (by rw [Xblf.out.len];have:=Xhlm.out;have:=Xhvs;have:=Xrf.out.pre;obtain⟨e0,he0⟩:=this;rw [he0,List.length_append,←Xhln.out];omega)]at srv
        obtain⟨Zv,hZv⟩: ∃q,q=Z'++[(Value.slice Ak' nk' ckk,Value.slice none 0 0)]:=⟨_,rfl⟩
        rw [←hZv]at srv
        clear hZv
        have t10:Touch (fun b=>(Value.slice As' lm cs').ownBlock=some b) wb w10:=(Touch.refl _ _).grown g8 (fun b e _=>e)
        have ownTv:=t10.own XownTb.out (fun b hb e=>Xhap.out b e hb)
        have ttv:Touch (fun b=>(Value.slice (some ⟨gs,0,none⟩) ln cs).ownBlock=some b) w5 w10:=Xttb.out.trans t10 (fun b hb e=>by
         rcases Xhvs.out b e with e'|e'
         ·rw [e'];rfl
         ·omega)
        have hnew8: ∀b,(Value.slice A8 (lm+1) c8).ownBlock=some b→(Value.slice As' lm cs').ownBlock=some b∨wb.heap.size≤b:=fun b e=>by
         rcases hb8 with e8|e8
         ·exact .inl (e8▸e)
         ·rw [e8]at e;injection e with e;right;omega
        have hvsv: ∀b,(Value.slice A8 (lm+1) c8).ownBlock=some b→b=gs∨w5.heap.size≤b:=fun b e=>by
         rcases hnew8 b e with e|e
         ·exact Xhvs.out b e
         ·right;have:=Xszb.out;have:=Xttb.out.size;omega
        have hapv: ∀b,(Value.slice A8 (lm+1) c8).ownBlock=some b→(Value.slice At tn ct).ownBlock≠some b:=fun b e e'=>by
         rcases hnew8 b e with e|e
         ·exact Xhap.out b e e'
         ·have:=(XownTb.out.lt b e').2;omega
        have hlv:lm+1=(L'++[kx]).length:=by rw [List.length_append,←Xhlm.out];rfl
        clear own8 g8 hb8 t10 hnew8 hsv hkF hzb hwb Xsrb XownTb Xttb Xrkb Xhoneb XownSb Xszb
        have Xsrv:=hide srv;have XownTv:=hide ownTv;have Xttv:=hide ttv;have Xhvsv:=hide hvsv;have Xhapv:=hide hapv;have Xhlv:=hide hlv;clear srv ownTv ttv hvsv hapv hlv
        obtain⟨wa,hwa⟩: ∃q,q=w10.alloc (.cells #[.int .i64 (m:Int),.int .i64 (lm:Int)] 53):=⟨_,rfl⟩
        have ba:Below w10.heap.size w10 wa:=by rw [hwa];exact(Below.refl _ _).alloc (Nat.le_refl _) _
        have sra:=Xsrv.out.below ba
        have ownTa:=own_below' XownTv.out ba
        have tta:=Xttv.out.trans' (Touch.of_size ba (fun b=>(Value.slice (some ⟨gs,0,none⟩) ln cs).ownBlock=some b))
        have hone:RdIt wa (fun b=>b=w10.heap.size) (.slice (some ⟨w10.heap.size,0,none⟩) 1 1) [((m:Int),(lm:Int))]:=by rw [hwa];exact RdIt.one (w:=w10) (e:=53) ((m:Int),(lm:Int))
        have hza:w5.heap.size≤wa.heap.size:=tta.size
        have sza:wa.heap.size=w10.heap.size+1:=by rw [hwa];simp
        obtain⟨-,hct1,hct2,-⟩:=RdIt.at_ (Rd.of_own ownTa)
        unfold maxLen at hct2
        have ownTr:=ownTa
        rw [hwa]at ownTr hone hza
        clear ba
        have Xsra:=hide sra;have XownTa:=hide ownTa;have Xtta:=hide tta;have Xhone:=hide hone;have XownTr:=hide ownTr;have Xsza:=hide sza;clear sra ownTa tta hone ownTr sza
        go_wp2_with (at_builtin;refine wp_append _ rfl (.tmp 59) (.tmp 63) _ rfl Tryz.elemTrans w5.heap.size _ tn (itCells t') rfl XownTr.out _ _ [I64 (m:Int),I64 (lm:Int)] 1 rfl rfl Xhone.out (itCells_one [((m:Int),(lm:Int))]) (by unfold maxLen;omega) (by omega) hza ?_)
        intro A9 c9 w9 own9 g9 hb9
        rw [←hwa]at g9
        rw [←Xsza.out]at hb9
        have hTl:=fun b e=>XownTa.out.lt b e
        have t9:Touch (fun b=>(Value.slice At tn ct).ownBlock=some b) wa w9:=(Touch.refl _ _).grown g9 (fun b e _=>e)
        have hnew: ∀b,(Value.slice A9 (tn+1) c9).ownBlock=some b→(Value.slice At tn ct).ownBlock=some b∨wa.heap.size≤b:=fun b e=>by
         rcases hb9 with e8|e8
         ·exact .inl (e8▸e)
         ·rw [e8]at e;injection e with e;right;omega
        have sr9:SRow w9 (w.heap.size+1) (fun b=>(Value.slice A9 (tn+1) c9).ownBlock=some b) (.slice A8 (lm+1) c8) Zv (stD (L'++[kx]) Tm):=by
         have h0:=Xsra.out.touch t9 (fun b _ _ hx e=>hx e) (fun b e e'=>Xhapv.out b e e')
         have h1:=Xsra.out.mono (X':=fun b=>(Value.slice A9 (tn+1) c9).ownBlock=some b) (fun b e=>(hnew b e).imp id (fun e h=>by omega))
         refine⟨h0.own,h0.len,fun i z d hz hd=> ?_⟩
         obtain⟨r1,r2⟩:=Xsra.out.it i z d hz hd
         have f1: ∀b,StF wa (w.heap.size+1) (fun b=>(Value.slice At tn ct).ownBlock=some b) (.slice A8 (lm+1) c8) b→ ¬(Value.slice At tn ct).ownBlock=some b:=fun b hb=>hb.2.2.2
         have f2: ∀b,StF wa (w.heap.size+1) (fun b=>(Value.slice At tn ct).ownBlock=some b) (.slice A8 (lm+1) c8) b→StF w9 (w.heap.size+1) (fun b=>(Value.slice A9 (tn+1) c9).ownBlock=some b) (.slice A8 (lm+1) c8) b:=fun b hb=>⟨hb.1,Nat.lt_of_lt_of_le hb.2.1 t9.size,hb.2.2.1,fun e=>by
          rcases hnew b e with e|e
          ·exact hb.2.2.2 e
          ·have:=hb.2.1;omega⟩
         exact⟨(r1.touch t9 f1).mono f2,(r2.touch t9 f1).mono f2⟩
        have tt9:Touch (fun b=>(Value.slice (some ⟨gs,0,none⟩) ln cs).ownBlock=some b) w5 w9:=Xtta.out.trans t9 (fun b hb e=>by have:=hTl b e;omega)
        have hap9: ∀b,(Value.slice A8 (lm+1) c8).ownBlock=some b→(Value.slice A9 (tn+1) c9).ownBlock≠some b:=fun b e e'=>by
         rcases hnew b e' with e''|e''
         ·exact Xhapv.out b e e''
         ·have:=(Xsra.out.own.lt b e).2;omega
        have htn9:tn+1=(t'++[((m:Int),(lm:Int))]).length:=by rw [List.length_append,←Xhtn.out];rfl
        have own9':w9.ownsRow w5.heap.size 53 2 (.slice A9 (tn+1) c9) (tn+1) (itCells (t'++[((m:Int),(lm:Int))])):=by rw [itCells_append];exact own9
        clear own9 g9 hb9 t9 hTl hnew hza hwa Xsra XownTa Xtta Xhone XownTr Xsza Xsrv XownTv Xttv Xhapv
        have Xsr9:=hide sr9;have Xtt9:=hide tt9;have Xhap9:=hide hap9;have Xhtn9:=hide htn9;have Xown9':=hide own9';clear sr9 tt9 hap9 htn9 own9'
        go_wp2_with fail
        go_roundw
        case rel=>exact⟨m+1,(lm+1),tn+1,(L'++[kx]),_,A8,c8,Zv,A9,c9,Xhlv.out,Xhtn9.out,by omega,by omega,by go_num,rfl,rfl,Xhrow2.out,Xsr9.out,Xown9'.out,Xtt9.out,Xhvsv.out,Xhap9.out⟩
        case measure=>simp [intOf];omega
     ·have hle': ¬(m:Int)≤(p:Int):=by omega
      have hmp:m - 1=p:=by omega
      have hrow':=Xhrow.out
      rw [hmp]at hrow'
      rw [Xhp.out]at hrow'
      have hrow1:(rowA G st kern L (topOf G)).1=L':=by rw [←hrow']
      have hrow2:(rowA G st kern L (topOf G)).2=t':=by rw [←hrow']
      obtain⟨e0,he0⟩:=Xrf.out.pre
      have hkern':L'[k]? =some kern:=by
       rw [he0,List.getElem?_append_left (List.getElem?_eq_some_iff.1 Xhkern.out).1];exact Xhkern.out
      have hdk':(stD L' Tm)[k]? =some (kern,[]):=by rw [stD_get,hkern',List.getElem?_eq_none (by rw [Xblf.out.len];exact Nat.le_refl _)];rfl
      have hk2:k<lm:=by rw [Xhlm.out];exact(List.getElem?_eq_some_iff.1 hkern').1
      have srn6:SRow w6 (w.heap.size+1) NoX (.slice As' lm cs') Z' (stD L' Tm):=sr6.mono (fun b e=>e.elim)
      obtain⟨hnZ',hsc',hsm',gs',z',rfl,hg1',hg2',hz',-,-,cz2,fz2,-,-⟩:=srn6.at_ hdk'
      unfold maxLen at hsm'
      have hownS:=srn6.own
      rw [←hnZ']at hownS
      have own9:=own_put hownS (j:=k * 2+1) (by
       rw [stCells_len]
       have:=(List.getElem?_eq_some_iff.1 hz').1
       omega) (.slice At tn ct)
      have t9:Touch (fun b=>(Value.slice (some ⟨gs',0,none⟩) lm cs').ownBlock=some b) w6 (w6.setCell ⟨gs',k * 2+1,none⟩ (.slice At tn ct)):=(Touch.refl (fun b=>(Value.slice (some ⟨gs',0,none⟩) lm cs').ownBlock=some b) w6).setCell (p:=⟨gs',k * 2+1,none⟩) (fun _=>rfl) _
      rw [←stCells_set (Z:=Z') (i:=k) (p:=z') _ hz']at own9
      have hrdT:RdIt (w6.setCell ⟨gs',k * 2+1,none⟩ (.slice At tn ct)) (StF (w6.setCell ⟨gs',k * 2+1,none⟩ (.slice At tn ct)) (w.heap.size+1) NoX (.slice (some ⟨gs',0,none⟩) lm cs')) (.slice At tn ct) t':=by
       refine((Rd.of_own ownT6).touch t9 (fun b hb e=>Xhap.out b e hb)).mono (fun b hb=>⟨?_,?_,fun e=>Xhap.out b e hb,fun e=>e⟩)
       ·have:=(ownT6.lt b hb).1;omega
       ·exact Nat.lt_of_lt_of_le (ownT6.lt b hb).2 t9.size
      have hnZ2:lm=Z'.length:=hnZ'
      have srn9:=srn6.setT hz' hdk' (by rw [←hnZ2];exact own9) t9 hrdT
      have hstn:(stD L' Tm).set k ((kern,([]:List It)).1,t')=stD L' (Tm++[t']):=by
       have:=stD_next (L:=L') (T:=Tm) (k:=kern) (by rw [Xblf.out.len];exact hkern') t'
       rw [Xblf.out.len]at this
       exact this.symm
      rw [hstn]at srn9
      obtain⟨Zn,hZn⟩: ∃q,q=Z'.set k (z'.1,Value.slice At tn ct):=⟨_,rfl⟩
      rw [←hZn]at srn9
      have tt9:Touch (fun b=>(Value.slice (some ⟨gs,0,none⟩) ln cs).ownBlock=some b) w5 (w6.setCell ⟨gs',k * 2+1,none⟩ (.slice At tn ct)):=tt6.trans t9 (fun b hb e=>by
       rcases Xhvs.out b e with e'|e'
       ·rw [e'];rfl
       ·omega)
      have hS9: ∀b,(fun b=>(Value.slice (some ⟨gs,0,none⟩) ln cs).ownBlock=some b) b→w.heap.size<b:=fun b e=>by have:=Xhown1.out b e;omega
      have gn9:=Xg5.out.touch' tt9 (fun b hb e=>by have:=hS9 b e;have:=XhF.out b hb;omega) (fun e=>by have:=hS9 _ e;omega)
      have bbn9:=tt9.toBelow (B:=w.heap.size) (fun b e=>Nat.le_of_lt (hS9 b e)) Xbb5.out Xbb5.out.size
      have hll:lm≤3000:=by omega
      clear hrow' hkern' hdk' srn6 hz' own9 t9 hrdT hstn hZn sr6 ownT6 tt6 g6 tt9 hS9 he0 hnZ' hownS
      by_cases hmany:2000<lm
      ·have hmany':(2000:Int)<(lm:Int):=by omega
       have hau:=Auto.many k L Tm kern Xbl.out Xhkern.out (by rw [hrow1,←Xhlm.out];exact hmany)
       have Xhrow1:=hide hrow1;have Xhrow2:=hide hrow2;have Xsrn9:=hide srn9;have Xgn9:=hide gn9;have Xbbn9:=hide bbn9;have Xhau:=hide hau;have XhnZ2:=hide hnZ2;clear hrow1 hrow2 srn9 gn9 bbn9 hau hnZ2
       go_wp2_with fail
       go_ret2
       exact⟨Xbbn9.out,.inr (.inl ⟨rfl,Xhau.out,rfl⟩)⟩
      ·have hmany': ¬(2000:Int)<(lm:Int):=by omega
       have hnx:=Bld.next k L Tm kern Xbl.out Xhkern.out (by rw [hrow1,←Xhlm.out];omega)
       rw [hrow1,hrow2]at hnx
       have Xhrow1:=hide hrow1;have Xhrow2:=hide hrow2;have Xsrn9:=hide srn9;have Xgn9:=hide gn9;have Xbbn9:=hide bbn9;have Xhnx:=hide hnx;have XhnZ2:=hide hnZ2;clear hrow1 hrow2 srn9 gn9 bbn9 hnx hnZ2
       go_wp2_with fail
       go_roundw
       case rel=>exact⟨k+1,lm,L',Tm++[t'],_,cs',Zn,Xhlm.out,by go_num,rfl,Xsrn9.out,Xhnx.out,Xgn9.out,Xbbn9.out⟩
       case measure=>simp [intOf];omega
   ·have hlt': ¬(k:Int)<(ln:Int):=by omega
    have hkl:k=ln:=by have:=blf.le;omega
    have hau:Auto G st (some (L,Tm)):=Auto.ok L Tm (by rw [←hln,←hkl];exact bl)
    have hrd:=sr.rd.mono (F':=fun b=>w.heap.size≤b∧b<wr.heap.size) (fun b hb=>by have:=hb.1;exact⟨by omega,hb.2⟩)
    clear sr bl blf
    have Xhau:=hide hau;have Xhrd:=hide hrd;have Xg:=hide g;have Xbb:=hide bb;have Xhln:=hide hln;have Xhkl:=hide hkl;clear hau hrd g bb hln hkl
    go_wp2_with fail
    go_ret2
    exact⟨Xbb.out,.inr (.inr ⟨rfl,L,Tm,_,_,_,Xhau.out,rfl,Xhrd.out⟩)⟩
 ·have hne:(ck !=0)=true:=by simpa using hc0
  clear g2
  have Xhc0:=hide hc0;have Xbb2:=hide bb2;clear hc0 bb2
  go_wp2_with fail
  go_ret2
  exact⟨Xbb2.out,.inl ⟨Xhc0.out,rfl⟩⟩
end
end Go.Proofs.YtalbfonkhpeajaaGreat
namespace Go.Proofs.YtalbfonkhpeajaaGreat
set_option linter.unusedVariables false
section
set_option linter.unusedSimpArgs false
open Go.RowKit
attribute [local irreducible] wpStill wpOne wpPh
def wayTo (t:List It) (s:Int):Int:=match t.find? (fun x=>decide (x.1=s))with|some x=>x.2|none=> -1
theorem wayTo_yes: ∀{t:List It} {s:Int} {i:Nat} {x:It},t[i]? =some x→x.1=s→(∀(j:Nat) y,j<i→t[j]? =some y→y.1≠s)→wayTo t s=x.2
 |[],_,_,_,h,_,_=>by simp at h
 |y::r,s,0,x,h,hx,_=>by
  simp at h
  subst h
  unfold wayTo
  rw [List.find?_cons_of_pos (by simpa using hx)]
 |y::r,s,i+1,x,h,hx,hno=>by
  have h1:=hno 0 y (by omega) rfl
  have:=wayTo_yes (t:=r) (s:=s) (i:=i) (x:=x) (by simpa using h) hx (fun j z hj hz=>hno (j+1) z (by omega) (by simpa using hz))
  unfold wayTo at this⊢
  rw [List.find?_cons_of_neg (by simpa using h1)]
  exact this
theorem wayTo_no {t:List It} {s:Int} (h: ∀(j:Nat) y,t[j]? =some y→y.1≠s):wayTo t s= -1:=by
 unfold wayTo
 rw [List.find?_eq_none.2]
 intro x hx
 obtain⟨j,hj,e⟩:=List.getElem_of_mem hx
 have:=h j x (by rw [List.getElem?_eq_getElem hj,e])
 simpa using this
def gotoD (D:List (List It×List It)) (i s:Int):Int:=if i<0∨(D.length:Int)≤i then -1 else match D[i.toNat]? with|some d=>wayTo d.2 s|none=> -1
theorem gotoD_out {D:List (List It×List It)} {i s:Int} (h:i<0∨(D.length:Int)≤i):gotoD D i s= -1:=if_pos h
theorem gotoD_in {D:List (List It×List It)} {i:Nat} {s:Int} {d:List It×List It} (h:D[i]? =some d):gotoD D i s=wayTo d.2 s:=by
 have:=(List.getElem?_eq_some_iff.1 h).1
 unfold gotoD
 rw [if_neg (by omega),Int.toNat_natCast,h]
theorem rdst_shape {w:World} {F:Nat→Prop} {v:Value} {D:List (List It×List It)} (h:RdSt w F v D): ∃A n c,v= .slice A n c:=by
 obtain⟨Z,⟨A,n,c,h,-⟩,-⟩:=h
 exact⟨A,n,c,h⟩
set_option maxRecDepth 100000 in
set_option maxHeartbeats 2000000 in
theorem ref13_Goto {w:World} {F:Nat→Prop} {v:Value} {D:List (List It×List It)} (h:RdSt w F v D) (i s:Int):
  Calls Tryz.prog 61 #[v,.int .i64 i,.int .i64 s] w fun e w'=>e= .returned (.int .i64 (gotoD D i s))∧w=w':=by
 obtain⟨A,n,c,rfl⟩:=rdst_shape h
 obtain⟨hn,hnc,hcm,hcell⟩:=h.at_
 unfold maxLen at hcm
 obtain⟨r,hr⟩: ∃r,r=gotoD D i s:=⟨_,rfl⟩
 rw [←hr]
 by_cases h0:i<0
 ·have hv:r= -1:=hr.trans (gotoD_out (.inl h0))
  clear hr
  have Xh:=hide h;have Xhn:=hide hn;have Xhcell:=hide hcell;have Xhv:=hide hv;clear h hn hcell hv
  go_enter Tryz.func61,Tryz.ntmps61
  go_wp2_with fail
  go_ret
  exact⟨ret_int Xhv.out.symm,rfl⟩
 ·by_cases h1:(n:Int)≤i
  ·have hv:r= -1:=hr.trans (gotoD_out (.inr (by rw [←hn];exact h1)))
   clear hr
   have Xh:=hide h;have Xhn:=hide hn;have Xhcell:=hide hcell;have Xhv:=hide hv;clear h hn hcell hv
   go_enter Tryz.func61,Tryz.ntmps61
   go_wp2_with fail
   go_ret
   exact⟨ret_int Xhv.out.symm,rfl⟩
  ·obtain⟨k,rfl⟩:=Int.eq_ofNat_of_zero_le (by omega:0≤i)
   have hk:k<n:=by omega
   have hk':(k:Int)<(n:Int):=by omega
   obtain⟨b,off,rfl,hb,hcc⟩:=hcell (by omega)
   obtain⟨d,hd⟩: ∃x,D[k]? =some x:=⟨_,List.getElem?_eq_getElem (by rw [←hn];exact hk)⟩
   obtain⟨z1,z2,e1,e2,r1,r2⟩:=hcc k d hd
   obtain⟨A2,n2,c2,rfl,-⟩:=id r2
   obtain⟨hn2,hnc2,hcm2,hcell2⟩:=RdIt.at_ r2
   unfold maxLen at hcm2
   rw [gotoD_in hd]at hr
   have hyes: ∀(i:Nat) x,d.2[i]? =some x→x.1=s→(∀(j:Nat) y,j<i→d.2[j]? =some y→y.1≠s)→r=x.2:=fun i x a b c=>hr.trans (wayTo_yes a b c)
   have hno:(∀(j:Nat) y,d.2[j]? =some y→y.1≠s)→r= -1:=fun a=>hr.trans (wayTo_no a)
   clear hr hcc e1 r1 r2 hcell h
   have Xhn:=hide hn;have Xhd:=hide hd;have Xhn2:=hide hn2;have Xhyes:=hide hyes;have Xhno:=hide hno;have Xhcell2:=hide hcell2;have Xhb:=hide hb;clear hn hd hn2 hyes hno hcell2 hb
   go_enter Tryz.func61,Tryz.ntmps61
   go_wp2_with fail
   go_loop [7] (fun i=> ∃j:Nat,j≤n2∧i= .int .i64 j∧ ∀(q:Nat) y,q<j→d.2[q]? =some y→y.1≠s) (fun i=>n2 - (intOf i).toNat)
   case atStart=>exact⟨0,Nat.zero_le _,rfl,fun q y hq=>absurd hq (by omega)⟩
   case round=>
    obtain⟨j,hj,rfl,hq⟩:=hrel
    by_cases hlt:j<n2
    ·have hlt':(j:Int)<(n2:Int):=by omega
     obtain⟨b3,o3,rfl,-,hcc3⟩:=Xhcell2.out (by omega)
     obtain⟨⟨x0,x1⟩,hx⟩: ∃x,d.2[j]? =some x:=⟨_,List.getElem?_eq_getElem (by rw [←Xhn2.out];exact hlt)⟩
     obtain⟨p0,p1⟩:=hcc3 j _ hx
     simp only at p0 p1
     by_cases he:x0=s
     ·subst he
      have hv:=Xhyes.out j _ hx rfl hq
      simp only at hv
      clear hcc3
      have Xhx:=hide hx;have Xhq:=hide hq;have Xhv:=hide hv;clear hx hq hv
      go_wp2_with fail
      go_ret
      exact⟨ret_int Xhv.out.symm,rfl⟩
     ·have he':(x0==s)=false:=by simpa using he
      have hq2: ∀(q:Nat) y,q<j+1→d.2[q]? =some y→y.1≠s:=fun q y h1 h2=>by
       by_cases e:q=j
       ·subst e;rw [hx]at h2;injection h2 with h2;subst h2;exact he
       ·exact hq q y (by omega) h2
      clear hcc3
      have Xhx:=hide hx;have Xhq:=hide hq;have Xhq2:=hide hq2;have Xhe:=hide he;clear hx hq hq2 he
      go_wp2_with fail
      go_round
      case rel=>exact⟨j+1,by omega,by go_num,Xhq2.out⟩
      case measure=>simp [intOf];omega
    ·have hlt': ¬(j:Int)<(n2:Int):=by omega
     have hv:=Xhno.out (fun q y h2=>hq q y (by have:=(List.getElem?_eq_some_iff.1 h2).1;have:=Xhn2.out;omega) h2)
     have Xhq:=hide hq;have Xhv:=hide hv;clear hq hv
     go_wp2_with fail
     go_ret
     exact⟨ret_int Xhv.out.symm,rfl⟩
end
section
set_option linter.unusedSimpArgs false
open Go.RowKit
attribute [local irreducible] wpStill wpOne wpPh
set_option maxRecDepth 100000 in
set_option maxHeartbeats 2000000 in
theorem auto_Goto {w:World} {F:Nat→Prop} {v:Value} {D:List (List It×List It)} (h:RdSt w F v D) (hF: ∀b,F b→b<w.heap.size) (i s:Int):
  Calls Tryz.prog 92 #[v,.int .i64 i,.int .i64 s] w (Quiet w (.int .i64 (gotoD D i s))):=by
 obtain⟨A,n,c,rfl⟩:=rdst_shape h
 obtain⟨hn,hnc,hcm,hcell⟩:=h.at_
 unfold maxLen at hcm
 obtain⟨r,hr⟩: ∃r,r=gotoD D i s:=⟨_,rfl⟩
 rw [←hr]
 by_cases h0:i<0
 ·have hv:r= -1:=hr.trans (gotoD_out (.inl h0))
  clear hr
  have Xh:=hide h;have Xhn:=hide hn;have Xhcell:=hide hcell;have Xhv:=hide hv;have XhF:=hide hF;clear h hn hcell hv hF
  go_enter Tryz.func92,Tryz.ntmps92
  go_wp2_with fail
  go_ret
  exact⟨ret_int Xhv.out.symm,Below.refl _ _⟩
 ·by_cases h1:(n:Int)≤i
  ·have hv:r= -1:=hr.trans (gotoD_out (.inr (by rw [←hn];exact h1)))
   clear hr
   have Xh:=hide h;have Xhn:=hide hn;have Xhcell:=hide hcell;have Xhv:=hide hv;have XhF:=hide hF;clear h hn hcell hv hF
   go_enter Tryz.func92,Tryz.ntmps92
   go_wp2_with fail
   go_ret
   exact⟨ret_int Xhv.out.symm,Below.refl _ _⟩
  ·obtain⟨k,rfl⟩:=Int.eq_ofNat_of_zero_le (by omega:0≤i)
   have hk:k<n:=by omega
   have hk':(k:Int)<(n:Int):=by omega
   obtain⟨b,off,rfl,hb,hcc⟩:=hcell (by omega)
   obtain⟨d,hd⟩: ∃x,D[k]? =some x:=⟨_,List.getElem?_eq_getElem (by rw [←hn];exact hk)⟩
   obtain⟨z1,z2,e1,e2,r1,r2⟩:=hcc k d hd
   obtain⟨A2,n2,c2,rfl,-⟩:=id r2
   obtain⟨hn2,hnc2,hcm2,-⟩:=RdIt.at_ r2
   unfold maxLen at hcm2
   rw [gotoD_in hd]at hr
   have hyes: ∀(i:Nat) x,d.2[i]? =some x→x.1=s→(∀(j:Nat) y,j<i→d.2[j]? =some y→y.1≠s)→r=x.2:=fun i x a b c=>hr.trans (wayTo_yes a b c)
   have hno:(∀(j:Nat) y,d.2[j]? =some y→y.1≠s)→r= -1:=fun a=>hr.trans (wayTo_no a)
   clear hr hcc e1 r1 hcell h
   have Xhn:=hide hn;have Xhd:=hide hd;have Xhn2:=hide hn2;have Xhyes:=hide hyes;have Xhno:=hide hno;have Xr2:=hide r2;have Xhb:=hide hb;have XhF:=hide hF;clear hn hd hn2 hyes hno r2 hb hF
   go_enter Tryz.func92,Tryz.ntmps92
   go_wp2_with fail
   go_loopw [23] (fun i wr=> ∃j:Nat,j≤n2∧i= .int .i64 j∧Below w.heap.size w wr∧ ∀(q:Nat) y,q<j→d.2[q]? =some y→y.1≠s) (fun i _=>n2 - (intOf i).toNat)
   case atStart=>exact⟨0,Nat.zero_le _,rfl,Below.refl _ _,fun q y hq=>absurd hq (by omega)⟩
   case round=>
    clear e2
    obtain⟨j,hj,rfl,le,hq⟩:=hrel
    by_cases hlt:j<n2
    ·have hlt':(j:Int)<(n2:Int):=by omega
     obtain⟨-,-,-,hcell2⟩:=RdIt.at_ (Xr2.out.below le XhF.out)
     obtain⟨b3,o3,rfl,-,hcc3⟩:=hcell2 (by omega)
     obtain⟨⟨x0,x1⟩,hx⟩: ∃x,d.2[j]? =some x:=⟨_,List.getElem?_eq_getElem (by rw [←Xhn2.out];exact hlt)⟩
     obtain⟨p0,p1⟩:=hcc3 j _ hx
     simp only at p0 p1
     have le2:=le.alloc le.size (.cells #[.int .i64 x0,.int .i64 x1] 53)
     by_cases he:x0=s
     ·subst he
      have hv:=Xhyes.out j _ hx rfl hq
      simp only at hv
      clear hcc3 hcell2
      have Xhx:=hide hx;have Xhq:=hide hq;have Xhv:=hide hv;have Xle:=hide le;have Xle2:=hide le2;clear hx hq hv le le2
      go_wp2_with fail
      go_ret
      exact⟨ret_int Xhv.out.symm,Xle2.out⟩
     ·have he':(x0==s)=false:=by simpa using he
      have hq2: ∀(q:Nat) y,q<j+1→d.2[q]? =some y→y.1≠s:=fun q y h1 h2=>by
       by_cases e:q=j
       ·subst e;rw [hx]at h2;injection h2 with h2;subst h2;exact he
       ·exact hq q y (by omega) h2
      clear hcc3 hcell2
      have Xhx:=hide hx;have Xhq:=hide hq;have Xhq2:=hide hq2;have Xhe:=hide he;have Xle:=hide le;have Xle2:=hide le2;clear hx hq hq2 he le le2
      go_wp2_with fail
      go_roundw
      case rel=>exact⟨j+1,by omega,by go_num,Xle2.out,Xhq2.out⟩
      case measure=>simp [intOf];omega
    ·have hlt': ¬(j:Int)<(n2:Int):=by omega
     have hv:=Xhno.out (fun q y h2=>hq q y (by have:=(List.getElem?_eq_some_iff.1 h2).1;have:=Xhn2.out;omega) h2)
     have Xhq:=hide hq;have Xhv:=hide hv;have Xle:=hide le;clear hq hv le
     go_wp2_with fail
     go_ret
     exact⟨ret_int Xhv.out.symm,Xle.out⟩
end
section
set_option linter.unusedSimpArgs false
open Go.RowKit
attribute [local irreducible] wpStill wpOne wpPh
end
end Go.Proofs.YtalbfonkhpeajaaGreat

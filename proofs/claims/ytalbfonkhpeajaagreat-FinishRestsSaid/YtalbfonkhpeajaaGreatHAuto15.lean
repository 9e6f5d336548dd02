/- The automaton: Build. -/
import Derived.Test.YtalbfonkhpeajaaGreatHAuto11
import Derived.Test.YtalbfonkhpeajaaGreatHItemPlain
import Derived.Test.YtalbfonkhpeajaaGreatHRegion
import Derived.Test.YtalbfonkhpeajaaGreatHAuto16
import Derived.Test.YtalbfonkhpeajaaGreatHG7
import Derived.Test.YtalbfonkhpeajaaGreatHRoute1
import Derived.Lib.SliceRun
import Derived.Deep.Cut
import Derived.Deep.CutRange
import Derived.Test.YtalbfonkhpeajaaGreatHFin7
namespace Go.Proofs.YtalbfonkhpeajaaGreat
set_option linter.unusedVariables false
set_option linter.unusedSimpArgs false
open Go.RowKit Go.Maps
attribute [local irreducible] wpStill wpOne wpPh
set_option maxRecDepth 100000 in
set_option maxHeartbeats 16000000 in
theorem auto_build {w:World} {F:Nat→Prop} {vt vn vr:Value} {G:GramD} (h:IsGram w F vt vn vr G) (hF: ∀b,F b→b<w.heap.size) (st:Int):
  Calls Tryz.prog 17 #[GV vt vn vr st] w (AutoPost w G st (checkOf G st)):=by
 obtain⟨A1,c1,A2,c2,A3,c3,rfl,rfl,rfl,-⟩:=h.slices
 obtain⟨w1,hw1⟩: ∃w1,w1=w.alloc (.cells #[.slice A1 G.terms.length c1,.slice A2 G.nons.length c2,.slice A3 G.rules.length c3,.int .i64 st] 25):=⟨_,rfl⟩
 have g1:=GBox.new h st
 have b1:Below w.heap.size w w1:=by rw [hw1];exact(Below.refl _ w).alloc (Nat.le_refl _) _
 have hz1:w1.heap.size=w.heap.size+1:=by rw [hw1];simp
 rw [←hw1]at g1
 have cc:=gram_check g1.gram st
 have cM:=fun wr (g:GBox wr F w.heap.size A1 c1 A2 c2 A3 c3 G.terms.length G.nons.length G.rules.length st G)=>item_Begin g.gram st
 have cT:=fun wr (g:GBox wr F w.heap.size A1 c1 A2 c2 A3 c3 G.terms.length G.nons.length G.rules.length st G)=>gram_top g.gram st
 obtain⟨q0,q1,q2,q3⟩:=g1.cells
 have hK0:checkOf G st=0→KnA G st:=KnA.of_check
 have hmay:checkOf G st=0→mayB G st=true:=fun e=>decide_eq_true e
 obtain⟨ck,hck⟩: ∃q,q=checkOf G st:=⟨_,rfl⟩
 rw [←hck]at cc hK0 hmay⊢
 have htop:topOf G=G.terms.length+G.nons.length:=rfl
 obtain⟨p,hp⟩: ∃p,p=topOf G:=⟨_,rfl⟩
 rw [←hp]at htop cT
 obtain⟨T,hT⟩: ∃q,q=G.terms.length:=⟨_,rfl⟩
 obtain⟨N,hN⟩: ∃q,q=G.nons.length:=⟨_,rfl⟩
 obtain⟨R,hR⟩: ∃q,q=G.rules.length:=⟨_,rfl⟩
 rw [←hT,←hN,←hR]at g1 cM cT
 rw [←hT]at q0
 rw [←hN]at q1
 rw [←hR]at q2
 rw [←hT,←hN]at htop
 rw [←hT,←hN,←hR]at hw1 cc
 rw [hw1]at cc q0 q1 q2 q3
 rw [←hT,←hN,←hR]
 have hmm:= @run_makeMap Tryz.prog
 clear h
 have Xg1:=hide g1;have Xb1:=hide b1;have Xhz1:=hide hz1;have Xcc:=hide cc;have XcM:=hide cM;have XcT:=hide cT;have XhK0:=hide hK0;have Xhmay:=hide hmay;have Xhck:=hide hck;have Xhtop:=hide htop;have Xhp:=hide hp;have XhT:=hide hT;have XhN:=hide hN;have XhR:=hide hR;have XhF:=hide hF;clear g1 b1 hz1 cc cM cT hK0 hmay hck htop hp hT hN hR hF
 go_enter Tryz.func17,Tryz.ntmps17
 go_wp2_with fail
 with_reducible refine Xcc.out.mono ?_
 rintro e w2 ⟨rfl,b2⟩
 rw [←hw1]at b2
 have g2:=Xg1.out.below b2
 have bb2:=Xb1.out.trans (b2.mono Xb1.out.size)
 have hz2:w.heap.size<w2.heap.size:=by have:=b2.size;have:=Xhz1.out;omega
 clear hw1 q0 q1 q2 q3 b2 Xg1 Xb1 Xcc Xhz1
 by_cases hc0:ck=0
 ·subst hc0
  have hK:=XhK0.out (by first|rfl|trivial)
  have hm:=Xhmay.out (by first|rfl|trivial)
  have hpb:p≤240:=by have:=hK.t;have:=hK.n;have:=Xhtop.out;have:=XhT.out;have:=XhN.out;omega
  obtain⟨q0,q1,q2,q3⟩:=g2.cells
  -- the builder
  obtain⟨w5,hw5⟩: ∃q,q=((w2.alloc (.map #[] 0)).alloc (.map #[] 0)).alloc (.cells #[.slice A1 T c1,.slice A2 N c2,.slice A3 R c3,.int .i64 st,.slice none 0 0,.slice none 0 0,.map (some w2.heap.size),.map (some (w2.heap.size+1))] 101):=⟨_,rfl⟩
  have hB: ∃B,B=w2.heap.size+1+1∧Bd w5 F B A1 c1 A2 c2 A3 c3 T N R st G (.slice none 0 0) (.slice none 0 0) w2.heap.size (w2.heap.size+1)∧Below w2.heap.size w2 w5∧w5.heap.size=B+1∧w5.ownsMap Tryz.prog 9 (plainElem (H:=Unit) Tryz.prog 3) w2.heap.size 0 (.map [])∧w5.ownsMap Tryz.prog 104 (plainElem (H:=Unit) Tryz.prog 3) (w2.heap.size+1) 0 (.map []):=by
   obtain⟨w3,hw3⟩: ∃q,q=w2.alloc (.map #[] 0):=⟨_,rfl⟩
   obtain⟨w4,hw4⟩: ∃q,q=w3.alloc (.map #[] 0):=⟨_,rfl⟩
   rw [←hw3,←hw4]at hw5
   have s3:w3.heap.size=w2.heap.size+1:=by rw [hw3];simp
   have s4:w4.heap.size=w2.heap.size+1+1:=by rw [hw4];simp [s3]
   have s5:w5.heap.size=w2.heap.size+1+1+1:=by rw [hw5];simp [s4]
   have b3:Below w2.heap.size w2 w3:=by rw [hw3];exact(Below.refl _ _).alloc (Nat.le_refl _) _
   have b4:Below w3.heap.size w3 w4:=by rw [hw4];exact(Below.refl _ _).alloc (Nat.le_refl _) _
   have b5:Below w4.heap.size w4 w5:=by rw [hw5];exact(Below.refl _ _).alloc (Nat.le_refl _) _
   have b45:=b4.trans (b5.mono b4.size)
   have b35:=b3.trans (b45.mono b3.size)
   have k5:Blk w5 (w2.heap.size+1+1) 101 #[.slice A1 T c1,.slice A2 N c2,.slice A3 R c3,.int .i64 st,.slice none 0 0,.slice none 0 0,.map (some w2.heap.size),.map (some (w2.heap.size+1))]:=by rw [hw5,←s4];exact Blk.new _ _ _
   have m3:w3.ownsMap Tryz.prog 9 (plainElem (H:=Unit) Tryz.prog 3) w2.heap.size 0 (.map []):=by rw [hw3];exact World.ownsMap_made w2 Tryz.prog 9 (plainElem (H:=Unit) Tryz.prog 3)
   have m4:w4.ownsMap Tryz.prog 104 (plainElem (H:=Unit) Tryz.prog 3) (w2.heap.size+1) 0 (.map []):=by rw [hw4,←s3];exact World.ownsMap_made w3 Tryz.prog 104 (plainElem (H:=Unit) Tryz.prog 3)
   exact⟨_,rfl,⟨g2.gram.below b35,k5⟩,b35,s5,(Touch.of_size b45 (fun _=>False)).ownsMap m3 (fun e=>e),(Touch.of_size b5 (fun _=>False)).ownsMap m4 (fun e=>e)⟩
  obtain⟨_,rfl,bd5,b5,hz5,mp1,mp2⟩:=hB
  have g5:=g2.below b5
  have bb5:=bb2.trans (b5.mono bb2.size)
  have hFw:=XhF.out
  have cp:=auto_prepare bd5 (fun e=>by have:=hFw _ e;omega) (by rw [XhT.out]) hK.n hK.t hK.r
  rw [hw5]at cp
  clear g2 bb2
  have XhK:=hide hK;have Xhm:=hide hm;have Xbd5:=hide bd5;have Xb5:=hide b5;have Xg5:=hide g5;have Xbb5:=hide bb5;have Xhz5:=hide hz5;have Xmp1:=hide mp1;have Xmp2:=hide mp2;have Xcp:=hide cp;have XhFw:=hide hFw;clear hK hm bd5 b5 g5 bb5 hz5 mp1 mp2 cp hFw
  go_wp2_with fail
  refine Xcp.out.mono ?_
  rintro e w6 ⟨rfl,Pb,cb,rb,Lb,hPb,hcb1,hcb2,bd6,rows6,hbe,t6⟩
  rw [←hw5]at t6 hPb
  have s56:=t6.size
  have hz5:=Xhz5.out
  have g6:=Xg5.out.touch' t6 (fun b hb e=>by have:=XhFw.out b hb;omega) (by omega)
  have mp16:=t6.ownsMap Xmp1.out (by omega)
  have mp26:=t6.ownsMap Xmp2.out (by omega)
  have bb6:=t6.toBelow (B:=w.heap.size) (fun b e=>by omega) Xbb5.out Xbb5.out.size
  rw [←Xhp.out]at hcb1 bd6 rows6 hbe
  have bui6:Bui w6 w6 F (w2.heap.size+1+1) A1 c1 A2 c2 A3 c3 T N R st G (.slice (some ⟨Pb,0,none⟩) (p+1) cb) (.slice none 0 0) w2.heap.size (w2.heap.size+1) [] [] []:=
   ⟨bd6,Touch.refl _ _,SRow.nil _ _ _,⟨_,mp16,AtMap.empty⟩,⟨_,0,mp26,ToMap.empty,Nat.zero_le _⟩,by omega,by omega,by omega,by omega,fun b hb=>by have:=XhFw.out b hb;exact⟨by omega,by omega,by omega,by omega⟩,fun z hz=>by cases hz⟩
  have cB:=XcM.out w6 g6
  rw [Xhm.out,if_pos rfl]at cB
  obtain⟨q0',q1',q2',q3'⟩:=g6.cells
  have hrows: ∀wr,Touch (fun b=>b=w2.heap.size+1+1∨b=w2.heap.size∨b=w2.heap.size+1) w6 wr→RowsI wr Pb Pb (p+1) rb Lb:=fun wr ht=>rows6.touch ht (by omega) (fun b h1 _ _ e=>by omega)
  clear q0 q1 q2 q3 hw5 hmm t6 mp16 mp26 bd6 rows6 Xcp Xmp1 Xmp2 Xbd5 Xb5 Xg5 Xbb5
  have Xg6:=hide g6;have Xbb6:=hide bb6;have Xbui6:=hide bui6;have XcB:=hide cB;have Xhrows:=hide hrows;have Xhbe:=hide hbe;clear g6 bb6 bui6 cB hrows hbe
  go_wp2_with fail
  refine XcB.out.mono ?_
  rintro e w7 ⟨Av,nv,cv,rfl,rv7,b7⟩
  have bui7:=Xbui6.out.below b7
  have g7:=Xg6.out.below b7
  have bb7:=Xbb6.out.trans (b7.mono Xbb6.out.size)
  have cs:=auto_state bui7 (rv7.mono (fun b hb=>⟨hb.1,hb.2,by simp [Value.ownBlock],fun e=>e⟩)) (fun x hx=>by
   obtain rfl:=List.mem_singleton.1 hx
   have:=XhK.out.r
   rw [←XhR.out]at this
   exact⟨⟨by simp only;omega,by simp only;omega⟩,by simp only;omega,by simp only;omega⟩) (fun q hq=>by cases hq) (by simp) (by simp)
  rw [putK_no (by simp)]at cs
  clear q0' q1' q2' q3' rv7 b7 XcB Xbui6 Xg6 Xbb6
  have Xbui7:=hide bui7;have Xg7:=hide g7;have Xbb7:=hide bb7;have Xcs:=hide cs;clear bui7 g7 bb7 cs
  go_wp2_with fail
  refine Xcs.out.mono ?_
  rintro e w8 ⟨rfl,vs8,Z8,bui8,t8,-⟩
  have hnl: ¬(Value.slice none 0 0).ownBlock=some w.heap.size:=by simp [Value.ownBlock]
  have g8:=Xg7.out.touch' t8 (fun b hb e=>by
   have:=XhFw.out b hb
   rcases e with e|e|e
   ·omega
   ·omega
   ·simp [Value.ownBlock]at e) (fun e=>by
   rcases e with e|e|e
   ·omega
   ·omega
   ·simp [Value.ownBlock]at e)
  have bb8:=t8.toBelow (B:=w.heap.size) (fun b e=>by
   rcases e with e|e|e
   ·omega
   ·omega
   ·simp [Value.ownBlock]at e) Xbb7.out Xbb7.out.size
  have bl8:=Bld.start (G:=G) (st:=st)
  rw [←XhR.out]at bl8
  clear t8 hnl Xbui7 Xg7 Xbb7 Xcs
  have Xbui8:=hide bui8;have Xg8:=hide g8;have Xbb8:=hide bb8;have Xbl8:=hide bl8;clear bui8 g8 bb8 bl8
  go_wp2_with fail
  go_loopw [6] (fun i wr=> ∃(k:Nat) (L Tm:List (List It)) (vs:Value) (Z:List (Value×Value)),i= .int .i64 k∧Bui w6 wr F (w2.heap.size+1+1) A1 c1 A2 c2 A3 c3 T N R st G (.slice (some ⟨Pb,0,none⟩) (p+1) cb) vs w2.heap.size (w2.heap.size+1) Z L Tm∧Bld G st k L Tm∧GBox wr F w.heap.size A1 c1 A2 c2 A3 c3 T N R st G∧Below w.heap.size w wr) (fun i _=>2001 - (intOf i).toNat)
  case atStart=>exact⟨0,_,[],_,_,rfl,Xbui8.out,Xbl8.out,Xg8.out,Xbb8.out⟩
  case round=>
   clear Xbui8 Xbl8 Xg8 Xbb8
   obtain⟨k,L,Tm,vs,Z,rfl,bui,bl,g,bb⟩:=hrel
   have blf:=bl.f
   have hsm:=blf.small
   obtain⟨As,cs,hvs,hsc,hsm2⟩:=ownsRow_shape bui.sr.own
   have hZL:Z.length=L.length:=by rw [bui.sr.len,stD_len]
   rw [hZL]at hvs hsc
   subst hvs
   unfold maxLen at hsm2
   obtain⟨ln,hln⟩: ∃q,q=L.length:=⟨_,rfl⟩
   rw [←hln]at hsm hsc
   have q5:=(bui.bd.blk.cell 5).trans rfl
   rw [←hln]at q5
   by_cases hlt:k<ln
   ·have hlt':(k:Int)<(ln:Int):=by omega
    obtain⟨kern,hkern⟩: ∃x,L[k]? =some x:=⟨_,List.getElem?_eq_getElem (by rw [←hln];exact hlt)⟩
    obtain⟨-,-,-,gs,z,rfl,hgs1,hgs2,hz,-,cz1,cz2,-,rz1,-⟩:=bui.sr.at_ (i:=k) (d:=(kern,[])) (by rw [stD_get,hkern];simp)
    obtain⟨Ak,nk,ck',hz1,-⟩:=id rz1
    obtain⟨zz1,zz2⟩:=z
    simp only at hz1 cz1 cz2 rz1
    subst hz1
    have hkm:=bl.by_ XhK.out kern (List.mem_of_getElem? hkern)
    have hbd:=bui.bd
    rw [Xhp.out]at hbd
    have cst:=auto_steps hbd (by rw [←Xhp.out];exact Xhrows.out wr bui.t0) (by rw [←Xhp.out];exact⟨hcb1,hcb2⟩) XhT.out (by rw [←Xhp.out];exact Xhbe.out) XhK.out rz1 (fun b hb=>hb.2.1) hkm.1 hkm.2.2
    rw [←Xhp.out]at cst
    clear hbd
    obtain⟨nkk,hnk⟩: ∃q,q=(kern.length:Nat):=⟨_,rfl⟩
    have Xbui:=hide bui;have Xbl:=hide bl;have Xblf:=hide blf;have Xg:=hide g;have Xbb:=hide bb;have XhZL:=hide hZL;have Xhln:=hide hln;have Xhkern:=hide hkern;have Xrz1:=hide rz1;have Xhkm:=hide hkm;have Xcst:=hide cst;have Xhz:=hide hz;clear bui bl blf g bb hZL hln hkern rz1 hkm cst hz
    go_wp2_with fail
    refine Xcst.out.mono ?_
    rintro e w9 ⟨Po,vo,rfl,hPo,rowso,b9⟩
    have bui9:=Xbui.out.below b9
    have g9:=Xg.out.below b9
    have bb9:=Xbb.out.trans (b9.mono Xbb.out.size)
    have hwr6:w6.heap.size≤wr.heap.size:=Xbui.out.t0.size
    have hgw:gs<wr.heap.size:=hgs2
    have hgs6:w6.heap.size≤gs:=hgs1
    have hs9:=b9.size
    have hr0:((L,[]):List (List It)×List It)=rowA G st kern L (0 - 1):=rfl
    have bui90:=bui9.row
    rw [←Xhln.out]at bui90
    have hown1: ∀b,(Value.slice (some ⟨gs,0,none⟩) ln cs).ownBlock=some b→b=gs:=fun b e=>by
     simp only [Value.ownBlock,Option.some.injEq]at e;exact e.symm
    clear bui9 b9 q5 cz1 cz2 Xbui Xg Xbb Xrz1 Xcst
    have Xbui90:=hide bui90;have Xg9:=hide g9;have Xbb9:=hide bb9;have Xrowso:=hide rowso;have Xhown1:=hide hown1;have Xhr0:=hide hr0;clear bui90 g9 bb9 rowso hown1 hr0
    go_wp2_with fail
    go_loopw [49] (fun i wr=> ∃(j:Nat) (L':List (List It)) (t':List It) (vs':Value) (Z':List (Value×Value)),j≤p+1∧i= .int .i64 j∧((L',t'):List (List It)×List It)=rowA G st kern L (j - 1)∧Bui w6 wr F (w2.heap.size+1+1) A1 c1 A2 c2 A3 c3 T N R st G (.slice (some ⟨Pb,0,none⟩) (p+1) cb) vs' w2.heap.size (w2.heap.size+1) Z' L' (Tm++[t'])∧Touch (fun b=>b=w2.heap.size+1+1∨b=w2.heap.size∨b=w2.heap.size+1∨(Value.slice (some ⟨gs,0,none⟩) ln cs).ownBlock=some b) w9 wr∧(∀b,vs'.ownBlock=some b→(Value.slice (some ⟨gs,0,none⟩) ln cs).ownBlock=some b∨w9.heap.size≤b)) (fun i _=>p+1 - (intOf i).toNat)
    case atStart=>exact⟨0,L,[],_,_,Nat.zero_le _,rfl,Xhr0.out,Xbui90.out,Touch.refl _ _,fun b e=> .inl e⟩
    case round=>
     clear Xbui90 Xhr0
     obtain⟨j,L',t',vs',Z',hj,rfl,hrow,bui,tt,hvs'⟩:=hrel
     have rf:=rowF G st kern Xblf.out.nodup (j - 1)
     rw [←hrow]at rf
     simp only at rf
     have hSrow: ∀b,Po≤b→b<w9.heap.size→ ¬(fun b=>b=w2.heap.size+1+1∨b=w2.heap.size∨b=w2.heap.size+1∨(Value.slice (some ⟨gs,0,none⟩) ln cs).ownBlock=some b) b:=fun b h1 h2 e=>by
      rcases e with e|e|e|e
      ·omega
      ·omega
      ·omega
      ·have:=Xhown1.out b e;omega
     by_cases hlt2:j<p+1
     ·have hlt2':(j:Int)<(p:Int)+1:=by omega
      have rowsr:=Xrowso.out.touch tt (hSrow Po (Nat.le_refl _) Xrowso.out.lt) (fun b h1 h2 _=>hSrow b h1 h2)
      have cj:=rowsr.cell j hlt2
      have rj:=rowsr.rd j hlt2
      obtain⟨Aj,nj,cj',hvj,-⟩:=id rj
      rw [hvj]at cj rj
      obtain⟨hnj,-⟩:=RdIt.at_ rj
      by_cases hnil:outI G st kern j=[]
      ·have hnj0:nj=0:=by rw [hnj,hnil];rfl
       subst hnj0
       have hrow2:((L',t'):List (List It)×List It)=rowA G st kern L (j+1 - 1):=by
        rw [hrow]
        cases j with
        |zero=>rfl
        |succ m=>
         rw [Nat.add_sub_cancel,Nat.add_sub_cancel,rowA_no]
         unfold outI at hnil
         rwa [if_neg (by omega)]at hnil
       clear rf hnj rowsr rj hrow
       have Xbui:=hide bui;have Xtt:=hide tt;have Xhvs':=hide hvs';have XhSrow:=hide hSrow;have Xhvj:=hide hvj;have Xhnil:=hide hnil;have Xhrow2:=hide hrow2;clear bui tt hvs' hSrow hvj hnil hrow2
       go_wp2_with fail
       go_roundw
       case rel=>exact⟨j+1,L',t',vs',Z',by omega,by go_num,Xhrow2.out,Xbui.out,Xtt.out,Xhvs'.out⟩
       case measure=>simp [intOf];omega
      ·have hj0:j≠0:=fun e=>hnil (by rw [e];rfl)
       obtain⟨m,hm⟩: ∃m,j=m+1:=⟨j - 1,by omega⟩
       have hout:outI G st kern j=nxI G st kern (j:Int):=by unfold outI;rw [if_neg hj0]
       have rjo:=(Xrowso.out.rd j hlt2).touch tt (fun b hb=>hSrow b hb.1 hb.2.1)
       rw [hvj,hout]at rjo
       have hnpos:0<nj:=by
        rw [hnj]
        exact List.length_pos_iff.2 hnil
       have hnpos':(0:Int)<(nj:Int):=by omega
       obtain⟨kx,hkx⟩: ∃q,q=nxI G st kern (j:Int):=⟨_,rfl⟩
       rw [←hkx]at rjo
       have hxb:=out_by XhK.out kern (j:Int)
       rw [←hkx]at hxb
       have buid:=bui.drew
       have rjd:RdIt wr.drew (StF wr.drew w6.heap.size NoX vs') (.slice Aj nj cj') kx:=(rjo.drew).mono (fun b hb=>⟨by omega,Nat.lt_of_lt_of_le hb.2.1 tt.size,fun e=>by
        rcases hvs' b e with e|e
        ·have:=Xhown1.out b e;omega
        ·omega,fun e=>e⟩)
       have hL'len:L'.length≤3000:=by have:=rf.len;rw [←Xhln.out]at this;omega
       have hLby: ∀q∈L',AllBy q:=fun q hq=>by
        rcases rf.kind q hq with hq|⟨s,e,-⟩
        ·exact(Xbl.out.by_ XhK.out q hq).2.1
        ·rw [e];exact(out_by XhK.out kern s).2.1
       have cs9:=auto_state buid rjd hxb.2.1 hLby (by omega) hxb.2.2
       obtain⟨pk,hpk⟩: ∃q,q=putK L' kx:=⟨_,rfl⟩
       rw [←hpk]at cs9
       have q7:=(bui.bd.blk.cell 7).trans rfl
       have hrow2:((pk.1,t'++[((j:Int),pk.2)]):List (List It)×List It)=rowA G st kern L (j+1 - 1):=by
        have e1:j - 1=m:=by omega
        have e2:j+1 - 1=m+1:=by omega
        rw [e1]at hrow
        rw [e2,rowA_yes (by rw [←hm,←hkx];intro e;exact hnil (by rw [hout,←hkx];exact e)),←hrow,←hm,←hkx,hpk]
       have hpk2:0≤pk.2∧pk.2≤3000:=by
        rw [hpk]
        unfold putK
        split
        ·rename_i hin
         have:=List.idxOf_lt_length_of_mem hin
         simp only
         omega
        ·simp only
         omega
       have hfresh: ∀x∈t',x.1≠(j:Int):=fun x hx=>by
        obtain⟨x1,x2⟩:=x
        have:=(rf.mem x1 x2 hx).2.1
        simp only
        omega
       have htl:=rf.tlen
       clear rf hnj rowsr rj hrow rjo hL'len hLby hxb buid rjd
       have Xbui:=hide bui;have Xtt:=hide tt;have Xhvs':=hide hvs';have XhSrow:=hide hSrow;have Xhvj:=hide hvj;have Xhnil:=hide hnil;have Xhrow2:=hide hrow2;have Xcs9:=hide cs9;have Xhkx:=hide hkx;have Xhpk:=hide hpk;have Xhout:=hide hout;have Xhfresh:=hide hfresh;have Xhm:=hide hm;clear bui tt hvs' hSrow hvj hnil hrow2 cs9 hkx hpk hout hfresh hm
       go_wp2_with fail
       refine region_late (fun W=>W.cell? ⟨w2.heap.size+1+1,7,none⟩=some (.map (some (w2.heap.size+1)))) 9 10 (by kernel_rfl) (by kernel_rfl) q7 ?_
       simp only [List.take_succ_cons,List.take_zero,List.drop_succ_cons,List.drop_zero]
       iterate 9
        refine wpHeld_cons ?_ (by rfl) (fun wS hwS=> ?_) ?_
        rotate_left
        ·(try dsimp only at hwS)
         go_simp
         all_goals with_reducible rfl
        simp only [Act.put,List.setIfInBounds_toArray,List.set_cons_zero,List.set_cons_succ]
       refine wpHeld_nil ?_
       refine wpMid_cons ?_
       go_wp2_with fail
       refine Xcs9.out.mono ?_
       rintro e w10 ⟨rfl,vs10,Z10,bui10,t10,hn10⟩
       have q7':=(bui10.bd.blk.cell 7).trans rfl
       obtain⟨D,nt,mm,hD,hnt⟩:=bui10.to_
       have hTl:Tm.length=k:=Xblf.out.len
       have hwp:WfI ((Tm.length:Int),(j:Int)):=⟨by simp only;omega,by simp only;omega⟩
       have hput:=hD.put («to»:=pk.2) hwp Xhfresh.out
       have hkey:=pkey_some hwp
       rw [hTl]at hkey hput
       have hsum:((Tm++[t'++[((j:Int),pk.2)]]).map List.length).sum=((Tm++[t']).map List.length).sum+1:=by simp;omega
       have hntm:nt<maxLen:=by
        have h1:=sum_le (Tm++[t']) 300 (fun x hx=>by
         rcases List.mem_append.1 hx with hx|hx
         ·have:=Xblf.out.tlen x hx
          have:=Xhp.out
          omega
         ·obtain rfl:=List.mem_singleton.1 hx
          omega)
        rw [List.length_append,List.length_singleton,hTl]at h1
        unfold maxLen
        omega
       have hwf:(Lit.int .i64 pk.2).wf=true:=wf_i64_mk (by omega)
       clear hwp hD hTl q7 Xcs9
       have Xbui10:=hide bui10;have Xt10:=hide t10;have Xhn10:=hide hn10;have Xhput:=hide hput;have Xhsum:=hide hsum;have Xhnt:=hide hnt;have Xhpk2:=hide hpk2;clear bui10 t10 hn10 hput hsum hnt hpk2
       go_wp2_with fail
       refine⟨q7',wpMid_nil ?_⟩
       clear q7'
       go_wp2_with (at_mapUpdate;refine wpList_mapUpdate_own _ rfl _ _ _ 98 rfl 104 3 Tryz.pairKeyed Tryz.underlying98 _ (w2.heap.size+1) nt D rfl mm hntm _ _ _ rfl rfl hkey _ [] (plainElem_int Tryz.underlying3 hwf) ?_)
       intro w11 m11 g11
       obtain⟨bui11,t11⟩:=Xbui10.out.way m11 Xhput.out g11 (by have:=Xhsum.out;have:=Xhnt.out;omega)
       have tt11:Touch (fun b=>b=w2.heap.size+1+1∨b=w2.heap.size∨b=w2.heap.size+1∨(Value.slice (some ⟨gs,0,none⟩) ln cs).ownBlock=some b) w9 w11:=(Xtt.out.trans (b:=wr) (c:=w10) ⟨Xt10.out.os,Xt10.out.tape,Xt10.out.output,Xt10.out.size,Xt10.out.block⟩ (fun i hi e=>by
        rcases e with e|e|e
        ·exact .inl e
        ·exact .inr (.inl e)
        ·rcases Xhvs'.out i e with e|e
         ·exact .inr (.inr (.inr e))
         ·omega)).trans t11 (fun i hi e=> .inr (.inr (.inl e)))
       have hvs11: ∀b,vs10.ownBlock=some b→(Value.slice (some ⟨gs,0,none⟩) ln cs).ownBlock=some b∨w9.heap.size≤b:=fun b e=>by
        rcases Xhn10.out b e with e|e
        ·exact Xhvs'.out b e
        ·right
         have:=Xtt.out.size
         have e':wr.heap.size≤b:=e
         omega
       clear m11 g11 t11 mm hkey hntm hwf Xbui10 Xt10 Xhn10 Xhput Xhsum Xhnt Xbui Xtt Xhvs'
       have Xbui11:=hide bui11;have Xtt11:=hide tt11;have Xhvs11:=hide hvs11;clear bui11 tt11 hvs11
       go_wp2_with fail
       refine NoPanic.normal ?_
       go_wp2_with fail
       go_roundw
       case rel=>exact⟨j+1,_,_,vs10,Z10,by omega,by go_num,Xhrow2.out,Xbui11.out,Xtt11.out,Xhvs11.out⟩
       case measure=>simp [intOf];omega
     ·have hlt2': ¬(j:Int)<(p:Int)+1:=by omega
      have hjp:j - 1=p:=by omega
      rw [hjp]at hrow
      have hTSF: ∀b,(fun b=>b=w2.heap.size+1+1∨b=w2.heap.size∨b=w2.heap.size+1∨(Value.slice (some ⟨gs,0,none⟩) ln cs).ownBlock=some b) b→w.heap.size<b:=fun b e=>by
       rcases e with e|e|e|e
       ·omega
       ·omega
       ·omega
       ·have:=Xhown1.out b e;omega
      have g10:=Xg9.out.touch' tt (fun b hb e=>by have:=hTSF b e;have:=XhFw.out b hb;omega) (fun e=>by have:=hTSF _ e;omega)
      have bb10:=tt.toBelow (B:=w.heap.size) (fun b e=>Nat.le_of_lt (hTSF b e)) Xbb9.out Xbb9.out.size
      obtain⟨As',cs',hvs2,hsc',hsm'⟩:=ownsRow_shape bui.sr.own
      have hZL':Z'.length=L'.length:=by rw [bui.sr.len,stD_len]
      rw [hZL']at hvs2 hsc'
      have q5':=(bui.bd.blk.cell 5).trans rfl
      obtain⟨l2,hl2⟩: ∃q,q=L'.length:=⟨_,rfl⟩
      rw [hvs2,←hl2]at q5'
      rw [←hl2]at hsc'
      unfold maxLen at hsm'
      rw [Xhp.out]at hrow
      have hrow1:(rowA G st kern L (topOf G)).1=L':=by rw [←hrow]
      have hrow2:(rowA G st kern L (topOf G)).2=t':=by rw [←hrow]
      have hll:l2≤3000:=by have:=rf.len;rw [←hl2,←Xhln.out]at this;omega
      clear rf hrow hSrow
      by_cases hmany:2000<l2
      ·have hmany':(2000:Int)<(l2:Int):=by omega
       have hau:=Auto.many k L Tm kern Xbl.out Xhkern.out (by rw [hrow1,←hl2];exact hmany)
       have Xbui:=hide bui;have Xtt:=hide tt;have Xhvs':=hide hvs';have Xhvs2:=hide hvs2;have Xhl2:=hide hl2;have Xhrow1:=hide hrow1;have Xhrow2:=hide hrow2;have Xg10:=hide g10;have Xbb10:=hide bb10;have Xhau:=hide hau;have XhZL':=hide hZL';have XhTSF:=hide hTSF;clear bui tt hvs' hvs2 hl2 hrow1 hrow2 g10 bb10 hau hZL' hTSF
       go_wp2_with fail
       go_ret2
       exact⟨Xbb10.out,.inr (.inl ⟨rfl,Xhau.out,rfl⟩)⟩
      ·have hmany': ¬(2000:Int)<(l2:Int):=by omega
       have hnx:=Bld.next k L Tm kern Xbl.out Xhkern.out (by rw [hrow1,←hl2];omega)
       rw [hrow1,hrow2]at hnx
       have Xbui:=hide bui;have Xtt:=hide tt;have Xhvs':=hide hvs';have Xhvs2:=hide hvs2;have Xhl2:=hide hl2;have Xhrow1:=hide hrow1;have Xhrow2:=hide hrow2;have Xg10:=hide g10;have Xbb10:=hide bb10;have Xhnx:=hide hnx;have XhZL':=hide hZL';have XhTSF:=hide hTSF;clear bui tt hvs' hvs2 hl2 hrow1 hrow2 g10 bb10 hnx hZL' hTSF
       go_wp2_with fail
       go_roundw
       case rel=>exact⟨k+1,L',Tm++[t'],vs',Z',by go_num,Xbui.out,Xhnx.out,Xg10.out,Xbb10.out⟩
       case measure=>simp [intOf];omega
   ·have hlt': ¬(k:Int)<(ln:Int):=by omega
    have hkl:k=ln:=by have:=blf.le;omega
    have hfirst:=blf.first
    obtain⟨-,-,-,gs,z0,rfl,hgs1,hgs2,-,-,-⟩:=bui.sr.at_ (i:=0) (d:=([((G.rules.length:Int),0)],[])) (by rw [stD_get,hfirst];simp)
    have hTl:Tm.length=ln:=by rw [blf.len,hkl]
    have hau:Auto G st (some (L,Tm)):=Auto.ok L Tm (by rw [←hln,←hkl];exact bl)
    have sr0:=bui.sr
    rw [show stD L []=stD L (Tm.take 0) by rw [List.take_zero],←hln]at sr0
    obtain⟨wz,hwz⟩: ∃q,q=wr:=⟨_,rfl⟩
    rw [←hln]at bui
    clear hfirst
    rw [←hwz]at sr0 bui g bb q5 hgs2⊢
    clear hwz
    have Xbui:=hide bui;have Xbl:=hide bl;have Xblf:=hide blf;have Xg:=hide g;have Xbb:=hide bb;have XhZL:=hide hZL;have Xhln:=hide hln;have XhTl:=hide hTl;have Xhau:=hide hau;have Xsr0:=hide sr0;have Xhkl:=hide hkl;clear bui bl blf g bb hZL hln hTl hau sr0 hkl
    go_wp2_with fail
    go_loopw [79] (fun i wr=> ∃(k:Nat) (Z':List (Value×Value)),k≤ln∧i= .int .i64 k∧SRow wr w6.heap.size NoX (.slice (some ⟨gs,0,none⟩) ln cs) Z' (stD L (Tm.take k))∧Touch (fun b=>b=gs) wz wr∧ ∀(j:Nat) z,k≤j→Z'[j]? =some z→z.2= .slice none 0 0) (fun i _=>ln - (intOf i).toNat)
    case atStart=>exact⟨0,Z,Nat.zero_le _,rfl,Xsr0.out,Touch.refl _ _,fun j z _ hz=>Xbui.out.nil z (List.mem_of_getElem? hz)⟩
    case round=>
     clear Xsr0 q5 hlt hlt'
     obtain⟨i,Zq,hi,rfl,sr,tz,hnils⟩:=hrel
     have hwz6:w6.heap.size≤wz.heap.size:=Xbui.out.t0.size
     by_cases hlt:i<ln
     ·have hlt':(i:Int)<(ln:Int):=by omega
      obtain⟨kern,hkern⟩: ∃x,L[i]? =some x:=⟨_,List.getElem?_eq_getElem (by rw [←Xhln.out];exact hlt)⟩
      obtain⟨tw,htw⟩: ∃x,Tm[i]? =some x:=⟨_,List.getElem?_eq_getElem (by rw [XhTl.out];exact hlt)⟩
      have hdq:(stD L (Tm.take i))[i]? =some (kern,[]):=by rw [stD_get,hkern,List.getElem?_eq_none (by rw [List.length_take];omega)];rfl
      obtain⟨hnz,-,-,gs',zq,hgs',-,-,hzq,-,cz1,cz2,fz2,-,-⟩:=sr.at_ hdq
      injection hgs' with hgs'
      injection hgs' with hgs'
      subst hgs'
      have hent:=Xblf.out.mem i tw kern htw hkern
      have hsort:=Xblf.out.sort tw (List.mem_of_getElem? htw)
      have htl:=Xblf.out.tlen tw (List.mem_of_getElem? htw)
      rw [←Xhp.out]at htl
      have hup0:uptoI tw 0=[]:=upto_zero (fun x hx=>(hent x.1 x.2 hx).1)
      have hupp:uptoI tw p=tw:=upto_all (fun x hx=>by have:=(hent x.1 x.2 hx).2.1;rw [Xhp.out];exact this)
      have hown:=sr.own
      rw [←hnz]at hown
      have hzn:=hnils i zq (Nat.le_refl _) hzq
      obtain⟨zq1,zq2⟩:=zq
      simp only at hzn cz1 cz2
      subst hzn
      obtain⟨wq,hwq⟩: ∃q,q=wr:=⟨_,rfl⟩
      rw [←hwq]at sr tz hown cz1 cz2 fz2⊢
      clear hwq
      have hown0:wq.ownsRow w6.heap.size 48 2 (.slice (some ⟨gs,0,none⟩) ln cs) ln (stCells (Zq.set i (zq1,.slice none 0 0))):=by rw [set_get hzq];exact hown
      have hgF: ∀b,F b→b≠gs:=fun b hb=>by have:=XhFw.out b hb;have h2:w6.heap.size≤gs:=hgs1;omega
      have hgB:w2.heap.size+1+1≠gs∧w2.heap.size+1≠gs∧w.heap.size≠gs:=by have h2:w6.heap.size≤gs:=hgs1;omega
      clear hown cz1 cz2 fz2
      have Xhnils:=hide hnils;clear hnils
      have Xq:=hide (show wz.heap.size≤wq.heap.size from tz.size)
      have Xsr:=hide sr;have Xtz:=hide tz;have Xhent:=hide hent;have Xhsort:=hide hsort;have Xhtl:=hide htl;have Xhup0:=hide hup0;have Xhupp:=hide hupp;have Xhown0:=hide hown0;have Xhzq:=hide hzq;have Xhnz:=hide hnz;have Xhdq:=hide hdq;have Xhkern:=hide hkern;have Xhtw:=hide htw;clear sr tz hent hsort htl hup0 hupp hown0 hzq hnz hdq hkern htw
      go_wp2_with fail
      go_loopw [10] (fun s wr=> ∃(m:Nat) (Au:Option Addr) (cu:Nat),1≤m∧m≤p+1∧s= .int .i64 (m:Int)∧wr.ownsRow w6.heap.size 48 2 (.slice (some ⟨gs,0,none⟩) ln cs) ln (stCells (Zq.set i (zq1,.slice Au (uptoI tw (m - 1)).length cu)))∧wr.ownsRow wq.heap.size 53 2 (.slice Au (uptoI tw (m - 1)).length cu) (uptoI tw (m - 1)).length (itCells (uptoI tw (m - 1)))∧Touch (fun b=>b=gs) wq wr) (fun s _=>p+2 - (intOf s).toNat)
      case atStart=>exact⟨1,none,0,Nat.le_refl _,by omega,by go_num,by rw [Nat.sub_self,Xhup0.out];exact Xhown0.out,by rw [Nat.sub_self,Xhup0.out];exact World.ownsRow_nil _ _ _ _,Touch.refl _ _⟩
      case round=>
       clear Xhown0
       obtain⟨m,Au,cu,hm1,hm,rfl,ownS,ownU,tq⟩:=hrel
       have gr:=Xg.out.touch' (Xtz.out.trans' tq) hgF hgB.2.2
       have ctt:=XcT.out wr gr
       obtain⟨q0,q1,q2,q3⟩:=gr.cells
       clear gr
       have XownS:=hide ownS;have XownU:=hide ownU;have Xtq:=hide tq;have Xctt:=hide ctt;clear ownS ownU tq ctt
       go_wp2_with fail
       refine Xctt.out.mono ?_
       rintro e w10 ⟨rfl,b10⟩
       have ownS10:=own_below' XownS.out b10
       have ownU10:=own_below' XownU.out b10
       have tq10:=Xtq.out.trans' (Touch.of_size b10 (fun b=>b=gs))
       clear q0 q1 q2 q3 b10 XownS XownU Xtq Xctt
       by_cases hle:m≤p
       ·have hle':(m:Int)≤(p:Int):=by omega
        have tz10:=Xtz.out.trans' tq10
        have bk10:=Xbui.out.bd.blk.touch tz10 hgB.1
        have q7:=(bk10.cell 7).trans rfl
        have q5:=(bk10.cell 5).trans rfl
        obtain⟨D,nt,mmz,hD,-⟩:=Xbui.out.to_
        have mm:=tz10.ownsMap mmz hgB.2.1
        have hwp:WfI ((i:Int),(m:Int)):=⟨by simp only;omega,by simp only;omega⟩
        have hkey:=pkey_some hwp
        have hh:=hD.has i (m:Int) hwp
        by_cases hex: ∃tnx:Int,(((m:Int),tnx):It)∈tw
        ·obtain⟨tnx,hto⟩:=hex
         have hyes:Maps.has D (pkey i m)=true:=hh.2 ⟨tw,tnx,Xhtw.out,hto⟩
         have hat0:=hD.at_ i m tnx tw hwp Xhtw.out hto (.lit (.int .i64 0))
         have hup:uptoI tw (m+1 - 1)=uptoI tw (m - 1)++[((m:Int),tnx)]:=by
          have e1:m=(m - 1)+1:=by omega
          have:=upto_yes (m:=m - 1) («to»:=tnx) Xhsort.out (by rw [←e1];exact hto)
          rw [←e1]at this
          rw [Nat.add_sub_cancel];exact this
         have htob:=Xhent.out _ _ hto
         have htlt:=(List.getElem?_eq_some_iff.1 htob.2.2.2.2).1
         rw [←Xhln.out]at htlt
         have hul:(uptoI tw (m - 1)).length≤300:=by have:=upto_len tw (m - 1);have:=Xhtl.out;omega
         obtain⟨nu,hnu⟩: ∃q,q=(uptoI tw (m - 1)).length:=⟨_,rfl⟩
         rw [←hnu]at ownS10 ownU10 hul
         obtain⟨-,hcu1,hcu2,-⟩:=RdIt.at_ (Rd.of_own ownU10)
         unfold maxLen at hcu2
         obtain⟨-,hcs2⟩:=stCells_get (Z:=Zq.set i (zq1,.slice Au nu cu)) (i:=i) (p:=(zq1,.slice Au nu cu)) (List.getElem?_set_self (List.getElem?_eq_some_iff.1 Xhzq.out).1)
         obtain⟨cz2,fz2⟩:=own_cell ownS10 hcs2
         simp only at cz2
         clear hh hD mmz
         have XownS10:=hide ownS10;have XownU10:=hide ownU10;have Xtq10:=hide tq10;have Xtz10:=hide tz10;have Xbk10:=hide bk10;have Xhup:=hide hup;have Xhto:=hide hto;have Xhat0:=hide hat0;have Xhnu:=hide hnu;have Xhtob:=hide htob;have Xhwp:=hide hwp;have Xhcs2:=hide hcs2;clear ownS10 ownU10 tq10 tz10 bk10 hup hto hat0 hnu htob hwp hcs2
         go_wp2_with (at_lookup;refine wpList_lookup_own_ok_int _ rfl _ _ 98 rfl 104 3 .i64 Tryz.pairKeyed Tryz.underlying98 Tryz.underlying3 (Tryz.zeroInt _) _ _ D rfl mm _ _ rfl hkey ?_;intro cc hat hwc)
         have hcc:cc=tnx:=by
          rw [Xhat0.out]at hat
          injection hat with hat
          injection hat with _ hat
          exact hat.symm
         subst hcc
         clear hat hwc hyes hkey mm Xhat0 q7
         go_wp2_with fail
         refine region_late (fun W=>W.cell? ⟨w2.heap.size+1+1,5,none⟩=some (.slice (some ⟨gs,0,none⟩) ln cs)∧W.cell? ⟨gs,i * 2+1,none⟩=some (.slice Au nu cu)) 16 18 (by kernel_rfl) (by kernel_rfl) ⟨q5,cz2⟩ ?_
         simp only [List.take_succ_cons,List.take_zero,List.drop_succ_cons,List.drop_zero]
         iterate 16
          refine wpHeld_cons ?_ (by rfl) (fun wS hwS=> ?_) ?_
          rotate_left
          ·(try dsimp only at hwS)
           go_simp
           all_goals with_reducible rfl
          simp only [Act.put,List.setIfInBounds_toArray,List.set_cons_zero,List.set_cons_succ]
         refine wpHeld_nil ?_
         obtain⟨w12,hw12⟩: ∃q,q=(w10.alloc (.cells #[.int .i64 (m:Int),.int .i64 cc] 53)).drew:=⟨_,rfl⟩
         have b12:Below w10.heap.size w10 w12:=by rw [hw12];exact((Below.refl _ w10).alloc (Nat.le_refl _) _).drew
         have ownS12:=own_below' XownS10.out b12
         have ownU12:=own_below' XownU10.out b12
         have tq12:=Xtq10.out.trans' (Touch.of_size b12 (fun b=>b=gs))
         have bk12:=Xbk10.out.below b12 Xbk10.out.lt
         have q512:=(bk12.cell 5).trans rfl
         obtain⟨cz212,-⟩:=own_cell ownS12 Xhcs2.out
         have hone:RdIt w12 (fun b=>b=w10.heap.size) (.slice (some ⟨w10.heap.size,0,none⟩) 1 1) [((m:Int),cc)]:=by rw [hw12];exact(RdIt.one (w:=w10) (e:=53) ((m:Int),cc)).drew
         have hz12:wq.heap.size≤w12.heap.size:=tq12.size
         have s12:w12.heap.size=w10.heap.size+1:=by rw [hw12];simp
         have hS12:w12.cell? ⟨w2.heap.size+1+1,5,none⟩=some (.slice (some ⟨gs,0,none⟩) ln cs)∧w12.cell? ⟨gs,i * 2+1,none⟩=some (.slice Au nu cu):=⟨q512,cz212⟩
         have ownU12r:=ownU12
         rw [hw12]at hS12 hone hz12 ownU12r
         clear q512 cz212 b12
         have XownS12:=hide ownS12;have XownU12:=hide ownU12;have Xtq12:=hide tq12;have Xbk12:=hide bk12;have Xhone:=hide hone;have Xs12:=hide s12;have XownU12r:=hide ownU12r;clear ownS12 ownU12 tq12 bk12 hone s12 ownU12r
         refine wpMid_cons ?_
         go_wp2_with fail
         refine⟨hS12,wpMid_cons ?_⟩
         clear hS12
         go_wp2_with (at_builtin;refine wp_append _ rfl (.tmp 112) (.tmp 116) _ rfl Tryz.elemTrans wq.heap.size _ nu (itCells (uptoI tw (m - 1))) rfl XownU12r.out _ _ [I64 (m:Int),I64 cc] 1 rfl rfl Xhone.out (itCells_one [((m:Int),cc)]) (by unfold maxLen;omega) (by omega) hz12 ?_)
         intro A13 c13 w13 own13 g13 hb13
         rw [←hw12]at g13
         rw [←Xs12.out]at hb13
         have hgw:gs<wq.heap.size:=by
          have h1:gs<wz.heap.size:=hgs2
          have:=Xq.out
          omega
         have hvU: ∀b,(Value.slice Au nu cu).ownBlock=some b→wq.heap.size≤b∧b<w12.heap.size:=fun b e=>XownU12.out.lt b e
         have t13:Touch (fun b=>(Value.slice Au nu cu).ownBlock=some b) w12 w13:=(Touch.refl _ _).grown g13 (fun b e _=>e)
         have ownS13:=t13.own XownS12.out (fun b hb e=>by
          simp only [Value.ownBlock,Option.some.injEq]at hb
          have:=hvU b e
          omega)
         have tq13:Touch (fun b=>b=gs) wq w13:=Xtq12.out.trans t13 (fun b hb e=>by have:=hvU b e;omega)
         have bk13:=Xbk12.out.touch t13 (fun e=>by have:=hvU _ e;have:=Xbui.out.lB;omega)
         have q513:=(bk13.cell 5).trans rfl
         obtain⟨cz13,fz13⟩:=own_cell ownS13 Xhcs2.out
         have ownS14:=own_put ownS13 (j:=i * 2+1) (by
          rw [stCells_len,List.length_set]
          have:=(List.getElem?_eq_some_iff.1 Xhzq.out).1
          omega) (.slice A13 (nu+1) c13)
         have hsi:=(List.getElem?_eq_some_iff.1 Xhzq.out).1
         rw [←stCells_set (Z:=Zq.set i (zq1,.slice Au nu cu)) (i:=i) (p:=(zq1,.slice Au nu cu)) _ (List.getElem?_set_self hsi),List.set_set]at ownS14
         have hne13:(Value.slice A13 (nu+1) c13).ownBlock≠some gs:=fun e=>by
          rcases hb13 with e8|e8
          ·have:=hvU _ (e8▸e);omega
          ·rw [e8]at e
           injection e with e
           have:=Xtq12.out.size
           omega
         have ownU14:=own_far own13 (p:=⟨gs,i * 2+1,none⟩) hne13 (.slice A13 (nu+1) c13)
         rw [show [I64 (m:Int),I64 cc]=itCells [((m:Int),cc)]from rfl,←itCells_append,←Xhup.out]at ownU14
         have tq14:Touch (fun b=>b=gs) wq (w13.setCell ⟨gs,i * 2+1,none⟩ (.slice A13 (nu+1) c13)):=tq13.setCell (p:=⟨gs,i * 2+1,none⟩) (fun _=>rfl) _
         have hln1:nu+1=(uptoI tw (m+1 - 1)).length:=by rw [Xhup.out,List.length_append,←Xhnu.out];rfl
         clear own13 g13 hb13 t13 ownS13 tq13 bk13 hne13 hz12 hw12 q5 cz2 fz2 hvU XownS12 XownU12 Xtq12 Xbk12 Xhone XownU12r XownS10 XownU10 Xtq10 Xtz10 Xbk10
         have XownS14:=hide ownS14;have XownU14:=hide ownU14;have Xtq14:=hide tq14;have Xhln1:=hide hln1;clear ownS14 ownU14 tq14 hln1
         refine⟨⟨q513,cz13⟩,wpMid_nil ?_⟩
         go_wp2_with fail
         refine NoPanic.normal ?_
         go_wp2_with fail
         go_roundw
         case rel=>exact⟨m+1,A13,c13,by omega,by omega,by go_num,by rw [←Xhln1.out];exact XownS14.out,by rw [←Xhln1.out];exact XownU14.out,Xtq14.out⟩
         case measure=>simp [intOf];omega
        ·have hno:Maps.has D (pkey i m)=false:=by
          rw [Bool.eq_false_iff]
          intro e
          obtain⟨t,tnx,h1,h2⟩:=hh.1 e
          rw [Xhtw.out]at h1
          injection h1 with h1
          subst h1
          exact hex ⟨tnx,h2⟩
         have hup:uptoI tw (m+1 - 1)=uptoI tw (m - 1):=by
          have e1:m=(m - 1)+1:=by omega
          have:=upto_no (t:=tw) (m:=m - 1) (fun tnx h=>hex ⟨tnx,by rw [←e1]at h;exact h⟩)
          rw [←e1]at this
          rw [Nat.add_sub_cancel];exact this
         rw [←hup]at ownS10 ownU10
         clear hh hD mmz hex
         have XownS10:=hide ownS10;have XownU10:=hide ownU10;have Xtq10:=hide tq10;have Xtz10:=hide tz10;have Xbk10:=hide bk10;have Xhup:=hide hup;have Xhwp:=hide hwp;clear ownS10 ownU10 tq10 tz10 bk10 hup hwp
         go_wp2_with (at_lookup;refine wpList_lookup_own_ok_int _ rfl _ _ 98 rfl 104 3 .i64 Tryz.pairKeyed Tryz.underlying98 Tryz.underlying3 (Tryz.zeroInt _) _ _ D rfl mm _ _ rfl hkey ?_;intro cc hat hwc)
         go_roundw
         case rel=>exact⟨m+1,Au,cu,by omega,by omega,by go_num,XownS10.out,XownU10.out,Xtq10.out⟩
         case measure=>simp [intOf];omega
       ·have hle': ¬(m:Int)≤(p:Int):=by omega
        have hmp:m - 1=p:=by omega
        rw [hmp,Xhupp.out]at ownS10 ownU10
        have srn:=Xsr.out.setT Xhzq.out Xhdq.out (by rw [←Xhnz.out];exact ownS10) (tq10.mono (fun b _ e=>by rw [e];rfl)) ((Rd.of_own ownU10).mono (fun b hb=>by
         have h1:=ownU10.lt b hb
         have h2:gs<wz.heap.size:=hgs2
         have h3:=Xq.out
         exact⟨by omega,h1.2,fun e=>by simp only [Value.ownBlock,Option.some.injEq]at e;omega,fun e=>e⟩))
        have hstn:(stD L (Tm.take i)).set i ((kern,([]:List It)).1,tw)=stD L (Tm.take (i+1)):=by
         have hli:(Tm.take i).length=i:=by rw [List.length_take,XhTl.out];omega
         have:=stD_next (L:=L) (T:=Tm.take i) (k:=kern) (by rw [hli];exact Xhkern.out) tw
         rw [hli]at this
         rw [List.take_add_one,Xhtw.out]
         exact this.symm
        rw [hstn]at srn
        have tzn:=Xtz.out.trans' tq10
        have hsi:=(List.getElem?_eq_some_iff.1 Xhzq.out).1
        clear hstn ownS10 ownU10 tq10
        have Xsrn:=hide srn;have Xtzn:=hide tzn;clear srn tzn
        go_wp2_with fail
        go_roundw
        case rel=>exact⟨i+1,_,by omega,by go_num,Xsrn.out,Xtzn.out,fun j z hj hz=>by
         rw [List.getElem?_set_ne (by omega)]at hz
         exact Xhnils.out j z (by omega) hz⟩
        case measure=>simp [intOf];omega
     ·have hlt': ¬(i:Int)<(ln:Int):=by omega
      have htk:Tm.take i=Tm:=List.take_of_length_le (by rw [XhTl.out];omega)
      rw [htk]at sr
      have hrd:=sr.rd.mono (F':=fun b=>w.heap.size≤b∧b<wr.heap.size) (fun b hb=>by have:=hb.1;exact⟨by omega,hb.2⟩)
      have bbn:=tz.toBelow (B:=w.heap.size) (fun b e=>by have h2:w6.heap.size≤gs:=hgs1;omega) Xbb.out Xbb.out.size
      have bkn:=Xbui.out.bd.blk.touch tz (by have h2:w6.heap.size≤gs:=hgs1;omega)
      have q5:=(bkn.cell 5).trans rfl
      clear sr tz hnils
      have Xhrd:=hide hrd;have Xbbn:=hide bbn;have Xbkn:=hide bkn;clear hrd bbn bkn
      go_wp2_with fail
      go_ret2
      exact⟨Xbbn.out,.inr (.inr ⟨rfl,L,Tm,_,_,_,Xhau.out,rfl,Xhrd.out⟩)⟩
 ·have hne:(ck !=0)=true:=by simpa using hc0
  clear hmm g2
  have Xhc0:=hide hc0;have Xbb2:=hide bb2;clear hc0 bb2
  go_wp2_with fail
  go_ret2
  exact⟨Xbb2.out,.inl ⟨Xhc0.out,rfl⟩⟩
end Go.Proofs.YtalbfonkhpeajaaGreat
namespace Go.Proofs.YtalbfonkhpeajaaGreat
set_option linter.unusedVariables false
section
set_option linter.unusedSimpArgs false
open Go.RowKit
attribute [local irreducible] wpStill wpOne wpPh
def aw13:GramD:=⟨[⟨#[65]⟩,⟨#[66]⟩],[⟨#[115]⟩],[(3,[1,3]),(3,[2])],3⟩
theorem aw13_box (w:World):GBox ((((((w.alloc (.cells #[.string ⟨#[65]⟩,.string ⟨#[66]⟩] 9)).alloc (.cells #[.string ⟨#[115]⟩] 9)).alloc (.cells #[.int .i64 1,.int .i64 3] 3)).alloc (.cells #[.int .i64 2] 3)).alloc (.cells #[.int .i64 3,.slice (some ⟨w.heap.size+1+1,0,none⟩) 2 2,.int .i64 3,.slice (some ⟨w.heap.size+1+1+1,0,none⟩) 1 1] 42)).alloc (.cells #[.slice (some ⟨w.heap.size,0,none⟩) 2 2,.slice (some ⟨w.heap.size+1,0,none⟩) 1 1,.slice (some ⟨w.heap.size+1+1+1+1,0,none⟩) 2 2,.int .i64 3] 25)) (fun b=>w.heap.size≤b∧b<w.heap.size+5) (w.heap.size+1+1+1+1+1) (some ⟨w.heap.size,0,none⟩) 2 (some ⟨w.heap.size+1,0,none⟩) 1 (some ⟨w.heap.size+1+1+1+1,0,none⟩) 2 2 1 2 3 aw13∧Below w.heap.size w ((((((w.alloc (.cells #[.string ⟨#[65]⟩,.string ⟨#[66]⟩] 9)).alloc (.cells #[.string ⟨#[115]⟩] 9)).alloc (.cells #[.int .i64 1,.int .i64 3] 3)).alloc (.cells #[.int .i64 2] 3)).alloc (.cells #[.int .i64 3,.slice (some ⟨w.heap.size+1+1,0,none⟩) 2 2,.int .i64 3,.slice (some ⟨w.heap.size+1+1+1,0,none⟩) 1 1] 42)).alloc (.cells #[.slice (some ⟨w.heap.size,0,none⟩) 2 2,.slice (some ⟨w.heap.size+1,0,none⟩) 1 1,.slice (some ⟨w.heap.size+1+1+1+1,0,none⟩) 2 2,.int .i64 3] 25)):=by
 obtain⟨w1,e1⟩: ∃q,q=w.alloc (.cells #[.string ⟨#[65]⟩,.string ⟨#[66]⟩] 9):=⟨_,rfl⟩
 obtain⟨w2,e2⟩: ∃q,q=w1.alloc (.cells #[.string ⟨#[115]⟩] 9):=⟨_,rfl⟩
 obtain⟨w3,e3⟩: ∃q,q=w2.alloc (.cells #[.int .i64 1,.int .i64 3] 3):=⟨_,rfl⟩
 obtain⟨w4,e4⟩: ∃q,q=w3.alloc (.cells #[.int .i64 2] 3):=⟨_,rfl⟩
 obtain⟨w5,e5⟩: ∃q,q=w4.alloc (.cells #[.int .i64 3,.slice (some ⟨w.heap.size+1+1,0,none⟩) 2 2,.int .i64 3,.slice (some ⟨w.heap.size+1+1+1,0,none⟩) 1 1] 42):=⟨_,rfl⟩
 obtain⟨w6,e6⟩: ∃q,q=w5.alloc (.cells #[.slice (some ⟨w.heap.size,0,none⟩) 2 2,.slice (some ⟨w.heap.size+1,0,none⟩) 1 1,.slice (some ⟨w.heap.size+1+1+1+1,0,none⟩) 2 2,.int .i64 3] 25):=⟨_,rfl⟩
 rw [←e1,←e2,←e3,←e4,←e5,←e6]
 have z1:w1.heap.size=w.heap.size+1:=by rw [e1];simp
 have b1:Below w.heap.size w w1:=by rw [e1];exact(Below.refl _ _).alloc (Nat.le_refl _) _
 have k1:Blk w1 (w.heap.size) 9 #[.string ⟨#[65]⟩,.string ⟨#[66]⟩]:=by
  have h:=Blk.new w 9 #[.string ⟨#[65]⟩,.string ⟨#[66]⟩]
  rw [←e1]at h;exact h
 have z2:w2.heap.size=w.heap.size+2:=by rw [e2];simp;omega
 have b2:Below w1.heap.size w1 w2:=by rw [e2];exact(Below.refl _ _).alloc (Nat.le_refl _) _
 have k2:Blk w2 (w.heap.size+1) 9 #[.string ⟨#[115]⟩]:=by
  have h:=Blk.new w1 9 #[.string ⟨#[115]⟩]
  rw [←e2,z1]at h;exact h
 have z3:w3.heap.size=w.heap.size+3:=by rw [e3];simp;omega
 have b3:Below w2.heap.size w2 w3:=by rw [e3];exact(Below.refl _ _).alloc (Nat.le_refl _) _
 have k3:Blk w3 (w.heap.size+1+1) 3 #[.int .i64 1,.int .i64 3]:=by
  have h:=Blk.new w2 3 #[.int .i64 1,.int .i64 3]
  rw [←e3,z2]at h;exact h
 have z4:w4.heap.size=w.heap.size+4:=by rw [e4];simp;omega
 have b4:Below w3.heap.size w3 w4:=by rw [e4];exact(Below.refl _ _).alloc (Nat.le_refl _) _
 have k4:Blk w4 (w.heap.size+1+1+1) 3 #[.int .i64 2]:=by
  have h:=Blk.new w3 3 #[.int .i64 2]
  rw [←e4,z3]at h;exact h
 have z5:w5.heap.size=w.heap.size+5:=by rw [e5];simp;omega
 have b5:Below w4.heap.size w4 w5:=by rw [e5];exact(Below.refl _ _).alloc (Nat.le_refl _) _
 have k5:Blk w5 (w.heap.size+1+1+1+1) 42 #[.int .i64 3,.slice (some ⟨w.heap.size+1+1,0,none⟩) 2 2,.int .i64 3,.slice (some ⟨w.heap.size+1+1+1,0,none⟩) 1 1]:=by
  have h:=Blk.new w4 42 #[.int .i64 3,.slice (some ⟨w.heap.size+1+1,0,none⟩) 2 2,.int .i64 3,.slice (some ⟨w.heap.size+1+1+1,0,none⟩) 1 1]
  rw [←e5,z4]at h;exact h
 have z6:w6.heap.size=w.heap.size+6:=by rw [e6];simp;omega
 have b6:Below w5.heap.size w5 w6:=by rw [e6];exact(Below.refl _ _).alloc (Nat.le_refl _) _
 have k6:Blk w6 (w.heap.size+1+1+1+1+1) 25 #[.slice (some ⟨w.heap.size,0,none⟩) 2 2,.slice (some ⟨w.heap.size+1,0,none⟩) 1 1,.slice (some ⟨w.heap.size+1+1+1+1,0,none⟩) 2 2,.int .i64 3]:=by
  have h:=Blk.new w5 25 #[.slice (some ⟨w.heap.size,0,none⟩) 2 2,.slice (some ⟨w.heap.size+1,0,none⟩) 1 1,.slice (some ⟨w.heap.size+1+1+1+1,0,none⟩) 2 2,.int .i64 3]
  rw [←e6,z5]at h;exact h
 have bb6:Below w6.heap.size w6 w6:=Below.refl _ _
 have bb5:Below w5.heap.size w5 w6:=b6.trans (bb6.mono b6.size)
 have bb4:Below w4.heap.size w4 w6:=b5.trans (bb5.mono b5.size)
 have bb3:Below w3.heap.size w3 w6:=b4.trans (bb4.mono b4.size)
 have bb2:Below w2.heap.size w2 w6:=b3.trans (bb3.mono b3.size)
 have bb1:Below w1.heap.size w1 w6:=b2.trans (bb2.mono b2.size)
 have b0:Below w.heap.size w w6:=b1.trans (bb1.mono b1.size)
 have y1:=k1.below bb1 k1.lt
 have y2:=k2.below bb2 k2.lt
 have y3:=k3.below bb3 k3.lt
 have y4:=k4.below bb4 k4.lt
 have y5:=k5.below bb5 k5.lt
 have y6:=k6.below bb6 k6.lt
 refine⟨⟨⟨?_,?_,?_,?_,?_,?_,?_,?_⟩,y6,rfl,rfl,rfl,by omega,by omega,by omega,by omega,by omega,by omega,by omega,by omega,by omega⟩,b0⟩
 ·exact Rd.of_blk (us:=aw13.terms.map Value.string) y1 (by omega) rfl (by decide)
 ·exact Rd.of_blk (us:=aw13.nons.map Value.string) y2 (by omega) rfl (by decide)
 ·refine RdR.of_blk [((3,[1,3]),.slice (some ⟨w.heap.size+1+1,0,none⟩) 2 2),((3,[2]),.slice (some ⟨w.heap.size+1+1+1,0,none⟩) 1 1)] y5 (by omega) ?_ (by unfold maxLen;simp)
  intro p hp
  simp only [List.mem_cons,List.not_mem_nil,or_false]at hp
  rcases hp with rfl|rfl
  ·exact Rd.of_blk (us:=[Value.int .i64 1,Value.int .i64 3]) y3 (by omega) rfl (by decide)
  ·exact Rd.of_blk (us:=[Value.int .i64 2]) y4 (by omega) rfl (by decide)
 ·intro b hb;rw [z6];omega
 ·decide
 ·exact⟨by decide,by decide⟩
 ·exact⟨by decide,by decide⟩
 ·decide
theorem aw13_check:checkOf aw13 3=0:=by decide+kernel
def aw13L:List (List It):=[[(2,0)],[(0,1)],[(1,1)],[(2,1)],[(0,2)]]
def aw13T:List (List It):=[[(1,1),(2,2),(3,3)],[(1,1),(2,2),(3,4)],[],[],[]]
theorem aw13_row (k:List It) (L:List (List It)) (r:List (List It)×List It) (h1:clC aw13 3 k 4=clC aw13 3 k 3) (h2:rowC aw13 3 (clC aw13 3 k 3) L (topOf aw13)=r):rowA aw13 3 k L (topOf aw13)=r:=by
 rw [rowC_eq (clC_is h1),h2]
theorem aw13_auto:Auto aw13 3 (some (aw13L,aw13T)):=by
 have step: ∀{i:Nat} {L T:List (List It)} (k:List It) (L':List (List It)) (t:List It),Bld aw13 3 i L T→L[i]? =some k→clC aw13 3 k 4=clC aw13 3 k 3→rowC aw13 3 (clC aw13 3 k 3) L (topOf aw13)=(L',t)→L'.length≤2000→Bld aw13 3 (i+1) L' (T++[t]):=fun{i L T} k L' t hb hk h1 h2 hl=>by
  have hr:=aw13_row k L _ h1 h2
  have:=Bld.next i L T k hb hk (by rw [hr];exact hl)
  rw [hr]at this
  exact this
 have b0:Bld aw13 3 0 [[(2,0)]] []:=Bld.start
 have b1:=step [(2,0)] [[(2,0)],[(0,1)],[(1,1)],[(2,1)]] [(1,1),(2,2),(3,3)] b0 rfl (by decide+kernel) (by decide+kernel) (by decide)
 have b2:=step [(0,1)] aw13L [(1,1),(2,2),(3,4)] b1 rfl (by decide+kernel) (by decide+kernel) (by decide)
 have b3:=step [(1,1)] aw13L [] b2 rfl (by decide+kernel) (by decide+kernel) (by decide)
 have b4:=step [(2,1)] aw13L [] b3 rfl (by decide+kernel) (by decide+kernel) (by decide)
 have b5:=step [(0,2)] aw13L [] b4 rfl (by decide+kernel) (by decide+kernel) (by decide)
 exact Auto.ok aw13L aw13T b5
end
section
set_option linter.unusedSimpArgs false
open Go.RowKit
attribute [local irreducible] wpStill wpOne wpPh
def AutoIs (G:GramD) (st ck ev:Int) (D:List (List It×List It)):Prop:=
 (ck≠0∧ev=ck∧D=[])∨(ck=0∧Auto G st none∧ev=7∧D=[])∨(ck=0∧ ∃L T,Auto G st (some (L,T))∧ev=0∧D=stD L T)
theorem AutoIs.unique {G:GramD} {st ck ev ev':Int} {D D':List (List It×List It)} (h:AutoIs G st ck ev D) (h':AutoIs G st ck ev' D'):ev=ev'∧D=D':=by
 rcases h with⟨h1,rfl,rfl⟩|⟨h1,h2,rfl,rfl⟩|⟨h1,L,T,h2,rfl,rfl⟩
 ·rcases h' with⟨-,rfl,rfl⟩|⟨h3,-⟩|⟨h3,-⟩
  ·exact⟨rfl,rfl⟩
  ·exact absurd h3 h1
  ·exact absurd h3 h1
 ·rcases h' with⟨h3,-⟩|⟨-,-,rfl,rfl⟩|⟨-,L,T,h3,-⟩
  ·exact absurd h1 h3
  ·exact⟨rfl,rfl⟩
  ·have:=h2.unique h3;cases this
 ·rcases h' with⟨h3,-⟩|⟨-,h3,-⟩|⟨-,L',T',h3,rfl,rfl⟩
  ·exact absurd h1 h3
  ·have:=h2.unique h3;cases this
  ·have:=h2.unique h3
   injection this with this
   injection this with e1 e2
   subst e1 e2
   exact⟨rfl,rfl⟩
theorem AutoPost.flat {w w':World} {G:GramD} {st ck:Int} {e:Ending} (h:AutoPost w G st ck e w'):Below w.heap.size w w'∧ ∃A n c ev D,e= .returned (.tuple #[.slice A n c,.int .i64 ev])∧RdSt w' (fun b=>w.heap.size≤b∧b<w'.heap.size) (.slice A n c) D∧AutoIs G st ck ev D:=by
 obtain⟨hb,⟨hc,rfl⟩|⟨hc,ha,rfl⟩|⟨hc,L,T,A,n,c,ha,rfl,rd⟩⟩:=h
 ·exact⟨hb,none,0,0,ck,[],rfl,RdSt.nil _ _,.inl ⟨hc,rfl,rfl⟩⟩
 ·exact⟨hb,none,0,0,7,[],rfl,RdSt.nil _ _,.inr (.inl ⟨hc,ha,rfl,rfl⟩)⟩
 ·exact⟨hb,A,n,c,0,stD L T,rfl,rd,.inr (.inr ⟨hc,L,T,ha,rfl,rfl⟩)⟩
end
end Go.Proofs.YtalbfonkhpeajaaGreat
namespace Go.Proofs.YtalbfonkhpeajaaGreat
set_option linter.unusedVariables false
set_option linter.unusedSimpArgs false
open Go.RowKit
attribute [local irreducible] wpStill wpOne wpPh
theorem AutoIs.bld {G:GramD} {st ck:Int} {D:List (List It×List It)} (h:AutoIs G st ck 0 D):ck=0∧ ∃L T,BldF G st L.length L T∧D=stD L T:=by
 rcases h with⟨h1,h2,-⟩|⟨-,-,h2,-⟩|⟨h0,L,T,h1,-,h2⟩
 ·exact absurd h2.symm h1
 ·exact absurd h2 (by decide)
 ·cases h1 with
  |ok _ _ hb=>exact⟨h0,L,T,hb.f,h2⟩
def WordsOf (G:GramD) (S:List FoundD):Prop:=Fixed G.rules (startW G.terms.length G.nons.length) S∧GoodS G.terms.length S∧S.length=G.terms.length+G.nons.length+1
def LeastIn (G:GramD) (w:World) (e:Ending) (w':World):Prop:= ∃S pb,e= .returned (.pointer (some ⟨pb,0,none⟩))∧Below w.heap.size w w'∧WordsIn w' (fun q=>w.heap.size≤q∧q<w'.heap.size) (.pointer (some ⟨pb,0,none⟩)) S∧WordsOf G S
theorem LeastPost.in_ {G:GramD} {st:Int} {w w':World} {e:Ending} (h:LeastPost G st w e w') (hc:checkOf G st=0):LeastIn G w e w':=by
 obtain⟨hb,⟨h1,-⟩|⟨-,S,b,g,rfl,h1,h2,h3,h4,h5,h6⟩⟩:=h
 ·exact absurd hc h1
 ·refine⟨S,_,rfl,hb,⟨b,g,_,rfl,h2,fun k hk=>⟨hk.1,hk.2.1⟩,⟨h3,h2.blk.lt⟩,h4,?_⟩,h1,h5,h6⟩
  obtain⟨cells,hg,-⟩:=h2.row
  exact hg.lt
structure ES (w:World) (F:Nat→Prop) (v1 v2 v3:Value) (st:Int) (G:GramD) (v:Value) (D:Sts) (wr:World):Prop where
 g:IsGram wr F v1 v2 v3 G
 k:Blk wr w.heap.size 25 #[v1,v2,v3,.int .i64 st]
 rd:RdSt wr (fun b=>b<wr.heap.size) v D
 le:Below w.heap.size w wr
theorem ES.next {w:World} {F:Nat→Prop} {v1 v2 v3:Value} {st:Int} {G:GramD} {v:Value} {D:Sts} {wr wq:World} (h:ES w F v1 v2 v3 st G v D wr) (b:Below wr.heap.size wr wq):ES w F v1 v2 v3 st G v D wq:=
 ⟨h.g.below b,h.k.below b h.k.lt,(h.rd.below b (fun b hb=>hb)).mono (fun z hz=>Nat.lt_of_lt_of_le hz b.size),h.le.trans (b.mono h.le.size)⟩
theorem ES.cells {w:World} {F:Nat→Prop} {v1 v2 v3:Value} {st:Int} {G:GramD} {v:Value} {D:Sts} {wr:World} (h:ES w F v1 v2 v3 st G v D wr):wr.cell? ⟨w.heap.size,0,none⟩=some v1∧wr.cell? ⟨w.heap.size,1,none⟩=some v2∧wr.cell? ⟨w.heap.size,2,none⟩=some v3∧wr.cell? ⟨w.heap.size,3,none⟩=some (.int .i64 st):=
 ⟨(h.k.cell 0).trans rfl,(h.k.cell 1).trans rfl,(h.k.cell 2).trans rfl,(h.k.cell 3).trans rfl⟩
section
variable {T : Nat} {D : Sts} {d : Nat} {now : List Int} {lo : Nat} {w3 : World} {Z B R P n : Nat} {pw : Value} {S : List FoundD} {vnow : Value} {W : Wos} {Fr : Nat → Prop} {next : List Int} {v : Value} {m p k : Nat} {wr wq : World}
end
end Go.Proofs.YtalbfonkhpeajaaGreat
namespace Go.Proofs.YtalbfonkhpeajaaGreat
set_option linter.unusedVariables false
section
set_option linter.unusedSimpArgs false
open Go.RowKit Go.Maps
attribute [local irreducible] wpStill wpOne wpPh
theorem RdL.monoF {X:Type} {w:World} {F F':Nat→Prop} {k:Nat} {E E':List Value→X→Prop} {v:Value} {xs:List X} (h:RdL w F k E v xs) (hF: ∀b,F b→F' b) (hE: ∀cs x,E cs x→E' cs x):RdL w F' k E' v xs:=by
 obtain⟨A,c,hv,h1,h2,hr⟩:=h
 refine⟨A,c,hv,h1,h2,fun hn=> ?_⟩
 obtain⟨b,off,hA,hb,hc⟩:=hr hn
 refine⟨b,off,hA,hF b hb,fun i x hx=> ?_⟩
 obtain⟨cs,e1,e2,e3⟩:=hc i x hx
 exact⟨cs,e1,hE cs x e2,e3⟩
theorem IsGram.monoF {w:World} {F F':Nat→Prop} {vt vn vr:Value} {G:GramD} (h:IsGram w F vt vn vr G) (hF: ∀b,F b→F' b) (hl: ∀b,F' b→b<w.heap.size):IsGram w F' vt vn vr G:=
 ⟨Rd.mono h.terms hF,Rd.mono h.nons hF,RdL.monoF h.rules hF (fun cs x ⟨v,e1,e2⟩=>⟨v,e1,Rd.mono e2 hF⟩),hl,h.small,h.sizes,h.reach,h.wfs⟩
def EndsIn (w:World) (E:Nat) (st:Int) (G:GramD) (D:List (List It×List It)) (S:List FoundD):Prop:= ∃A1 c1 A2 c2 A3 c3 T N R Aa n ca pb,EndsC w (fun b=>b<w.heap.size) E A1 c1 A2 c2 A3 c3 T N R st G Aa n ca D pb S
theorem EndsIn.below {w w':World} {E:Nat} {st:Int} {G:GramD} {D:List (List It×List It)} {S:List FoundD} (h:EndsIn w E st G D S) (b:Below w.heap.size w w'):EndsIn w' E st G D S:=by
 obtain⟨A1,c1,A2,c2,A3,c3,T,N,R,Aa,n,ca,pb,e⟩:=h
 have e2:=e.below b
 have up: ∀q,q<w.heap.size→q<w'.heap.size:=fun q h=>Nat.lt_of_lt_of_le h b.size
 exact⟨A1,c1,A2,c2,A3,c3,T,N,R,Aa,n,ca,pb,e2.blk,e2.g.monoF up (fun b h=>h),e2.r,e2.a.mono up,e2.ws.mono up⟩
def EndsPost (G:GramD) (st ck:Int) (w:World) (e:Ending) (w':World):Prop:=Below w.heap.size w w'∧ ∃ev D,AutoIs G st ck ev D∧((ev≠0∧e= .returned (.tuple #[.pointer none,.int .i64 ev]))∨(ev=0∧ ∃E S,e= .returned (.tuple #[.pointer (some ⟨E,0,none⟩),.int .i64 0])∧WordsOf G S∧EndsIn w' E st G D S))
set_option maxRecDepth 100000 in
set_option maxHeartbeats 4000000 in
theorem fin_Of {w:World} {F:Nat→Prop} {vt vn vr:Value} {G:GramD} (h:IsGram w F vt vn vr G) (st:Int):
  Calls Tryz.prog 7 #[GV vt vn vr st] w (EndsPost G st (checkOf G st) w):=by
 obtain⟨w1,hw1⟩: ∃w1,w1=w.alloc (.cells #[vt,vn,vr,.int .i64 st] 25):=⟨_,rfl⟩
 have b1:Below w.heap.size w w1:=by rw [hw1];exact(Below.refl _ w).alloc (Nat.le_refl _) _
 have k1:Blk w1 w.heap.size 25 #[vt,vn,vr,.int .i64 st]:=by rw [hw1];exact Blk.new _ _ _
 have g1:=h.below b1
 have cb:=auto_build g1 g1.lt st
 have cl:=fun wr (g:IsGram wr F vt vn vr G)=>least_of g st
 have hck: ∀D,AutoIs G st (checkOf G st) 0 D→checkOf G st=0:=fun D h=>h.bld.1
 obtain⟨ck,eck⟩: ∃q,q=checkOf G st:=⟨_,rfl⟩
 rw [←eck]at cb hck⊢
 have q0:=(k1.cell 0).trans rfl
 have q1:=(k1.cell 1).trans rfl
 have q2:=(k1.cell 2).trans rfl
 have q3:=(k1.cell 3).trans rfl
 rw [hw1]at q0 q1 q2 q3
 clear h
 have Xcb:=hide cb;have Xcl:=hide cl;have Xg1:=hide g1;have Xb1:=hide b1;have Xk1:=hide k1;have Xhck:=hide hck;have Xeck:=hide eck;clear cb cl g1 b1 k1 hck eck
 go_enter Tryz.func7,Tryz.ntmps7
 go_wp2_with fail
 rw [←hw1]
 refine Xcb.out.mono ?_
 rintro e w3 hp
 obtain⟨b3,A,n,c,ev,D,rfl,rd3,hai⟩:=hp.flat
 have t:ES w F vt vn vr st G (.slice A n c) D w3:=⟨Xg1.out.below b3,Xk1.out.below b3 Xk1.out.lt,rd3.mono (fun b hb=>hb.2),Xb1.out.trans (b3.mono Xb1.out.size)⟩
 clear q0 q1 q2 q3 hw1 hp Xcb Xg1 Xb1 Xk1 b3 rd3
 by_cases hev:ev=0
 ·subst hev
  have hc0:=Xhck.out _ hai
  obtain⟨q0,q1,q2,q3⟩:=t.cells
  have Xt:=hide t;have Xhai:=hide hai;have Xhc0:=hide hc0;clear t hai hc0
  go_wp2_with fail
  refine wp_region_held_drew (S:=(fun W=>W.cell? ⟨w.heap.size,0,none⟩=some vt∧W.cell? ⟨w.heap.size,1,none⟩=some vn∧W.cell? ⟨w.heap.size,2,none⟩=some vr∧W.cell? ⟨w.heap.size,3,none⟩=some (.int .i64 st))) (by kernel_rfl) ?_ (fun hHeld=> ?_)
  ·exact⟨q0,q1,q2,q3⟩
  have dr:=(Below.refl w3.heap.size w3).drew
  have td:=Xt.out.next dr
  have cld:Calls Tryz.prog 18 #[GV vt vn vr st] w3.drew (LeastIn G w3.drew):=(Xcl.out _ td.g).mono fun e w' hl=>hl.in_ (by rw [←Xeck.out];exact Xhc0.out)
  clear q0 q1 q2 q3 dr Xcl Xt
  generalize w3.drew=wd at *
  have Xcld:=hide cld;have Xtd:=hide td;clear cld td
  refine tk (i:=0) (oi:= ?_) (v:= ?_) ?_ (by kernel_rfl) ?_ (Or.inl ⟨?_,?_⟩) (by assumption) ?_;rotate_left 2;(focus((try simp only [gT,gs,gz]);try rfl));exact fun _ _ _ h=>h;rfl;(focus(intro wS hwS;(try dsimp only at hwS);go_simp;all_goals with_reducible rfl));try simp only [Act.put,sT,s0,s1]
  refine tk (i:=1) (oi:= ?_) (v:= ?_) ?_ (by kernel_rfl) ?_ (Or.inl ⟨?_,?_⟩) (by assumption) ?_;rotate_left 2;(focus((try simp only [gT,gs,gz]);try rfl));exact fun _ _ _ h=>h;rfl;(focus(intro wS hwS;(try dsimp only at hwS);go_simp;all_goals with_reducible rfl));try simp only [Act.put,sT,s0,s1]
  refine tk (i:=2) (oi:= ?_) (v:= ?_) ?_ (by kernel_rfl) ?_ (Or.inl ⟨?_,?_⟩) (by assumption) ?_;rotate_left 2;(focus((try simp only [gT,gs,gz]);try rfl));exact fun _ _ _ h=>h;rfl;(focus(intro wS hwS;(try dsimp only at hwS);go_simp;all_goals with_reducible rfl));try simp only [Act.put,sT,s0,s1]
  refine wpAnyH_ready (rs:=[3]) (by kernel_rfl) (by simp) ?_
  refine AllReadyH.cons (o:= ?_) ?_ (fun K hK=> ?_) AllReadyH.nil;rotate_left 1;(focus((try simp only [gT,gs,gz]);try rfl))
  go_simp
  go_at_call 18
  refine Xcld.out.mono ?_
  rintro e w4 ⟨S,pb,rfl,b4,ws4,hws⟩
  have t4:=Xtd.out.next b4
  clear Xcld Xtd b4
  have Xt4:=hide t4;have Xws4:=hide ws4;have Xhws:=hide hws;clear t4 ws4 hws
  refine hK.out _ _ ?_ (fun hHeld=> ?_)
  ·exact Xt4.out.cells
  clear hK K
  try simp only [Act.put,sT,s0,s1]
  refine tk (i:=4) (oi:= ?_) (v:= ?_) ?_ (by kernel_rfl) ?_ (Or.inl ⟨?_,?_⟩) (by assumption) ?_;rotate_left 2;(focus((try simp only [gT,gs,gz]);try rfl));exact fun _ _ _ h=>h;rfl;(focus(intro wS hwS;(try dsimp only at hwS);go_simp;all_goals with_reducible rfl));try simp only [Act.put,sT,s0,s1]
  refine wpAnyH_ready (rs:=[5]) (by kernel_rfl) (by simp) ?_
  refine AllReadyH.cons (o:= ?_) ?_ (fun K hK=> ?_) AllReadyH.nil;rotate_left 1;(focus((try simp only [gT,gs,gz]);try rfl))
  go_simp
  have b5:Below w4.heap.size w4 (w4.alloc (.cells #[vt,vn,vr,.int .i64 st,.slice A n c,.pointer (some ⟨pb,0,none⟩)] 57)):=(Below.refl _ _).alloc (Nat.le_refl _) _
  have t5:=Xt4.out.next b5
  have Xb5:=hide b5;have Xt5:=hide t5;clear b5 t5
  refine hK.out _ _ ?_ (fun hHeld=> ?_)
  ·exact Xt5.out.cells
  clear hK K
  try simp only [Act.put,sT,s0,s1]
  refine tk (i:=6) (oi:= ?_) (v:= ?_) ?_ (by kernel_rfl) ?_ (Or.inl ⟨?_,?_⟩) (by assumption) ?_;rotate_left 2;(focus((try simp only [gT,gs,gz]);try rfl));exact fun _ _ _ h=>h;rfl;(focus(intro wS hwS;(try dsimp only at hwS);go_simp;all_goals with_reducible rfl));try simp only [Act.put,sT,s0,s1]
  refine tk (i:=7) (oi:= ?_) (v:= ?_) ?_ (by kernel_rfl) ?_ (Or.inl ⟨?_,?_⟩) (by assumption) ?_;rotate_left 2;(focus((try simp only [gT,gs,gz]);try rfl));exact fun _ _ _ h=>h;rfl;(focus(intro wS hwS;(try dsimp only at hwS);go_simp;all_goals with_reducible rfl));try simp only [Act.put,sT,s0,s1]
  refine wpAnyH_done (by kernel_rfl) ?_ _
  have fin:EndsPost G st ck w (.returned (.tuple #[.pointer (some ⟨w4.heap.size,0,none⟩),.int .i64 0])) (w4.alloc (.cells #[vt,vn,vr,.int .i64 st,.slice A n c,.pointer (some ⟨pb,0,none⟩)] 57)):=by
   have g5:=Xt5.out.g
   obtain⟨A1,c1,A2,c2,A3,c3,rfl,rfl,rfl,-⟩:=g5.slices
   refine⟨Xt5.out.le,0,D,Xhai.out,.inr ⟨rfl,w4.heap.size,S,rfl,Xhws.out,A1,c1,A2,c2,A3,c3,_,_,_,A,n,c,pb,Blk.new _ _ _,g5.monoF (fun b hb=>g5.lt b hb) (fun b h=>h),rfl,Xt5.out.rd,?_⟩⟩
   exact(Xws4.out.touch (Touch.of_size Xb5.out (fun _=>False)) (fun _ _ e=>e)).mono fun b hb=>Nat.lt_of_lt_of_le hb.2 Xb5.out.size
  have Xfin:=hide fin;clear fin
  go_wp2_with fail
  go_ret2
  exact Xfin.out
 ·have hee:(ev !=0)=true:=by simpa using hev
  have hbw:=t.le
  clear t
  have Xhai:=hide hai;have Xhbw:=hide hbw;have Xhev:=hide hev;clear hai hbw hev
  go_wp2_with fail
  go_ret2
  exact⟨Xhbw.out,ev,D,Xhai.out,.inl ⟨Xhev.out,rfl⟩⟩
end
end Go.Proofs.YtalbfonkhpeajaaGreat

/- The automaton: Build. -/
import Derived.Test.YthlbjgabhpdbfaaGreatAAuto11
import Derived.Test.YthlbjgabhpdbfaaGreatAFirstPlain
import Derived.Test.YthlbjgabhpdbfaaGreatABitsL
import Derived.Test.YthlbjgabhpdbfaaGreatALook2
import Derived.Test.YthlbjgabhpdbfaaGreatAItemLay
import Derived.Test.YthlbjgabhpdbfaaGreatAG7
import Derived.Test.YthlbjgabhpdbfaaGreatALook14
namespace Go.Proofs.YthlbjgabhpdbfaaGreat
set_option linter.unusedVariables false
set_option linter.unusedSimpArgs false
open Go.RowKit Go.Maps
attribute [local irreducible] wpStill wpOne wpPh
set_option maxRecDepth 100000 in
set_option maxHeartbeats 16000000 in
theorem auto_build {w:World} {F:Nat->Prop} {vt vn vr:Value} {G:GramD} (h:IsGram w F vt vn vr G) (hF: ∀b,F b->b<w.heap.size) (st:Int):
  Calls Tryz.prog 20 #[GV vt vn vr st] w (AutoPost w G st (checkOf G st)):=by
 obtain⟨A1,c1,A2,c2,A3,c3,rfl,rfl,rfl,-⟩:=h.slices
 obtain⟨w1,hw1⟩: ∃w1,w1=w.alloc (.cells #[.slice A1 G.terms.length c1,.slice A2 G.nons.length c2,.slice A3 G.rules.length c3,.int .i64 st] 25):=⟨_,rfl⟩
 have g1:=GBox.new h st
 have b1:Below w.heap.size w w1:=by rw [hw1];exact(Below.refl _ w).alloc (Nat.le_refl _) _
 have hz1:w1.heap.size=w.heap.size+1:=by rw [hw1];simp
 rw [<-hw1]at g1
 have cc:=gram_check g1.gram st
 have cM:=fun wr (g:GBox wr F w.heap.size A1 c1 A2 c2 A3 c3 G.terms.length G.nons.length G.rules.length st G)=>item_Begin g.gram st
 have cT:=fun wr (g:GBox wr F w.heap.size A1 c1 A2 c2 A3 c3 G.terms.length G.nons.length G.rules.length st G)=>gram_top g.gram st
 obtain⟨q0,q1,q2,q3⟩:=g1.cells
 have hK0:checkOf G st=0->KnA G st:=KnA.of_check
 have hmay:checkOf G st=0->mayB G st=true:=fun e=>decide_eq_true e
 obtain⟨ck,hck⟩: ∃q,q=checkOf G st:=⟨_,rfl⟩
 rw [<-hck]at cc hK0 hmay⊢
 have htop:topOf G=G.terms.length+G.nons.length:=rfl
 obtain⟨p,hp⟩: ∃p,p=topOf G:=⟨_,rfl⟩
 rw [<-hp]at htop cT
 obtain⟨T,hT⟩: ∃q,q=G.terms.length:=⟨_,rfl⟩
 obtain⟨N,hN⟩: ∃q,q=G.nons.length:=⟨_,rfl⟩
 obtain⟨R,hR⟩: ∃q,q=G.rules.length:=⟨_,rfl⟩
 rw [<-hT,<-hN,<-hR]at g1 cM cT
 rw [<-hT]at q0
 rw [<-hN]at q1
 rw [<-hR]at q2
 rw [<-hT,<-hN]at htop
 rw [<-hT,<-hN,<-hR]at hw1 cc
 rw [hw1]at cc q0 q1 q2 q3
 rw [<-hT,<-hN,<-hR]
 have hmm:= @run_makeMap Tryz.prog
 clear h
 obtain⟨Xg1,Xb1,Xhz1,Xcc,XcM,XcT,XhK0,Xhmay,Xhck,Xhtop,Xhp,XhT,XhN,XhR⟩:=HqZ14 g1 b1 hz1 cc cM cT hK0 hmay hck htop hp hT hN hR;have XhF:=hide hF;clear g1 b1 hz1 cc cM cT hK0 hmay hck htop hp hT hN hR hF
 go_enter Tryz.func20,Tryz.ntmps20
 go_wp2_with fail
 with_reducible refine Xcc.out.mono ?_
 rintro e w2 ⟨rfl,b2⟩
 rw [<-hw1]at b2
 have g2:=Xg1.out.below b2
 have bb2:=Xb1.out.trans (b2.mono Xb1.out.size)
 have hz2:w.heap.size<w2.heap.size:=by have:=b2.size;have:=Xhz1.out;omega
 clear hw1 q0 q1 q2 q3 b2 Xg1 Xb1 Xcc Xhz1
 by_cases hc0:ck=0
 ·subst hc0
  have hK:=XhK0.out (by first|rfl|trivial)
  have hm:=Xhmay.out (by first|rfl|trivial)
  have hpb:p<=240:=by have:=hK.t;have:=hK.n;have:=Xhtop.out;have:=XhT.out;have:=XhN.out;omega
  obtain⟨q0,q1,q2,q3⟩:=g2.cells
  -- the builder
  obtain⟨w5,hw5⟩: ∃q,q=((w2.alloc (.map #[] 0)).alloc (.map #[] 0)).alloc (.cells #[.slice A1 T c1,.slice A2 N c2,.slice A3 R c3,.int .i64 st,.slice none 0 0,.slice none 0 0,.map (some w2.heap.size),.map (some (w2.heap.size+1))] 124):=⟨_,rfl⟩
  have hB: ∃B,B=w2.heap.size+1+1/\Bd w5 F B A1 c1 A2 c2 A3 c3 T N R st G (.slice none 0 0) (.slice none 0 0) w2.heap.size (w2.heap.size+1)/\Below w2.heap.size w2 w5/\w5.heap.size=B+1/\w5.ownsMap Tryz.prog 9 (plainElem (H:=Unit) Tryz.prog 3) w2.heap.size 0 (.map [])/\w5.ownsMap Tryz.prog 128 (plainElem (H:=Unit) Tryz.prog 3) (w2.heap.size+1) 0 (.map []):=by
   obtain⟨w3,hw3⟩: ∃q,q=w2.alloc (.map #[] 0):=⟨_,rfl⟩
   obtain⟨w4,hw4⟩: ∃q,q=w3.alloc (.map #[] 0):=⟨_,rfl⟩
   rw [<-hw3,<-hw4]at hw5
   have s3:w3.heap.size=w2.heap.size+1:=by rw [hw3];simp
   have s4:w4.heap.size=w2.heap.size+1+1:=by rw [hw4];simp [s3]
   have s5:w5.heap.size=w2.heap.size+1+1+1:=by rw [hw5];simp [s4]
   have b3:Below w2.heap.size w2 w3:=by rw [hw3];exact(Below.refl _ _).alloc (Nat.le_refl _) _
   have b4:Below w3.heap.size w3 w4:=by rw [hw4];exact(Below.refl _ _).alloc (Nat.le_refl _) _
   have b5:Below w4.heap.size w4 w5:=by rw [hw5];exact(Below.refl _ _).alloc (Nat.le_refl _) _
   have b45:=b4.trans (b5.mono b4.size)
   have b35:=b3.trans (b45.mono b3.size)
   have k5:Blk w5 (w2.heap.size+1+1) 124 #[.slice A1 T c1,.slice A2 N c2,.slice A3 R c3,.int .i64 st,.slice none 0 0,.slice none 0 0,.map (some w2.heap.size),.map (some (w2.heap.size+1))]:=by rw [hw5,<-s4];exact Blk.new _ _ _
   have m3:w3.ownsMap Tryz.prog 9 (plainElem (H:=Unit) Tryz.prog 3) w2.heap.size 0 (.map []):=by rw [hw3];exact World.ownsMap_made w2 Tryz.prog 9 (plainElem (H:=Unit) Tryz.prog 3)
   have m4:w4.ownsMap Tryz.prog 128 (plainElem (H:=Unit) Tryz.prog 3) (w2.heap.size+1) 0 (.map []):=by rw [hw4,<-s3];exact World.ownsMap_made w3 Tryz.prog 128 (plainElem (H:=Unit) Tryz.prog 3)
   exact⟨_,rfl,⟨g2.gram.below b35,k5⟩,b35,s5,(Touch.of_size b45 (fun _=>False)).ownsMap m3 (fun e=>e),(Touch.of_size b5 (fun _=>False)).ownsMap m4 (fun e=>e)⟩
  obtain⟨_,rfl,bd5,b5,hz5,mp1,mp2⟩:=hB
  have g5:=g2.below b5
  have bb5:=bb2.trans (b5.mono bb2.size)
  have hFw:=XhF.out
  have cp:=auto_prepare bd5 (fun e=>by have:=hFw _ e;omega) (by rw [XhT.out]) hK.n hK.t hK.r
  rw [hw5]at cp
  clear g2 bb2
  obtain⟨XhK,Xhm,Xbd5,Xb5,Xg5,Xbb5,Xhz5,Xmp1,Xmp2,Xcp,XhFw⟩:=HqZ11 hK hm bd5 b5 g5 bb5 hz5 mp1 mp2 cp hFw;clear hK hm bd5 b5 g5 bb5 hz5 mp1 mp2 cp hFw
  go_wp2_with fail
  refine Xcp.out.mono ?_
  rintro e w6 ⟨rfl,Pb,cb,rb,Lb,hPb,hcb1,hcb2,bd6,rows6,hbe,t6⟩
  rw [<-hw5]at t6 hPb
  have s56:=t6.size
  have hz5:=Xhz5.out
  have g6:=Xg5.out.touch' t6 (fun b hb e=>by have:=XhFw.out b hb;omega) (by omega)
  have mp16:=t6.ownsMap Xmp1.out (by omega)
  have mp26:=t6.ownsMap Xmp2.out (by omega)
  have bb6:=t6.toBelow (B:=w.heap.size) (fun b e=>by omega) Xbb5.out Xbb5.out.size
  rw [<-Xhp.out]at hcb1 bd6 rows6 hbe
  have bui6:Bui w6 w6 F (w2.heap.size+1+1) A1 c1 A2 c2 A3 c3 T N R st G (.slice (some ⟨Pb,0,none⟩) (p+1) cb) (.slice none 0 0) w2.heap.size (w2.heap.size+1) [] [] []:=
   ⟨bd6,Touch.refl _ _,SRow.nil _ _ _,⟨_,mp16,AtMap.empty⟩,⟨_,0,mp26,ToMap.empty,Nat.zero_le _⟩,by omega,by omega,by omega,by omega,fun b hb=>by have:=XhFw.out b hb;exact⟨by omega,by omega,by omega,by omega⟩,fun z hz=>by cases hz⟩
  have cB:=XcM.out w6 g6
  rw [Xhm.out,if_pos rfl]at cB
  obtain⟨q0',q1',q2',q3'⟩:=g6.cells
  have hrows: ∀wr,Touch (fun b=>b=w2.heap.size+1+1\/b=w2.heap.size\/b=w2.heap.size+1) w6 wr->RowsI wr Pb Pb (p+1) rb Lb:=fun wr ht=>rows6.touch ht (by omega) (fun b h1 _ _ e=>by omega)
  clear q0 q1 q2 q3 hw5 hmm t6 mp16 mp26 bd6 rows6 Xcp Xmp1 Xmp2 Xbd5 Xb5 Xg5 Xbb5
  obtain⟨Xg6,Xbb6,Xbui6,XcB,Xhrows,Xhbe⟩:=HqZ6 g6 bb6 bui6 cB hrows hbe;clear g6 bb6 bui6 cB hrows hbe
  go_wp2_with fail
  refine XcB.out.mono ?_
  rintro e w7 ⟨Av,nv,cv,rfl,rv7,b7⟩
  have bui7:=Xbui6.out.below b7
  have g7:=Xg6.out.below b7
  have bb7:=Xbb6.out.trans (b7.mono Xbb6.out.size)
  have cs:=auto_state bui7 (rv7.mono (fun b hb=>⟨hb.1,hb.2,by simp [Value.ownBlock],fun e=>e⟩)) (fun x hx=>by
   obtain rfl:=List.mem_singleton.1 hx
   have:=XhK.out.r
   rw [<-XhR.out]at this
   exact⟨⟨by simp only;omega,by simp only;omega⟩,by simp only;omega,by simp only;omega⟩) (fun q hq=>by cases hq) (by simp) (by simp)
  rw [putK_no (by simp)]at cs
  clear q0' q1' q2' q3' rv7 b7 XcB Xbui6 Xg6 Xbb6
  obtain⟨Xbui7,Xg7,Xbb7,Xcs⟩:=HqZ4 bui7 g7 bb7 cs;clear bui7 g7 bb7 cs
  go_wp2_with fail
  refine Xcs.out.mono ?_
  rintro e w8 ⟨rfl,vs8,Z8,bui8,t8,-⟩
  have hnl: ¬(Value.slice none 0 0).ownBlock=some w.heap.size:=by simp [Value.ownBlock]
  have g8:=Xg7.out.touch' t8 (fun b hb e=>by
   have:=XhFw.out b hb
   rcases e with e|e|e
   ·omega
   ·omega
   ·simp [Value.ownBlock]at e) (fun e=>by
   rcases e with e|e|e
   ·omega
   ·omega
   ·simp [Value.ownBlock]at e)
  have bb8:=t8.toBelow (B:=w.heap.size) (fun b e=>by
   rcases e with e|e|e
   ·omega
   ·omega
   ·simp [Value.ownBlock]at e) Xbb7.out Xbb7.out.size
  have bl8:=Bld.start (G:=G) (st:=st)
  rw [<-XhR.out]at bl8
  clear t8 hnl Xbui7 Xg7 Xbb7 Xcs
  obtain⟨Xbui8,Xg8,Xbb8,Xbl8⟩:=HqZ4 bui8 g8 bb8 bl8;clear bui8 g8 bb8 bl8
  go_wp2_with fail
  go_loopw [6] (fun i wr=> ∃(k:Nat) (L Tm:List (List It)) (vs:Value) (Z:List (Value×Value)),i= .int .i64 k/\Bui w6 wr F (w2.heap.size+1+1) A1 c1 A2 c2 A3 c3 T N R st G (.slice (some ⟨Pb,0,none⟩) (p+1) cb) vs w2.heap.size (w2.heap.size+1) Z L Tm/\Bld G st k L Tm/\GBox wr F w.heap.size A1 c1 A2 c2 A3 c3 T N R st G/\Below w.heap.size w wr) (fun i _=>2001 - (intOf i).toNat)
  case atStart=>exact⟨0,_,[],_,_,rfl,Xbui8.out,Xbl8.out,Xg8.out,Xbb8.out⟩
  case round=>
   clear Xbui8 Xbl8 Xg8 Xbb8
   obtain⟨k,L,Tm,vs,Z,rfl,bui,bl,g,bb⟩:=hrel
   have blf:=bl.f
   have hsm:=blf.small
   obtain⟨As,cs,hvs,hsc,hsm2⟩:=ownsRow_shape bui.sr.own
   have hZL:Z.length=L.length:=by rw [bui.sr.len,stD_len]
   rw [hZL]at hvs hsc
   subst hvs
   unfold maxLen at hsm2
   obtain⟨ln,hln⟩: ∃q,q=L.length:=⟨_,rfl⟩
   rw [<-hln]at hsm hsc
   have q5:=(bui.bd.blk.cell 5).trans rfl
   rw [<-hln]at q5
   by_cases hlt:k<ln
   ·have hlt':(k:Int)<(ln:Int):=by omega
    obtain⟨kern,hkern⟩: ∃x,L[k]? =some x:=⟨_,List.getElem?_eq_getElem (by rw [<-hln];exact hlt)⟩
    obtain⟨-,-,-,gs,z,rfl,hgs1,hgs2,hz,-,cz1,cz2,-,rz1,-⟩:=bui.sr.at_ (i:=k) (d:=(kern,[])) (by rw [stD_get,hkern];simp)
    obtain⟨Ak,nk,ck',hz1,-⟩:=id rz1
    obtain⟨zz1,zz2⟩:=z
    simp only at hz1 cz1 cz2 rz1
    subst hz1
    have hkm:=bl.by_ XhK.out kern (List.mem_of_getElem? hkern)
    have hbd:=bui.bd
    rw [Xhp.out]at hbd
    have cst:=auto_steps hbd (by rw [<-Xhp.out];exact Xhrows.out wr bui.t0) (by rw [<-Xhp.out];exact⟨hcb1,hcb2⟩) XhT.out (by rw [<-Xhp.out];exact Xhbe.out) XhK.out rz1 (fun b hb=>hb.2.1) hkm.1 hkm.2.2
    rw [<-Xhp.out]at cst
    clear hbd
    obtain⟨nkk,hnk⟩: ∃q,q=(kern.length:Nat):=⟨_,rfl⟩
    obtain⟨Xbui,Xbl,Xblf,Xg,Xbb,XhZL,Xhln,Xhkern,Xrz1,Xhkm,Xcst,Xhz⟩:=HqZ12 bui bl blf g bb hZL hln hkern rz1 hkm cst hz;clear bui bl blf g bb hZL hln hkern rz1 hkm cst hz
    go_wp2_with fail
    refine Xcst.out.mono ?_
    rintro e w9 ⟨Po,vo,rfl,hPo,rowso,b9⟩
    have bui9:=Xbui.out.below b9
    have g9:=Xg.out.below b9
    have bb9:=Xbb.out.trans (b9.mono Xbb.out.size)
    have hwr6:w6.heap.size<=wr.heap.size:=Xbui.out.t0.size
    have hgw:gs<wr.heap.size:=hgs2
    have hgs6:w6.heap.size<=gs:=hgs1
    have hs9:=b9.size
    have hr0:((L,[]):List (List It)×List It)=rowA G st kern L (0 - 1):=rfl
    have bui90:=bui9.row
    rw [<-Xhln.out]at bui90
    have hown1: ∀b,(Value.slice (some ⟨gs,0,none⟩) ln cs).ownBlock=some b->b=gs:=fun b e=>by
     simp only [Value.ownBlock,Option.some.injEq]at e;exact e.symm
    clear bui9 b9 q5 cz1 cz2 Xbui Xg Xbb Xrz1 Xcst
    obtain⟨Xbui90,Xg9,Xbb9,Xrowso,Xhown1,Xhr0⟩:=HqZ6 bui90 g9 bb9 rowso hown1 hr0;clear bui90 g9 bb9 rowso hown1 hr0
    go_wp2_with fail
    go_loopw [49] (fun i wr=> ∃(j:Nat) (L':List (List It)) (t':List It) (vs':Value) (Z':List (Value×Value)),j<=p+1/\i= .int .i64 j/\((L',t'):List (List It)×List It)=rowA G st kern L (j - 1)/\Bui w6 wr F (w2.heap.size+1+1) A1 c1 A2 c2 A3 c3 T N R st G (.slice (some ⟨Pb,0,none⟩) (p+1) cb) vs' w2.heap.size (w2.heap.size+1) Z' L' (Tm++[t'])/\Touch (fun b=>b=w2.heap.size+1+1\/b=w2.heap.size\/b=w2.heap.size+1\/(Value.slice (some ⟨gs,0,none⟩) ln cs).ownBlock=some b) w9 wr/\(∀b,vs'.ownBlock=some b->(Value.slice (some ⟨gs,0,none⟩) ln cs).ownBlock=some b\/w9.heap.size<=b)) (fun i _=>p+1 - (intOf i).toNat)
    case atStart=>exact⟨0,L,[],_,_,Nat.zero_le _,rfl,Xhr0.out,Xbui90.out,Touch.refl _ _,fun b e=> .inl e⟩
    case round=>
     clear Xbui90 Xhr0
     obtain⟨j,L',t',vs',Z',hj,rfl,hrow,bui,tt,hvs'⟩:=hrel
     have rf:=rowF G st kern Xblf.out.nodup (j - 1)
     rw [<-hrow]at rf
     simp only at rf
     have hSrow: ∀b,Po<=b->b<w9.heap.size-> ¬(fun b=>b=w2.heap.size+1+1\/b=w2.heap.size\/b=w2.heap.size+1\/(Value.slice (some ⟨gs,0,none⟩) ln cs).ownBlock=some b) b:=fun b h1 h2 e=>by
      rcases e with e|e|e|e
      ·omega
      ·omega
      ·omega
      ·have:=Xhown1.out b e;omega
     by_cases hlt2:j<p+1
     ·have hlt2':(j:Int)<(p:Int)+1:=by omega
      have rowsr:=Xrowso.out.touch tt (hSrow Po (Nat.le_refl _) Xrowso.out.lt) (fun b h1 h2 _=>hSrow b h1 h2)
      have cj:=rowsr.cell j hlt2
      have rj:=rowsr.rd j hlt2
      obtain⟨Aj,nj,cj',hvj,-⟩:=id rj
      rw [hvj]at cj rj
      obtain⟨hnj,-⟩:=RdIt.at_ rj
      by_cases hnil:outI G st kern j=[]
      ·have hnj0:nj=0:=by rw [hnj,hnil];rfl
       subst hnj0
       have hrow2:((L',t'):List (List It)×List It)=rowA G st kern L (j+1 - 1):=by
        rw [hrow]
        cases j with
        |zero=>rfl
        |succ m=>
         rw [Nat.add_sub_cancel,Nat.add_sub_cancel,rowA_no]
         unfold outI at hnil
         rwa [if_neg (by omega)]at hnil
       clear rf hnj rowsr rj hrow
       obtain⟨Xbui,Xtt,Xhvs',XhSrow,Xhvj,Xhnil,Xhrow2⟩:=HqZ7 bui tt hvs' hSrow hvj hnil hrow2;clear bui tt hvs' hSrow hvj hnil hrow2
       go_wp2_with fail
       go_roundw
       case rel=>exact⟨j+1,L',t',vs',Z',by omega,by go_num,Xhrow2.out,Xbui.out,Xtt.out,Xhvs'.out⟩
       case measure=>simp [intOf];omega
      ·have hj0:j≠0:=fun e=>hnil (by rw [e];rfl)
       obtain⟨m,hm⟩: ∃m,j=m+1:=⟨j - 1,by omega⟩
       have hout:outI G st kern j=nxI G st kern (j:Int):=by unfold outI;rw [if_neg hj0]
       have rjo:=(Xrowso.out.rd j hlt2).touch tt (fun b hb=>hSrow b hb.1 hb.2.1)
       rw [hvj,hout]at rjo
       have hnpos:0<nj:=by
        rw [hnj]
        exact List.length_pos_iff.2 hnil
       have hnpos':(0:Int)<(nj:Int):=by omega
       obtain⟨kx,hkx⟩: ∃q,q=nxI G st kern (j:Int):=⟨_,rfl⟩
       rw [<-hkx]at rjo
       have hxb:=out_by XhK.out kern (j:Int)
       rw [<-hkx]at hxb
       have buid:=bui.drew
       have rjd:RdIt wr.drew (StF wr.drew w6.heap.size NoX vs') (.slice Aj nj cj') kx:=(rjo.drew).mono (fun b hb=>⟨by omega,Nat.lt_of_lt_of_le hb.2.1 tt.size,fun e=>by
        rcases hvs' b e with e|e
        ·have:=Xhown1.out b e;omega
        ·omega,fun e=>e⟩)
       have hL'len:L'.length<=3000:=by have:=rf.len;rw [<-Xhln.out]at this;omega
       have hLby: ∀q∈L',AllBy q:=fun q hq=>by
        rcases rf.kind q hq with hq|⟨s,e,-⟩
        ·exact(Xbl.out.by_ XhK.out q hq).2.1
        ·rw [e];exact(out_by XhK.out kern s).2.1
       have cs9:=auto_state buid rjd hxb.2.1 hLby (by omega) hxb.2.2
       obtain⟨pk,hpk⟩: ∃q,q=putK L' kx:=⟨_,rfl⟩
       rw [<-hpk]at cs9
       have q7:=(bui.bd.blk.cell 7).trans rfl
       have hrow2:((pk.1,t'++[((j:Int),pk.2)]):List (List It)×List It)=rowA G st kern L (j+1 - 1):=by
        have e1:j - 1=m:=by omega
        have e2:j+1 - 1=m+1:=by omega
        rw [e1]at hrow
        rw [e2,rowA_yes (by rw [<-hm,<-hkx];intro e;exact hnil (by rw [hout,<-hkx];exact e)),<-hrow,<-hm,<-hkx,hpk]
       have hpk2:0<=pk.2/\pk.2<=3000:=by
        rw [hpk]
        unfold putK
        split
        ·rename_i hin
         have:=List.idxOf_lt_length_of_mem hin
         simp only
         omega
        ·simp only
         omega
       have hfresh: ∀x∈t',x.1≠(j:Int):=fun x hx=>by
        obtain⟨x1,x2⟩:=x
        have:=(rf.mem x1 x2 hx).2.1
        simp only
        omega
       have htl:=rf.tlen
       clear rf hnj rowsr rj hrow rjo hL'len hLby hxb buid rjd
       obtain⟨Xbui,Xtt,Xhvs',XhSrow,Xhvj,Xhnil,Xhrow2,Xcs9,Xhkx,Xhpk,Xhout,Xhfresh,Xhm⟩:=HqZ13 bui tt hvs' hSrow hvj hnil hrow2 cs9 hkx hpk hout hfresh hm;clear bui tt hvs' hSrow hvj hnil hrow2 cs9 hkx hpk hout hfresh hm
       go_wp2_with fail
       refine region_late (fun W=>W.cell? ⟨w2.heap.size+1+1,7,none⟩=some (.map (some (w2.heap.size+1)))) 9 10 (by kernel_rfl) (by kernel_rfl) q7 ?_
       simp only [List.take_succ_cons,List.take_zero,List.drop_succ_cons,List.drop_zero]
       iterate 9
        refine wpHeld_cons ?_ (by rfl) (fun wS hwS=> ?_) ?_
        rotate_left
        ·(try dsimp only at hwS)
         go_simp
         all_goals with_reducible rfl
        simp only [Act.put,List.setIfInBounds_toArray,List.set_cons_zero,List.set_cons_succ]
       refine wpHeld_nil ?_
       refine wpMid_cons ?_
       go_wp2_with fail
       refine Xcs9.out.mono ?_
       rintro e w10 ⟨rfl,vs10,Z10,bui10,t10,hn10⟩
       have q7':=(bui10.bd.blk.cell 7).trans rfl
       obtain⟨D,nt,mm,hD,hnt⟩:=bui10.to_
       have hTl:Tm.length=k:=Xblf.out.len
       have hwp:WfI ((Tm.length:Int),(j:Int)):=⟨by simp only;omega,by simp only;omega⟩
       have hput:=hD.put (tq9:=pk.2) hwp Xhfresh.out
       have hkey:=pkey_some hwp
       rw [hTl]at hkey hput
       have hsum:((Tm++[t'++[((j:Int),pk.2)]]).map List.length).sum=((Tm++[t']).map List.length).sum+1:=by simp;omega
       have hntm:nt<maxLen:=by
        have h1:=sum_le (Tm++[t']) 300 (fun x hx=>by
         rcases List.mem_append.1 hx with hx|hx
         ·have:=Xblf.out.tlen x hx
          have:=Xhp.out
          omega
         ·obtain rfl:=List.mem_singleton.1 hx
          omega)
        rw [List.length_append,List.length_singleton,hTl]at h1
        unfold maxLen
        omega
       have hwf:(Lit.int .i64 pk.2).wf=true:=wf_i64_mk (by omega)
       clear hwp hD hTl q7 Xcs9
       obtain⟨Xbui10,Xt10,Xhn10,Xhput,Xhsum,Xhnt,Xhpk2⟩:=HqZ7 bui10 t10 hn10 hput hsum hnt hpk2;clear bui10 t10 hn10 hput hsum hnt hpk2
       go_wp2_with fail
       refine⟨q7',wpMid_nil ?_⟩
       clear q7'
       go_wp2_with (at_mapUpdate;refine wpList_mapUpdate_own _ rfl _ _ _ 121 rfl 128 3 Tryz.pairKeyed Tryz.underlying121 _ (w2.heap.size+1) nt D rfl mm hntm _ _ _ rfl rfl hkey _ [] (plainElem_int Tryz.underlying3 hwf) ?_)
       intro w11 m11 g11
       obtain⟨bui11,t11⟩:=Xbui10.out.way m11 Xhput.out g11 (by have:=Xhsum.out;have:=Xhnt.out;omega)
       have tt11:Touch (fun b=>b=w2.heap.size+1+1\/b=w2.heap.size\/b=w2.heap.size+1\/(Value.slice (some ⟨gs,0,none⟩) ln cs).ownBlock=some b) w9 w11:=(Xtt.out.trans (b:=wr) (c:=w10) ⟨Xt10.out.os,Xt10.out.tape,Xt10.out.output,Xt10.out.size,Xt10.out.block⟩ (fun i hi e=>by
        rcases e with e|e|e
        ·exact .inl e
        ·exact .inr (.inl e)
        ·rcases Xhvs'.out i e with e|e
         ·exact .inr (.inr (.inr e))
         ·omega)).trans t11 (fun i hi e=> .inr (.inr (.inl e)))
       have hvs11: ∀b,vs10.ownBlock=some b->(Value.slice (some ⟨gs,0,none⟩) ln cs).ownBlock=some b\/w9.heap.size<=b:=fun b e=>by
        rcases Xhn10.out b e with e|e
        ·exact Xhvs'.out b e
        ·right
         have:=Xtt.out.size
         have e':wr.heap.size<=b:=e
         omega
       clear m11 g11 t11 mm hkey hntm hwf Xbui10 Xt10 Xhn10 Xhput Xhsum Xhnt Xbui Xtt Xhvs'
       obtain⟨Xbui11,Xtt11,Xhvs11⟩:=HqZ3 bui11 tt11 hvs11;clear bui11 tt11 hvs11
       go_wp2_with fail
       refine NoPanic.normal ?_
       go_wp2_with fail
       go_roundw
       case rel=>exact⟨j+1,_,_,vs10,Z10,by omega,by go_num,Xhrow2.out,Xbui11.out,Xtt11.out,Xhvs11.out⟩
       case measure=>simp [intOf];omega
     ·have hlt2': ¬(j:Int)<(p:Int)+1:=by omega
      have hjp:j - 1=p:=by omega
      rw [hjp]at hrow
      have hTSF: ∀b,(fun b=>b=w2.heap.size+1+1\/b=w2.heap.size\/b=w2.heap.size+1\/(Value.slice (some ⟨gs,0,none⟩) ln cs).ownBlock=some b) b->w.heap.size<b:=fun b e=>by
       rcases e with e|e|e|e
       ·omega
       ·omega
       ·omega
       ·have:=Xhown1.out b e;omega
      have g10:=Xg9.out.touch' tt (fun b hb e=>by have:=hTSF b e;have:=XhFw.out b hb;omega) (fun e=>by have:=hTSF _ e;omega)
      have bb10:=tt.toBelow (B:=w.heap.size) (fun b e=>Nat.le_of_lt (hTSF b e)) Xbb9.out Xbb9.out.size
      obtain⟨As',cs',hvs2,hsc',hsm'⟩:=ownsRow_shape bui.sr.own
      have hZL':Z'.length=L'.length:=by rw [bui.sr.len,stD_len]
      rw [hZL']at hvs2 hsc'
      have q5':=(bui.bd.blk.cell 5).trans rfl
      obtain⟨l2,hl2⟩: ∃q,q=L'.length:=⟨_,rfl⟩
      rw [hvs2,<-hl2]at q5'
      rw [<-hl2]at hsc'
      unfold maxLen at hsm'
      rw [Xhp.out]at hrow
      have hrow1:(rowA G st kern L (topOf G)).1=L':=by rw [<-hrow]
      have hrow2:(rowA G st kern L (topOf G)).2=t':=by rw [<-hrow]
      have hll:l2<=3000:=by have:=rf.len;rw [<-hl2,<-Xhln.out]at this;omega
      clear rf hrow hSrow
      by_cases hmany:2000<l2
      ·have hmany':(2000:Int)<(l2:Int):=by omega
       have hau:=Auto.many k L Tm kern Xbl.out Xhkern.out (by rw [hrow1,<-hl2];exact hmany)
       obtain⟨Xbui,Xtt,Xhvs',Xhvs2,Xhl2,Xhrow1,Xhrow2,Xg10,Xbb10,Xhau,XhZL',XhTSF⟩:=HqZ12 bui tt hvs' hvs2 hl2 hrow1 hrow2 g10 bb10 hau hZL' hTSF;clear bui tt hvs' hvs2 hl2 hrow1 hrow2 g10 bb10 hau hZL' hTSF
       go_wp2_with fail
       go_ret2
       exact⟨Xbb10.out,.inr (.inl ⟨rfl,Xhau.out,rfl⟩)⟩
      ·have hmany': ¬(2000:Int)<(l2:Int):=by omega
       have hnx:=Bld.next k L Tm kern Xbl.out Xhkern.out (by rw [hrow1,<-hl2];omega)
       rw [hrow1,hrow2]at hnx
       obtain⟨Xbui,Xtt,Xhvs',Xhvs2,Xhl2,Xhrow1,Xhrow2,Xg10,Xbb10,Xhnx,XhZL',XhTSF⟩:=HqZ12 bui tt hvs' hvs2 hl2 hrow1 hrow2 g10 bb10 hnx hZL' hTSF;clear bui tt hvs' hvs2 hl2 hrow1 hrow2 g10 bb10 hnx hZL' hTSF
       go_wp2_with fail
       go_roundw
       case rel=>exact⟨k+1,L',Tm++[t'],vs',Z',by go_num,Xbui.out,Xhnx.out,Xg10.out,Xbb10.out⟩
       case measure=>simp [intOf];omega
   ·have hlt': ¬(k:Int)<(ln:Int):=by omega
    have hkl:k=ln:=by have:=blf.le;omega
    have hfirst:=blf.first
    obtain⟨-,-,-,gs,z0,rfl,hgs1,hgs2,-,-,-⟩:=bui.sr.at_ (i:=0) (d:=([((G.rules.length:Int),0)],[])) (by rw [stD_get,hfirst];simp)
    have hTl:Tm.length=ln:=by rw [blf.len,hkl]
    have hau:Auto G st (some (L,Tm)):=Auto.ok L Tm (by rw [<-hln,<-hkl];exact bl)
    have sr0:=bui.sr
    rw [show stD L []=stD L (Tm.take 0) by rw [List.take_zero],<-hln]at sr0
    obtain⟨wz,hwz⟩: ∃q,q=wr:=⟨_,rfl⟩
    rw [<-hln]at bui
    clear hfirst
    rw [<-hwz]at sr0 bui g bb q5 hgs2⊢
    clear hwz
    obtain⟨Xbui,Xbl,Xblf,Xg,Xbb,XhZL,Xhln,XhTl,Xhau,Xsr0,Xhkl⟩:=HqZ11 bui bl blf g bb hZL hln hTl hau sr0 hkl;clear bui bl blf g bb hZL hln hTl hau sr0 hkl
    go_wp2_with fail
    go_loopw [79] (fun i wr=> ∃(k:Nat) (Z':List (Value×Value)),k<=ln/\i= .int .i64 k/\SRow wr w6.heap.size NoX (.slice (some ⟨gs,0,none⟩) ln cs) Z' (stD L (Tm.take k))/\Touch (fun b=>b=gs) wz wr/\ ∀(j:Nat) z,k<=j->Z'[j]? =some z->z.2= .slice none 0 0) (fun i _=>ln - (intOf i).toNat)
    case atStart=>exact⟨0,Z,Nat.zero_le _,rfl,Xsr0.out,Touch.refl _ _,fun j z _ hz=>Xbui.out.nil z (List.mem_of_getElem? hz)⟩
    case round=>
     clear Xsr0 q5 hlt hlt'
     obtain⟨i,Zq,hi,rfl,sr,tz,hnils⟩:=hrel
     have hwz6:w6.heap.size<=wz.heap.size:=Xbui.out.t0.size
     by_cases hlt:i<ln
     ·have hlt':(i:Int)<(ln:Int):=by omega
      obtain⟨kern,hkern⟩: ∃x,L[i]? =some x:=⟨_,List.getElem?_eq_getElem (by rw [<-Xhln.out];exact hlt)⟩
      obtain⟨tw,htw⟩: ∃x,Tm[i]? =some x:=⟨_,List.getElem?_eq_getElem (by rw [XhTl.out];exact hlt)⟩
      have hdq:(stD L (Tm.take i))[i]? =some (kern,[]):=by rw [stD_get,hkern,List.getElem?_eq_none (by rw [List.length_take];omega)];rfl
      obtain⟨hnz,-,-,gs',zq,hgs',-,-,hzq,-,cz1,cz2,fz2,-,-⟩:=sr.at_ hdq
      injection hgs' with hgs'
      injection hgs' with hgs'
      subst hgs'
      have hent:=Xblf.out.mem i tw kern htw hkern
      have hsort:=Xblf.out.sort tw (List.mem_of_getElem? htw)
      have htl:=Xblf.out.tlen tw (List.mem_of_getElem? htw)
      rw [<-Xhp.out]at htl
      have hup0:uptoI tw 0=[]:=upto_zero (fun x hx=>(hent x.1 x.2 hx).1)
      have hupp:uptoI tw p=tw:=upto_all (fun x hx=>by have:=(hent x.1 x.2 hx).2.1;rw [Xhp.out];exact this)
      have hown:=sr.own
      rw [<-hnz]at hown
      have hzn:=hnils i zq (Nat.le_refl _) hzq
      obtain⟨zq1,zq2⟩:=zq
      simp only at hzn cz1 cz2
      subst hzn
      obtain⟨wq,hwq⟩: ∃q,q=wr:=⟨_,rfl⟩
      rw [<-hwq]at sr tz hown cz1 cz2 fz2⊢
      clear hwq
      have hown0:wq.ownsRow w6.heap.size 112 2 (.slice (some ⟨gs,0,none⟩) ln cs) ln (stCells (Zq.set i (zq1,.slice none 0 0))):=by rw [set_get hzq];exact hown
      have hgF: ∀b,F b->b≠gs:=fun b hb=>by have:=XhFw.out b hb;have h2:w6.heap.size<=gs:=hgs1;omega
      have hgB:w2.heap.size+1+1≠gs/\w2.heap.size+1≠gs/\w.heap.size≠gs:=by have h2:w6.heap.size<=gs:=hgs1;omega
      clear hown cz1 cz2 fz2
      have Xhnils:=hide hnils;clear hnils
      have Xq:=hide (show wz.heap.size<=wq.heap.size from tz.size)
      obtain⟨Xsr,Xtz,Xhent,Xhsort,Xhtl,Xhup0,Xhupp,Xhown0,Xhzq,Xhnz,Xhdq,Xhkern,Xhtw⟩:=HqZ13 sr tz hent hsort htl hup0 hupp hown0 hzq hnz hdq hkern htw;clear sr tz hent hsort htl hup0 hupp hown0 hzq hnz hdq hkern htw
      go_wp2_with fail
      go_loopw [10] (fun s wr=> ∃(m:Nat) (Au:Option Addr) (cu:Nat),1<=m/\m<=p+1/\s= .int .i64 (m:Int)/\wr.ownsRow w6.heap.size 112 2 (.slice (some ⟨gs,0,none⟩) ln cs) ln (stCells (Zq.set i (zq1,.slice Au (uptoI tw (m - 1)).length cu)))/\wr.ownsRow wq.heap.size 131 2 (.slice Au (uptoI tw (m - 1)).length cu) (uptoI tw (m - 1)).length (itCells (uptoI tw (m - 1)))/\Touch (fun b=>b=gs) wq wr) (fun s _=>p+2 - (intOf s).toNat)
      case atStart=>exact⟨1,none,0,Nat.le_refl _,by omega,by go_num,by rw [Nat.sub_self,Xhup0.out];exact Xhown0.out,by rw [Nat.sub_self,Xhup0.out];exact World.ownsRow_nil _ _ _ _,Touch.refl _ _⟩
      case round=>
       clear Xhown0
       obtain⟨m,Au,cu,hm1,hm,rfl,ownS,ownU,tq⟩:=hrel
       have gr:=Xg.out.touch' (Xtz.out.trans' tq) hgF hgB.2.2
       have ctt:=XcT.out wr gr
       obtain⟨q0,q1,q2,q3⟩:=gr.cells
       clear gr
       obtain⟨XownS,XownU,Xtq,Xctt⟩:=HqZ4 ownS ownU tq ctt;clear ownS ownU tq ctt
       go_wp2_with fail
       refine Xctt.out.mono ?_
       rintro e w10 ⟨rfl,b10⟩
       have ownS10:=own_below' XownS.out b10
       have ownU10:=own_below' XownU.out b10
       have tq10:=Xtq.out.trans' (Touch.of_size b10 (fun b=>b=gs))
       clear q0 q1 q2 q3 b10 XownS XownU Xtq Xctt
       by_cases hle:m<=p
       ·have hle':(m:Int)<=(p:Int):=by omega
        have tz10:=Xtz.out.trans' tq10
        have bk10:=Xbui.out.bd.blk.touch tz10 hgB.1
        have q7:=(bk10.cell 7).trans rfl
        have q5:=(bk10.cell 5).trans rfl
        obtain⟨D,nt,mmz,hD,-⟩:=Xbui.out.to_
        have mm:=tz10.ownsMap mmz hgB.2.1
        have hwp:WfI ((i:Int),(m:Int)):=⟨by simp only;omega,by simp only;omega⟩
        have hkey:=pkey_some hwp
        have hh:=hD.has i (m:Int) hwp
        by_cases hex: ∃tq9:Int,(((m:Int),tq9):It)∈tw
        ·obtain⟨tq9,hto⟩:=hex
         have hyes:Maps.has D (pkey i m)=true:=hh.2 ⟨tw,tq9,Xhtw.out,hto⟩
         have hat0:=hD.at_ i m tq9 tw hwp Xhtw.out hto (.lit (.int .i64 0))
         have hup:uptoI tw (m+1 - 1)=uptoI tw (m - 1)++[((m:Int),tq9)]:=by
          have e1:m=(m - 1)+1:=by omega
          have:=upto_yes (m:=m - 1) (tq9:=tq9) Xhsort.out (by rw [<-e1];exact hto)
          rw [<-e1]at this
          rw [Nat.add_sub_cancel];exact this
         have htob:=Xhent.out _ _ hto
         have htlt:=(List.getElem?_eq_some_iff.1 htob.2.2.2.2).1
         rw [<-Xhln.out]at htlt
         have hul:(uptoI tw (m - 1)).length<=300:=by have:=upto_len tw (m - 1);have:=Xhtl.out;omega
         obtain⟨nu,hnu⟩: ∃q,q=(uptoI tw (m - 1)).length:=⟨_,rfl⟩
         rw [<-hnu]at ownS10 ownU10 hul
         obtain⟨-,hcu1,hcu2,-⟩:=RdIt.at_ (Rd.of_own ownU10)
         unfold maxLen at hcu2
         obtain⟨-,hcs2⟩:=stCells_get (Z:=Zq.set i (zq1,.slice Au nu cu)) (i:=i) (p:=(zq1,.slice Au nu cu)) (List.getElem?_set_self (List.getElem?_eq_some_iff.1 Xhzq.out).1)
         obtain⟨cz2,fz2⟩:=own_cell ownS10 hcs2
         simp only at cz2
         clear hh hD mmz
         obtain⟨XownS10,XownU10,Xtq10,Xtz10,Xbk10,Xhup,Xhto,Xhat0,Xhnu,Xhtob,Xhwp,Xhcs2⟩:=HqZ12 ownS10 ownU10 tq10 tz10 bk10 hup hto hat0 hnu htob hwp hcs2;clear ownS10 ownU10 tq10 tz10 bk10 hup hto hat0 hnu htob hwp hcs2
         go_wp2_with (at_lookup;refine wpList_lookup_own_ok_int _ rfl _ _ 121 rfl 128 3 .i64 Tryz.pairKeyed Tryz.underlying121 Tryz.underlying3 (Tryz.zeroInt _) _ _ D rfl mm _ _ rfl hkey ?_;intro cc hat hwc)
         have hcc:cc=tq9:=by
          rw [Xhat0.out]at hat
          injection hat with hat
          injection hat with _ hat
          exact hat.symm
         subst hcc
         clear hat hwc hyes hkey mm Xhat0 q7
         go_wp2_with fail
         refine region_late (fun W=>W.cell? ⟨w2.heap.size+1+1,5,none⟩=some (.slice (some ⟨gs,0,none⟩) ln cs)/\W.cell? ⟨gs,i * 2+1,none⟩=some (.slice Au nu cu)) 16 18 (by kernel_rfl) (by kernel_rfl) ⟨q5,cz2⟩ ?_
         simp only [List.take_succ_cons,List.take_zero,List.drop_succ_cons,List.drop_zero]
         iterate 16
          refine wpHeld_cons ?_ (by rfl) (fun wS hwS=> ?_) ?_
          rotate_left
          ·(try dsimp only at hwS)
           go_simp
           all_goals with_reducible rfl
          simp only [Act.put,List.setIfInBounds_toArray,List.set_cons_zero,List.set_cons_succ]
         refine wpHeld_nil ?_
         obtain⟨w12,hw12⟩: ∃q,q=(w10.alloc (.cells #[.int .i64 (m:Int),.int .i64 cc] 131)).drew:=⟨_,rfl⟩
         have b12:Below w10.heap.size w10 w12:=by rw [hw12];exact((Below.refl _ w10).alloc (Nat.le_refl _) _).drew
         have ownS12:=own_below' XownS10.out b12
         have ownU12:=own_below' XownU10.out b12
         have tq12:=Xtq10.out.trans' (Touch.of_size b12 (fun b=>b=gs))
         have bk12:=Xbk10.out.below b12 Xbk10.out.lt
         have q512:=(bk12.cell 5).trans rfl
         obtain⟨cz212,-⟩:=own_cell ownS12 Xhcs2.out
         have hone:RdIt w12 (fun b=>b=w10.heap.size) (.slice (some ⟨w10.heap.size,0,none⟩) 1 1) [((m:Int),cc)]:=by rw [hw12];exact(RdIt.one (w:=w10) (e:=131) ((m:Int),cc)).drew
         have hz12:wq.heap.size<=w12.heap.size:=tq12.size
         have s12:w12.heap.size=w10.heap.size+1:=by rw [hw12];simp
         have hS12:w12.cell? ⟨w2.heap.size+1+1,5,none⟩=some (.slice (some ⟨gs,0,none⟩) ln cs)/\w12.cell? ⟨gs,i * 2+1,none⟩=some (.slice Au nu cu):=⟨q512,cz212⟩
         have ownU12r:=ownU12
         rw [hw12]at hS12 hone hz12 ownU12r
         clear q512 cz212 b12
         obtain⟨XownS12,XownU12,Xtq12,Xbk12,Xhone,Xs12,XownU12r⟩:=HqZ7 ownS12 ownU12 tq12 bk12 hone s12 ownU12r;clear ownS12 ownU12 tq12 bk12 hone s12 ownU12r
         refine wpMid_cons ?_
         go_wp2_with fail
         refine⟨hS12,wpMid_cons ?_⟩
         clear hS12
         go_wp2_with (at_builtin;refine wp_append _ rfl (.tmp 112) (.tmp 116) _ rfl Tryz.elemTrans wq.heap.size _ nu (itCells (uptoI tw (m - 1))) rfl XownU12r.out _ _ [I64 (m:Int),I64 cc] 1 rfl rfl Xhone.out (itCells_one [((m:Int),cc)]) (by unfold maxLen;omega) (by omega) hz12 ?_)
         intro A13 c13 w13 own13 g13 hb13
         rw [<-hw12]at g13
         rw [<-Xs12.out]at hb13
         have hgw:gs<wq.heap.size:=by
          have h1:gs<wz.heap.size:=hgs2
          have:=Xq.out
          omega
         have hvU: ∀b,(Value.slice Au nu cu).ownBlock=some b->wq.heap.size<=b/\b<w12.heap.size:=fun b e=>XownU12.out.lt b e
         have t13:Touch (fun b=>(Value.slice Au nu cu).ownBlock=some b) w12 w13:=(Touch.refl _ _).grown g13 (fun b e _=>e)
         have ownS13:=t13.own XownS12.out (fun b hb e=>by
          simp only [Value.ownBlock,Option.some.injEq]at hb
          have:=hvU b e
          omega)
         have tq13:Touch (fun b=>b=gs) wq w13:=Xtq12.out.trans t13 (fun b hb e=>by have:=hvU b e;omega)
         have bk13:=Xbk12.out.touch t13 (fun e=>by have:=hvU _ e;have:=Xbui.out.lB;omega)
         have q513:=(bk13.cell 5).trans rfl
         obtain⟨cz13,fz13⟩:=own_cell ownS13 Xhcs2.out
         have ownS14:=own_put ownS13 (j:=i * 2+1) (by
          rw [stCells_len,List.length_set]
          have:=(List.getElem?_eq_some_iff.1 Xhzq.out).1
          omega) (.slice A13 (nu+1) c13)
         have hsi:=(List.getElem?_eq_some_iff.1 Xhzq.out).1
         rw [<-stCells_set (Z:=Zq.set i (zq1,.slice Au nu cu)) (i:=i) (p:=(zq1,.slice Au nu cu)) _ (List.getElem?_set_self hsi),List.set_set]at ownS14
         have hne13:(Value.slice A13 (nu+1) c13).ownBlock≠some gs:=fun e=>by
          rcases hb13 with e8|e8
          ·have:=hvU _ (e8▸e);omega
          ·rw [e8]at e
           injection e with e
           have:=Xtq12.out.size
           omega
         have ownU14:=own_far own13 (p:=⟨gs,i * 2+1,none⟩) hne13 (.slice A13 (nu+1) c13)
         rw [show [I64 (m:Int),I64 cc]=itCells [((m:Int),cc)]from rfl,<-itCells_append,<-Xhup.out]at ownU14
         have tq14:Touch (fun b=>b=gs) wq (w13.setCell ⟨gs,i * 2+1,none⟩ (.slice A13 (nu+1) c13)):=tq13.setCell (p:=⟨gs,i * 2+1,none⟩) (fun _=>rfl) _
         have hln1:nu+1=(uptoI tw (m+1 - 1)).length:=by rw [Xhup.out,List.length_append,<-Xhnu.out];rfl
         clear own13 g13 hb13 t13 ownS13 tq13 bk13 hne13 hz12 hw12 q5 cz2 fz2 hvU XownS12 XownU12 Xtq12 Xbk12 Xhone XownU12r XownS10 XownU10 Xtq10 Xtz10 Xbk10
         obtain⟨XownS14,XownU14,Xtq14,Xhln1⟩:=HqZ4 ownS14 ownU14 tq14 hln1;clear ownS14 ownU14 tq14 hln1
         refine⟨⟨q513,cz13⟩,wpMid_nil ?_⟩
         go_wp2_with fail
         refine NoPanic.normal ?_
         go_wp2_with fail
         go_roundw
         case rel=>exact⟨m+1,A13,c13,by omega,by omega,by go_num,by rw [<-Xhln1.out];exact XownS14.out,by rw [<-Xhln1.out];exact XownU14.out,Xtq14.out⟩
         case measure=>simp [intOf];omega
        ·have hno:Maps.has D (pkey i m)=false:=by
          rw [Bool.eq_false_iff]
          intro e
          obtain⟨t,tq9,h1,h2⟩:=hh.1 e
          rw [Xhtw.out]at h1
          injection h1 with h1
          subst h1
          exact hex ⟨tq9,h2⟩
         have hup:uptoI tw (m+1 - 1)=uptoI tw (m - 1):=by
          have e1:m=(m - 1)+1:=by omega
          have:=upto_no (t:=tw) (m:=m - 1) (fun tq9 h=>hex ⟨tq9,by rw [<-e1]at h;exact h⟩)
          rw [<-e1]at this
          rw [Nat.add_sub_cancel];exact this
         rw [<-hup]at ownS10 ownU10
         clear hh hD mmz hex
         obtain⟨XownS10,XownU10,Xtq10,Xtz10,Xbk10,Xhup,Xhwp⟩:=HqZ7 ownS10 ownU10 tq10 tz10 bk10 hup hwp;clear ownS10 ownU10 tq10 tz10 bk10 hup hwp
         go_wp2_with (at_lookup;refine wpList_lookup_own_ok_int _ rfl _ _ 121 rfl 128 3 .i64 Tryz.pairKeyed Tryz.underlying121 Tryz.underlying3 (Tryz.zeroInt _) _ _ D rfl mm _ _ rfl hkey ?_;intro cc hat hwc)
         go_roundw
         case rel=>exact⟨m+1,Au,cu,by omega,by omega,by go_num,XownS10.out,XownU10.out,Xtq10.out⟩
         case measure=>simp [intOf];omega
       ·have hle': ¬(m:Int)<=(p:Int):=by omega
        have hmp:m - 1=p:=by omega
        rw [hmp,Xhupp.out]at ownS10 ownU10
        have srn:=Xsr.out.setT Xhzq.out Xhdq.out (by rw [<-Xhnz.out];exact ownS10) (tq10.mono (fun b _ e=>by rw [e];rfl)) ((Rd.of_own ownU10).mono (fun b hb=>by
         have h1:=ownU10.lt b hb
         have h2:gs<wz.heap.size:=hgs2
         have h3:=Xq.out
         exact⟨by omega,h1.2,fun e=>by simp only [Value.ownBlock,Option.some.injEq]at e;omega,fun e=>e⟩))
        have hstn:(stD L (Tm.take i)).set i ((kern,([]:List It)).1,tw)=stD L (Tm.take (i+1)):=by
         have hli:(Tm.take i).length=i:=by rw [List.length_take,XhTl.out];omega
         have:=stD_next (L:=L) (T:=Tm.take i) (k:=kern) (by rw [hli];exact Xhkern.out) tw
         rw [hli]at this
         rw [List.take_add_one,Xhtw.out]
         exact this.symm
        rw [hstn]at srn
        have tzn:=Xtz.out.trans' tq10
        have hsi:=(List.getElem?_eq_some_iff.1 Xhzq.out).1
        clear hstn ownS10 ownU10 tq10
        obtain⟨Xsrn,Xtzn⟩:=HqZ2 srn tzn;clear srn tzn
        go_wp2_with fail
        go_roundw
        case rel=>exact⟨i+1,_,by omega,by go_num,Xsrn.out,Xtzn.out,fun j z hj hz=>by
         rw [List.getElem?_set_ne (by omega)]at hz
         exact Xhnils.out j z (by omega) hz⟩
        case measure=>simp [intOf];omega
     ·have hlt': ¬(i:Int)<(ln:Int):=by omega
      have htk:Tm.take i=Tm:=List.take_of_length_le (by rw [XhTl.out];omega)
      rw [htk]at sr
      have hrd:=sr.rd.mono (F':=fun b=>w.heap.size<=b/\b<wr.heap.size) (fun b hb=>by have:=hb.1;exact⟨by omega,hb.2⟩)
      have bbn:=tz.toBelow (B:=w.heap.size) (fun b e=>by have h2:w6.heap.size<=gs:=hgs1;omega) Xbb.out Xbb.out.size
      have bkn:=Xbui.out.bd.blk.touch tz (by have h2:w6.heap.size<=gs:=hgs1;omega)
      have q5:=(bkn.cell 5).trans rfl
      clear sr tz hnils
      obtain⟨Xhrd,Xbbn,Xbkn⟩:=HqZ3 hrd bbn bkn;clear hrd bbn bkn
      go_wp2_with fail
      go_ret2
      exact⟨Xbbn.out,.inr (.inr ⟨rfl,L,Tm,_,_,_,Xhau.out,rfl,Xhrd.out⟩)⟩
 ·have hne:(ck !=0)=true:=by simpa using hc0
  clear hmm g2
  obtain⟨Xhc0,Xbb2⟩:=HqZ2 hc0 bb2;clear hc0 bb2
  go_wp2_with fail
  go_ret2
  exact⟨Xbb2.out,.inl ⟨Xhc0.out,rfl⟩⟩
end Go.Proofs.YthlbjgabhpdbfaaGreat
namespace Go.Proofs.YthlbjgabhpdbfaaGreat
set_option linter.unusedVariables false
section
set_option linter.unusedSimpArgs false
open Go.RowKit
attribute [local irreducible] wpStill wpOne wpPh
def aw13:GramD:=⟨[⟨#[65]⟩,⟨#[66]⟩],[⟨#[115]⟩],[(3,[1,3]),(3,[2])],3⟩
theorem aw13_check:checkOf aw13 3=0:=by decide+kernel
def aw13L:List (List It):=[[(2,0)],[(0,1)],[(1,1)],[(2,1)],[(0,2)]]
def aw13T:List (List It):=[[(1,1),(2,2),(3,3)],[(1,1),(2,2),(3,4)],[],[],[]]
theorem aw13_row (k:List It) (L:List (List It)) (r:List (List It)×List It) (h1:clC aw13 3 k 4=clC aw13 3 k 3) (h2:rowC aw13 3 (clC aw13 3 k 3) L (topOf aw13)=r):rowA aw13 3 k L (topOf aw13)=r:=by
 rw [rowC_eq (clC_is h1),h2]
theorem aw13_auto:Auto aw13 3 (some (aw13L,aw13T)):=by
 have step: ∀{i:Nat} {L T:List (List It)} (k:List It) (L':List (List It)) (t:List It),Bld aw13 3 i L T->L[i]? =some k->clC aw13 3 k 4=clC aw13 3 k 3->rowC aw13 3 (clC aw13 3 k 3) L (topOf aw13)=(L',t)->L'.length<=2000->Bld aw13 3 (i+1) L' (T++[t]):=fun{i L T} k L' t hb hk h1 h2 hl=>by
  have hr:=aw13_row k L _ h1 h2
  have:=Bld.next i L T k hb hk (by rw [hr];exact hl)
  rw [hr]at this
  exact this
 have b0:Bld aw13 3 0 [[(2,0)]] []:=Bld.start
 have b1:=step [(2,0)] [[(2,0)],[(0,1)],[(1,1)],[(2,1)]] [(1,1),(2,2),(3,3)] b0 rfl (by decide+kernel) (by decide+kernel) (by decide)
 have b2:=step [(0,1)] aw13L [(1,1),(2,2),(3,4)] b1 rfl (by decide+kernel) (by decide+kernel) (by decide)
 have b3:=step [(1,1)] aw13L [] b2 rfl (by decide+kernel) (by decide+kernel) (by decide)
 have b4:=step [(2,1)] aw13L [] b3 rfl (by decide+kernel) (by decide+kernel) (by decide)
 have b5:=step [(0,2)] aw13L [] b4 rfl (by decide+kernel) (by decide+kernel) (by decide)
 exact Auto.ok aw13L aw13T b5
theorem AutoPost.known {w w':World} {G:GramD} {st:Int} {e:Ending} {L T:List (List It)} (h:AutoPost w G st (checkOf G st) e w') (h0:checkOf G st=0) (ha:Auto G st (some (L,T))):Below w.heap.size w w'/\ ∃A n c,e= .returned (.tuple #[.slice A n c,.int .i64 0])/\RdSt w' (fun b=>w.heap.size<=b/\b<w'.heap.size) (.slice A n c) (stD L T):=by
 obtain⟨hb,h|h|h⟩:=h
 ·exact absurd h0 h.1
 ·have:=h.2.1.unique ha;cases this
 ·obtain⟨-,L',T',A,n,c,h1,h2,h3⟩:=h
  have:=h1.unique ha
  injection this with this
  injection this with e1 e2
  subst e1 e2
  exact⟨hb,A,n,c,h2,h3⟩
end
section
set_option linter.unusedSimpArgs false
open Go.RowKit
attribute [local irreducible] wpStill wpOne wpPh
def AutoIs (G:GramD) (st ck ev:Int) (D:List (List It×List It)):Prop:=
 (ck≠0/\ev=ck/\D=[])\/(ck=0/\Auto G st none/\ev=7/\D=[])\/(ck=0/\ ∃L T,Auto G st (some (L,T))/\ev=0/\D=stD L T)
theorem AutoIs.unique {G:GramD} {st ck ev ev':Int} {D D':List (List It×List It)} (h:AutoIs G st ck ev D) (h':AutoIs G st ck ev' D'):ev=ev'/\D=D':=by
 rcases h with⟨h1,rfl,rfl⟩|⟨h1,h2,rfl,rfl⟩|⟨h1,L,T,h2,rfl,rfl⟩
 ·rcases h' with⟨-,rfl,rfl⟩|⟨h3,-⟩|⟨h3,-⟩
  ·exact⟨rfl,rfl⟩
  ·exact absurd h3 h1
  ·exact absurd h3 h1
 ·rcases h' with⟨h3,-⟩|⟨-,-,rfl,rfl⟩|⟨-,L,T,h3,-⟩
  ·exact absurd h1 h3
  ·exact⟨rfl,rfl⟩
  ·have:=h2.unique h3;cases this
 ·rcases h' with⟨h3,-⟩|⟨-,h3,-⟩|⟨-,L',T',h3,rfl,rfl⟩
  ·exact absurd h1 h3
  ·have:=h2.unique h3;cases this
  ·have:=h2.unique h3
   injection this with this
   injection this with e1 e2
   subst e1 e2
   exact⟨rfl,rfl⟩
theorem AutoPost.flat {w w':World} {G:GramD} {st ck:Int} {e:Ending} (h:AutoPost w G st ck e w'):Below w.heap.size w w'/\ ∃A n c ev D,e= .returned (.tuple #[.slice A n c,.int .i64 ev])/\RdSt w' (fun b=>w.heap.size<=b/\b<w'.heap.size) (.slice A n c) D/\AutoIs G st ck ev D:=by
 obtain⟨hb,⟨hc,rfl⟩|⟨hc,ha,rfl⟩|⟨hc,L,T,A,n,c,ha,rfl,rd⟩⟩:=h
 ·exact⟨hb,none,0,0,ck,[],rfl,RdSt.nil _ _,.inl ⟨hc,rfl,rfl⟩⟩
 ·exact⟨hb,none,0,0,7,[],rfl,RdSt.nil _ _,.inr (.inl ⟨hc,ha,rfl,rfl⟩)⟩
 ·exact⟨hb,A,n,c,0,stD L T,rfl,rd,.inr (.inr ⟨hc,L,T,ha,rfl,rfl⟩)⟩
end
set_option linter.unusedSimpArgs false
open Go.RowKit Go.Maps
attribute [local irreducible] wpStill wpOne wpPh
def lnI (G:GramD) (st k:Int):Int:=((rgt G st k).length:Int)
noncomputable def lksD (G:GramD) (st:Int) (D:Sts0) (i:Nat) (e:List It×List It):List Lk:=(List.range (G.rules.length+1)).filterMap fun k:Nat=>if toB (Cl G st e.1 ((k:Int),lnI G st k))=true then some ((k:Int),tmsOf (G.terms.length+1) (fun t=>toB (LA G st D i ((k:Int),lnI G st k) t)))else none
noncomputable def looksD (G:GramD) (st:Int) (D:Sts0):List (List Lk):=D.mapIdx fun i e=>lksD G st D i e
theorem looksD_len (G:GramD) (st:Int) (D:Sts0):(looksD G st D).length=D.length:=by unfold looksD;simp
theorem looksD_get {G:GramD} {st:Int} {D:Sts0} {i:Nat} {e:List It×List It} (h:D[i]? =some e):(looksD G st D)[i]? =some (lksD G st D i e):=by
 unfold looksD
 rw [List.getElem?_mapIdx,h];rfl
theorem fmap_congr {X Y:Type} {f g:X->Option Y}: ∀{l:List X},(∀x∈l,f x=g x)->l.filterMap f=l.filterMap g
 |[],_=>rfl
 |a::r,h=>by
  rw [List.filterMap_cons,List.filterMap_cons,h a (List.mem_cons_self ..),fmap_congr (fun x hx=>h x (List.mem_cons_of_mem _ hx))]
structure DoneY (d:LD) (y:Dy):Prop where
 it:ItI d d.cm y
 full: ∀p i x,KP d.D p i x->Full d.G d.st d.D d.cm y.ed y.fi p i x
theorem LkIs.is {d:LD} {y:Dy} {F':Nat->Nat->Bool} {i:Nat} {e:List It×List It} {L:List Lk} (hL:LkD d) (hY:DoneY d y) (hF:Spread (d.T+1) y.na y.F y.ed F') (he:d.D[i]? =some e) (h:LkIs d {y with F:=F'} i L):L=lksD d.G d.st d.D i e:=by
 obtain⟨f,hf,rfl⟩:=h
 rw [hY.it.F]at hF
 have hla:=fun{p i t x} hp=>la_iff (p:=p) (i:=i) (t:=t) (x:=x) hL.hA hY.it.fi hL.co hY.it.ed hY.full hF hp
 unfold lkUpto lksD
 refine fmap_congr fun k hk=> ?_
 have hkR:k<=d.G.rules.length:=by have:=List.mem_range.1 hk;omega
 have h1: ∀p,Pl d.D y.fi p i ((k:Int),lnI d.G d.st k)->Cl d.G d.st e.1 ((k:Int),lnI d.G d.st k):=fun p hp=>by
  rcases hp with h|⟨k',h1,h2⟩
  ·obtain⟨e',he',hx⟩:=h.mem
   rw [he]at he'
   injection he' with he'
   subst he'
   exact .base _ hx (hL.hA.kern i e _ he hx).1
  ·obtain⟨e',x,s,he',hx,hb,hn,c,hc,hk'⟩:=hY.it.src i k' p h2
   rw [he]at he'
   injection he' with he'
   subst he'
   rw [h1]
   exact cl_bg (.base x hx (hL.hA.kern i e x he hx).1) hb (((hL.co s hn).mem c.s).1 ⟨c,hc,rfl⟩) hk'
 have h2:Cl d.G d.st e.1 ((k:Int),lnI d.G d.st k)-> ∃p,Pl d.D y.fi p i ((k:Int),lnI d.G d.st k):=fun hc=>by
  rcases(cl_iff hL.hK.toKnI (fun x hx=>(hL.hA.kern i e x he hx).1) _).1 hc with hx|⟨x,hx,n,m,k',hb,hn,hm,hk',e1⟩
  ·obtain⟨p,hp⟩:=KP.of_mem he hx
   exact⟨p,.inl hp⟩
  ·injection e1 with e1 e2
   obtain⟨p,hp⟩:=KP.of_mem he hx
   obtain⟨c,hc,hcs⟩:=((hL.co n hn).mem m).2 hm
   have hr:rgt d.G d.st k'=[]:=by
    rw [<-e1]
    unfold lnI at e2
    exact List.eq_nil_of_length_eq_zero (by omega)
   obtain⟨p',hp'⟩:=(((hY.full p i x hp) n hb).2 hn c hc k' (by rw [hcs];exact hk')).1 hr
   exact⟨p',.inr ⟨k',by rw [e2,e1],hp'⟩⟩
 cases hfk:f (k:Int)with
 |none=>
  rw [if_neg (fun hc=>by
   obtain⟨p,hp⟩:=h2 (toB_iff.1 hc)
   have:=(hf (k:Int) (p:Int)).2 ⟨p,rfl,hp⟩
   rw [hfk]at this
   cases this)]
  rfl
 |some v=>
  obtain⟨p,rfl,hp⟩:=(hf (k:Int) v).1 hfk
  rw [if_pos (toB_iff.2 (h1 p hp))]
  show some ((k:Int),tmsOf (d.T+1) (F' ((p:Nat):Int).toNat))=_
  rw [Int.toNat_natCast,show F' p=fun t=>toB (LA d.G d.st d.D i ((k:Int),lnI d.G d.st k) t)from funext fun t=>bool_of ((hla hp).trans toB_iff.symm)]
  rfl
def d0 (G:GramD) (st:Int) (D:Sts0):LD:=⟨G,st,D,[],[],0,fun _=>[],0,fun _=>[],[]⟩
def y0 (n:Nat):Dy:=⟨n,fun _=>noBits,[],fun _=>[]⟩
theorem fresh_y0 (n:Nat):freshD (y0 n)=y0 (n+1):=by
 unfold freshD y0
 have:(upd (fun _=>noBits) n noBits:Nat->Nat->Bool)=fun _=>noBits:=by
  funext p
  by_cases e:p=n
  ·subst e;rw [upd_same]
  ·rw [upd_ne e]
 rw [this]
theorem MK.start {w2 w4:World} {F:Nat->Prop} {A1:Option Addr} {c1:Nat} {A2:Option Addr} {c2:Nat} {A3:Option Addr} {c3:Nat} {Al:Option Addr} {cl T N R n:Nat} {G:GramD} {st:Int} {D:Sts0} {P M:Nat} {tP:TypeId} (hT:G.terms.length=T) (hN:G.nons.length=N) (hR:G.rules.length=R) (hn:n=D.length) (hg:IsGram w2 F (.slice A1 T c1) (.slice A2 N c2) (.slice A3 R c3) G) (hF: ∀b,F b->b<w2.heap.size)
  (hl:RdSt w2 (fun b=>b<w2.heap.size) (.slice Al n cl) D) (b:Below w2.heap.size w2 w4) (hP:w2.heap.size<=P) (kP:Blk w4 P tP (madeCells #[.slice none 0 0] n)) (hM:w2.heap.size<=M) (hPM:P≠M)
  (kM:Blk w4 M 256 #[.slice A1 T c1,.slice A2 N c2,.slice A3 R c3,.int .i64 st,.slice Al n cl,.slice none 0 0,.slice none 0 0,.slice none 0 0,.slice none 0 0,.slice none 0 0,.slice none 0 0,.slice none 0 0,.slice (some ⟨P,0,none⟩) n n]):
  ∃q:LQ,MK w4 q (d0 G st D) (y0 0)/\q.M=M/\ ∀b,b<w2.heap.size->q.ow b=1:=by
 subst hT hN hR hn
 obtain⟨ow,how⟩: ∃ow:Nat->Nat,ow=fun b=>if b<w2.heap.size then 1 else if b=P then 10 else if b=M then 0 else 2:=⟨_,rfl⟩
 have o1: ∀b,b<w2.heap.size->ow b=1:=fun b hb=>by rw [how];simp [hb]
 have oP:ow P=10:=by rw [how];show(if P<w2.heap.size then 1 else if P=P then 10 else if P=M then 0 else 2)=10;rw [if_neg (by omega),if_pos rfl]
 have oM:ow M=0:=by rw [how];show(if M<w2.heap.size then 1 else if M=P then 10 else if M=M then 0 else 2)=0;rw [if_neg (by omega),if_neg (fun e=>hPM e.symm),if_pos rfl]
 have t1: ∀b,b<w2.heap.size->TF w4 ow (fun t=>t=1) b:=fun k hk=>⟨Nat.lt_of_lt_of_le hk b.size,o1 k hk⟩
 refine⟨⟨M,ow,F,A1,c1,A2,c2,A3,c3,Al,cl,none,0,none,0,.slice none 0 0,.slice none 0 0,none,0,none,0,fun _=>0,fun _ _=>False,none,0,P⟩,⟨⟨hg.below b,fun k hk=>t1 k (hF k hk),(hl.below b (fun _ h=>h)).mono t1,?_,?_,.inl ⟨rfl,rfl⟩,.inl ⟨rfl,rfl⟩,Row.nil _ _ _ _ _,?_,?_,⟨fun _=> .slice none 0 0,?_⟩⟩,kM,oM⟩,rfl,o1⟩
 ·exact⟨[],rfl,Row.nil _ _ _ _ _,fun i z r h=>by simp at h⟩
 ·exact⟨[],rfl,Row.nil _ _ _ _ _,fun i z r h=>by simp at h⟩
 ·exact⟨Row.nil _ _ _ _ _,fun i hi=>absurd hi (Nat.not_lt_zero _),fun i k hi=>absurd hi (Nat.not_lt_zero _),fun i j k hi=>absurd hi (Nat.not_lt_zero _)⟩
 ·exact⟨[],rfl,Row.nil _ _ _ _ _,fun i z r h=>by simp at h⟩
 ·exact Rows.made kP oP
def RdLks (V:World) (F:Nat->Prop) (v:Value) (LL:List (List Lk)):Prop:= ∃Z:List Value,Z.length=LL.length/\Rd V F v 1 Z/\ ∀(j:Nat) z L,Z[j]? =some z->LL[j]? =some L->RdLk V F z L
section
variable {V V' : World} {F F' S : Nat -> Prop} {v : Value} {LL : List (List Lk)}
theorem RdLks.nil (V:World) (F:Nat->Prop):RdLks V F (.slice none 0 0) []:=⟨[],rfl,Rd.nil _ _ _,fun j z L h=>by simp at h⟩
theorem RdLks.mono (h:RdLks V F v LL) (hF: ∀b,F b->F' b):RdLks V F' v LL:=by
 obtain⟨Z,h1,h2,h3⟩:=h
 exact⟨Z,h1,h2.mono hF,fun j z x hz hx=>(h3 j z x hz hx).mono hF⟩
theorem RdLks.below {B:Nat} (h:RdLks V F v LL) (b:Below B V V') (hF: ∀k,F k->k<B):RdLks V' F v LL:=by
 obtain⟨Z,h1,h2,h3⟩:=h
 exact⟨Z,h1,h2.below b hF,fun j z x hz hx=>(h3 j z x hz hx).below b hF⟩
end
structure LksM (base:Nat) (w:World) (A:Option Addr) (n c:Nat) (LL:List (List Lk)):Prop where
 ex: ∃Z:List Value,Z.length=LL.length/\w.ownsRow base 117 1 (.slice A n c) n Z/\ ∀(j:Nat) z x,Z[j]? =some z->LL[j]? =some x->RdLk w (fun b=>base<=b/\b<w.heap.size/\(Value.slice A n c).ownBlock≠some b) z x
 hn:n=LL.length
section
variable {base n b : Nat} {w w1 w2 w3 : World} {A A' : Option Addr} {c c' : Nat} {LL : List (List Lk)} {Z : List Value}
theorem LksM.nil (base:Nat) (w:World):LksM base w none 0 0 []:=⟨⟨[],rfl,World.ownsRow_nil _ _ _ _,fun j p x h=>by simp at h⟩,rfl⟩
theorem LksM.push {z:Value} {l:List Lk} (hn:n=LL.length) (h1:Z.length=LL.length) (h2:w.ownsRow base 117 1 (.slice A n c) n Z) (h3: ∀(j:Nat) z x,Z[j]? =some z->LL[j]? =some x->RdLk w (fun b=>base<=b/\b<w.heap.size/\(Value.slice A n c).ownBlock≠some b) z x) (hbase:base<=w.heap.size)
  (hs:RdLk w1 (fun b=>w.heap.size<=b/\b<w1.heap.size) z l) (b1:Below w.heap.size w w1) (b2:Below w1.heap.size w1 w2)
  (own:w3.ownsRow base 117 1 (.slice A' (n+1) c') (n+1) (Z++[z])) (g:w2.grownBy w3 (Value.slice A n c).ownBlock) (ho:(Value.slice A' (n+1) c').ownBlock=(Value.slice A n c).ownBlock\/(Value.slice A' (n+1) c').ownBlock=some w2.heap.size):
  LksM base w3 A' (n+1) c' (LL++[l])/\Below base w w3:=by
 have t:Touch (fun k=>(Value.slice A n c).ownBlock=some k) w2 w3:=(Touch.refl _ _).grown g (fun k e _=>e)
 have b12:=b1.trans (b2.mono b1.size)
 have hvl: ∀k,(Value.slice A n c).ownBlock=some k->base<=k/\k<w.heap.size:=fun k e=>h2.lt k e
 have hnew: ∀k,(Value.slice A' (n+1) c').ownBlock=some k->(Value.slice A n c).ownBlock=some k\/k=w2.heap.size:=fun k hk=>by
  rcases ho with ho|ho
  ·exact .inl (ho▸hk)
  ·rw [ho]at hk;injection hk with hk;exact .inr hk.symm
 have s1:=b1.size
 have s2:=b2.size
 have s3:=t.size
 refine⟨⟨⟨Z++[z],by simp [h1],own,fun j p x hp hx=> ?_⟩,by rw [List.length_append,<-hn];rfl⟩,t.toBelow (fun k e=>(hvl k e).1) (b12.mono hbase) (Nat.le_trans hbase b12.size)⟩
 by_cases hj:j<Z.length
 ·rw [List.getElem?_append_left hj]at hp
  rw [List.getElem?_append_left (by omega)]at hx
  refine(((h3 j p x hp hx).touch (Touch.of_size b12 (fun _=>False)) (fun _ _ e=>e)).touch t (fun k hk=>hk.2.2)).mono fun k hk=>⟨hk.1,by omega,fun e=> ?_⟩
  rcases hnew k e with e|e
  ·exact hk.2.2 e
  ·omega
 ·have hj':j=Z.length:=by have:=(List.getElem?_eq_some_iff.1 hp).1;simp at this;omega
  subst hj'
  rw [List.getElem?_append_right (Nat.le_refl _),Nat.sub_self]at hp
  rw [List.getElem?_append_right (by omega),h1,Nat.sub_self]at hx
  injection hp with hp
  injection hx with hx
  subst hp hx
  refine(((hs.touch (Touch.of_size b2 (fun _=>False)) (fun _ _ e=>e)).touch t (fun k hk e=>by have:=hvl k e;omega))).mono fun k hk=>⟨by omega,by omega,fun e=> ?_⟩
  rcases hnew k e with e|e
  ·have:=hvl k e;omega
  ·omega
theorem LksM.rd (h:LksM base w A n c LL):RdLks w (fun b=>base<=b/\b<w.heap.size) (.slice A n c) LL:=by
 obtain⟨Ps,h1,h2,h3⟩:=h.ex
 exact⟨Ps,h1,(Rd.of_own h2).mono (fun k hk=>h2.lt k hk),fun j p x hp hx=>(h3 j p x hp hx).mono fun k hk=>⟨hk.1,hk.2.1⟩⟩
end
theorem Tryz.infoLooks:(Tryz.prog.info? 117).map (fun i=>(i.zero,i.size,i.bytes))=some (some (.slice none 0 0),1,24):=by kernel_rfl
theorem Tryz.elemLooks:Elem Tryz.prog 101 117 (.slice none 0 0) 1 24:=⟨Tryz.underlying101,Tryz.infoLooks,rfl,by decide⟩
theorem Tryz.infoFinals:(Tryz.prog.info? 297).map (fun i=>(i.zero,i.size,i.bytes))=some (some (.slice none 0 0),1,24):=by kernel_rfl
theorem make_finals (n:Nat) (hn:n<=65536) (w:World):(Instr.makeSlice 250 (.int .i64 (n:Int)) (.int .i64 (n:Int))).run Tryz.prog w= .ok (.slice (some ⟨w.heap.size,0,none⟩) n n) (w.alloc (.cells (madeCells #[.slice none 0 0] n) 297)):=
 run_make_row' _ _ _ 24 Tryz.underlying250 Tryz.infoFinals rfl .i64 .i64 n (by omega) (by omega) w
def LookPost (w:World) (G:GramD) (st ck:Int) (e:Ending) (w':World):Prop:=Below w.heap.size w w'/\ ∃A n c ev D,e= .returned (.tuple #[.slice A n c,.int .i64 ev])/\AutoIs G st ck ev D/\RdLks w' (fun b=>w.heap.size<=b/\b<w'.heap.size) (.slice A n c) (looksD G st D)
noncomputable def dB (G:GramD) (st:Int) (D:Sts0) (cm:Nat->List Co) (i:Nat):LD:={prepD (d0 G st D) cm with ba:=(List.range i).map fun j=>((preD D j:Nat):Int)}
theorem dB_len (G:GramD) (st:Int) (D:Sts0) (cm:Nat->List Co) (i:Nat):(dB G st D cm i).ba.length=i:=by unfold dB;simp
theorem dB_get {G:GramD} {st:Int} {D:Sts0} {cm:Nat->List Co} {i j:Nat} (h:j<i):(dB G st D cm i).ba[j]? =some ((preD D j:Nat):Int):=by
 show((List.range i).map fun j=>((preD D j:Nat):Int))[j]? =_
 rw [List.getElem?_map,List.getElem?_range h];rfl
theorem dB_next (G:GramD) (st:Int) (D:Sts0) (cm:Nat->List Co) (i:Nat):({dB G st D cm i with ba:=(dB G st D cm i).ba++[((preD D i:Nat):Int)]}:LD)=dB G st D cm (i+1):=by
 unfold dB
 simp only [List.range_succ,List.map_append,List.map_cons,List.map_nil]
def yF (n:Nat):Dy:=⟨n,F00,[],fun _=>[]⟩
theorem yF_put (T n:Nat):({y0 n with F:=setF (y0 n).F 0 (putSet (T+1) noBits 0)}:Dy)=yF n:=by
 unfold yF y0
 have:setF (fun _=>noBits) 0 (putSet (T+1) noBits 0)=F00:=by
  funext p t
  unfold setF F00 putSet noBits
  by_cases hp:p=0
  ·subst hp
   simp
  ·simp [hp]
 simp only [this]
theorem yF_it {d:LD} (h1:1<=preD d.D d.D.length):ItI d d.cm (yF (preD d.D d.D.length)) where
 fi:=⟨Nat.le_refl _,fun i k p h=>(by cases h),fun i=>List.nodup_nil,fun i i' k k' p h=>(by cases h),fun i _=>rfl⟩
 ed:=fun e he=>by cases he
 cnt:=by
  have:=sumFi_le (fi:=(yF (preD d.D d.D.length)).fi) (B:=0) (fun i=>Nat.le_refl _) d.D.length
  show preD d.D d.D.length=preD d.D d.D.length+_
  omega
 F:=rfl
 pos:=h1
 src:=fun i k p h=>by cases h
theorem LkD.mk' {G:GramD} {st:Int} {L T:List (List It)} {cm:Nat->List Co} (hb:Bld G st L.length L T) (hK:KnA G st) (hc: ∀s:Int,isNon G s=true->ComesOf G st s (cm s.toNat)):LkD (dB G st (stD L T) cm (stD L T).length) where
 hP:=⟨(prepD_is (d0 G st (stD L T)) cm).rl,(prepD_is (d0 G st (stD L T)) cm).rs,(prepD_is (d0 G st (stD L T)) cm).tll,(prepD_is (d0 G st (stD L T)) cm).tl,(prepD_is (d0 G st (stD L T)) cm).nu,(prepD_is (d0 G st (stD L T)) cm).ru⟩
 nc:=rfl
 hK:=hK
 hA:=IsAuto.of_bld hb hK
 ba:=fun j hj=>dB_get hj
 bl:=dB_len _ _ _ _ _
 co:=hc
end Go.Proofs.YthlbjgabhpdbfaaGreat

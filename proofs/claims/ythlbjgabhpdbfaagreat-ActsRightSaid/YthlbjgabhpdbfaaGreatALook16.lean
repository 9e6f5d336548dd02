/- Lookaheads: all of them. -/
import Derived.Test.YthlbjgabhpdbfaaGreatAAuto15
import Derived.WalkKit
import Derived.Test.YthlbjgabhpdbfaaGreatABitsL
import Derived.Laws.EntriesVeiled
import Derived.Test.YthlbjgabhpdbfaaGreatAG7
import Derived.Laws.MakeOwn
import Derived.Deep.Cut
import Derived.Deep.OwnRows
import Derived.Test.YthlbjgabhpdbfaaGreatAFirstPlain
import Derived.Test.YthlbjgabhpdbfaaGreatAFirst4
import Derived.Test.YthlbjgabhpdbfaaGreatALookPlain
import Derived.Deep.CutRange
import Derived.Test.YthlbjgabhpdbfaaGreatAItemLay
namespace Go.Proofs.YthlbjgabhpdbfaaGreat
set_option linter.unusedVariables false
set_option linter.unusedSimpArgs false
open Go.RowKit Go.Maps
attribute [local irreducible] wpStill wpOne wpPh
theorem look_no {w w2:World} {G:GramD} {st ck ev:Int} {D:Sts0} (b:Below w.heap.size w w2) (h:AutoIs G st ck ev D) (he:ev≠0):LookPost w G st ck (.returned (.tuple #[.slice none 0 0,.int .i64 ev])) w2:=by
 refine⟨b,none,0,0,ev,D,rfl,h,?_⟩
 have:D=[]:=by
  rcases h with⟨-,-,h⟩|⟨-,-,-,h⟩|⟨-,L,T,-,h,-⟩
  ·exact h
  ·exact h
  ·exact absurd h he
 subst this
 exact RdLks.nil _ _
set_option maxRecDepth 100000 in
set_option maxHeartbeats 16000000 in
theorem look_Of {w:World} {F:Nat->Prop} {vt vn vr:Value} {G:GramD} (h:IsGram w F vt vn vr G) (hF: ∀b,F b->b<w.heap.size) (st:Int):
  Calls Tryz.prog 137 #[GV vt vn vr st] w (LookPost w G st (checkOf G st)):=by
 obtain⟨A1,c1,A2,c2,A3,c3,rfl,rfl,rfl,-⟩:=h.slices
 obtain⟨w1,hw1⟩: ∃w1,w1=w.alloc (.cells #[.slice A1 G.terms.length c1,.slice A2 G.nons.length c2,.slice A3 G.rules.length c3,.int .i64 st] 25):=⟨_,rfl⟩
 have g1:=GBox.new h st
 have b1:Below w.heap.size w w1:=by rw [hw1];exact(Below.refl _ w).alloc (Nat.le_refl _) _
 rw [<-hw1]at g1
 have cb:=auto_build g1.gram (fun b hb=>Nat.lt_of_lt_of_le (hF b hb) b1.size) st
 obtain⟨q0,q1,q2,q3⟩:=g1.cells
 obtain⟨ck,hck⟩: ∃x,x=checkOf G st:=⟨_,rfl⟩
 rw [<-hck]at cb⊢
 generalize hT:G.terms.length=T at *
 generalize hN:G.nons.length=N at *
 generalize hR:G.rules.length=R at *
 rw [hw1]at cb q0 q1 q2 q3
 clear h
 obtain⟨XhF,Xg1,Xb1,Xcb,Xhck,XhT,XhN,XhR⟩:=HqZ8 hF g1 b1 cb hck hT hN hR;clear hF g1 b1 cb hck hT hN hR
 go_enter Tryz.func137,Tryz.ntmps137
 go_wp2_with fail
 refine Xcb.out.mono ?_
 rintro e w2 hpost
 rw [<-hw1]at hpost
 obtain⟨b2,Al,n,cl,ev,D,rfl,rd,ai⟩:=hpost.flat
 have g2:=Xg1.out.below b2
 have b02:=Xb1.out.trans (b2.mono Xb1.out.size)
 clear q0 q1 q2 q3 hw1 hpost Xg1 Xb1 Xcb
 by_cases hev:ev=0
 ·obtain⟨hn,hnc,hcm,-⟩:=rd.at_
  unfold maxLen at hcm
  rcases ai with⟨hc,he,-⟩|⟨-,-,he,-⟩|⟨hc,L,Tt,ha,-,hD⟩
  ·exact absurd (he.symm.trans hev) hc
  ·rw [hev]at he;exact absurd he (by decide)
  subst hev
  have hc0:ck=0:=hc
  rw [hc]at Xhck
  have hK:=KnA.of_check Xhck.out.symm
  cases ha with
  |ok _ _ hb=>
  have hn2:n<=2000:=by rw [hn,hD,stD_len];exact hb.f.small
  have hmk:=fun W=>make_finals n (by omega) W
  have rdd:=rd
  have g2d:=g2
  obtain⟨p0,p1,p2,p3⟩:=g2.cells
  have hmb:=fun W=>Blk.new W 297 (madeCells #[.slice none 0 0] n)
  generalize hmc:madeCells #[.slice none 0 0] n=mc at hmk hmb
  obtain⟨Xrd,Xg2,Xhn,Xb02,Xb2,XhD,Xhb,XhK,Xhc,Xhmc,Xhmb,Xhc0⟩:=HqZ12 rd g2 hn b02 b2 hD hb hK hc hmc hmb hc0;clear rd g2 hn b02 b2 hD hb hK hc hmc hmb hc0;clear rdd g2d
  go_wp2_with fail
  have S2:w2.drew.cell? ⟨w.heap.size,0,none⟩=some (.slice A1 T c1)/\w2.drew.cell? ⟨w.heap.size,1,none⟩=some (.slice A2 N c2)/\w2.drew.cell? ⟨w.heap.size,2,none⟩=some (.slice A3 R c3)/\w2.drew.cell? ⟨w.heap.size,3,none⟩=some (.int .i64 st):=⟨p0,p1,p2,p3⟩
  clear p0 p1 p2 p3
  have XS2:=hide S2;clear S2
  refine region_late (fun W=>W.cell? ⟨w.heap.size,0,none⟩=some (.slice A1 T c1)/\W.cell? ⟨w.heap.size,1,none⟩=some (.slice A2 N c2)/\W.cell? ⟨w.heap.size,2,none⟩=some (.slice A3 R c3)/\W.cell? ⟨w.heap.size,3,none⟩=some (.int .i64 st)) 4 6 (by kernel_rfl) (by kernel_rfl) XS2.out ?_
  simp only [List.take_succ_cons,List.take_zero,List.drop_succ_cons,List.drop_zero]
  iterate 4
   refine wpHeld_cons ?_ (by rfl) (fun wS hwS=> ?_) ?_
   rotate_left
   ·(try dsimp only at hwS)
    go_simp
    all_goals with_reducible rfl
   simp only [Act.put,List.setIfInBounds_toArray,List.set_cons_zero,List.set_cons_succ]
  refine wpHeld_nil ?_
  refine wpMid_cons ?_
  have bP:Below w2.heap.size w2 (w2.drew.alloc (.cells mc 297)):=((Below.refl _ _).drew).alloc (Nat.le_refl _) _
  have SP:(w2.drew.alloc (.cells mc 297)).cell? ⟨w.heap.size,0,none⟩=some (.slice A1 T c1)/\(w2.drew.alloc (.cells mc 297)).cell? ⟨w.heap.size,1,none⟩=some (.slice A2 N c2)/\(w2.drew.alloc (.cells mc 297)).cell? ⟨w.heap.size,2,none⟩=some (.slice A3 R c3)/\(w2.drew.alloc (.cells mc 297)).cell? ⟨w.heap.size,3,none⟩=some (.int .i64 st):=⟨up_cell bP XS2.out.1,up_cell bP XS2.out.2.1,up_cell bP XS2.out.2.2.1,up_cell bP XS2.out.2.2.2⟩
  have kP:Blk (w2.drew.alloc (.cells mc 297)) w2.heap.size 297 mc:=Xhmb.out w2.drew
  obtain⟨XSP,XbP,XkP⟩:=HqZ3 SP bP kP;clear SP bP kP
  go_wp2_with fail
  refine⟨XSP.out,wpMid_cons ?_⟩
  go_wp2_with fail
  refine⟨XSP.out,wpMid_nil ?_⟩
  go_wp2_with fail
  refine NoPanic.normal ?_
  have b4:Below w2.heap.size w2 ((w2.alloc (.cells mc 297)).alloc (.cells #[.slice A1 T c1,.slice A2 N c2,.slice A3 R c3,.int .i64 st,.slice Al n cl,.slice none 0 0,.slice none 0 0,.slice none 0 0,.slice none 0 0,.slice none 0 0,.slice none 0 0,.slice none 0 0,.slice (some ⟨w2.heap.size,0,none⟩) n n] 256)).drew:=(((Below.refl _ _).alloc (Nat.le_refl _) _).alloc (by simp) _).drew
  have kP4:Blk ((w2.alloc (.cells mc 297)).alloc (.cells #[.slice A1 T c1,.slice A2 N c2,.slice A3 R c3,.int .i64 st,.slice Al n cl,.slice none 0 0,.slice none 0 0,.slice none 0 0,.slice none 0 0,.slice none 0 0,.slice none 0 0,.slice none 0 0,.slice (some ⟨w2.heap.size,0,none⟩) n n] 256)).drew w2.heap.size 297 mc:=((Blk.new w2 _ mc).alloc _).drew
  have kM4:Blk ((w2.alloc (.cells mc 297)).alloc (.cells #[.slice A1 T c1,.slice A2 N c2,.slice A3 R c3,.int .i64 st,.slice Al n cl,.slice none 0 0,.slice none 0 0,.slice none 0 0,.slice none 0 0,.slice none 0 0,.slice none 0 0,.slice none 0 0,.slice (some ⟨w2.heap.size,0,none⟩) n n] 256)).drew (w2.heap.size+1) 256 #[.slice A1 T c1,.slice A2 N c2,.slice A3 R c3,.int .i64 st,.slice Al n cl,.slice none 0 0,.slice none 0 0,.slice none 0 0,.slice none 0 0,.slice none 0 0,.slice none 0 0,.slice none 0 0,.slice (some ⟨w2.heap.size,0,none⟩) n n]:=by
   have:=Blk.new (w2.alloc (.cells mc 297)) 256 #[.slice A1 T c1,.slice A2 N c2,.slice A3 R c3,.int .i64 st,.slice Al n cl,.slice none 0 0,.slice none 0 0,.slice none 0 0,.slice none 0 0,.slice none 0 0,.slice none 0 0,.slice none 0 0,.slice (some ⟨w2.heap.size,0,none⟩) n n]
   rw [World.size_alloc]at this
   exact this.drew
  generalize ((w2.alloc (.cells mc 297)).alloc (.cells #[.slice A1 T c1,.slice A2 N c2,.slice A3 R c3,.int .i64 st,.slice Al n cl,.slice none 0 0,.slice none 0 0,.slice none 0 0,.slice none 0 0,.slice none 0 0,.slice none 0 0,.slice none 0 0,.slice (some ⟨w2.heap.size,0,none⟩) n n] 256)).drew=w4 at *
  rw [<-Xhmc.out]at kP4
  have rd2:=Xrd.out
  obtain⟨q4,mk4,hM4,o4⟩:=MK.start (M:=w2.heap.size+1) XhT.out XhN.out XhR.out Xhn.out Xg2.out.gram Xg2.out.gram.lt (rd2.mono (fun b hb=>hb.2)) b4 (Nat.le_refl _) kP4 (Nat.le_succ _) (by omega) kM4
  have cp:=look_prepare mk4 rfl rfl Xhck.out.symm
  generalize w2.heap.size+1=M at *
  rw [hM4]at cp
  unfold PtrV at cp
  clear XSP XbP XkP XS2 Xg2 kP4 kM4 Xhmb hmk
  obtain⟨Xmk4,XhM4,Xo4,Xcp,Xb4⟩:=HqZ5 mk4 hM4 o4 cp b4;clear mk4 hM4 o4 cp b4
  go_wp2_with fail
  refine Xcp.out.mono ?_
  rintro e w5 ⟨rfl,q5,cm,mk5,hM5,st5,hco⟩
  have hM5:q5.M=M:=hM5.trans XhM4.out
  have stA:StL (fun j=>j≠1) w4 q4.ow w5 q5.ow:=st5.mono (fun j hj=>by unfold JQ at hj;omega)
  have mk5:MK w5 q5 (dB G st D cm 0) (y0 (preD D 0)):=mk5
  have hLk:LkD (dB G st D cm D.length):=by rw [XhD.out];exact LkD.mk' Xhb.out XhK.out (by have:=hco;exact this)
  have hin: ∀wr (qi:LQ),StL (fun j=>j≠1) w4 q4.ow wr qi.ow->Below w2.heap.size w2 wr:=fun wr qi s=>Xb4.out.trans (s.t.below (fun k hk _ e=>e (Xo4.out k hk)) Xb4.out.size)
  have rdl:=rd2.mono (F':=fun b=>b<w2.heap.size) (fun b hb=>hb.2)
  have hL9: ∀(i:Nat) e,D[i]? =some e->e.1.length<=2709:=fun i e he=>strict_len9 XhK.out (hLk.hA.strict i e he) (fun x hx=>(hLk.hA.kern i e x he hx).1)
  have bnd: ∀i,preD D i<=i * 2709:=preD_bound (fun e he=>by
   obtain⟨i,hi,rfl⟩:=List.getElem_of_mem he
   exact hL9 i _ (List.getElem?_eq_getElem hi))
  clear st5 rd2 Xmk4 XhM4 Xcp
  obtain⟨Xmk5,XhM5,XstA,XhLk,Xhin,Xrdl,Xhco,XhL9,Xbnd⟩:=HqZ9 mk5 hM5 stA hLk hin rdl hco hL9 bnd;clear mk5 hM5 stA hLk hin rdl hco hL9 bnd
  go_wp2_with fail
  go_loopw [32] (fun iv wr=> ∃(i:Nat) (qi:LQ),i<=n/\iv= .int .i64 (i:Int)/\MK wr qi (dB G st D cm i) (y0 (preD D i))/\qi.M=M/\StL (fun j=>j≠1) w4 q4.ow wr qi.ow) (fun iv _=>n - (intOf iv).toNat)
  case atStart=>exact⟨0,q5,Nat.zero_le _,rfl,Xmk5.out,XhM5.out,XstA.out⟩
  case round=>
   clear Xmk5 XhM5 XstA
   obtain⟨i,qi,hi,rfl,mk,hMi,sT⟩:=hrel
   by_cases hlt:i<n
   ·have hlt':(i:Int)<(n:Int):=by omega
    obtain⟨e,he⟩: ∃e,D[i]? =some e:=⟨_,List.getElem?_eq_getElem (by rw [<-Xhn.out];exact hlt)⟩
    obtain⟨Ab,hAb⟩: ∃x,x=qi.Ab:=⟨_,rfl⟩
    obtain⟨cb,hcb⟩: ∃x,x=qi.cb:=⟨_,rfl⟩
    obtain⟨Aa,hAa⟩: ∃x,x=qi.Aa:=⟨_,rfl⟩
    obtain⟨ca,hca⟩: ∃x,x=qi.ca:=⟨_,rfl⟩
    obtain⟨na,hna⟩: ∃x,x=preD D i:=⟨_,rfl⟩
    have q9:=mk.cells.2.2.2.2.2.2.2.2.2.1
    have q10:wr.cell? ⟨qi.M,10,none⟩=some (.slice qi.Aa (preD D i) qi.ca):=mk.cells.2.2.2.2.2.2.2.2.2.2.1
    rw [hMi,dB_len,<-hAb,<-hcb]at q9
    rw [hMi,<-hAa,<-hca,<-hna]at q10
    have hcap:=mk.b.cap
    have hcap2:preD D i<=qi.ca/\qi.ca<=9223372036854775807:=mk.a.row.cap
    rw [dB_len,<-hcb]at hcap
    rw [<-hna,<-hca]at hcap2
    have hnab:na<=10000000:=by
     have h1:=Xbnd.out i
     have h2:i * 2709<=2000 * 2709:=Nat.mul_le_mul_right _ (by omega)
     omega
    have S1:wr.drew.cell? ⟨M,9,none⟩=some (.slice Ab i cb)/\wr.drew.cell? ⟨M,10,none⟩=some (.slice Aa na ca):=⟨q9,q10⟩
    have bA:Below wr.heap.size wr (wr.drew.alloc (.cells #[.int .i64 (na:Int)] 3)):=((Below.refl _ _).drew).alloc (Nat.le_refl _) _
    have SA:(wr.drew.alloc (.cells #[.int .i64 (na:Int)] 3)).cell? ⟨M,9,none⟩=some (.slice Ab i cb)/\(wr.drew.alloc (.cells #[.int .i64 (na:Int)] 3)).cell? ⟨M,10,none⟩=some (.slice Aa na ca):=⟨up_cell bA q9,up_cell bA q10⟩
    have rone:Rd (wr.drew.alloc (.cells #[.int .i64 (na:Int)] 3)) (fun x=>x=wr.heap.size) (.slice (some ⟨wr.heap.size,0,none⟩) 1 1) 1 [.int .i64 (na:Int)]:=Rd.one' (w:=wr.drew) (e:=3) [.int .i64 (na:Int)] 1 rfl
    have mkA:=mk.below bA 2
    obtain⟨qA,hqA⟩: ∃x:LQ,x={qi with ow:=ext wr qi.ow 2}:=⟨_,rfl⟩
    have hMA:qA.M=M:=by rw [hqA];exact hMi
    have hAA:qA.Ab=Ab/\qA.cb=cb:=by rw [hqA,hAb,hcb];exact⟨rfl,rfl⟩
    have stA:StL (fun j=>j≠1) w4 q4.ow (wr.drew.alloc (.cells #[.int .i64 (na:Int)] 3)) qA.ow:=by rw [hqA];exact sT.trans (StL.new _ bA _ 2)
    rw [<-hqA]at mkA
    have rowA:=mkA.b
    rw [hAA.1,hAA.2,dB_len]at rowA
    clear q9 q10 hAb hcb hAa hca mk hMi sT bA hqA
    obtain⟨XS1,XSA,Xrone,XmkA,XhMA,XstA,XrowA,Xhe,Xhna,XhAA⟩:=HqZ10 S1 SA rone mkA hMA stA rowA he hna hAA;clear S1 SA rone mkA hMA stA rowA he hna hAA
    go_wp2_with fail
    refine region_late (fun W=>W.cell? ⟨M,9,none⟩=some (.slice Ab i cb)/\W.cell? ⟨M,10,none⟩=some (.slice Aa na ca)) 10 12 (by kernel_rfl) (by kernel_rfl) XS1.out ?_
    simp only [List.take_succ_cons,List.take_zero,List.drop_succ_cons,List.drop_zero]
    iterate 10
     refine wpHeld_cons ?_ (by rfl) (fun wS hwS=> ?_) ?_
     rotate_left
     ·(try dsimp only at hwS)
      go_simp
      all_goals with_reducible rfl
     simp only [Act.put,List.setIfInBounds_toArray,List.set_cons_zero,List.set_cons_succ]
    refine wpHeld_nil ?_
    generalize hwA:wr.drew.alloc (.cells #[.int .i64 (na:Int)] 3)=wA at *
    refine wpMid_cons ?_
    go_wp2_with fail
    try rw [hwA]
    refine⟨XSA.out,wpMid_cons ?_⟩
    go_wp2_with (at_builtin;refine wp_append _ rfl (.tmp 39) (.tmp 45) _ rfl Tryz.elemInt 0 (.slice Ab i cb) i _ rfl XrowA.out.own _ _ [.int .i64 (na:Int)] 1 rfl rfl Xrone.out (by intro u hu;obtain rfl:=List.mem_singleton.1 hu;rfl) (by unfold maxLen;omega) (by omega) (Nat.zero_le _) ?_)
    intro A5 c5 w5 own5 g5 ho5
    obtain⟨row5,st5⟩:=XrowA.out.app own5 g5 ho5
    have row5:Row w5 (ext wA qA.ow 7) 7 3 1 A5 (i+1) c5 (((dB G st D cm i).ba++[((preD D i:Nat):Int)]).map (Value.int .i64)):=by
     rw [List.map_append,<-Xhna.out]
     exact row5
    obtain⟨q6,mk6,hM6,st6⟩:=XmkA.out.putB (n':=i+1) (by rw [List.length_append,dB_len];rfl) row5 st5
    rw [XhMA.out]at mk6 hM6 st6
    rw [dB_next]at mk6
    have htm:qA.ow M=0:=by have:=XmkA.out.tm;rwa [XhMA.out]at this
    have bx:=XmkA.out.box.touch st5.t (by rw [XhMA.out,htm];omega)
    rw [XhMA.out]at bx
    have z9:=bx.frozen 9
    have S5:w5.cell? ⟨M,9,none⟩=some (.slice Ab i cb)/\w5.cell? ⟨M,10,none⟩=some (.slice Aa na ca):=⟨(World.cell?_of_block (a:=⟨M,9,none⟩) (st5.t.block M (World.block_lt_of_cell? _ _ XSA.out.1) (by rw [htm];omega))).trans XSA.out.1,(World.cell?_of_block (a:=⟨M,10,none⟩) (st5.t.block M (World.block_lt_of_cell? _ _ XSA.out.1) (by rw [htm];omega))).trans XSA.out.2⟩
    have s59:=S5.1
    have s6:=XstA.out.trans (st6.mono (J':=fun j=>j≠1) (fun j hj=>by omega))
    clear own5 g5 ho5 row5 st5 bx htm st6 XSA XS1 XmkA XhMA XstA XrowA Xrone XhAA hwA
    obtain⟨Xmk6,XhM6,Xs6,XS5⟩:=HqZ4 mk6 hM6 s6 S5;clear mk6 hM6 s6 S5
    refine⟨XS5.out,wpMid_nil ?_⟩
    clear XS5
    go_wp2_with fail
    refine NoPanic.normal ?_
    clear s59 z9
    generalize w5.setCell ⟨M,9,none⟩ (.slice A5 (i+1) c5)=w6 at *
    have b26:=Xhin.out w6 q6 Xs6.out
    obtain⟨-,-,-,hcell⟩:=Xrdl.out.at_
    obtain⟨bS,oS,rfl,-,hcs⟩:=hcell (by omega)
    obtain⟨z1,z2,u1,-,s1,-⟩:=hcs i e Xhe.out
    have u1:=up_cell b26 u1
    obtain⟨A8,n8,c8,rfl,-⟩:=id s1
    obtain⟨hn8,hnc8,hcm8,-⟩:=RdIt.at_ s1
    unfold maxLen at hcm8
    have hn8b:n8<=2709:=by rw [hn8];exact XhL9.out i e Xhe.out
    clear b26 hcell hcs s1
    have Xhn8:=hide hn8;clear hn8
    go_wp2_with fail
    go_loopw [55] (fun iv wr'=> ∃(j:Nat) (qj:LQ),j<=n8/\iv= .int .i64 (j:Int)/\MK wr' qj (dB G st D cm (i+1)) (y0 (preD D i+j))/\qj.M=M/\StL (fun j=>j≠1) w4 q4.ow wr' qj.ow) (fun iv _=>n8 - (intOf iv).toNat)
    case atStart=>exact⟨0,q6,Nat.zero_le _,rfl,Xmk6.out,XhM6.out,Xs6.out⟩
    case round=>
     clear Xmk6 XhM6 Xs6 u1
     obtain⟨j,qj,hj,rfl,mk,hMj,st⟩:=hrel
     by_cases hlj:j<n8
     ·have hlj':(j:Int)<(n8:Int):=by omega
      have cf:=look_fresh mk (XhK.out.t) (by show preD D i+j<=100000000;rw [<-Xhna.out];omega)
      rw [hMj,fresh_y0]at cf
      unfold PtrV at cf
      clear mk
      obtain⟨Xcf,Xst,XhMj⟩:=HqZ3 cf st hMj;clear cf st hMj
      go_wp2_with fail
      refine Xcf.out.mono ?_
      rintro e' w7 ⟨rfl,q7,mk7,hM7,st7⟩
      have hM7:=hM7.trans XhMj.out
      have s7:=Xst.out.trans (st7.mono (J':=fun j=>j≠1) (fun j hj=>by omega))
      clear st7 Xcf Xst
      obtain⟨Xmk7,XhM7,Xs7⟩:=HqZ3 mk7 hM7 s7;clear mk7 hM7 s7
      go_wp2_with fail
      go_roundw
      case rel=>exact⟨j+1,q7,by omega,by go_num,Xmk7.out,XhM7.out,Xs7.out⟩
      case measure=>simp [intOf];omega
     ·have hlj': ¬(j:Int)<(n8:Int):=by omega
      have hjn:preD D i+j=preD D (i+1):=by rw [preD_next Xhe.out,<-Xhn8.out];omega
      rw [hjn]at mk
      clear hjn
      obtain⟨Xmk,XhMj,Xst⟩:=HqZ3 mk hMj st;clear mk hMj st
      go_wp2_with fail
      go_roundw
      case rel=>exact⟨i+1,qj,by omega,by go_num,Xmk.out,XhMj.out,Xst.out⟩
      case measure=>simp [intOf];omega
   ·have hlt': ¬(i:Int)<(n:Int):=by omega
    have hin2:i=D.length:=by have:=Xhn.out;omega
    rw [hin2]at mk
    have hp1:1<=preD D D.length:=by
     obtain⟨t0,h0⟩:=XhLk.out.hA.first
     have h0:D[0]? =some ([((G.rules.length:Int),0)],t0):=h0
     have h1:preD D 1=preD D 0+1:=preD_next h0
     have h2:=(List.getElem?_eq_some_iff.1 h0).1
     have h3:=preD_le D 1 (D.length - 1)
     rw [show 1+(D.length - 1)=D.length by omega]at h3
     omega
    obtain⟨ga,eA,ca⟩:=mk.a.at_ (i:=0) hp1
    have q10:wr.cell? ⟨qi.M,10,none⟩=some (.slice qi.Aa (preD D D.length) qi.ca):=mk.cells.2.2.2.2.2.2.2.2.2.2.1
    have hcap2:preD D D.length<=qi.ca/\qi.ca<=9223372036854775807:=mk.a.row.cap
    obtain⟨na,hna⟩: ∃x,x=preD D D.length:=⟨_,rfl⟩
    obtain⟨ca2,hca2⟩: ∃x,x=qi.ca:=⟨_,rfl⟩
    rw [hMi,eA,<-hna,<-hca2]at q10
    rw [<-hna,<-hca2]at hcap2
    have h0na:0<na:=by omega
    have h0na2:(0:Int)<(na:Int):=by omega
    have cp:=set_put (mk.a.set 0 hp1) 0
    unfold PtrV at ca
    clear hin2 eA hca2
    obtain⟨Xmk,XhMi,XsT,Xcp,Xhp1,Xhna⟩:=HqZ6 mk hMi sT cp hp1 hna;clear mk hMi sT cp hp1 hna
    go_wp2_with fail
    with_reducible refine Xcp.out.mono ?_
    rintro e' w6 ⟨rfl,hs6,t6⟩
    obtain⟨fam,st6⟩:=Xmk.out.a.put Xhp1.out hs6 t6
    have mk6:=Xmk.out.putF fam st6
    have mk6:MK w6 {qi with ow:=ext wr qi.ow 8} (dB G st D cm D.length) {y0 (preD D D.length)with F:=setF (y0 (preD D D.length)).F 0 (putSet (G.terms.length+1) noBits 0)}:=mk6
    rw [yF_put]at mk6
    have s6:=XsT.out.trans (st6.mono (J':=fun j=>j≠1) (fun j hj=>by omega))
    obtain⟨q6,hq6⟩: ∃x:LQ,x={qi with ow:=ext wr qi.ow 8}:=⟨_,rfl⟩
    have hM6:q6.M=M:=by rw [hq6];exact XhMi.out
    rw [show ext wr qi.ow 8=q6.ow from by rw [hq6]]at s6
    rw [<-hq6]at mk6
    have hI6:ItI (dB G st D cm D.length) (dB G st D cm D.length).cm (yF (preD D D.length)):=yF_it Xhp1.out
    clear fam st6 hs6 t6 q10 ca Xcp Xmk XhMi XsT hq6 hcap2
    obtain⟨Xmk6,XhM6,Xs6,XhI6⟩:=HqZ4 mk6 hM6 s6 hI6;clear mk6 hM6 s6 hI6
    have hcM:(dB G st D cm D.length).cm=cm:=rfl
    go_wp2_with fail
    go_loopw [70] (fun iv wr'=> ∃(i:Nat) (qi:LQ) (yi:Dy),i<=n/\iv= .int .i64 (i:Int)/\MK wr' qi (dB G st D cm D.length) yi/\qi.M=M/\StL (fun j=>j≠1) w4 q4.ow wr' qi.ow/\ItI (dB G st D cm D.length) cm yi/\yi.ed.length<=preD D i * 40000/\ ∀p i' x,i'<i->KP D p i' x->Full G st D cm yi.ed yi.fi p i' x) (fun iv _=>n - (intOf iv).toNat)
    case atStart=>exact⟨0,q6,_,Nat.zero_le _,rfl,Xmk6.out,XhM6.out,Xs6.out,XhI6.out,Nat.zero_le _,fun p i' x h=>absurd h (Nat.not_lt_zero _)⟩
    case round=>
     clear Xmk6 XhM6 Xs6 XhI6
     obtain⟨i,qi,yi,hi,rfl,mk,hMi,sT,hIi,hli,hfu⟩:=hrel
     by_cases hlt:i<n
     ·have hlt':(i:Int)<(n:Int):=by omega
      obtain⟨e,he⟩: ∃e,D[i]? =some e:=⟨_,List.getElem?_eq_getElem (by rw [<-Xhn.out];exact hlt)⟩
      have b26:=Xhin.out wr qi sT
      obtain⟨-,-,-,hcell⟩:=Xrdl.out.at_
      obtain⟨bS,oS,rfl,-,hcs⟩:=hcell (by omega)
      obtain⟨z1,z2,u1,-,s1,-⟩:=hcs i e he
      have u1:=up_cell b26 u1
      obtain⟨A8,n8,c8,rfl,-⟩:=id s1
      obtain⟨hn8,hnc8,hcm8,-⟩:=RdIt.at_ s1
      unfold maxLen at hcm8
      have hn8b:n8<=2709:=by rw [hn8];exact XhL9.out i e he
      clear b26 hcell hcs
      obtain⟨Xhn8,Xmk,XhMi,XsT,XhIi,Xhli,Xhfu,Xhe,Xs1⟩:=HqZ9 hn8 mk hMi sT hIi hli hfu he s1;clear hn8 mk hMi sT hIi hli hfu he s1
      go_wp2_with fail
      go_loopw [79] (fun iv wr'=> ∃(j:Nat) (qj:LQ) (yj:Dy),j<=n8/\iv= .int .i64 (j:Int)/\MK wr' qj (dB G st D cm D.length) yj/\qj.M=M/\StL (fun j=>j≠1) w4 q4.ow wr' qj.ow/\ItI (dB G st D cm D.length) cm yj/\yj.ed.length<=(preD D i+j) * 40000/\(∀p i' x,i'<i->KP D p i' x->Full G st D cm yj.ed yj.fi p i' x)/\ ∀(m:Nat) x,m<j->e.1[m]? =some x->Full G st D cm yj.ed yj.fi (preD D i+m) i x) (fun iv _=>n8 - (intOf iv).toNat)
      case atStart=>exact⟨0,qi,yi,Nat.zero_le _,rfl,Xmk.out,XhMi.out,XsT.out,XhIi.out,Xhli.out,Xhfu.out,fun m x h=>absurd h (Nat.not_lt_zero _)⟩
      case round=>
       clear Xmk XhMi XsT XhIi Xhli Xhfu u1
       obtain⟨j,qj,yj,hj,rfl,mk,hMj,sT,hIj,hlj,hfu,hfj⟩:=hrel
       by_cases hlu:j<n8
       ·have hlu':(j:Int)<(n8:Int):=by omega
        have s8:=Xs1.out.below (Xhin.out wr qj sT) (fun b hb=>hb)
        obtain⟨-,-,-,hcell⟩:=RdIt.at_ s8
        obtain⟨b8,o8,rfl,-,hcc⟩:=hcell (by omega)
        obtain⟨x,hx⟩: ∃x,e.1[j]? =some x:=⟨_,List.getElem?_eq_getElem (by rw [<-Xhn8.out];exact hlu)⟩
        obtain⟨x0,x1⟩:=hcc j x hx
        obtain⟨pr,hpr⟩: ∃x,x=preD D i:=⟨_,rfl⟩
        have hprb:pr<=5418000:=by
         have h1:=Xbnd.out i
         have h2:i * 2709<=2000 * 2709:=Nat.mul_le_mul_right _ (by omega)
         omega
        have al:Below wr.heap.size wr (wr.alloc (.cells #[.int .i64 x.1,.int .i64 x.2] 226)).drew:=((Below.refl _ _).alloc (Nat.le_refl _) _).drew
        have kX:Blk (wr.alloc (.cells #[.int .i64 x.1,.int .i64 x.2] 226)).drew wr.heap.size 226 #[.int .i64 x.1,.int .i64 x.2]:=(Blk.new _ _ _).drew
        have mk8:=mk.below al 2
        obtain⟨gb,hAb,ub,-,-⟩:=mk8.b.at_ (j:=i) (u:= .int .i64 ((preD D i:Nat):Int)) (by rw [List.getElem?_map,dB_get (by have:=Xhn.out;omega)];rfl)
        have q9:=mk8.cells.2.2.2.2.2.2.2.2.2.1
        have hbc:=mk8.b.cap
        obtain⟨q8,hq8⟩: ∃x:LQ,x={qj with ow:=ext wr qj.ow 2}:=⟨_,rfl⟩
        have hM8:q8.M=M:=by rw [hq8];exact hMj
        have s8T:StL (fun j=>j≠1) w4 q4.ow (wr.alloc (.cells #[.int .i64 x.1,.int .i64 x.2] 226)).drew q8.ow:=by rw [hq8];exact sT.trans (StL.new _ al _ 2)
        rw [<-hq8]at mk8 q9 hbc hAb
        obtain⟨cb,hcb⟩: ∃x,x=q8.cb:=⟨_,rfl⟩
        rw [hM8,hAb,dB_len,<-hcb,<-Xhn.out]at q9
        rw [dB_len,<-hcb,<-Xhn.out]at hbc
        have hKP:KP D (pr+j) i x:=⟨e,j,Xhe.out,hx,by rw [hpr]⟩
        have ci:=look_item mk8 XhLk.out hIj (by rw [<-hpr]at hlj;have h1:(pr+j) * 40000<=(5418000+2709) * 40000:=Nat.mul_le_mul_right _ (by omega);omega) hKP
        rw [hM8,show(((pr+j:Nat):Int))=(pr:Int)+(j:Int)from by omega]at ci
        rw [<-hpr]at ub
        have f0:=(kX.cell 0).trans rfl
        have f1:=(kX.cell 1).trans rfl
        have hsum:IntKind.i64.wrap ((pr:Int)+(j:Int))=(pr:Int)+(j:Int):=by rw [IntKind.wrap_i64];omega
        unfold PtrV at ci
        obtain⟨xk,xd⟩:=x
        simp only at x0 x1 f0 f1 ci
        generalize hw8:(wr.alloc (.cells #[.int .i64 xk,.int .i64 xd] 226)).drew=w8 at *
        clear s8 hcell hcc al kX mk hq8 sT hAb hcb mk8
        obtain⟨Xhx,Xhpr,XhM8,Xs8T,Xci,Xhlj,Xhfu,Xhfj,XhMj,XhIj,XhKP⟩:=HqZ11 hx hpr hM8 s8T ci hlj hfu hfj hMj hIj hKP;clear hx hpr hM8 s8T ci hlj hfu hfj hMj hIj hKP
        go_wp2_with fail
        refine region_tail 12 (by kernel_rfl) (by kernel_rfl) ?_
        simp only [List.take_succ_cons,List.take_zero,List.drop_succ_cons,List.drop_zero]
        repeat still_step
        refine wpStill_nil ?_
        go_wp2_with fail
        refine Xci.out.mono ?_
        rintro e' w9 ⟨rfl,q9',y9,mk9,hM9,st9,hI9,hG9,hF9,hl9⟩
        have hM9:=hM9.trans XhM8.out
        have s9T:=Xs8T.out.trans (st9.mono (J':=fun j=>j≠1) (fun j hj=>by unfold JI at hj;omega))
        have hfu9: ∀p i' x,i'<i->KP D p i' x->Full G st D cm y9.ed y9.fi p i' x:=fun p i' x h1 h2=>(Xhfu.out p i' x h1 h2).mono hG9.ed hG9.fi
        have hfj9: ∀(m:Nat) x,m<j+1->e.1[m]? =some x->Full G st D cm y9.ed y9.fi (preD D i+m) i x:=fun m x h1 h2=>by
         by_cases em:m=j
         ·subst em
          rw [Xhx.out]at h2
          injection h2 with h2
          rw [<-h2,<-Xhpr.out]
          exact hF9
         ·exact(Xhfj.out m x (by omega) h2).mono hG9.ed hG9.fi
        have hl9':y9.ed.length<=(preD D i+(j+1)) * 40000:=by have:=Xhlj.out;have e1:(preD D i+(j+1)) * 40000=(preD D i+j) * 40000+40000:=(by rw [<-Nat.add_assoc,Nat.add_mul _ 1,Nat.one_mul]);omega
        clear q9 ub f0 f1 x0 x1 u1 hw8 st9 hF9 hl9 hG9 Xci Xs8T hsum
        obtain⟨Xmk9,XhM9,Xs9T,XhI9,Xhfu9,Xhfj9,Xhl9'⟩:=HqZ7 mk9 hM9 s9T hI9 hfu9 hfj9 hl9';clear mk9 hM9 s9T hI9 hfu9 hfj9 hl9'
        go_wp2_with fail
        go_roundw
        case rel=>exact⟨j+1,q9',y9,by omega,by go_num,Xmk9.out,XhM9.out,Xs9T.out,XhI9.out,Xhl9'.out,Xhfu9.out,Xhfj9.out⟩
        case measure=>simp [intOf];omega
       ·have hlu': ¬(j:Int)<(n8:Int):=by omega
        have hpn:=preD_next Xhe.out
        have hlF:yj.ed.length<=preD D (i+1) * 40000:=by rw [hpn,<-Xhn8.out,show n8=j by omega];exact hlj
        have hfF: ∀p i' x,i'<i+1->KP D p i' x->Full G st D cm yj.ed yj.fi p i' x:=fun p i' x h1 h2=>by
         by_cases ei:i'=i
         ·subst ei
          obtain⟨e',m,g1,g2,rfl⟩:=h2
          rw [Xhe.out]at g1
          injection g1 with g1
          subst g1
          exact hfj m x (by have:=(List.getElem?_eq_some_iff.1 g2).1;have:=Xhn8.out;omega) g2
         ·exact hfu p i' x (by omega) h2
        clear hlj hfu hfj hpn
        obtain⟨Xmk,XhMj,XsT,XhIj,XhlF,XhfF⟩:=HqZ6 mk hMj sT hIj hlF hfF;clear mk hMj sT hIj hlF hfF
        go_wp2_with fail
        go_roundw
        case rel=>exact⟨i+1,qj,yj,by omega,by go_num,Xmk.out,XhMj.out,XsT.out,XhIj.out,XhlF.out,XhfF.out⟩
        case measure=>simp [intOf];omega
     ·have hlt': ¬(i:Int)<(n:Int):=by omega
      have hDY:DoneY (dB G st D cm D.length) yi:=⟨hIi,fun p i' x hk=>hfu p i' x (by obtain⟨e,m,h1,-⟩:=hk;have h2:i'<D.length:=(List.getElem?_eq_some_iff.1 h1).1;have:=Xhn.out;omega) hk⟩
      have cs:=look_spread mk XhK.out.t hIi.edv (fun p t hp ht=>by rw [hIi.F];unfold F00;rw [show decide (t=0)=false from decide_eq_false (by omega)];simp)
      rw [hMi]at cs
      unfold PtrV at cs
      clear hIi hfu hli mk
      obtain⟨XhDY,Xcs,XsT,XhMi⟩:=HqZ4 hDY cs sT hMi;clear hDY cs sT hMi
      go_wp2_with fail
      refine Xcs.out.mono ?_
      rintro e' w7 ⟨rfl,F7,⟨q7,mk7,hM7,st7⟩,sp⟩
      have hM7:=hM7.trans XhMi.out
      have s7T:=XsT.out.trans (st7.mono (J':=fun j=>j≠1) (fun j hj=>by omega))
      have b7:=Xhin.out w7 q7 s7T
      obtain⟨D1,hD1⟩: ∃x,x=w7.heap.size:=⟨_,rfl⟩
      clear st7 Xcs XsT
      obtain⟨Xmk7,XhM7,Xs7T,Xsp,Xb7,XhD1⟩:=HqZ6 mk7 hM7 s7T sp b7 hD1;clear mk7 hM7 s7T sp b7 hD1
      go_wp2_with fail
      go_loopw [11,103] (fun ov iv wr'=> ∃(i:Nat) (A:Option Addr) (m c:Nat),i<=n/\iv= .int .i64 (i:Int)/\ov= .slice A m c/\LksM D1 wr' A m c ((looksD G st D).take i)/\Below D1 w7 wr') (fun _ iv _=>n - (intOf iv).toNat)
      case atStart=>exact⟨0,none,0,0,Nat.zero_le _,rfl,rfl,by rw [List.take_zero];exact LksM.nil _ _,by rw [XhD1.out];exact Below.refl _ _⟩
      case round=>
       obtain⟨i,A,m,c,hi,rfl,rfl,lm,le⟩:=hrel
       have le':Below w7.heap.size w7 wr:=by rw [<-XhD1.out];exact le
       by_cases hlt:i<n
       ·have hlt':(i:Int)<(n:Int):=by omega
        obtain⟨e,he⟩: ∃e,D[i]? =some e:=⟨_,List.getElem?_eq_getElem (by rw [<-Xhn.out];exact hlt)⟩
        have cl:=look_looks (Xmk7.out.below le' 2) XhLk.out XhDY.out.it.fi (XhDY.out.it.na_le XhLk.out.hA XhLk.out.hK) (i:=i) (by show i<D.length;rw [<-Xhn.out];exact hlt)
        have hq7:({q7 with ow:=ext w7 q7.ow 2}:LQ).M=M:=XhM7.out
        rw [hq7]at cl
        unfold PtrV at cl
        have hDw:D1<=wr.heap.size:=by rw [XhD1.out];exact le'.size
        clear le' hq7
        obtain⟨Xlm,Xle,Xcl,Xhe⟩:=HqZ4 lm le cl he;clear lm le cl he
        go_wp2_with fail
        refine Xcl.out.mono ?_
        rintro e' w8 ⟨A8,n8,c8,L8,rfl,b8,rd8,lk8⟩
        have hL8:=LkIs.is XhLk.out XhDY.out Xsp.out Xhe.out lk8
        have hget:=looksD_get (G:=G) (st:=st) Xhe.out
        have hL8':L8=lksD G st D i e:=hL8
        rw [<-hL8']at hget
        obtain⟨Z,z1,z2,z3⟩:=Xlm.out.ex
        have hmn:m=i:=by rw [Xlm.out.hn,List.length_take,looksD_len,<-Xhn.out];omega
        have al:Below w8.heap.size w8 (w8.alloc (.cells #[.slice A8 n8 c8] 117)):=(Below.refl _ _).alloc (Nat.le_refl _) _
        have rone:Rd (w8.alloc (.cells #[.slice A8 n8 c8] 117)) (fun x=>x=w8.heap.size) (.slice (some ⟨w8.heap.size,0,none⟩) 1 1) 1 [.slice A8 n8 c8]:=Rd.one' (w:=w8) (e:=117) [.slice A8 n8 c8] 1 rfl
        have own2:=own_below' z2 (b8.trans (al.mono b8.size))
        have hD2:D1<=(w8.alloc (.cells #[.slice A8 n8 c8] 117)).heap.size:=Nat.le_trans hDw (b8.trans (al.mono b8.size)).size
        have hm2:m<=2000:=by omega
        clear hL8 hL8' lk8 hmn
        obtain⟨Xb8,Xrd8,Xhget,Xz1,Xz2,Xz3,Xal,Xrone,Xown2⟩:=HqZ9 b8 rd8 hget z1 z2 z3 al rone own2;clear b8 rd8 hget z1 z2 z3 al rone own2
        go_wp2_with (at_builtin;refine wp_append _ rfl (.tmp 106) (.tmp 110) _ rfl Tryz.elemLooks D1 (.slice A m c) m _ rfl Xown2.out _ _ [.slice A8 n8 c8] 1 rfl rfl Xrone.out (by intro u hu;obtain rfl:=List.mem_singleton.1 hu;rfl) (by unfold maxLen;omega) (by omega) hD2 ?_)
        intro A4 c4 w9 own4 g4 ho4
        obtain⟨lm4,le4⟩:=LksM.push Xlm.out.hn Xz1.out Xz2.out Xz3.out hDw Xrd8.out Xb8.out Xal.out own4 g4 (by rw [World.size_alloc];exact ho4)
        rw [take_getA Xhget.out]at lm4
        have le9:=Xle.out.trans le4
        clear own4 g4 ho4 le4 Xz1 Xz2 Xz3 Xrd8 Xb8 Xal Xown2 Xrone hD2 Xlm Xle Xcl
        obtain⟨Xlm4,Xle9⟩:=HqZ2 lm4 le9;clear lm4 le9
        go_wp2_with fail
        go_roundw
        case rel=>exact⟨i+1,A4,m+1,c4,by omega,by go_num,rfl,Xlm4.out,Xle9.out⟩
        case measure=>simp [intOf];omega
       ·have hlt': ¬(i:Int)<(n:Int):=by omega
        rw [List.take_of_length_le (by rw [looksD_len,<-Xhn.out];omega)]at lm
        have hrd:=lm.rd
        have hfin:Below w.heap.size w wr:=Xb02.out.trans ((Xb7.out.trans (le'.mono Xb7.out.size)).mono Xb02.out.size)
        have hwD:w.heap.size<=D1:=by rw [XhD1.out];exact Nat.le_trans Xb02.out.size Xb7.out.size
        have hai:AutoIs G st ck 0 D:= .inr (.inr ⟨Xhc0.out,L,Tt,.ok _ _ Xhb.out,rfl,XhD.out⟩)
        clear lm le le'
        obtain⟨Xhrd,Xhfin,Xhai⟩:=HqZ3 hrd hfin hai;clear hrd hfin hai
        go_wp2_with fail
        go_ret2
        exact⟨Xhfin.out,A,m,c,0,D,rfl,Xhai.out,Xhrd.out.mono (fun b hb=>⟨Nat.le_trans hwD hb.1,hb.2⟩)⟩
 ·have hev':(ev !=0)=true:=by simpa using hev
  have hfin:=look_no b02 ai hev
  clear rd ai g2
  obtain⟨Xhfin,Xb02,Xb2⟩:=HqZ3 hfin b02 b2;clear hfin b02 b2
  go_wp2_with fail
  go_ret2
  exact Xhfin.out
end Go.Proofs.YthlbjgabhpdbfaaGreat
namespace Go.Proofs.YthlbjgabhpdbfaaGreat
set_option linter.unusedVariables false
set_option linter.unusedSimpArgs false
open Go.RowKit
abbrev aw13D:Sts0:=stD aw13L aw13T
theorem aw14_rest: ∀x∈allIt aw13 3,(behindI aw13 3 x).2=true->isNon aw13 (behindI aw13 3 x).1=true->restI aw13 3 x=[]:=by decide+kernel
theorem aw14_zero {i:Nat} {x:It} {t:Nat} (h:LA aw13 3 aw13D i x t):t=0:=by
 have hK:=KnA.of_check aw13_check
 have key: ∀{i:Nat} {x:It} {s:Int} {t:Nat},LA aw13 3 aw13D i x t->behindI aw13 3 x=(s,true)->isNon aw13 s=true->restI aw13 3 x=[]:=fun{i x s t} h hb hn=>
  aw14_rest x (mem_allIt (la_follow hK h).1) (by rw [hb]) (by rw [hb];exact hn)
 induction h with
 |start=>rfl
 |step _ _ _ _ _ _ _ _ ih=>exact ih
 |close i x s k t u hx hb hn hk hl ih=>
  rw [key hx hb hn]at hl
  cases hl
 |pass _ _ _ _ _ _ _ _ _ _ ih=>exact ih
theorem aw14_pass {i:Nat} {x:It} {s k:Int} (h:LA aw13 3 aw13D i x 0) (hb:behindI aw13 3 x=(s,true)) (hn:isNon aw13 s=true) (hk:k∈ofOf aw13 s) (hr:restI aw13 3 x=[]):LA aw13 3 aw13D i (k,0) 0:= .pass i x s k 0 h hb hn hk (by rw [hr];rfl)
theorem aw14_la:LA aw13 3 aw13D 2 (1,1) 0/\LA aw13 3 aw13D 3 (2,1) 0/\LA aw13 3 aw13D 4 (0,2) 0:=by
 have h0:LA aw13 3 aw13D 0 (2,0) 0:=LA.start
 have hb0:behindI aw13 3 (2,0)=(3,true):=by decide+kernel
 have h00:=aw14_pass (k:=0) h0 hb0 (by decide+kernel) (by decide+kernel) (by decide+kernel)
 have h01:=aw14_pass (k:=1) h0 hb0 (by decide+kernel) (by decide+kernel) (by decide+kernel)
 have h2:=LA.step 0 2 (1,0) 2 0 h01 (by decide+kernel) (by decide+kernel)
 have h3:=LA.step 0 3 (2,0) 3 0 h0 hb0 (by decide+kernel)
 have h1:=LA.step 0 1 (0,0) 1 0 h00 (by decide+kernel) (by decide+kernel)
 have h4:=LA.step 1 4 (0,1) 3 0 h1 (by decide+kernel) (by decide+kernel)
 exact⟨h2,h3,h4⟩
theorem aw14_lks {i:Nat} {e:List It×List It} (p:Nat->Bool) (h1:clC aw13 3 e.1 4=clC aw13 3 e.1 3) (hp: ∀k:Nat,k<3->decide (((k:Int),lnI aw13 3 k)∈clC aw13 3 e.1 3)=p k) (hL: ∀k:Nat,k<3->p k=true->LA aw13 3 aw13D i ((k:Int),lnI aw13 3 k) 0):
  lksD aw13 3 aw13D i e=(List.range 3).filterMap fun k:Nat=>if p k=true then some ((k:Int),[0])else none:=by
 unfold lksD
 refine fmap_congr fun k hk=> ?_
 have hk3:k<3:=List.mem_range.1 hk
 have hc:=(clC_is h1).2 ((k:Int),lnI aw13 3 k)
 have e1:toB (Cl aw13 3 e.1 ((k:Int),lnI aw13 3 k))=p k:=by
  rw [<-hp k hk3]
  exact bool_of (toB_iff.trans (hc.symm.trans decide_eq_true_iff.symm))
 rw [e1]
 cases hpk:p k with
 |false=>rfl
 |true=>
  have:(fun t=>toB (LA aw13 3 aw13D i ((k:Int),lnI aw13 3 k) t))=fun t=>decide (t=0):=funext fun t=>bool_of (toB_iff.trans ⟨fun h=>decide_eq_true (aw14_zero h),fun h=>by rw [of_decide_eq_true h];exact hL k hk3 hpk⟩)
  rw [this]
  rfl
theorem three {P:Nat->Prop} (h0:P 0) (h1:P 1) (h2:P 2): ∀k:Nat,k<3->P k:=fun k hk=>by
 rcases k with _|_|_|k
 ·exact h0
 ·exact h1
 ·exact h2
 ·omega
theorem aw14_looks:looksD aw13 3 aw13D=[[],[],[(1,[0])],[(2,[0])],[(0,[0])]]:=by
 obtain⟨a2,a3,a4⟩:=aw14_la
 have e0:=aw14_lks (i:=0) (e:=([(2,0)],[(1,1),(2,2),(3,3)])) (fun _=>false) (by decide+kernel) (three (by decide+kernel) (by decide+kernel) (by decide+kernel)) (fun _ _ h=>by cases h)
 have e1:=aw14_lks (i:=1) (e:=([(0,1)],[(1,1),(2,2),(3,4)])) (fun _=>false) (by decide+kernel) (three (by decide+kernel) (by decide+kernel) (by decide+kernel)) (fun _ _ h=>by cases h)
 have e2:=aw14_lks (i:=2) (e:=([(1,1)],[])) (fun k=>decide (k=1)) (by decide+kernel) (three (by decide+kernel) (by decide+kernel) (by decide+kernel)) (three (fun h=>absurd h (by decide)) (fun _=>a2) (fun h=>absurd h (by decide)))
 have e3:=aw14_lks (i:=3) (e:=([(2,1)],[])) (fun k=>decide (k=2)) (by decide+kernel) (three (by decide+kernel) (by decide+kernel) (by decide+kernel)) (three (fun h=>absurd h (by decide)) (fun h=>absurd h (by decide)) (fun _=>a3))
 have e4:=aw14_lks (i:=4) (e:=([(0,2)],[])) (fun k=>decide (k=0)) (by decide+kernel) (three (by decide+kernel) (by decide+kernel) (by decide+kernel)) (three (fun _=>a4) (fun h=>absurd h (by decide)) (fun h=>absurd h (by decide)))
 have hD:aw13D=[([(2,0)],[(1,1),(2,2),(3,3)]),([(0,1)],[(1,1),(2,2),(3,4)]),([(1,1)],[]),([(2,1)],[]),([(0,2)],[])]:=rfl
 have hm: ∀g:Nat->(List It×List It)->List Lk,List.mapIdx g aw13D=[g 0 ([(2,0)],[(1,1),(2,2),(3,3)]),g 1 ([(0,1)],[(1,1),(2,2),(3,4)]),g 2 ([(1,1)],[]),g 3 ([(2,1)],[]),g 4 ([(0,2)],[])]:=fun g=>rfl
 unfold looksD
 rw [hm,e0,e1,e2,e3,e4]
 rfl
theorem RdLks.at_ {w:World} {F:Nat->Prop} {A:Option Addr} {n c:Nat} {LL:List (List Lk)} (h:RdLks w F (.slice A n c) LL):n=LL.length/\n<=c/\c<=maxLen/\(0<n-> ∃b off,A=some ⟨b,off,none⟩/\F b/\ ∀(i:Nat) L,LL[i]? =some L-> ∃A' n' c',w.cell? ⟨b,off+i,none⟩=some (.slice A' n' c')/\RdLk w F (.slice A' n' c') L):=by
 obtain⟨Z,h1,⟨A',n',c',hv,h2,h3,h4,h5⟩,h6⟩:=h
 injection hv with e1 e2 e3
 subst e1 e2 e3
 refine⟨by omega,h2,h3,fun hn=> ?_⟩
 obtain⟨b,off,hA,hF,hc⟩:=h5 hn
 refine⟨b,off,hA,hF,fun i L hL=> ?_⟩
 have hi:=(List.getElem?_eq_some_iff.1 hL).1
 obtain⟨z,hz⟩: ∃z,Z[i]? =some z:=⟨_,List.getElem?_eq_getElem (by omega)⟩
 have hr:=h6 i z L hz hL
 obtain⟨Z',g1,⟨A',n',c',rfl,g2⟩,g3⟩:=id hr
 exact⟨A',n',c',hc i _ hz,hr⟩
theorem RdLk.at_ {w:World} {F:Nat->Prop} {A:Option Addr} {n c:Nat} {L:List Lk} (h:RdLk w F (.slice A n c) L):n=L.length/\n<=c/\c<=maxLen/\(0<n-> ∃b off,A=some ⟨b,off,none⟩/\F b/\ ∀(i:Nat) x,L[i]? =some x-> ∃A' n' c',w.cell? ⟨b,off+i * 2,none⟩=some (.int .i64 x.1)/\w.cell? ⟨b,off+i * 2+1,none⟩=some (.slice A' n' c')/\RdI w F (.slice A' n' c') x.2):=by
 obtain⟨Z,h1,⟨A',n',c',hv,h2,h3,h4,h5⟩,h6⟩:=h
 injection hv with e1 e2 e3
 subst e1 e2 e3
 unfold lkCells at h4
 rw [flat_len (k:=2) (fun _=>rfl),zip_len h1.symm]at h4
 refine⟨by omega,h2,h3,fun hn=> ?_⟩
 obtain⟨b,off,hA,hF,hc⟩:=h5 hn
 refine⟨b,off,hA,hF,fun i x hx=> ?_⟩
 have hi:=(List.getElem?_eq_some_iff.1 hx).1
 obtain⟨z,hz⟩: ∃z,Z[i]? =some z:=⟨_,List.getElem?_eq_getElem (by omega)⟩
 have hzz:(List.zip L Z)[i]? =some (x,z):=by rw [List.getElem?_zip_eq_some];exact⟨hx,hz⟩
 have g0:=flat_get (k:=2) (f:=fun x:Lk×Value=>[.int .i64 x.1.1,x.2]) (fun _=>rfl) hzz (j:=0) (by omega)
 have g1:=flat_get (k:=2) (f:=fun x:Lk×Value=>[.int .i64 x.1.1,x.2]) (fun _=>rfl) hzz (j:=1) (by omega)
 have hr:=h6 i z x hz hx
 obtain⟨A',n',c',rfl,-⟩:=id hr
 exact⟨A',n',c',hc _ _ g0,by have:=hc _ _ g1;rw [<-Nat.add_assoc]at this;exact this,hr⟩
theorem lks_len301 {G:GramD} {st:Int} {D:Sts0} {i:Nat} {e:List It×List It}:(lksD G st D i e).length<=G.rules.length+1:=by
 unfold lksD
 exact Nat.le_trans (List.length_filterMap_le _ _) (by simp)
end Go.Proofs.YthlbjgabhpdbfaaGreat
namespace Go.Proofs.YthlbjgabhpdbfaaGreat
set_option linter.unusedVariables false
structure FoundD where
 is:Bool
 long:Bool
 l:List Int
open Go.RowKit
attribute [local irreducible] wpStill wpOne wpPh
end Go.Proofs.YthlbjgabhpdbfaaGreat
namespace Go.Proofs.YthlbjgabhpdbfaaGreat
set_option linter.unusedVariables false
section
open Go.RowKit
attribute [local irreducible] wpStill wpOne wpPh
section
variable {w w' : World} {F : Nat -> Prop} {b g : Nat} {S : List FoundD}
end
end
section
open Go.RowKit
attribute [local irreducible] wpStill wpOne wpPh
end
section
open Go.RowKit
end
section
open Go.RowKit
attribute [local irreducible] wpStill wpOne wpPh
section
variable {w wr wr' : World} {F : Nat -> Prop} {A1 : Option Addr} {c1 : Nat} {A2 : Option Addr} {c2 : Nat} {A3 : Option Addr} {c3 T N R : Nat} {st : Int} {G : GramD} {gz zo : Nat} {S : List FoundD}
end
end
section
open Go.RowKit
attribute [local irreducible] wpStill wpOne wpPh
section
variable {w w' : World} {F : Nat -> Prop} {b gl gi gm : Nat} {S : List FoundD}
end
end
section
open Go.RowKit
attribute [local irreducible] wpStill wpOne wpPh
end
section
open Go.RowKit
attribute [local irreducible] wpStill wpOne wpPh
theorem Tryz.infoInts:(Tryz.prog.info? 49).map (fun i=>(i.zero,i.size,i.bytes))=some (some (.slice none 0 0),1,24):=by kernel_rfl
section
variable {w : World} {F : Nat -> Prop} {b gl gi gm : Nat} {S : List FoundD} {k : Nat} {x : FoundD}
end
end
section
open Go.RowKit
attribute [local irreducible] wpStill wpOne wpPh
section
variable {w w' : World} {b m : Nat} {f g : Nat -> Bool} {S : Nat -> Prop}
end
section
variable {w w' : World} {g n m : Nat} {ps : Nat -> Nat} {F F' : Nat -> Nat -> Bool} {S : Nat -> Prop}
end
end
section
open Go.RowKit
attribute [local irreducible] wpStill wpOne wpPh
structure RD:Type where
 (s gi gb cb gh ch n m z:Nat)
 psb:Nat->Nat
 psh:Nat->Nat
 A1:Option Addr
 (T c1:Nat)
 A2:Option Addr
 (N c2:Nat)
 A3:Option Addr
 (R c3:Nat)
 st:Int
 F:Nat->Prop
section
variable {w w' : World} {q : RD} {G : GramD} {e e' : Nat -> Bool} {bg bh : Nat -> Nat -> Bool} {S : Nat -> Prop}
end
end
open Go.RowKit
attribute [local irreducible] wpStill wpOne wpPh
section
variable {w wr wr' : World} {F : Nat -> Prop} {A1 : Option Addr} {c1 : Nat} {A2 : Option Addr} {c2 : Nat} {A3 : Option Addr} {c3 T N R : Nat} {st : Int} {G : GramD} {q : RD} {e e' : Nat -> Bool} {bg bh bg' bh' : Nat -> Nat -> Bool} {S : Nat -> Prop}
end
def eT (j:Nat):Bool:=decide (j=4)
def bT (i t:Nat):Bool:=decide (t=i/\i<=2)||decide (i=3/\(t=1\/t=2))||decide (i=4/\t=2)
def hT (i t:Nat):Bool:=decide (i=3/\t=0)||decide (i=4/\t=1)
set_option linter.unusedSimpArgs false
theorem lks_mem {G:GramD} {st:Int} {D:Sts0} {i:Nat} {e:List It×List It} {x:Lk} (h:x∈lksD G st D i e): ∃k:Nat,k<=G.rules.length/\x.1=(k:Int)/\Cl G st e.1 ((k:Int),lnI G st k)/\x.2=tmsOf (G.terms.length+1) (fun t=>toB (LA G st D i ((k:Int),lnI G st k) t)):=by
 unfold lksD at h
 obtain⟨k,hk,hx⟩:=List.mem_filterMap.1 h
 split at hx
 ·rename_i hc
  injection hx with hx
  rw [<-hx]
  exact⟨k,by have:=List.mem_range.1 hk;omega,rfl,toB_iff.1 hc,rfl⟩
 ·cases hx
end Go.Proofs.YthlbjgabhpdbfaaGreat
namespace Go.Proofs.YthlbjgabhpdbfaaGreat
set_option linter.unusedVariables false
set_option linter.unusedSimpArgs false
abbrev Ac:=Int×Int
def p1A (t:Int) (x:It):Option Ac:=if 0<t/\x.1=t then some (1,x.2)else none
def p2A (own t:Int) (x:Lk):Option Ac:=if x.1=own/\t∈x.2 then some (3,0)else none
def p3A (own t:Int) (x:Lk):Option Ac:=if x.1≠own/\t∈x.2 then some (2,x.1)else none
def possD (own:Int) (tr:List It) (L:List Lk) (t:Int):List Ac:=tr.filterMap (p1A t)++(L.filterMap (p2A own t)++L.filterMap (p3A own t))
abbrev Cla:=(Int×Int)×(Ac×Ac)
def clAt (i t:Int) (a:List Ac):List Cla:=a.tail.map fun b=>((i,t),(a.headD (0,0),b))
def clRow (own:Int) (tr:List It) (L:List Lk) (i m:Nat):List Cla:=(List.range m).flatMap fun(t:Nat)=>clAt (i:Int) (t:Int) (possD own tr L (t:Int))
def trD (D:Sts0) (i:Nat):List It:=(D.getD i ([],[])).2
def lkD (LL:List (List Lk)) (i:Nat):List Lk:=LL.getD i []
def clsD (own:Int) (D:Sts0) (LL:List (List Lk)) (m i:Nat):List Cla:=(List.range i).flatMap fun j=>clRow own (trD D j) (lkD LL j) j m
def rowAD (own:Int) (tr:List It) (L:List Lk) (m:Nat):List Ac:=(List.range m).map fun k=>(possD own tr L ((k:Nat):Int)).headD (0,0)
def rowGD (D:Sts0) (T i n:Nat):List Int:=(List.range n).map fun k=>gotoD D (i:Int) (((T+1+k:Nat)):Int)
structure TabD where
 rules:List (Int×List Int)
 terms:Int
 nons:Int
 acts:List (List Ac)
 goto:List (List Int)
def actsU (own:Int) (D:Sts0) (LL:List (List Lk)) (m i:Nat):List (List Ac):=(List.range i).map fun j=>rowAD own (trD D j) (lkD LL j) m
def gotoU (D:Sts0) (T n i:Nat):List (List Int):=(List.range i).map fun j=>rowGD D T j n
def tabD (G:GramD) (st:Int) (D:Sts0) (LL:List (List Lk)):TabD:=⟨G.rules++[(0,[st])],G.terms.length,G.nons.length,actsU G.rules.length D LL (G.terms.length+1) D.length,gotoU D G.terms.length G.nons.length D.length⟩
theorem trD_get {D:Sts0} {i:Nat} {e:List It×List It} (h:D[i]? =some e):trD D i=e.2:=by unfold trD;rw [List.getD_eq_getElem?_getD,h];rfl
theorem lkD_get {LL:List (List Lk)} {i:Nat} {L:List Lk} (h:LL[i]? =some L):lkD LL i=L:=by unfold lkD;rw [List.getD_eq_getElem?_getD,h];rfl
theorem clRow_next (own:Int) (tr:List It) (L:List Lk) (i m:Nat):clRow own tr L i (m+1)=clRow own tr L i m++clAt (i:Int) (m:Int) (possD own tr L (m:Int)):=by
 unfold clRow;rw [List.range_succ,List.flatMap_append];simp
theorem clsD_next (own:Int) (D:Sts0) (LL:List (List Lk)) (m i:Nat):clsD own D LL m (i+1)=clsD own D LL m i++clRow own (trD D i) (lkD LL i) i m:=by
 unfold clsD;rw [List.range_succ,List.flatMap_append];simp
theorem rowAD_next (own:Int) (tr:List It) (L:List Lk) (m:Nat):rowAD own tr L (m+1)=rowAD own tr L m++[(possD own tr L (m:Int)).headD (0,0)]:=by
 unfold rowAD;rw [List.range_succ,List.map_append];rfl
theorem rowGD_next (D:Sts0) (T i n:Nat):rowGD D T i (n+1)=rowGD D T i n++[gotoD D (i:Int) (((T+1+n:Nat)):Int)]:=by
 unfold rowGD;rw [List.range_succ,List.map_append];rfl
theorem actsU_next (own:Int) (D:Sts0) (LL:List (List Lk)) (m i:Nat):actsU own D LL m (i+1)=actsU own D LL m i++[rowAD own (trD D i) (lkD LL i) m]:=by
 unfold actsU;rw [List.range_succ,List.map_append];rfl
theorem gotoU_next (D:Sts0) (T n i:Nat):gotoU D T n (i+1)=gotoU D T n i++[rowGD D T i n]:=by
 unfold gotoU;rw [List.range_succ,List.map_append];rfl
theorem rowAD_len (own:Int) (tr:List It) (L:List Lk) (m:Nat):(rowAD own tr L m).length=m:=by unfold rowAD;simp
theorem rowGD_len (D:Sts0) (T i n:Nat):(rowGD D T i n).length=n:=by unfold rowGD;simp
theorem actsU_len (own:Int) (D:Sts0) (LL:List (List Lk)) (m i:Nat):(actsU own D LL m i).length=i:=by unfold actsU;simp
theorem gotoU_len (D:Sts0) (T n i:Nat):(gotoU D T n i).length=i:=by unfold gotoU;simp
theorem rowAD_get (own:Int) (tr:List It) (L:List Lk) {m k:Nat} (h:k<m):(rowAD own tr L m)[k]? =some ((possD own tr L (k:Int)).headD (0,0)):=by unfold rowAD;rw [List.getElem?_map,List.getElem?_range h];rfl
theorem rowGD_get (D:Sts0) (T i:Nat) {n k:Nat} (h:k<n):(rowGD D T i n)[k]? =some (gotoD D (i:Int) (((T+1+k:Nat)):Int)):=by unfold rowGD;rw [List.getElem?_map,List.getElem?_range h];rfl
theorem actsU_get (own:Int) (D:Sts0) (LL:List (List Lk)) (m:Nat) {n i:Nat} (h:i<n):(actsU own D LL m n)[i]? =some (rowAD own (trD D i) (lkD LL i) m):=by unfold actsU;rw [List.getElem?_map,List.getElem?_range h];rfl
theorem gotoU_get (D:Sts0) (T m:Nat) {n i:Nat} (h:i<n):(gotoU D T m n)[i]? =some (rowGD D T i m):=by unfold gotoU;rw [List.getElem?_map,List.getElem?_range h];rfl
def mayA (n r:Nat) (a:Ac):Bool:=if a.1=0\/a.1=3 then decide (a.2=0)else if a.1=1 then decide (0<=a.2)&&decide (a.2<n)else decide (a.1=2)&&(decide (0<=a.2)&&decide (a.2<(r:Int) - 1))
def wayA (n:Nat) (x:Int):Bool:=decide (-1<=x)&&decide (x<n)
def rowT (T N:Int) (n r:Nat) (x:List Ac×List Int):Bool:=(!decide (x.1.length=0)&&(decide (((x.1.length:Int)) - 1=T)&&decide ((x.2.length:Int)=N)))&&(x.1.all (mayA n r)&&x.2.all (wayA n))
def leftT (T N:Int) (x:Int×List Int):Bool:=decide (T<x.1)&&decide (x.1 - T<=N)
def headT (t:TabD):Bool:= !decide (t.rules.length=0)&&(!decide (t.acts.length=0)&&(decide (t.acts.length=t.goto.length)&&(decide (0<=t.terms)&&decide (0<=t.nons))))
def rightT (t:TabD):Bool:=headT t&&((t.rules.take (t.rules.length - 1)).all (leftT t.terms t.nons)&&(List.zip t.acts t.goto).all (rowT t.terms t.nons t.acts.length t.rules.length))
def actT (t:TabD) (i k:Int):Ac:=if i<0\/(t.acts.length:Int)<=i\/k<0 then(0,0)else((t.acts.getD i.toNat []).getD k.toNat (0,0))
def gotoT (t:TabD) (i s:Int):Int:=if i<0\/(t.goto.length:Int)<=i\/t.terms<0\/s<=t.terms then -1 else((t.goto.getD i.toNat []).getD (s - t.terms - 1).toNat (-1))
theorem poss_head1 {own:Int} {tr:List It} {L:List Lk} {t:Int} (ht:0<t) {tt:Int} (h:wayTo tr t=tt) (h0:0<=tt):(possD own tr L t).headD (0,0)=(1,tt):=by
 have: ∀tr:List It,wayTo tr t=tt-> ∃r,tr.filterMap (p1A t)=(1,tt)::r:=by
  intro tr
  induction tr with
  |nil=>intro h;unfold wayTo at h;simp at h;omega
  |cons x r ih=>
   intro h
   by_cases hx:x.1=t
   ·have:wayTo (x::r) t=x.2:=by unfold wayTo;rw [List.find?_cons_of_pos (by simpa using hx)]
    rw [this]at h
    refine⟨r.filterMap (p1A t),?_⟩
    rw [List.filterMap_cons,show p1A t x=some (1,x.2)from if_pos ⟨ht,hx⟩,h]
   ·have e1:wayTo (x::r) t=wayTo r t:=by unfold wayTo;rw [List.find?_cons_of_neg (by simpa using hx)]
    rw [e1]at h
    obtain⟨r',e⟩:=ih h
    refine⟨r',?_⟩
    rw [List.filterMap_cons,show p1A t x=none from if_neg (fun c=>hx c.2)]
    exact e
 obtain⟨r,e⟩:=this tr h
 unfold possD
 rw [e];rfl
theorem poss_mem {own:Int} {tr:List It} {L:List Lk} {t:Int} {a:Ac} (h:a∈possD own tr L t):(∃x∈tr,x.1=t/\0<t/\a=(1,x.2))\/(a=(3,0)/\ ∃x∈L,x.1=own/\t∈x.2)\/ ∃x∈L,x.1≠own/\t∈x.2/\a=(2,x.1):=by
 unfold possD at h
 rw [List.mem_append,List.mem_append,List.mem_filterMap,List.mem_filterMap,List.mem_filterMap]at h
 rcases h with⟨x,hx,e⟩|⟨x,hx,e⟩|⟨x,hx,e⟩
 ·unfold p1A at e
  split at e
  ·rename_i c
   injection e with e
   exact .inl ⟨x,hx,c.2,c.1,e.symm⟩
  ·cases e
 ·unfold p2A at e
  split at e
  ·rename_i c
   injection e with e
   exact .inr (.inl ⟨e.symm,x,hx,c.1,c.2⟩)
  ·cases e
 ·unfold p3A at e
  split at e
  ·rename_i c
   injection e with e
   exact .inr (.inr ⟨x,hx,c.1,c.2,e.symm⟩)
  ·cases e
theorem headD_mem {α:Type} (l:List α) (d:α):l.headD d=d\/l.headD d∈l:=by cases l<;>simp
theorem poss_head0 {own:Int} {tr:List It} {L:List Lk} {t:Int} (h: ∀tt,((t,tt):It)∉tr):((possD own tr L t).headD (0,0)).1≠1:=by
 rcases headD_mem (possD own tr L t) (0,0)with e|e
 ·rw [e];decide
 ·rcases poss_mem e with⟨x,hx,h1,-,-⟩|⟨e',-⟩|⟨x,-,-,-,e'⟩
  ·exact absurd (h1▸hx) (h x.2)
  ·rw [e'];decide
  ·rw [e'];simp
section
variable {G : GramD} {st : Int} {L T : List (List It)}
theorem st_way (hb:Bld G st L.length L T) {i:Nat} {d:List It×List It} (hd:(stD L T)[i]? =some d): ∃t,T[i]? =some t/\L[i]? =some d.1/\d.2=t:=by
 rw [stD_get]at hd
 obtain⟨k,hk,rfl⟩:=Option.map_eq_some_iff.1 hd
 have hi:=(List.getElem?_eq_some_iff.1 hk).1
 obtain⟨t,ht⟩: ∃t,T[i]? =some t:=⟨_,List.getElem?_eq_getElem (by rw [hb.f.len];exact hi)⟩
 exact⟨t,ht,hk,by rw [ht];rfl⟩
theorem goto_cases (hb:Bld G st L.length L T) {i:Nat} {d:List It×List It} (hd:(stD L T)[i]? =some d) (s:Int):(gotoD (stD L T) i s= -1/\ ∀tt,((s,tt):It)∉d.2)\/ ∃j:Nat,gotoD (stD L T) i s=(j:Int)/\j<L.length:=by
 obtain⟨t,ht,hl,e2⟩:=st_way hb hd
 rw [gotoD_in hd,e2]
 rcases way_cases (hb.f.sort t (List.mem_of_getElem? ht)) s with⟨tt,hm,hw⟩|⟨hn,hw⟩
 ·obtain⟨-,-,-,h4,h5⟩:=hb.f.mem i t d.1 ht hl s tt hm
  have:=(List.getElem?_eq_some_iff.1 h5).1
  exact .inr ⟨tt.toNat,by rw [hw];omega,this⟩
 ·exact .inl ⟨hw,hn⟩
theorem tab_act (hb:Bld G st L.length L T) {own:Int} {Lk0:List Lk} {i:Nat} {d:List It×List It} (hd:(stD L T)[i]? =some d) {s:Int} (hs:0<s):(((possD own d.2 Lk0 s).headD (0,0)).1=1↔0<=gotoD (stD L T) i s)/\(0<=gotoD (stD L T) i s->((possD own d.2 Lk0 s).headD (0,0)).2=gotoD (stD L T) i s):=by
 rcases goto_cases hb hd s with⟨h,hn⟩|⟨j,h,-⟩
 ·rw [h]
  have:=poss_head0 (own:=own) (L:=Lk0) hn
  exact⟨⟨fun c=>absurd c this,fun c=>absurd c (by omega)⟩,fun c=>absurd c (by omega)⟩
 ·have h':=h
  rw [gotoD_in hd]at h'
  rw [poss_head1 hs h' (by omega),h]
  exact⟨⟨fun _=>by omega,fun _=>rfl⟩,fun _=>rfl⟩
theorem tab_right (hc:checkOf G st=0) (hb:Bld G st L.length L T):rightT (tabD G st (stD L T) (looksD G st (stD L T)))=true:=by
 have hK:=KnA.of_check hc
 have hf:=hb.f
 have hn:(stD L T).length=L.length:=stD_len L T
 have hn0:0<L.length:=(List.getElem?_eq_some_iff.1 hf.first).1
 unfold rightT headT tabD
 simp only [actsU_len,gotoU_len,hn]
 have e1:(G.rules++[((0:Int),[st])]).take ((G.rules++[((0:Int),[st])]).length - 1)=G.rules:=by simp
 rw [e1]
 refine Bool.and_eq_true_iff.2 ⟨?_,Bool.and_eq_true_iff.2 ⟨?_,?_⟩⟩
 ·have: ¬L.length=0:=by omega
  simp [this]
 ·rw [List.all_eq_true]
  intro r hr
  have:=((Kn.of_check hc).k r hr).1
  unfold leftT
  unfold isNon topOf at this
  simp only [Bool.and_eq_true,decide_eq_true_eq]at this⊢
  omega
 ·rw [List.all_eq_true]
  intro x hx
  obtain⟨i,hi,e⟩:=List.getElem_of_mem hx
  have hi':i<L.length:=by rw [List.length_zip,actsU_len,gotoU_len]at hi;omega
  have g1:=actsU_get (G.rules.length:Int) (stD L T) (looksD G st (stD L T)) (G.terms.length+1) hi'
  have g2:=gotoU_get (stD L T) G.terms.length G.nons.length hi'
  have ex:x=(rowAD (G.rules.length:Int) (trD (stD L T) i) (lkD (looksD G st (stD L T)) i) (G.terms.length+1),rowGD (stD L T) G.terms.length i G.nons.length):=by
   rw [<-e,List.getElem_zip]
   rw [List.getElem?_eq_some_iff]at g1 g2
   obtain⟨_,g1⟩:=g1
   obtain⟨_,g2⟩:=g2
   rw [g1,g2]
  subst ex
  obtain⟨d,hd⟩: ∃d,(stD L T)[i]? =some d:=⟨_,List.getElem?_eq_getElem (by rw [hn];exact hi')⟩
  have hA:=IsAuto.of_bld hb hK
  rw [trD_get hd,lkD_get (looksD_get hd)]
  unfold rowT
  simp only [rowAD_len,rowGD_len]
  refine Bool.and_eq_true_iff.2 ⟨by simp,Bool.and_eq_true_iff.2 ⟨?_,?_⟩⟩
  ·rw [List.all_eq_true]
   intro a ha
   obtain⟨k,hk,e⟩:=List.mem_map.1 ha
   rw [<-e]
   rcases headD_mem (possD (G.rules.length:Int) d.2 (lksD G st (stD L T) i d) ((k:Nat):Int)) (0,0)with h|h
   ·rw [h];rfl
   ·rcases poss_mem h with⟨y,hy,h1,h2,h3⟩|⟨h3,-⟩|⟨y,hy,h1,-,h3⟩
    ·have hw: ∃t',T[i]? =some t'/\L[i]? =some d.1/\d.2=t':=st_way hb hd
     obtain⟨t',ht,hl,e2⟩:=hw
     have:=hf.mem i t' d.1 ht hl y.1 y.2 (by rw [<-e2];exact hy)
     rw [h3]
     unfold mayA
     have h5:=(List.getElem?_eq_some_iff.1 this.2.2.2.2).1
     have h6:=this.2.2.2.1
     simp
     omega
    ·rw [h3];rfl
    ·obtain⟨q,hq,e3,-⟩:=lks_mem hy
     rw [h3]
     unfold mayA
     have:(q:Int)≠(G.rules.length:Int):=fun c=>h1 (e3.trans c)
     simp [e3]
     omega
  ·rw [List.all_eq_true]
   intro a ha
   obtain⟨k,hk,e⟩:=List.mem_map.1 ha
   rw [<-e]
   unfold wayA
   rcases goto_cases hb hd (((G.terms.length+1+k:Nat)):Int)with⟨h,-⟩|⟨j,h,hj⟩
   ·rw [h];simp;omega
   ·rw [h];simp;omega
end
end Go.Proofs.YthlbjgabhpdbfaaGreat

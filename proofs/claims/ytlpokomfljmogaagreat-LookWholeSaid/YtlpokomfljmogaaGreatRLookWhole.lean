/- The law LookWhole: the walk. -/
import Derived.Test.YtlpokomfljmogaaGreatRLook15
import Derived.Test.YtlpokomfljmogaaGreatRItem5
import Derived.Test.YtlpokomfljmogaaGreatRAuto15
namespace Go.Proofs.YtlpokomfljmogaaGreat
set_option linter.unusedVariables false
set_option linter.unusedSimpArgs false
open Go.RowKit
attribute [local irreducible] wpStill wpOne wpPh
set_option maxRecDepth 100000 in
set_option maxHeartbeats 8000000 in
theorem walk_LookWhole (C:Array Value) (G:GramD) (w:World) (hg:GramCells w C.toList G):
  Calls Tryz.prog 11 #[.agg C] w (Quiet w (.bool true)):=by
 obtain⟨vt,vn,vr,hC,hg,-⟩:=hg
 obtain rfl:C= #[vt,vn,vr,.int .i64 G.start]:=Array.toList_inj.1 hC
 clear hC
 generalize G.start=st at *
 obtain⟨A1,c1,A2,c2,A3,c3,rfl,rfl,rfl,-⟩:=hg.slices
 obtain⟨w1,hw1⟩: ∃w1,w1=w.alloc (.cells #[.slice A1 G.terms.length c1,.slice A2 G.nons.length c2,.slice A3 G.rules.length c3,.int .i64 st] 25):=⟨_,rfl⟩
 have g1:=GBox.new hg st
 have b1:Below w.heap.size w w1:=by rw [hw1];exact(Below.refl _ w).alloc (Nat.le_refl _) _
 rw [←hw1]at g1
 have hm:=law_much g1.gram st
 have cb:=fun wr (g:GBox wr (· <w.heap.size) w.heap.size A1 c1 A2 c2 A3 c3 G.terms.length G.nons.length G.rules.length st G)=>look_Of g.gram g.gram.lt st
 have cf:=fun wr (g:GBox wr (· <w.heap.size) w.heap.size A1 c1 A2 c2 A3 c3 G.terms.length G.nons.length G.rules.length st G)=>auto_build g.gram g.gram.lt st
 have cr:=fun wr (g:GBox wr (· <w.heap.size) w.heap.size A1 c1 A2 c2 A3 c3 G.terms.length G.nons.length G.rules.length st G) {v:Value} {l:List It} (hl:RdIt wr (fun b=>b<wr.heap.size) v l) (hsh:ShortG G st) (hrl:G.rules.length≤300)=>ref12_Close g.gram st hl hsh hrl
 have ce:=fun wr (g:GBox wr (· <w.heap.size) w.heap.size A1 c1 A2 c2 A3 c3 G.terms.length G.nons.length G.rules.length st G) x=>ref12_behind g.gram st x
 obtain⟨q0,q1,q2,q3⟩:=g1.cells
 generalize hT:G.terms.length=T at *
 generalize hN:G.nons.length=N at *
 generalize hR:G.rules.length=R at *
 obtain⟨F,hF⟩: ∃F:Nat→Prop,F=fun b=>b<w.heap.size:=⟨_,rfl⟩
 rw [←hF]at g1 cb cf cr ce
 rw [hw1]at q0 q1 q2 q3 hm
 clear hg hF
 have Xhm:=hide hm;have Xcb:=hide cb;have Xcf:=hide cf;have Xcr:=hide cr;have Xce:=hide ce;have Xg1:=hide g1;have Xb1:=hide b1;have XhT:=hide hT;have XhN:=hide hN;have XhR:=hide hR;clear hm cb cf cr ce g1 b1 hT hN hR
 go_enter Tryz.func11,Tryz.ntmps11
 go_wp2_with fail
 refine Xhm.out.mono ?_
 rintro e w2 ⟨r,hr,rfl,b2⟩
 rw [←hw1]at b2
 have g2:=Xg1.out.below b2
 have bb2:=Xb1.out.trans (b2.mono Xb1.out.size)
 clear q0 q1 q2 q3 hw1 Xhm Xg1 Xb1 b2 hr
 by_cases hbig:60<r
 ·have Xbb2:=hide bb2
  have Xg2:=hide g2;clear bb2 g2
  go_wp2_with fail
  refine(law14_awake _).mono ?_
  rintro e w3 ⟨rfl,b3⟩
  have bb3:=Xbb2.out.trans (b3.mono Xbb2.out.size)
  clear b3
  have Xbb3:=hide bb3;clear bb3
  go_wp2_with fail
  go_ret
  exact⟨rfl,Xbb3.out⟩
 ·have c2':=Xcb.out _ g2
  obtain⟨q0,q1,q2,q3⟩:=g2.cells
  have Xbb2:=hide bb2;have Xg2:=hide g2;have Xc2':=hide c2';clear bb2 g2 c2'
  go_wp2_with fail
  refine Xc2'.out.mono ?_
  rintro e w3 hp
  obtain⟨b3,Aa,na,ca,ev,D,rfl,hai,rd3⟩:=hp
  have g3:=Xg2.out.below b3
  have bb3:=Xbb2.out.trans (b3.mono Xbb2.out.size)
  have rd3:=rd3.mono (F':=fun b=>b<w3.heap.size) (fun b hb=>hb.2)
  clear q0 q1 q2 q3 Xc2' Xg2 Xbb2 b3
  have c3':=Xcf.out _ g3
  obtain⟨q0,q1,q2,q3⟩:=g3.cells
  have Xbb3:=hide bb3;have Xg3:=hide g3;have Xc3':=hide c3';have Xrd3:=hide rd3;have Xhai:=hide hai;clear bb3 g3 c3' rd3 hai
  go_wp2_with fail
  refine Xc3'.out.mono ?_
  rintro e w4 hp
  obtain⟨b4,Ab,nb,cb',ev',D',rfl,rs4,hai'⟩:=hp.flat
  have g4:=Xg3.out.below b4
  have bb4:=Xbb3.out.trans (b4.mono Xbb3.out.size)
  have rs4:=rs4.mono (F':=fun b=>b<w4.heap.size) (fun b hb=>hb.2)
  have rd4:=(Xrd3.out.below b4 (fun b hb=>hb)).mono (F':=fun b=>b<w4.heap.size) (fun b hb=>Nat.lt_of_lt_of_le hb b4.size)
  obtain⟨rfl,rfl⟩:=Xhai.out.unique hai'
  obtain⟨hna,hnc,hcm,-⟩:=rd4.at_
  obtain⟨hnb,hnbc,hcbm,-⟩:=rs4.at_
  rw [looksD_len]at hna
  obtain rfl:nb=na:=by omega
  unfold maxLen at hcm hcbm
  have hee:(ev==ev)=true:=by simp
  have hnn:((nb:Int)==(nb:Int))=true:=by simp
  clear hai' q0 q1 q2 q3 hp Xc3' Xg3 Xbb3 b4 Xrd3 hnb
  have Xbb4:=hide bb4;have Xg4:=hide g4;have Xrd4:=hide rd4;have Xrs4:=hide rs4;have Xhna:=hide hna;clear bb4 g4 rd4 rs4 hna
  go_wp2_with fail
  go_loopw [7] (fun iv wr=> ∃i:Nat,i≤nb∧iv= .int .i64 (i:Int)∧Below w4.heap.size w4 wr) (fun iv _=>nb - (intOf iv).toNat)
  case atStart=>exact⟨0,Nat.zero_le _,rfl,Below.refl _ _⟩
  case round=>
   obtain⟨i,hi,rfl,le⟩:=hrel
   by_cases hlt:i<nb
   ·have hlt':(i:Int)<(nb:Int):=by omega
    obtain⟨e,he⟩: ∃e,D[i]? =some e:=⟨_,List.getElem?_eq_getElem (by rw [←Xhna.out];exact hlt)⟩
    have hck:checkOf G st=0:=by
     rcases Xhai.out with⟨-,-,h⟩|⟨-,-,-,h⟩|⟨h,-⟩
     ·rw [h]at he;cases he
     ·rw [h]at he;cases he
     ·exact h
    have hK:=KnA.of_check hck
    have hz4:=le.size
    have rd:=Xrd4.out.below le (fun b hb=>hb)
    obtain⟨-,-,-,hcell⟩:=rd.at_
    obtain⟨bl,ol,rfl,-,hcc⟩:=hcell (by omega)
    obtain⟨A8,n8,c8,cl8,r8⟩:=hcc i _ (looksD_get he)
    obtain⟨hn8,hnc8,hcm8,-⟩:=r8.at_
    unfold maxLen at hcm8
    have rs:=Xrs4.out.below le (fun b hb=>hb)
    obtain⟨-,-,-,hcell'⟩:=rs.at_
    obtain⟨bm,om,rfl,-,hcc'⟩:=hcell' (by omega)
    obtain⟨z1,z2,cz1,-,rz,-⟩:=hcc' i _ he
    obtain⟨Az,nz,czz,rfl,-⟩:=id rz
    have dr:Below wr.heap.size wr wr.drew:=(Below.refl _ _).drew
    have leD:=le.trans (dr.mono le.size)
    have gD:=Xg4.out.below leD
    have crD:=Xcr.out _ gD ((rz.below dr (fun b hb=>Nat.lt_of_lt_of_le hb hz4)).mono (F':=fun b=>b<wr.drew.heap.size) (fun b hb=>Nat.lt_of_lt_of_le hb leD.size)) hK.short (by have:=hK.r;rw [XhR.out]at this;exact this)
    have g5:=Xg4.out.below le
    obtain⟨q0,q1,q2,q3⟩:=g5.cells
    have cl8D:=up_cell dr cl8
    have r8D:=r8.below dr (fun b hb=>Nat.lt_of_lt_of_le hb hz4)
    clear rd hcell hcc rs hcell' hcc' rz g5 cl8 r8 dr gD
    have Xle:=hide le;have XleD:=hide leD;have Xhe:=hide he;have Xhck:=hide hck;have XhK:=hide hK;have Xhn8:=hide hn8;have XcrD:=hide crD;have Xcl8D:=hide cl8D;have Xr8D:=hide r8D;have Xhz4:=hide hz4;clear le leD he hck hK hn8 crD cl8D r8D hz4
    go_wp2_with fail
    refine region_tail 6 (by kernel_rfl) (by kernel_rfl) ?_
    simp only [List.take_succ_cons,List.take_zero,List.drop_succ_cons,List.drop_zero]
    repeat still_step
    refine wpStill_nil ?_
    go_wp2_with fail
    refine XcrD.out.mono ?_
    rintro e w5 ⟨c,hcl,Ac,nc,cc,rfl,rdc,b5⟩
    have rdc:=rdc.mono (F':=fun b=>b<w5.heap.size) (fun b hb=>hb.2)
    have le5:=XleD.out.trans (b5.mono XleD.out.size)
    have cl8:=up_cell b5 Xcl8D.out
    have r8:=(Xr8D.out.below b5 (fun b hb=>Nat.lt_of_lt_of_le hb XleD.out.size)).mono (F':=fun b=>b<w5.heap.size) (fun b hb=>Nat.lt_of_lt_of_le hb le5.size)
    obtain⟨hnC,hncc,hccm,-⟩:=RdIt.at_ rdc
    unfold maxLen at hccm
    have hn83:n8≤301:=by
     have h1:=lks_len301 (G:=G) (st:=st) (D:=D) (i:=i) (e:=e)
     have:=XhK.out.r
     have h2:=Xhn8.out
     omega
    have lew:Below w5.heap.size w5 w5:=Below.refl _ _
    have h00:cntI G st c 0=0:=cnt_zero _ _ _
    clear q0 q1 q2 q3 cz1 b5 XcrD Xcl8D Xr8D XleD Xle
    have Xle5:=hide le5;have Xhcl:=hide hcl;have Xrdc:=hide rdc;have Xr8:=hide r8;have XhnC:=hide hnC;have Xlew:=hide lew;have Xh00:=hide h00;clear le5 hcl rdc r8 hnC lew h00
    go_wp2_with fail
    go_loopw [9,10] (fun nv kv wr=> ∃k m:Nat,k≤nc∧kv= .int .i64 (k:Int)∧nv= .int .i64 (m:Int)∧m=cntI G st c k∧Below w5.heap.size w5 wr) (fun _ kv _=>nc - (intOf kv).toNat)
    case atStart=>exact⟨0,0,Nat.zero_le _,rfl,rfl,Xh00.out.symm,Xlew.out⟩
    case round=>
     obtain⟨k,m,hk,rfl,rfl,hm,le6⟩:=hrel
     have cl8:=up_cell le6 cl8
     by_cases hlk:k<nc
     ·have hlk':(k:Int)<(nc:Int):=by omega
      obtain⟨x,hx⟩: ∃x,c[k]? =some x:=⟨_,List.getElem?_eq_getElem (by rw [←XhnC.out];exact hlk)⟩
      have rdk:=Xrdc.out.below le6 (fun b hb=>hb)
      obtain⟨-,-,-,hcell⟩:=RdIt.at_ rdk
      obtain⟨bc,oc,rfl,-,hcc⟩:=hcell (by omega)
      obtain⟨p0,p1⟩:=hcc k x hx
      have g6:=Xg4.out.below (Xle5.out.trans (le6.mono Xle5.out.size))
      have dr:Below wr.heap.size wr wr.drew:=(Below.refl _ _).drew
      have gD:=g6.below dr
      have ceD:=Xce.out _ gD x
      have leD:=le6.trans (dr.mono le6.size)
      obtain⟨q0,q1,q2,q3⟩:=g6.cells
      have cs:=cnt_succ hx (G:=G) (st:=st)
      have la:=fun h=>lks_at (D:=D) (i:=i) Xhcl.out hx h
      unfold endI at cs la
      generalize behindI G st x=bh at *
      obtain⟨s,mo⟩:=bh
      simp only at cs la
      have p0D:=up_cell dr p0
      have p1D:=up_cell dr p1
      have cl8D:=up_cell dr cl8
      clear rdk hcell hcc g6 dr
      cases mo with
      |true=>
       rw [if_neg (by simp),Nat.add_zero,←hm]at cs
       clear la
       obtain⟨x0,x1⟩:=x
       simp only at p0 p1 p0D p1D
       have Xle6:=hide le6;have XleD:=hide leD;have XceD:=hide ceD;have Xhm:=hide hm;have Xcs:=hide cs;have Xhx:=hide hx;have XgD:=hide gD;have Xp0D:=hide p0D;have Xp1D:=hide p1D;clear le6 leD ceD hm cs hx gD p0D p1D
       go_wp2_with fail
       refine wp_region_held_drew (S:=(fun W=>W.cell? ⟨w.heap.size,0,none⟩=some (.slice A1 T c1)∧W.cell? ⟨w.heap.size,1,none⟩=some (.slice A2 N c2)∧W.cell? ⟨w.heap.size,2,none⟩=some (.slice A3 R c3)∧W.cell? ⟨w.heap.size,3,none⟩=some (.int .i64 st)∧W.cell? ⟨bc,oc+k * 2,none⟩=some (.int .i64 x0)∧W.cell? ⟨bc,oc+k * 2+1,none⟩=some (.int .i64 x1))) (by kernel_rfl) ?_ (fun hHeld=> ?_)
       ·exact⟨q0,q1,q2,q3,p0,p1⟩
       refine tk (i:=0) (oi:= ?_) (v:= ?_) ?_ (by kernel_rfl) ?_ (Or.inl ⟨?_,?_⟩) (by assumption) ?_;rotate_left 2;(focus((try simp only [gT,gs,gz]);try rfl));exact fun _ _ _ h=>h;rfl;(focus(intro wS hwS;(try dsimp only at hwS);go_simp;all_goals with_reducible rfl));try simp only [Act.put,sT,s0,s1]
       refine tk (i:=1) (oi:= ?_) (v:= ?_) ?_ (by kernel_rfl) ?_ (Or.inl ⟨?_,?_⟩) (by assumption) ?_;rotate_left 2;(focus((try simp only [gT,gs,gz]);try rfl));exact fun _ _ _ h=>h;rfl;(focus(intro wS hwS;(try dsimp only at hwS);go_simp;all_goals with_reducible rfl));try simp only [Act.put,sT,s0,s1]
       refine tk (i:=2) (oi:= ?_) (v:= ?_) ?_ (by kernel_rfl) ?_ (Or.inl ⟨?_,?_⟩) (by assumption) ?_;rotate_left 2;(focus((try simp only [gT,gs,gz]);try rfl));exact fun _ _ _ h=>h;rfl;(focus(intro wS hwS;(try dsimp only at hwS);go_simp;all_goals with_reducible rfl));try simp only [Act.put,sT,s0,s1]
       refine tk (i:=3) (oi:= ?_) (v:= ?_) ?_ (by kernel_rfl) ?_ (Or.inl ⟨?_,?_⟩) (by assumption) ?_;rotate_left 2;(focus((try simp only [gT,gs,gz]);try rfl));exact fun _ _ _ h=>h;rfl;(focus(intro wS hwS;(try dsimp only at hwS);go_simp;all_goals with_reducible rfl));try simp only [Act.put,sT,s0,s1]
       refine tk (i:=4) (oi:= ?_) (v:= ?_) ?_ (by kernel_rfl) ?_ (Or.inl ⟨?_,?_⟩) (by assumption) ?_;rotate_left 2;(focus((try simp only [gT,gs,gz]);try rfl));exact fun _ _ _ h=>h;rfl;(focus(intro wS hwS;(try dsimp only at hwS);go_simp;all_goals with_reducible rfl));try simp only [Act.put,sT,s0,s1]
       refine wpAnyH_ready (rs:=[5]) (by kernel_rfl) (by simp) ?_
       refine AllReadyH.cons (o:= ?_) ?_ (fun K hK=> ?_) AllReadyH.nil;rotate_left 1;(focus((try simp only [gT,gs,gz]);try rfl))
       go_simp
       go_at_call 21
       with_reducible refine XceD.out.mono ?_
       rintro e w6 ⟨rfl,b6⟩
       have g7:=XgD.out.below b6
       refine hK.out _ _ ?_ (fun hHeld=> ?_)
       ·exact⟨g7.cells.1,g7.cells.2.1,g7.cells.2.2.1,g7.cells.2.2.2,up_cell b6 Xp0D.out,up_cell b6 Xp1D.out⟩
       clear hK K
       try simp only [Act.put,sT,s0,s1]
       have le7:=XleD.out.trans (b6.mono XleD.out.size)
       clear b6 g7 XgD Xp0D Xp1D XceD XleD Xle6 q0 q1 q2 q3 p0 p1
       have Xle7:=hide le7;clear le7
       refine tk (i:=6) (oi:= ?_) (v:= ?_) ?_ (by kernel_rfl) ?_ (Or.inl ⟨?_,?_⟩) (by assumption) ?_;rotate_left 2;(focus((try simp only [gT,gs,gz]);try rfl));exact fun _ _ _ h=>h;rfl;(focus(intro wS hwS;(try dsimp only at hwS);go_simp;all_goals with_reducible rfl));try simp only [Act.put,sT,s0,s1]
       refine tk (i:=7) (oi:= ?_) (v:= ?_) ?_ (by kernel_rfl) ?_ (Or.inl ⟨?_,?_⟩) (by assumption) ?_;rotate_left 2;(focus((try simp only [gT,gs,gz]);try rfl));exact fun _ _ _ h=>h;rfl;(focus(intro wS hwS;(try dsimp only at hwS);go_simp;all_goals with_reducible rfl));try simp only [Act.put,sT,s0,s1]
       refine tk (i:=8) (oi:= ?_) (v:= ?_) ?_ (by kernel_rfl) ?_ (Or.inl ⟨?_,?_⟩) (by assumption) ?_;rotate_left 2;(focus((try simp only [gT,gs,gz]);try rfl));exact fun _ _ _ h=>h;rfl;(focus(intro wS hwS;(try dsimp only at hwS);go_simp;all_goals with_reducible rfl));try simp only [Act.put,sT,s0,s1]
       refine tk (i:=9) (oi:= ?_) (v:= ?_) ?_ (by kernel_rfl) ?_ (Or.inl ⟨?_,?_⟩) (by assumption) ?_;rotate_left 2;(focus((try simp only [gT,gs,gz]);try rfl));exact fun _ _ _ h=>h;rfl;(focus(intro wS hwS;(try dsimp only at hwS);go_simp;all_goals with_reducible rfl));try simp only [Act.put,sT,s0,s1]
       refine tk (i:=10) (oi:= ?_) (v:= ?_) ?_ (by kernel_rfl) ?_ (Or.inl ⟨?_,?_⟩) (by assumption) ?_;rotate_left 2;(focus((try simp only [gT,gs,gz]);try rfl));exact fun _ _ _ h=>h;rfl;(focus(intro wS hwS;(try dsimp only at hwS);go_simp;all_goals with_reducible rfl));try simp only [Act.put,sT,s0,s1]
       refine wpAnyH_done (by kernel_rfl) ?_ _
       clear hHeld
       go_wp2_with fail
       go_roundw
       case rel=>exact⟨k+1,m,by omega,by go_num,rfl,Xcs.out.symm,Xle7.out⟩
       case measure=>simp [intOf];omega
      |false=>
       have cs:cntI G st c (k+1)=m+1:=by rw [hm];simpa using cs
       obtain⟨y,hy,hyx⟩:=la rfl
       rw [←hm]at hy
       have hml:m<n8:=by rw [Xhn8.out];exact(List.getElem?_eq_some_iff.1 hy).1
       have r8x:=Xr8.out.below le6 (fun b hb=>hb)
       obtain⟨-,-,-,hcell⟩:=r8x.at_
       obtain⟨b8,o8,rfl,-,hcc⟩:=hcell (by omega)
       obtain⟨Ay,ny,cy,y0,-,-⟩:=hcc m y hy
       rw [hyx]at y0
       have hlm':(m:Int)<(n8:Int):=by omega
       have hlm2: ¬(n8:Int)≤(m:Int):=by omega
       obtain⟨x0,x1⟩:=x
       simp only at p0 p1 p0D p1D y0
       have hx00:(x0==x0)=true:=by simp
       have y0D:=up_cell (Below.refl wr.heap.size wr).drew y0
       have k7: ∀w6,Below wr.drew.heap.size wr.drew w6→w6.cell? ⟨bl,ol+i,none⟩=some (.slice (some ⟨b8,o8,none⟩) n8 c8)∧w6.cell? ⟨b8,o8+m * 2,none⟩=some (.int .i64 x0)∧w6.cell? ⟨bc,oc+k * 2,none⟩=some (.int .i64 x0):=fun w6 b=>⟨up_cell b cl8D,up_cell b y0D,up_cell b p0D⟩
       clear la r8x hcell hcc y0 y0D cl8D hy hyx
       have Xle6:=hide le6;have XleD:=hide leD;have XceD:=hide ceD;have Xhm:=hide hm;have Xcs:=hide cs;have Xhx:=hide hx;have Xk7:=hide k7;have XgD:=hide gD;have Xp0D:=hide p0D;have Xp1D:=hide p1D;clear le6 leD ceD hm cs hx k7 gD p0D p1D
       go_wp2_with fail
       refine wp_region_held_drew (S:=(fun W=>W.cell? ⟨w.heap.size,0,none⟩=some (.slice A1 T c1)∧W.cell? ⟨w.heap.size,1,none⟩=some (.slice A2 N c2)∧W.cell? ⟨w.heap.size,2,none⟩=some (.slice A3 R c3)∧W.cell? ⟨w.heap.size,3,none⟩=some (.int .i64 st)∧W.cell? ⟨bc,oc+k * 2,none⟩=some (.int .i64 x0)∧W.cell? ⟨bc,oc+k * 2+1,none⟩=some (.int .i64 x1))) (by kernel_rfl) ?_ (fun hHeld=> ?_)
       ·exact⟨q0,q1,q2,q3,p0,p1⟩
       refine tk (i:=0) (oi:= ?_) (v:= ?_) ?_ (by kernel_rfl) ?_ (Or.inl ⟨?_,?_⟩) (by assumption) ?_;rotate_left 2;(focus((try simp only [gT,gs,gz]);try rfl));exact fun _ _ _ h=>h;rfl;(focus(intro wS hwS;(try dsimp only at hwS);go_simp;all_goals with_reducible rfl));try simp only [Act.put,sT,s0,s1]
       refine tk (i:=1) (oi:= ?_) (v:= ?_) ?_ (by kernel_rfl) ?_ (Or.inl ⟨?_,?_⟩) (by assumption) ?_;rotate_left 2;(focus((try simp only [gT,gs,gz]);try rfl));exact fun _ _ _ h=>h;rfl;(focus(intro wS hwS;(try dsimp only at hwS);go_simp;all_goals with_reducible rfl));try simp only [Act.put,sT,s0,s1]
       refine tk (i:=2) (oi:= ?_) (v:= ?_) ?_ (by kernel_rfl) ?_ (Or.inl ⟨?_,?_⟩) (by assumption) ?_;rotate_left 2;(focus((try simp only [gT,gs,gz]);try rfl));exact fun _ _ _ h=>h;rfl;(focus(intro wS hwS;(try dsimp only at hwS);go_simp;all_goals with_reducible rfl));try simp only [Act.put,sT,s0,s1]
       refine tk (i:=3) (oi:= ?_) (v:= ?_) ?_ (by kernel_rfl) ?_ (Or.inl ⟨?_,?_⟩) (by assumption) ?_;rotate_left 2;(focus((try simp only [gT,gs,gz]);try rfl));exact fun _ _ _ h=>h;rfl;(focus(intro wS hwS;(try dsimp only at hwS);go_simp;all_goals with_reducible rfl));try simp only [Act.put,sT,s0,s1]
       refine tk (i:=4) (oi:= ?_) (v:= ?_) ?_ (by kernel_rfl) ?_ (Or.inl ⟨?_,?_⟩) (by assumption) ?_;rotate_left 2;(focus((try simp only [gT,gs,gz]);try rfl));exact fun _ _ _ h=>h;rfl;(focus(intro wS hwS;(try dsimp only at hwS);go_simp;all_goals with_reducible rfl));try simp only [Act.put,sT,s0,s1]
       refine wpAnyH_ready (rs:=[5]) (by kernel_rfl) (by simp) ?_
       refine AllReadyH.cons (o:= ?_) ?_ (fun K hK=> ?_) AllReadyH.nil;rotate_left 1;(focus((try simp only [gT,gs,gz]);try rfl))
       go_simp
       go_at_call 21
       with_reducible refine XceD.out.mono ?_
       rintro e w6 ⟨rfl,b6⟩
       have g7:=XgD.out.below b6
       refine hK.out _ _ ?_ (fun hHeld=> ?_)
       ·exact⟨g7.cells.1,g7.cells.2.1,g7.cells.2.2.1,g7.cells.2.2.2,up_cell b6 Xp0D.out,up_cell b6 Xp1D.out⟩
       clear hK K
       try simp only [Act.put,sT,s0,s1]
       obtain⟨k0,k1,k2⟩:=Xk7.out _ b6
       have le7:=XleD.out.trans (b6.mono XleD.out.size)
       have le8:=le7.drew
       clear b6 g7 XgD Xp0D Xp1D XceD XleD Xle6 cl8 p0 p1 q0 q1 q2 q3 Xk7
       have Xle7:=hide le7;have Xle8:=hide le8;clear le7 le8
       refine tk (i:=6) (oi:= ?_) (v:= ?_) ?_ (by kernel_rfl) ?_ (Or.inl ⟨?_,?_⟩) (by assumption) ?_;rotate_left 2;(focus((try simp only [gT,gs,gz]);try rfl));exact fun _ _ _ h=>h;rfl;(focus(intro wS hwS;(try dsimp only at hwS);go_simp;all_goals with_reducible rfl));try simp only [Act.put,sT,s0,s1]
       refine tk (i:=7) (oi:= ?_) (v:= ?_) ?_ (by kernel_rfl) ?_ (Or.inl ⟨?_,?_⟩) (by assumption) ?_;rotate_left 2;(focus((try simp only [gT,gs,gz]);try rfl));exact fun _ _ _ h=>h;rfl;(focus(intro wS hwS;(try dsimp only at hwS);go_simp;all_goals with_reducible rfl));try simp only [Act.put,sT,s0,s1]
       refine tk (i:=8) (oi:= ?_) (v:= ?_) ?_ (by kernel_rfl) ?_ (Or.inl ⟨?_,?_⟩) (by assumption) ?_;rotate_left 2;(focus((try simp only [gT,gs,gz]);try rfl));exact fun _ _ _ h=>h;rfl;(focus(intro wS hwS;(try dsimp only at hwS);go_simp;all_goals with_reducible rfl));try simp only [Act.put,sT,s0,s1]
       refine tk (i:=9) (oi:= ?_) (v:= ?_) ?_ (by kernel_rfl) ?_ (Or.inl ⟨?_,?_⟩) (by assumption) ?_;rotate_left 2;(focus((try simp only [gT,gs,gz]);try rfl));exact fun _ _ _ h=>h;rfl;(focus(intro wS hwS;(try dsimp only at hwS);go_simp;all_goals with_reducible rfl));try simp only [Act.put,sT,s0,s1]
       refine tk (i:=10) (oi:= ?_) (v:= ?_) ?_ (by kernel_rfl) ?_ (Or.inl ⟨?_,?_⟩) (by assumption) ?_;rotate_left 2;(focus((try simp only [gT,gs,gz]);try rfl));exact fun _ _ _ h=>h;rfl;(focus(intro wS hwS;(try dsimp only at hwS);go_simp;all_goals with_reducible rfl));try simp only [Act.put,sT,s0,s1]
       refine wpAnyH_done (by kernel_rfl) ?_ _
       clear hHeld
       go_wp2_with fail
       refine region_reads (by kernel_rfl) (by kernel_rfl) ?_
       repeat still_step
       refine wpStill_nil ?_
       go_wp2_with fail
       go_roundw
       case rel=>exact⟨k+1,m+1,by omega,by go_num,by go_num,Xcs.out.symm,Xle8.out⟩
       case measure=>simp [intOf];omega
     ·have hlk': ¬(k:Int)<(nc:Int):=by omega
      have hm8:m=n8:=by
       have hke:k=nc:=by omega
       rw [hm,hke,XhnC.out,Xhn8.out]
       exact cnt_all Xhcl.out
      subst hm8
      have hmm:((m:Int)==(m:Int))=true:=by simp
      have le9:=Xle5.out.trans (le6.mono Xle5.out.size)
      clear le6 hm
      have Xle9:=hide le9;clear le9
      go_wp2_with fail
      go_roundw
      case rel=>exact⟨i+1,by omega,by go_num,Xle9.out⟩
      case measure=>simp [intOf];omega
   ·have hlt': ¬(i:Int)<(nb:Int):=by omega
    have hbb:=Xbb4.out.trans (le.mono Xbb4.out.size)
    clear le
    have Xhbb:=hide hbb;clear hbb
    go_wp2_with fail
    refine(law14_awake _).mono ?_
    rintro e w6 ⟨rfl,b6⟩
    have bb6:=Xhbb.out.trans (b6.mono Xhbb.out.size)
    clear b6
    have Xbb6:=hide bb6;clear bb6
    go_wp2_with fail
    go_ret
    exact⟨rfl,Xbb6.out⟩
end Go.Proofs.YtlpokomfljmogaaGreat

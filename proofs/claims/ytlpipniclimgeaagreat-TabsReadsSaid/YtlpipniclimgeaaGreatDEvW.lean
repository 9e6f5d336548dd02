/- The reckoning machine at this program: its tables. -/
import Derived.Test.YtlpipniclimgeaaGreatDEvF
import Derived.Test.YtlpipniclimgeaaGreatProg
import Derived.Test.YtlpipniclimgeaaGreatDTabs19
namespace Go.Proofs.YtlpipniclimgeaaGreat
set_option linter.unusedVariables false
open Go.RowKit Go.Lib
noncomputable def evTab:Ev.Tab:=Ev.mkTab Tryz.prog 159 []
theorem evTab_ok:Ev.TabOK evTab/\Ev.FldOK evTab:=
 Ev.mkTab_ok (by kernel_rfl) (Ev.esc_ok Tryz.func159 (by kernel_rfl) (by kernel_rfl) (by kernel_rfl) (by kernel_rfl)) (fun f e h=>(by cases h)) (by kernel_rfl)
theorem ev_calls {f:FuncId} {n:Nat} (e:Ev.evalT evTab f n=true) (w:World):Calls Tryz.prog f #[] w fun e w'=>e= .returned (.bool true)/\Below w.heap.size w w':=
 (Ev.evalT_ok evTab_ok.1 evTab_ok.2 evTab_ok.1.mixed e w).mono fun e w' h=>by
  cases e with
  |returned v=>obtain⟨rfl,hb⟩:=h;exact⟨rfl,hb⟩
  |panicked c=>exact h.elim
  |outgrown=>exact h.elim
end Go.Proofs.YtlpipniclimgeaaGreat
namespace Go.Proofs.YtlpipniclimgeaaGreat
open Go.RowKit
set_option maxRecDepth 1000000 in
theorem law18_awake (w:World):Calls Tryz.prog 7 #[] w fun e w'=>e= .returned (.bool true)/\Below w.heap.size w w':=ev_calls (n:=200000) (by kernel_rfl) w
set_option linter.unusedVariables false
set_option linter.unusedSimpArgs false
attribute [local irreducible] wpStill wpOne wpPh
theorem encP_len {p:PackD} (h:rightP p=true) (ho:okN (numsP p)=true):(bytesP p).length=3+2 * (numsP p).length:=by
 unfold bytesP
 rw [h,ho]
 show(headB++encB (numsP p)).length=_
 rw [List.length_append,encB_len];rfl
theorem lenP_ok {p:PackD} (h:rightP p=true) (ho:okN (numsP p)=true):LenP p:=by
 obtain⟨-,h2,h3⟩:=right_wide h
 have hN:=okN_mem ho
 have hT:N16 p.terms:=hN _ (by simp [numsP])
 have hM:N16 p.nons:=hN _ (by simp [numsP])
 have hR:N16 (p.row.length:Int):=hN _ (by simp [numsP])
 unfold N16 at hT hM hR
 exact⟨by omega,fun r hr=>by rw [h2 r hr];omega,fun r hr=>by rw [h3 r hr];omega⟩
set_option maxRecDepth 100000 in
set_option maxHeartbeats 8000000 in
theorem walk_TabsReads (v:Value) (b:List Int) (w:World) (h:RdL w (· <w.heap.size) 1 (fun cs n=>cs=[.int .u8 n]/\(Lit.int .u8 n).wf=true) v b/\b.length * 1<=140737488351232):
  Calls Tryz.prog 4 #[v] w (Quiet w (.bool true)):=by
 obtain⟨hr,hb⟩:=rdl_bytes h.1
 clear h
 obtain⟨A,n,c,rfl,-⟩:=id hr
 obtain⟨hn,hnc,hcm,-⟩:=RdY.at_ hr
 unfold maxLen at hcm
 by_cases hl:2500<n
 ·have hl1:(2500:Int)<(n:Int):=by omega
  have cA:=law18_awake w
  clear hr
  obtain⟨XcA,Xhb,Xhn⟩:=HqZ3 cA hb hn;clear cA hb hn
  go_enter Tryz.func4,Tryz.ntmps4
  go_wp2_with fail
  refine XcA.out.mono ?_
  rintro e w3 ⟨rfl,b3⟩
  have Xb3:=hide b3;clear b3
  go_wp2_with fail
  go_ret
  exact⟨rfl,Xb3.out⟩
 ·have hl1: ¬(2500:Int)<(n:Int):=by omega
  have hlb:b.length<=2500:=by omega
  have cO:=tabs_Of hr hb (fun k hk=>hk)
  have kO:=fun W (bW:Below w.heap.size w W)=>ref18_Of (Rd.below hr bW fun k hk=>hk) hb (fun k hk=>Nat.lt_of_lt_of_le hk bW.size)
  have hby:= @bytes_of b
  have cv:=fun W (bW:Below w.heap.size w W)=>bytes_back (P:=Tryz.prog) (Rd.below hr bW fun k hk=>hk) hb 29 9 5 Tryz.underlying29 Tryz.underlying5 Tryz.underlying9
  unfold OfBP at cO kO
  obtain⟨⟨p,x⟩,hD⟩: ∃q,q=ofD b:=⟨_,rfl⟩
  rw [<-hD]at cO kO
  simp only at cO kO
  have hby: ∀q,(p,x)=(q,0)->bytesP q=b/\rightP q=true/\okN (numsP q)=true:=fun q e=>hby hb (by rw [<-hD];exact e)
  have cA:=fun W=>law18_awake W
  clear hr hD
  obtain⟨XcO,XkO,Xhb,Xhby,Xcv,XcA,Xhn⟩:=HqZ7 cO kO hb hby cv cA hn;clear cO kO hb hby cv cA hn
  go_enter Tryz.func4,Tryz.ntmps4
  go_wp2_with fail
  refine XcO.out.mono ?_
  rintro e w2 ⟨b2,v1,v2,v3,v4,v5,rfl,hp⟩
  obtain⟨A1,c1,A2,c2,A3,c3,A4,c4,A5,c5,rfl,rfl,rfl,rfl,rfl,-⟩:=hp.slices
  obtain⟨FP,hFP⟩: ∃q,q=fun k=>w.heap.size<=k/\k<w2.heap.size:=⟨_,rfl⟩
  rw [<-hFP]at hp
  have p3:=PBox.new hp p.terms p.nons
  obtain⟨w3,hw3⟩: ∃q,q=w2.alloc (.cells #[.slice A1 p.rules.length c1,.int .i64 p.terms,.int .i64 p.nons,.slice A2 p.row.length c2,.slice A3 p.rows.length c3,.slice A4 p.gow.length c4,.slice A5 p.gows.length c5] 26):=⟨_,rfl⟩
  rw [<-hw3]at p3
  have b3:Below w2.heap.size w2 w3:=by rw [hw3];exact(Below.refl _ _).alloc (Nat.le_refl _) _
  have bb3:=b2.trans (b3.mono b2.size)
  have kF:=XkO.out w3 bb3
  have cE:=fun wr G u1 u2 u3 u4 u5 (h:PBox wr FP w2.heap.size A1 p.rules.length c1 A2 p.row.length c2 A3 p.rows.length c3 A4 p.gow.length c4 A5 p.gows.length c5 p.terms p.nons p) (h':IsPack wr G u1 u2 u3 u4 u5 p)=>ref17_Same h.pk h' true ⟨fun _=>rfl,fun _=>rfl⟩
  have cB:=fun wr (h:PBox wr FP w2.heap.size A1 p.rules.length c1 A2 p.row.length c2 A3 p.rows.length c3 A4 p.gow.length c4 A5 p.gows.length c5 p.terms p.nons p) (h1:LenP p) (h2:(numsP p).length<=40000000)=>tabs_Bytes h.pk h1 h2
  unfold BytesP at cB
  obtain⟨T,gT⟩: ∃x,x=p.terms:=⟨_,rfl⟩
  obtain⟨N,gN⟩: ∃x,x=p.nons:=⟨_,rfl⟩
  obtain⟨n1,k1⟩: ∃x,x=p.rules.length:=⟨_,rfl⟩
  obtain⟨n2,k2⟩: ∃x,x=p.row.length:=⟨_,rfl⟩
  obtain⟨n3,k3⟩: ∃x,x=p.rows.length:=⟨_,rfl⟩
  obtain⟨n4,k4⟩: ∃x,x=p.gow.length:=⟨_,rfl⟩
  obtain⟨n5,k5⟩: ∃x,x=p.gows.length:=⟨_,rfl⟩
  rw [<-gT,<-gN,<-k1,<-k2,<-k3,<-k4,<-k5]at p3 hw3 cE cB
  rw [<-gT,<-gN,<-k1,<-k2,<-k3,<-k4,<-k5]
  rw [<-gT,<-gN]at kF
  have ew3:=hw3.symm
  clear hp b2 b3 hw3 hFP
  obtain⟨Xp3,Xbb3,XkF,XcE,XcB,XgT,XgN,Xk1,Xk2,Xk3,Xk4,Xk5⟩:=HqZ12 p3 bb3 kF cE cB gT gN k1 k2 k3 k4 k5;clear p3 bb3 kF cE cB gT gN k1 k2 k3 k4 k5
  go_wp2_with fail
  refine XkF.out.mono ?_
  rintro e w4 ⟨b4,u1,u2,u3,u4,u5,rfl,hq⟩
  obtain⟨E1,e1,E2,e2,E3,e3,E4,e4,E5,e5,rfl,rfl,rfl,rfl,rfl,-⟩:=hq.slices
  rw [<-Xk1.out,<-Xk2.out,<-Xk3.out,<-Xk4.out,<-Xk5.out]at hq
  rw [<-Xk1.out,<-Xk2.out,<-Xk3.out,<-Xk4.out,<-Xk5.out]
  have p4:=Xp3.out.below b4
  have bb4:=Xbb3.out.trans (b4.mono Xbb3.out.size)
  have q6:=PBox.new hq T N
  obtain⟨w5,hw5⟩: ∃q,q=w4.alloc (.cells #[.slice E1 n1 e1,.int .i64 T,.int .i64 N,.slice E2 n2 e2,.slice E3 n3 e3,.slice E4 n4 e4,.slice E5 n5 e5] 26):=⟨_,rfl⟩
  rw [<-hw5]at q6
  have al:Below w4.heap.size w4 w5:=by rw [hw5];exact(Below.refl _ _).alloc (Nat.le_refl _) _
  have p6:=p4.below al
  have bb6:=bb4.trans (al.mono bb4.size)
  have cE6:=XcE.out _ _ _ _ _ _ _ p6 q6.pk
  obtain⟨z0,z1,z2,z3,z4,z5,z6⟩:=p6.cells
  obtain⟨y0,y1,y2,y3,y4,y5,y6⟩:=q6.cells
  have hne:(x !=x)=false:=by simp
  have ew5:=hw5.symm
  clear hq p4 bb4 al b4 q6 hw5 ew3 Xp3 Xbb3 XkF XcE
  obtain⟨Xp6,Xbb6,XcE6⟩:=HqZ3 p6 bb6 cE6;clear p6 bb6 cE6
  go_wp2_with fail
  refine XcE6.out.mono ?_
  rintro e w7 ⟨rfl,b7⟩
  have p7:=Xp6.out.below b7
  have bb7:=Xbb6.out.trans (b7.mono Xbb6.out.size)
  clear b7 Xp6 Xbb6 XcE6 z0 z1 z2 z3 z4 z5 z6 y0 y1 y2 y3 y4 y5 y6 ew5 hne
  by_cases hx:x=0
  ·subst hx
   obtain⟨e1,e2,e3⟩:=Xhby.out p rfl
   have hlen:=encP_len e2 e3
   rw [e1]at hlen
   have pd:PBox w7.drew FP w2.heap.size A1 n1 c1 A2 n2 c2 A3 n3 c3 A4 n4 c4 A5 n5 c5 T N p:=p7.below ((Below.refl _ w7).drew)
   have bbd:Below w.heap.size w w7.drew:=bb7.drew
   have cB7:=XcB.out w7.drew pd (lenP_ok e2 e3) (by omega)
   rw [e1]at cB7
   have cvd:=Xcv.out w7.drew bbd
   have SS:=And.intro pd.cells cvd
   rw [<-Xhn.out]at cB7
   clear p7 bb7 XcB hlen e1 e2 e3 pd
   obtain⟨Xbbd,XcB7,XSS⟩:=HqZ3 bbd cB7 SS;clear bbd cB7 SS
   go_wp2_with fail
   refine region_late2 (fun W=>(W.cell? ⟨w2.heap.size,0,none⟩=some (.slice A1 n1 c1)/\W.cell? ⟨w2.heap.size,1,none⟩=some (.int .i64 T)/\W.cell? ⟨w2.heap.size,2,none⟩=some (.int .i64 N)/\W.cell? ⟨w2.heap.size,3,none⟩=some (.slice A2 n2 c2)/\W.cell? ⟨w2.heap.size,4,none⟩=some (.slice A3 n3 c3)/\W.cell? ⟨w2.heap.size,5,none⟩=some (.slice A4 n4 c4)/\W.cell? ⟨w2.heap.size,6,none⟩=some (.slice A5 n5 c5))/\(convert 29 9 (.slice A n c)).run Tryz.prog W= .ok (.string (u8s b)) W) [0,1,2,3,6,7] [4,5,8,9,10,11] 12 (by kernel_rfl) (by kernel_rfl) XSS.out ?_
   simp only [pickO,List.getElem?_cons_succ,List.getElem?_cons_zero,List.drop_succ_cons,List.drop_zero]
   iterate 6
    refine wpHeld_cons ?_ (by rfl) (fun wS hwS=> ?_) ?_
    rotate_left
    ·(try dsimp only at hwS)
     go_simp
     all_goals with_reducible rfl
    simp only [Act.put,List.setIfInBounds_toArray,List.set_cons_zero,List.set_cons_succ]
   refine wpHeld_nil ?_
   generalize w7.drew=wd at *
   have hlift: ∀W,Below wd.heap.size wd W->(W.cell? ⟨w2.heap.size,0,none⟩=some (.slice A1 n1 c1)/\W.cell? ⟨w2.heap.size,1,none⟩=some (.int .i64 T)/\W.cell? ⟨w2.heap.size,2,none⟩=some (.int .i64 N)/\W.cell? ⟨w2.heap.size,3,none⟩=some (.slice A2 n2 c2)/\W.cell? ⟨w2.heap.size,4,none⟩=some (.slice A3 n3 c3)/\W.cell? ⟨w2.heap.size,5,none⟩=some (.slice A4 n4 c4)/\W.cell? ⟨w2.heap.size,6,none⟩=some (.slice A5 n5 c5))/\(convert 29 9 (.slice A n c)).run Tryz.prog W= .ok (.string (u8s b)) W:=fun W hW=>⟨⟨up_cell hW XSS.out.1.1,up_cell hW XSS.out.1.2.1,up_cell hW XSS.out.1.2.2.1,up_cell hW XSS.out.1.2.2.2.1,up_cell hW XSS.out.1.2.2.2.2.1,up_cell hW XSS.out.1.2.2.2.2.2.1,up_cell hW XSS.out.1.2.2.2.2.2.2⟩,Xcv.out W (Xbbd.out.trans (hW.mono Xbbd.out.size))⟩
   have hss:((u8s b).toList==(u8s b).toList)=true:=by simp
   have Xhlift:=hide hlift;clear hlift
   refine wpMid_cons ?_
   go_wp2_with fail
   with_reducible refine XcB7.out.mono ?_
   rintro e w8 ⟨b8,A8,c8,rfl,rd8⟩
   have S8:=Xhlift.out w8 b8
   have cv8:=bytes_back (P:=Tryz.prog) rd8 Xhb.out 29 9 5 Tryz.underlying29 Tryz.underlying5 Tryz.underlying9
   have bb8:=Xbbd.out.trans (b8.mono Xbbd.out.size)
   have cA8:=XcA.out w8
   clear XcB7 XSS rd8 Xbbd
   obtain⟨XS8,Xbb8,Xb8,XcA8⟩:=HqZ4 S8 bb8 b8 cA8;clear S8 bb8 b8 cA8
   iterate 5
    go_wp2_with fail
    refine⟨XS8.out,wpMid_cons ?_⟩
   clear XS8
   go_wp2_with fail
   with_reducible refine XcA8.out.mono ?_
   rintro e w9 ⟨rfl,b9⟩
   have S9:=Xhlift.out w9 (Xb8.out.trans (b9.mono Xb8.out.size))
   have bb9:=Xbb8.out.trans (b9.mono Xbb8.out.size)
   clear Xbb8 Xhlift Xb8 b9 XcA8 cv8 hss
   obtain⟨XS9,Xbb9⟩:=HqZ2 S9 bb9;clear S9 bb9
   go_wp2_with fail
   refine⟨XS9.out,wpMid_nil ?_⟩
   clear XS9
   go_wp2_with fail
   refine NoPanic.normal ?_
   go_wp2_with fail
   go_ret
   exact⟨rfl,by first|exact Xbb9.out|exact Xbb9.out.drew⟩
  ·have hx0:(x !=0)=true:=bne_iff_ne.2 hx
   have cA7:=XcA.out w7.drew
   have bbd:Below w.heap.size w w7.drew:=bb7.drew
   clear p7 bb7 XcB
   obtain⟨Xbbd,XcA7⟩:=HqZ2 bbd cA7;clear bbd cA7
   go_wp2_with fail
   refine region_late2 (fun _=>True) [0,1,2,3,4,5,6,7,8,9,10] [11] 12 (by kernel_rfl) (by kernel_rfl) trivial ?_
   simp only [pickO,List.getElem?_cons_succ,List.getElem?_cons_zero,List.drop_succ_cons,List.drop_zero]
   iterate 3
    refine wpHeld_cons ?_ (by rfl) (fun wS hwS=> ?_) ?_
    rotate_left
    ·(try dsimp only at hwS)
     go_simp
     all_goals with_reducible rfl
    simp only [Act.put,List.setIfInBounds_toArray,List.set_cons_zero,List.set_cons_succ]
   iterate 6
    refine wpHeld_off (by rfl) ?_
    simp only [Act.put,List.setIfInBounds_toArray,List.set_cons_zero,List.set_cons_succ]
   iterate 2
    refine wpHeld_cons ?_ (by rfl) (fun wS hwS=> ?_) ?_
    rotate_left
    ·(try dsimp only at hwS)
     go_simp
     all_goals with_reducible rfl
    simp only [Act.put,List.setIfInBounds_toArray,List.set_cons_zero,List.set_cons_succ]
   refine wpHeld_nil ?_
   generalize w7.drew=wd at *
   refine wpMid_cons ?_
   go_wp2_with fail
   with_reducible refine XcA7.out.mono ?_
   rintro e w9 ⟨rfl,b9⟩
   have bb9:=Xbbd.out.trans (b9.mono Xbbd.out.size)
   clear b9 XcA7 Xbbd
   have Xbb9:=hide bb9;clear bb9
   go_wp2_with fail
   refine⟨trivial,wpMid_nil ?_⟩
   go_wp2_with fail
   refine NoPanic.normal ?_
   go_wp2_with fail
   go_ret
   exact⟨rfl,by first|exact Xbb9.out|exact Xbb9.out.drew⟩
end Go.Proofs.YtlpipniclimgeaaGreat

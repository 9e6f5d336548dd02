/- The reckoning machine at this program: its tables. -/
import Derived.Test.YtlpipniclimgeaaGreatEEvF
import Derived.Test.YtlpipniclimgeaaGreatProg
import Derived.Test.YtlpipniclimgeaaGreatETabs18
namespace Go.Proofs.YtlpipniclimgeaaGreat
set_option linter.unusedVariables false
open Go.RowKit Go.Lib
noncomputable def evTab:Ev.Tab:=Ev.mkTab Tryz.prog 159 []
theorem evTab_ok:Ev.TabOK evTab/\Ev.FldOK evTab:=
 Ev.mkTab_ok (by kernel_rfl) (Ev.esc_ok Tryz.func159 (by kernel_rfl) (by kernel_rfl) (by kernel_rfl) (by kernel_rfl)) (fun f e h=>(by cases h)) (by kernel_rfl)
theorem ev_calls {f:FuncId} {n:Nat} (e:Ev.evalT evTab f n=true) (w:World):Calls Tryz.prog f #[] w fun e w'=>e= .returned (.bool true)/\Below w.heap.size w w':=
 (Ev.evalT_ok evTab_ok.1 evTab_ok.2 evTab_ok.1.mixed e w).mono fun e w' h=>by
  cases e with
  |returned v=>obtain⟨rfl,hb⟩:=h;exact⟨rfl,hb⟩
  |panicked c=>exact h.elim
  |outgrown=>exact h.elim
end Go.Proofs.YtlpipniclimgeaaGreat
namespace Go.Proofs.YtlpipniclimgeaaGreat
open Go.RowKit
set_option maxRecDepth 1000000 in
theorem law18_awake (w:World):Calls Tryz.prog 7 #[] w fun e w'=>e= .returned (.bool true)/\Below w.heap.size w w':=ev_calls (n:=200000) (by kernel_rfl) w
set_option linter.unusedVariables false
set_option linter.unusedSimpArgs false
attribute [local irreducible] wpStill wpOne wpPh
theorem flat_le {X:Type} {f:X->List Int} {m:Nat}: ∀{l:List X},(∀x∈l,(f x).length<=m)->(l.flatMap f).length<=l.length * m
 |[],_=>by simp
 |x::l,h=>by
  rw [List.flatMap_cons,List.length_append,List.length_cons,Nat.add_mul,Nat.one_mul]
  have h1:=h x (by simp)
  have h2:=flat_le (l:=l) fun y hy=>h y (by simp [hy])
  omega
theorem sm60_len {p:PackD} (h:Sm60 p):LenP p/\(numsP p).length<=40000000:=by
 obtain⟨h1,h2,h3,h4,h5,h6,h7,h8⟩:=h
 refine⟨⟨by omega,fun r hr=>by have:=h6 r hr;omega,fun r hr=>by have:=h7 r hr;omega⟩,?_⟩
 have a1:=flat_le (f:=ruleN) (m:=62) (l:=p.rules) fun x hx=>by have:=h8 x hx;unfold ruleN;simp only [List.length_cons];omega
 have a2:=flat_le (f:=fun r:List Int=>r) (m:=60) (l:=p.rows) h6
 have a3:=flat_le (f:=fun r:List Int=>r) (m:=60) (l:=p.gows) h7
 have e2:p.rows.flatMap (fun r:List Int=>r)=p.rows.flatten:=List.flatMap_id' ..
 have e3:p.gows.flatMap (fun r:List Int=>r)=p.gows.flatten:=List.flatMap_id' ..
 rw [e2]at a2
 rw [e3]at a3
 have b1:p.rules.length * 62<=60 * 62:=Nat.mul_le_mul_right _ h5
 have b2:p.rows.length * 60<=60 * 60:=Nat.mul_le_mul_right _ h3
 have b3:p.gows.length * 60<=60 * 60:=Nat.mul_le_mul_right _ h4
 unfold numsP rowsN
 simp only [List.length_cons,List.length_append]
 omega
set_option maxRecDepth 100000 in
set_option maxHeartbeats 8000000 in
theorem walk_TabsBytes (C:Array Value) (p:PackD) (w:World) (hg:PackCells w C.toList p):
  Calls Tryz.prog 3 #[.agg C] w (Quiet w (.bool true)):=by
 obtain⟨v1,v2,v3,v4,v5,hC,hp⟩:=hg
 obtain rfl:C= #[v1,.int .i64 p.terms,.int .i64 p.nons,v2,v3,v4,v5]:=Array.toList_inj.1 hC
 clear hC
 obtain⟨A1,c1,A2,c2,A3,c3,A4,c4,A5,c5,rfl,rfl,rfl,rfl,rfl,-⟩:=hp.slices
 obtain⟨FP,hFP⟩: ∃F:Nat->Prop,F=fun b=>b<w.heap.size:=⟨_,rfl⟩
 rw [<-hFP]at hp
 have p1:=PBox.new hp p.terms p.nons
 obtain⟨w1,hw1⟩: ∃q,q=w.alloc (.cells #[.slice A1 p.rules.length c1,.int .i64 p.terms,.int .i64 p.nons,.slice A2 p.row.length c2,.slice A3 p.rows.length c3,.slice A4 p.gow.length c4,.slice A5 p.gows.length c5] 26):=⟨_,rfl⟩
 rw [<-hw1]at p1
 have b1:Below w.heap.size w w1:=by rw [hw1];exact(Below.refl _ _).alloc (Nat.le_refl _) _
 obtain⟨r,hr⟩: ∃r:Bool,r=true↔Sm60 p:=⟨(Classical.propDecidable (Sm60 p)).decide,by simp⟩
 have cS:=law18_small p1.pk hr
 have cB:=fun wr (h:PBox wr FP w.heap.size A1 p.rules.length c1 A2 p.row.length c2 A3 p.rows.length c3 A4 p.gow.length c4 A5 p.gows.length c5 p.terms p.nons p) (h1:LenP p) (h2:(numsP p).length<=40000000)=>tabs_Bytes h.pk h1 h2
 have cQ:=fun wr (h:PBox wr FP w.heap.size A1 p.rules.length c1 A2 p.row.length c2 A3 p.rows.length c3 A4 p.gow.length c4 A5 p.gows.length c5 p.terms p.nons p) (h1:LenP p) (h2:(numsP p).length<=40000000)=>ref18_Bytes h.pk h1 h2
 have cE:=fun wr G u1 u2 u3 u4 u5 (h:PBox wr FP w.heap.size A1 p.rules.length c1 A2 p.row.length c2 A3 p.rows.length c3 A4 p.gow.length c4 A5 p.gows.length c5 p.terms p.nons p) (h':IsPack wr G u1 u2 u3 u4 u5 p)=>ref17_Same h.pk h' true ⟨fun _=>rfl,fun _=>rfl⟩
 unfold BytesP at cB cQ
 have hbb:Bytes (bytesP p):=by
  unfold bytesP
  split
  ·intro x hx
   rcases List.mem_append.1 hx with h|h
   ·exact bytes_headB x h
   ·exact encB_byte _ x h
  ·intro x hx;cases hx
 have hof:bytesP p≠[]->ofD (bytesP p)=(p,0):=fun hne=>by
  have h:(rightP p&&okN (numsP p))=true:=by
   cases hh:(rightP p&&okN (numsP p))with
   |true=>rfl
   |false=>exact absurd (by unfold bytesP;rw [hh];rfl) hne
  rw [Bool.and_eq_true]at h
  exact of_bytes h.1 h.2
 obtain⟨b,hb⟩: ∃q,q=bytesP p:=⟨_,rfl⟩
 rw [<-hb]at cB cQ hbb hof
 obtain⟨T,gT⟩: ∃x,x=p.terms:=⟨_,rfl⟩
 obtain⟨N,gN⟩: ∃x,x=p.nons:=⟨_,rfl⟩
 obtain⟨n1,k1⟩: ∃x,x=p.rules.length:=⟨_,rfl⟩
 obtain⟨n2,k2⟩: ∃x,x=p.row.length:=⟨_,rfl⟩
 obtain⟨n3,k3⟩: ∃x,x=p.rows.length:=⟨_,rfl⟩
 obtain⟨n4,k4⟩: ∃x,x=p.gow.length:=⟨_,rfl⟩
 obtain⟨n5,k5⟩: ∃x,x=p.gows.length:=⟨_,rfl⟩
 rw [<-gT,<-gN,<-k1,<-k2,<-k3,<-k4,<-k5]at p1 hw1 cS cB cQ cE
 rw [<-gT,<-gN,<-k1,<-k2,<-k3,<-k4,<-k5]
 have cA:=fun W=>law18_awake W
 have ew1:=hw1.symm
 obtain⟨z0,z1,z2,z3,z4,z5,z6⟩:=p1.cells
 clear hp hFP hw1 hb
 obtain⟨Xp1,Xb1,XcS,XcB,XcQ,XcE,Xhbb,Xhof,XgT,XgN,Xk1,Xk2,Xk3,Xk4⟩:=HqZ14 p1 b1 cS cB cQ cE hbb hof gT gN k1 k2 k3 k4;obtain⟨Xk5,XcA,Xhr⟩:=HqZ3 k5 cA hr;clear p1 b1 cS cB cQ cE hbb hof gT gN k1 k2 k3 k4 k5 cA hr
 go_enter Tryz.func3,Tryz.ntmps3
 go_wp2_with fail
 refine XcS.out.mono ?_
 rintro e w2 ⟨rfl,b2⟩
 have p2:=Xp1.out.below b2
 have bb2:=Xb1.out.trans (b2.mono Xb1.out.size)
 clear XcS b2 Xp1 Xb1 ew1 z0 z1 z2 z3 z4 z5 z6
 cases r with
 |false=>
  have cA2:=XcA.out w2
  clear p2
  obtain⟨Xbb2,XcA2⟩:=HqZ2 bb2 cA2;clear bb2 cA2
  go_wp2_with fail
  refine XcA2.out.mono ?_
  rintro e w3 ⟨rfl,b3⟩
  have bb:=Xbb2.out.trans (b3.mono Xbb2.out.size)
  have Xbb:=hide bb;clear bb
  go_wp2_with fail
  go_ret
  exact⟨rfl,Xbb.out⟩
 |true=>
  obtain⟨hl1,hl2⟩:=sm60_len (Xhr.out.1 rfl)
  have cB2:=XcB.out w2 p2 hl1 hl2
  obtain⟨z0,z1,z2,z3,z4,z5,z6⟩:=p2.cells
  obtain⟨n,hn⟩: ∃q,q=b.length:=⟨_,rfl⟩
  rw [<-hn]at cB2
  obtain⟨Xbb2,XcB2,Xp2,Xhl1,Xhl2,Xhn⟩:=HqZ6 bb2 cB2 p2 hl1 hl2 hn;clear bb2 cB2 p2 hl1 hl2 hn;clear XcB
  go_wp2_with fail
  refine XcB2.out.mono ?_
  rintro e w3 ⟨b3,A,c,rfl,rd3⟩
  have p3:=Xp2.out.below b3
  have bb3:=Xbb2.out.trans (b3.mono Xbb2.out.size)
  obtain⟨-,hnc,hcm,-⟩:=RdY.at_ rd3
  unfold maxLen at hcm
  have p4:=p3.below ((Below.refl _ w3).drew)
  have bb4:Below w.heap.size w w3.drew:=bb3.drew
  have cQ4:=XcQ.out w3.drew p4 Xhl1.out Xhl2.out
  rw [<-Xhn.out]at cQ4
  have cv:=fun W (bW:Below w3.heap.size w3 W)=>bytes_back (P:=Tryz.prog) (Rd.below rd3 bW fun k hk=>hk.2) Xhbb.out 29 9 5 Tryz.underlying29 Tryz.underlying5 Tryz.underlying9
  have SS:=And.intro p4.cells (cv w3.drew ((Below.refl _ w3).drew))
  have hss:((u8s b).toList==(u8s b).toList)=true:=by simp
  have cv2:=fun W (bW:Below w3.drew.heap.size w3.drew W)=>cv W ((Below.refl _ w3).drew.trans bW)
  have rd4:RdY w3.drew (fun k=>k<w3.drew.heap.size) (.slice A n c) b:=(Rd.below rd3 ((Below.refl _ w3).drew) fun k hk=>hk.2).mono fun k hk=>hk.2
  clear b3 p3 bb3 XcB2 Xbb2 Xp2 XcQ z0 z1 z2 z3 z4 z5 z6 cv rd3
  obtain⟨XSS,Xp4,Xbb4,XcQ4,Xcv2,Xrd4⟩:=HqZ6 SS p4 bb4 cQ4 cv2 rd4;clear SS p4 bb4 cQ4 cv2 rd4
  go_wp2_with fail
  refine region_late2 (fun W=>(W.cell? ⟨w.heap.size,0,none⟩=some (.slice A1 n1 c1)/\W.cell? ⟨w.heap.size,1,none⟩=some (.int .i64 T)/\W.cell? ⟨w.heap.size,2,none⟩=some (.int .i64 N)/\W.cell? ⟨w.heap.size,3,none⟩=some (.slice A2 n2 c2)/\W.cell? ⟨w.heap.size,4,none⟩=some (.slice A3 n3 c3)/\W.cell? ⟨w.heap.size,5,none⟩=some (.slice A4 n4 c4)/\W.cell? ⟨w.heap.size,6,none⟩=some (.slice A5 n5 c5))/\(convert 29 9 (.slice A n c)).run Tryz.prog W= .ok (.string (u8s b)) W) [0,1,2] [3,4] 5 (by kernel_rfl) (by kernel_rfl) XSS.out ?_
  simp only [pickO,List.getElem?_cons_succ,List.getElem?_cons_zero,List.drop_succ_cons,List.drop_zero]
  iterate 3
   refine wpHeld_cons ?_ (by rfl) (fun wS hwS=> ?_) ?_
   rotate_left
   ·(try dsimp only at hwS)
    go_simp
    all_goals with_reducible rfl
   simp only [Act.put,List.setIfInBounds_toArray,List.set_cons_zero,List.set_cons_succ]
  refine wpHeld_nil ?_
  generalize w3.drew=wd at *
  have hlift: ∀W,Below wd.heap.size wd W->(W.cell? ⟨w.heap.size,0,none⟩=some (.slice A1 n1 c1)/\W.cell? ⟨w.heap.size,1,none⟩=some (.int .i64 T)/\W.cell? ⟨w.heap.size,2,none⟩=some (.int .i64 N)/\W.cell? ⟨w.heap.size,3,none⟩=some (.slice A2 n2 c2)/\W.cell? ⟨w.heap.size,4,none⟩=some (.slice A3 n3 c3)/\W.cell? ⟨w.heap.size,5,none⟩=some (.slice A4 n4 c4)/\W.cell? ⟨w.heap.size,6,none⟩=some (.slice A5 n5 c5))/\(convert 29 9 (.slice A n c)).run Tryz.prog W= .ok (.string (u8s b)) W:=fun W hW=>⟨(Xp4.out.below hW).cells,Xcv2.out W hW⟩
  clear XSS
  have Xhlift:=hide hlift;clear hlift
  refine wpMid_cons ?_
  go_wp2_with fail
  with_reducible refine XcQ4.out.mono ?_
  rintro e w8 ⟨b8,A8,c8,rfl,rd8⟩
  have S8:=Xhlift.out w8 b8
  have cv8:=bytes_back (P:=Tryz.prog) rd8 Xhbb.out 29 9 5 Tryz.underlying29 Tryz.underlying5 Tryz.underlying9
  have bb8:=Xbb4.out.trans (b8.mono Xbb4.out.size)
  have p8:=Xp4.out.below b8
  have rd8b:RdY w8 (fun k=>k<w8.heap.size) (.slice A n c) b:=(Rd.below Xrd4.out b8 fun k hk=>hk).mono fun k hk=>Nat.lt_of_lt_of_le hk b8.size
  clear XcQ4 Xbb4 Xp4 Xrd4 b8 rd8 Xhlift Xcv2
  obtain⟨XS8,Xbb8,Xp8,Xrd8b⟩:=HqZ4 S8 bb8 p8 rd8b;clear S8 bb8 p8 rd8b
  go_wp2_with fail
  refine⟨XS8.out,wpMid_cons ?_⟩
  go_wp2_with fail
  refine⟨XS8.out,wpMid_nil ?_⟩
  clear XS8
  go_wp2_with fail
  refine NoPanic.normal ?_
  clear hss cv8
  by_cases hn0:n=0
  ·have hn1:(n:Int)=0:=by omega
   have cA8:=XcA.out w8
   subst hn0
   clear Xrd8b Xp8
   have XcA8:=hide cA8;clear cA8
   go_wp2_with fail
   refine XcA8.out.mono ?_
   rintro e w9 ⟨rfl,b9⟩
   have bb:=Xbb8.out.trans (b9.mono Xbb8.out.size)
   have Xbb:=hide bb;clear bb
   go_wp2_with fail
   go_ret
   exact⟨rfl,by first|exact Xbb.out|exact Xbb.out.drew⟩
  ·have hn1: ¬(n:Int)=0:=by omega
   have hD:=Xhof.out fun e=>hn0 (by rw [Xhn.out,e];rfl)
   have cO:=tabs_Of Xrd8b.out Xhbb.out fun k hk=>hk
   unfold OfBP at cO
   rw [hD]at cO
   simp only at cO
   rw [<-XgT.out,<-XgN.out]at cO
   clear hD Xrd8b
   have XcO:=hide cO;clear cO
   go_wp2_with fail
   refine XcO.out.mono ?_
   rintro e w9 ⟨b9,u1,u2,u3,u4,u5,rfl,hq⟩
   obtain⟨E1,e1,E2,e2,E3,e3,E4,e4,E5,e5,rfl,rfl,rfl,rfl,rfl,-⟩:=hq.slices
   rw [<-Xk1.out,<-Xk2.out,<-Xk3.out,<-Xk4.out,<-Xk5.out]at hq
   rw [<-Xk1.out,<-Xk2.out,<-Xk3.out,<-Xk4.out,<-Xk5.out]
   have p9:=Xp8.out.below b9
   have bb9:=Xbb8.out.trans (b9.mono Xbb8.out.size)
   have q6:=PBox.new hq T N
   obtain⟨w5,hw5⟩: ∃q,q=w9.alloc (.cells #[.slice E1 n1 e1,.int .i64 T,.int .i64 N,.slice E2 n2 e2,.slice E3 n3 e3,.slice E4 n4 e4,.slice E5 n5 e5] 26):=⟨_,rfl⟩
   rw [<-hw5]at q6
   have al:Below w9.heap.size w9 w5:=by rw [hw5];exact(Below.refl _ _).alloc (Nat.le_refl _) _
   have p6:=p9.below al
   have bb6:=bb9.trans (al.mono bb9.size)
   have cE6:=XcE.out _ _ _ _ _ _ _ p6 q6.pk
   obtain⟨z0,z1,z2,z3,z4,z5,z6⟩:=p6.cells
   obtain⟨y0,y1,y2,y3,y4,y5,y6⟩:=q6.cells
   have ew5:=hw5.symm
   clear hq p9 bb9 al b9 q6 hw5 Xp8 Xbb8 XcO XcE
   obtain⟨Xp6,Xbb6,XcE6⟩:=HqZ3 p6 bb6 cE6;clear p6 bb6 cE6
   go_wp2_with fail
   refine XcE6.out.mono ?_
   rintro e w7 ⟨rfl,b7⟩
   have bb7:=Xbb6.out.trans (b7.mono Xbb6.out.size)
   have cA8:=XcA.out w7
   clear b7 Xp6 Xbb6 XcE6 z0 z1 z2 z3 z4 z5 z6 y0 y1 y2 y3 y4 y5 y6 ew5
   obtain⟨Xbb7,XcA8⟩:=HqZ2 bb7 cA8;clear bb7 cA8
   go_wp2_with fail
   refine XcA8.out.mono ?_
   rintro e w8 ⟨rfl,b9⟩
   have bb:=Xbb7.out.trans (b9.mono Xbb7.out.size)
   have Xbb:=hide bb;clear bb
   go_wp2_with fail
   go_ret
   exact⟨rfl,by first|exact Xbb.out|exact Xbb.out.drew⟩
end Go.Proofs.YtlpipniclimgeaaGreat

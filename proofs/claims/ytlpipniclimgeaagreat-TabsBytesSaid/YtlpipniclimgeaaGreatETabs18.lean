/- Tables as bytes, the reference: Bytes. -/
import Derived.Test.YtlpipniclimgeaaGreatERp4
import Derived.Test.YtlpipniclimgeaaGreatEItem1
namespace Go.Proofs.YtlpipniclimgeaaGreat
set_option linter.unusedVariables false
set_option linter.unusedSimpArgs false
open Go.RowKit
attribute [local irreducible] wpStill wpOne wpPh
def RetB (w:World) (m:Nat) (L:List Int) (e:Ending) (w':World):Prop:=Below w.heap.size w w'/\ ∃A c,e= .returned (.slice A m c)/\RdY w' (fun b=>w.heap.size<=b/\b<w'.heap.size) (.slice A m c) L
theorem RetB.own {w w':World} {m:Nat} {L:List Int} {e:Ending} (hm:m=L.length) (h:OwnP w L e w'):RetB w m L e w':=by
 subst hm
 obtain⟨b,A,c,he,o⟩:=h
 exact⟨b,A,c,he,(Rd.of_own o).mono fun k e=>o.lt k e⟩
theorem RetB.ownq {w w':World} {m:Nat} {L:List Int} {e:Ending} (hm:m=L.length) (h:OwnQ w L e w'):RetB w m L e w':=by
 subst hm
 obtain⟨b,A,c,he,o1,o2⟩:=h
 exact⟨b,A,c,he,o1.rd.mono fun k e=>⟨o2 k e,o1.lt k e⟩⟩
theorem RetB.two {w w':World} {n:Int} {e:Ending} (h:TwoP w n e w'):RetB w 2 (encB [n]) e w':=by
 obtain⟨he,rfl⟩:=h
 exact⟨(Below.refl _ w).alloc (Nat.le_refl _) _,_,_,he,Rd.of_blk (F:=fun b=>w.heap.size<=b/\b<(w.alloc (.cells #[.int .u8 (n/256%256),.int .u8 (n%256)] 5)).heap.size) (us:=[.int .u8 (n/256%256),.int .u8 (n%256)]) (n:=2) (Blk.new _ _ _) ⟨Nat.le_refl _,by simp⟩ rfl (by decide)⟩
def OutB (D:Nat) (w:World) (A:Option Addr) (n c:Nat) (NS:List Int):Prop:=w.ownsRow D 5 1 (.slice A n c) n ((headB++encB NS).map I8)
theorem i8_one (L:List Int): ∀u∈L.map I8,u.oneCell'=true:=fun u hu=>by
 obtain⟨x,-,rfl⟩:=List.mem_map.1 hu
 rfl
theorem OutB.len {D:Nat} {w:World} {A:Option Addr} {n c:Nat} {NS:List Int} (h:OutB D w A n c NS):n=3+2 * NS.length:=by
 have:=h.1
 rw [List.length_map,List.length_append,encB_len,Nat.mul_one]at this
 show n=3+_
 have e:headB.length=3:=rfl
 omega
theorem OutB.step {D n c m c4:Nat} {w2 w6 w4:World} {A A4:Option Addr} {NS xs:List Int} (h:OutB D w6 A n c NS) (own4:w4.ownsRow D 5 1 (.slice A4 (n+m) c4) (n+m) ((headB++encB NS).map I8++(encB xs).map I8)) (g4:w6.grownBy w4 (Value.slice A n c).ownBlock)
  (b:Below D w2 w6) (hD:D<=w2.heap.size):OutB D w4 A4 (n+m) c4 (NS++xs)/\Below D w2 w4:=by
 refine⟨?_,((Touch.refl (fun k=>(Value.slice A n c).ownBlock=some k) w6).grown g4 (fun k e _=>e)).toBelow (fun k e=>(World.ownsRow.lt h k e).1) b (Nat.le_trans hD b.size)⟩
 unfold OutB
 rw [encB_app,<-List.append_assoc,List.map_append]
 exact own4
theorem OutB.below {D n c:Nat} {w w':World} {A:Option Addr} {NS:List Int} (h:OutB D w A n c NS) (b:Below w.heap.size w w'):OutB D w' A n c NS:=own_below' h b
theorem okN_mem {ns:List Int} (h:okN ns=true): ∀x∈ns,N16 x:=okN_iff.1 h
set_option maxRecDepth 100000 in
set_option maxHeartbeats 8000000 in
theorem ref18_Bytes {w:World} {F:Nat->Prop} {v1 v2 v3 v4 v5:Value} {p:PackD} (h:IsPack w F v1 v2 v3 v4 v5 p) (hl:LenP p) (hs:(numsP p).length<=40000000):
  Calls Tryz.prog 9 #[PV v1 p.terms p.nons v2 v3 v4 v5] w (BytesP w p):=by
 obtain⟨A1,c1,A2,c2,A3,c3,A4,c4,A5,c5,rfl,rfl,rfl,rfl,rfl,⟨i1,j1⟩,-⟩:=h.slices
 have u1:=Nat.le_trans i1 j1
 clear i1 j1
 obtain⟨w1,hw1⟩: ∃q',q'=w.alloc (.cells #[.slice A1 p.rules.length c1,.int .i64 p.terms,.int .i64 p.nons,.slice A2 p.row.length c2,.slice A3 p.rows.length c3,.slice A4 p.gow.length c4,.slice A5 p.gows.length c5] 26):=⟨_,rfl⟩
 have g1:=PBox.new h p.terms p.nons
 have b1:Below w.heap.size w w1:=by rw [hw1];exact(Below.refl _ w).alloc (Nat.le_refl _) _
 rw [<-hw1]at g1
 have z1:w1.heap.size=w.heap.size+1:=by rw [hw1];simp
 have cR:=ref17_Right g1.pk hl
 have hF: ∀b,F b->b<w.heap.size:=h.lt
 have hlen:(numsP p).length=3+((p.rules.flatMap ruleN).length+(1+(p.row.length+((rowsN p.rows).length+(p.gow.length+(rowsN p.gows).length))))):=by
  unfold numsP;simp only [List.length_cons,List.length_append];omega
 rw [hlen]at hs
 have cS:=fun(W:World) (g:IsPack W F (.slice A1 p.rules.length c1) (.slice A2 p.row.length c2) (.slice A3 p.rows.length c3) (.slice A4 p.gow.length c4) (.slice A5 p.gows.length c5) p) (hr:rightP p=true)=>ref18_small g (r:=okN (numsP p)) (small_ok hr h.u1 h.u2).symm
 obtain⟨T,gT⟩: ∃x,x=p.terms:=⟨_,rfl⟩
 obtain⟨N,gN⟩: ∃x,x=p.nons:=⟨_,rfl⟩
 obtain⟨n1,k1⟩: ∃x,x=p.rules.length:=⟨_,rfl⟩
 obtain⟨n2,k2⟩: ∃x,x=p.row.length:=⟨_,rfl⟩
 obtain⟨n3,k3⟩: ∃x,x=p.rows.length:=⟨_,rfl⟩
 obtain⟨n4,k4⟩: ∃x,x=p.gow.length:=⟨_,rfl⟩
 obtain⟨n5,k5⟩: ∃x,x=p.gows.length:=⟨_,rfl⟩
 rw [<-gT,<-gN,<-k1,<-k2,<-k3,<-k4,<-k5]at g1 hw1 cR cS
 rw [<-gT,<-gN,<-k1,<-k2,<-k3,<-k4,<-k5]
 rw [<-k1]at u1
 obtain⟨a0,a1,a2,a3,a4,a5,a6⟩:=g1.cells
 have ew1:=hw1.symm
 clear h hlen hw1
 obtain⟨r,hr⟩: ∃r,r=rightP p:=⟨_,rfl⟩
 rw [<-hr]at cR cS
 obtain⟨Xg1,Xb1,XcR,XhF,Xhs,XgT,XgN,Xk1,Xk2,Xk3,Xk4,Xk5,Xhr,Xhl⟩:=HqZ14 g1 b1 cR hF hs gT gN k1 k2 k3 k4 k5 hr hl;have XcS:=hide cS;clear g1 b1 cR hF hs gT gN k1 k2 k3 k4 k5 hr hl cS
 go_enter Tryz.func9,Tryz.ntmps9
 go_wp2_with fail
 refine XcR.out.mono ?_
 rintro e w2 ⟨rfl,b2⟩
 have g2:=Xg1.out.below b2
 have bb2:=Xb1.out.trans (b2.mono Xb1.out.size)
 have z2:w.heap.size+1<=w2.heap.size:=by have:=b2.size;omega
 clear XcR b2 Xg1 Xb1 ew1 a0 a1 a2 a3 a4 a5 a6 z1
 cases r with
 |false=>
  have ho:(rightP p&&okN (numsP p))=false:=by rw [<-Xhr.out];rfl
  obtain⟨Xbb2,Xho⟩:=HqZ2 bb2 ho;clear bb2 ho
  go_wp2_with fail
  go_ret
  exact BytesP.none rfl (by first|exact Xbb2.out|exact Xbb2.out.drew) Xho.out
 |true=>
  have cS:=XcS.out w2 g2.pk rfl
  obtain⟨r2,hr2⟩: ∃r,r=okN (numsP p):=⟨_,rfl⟩
  rw [<-hr2]at cS
  obtain⟨a0,a1,a2,a3,a4,a5,a6⟩:=g2.cells
  clear XcS
  obtain⟨XcS,Xg2,Xbb2,Xz2,Xhr2⟩:=HqZ5 cS g2 bb2 z2 hr2;clear cS g2 bb2 z2 hr2
  go_wp2_with fail
  refine XcS.out.mono ?_
  rintro e w3 ⟨rfl,b3⟩
  have g3:=Xg2.out.below b3
  have bb2:=Xbb2.out.trans (b3.mono Xbb2.out.size)
  have z3:w.heap.size+1<=w3.heap.size:=by have:=b3.size;have:=Xz2.out;omega
  clear XcS b3 Xg2 Xbb2 a0 a1 a2 a3 a4 a5 a6 Xz2
  cases r2 with
  |false=>
   have ho:(rightP p&&okN (numsP p))=false:=by rw [<-Xhr.out,<-Xhr2.out];rfl
   obtain⟨Xbb2,Xho⟩:=HqZ2 bb2 ho;clear bb2 ho
   go_wp2_with fail
   go_ret
   exact BytesP.none rfl (by first|exact Xbb2.out|exact Xbb2.out.drew) Xho.out
  |true=>
   have hN:=okN_mem Xhr2.out.symm
   have hob:bytesP p=headB++encB (numsP p):=by
    unfold bytesP
    rw [<-Xhr.out,<-Xhr2.out];rfl
   have hNT:N16 T/\N16 N/\N16 (n1:Int):=by rw [XgT.out,XgN.out,Xk1.out];exact⟨hN _ (by simp [numsP]),hN _ (by simp [numsP]),hN _ (by simp [numsP])⟩
   have hNR: ∀x∈p.rules,N16 x.1/\N16 (x.2.length:Int)/\ ∀y∈x.2,N16 y:=fun x hx=>by
    have hm: ∀y∈ruleN x,N16 y:=fun y hy=>hN y (by unfold numsP;simp only [List.mem_cons,List.mem_append,List.mem_flatMap];exact .inr (.inr (.inr (.inl ⟨x,hx,hy⟩))))
    exact⟨hm _ (by simp [ruleN]),hm _ (by simp [ruleN]),fun y hy=>hm y (by simp [ruleN,hy])⟩
   have hNr:N16 (n2:Int)/\(∀y∈p.row,N16 y)/\(∀y∈p.gow,N16 y):=by
    rw [Xk2.out]
    exact⟨hN _ (by simp [numsP]),fun y hy=>hN y (by simp [numsP,hy]),fun y hy=>hN y (by simp [numsP,hy])⟩
   have hN3:N16 (n3:Int)/\N16 (n5:Int):=by
    rw [Xk3.out,Xk5.out]
    exact⟨hN _ (by simp [numsP,rowsN]),hN _ (by simp [numsP,rowsN])⟩
   clear hN
   obtain⟨w4,hw4⟩: ∃q,q=w3.alloc (.cells #[.int .u8 76,.int .u8 84,.int .u8 49] 5):=⟨_,rfl⟩
   obtain⟨w5,hw5⟩: ∃q,q=w4.alloc (.cells #[.int .i64 T,.int .i64 N,.int .i64 (n1:Int)] 3):=⟨_,rfl⟩
   have z4:w4.heap.size=w3.heap.size+1:=by rw [hw4];simp
   have z5:w5.heap.size=w3.heap.size+2:=by rw [hw5];simp [z4]
   have b4:Below w3.heap.size w3 w4:=by rw [hw4];exact(Below.refl _ w3).alloc (Nat.le_refl _) _
   have b5:Below w4.heap.size w4 w5:=by rw [hw5];exact(Below.refl _ w4).alloc (Nat.le_refl _) _
   have b35:Below w3.heap.size w3 w5:=b4.trans (b5.mono (by omega))
   have kh:Blk w4 w3.heap.size 5 #[.int .u8 76,.int .u8 84,.int .u8 49]:=by rw [hw4];exact Blk.new _ _ _
   have kh5:=kh.below b5 kh.lt
   have rl:RdI w5 (fun b=>b<w5.heap.size) (.slice (some ⟨w4.heap.size,0,none⟩) 3 3) [T,N,(n1:Int)]:=by
    rw [hw5];exact Rd.of_blk (F:=fun b=>b<(w4.alloc (.cells #[.int .i64 T,.int .i64 N,.int .i64 (n1:Int)] 3)).heap.size) (us:=[.int .i64 T,.int .i64 N,.int .i64 (n1:Int)]) (n:=3) (Blk.new _ _ _) (by simp) rfl (by decide)
   have kL:=(ref18_line rl (fun _ h=>h) (by simp) (fun x hx=>by
    simp only [List.mem_cons,List.not_mem_nil,or_false]at hx
    rcases hx with rfl|rfl|rfl
    ·exact hNT.1
    ·exact hNT.2.1
    ·exact hNT.2.2)).mono fun e w' h=>RetB.own (m:=6) rfl h
   obtain⟨a0,a1,a2,a3,a4,a5,a6⟩:=(g3.below b4).cells
   have e4:=hw4.symm
   have e5:=hw5.symm
   clear hw4 hw5 kh rl b4 b5
   obtain⟨Xg3,Xbb2,Xz3,Xhob,XhNR,XhNr,XhN3,XkL,Xb35,Xkh5,Xz4,Xz5⟩:=HqZ12 g3 bb2 z3 hob hNR hNr hN3 kL b35 kh5 z4 z5;clear g3 bb2 z3 hob hNR hNr hN3 kL b35 kh5 z4 z5
   go_wp2_with fail
   refine XkL.out.mono ?_
   rintro e w6 ⟨b6,A6,c6,rfl,rd6⟩
   have b36:Below w3.heap.size w3 w6:=Xb35.out.trans (b6.mono Xb35.out.size)
   have kh6:=Xkh5.out.below b6 Xkh5.out.lt
   have ownF:OwnF w6 w3.heap.size 5 1 (.slice (some ⟨w3.heap.size,0,none⟩) 3 3) 3 ((headB++encB []).map I8):= .inr ⟨w3.heap.size,rfl,by decide,rfl,kh6.lt,fun j u hu=>by
    rw [kh6.cell j]
    simpa [headB,encB,I8]using hu⟩
   obtain⟨L6,hL6⟩: ∃q,q=encB [T,N,(n1:Int)]:=⟨_,rfl⟩
   have hm6:(L6.map I8).length=6 * 1:=by rw [hL6];rfl
   have ho6: ∀u∈L6.map I8,u.oneCell'=true:=i8_one _
   rw [<-hL6]at rd6
   unfold RdY at rd6
   obtain⟨us,hus⟩: ∃q,q=(headB++encB []).map I8:=⟨_,rfl⟩
   obtain⟨nw,hnw⟩: ∃q,q=L6.map I8:=⟨_,rfl⟩
   rw [<-hus]at ownF
   rw [<-hnw]at rd6 hm6 ho6
   have hz6:=b36.size
   clear XkL Xkh5 Xb35 b6 kh6 a0 a1 a2 a3 a4 a5 a6 e4 e5
   obtain⟨Xb36,XownF,XhL6,Xhm6,Xho6,Xrd6,Xhus,Xhnw,Xhz6⟩:=HqZ9 b36 ownF hL6 hm6 ho6 rd6 hus hnw hz6;clear b36 ownF hL6 hm6 ho6 rd6 hus hnw hz6
   go_wp2_with (at_builtin;refine wp_append2 _ rfl (.tmp 13) (.tmp 22) _ rfl Tryz.elemU8 w3.heap.size _ 3 us rfl XownF.out _ _ nw 6 rfl Xhm6.out (by decide) Xrd6.out Xho6.out (by decide) (by decide) Xhz6.out ?_)
   intro A7 c7 w7 own7 g7 ho7
   have O7:OutB w3.heap.size w7 A7 9 c7 ([T,N,(n1:Int)]++(p.rules.take 0).flatMap ruleN):=by
    rw [Xhus.out,Xhnw.out,XhL6.out]at own7
    unfold OutB
    rw [List.take_zero,List.flatMap_nil,List.append_nil,List.map_append]
    exact own7
   have b37:Below w3.heap.size w3 w7:=((Touch.refl (fun k=>(Value.slice (some ⟨w3.heap.size,0,none⟩) 3 3).ownBlock=some k) w6).grown g7 (fun k e _=>e)).toBelow (fun k e=>by have e:some w3.heap.size=some k:=e;injection e with e;omega) Xb36.out Xhz6.out
   clear own7 g7 ho7 Xb36 XownF XhL6 Xhm6 Xho6 Xrd6 Xhus Xhnw Xhz6 Xz4 Xz5
   obtain⟨XO7,Xb37⟩:=HqZ2 O7 b37;clear O7 b37
   go_wp2_with fail
   go_loopw [3,4] (fun o i wr=> ∃(k n c:Nat) (A:Option Addr),k<=n1/\o= .slice A n c/\i= .int .i64 (k:Int)/\OutB w3.heap.size wr A n c ([T,N,(n1:Int)]++(p.rules.take k).flatMap ruleN)/\Below w3.heap.size w3 wr) (fun o i _=>n1 - (intOf i).toNat)
   case atStart=>exact⟨0,9,c7,A7,Nat.zero_le _,rfl,rfl,XO7.out,Xb37.out⟩
   case round=>
    clear XO7 Xb37
    obtain⟨k,n,c,A,hk,rfl,rfl,O,bb⟩:=hrel
    obtain⟨wv,hwv⟩: ∃q,q=wr:=⟨_,rfl⟩
    subst hwv
    have gq:=Xg3.out.below bb
    obtain⟨a0,a1,a2,a3,a4,a5,a6⟩:=gq.cells
    by_cases hlt:k<n1
    ·have hlt1:(k:Int)<(n1:Int):=by omega
     obtain⟨bk,off,l,x,vx,hx,rfl,y0,y1,rx⟩:=rule_get Xg3.out.pk.rules (i:=k) (by rw [<-Xk1.out];exact hlt)
     obtain⟨A',mx,c',rfl,-⟩:=id rx
     obtain⟨hm,hmc,hcm,-⟩:=RdI.at_ rx
     unfold maxLen at hcm
     obtain⟨q1,q2,q3⟩:=XhNR.out _ (List.mem_of_getElem? hx)
     have q2:N16 (mx:Int):=by rw [hm];exact q2
     obtain⟨ns,hns⟩: ∃q,q=[T,N,(n1:Int)]++(p.rules.take k).flatMap ruleN:=⟨_,rfl⟩
     have e1:[T,N,(n1:Int)]++(p.rules.take (k+1)).flatMap ruleN=ns++[l,(mx:Int)]++x:=by
      rw [takeT_snoc hx,List.flatMap_append,hns,List.append_assoc,List.append_assoc,hm];simp [ruleN]
     have hl1:(ns++[l,(mx:Int)]++x).length<=40000000:=by
      rw [<-e1,List.length_append]
      have:=take_flat ruleN p.rules (k+1)
      have:=Xhs.out
      show 3+_<=_
      omega
     rw [List.length_append,List.length_append]at hl1
     have hl1:ns.length+2+mx<=40000000:=by rw [hm];exact hl1
     rw [<-hns]at O
     have hn:=O.len
     have hFw: ∀b,F b->b<w3.heap.size:=fun b hb=>by have:=XhF.out b hb;have:=Xz3.out;omega
     have hFa: ∀b,F b->b<wv.heap.size:=fun b hb=>Nat.lt_of_lt_of_le (hFw b hb) bb.size
     have Od:OutB w3.heap.size wv.drew A n c ns:=O
     have bbd:Below w3.heap.size w3 wv.drew:=bb.drew
     have SS:wv.drew.cell? ⟨w.heap.size,0,none⟩=some (.slice (some ⟨bk,off,none⟩) n1 c1)/\wv.drew.cell? ⟨bk,off+k * 2,none⟩=some (.int .i64 l)/\wv.drew.cell? ⟨bk,off+k * 2+1,none⟩=some (.slice A' mx c'):=⟨a0,up_cell bb y0,up_cell bb y1⟩
     clear O bb gq hns hFa
     obtain⟨XSS,XOd,Xbbd,Xrx,Xy0,Xy1,Xe1,Xhx,Xhm,Xq1,Xq2,Xq3,XhFw,Xhl1⟩:=HqZ14 SS Od bbd rx y0 y1 e1 hx hm q1 q2 q3 hFw hl1;have Xhn:=hide hn;clear SS Od bbd rx y0 y1 e1 hx hm q1 q2 q3 hFw hl1 hn
     go_wp2_with fail
     refine region_late2 (fun W=>W.cell? ⟨w.heap.size,0,none⟩=some (.slice (some ⟨bk,off,none⟩) n1 c1)/\W.cell? ⟨bk,off+k * 2,none⟩=some (.int .i64 l)/\W.cell? ⟨bk,off+k * 2+1,none⟩=some (.slice A' mx c')) [0,1,2,3,4,5,6,7,8,9,10,11,12,13] [14,15] 16 (by kernel_rfl) (by kernel_rfl) XSS.out ?_
     simp only [pickO,List.getElem?_cons_succ,List.getElem?_cons_zero,List.drop_succ_cons,List.drop_zero]
     iterate 14
      refine wpHeld_cons ?_ (by rfl) (fun wS hwS=> ?_) ?_
      rotate_left
      ·(try dsimp only at hwS)
       go_simp
       all_goals with_reducible rfl
      simp only [Act.put,List.setIfInBounds_toArray,List.set_cons_zero,List.set_cons_succ]
     refine wpHeld_nil ?_
     generalize wv.drew=wd at *
     obtain⟨we,hwe⟩: ∃q,q=wd.alloc (.cells #[.int .i64 l,.int .i64 (mx:Int)] 3):=⟨_,rfl⟩
     have be:Below wd.heap.size wd we:=by rw [hwe];exact(Below.refl _ wd).alloc (Nat.le_refl _) _
     have rl:RdI we (fun b=>b<we.heap.size) (.slice (some ⟨wd.heap.size,0,none⟩) 2 2) [l,(mx:Int)]:=by
      rw [hwe];exact Rd.of_blk (F:=fun b=>b<(wd.alloc (.cells #[.int .i64 l,.int .i64 (mx:Int)] 3)).heap.size) (us:=[.int .i64 l,.int .i64 (mx:Int)]) (n:=2) (Blk.new _ _ _) (by simp) rfl (by decide)
     have kL:=(ref18_line rl (fun _ h=>h) (by simp) (fun x hx=>by
      simp only [List.mem_cons,List.not_mem_nil,or_false]at hx
      rcases hx with rfl|rfl
      ·exact Xq1.out
      ·exact Xq2.out)).mono fun e w' h=>RetB.own (m:=4) rfl h
     have bbe:=Xbbd.out.trans (be.mono Xbbd.out.size)
     have SS:=XSS.out
     have Se:we.cell? ⟨w.heap.size,0,none⟩=some (.slice (some ⟨bk,off,none⟩) n1 c1)/\we.cell? ⟨bk,off+k * 2,none⟩=some (.int .i64 l)/\we.cell? ⟨bk,off+k * 2+1,none⟩=some (.slice A' mx c'):=⟨up_cell be SS.1,up_cell be SS.2.1,up_cell be SS.2.2⟩
     have Oe:=XOd.out.below be
     have ee:=hwe.symm
     clear hwe rl be SS XSS XOd
     obtain⟨XSe,XOe,Xbbe,XkL⟩:=HqZ4 Se Oe bbe kL;clear Se Oe bbe kL
     refine wpMid_cons ?_
     go_wp2_with fail
     refine⟨XSe.out,wpMid_cons ?_⟩
     go_wp2_with fail
     with_reducible refine XkL.out.mono ?_
     rintro e w6 ⟨b6,A6,c6,rfl,rd6⟩
     have bb6:=Xbbe.out.trans (b6.mono Xbbe.out.size)
     have O6:=XOe.out.below b6
     have S6:w6.cell? ⟨w.heap.size,0,none⟩=some (.slice (some ⟨bk,off,none⟩) n1 c1)/\w6.cell? ⟨bk,off+k * 2,none⟩=some (.int .i64 l)/\w6.cell? ⟨bk,off+k * 2+1,none⟩=some (.slice A' mx c'):=⟨up_cell b6 XSe.out.1,up_cell b6 XSe.out.2.1,up_cell b6 XSe.out.2.2⟩
     clear b6 ee XkL Xbbe XOe XSe
     obtain⟨Xbb6,XO6,Xrd6,XS6⟩:=HqZ4 bb6 O6 rd6 S6;clear bb6 O6 rd6 S6
     go_wp2_with fail
     refine⟨XS6.out,wpMid_nil ?_⟩
     clear XS6
     have hnb:n+4+2 * mx<=100000000:=by have:=Xhn.out;have:=Xhl1.out;omega
     have hm4:4=(encB [l,(mx:Int)]).length:=rfl
     have Xhm4:=hide hm4;clear hm4
     have rdq:=Xrd6.out
     obtain⟨us,hus⟩: ∃q,q=(headB++encB ns).map I8:=⟨_,rfl⟩
     obtain⟨nw,hnw⟩: ∃q,q=(encB [l,(mx:Int)]).map I8:=⟨_,rfl⟩
     have ownq:=XO6.out
     unfold OutB at ownq
     rw [<-hus]at ownq
     have onq: ∀u∈nw,u.oneCell'=true:=by rw [hnw];exact i8_one _
     have hmq:nw.length=4 * 1:=by rw [hnw,List.length_map,Nat.mul_one];exact(Xhm4.out).symm
     unfold RdY at rdq
     rw [<-hnw]at rdq
     have hzq:w3.heap.size<=w6.heap.size:=Xbb6.out.size
     obtain⟨Xrdq,Xownq,Xonq,Xhmq,Xhzq,Xhus,Xhnw⟩:=HqZ7 rdq ownq onq hmq hzq hus hnw;clear rdq ownq onq hmq hzq hus hnw
     go_wp2_with (at_builtin;refine wp_append _ rfl (.tmp 31) (.tmp 46) _ rfl Tryz.elemU8 w3.heap.size (.slice A n c) n _ rfl Xownq.out _ _ nw (4) rfl Xhmq.out Xrdq.out Xonq.out (by unfold maxLen;omega) (by omega) Xhzq.out ?_)
     intro Aq cq wq own4 g4 ho4
     rw [Xhus.out,Xhnw.out]at own4
     obtain⟨O4,B4⟩:=OutB.step XO6.out own4 g4 Xbb6.out (Nat.le_refl _)
     clear own4 g4 ho4 Xrdq Xownq Xonq Xhmq Xhzq Xhus Xhnw
     clear Xhm4
     go_wp2_with fail
     refine NoPanic.normal ?_
     obtain⟨b0,-,-,-,-,-,-⟩:=(Xg3.out.below B4).cells
     have z0:=up_cell B4 Xy0.out
     have z1:=up_cell B4 Xy1.out
     have kM:=(ref18_line (Rd.below Xrx.out B4 XhFw.out) (fun b hb=>Nat.lt_of_lt_of_le (XhFw.out b hb) B4.size) (by have:=Xhm.out;omega) Xq3.out).mono fun e w' h=>RetB.own (m:=(encB x).length) rfl h
     have O4:OutB w3.heap.size wq Aq (n+4) cq (ns++[l,(mx:Int)]):=O4
     obtain⟨m,hm2⟩: ∃q,q=(encB x).length:=⟨_,rfl⟩
     rw [<-hm2]at kM
     have hnb2:n+4+m<=100000000:=by
      have e:m=2 * mx:=by rw [hm2,encB_len];have:=Xhm.out;omega
      omega
     clear Xbb6 XO6 Xrd6 a0 a1 a2 a3 a4 a5 a6 Xbbd
     obtain⟨XO4,XB4,XkM,Xhm2⟩:=HqZ4 O4 B4 kM hm2;clear O4 B4 kM hm2
     go_wp2_with fail
     refine XkM.out.mono ?_
     rintro e w7 ⟨b7,A7',c7',rfl,rd7⟩
     have bb7:=XB4.out.trans (b7.mono XB4.out.size)
     have O7:=XO4.out.below b7
     clear b7 XkM XO4 XB4 b0 z0 z1
     obtain⟨Xbb7,XO7,Xrd7⟩:=HqZ3 bb7 O7 rd7;clear bb7 O7 rd7
     have rdq:=Xrd7.out
     obtain⟨us,hus⟩: ∃q,q=(headB++encB (ns++[l,(mx:Int)])).map I8:=⟨_,rfl⟩
     obtain⟨nw,hnw⟩: ∃q,q=(encB x).map I8:=⟨_,rfl⟩
     have ownq:=XO7.out
     unfold OutB at ownq
     rw [<-hus]at ownq
     have onq: ∀u∈nw,u.oneCell'=true:=by rw [hnw];exact i8_one _
     have hmq:nw.length=m * 1:=by rw [hnw,List.length_map,Nat.mul_one];exact(Xhm2.out).symm
     unfold RdY at rdq
     rw [<-hnw]at rdq
     have hzq:w3.heap.size<=w7.heap.size:=Xbb7.out.size
     obtain⟨Xrdq,Xownq,Xonq,Xhmq,Xhzq,Xhus,Xhnw⟩:=HqZ7 rdq ownq onq hmq hzq hus hnw;clear rdq ownq onq hmq hzq hus hnw
     go_wp2_with (at_builtin;refine wp_append _ rfl (.tmp 48) (.tmp 55) _ rfl Tryz.elemU8 w3.heap.size (.slice Aq (n+4) cq) (n+4) _ rfl Xownq.out _ _ nw (m) rfl Xhmq.out Xrdq.out Xonq.out (by unfold maxLen;omega) (by omega) Xhzq.out ?_)
     intro Aqb cqb wqb own4 g4 ho4
     rw [Xhus.out,Xhnw.out]at own4
     obtain⟨O4,B4⟩:=OutB.step XO7.out own4 g4 Xbb7.out (Nat.le_refl _)
     clear own4 g4 ho4 Xrdq Xownq Xonq Xhmq Xhzq Xhus Xhnw
     rw [<-Xe1.out]at O4
     clear XO7 Xbb7 Xrd7
     obtain⟨XO4,XB4⟩:=HqZ2 O4 B4;clear O4 B4
     go_wp2_with fail
     go_roundw
     case rel=>exact⟨k+1,n+4+m,_,_,by omega,rfl,by go_num,XO4.out,XB4.out⟩
     case measure=>simp [intOf];omega
    ·have hlt1: ¬(k:Int)<(n1:Int):=by omega
     have e0:p.rules.take k=p.rules:=List.take_of_length_le (by have:=Xk1.out;omega)
     rw [e0]at O
     obtain⟨fl,hfl⟩: ∃q,q=p.rules.flatMap ruleN:=⟨_,rfl⟩
     have hs:=Xhs.out
     rw [<-hfl]at O hs
     have hN3:=XhN3.out
     have hrw:(rowsN p.rows).length=1+p.rows.flatten.length/\(rowsN p.gows).length=1+p.gows.flatten.length:=⟨by unfold rowsN;rw [List.length_cons];omega,by unfold rowsN;rw [List.length_cons];omega⟩
     have hFw: ∀b,F b->b<w3.heap.size:=fun b hb=>by have:=XhF.out b hb;have:=Xz3.out;omega
     obtain⟨NS,hNS⟩: ∃q,q=[T,N,(n1:Int)]++fl:=⟨_,rfl⟩
     rw [<-hNS]at O
     have hn:=O.len
     have hNl:NS.length=3+fl.length:=by rw [hNS,List.length_append];rfl
     have Od:OutB w3.heap.size wv.drew A n c NS:=O
     have bbd:Below w3.heap.size w3 wv.drew:=bb.drew
     have SS:wv.drew.cell? ⟨w.heap.size,3,none⟩=some (.slice A2 n2 c2):=a3
     have cw:=fun(W:World) (bW:Below w3.heap.size w3 W)=>(Xg3.out.below bW).cells
     have cT:=fun W=>(ref18_two W XhNr.out.1).mono fun e w' h=>RetB.two h
     have cR:=fun(W:World) (bW:Below w3.heap.size w3 W)=>(ref18_line (Rd.below Xg3.out.pk.row bW hFw) (fun b hb=>Nat.lt_of_lt_of_le (hFw b hb) bW.size) (by omega) XhNr.out.2.1).mono fun e w' h=>RetB.own (m:=(encB p.row).length) rfl h
     have cG:=fun(W:World) (bW:Below w3.heap.size w3 W)=>(ref18_line (Rd.below Xg3.out.pk.gow bW hFw) (fun b hb=>Nat.lt_of_lt_of_le (hFw b hb) bW.size) (by omega) XhNr.out.2.2).mono fun e w' h=>RetB.own (m:=(encB p.gow).length) rfl h
     have cA:=fun(W:World) (bW:Below w3.heap.size w3 W)=>(ref18_rows (RdUs.below Xg3.out.pk.rows bW hFw) Xg3.out.pk.u1 (fun b hb=>Nat.lt_of_lt_of_le (hFw b hb) bW.size) (by omega) (by have:=hN3.1.2;have:=Xk3.out;omega)).mono fun e w' h=>RetB.ownq (m:=(encB (rowsN p.rows)).length) rfl h
     have cB:=fun(W:World) (bW:Below w3.heap.size w3 W)=>(ref18_rows (RdUs.below Xg3.out.pk.gows bW hFw) Xg3.out.pk.u2 (fun b hb=>Nat.lt_of_lt_of_le (hFw b hb) bW.size) (by omega) (by have:=hN3.2.2;have:=Xk5.out;omega)).mono fun e w' h=>RetB.ownq (m:=(encB (rowsN p.gows)).length) rfl h
     obtain⟨m1,hm1⟩: ∃q,q=(encB p.row).length:=⟨_,rfl⟩
     obtain⟨m2,hm2⟩: ∃q,q=(encB (rowsN p.rows)).length:=⟨_,rfl⟩
     obtain⟨m3,hm3⟩: ∃q,q=(encB p.gow).length:=⟨_,rfl⟩
     obtain⟨m4,hm4⟩: ∃q,q=(encB (rowsN p.gows)).length:=⟨_,rfl⟩
     rw [<-hm1]at cR
     rw [<-hm2]at cA
     rw [<-hm3]at cG
     rw [<-hm4]at cB
     have hl1:n+2+m1+m2+m3+m4<=100000000:=by
      rw [encB_len]at hm1 hm2 hm3 hm4
      omega
     clear O bb gq e0 hs hn hNl hrw hN3
     obtain⟨XSS,XOd,Xbbd,XhNS,Xhfl,Xhm1,Xhm2,Xhm3,Xhm4,XhFw,Xcw,XcT,XcR,XcG⟩:=HqZ14 SS Od bbd hNS hfl hm1 hm2 hm3 hm4 hFw cw cT cR cG;obtain⟨XcA,XcB,Xhl1⟩:=HqZ3 cA cB hl1;clear SS Od bbd hNS hfl hm1 hm2 hm3 hm4 hFw cw cT cR cG cA cB hl1
     go_wp2_with fail
     refine region_late2 (fun W=>W.cell? ⟨w.heap.size,3,none⟩=some (.slice A2 n2 c2)) [0,1,2,3,6,7] [4,5,8] 9 (by kernel_rfl) (by kernel_rfl) XSS.out ?_
     simp only [pickO,List.getElem?_cons_succ,List.getElem?_cons_zero,List.drop_succ_cons,List.drop_zero]
     iterate 6
      refine wpHeld_cons ?_ (by rfl) (fun wS hwS=> ?_) ?_
      rotate_left
      ·(try dsimp only at hwS)
       go_simp
       all_goals with_reducible rfl
      simp only [Act.put,List.setIfInBounds_toArray,List.set_cons_zero,List.set_cons_succ]
     refine wpHeld_nil ?_
     generalize wv.drew=wd at *
     refine wpMid_cons ?_
     go_wp2_with fail
     with_reducible refine(XcT.out wd).mono ?_
     rintro e w6 ⟨b6,A6,c6,rfl,rd6⟩
     have bb6:=Xbbd.out.trans (b6.mono Xbbd.out.size)
     have O6:=XOd.out.below b6
     have S6:=(Xcw.out w6 bb6).2.2.2.1
     clear b6 XOd XSS Xbbd a0 a1 a2 a3 a4 a5 a6
     obtain⟨Xbb6,XO6,Xrd6,XS6⟩:=HqZ4 bb6 O6 rd6 S6;clear bb6 O6 rd6 S6
     go_wp2_with fail
     refine⟨XS6.out,wpMid_cons ?_⟩
     clear XS6
     have hl1:=Xhl1.out
     have hmm:2=(encB [(n2:Int)]).length:=rfl
     have Xhmm:=hide hmm;clear hmm
     have rdq:=Xrd6.out
     obtain⟨us,hus⟩: ∃q,q=(headB++encB NS).map I8:=⟨_,rfl⟩
     obtain⟨nw,hnw⟩: ∃q,q=(encB [(n2:Int)]).map I8:=⟨_,rfl⟩
     have ownq:=XO6.out
     unfold OutB at ownq
     rw [<-hus]at ownq
     have onq: ∀u∈nw,u.oneCell'=true:=by rw [hnw];exact i8_one _
     have hmq:nw.length=2 * 1:=by rw [hnw,List.length_map,Nat.mul_one];exact(Xhmm.out).symm
     unfold RdY at rdq
     rw [<-hnw]at rdq
     have hzq:w3.heap.size<=w6.heap.size:=Xbb6.out.size
     obtain⟨Xrdq,Xownq,Xonq,Xhmq,Xhzq,Xhus,Xhnw⟩:=HqZ7 rdq ownq onq hmq hzq hus hnw;clear rdq ownq onq hmq hzq hus hnw
     go_wp2_with (at_builtin;refine wp_append _ rfl (.tmp 57) (.tmp 61) _ rfl Tryz.elemU8 w3.heap.size (.slice A n c) n _ rfl Xownq.out _ _ nw (2) rfl Xhmq.out Xrdq.out Xonq.out (by unfold maxLen;omega) (by omega) Xhzq.out ?_)
     intro Aq cq wq own4 g4 ho4
     rw [Xhus.out,Xhnw.out]at own4
     obtain⟨O4,B4⟩:=OutB.step XO6.out own4 g4 Xbb6.out (Nat.le_refl _)
     clear own4 g4 ho4 Xrdq Xownq Xonq Xhmq Xhzq Xhus Xhnw
     have S4:=(Xcw.out wq B4).2.2.2.1
     clear Xhmm XO6 Xrd6 Xbb6
     obtain⟨XO4,XB4,XS4⟩:=HqZ3 O4 B4 S4;clear O4 B4 S4
     refine⟨XS4.out,wpMid_cons ?_⟩
     clear XS4
     go_wp2_with fail
     with_reducible refine(XcR.out wq XB4.out).mono ?_
     rintro e w7 ⟨b7,A7,c7,rfl,rd7⟩
     have bb7:=XB4.out.trans (b7.mono XB4.out.size)
     have O7:=XO4.out.below b7
     have S7:=(Xcw.out w7 bb7).2.2.2.1
     clear b7 XO4 XB4
     obtain⟨Xbb7,XO7,Xrd7,XS7⟩:=HqZ4 bb7 O7 rd7 S7;clear bb7 O7 rd7 S7
     go_wp2_with fail
     refine⟨XS7.out,wpMid_nil ?_⟩
     clear XS7
     have rdq:=Xrd7.out
     obtain⟨us,hus⟩: ∃q,q=(headB++encB (NS++[(n2:Int)])).map I8:=⟨_,rfl⟩
     obtain⟨nw,hnw⟩: ∃q,q=(encB p.row).map I8:=⟨_,rfl⟩
     have ownq:=XO7.out
     unfold OutB at ownq
     rw [<-hus]at ownq
     have onq: ∀u∈nw,u.oneCell'=true:=by rw [hnw];exact i8_one _
     have hmq:nw.length=m1 * 1:=by rw [hnw,List.length_map,Nat.mul_one];exact(Xhm1.out).symm
     unfold RdY at rdq
     rw [<-hnw]at rdq
     have hzq:w3.heap.size<=w7.heap.size:=Xbb7.out.size
     obtain⟨Xrdq,Xownq,Xonq,Xhmq,Xhzq,Xhus,Xhnw⟩:=HqZ7 rdq ownq onq hmq hzq hus hnw;clear rdq ownq onq hmq hzq hus hnw
     go_wp2_with (at_builtin;refine wp_append _ rfl (.tmp 62) (.tmp 65) _ rfl Tryz.elemU8 w3.heap.size (.slice Aq (n+2) cq) (n+2) _ rfl Xownq.out _ _ nw (m1) rfl Xhmq.out Xrdq.out Xonq.out (by unfold maxLen;omega) (by omega) Xhzq.out ?_)
     intro Aqb cqb wqb own4 g4 ho4
     rw [Xhus.out,Xhnw.out]at own4
     obtain⟨O4,B4⟩:=OutB.step XO7.out own4 g4 Xbb7.out (Nat.le_refl _)
     clear own4 g4 ho4 Xrdq Xownq Xonq Xhmq Xhzq Xhus Xhnw
     have S4:=(Xcw.out wqb.drew B4.drew)
     have T4:wqb.drew.cell? ⟨w.heap.size,4,none⟩=some (.slice A3 n3 c3)/\wqb.drew.cell? ⟨w.heap.size,5,none⟩=some (.slice A4 n4 c4):=⟨S4.2.2.2.2.1,S4.2.2.2.2.2.1⟩
     have O4:OutB w3.heap.size wqb.drew Aqb (n+2+m1) cqb (NS++[(n2:Int)]++p.row):=O4
     have B4:Below w3.heap.size w3 wqb.drew:=B4.drew
     clear XO7 Xbb7 Xrd7 S4
     obtain⟨XO4,XB4,XT4⟩:=HqZ3 O4 B4 T4;clear O4 B4 T4
     go_wp2_with fail
     refine NoPanic.normal ?_
     go_wp2_with fail
     refine region_late2 (fun W=>W.cell? ⟨w.heap.size,4,none⟩=some (.slice A3 n3 c3)/\W.cell? ⟨w.heap.size,5,none⟩=some (.slice A4 n4 c4)) [0,1,2,5,6] [3,4,7] 8 (by kernel_rfl) (by kernel_rfl) XT4.out ?_
     simp only [pickO,List.getElem?_cons_succ,List.getElem?_cons_zero,List.drop_succ_cons,List.drop_zero]
     iterate 5
      refine wpHeld_cons ?_ (by rfl) (fun wS hwS=> ?_) ?_
      rotate_left
      ·(try dsimp only at hwS)
       go_simp
       all_goals with_reducible rfl
      simp only [Act.put,List.setIfInBounds_toArray,List.set_cons_zero,List.set_cons_succ]
     refine wpHeld_nil ?_
     generalize wqb.drew=wd at *
     refine wpMid_cons ?_
     go_wp2_with fail
     with_reducible refine(XcA.out wd XB4.out).mono ?_
     rintro e w6 ⟨b6,A6,c6,rfl,rd6⟩
     have bb6:=XB4.out.trans (b6.mono XB4.out.size)
     have O6:=XO4.out.below b6
     have S6:=Xcw.out w6 bb6
     have S6:=And.intro S6.2.2.2.2.1 S6.2.2.2.2.2.1
     clear b6 XO4 XT4 XB4
     obtain⟨Xbb6,XO6,Xrd6,XS6⟩:=HqZ4 bb6 O6 rd6 S6;clear bb6 O6 rd6 S6
     go_wp2_with fail
     refine⟨XS6.out,wpMid_cons ?_⟩
     clear XS6
     have rdq:=Xrd6.out
     obtain⟨us,hus⟩: ∃q,q=(headB++encB (NS++[(n2:Int)]++p.row)).map I8:=⟨_,rfl⟩
     obtain⟨nw,hnw⟩: ∃q,q=(encB (rowsN p.rows)).map I8:=⟨_,rfl⟩
     have ownq:=XO6.out
     unfold OutB at ownq
     rw [<-hus]at ownq
     have onq: ∀u∈nw,u.oneCell'=true:=by rw [hnw];exact i8_one _
     have hmq:nw.length=m2 * 1:=by rw [hnw,List.length_map,Nat.mul_one];exact(Xhm2.out).symm
     unfold RdY at rdq
     rw [<-hnw]at rdq
     have hzq:w3.heap.size<=w6.heap.size:=Xbb6.out.size
     obtain⟨Xrdq,Xownq,Xonq,Xhmq,Xhzq,Xhus,Xhnw⟩:=HqZ7 rdq ownq onq hmq hzq hus hnw;clear rdq ownq onq hmq hzq hus hnw
     go_wp2_with (at_builtin;refine wp_append _ rfl (.tmp 67) (.tmp 70) _ rfl Tryz.elemU8 w3.heap.size (.slice Aqb (n+2+m1) cqb) (n+2+m1) _ rfl Xownq.out _ _ nw (m2) rfl Xhmq.out Xrdq.out Xonq.out (by unfold maxLen;omega) (by omega) Xhzq.out ?_)
     intro Aqc cqc wqc own4 g4 ho4
     rw [Xhus.out,Xhnw.out]at own4
     obtain⟨O4,B4⟩:=OutB.step XO6.out own4 g4 Xbb6.out (Nat.le_refl _)
     clear own4 g4 ho4 Xrdq Xownq Xonq Xhmq Xhzq Xhus Xhnw
     have S4:=Xcw.out wqc B4
     have S4:=And.intro S4.2.2.2.2.1 S4.2.2.2.2.2.1
     clear XO6 Xrd6 Xbb6
     obtain⟨XO4,XB4,XS4⟩:=HqZ3 O4 B4 S4;clear O4 B4 S4
     refine⟨XS4.out,wpMid_cons ?_⟩
     clear XS4
     go_wp2_with fail
     with_reducible refine(XcG.out wqc XB4.out).mono ?_
     rintro e w7 ⟨b7,A7,c7,rfl,rd7⟩
     have bb7:=XB4.out.trans (b7.mono XB4.out.size)
     have O7:=XO4.out.below b7
     have S7:=Xcw.out w7 bb7
     have S7:=And.intro S7.2.2.2.2.1 S7.2.2.2.2.2.1
     clear b7 XO4 XB4
     obtain⟨Xbb7,XO7,Xrd7,XS7⟩:=HqZ4 bb7 O7 rd7 S7;clear bb7 O7 rd7 S7
     go_wp2_with fail
     refine⟨XS7.out,wpMid_nil ?_⟩
     clear XS7
     have rdq:=Xrd7.out
     obtain⟨us,hus⟩: ∃q,q=(headB++encB (NS++[(n2:Int)]++p.row++rowsN p.rows)).map I8:=⟨_,rfl⟩
     obtain⟨nw,hnw⟩: ∃q,q=(encB p.gow).map I8:=⟨_,rfl⟩
     have ownq:=XO7.out
     unfold OutB at ownq
     rw [<-hus]at ownq
     have onq: ∀u∈nw,u.oneCell'=true:=by rw [hnw];exact i8_one _
     have hmq:nw.length=m3 * 1:=by rw [hnw,List.length_map,Nat.mul_one];exact(Xhm3.out).symm
     unfold RdY at rdq
     rw [<-hnw]at rdq
     have hzq:w3.heap.size<=w7.heap.size:=Xbb7.out.size
     obtain⟨Xrdq,Xownq,Xonq,Xhmq,Xhzq,Xhus,Xhnw⟩:=HqZ7 rdq ownq onq hmq hzq hus hnw;clear rdq ownq onq hmq hzq hus hnw
     go_wp2_with (at_builtin;refine wp_append _ rfl (.tmp 71) (.tmp 74) _ rfl Tryz.elemU8 w3.heap.size (.slice Aqc (n+2+m1+m2) cqc) (n+2+m1+m2) _ rfl Xownq.out _ _ nw (m3) rfl Xhmq.out Xrdq.out Xonq.out (by unfold maxLen;omega) (by omega) Xhzq.out ?_)
     intro Aqd cqd wqd own4 g4 ho4
     rw [Xhus.out,Xhnw.out]at own4
     obtain⟨O4,B4⟩:=OutB.step XO7.out own4 g4 Xbb7.out (Nat.le_refl _)
     clear own4 g4 ho4 Xrdq Xownq Xonq Xhmq Xhzq Xhus Xhnw
     have cZ:=XcB.out wqd B4
     obtain⟨b0,b1,b2,b3,b4,b5,b6⟩:=Xcw.out wqd B4
     clear XO7 Xbb7 Xrd7
     obtain⟨XO4,XB4,XcZ⟩:=HqZ3 O4 B4 cZ;clear O4 B4 cZ
     go_wp2_with fail
     refine NoPanic.normal ?_
     go_wp2_with fail
     refine XcZ.out.mono ?_
     rintro e w8 ⟨b8,A8,c8,rfl,rd8⟩
     have bb8:=XB4.out.trans (b8.mono XB4.out.size)
     have O8:=XO4.out.below b8
     clear b8 XO4 XB4 XcZ b0 b1 b2 b3 b4 b5 b6
     obtain⟨Xbb8,XO8,Xrd8⟩:=HqZ3 bb8 O8 rd8;clear bb8 O8 rd8
     have rdq:=Xrd8.out
     obtain⟨us,hus⟩: ∃q,q=(headB++encB (NS++[(n2:Int)]++p.row++rowsN p.rows++p.gow)).map I8:=⟨_,rfl⟩
     obtain⟨nw,hnw⟩: ∃q,q=(encB (rowsN p.gows)).map I8:=⟨_,rfl⟩
     have ownq:=XO8.out
     unfold OutB at ownq
     rw [<-hus]at ownq
     have onq: ∀u∈nw,u.oneCell'=true:=by rw [hnw];exact i8_one _
     have hmq:nw.length=m4 * 1:=by rw [hnw,List.length_map,Nat.mul_one];exact(Xhm4.out).symm
     unfold RdY at rdq
     rw [<-hnw]at rdq
     have hzq:w3.heap.size<=w8.heap.size:=Xbb8.out.size
     obtain⟨Xrdq,Xownq,Xonq,Xhmq,Xhzq,Xhus,Xhnw⟩:=HqZ7 rdq ownq onq hmq hzq hus hnw;clear rdq ownq onq hmq hzq hus hnw
     go_wp2_with (at_builtin;refine wp_append _ rfl (.tmp 76) (.tmp 79) _ rfl Tryz.elemU8 w3.heap.size (.slice Aqd (n+2+m1+m2+m3) cqd) (n+2+m1+m2+m3) _ rfl Xownq.out _ _ nw (m4) rfl Xhmq.out Xrdq.out Xonq.out (by unfold maxLen;omega) (by omega) Xhzq.out ?_)
     intro Aqe cqe wqe own4 g4 ho4
     rw [Xhus.out,Xhnw.out]at own4
     obtain⟨O4,B4⟩:=OutB.step XO8.out own4 g4 Xbb8.out (Nat.le_refl _)
     clear own4 g4 ho4 Xrdq Xownq Xonq Xhmq Xhzq Xhus Xhnw
     clear XO8 Xbb8 Xrd8
     have hnp:numsP p=NS++[(n2:Int)]++p.row++rowsN p.rows++p.gow++rowsN p.gows:=by
      rw [XhNS.out,Xhfl.out,XgT.out,XgN.out,Xk1.out,Xk2.out];unfold numsP;simp
     rw [<-hnp]at O4
     have hfin:Below w.heap.size w wqe:=Xbb2.out.trans (B4.mono (by have:=Xz3.out;omega))
     have hrd:RdY wqe (fun b=>w.heap.size<=b/\b<wqe.heap.size) (.slice Aqe (n+2+m1+m2+m3+m4) cqe) (headB++encB (numsP p)):=(Rd.of_own O4).mono fun k e=>by have:=World.ownsRow.lt O4 k e;have:=Xz3.out;omega
     have hlen:=O4.len
     have hlb:(bytesP p).length=n+2+m1+m2+m3+m4:=by
      rw [Xhob.out,List.length_append,encB_len,hlen];rfl
     clear hnp O4 B4 hlen
     obtain⟨Xhfin,Xhrd,Xhlb⟩:=HqZ3 hfin hrd hlb;clear hfin hrd hlb
     go_wp2_with fail
     go_ret
     unfold BytesP
     rw [Xhlb.out]
     refine⟨Xhfin.out,Aqe,cqe,rfl,?_⟩
     rw [Xhob.out]
     exact Xhrd.out
end Go.Proofs.YtlpipniclimgeaaGreat

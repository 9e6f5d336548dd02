/- The reference's packing: the walk. -/
import Derived.Test.YtlpipniclimgeaaGreatETabs16
import Derived.Test.YtlpipniclimgeaaGreatERp2
import Derived.Test.YtlpipniclimgeaaGreatEPack8
namespace Go.Proofs.YtlpipniclimgeaaGreat
set_option linter.unusedVariables false
set_option linter.unusedSimpArgs false
open Go.RowKit
attribute [local irreducible] wpStill wpOne wpPh
theorem packR_len (rs:List (List Int)) (k:Nat):(packU (rs.take k)).1.length<=k:=by
 have:=(packU_ok (rs.take k)).le
 rw [List.length_take]at this
 omega
theorem packI_len {rs:List (List Int)} {k:Nat} (hk:k<=rs.length):(packU (rs.take k)).2.length=k:=by
 have:=(packU_ok (rs.take k)).len
 rw [List.length_take]at this
 omega
theorem packU_take {rs:List (List Int)} {k:Nat} {x:List Int} (h:rs[k]? =some x):packU (rs.take (k+1))=(putR (packU (rs.take k)).1 x,(packU (rs.take k)).2++[((plR (packU (rs.take k)).1 x:Nat):Int)]):=by
 rw [take_next h,packU_snoc];rfl
set_option maxRecDepth 100000 in
set_option maxHeartbeats 8000000 in
theorem ref17_Pack {w:World} {F:Nat->Prop} {vr va vg:Value} {t:TabD} (h:IsTab w F vr va vg t) (hl:LenT t):
  Calls Tryz.prog 49 #[TV vr t.terms t.nons va vg] w (PackPost w F t):=by
 obtain⟨A1,c1,A2,c2,A3,c3,rfl,rfl,rfl,l1,l2,l3,m1,m2,m3⟩:=h.slices
 have hF:=h.lt
 obtain⟨w1,hw1⟩: ∃w1,w1=w.alloc (.cells #[.slice A1 t.rules.length c1,.int .i64 t.terms,.int .i64 t.nons,.slice A2 t.acts.length c2,.slice A3 t.goto.length c3] 44):=⟨_,rfl⟩
 have g1:=TBox.new h t.terms t.nons
 have b1:Below w.heap.size w w1:=by rw [hw1];exact(Below.refl _ w).alloc (Nat.le_refl _) _
 rw [<-hw1]at g1
 have hz1:w1.heap.size=w.heap.size+1:=by rw [hw1];simp
 obtain⟨wr,hwr⟩: ∃q,q=w1.alloc (.cells #[.slice none 0 0,.int .i64 0,.int .i64 0,.slice none 0 0,.slice none 0 0,.slice none 0 0,.slice none 0 0] 26):=⟨_,rfl⟩
 have br:Below w1.heap.size w1 wr:=by rw [hwr];exact(Below.refl _ _).alloc (Nat.le_refl _) _
 have kr:Blk wr w1.heap.size 26 #[.slice none 0 0,.int .i64 0,.int .i64 0,.slice none 0 0,.slice none 0 0,.slice none 0 0,.slice none 0 0]:=by rw [hwr];exact Blk.new _ _ _
 have gr:=g1.below br
 have b0r:=b1.trans (br.mono b1.size)
 rw [hz1]at kr
 have cR:=ref15_Right gr.tab
 obtain⟨q0,q1,q2,q3,q4⟩:=gr.cells
 have tw:=h.wr
 have ttn:=h.tn
 have hzr:wr.heap.size=w.heap.size+2:=by rw [hwr,World.size_alloc,hz1]
 rw [hw1]at hwr
 have hfit:fitT t=(rightT t&&(decide (t.acts.length<=16383)&&decide (t.rules.length<=16383))):=rfl
 generalize hT:t.terms=T at *
 generalize hN:t.nons=N at *
 generalize hn:t.acts.length=n at *
 generalize hR:t.rules.length=R at *
 generalize hm:t.goto.length=m at *
 generalize rightT t=rt at *
 clear h hw1 g1 b1 br hz1
 rw [hwr]at q0 q1 q2 q3 q4 cR
 obtain⟨Xhl,XhF,Xgr,Xb0r,Xkr,XcR,Xtw,Xttn,Xhzr,XhT,XhN,Xhn,XhR,Xhm⟩:=HqZ14 hl hF gr b0r kr cR tw ttn hzr hT hN hn hR hm;have Xhfit:=hide hfit;clear hl hF gr b0r kr cR tw ttn hzr hT hN hn hR hm hfit
 go_enter Tryz.func49,Tryz.ntmps49
 go_wp2_with fail
 with_reducible refine XcR.out.mono ?_
 rintro e w2 ⟨rfl,b2⟩
 rw [<-hwr]at b2
 have g2:=Xgr.out.below b2
 have k2:=Xkr.out.below b2 Xkr.out.lt
 have b02:=Xb0r.out.trans (b2.mono Xb0r.out.size)
 have hz2:w.heap.size+2<=w2.heap.size:=by have:=b2.size;have:=Xhzr.out;omega
 clear q0 q1 q2 q3 q4 XcR Xgr Xkr Xb0r hwr
 obtain⟨q0,q1,q2,q3,q4⟩:=g2.cells
 obtain⟨d0,d1,d2,d3,d4,d5,d6⟩:w2.cell? ⟨w.heap.size+1,0,none⟩=some (.slice none 0 0)/\w2.cell? ⟨w.heap.size+1,1,none⟩=some (.int .i64 0)/\w2.cell? ⟨w.heap.size+1,2,none⟩=some (.int .i64 0)/\w2.cell? ⟨w.heap.size+1,3,none⟩=some (.slice none 0 0)/\w2.cell? ⟨w.heap.size+1,4,none⟩=some (.slice none 0 0)/\w2.cell? ⟨w.heap.size+1,5,none⟩=some (.slice none 0 0)/\w2.cell? ⟨w.heap.size+1,6,none⟩=some (.slice none 0 0):=⟨(k2.cell 0).trans rfl,(k2.cell 1).trans rfl,(k2.cell 2).trans rfl,(k2.cell 3).trans rfl,(k2.cell 4).trans rfl,(k2.cell 5).trans rfl,(k2.cell 6).trans rfl⟩
 have z0:=k2.frozen 0
 have z1:=k2.frozen 1
 have z2:=k2.frozen 2
 have z3:=k2.frozen 3
 have z4:=k2.frozen 4
 have z5:=k2.frozen 5
 have z6:=k2.frozen 6
 have hz2':=hz2
 cases hrt:rt with
 |false=>
  subst hrt
  obtain⟨Xg2,Xk2,Xb02,Xb2,Xhz2⟩:=HqZ5 g2 k2 b02 b2 hz2;clear g2 k2 b02 b2 hz2
  go_wp2_with fail
  have hff:=Xhfit.out
  rw [Bool.false_and]at hff
  have hno:fitT t=false:=hff
  have hpo:packO t=noPack:=by unfold packO;rw [if_neg (by rw [hno];exact Bool.false_ne_true)]
  have k5:=((((((Xk2.out.put 0 (.slice none 0 0)).put 1 (.int .i64 0)).put 2 (.int .i64 0)).put 3 (.slice none 0 0)).put 4 (.slice none 0 0)).put 5 (.slice none 0 0)).put 6 (.slice none 0 0)
  have e0:=(k5.cell 0).trans rfl
  have e1:=(k5.cell 1).trans rfl
  have e2:=(k5.cell 2).trans rfl
  have e3:=(k5.cell 3).trans rfl
  have e4:=(k5.cell 4).trans rfl
  have e5:=(k5.cell 5).trans rfl
  have e6:=(k5.cell 6).trans rfl
  refine bodyPost_ret (v:= .tuple #[PV (.slice none 0 0) 0 0 (.slice none 0 0) (.slice none 0 0) (.slice none 0 0) (.slice none 0 0),.bool false]) (by simp [results,Tryz.results49,go_sem,e0,e1,e2,e3,e4,e5,e6]) rfl ?_
  have t5:=touch_seven w2 (w.heap.size+1) (.slice none 0 0) (.int .i64 0) (.int .i64 0) (.slice none 0 0) (.slice none 0 0) (.slice none 0 0) (.slice none 0 0)
  have b5:=t5.toBelow (fun k e=>by omega) Xb02.out Xb02.out.size
  refine⟨b5,_,_,_,_,_,by rw [hpo,hno];rfl,?_⟩
  rw [hpo]
  exact IsPack.none _ _ (fun b hb=>hb.2)
 |true=>
  subst hrt
  by_cases hn1:n<=16383
  ·have hn1': ¬(16383:Int)<(n:Int):=by omega
   by_cases hR1:R<=16383
   ·have hR1': ¬(16383:Int)<(R:Int):=by omega
    have hf:fitT t=true:=by rw [Xhfit.out,decide_eq_true hn1,decide_eq_true hR1];rfl
    have hnm:n=m:=by
     have h1:=(fit_parts hf).1
     unfold rightT headT at h1
     simp only [Bool.and_eq_true,decide_eq_true_eq]at h1
     rw [Xhn.out,Xhm.out]at h1
     exact h1.1.2.2.1
    subst hnm
    obtain⟨w3,hw3⟩: ∃q,w2.alloc (.cells #[.slice A1 R c1,.int .i64 T,.int .i64 N,.slice none 0 0,.slice none 0 0,.slice none 0 0,.slice none 0 0] 26)=q:=⟨_,rfl⟩
    have b3:Below w2.heap.size w2 w3:=by rw [<-hw3];exact(Below.refl _ _).alloc (Nat.le_refl _) _
    obtain⟨P,hP⟩: ∃q,w2.heap.size=q:=⟨_,rfl⟩
    have k3:Blk w3 P 26 #[.slice A1 R c1,.int .i64 T,.int .i64 N,.slice none 0 0,.slice none 0 0,.slice none 0 0,.slice none 0 0]:=by rw [<-hw3,<-hP];exact Blk.new _ _ _
    have s3:P7 w3 P (.slice A1 R c1) T N (.slice none 0 0) (.slice none 0 0) (.slice none 0 0) (.slice none 0 0) (packU ((numsA t).take 0)).1 (packU ((numsA t).take 0)).2 (packU ((numsG t).take 0)).1 (packU ((numsG t).take 0)).2:=
     ⟨k3,World.ownsRow_nil _ _ _ _,World.ownsRow_nil _ _ _ _,fun k e=>(by cases e),rdrw_nil _ _ _,rdrw_nil _ _ _⟩
    have g3:=g2.below b3
    have r3:=k2.below b3 k2.lt
    have b03:=b02.trans (b3.mono b02.size)
    have z3':w3.heap.size=P+1:=by rw [<-hw3,<-hP];simp
    have lz:Below w3.heap.size w3 w3:=Below.refl _ _
    have tz:Touch (fun b=>P<=b) w3 w3:=Touch.refl _ _
    clear k3 b3
    obtain⟨Xg2,Xk2,Xb02,Xb2,Xhz2,Xs3,Xg3,Xr3,Xb03,Xhf,Xtz,XhP,Xhw3⟩:=HqZ13 g2 k2 b02 b2 hz2 s3 g3 r3 b03 hf tz hP hw3;clear g2 k2 b02 b2 hz2 s3 g3 r3 b03 hf tz hP hw3
    go_wp2_with fail
    rw [Xhw3.out,XhP.out]
    have hP2:w.heap.size+2<=P:=by rw [<-XhP.out];exact hz2'
    go_loopw [5] (fun iv wr=> ∃(i:Nat) (va vR vb vG:Value),i<=n/\iv= .int .i64 (i:Int)/\P7 wr P (.slice A1 R c1) T N va vR vb vG (packU ((numsA t).take i)).1 (packU ((numsA t).take i)).2 (packU ((numsG t).take i)).1 (packU ((numsG t).take i)).2/\Touch (fun b=>P<=b) w3 wr) (fun iv _=>n - (intOf iv).toNat)
    case atStart=>exact⟨0,_,_,_,_,Nat.zero_le _,rfl,Xs3.out,Xtz.out⟩
    case round=>
     clear Xs3 Xtz
     obtain⟨i,va,vR,vb,vG,hi,rfl,hS,tW⟩:=hrel
     have tWF: ∀b,F b-> ¬P<=b:=fun b hb c=>by have:=XhF.out b hb;omega
     have gW:=Xg3.out.touch tW tWF (by omega)
     obtain⟨V,rfl⟩: ∃q,q=wr:=⟨_,rfl⟩
     by_cases hli:i<n
     ·have hli':(i:Int)<(n:Int):=by omega
      obtain⟨x,hx⟩: ∃x,t.acts[i]? =some x:=⟨_,List.getElem?_eq_getElem (by rw [Xhn.out];exact hli)⟩
      obtain⟨y,hy⟩: ∃y,t.goto[i]? =some y:=⟨_,List.getElem?_eq_getElem (by rw [Xhm.out];exact hli)⟩
      obtain⟨ba,oa,A4,c4,hA2,hFa,p4,rx,l4,m4⟩:=RdAs.row gW.tab.acts hx
      obtain⟨bg,og,A5,c5,hA3,hFg,p5,ry,l5,m5⟩:=RdIs.row gW.tab.goto hy
      have F1:=gW.tab.lt
      subst hA2 hA3
      have hxa:=fun a (ha:a∈x)=>fit_act Xhf.out hx ha
      have hyb:=fun a (ha:a∈y)=>fit_way Xhf.out hy ha
      have hlx:=Xhl.out.1 x (List.mem_of_getElem? hx)
      have hly:=Xhl.out.2 y (List.mem_of_getElem? hy)
      have hxA:(numsA t)[i]? =some (x.map codeA):=by unfold numsA;rw [List.getElem?_map,hx];rfl
      have hyG:(numsG t)[i]? =some (y.map fun z=>z+1):=by unfold numsG;rw [List.getElem?_map,hy];rfl
      have hi16:=(fit_parts Xhf.out).2.1
      rw [Xhn.out]at hi16
      generalize hxl:x.length=xl at *
      generalize hyl:y.length=yl at *
      obtain⟨q0,q1,q2,q3,q4⟩:=gW.cells
      unfold maxLen at m4 m5
      have zV:P<V.heap.size:=by have:=tW.size;omega
      have lv:Below V.heap.size V V:=Below.refl _ _
      have h0:V.ownsRow V.heap.size 39 1 (.slice none 0 0) 0 (((x.take 0).map codeA).map I16):=World.ownsRow_nil _ _ _ _
      clear hx hy gW hFa hFg
      obtain⟨XhS,XtW,Xrx,Xry,XF1,Xhxa,Xhyb,XhxA,XhyG,Xhxl,Xhyl,Xlv,Xh0⟩:=HqZ13 hS tW rx ry F1 hxa hyb hxA hyG hxl hyl lv h0;clear hS tW rx ry F1 hxa hyb hxA hyG hxl hyl lv h0
      go_wp2_with fail
      go_loopw [6,8] (fun av kv wr=> ∃(k c:Nat) (A:Option Addr),k<=xl/\av= .slice A k c/\kv= .int .i64 (k:Int)/\Below V.heap.size V wr/\wr.ownsRow V.heap.size 39 1 (.slice A k c) k (((x.take k).map codeA).map I16)) (fun _ kv _=>xl - (intOf kv).toNat)
      case atStart=>exact⟨0,0,none,Nat.zero_le _,rfl,rfl,Xlv.out,Xh0.out⟩
      case round=>
       clear Xh0 Xlv
       obtain⟨k,c,A,hk,rfl,rfl,le,own⟩:=hrel
       have p3':=up_cell le q3
       have p4':=up_cell le p4
       by_cases hlk:k<xl
       ·have hlk':(k:Int)<(xl:Int):=by omega
        obtain⟨a,ha⟩: ∃a,x[k]? =some a:=⟨_,List.getElem?_eq_getElem (by rw [Xhxl.out];exact hlk)⟩
        obtain⟨⟨k0,k3⟩,n0,n1⟩:=Xhxa.out a (List.mem_of_getElem? ha)
        obtain⟨-,-,-,hcell⟩:=RdIt.at_ (Rd.below Xrx.out le XF1.out)
        obtain⟨b4,o4,rfl,-,hcc⟩:=hcell (by omega)
        obtain⟨a0,a1⟩:=hcc k a ha
        have cc:=ref17_code a k0 k3 n0 n1 wr
        have hnx:((x.take k).map codeA).map I16++[I16 (codeA a)]=((x.take (k+1)).map codeA).map I16:=by rw [List.map_map,List.map_map];exact take_map_next (f:=I16∘codeA) ha
        generalize codeA a=ca at *
        obtain⟨x0,x1⟩:=a
        simp only at a0 a1 cc
        obtain⟨us,hus⟩: ∃q,q=((x.take k).map codeA).map I16:=⟨_,rfl⟩
        rw [<-hus]at own hnx
        clear hus hcell hcc k0 k3 n0 n1 ha
        obtain⟨Xcc,Xhnx,Xown,Xle⟩:=HqZ4 cc hnx own le;clear cc hnx own le
        go_wp2_with fail
        refine Xcc.out.mono ?_
        rintro e w6 ⟨rfl,b6⟩
        have le6:=Xle.out.trans (b6.mono Xle.out.size)
        have own6:=own_below' Xown.out b6
        obtain⟨w7,hw7⟩: ∃q,w6.alloc (.cells #[.int .u16 ca] 39)=q:=⟨_,rfl⟩
        have al7:Below w6.heap.size w6 w7:=by rw [<-hw7];exact(Below.refl _ _).alloc (Nat.le_refl _) _
        have own7:=own_below' own6 al7
        have le7:=le6.trans (al7.mono le6.size)
        have rone:Rd w7 (fun x=>x=w6.heap.size) (.slice (some ⟨w6.heap.size,0,none⟩) 1 1) 1 [.int .u16 ca]:=by rw [<-hw7];exact Rd.one' (w:=w6) (e:=39) [.int .u16 ca] 1 rfl
        clear b6 le6 own6 al7 Xcc Xle Xown a0 a1 p3' p4'
        obtain⟨Xown7,Xle7,Xrone⟩:=HqZ3 own7 le7 rone;clear own7 le7 rone
        go_wp2_with (at_builtin;refine wp_append _ rfl (.tmp 51) (.tmp 61) _ rfl Tryz.elemU16 V.heap.size (.slice A k c) k _ rfl Xown7.out _ _ [.int .u16 ca] 1 rfl rfl Xrone.out (by simp [Value.oneCell']) (by unfold maxLen;omega) (by omega) Xle7.out.size ?_)
        intro A8 c8 w8 own8 g8 hb8
        rw [Xhnx.out]at own8
        have le8:=Xle7.out.grown g8 Xle7.out.size (fun q hq=>(World.ownsRow.lt Xown7.out q hq).1)
        clear g8 hb8 Xown7 Xle7 Xrone Xhnx hw7
        obtain⟨Xown8,Xle8⟩:=HqZ2 own8 le8;clear own8 le8
        go_wp2_with fail
        go_roundw
        case rel=>exact⟨k+1,c8,A8,by omega,rfl,by go_num,Xle8.out,Xown8.out⟩
        case measure=>simp [intOf];omega
       ·have hlk': ¬(k:Int)<(xl:Int):=by omega
        obtain rfl:k=xl:=by omega
        rw [List.take_of_length_le (by rw [Xhxl.out];exact Nat.le_refl _)]at own
        obtain⟨V2,rfl⟩: ∃q,q=wr:=⟨_,rfl⟩
        have q4:=up_cell le q4
        have p5:=up_cell le p5
        have rA:=(Rd.of_own own).mono fun k hk=>own.lt k hk
        have ry2:=Rd.below Xry.out le XF1.out
        have F2: ∀b,F b->b<V2.heap.size:=fun b hb=>by have:=XF1.out b hb;have:=le.size;omega
        have zV2:=le.size
        have lv:Below V2.heap.size V2 V2:=Below.refl _ _
        have h0:V2.ownsRow V2.heap.size 39 1 (.slice none 0 0) 0 (((y.take 0).map fun z=>z+1).map I16):=World.ownsRow_nil _ _ _ _
        clear q0 q1 q2 q3 p4 own Xrx Xry
        obtain⟨Xle,XrA,Xry2,XF2,Xlv,Xh0⟩:=HqZ6 le rA ry2 F2 lv h0;clear le rA ry2 F2 lv h0
        go_wp2_with fail
        go_loopw [7,9] (fun av kv wr=> ∃(k c:Nat) (A:Option Addr),k<=yl/\av= .slice A k c/\kv= .int .i64 (k:Int)/\Below V2.heap.size V2 wr/\wr.ownsRow V2.heap.size 39 1 (.slice A k c) k (((y.take k).map fun z=>z+1).map I16)) (fun _ kv _=>yl - (intOf kv).toNat)
        case atStart=>exact⟨0,0,none,Nat.zero_le _,rfl,rfl,Xlv.out,Xh0.out⟩
        case round=>
         clear Xh0 Xlv
         obtain⟨j,cj,Aj,hj,rfl,rfl,lf,own⟩:=hrel
         have p3':=up_cell lf q4
         have p4':=up_cell lf p5
         by_cases hlj:j<yl
         ·have hlj':(j:Int)<(yl:Int):=by omega
          obtain⟨a,ha⟩: ∃a,y[j]? =some a:=⟨_,List.getElem?_eq_getElem (by rw [Xhyl.out];exact hlj)⟩
          obtain⟨n0,n1⟩:=Xhyb.out a (List.mem_of_getElem? ha)
          obtain⟨-,-,-,hcell⟩:=RdI.at_ (Rd.below Xry2.out lf XF2.out)
          obtain⟨b4,o4,rfl,-,hcc⟩:=hcell (by omega)
          have a0:=hcc j a ha
          have hnx:((y.take j).map fun z=>z+1).map I16++[I16 (a+1)]=((y.take (j+1)).map fun z=>z+1).map I16:=by rw [List.map_map,List.map_map];exact take_map_next (f:=I16∘fun z=>z+1) ha
          have hw1:IntKind.i64.wrap (a+1)=a+1:=by rw [IntKind.wrap_i64];omega
          have hw2:IntKind.u16.wrap (a+1)=a+1:=wrap_u16 (by omega) (by omega)
          obtain⟨w7,hw7⟩: ∃q,wr.alloc (.cells #[.int .u16 (a+1)] 39)=q:=⟨_,rfl⟩
          have al7:Below wr.heap.size wr w7:=by rw [<-hw7];exact(Below.refl _ _).alloc (Nat.le_refl _) _
          have own7:=own_below' own al7
          have le7:=lf.trans (al7.mono lf.size)
          have rone:Rd w7 (fun x=>x=wr.heap.size) (.slice (some ⟨wr.heap.size,0,none⟩) 1 1) 1 [.int .u16 (a+1)]:=by rw [<-hw7];exact Rd.one' (w:=wr) (e:=39) [.int .u16 (a+1)] 1 rfl
          obtain⟨us,hus⟩: ∃q,q=((y.take j).map fun z=>z+1).map I16:=⟨_,rfl⟩
          rw [<-hus]at own7 hnx
          clear hus hcell hcc n0 n1 ha al7 own lf
          obtain⟨Xown7,Xle7,Xrone,Xhnx⟩:=HqZ4 own7 le7 rone hnx;clear own7 le7 rone hnx
          go_wp2_with (at_builtin;refine wp_append _ rfl (.tmp 73) (.tmp 84) _ rfl Tryz.elemU16 V2.heap.size (.slice Aj j cj) j _ rfl Xown7.out _ _ [.int .u16 (a+1)] 1 rfl rfl Xrone.out (by simp [Value.oneCell']) (by unfold maxLen;omega) (by omega) Xle7.out.size ?_)
          intro A8 c8 w8 own8 g8 hb8
          rw [Xhnx.out]at own8
          have le8:=Xle7.out.grown g8 Xle7.out.size (fun q hq=>(World.ownsRow.lt Xown7.out q hq).1)
          clear g8 hb8 Xown7 Xle7 Xrone Xhnx hw7
          obtain⟨Xown8,Xle8⟩:=HqZ2 own8 le8;clear own8 le8
          go_wp2_with fail
          go_roundw
          case rel=>exact⟨j+1,c8,A8,by omega,rfl,by go_num,Xle8.out,Xown8.out⟩
          case measure=>simp [intOf];omega
         ·have hlj': ¬(j:Int)<(yl:Int):=by omega
          obtain rfl:j=yl:=by omega
          rw [List.take_of_length_le (by rw [Xhyl.out];exact Nat.le_refl _)]at own
          obtain⟨V3,rfl⟩: ∃q,q=wr:=⟨_,rfl⟩
          have rB:=(Rd.of_own own).mono fun k hk=>own.lt k hk
          have rA3:=Rd.below XrA.out lf fun k hk=>hk.2
          have lg:=Xle.out.trans (lf.mono Xle.out.size)
          have S3:=XhS.out.below lg
          have T3:=XtW.out.trans' ((Touch.of_size lg (fun _=>False)).mono fun _ _ c=>c.elim)
          have zV3:=lf.size
          clear own XrA Xry2 q4 p5
          have e1:=packU_take XhxA.out
          have e2:=packU_take XhyG.out
          have u1:=packR_len (numsA t) i
          have u2:=packR_len (numsG t) i
          have u3:(packU ((numsA t).take i)).2.length=i:=packI_len (by unfold numsA;rw [List.length_map,Xhn.out];omega)
          have u4:(packU ((numsG t).take i)).2.length=i:=packI_len (by unfold numsG;rw [List.length_map,Xhm.out];omega)
          generalize (packU ((numsA t).take i)).1=LA at *
          generalize (packU ((numsA t).take i)).2=IA at *
          generalize (packU ((numsG t).take i)).1=LG at *
          generalize (packU ((numsG t).take i)).2=IG at *
          obtain⟨xc,hxc⟩: ∃q,q=x.map codeA:=⟨_,rfl⟩
          obtain⟨yc,hyc⟩: ∃q,q=y.map fun z=>z+1:=⟨_,rfl⟩
          rw [<-hxc]at e1 rA3
          rw [<-hyc]at e2 rB
          clear hxc hyc
          have rA4:RdU V3 (fun b=>P<b/\b<V3.heap.size/\va.ownBlock≠some b/\vb.ownBlock≠some b) (.slice A k c) xc:=rA3.mono fun b hb=>⟨by omega,by omega,fun e=>by have:=(XhS.out.row.lt b e).2;omega,fun e=>by have:=(XhS.out.gow.lt b e).2;omega⟩
          have ltI:=XhS.out.row.lt
          have ltJ:=XhS.out.gow.lt
          have cP1:=ref17_put S3.rows (fun b hb=>hb.2.1) rA4 (by omega)
          obtain⟨AR,cR,rfl,hR2,hR3⟩:=RdRw.shape S3.rows
          obtain⟨AG,cG,rfl,hG2,hG3⟩:=RdRw.shape S3.gows
          obtain⟨AI,cI,rfl,hI2,hI3⟩:=ownsRow_shape S3.row
          obtain⟨AJ,cJ,rfl,hJ2,hJ3⟩:=ownsRow_shape S3.gow
          rw [u3]at hI2 ltI
          rw [u4]at hJ2 ltJ
          rw [u3,u4]at S3 cP1
          have g4:V3.cell? ⟨P,4,none⟩=some (.slice AR LA.length cR):=S3.box.cell 4
          unfold maxLen at hI3 hJ3 hR3 hG3
          clear XhS rA3 rA4 XtW
          obtain⟨XS3,XT3,XcP1,XrB,Xe1,Xe2,Xu3,Xu4,XltI,XltJ,Xlg,Xlf⟩:=HqZ12 S3 T3 cP1 rB e1 e2 u3 u4 ltI ltJ lg lf;clear S3 T3 cP1 rB e1 e2 u3 u4 ltI ltJ lg lf
          go_wp2_with fail
          refine XcP1.out.mono ?_
          rintro e w41 ⟨b41,A61,n61,rfl,rU1⟩
          have z41:=b41.size
          have pl1le:=plR_le LA xc
          obtain⟨pl1,hpl1⟩: ∃q,q=plR LA xc:=⟨_,rfl⟩
          rw [<-hpl1]at pl1le⊢
          have S41:=XS3.out.below b41
          have S51:=S41.putR (v:= .slice A61 (putR LA xc).length n61) (rU1.mono fun b hb=>by
           refine⟨?_,hb.2,fun e=> ?_,fun e=> ?_⟩
           ·rcases hb.1 with q|q
            ·exact q.1
            ·omega
           ·rcases hb.1 with q|q
            ·exact q.2.2.1 e
            ·have:=(XS3.out.row.lt b e).2;omega
           ·rcases hb.1 with q|q
            ·exact q.2.2.2 e
            ·have:=(XS3.out.gow.lt b e).2;omega)
          have f41:=S41.box.frozen 4
          have pp41:w41.cell? ⟨P,4,none⟩=some (.slice AR LA.length cR):=S41.box.cell 4
          obtain⟨W51,hW51⟩: ∃q,w41.setCell ⟨P,4,none⟩ (.slice A61 (putR LA xc).length n61)=q:=⟨_,rfl⟩
          rw [hW51]at S51
          have z51:W51.heap.size<=w41.heap.size/\w41.heap.size<=W51.heap.size:=by rw [<-hW51];simp [World.setCell]
          have t51:Touch (fun b=>b=P) w41 W51:=by rw [<-hW51];exact touch_setP _ _ _ _
          obtain⟨W61,hW61⟩: ∃q,W51.alloc (.cells #[.int .i64 (pl1:Int)] 3)=q:=⟨_,rfl⟩
          have al1:Below W51.heap.size W51 W61:=by rw [<-hW61];exact(Below.refl _ _).alloc (Nat.le_refl _) _
          have z61:W61.heap.size<=W51.heap.size+1/\W51.heap.size+1<=W61.heap.size:=by rw [<-hW61];simp
          have S61:=S51.below al1
          have own61:=S61.row
          rw [Xu3.out]at own61
          have rone1:Rd W61 (fun b=>b=W51.heap.size) (.slice (some ⟨W51.heap.size,0,none⟩) 1 1) 1 [.int .i64 (pl1:Int)]:=by rw [<-hW61];exact Rd.one' (w:=W51) (e:=3) [.int .i64 (pl1:Int)] 1 rfl
          have g51:W51.cell? ⟨P,3,none⟩=some (.slice AI i cI):=S51.box.cell 3
          have t361:=(Touch.of_size b41 (fun b=>b=P\/(Value.slice AI i cI).ownBlock=some b)).trans' ((t51.mono fun k _ e=> .inl e).trans' (Touch.of_size al1 _))
          obtain⟨us1,hus1⟩: ∃q,q=IA.map (Value.int .i64):=⟨_,rfl⟩
          rw [<-hus1]at own61
          clear b41 rU1 S41 S51 al1 t51 XcP1 XS3
          obtain⟨XS61,Xown61,Xrone1,Xt361,Xhus1,Xhpl1⟩:=HqZ6 S61 own61 rone1 t361 hus1 hpl1;clear S61 own61 rone1 t361 hus1 hpl1
          go_wp2_with (at_builtin;refine wp_append _ rfl (.tmp 95) (.tmp 97) _ rfl Tryz.elemInt (P+1) (.slice AI i cI) i _ rfl Xown61.out _ _ [.int .i64 (pl1:Int)] 1 rfl rfl Xrone1.out (by simp [Value.oneCell']) (by unfold maxLen;omega) (by omega) (by omega) ?_)
          intro A71 c71 w71 own71 g71 hb71
          have tg1:Touch (fun b=>(Value.slice AI i cI).ownBlock=some b) W61 w71:=(Touch.refl _ _).grown g71 (fun k e _=>e)
          have S71:=XS61.out.pushI (v:= .slice A71 (i+1) c71) (x:=(pl1:Int)) g71 (by rw [Xu3.out,<-Xhus1.out];exact own71) hb71
          have kb71:=XS61.out.box.touch tg1 (fun e=>by have:=(XS61.out.row.lt P e).1;omega)
          have f71:w71.frozen? ⟨P,3,none⟩=false:=kb71.frozen 3
          have p71:w71.cell? ⟨P,3,none⟩=some (.slice AI i cI):=kb71.cell 3
          obtain⟨V81,hV81⟩: ∃q,w71.setCell ⟨P,3,none⟩ (.slice A71 (i+1) c71)=q:=⟨_,rfl⟩
          rw [hV81]at S71
          have z81:V81.heap.size<=w71.heap.size/\w71.heap.size<=V81.heap.size:=by rw [<-hV81];simp [World.setCell]
          have zg1:=g71.size
          have T81:Touch (fun b=>b=P\/(Value.slice AI i cI).ownBlock=some b) V3 V81:=(Xt361.out.trans' (tg1.mono fun k _ e=> .inr e)).trans' (by rw [<-hV81];exact(touch_setP _ _ _ _).mono fun k _ e=> .inl e)
          have hv81: ∀b,(Value.slice A71 (i+1) c71).ownBlock=some b->(Value.slice AI i cI).ownBlock=some b\/V3.heap.size<=b:=fun b e=>by
           rcases hb71 with q|q
           ·exact .inl (q▸e)
           ·rw [q]at e;injection e with e;exact .inr (by omega)
          clear own71 g71 hb71 tg1 kb71 XS61 Xown61 Xrone1 Xt361 Xhus1
          have rB8:RdU V81 (fun b=>P<b/\b<V81.heap.size/\(Value.slice A71 (i+1) c71).ownBlock≠some b/\(Value.slice AJ i cJ).ownBlock≠some b) (.slice Aj j cj) yc:=(Rd.touch XrB.out T81 (fun b hb e=>by
           rcases e with e|e
           ·omega
           ·have:=(XltI.out b e).2;omega)).mono fun b hb=>⟨by omega,by have:=T81.size;omega,fun e=>by
           rcases hv81 b e with q|q
           ·have:=(XltI.out b q).2;omega
           ·omega,fun e=>by have:=(XltJ.out b e).2;omega⟩
          have cP2:=ref17_put S71.gows (fun b hb=>hb.2.1) rB8 (by omega)
          have g6:V81.cell? ⟨P,6,none⟩=some (.slice AG LG.length cG):=S71.box.cell 6
          clear rB8 g4 f41 g51
          obtain⟨XS71,XcP2,XT81,Xhv81⟩:=HqZ4 S71 cP2 T81 hv81;clear S71 cP2 T81 hv81
          go_wp2_with fail
          refine XcP2.out.mono ?_
          rintro e w42 ⟨b42,A62,n62,rfl,rU2⟩
          have z42:=b42.size
          have pl2le:=plR_le LG yc
          obtain⟨pl2,hpl2⟩: ∃q,q=plR LG yc:=⟨_,rfl⟩
          rw [<-hpl2]at pl2le⊢
          have S42:=XS71.out.below b42
          have S52:=S42.putG (v:= .slice A62 (putR LG yc).length n62) (rU2.mono fun b hb=>by
           refine⟨?_,hb.2,fun e=> ?_,fun e=> ?_⟩
           ·rcases hb.1 with q|q
            ·exact q.1
            ·omega
           ·rcases hb.1 with q|q
            ·exact q.2.2.1 e
            ·have:=(XS71.out.row.lt b e).2;omega
           ·rcases hb.1 with q|q
            ·exact q.2.2.2 e
            ·have:=(XS71.out.gow.lt b e).2;omega)
          have f42:=S42.box.frozen 6
          have pp42:w42.cell? ⟨P,6,none⟩=some (.slice AG LG.length cG):=S42.box.cell 6
          obtain⟨W52,hW52⟩: ∃q,w42.setCell ⟨P,6,none⟩ (.slice A62 (putR LG yc).length n62)=q:=⟨_,rfl⟩
          rw [hW52]at S52
          have z52:W52.heap.size<=w42.heap.size/\w42.heap.size<=W52.heap.size:=by rw [<-hW52];simp [World.setCell]
          have t52:Touch (fun b=>b=P) w42 W52:=by rw [<-hW52];exact touch_setP _ _ _ _
          obtain⟨W62,hW62⟩: ∃q,W52.alloc (.cells #[.int .i64 (pl2:Int)] 3)=q:=⟨_,rfl⟩
          have al2:Below W52.heap.size W52 W62:=by rw [<-hW62];exact(Below.refl _ _).alloc (Nat.le_refl _) _
          have z62:W62.heap.size<=W52.heap.size+1/\W52.heap.size+1<=W62.heap.size:=by rw [<-hW62];simp
          have S62:=S52.below al2
          have own62:=S62.gow
          rw [Xu4.out]at own62
          have rone2:Rd W62 (fun b=>b=W52.heap.size) (.slice (some ⟨W52.heap.size,0,none⟩) 1 1) 1 [.int .i64 (pl2:Int)]:=by rw [<-hW62];exact Rd.one' (w:=W52) (e:=3) [.int .i64 (pl2:Int)] 1 rfl
          have g52:W52.cell? ⟨P,5,none⟩=some (.slice AJ i cJ):=S52.box.cell 5
          have t362:=(Touch.of_size b42 (fun b=>b=P\/(Value.slice AJ i cJ).ownBlock=some b)).trans' ((t52.mono fun k _ e=> .inl e).trans' (Touch.of_size al2 _))
          obtain⟨us2,hus2⟩: ∃q,q=IG.map (Value.int .i64):=⟨_,rfl⟩
          rw [<-hus2]at own62
          clear b42 rU2 S42 S52 al2 t52 XcP2 XS71
          obtain⟨XS62,Xown62,Xrone2,Xt362,Xhus2,Xhpl2⟩:=HqZ6 S62 own62 rone2 t362 hus2 hpl2;clear S62 own62 rone2 t362 hus2 hpl2
          go_wp2_with (at_builtin;refine wp_append _ rfl (.tmp 109) (.tmp 111) _ rfl Tryz.elemInt (P+1) (.slice AJ i cJ) i _ rfl Xown62.out _ _ [.int .i64 (pl2:Int)] 1 rfl rfl Xrone2.out (by simp [Value.oneCell']) (by unfold maxLen;omega) (by omega) (by omega) ?_)
          intro A72 c72 w72 own72 g72 hb72
          have tg2:Touch (fun b=>(Value.slice AJ i cJ).ownBlock=some b) W62 w72:=(Touch.refl _ _).grown g72 (fun k e _=>e)
          have S72:=XS62.out.pushJ (v:= .slice A72 (i+1) c72) (x:=(pl2:Int)) g72 (by rw [Xu4.out,<-Xhus2.out];exact own72) hb72
          have kb72:=XS62.out.box.touch tg2 (fun e=>by have:=(XS62.out.gow.lt P e).1;omega)
          have f72:w72.frozen? ⟨P,5,none⟩=false:=kb72.frozen 5
          have p72:w72.cell? ⟨P,5,none⟩=some (.slice AJ i cJ):=kb72.cell 5
          obtain⟨V82,hV82⟩: ∃q,w72.setCell ⟨P,5,none⟩ (.slice A72 (i+1) c72)=q:=⟨_,rfl⟩
          rw [hV82]at S72
          have z82:V82.heap.size<=w72.heap.size/\w72.heap.size<=V82.heap.size:=by rw [<-hV82];simp [World.setCell]
          have zg2:=g72.size
          have T82:Touch (fun b=>b=P\/(Value.slice AJ i cJ).ownBlock=some b) V81 V82:=(Xt362.out.trans' (tg2.mono fun k _ e=> .inr e)).trans' (by rw [<-hV82];exact(touch_setP _ _ _ _).mono fun k _ e=> .inl e)
          have hv82: ∀b,(Value.slice A72 (i+1) c72).ownBlock=some b->(Value.slice AJ i cJ).ownBlock=some b\/V81.heap.size<=b:=fun b e=>by
           rcases hb72 with q|q
           ·exact .inl (q▸e)
           ·rw [q]at e;injection e with e;exact .inr (by omega)
          clear own72 g72 hb72 tg2 kb72 XS62 Xown62 Xrone2 Xt362 Xhus2
          have TT:Touch (fun b=>P<=b) w3 V82:=XT3.out.trans' ((XT81.out.mono fun k _ e=>by
           rcases e with e|e
           ·omega
           ·have:=(XltI.out k e).1;omega).trans' (T82.mono fun k _ e=>by
           rcases e with e|e
           ·omega
           ·have:=(XltJ.out k e).1;omega))
          have fE1:=congrArg Prod.fst Xe1.out
          have fE2:=congrArg Prod.snd Xe1.out
          have fE3:=congrArg Prod.fst Xe2.out
          have fE4:=congrArg Prod.snd Xe2.out
          simp only at fE1 fE2 fE3 fE4
          rw [<-Xhpl1.out]at fE2
          rw [<-Xhpl2.out]at fE4
          rw [<-fE1,<-fE2,<-fE3,<-fE4]at S72
          clear T82 hv82 fE1 fE2 fE3 fE4
          obtain⟨XS72,XTT⟩:=HqZ2 S72 TT;clear S72 TT
          go_wp2_with fail
          go_roundw
          case rel=>exact⟨i+1,_,_,_,_,by omega,by go_num,XS72.out,XTT.out⟩
          case measure=>simp [intOf];omega
     ·have hli': ¬(i:Int)<(n:Int):=by omega
      obtain rfl:i=n:=by omega
      have e1:(numsA t).take i=numsA t:=List.take_of_length_le (by unfold numsA;rw [List.length_map,Xhn.out];exact Nat.le_refl _)
      have e2:(numsG t).take i=numsG t:=List.take_of_length_le (by unfold numsG;rw [List.length_map,Xhm.out];exact Nat.le_refl _)
      rw [e1,e2]at hS
      obtain⟨AR,cR,rfl,hR2,hR3⟩:=RdRw.shape hS.rows
      obtain⟨AG,cG,rfl,hG2,hG3⟩:=RdRw.shape hS.gows
      obtain⟨AI,cI,rfl,hI2,hI3⟩:=ownsRow_shape hS.row
      obtain⟨AJ,cJ,rfl,hJ2,hJ3⟩:=ownsRow_shape hS.gow
      have rr:=Xr3.out.touch tW (by omega)
      obtain⟨q0,q1,q2,q3,q4⟩:=gW.cells
      have p0:V.cell? ⟨P,0,none⟩=some (.slice A1 R c1):=hS.box.cell 0
      have p1:V.cell? ⟨P,1,none⟩=some (.int .i64 T):=hS.box.cell 1
      have p2:V.cell? ⟨P,2,none⟩=some (.int .i64 N):=hS.box.cell 2
      have p3:V.cell? ⟨P,3,none⟩=some (.slice AI _ cI):=hS.box.cell 3
      have p4:V.cell? ⟨P,4,none⟩=some (.slice AR _ cR):=hS.box.cell 4
      have p5:V.cell? ⟨P,5,none⟩=some (.slice AJ _ cJ):=hS.box.cell 5
      have p6:V.cell? ⟨P,6,none⟩=some (.slice AG _ cG):=hS.box.cell 6
      have x0:=rr.frozen 0
      have x1:=rr.frozen 1
      have x2:=rr.frozen 2
      have x3:=rr.frozen 3
      have x4:=rr.frozen 4
      have x5:=rr.frozen 5
      have x6:=rr.frozen 6
      have y0:V.cell? ⟨w.heap.size+1,0,none⟩=some (.slice none 0 0):=rr.cell 0
      have y1:V.cell? ⟨w.heap.size+1,1,none⟩=some (.int .i64 0):=rr.cell 1
      have y2:V.cell? ⟨w.heap.size+1,2,none⟩=some (.int .i64 0):=rr.cell 2
      have y3:V.cell? ⟨w.heap.size+1,3,none⟩=some (.slice none 0 0):=rr.cell 3
      have y4:V.cell? ⟨w.heap.size+1,4,none⟩=some (.slice none 0 0):=rr.cell 4
      have y5:V.cell? ⟨w.heap.size+1,5,none⟩=some (.slice none 0 0):=rr.cell 5
      have y6:V.cell? ⟨w.heap.size+1,6,none⟩=some (.slice none 0 0):=rr.cell 6
      obtain⟨nR,hnR⟩: ∃q,q=(packU (numsA t)).1.length:=⟨_,rfl⟩
      obtain⟨nG,hnG⟩: ∃q,q=(packU (numsG t)).1.length:=⟨_,rfl⟩
      obtain⟨nI,hnI⟩: ∃q,q=(packU (numsA t)).2.length:=⟨_,rfl⟩
      obtain⟨nJ,hnJ⟩: ∃q,q=(packU (numsG t)).2.length:=⟨_,rfl⟩
      rw [<-hnR,<-hnG,<-hnI,<-hnJ]at hS
      rw [<-hnR]at p4
      rw [<-hnG]at p6
      rw [<-hnI]at p3
      rw [<-hnJ]at p5
      have isP:=hS.pack gW.tab Xhf.out
      have kk:=((((((rr.put 0 (.slice A1 R c1)).put 1 (.int .i64 T)).put 2 (.int .i64 N)).put 3 (.slice AI nI cI)).put 4 (.slice AR nR cR)).put 5 (.slice AJ nJ cJ)).put 6 (.slice AG nG cG)
      have tV:=touch_seven V (w.heap.size+1) (.slice A1 R c1) (.int .i64 T) (.int .i64 N) (.slice AI nI cI) (.slice AR nR cR) (.slice AJ nJ cJ) (.slice AG nG cG)
      have bV:Below w.heap.size w V:=Xb03.out.trans (tW.below (fun k hk _ e=>by omega) (by omega))
      clear e1 e2 hnR hnG hnI hnJ hS
      obtain⟨Xrr,XtW,XgW,XisP,Xkk,XtV,XbV⟩:=HqZ7 rr tW gW isP kk tV bV;clear rr tW gW isP kk tV bV
      go_wp2_with fail
      have e0:=(Xkk.out.cell 0).trans rfl
      have e1:=(Xkk.out.cell 1).trans rfl
      have e2:=(Xkk.out.cell 2).trans rfl
      have e3:=(Xkk.out.cell 3).trans rfl
      have e4:=(Xkk.out.cell 4).trans rfl
      have e5:=(Xkk.out.cell 5).trans rfl
      have e6:=(Xkk.out.cell 6).trans rfl
      refine bodyPost_ret (v:= .tuple #[PV (.slice A1 R c1) T N (.slice AI nI cI) (.slice AR nR cR) (.slice AJ nJ cJ) (.slice AG nG cG),.bool true]) (by simp [results,Tryz.results49,go_sem,e0,e1,e2,e3,e4,e5,e6]) rfl ?_
      have hpo:packO t=packT t:=if_pos Xhf.out
      have b5:=XtV.out.toBelow (fun k e=>by omega) XbV.out XbV.out.size
      refine⟨b5,.slice A1 R c1,.slice AI nI cI,.slice AR nR cR,.slice AJ nJ cJ,.slice AG nG cG,?_,?_⟩
      ·rw [hpo,Xhf.out]
       have h3:(packT t).terms=T:=XhT.out
       have h4:(packT t).nons=N:=XhN.out
       rw [h3,h4]
      ·rw [hpo]
       have hF2: ∀b,F b->b≠w.heap.size+1:=fun b hb=>by have:=XhF.out b hb;omega
       refine(XisP.out.touch XtV.out (fun b hb e=>by
        rcases hb.1 with q|q
        ·exact hF2 b q e
        ·omega)).mono (fun b hb=>⟨?_,Nat.lt_of_lt_of_le hb.2 XtV.out.size⟩) (fun b hb=>hb.2)
       rcases hb.1 with q|q
       ·exact .inl q
       ·exact .inr (by omega)
   ·have hR1':(16383:Int)<(R:Int):=by omega
    obtain⟨Xg2,Xk2,Xb02,Xb2,Xhz2⟩:=HqZ5 g2 k2 b02 b2 hz2;clear g2 k2 b02 b2 hz2
    go_wp2_with fail
    have hff:=Xhfit.out
    rw [decide_eq_false hR1,Bool.and_false,Bool.and_false]at hff
    have hno:fitT t=false:=hff
    have hpo:packO t=noPack:=by unfold packO;rw [if_neg (by rw [hno];exact Bool.false_ne_true)]
    have k5:=((((((Xk2.out.put 0 (.slice none 0 0)).put 1 (.int .i64 0)).put 2 (.int .i64 0)).put 3 (.slice none 0 0)).put 4 (.slice none 0 0)).put 5 (.slice none 0 0)).put 6 (.slice none 0 0)
    have e0:=(k5.cell 0).trans rfl
    have e1:=(k5.cell 1).trans rfl
    have e2:=(k5.cell 2).trans rfl
    have e3:=(k5.cell 3).trans rfl
    have e4:=(k5.cell 4).trans rfl
    have e5:=(k5.cell 5).trans rfl
    have e6:=(k5.cell 6).trans rfl
    refine bodyPost_ret (v:= .tuple #[PV (.slice none 0 0) 0 0 (.slice none 0 0) (.slice none 0 0) (.slice none 0 0) (.slice none 0 0),.bool false]) (by simp [results,Tryz.results49,go_sem,e0,e1,e2,e3,e4,e5,e6]) rfl ?_
    have t5:=touch_seven w2 (w.heap.size+1) (.slice none 0 0) (.int .i64 0) (.int .i64 0) (.slice none 0 0) (.slice none 0 0) (.slice none 0 0) (.slice none 0 0)
    have b5:=t5.toBelow (fun k e=>by omega) Xb02.out Xb02.out.size
    refine⟨b5,_,_,_,_,_,by rw [hpo,hno];rfl,?_⟩
    rw [hpo]
    exact IsPack.none _ _ (fun b hb=>hb.2)
  ·have hn1':(16383:Int)<(n:Int):=by omega
   obtain⟨Xg2,Xk2,Xb02,Xb2,Xhz2⟩:=HqZ5 g2 k2 b02 b2 hz2;clear g2 k2 b02 b2 hz2
   go_wp2_with fail
   have hff:=Xhfit.out
   rw [decide_eq_false hn1,Bool.false_and,Bool.and_false]at hff
   have hno:fitT t=false:=hff
   have hpo:packO t=noPack:=by unfold packO;rw [if_neg (by rw [hno];exact Bool.false_ne_true)]
   have k5:=((((((Xk2.out.put 0 (.slice none 0 0)).put 1 (.int .i64 0)).put 2 (.int .i64 0)).put 3 (.slice none 0 0)).put 4 (.slice none 0 0)).put 5 (.slice none 0 0)).put 6 (.slice none 0 0)
   have e0:=(k5.cell 0).trans rfl
   have e1:=(k5.cell 1).trans rfl
   have e2:=(k5.cell 2).trans rfl
   have e3:=(k5.cell 3).trans rfl
   have e4:=(k5.cell 4).trans rfl
   have e5:=(k5.cell 5).trans rfl
   have e6:=(k5.cell 6).trans rfl
   refine bodyPost_ret (v:= .tuple #[PV (.slice none 0 0) 0 0 (.slice none 0 0) (.slice none 0 0) (.slice none 0 0) (.slice none 0 0),.bool false]) (by simp [results,Tryz.results49,go_sem,e0,e1,e2,e3,e4,e5,e6]) rfl ?_
   have t5:=touch_seven w2 (w.heap.size+1) (.slice none 0 0) (.int .i64 0) (.int .i64 0) (.slice none 0 0) (.slice none 0 0) (.slice none 0 0) (.slice none 0 0)
   have b5:=t5.toBelow (fun k e=>by omega) Xb02.out Xb02.out.size
   refine⟨b5,_,_,_,_,_,by rw [hpo,hno];rfl,?_⟩
   rw [hpo]
   exact IsPack.none _ _ (fun b hb=>hb.2)
theorem right_iff {p:PackD} (h1:rowsP p=true) (h2:fitT (openT p)=true):rightP p=true↔p=packT (openT p):=by
 unfold rightP
 rw [h1,h2,Bool.true_and,Bool.true_and]
 unfold sameP
 simp only [Bool.and_eq_true,decide_eq_true_eq]
 constructor
 ·rintro⟨e1,e2,e3,e4⟩
  exact pack_ext rfl rfl e1 e2 rfl e3 e4
 ·intro e
  exact⟨congrArg PackD.row e,congrArg PackD.gow e,congrArg PackD.rows e,congrArg PackD.gows e⟩
set_option maxRecDepth 100000 in
set_option maxHeartbeats 4000000 in
theorem ref17_Right {w:World} {F:Nat->Prop} {v1 v2 v3 v4 v5:Value} {p:PackD} (h:IsPack w F v1 v2 v3 v4 v5 p) (hl:LenP p):
  Calls Tryz.prog 21 #[PV v1 p.terms p.nons v2 v3 v4 v5] w (Quiet w (.bool (rightP p))):=by
 obtain⟨A1,c1,A2,c2,A3,c3,A4,c4,A5,c5,rfl,rfl,rfl,rfl,rfl,-⟩:=h.slices
 obtain⟨T,hT⟩: ∃q,q=p.terms:=⟨_,rfl⟩
 obtain⟨N,hN⟩: ∃q,q=p.nons:=⟨_,rfl⟩
 obtain⟨w1,hw1⟩: ∃q,q=w.alloc (.cells #[.slice A1 p.rules.length c1,.int .i64 p.terms,.int .i64 p.nons,.slice A2 p.row.length c2,.slice A3 p.rows.length c3,.slice A4 p.gow.length c4,.slice A5 p.gows.length c5] 26):=⟨_,rfl⟩
 have g1:=PBox.new h p.terms p.nons
 rw [<-hw1]at g1
 have b1:Below w.heap.size w w1:=by rw [hw1];exact(Below.refl _ w).alloc (Nat.le_refl _) _
 have cO:=ref17_open g1.pk hl
 have hL:=lenT_open hl
 have cS:=fun(W:World) (G:Nat->Prop) u1 u2 u3 u4 u5 (hq:IsPack W G u1 u2 u3 u4 u5 (packT (openT p))) (hp:IsPack W F (.slice A1 p.rules.length c1) (.slice A2 p.row.length c2) (.slice A3 p.rows.length c3) (.slice A4 p.gow.length c4) (.slice A5 p.gows.length c5) p) (hh:rightP p=true↔p=packT (openT p))=>ref17_Same hp hq (rightP p) hh
 obtain⟨n1,hn1⟩: ∃q,q=p.rules.length:=⟨_,rfl⟩
 obtain⟨n2,hn2⟩: ∃q,q=p.row.length:=⟨_,rfl⟩
 obtain⟨n3,hn3⟩: ∃q,q=p.rows.length:=⟨_,rfl⟩
 obtain⟨n4,hn4⟩: ∃q,q=p.gow.length:=⟨_,rfl⟩
 obtain⟨n5,hn5⟩: ∃q,q=p.gows.length:=⟨_,rfl⟩
 rw [<-hT,<-hN,<-hn1,<-hn2,<-hn3,<-hn4,<-hn5]at g1 hw1 cS
 rw [<-hT,<-hN,<-hn1,<-hn2,<-hn3,<-hn4,<-hn5]at cO
 rw [<-hT,<-hN,<-hn1,<-hn2,<-hn3,<-hn4,<-hn5]
 have hiff:= @right_iff p
 have hRP:rightP p=(rowsP p&&(fitT (openT p)&&sameP p (packT (openT p)))):=rfl
 have hOO:openO p=if rowsP p=true then openT p else noTab:=rfl
 have hTT:(openT p).terms=T/\(openT p).nons=N:=⟨hT.symm,hN.symm⟩
 unfold OpenPost at cO
 obtain⟨rP,hrP⟩: ∃q,q=rightP p:=⟨_,rfl⟩
 rw [<-hrP]at hRP hiff cS
 rw [<-hrP]
 have ew1:=hw1.symm
 obtain⟨a0,a1,a2,a3,a4,a5,a6⟩:=g1.cells
 clear h hrP hw1
 generalize openT p=t at *
 obtain⟨Xg1,XhT,XhN,Xhn1,Xhn2,Xhn3,Xhn4,Xhn5,Xb1,XcO,XhL,XhRP,XhOO,XhTT⟩:=HqZ14 g1 hT hN hn1 hn2 hn3 hn4 hn5 b1 cO hL hRP hOO hTT;obtain⟨Xhl,Xhiff,XcS⟩:=HqZ3 hl hiff cS;clear g1 hT hN hn1 hn2 hn3 hn4 hn5 b1 cO hL hRP hOO hTT hl hiff cS
 go_enter Tryz.func21,Tryz.ntmps21
 go_wp2_with fail
 refine XcO.out.mono ?_
 rintro e w4 ⟨b4,vr,va,vg,rfl,ht⟩
 clear a0 a1 a2 a3 a4 a5 a6 ew1
 cases hr:rowsP p with
 |false=>
  obtain⟨B1,d1,B2,d2,B3,d3,rfl,rfl,rfl,-,-,-,-,-,-⟩:=ht.slices
  generalize openO p=tO at *
  have bw4:=Xb1.out.trans (b4.mono Xb1.out.size)
  generalize tO.rules.length=m1 at *
  generalize tO.acts.length=m2 at *
  generalize tO.goto.length=m3 at *
  generalize tO.terms=TO at *
  generalize tO.nons=NO at *
  have b5:=bw4.alloc bw4.size (.cells #[.slice B1 m1 d1,.int .i64 TO,.int .i64 NO,.slice B2 m2 d2,.slice B3 m3 d3] 44)
  have er:rP=false:=by rw [XhRP.out,hr];rfl
  subst er
  clear ht bw4 b4
  obtain⟨Xhr,Xb5⟩:=HqZ2 hr b5;clear hr b5
  go_wp2_with fail
  go_ret
  exact⟨rfl,by first|exact Xb5.out|exact Xb5.out.drew⟩
 |true=>
  have hOt:openO p=t:=by rw [XhOO.out,if_pos hr]
  rw [hOt]at ht
  obtain⟨B1,u1,B2,u2,B3,u3,rfl,rfl,rfl,-,-,-,-,-,-⟩:=ht.slices
  rw [hOt,XhTT.out.1,XhTT.out.2]
  have bw4:=Xb1.out.trans (b4.mono Xb1.out.size)
  have g4:=Xg1.out.below b4
  have tb:=TBox.new ht T N
  obtain⟨w5,hw5⟩: ∃q,q=w4.alloc (.cells #[.slice B1 t.rules.length u1,.int .i64 T,.int .i64 N,.slice B2 t.acts.length u2,.slice B3 t.goto.length u3] 44):=⟨_,rfl⟩
  rw [<-hw5]at tb
  have b5:Below w4.heap.size w4 w5:=by rw [hw5];exact(Below.refl _ _).alloc (Nat.le_refl _) _
  have cP:=ref17_Pack tb.tab XhL.out
  rw [XhTT.out.1,XhTT.out.2]at cP
  unfold PackPost at cP
  have g5:=g4.below b5
  have bw5:=bw4.trans (b5.mono bw4.size)
  obtain⟨m1,hm1⟩: ∃q,q=t.rules.length:=⟨_,rfl⟩
  obtain⟨m2,hm2⟩: ∃q,q=t.acts.length:=⟨_,rfl⟩
  obtain⟨m3,hm3⟩: ∃q,q=t.goto.length:=⟨_,rfl⟩
  rw [<-hm1,<-hm2,<-hm3]at hw5 tb cP
  rw [<-hm1,<-hm2,<-hm3]
  have ew5:=hw5.symm
  obtain⟨a0,a1,a2,a3,a4⟩:=tb.cells
  clear ht g4 bw4 b4 b5 hOt hw5
  obtain⟨Xhr,Xtb,XcP,Xg5,Xbw5,Xhm1,Xhm2,Xhm3⟩:=HqZ8 hr tb cP g5 bw5 hm1 hm2 hm3;clear hr tb cP g5 bw5 hm1 hm2 hm3
  go_wp2_with fail
  refine XcP.out.mono ?_
  rintro e w6 ⟨b6,vr6,vrow,vrows,vgow,vgows,rfl,hp⟩
  clear a0 a1 a2 a3 a4
  obtain⟨C1,x1,C2,x2,C3,x3,C4,x4,C5,x5,rfl,rfl,rfl,rfl,rfl,-,-,-,-,-⟩:=hp.slices
  obtain⟨q,hq⟩: ∃q,q=packO t:=⟨_,rfl⟩
  rw [<-hq]at hp⊢
  have qb:=PBox.new hp q.terms q.nons
  have hcS:fitT t=true-> ∀W,IsPack W (fun b=>((((F b\/w1.heap.size<=b)/\b<w4.heap.size)\/w5.heap.size<=b)/\b<w6.heap.size)) (.slice C1 q.rules.length x1) (.slice C2 q.row.length x2) (.slice C3 q.rows.length x3) (.slice C4 q.gow.length x4) (.slice C5 q.gows.length x5) q->IsPack W F (.slice A1 n1 c1) (.slice A2 n2 c2) (.slice A3 n3 c3) (.slice A4 n4 c4) (.slice A5 n5 c5) p->Calls Tryz.prog 11 #[PV (.slice A1 n1 c1) T N (.slice A2 n2 c2) (.slice A3 n3 c3) (.slice A4 n4 c4) (.slice A5 n5 c5),PV (.slice C1 q.rules.length x1) q.terms q.nons (.slice C2 q.row.length x2) (.slice C3 q.rows.length x3) (.slice C4 q.gow.length x4) (.slice C5 q.gows.length x5)] W (Quiet W (.bool rP)):=fun hf W hq' hp'=>by
   have e1:q=packT t:=by rw [hq];unfold packO;rw [if_pos hf]
   subst e1
   exact XcS.out W _ _ _ _ _ _ hq' hp' (Xhiff.out Xhr.out hf)
  obtain⟨s1,hs1⟩: ∃n,n=q.rules.length:=⟨_,rfl⟩
  obtain⟨s2,hs2⟩: ∃n,n=q.row.length:=⟨_,rfl⟩
  obtain⟨s3,hs3⟩: ∃n,n=q.rows.length:=⟨_,rfl⟩
  obtain⟨s4,hs4⟩: ∃n,n=q.gow.length:=⟨_,rfl⟩
  obtain⟨s5,hs5⟩: ∃n,n=q.gows.length:=⟨_,rfl⟩
  obtain⟨qT,hqT⟩: ∃n,n=q.terms:=⟨_,rfl⟩
  obtain⟨qN,hqN⟩: ∃n,n=q.nons:=⟨_,rfl⟩
  rw [<-hs1,<-hs2,<-hs3,<-hs4,<-hs5,<-hqT,<-hqN]at qb hcS⊢
  obtain⟨w7,hw7⟩: ∃q,q=w6.alloc (.cells #[.slice C1 s1 x1,.int .i64 qT,.int .i64 qN,.slice C2 s2 x2,.slice C3 s3 x3,.slice C4 s4 x4,.slice C5 s5 x5] 26):=⟨_,rfl⟩
  rw [<-hw7]at qb
  have b7:Below w6.heap.size w6 w7:=by rw [hw7];exact(Below.refl _ _).alloc (Nat.le_refl _) _
  have b67:=b6.trans (b7.mono b6.size)
  have g7:=Xg5.out.below b67
  have bw7:=Xbw5.out.trans (b67.mono Xbw5.out.size)
  have hc7:=fun hf=>hcS hf w7 qb.pk g7.pk
  obtain⟨z0,z1,z2,z3,z4,z5,z6⟩:=g7.cells
  obtain⟨y0,y1,y2,y3,y4,y5,y6⟩:=qb.cells
  have ew7:=hw7.symm
  clear hp b7 b67 hs1 hs2 hs3 hs4 hs5 hqT hqN hcS b6 g7 qb hw7 hq ew5
  cases hf:fitT t with
  |false=>
   have er:rP=false:=by rw [XhRP.out,Xhr.out,hf];rfl
   subst er
   clear hc7
   obtain⟨Xhf,Xbw7⟩:=HqZ2 hf bw7;clear hf bw7
   go_wp2_with fail
   go_ret
   exact⟨rfl,by first|exact Xbw7.out|exact Xbw7.out.drew⟩
  |true=>
   have c7:=hc7 hf
   clear hc7
   obtain⟨Xhf,Xbw7,Xc7⟩:=HqZ3 hf bw7 c7;clear hf bw7 c7
   go_wp2_with fail
   refine Xc7.out.mono ?_
   rintro e w8 ⟨rfl,b8⟩
   have bw8:=Xbw7.out.trans (b8.mono Xbw7.out.size)
   clear b8 z0 z1 z2 z3 z4 z5 z6 y0 y1 y2 y3 y4 y5 y6
   have Xbw8:=hide bw8;clear bw8
   go_wp2_with fail
   go_ret
   exact⟨rfl,by first|exact Xbw8.out|exact Xbw8.out.drew⟩
end Go.Proofs.YtlpipniclimgeaaGreat

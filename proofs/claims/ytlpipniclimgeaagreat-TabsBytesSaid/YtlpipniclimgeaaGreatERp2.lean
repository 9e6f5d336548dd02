/- The reference's tables: may an action be; is a table right. -/
import Derived.Test.YtlpipniclimgeaaGreatEPack5
namespace Go.Proofs.YtlpipniclimgeaaGreat
set_option linter.unusedVariables false
set_option linter.unusedSimpArgs false
open Go.RowKit
attribute [local irreducible] wpStill wpOne wpPh
set_option maxRecDepth 100000 in
set_option maxHeartbeats 4000000 in
theorem ref15_act {A1:Option Addr} {c1:Nat} {A2:Option Addr} {c2:Nat} {A3:Option Addr} {c3 R n m:Nat} (T N:Int) (hR:R<=c1/\c1<=9223372036854775807) (hn:n<=c2/\c2<=9223372036854775807) (a:Ac) (w:World):
  Calls Tryz.prog 46 #[TV (.slice A1 R c1) T N (.slice A2 n c2) (.slice A3 m c3),.agg #[.int .i64 a.1,.int .i64 a.2]] w (Quiet w (.bool (mayA n R a))):=by
 have b2:Below w.heap.size w ((w.alloc (.cells #[.slice A1 R c1,.int .i64 T,.int .i64 N,.slice A2 n c2,.slice A3 m c3] 44)).alloc (.cells #[.int .i64 a.1,.int .i64 a.2] 99)):=((Below.refl _ w).alloc (Nat.le_refl _) _).alloc (by simp) _
 obtain⟨k,x⟩:=a
 simp only at b2⊢
 have m0:=fun h=>may0 (n:=n) (r:=R) (a:=(k,x)) h
 have m1:=fun h=>may1 (n:=n) (r:=R) (a:=(k,x)) h
 have m2:=fun h=>may2 (n:=n) (r:=R) (a:=(k,x)) h
 have m9:=fun h=>may9 (n:=n) (r:=R) (a:=(k,x)) h
 simp only at m0 m1 m2 m9
 generalize mayA n R (k,x)=y at *
 have hw:IntKind.i64.wrap ((R:Int) - 1)=(R:Int) - 1:=by rw [IntKind.wrap_i64];omega
 obtain⟨Xb2,Xm0,Xm1,Xm2,Xm9⟩:=HqZ5 b2 m0 m1 m2 m9;clear b2 m0 m1 m2 m9
 by_cases h0:k=0
 ·subst h0
  have hy:=Xm0.out (.inl rfl)
  have Xhy:=hide hy;clear hy
  go_enter Tryz.func46,Tryz.ntmps46
  go_wp2_with fail
  go_ret
  exact⟨ret_bool (by rw [Xhy.out,Bool.beq_eq_decide_eq]),Xb2.out⟩
 ·have h0':(k==0)=false:=by simpa using h0
  by_cases h3:k=3
  ·subst h3
   have hy:=Xm0.out (.inr rfl)
   have Xhy:=hide hy;clear hy
   go_enter Tryz.func46,Tryz.ntmps46
   go_wp2_with fail
   go_ret
   exact⟨ret_bool (by rw [Xhy.out,Bool.beq_eq_decide_eq]),Xb2.out⟩
  ·have h3':(k==3)=false:=by simpa using h3
   by_cases h1:k=1
   ·subst h1
    have hy:=Xm1.out rfl
    by_cases hx:0<=x
    ·rw [decide_eq_true hx]at hy
     have Xhy:=hide hy;clear hy
     go_enter Tryz.func46,Tryz.ntmps46
     go_wp2_with fail
     go_ret
     exact⟨ret_bool (by rw [Xhy.out];rfl),Xb2.out⟩
    ·rw [decide_eq_false hx]at hy
     have Xhy:=hide hy;clear hy
     go_enter Tryz.func46,Tryz.ntmps46
     go_wp2_with fail
     go_ret
     exact⟨ret_bool (by rw [Xhy.out];rfl),Xb2.out⟩
   ·have h1':(k==1)=false:=by simpa using h1
    by_cases h2:k=2
    ·subst h2
     have hy:=Xm2.out rfl
     by_cases hx:0<=x
     ·rw [decide_eq_true hx]at hy
      have Xhy:=hide hy;clear hy
      go_enter Tryz.func46,Tryz.ntmps46
      go_wp2_with fail
      go_ret
      exact⟨ret_bool (by rw [Xhy.out];rfl),Xb2.out⟩
     ·rw [decide_eq_false hx]at hy
      have Xhy:=hide hy;clear hy
      go_enter Tryz.func46,Tryz.ntmps46
      go_wp2_with fail
      go_ret
      exact⟨ret_bool (by rw [Xhy.out];rfl),Xb2.out⟩
    ·have h2':(k==2)=false:=by simpa using h2
     have hy:=Xm9.out ⟨h0,h1,h2,h3⟩
     have Xhy:=hide hy;clear hy
     go_enter Tryz.func46,Tryz.ntmps46
     go_wp2_with fail
     go_ret
     exact⟨ret_bool Xhy.out.symm,Xb2.out⟩
set_option maxRecDepth 100000 in
set_option maxHeartbeats 8000000 in
theorem ref15_Right {w:World} {F:Nat->Prop} {vr va vg:Value} {t:TabD} (h:IsTab w F vr va vg t):
  Calls Tryz.prog 16 #[TV vr t.terms t.nons va vg] w (Quiet w (.bool (rightT t))):=by
 obtain⟨A1,c1,A2,c2,A3,c3,rfl,rfl,rfl,l1,l2,l3,m1,m2,m3⟩:=h.slices
 obtain⟨tn,nn⟩:=h.tn
 have hF:=h.lt
 have f1:=fun hh=>right_no (t:=t) hh
 have f2:=fun a b c d e=>right_yes (t:=t) a b c d e
 obtain⟨w1,hw1⟩: ∃w1,w1=w.alloc (.cells #[.slice A1 t.rules.length c1,.int .i64 t.terms,.int .i64 t.nons,.slice A2 t.acts.length c2,.slice A3 t.goto.length c3] 44):=⟨_,rfl⟩
 have g1:=TBox.new h t.terms t.nons
 have b1:Below w.heap.size w w1:=by rw [hw1];exact(Below.refl _ w).alloc (Nat.le_refl _) _
 rw [<-hw1]at g1
 have hcm:=fun(a:Ac) wr=>ref15_act (A1:=A1) (c1:=c1) (A2:=A2) (c2:=c2) (A3:=A3) (c3:=c3) (R:=t.rules.length) (n:=t.acts.length) (m:=t.goto.length) t.terms t.nons ⟨l1,m1⟩ ⟨l2,m2⟩ a wr
 obtain⟨q0,q1,q2,q3,q4⟩:=g1.cells
 have wrr:=h.wr
 unfold W64 at tn nn wrr
 generalize hT:t.terms=T at *
 generalize hN:t.nons=N at *
 generalize hn:t.acts.length=n at *
 generalize hR:t.rules.length=R at *
 generalize hm:t.goto.length=m at *
 generalize rightT t=z at *
 clear h hF
 obtain⟨Xf1,Xf2,Xhcm,Xb1,Xg1,Xhn,Xhm,XhR,XhT,XhN,Xwrr⟩:=HqZ11 f1 f2 hcm b1 g1 hn hm hR hT hN wrr;clear f1 f2 hcm b1 g1 hn hm hR hT hN wrr
 by_cases hR0:R=0
 ·subst hR0
  have hz:=Xf1.out (.inl rfl)
  have Xhz:=hide hz;clear hz
  go_enter Tryz.func16,Tryz.ntmps16
  go_wp2_with fail
  rw [<-hw1]
  go_ret
  exact⟨ret_bool Xhz.out.symm,Xb1.out⟩
 ·have hR0':((R:Int)==0)=false:=by simp;omega
  by_cases hn0:n=0
  ·subst hn0
   have hz:=Xf1.out (.inr (.inl rfl))
   have Xhz:=hide hz;clear hz
   go_enter Tryz.func16,Tryz.ntmps16
   go_wp2_with fail
   rw [<-hw1]
   go_ret
   exact⟨ret_bool Xhz.out.symm,Xb1.out⟩
  ·have hn0':((n:Int)==0)=false:=by simp;omega
   by_cases hnm:n=m
   ·subst hnm
    have hnm':((n:Int) !=(n:Int))=false:=by simp
    by_cases hT0:T<0
    ·have hz:=Xf1.out (.inr (.inr (.inr (.inl hT0))))
     have Xhz:=hide hz;clear hz
     go_enter Tryz.func16,Tryz.ntmps16
     go_wp2_with fail
     rw [<-hw1]
     go_ret
     exact⟨ret_bool Xhz.out.symm,Xb1.out⟩
    ·by_cases hN0:N<0
     ·have hz:=Xf1.out (.inr (.inr (.inr (.inr hN0))))
      have Xhz:=hide hz;clear hz
      go_enter Tryz.func16,Tryz.ntmps16
      go_wp2_with fail
      rw [<-hw1]
      go_ret
      exact⟨ret_bool Xhz.out.symm,Xb1.out⟩
     ·have hz:=Xf2.out hR0 hn0 rfl (by omega) (by omega)
      obtain⟨p,rfl⟩: ∃p,R=p+1:=⟨R - 1,by omega⟩
      rw [Nat.add_sub_cancel]at hz
      have hwp:IntKind.i64.wrap (((p+1:Nat):Int) - 1)=(p:Int):=by rw [IntKind.wrap_i64];omega
      have hwp2:IntKind.i64.wrap ((p:Int)+1 - 1)=(p:Int):=by rw [IntKind.wrap_i64];omega
      have hlp:(t.rules.take p).length=p:=by rw [List.length_take,XhR.out];omega
      have h00:((t.rules.take p).take 0).all (leftT T N)=true:=rfl
      have h01:((List.zip t.acts t.goto).take 0).all (rowT T N n (p+1))=true:=rfl
      have lew:Below w1.heap.size w1 w1:=Below.refl _ _
      obtain⟨Xhz,Xhlp,Xh00,Xh01,Xlew⟩:=HqZ5 hz hlp h00 h01 lew;clear hz hlp h00 h01 lew
      go_enter Tryz.func16,Tryz.ntmps16
      go_wp2_with fail
      rw [<-hw1]
      clear hw1
      go_loopw [3] (fun iv wr=> ∃k:Nat,k<=p/\iv= .int .i64 (k:Int)/\Below w1.heap.size w1 wr/\((t.rules.take p).take k).all (leftT T N)=true) (fun iv _=>p - (intOf iv).toNat)
      case atStart=>exact⟨0,Nat.zero_le _,rfl,Xlew.out,Xh00.out⟩
      case round=>
       clear Xh00 Xlew
       obtain⟨k,hk,rfl,le,hall⟩:=hrel
       have g2:=Xg1.out.below le
       by_cases hlk:k<p
       ·have hlk':(k:Int)<(p:Int):=by omega
        obtain⟨-,-,-,hcell⟩:=ERule.at_ g2.tab.rules
        obtain⟨b4,o4,rfl,-,hcc⟩:=hcell (by omega)
        obtain⟨r,hr⟩: ∃r,t.rules[k]? =some r:=⟨_,List.getElem?_eq_getElem (by rw [XhR.out];omega)⟩
        obtain⟨v,a0,a1,hv⟩:=hcc k r hr
        obtain⟨A5,n5,c5,rfl,-⟩:=hv
        have hrt:(t.rules.take p)[k]? =some r:=by rw [List.getElem?_take_of_lt hlk];exact hr
        have hwr:=Xwrr.out r (List.mem_of_getElem? hr)
        obtain⟨q0,q1,q2,q3,q4⟩:=g2.cells
        have hlt0:leftT T N r=(decide (T<r.1)&&decide (r.1 - T<=N)):=rfl
        obtain⟨rl,rr⟩:=r
        simp only at a0 a1 q0 q1 q2 q3 q4 hwr hlt0
        have hlp1:(k:Int)<(p:Int)+1:=by omega
        have hlp2:k<p+1:=by omega
        have leD:=le.drew
        clear hcell hcc g2 hr le
        by_cases h1:T<rl
        ·have hw2:IntKind.i64.wrap (rl - T)=rl - T:=by rw [IntKind.wrap_i64];omega
         have h1': ¬rl<=T:=by omega
         by_cases h2:rl - T<=N
         ·have h2': ¬N<rl - T:=by omega
          have hy:=all_upto hrt hall (by rw [hlt0,decide_eq_true h1,decide_eq_true h2];rfl)
          obtain⟨XleD,Xhy,Xhall,Xhrt,Xhlt0,Xhwr⟩:=HqZ6 leD hy hall hrt hlt0 hwr;clear leD hy hall hrt hlt0 hwr
          go_wp2_with fail
          refine region_reads (by kernel_rfl) (by kernel_rfl) ?_
          repeat still_step
          refine wpStill_nil ?_
          go_wp2_with fail
          go_wp2_with fail
          go_roundw
          case rel=>exact⟨k+1,by omega,by go_num,XleD.out,Xhy.out⟩
          case measure=>simp [intOf];omega
         ·have h2':N<rl - T:=by omega
          have hno:=all_no' (p:=leftT T N) hrt (by rw [hlt0,decide_eq_false h2,Bool.and_false])
          have bfin:=Xb1.out.trans (leD.mono Xb1.out.size)
          obtain⟨XleD,Xhno,Xhall,Xhrt,Xhlt0,Xhwr,Xbfin⟩:=HqZ7 leD hno hall hrt hlt0 hwr bfin;clear leD hno hall hrt hlt0 hwr bfin
          go_wp2_with fail
          refine region_reads (by kernel_rfl) (by kernel_rfl) ?_
          repeat still_step
          refine wpStill_nil ?_
          go_wp2_with fail
          go_wp2_with fail
          go_ret
          exact⟨ret_bool (by rw [Xhz.out,Xhno.out];rfl),Xbfin.out⟩
        ·have h1':rl<=T:=by omega
         have hno:=all_no' (p:=leftT T N) hrt (by rw [hlt0,decide_eq_false h1];rfl)
         have bfin:=Xb1.out.trans (leD.mono Xb1.out.size)
         obtain⟨XleD,Xhno,Xhall,Xhrt,Xhlt0,Xhwr,Xbfin⟩:=HqZ7 leD hno hall hrt hlt0 hwr bfin;clear leD hno hall hrt hlt0 hwr bfin
         go_wp2_with fail
         refine region_reads (by kernel_rfl) (by kernel_rfl) ?_
         repeat still_step
         refine wpStill_nil ?_
         go_wp2_with fail
         go_wp2_with fail
         go_ret
         exact⟨ret_bool (by rw [Xhz.out,Xhno.out];rfl),Xbfin.out⟩
       ·have hlk': ¬(k:Int)<(p:Int):=by omega
        have halr:=all_end hall (by rw [Xhlp.out];omega)
        obtain⟨q0,q1,q2,q3,q4⟩:=g2.cells
        clear hall g2
        obtain⟨Xhalr,Xle⟩:=HqZ2 halr le;clear halr le
        go_wp2_with fail
        go_loopw [4] (fun iv wr=> ∃k:Nat,k<=n/\iv= .int .i64 (k:Int)/\Below w1.heap.size w1 wr/\((List.zip t.acts t.goto).take k).all (rowT T N n (p+1))=true) (fun iv _=>n - (intOf iv).toNat)
        case atStart=>exact⟨0,Nat.zero_le _,rfl,Xle.out,Xh01.out⟩
        case round=>
         clear Xle Xh01 q0 q1 q2 q3 q4
         obtain⟨i,hi,rfl,le,hall⟩:=hrel
         have g2:=Xg1.out.below le
         by_cases hli:i<n
         ·have hli':(i:Int)<(n:Int):=by omega
          obtain⟨x,hx⟩: ∃x,t.acts[i]? =some x:=⟨_,List.getElem?_eq_getElem (by rw [Xhn.out];exact hli)⟩
          obtain⟨y,hy⟩: ∃y,t.goto[i]? =some y:=⟨_,List.getElem?_eq_getElem (by rw [Xhm.out];exact hli)⟩
          have hxy:(List.zip t.acts t.goto)[i]? =some (x,y):=by rw [List.getElem?_zip_eq_some];exact⟨hx,hy⟩
          obtain⟨ba,oa,A4,c4,hA2,hFa,p4,rx,l4,m4⟩:=RdAs.row g2.tab.acts hx
          obtain⟨bg,og,A5,c5,hA3,hFg,p5,ry,l5,m5⟩:=RdIs.row g2.tab.goto hy
          have F1:=g2.tab.lt
          subst hA2 hA3
          have r1:=fun hh=>rowT_head (T:=T) (N:=N) (n:=n) (r:=p+1) (x:=x) (y:=y) hh
          have r2:=fun a b c=>rowT_body (T:=T) (N:=N) (n:=n) (r:=p+1) (x:=x) (y:=y) a b c
          obtain⟨q0,q1,q2,q3,q4⟩:=g2.cells
          have leD:=le.drew
          have bfin:=Xb1.out.trans (leD.mono Xb1.out.size)
          generalize hxl:x.length=xl at *
          generalize hyl:y.length=yl at *
          unfold maxLen at m4 m5
          have hwx:IntKind.i64.wrap ((xl:Int) - 1)=(xl:Int) - 1:=by rw [IntKind.wrap_i64];omega
          have bfV:=Xb1.out.trans (le.mono Xb1.out.size)
          have leV:=le
          obtain⟨V,rfl⟩: ∃q,q=wr:=⟨_,rfl⟩
          clear hx hy g2 hFa hFg
          by_cases h0:xl=0
          ·subst h0
           have hno:=all_no' hxy (r1 (.inl rfl))
           obtain⟨Xle,XleD,Xhno,Xhall,Xhxy,Xr1,Xr2,Xrx,Xry,XF1,Xbfin,Xhyl,Xhxl⟩:=HqZ13 le leD hno hall hxy r1 r2 rx ry F1 bfin hyl hxl;clear le leD hno hall hxy r1 r2 rx ry F1 bfin hyl hxl
           go_wp2_with fail
           refine region_reads (by kernel_rfl) (by kernel_rfl) ?_
           repeat still_step
           refine wpStill_nil ?_
           go_wp2_with fail
           go_wp2_with fail
           go_ret
           exact⟨ret_bool (by rw [Xhz.out,Xhno.out,Bool.and_false]),Xbfin.out⟩
          ·have h0': ¬(xl:Int)<1:=by omega
           by_cases h1:(xl:Int) - 1=T
           ·have e1:((xl:Int) - 1 !=T)=false:=by simp [h1]
            by_cases h2:(yl:Int)=N
            ·have e2:((yl:Int) !=N)=false:=by simp [h2]
             have r3:=r2 h0 h1 h2
             have g00:(x.take 0).all (mayA n (p+1))=true:=rfl
             have g01:(y.take 0).all (wayA n)=true:=rfl
             have lz:Below V.heap.size V V.drew:=(Below.refl _ _).drew
             clear r1 r2
             obtain⟨Xle,XleD,Xhall,Xhxy,Xr3,Xrx,Xry,XF1,Xbfin,Xhyl,Xhxl,Xh1,Xh2,Xg00⟩:=HqZ14 le leD hall hxy r3 rx ry F1 bfin hyl hxl h1 h2 g00;obtain⟨Xg01,Xlz,XbfV,XleV⟩:=HqZ4 g01 lz bfV leV;clear le leD hall hxy r3 rx ry F1 bfin hyl hxl h1 h2 g00 g01 lz bfV leV
             go_wp2_with fail
             refine region_reads (by kernel_rfl) (by kernel_rfl) ?_
             repeat still_step
             refine wpStill_nil ?_
             go_wp2_with fail
             go_wp2_with fail
             go_loopw [5] (fun jv wr=> ∃k:Nat,k<=xl/\jv= .int .i64 (k:Int)/\Below V.heap.size V wr/\(x.take k).all (mayA n (p+1))=true) (fun jv _=>xl - (intOf jv).toNat)
             case atStart=>exact⟨0,Nat.zero_le _,rfl,Xlz.out,Xg00.out⟩
             case round=>
              clear Xg00 Xlz
              obtain⟨j,hj,rfl,ld,hal⟩:=hrel
              have q0:=up_cell ld q0
              have q1:=up_cell ld q1
              have q2:=up_cell ld q2
              have q3:=up_cell ld q3
              have q4:=up_cell ld q4
              have p4:=up_cell ld p4
              have p5:=up_cell ld p5
              by_cases hlj:j<xl
              ·have hlj':(j:Int)<(xl:Int):=by omega
               have rk:=Rd.below Xrx.out ld XF1.out
               obtain⟨-,-,-,hcell⟩:=RdIt.at_ rk
               obtain⟨b4,o4,rfl,-,hcc⟩:=hcell (by omega)
               obtain⟨a,ha⟩: ∃a,x[j]? =some a:=⟨_,List.getElem?_eq_getElem (by rw [Xhxl.out];exact hlj)⟩
               obtain⟨a0,a1⟩:=hcc j a ha
               have cm:=Xhcm.out a wr.drew
               obtain⟨r,hr⟩: ∃r,r=mayA n (p+1) a:=⟨_,rfl⟩
               rw [<-hr]at cm
               obtain⟨ak,an⟩:=a
               simp only at a0 a1 cm
               have ldD:=ld.drew
               clear rk hcell hcc ld
               cases r with
               |true=>
                have hal2:=all_upto ha hal hr.symm
                obtain⟨XldD,Xcm,Xhal2,Xha,Xhal,Xhr⟩:=HqZ6 ldD cm hal2 ha hal hr;clear ldD cm hal2 ha hal hr
                go_wp2_with fail
                refine region_tail 9 (by kernel_rfl) (by kernel_rfl) ?_
                simp only [List.take_succ_cons,List.take_zero,List.drop_succ_cons,List.drop_zero]
                repeat still_step
                refine wpStill_nil ?_
                go_wp2_with fail
                refine Xcm.out.mono ?_
                rintro e w3 ⟨rfl,b3⟩
                have ld3:=XldD.out.trans (b3.mono XldD.out.size)
                clear b3 Xcm XldD q0 q1 q2 q3 q4 a0 a1
                have Xld3:=hide ld3;clear ld3
                go_wp2_with fail
                go_roundw
                case rel=>exact⟨j+1,by omega,by go_num,Xld3.out,Xhal2.out⟩
                case measure=>simp [intOf];omega
               |false=>
                have hal2:=all_no' ha hr.symm
                obtain⟨XldD,Xcm,Xhal2,Xha,Xhal,Xhr⟩:=HqZ6 ldD cm hal2 ha hal hr;clear ldD cm hal2 ha hal hr
                go_wp2_with fail
                refine region_tail 9 (by kernel_rfl) (by kernel_rfl) ?_
                simp only [List.take_succ_cons,List.take_zero,List.drop_succ_cons,List.drop_zero]
                repeat still_step
                refine wpStill_nil ?_
                go_wp2_with fail
                refine Xcm.out.mono ?_
                rintro e w3 ⟨rfl,b3⟩
                have ld3:=XldD.out.trans (b3.mono XldD.out.size)
                have bf3:=XbfV.out.trans (ld3.mono XbfV.out.size)
                have hno:=all_no' (p:=rowT T N n (p+1)) Xhxy.out (by rw [Xr3.out,Xhal2.out];rfl)
                clear b3 Xcm XldD q0 q1 q2 q3 q4 a0 a1
                obtain⟨Xbf3,Xhno⟩:=HqZ2 bf3 hno;clear bf3 hno
                go_wp2_with fail
                go_ret
                exact⟨ret_bool (by rw [Xhz.out,Xhno.out,Bool.and_false]),Xbf3.out⟩
              ·have hlj': ¬(j:Int)<(xl:Int):=by omega
               have hax:=all_end hal (by rw [Xhxl.out];omega)
               obtain⟨V2,rfl⟩: ∃q,q=wr:=⟨_,rfl⟩
               have lz:Below V2.heap.size V2 V2:=Below.refl _ _
               clear hal
               obtain⟨Xhax,Xld,Xlz⟩:=HqZ3 hax ld lz;clear hax ld lz
               go_wp2_with fail
               go_loopw [6] (fun jv wr=> ∃k:Nat,k<=yl/\jv= .int .i64 (k:Int)/\Below V2.heap.size V2 wr/\(y.take k).all (wayA n)=true) (fun jv _=>yl - (intOf jv).toNat)
               case atStart=>exact⟨0,Nat.zero_le _,rfl,Xlz.out,Xg01.out⟩
               case round=>
                clear Xg01 Xlz
                obtain⟨s,hs,rfl,lf,hal⟩:=hrel
                have q0:=up_cell lf q0
                have q1:=up_cell lf q1
                have q2:=up_cell lf q2
                have q3:=up_cell lf q3
                have q4:=up_cell lf q4
                have p4:=up_cell lf p4
                have p5:=up_cell lf p5
                have lg:=Xld.out.trans (lf.mono Xld.out.size)
                by_cases hls:s<yl
                ·have hls':(s:Int)<(yl:Int):=by omega
                 have rk:=Rd.below Xry.out lg XF1.out
                 obtain⟨-,-,-,hcell⟩:=RdI.at_ rk
                 obtain⟨b4,o4,rfl,-,hcc⟩:=hcell (by omega)
                 obtain⟨a,ha⟩: ∃a,y[s]? =some a:=⟨_,List.getElem?_eq_getElem (by rw [Xhyl.out];exact hls)⟩
                 have a0:=hcc s a ha
                 have hwa:wayA n a=(decide (-1<=a)&&decide (a<(n:Int))):=rfl
                 have lfD:=lf.drew
                 have lgD:=lg.drew
                 have bf3:=XbfV.out.trans (lgD.mono XbfV.out.size)
                 clear rk hcell hcc lf lg
                 by_cases g1:a< -1
                 ·have hno:=all_no' (p:=rowT T N n (p+1)) Xhxy.out (by rw [Xr3.out,all_no' (p:=wayA n) ha (by rw [hwa,decide_eq_false (by omega)];rfl),Bool.and_false])
                  obtain⟨Xhno,Xha,Xhal,Xbf3,Xhwa,XlfD,XlgD⟩:=HqZ7 hno ha hal bf3 hwa lfD lgD;clear hno ha hal bf3 hwa lfD lgD
                  go_wp2_with fail
                  refine region_reads (by kernel_rfl) (by kernel_rfl) ?_
                  repeat still_step
                  refine wpStill_nil ?_
                  go_wp2_with fail
                  go_wp2_with fail
                  go_ret
                  exact⟨ret_bool (by rw [Xhz.out,Xhno.out,Bool.and_false]),Xbf3.out⟩
                 ·by_cases g2:a<(n:Int)
                  ·have g2': ¬(n:Int)<=a:=by omega
                   have hal2:=all_upto ha hal (by rw [hwa,decide_eq_true (by omega),decide_eq_true g2];rfl)
                   obtain⟨Xhal2,Xha,Xhal,Xhwa,XlfD,XlgD,Xbf3⟩:=HqZ7 hal2 ha hal hwa lfD lgD bf3;clear hal2 ha hal hwa lfD lgD bf3
                   go_wp2_with fail
                   refine region_reads (by kernel_rfl) (by kernel_rfl) ?_
                   repeat still_step
                   refine wpStill_nil ?_
                   go_wp2_with fail
                   go_wp2_with fail
                   go_roundw
                   case rel=>exact⟨s+1,by omega,by go_num,XlfD.out,Xhal2.out⟩
                   case measure=>simp [intOf];omega
                  ·have g2':(n:Int)<=a:=by omega
                   have hno:=all_no' (p:=rowT T N n (p+1)) Xhxy.out (by rw [Xr3.out,all_no' (p:=wayA n) ha (by rw [hwa,decide_eq_false g2,Bool.and_false]),Bool.and_false])
                   obtain⟨Xhno,Xha,Xhal,Xbf3,Xhwa,XlfD,XlgD⟩:=HqZ7 hno ha hal bf3 hwa lfD lgD;clear hno ha hal bf3 hwa lfD lgD
                   go_wp2_with fail
                   refine region_reads (by kernel_rfl) (by kernel_rfl) ?_
                   repeat still_step
                   refine wpStill_nil ?_
                   go_wp2_with fail
                   go_wp2_with fail
                   go_ret
                   exact⟨ret_bool (by rw [Xhz.out,Xhno.out,Bool.and_false]),Xbf3.out⟩
                ·have hls': ¬(s:Int)<(yl:Int):=by omega
                 have hay:=all_end hal (by rw [Xhyl.out];omega)
                 have hyes:=all_upto (p:=rowT T N n (p+1)) Xhxy.out Xhall.out (by rw [Xr3.out,Xhax.out,hay];rfl)
                 have le3:=XleV.out.trans (lg.mono XleV.out.size)
                 clear hal hay lf lg
                 obtain⟨Xhyes,Xle3⟩:=HqZ2 hyes le3;clear hyes le3
                 go_wp2_with fail
                 go_roundw
                 case rel=>exact⟨i+1,by omega,by go_num,Xle3.out,Xhyes.out⟩
                 case measure=>simp [intOf];omega
            ·have e2:((yl:Int) !=N)=true:=by simpa using h2
             have hno:=all_no' hxy (r1 (.inr (.inr h2)))
             clear r1 r2
             obtain⟨Xle,XleD,Xhno,Xhall,Xhxy,Xrx,Xry,XF1,Xbfin,Xhyl,Xhxl,Xh1,Xh2⟩:=HqZ13 le leD hno hall hxy rx ry F1 bfin hyl hxl h1 h2;clear le leD hno hall hxy rx ry F1 bfin hyl hxl h1 h2
             go_wp2_with fail
             refine region_reads (by kernel_rfl) (by kernel_rfl) ?_
             repeat still_step
             refine wpStill_nil ?_
             go_wp2_with fail
             go_wp2_with fail
             go_ret
             exact⟨ret_bool (by rw [Xhz.out,Xhno.out,Bool.and_false]),Xbfin.out⟩
           ·have e1:((xl:Int) - 1 !=T)=true:=by simpa using h1
            have hno:=all_no' hxy (r1 (.inr (.inl h1)))
            clear r1 r2
            obtain⟨Xle,XleD,Xhno,Xhall,Xhxy,Xrx,Xry,XF1,Xbfin,Xhyl,Xhxl,Xh1⟩:=HqZ12 le leD hno hall hxy rx ry F1 bfin hyl hxl h1;clear le leD hno hall hxy rx ry F1 bfin hyl hxl h1
            go_wp2_with fail
            refine region_reads (by kernel_rfl) (by kernel_rfl) ?_
            repeat still_step
            refine wpStill_nil ?_
            go_wp2_with fail
            go_wp2_with fail
            go_ret
            exact⟨ret_bool (by rw [Xhz.out,Xhno.out,Bool.and_false]),Xbfin.out⟩
         ·have hli': ¬(i:Int)<(n:Int):=by omega
          have hyes:=all_end hall (by rw [List.length_zip,Xhn.out,Xhm.out];omega)
          have bfin:=Xb1.out.trans (le.mono Xb1.out.size)
          obtain⟨q0,q1,q2,q3,q4⟩:=g2.cells
          clear g2 hall
          obtain⟨Xle,Xhyes,Xbfin⟩:=HqZ3 le hyes bfin;clear le hyes bfin
          go_wp2_with fail
          go_ret
          exact⟨ret_bool (by rw [Xhz.out,Xhalr.out,Xhyes.out];rfl),Xbfin.out⟩
   ·have hnm':((m:Int) !=(n:Int))=true:=by simp;omega
    have hz:=Xf1.out (.inr (.inr (.inl hnm)))
    have Xhz:=hide hz;clear hz
    go_enter Tryz.func16,Tryz.ntmps16
    go_wp2_with fail
    rw [<-hw1]
    go_ret
    exact⟨ret_bool Xhz.out.symm,Xb1.out⟩
end Go.Proofs.YtlpipniclimgeaaGreat

/- Tables in memory: is one right; the action of a place; where a nonterminal leads. -/
import Derived.Test.YthlbjgabhpdbfaaGreatAActs4
import Derived.Test.YthlbjgabhpdbfaaGreatAActs1
import Derived.Shelf.Abstract
namespace Go.Proofs.YthlbjgabhpdbfaaGreat
set_option linter.unusedVariables false
set_option linter.unusedSimpArgs false
open Go.RowKit
attribute [local irreducible] wpStill wpOne wpPh
theorem right_no {t:TabD} (h:t.rules.length=0\/t.acts.length=0\/t.acts.length≠t.goto.length\/t.terms<0\/t.nons<0):rightT t=false:=by
 have:headT t=false:=by
  unfold headT
  rcases h with h|h|h|h|h
  ·simp [h]
  ·simp [h]
  ·simp [h]
  ·have: ¬0<=t.terms:=by omega
   simp [this]
  ·have: ¬0<=t.nons:=by omega
   simp [this]
 unfold rightT
 rw [this];rfl
theorem right_yes {t:TabD} (h1: ¬t.rules.length=0) (h2: ¬t.acts.length=0) (h3:t.acts.length=t.goto.length) (h4:0<=t.terms) (h5:0<=t.nons):rightT t=((t.rules.take (t.rules.length - 1)).all (leftT t.terms t.nons)&&(List.zip t.acts t.goto).all (rowT t.terms t.nons t.acts.length t.rules.length)):=by
 unfold rightT headT
 rw [decide_eq_false h1,decide_eq_false h2,decide_eq_true h3,decide_eq_true h4,decide_eq_true h5];rfl
set_option maxRecDepth 100000 in
set_option maxHeartbeats 4000000 in
theorem acts_Right {w:World} {F:Nat->Prop} {vr va vg:Value} {t:TabD} (h:IsTab w F vr va vg t):
  Calls Tryz.prog 21 #[TV vr t.terms t.nons va vg] w (Quiet w (.bool (rightT t))):=by
 obtain⟨A1,c1,A2,c2,A3,c3,rfl,rfl,rfl,l1,l2,l3,m1,m2,m3⟩:=h.slices
 obtain⟨tn,nn⟩:=h.tn
 have hF:=h.lt
 have f1:=fun hh=>right_no (t:=t) hh
 have f2:=fun a b c d e=>right_yes (t:=t) a b c d e
 obtain⟨w1,hw1⟩: ∃w1,w1=w.alloc (.cells #[.slice A1 t.rules.length c1,.int .i64 t.terms,.int .i64 t.nons,.slice A2 t.acts.length c2,.slice A3 t.goto.length c3] 35):=⟨_,rfl⟩
 have g1:=TBox.new h t.terms t.nons
 have b1:Below w.heap.size w w1:=by rw [hw1];exact(Below.refl _ w).alloc (Nat.le_refl _) _
 rw [<-hw1]at g1
 have cr:=fun wr (g:TBox wr F w.heap.size A1 c1 A2 c2 A3 c3 t.rules.length t.acts.length t.goto.length t.terms t.nons t) (i:Nat) x y (hx:t.acts[i]? =some x) (hy:t.goto[i]? =some y)=>acts_row g.tab hx hy
 obtain⟨q0,q1,q2,q3,q4⟩:=g1.cells
 have wrr:=h.wr
 unfold W64 at tn nn wrr
 generalize hT:t.terms=T at *
 generalize hN:t.nons=N at *
 generalize hn:t.acts.length=n at *
 generalize hR:t.rules.length=R at *
 generalize hm:t.goto.length=m at *
 generalize rightT t=z at *
 clear h hF
 obtain⟨Xf1,Xf2,Xcr,Xb1,Xg1,Xhn,Xhm,XhR,XhT,XhN,Xwrr⟩:=HqZ11 f1 f2 cr b1 g1 hn hm hR hT hN wrr;clear f1 f2 cr b1 g1 hn hm hR hT hN wrr
 by_cases hR0:R=0
 ·subst hR0
  have hz:=Xf1.out (.inl rfl)
  have Xhz:=hide hz;clear hz
  go_enter Tryz.func21,Tryz.ntmps21
  go_wp2_with fail
  rw [<-hw1]
  go_ret
  exact⟨ret_bool Xhz.out.symm,Xb1.out⟩
 ·have hR0':((R:Int)==0)=false:=by simp;omega
  by_cases hn0:n=0
  ·subst hn0
   have hz:=Xf1.out (.inr (.inl rfl))
   have Xhz:=hide hz;clear hz
   go_enter Tryz.func21,Tryz.ntmps21
   go_wp2_with fail
   rw [<-hw1]
   go_ret
   exact⟨ret_bool Xhz.out.symm,Xb1.out⟩
  ·have hn0':((n:Int)==0)=false:=by simp;omega
   by_cases hnm:n=m
   ·subst hnm
    have hnm':((n:Int) !=(n:Int))=false:=by simp
    by_cases hT0:T<0
    ·have hz:=Xf1.out (.inr (.inr (.inr (.inl hT0))))
     have Xhz:=hide hz;clear hz
     go_enter Tryz.func21,Tryz.ntmps21
     go_wp2_with fail
     rw [<-hw1]
     go_ret
     exact⟨ret_bool Xhz.out.symm,Xb1.out⟩
    ·by_cases hN0:N<0
     ·have hz:=Xf1.out (.inr (.inr (.inr (.inr hN0))))
      have Xhz:=hide hz;clear hz
      go_enter Tryz.func21,Tryz.ntmps21
      go_wp2_with fail
      rw [<-hw1]
      go_ret
      exact⟨ret_bool Xhz.out.symm,Xb1.out⟩
     ·have hz:=Xf2.out hR0 hn0 rfl (by omega) (by omega)
      obtain⟨p,rfl⟩: ∃p,R=p+1:=⟨R - 1,by omega⟩
      rw [Nat.add_sub_cancel]at hz
      have hwp:IntKind.i64.wrap (((p+1:Nat):Int) - 1)=(p:Int):=by rw [IntKind.wrap_i64];omega
      have hwp2:IntKind.i64.wrap ((p:Int)+1 - 1)=(p:Int):=by rw [IntKind.wrap_i64];omega
      have hpc:(p:Int)<=(c1:Int):=by omega
      have hp0:(0:Int)<=(p:Int):=by omega
      have hlp:(t.rules.take p).length=p:=by rw [List.length_take,XhR.out];omega
      have h00:((t.rules.take p).take 0).all (leftT T N)=true:=rfl
      have h01:((List.zip t.acts t.goto).take 0).all (rowT T N n (p+1))=true:=rfl
      have lew:Below w1.heap.size w1 w1:=Below.refl _ _
      obtain⟨Xhz,Xhlp,Xh00,Xh01,Xlew⟩:=HqZ5 hz hlp h00 h01 lew;clear hz hlp h00 h01 lew
      go_enter Tryz.func21,Tryz.ntmps21
      go_wp2_with fail
      rw [<-hw1]
      clear hw1
      go_loopw [43] (fun iv wr=> ∃k:Nat,k<=p/\iv= .int .i64 (k:Int)/\Below w1.heap.size w1 wr/\((t.rules.take p).take k).all (leftT T N)=true) (fun iv _=>p - (intOf iv).toNat)
      case atStart=>exact⟨0,Nat.zero_le _,rfl,Xlew.out,Xh00.out⟩
      case round=>
       clear Xh00 Xlew
       obtain⟨k,hk,rfl,le,hall⟩:=hrel
       have g2:=Xg1.out.below le
       by_cases hlk:k<p
       ·have hlk':(k:Int)<(p:Int):=by omega
        obtain⟨-,-,-,hcell⟩:=ERule.at_ g2.tab.rules
        obtain⟨b4,o4,rfl,-,hcc⟩:=hcell (by omega)
        obtain⟨r,hr⟩: ∃r,t.rules[k]? =some r:=⟨_,List.getElem?_eq_getElem (by rw [XhR.out];omega)⟩
        obtain⟨v,a0,a1,hv⟩:=hcc k r hr
        obtain⟨A5,n5,c5,rfl,-⟩:=hv
        have hrt:(t.rules.take p)[k]? =some r:=by rw [List.getElem?_take_of_lt hlk];exact hr
        have hwr:=Xwrr.out r (List.mem_of_getElem? hr)
        have al:Below wr.heap.size wr (wr.alloc (.cells #[.int .i64 r.1,.slice A5 n5 c5] 98)):=(Below.refl _ _).alloc (Nat.le_refl _) _
        have kA:Blk (wr.alloc (.cells #[.int .i64 r.1,.slice A5 n5 c5] 98)) wr.heap.size 98 #[.int .i64 r.1,.slice A5 n5 c5]:=Blk.new _ _ _
        have leA:=le.trans (al.mono le.size)
        obtain⟨q0,q1,q2,q3,q4⟩:=(g2.below al).cells
        have f0:=(kA.cell 0).trans rfl
        have f1:=(kA.cell 1).trans rfl
        have hlt0:leftT T N r=(decide (T<r.1)&&decide (r.1 - T<=N)):=rfl
        obtain⟨rl,rr⟩:=r
        simp only at a0 a1 f0 f1 leA q0 q1 q2 q3 q4 hwr hlt0
        clear hcell hcc al kA g2 le hr
        by_cases h1:T<rl
        ·have hw2:IntKind.i64.wrap (rl - T)=rl - T:=by rw [IntKind.wrap_i64];omega
         have h1': ¬rl<=T:=by omega
         by_cases h2:rl - T<=N
         ·have h2': ¬N<rl - T:=by omega
          have hy:=all_upto hrt hall (by rw [hlt0,decide_eq_true h1,decide_eq_true h2];rfl)
          obtain⟨XleA,Xhy,Xhall,Xhrt,Xhlt0,Xhwr⟩:=HqZ6 leA hy hall hrt hlt0 hwr;clear leA hy hall hrt hlt0 hwr
          go_wp2_with fail
          go_roundw
          case rel=>exact⟨k+1,by omega,by go_num,XleA.out,Xhy.out⟩
          case measure=>simp [intOf];omega
         ·have h2':N<rl - T:=by omega
          have hno:=all_no' (p:=leftT T N) hrt (by rw [hlt0,decide_eq_false h2,Bool.and_false])
          have bfin:=Xb1.out.trans (leA.mono Xb1.out.size)
          obtain⟨XleA,Xhno,Xhall,Xhrt,Xhlt0,Xhwr,Xbfin⟩:=HqZ7 leA hno hall hrt hlt0 hwr bfin;clear leA hno hall hrt hlt0 hwr bfin
          go_wp2_with fail
          go_ret
          exact⟨ret_bool (by rw [Xhz.out,Xhno.out];rfl),Xbfin.out⟩
        ·have h1':rl<=T:=by omega
         have hno:=all_no' (p:=leftT T N) hrt (by rw [hlt0,decide_eq_false h1];rfl)
         have bfin:=Xb1.out.trans (leA.mono Xb1.out.size)
         obtain⟨XleA,Xhno,Xhall,Xhrt,Xhlt0,Xhwr,Xbfin⟩:=HqZ7 leA hno hall hrt hlt0 hwr bfin;clear leA hno hall hrt hlt0 hwr bfin
         go_wp2_with fail
         go_ret
         exact⟨ret_bool (by rw [Xhz.out,Xhno.out];rfl),Xbfin.out⟩
       ·have hlk': ¬(k:Int)<(p:Int):=by omega
        have halr:=all_end hall (by rw [Xhlp.out];omega)
        obtain⟨q0,q1,q2,q3,q4⟩:=g2.cells
        clear hall g2
        obtain⟨Xhalr,Xle⟩:=HqZ2 halr le;clear halr le
        go_wp2_with fail
        go_loopw [66] (fun iv wr=> ∃k:Nat,k<=n/\iv= .int .i64 (k:Int)/\Below w1.heap.size w1 wr/\((List.zip t.acts t.goto).take k).all (rowT T N n (p+1))=true) (fun iv _=>n - (intOf iv).toNat)
        case atStart=>exact⟨0,Nat.zero_le _,rfl,Xle.out,Xh01.out⟩
        case round=>
         clear Xle Xh01 q0 q1 q2 q3 q4
         obtain⟨i,hi,rfl,le,hall⟩:=hrel
         have g2:=Xg1.out.below le
         by_cases hli:i<n
         ·have hli':(i:Int)<(n:Int):=by omega
          obtain⟨x,hx⟩: ∃x,t.acts[i]? =some x:=⟨_,List.getElem?_eq_getElem (by rw [Xhn.out];exact hli)⟩
          obtain⟨y,hy⟩: ∃y,t.goto[i]? =some y:=⟨_,List.getElem?_eq_getElem (by rw [Xhm.out];exact hli)⟩
          have hxy:(List.zip t.acts t.goto)[i]? =some (x,y):=by rw [List.getElem?_zip_eq_some];exact⟨hx,hy⟩
          have cc:=Xcr.out wr g2 i x y hx hy
          obtain⟨r,hr⟩: ∃r,r=rowT T N n (p+1) (x,y):=⟨_,rfl⟩
          rw [<-hr]at cc
          obtain⟨q0,q1,q2,q3,q4⟩:=g2.cells
          clear hx hy g2
          cases r with
          |true=>
           have hyes:=all_upto hxy hall hr.symm
           obtain⟨Xle,Xcc,Xhyes,Xhall,Xhxy,Xhr⟩:=HqZ6 le cc hyes hall hxy hr;clear le cc hyes hall hxy hr
           go_wp2_with fail
           refine Xcc.out.mono ?_
           rintro e w3 ⟨rfl,b3⟩
           have le3:=Xle.out.trans (b3.mono Xle.out.size)
           clear b3 Xcc Xle q0 q1 q2 q3 q4
           have Xle3:=hide le3;clear le3
           go_wp2_with fail
           go_roundw
           case rel=>exact⟨i+1,by omega,by go_num,Xle3.out,Xhyes.out⟩
           case measure=>simp [intOf];omega
          |false=>
           have hno:=all_no' hxy hr.symm
           obtain⟨Xle,Xcc,Xhno,Xhall,Xhxy,Xhr⟩:=HqZ6 le cc hno hall hxy hr;clear le cc hno hall hxy hr
           go_wp2_with fail
           refine Xcc.out.mono ?_
           rintro e w3 ⟨rfl,b3⟩
           have le3:=Xle.out.trans (b3.mono Xle.out.size)
           have bfin:=Xb1.out.trans (le3.mono Xb1.out.size)
           clear b3 Xcc Xle q0 q1 q2 q3 q4
           obtain⟨Xle3,Xbfin⟩:=HqZ2 le3 bfin;clear le3 bfin
           go_wp2_with fail
           go_ret
           exact⟨ret_bool (by rw [Xhz.out,Xhno.out,Bool.and_false]),Xbfin.out⟩
         ·have hli': ¬(i:Int)<(n:Int):=by omega
          have halz:=all_end hall (by rw [List.length_zip,Xhn.out,Xhm.out];omega)
          have bfin:=Xb1.out.trans (le.mono Xb1.out.size)
          clear hall g2
          obtain⟨Xhalz,Xle,Xbfin⟩:=HqZ3 halz le bfin;clear halz le bfin
          go_wp2_with fail
          go_ret
          exact⟨ret_bool (by rw [Xhz.out,Xhalr.out,Xhalz.out];rfl),Xbfin.out⟩
   ·have hz:=Xf1.out (.inr (.inr (.inl hnm)))
    have hnm':((n:Int) !=(m:Int))=true:=by simp;omega
    have Xhz:=hide hz;clear hz
    go_enter Tryz.func21,Tryz.ntmps21
    go_wp2_with fail
    rw [<-hw1]
    go_ret
    exact⟨ret_bool Xhz.out.symm,Xb1.out⟩
theorem act_no {t:TabD} {i k:Int} (h:i<0\/(t.acts.length:Int)<=i\/k<0):actT t i k=(0,0):=if_pos h
theorem act_out {t:TabD} {i:Nat} {k:Int} {x:List Ac} (hx:t.acts[i]? =some x) (hk:0<=k) (h:(x.length:Int)<=k):actT t (i:Int) k=(0,0):=by
 have hi:=(List.getElem?_eq_some_iff.1 hx).1
 unfold actT
 have e1:t.acts.getD i []=x:=by simp [List.getD,hx]
 have e2:x.getD k.toNat (0,0)=(0,0):=by rw [List.getD,List.getElem?_eq_none (by omega)];rfl
 rw [if_neg (by omega),Int.toNat_natCast,e1,e2]
theorem act_in {t:TabD} {i k:Nat} {x:List Ac} {a:Ac} (hx:t.acts[i]? =some x) (ha:x[k]? =some a):actT t (i:Int) (k:Int)=a:=by
 have hi:=(List.getElem?_eq_some_iff.1 hx).1
 unfold actT
 have e1:t.acts.getD i []=x:=by simp [List.getD,hx]
 have e2:x.getD k (0,0)=a:=by simp [List.getD,ha]
 rw [if_neg (by omega),Int.toNat_natCast,Int.toNat_natCast,e1,e2]
def AcV (a:Ac):Value:= .agg #[.int .i64 a.1,.int .i64 a.2]
set_option maxRecDepth 100000 in
set_option maxHeartbeats 4000000 in
theorem acts_Act {w:World} {F:Nat->Prop} {vr va vg:Value} {t:TabD} (h:IsTab w F vr va vg t) (i k:Int):
  Calls Tryz.prog 26 #[TV vr t.terms t.nons va vg,.int .i64 i,.int .i64 k] w (Quiet w (AcV (actT t i k))):=by
 obtain⟨A1,c1,A2,c2,A3,c3,rfl,rfl,rfl,l1,l2,l3,m1,m2,m3⟩:=h.slices
 have hF:=h.lt
 have f1:=fun hh=>act_no (t:=t) (i:=i) (k:=k) hh
 have f2:=fun(j:Nat) x (hx:t.acts[j]? =some x) (e:i=(j:Int)) (a:0<=k) (b:(x.length:Int)<=k)=>(show actT t i k=(0,0) by rw [e];exact act_out hx a b)
 have f3:=fun(j q:Nat) x a (hx:t.acts[j]? =some x) (ha:x[q]? =some a) (e:i=(j:Int)) (e2:k=(q:Int))=>(show actT t i k=a by rw [e,e2];exact act_in hx ha)
 obtain⟨w1,hw1⟩: ∃w1,w1=w.alloc (.cells #[.slice A1 t.rules.length c1,.int .i64 t.terms,.int .i64 t.nons,.slice A2 t.acts.length c2,.slice A3 t.goto.length c3] 35):=⟨_,rfl⟩
 have g1:=TBox.new h t.terms t.nons
 have b1:Below w.heap.size w w1:=by rw [hw1];exact(Below.refl _ w).alloc (Nat.le_refl _) _
 rw [<-hw1]at g1
 have hrow:=fun(j:Nat) x (hx:t.acts[j]? =some x)=>RdAs.row h.acts hx
 generalize t.terms=T at *
 generalize t.nons=N at *
 generalize hn:t.acts.length=n at *
 generalize t.rules.length=R at *
 generalize t.goto.length=m at *
 generalize actT t i k=z at *
 obtain⟨z0,z1⟩:=z
 clear h
 have b2:Below w.heap.size w (w1.alloc (.cells #[.int .i64 0,.int .i64 0] 46)):=b1.trans (((Below.refl _ w1).alloc (Nat.le_refl _) _).mono b1.size)
 by_cases hi0:i<0
 ·have hz:=f1 (.inl hi0)
  injection hz with hz0 hz1
  subst hz0 hz1
  rw [hw1]at b2
  clear f1 f2 f3 hrow g1 hn
  have Xb2:=hide b2;clear b2
  go_enter Tryz.func26,Tryz.ntmps26
  go_wp2_with fail
  refine bodyPost_ret (v:= .agg #[.int .i64 0,.int .i64 0]) (by simp [results,Tryz.results26,go_sem]) rfl ?_
  exact⟨rfl,by simpa using Xb2.out⟩
 ·by_cases hin:(n:Int)<=i
  ·have hz:=f1 (.inr (.inl hin))
   injection hz with hz0 hz1
   subst hz0 hz1
   rw [hw1]at b2
   clear f1 f2 f3 hrow g1 hn
   have Xb2:=hide b2;clear b2
   go_enter Tryz.func26,Tryz.ntmps26
   go_wp2_with fail
   refine bodyPost_ret (v:= .agg #[.int .i64 0,.int .i64 0]) (by simp [results,Tryz.results26,go_sem]) rfl ?_
   exact⟨rfl,by simpa using Xb2.out⟩
  ·by_cases hk0:k<0
   ·have hz:=f1 (.inr (.inr hk0))
    injection hz with hz0 hz1
    subst hz0 hz1
    rw [hw1]at b2
    clear f1 f2 f3 hrow g1 hn
    have Xb2:=hide b2;clear b2
    go_enter Tryz.func26,Tryz.ntmps26
    go_wp2_with fail
    refine bodyPost_ret (v:= .agg #[.int .i64 0,.int .i64 0]) (by simp [results,Tryz.results26,go_sem]) rfl ?_
    exact⟨rfl,by simpa using Xb2.out⟩
   ·obtain⟨j,rfl⟩:=Int.eq_ofNat_of_zero_le (by omega:0<=i)
    obtain⟨q,rfl⟩:=Int.eq_ofNat_of_zero_le (by omega:0<=k)
    obtain⟨x,hx⟩: ∃x,t.acts[j]? =some x:=⟨_,List.getElem?_eq_getElem (by rw [hn];omega)⟩
    obtain⟨b,off,A4,c4,hA,hFb,cx,rx,l4,m4⟩:=hrow j x hx
    subst hA
    unfold maxLen at m4
    have cx:=up_cell ((Below.refl _ w).alloc (Nat.le_refl _) (.cells #[.slice A1 R c1,.int .i64 T,.int .i64 N,.slice (some ⟨b,off,none⟩) n c2,.slice A3 m c3] 35)) cx
    have hlt1:(j:Int)<(n:Int):=by omega
    by_cases hq:q<x.length
    ·obtain⟨a,ha⟩: ∃a,x[q]? =some a:=⟨_,List.getElem?_eq_getElem hq⟩
     have hz:=f3 j q x a hx ha rfl rfl
     obtain⟨-,-,-,hcell⟩:=RdIt.at_ rx
     obtain⟨b4,o4,rfl,-,hcc⟩:=hcell (by omega)
     obtain⟨a0,a1⟩:=hcc q a ha
     have a0:=up_cell ((Below.refl _ w).alloc (Nat.le_refl _) (.cells #[.slice A1 R c1,.int .i64 T,.int .i64 N,.slice (some ⟨b,off,none⟩) n c2,.slice A3 m c3] 35)) a0
     have a1:=up_cell ((Below.refl _ w).alloc (Nat.le_refl _) (.cells #[.slice A1 R c1,.int .i64 T,.int .i64 N,.slice (some ⟨b,off,none⟩) n c2,.slice A3 m c3] 35)) a1
     rw [<-hw1]at cx a0 a1
     obtain⟨q0,q1,q2,q3,q4⟩:=g1.cells
     have al:Below w1.heap.size w1 (w1.alloc (.cells #[.int .i64 0,.int .i64 0] 46)):=(Below.refl _ _).alloc (Nat.le_refl _) _
     have cx:=up_cell al cx
     have a0:=up_cell al a0
     have a1:=up_cell al a1
     have q3:=up_cell al q3
     rw [hw1]at cx a0 a1 q3
     rw [<-hz]at a0 a1
     simp only at a0 a1
     have hql:(q:Int)<(x.length:Int):=by omega
     generalize x.length=xl at *
     clear f1 f2 f3 hrow hcell hcc ha hz rx g1 hn hx q0 q1 q2 q4 al
     rw [hw1]at b2
     have Xb2:=hide b2;clear b2
     go_enter Tryz.func26,Tryz.ntmps26
     go_wp2_with fail
     refine bodyPost_ret (v:= .agg #[.int .i64 z0,.int .i64 z1]) (by simp [results,Tryz.results26,go_sem]) rfl ?_
     exact⟨rfl,((Below.refl _ w).alloc (Nat.le_refl _) _).alloc (by simp) _⟩
    ·have hz:=f2 j x hx rfl (by omega) (by omega)
     injection hz with hz0 hz1
     subst hz0 hz1
     have hql:(x.length:Int)<=(q:Int):=by omega
     generalize x.length=xl at *
     obtain⟨q0,q1,q2,q3,q4⟩:=g1.cells
     have al:Below w1.heap.size w1 (w1.alloc (.cells #[.int .i64 0,.int .i64 0] 46)):=(Below.refl _ _).alloc (Nat.le_refl _) _
     rw [<-hw1]at cx
     have cx:=up_cell al cx
     have q3:=up_cell al q3
     rw [hw1]at cx q3
     clear f1 f2 f3 hrow rx g1 hn hx q0 q1 q2 q4 al
     rw [hw1]at b2
     have Xb2:=hide b2;clear b2
     go_enter Tryz.func26,Tryz.ntmps26
     go_wp2_with fail
     refine bodyPost_ret (v:= .agg #[.int .i64 0,.int .i64 0]) (by simp [results,Tryz.results26,go_sem]) rfl ?_
     exact⟨rfl,by simpa using Xb2.out⟩
theorem goto_no {t:TabD} {i s:Int} (h:i<0\/(t.goto.length:Int)<=i\/t.terms<0\/s<=t.terms):gotoT t i s= -1:=if_pos h
theorem goto_out {t:TabD} {i:Nat} {s:Int} {x:List Int} (hx:t.goto[i]? =some x) (h0:0<=t.terms) (hk:t.terms<s) (h:(x.length:Int)<=s - t.terms - 1):gotoT t (i:Int) s= -1:=by
 have hi:=(List.getElem?_eq_some_iff.1 hx).1
 unfold gotoT
 have e1:t.goto.getD i []=x:=by simp [List.getD,hx]
 have e2:x.getD (s - t.terms - 1).toNat (-1)= -1:=by rw [List.getD,List.getElem?_eq_none (by omega)];rfl
 rw [if_neg (by omega),Int.toNat_natCast,e1,e2]
theorem goto_in {t:TabD} {i q:Nat} {s:Int} {x:List Int} {a:Int} (hx:t.goto[i]? =some x) (h0:0<=t.terms) (hk:t.terms<s) (hq:s - t.terms - 1=(q:Int)) (ha:x[q]? =some a):gotoT t (i:Int) s=a:=by
 have hi:=(List.getElem?_eq_some_iff.1 hx).1
 unfold gotoT
 have e1:t.goto.getD i []=x:=by simp [List.getD,hx]
 have e2:x.getD q (-1)=a:=by simp [List.getD,ha]
 rw [if_neg (by omega),Int.toNat_natCast,e1,hq,Int.toNat_natCast,e2]
set_option maxRecDepth 100000 in
set_option maxHeartbeats 4000000 in
theorem acts_Goto {w:World} {F:Nat->Prop} {vr va vg:Value} {t:TabD} (h:IsTab w F vr va vg t) (i s:Int) (hs:s<=9223372036854775807):
  Calls Tryz.prog 25 #[TV vr t.terms t.nons va vg,.int .i64 i,.int .i64 s] w (Quiet w (.int .i64 (gotoT t i s))):=by
 obtain⟨A1,c1,A2,c2,A3,c3,rfl,rfl,rfl,l1,l2,l3,m1,m2,m3⟩:=h.slices
 have hF:=h.lt
 have tn:=h.tn.1
 unfold W64 at tn
 have f1:=fun hh=>goto_no (t:=t) (i:=i) (s:=s) hh
 have f2:=fun(j:Nat) x (hx:t.goto[j]? =some x) (e:i=(j:Int)) (a:0<=t.terms) (b:t.terms<s) (c:(x.length:Int)<=s - t.terms - 1)=>(show gotoT t i s= -1 by rw [e];exact goto_out hx a b c)
 have f3:=fun(j q:Nat) x a (hx:t.goto[j]? =some x) (e:i=(j:Int)) (c:0<=t.terms) (d:t.terms<s) (e2:s - t.terms - 1=(q:Int)) (ha:x[q]? =some a)=>(show gotoT t i s=a by rw [e];exact goto_in hx c d e2 ha)
 have b1:Below w.heap.size w (w.alloc (.cells #[.slice A1 t.rules.length c1,.int .i64 t.terms,.int .i64 t.nons,.slice A2 t.acts.length c2,.slice A3 t.goto.length c3] 35)):=(Below.refl _ w).alloc (Nat.le_refl _) _
 have hrow:=fun(j:Nat) x (hx:t.goto[j]? =some x)=>RdIs.row h.goto hx
 generalize t.terms=T at *
 generalize t.nons=N at *
 generalize t.acts.length=n at *
 generalize t.rules.length=R at *
 generalize hm:t.goto.length=m at *
 generalize gotoT t i s=z at *
 clear h
 by_cases hi0:i<0
 ·have hz:=f1 (.inl hi0)
  subst hz
  clear f1 f2 f3 hrow hm
  have Xb1:=hide b1;clear b1
  go_enter Tryz.func25,Tryz.ntmps25
  go_wp2_with fail
  go_ret
  exact⟨rfl,Xb1.out⟩
 ·by_cases hin:(m:Int)<=i
  ·have hz:=f1 (.inr (.inl hin))
   subst hz
   clear f1 f2 f3 hrow hm
   have Xb1:=hide b1;clear b1
   go_enter Tryz.func25,Tryz.ntmps25
   go_wp2_with fail
   go_ret
   exact⟨rfl,Xb1.out⟩
  ·by_cases hT:T<0
   ·have hz:=f1 (.inr (.inr (.inl hT)))
    subst hz
    clear f1 f2 f3 hrow hm
    have Xb1:=hide b1;clear b1
    go_enter Tryz.func25,Tryz.ntmps25
    go_wp2_with fail
    go_ret
    exact⟨rfl,Xb1.out⟩
   ·by_cases hsT:s<=T
    ·have hz:=f1 (.inr (.inr (.inr hsT)))
     subst hz
     clear f1 f2 f3 hrow hm
     have Xb1:=hide b1;clear b1
     go_enter Tryz.func25,Tryz.ntmps25
     go_wp2_with fail
     go_ret
     exact⟨rfl,Xb1.out⟩
    ·obtain⟨j,rfl⟩:=Int.eq_ofNat_of_zero_le (by omega:0<=i)
     obtain⟨q,hq⟩:=Int.eq_ofNat_of_zero_le (by omega:0<=s - T - 1)
     obtain⟨x,hx⟩: ∃x,t.goto[j]? =some x:=⟨_,List.getElem?_eq_getElem (by rw [hm];omega)⟩
     obtain⟨b,off,A4,c4,hA,hFb,cx,rx,l4,m4⟩:=hrow j x hx
     subst hA
     unfold maxLen at m4
     have al:Below w.heap.size w (w.alloc (.cells #[.slice A1 R c1,.int .i64 T,.int .i64 N,.slice A2 n c2,.slice (some ⟨b,off,none⟩) m c3] 35)):=(Below.refl _ w).alloc (Nat.le_refl _) _
     have cx:=up_cell al cx
     have hlt1:(j:Int)<(m:Int):=by omega
     have hw1:IntKind.i64.wrap (s - T)=s - T:=by rw [IntKind.wrap_i64];omega
     have hw2:IntKind.i64.wrap (s - T - 1)=(q:Int):=by rw [IntKind.wrap_i64];omega
     by_cases hql:q<x.length
     ·obtain⟨a,ha⟩: ∃a,x[q]? =some a:=⟨_,List.getElem?_eq_getElem hql⟩
      have hz:=f3 j q x a hx rfl (by omega) (by omega) hq ha
      obtain⟨-,-,-,hcell⟩:=RdI.at_ rx
      obtain⟨b4,o4,rfl,-,hcc⟩:=hcell (by omega)
      have a0:=up_cell al (hcc q a ha)
      rw [<-hz]at a0
      have hql':(q:Int)<(x.length:Int):=by omega
      generalize x.length=xl at *
      clear f1 f2 f3 hrow hcell hcc ha hz rx hm hx al
      obtain⟨Xb1,Xhq⟩:=HqZ2 b1 hq;clear b1 hq
      go_enter Tryz.func25,Tryz.ntmps25
      go_wp2_with fail
      go_ret
      exact⟨rfl,Xb1.out⟩
     ·have hz:=f2 j x hx rfl (by omega) (by omega) (by omega)
      subst hz
      have hql':(x.length:Int)<=(q:Int):=by omega
      generalize x.length=xl at *
      clear f1 f2 f3 hrow rx hm hx al
      obtain⟨Xb1,Xhq⟩:=HqZ2 b1 hq;clear b1 hq
      go_enter Tryz.func25,Tryz.ntmps25
      go_wp2_with fail
      go_ret
      exact⟨rfl,Xb1.out⟩
end Go.Proofs.YthlbjgabhpdbfaaGreat
namespace Go.Proofs.YthlbjgabhpdbfaaGreat
set_option linter.unusedVariables false
set_option maxRecDepth 100000
open Go.RowKit
theorem loop_of2 {P:Program} {Q:Exit->Act->World->Prop} {c:Code} {v0 v1 v2 v3 v4 v5 v6 v7 v8 v9 v10 v11 v12 v13 v14 v15 v16 v17 v18 v19 v20 v21 v22 v23 v24 v25 v26 v27 v28 v29 v30 v31 v32 v33 v34 v35 v36 v37 v38 v39 v40 v41 v42 v43 v44 v45 v46 v47 v48 v49 v50 v51 v52 v53 v54 v55 v56 v57 v58 v59 v60 v61 v62 v63 v64 v65 v66 v67 v68 v69 v70 v71 v72 v73 v74 v75 v76 v77 v78 v79 v80 v81 v82 v83 v84 v85 v86 v87 v88 v89 v90 v91 v92 v93 v94 v95 v96 v97 v98 v99 v100 v101 v102 v103 v104 v105 v106 v107 v108 v109 v110 v111 v112 v113 v114 v115 v116 v117 v118 v119 v120 v121 v122 v123 v124 v125 v126 v127 v128 v129 v130:Value} {ds0:List Deferred} {w0:World} (rel:Value->List Deferred->World->Prop) (mu:Value->Nat) (h0:rel v66 ds0 w0)
  (round: ∀(y10 y11 y12 y13 y15 y16 y67 y68 y69 y70 y71 y72 y73 y74 y75 y76 y77 y78 y79 y80 y81 y82 y83 y84 y85 y86 y87 y88 y89 y95 y96 y97 y98 y99 y100 y101 y102 y103 y104 y105 y106 y107 y108 y109 y110 y111 y112 y113 y114 y115 y116 y117 y118 y119 y120 y121 y122 y123 y124 y125 y126 y127 y128 y129 uv:Value) (ds:List Deferred) (w:World),rel uv ds w-> ∀K:Act->World->Prop,(∀a' w',HandE (fun a' w'=> ∃(y10 y11 y12 y13 y15 y16 y67 y68 y69 y70 y71 y72 y73 y74 y75 y76 y77 y78 y79 y80 y81 y82 y83 y84 y85 y86 y87 y88 y89 y95 y96 y97 y98 y99 y100 y101 y102 y103 y104 y105 y106 y107 y108 y109 y110 y111 y112 y113 y114 y115 y116 y117 y118 y119 y120 y121 y122 y123 y124 y125 y126 y127 y128 y129 uv':Value) (ds':List Deferred),rel uv' ds' w'/\mu uv'<mu uv/\a'={tmps:= #[v0,v1,v2,v3,v4,v5,v6,v7,v8,v9,y10,y11,y12,y13,v14,y15,y16,v17,v18,v19,v20,v21,v22,v23,v24,v25,v26,v27,v28,v29,v30,v31,v32,v33,v34,v35,v36,v37,v38,v39,v40,v41,v42,v43,v44,v45,v46,v47,v48,v49,v50,v51,v52,v53,v54,v55,v56,v57,v58,v59,v60,v61,v62,v63,v64,v65,uv',y67,y68,y69,y70,y71,y72,y73,y74,y75,y76,y77,y78,y79,y80,y81,y82,y83,y84,y85,y86,y87,y88,y89,v90,v91,v92,v93,v94,y95,y96,y97,y98,y99,y100,y101,y102,y103,y104,y105,y106,y107,y108,y109,y110,y111,y112,y113,y114,y115,y116,y117,y118,y119,y120,y121,y122,y123,y124,y125,y126,y127,y128,y129,v130],defers:=ds'}) a' w'->K a' w')->c.wp P (Exit.then K Q) {tmps:= #[v0,v1,v2,v3,v4,v5,v6,v7,v8,v9,y10,y11,y12,y13,v14,y15,y16,v17,v18,v19,v20,v21,v22,v23,v24,v25,v26,v27,v28,v29,v30,v31,v32,v33,v34,v35,v36,v37,v38,v39,v40,v41,v42,v43,v44,v45,v46,v47,v48,v49,v50,v51,v52,v53,v54,v55,v56,v57,v58,v59,v60,v61,v62,v63,v64,v65,uv,y67,y68,y69,y70,y71,y72,y73,y74,y75,y76,y77,y78,y79,y80,y81,y82,y83,y84,y85,y86,y87,y88,y89,v90,v91,v92,v93,v94,y95,y96,y97,y98,y99,y100,y101,y102,y103,y104,y105,y106,y107,y108,y109,y110,y111,y112,y113,y114,y115,y116,y117,y118,y119,y120,y121,y122,y123,y124,y125,y126,y127,y128,y129,v130],defers:=ds} w):(Code.loop c).wp P Q {tmps:= #[v0,v1,v2,v3,v4,v5,v6,v7,v8,v9,v10,v11,v12,v13,v14,v15,v16,v17,v18,v19,v20,v21,v22,v23,v24,v25,v26,v27,v28,v29,v30,v31,v32,v33,v34,v35,v36,v37,v38,v39,v40,v41,v42,v43,v44,v45,v46,v47,v48,v49,v50,v51,v52,v53,v54,v55,v56,v57,v58,v59,v60,v61,v62,v63,v64,v65,v66,v67,v68,v69,v70,v71,v72,v73,v74,v75,v76,v77,v78,v79,v80,v81,v82,v83,v84,v85,v86,v87,v88,v89,v90,v91,v92,v93,v94,v95,v96,v97,v98,v99,v100,v101,v102,v103,v104,v105,v106,v107,v108,v109,v110,v111,v112,v113,v114,v115,v116,v117,v118,v119,v120,v121,v122,v123,v124,v125,v126,v127,v128,v129,v130],defers:=ds0} w0:=by
 refine wp_loop (fun a w=> ∃(y10 y11 y12 y13 y15 y16 y67 y68 y69 y70 y71 y72 y73 y74 y75 y76 y77 y78 y79 y80 y81 y82 y83 y84 y85 y86 y87 y88 y89 y95 y96 y97 y98 y99 y100 y101 y102 y103 y104 y105 y106 y107 y108 y109 y110 y111 y112 y113 y114 y115 y116 y117 y118 y119 y120 y121 y122 y123 y124 y125 y126 y127 y128 y129 uv:Value) (ds:List Deferred),rel uv ds w/\a={tmps:= #[v0,v1,v2,v3,v4,v5,v6,v7,v8,v9,y10,y11,y12,y13,v14,y15,y16,v17,v18,v19,v20,v21,v22,v23,v24,v25,v26,v27,v28,v29,v30,v31,v32,v33,v34,v35,v36,v37,v38,v39,v40,v41,v42,v43,v44,v45,v46,v47,v48,v49,v50,v51,v52,v53,v54,v55,v56,v57,v58,v59,v60,v61,v62,v63,v64,v65,uv,y67,y68,y69,y70,y71,y72,y73,y74,y75,y76,y77,y78,y79,y80,y81,y82,y83,y84,y85,y86,y87,y88,y89,v90,v91,v92,v93,v94,y95,y96,y97,y98,y99,y100,y101,y102,y103,y104,y105,y106,y107,y108,y109,y110,y111,y112,y113,y114,y115,y116,y117,y118,y119,y120,y121,y122,y123,y124,y125,y126,y127,y128,y129,v130],defers:=ds}) (fun a w=>mu (a.tmps.getD 66 undef)) ⟨_,_,_,_,_,_,_,_,_,_,_,_,_,_,_,_,_,_,_,_,_,_,_,_,_,_,_,_,_,_,_,_,_,_,_,_,_,_,_,_,_,_,_,_,_,_,_,_,_,_,_,_,_,_,_,_,_,_,_,_,_,_,_,_,_,_,h0,rfl⟩ ?_
 rintro a w ⟨y10,y11,y12,y13,y15,y16,y67,y68,y69,y70,y71,y72,y73,y74,y75,y76,y77,y78,y79,y80,y81,y82,y83,y84,y85,y86,y87,y88,y89,y95,y96,y97,y98,y99,y100,y101,y102,y103,y104,y105,y106,y107,y108,y109,y110,y111,y112,y113,y114,y115,y116,y117,y118,y119,y120,y121,y122,y123,y124,y125,y126,y127,y128,y129,uv,ds,h1,rfl⟩
 refine wp_mono (round y10 y11 y12 y13 y15 y16 y67 y68 y69 y70 y71 y72 y73 y74 y75 y76 y77 y78 y79 y80 y81 y82 y83 y84 y85 y86 y87 y88 y89 y95 y96 y97 y98 y99 y100 y101 y102 y103 y104 y105 y106 y107 y108 y109 y110 y111 y112 y113 y114 y115 y116 y117 y118 y119 y120 y121 y122 y123 y124 y125 y126 y127 y128 y129 uv ds w h1 _ (fun a' w' h=>h)) ?_
 intro e a' w' hq
 cases e with
 |normal=>
  obtain⟨z10,z11,z12,z13,z15,z16,z67,z68,z69,z70,z71,z72,z73,z74,z75,z76,z77,z78,z79,z80,z81,z82,z83,z84,z85,z86,z87,z88,z89,z95,z96,z97,z98,z99,z100,z101,z102,z103,z104,z105,z106,z107,z108,z109,z110,z111,z112,z113,z114,z115,z116,z117,z118,z119,z120,z121,z122,z123,z124,z125,z126,z127,z128,z129,uv',ds',k1,k2,rfl⟩:=hq
  exact⟨⟨z10,z11,z12,z13,z15,z16,z67,z68,z69,z70,z71,z72,z73,z74,z75,z76,z77,z78,z79,z80,z81,z82,z83,z84,z85,z86,z87,z88,z89,z95,z96,z97,z98,z99,z100,z101,z102,z103,z104,z105,z106,z107,z108,z109,z110,z111,z112,z113,z114,z115,z116,z117,z118,z119,z120,z121,z122,z123,z124,z125,z126,z127,z128,z129,uv',ds',k1,rfl⟩,k2⟩
 |exit id=>exact hq
 |goto l=>exact hq
 |ret=>exact hq
 |panic ch=>exact hq
 |outgrown=>exact hq
theorem loop_of3 {P:Program} {Q:Exit->Act->World->Prop} {c:Code} {v0 v1 v2 v3 v4 v5 v6 v7 v8 v9 v10 v11 v12 v13 v14 v15 v16 v17 v18 v19 v20 v21 v22 v23 v24 v25 v26 v27 v28 v29 v30 v31 v32 v33 v34 v35 v36 v37 v38 v39 v40 v41 v42 v43 v44 v45 v46 v47 v48 v49 v50 v51 v52 v53 v54 v55 v56 v57 v58 v59 v60 v61 v62 v63 v64 v65 v66 v67 v68 v69 v70 v71 v72 v73 v74 v75 v76 v77 v78 v79 v80 v81 v82 v83 v84 v85 v86 v87 v88 v89 v90 v91 v92 v93 v94 v95 v96 v97 v98 v99 v100 v101 v102 v103 v104 v105 v106 v107 v108 v109 v110 v111 v112 v113 v114 v115 v116 v117 v118 v119 v120 v121 v122 v123 v124 v125 v126 v127 v128 v129 v130:Value} {ds0:List Deferred} {w0:World} (rel:Value->List Deferred->World->Prop) (mu:Value->Nat) (h0:rel v77 ds0 w0)
  (round: ∀(y13 y78 y79 y80 y81 y82 y83 y84 y85 y86 y87 y88 y89 y95 uv:Value) (ds:List Deferred) (w:World),rel uv ds w-> ∀K:Act->World->Prop,(∀a' w',HandE (fun a' w'=> ∃(y13 y78 y79 y80 y81 y82 y83 y84 y85 y86 y87 y88 y89 y95 uv':Value) (ds':List Deferred),rel uv' ds' w'/\mu uv'<mu uv/\a'={tmps:= #[v0,v1,v2,v3,v4,v5,v6,v7,v8,v9,v10,v11,v12,y13,v14,v15,v16,v17,v18,v19,v20,v21,v22,v23,v24,v25,v26,v27,v28,v29,v30,v31,v32,v33,v34,v35,v36,v37,v38,v39,v40,v41,v42,v43,v44,v45,v46,v47,v48,v49,v50,v51,v52,v53,v54,v55,v56,v57,v58,v59,v60,v61,v62,v63,v64,v65,v66,v67,v68,v69,v70,v71,v72,v73,v74,v75,v76,uv',y78,y79,y80,y81,y82,y83,y84,y85,y86,y87,y88,y89,v90,v91,v92,v93,v94,y95,v96,v97,v98,v99,v100,v101,v102,v103,v104,v105,v106,v107,v108,v109,v110,v111,v112,v113,v114,v115,v116,v117,v118,v119,v120,v121,v122,v123,v124,v125,v126,v127,v128,v129,v130],defers:=ds'}) a' w'->K a' w')->c.wp P (Exit.then K Q) {tmps:= #[v0,v1,v2,v3,v4,v5,v6,v7,v8,v9,v10,v11,v12,y13,v14,v15,v16,v17,v18,v19,v20,v21,v22,v23,v24,v25,v26,v27,v28,v29,v30,v31,v32,v33,v34,v35,v36,v37,v38,v39,v40,v41,v42,v43,v44,v45,v46,v47,v48,v49,v50,v51,v52,v53,v54,v55,v56,v57,v58,v59,v60,v61,v62,v63,v64,v65,v66,v67,v68,v69,v70,v71,v72,v73,v74,v75,v76,uv,y78,y79,y80,y81,y82,y83,y84,y85,y86,y87,y88,y89,v90,v91,v92,v93,v94,y95,v96,v97,v98,v99,v100,v101,v102,v103,v104,v105,v106,v107,v108,v109,v110,v111,v112,v113,v114,v115,v116,v117,v118,v119,v120,v121,v122,v123,v124,v125,v126,v127,v128,v129,v130],defers:=ds} w):(Code.loop c).wp P Q {tmps:= #[v0,v1,v2,v3,v4,v5,v6,v7,v8,v9,v10,v11,v12,v13,v14,v15,v16,v17,v18,v19,v20,v21,v22,v23,v24,v25,v26,v27,v28,v29,v30,v31,v32,v33,v34,v35,v36,v37,v38,v39,v40,v41,v42,v43,v44,v45,v46,v47,v48,v49,v50,v51,v52,v53,v54,v55,v56,v57,v58,v59,v60,v61,v62,v63,v64,v65,v66,v67,v68,v69,v70,v71,v72,v73,v74,v75,v76,v77,v78,v79,v80,v81,v82,v83,v84,v85,v86,v87,v88,v89,v90,v91,v92,v93,v94,v95,v96,v97,v98,v99,v100,v101,v102,v103,v104,v105,v106,v107,v108,v109,v110,v111,v112,v113,v114,v115,v116,v117,v118,v119,v120,v121,v122,v123,v124,v125,v126,v127,v128,v129,v130],defers:=ds0} w0:=by
 refine wp_loop (fun a w=> ∃(y13 y78 y79 y80 y81 y82 y83 y84 y85 y86 y87 y88 y89 y95 uv:Value) (ds:List Deferred),rel uv ds w/\a={tmps:= #[v0,v1,v2,v3,v4,v5,v6,v7,v8,v9,v10,v11,v12,y13,v14,v15,v16,v17,v18,v19,v20,v21,v22,v23,v24,v25,v26,v27,v28,v29,v30,v31,v32,v33,v34,v35,v36,v37,v38,v39,v40,v41,v42,v43,v44,v45,v46,v47,v48,v49,v50,v51,v52,v53,v54,v55,v56,v57,v58,v59,v60,v61,v62,v63,v64,v65,v66,v67,v68,v69,v70,v71,v72,v73,v74,v75,v76,uv,y78,y79,y80,y81,y82,y83,y84,y85,y86,y87,y88,y89,v90,v91,v92,v93,v94,y95,v96,v97,v98,v99,v100,v101,v102,v103,v104,v105,v106,v107,v108,v109,v110,v111,v112,v113,v114,v115,v116,v117,v118,v119,v120,v121,v122,v123,v124,v125,v126,v127,v128,v129,v130],defers:=ds}) (fun a w=>mu (a.tmps.getD 77 undef)) ⟨_,_,_,_,_,_,_,_,_,_,_,_,_,_,_,_,h0,rfl⟩ ?_
 rintro a w ⟨y13,y78,y79,y80,y81,y82,y83,y84,y85,y86,y87,y88,y89,y95,uv,ds,h1,rfl⟩
 refine wp_mono (round y13 y78 y79 y80 y81 y82 y83 y84 y85 y86 y87 y88 y89 y95 uv ds w h1 _ (fun a' w' h=>h)) ?_
 intro e a' w' hq
 cases e with
 |normal=>
  obtain⟨z13,z78,z79,z80,z81,z82,z83,z84,z85,z86,z87,z88,z89,z95,uv',ds',k1,k2,rfl⟩:=hq
  exact⟨⟨z13,z78,z79,z80,z81,z82,z83,z84,z85,z86,z87,z88,z89,z95,uv',ds',k1,rfl⟩,k2⟩
 |exit id=>exact hq
 |goto l=>exact hq
 |ret=>exact hq
 |panic ch=>exact hq
 |outgrown=>exact hq
set_option maxRecDepth 100000
open Go Go.RowKit Go.Shelf
theorem blk_own' {β:Type} (B:Nat) (t:TypeId) (f:β->Array Value):Own (fun s W=>Blk W B t (f s)):=by
 intro s X Y row hs hg hrow
 exact hs.grown hg (fun e=>by
  obtain⟨o,ho,hc⟩:=hrow B e.symm
  unfold Blk at hs
  rw [hs]at ho
  cases ho
  cases hc)
theorem ownFrom_touch {β:Type} {B:Nat} {S:Nat->Prop} {w0:World} (hS: ∀k,B<=k->S k):OwnFrom B (fun(_:β) W=>Touch S w0 W):=fun s X Y row hs hg hr=>hs.grown hg (fun k e _=>hS k (hr k e).1)
theorem ownFrom_row {β:Type} (B base:Nat) (e:TypeId) (size n:Nat) (v:Value) (f:β->List Value):OwnFrom B (fun s W=>W.ownsRow base e size v n (f s)):=by
 intro s X Y row hs hg hrow
 refine hs.kept hg ?_
 rcases hs.2 with⟨rfl,_⟩|⟨g,cap,cur,rfl,_,hgb,_⟩
 ·exact .inl rfl
 ·refine .inr fun e'=> ?_
  obtain⟨_,o,ho,hc⟩:=hrow g (by simpa [Value.ownBlock]using e'.symm)
  rw [hgb]at ho;cases ho;cases hc
theorem Mk.touch {lo:Nat} {ds:List Deferred} {w w':World} {S:Nat->Prop} (h:Mk lo ds w) (t:Touch S w w') (hS: ∀D,w.heap[D]? =some (.deferred (some []))-> ¬S D):Mk lo ds w':=by
 obtain⟨Ds,h1,h2,h3⟩:=h
 exact⟨Ds,h1,h2,fun D hD=>⟨(h3 D hD).1,(t.block D (Array.getElem?_eq_some_iff.1 (h3 D hD).2).1 (hS D (h3 D hD).2)).trans (h3 D hD).2⟩⟩
theorem fillR_d {α:Type} (d:α) {l:List α} {m:Nat} (h:l.length<m):(l++[d])++List.replicate (m - (l++[d]).length) d=l++List.replicate (m - l.length) d:=by
 obtain⟨k,hk⟩: ∃k,m - l.length=k+1:=⟨m - l.length - 1,by omega⟩
 have:m - (l++[d]).length=k:=by simp;omega
 rw [this,hk,List.replicate_succ]
 simp
theorem rf_of {P:Program} {Q:Exit->Act->World->Prop} {assign body:Code} {v0 v1 v2 v3 v4 v5 v6 v7 v8 v9 v10 v11 v12 v13 v14 v15 v16 v17 v18 v19 v20 v21 v22 v23 v24 v25 v26 v27 v28 v29 v30 v31 v32 v33 v34 v35 v36 v37 v38 v39 v40 v41 v42 v43 v44 v45 v46 v47 v48 v49 v50 v51 v52 v53 v54 v55 v56 v57 v58 v59 v60 v61 v62 v63 v64 v65 v66 v67 v68 v69 v70 v71 v72 v73 v74 v75 v76 v77 v78 v79 v80 v81 v82 v83 v84 v85 v86 v87 v88 v89 v90 v91 v92 v93 v94 v95 v96 v97 v98 v99 v100 v101 v102 v103 v104 v105 v106 v107 v108 v109 v110 v111 v112 v113 v114 v115 v116 v117 v118 v119 v120 v121 v122 v123 v124 v125 v126 v127 v128 v129 v130:Value} {ds:List Deferred} {w:World} (tA:TypeId) {gf:Nat} {lb:Array Value} (hg:v89= .func (.func gf) #[] lb) (eg: ∀args w,(callFunc gf args).run P w= .ok (.enter gf args) w)
  {Kp:World->World->Prop} {S Sp:List (Int×Int)->Prop} {N:Nat} (hseq:SeqStopsK Fence.wide 4 P gf lb (fun x:Int×Int=> #[Value.agg #[.int .i64 x.1,.int .i64 x.2]]) Kp S Sp N w)
  (hKt: ∀{A B C:World},Kp A B->Kp B C->Kp A C) (hKb: ∀(W:World) (l:Nat) (o o':Obj),w.heap.size<=l->W.heap[l]? =some o->o.isCells=false->o.isWalk=false->Kp W (W.putObj l o'))
  (I:List (Int×Int)->World->Prop) (Ix:Code->List (Int×Int)->World->Prop) (hI:OwnFrom w.heap.size I) (hIx: ∀c,OwnFrom w.heap.size (Ix c)) (h0:I [] w)
  (hassign: ∀(l:Nat) (pre:List (Int×Int)) (x:Int×Int) (W:World) (K:Act->World->Prop),I pre W->(∀Bx W',KeepsFrom w.heap.size W W'->Kp W W'->I pre W'->w.heap.size<=Bx->Blk W' Bx tA #[.int .i64 x.1,.int .i64 x.2]->K {tmps:= #[v0,v1,v2,v3,v4,v5,v6,v7,v8,v9,v10,v11,v12,v13,.pointer (some ⟨Bx,0,none⟩),v15,v16,v17,v18,v19,v20,v21,v22,v23,v24,v25,v26,v27,v28,v29,v30,v31,v32,v33,v34,v35,v36,v37,v38,v39,v40,v41,v42,v43,v44,v45,v46,v47,v48,v49,v50,v51,v52,v53,v54,v55,v56,v57,v58,v59,v60,v61,v62,v63,v64,v65,v66,v67,v68,v69,v70,v71,v72,v73,v74,v75,v76,v77,v78,v79,v80,v81,v82,v83,v84,v85,v86,v87,v88,v89,.agg #[.int .i64 x.1,.int .i64 x.2],v91,v92,v93,v94,v95,v96,v97,v98,v99,v100,v101,v102,v103,v104,v105,v106,v107,v108,v109,v110,v111,v112,v113,v114,v115,v116,v117,v118,v119,v120,v121,v122,v123,v124,v125,v126,v127,v128,v129,v130],defers:=[]} W')->
   assign.wpIn (Fence.wide.inRound l) (5 - 1 - 1) P (Exit.then K (fun _ _ _=>False)) {tmps:= #[v0,v1,v2,v3,v4,v5,v6,v7,v8,v9,v10,v11,v12,v13,v14,v15,v16,v17,v18,v19,v20,v21,v22,v23,v24,v25,v26,v27,v28,v29,v30,v31,v32,v33,v34,v35,v36,v37,v38,v39,v40,v41,v42,v43,v44,v45,v46,v47,v48,v49,v50,v51,v52,v53,v54,v55,v56,v57,v58,v59,v60,v61,v62,v63,v64,v65,v66,v67,v68,v69,v70,v71,v72,v73,v74,v75,v76,v77,v78,v79,v80,v81,v82,v83,v84,v85,v86,v87,v88,v89,.agg #[.int .i64 x.1,.int .i64 x.2],v91,v92,v93,v94,v95,v96,v97,v98,v99,v100,v101,v102,v103,v104,v105,v106,v107,v108,v109,v110,v111,v112,v113,v114,v115,v116,v117,v118,v119,v120,v121,v122,v123,v124,v125,v126,v127,v128,v129,v130],defers:=[]} W)
  (hbody: ∀(l:Nat) (pre:List (Int×Int)) (x:Int×Int) (Bx:Nat) (W:World),I pre W->w.heap.size<=Bx->Blk W Bx tA #[.int .i64 x.1,.int .i64 x.2]->pre.length<N->body.wpIn (Fence.wide.inRound l) (5 - 1 - 1) P (ownPostG w.heap.size Kp I Ix (pre++[x]) W) {tmps:= #[v0,v1,v2,v3,v4,v5,v6,v7,v8,v9,v10,v11,v12,v13,.pointer (some ⟨Bx,0,none⟩),v15,v16,v17,v18,v19,v20,v21,v22,v23,v24,v25,v26,v27,v28,v29,v30,v31,v32,v33,v34,v35,v36,v37,v38,v39,v40,v41,v42,v43,v44,v45,v46,v47,v48,v49,v50,v51,v52,v53,v54,v55,v56,v57,v58,v59,v60,v61,v62,v63,v64,v65,v66,v67,v68,v69,v70,v71,v72,v73,v74,v75,v76,v77,v78,v79,v80,v81,v82,v83,v84,v85,v86,v87,v88,v89,.agg #[.int .i64 x.1,.int .i64 x.2],v91,v92,v93,v94,v95,v96,v97,v98,v99,v100,v101,v102,v103,v104,v105,v106,v107,v108,v109,v110,v111,v112,v113,v114,v115,v116,v117,v118,v119,v120,v121,v122,v123,v124,v125,v126,v127,v128,v129,v130],defers:=[]} W)
  (hdone: ∀(D:Nat) (xs:List (Int×Int)) (W:World),w.heap.size<=D->S xs->I xs W->W.heap[D]? =some (.deferred (some []))->Q .normal {tmps:= #[v0,v1,v2,v3,v4,v5,v6,v7,v8,v9,v10,v11,v12,v13,v14,v15,v16,v17,v18,v19,v20,v21,v22,v23,v24,v25,v26,v27,v28,v29,v30,v31,v32,v33,v34,v35,v36,v37,v38,v39,v40,v41,v42,v43,v44,v45,v46,v47,v48,v49,v50,v51,v52,v53,v54,v55,v56,v57,v58,v59,v60,v61,v62,v63,v64,v65,v66,v67,v68,v69,v70,v71,v72,v73,v74,v75,v76,v77,v78,v79,v80,v81,v82,v83,v84,v85,v86,v87,v88,v89,v90,v91,v92,v93,v94,v95,v96,v97,v98,v99,v100,v101,v102,v103,v104,v105,v106,v107,v108,v109,v110,v111,v112,v113,v114,v115,v116,v117,v118,v119,v120,v121,v122,v123,v124,v125,v126,v127,v128,v129,v130],defers:=mark D::ds} W)
  (hstop: ∀(D:Nat) (c:Code) (pre:List (Int×Int)) (W:World),w.heap.size<=D->Sp pre->Ix c pre W->W.heap[D]? =some (.deferred (some []))->c.wp P Q {tmps:= #[v0,v1,v2,v3,v4,v5,v6,v7,v8,v9,v10,v11,v12,v13,v14,v15,v16,v17,v18,v19,v20,v21,v22,v23,v24,v25,v26,v27,v28,v29,v30,v31,v32,v33,v34,v35,v36,v37,v38,v39,v40,v41,v42,v43,v44,v45,v46,v47,v48,v49,v50,v51,v52,v53,v54,v55,v56,v57,v58,v59,v60,v61,v62,v63,v64,v65,v66,v67,v68,v69,v70,v71,v72,v73,v74,v75,v76,v77,v78,v79,v80,v81,v82,v83,v84,v85,v86,v87,v88,v89,v90,v91,v92,v93,v94,v95,v96,v97,v98,v99,v100,v101,v102,v103,v104,v105,v106,v107,v108,v109,v110,v111,v112,v113,v114,v115,v116,v117,v118,v119,v120,v121,v122,v123,v124,v125,v126,v127,v128,v129,v130],defers:=mark D::ds} W):
  (Code.rangeFunc (.tmp 89) #[90] assign body).wp P Q {tmps:= #[v0,v1,v2,v3,v4,v5,v6,v7,v8,v9,v10,v11,v12,v13,v14,v15,v16,v17,v18,v19,v20,v21,v22,v23,v24,v25,v26,v27,v28,v29,v30,v31,v32,v33,v34,v35,v36,v37,v38,v39,v40,v41,v42,v43,v44,v45,v46,v47,v48,v49,v50,v51,v52,v53,v54,v55,v56,v57,v58,v59,v60,v61,v62,v63,v64,v65,v66,v67,v68,v69,v70,v71,v72,v73,v74,v75,v76,v77,v78,v79,v80,v81,v82,v83,v84,v85,v86,v87,v88,v89,v90,v91,v92,v93,v94,v95,v96,v97,v98,v99,v100,v101,v102,v103,v104,v105,v106,v107,v108,v109,v110,v111,v112,v113,v114,v115,v116,v117,v118,v119,v120,v121,v122,v123,v124,v125,v126,v127,v128,v129,v130],defers:=ds} w:=by
 subst hg
 refine wpIn_wide.1 (wpIn_rangeFunc_ownH (n:=5) (α:=Int×Int) rfl (by omega) (gf:=gf) (lb:=lb) rfl trivial eg hseq hKt hKb (Below.refl _ _) (fun _=>rfl) I Ix hI hIx h0
  (fun x a' W=> ∃Bx,w.heap.size<=Bx/\Blk W Bx tA #[.int .i64 x.1,.int .i64 x.2]/\a'={tmps:= #[v0,v1,v2,v3,v4,v5,v6,v7,v8,v9,v10,v11,v12,v13,.pointer (some ⟨Bx,0,none⟩),v15,v16,v17,v18,v19,v20,v21,v22,v23,v24,v25,v26,v27,v28,v29,v30,v31,v32,v33,v34,v35,v36,v37,v38,v39,v40,v41,v42,v43,v44,v45,v46,v47,v48,v49,v50,v51,v52,v53,v54,v55,v56,v57,v58,v59,v60,v61,v62,v63,v64,v65,v66,v67,v68,v69,v70,v71,v72,v73,v74,v75,v76,v77,v78,v79,v80,v81,v82,v83,v84,v85,v86,v87,v88,.func (.func gf) #[] lb,.agg #[.int .i64 x.1,.int .i64 x.2],v91,v92,v93,v94,v95,v96,v97,v98,v99,v100,v101,v102,v103,v104,v105,v106,v107,v108,v109,v110,v111,v112,v113,v114,v115,v116,v117,v118,v119,v120,v121,v122,v123,v124,v125,v126,v127,v128,v129,v130],defers:=[]})
  (fun x a'=>by
   rintro _ X Y row ⟨Bx,h1,h2,h3⟩ hg hr
   exact⟨Bx,h1,(blk_own' Bx tA (fun _:Unit=> #[.int .i64 x.1,.int .i64 x.2])).from w.heap.size () X Y row h2 hg hr,h3⟩) ?_ ?_ hdone (fun D c pre W h1 h2 h3 h4=>wpIn_wide.2 (hstop D c pre W h1 h2 h3 h4)))
 ·intro l pre x W K hi hK
  have e: ∀t:Array Value,((#[90]:Array Tmp).zip #[Value.agg #[.int .i64 x.1,.int .i64 x.2]]).foldl (fun t (p,v)=>t.setIfInBounds p v) t=t.setIfInBounds 90 (Value.agg #[.int .i64 x.1,.int .i64 x.2]):=fun t=>by simp
  rw [e]
  exact hassign l pre x W K hi fun Bx W' k1 k2 k3 k4 k5=>hK _ W' k1 k2 k3 ⟨Bx,k4,k5,rfl⟩
 ·rintro l pre x a' W hl hr hi ⟨Bx,h1,h2,rfl⟩ hlt
  exact hbody l pre x Bx W hi h1 h2 hlt
open Go.RowKit
theorem RM.lo {X:Type} {e:TypeId} {size:Nat} {pre:X->List Value} {E:World->(Nat->Prop)->Value->X->Prop} {lo lo':Nat->Prop} {base n c:Nat} {w:World} {A:Option Addr} {L:List X} (hE:Hands E) (h:RM e size pre E lo base w A n c L) (hl: ∀b,lo b->lo' b):RM e size pre E lo' base w A n c L:=by
 obtain⟨Z,h1,h2,h3⟩:=h.ex
 exact⟨⟨Z,h1,h2,fun j z x hz hx=>hE.mono (h3 j z x hz hx) fun b hb=>⟨hl b hb.1,hb.2⟩⟩,h.hn⟩
theorem own_unique {w:World} {base e size n:Nat} {v:Value} {xs ys:List Value} (h:w.ownsRow base e size v n xs) (k:w.ownsRow base e size v n ys):xs=ys:=by
 rcases h.2 with⟨rfl,h0⟩|⟨g,cap,cur,rfl,-,hg,-,-,-,ht⟩
 ·have h1:=h.1
  have k1:=k.1
  rw [h0]at h1 k1
  have e1:xs=[]:=List.eq_nil_of_length_eq_zero (by simpa using h1)
  have e2:ys=[]:=List.eq_nil_of_length_eq_zero (by simpa using k1)
  rw [e1,e2]
 ·rcases k.2 with⟨e1,-⟩|⟨g',cap',cur',e1,-,kg,-,-,-,kt⟩
  ·cases e1
  ·injection e1 with e1 _ _
   injection e1 with e1
   injection e1 with e1
   subst e1
   rw [hg]at kg
   injection kg with kg
   injection kg with kg
   subst kg
   rw [<-ht,<-kt]
section
variable {X Y : Type} {tA tG : TypeId} {EA : World -> (Nat -> Prop) -> Value -> X -> Prop} {EG : World -> (Nat -> Prop) -> Value -> Y -> Prop} {loA loG : Nat -> Prop} {D i ca cg ca' cg' : Nat} {wd u w1 v w2 : World} {Ax Ag A' G' : Option Addr} {LA : List X} {LG : List Y} {za zg : Value} {xa : X} {xg : Y} {rb tb : Nat} {ZA ZG : List Value}
structure Two (tA tG:TypeId) (EA:World->(Nat->Prop)->Value->X->Prop) (EG:World->(Nat->Prop)->Value->Y->Prop) (loA loG:Nat->Prop) (D:Nat) (w:World) (Ax:Option Addr) (ca:Nat) (Ag:Option Addr) (cg i:Nat) (LA:List X) (LG:List Y):Prop where
 a:RM tA 1 (fun _=>[]) EA loA D w Ax i ca LA
 g:RM tG 1 (fun _=>[]) EG loG D w Ag i cg LG
 lA: ∀b,loA b->D<=b/\b<w.heap.size/\(Value.slice Ax i ca).ownBlock≠some b/\(Value.slice Ag i cg).ownBlock≠some b
 lG: ∀b,loG b->D<=b/\b<w.heap.size/\(Value.slice Ax i ca).ownBlock≠some b/\(Value.slice Ag i cg).ownBlock≠some b
 ne: ∀b,(Value.slice Ax i ca).ownBlock=some b->(Value.slice Ag i cg).ownBlock≠some b
theorem Two.below (hA:Hands EA) (hG:Hands EG) (h:Two tA tG EA EG loA loG D wd Ax ca Ag cg i LA LG) (b:Below wd.heap.size wd u):Two tA tG EA EG loA loG D u Ax ca Ag cg i LA LG:=
 ⟨h.a.below hA b,h.g.below hG b,fun q hq=>let k:=h.lA q hq;⟨k.1,Nat.lt_of_lt_of_le k.2.1 b.size,k.2.2⟩,fun q hq=>let k:=h.lG q hq;⟨k.1,Nat.lt_of_lt_of_le k.2.1 b.size,k.2.2⟩,h.ne⟩
theorem Two.touch (hA:Hands EA) (hG:Hands EG) (h:Two tA tG EA EG loA loG D wd Ax ca Ag cg i LA LG) {S:Nat->Prop} (t:Touch S wd u) (hS: ∀b,D<=b->b<wd.heap.size-> ¬S b):Two tA tG EA EG loA loG D u Ax ca Ag cg i LA LG:=
 ⟨h.a.touch hA t (fun b e=>hS b (h.a.block b e).1 (h.a.block b e).2) (fun b hb _=>hS b (h.lA b hb).1 (h.lA b hb).2.1),h.g.touch hG t (fun b e=>hS b (h.g.block b e).1 (h.g.block b e).2) (fun b hb _=>hS b (h.lG b hb).1 (h.lG b hb).2.1),
  fun q hq=>let k:=h.lA q hq;⟨k.1,Nat.lt_of_lt_of_le k.2.1 t.size,k.2.2⟩,fun q hq=>let k:=h.lG q hq;⟨k.1,Nat.lt_of_lt_of_le k.2.1 t.size,k.2.2⟩,h.ne⟩
theorem Two.push (hA:Hands EA) (hG:Hands EG) (h:Two tA tG EA EG loA loG D wd Ax ca Ag cg i LA LG) (hD:D<=wd.heap.size)
  (a1:ZA.length=LA.length) (a2:wd.ownsRow D tA 1 (.slice Ax i ca) i (rmCells (fun _=>[]) LA ZA)) (a3: ∀(j:Nat) z x,ZA[j]? =some z->LA[j]? =some x->EA wd (fun b=>loA b/\b<wd.heap.size/\(Value.slice Ax i ca).ownBlock≠some b) z x)
  (g1:ZG.length=LG.length) (g2:wd.ownsRow D tG 1 (.slice Ag i cg) i (rmCells (fun _=>[]) LG ZG)) (g3: ∀(j:Nat) z x,ZG[j]? =some z->LG[j]? =some x->EG wd (fun b=>loG b/\b<wd.heap.size/\(Value.slice Ag i cg).ownBlock≠some b) z x)
  (hrb:D<=rb/\rb<wd.heap.size/\(Value.slice Ax i ca).ownBlock≠some rb/\(Value.slice Ag i cg).ownBlock≠some rb) (htb:D<=tb/\tb<wd.heap.size/\(Value.slice Ax i ca).ownBlock≠some tb/\(Value.slice Ag i cg).ownBlock≠some tb)
  (ra:EA wd (fun b=>b=rb) za xa) (rg:EG wd (fun b=>b=tb) zg xg)
  (b1:Below wd.heap.size wd u) (o1:w1.ownsRow D tA 1 (.slice A' (i+1) ca') (i+1) (rmCells (fun _=>[]) LA ZA++[za])) (r1:u.grownBy w1 (Value.slice Ax i ca).ownBlock) (h1:(Value.slice A' (i+1) ca').ownBlock=(Value.slice Ax i ca).ownBlock\/(Value.slice A' (i+1) ca').ownBlock=some u.heap.size)
  (b2:Below w1.heap.size w1 v) (o2:w2.ownsRow D tG 1 (.slice G' (i+1) cg') (i+1) (rmCells (fun _=>[]) LG ZG++[zg])) (r2:v.grownBy w2 (Value.slice Ag i cg).ownBlock) (h2:(Value.slice G' (i+1) cg').ownBlock=(Value.slice Ag i cg).ownBlock\/(Value.slice G' (i+1) cg').ownBlock=some v.heap.size):
  Two tA tG EA EG (fun b=>loA b\/b=rb) (fun b=>loG b\/b=tb) D w2 A' ca' G' cg' (i+1) (LA++[xa]) (LG++[xg])/\Below D wd w2:=by
 have hoA: ∀b,(Value.slice Ax i ca).ownBlock=some b->D<=b/\b<wd.heap.size:=fun b e=>a2.lt b e
 have hoG: ∀b,(Value.slice Ag i cg).ownBlock=some b->D<=b/\b<wd.heap.size:=fun b e=>g2.lt b e
 have t1:Touch (fun k=>(Value.slice Ax i ca).ownBlock=some k) u w1:=(Touch.refl _ _).grown r1 (fun k e _=>e)
 have t2:Touch (fun k=>(Value.slice Ag i cg).ownBlock=some k) v w2:=(Touch.refl _ _).grown r2 (fun k e _=>e)
 have s1:=b1.size
 have s2:=t1.size
 have s3:=b2.size
 have s4:=t2.size
 have ra':EA wd (fun b=>(loA b\/b=rb)/\b<wd.heap.size/\(Value.slice Ax i ca).ownBlock≠some b) za xa:=hA.mono ra fun b hb=>by subst hb;exact⟨.inr rfl,hrb.2.1,hrb.2.2.1⟩
 obtain⟨p1,q1,-⟩:=RM.push (pre:=fun _:X=>[]) (lo:=fun b=>loA b\/b=rb) (w1:=wd) hA h.a.hn a1 a2 (fun j z x hz hx=>hA.mono (a3 j z x hz hx) fun b hb=>⟨.inl hb.1,hb.2⟩) hD ra' (Below.refl _ _) b1 o1 r1 h1
 -- the other row,from wd tq9 w1
 have gg:RM tG 1 (fun _:Y=>[]) EG loG D u Ag i cg LG:=h.g.below hG b1
 have gg1:RM tG 1 (fun _:Y=>[]) EG (fun b=>loG b\/b=tb) D w1 Ag i cg LG:=(gg.touch hG t1 (fun b e e'=>h.ne b e' e) (fun b hb _ e=>(h.lG b hb).2.2.1 e)).lo hG fun b hb=> .inl hb
 obtain⟨ZG',k1,k2,k3⟩:=gg1.ex
 have eZ:rmCells (fun _:Y=>[]) LG ZG'=rmCells (fun _:Y=>[]) LG ZG:=by
  have e1:w1.ownsRow D tG 1 (.slice Ag i cg) i (rmCells (fun _=>[]) LG ZG):=t1.own (own_below' g2 b1) fun b e e'=>h.ne b e' e
  exact own_unique k2 e1
 rw [<-eZ]at o2
 have rg1:EG w1 (fun b=>(loG b\/b=tb)/\b<w1.heap.size/\(Value.slice Ag i cg).ownBlock≠some b) zg xg:=hG.mono (hG.touch (hG.touch rg (Touch.of_size b1 (fun _=>False)) (fun _ _ e=>e)) t1 (fun b hb e=>by subst hb;exact htb.2.2.1 e)) fun b hb=>by subst hb;exact⟨.inr rfl,by omega,htb.2.2.2⟩
 obtain⟨p2,q2,-⟩:=RM.push (pre:=fun _:Y=>[]) (lo:=fun b=>loG b\/b=tb) (w1:=w1) hG gg1.hn k1 k2 k3 (by omega) rg1 (Below.refl _ _) b2 o2 r2 h2
 -- the first row,from w1 tq9 w2
 have hA': ∀b,(Value.slice A' (i+1) ca').ownBlock=some b->(Value.slice Ax i ca).ownBlock=some b\/(b=u.heap.size/\b<w1.heap.size):=fun b e=>by
  rcases h1 with hh|hh
  ·exact .inl (hh▸e)
  ·have:=o1.lt b e
   rw [hh]at e;injection e with e;exact .inr ⟨e.symm,this.2⟩
 have hG': ∀b,(Value.slice G' (i+1) cg').ownBlock=some b->(Value.slice Ag i cg).ownBlock=some b\/b=v.heap.size:=fun b e=>by
  rcases h2 with hh|hh
  ·exact .inl (hh▸e)
  ·rw [hh]at e;injection e with e;exact .inr e.symm
 have p1v:=p1.below hA b2
 have p1':=p1v.touch hA t2 (fun b e e'=>by
  rcases hA' b e with hh|hh
  ·exact h.ne b hh e'
  ·have:=hoG b e';omega) (fun b hb _ e'=>by
  rcases hb with hb|hb
  ·exact(h.lA b hb).2.2.2 e'
  ·subst hb;exact hrb.2.2.2 e')
 have cA: ∀b,D<=b/\b<wd.heap.size/\(Value.slice Ax i ca).ownBlock≠some b/\(Value.slice Ag i cg).ownBlock≠some b->D<=b/\b<w2.heap.size/\(Value.slice A' (i+1) ca').ownBlock≠some b/\(Value.slice G' (i+1) cg').ownBlock≠some b:=fun b hb=>by
  refine⟨hb.1,by omega,fun e=> ?_,fun e=> ?_⟩
  ·rcases hA' b e with hh|hh
   ·exact hb.2.2.1 hh
   ·omega
  ·rcases hG' b e with hh|hh
   ·exact hb.2.2.2 hh
   ·omega
 refine⟨⟨p1',p2,fun b hb=>cA b ?_,fun b hb=>cA b ?_,fun b e e'=> ?_⟩,?_⟩
 ·rcases hb with hb|hb
  ·exact h.lA b hb
  ·subst hb;exact hrb
 ·rcases hb with hb|hb
  ·exact h.lG b hb
  ·subst hb;exact htb
 ·rcases hA' b e with hh|hh
  ·rcases hG' b e' with kk|kk
   ·exact h.ne b hh kk
   ·have:=hoA b hh;omega
  ·rcases hG' b e' with kk|kk
   ·have:=hoG b kk;omega
   ·omega
 ·exact q1.trans (q2.mono (Nat.le_refl _))
end
end Go.Proofs.YthlbjgabhpdbfaaGreat

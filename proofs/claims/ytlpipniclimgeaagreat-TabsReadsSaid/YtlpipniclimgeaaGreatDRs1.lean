/- Packed tables: the reference's comparing of two. -/
import Derived.Test.YtlpipniclimgeaaGreatDPack5
import Derived.Test.YtlpipniclimgeaaGreatDItem8
import Derived.RangeFuncNested
import Derived.RangeFuncBound
import Derived.RangeFuncCalls
import Derived.RangeFuncLeaves
import Derived.Shelf.Abstract
import Derived.TacticsInMore
import Derived.OwnWalkIn
import Derived.LoopNIn
import Derived.LoopIn
import Derived.Test.YtlpipniclimgeaaGreatDBase
import Derived.Test.YtlpipniclimgeaaGreatDTabsPlain
import Derived.Test.YtlpipniclimgeaaGreatDTabs2
namespace Go.Proofs.YtlpipniclimgeaaGreat
set_option linter.unusedVariables false
set_option linter.unusedSimpArgs false
open Go.RowKit
attribute [local irreducible] wpStill wpOne wpPh
theorem pack_ext {p q:PackD} (h1:p.terms=q.terms) (h2:p.nons=q.nons) (h3:p.row=q.row) (h4:p.gow=q.gow) (h5:p.rules=q.rules) (h6:p.rows=q.rows) (h7:p.gows=q.gows):p=q:=by
 cases p;cases q;simp only at *;subst h1 h2 h3 h4 h5 h6 h7;rfl
theorem ext_upto {α:Type} {n:Nat} {L K:List α} (h1:n=L.length) (h2:n=K.length) (h: ∀j:Nat,j<n->L[j]? =K[j]?):L=K:=List.ext_getElem? fun j=>by
 by_cases hj:j<n
 ·exact h j hj
 ·rw [List.getElem?_eq_none (by omega),List.getElem?_eq_none (by omega)]
structure PBox2 (w:World) (F G:Nat->Prop) (B:Nat) (A1:Option Addr) (n1 c1:Nat) (A2:Option Addr) (n2 c2:Nat) (A3:Option Addr) (n3 c3:Nat) (A4:Option Addr) (n4 c4:Nat) (A5:Option Addr) (n5 c5:Nat) (T N:Int) (p:PackD)
  (E1:Option Addr) (m1 d1:Nat) (E2:Option Addr) (m2 d2:Nat) (E3:Option Addr) (m3 d3:Nat) (E4:Option Addr) (m4 d4:Nat) (E5:Option Addr) (m5 d5:Nat) (S M:Int) (q:PackD):Prop where
 a:PBox w F B A1 n1 c1 A2 n2 c2 A3 n3 c3 A4 n4 c4 A5 n5 c5 T N p
 b:PBox w G (B+1) E1 m1 d1 E2 m2 d2 E3 m3 d3 E4 m4 d4 E5 m5 d5 S M q
theorem PBox2.below {w w':World} {F G:Nat->Prop} {B:Nat} {A1:Option Addr} {n1 c1:Nat} {A2:Option Addr} {n2 c2:Nat} {A3:Option Addr} {n3 c3:Nat} {A4:Option Addr} {n4 c4:Nat} {A5:Option Addr} {n5 c5:Nat} {T N:Int} {p:PackD}
  {E1:Option Addr} {m1 d1:Nat} {E2:Option Addr} {m2 d2:Nat} {E3:Option Addr} {m3 d3:Nat} {E4:Option Addr} {m4 d4:Nat} {E5:Option Addr} {m5 d5:Nat} {S M:Int} {q:PackD}
  (h:PBox2 w F G B A1 n1 c1 A2 n2 c2 A3 n3 c3 A4 n4 c4 A5 n5 c5 T N p E1 m1 d1 E2 m2 d2 E3 m3 d3 E4 m4 d4 E5 m5 d5 S M q) (b:Below w.heap.size w w'):PBox2 w' F G B A1 n1 c1 A2 n2 c2 A3 n3 c3 A4 n4 c4 A5 n5 c5 T N p E1 m1 d1 E2 m2 d2 E3 m3 d3 E4 m4 d4 E5 m5 d5 S M q:=⟨h.a.below b,h.b.below b⟩
theorem rule_get {w:World} {F:Nat->Prop} {A:Option Addr} {n c:Nat} {L:List (Int×List Int)} (h:RdL w F 2 (ERule w F) (.slice A n c) L) {i:Nat} (hi:i<L.length): ∃b off l x vx,L[i]? =some (l,x)/\A=some ⟨b,off,none⟩/\w.cell? ⟨b,off+i * 2,none⟩=some (.int .i64 l)/\w.cell? ⟨b,off+i * 2+1,none⟩=some vx/\RdI w F vx x:=by
 obtain⟨A',c',hv,hc,hm,hr⟩:=h
 injection hv with e1 e2 e3
 subst e1
 obtain⟨b,off,hA,hb,hcell⟩:=hr (by omega)
 obtain⟨⟨l,x⟩,hx⟩: ∃x,L[i]? =some x:=⟨_,List.getElem?_eq_getElem hi⟩
 obtain⟨cs,h1,⟨vx,h2,h3⟩,h4⟩:=hcell i _ hx
 subst h2
 exact⟨b,off,l,x,vx,hx,hA,by simpa using h4 0 _ rfl,by simpa using h4 1 _ rfl,h3⟩
set_option maxRecDepth 100000 in
set_option maxHeartbeats 8000000 in
theorem ref17_Same {w:World} {F G:Nat->Prop} {v1 v2 v3 v4 v5 u1 u2 u3 u4 u5:Value} {p q:PackD} (h:IsPack w F v1 v2 v3 v4 v5 p) (g:IsPack w G u1 u2 u3 u4 u5 q) (r:Bool) (hr:r=true↔p=q):
  Calls Tryz.prog 11 #[PV v1 p.terms p.nons v2 v3 v4 v5,PV u1 q.terms q.nons u2 u3 u4 u5] w (Quiet w (.bool r)):=by
 obtain⟨A1,c1,A2,c2,A3,c3,A4,c4,A5,c5,rfl,rfl,rfl,rfl,rfl,⟨i1,j1⟩,-,⟨i3,j3⟩,-,i5,j5⟩:=h.slices
 have u1:=Nat.le_trans i1 j1
 have u3:=Nat.le_trans i3 j3
 have u5:=Nat.le_trans i5 j5
 clear i1 j1 i3 j3 i5 j5
 obtain⟨E1,d1,E2,d2,E3,d3,E4,d4,E5,d5,rfl,rfl,rfl,rfl,rfl,-⟩:=g.slices
 obtain⟨w1,hw1⟩: ∃q',q'=w.alloc (.cells #[.slice A1 p.rules.length c1,.int .i64 p.terms,.int .i64 p.nons,.slice A2 p.row.length c2,.slice A3 p.rows.length c3,.slice A4 p.gow.length c4,.slice A5 p.gows.length c5] 26):=⟨_,rfl⟩
 have x1:=PBox.new h p.terms p.nons
 have b1:Below w.heap.size w w1:=by rw [hw1];exact(Below.refl _ w).alloc (Nat.le_refl _) _
 rw [<-hw1]at x1
 have z1:w1.heap.size=w.heap.size+1:=by rw [hw1];simp
 have y1:=PBox.new (g.below b1) q.terms q.nons
 obtain⟨w2,hw2⟩: ∃q',q'=w1.alloc (.cells #[.slice E1 q.rules.length d1,.int .i64 q.terms,.int .i64 q.nons,.slice E2 q.row.length d2,.slice E3 q.rows.length d3,.slice E4 q.gow.length d4,.slice E5 q.gows.length d5] 26):=⟨_,rfl⟩
 have b2':Below w1.heap.size w1 w2:=by rw [hw2];exact(Below.refl _ _).alloc (Nat.le_refl _) _
 rw [<-hw2,z1]at y1
 have hc:PBox2 w2 F G w.heap.size A1 p.rules.length c1 A2 p.row.length c2 A3 p.rows.length c3 A4 p.gow.length c4 A5 p.gows.length c5 p.terms p.nons p E1 q.rules.length d1 E2 q.row.length d2 E3 q.rows.length d3 E4 q.gow.length d4 E5 q.gows.length d5 q.terms q.nons q:=⟨x1.below b2',y1⟩
 have bb:=b1.trans (b2'.mono b1.size)
 clear x1 y1 b1 b2' h g
 rw [hw1]at hw2
 have cI: ∀wr (hc:PBox2 wr F G w.heap.size A1 p.rules.length c1 A2 p.row.length c2 A3 p.rows.length c3 A4 p.gow.length c4 A5 p.gows.length c5 p.terms p.nons p E1 q.rules.length d1 E2 q.row.length d2 E3 q.rows.length d3 E4 q.gow.length d4 E5 q.gows.length d5 q.terms q.nons q),Calls Tryz.prog 32 #[.slice A2 p.row.length c2,.slice E2 q.row.length d2] wr (Quiet wr (.bool (decide (p.row=q.row)))):=fun wr hc=>ref_ints hc.a.pk.row hc.b.pk.row
 have cJ: ∀wr (hc:PBox2 wr F G w.heap.size A1 p.rules.length c1 A2 p.row.length c2 A3 p.rows.length c3 A4 p.gow.length c4 A5 p.gows.length c5 p.terms p.nons p E1 q.rules.length d1 E2 q.row.length d2 E3 q.rows.length d3 E4 q.gow.length d4 E5 q.gows.length d5 q.terms q.nons q),Calls Tryz.prog 32 #[.slice A4 p.gow.length c4,.slice E4 q.gow.length d4] wr (Quiet wr (.bool (decide (p.gow=q.gow)))):=fun wr hc=>ref_ints hc.a.pk.gow hc.b.pk.gow
 obtain⟨T,gT⟩: ∃x,x=p.terms:=⟨_,rfl⟩
 obtain⟨N,gN⟩: ∃x,x=p.nons:=⟨_,rfl⟩
 obtain⟨S,hS⟩: ∃x,x=q.terms:=⟨_,rfl⟩
 obtain⟨M,hM⟩: ∃x,x=q.nons:=⟨_,rfl⟩
 obtain⟨n1,g1⟩: ∃x,x=p.rules.length:=⟨_,rfl⟩
 obtain⟨n2,g2⟩: ∃x,x=p.row.length:=⟨_,rfl⟩
 obtain⟨n3,g3⟩: ∃x,x=p.rows.length:=⟨_,rfl⟩
 obtain⟨n4,g4⟩: ∃x,x=p.gow.length:=⟨_,rfl⟩
 obtain⟨n5,g5⟩: ∃x,x=p.gows.length:=⟨_,rfl⟩
 obtain⟨m1,h1⟩: ∃x,x=q.rules.length:=⟨_,rfl⟩
 obtain⟨m2,h2⟩: ∃x,x=q.row.length:=⟨_,rfl⟩
 obtain⟨m3,h3⟩: ∃x,x=q.rows.length:=⟨_,rfl⟩
 obtain⟨m4,h4⟩: ∃x,x=q.gow.length:=⟨_,rfl⟩
 obtain⟨m5,h5⟩: ∃x,x=q.gows.length:=⟨_,rfl⟩
 rw [<-gT,<-gN,<-hS,<-hM,<-g1,<-g2,<-g3,<-g4,<-g5,<-h1,<-h2,<-h3,<-h4,<-h5]at hc hw2 cI cJ
 rw [<-g1]at u1
 rw [<-g3]at u3
 rw [<-g5]at u5
 rw [<-gT,<-gN,<-hS,<-hM,<-g1,<-g2,<-g3,<-g4,<-g5,<-h1,<-h2,<-h3,<-h4,<-h5]
 clear hw1 z1
 obtain⟨XcI,XcJ,XgT,XgN,XhS,XhM,Xg1,Xg2,Xg3,Xg4,Xg5,Xh1,Xh2,Xh3⟩:=HqZ14 cI cJ gT gN hS hM g1 g2 g3 g4 g5 h1 h2 h3;obtain⟨Xh4,Xh5,Xhr⟩:=HqZ3 h4 h5 hr;clear cI cJ gT gN hS hM g1 g2 g3 g4 g5 h1 h2 h3 h4 h5 hr
 obtain⟨a0,a1,a2,a3,a4,a5,a6⟩:=hc.a.cells
 obtain⟨b0,b1,b2,b3,b4,b5,b6⟩:=hc.b.cells
 rw [hw2]at a0 a1 a2 a3 a4 a5 a6 b0 b1 b2 b3 b4 b5 b6 hc
 by_cases eT:T=S
 ·subst eT
  by_cases eN:N=M
  ·subst eN
   have cI0:=XcI.out _ hc
   obtain⟨XcI0,Xhc,Xbb⟩:=HqZ3 cI0 hc bb;clear cI0 hc bb
   go_enter Tryz.func11,Tryz.ntmps11
   go_wp2_with fail
   refine XcI0.out.mono ?_
   rintro e w3 ⟨rfl,b3'⟩
   have hc:=Xhc.out.below b3'
   rw [<-hw2]at b3'
   have bb:=Xbb.out.trans (b3'.mono Xbb.out.size)
   clear b3' XcI0 Xhc hw2 a0 a1 a2 a3 a4 a5 a6 b0 b1 b2 b3 b4 b5 b6
   obtain⟨a0,a1,a2,a3,a4,a5,a6⟩:=hc.a.cells
   obtain⟨b0,b1,b2,b3,b4,b5,b6⟩:=hc.b.cells
   by_cases e3:p.row=q.row
   ·have cJ0:=XcJ.out _ hc
    rw [decide_eq_true e3]
    obtain⟨XcJ0,Xhc,Xbb,Xe3⟩:=HqZ4 cJ0 hc bb e3;clear cJ0 hc bb e3
    go_wp2_with fail
    refine XcJ0.out.mono ?_
    rintro e w4 ⟨rfl,b4'⟩
    have hc:=Xhc.out.below b4'
    have bb:=Xbb.out.trans (b4'.mono Xbb.out.size)
    clear b4' XcJ0 Xhc a0 a1 a2 a3 a4 a5 a6 b0 b1 b2 b3 b4 b5 b6
    obtain⟨a0,a1,a2,a3,a4,a5,a6⟩:=hc.a.cells
    obtain⟨b0,b1,b2,b3,b4,b5,b6⟩:=hc.b.cells
    by_cases e4:p.gow=q.gow
    ·rw [decide_eq_true e4]
     have Xe4:=hide e4;clear e4
     by_cases e5:n1=m1
     ·subst e5
      by_cases e6:n3=m3
      ·subst e6
       by_cases e7:n5=m5
       ·subst e7
        clear XcI XcJ
        go_wp2_with fail
        clear a0 a1 a2 a3 a4 a5 a6 b0 b1 b2 b3 b4 b5 b6
        go_loopw [5] (fun i wr=> ∃k:Nat,k<=n1/\i= .int .i64 k/\PBox2 wr F G w.heap.size A1 n1 c1 A2 n2 c2 A3 n3 c3 A4 n4 c4 A5 n5 c5 T N p E1 n1 d1 E2 m2 d2 E3 n3 d3 E4 m4 d4 E5 n5 d5 T N q/\Below w.heap.size w wr/\ ∀j:Nat,j<k->p.rules[j]? =q.rules[j]?) (fun i _=>n1 - (intOf i).toNat)
        case atStart=>exact⟨0,Nat.zero_le _,rfl,hc,bb,fun j hj=>absurd hj (by omega)⟩
        case round=>
         obtain⟨k,hk,rfl,hc,bb,hbe⟩:=hrel
         obtain⟨a0,a1,a2,a3,a4,a5,a6⟩:=hc.a.cells
         obtain⟨b0,b1,b2,b3,b4,b5,b6⟩:=hc.b.cells
         by_cases hlt:k<n1
         ·have hlt1:(k:Int)<(n1:Int):=by omega
          obtain⟨bk,off,l,x,vx,hx,ea,z0,z1,rx⟩:=rule_get hc.a.pk.rules (i:=k) (by rw [<-Xg1.out];exact hlt)
          obtain⟨bk',off',l',y,vy,hy,ea',y0,y1,ry⟩:=rule_get hc.b.pk.rules (i:=k) (by rw [<-Xh1.out];exact hlt)
          have cs:=fun q=>ref_same_rule (l:=l) (m:=l') (rx.drewN q) (ry.drewN q) hc.a.pk.lt hc.b.pk.lt
          have hcD:=hc.below (below_drewN (Below.refl _ wr) 1)
          subst ea ea'
          clear rx ry
          have bbe:=bb.size
          by_cases he:(l,x)=(l',y)
          ·rw [decide_eq_true he]at cs
           have bd:=below_drewN bb 1
           obtain⟨Xcs,Xhbe,Xhe,Xbb,Xhx,Xhy⟩:=HqZ6 cs hbe he bb hx hy;clear cs hbe he bb hx hy;clear hc
           go_wp2_with fail
           refine region_tail 10 (by kernel_rfl) (by kernel_rfl) ?_
           simp only [List.take_succ_cons,List.take_zero,List.drop_succ_cons,List.drop_zero]
           repeat still_step
           refine wpStill_nil ?_
           go_wp2_with fail
           refine(Xcs.out _).mono ?_
           rintro e w5 ⟨rfl,b5'⟩
           have hc:=hcD.below b5'
           have bb:=bd.trans (b5'.mono bd.size)
           clear b5' hcD bd
           go_wp2_with fail
           go_roundw
           case rel=>
            refine⟨k+1,by omega,by go_num,hc,bb,fun j hj=> ?_⟩
            by_cases hjk:j=k
            ·subst hjk;rw [Xhx.out,Xhy.out,Xhe.out]
            ·exact Xhbe.out j (by omega)
           case measure=>simp [intOf];omega
          ·rw [decide_eq_false he]at cs
           have bd:=below_drewN bb 1
           obtain⟨Xcs,Xhe,Xhx,Xhy⟩:=HqZ4 cs he hx hy;clear cs he hx hy;clear hc hbe bb
           go_wp2_with fail
           refine region_tail 10 (by kernel_rfl) (by kernel_rfl) ?_
           simp only [List.take_succ_cons,List.take_zero,List.drop_succ_cons,List.drop_zero]
           repeat still_step
           refine wpStill_nil ?_
           go_wp2_with fail
           refine(Xcs.out _).mono ?_
           rintro e w5 ⟨rfl,b5'⟩
           have bb:=bd.trans (b5'.mono bd.size)
           clear b5' hcD bd
           have Xbb:=hide bb;clear bb
           go_wp2_with fail
           go_ret
           exact⟨ret_bool (by cases r<;>first|rfl|exact absurd (Xhr.out.1 rfl) (fun e=>by rw [e]at Xhx;rw [Xhx.out]at Xhy;have z:=Xhy.out;injection z with z;exact Xhe.out z)),Xbb.out⟩
         ·obtain rfl:n1=k:=by omega
          have erules:p.rules=q.rules:=ext_upto Xg1.out Xh1.out hbe
          clear hbe
          have Xerules:=hide erules;clear erules
          go_wp2_with fail
          go_loopw [6] (fun i wr=> ∃k:Nat,k<=n3/\i= .int .i64 k/\PBox2 wr F G w.heap.size A1 n1 c1 A2 n2 c2 A3 n3 c3 A4 n4 c4 A5 n5 c5 T N p E1 n1 d1 E2 m2 d2 E3 n3 d3 E4 m4 d4 E5 n5 d5 T N q/\Below w.heap.size w wr/\ ∀j:Nat,j<k->p.rows[j]? =q.rows[j]?) (fun i _=>n3 - (intOf i).toNat)
          case atStart=>exact⟨0,Nat.zero_le _,rfl,hc,bb,fun j hj=>absurd hj (by omega)⟩
          case round=>
           obtain⟨k,hk,rfl,hc,bb,hbe⟩:=hrel
           obtain⟨a0,a1,a2,a3,a4,a5,a6⟩:=hc.a.cells
           obtain⟨b0,b1,b2,b3,b4,b5,b6⟩:=hc.b.cells
           by_cases hlt:k<n3
           ·have hlt1:(k:Int)<(n3:Int):=by omega
            obtain⟨x,hx⟩: ∃x,p.rows[k]? =some x:=⟨_,List.getElem?_eq_getElem (by rw [<-Xg3.out];exact hlt)⟩
            obtain⟨y,hy⟩: ∃y,q.rows[k]? =some y:=⟨_,List.getElem?_eq_getElem (by rw [<-Xh3.out];exact hlt)⟩
            obtain⟨bk,off,V,cV,ea,-,z0,rx,-,-⟩:=RdUs.row hc.a.pk.rows hx
            obtain⟨bk',off',V',cV',ea',-,y0,ry,-,-⟩:=RdUs.row hc.b.pk.rows hy
            have cs:=fun q=>ref17_same (Rd.drewN rx q) (Rd.drewN ry q)
            have hcD:=hc.below (below_drewN (Below.refl _ wr) 1)
            subst ea ea'
            generalize x.length=xl at *
            generalize y.length=yl at *
            clear rx ry
            have bbe:=bb.size
            by_cases he:x=y
            ·rw [decide_eq_true he]at cs
             have bd:=below_drewN bb 1
             obtain⟨Xcs,Xhbe,Xhe,Xbb,Xhx,Xhy⟩:=HqZ6 cs hbe he bb hx hy;clear cs hbe he bb hx hy;clear hc
             go_wp2_with fail
             refine region_tail 10 (by kernel_rfl) (by kernel_rfl) ?_
             simp only [List.take_succ_cons,List.take_zero,List.drop_succ_cons,List.drop_zero]
             repeat still_step
             refine wpStill_nil ?_
             go_wp2_with fail
             refine(Xcs.out _).mono ?_
             rintro e w5 ⟨rfl,b5'⟩
             have hc:=hcD.below b5'
             have bb:=bd.trans (b5'.mono bd.size)
             clear b5' hcD bd
             go_wp2_with fail
             go_roundw
             case rel=>
              refine⟨k+1,by omega,by go_num,hc,bb,fun j hj=> ?_⟩
              by_cases hjk:j=k
              ·subst hjk;rw [Xhx.out,Xhy.out,Xhe.out]
              ·exact Xhbe.out j (by omega)
             case measure=>simp [intOf];omega
            ·rw [decide_eq_false he]at cs
             have bd:=below_drewN bb 1
             obtain⟨Xcs,Xhe,Xhx,Xhy⟩:=HqZ4 cs he hx hy;clear cs he hx hy;clear hc hbe bb
             go_wp2_with fail
             refine region_tail 10 (by kernel_rfl) (by kernel_rfl) ?_
             simp only [List.take_succ_cons,List.take_zero,List.drop_succ_cons,List.drop_zero]
             repeat still_step
             refine wpStill_nil ?_
             go_wp2_with fail
             refine(Xcs.out _).mono ?_
             rintro e w5 ⟨rfl,b5'⟩
             have bb:=bd.trans (b5'.mono bd.size)
             clear b5' hcD bd
             have Xbb:=hide bb;clear bb
             go_wp2_with fail
             go_ret
             exact⟨ret_bool (by cases r<;>first|rfl|exact absurd (Xhr.out.1 rfl) (fun e=>by rw [e]at Xhx;rw [Xhx.out]at Xhy;have z:=Xhy.out;injection z with z;exact Xhe.out z)),Xbb.out⟩
           ·obtain rfl:n3=k:=by omega
            have erows:p.rows=q.rows:=ext_upto Xg3.out Xh3.out hbe
            clear hbe
            have Xerows:=hide erows;clear erows
            go_wp2_with fail
            go_loopw [7] (fun i wr=> ∃k:Nat,k<=n5/\i= .int .i64 k/\PBox2 wr F G w.heap.size A1 n1 c1 A2 n2 c2 A3 n3 c3 A4 n4 c4 A5 n5 c5 T N p E1 n1 d1 E2 m2 d2 E3 n3 d3 E4 m4 d4 E5 n5 d5 T N q/\Below w.heap.size w wr/\ ∀j:Nat,j<k->p.gows[j]? =q.gows[j]?) (fun i _=>n5 - (intOf i).toNat)
            case atStart=>exact⟨0,Nat.zero_le _,rfl,hc,bb,fun j hj=>absurd hj (by omega)⟩
            case round=>
             obtain⟨k,hk,rfl,hc,bb,hbe⟩:=hrel
             obtain⟨a0,a1,a2,a3,a4,a5,a6⟩:=hc.a.cells
             obtain⟨b0,b1,b2,b3,b4,b5,b6⟩:=hc.b.cells
             by_cases hlt:k<n5
             ·have hlt1:(k:Int)<(n5:Int):=by omega
              obtain⟨x,hx⟩: ∃x,p.gows[k]? =some x:=⟨_,List.getElem?_eq_getElem (by rw [<-Xg5.out];exact hlt)⟩
              obtain⟨y,hy⟩: ∃y,q.gows[k]? =some y:=⟨_,List.getElem?_eq_getElem (by rw [<-Xh5.out];exact hlt)⟩
              obtain⟨bk,off,V,cV,ea,-,z0,rx,-,-⟩:=RdUs.row hc.a.pk.gows hx
              obtain⟨bk',off',V',cV',ea',-,y0,ry,-,-⟩:=RdUs.row hc.b.pk.gows hy
              have cs:=fun q=>ref17_same (Rd.drewN rx q) (Rd.drewN ry q)
              have hcD:=hc.below (below_drewN (Below.refl _ wr) 1)
              subst ea ea'
              generalize x.length=xl at *
              generalize y.length=yl at *
              clear rx ry
              have bbe:=bb.size
              by_cases he:x=y
              ·rw [decide_eq_true he]at cs
               have bd:=below_drewN bb 1
               obtain⟨Xcs,Xhbe,Xhe,Xbb,Xhx,Xhy⟩:=HqZ6 cs hbe he bb hx hy;clear cs hbe he bb hx hy;clear hc
               go_wp2_with fail
               refine region_tail 10 (by kernel_rfl) (by kernel_rfl) ?_
               simp only [List.take_succ_cons,List.take_zero,List.drop_succ_cons,List.drop_zero]
               repeat still_step
               refine wpStill_nil ?_
               go_wp2_with fail
               refine(Xcs.out _).mono ?_
               rintro e w5 ⟨rfl,b5'⟩
               have hc:=hcD.below b5'
               have bb:=bd.trans (b5'.mono bd.size)
               clear b5' hcD bd
               go_wp2_with fail
               go_roundw
               case rel=>
                refine⟨k+1,by omega,by go_num,hc,bb,fun j hj=> ?_⟩
                by_cases hjk:j=k
                ·subst hjk;rw [Xhx.out,Xhy.out,Xhe.out]
                ·exact Xhbe.out j (by omega)
               case measure=>simp [intOf];omega
              ·rw [decide_eq_false he]at cs
               have bd:=below_drewN bb 1
               obtain⟨Xcs,Xhe,Xhx,Xhy⟩:=HqZ4 cs he hx hy;clear cs he hx hy;clear hc hbe bb
               go_wp2_with fail
               refine region_tail 10 (by kernel_rfl) (by kernel_rfl) ?_
               simp only [List.take_succ_cons,List.take_zero,List.drop_succ_cons,List.drop_zero]
               repeat still_step
               refine wpStill_nil ?_
               go_wp2_with fail
               refine(Xcs.out _).mono ?_
               rintro e w5 ⟨rfl,b5'⟩
               have bb:=bd.trans (b5'.mono bd.size)
               clear b5' hcD bd
               have Xbb:=hide bb;clear bb
               go_wp2_with fail
               go_ret
               exact⟨ret_bool (by cases r<;>first|rfl|exact absurd (Xhr.out.1 rfl) (fun e=>by rw [e]at Xhx;rw [Xhx.out]at Xhy;have z:=Xhy.out;injection z with z;exact Xhe.out z)),Xbb.out⟩
             ·obtain rfl:n5=k:=by omega
              have egows:p.gows=q.gows:=ext_upto Xg5.out Xh5.out hbe
              clear hbe
              have Xegows:=hide egows;clear egows
              go_wp2_with fail
              have Xbb:=hide bb;clear bb
              go_ret
              exact⟨ret_bool ((Xhr.out.2 (pack_ext (XgT.out.symm.trans XhS.out) (XgN.out.symm.trans XhM.out) Xe3.out Xe4.out Xerules.out Xerows.out Xegows.out)).symm▸rfl),Xbb.out⟩
       ·have hne:((n5:Int)==(m5:Int))=false:=by simpa using(by omega: ¬(n5:Int)=(m5:Int))
        have Xbb:=hide bb;clear bb
        go_wp2_with fail
        go_ret
        exact⟨ret_bool (by cases r<;>first|rfl|exact absurd (Xhr.out.1 rfl) (fun e=>e7 (by rw [Xg5.out,Xh5.out,e]))),Xbb.out⟩
      ·have hne:((n3:Int)==(m3:Int))=false:=by simpa using(by omega: ¬(n3:Int)=(m3:Int))
       have Xbb:=hide bb;clear bb
       go_wp2_with fail
       go_ret
       exact⟨ret_bool (by cases r<;>first|rfl|exact absurd (Xhr.out.1 rfl) (fun e=>e6 (by rw [Xg3.out,Xh3.out,e]))),Xbb.out⟩
     ·have hne:((n1:Int)==(m1:Int))=false:=by simpa using(by omega: ¬(n1:Int)=(m1:Int))
      have Xbb:=hide bb;clear bb
      go_wp2_with fail
      go_ret
      exact⟨ret_bool (by cases r<;>first|rfl|exact absurd (Xhr.out.1 rfl) (fun e=>e5 (by rw [Xg1.out,Xh1.out,e]))),Xbb.out⟩
    ·rw [decide_eq_false e4]
     have Xbb:=hide bb;clear bb
     go_wp2_with fail
     go_ret
     exact⟨ret_bool (by cases r<;>first|rfl|exact absurd (Xhr.out.1 rfl) (fun e=>e4 (by rw [e]))),Xbb.out⟩
   ·rw [decide_eq_false e3]
    have Xbb:=hide bb;clear bb
    go_wp2_with fail
    go_ret
    exact⟨ret_bool (by cases r<;>first|rfl|exact absurd (Xhr.out.1 rfl) (fun e=>e3 (by rw [e]))),Xbb.out⟩
  ·have hne:(N==M)=false:=by simpa using eN
   rw [hw2]at bb
   clear hc
   have Xbb:=hide bb;clear bb
   go_enter Tryz.func11,Tryz.ntmps11
   go_wp2_with fail
   go_ret
   exact⟨ret_bool (by cases r<;>first|rfl|exact absurd (Xhr.out.1 rfl) (fun e=>eN (by rw [XgN.out,XhM.out,e]))),Xbb.out⟩
 ·have hne:(T==S)=false:=by simpa using eT
  rw [hw2]at bb
  clear hc
  have Xbb:=hide bb;clear bb
  go_enter Tryz.func11,Tryz.ntmps11
  go_wp2_with fail
  go_ret
  exact⟨ret_bool (by cases r<;>first|rfl|exact absurd (Xhr.out.1 rfl) (fun e=>eT (by rw [XgT.out,XhS.out,e]))),Xbb.out⟩
end Go.Proofs.YtlpipniclimgeaaGreat
namespace Go.Proofs.YtlpipniclimgeaaGreat
set_option linter.unusedVariables false
set_option linter.unusedSimpArgs false
open Go.RowKit
section
open Go.ChangeShapes Go.WideShapes Go.ChangeAt Go.RowKit Go.Deep
variable {H : Type} {enc : TypeId × Value -> H} {w : World} {sp : Nat -> Bool}
end
theorem list_choice {α β:Type}: ∀{D:List α} {P:Nat->β->Prop},(∀i d,D[i]? =some d-> ∃z,P i z)-> ∃Z:List β,Z.length=D.length/\ ∀i z,Z[i]? =some z->P i z
 |[],P,_=>⟨[],rfl,fun i z h=>by simp at h⟩
 |d::r,P,h=>by
  obtain⟨z,hz⟩:=h 0 d rfl
  obtain⟨Z,h1,h2⟩:=list_choice (D:=r) (P:=fun i z=>P (i+1) z) (fun i d hd=>h (i+1) d (by simpa using hd))
  refine⟨z::Z,by simp [h1],fun i y hy=> ?_⟩
  cases i with
  |zero=>simp at hy;subst hy;exact hz
  |succ i=>exact h2 i y (by simpa using hy)
end Go.Proofs.YtlpipniclimgeaaGreat
namespace Go.Proofs.YtlpipniclimgeaaGreat
set_option linter.unusedVariables false
set_option linter.unusedSimpArgs false
open Go.RowKit Go.Shelf
attribute [local go_sem] Oper.semAt_some
section
variable {own t : Int} {tr : List It} {L : List Lk}
end
end Go.Proofs.YtlpipniclimgeaaGreat
namespace Go.Proofs.YtlpipniclimgeaaGreat
set_option linter.unusedVariables false
open Go.RowKit
def CW (w w':World):Prop:= ∀(a:Addr) (u:Value),w.cell? a=some u->w'.cell? a=some u
theorem CW.refl (w:World):CW w w:=fun _ _ h=>h
theorem Rd.cw {w w':World} {F:Nat->Prop} {v:Value} {size:Nat} {xs:List Value} (h:Rd w F v size xs) (k:CW w w'):Rd w' F v size xs:=by
 obtain⟨A,n,c,hv,hc,hm,hl,hr⟩:=h
 refine⟨A,n,c,hv,hc,hm,hl,fun hn=> ?_⟩
 obtain⟨b,off,hA,hb,hcell⟩:=hr hn
 exact⟨b,off,hA,hb,fun j u hu=>k _ _ (hcell j u hu)⟩
abbrev mark (D:Nat):Deferred:={target:= .collected D,args:= #[]}
def Mk (lo:Nat) (ds:List Deferred) (w:World):Prop:= ∃Ds:List Nat,Ds.Nodup/\ds=Ds.map mark/\ ∀D∈Ds,lo<=D/\w.heap[D]? =some (.deferred (some []))
def markPost (P:Program) (fn:Func) (R:Ending->World->Prop) (e:Exit) (a:Act) (w:World):Prop:=
 (e= .normal\/e= .ret)/\ ∃lo,Mk lo a.defers w/\ ∀w',CW w w'->Below lo w w'->bodyPost P fn R .ret {tmps:=a.tmps,defers:=[]} w'
attribute [irreducible] markPost
end Go.Proofs.YtlpipniclimgeaaGreat
namespace Go.Proofs.YtlpipniclimgeaaGreat
set_option linter.unusedVariables false
set_option linter.unusedSimpArgs false
open Go.RowKit Go.Shelf
attribute [local irreducible] wpStill wpOne wpPh
attribute [local go_sem] Oper.semAt_some
theorem Tryz.infoAct:(Tryz.prog.info? 99).map (fun i=>(i.zero,i.size,i.bytes))=some (some (.agg #[.int .i64 0,.int .i64 0]),2,16):=by kernel_rfl
theorem Tryz.elemAct:Elem Tryz.prog 93 99 (.agg #[.int .i64 0,.int .i64 0]) 2 16:=⟨Tryz.underlying93,Tryz.infoAct,rfl,by decide⟩
theorem below_touch {S:Nat->Prop} {B:Nat} {W W':World} (h:Below B W W') (hS: ∀k,B<=k->S k):Touch S W W':=(Touch.of_below h).mono fun k _ hk=>hS k hk
end Go.Proofs.YtlpipniclimgeaaGreat
namespace Go.Proofs.YtlpipniclimgeaaGreat
set_option linter.unusedVariables false
set_option linter.unusedSimpArgs false
open Go.RowKit
attribute [local irreducible] wpStill wpOne wpPh
theorem touch_three (W:World) (z:Nat) (u v x:Value):Touch (fun k=>k=z) W (((W.setCell ⟨z,0,none⟩ u).setCell ⟨z,1,none⟩ v).setCell ⟨z,2,none⟩ x):=
 Touch.setCell (touch_two W z u v) (p:=⟨z,2,none⟩) (fun _=>rfl) x
end Go.Proofs.YtlpipniclimgeaaGreat
namespace Go.Proofs.YtlpipniclimgeaaGreat
set_option linter.unusedVariables false
set_option linter.unusedSimpArgs false
open Go.RowKit
theorem hands_it:Hands (X:=List Ac) (fun w F z x=>RdIt w F z x):=⟨fun h hF=>Rd.mono h hF,fun h t hF=>Rd.touch h t hF⟩
theorem hands_i:Hands (X:=List Int) (fun w F z x=>RdI w F z x):=⟨fun h hF=>Rd.mono h hF,fun h t hF=>Rd.touch h t hF⟩
end Go.Proofs.YtlpipniclimgeaaGreat
namespace Go.Proofs.YtlpipniclimgeaaGreat
set_option linter.unusedVariables false
open Go.RowKit
theorem RM.lo {X:Type} {e:TypeId} {size:Nat} {pre:X->List Value} {E:World->(Nat->Prop)->Value->X->Prop} {lo lo':Nat->Prop} {base n c:Nat} {w:World} {A:Option Addr} {L:List X} (hE:Hands E) (h:RM e size pre E lo base w A n c L) (hl: ∀b,lo b->lo' b):RM e size pre E lo' base w A n c L:=by
 obtain⟨Z,h1,h2,h3⟩:=h.ex
 exact⟨⟨Z,h1,h2,fun j z x hz hx=>hE.mono (h3 j z x hz hx) fun b hb=>⟨hl b hb.1,hb.2⟩⟩,h.hn⟩
theorem own_unique {w:World} {base e size n:Nat} {v:Value} {xs ys:List Value} (h:w.ownsRow base e size v n xs) (k:w.ownsRow base e size v n ys):xs=ys:=by
 rcases h.2 with⟨rfl,h0⟩|⟨g,cap,cur,rfl,-,hg,-,-,-,ht⟩
 ·have h1:=h.1
  have k1:=k.1
  rw [h0]at h1 k1
  have e1:xs=[]:=List.eq_nil_of_length_eq_zero (by simpa using h1)
  have e2:ys=[]:=List.eq_nil_of_length_eq_zero (by simpa using k1)
  rw [e1,e2]
 ·rcases k.2 with⟨e1,-⟩|⟨g',cap',cur',e1,-,kg,-,-,-,kt⟩
  ·cases e1
  ·injection e1 with e1 _ _
   injection e1 with e1
   injection e1 with e1
   subst e1
   rw [hg]at kg
   injection kg with kg
   injection kg with kg
   subst kg
   rw [<-ht,<-kt]
section
variable {X Y : Type} {tA tG : TypeId} {EA : World -> (Nat -> Prop) -> Value -> X -> Prop} {EG : World -> (Nat -> Prop) -> Value -> Y -> Prop} {loA loG : Nat -> Prop} {D i ca cg ca' cg' : Nat} {wd u w1 v w2 : World} {Ax Ag A' G' : Option Addr} {LA : List X} {LG : List Y} {za zg : Value} {xa : X} {xg : Y} {rb tb : Nat} {ZA ZG : List Value}
structure Two (tA tG:TypeId) (EA:World->(Nat->Prop)->Value->X->Prop) (EG:World->(Nat->Prop)->Value->Y->Prop) (loA loG:Nat->Prop) (D:Nat) (w:World) (Ax:Option Addr) (ca:Nat) (Ag:Option Addr) (cg i:Nat) (LA:List X) (LG:List Y):Prop where
 a:RM tA 1 (fun _=>[]) EA loA D w Ax i ca LA
 g:RM tG 1 (fun _=>[]) EG loG D w Ag i cg LG
 lA: ∀b,loA b->D<=b/\b<w.heap.size/\(Value.slice Ax i ca).ownBlock≠some b/\(Value.slice Ag i cg).ownBlock≠some b
 lG: ∀b,loG b->D<=b/\b<w.heap.size/\(Value.slice Ax i ca).ownBlock≠some b/\(Value.slice Ag i cg).ownBlock≠some b
 ne: ∀b,(Value.slice Ax i ca).ownBlock=some b->(Value.slice Ag i cg).ownBlock≠some b
theorem Two.below (hA:Hands EA) (hG:Hands EG) (h:Two tA tG EA EG loA loG D wd Ax ca Ag cg i LA LG) (b:Below wd.heap.size wd u):Two tA tG EA EG loA loG D u Ax ca Ag cg i LA LG:=
 ⟨h.a.below hA b,h.g.below hG b,fun q hq=>let k:=h.lA q hq;⟨k.1,Nat.lt_of_lt_of_le k.2.1 b.size,k.2.2⟩,fun q hq=>let k:=h.lG q hq;⟨k.1,Nat.lt_of_lt_of_le k.2.1 b.size,k.2.2⟩,h.ne⟩
theorem Two.touch (hA:Hands EA) (hG:Hands EG) (h:Two tA tG EA EG loA loG D wd Ax ca Ag cg i LA LG) {S:Nat->Prop} (t:Touch S wd u) (hS: ∀b,D<=b->b<wd.heap.size-> ¬S b):Two tA tG EA EG loA loG D u Ax ca Ag cg i LA LG:=
 ⟨h.a.touch hA t (fun b e=>hS b (h.a.block b e).1 (h.a.block b e).2) (fun b hb _=>hS b (h.lA b hb).1 (h.lA b hb).2.1),h.g.touch hG t (fun b e=>hS b (h.g.block b e).1 (h.g.block b e).2) (fun b hb _=>hS b (h.lG b hb).1 (h.lG b hb).2.1),
  fun q hq=>let k:=h.lA q hq;⟨k.1,Nat.lt_of_lt_of_le k.2.1 t.size,k.2.2⟩,fun q hq=>let k:=h.lG q hq;⟨k.1,Nat.lt_of_lt_of_le k.2.1 t.size,k.2.2⟩,h.ne⟩
end
end Go.Proofs.YtlpipniclimgeaaGreat
namespace Go.Proofs.YtlpipniclimgeaaGreat
set_option linter.unusedVariables false
open Go Go.RowKit
section
variable {P : Program} {ops : Array Oper} {md : Region.Mode} {S : World -> Prop} {Q : Exit -> Act -> World -> Prop}
def wpHq (P:Program) (md:Region.Mode) (ops:Array Oper) (Q:Exit->Act->World->Prop) (S:World->Prop) (hd:Nat->Bool) (L:Array Bool->Act->World->Prop):Nat->Array Bool->Act->World->Prop
 |0,listed,a,w=>L listed a w
 |f+1,listed,a,w=>Region.ready md ops listed≠[]/\ ∀j∈Region.ready md ops listed,hd j=true/\wpOp P ops Q j (fun a' w'=>S w'/\wpHq P md ops Q S hd L f (listed.setIfInBounds j true) a' w') a w
theorem wpAny_of_hq {hd:Nat->Bool} {g:Nat} {L:Array Bool->Act->World->Prop} (hL: ∀listed a w,L listed a w->wpAny P md ops Q g listed a w):
  ∀(f:Nat) (listed:Array Bool) (a:Act) (w:World),wpHq P md ops Q S hd L f listed a w->wpAny P md ops Q (f+g) listed a w
 |0,listed,a,w,h=>by rw [Nat.zero_add];exact hL _ _ _ h
 |f+1,listed,a,w,h=>by
  rw [show f+1+g=(f+g)+1 by omega]
  exact⟨fun h0=>absurd h0 h.1,fun i hi=>wpOp_mono (fun a' w' h'=>wpAny_of_hq hL f _ a' w' h'.2) (h.2 i hi).2⟩
def waitsF (md:Region.Mode) (ops:Array Oper):Nat->Oper->Nat->Bool
 |0,_,_=>false
 |f+1,oj,i=>oj.after.any fun e=>Region.binds md e&&(decide (e.on=i)||match ops[e.on]? with
  |none=>false
  |some ok=>waitsF md ops f ok i)
def waitsB (md:Region.Mode) (ops:Array Oper) (hd:Nat->Bool):Bool:=(List.range ops.size).all fun j=>hd j||match ops[j]? with
 |none=>true
 |some oj=>(List.range ops.size).all fun i=> !hd i||waitsF md ops 3 oj i
def ClosedQ (md:Region.Mode) (ops:Array Oper) (listed:Array Bool):Prop:= ∀(k:Nat) (ok:Oper),ops[k]? =some ok->listed.getD k false=true-> ∀e∈ok.after,Region.binds md e=true->listed.getD e.on false=true
def closedQ (md:Region.Mode) (ops:Array Oper) (listed:Array Bool):Bool:=(List.range ops.size).all fun k=> !listed.getD k false||match ops[k]? with
 |none=>true
 |some ok=>ok.after.all fun e=> !Region.binds md e||listed.getD e.on false
theorem closedQ_spec {listed:Array Bool} (h:closedQ md ops listed=true):ClosedQ md ops listed:=fun k ok hk hl e he hb=>by
 unfold closedQ at h
 rw [List.all_eq_true]at h
 have h1:=h k (List.mem_range.2 (Array.getElem?_eq_some_iff.1 hk).1)
 rw [hl,hk,Bool.not_true,Bool.false_or]at h1
 simp only at h1
 rw [Array.all_eq_true]at h1
 obtain⟨n,hn,rfl⟩:=Array.mem_iff_getElem.1 he
 have h2:=h1 n hn
 rw [hb,Bool.not_true,Bool.false_or]at h2
 exact h2
theorem getD_set_keepQ {l:Array Bool} {i k:Nat} (h:l.getD k false=true):(l.setIfInBounds i true).getD k false=true:=by
 by_cases hik:i=k
 ·subst hik
  rw [Array.getD_eq_getD_getElem?]at h⊢
  rw [Array.getElem?_setIfInBounds]
  by_cases hl:i<l.size
  ·simp [hl]
  ·rw [Array.getElem?_eq_none (by omega)]at h;cases h
 ·rw [Array.getD_eq_getD_getElem?]at h⊢
  rw [Array.getElem?_setIfInBounds,if_neg hik]
  exact h
theorem ClosedQ.set {listed:Array Bool} {i:Nat} (h:ClosedQ md ops listed) (hr:i∈Region.ready md ops listed):ClosedQ md ops (listed.setIfInBounds i true):=fun k ok hk hl e he hb=>by
 by_cases hik:i=k
 ·subst hik
  obtain⟨_,oj,hoj,hall⟩:=mem_ready.1 hr
  rw [hoj]at hk
  cases hk
  exact getD_set_keepQ (hall e he hb)
 ·refine getD_set_keepQ (h k ok hk ?_ e he hb)
  rw [Array.getD_eq_getD_getElem?]at hl⊢
  rw [Array.getElem?_setIfInBounds,if_neg hik]at hl
  exact hl
theorem waitsF_spec {listed:Array Bool} (hc:ClosedQ md ops listed) {i:Nat}: ∀(f:Nat) (oj:Oper),(∀e∈oj.after,Region.binds md e=true->listed.getD e.on false=true)->waitsF md ops f oj i=true->listed.getD i false=true
 |0,_,_,h=>by cases h
 |f+1,oj,hall,h=>by
  unfold waitsF at h
  rw [Array.any_eq_true]at h
  obtain⟨n,hn,e⟩:=h
  rw [Bool.and_eq_true,Bool.or_eq_true,decide_eq_true_eq]at e
  have l1:=hall _ (Array.getElem_mem hn) e.1
  rcases e.2 with e2|e2
  ·rw [e2]at l1;exact l1
  ·split at e2
   ·cases e2
   ·rename_i ok hok
    exact waitsF_spec hc f ok (fun e he hb=>hc _ ok hok l1 e he hb) e2
theorem waitsB_spec {hd:Nat->Bool} (h:waitsB md ops hd=true) {listed:Array Bool} (hc:ClosedQ md ops listed) {i j:Nat} {oj:Oper} (hj:ops[j]? =some oj) (h1:hd j=false) (h2:hd i=true) (hi:i<ops.size)
  (hall: ∀e∈oj.after,Region.binds md e=true->listed.getD e.on false=true):listed.getD i false=true:=by
 unfold waitsB at h
 rw [List.all_eq_true]at h
 have hjs:=(Array.getElem?_eq_some_iff.1 hj).1
 have k:=h j (List.mem_range.2 hjs)
 rw [h1,Bool.false_or,hj]at k
 simp only at k
 rw [List.all_eq_true]at k
 have k2:=k i (List.mem_range.2 hi)
 rw [h2,Bool.not_true,Bool.false_or]at k2
 exact waitsF_spec hc 3 oj hall k2
theorem wpHq_first {hd:Nat->Bool} {i:Nat} {oi:Oper} {v:Value} {L:Array Bool->Act->World->Prop} (hi:ops[i]? =some oi) (hsel: ∀(j:Nat) (o:Oper) cs b,ops[j]? =some o->o.op≠ .select cs b)
  (hQ: ∀c a w,Q (.panic c) (a.put oi.dst v) w->Q (.panic c) a w) (hw:waitsB md ops hd=true) (him:hd i=true)
  (hdone: ∀listed a w,L listed a w-> ∀j∈Region.ready md ops listed,hd j=false):
  ∀(f:Nat) (listed:Array Bool) (a:Act) (w:World),
   (∀j oj,ops[j]? =some oj->j≠i->listed.getD j true=false->(∀e∈oj.after,Region.binds md e=true->e.on≠i)->oi.apart ops oj=true)->
   ClosedQ md ops listed->i∈Region.ready md ops listed->YieldsIf P ops S oi v a->S w->
   wpHq P md ops Q S hd L f (listed.setIfInBounds i true) (a.put oi.dst v) w->wpHq P md ops Q S hd L (f+1) listed a w:=by
 have his:=(Array.getElem?_eq_some_iff.1 hi).1
 have head: ∀(listed:Array Bool),ClosedQ md ops listed->i∈Region.ready md ops listed-> ∀j∈Region.ready md ops listed,hd j=true:=fun listed hc hr j hj=>by
  cases hh:hd j with
  |true=>rfl
  |false=>
   obtain⟨hjun,oj,hoj,hall⟩:=mem_ready.1 hj
   have h1:=waitsB_spec hw hc hoj hh him his hall
   rw [getD_both (mem_ready.1 hr).1]at h1
   cases h1
 intro f
 induction f with
 |zero=>
  intro listed a w _ hc hr hy hS H
  refine⟨fun h=>(by rw [h]at hr;cases hr),fun j hj=>⟨head listed hc hr j hj,?_⟩⟩
  by_cases hji:j=i
  ·subst hji;exact hy.wpOp hi hS ⟨hS,H⟩
  ·have:=hdone _ _ _ H j (ready_mono hj hji)
   rw [head listed hc hr j hj]at this
   cases this
 |succ f ih=>
  intro listed a w hfree hc hr hy hS H
  have hun:=(mem_ready.1 hr).1
  refine⟨fun h=>(by rw [h]at hr;cases hr),fun j hj=>⟨head listed hc hr j hj,?_⟩⟩
  by_cases hji:j=i
  ·subst hji;exact hy.wpOp hi hS ⟨hS,H⟩
  ·have h1:=(H.2 j (ready_mono hj hji)).2
   obtain⟨hjun,oj,hoj,hall⟩:=mem_ready.1 hj
   have hnot: ∀e∈oj.after,Region.binds md e=true->e.on≠i:=fun e he hb heq=>by
    have h1:=hall e he hb
    rw [heq,getD_both hun]at h1
    cases h1
   have h2:=wpOp_putIf hoj (hfree j oj hoj hji hjun hnot) (fun cs b=>hsel i oi cs b hi) (fun cs b=>hsel j oj cs b hoj) hQ hy h1
   have hfree': ∀k ok,ops[k]? =some ok->k≠i->(listed.setIfInBounds j true).getD k true=false->
     (∀e∈ok.after,Region.binds md e=true->e.on≠i)->oi.apart ops ok=true:=fun k ok hk hki hun hno=>by
    refine hfree k ok hk hki ?_ hno
    by_cases hjk:j=k
    ·subst hjk;exact hjun
    ·rw [getD_set_ne true hjk]at hun;exact hun
   refine wpOp_mono (fun a' w' h3=>⟨h3.2.1,ih (listed.setIfInBounds j true) a' w' hfree' (hc.set hj) (ready_mono hr (Ne.symm hji)) h3.1 h3.2.1 ?_⟩) h2
   rw [Array.setIfInBounds_comm _ _ hji]
   exact h3.2.2
end
section
variable {P : Program} {ops : Array Oper} {md : Region.Mode} {S : World -> Prop} {Q : Exit -> Act -> World -> Prop}
def Lq (P:Program) (md:Region.Mode) (ops:Array Oper) (Q:Exit->Act->World->Prop) (hd:Nat->Bool) (g:Nat) (listed:Array Bool) (a:Act) (w:World):Prop:=
 ((Region.ready md ops listed).all fun j=> !hd j)=true/\wpAny P md ops Q g listed a w
theorem wpHq_take {hd:Nat->Bool} {g i:Nat} {oi:Oper} {v:Value} {fuel:Nat} {listed:Array Bool} {a:Act} {w:World} (hi:ops[i]? =some oi)
  (hs:Region.noSelect ops=true) (hwt:waitsB md ops hd=true) (him:hd i=true) (hcl:closedQ md ops listed=true) (hf:Region.free md ops listed i=true) (hr:(Region.ready md ops listed).contains i=true)
  (hQ: ∀c a w,Q (.panic c) (a.put oi.dst v) w->Q (.panic c) a w) (hy:YieldsIf P ops S oi v a) (hS:S w)
  (h:wpHq P md ops Q S hd (Lq P md ops Q hd g) fuel (listed.setIfInBounds i true) (a.put oi.dst v) w):wpHq P md ops Q S hd (Lq P md ops Q hd g) (fuel+1) listed a w:=
 wpHq_first hi (Region.noSelect_spec hs) hQ hwt him (fun l b u hL j hj=>by
  have:=(List.all_eq_true.1 hL.1) j hj
  simpa using this) fuel listed a w (Region.free_spec hi hf) (closedQ_spec hcl) (by simpa using hr) hy hS h
theorem tkq {hd:Nat->Bool} {g i:Nat} {oi:Oper} {v:Value} {fuel:Nat} {listed:Array Bool} {a:Act} {w:World} (hi:ops[i]? =some oi)
  (hb:(Region.noSelect ops&&(waitsB md ops hd&&(hd i&&(closedQ md ops listed&&(Region.free md ops listed i&&(Region.ready md ops listed).contains i)))))=true)
  (hQ: ∀c a w,Q (.panic c) (a.put oi.dst v) w->Q (.panic c) a w) (hy:YieldsIf P ops S oi v a) (hS:S w)
  (h:wpHq P md ops Q S hd (Lq P md ops Q hd g) fuel (listed.setIfInBounds i true) (a.put oi.dst v) w):wpHq P md ops Q S hd (Lq P md ops Q hd g) (fuel+1) listed a w:=by
 rw [Bool.and_eq_true,Bool.and_eq_true,Bool.and_eq_true,Bool.and_eq_true,Bool.and_eq_true]at hb
 exact wpHq_take hi hb.1 hb.2.1 hb.2.2.1 hb.2.2.2.1 hb.2.2.2.2.1 hb.2.2.2.2.2 hQ hy hS h
def AllReadyQ (P:Program) (md:Region.Mode) (ops:Array Oper) (Q:Exit->Act->World->Prop) (S:World->Prop) (hd:Nat->Bool) (L:Array Bool->Act->World->Prop) (f:Nat) (listed:Array Bool) (a:Act) (w:World) (rs:List Nat):Prop:=
 ∀i∈rs,wpOp P ops Q i (fun a' w'=>S w'/\wpHq P md ops Q S hd L f (listed.setIfInBounds i true) a' w') a w
theorem AllReadyQ.nil {hd:Nat->Bool} {L:Array Bool->Act->World->Prop} {f:Nat} {listed:Array Bool} {a:Act} {w:World}:AllReadyQ P md ops Q S hd L f listed a w []:=fun _ h=>(by cases h)
theorem AllReadyQ.cons {hd:Nat->Bool} {L:Array Bool->Act->World->Prop} {f i:Nat} {o:Oper} {is:List Nat} {listed:Array Bool} {a:Act} {w:World} (ho:ops[i]? =some o)
  (h: ∀K':Act->World->Prop,Shut (∀a w,S w->(S w->wpHq P md ops Q S hd L f (listed.setIfInBounds i true) a w)->K' a w)->if Region.wanted o (yielded ops a.tmps)=true then Oper.wp P o a w K' Q else K' (a.put o.dst undef) w)
  (h2:AllReadyQ P md ops Q S hd L f listed a w is):AllReadyQ P md ops Q S hd L f listed a w (i::is):=fun j hj=>by
 rcases List.mem_cons.1 hj with rfl|hj
 ·exact wpOp_step ho (fun K' hK=>h K' (fun a w hS hW=>hK a w ⟨hS,hW hS⟩))
 ·exact h2 j hj
theorem wpHq_ready {hd:Nat->Bool} {L:Array Bool->Act->World->Prop} {rs:List Nat} {f:Nat} {listed:Array Bool} {a:Act} {w:World} (hr:Region.ready md ops listed=rs) (hne:rs≠[]) (hh:rs.all hd=true)
  (h:AllReadyQ P md ops Q S hd L f listed a w rs):wpHq P md ops Q S hd L (f+1) listed a w:=by
 subst hr
 exact⟨hne,fun j hj=>⟨(List.all_eq_true.1 hh) j hj,h j hj⟩⟩
theorem wpHq_seq {hd:Nat->Bool} {g:Nat} (k:Nat) {listed:Array Bool} {a:Act} {w:World} (hg:(ops.toList.drop k).length=g) (hr:((Region.ready md ops listed).all fun j=> !hd j)=true) (hB:Region.seqB md ops g k listed=true) (h:wpList P ops Q (ops.toList.drop k) a w):
  wpHq P md ops Q S hd (Lq P md ops Q hd g) 0 listed a w:=⟨hr,by
 subst hg
 exact wpAny_of_seq _ k _ a w (fun j=>by rw [List.getElem?_drop,Array.getElem?_toList]) hB h⟩
theorem wp_region_hq (f g:Nat) (hd:Nat->Bool) {id:Nat} {a:Act} {w:World} (hm:P.follows .mixedOrders=true) (hfg:f+g=ops.size)
  (hS:S w.drew) (h:S w.drew->wpHq P .any ops Q S hd (Lq P .any ops Q hd g) f (Array.replicate ops.size false) a w.drew):(Code.region id ops true).wp P Q a w:=
 wp_region_any hm (by
  have:=wpAny_of_hq (fun _ _ _ hL=>hL.2) f _ _ _ (h hS)
  rwa [hfg]at this)
end
end Go.Proofs.YtlpipniclimgeaaGreat
namespace Go.Proofs.YtlpipniclimgeaaGreat
set_option linter.unusedVariables false
open Go.RowKit
theorem Tryz.step_RA {ops:Array Oper} {o:Oper} {a:Act} {w:World} {K:Act->World->Prop} {Q:Exit->Act->World->Prop} {E':Prop} (hgd:o.guard=none) (x:Operand) (ho:o.op= .buildSlice 41 1 #[(0,x)]) (v:Value) (hx:a.eval x=v) {A:Option Addr} {n c:Nat} (hv:v= .slice A n c)
  (h:K (a.put o.dst (.slice (some ⟨w.heap.size,0,none⟩) 1 1)) (w.alloc (.cells #[v] 93))):if Region.wanted o (yielded ops a.tmps)=true then Oper.wp Tryz.prog o a w K Q else E':=by
 have hw:Region.wanted o (yielded ops a.tmps)=true:=by simp [Region.wanted,hgd]
 rw [if_pos hw]
 subst hv
 unfold Oper.wp execOp
 simp only [ho,List.map_toArray,List.map_cons,List.map_nil,hx]
 go_simp
 exact h
theorem Tryz.step_RI {ops:Array Oper} {o:Oper} {a:Act} {w:World} {K:Act->World->Prop} {Q:Exit->Act->World->Prop} {E':Prop} (hgd:o.guard=none) (x:Operand) (ho:o.op= .buildSlice 42 1 #[(0,x)]) (v:Value) (hx:a.eval x=v) {A:Option Addr} {n c:Nat} (hv:v= .slice A n c)
  (h:K (a.put o.dst (.slice (some ⟨w.heap.size,0,none⟩) 1 1)) (w.alloc (.cells #[v] 23))):if Region.wanted o (yielded ops a.tmps)=true then Oper.wp Tryz.prog o a w K Q else E':=by
 have hw:Region.wanted o (yielded ops a.tmps)=true:=by simp [Region.wanted,hgd]
 rw [if_pos hw]
 subst hv
 unfold Oper.wp execOp
 simp only [ho,List.map_toArray,List.map_cons,List.map_nil,hx]
 go_simp
 exact h
end Go.Proofs.YtlpipniclimgeaaGreat
namespace Go.Proofs.YtlpipniclimgeaaGreat
set_option linter.unusedVariables false
set_option linter.unusedSimpArgs false
open Go.RowKit Go.Shelf
attribute [local irreducible] wpStill wpOne wpPh
attribute [local go_sem] Oper.semAt_some
theorem touch_five (W:World) (z:Nat) (u v x y q:Value):Touch (fun k=>k=z) W (((((W.setCell ⟨z,0,none⟩ u).setCell ⟨z,1,none⟩ v).setCell ⟨z,2,none⟩ x).setCell ⟨z,3,none⟩ y).setCell ⟨z,4,none⟩ q):=
 Touch.setCell (Touch.setCell (touch_three W z u v x) (p:=⟨z,3,none⟩) (fun _=>rfl) y) (p:=⟨z,4,none⟩) (fun _=>rfl) q
theorem markPost.panic {P:Program} {fn:Func} {R:Ending->World->Prop} {c:List PanicEntry} {a:Act} {w:World} (h:markPost P fn R (.panic c) a w):False:=by
 unfold markPost at h
 rcases h.1 with e|e<;>cases e
theorem Tryz.infoRA:(Tryz.prog.info? 93).map (fun i=>(i.zero,i.size,i.bytes))=some (some (.slice none 0 0),1,24):=by kernel_rfl
theorem Tryz.elemRA:Elem Tryz.prog 41 93 (.slice none 0 0) 1 24:=⟨Tryz.underlying41,Tryz.infoRA,rfl,by decide⟩
theorem Tryz.infoRI:(Tryz.prog.info? 23).map (fun i=>(i.zero,i.size,i.bytes))=some (some (.slice none 0 0),1,24):=by kernel_rfl
theorem Tryz.elemRI:Elem Tryz.prog 42 23 (.slice none 0 0) 1 24:=⟨Tryz.underlying42,Tryz.infoRI,rfl,by decide⟩
theorem rmCells_nil {X:Type}: ∀{L:List X} {Z:List Value},Z.length=L.length->rmCells (fun _:X=>[]) L Z=Z
 |[],[],_=>rfl
 |[],_::_,h=>by simp at h
 |_::_,[],h=>by simp at h
 |x::L,z::Z,h=>by
  have ih:=rmCells_nil (L:=L) (Z:=Z) (by simpa using h)
  unfold rmCells at ih⊢
  rw [List.zip_cons_cons,List.flatMap_cons,ih];rfl
theorem RM.rw {X:Type} {e:TypeId} {E:World->(Nat->Prop)->Value->X->Prop} (hE:Hands E) {lo F:Nat->Prop} {base n c:Nat} {w:World} {A:Option Addr} {L:List X} (h:RM e 1 (fun _=>[]) E lo base w A n c L) (hF: ∀b,base<=b->b<w.heap.size->F b) (hlo: ∀b,lo b->b<w.heap.size->F b):RdRw (fun z x=>E w F z x) w F (.slice A n c) L:=by
 obtain⟨Z,h1,h2,h3⟩:=h.ex
 have:=Rd.of_own h2
 rw [rmCells_nil h1]at this
 exact⟨Z,h1,this.mono fun b hb=>hF b (h2.lt b hb).1 (h2.lt b hb).2,fun j z x hz hx=>hE.mono (h3 j z x hz hx) fun b hb=>hlo b hb.1 hb.2.1⟩
theorem RdL.cw {X:Type} {w w':World} {F F':Nat->Prop} {k:Nat} {E E':List Value->X->Prop} {v:Value} {xs:List X} (h:RdL w F k E v xs) (hc:CW w w') (hF: ∀b,F b->F' b) (hE: ∀cs x,E cs x->E' cs x):RdL w' F' k E' v xs:=by
 obtain⟨A,c,hv,h1,h2,hr⟩:=h
 refine⟨A,c,hv,h1,h2,fun hn=> ?_⟩
 obtain⟨b,off,hA,hb,hcell⟩:=hr hn
 refine⟨b,off,hA,hF b hb,fun i x hx=> ?_⟩
 obtain⟨cs,e1,e2,e3⟩:=hcell i x hx
 exact⟨cs,e1,hE cs x e2,fun j u hu=>hc _ _ (e3 j u hu)⟩
theorem tab_cw {w W w':World} {F F' S:Nat->Prop} {vr va vg:Value} {t:TabD} (hr:RdL w F 2 (ERule w F) vr t.rules) (ha:RdAs w F va t.acts) (hg:RdIs w F vg t.goto) (tt:Touch S w W) (hS: ∀b,F b-> ¬S b) (k:CW W w') (hF: ∀b,F b->F' b) (hl: ∀b,F' b->b<w'.heap.size)
  (tn:W64 t.terms/\W64 t.nons) (wr: ∀r∈t.rules,W64 r.1):IsTab w' F' vr va vg t:=by
 refine⟨(hr.touch tt hS (E':=ERule W F) fun cs x _ e=> ?_).cw k hF fun cs x e=> ?_,RdRw.mono' ha (fun Z r=>((r.touch tt hS).cw k).mono hF) (fun z x r=>((Rd.touch r tt hS).cw k).mono hF),RdRw.mono' hg (fun Z r=>((r.touch tt hS).cw k).mono hF) (fun z x r=>((Rd.touch r tt hS).cw k).mono hF),hl,tn,wr⟩
 ·obtain⟨v,e1,e2⟩:=e
  exact⟨v,e1,Rd.touch e2 tt hS⟩
 ·obtain⟨v,e1,e2⟩:=e
  exact⟨v,e1,(Rd.cw e2 k).mono hF⟩
end Go.Proofs.YtlpipniclimgeaaGreat

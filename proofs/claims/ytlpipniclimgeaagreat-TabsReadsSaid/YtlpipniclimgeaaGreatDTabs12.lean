/- Tables as bytes, the reference: a line read. -/
import Derived.Test.YtlpipniclimgeaaGreatDTabs5
import Derived.Test.YtlpipniclimgeaaGreatDPack8
namespace Go.Proofs.YtlpipniclimgeaaGreat
set_option linter.unusedVariables false
set_option linter.unusedSimpArgs false
open Go.RowKit
attribute [local irreducible] wpStill wpOne wpPh
set_option maxRecDepth 100000 in
set_option maxHeartbeats 2000000 in
theorem ref18_rline {w:World} {B:Nat} {F:Nat->Prop} {s:Rds} (h:Rdr 77 w B F s) (N:Nat) (hN:N<=70000):
  Calls Tryz.prog 36 #[.pointer (some ⟨B,0,none⟩),.int .i64 (N:Int)] w (LnP (RdC (Value.int .i64)) 77 w B F (lineD numD N s)):=by
 have hB:=h.lt
 have hF:=h.data
 obtain⟨R,hR⟩: ∃R,R=lineD numD N s:=⟨_,rfl⟩
 rw [<-hR]
 have h0:w.ownsRow w.heap.size 3 1 (.slice none 0 0) 0 (([]:List Int).map (Value.int .i64)):=World.ownsRow_nil _ _ _ _
 obtain⟨Xh,XhR,Xh0,XhB,XhF⟩:=HqZ5 h hR h0 hB hF;clear h hR h0 hB hF
 go_enter Tryz.func36,Tryz.ntmps36
 go_wp2_with fail
 go_loopw [5,6] (fun ov iv wr=> ∃(acc:List Int) (t:Rds) (A:Option Addr) (k c:Nat),k=acc.length/\k<=N/\ov= .slice A k c/\iv= .int .i64 (k:Int)/\wr.ownsRow w.heap.size 3 1 (.slice A k c) k (acc.map (Value.int .i64))/\Rdr 77 wr B F t/\Touch (fun b=>b=B) w wr/\R=(acc++(lineD numD (N - k) t).1,(lineD numD (N - k) t).2)) (fun _ iv _=>N - (intOf iv).toNat)
 case atStart=>exact⟨[],s,none,0,0,rfl,Nat.zero_le _,rfl,rfl,Xh0.out,Xh.out,Touch.refl _ _,XhR.out⟩
 case round=>
  clear Xh0 Xh XhR
  obtain⟨acc,⟨l,t⟩,A,k,c,hk,hkN,rfl,rfl,own,hr,hT,hE⟩:=hrel
  by_cases hlt:k<N
  ·have hlt1:(k:Int)<(N:Int):=by omega
   have p1:=hr.bit
   cases t with
   |true=>
    have hE2:R=(acc,(l,true)):=by rw [hE,line_stop,List.append_nil]
    clear hE
    obtain⟨Xhk,Xown,Xhr,XhT,XhE2⟩:=HqZ5 hk own hr hT hE2;clear hk own hr hT hE2
    go_wp2_with fail
    go_ret
    exact LnP.mk1 XhE2.out Xhk.out Xown.out Xhr.out XhT.out
   |false=>
    have cN:=ref18_num hr
    unfold NumP at cN
    have hE2:R=((acc++[(numD (l,false)).1])++(lineD numD (N - (k+1)) (numD (l,false)).2).1,(lineD numD (N - (k+1)) (numD (l,false)).2).2):=by
     rw [hE,show N - k=(N - (k+1))+1 by omega,line_go,List.append_assoc];rfl
    generalize numD (l,false)=y at *
    obtain⟨x,t⟩:=y
    simp only at cN hE2
    clear hE hr
    obtain⟨Xhk,Xown,XhT,XhE2,XcN⟩:=HqZ5 hk own hT hE2 cN;clear hk own hT hE2 cN
    go_wp2_with fail
    refine XcN.out.mono ?_
    rintro e w6 ⟨rfl,hr6,t6⟩
    have own6:=t6.own Xown.out fun q e=>(by have:=(Xown.out.lt q e).1;have:=XhB.out;omega)
    have T6:=XhT.out.trans' t6
    have al:Below w6.heap.size w6 (w6.alloc (.cells #[(Value.int .i64) x] 3)):=(Below.refl _ _).alloc (Nat.le_refl _) _
    have own7:=own_below' own6 al
    have hr7:=hr6.below al
    have T7:=T6.trans' (Touch.of_size al _)
    have rone:Rd (w6.alloc (.cells #[(Value.int .i64) x] 3)) (fun x=>x=w6.heap.size) (.slice (some ⟨w6.heap.size,0,none⟩) 1 1) 1 [(Value.int .i64) x]:=Rd.one' (w:=w6) (e:=3) [(Value.int .i64) x] 1 rfl
    have hnx:acc.map (Value.int .i64)++[(Value.int .i64) x]=(acc++[x]).map (Value.int .i64):=by rw [List.map_append];rfl
    have hz:w.heap.size<=(w6.alloc (.cells #[(Value.int .i64) x] 3)).heap.size:=T7.size
    obtain⟨us,hus⟩: ∃q,q=acc.map (Value.int .i64):=⟨_,rfl⟩
    rw [<-hus]at own7 hnx
    clear hus own6 T6 al hr6 t6 XhT Xown XcN
    obtain⟨Xown7,Xhr7,XT7,Xrone,Xhnx,Xhz⟩:=HqZ6 own7 hr7 T7 rone hnx hz;clear own7 hr7 T7 rone hnx hz
    go_wp2_with (at_builtin;refine wp_append _ rfl (.tmp 19) (.tmp 22) _ rfl Tryz.elemInt w.heap.size (.slice A k c) k _ rfl Xown7.out _ _ [(Value.int .i64) x] 1 rfl rfl Xrone.out (by simp [Value.oneCell']) (by unfold maxLen;omega) (by omega) Xhz.out ?_)
    intro A8 c8 w8 own8 g8 hb8
    rw [Xhnx.out]at own8
    have t8:=(Touch.refl (fun j=>(Value.slice A k c).ownBlock=some j) _).grown g8 (fun q e _=>e)
    have T8:Touch (fun b=>b=B) w w8:=XT7.out.trans (t8) fun q hq e=>(by have:=(Xown7.out.lt q e).1;omega)
    have hr8:=Xhr7.out.touch t8 fun q hq e=>(by
     have:=(Xown7.out.lt q e).1
     rcases hq with hq|hq
     ·have:=XhF.out q hq;omega
     ·have:=XhB.out;omega)
    clear g8 hb8 t8 Xown7 XT7 Xrone Xhnx Xhr7 Xhz
    obtain⟨Xown8,Xhr8,XT8⟩:=HqZ3 own8 hr8 T8;clear own8 hr8 T8
    go_wp2_with fail
    go_roundw
    case rel=>exact⟨acc++[x],t,A8,k+1,c8,by rw [List.length_append,<-Xhk.out];rfl,by omega,rfl,by go_num,Xown8.out,Xhr8.out,XT8.out,XhE2.out⟩
    case measure=>simp [intOf];omega
  ·have hlt1: ¬(k:Int)<(N:Int):=by omega
   have hE2:R=(acc,(l,t)):=by rw [hE,show N - k=0 by omega];show(acc++[],(l,t))=_;rw [List.append_nil]
   clear hE
   obtain⟨Xhk,Xown,Xhr,XhT,XhE2⟩:=HqZ5 hk own hr hT hE2;clear hk own hr hT hE2
   go_wp2_with fail
   go_ret
   exact LnP.mk1 XhE2.out Xhk.out Xown.out Xhr.out XhT.out
set_option maxRecDepth 100000 in
set_option maxHeartbeats 2000000 in
theorem ref18_rrows {w:World} {B:Nat} {F:Nat->Prop} {s:Rds} (h:Rdr 77 w B F s) (W:Nat) (hW:W<=70000):
  Calls Tryz.prog 37 #[.pointer (some ⟨B,0,none⟩),.int .i64 (W:Int)] w (LnP RdUs 77 w B F (rowsD W s)):=by
 have hB:=h.lt
 have hF:=h.data
 have cN0:=ref18_num h
 have rg:=num_range h.bytes
 unfold NumP at cN0
 obtain⟨R,hR⟩: ∃R,R=rowsD W s:=⟨_,rfl⟩
 rw [<-hR]
 replace hR:R=lineD (lineD numD W) (numD s).1.toNat (numD s).2:=hR
 obtain⟨⟨z,s1⟩,hs⟩: ∃q,q=numD s:=⟨_,rfl⟩
 rw [<-hs]at cN0 rg hR
 simp only at cN0 rg hR
 obtain⟨N,rfl⟩:=Int.eq_ofNat_of_zero_le rg.1
 have hN:N<=65535:=by omega
 rw [Int.toNat_natCast]at hR
 clear hs h rg
 obtain⟨XhR,XhB,XhF,XcN0⟩:=HqZ4 hR hB hF cN0;clear hR hB hF cN0
 go_enter Tryz.func37,Tryz.ntmps37
 go_wp2_with fail
 refine XcN0.out.mono ?_
 rintro e w1 ⟨rfl,h1,t1⟩
 have h0:RM 51 1 preRow rowE (fun b=>w.heap.size<=b) w.heap.size w1 none 0 0 []:=RM.nil _ _ _
 clear XcN0
 obtain⟨Xh1,Xt1,Xh0⟩:=HqZ3 h1 t1 h0;clear h1 t1 h0
 go_wp2_with fail
 go_loopw [5,7] (fun ov iv wr=> ∃(acc:List (List Int)) (t:Rds) (A:Option Addr) (k c:Nat),k=acc.length/\k<=N/\ov= .slice A k c/\iv= .int .i64 (k:Int)/\RM 51 1 preRow rowE (fun b=>w.heap.size<=b) w.heap.size wr A k c acc/\Rdr 77 wr B F t/\Touch (fun b=>b=B) w wr/\R=(acc++(lineD (lineD numD W) (N - k) t).1,(lineD (lineD numD W) (N - k) t).2)) (fun _ iv _=>N - (intOf iv).toNat)
 case atStart=>exact⟨[],s1,none,0,0,rfl,Nat.zero_le _,rfl,rfl,Xh0.out,Xh1.out,Xt1.out,XhR.out⟩
 case round=>
  clear Xh0 Xh1 Xt1 XhR
  obtain⟨acc,⟨l,t⟩,A,k,c,hk,hkN,rfl,rfl,own,hr,hT,hE⟩:=hrel
  by_cases hlt:k<N
  ·have hlt1:(k:Int)<(N:Int):=by omega
   have p1:=hr.bit
   cases t with
   |true=>
    have hE2:R=(acc,(l,true)):=by rw [hE,line_stop,List.append_nil]
    clear hE
    obtain⟨Xhk,Xown,Xhr,XhT,XhE2⟩:=HqZ5 hk own hr hT hE2;clear hk own hr hT hE2
    go_wp2_with fail
    go_ret
    exact LnP.mk2 (size:=1) (pre:=preRow) hands_row (fun _=>rfl) (fun h=>rdl_rows h) XhE2.out Xhk.out Xown.out Xhr.out XhT.out
   |false=>
    have hr0:=hr
    have hE2:R=((acc++[((lineD numD W) (l,false)).1])++(lineD (lineD numD W) (N - (k+1)) ((lineD numD W) (l,false)).2).1,(lineD (lineD numD W) (N - (k+1)) ((lineD numD W) (l,false)).2).2):=by
     rw [hE,show N - k=(N - (k+1))+1 by omega,line_go,List.append_assoc];rfl
    obtain⟨⟨x,t⟩,hy⟩: ∃q,q=(lineD numD W) (l,false):=⟨_,rfl⟩
    rw [<-hy]at hE2
    simp only at hE2
    clear hE hr
    obtain⟨Xhk,Xown,XhT,XhE2,Xhr0,Xhy⟩:=HqZ6 hk own hT hE2 hr0 hy;clear hk own hT hE2 hr0 hy
    obtain⟨wo,hwo⟩: ∃q,q=wr:=⟨_,rfl⟩
    subst hwo
    have i0:wo.ownsRow wo.heap.size 39 1 (.slice none 0 0) 0 (([]:List Int).map I16):=World.ownsRow_nil _ _ _ _
    have hBr:B<wo.heap.size:=Nat.lt_of_lt_of_le XhB.out XhT.out.size
    have hFr: ∀b,F b->b<wo.heap.size:=fun b hb=>Nat.lt_of_lt_of_le (XhF.out b hb) XhT.out.size
    obtain⟨Xi0,XhBr,XhFr⟩:=HqZ3 i0 hBr hFr;clear i0 hBr hFr
    go_wp2_with fail
    go_loopw [8,9] (fun ov iv wj=> ∃(a2:List Int) (t2:Rds) (A2:Option Addr) (q c2:Nat),q=a2.length/\q<=W/\ov= .slice A2 q c2/\iv= .int .i64 (q:Int)/\wj.ownsRow wo.heap.size 39 1 (.slice A2 q c2) q (a2.map I16)/\Rdr 77 wj B F t2/\Touch (fun b=>b=B) wo wj/\(x,t)=(a2++(lineD numD (W - q) t2).1,(lineD numD (W - q) t2).2)) (fun _ iv _=>W - (intOf iv).toNat)
    case atStart=>exact⟨[],(l,false),none,0,0,rfl,Nat.zero_le _,rfl,rfl,Xi0.out,Xhr0.out,Touch.refl _ _,Xhy.out⟩
    case round=>
     clear Xi0 Xhr0 Xhy p1
     obtain⟨a2,⟨l2,t2⟩,A2,q,c2,hq,hqW,rfl,rfl,own2,hr2,hT2,hE3⟩:=hrel
     have pw:=hr2.bit
     have hend: ∀(_:x=a2/\t=(l2,t2)),True:=fun _=>trivial
     by_cases hlq:q<W/\t2=false
     ·obtain⟨hlq,rfl⟩:=hlq
      have hlq1:(q:Int)<(W:Int):=by omega
      have cN:=ref18_num hr2
      have hrg:=num_range hr2.bytes
      unfold NumP at cN
      have hE4:(x,t)=((a2++[(numD (l2,false)).1])++(lineD numD (W - (q+1)) (numD (l2,false)).2).1,(lineD numD (W - (q+1)) (numD (l2,false)).2).2):=by
       rw [hE3,show W - q=(W - (q+1))+1 by omega,line_go,List.append_assoc];rfl
      generalize numD (l2,false)=y at *
      obtain⟨y,t3⟩:=y
      simp only at cN hE4 hrg
      have hwy:IntKind.u16.wrap y=y:=wrap_u16 hrg.1 (by omega)
      clear hE3 hr2 hend
      obtain⟨Xhq,Xown2,XhT2,XhE4,XcN,Xhrg⟩:=HqZ6 hq own2 hT2 hE4 cN hrg;clear hq own2 hT2 hE4 cN hrg
      go_wp2_with fail
      refine XcN.out.mono ?_
      rintro e w6 ⟨rfl,hr6,t6⟩
      have own6:=t6.own Xown2.out fun q e=>(by have:=(Xown2.out.lt q e).1;have:=XhBr.out;omega)
      have T6:=XhT2.out.trans' t6
      have al:Below w6.heap.size w6 (w6.alloc (.cells #[I16 y] 39)):=(Below.refl _ _).alloc (Nat.le_refl _) _
      have own7:=own_below' own6 al
      have hr7:=hr6.below al
      have T7:=T6.trans' (Touch.of_size al _)
      have rone:Rd (w6.alloc (.cells #[I16 y] 39)) (fun x=>x=w6.heap.size) (.slice (some ⟨w6.heap.size,0,none⟩) 1 1) 1 [I16 y]:=Rd.one' (w:=w6) (e:=39) [I16 y] 1 rfl
      have hnx:a2.map I16++[I16 y]=(a2++[y]).map I16:=by rw [List.map_append];rfl
      have hz:wo.heap.size<=(w6.alloc (.cells #[I16 y] 39)).heap.size:=T7.size
      obtain⟨us,hus⟩: ∃q,q=a2.map I16:=⟨_,rfl⟩
      rw [<-hus]at own7 hnx
      clear hus own6 T6 al hr6 t6 XhT2 Xown2 XcN
      obtain⟨Xown7,Xhr7,XT7,Xrone,Xhnx,Xhz⟩:=HqZ6 own7 hr7 T7 rone hnx hz;clear own7 hr7 T7 rone hnx hz
      go_wp2_with (at_builtin;refine wp_append _ rfl (.tmp 36) (.tmp 40) _ rfl Tryz.elemU16 wo.heap.size (.slice A2 q c2) q _ rfl Xown7.out _ _ [I16 y] 1 rfl rfl Xrone.out (by simp [Value.oneCell',I16]) (by unfold maxLen;omega) (by omega) Xhz.out ?_)
      intro A8 c8 w8 own8 g8 hb8
      rw [Xhnx.out]at own8
      have t8:=(Touch.refl (fun j=>(Value.slice A2 q c2).ownBlock=some j) _).grown g8 (fun q e _=>e)
      have T8:Touch (fun b=>b=B) wo w8:=XT7.out.trans (t8) fun q hq e=>(by have:=(Xown7.out.lt q e).1;omega)
      have hr8:=Xhr7.out.touch t8 fun q hq e=>(by
       have:=(Xown7.out.lt q e).1
       rcases hq with hq|hq
       ·have:=XhFr.out q hq;omega
       ·have:=XhBr.out;omega)
      clear g8 hb8 t8 Xown7 XT7 Xrone Xhnx Xhr7 Xhz
      obtain⟨Xown8,Xhr8,XT8⟩:=HqZ3 own8 hr8 T8;clear own8 hr8 T8
      go_wp2_with fail
      go_roundw
      case rel=>exact⟨a2++[y],t3,A8,q+1,c8,by rw [List.length_append,<-Xhq.out];rfl,by omega,rfl,by go_num,Xown8.out,Xhr8.out,XT8.out,XhE4.out⟩
      case measure=>simp [intOf];omega
     ·have hE4:(x,t)=(a2,(l2,t2)):=by
       cases t2 with
       |true=>rw [hE3,line_stop,List.append_nil]
       |false=>
        rw [hE3,show W - q=0 by(have: ¬q<W:=fun h=>hlq ⟨h,rfl⟩);omega];show(a2++[],(l2,false))=_;rw [List.append_nil]
      injection hE4 with e1 e2
      subst e1 e2
      by_cases hq2:q<W
      ·have hq3:(q:Int)<(W:Int):=by omega
       have e3:t2=true:=by
        cases t2 with
        |true=>rfl
        |false=>exact absurd ⟨hq2,rfl⟩ hlq
       subst e3
       have hE5:=XhE2.out
       have rz:rowE wr (fun b=>wo.heap.size<=b/\b<wr.heap.size) (.slice A2 q c2) x:=by
        show RdU _ _ _ _
        rw [hq]at own2⊢
        exact(Rd.of_own own2).mono fun b e=>own2.lt b e
       obtain⟨A6,hA6⟩: ∃z,z=A2:=⟨_,rfl⟩
       obtain⟨n6,hn6⟩: ∃z,z=q:=⟨_,rfl⟩
       obtain⟨c6,hc6⟩: ∃z,z=c2:=⟨_,rfl⟩
       subst hA6 hn6 hc6
       obtain⟨w6,hw6⟩: ∃z,z=wr:=⟨_,rfl⟩
       subst hw6
       have hr6:=hr2
       have t6:=hT2
       clear hr2 hT2 hq own2 hE3
       have own6:=Xown.out.touch hands_row t6 (fun q e=>by have:=(Xown.out.block q e).1;have:=XhB.out;omega) (fun q e _=>by have:=XhB.out;omega)
       have hsz0:=XhT.out.size
       have hne6: ∀q,wo.heap.size<=q->(Value.slice A k c).ownBlock≠some q:=fun q hq e=>by have:=(Xown.out.block q e).2;omega
       have T6:=XhT.out.trans' t6
       have al:Below w6.heap.size w6 (w6.alloc (.cells #[.slice A6 n6 c6] 51)):=(Below.refl _ _).alloc (Nat.le_refl _) _
       have hr7:=hr6.below al
       have T7:=T6.trans' (Touch.of_size al _)
       have rone:Rd (w6.alloc (.cells #[.slice A6 n6 c6] 51)) (fun x=>x=w6.heap.size) (.slice (some ⟨w6.heap.size,0,none⟩) 1 1) 1 [.slice A6 n6 c6]:=Rd.one' (w:=w6) (e:=51) [.slice A6 n6 c6] 1 rfl
       obtain⟨Z,g1,g2,g3⟩:=own6.ex
       have own7:=own_below' g2 al
       have hz:w.heap.size<=(w6.alloc (.cells #[.slice A6 n6 c6] 51)).heap.size:=T7.size
       obtain⟨us,hus⟩: ∃q,q=rmCells preRow acc Z:=⟨_,rfl⟩
       have own7':=own7
       rw [<-hus]at own7'
       have hzz:rowE w6 (fun b=>w.heap.size<=b/\b<w6.heap.size/\(Value.slice A k c).ownBlock≠some b) (.slice A6 n6 c6) x:=hands_row.mono rz fun b hb=>⟨Nat.le_trans hsz0 hb.1,hb.2,hne6 b hb.1⟩
       have h66:=T6.size
       clear T6 hr6 t6 XhT Xown rz own7 hne6 hsz0 own6
       obtain⟨Xown7',Xhr7,XT7,Xrone,Xhz,Xg1,Xg2,Xg3,Xal,Xhzz,Xh66,Xhus⟩:=HqZ12 own7' hr7 T7 rone hz g1 g2 g3 al hzz h66 hus;clear own7' hr7 T7 rone hz g1 g2 g3 al hzz h66 hus
       go_wp2_with (at_builtin;refine wp_append _ rfl (.tmp 42) (.tmp 44) _ rfl Tryz.elemRU w.heap.size (.slice A k c) k _ rfl Xown7'.out _ _ [.slice A6 n6 c6] 1 rfl rfl Xrone.out (by simp [Value.oneCell']) (by unfold maxLen;omega) (by omega) Xhz.out ?_)
       intro A8 c8 w8 own8 g8 hb8
       have own9:=own8
       rw [Xhus.out]at own9
       obtain⟨P1,P2,P3⟩:=RM.push hands_row (z:= .slice A6 n6 c6) (x:=x) Xhk.out Xg1.out Xg2.out Xg3.out Xh66.out Xhzz.out (Below.refl _ _) Xal.out own9 g8 (by rw [World.size_alloc];exact hb8)
       have T8:Touch (fun b=>b=B) w w8:=XT7.out.trans P3 fun q hq e=>(by have:=(Xown7'.out.lt q e).1;omega)
       have hr8:=Xhr7.out.touch P3 fun q hq e=>(by
        have:=(Xown7'.out.lt q e).1
        rcases hq with hq|hq
        ·have:=XhF.out q hq;omega
        ·have:=XhB.out;omega)
       clear g8 hb8 own8 own9 P2 P3 Xown7' XT7 Xrone Xhr7 Xhz Xg1 Xg2 Xg3 Xal Xhzz Xh66 Xhus
       obtain⟨XP1,Xhr8,XT8⟩:=HqZ3 P1 hr8 T8;clear P1 hr8 T8
       go_wp2_with fail
       go_roundw
       case rel=>exact⟨acc++[x],_,A8,k+1,c8,by rw [List.length_append,<-Xhk.out];rfl,by omega,rfl,by go_num,XP1.out,Xhr8.out,XT8.out,XhE2.out⟩
       case measure=>simp [intOf];omega
      ·have hq3: ¬(q:Int)<(W:Int):=by omega
       have hE5:=XhE2.out
       have rz:rowE wr (fun b=>wo.heap.size<=b/\b<wr.heap.size) (.slice A2 q c2) x:=by
        show RdU _ _ _ _
        rw [hq]at own2⊢
        exact(Rd.of_own own2).mono fun b e=>own2.lt b e
       obtain⟨A6,hA6⟩: ∃z,z=A2:=⟨_,rfl⟩
       obtain⟨n6,hn6⟩: ∃z,z=q:=⟨_,rfl⟩
       obtain⟨c6,hc6⟩: ∃z,z=c2:=⟨_,rfl⟩
       subst hA6 hn6 hc6
       obtain⟨w6,hw6⟩: ∃z,z=wr:=⟨_,rfl⟩
       subst hw6
       have hr6:=hr2
       have t6:=hT2
       clear hr2 hT2 hq own2 hE3
       have own6:=Xown.out.touch hands_row t6 (fun q e=>by have:=(Xown.out.block q e).1;have:=XhB.out;omega) (fun q e _=>by have:=XhB.out;omega)
       have hsz0:=XhT.out.size
       have hne6: ∀q,wo.heap.size<=q->(Value.slice A k c).ownBlock≠some q:=fun q hq e=>by have:=(Xown.out.block q e).2;omega
       have T6:=XhT.out.trans' t6
       have al:Below w6.heap.size w6 (w6.alloc (.cells #[.slice A6 n6 c6] 51)):=(Below.refl _ _).alloc (Nat.le_refl _) _
       have hr7:=hr6.below al
       have T7:=T6.trans' (Touch.of_size al _)
       have rone:Rd (w6.alloc (.cells #[.slice A6 n6 c6] 51)) (fun x=>x=w6.heap.size) (.slice (some ⟨w6.heap.size,0,none⟩) 1 1) 1 [.slice A6 n6 c6]:=Rd.one' (w:=w6) (e:=51) [.slice A6 n6 c6] 1 rfl
       obtain⟨Z,g1,g2,g3⟩:=own6.ex
       have own7:=own_below' g2 al
       have hz:w.heap.size<=(w6.alloc (.cells #[.slice A6 n6 c6] 51)).heap.size:=T7.size
       obtain⟨us,hus⟩: ∃q,q=rmCells preRow acc Z:=⟨_,rfl⟩
       have own7':=own7
       rw [<-hus]at own7'
       have hzz:rowE w6 (fun b=>w.heap.size<=b/\b<w6.heap.size/\(Value.slice A k c).ownBlock≠some b) (.slice A6 n6 c6) x:=hands_row.mono rz fun b hb=>⟨Nat.le_trans hsz0 hb.1,hb.2,hne6 b hb.1⟩
       have h66:=T6.size
       clear T6 hr6 t6 XhT Xown rz own7 hne6 hsz0 own6
       obtain⟨Xown7',Xhr7,XT7,Xrone,Xhz,Xg1,Xg2,Xg3,Xal,Xhzz,Xh66,Xhus⟩:=HqZ12 own7' hr7 T7 rone hz g1 g2 g3 al hzz h66 hus;clear own7' hr7 T7 rone hz g1 g2 g3 al hzz h66 hus
       go_wp2_with (at_builtin;refine wp_append _ rfl (.tmp 42) (.tmp 44) _ rfl Tryz.elemRU w.heap.size (.slice A k c) k _ rfl Xown7'.out _ _ [.slice A6 n6 c6] 1 rfl rfl Xrone.out (by simp [Value.oneCell']) (by unfold maxLen;omega) (by omega) Xhz.out ?_)
       intro A8 c8 w8 own8 g8 hb8
       have own9:=own8
       rw [Xhus.out]at own9
       obtain⟨P1,P2,P3⟩:=RM.push hands_row (z:= .slice A6 n6 c6) (x:=x) Xhk.out Xg1.out Xg2.out Xg3.out Xh66.out Xhzz.out (Below.refl _ _) Xal.out own9 g8 (by rw [World.size_alloc];exact hb8)
       have T8:Touch (fun b=>b=B) w w8:=XT7.out.trans P3 fun q hq e=>(by have:=(Xown7'.out.lt q e).1;omega)
       have hr8:=Xhr7.out.touch P3 fun q hq e=>(by
        have:=(Xown7'.out.lt q e).1
        rcases hq with hq|hq
        ·have:=XhF.out q hq;omega
        ·have:=XhB.out;omega)
       clear g8 hb8 own8 own9 P2 P3 Xown7' XT7 Xrone Xhr7 Xhz Xg1 Xg2 Xg3 Xal Xhzz Xh66 Xhus
       obtain⟨XP1,Xhr8,XT8⟩:=HqZ3 P1 hr8 T8;clear P1 hr8 T8
       go_wp2_with fail
       go_roundw
       case rel=>exact⟨acc++[x],_,A8,k+1,c8,by rw [List.length_append,<-Xhk.out];rfl,by omega,rfl,by go_num,XP1.out,Xhr8.out,XT8.out,XhE2.out⟩
       case measure=>simp [intOf];omega
  ·have hlt1: ¬(k:Int)<(N:Int):=by omega
   have hE2:R=(acc,(l,t)):=by rw [hE,show N - k=0 by omega];show(acc++[],(l,t))=_;rw [List.append_nil]
   clear hE
   obtain⟨Xhk,Xown,Xhr,XhT,XhE2⟩:=HqZ5 hk own hr hT hE2;clear hk own hr hT hE2
   go_wp2_with fail
   go_ret
   exact LnP.mk2 (size:=1) (pre:=preRow) hands_row (fun _=>rfl) (fun h=>rdl_rows h) XhE2.out Xhk.out Xown.out Xhr.out XhT.out
section
open Go.ChangeShapes Go.WideShapes Go.ChangeAt Go.RowKit Go.Deep
variable {H : Type} {enc : TypeId × Value -> H} {w : World} {sp : Nat -> Bool}
theorem opens_u8Z:OpensZ enc Tryz.prog w sp 5 (fun cs (n:Int)=>cs=[.int .u8 n]/\(Lit.int .u8 n).wf=true):=OpensZ.of (opens_int Tryz.underlying5)
theorem opens_bytesZ:OpensZ enc Tryz.prog w sp 29 (fun cs (xs:List Int)=> ∃v,cs=[v]/\RdL w (· <w.heap.size) 1 (fun cs n=>cs=[.int .u8 n]/\(Lit.int .u8 n).wf=true) v xs/\xs.length * 1<=140737488351232):=
 opens_listZ Tryz.underlying29 (by kernel_rfl) (by decide) (by kernel_rfl) opens_u8Z
theorem wf_u8 {n:Int} (h:(Lit.int .u8 n).wf=true):0<=n/\n<256:=by
 simp [Lit.wf,IntKind.min,IntKind.max,IntKind.signed,IntKind.bits]at h
 omega
theorem rdl_bytes {v:Value} {xs:List Int} (h:RdL w (· <w.heap.size) 1 (fun cs n=>cs=[.int .u8 n]/\(Lit.int .u8 n).wf=true) v xs):RdY w (· <w.heap.size) v xs/\Bytes xs:=by
 obtain⟨h1,h2⟩:=RdL.parts (E:=fun cs (n:Int)=>cs=[.int .u8 n]) (p:=fun n=>(Lit.int .u8 n).wf=true) h
 exact⟨RdL.rd (f:=I8) h1,fun x hx=>wf_u8 (h2 x hx)⟩
end
end Go.Proofs.YtlpipniclimgeaaGreat

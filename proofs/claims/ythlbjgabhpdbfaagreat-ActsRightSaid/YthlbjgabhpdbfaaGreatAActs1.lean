/- Tables: which actions are possible: the iterator gives them, in order. -/
import Derived.Test.YthlbjgabhpdbfaaGreatALook16
import Derived.RangeFuncNested
import Derived.RangeFuncBound
import Derived.RangeFuncCalls
import Derived.RangeFuncLeaves
import Derived.Shelf.Abstract
import Derived.TacticsInMore
import Derived.OwnWalkIn
import Derived.LoopNIn
import Derived.LoopIn
import Derived.Test.YthlbjgabhpdbfaaGreatABase
namespace Go.Proofs.YthlbjgabhpdbfaaGreat
set_option linter.unusedVariables false
set_option linter.unusedSimpArgs false
open Go.RowKit Go.Shelf
attribute [local go_sem] Oper.semAt_some
def idxI (xs:List Int) (s:Int):Int:=if s∈xs then((xs.idxOf s:Nat):Int)else -1
theorem idxI_first {xs:List Int} {s:Int} {i:Nat} (h:xs[i]? =some s) (hf: ∀j:Nat,j<i->xs[j]? ≠some s):idxI xs s=i:=by
 have hm:=List.mem_of_getElem? h
 have hi:=(List.getElem?_eq_some_iff.1 h).1
 unfold idxI
 rw [if_pos hm]
 have h1:xs.idxOf s<xs.length:=List.idxOf_lt_length_of_mem hm
 have h2:xs[xs.idxOf s]? =some s:=by rw [List.getElem?_eq_getElem h1,List.getElem_idxOf h1]
 have h3:xs.idxOf s<=i:=by
  rcases Nat.lt_or_ge i (xs.idxOf s)with e|e
  ·exact absurd (List.getElem?_eq_some_iff.1 h).2 (by have:=List.not_of_lt_findIdx (p:=fun x=>x==s) (xs:=xs) (i:=i) e;simpa using this)
  ·exact e
 rcases Nat.lt_or_ge (xs.idxOf s) i with e|e
 ·exact absurd h2 (hf _ e)
 ·omega
theorem idxI_not {xs:List Int} {s:Int} (h:s∉xs):idxI xs s= -1:=if_neg h
theorem idxI_mem {xs:List Int} {s:Int}:decide (idxI xs s>=0)=decide (s∈xs):=by
 unfold idxI
 by_cases h:s∈xs
 ·rw [if_pos h,decide_eq_true h];exact decide_eq_true (by omega)
 ·rw [if_neg h,decide_eq_false h];rfl
theorem index_ints {w:World} {F:Nat->Prop} {v:Value} {xs:List Int} (h:RdI w F v xs) (s:Int):
  Calls Tryz.prog 201 #[v,.int .i64 s] w fun e w'=>e= .returned (.int .i64 (idxI xs s))/\w=w':=by
 obtain⟨A,n,c,rfl,_⟩:=id h
 obtain⟨hn,hnc,hcm,hcell⟩:=RdI.at_ h
 unfold maxLen at hcm
 have HN:=hide hn
 clear hn
 go_enter Tryz.func201,Tryz.ntmps201
 go_wp2
 go_loop [8] (fun i=> ∃k:Nat,k<=n/\i= .int .i64 k/\ ∀j:Nat,j<k->xs[j]? ≠some s) (fun i=>n - (intOf i).toNat)
 case atStart=>exact⟨0,Nat.zero_le _,rfl,fun j hj=>absurd hj (by omega)⟩
 case round=>
  obtain⟨k,hk,rfl,hbefore⟩:=hrel
  have HB:=hide hbefore
  clear hbefore
  by_cases hlt:k<n
  ·obtain⟨b,off,rfl,_,hc⟩:=hcell (by omega)
   obtain⟨x,hx⟩: ∃x,xs[k]? =some x:=⟨_,List.getElem?_eq_getElem (by rw [<-HN.out];omega)⟩
   have hcx:=hc k x hx
   have HX:=hide hx
   clear hcell hc hx
   by_cases he:s=x
   ·have HE:=hide he
    subst he
    have he':(s==s)=true:=by simp
    go_wp2
    go_ret
    exact⟨ret_int (idxI_first HX.out HB.out).symm,rfl⟩
   ·have HE:=hide he
    have he':(s==x)=false:=by simpa using he
    clear he
    go_wp2
    go_round
    case rel=>
     refine⟨k+1,by omega,by go_num,fun j hj=> ?_⟩
     by_cases hjk:j=k
     ·subst hjk;rw [HX.out];intro e;injection e with e;exact HE.out e.symm
     ·exact HB.out j (by omega)
    case measure=>simp [intOf];omega
  ·go_wp2
   go_ret
   refine⟨ret_int (idxI_not ?_).symm,rfl⟩
   intro hm
   obtain⟨j,hj,e⟩:=List.getElem_of_mem hm
   exact HB.out j (by have:=HN.out;omega) (by rw [List.getElem?_eq_getElem hj,e])
theorem has_ints {w:World} {F:Nat->Prop} {v:Value} {xs:List Int} (h:RdI w F v xs) (s:Int):
  Calls Tryz.prog 140 #[v,.int .i64 s] w fun e w'=>e= .returned (.bool (decide (s∈xs)))/\w=w':=by
 have cI:=index_ints h s
 have hm:=idxI_mem (xs:=xs) (s:=s)
 generalize decide (s∈xs)=r at *
 generalize idxI xs s=i at *
 clear h
 obtain⟨XcI,Xhm⟩:=HqZ2 cI hm;clear cI hm
 go_enter Tryz.func140,Tryz.ntmps140
 go_wp2_with fail
 refine XcI.out.mono ?_
 rintro e w' ⟨rfl,rfl⟩
 clear XcI
 go_wp2_with fail
 go_ret
 exact⟨ret_bool Xhm.out,rfl⟩
theorem acts_possible (own t:Int) (z1 z2:Value) (Al:Option Addr) (nl cl:Nat) (w:World):
  Calls Tryz.prog 73 #[.int .i64 own,.agg #[z1,z2],.slice Al nl cl,.int .i64 t] w fun e w'=>e= .returned (.func (.func 139) #[] #[.pointer (some ⟨w.heap.size+1,0,none⟩),.pointer (some ⟨w.heap.size+1+1+1,0,none⟩),.pointer (some ⟨w.heap.size+1+1,0,none⟩),.pointer (some ⟨w.heap.size,0,none⟩)])/\w'=(((w.alloc (.cells #[.int .i64 own] 3)).alloc (.cells #[z1,z2] 112)).alloc (.cells #[.slice Al nl cl] 117)).alloc (.cells #[.int .i64 t] 3):=by
 go_enter Tryz.func73,Tryz.ntmps73
 go_wp2_with fail
 go_ret
 exact⟨rfl,rfl⟩
structure PosC (W:World) (F:Nat->Prop) (bs bt bl bo:Nat) (z1 z2 vl:Value) (own t:Int) (tr:List It) (L:List Lk):Prop where
 s:Blk W bs 112 #[z1,z2]
 t:Blk W bt 3 #[.int .i64 t]
 l:Blk W bl 117 #[vl]
 o:Blk W bo 3 #[.int .i64 own]
 tr:RdIt W F z2 tr
 lk:RdLk W F vl L
 hF:F bs/\F bt/\F bl/\F bo
theorem PosC.touch {W W':World} {F S:Nat->Prop} {bs bt bl bo:Nat} {z1 z2 vl:Value} {own t:Int} {tr:List It} {L:List Lk} (h:PosC W F bs bt bl bo z1 z2 vl own t tr L) (k:Touch S W W') (hS: ∀b,F b-> ¬S b):PosC W' F bs bt bl bo z1 z2 vl own t tr L:=
 ⟨h.s.touch k (hS _ h.hF.1),h.t.touch k (hS _ h.hF.2.1),h.l.touch k (hS _ h.hF.2.2.1),h.o.touch k (hS _ h.hF.2.2.2),h.tr.touch k hS,h.lk.touch k hS,h.hF⟩
theorem PosC.below {W W':World} {F:Nat->Prop} {bs bt bl bo:Nat} {z1 z2 vl:Value} {own t:Int} {tr:List It} {L:List Lk} {B:Nat} (h:PosC W F bs bt bl bo z1 z2 vl own t tr L) (k:Below B W W') (hF: ∀b,F b->b<B):PosC W' F bs bt bl bo z1 z2 vl own t tr L:=
 ⟨h.s.below k (hF _ h.hF.1),h.t.below k (hF _ h.hF.2.1),h.l.below k (hF _ h.hF.2.2.1),h.o.below k (hF _ h.hF.2.2.2),h.tr.below k hF,h.lk.below k hF,h.hF⟩
theorem PosC.cells {W:World} {F:Nat->Prop} {bs bt bl bo:Nat} {z1 z2 vl:Value} {own t:Int} {tr:List It} {L:List Lk} (h:PosC W F bs bt bl bo z1 z2 vl own t tr L):W.cell? ⟨bs,1,none⟩=some z2/\W.cell? ⟨bt,0,none⟩=some (.int .i64 t)/\W.cell? ⟨bl,0,none⟩=some vl/\W.cell? ⟨bo,0,none⟩=some (.int .i64 own):=
 ⟨(h.s.cell 1).trans rfl,(h.t.cell 0).trans rfl,(h.l.cell 0).trans rfl,(h.o.cell 0).trans rfl⟩
abbrev acV (a:Ac):Array Value:= #[.agg #[.int .i64 a.1,.int .i64 a.2]]
theorem fm_next {α β:Type} {f:α->Option β} {l:List α} {k:Nat} {x:α} (h:l[k]? =some x):(l.take (k+1)).filterMap f=(l.take k).filterMap f++(f x).toList:=by
 rw [List.take_add_one,h,List.filterMap_append]
 cases hf:f x<;>simp [hf]
theorem fm_pre {α β:Type} {f:α->Option β} (l:List α) (k:Nat):(l.take k).filterMap f<+:l.filterMap f:=by
 have:=List.take_append_drop k l
 refine⟨(l.drop k).filterMap f,?_⟩
 rw [<-List.filterMap_append,this]
section
variable {own t : Int} {tr : List It} {L : List Lk}
theorem poss_pre1 (k:Nat):(tr.take k).filterMap (p1A t)<+:possD own tr L t:=by
 obtain⟨r,h⟩:=fm_pre (f:=p1A t) tr k
 exact⟨r++_,by unfold possD;rw [<-List.append_assoc,h]⟩
theorem poss_pre2 (k:Nat):tr.filterMap (p1A t)++(L.take k).filterMap (p2A own t)<+:possD own tr L t:=by
 obtain⟨r,h⟩:=fm_pre (f:=p2A own t) L k
 exact⟨r++L.filterMap (p3A own t),by unfold possD;rw [<-h];simp [List.append_assoc]⟩
theorem poss_pre3 (k:Nat):tr.filterMap (p1A t)++(L.filterMap (p2A own t)++(L.take k).filterMap (p3A own t))<+:possD own tr L t:=by
 obtain⟨r,h⟩:=fm_pre (f:=p3A own t) L k
 exact⟨r,by unfold possD;rw [<-h];simp [List.append_assoc]⟩
end
theorem pre_lt {α:Type} {a b:List α} {x:α} (h:a++[x]<+:b):a.length<b.length:=by
 have:=h.length_le
 simp at this
 omega
set_option maxRecDepth 100000 in
set_option maxHeartbeats 2000000 in
theorem poss_stops {w:World} {F S:Nat->Prop} {bs bt bl bo:Nat} {z1 z2 vl:Value} {own t:Int} {tr:List It} {L:List Lk} (h:PosC w F bs bt bl bo z1 z2 vl own t tr L) (hF: ∀b,F b->b<w.heap.size) (hS: ∀b,F b-> ¬S b) (n:Nat) (hn:1<=n):
  SeqStopsK Fence.wide n Tryz.prog 139 #[.pointer (some ⟨bs,0,none⟩),.pointer (some ⟨bt,0,none⟩),.pointer (some ⟨bl,0,none⟩),.pointer (some ⟨bo,0,none⟩)] acV (Touch S) (fun ys=>ys=possD own tr L t) (fun pre=>pre<+:possD own tr L t) (possD own tr L t).length w:=by
 intro l J Jx W hW hJ hJx hY h0
 have c0:=h.below hW hF
 have hFW: ∀b,F b->b<W.heap.size:=fun b hb=>Nat.lt_of_lt_of_le (hF b hb) hW.size
 obtain⟨A2,n2,e2,rfl,-⟩:=id c0.tr
 obtain⟨-,A3,n3,e3,rfl,-⟩:True/\ ∃A n c,vl= .slice A n c/\True:=by
  obtain⟨Z,-,⟨A,n,c,hv,-⟩,-⟩:=c0.lk
  exact⟨trivial,A,n,c,hv,trivial⟩
 obtain⟨hn2,hc2,hm2,-⟩:=RdIt.at_ c0.tr
 obtain⟨hn3,hc3,hm3,-⟩:=RdLk.at_ c0.lk
 unfold maxLen at hm2 hm3
 clear h hF hW
 obtain⟨Xhn2,Xhn3,XhS,XhFW,XhJ,XhJx,XhY⟩:=HqZ7 hn2 hn3 hS hFW hJ hJx hY;clear hn2 hn3 hS hFW hJ hJx hY
 obtain⟨q1,q2,q3,q4⟩:=c0.cells
 have Xc0:=hide c0;clear c0
 refine callsIn_of_wp Tryz.func139 rfl trivial ?_ rfl
 simp only [Tryz.ntmps139,List.size_toArray,List.length_cons,List.length_nil,Nat.reduceAdd,Nat.reduceSub,Array.replicate_succ,Array.replicate_zero,List.push_toArray,List.append_toArray,List.nil_append,List.cons_append]
 gi_wp2_with fail
 gi_loopw [15] (fun iv wr=> ∃k:Nat,k<=n2/\iv= .int .i64 (k:Int)/\PosC wr F bs bt bl bo z1 (.slice A2 n2 e2) (.slice A3 n3 e3) own t tr L/\J ((tr.take k).filterMap (p1A t)) wr/\W.heap.size<=wr.heap.size) (fun iv _=>n2 - (intOf iv).toNat)
 case atStart=>exact⟨0,Nat.zero_le _,rfl,Xc0.out,h0,Nat.le_refl _⟩
 case round=>
  clear Xc0 h0 q1 q2 q3 q4
  obtain⟨k,hk,rfl,c1,hJs,hz⟩:=hrel
  obtain⟨q1,q2,q3,q4⟩:=c1.cells
  by_cases hlt:k<n2
  ·have hlt':(k:Int)<(n2:Int):=by omega
   obtain⟨-,-,-,hcell⟩:=RdIt.at_ c1.tr
   obtain⟨b2,o2,rfl,-,hcc⟩:=hcell (by omega)
   obtain⟨x,hx⟩: ∃x,tr[k]? =some x:=⟨_,List.getElem?_eq_getElem (by rw [<-Xhn2.out];exact hlt)⟩
   obtain⟨x0,x1⟩:=hcc k x hx
   obtain⟨xa,xb⟩:=x
   simp only at x0 x1
   have al:Below wr.heap.size wr (wr.alloc (.cells #[.int .i64 xa,.int .i64 xb] 131)):=(Below.refl _ _).alloc (Nat.le_refl _) _
   have c2:=c1.below al (fun b hb=>Nat.lt_of_lt_of_le (XhFW.out b hb) hz)
   have hJ2:=XhJ.out _ wr (wr.alloc (.cells #[.int .i64 xa,.int .i64 xb] 131)) none hJs (World.grownBy_alloc _ _ _) (fun r e=>by cases e)
   have hfm:=fm_next (f:=p1A t) hx
   have kx:Blk (wr.alloc (.cells #[.int .i64 xa,.int .i64 xb] 131)) wr.heap.size 131 #[.int .i64 xa,.int .i64 xb]:=Blk.new _ _ _
   have hz2:=Nat.le_trans hz al.size
   obtain⟨p1,p2,p3,p4⟩:=c2.cells
   have kx0:=(kx.cell 0).trans rfl
   have kx1:=(kx.cell 1).trans rfl
   clear hcell hcc c1 hJs al hx
   by_cases ht:0<t
   ·by_cases he:xa=t
    ·subst he
     have hp:p1A xa (xa,xb)=some (1,xb):=if_pos ⟨ht,rfl⟩
     rw [hp]at hfm
     have hpre:=poss_pre1 (own:=own) (t:=xa) (tr:=tr) (L:=L) (k+1)
     rw [hfm]at hpre
     obtain⟨fn,tmps,assign,body,hy,hR⟩:=XhY.out _ (1,xb) _ hJ2 (pre_lt hpre)
     dsimp only [acV]at hy
     have hxx:(xa==xa)=true:=by simp
     obtain⟨XhR,Xc2,Xhpre,Xhfm,Xkx⟩:=HqZ5 hR c2 hpre hfm kx;clear hR c2 hpre hfm kx
     gi_wp2_with fail
     refine XhR.out.mono ?_
     rintro e W3 (⟨rfl,hJ3,hk3⟩|⟨rfl,hJx3⟩)
     ·have c3:=Xc2.out.touch hk3 XhS.out
      have hz3:=Nat.le_trans hz2 hk3.size
      obtain⟨Xc3,XhJ3⟩:=HqZ2 c3 hJ3;clear c3 hJ3
      gi_wp2_with fail
      go_roundw
      case rel=>exact⟨k+1,by omega,by go_num,Xc3.out,by rw [Xhfm.out];exact XhJ3.out,hz3⟩
      case measure=>simp [intOf];omega
     ·have XhJx3:=hide hJx3
      clear hJx3
      gi_wp2_with fail
      refine bodyPost_ret (results_none rfl _ _ _) rfl ?_
      exact⟨⟨_,rfl⟩,.inr ⟨_,Xhpre.out,XhJx3.out⟩⟩
    ·have hp:p1A t (xa,xb)=none:=if_neg (fun c=>he c.2)
     rw [hp]at hfm
     have hxx:(xa==t)=false:=by simpa using he
     obtain⟨Xc2,Xhfm,Xkx,XhJ2⟩:=HqZ4 c2 hfm kx hJ2;clear c2 hfm kx hJ2
     gi_wp2_with fail
     refine⟨fun _ h=>(by cases h),?_⟩
     gi_wp2_with fail
     go_roundw
     case rel=>exact⟨k+1,by omega,by go_num,Xc2.out,by rw [Xhfm.out];simpa using XhJ2.out,hz2⟩
     case measure=>simp [intOf];omega
   ·have hp:p1A t (xa,xb)=none:=if_neg (fun c=>ht c.1)
    rw [hp]at hfm
    obtain⟨Xc2,Xhfm,Xkx,XhJ2⟩:=HqZ4 c2 hfm kx hJ2;clear c2 hfm kx hJ2
    gi_wp2_with fail
    refine⟨fun _ h=>(by cases h),?_⟩
    gi_wp2_with fail
    go_roundw
    case rel=>exact⟨k+1,by omega,by go_num,Xc2.out,by rw [Xhfm.out];simpa using XhJ2.out,hz2⟩
    case measure=>simp [intOf];omega
  ·have hlt': ¬(k:Int)<(n2:Int):=by omega
   have hJs:J (tr.filterMap (p1A t)) wr:=by
    have e:tr.take k=tr:=List.take_of_length_le (by rw [<-Xhn2.out];omega)
    rw [e]at hJs
    exact hJs
   obtain⟨Xc1,XhJs⟩:=HqZ2 c1 hJs;clear c1 hJs
   gi_wp2_with fail
   gi_loopw [38] (fun iv wr=> ∃k:Nat,k<=n3/\iv= .int .i64 (k:Int)/\PosC wr F bs bt bl bo z1 (.slice A2 n2 e2) (.slice A3 n3 e3) own t tr L/\J (tr.filterMap (p1A t)++(L.take k).filterMap (p2A own t)) wr/\W.heap.size<=wr.heap.size) (fun iv _=>n3 - (intOf iv).toNat)
   case atStart=>exact⟨0,Nat.zero_le _,rfl,Xc1.out,by simpa using XhJs.out,hz⟩
   case round=>
    clear Xc1 XhJs hz q1 q2 q3 q4
    obtain⟨k,hk,rfl,c1,hJs,hz⟩:=hrel
    obtain⟨q1,q2,q3,q4⟩:=c1.cells
    by_cases hlt:k<n3
    ·have hlt':(k:Int)<(n3:Int):=by omega
     obtain⟨-,-,-,hcell⟩:=RdLk.at_ c1.lk
     obtain⟨b3,o3,rfl,-,hcc⟩:=hcell (by omega)
     obtain⟨x,hx⟩: ∃x,L[k]? =some x:=⟨_,List.getElem?_eq_getElem (by rw [<-Xhn3.out];exact hlt)⟩
     obtain⟨A4,n4,e4,x0,x1,rt⟩:=hcc k x hx
     obtain⟨xa,xb⟩:=x
     simp only at x0 x1 rt
     have al:Below wr.heap.size wr (wr.alloc (.cells #[.int .i64 xa,.slice A4 n4 e4] 215)):=(Below.refl _ _).alloc (Nat.le_refl _) _
     have c2:=c1.below al (fun b hb=>Nat.lt_of_lt_of_le (XhFW.out b hb) hz)
     have rt2:=rt.below al (fun b hb=>Nat.lt_of_lt_of_le (XhFW.out b hb) hz)
     have hJ2:=XhJ.out _ wr (wr.alloc (.cells #[.int .i64 xa,.slice A4 n4 e4] 215)) none hJs (World.grownBy_alloc _ _ _) (fun r e=>by cases e)
     have hfm:=fm_next (f:=p2A own t) hx
     have kx:Blk (wr.alloc (.cells #[.int .i64 xa,.slice A4 n4 e4] 215)) wr.heap.size 215 #[.int .i64 xa,.slice A4 n4 e4]:=Blk.new _ _ _
     have hz2:=Nat.le_trans hz al.size
     obtain⟨p1,p2,p3,p4⟩:=c2.cells
     have kx0:=(kx.cell 0).trans rfl
     have kx1:=(kx.cell 1).trans rfl
     have cH:=has_ints rt2 t
     clear hcell hcc c1 hJs al hx rt rt2
     by_cases he:xa=own
     ·subst he
      have hxx:(xa==xa)=true:=by simp
      by_cases hm:t∈xb
      ·have hp:p2A xa t (xa,xb)=some (3,0):=if_pos ⟨rfl,hm⟩
       rw [hp]at hfm
       have hpre:=poss_pre2 (own:=xa) (t:=t) (tr:=tr) (L:=L) (k+1)
       rw [hfm]at hpre
       simp only [Option.toList_some,<-List.append_assoc]at hpre
       try simp only [<-List.append_assoc]at hJ2
       obtain⟨fn,tmps,assign,body,hy,hR⟩:=XhY.out _ (3,0) _ hJ2 (pre_lt hpre)
       dsimp only [acV]at hy
       rw [decide_eq_true hm]at cH
       obtain⟨XhR,Xc2,Xhpre,Xhfm,Xkx,XcH⟩:=HqZ6 hR c2 hpre hfm kx cH;clear hR c2 hpre hfm kx cH
       gi_wp2_with fail
       refine⟨trivial,(callsIn_wide.2 XcH.out).mono ?_⟩
       rintro ee w' ⟨rfl,rfl⟩
       clear XcH
       gi_wp2_with fail
       refine XhR.out.mono ?_
       rintro e W3 (⟨rfl,hJ3,hk3⟩|⟨rfl,hJx3⟩)
       ·have c3:=Xc2.out.touch hk3 XhS.out
        have hz3:=Nat.le_trans hz2 hk3.size
        obtain⟨Xc3,XhJ3⟩:=HqZ2 c3 hJ3;clear c3 hJ3
        gi_wp2_with fail
        go_roundw
        case rel=>exact⟨k+1,by omega,by go_num,Xc3.out,by rw [Xhfm.out];simpa [List.append_assoc]using XhJ3.out,hz3⟩
        case measure=>simp [intOf];omega
       ·have XhJx3:=hide hJx3
        clear hJx3
        gi_wp2_with fail
        refine bodyPost_ret (results_none rfl _ _ _) rfl ?_
        exact⟨⟨_,rfl⟩,.inr ⟨_,Xhpre.out,XhJx3.out⟩⟩
      ·have hp:p2A xa t (xa,xb)=none:=if_neg (fun c=>hm c.2)
       rw [hp]at hfm
       rw [decide_eq_false hm]at cH
       obtain⟨Xc2,Xhfm,Xkx,XhJ2,XcH⟩:=HqZ5 c2 hfm kx hJ2 cH;clear c2 hfm kx hJ2 cH
       gi_wp2_with fail
       refine⟨trivial,(callsIn_wide.2 XcH.out).mono ?_⟩
       rintro ee w' ⟨rfl,rfl⟩
       clear XcH
       gi_wp2_with fail
       refine⟨fun _ h=>(by cases h),?_⟩
       gi_wp2_with fail
       go_roundw
       case rel=>exact⟨k+1,by omega,by go_num,Xc2.out,by rw [Xhfm.out];simpa using XhJ2.out,hz2⟩
       case measure=>simp [intOf];omega
     ·have hp:p2A own t (xa,xb)=none:=if_neg (fun c=>he c.1)
      rw [hp]at hfm
      have hxx:(xa==own)=false:=by simpa using he
      obtain⟨Xc2,Xhfm,Xkx,XhJ2⟩:=HqZ4 c2 hfm kx hJ2;clear c2 hfm kx hJ2
      gi_wp2_with fail
      refine⟨trivial,?_⟩
      gi_wp2_with fail
      refine⟨fun _ h=>(by cases h),?_⟩
      gi_wp2_with fail
      go_roundw
      case rel=>exact⟨k+1,by omega,by go_num,Xc2.out,by rw [Xhfm.out];simpa using XhJ2.out,hz2⟩
      case measure=>simp [intOf];omega
    ·have hlt': ¬(k:Int)<(n3:Int):=by omega
     have hJs:J (tr.filterMap (p1A t)++L.filterMap (p2A own t)) wr:=by
      have e:L.take k=L:=List.take_of_length_le (by rw [<-Xhn3.out];omega)
      rw [e]at hJs
      exact hJs
     have c1:=c1
     obtain⟨Xc1,XhJs⟩:=HqZ2 c1 hJs;clear c1 hJs
     gi_wp2_with fail
     gi_loopw [61] (fun iv wr=> ∃k:Nat,k<=n3/\iv= .int .i64 (k:Int)/\PosC wr F bs bt bl bo z1 (.slice A2 n2 e2) (.slice A3 n3 e3) own t tr L/\J (tr.filterMap (p1A t)++(L.filterMap (p2A own t)++(L.take k).filterMap (p3A own t))) wr/\W.heap.size<=wr.heap.size) (fun iv _=>n3 - (intOf iv).toNat)
     case atStart=>exact⟨0,Nat.zero_le _,rfl,Xc1.out,by simpa using XhJs.out,hz⟩
     case round=>
      clear Xc1 XhJs hz q1 q2 q3 q4
      obtain⟨k,hk,rfl,c1,hJs,hz⟩:=hrel
      obtain⟨q1,q2,q3,q4⟩:=c1.cells
      by_cases hlt:k<n3
      ·have hlt':(k:Int)<(n3:Int):=by omega
       obtain⟨-,-,-,hcell⟩:=RdLk.at_ c1.lk
       obtain⟨b3,o3,rfl,-,hcc⟩:=hcell (by omega)
       obtain⟨x,hx⟩: ∃x,L[k]? =some x:=⟨_,List.getElem?_eq_getElem (by rw [<-Xhn3.out];exact hlt)⟩
       obtain⟨A4,n4,e4,x0,x1,rt⟩:=hcc k x hx
       obtain⟨xa,xb⟩:=x
       simp only at x0 x1 rt
       have al:Below wr.heap.size wr (wr.alloc (.cells #[.int .i64 xa,.slice A4 n4 e4] 215)):=(Below.refl _ _).alloc (Nat.le_refl _) _
       have c2:=c1.below al (fun b hb=>Nat.lt_of_lt_of_le (XhFW.out b hb) hz)
       have rt2:=rt.below al (fun b hb=>Nat.lt_of_lt_of_le (XhFW.out b hb) hz)
       have hJ2:=XhJ.out _ wr (wr.alloc (.cells #[.int .i64 xa,.slice A4 n4 e4] 215)) none hJs (World.grownBy_alloc _ _ _) (fun r e=>by cases e)
       have hfm:=fm_next (f:=p3A own t) hx
       have kx:Blk (wr.alloc (.cells #[.int .i64 xa,.slice A4 n4 e4] 215)) wr.heap.size 215 #[.int .i64 xa,.slice A4 n4 e4]:=Blk.new _ _ _
       have hz2:=Nat.le_trans hz al.size
       obtain⟨p1,p2,p3,p4⟩:=c2.cells
       have kx0:=(kx.cell 0).trans rfl
       have kx1:=(kx.cell 1).trans rfl
       have cH:=has_ints rt2 t
       clear hcell hcc c1 hJs al hx rt rt2
       by_cases he:xa≠own
       ·have hxx:(xa !=own)=true:=by simpa using he
        by_cases hm:t∈xb
        ·have hp:p3A own t (xa,xb)=some (2,xa):=if_pos ⟨he,hm⟩
         rw [hp]at hfm
         have hpre:=poss_pre3 (own:=own) (t:=t) (tr:=tr) (L:=L) (k+1)
         rw [hfm]at hpre
         simp only [Option.toList_some,<-List.append_assoc]at hpre
         try simp only [<-List.append_assoc]at hJ2
         obtain⟨fn,tmps,assign,body,hy,hR⟩:=XhY.out _ (2,xa) _ hJ2 (pre_lt hpre)
         dsimp only [acV]at hy
         rw [decide_eq_true hm]at cH
         obtain⟨XhR,Xc2,Xhpre,Xhfm,Xkx,XcH⟩:=HqZ6 hR c2 hpre hfm kx cH;clear hR c2 hpre hfm kx cH
         gi_wp2_with fail
         refine⟨trivial,(callsIn_wide.2 XcH.out).mono ?_⟩
         rintro ee w' ⟨rfl,rfl⟩
         clear XcH
         gi_wp2_with fail
         refine XhR.out.mono ?_
         rintro e W3 (⟨rfl,hJ3,hk3⟩|⟨rfl,hJx3⟩)
         ·have c3:=Xc2.out.touch hk3 XhS.out
          have hz3:=Nat.le_trans hz2 hk3.size
          obtain⟨Xc3,XhJ3⟩:=HqZ2 c3 hJ3;clear c3 hJ3
          gi_wp2_with fail
          go_roundw
          case rel=>exact⟨k+1,by omega,by go_num,Xc3.out,by rw [Xhfm.out];simpa [List.append_assoc]using XhJ3.out,hz3⟩
          case measure=>simp [intOf];omega
         ·have XhJx3:=hide hJx3
          clear hJx3
          gi_wp2_with fail
          refine bodyPost_ret (results_none rfl _ _ _) rfl ?_
          exact⟨⟨_,rfl⟩,.inr ⟨_,Xhpre.out,XhJx3.out⟩⟩
        ·have hp:p3A own t (xa,xb)=none:=if_neg (fun c=>hm c.2)
         rw [hp]at hfm
         rw [decide_eq_false hm]at cH
         obtain⟨Xc2,Xhfm,Xkx,XhJ2,XcH⟩:=HqZ5 c2 hfm kx hJ2 cH;clear c2 hfm kx hJ2 cH
         gi_wp2_with fail
         refine⟨trivial,(callsIn_wide.2 XcH.out).mono ?_⟩
         rintro ee w' ⟨rfl,rfl⟩
         clear XcH
         gi_wp2_with fail
         refine⟨fun _ h=>(by cases h),?_⟩
         gi_wp2_with fail
         go_roundw
         case rel=>exact⟨k+1,by omega,by go_num,Xc2.out,by rw [Xhfm.out];simpa using XhJ2.out,hz2⟩
         case measure=>simp [intOf];omega
       ·have hp:p3A own t (xa,xb)=none:=if_neg (fun c=>he c.1)
        rw [hp]at hfm
        have he:xa=own:=Decidable.not_not.1 he
        subst he
        have hxx:(xa !=xa)=false:=by simp
        obtain⟨Xc2,Xhfm,Xkx,XhJ2⟩:=HqZ4 c2 hfm kx hJ2;clear c2 hfm kx hJ2
        gi_wp2_with fail
        refine⟨trivial,?_⟩
        gi_wp2_with fail
        refine⟨fun _ h=>(by cases h),?_⟩
        gi_wp2_with fail
        go_roundw
        case rel=>exact⟨k+1,by omega,by go_num,Xc2.out,by rw [Xhfm.out];simpa using XhJ2.out,hz2⟩
        case measure=>simp [intOf];omega
      ·have hlt': ¬(k:Int)<(n3:Int):=by omega
       have hJs:J (possD own tr L t) wr:=by
        have e:L.take k=L:=List.take_of_length_le (by rw [<-Xhn3.out];omega)
        rw [e]at hJs
        exact hJs
       have c1:=c1
       obtain⟨Xc1,XhJs⟩:=HqZ2 c1 hJs;clear c1 hJs
       gi_wp2_with fail
       go_end0
       exact⟨⟨_,rfl⟩,.inl XhJs.out⟩
end Go.Proofs.YthlbjgabhpdbfaaGreat
namespace Go.Proofs.YthlbjgabhpdbfaaGreat
set_option linter.unusedVariables false
open Go.RowKit
def CW (w w':World):Prop:= ∀(a:Addr) (u:Value),w.cell? a=some u->w'.cell? a=some u
theorem CW.refl (w:World):CW w w:=fun _ _ h=>h
theorem CW.trans {a b c:World} (h:CW a b) (k:CW b c):CW a c:=fun x u e=>k x u (h x u e)
theorem CW.putObj {w:World} {l:Nat} {o:Obj} (h:w.heap[l]? =some o) (ho:o.isCells=false) (o':Obj):CW w (w.putObj l o'):=fun a u e=>
 cell_kept e (grownBy_putObj' w l o') (fun r hr=>by cases hr;exact⟨o,h,ho⟩)
theorem Rd.cw {w w':World} {F:Nat->Prop} {v:Value} {size:Nat} {xs:List Value} (h:Rd w F v size xs) (k:CW w w'):Rd w' F v size xs:=by
 obtain⟨A,n,c,hv,hc,hm,hl,hr⟩:=h
 refine⟨A,n,c,hv,hc,hm,hl,fun hn=> ?_⟩
 obtain⟨b,off,hA,hb,hcell⟩:=hr hn
 exact⟨b,off,hA,hb,fun j u hu=>k _ _ (hcell j u hu)⟩
abbrev mark (D:Nat):Deferred:={target:= .collected D,args:= #[]}
theorem mark_inj {a b:Nat} (h:mark a=mark b):a=b:=by injection h with h;injection h
def Mk (lo:Nat) (ds:List Deferred) (w:World):Prop:= ∃Ds:List Nat,Ds.Nodup/\ds=Ds.map mark/\ ∀D∈Ds,lo<=D/\w.heap[D]? =some (.deferred (some []))
theorem Mk.nil (lo:Nat) (w:World):Mk lo [] w:=⟨[],List.nodup_nil,rfl,fun D h=>by cases h⟩
theorem Mk.keeps {lo:Nat} {ds:List Deferred} {w w':World} (h:Mk lo ds w) (k:KeepsFrom lo w w'):Mk lo ds w':=by
 obtain⟨Ds,h1,h2,h3⟩:=h
 exact⟨Ds,h1,h2,fun D hD=>⟨(h3 D hD).1,k.same D _ (h3 D hD).1 (h3 D hD).2 rfl⟩⟩
theorem map_mark_inj: ∀{a b:List Nat},a.map mark=b.map mark->a=b
 |[],[],_=>rfl
 |[],_::_,h=>by cases h
 |_::_,[],h=>by cases h
 |x::a,y::b,h=>by
  rw [List.map_cons,List.map_cons]at h
  injection h with h1 h2
  rw [mark_inj h1,map_mark_inj h2]
theorem Mk.cons {lo:Nat} {ds:List Deferred} {w0 w:World} {D:Nat} (h0:Mk lo ds w0) (h:Mk lo ds w) (hlo:lo<=w0.heap.size) (hD:w0.heap.size<=D) (hk:w.heap[D]? =some (.deferred (some []))):Mk lo (mark D::ds) w:=by
 obtain⟨Ds,h1,rfl,h3⟩:=h0
 obtain⟨Ds',g1,g2,g3⟩:=h
 obtain rfl:=map_mark_inj g2
 refine⟨D::Ds,List.nodup_cons.2 ⟨fun hm=> ?_,h1⟩,rfl,fun D' hD'=> ?_⟩
 ·have:=(Array.getElem?_eq_some_iff.1 (h3 D hm).2).1
  omega
 ·rcases List.mem_cons.1 hD' with e|e
  ·subst e;exact⟨by omega,hk⟩
  ·exact g3 D' e
theorem leaves_marks {F:Fence} {n:Nat} {P:Program} {fn:Func} {tmps:Array Value} {R:Ending->World->Prop} {lo:Nat}: ∀(Ds:List Nat) (w:World),Ds.Nodup->(∀D∈Ds,lo<=D/\w.heap[D]? =some (.deferred (some [])))->
  (∀w',CW w w'->Below lo w w'->LeavesIn F n P fn tmps R [] .returning w')->LeavesInM F n P fn tmps R (Ds.map mark) .returning w
 |[],w,_,_,h=>h w (CW.refl _) (Below.refl _ _)
 |D::Ds,w,hn,hk,h=>by
  obtain⟨h1,h2⟩:=List.nodup_cons.1 hn
  obtain⟨hD,hh⟩:=hk D (List.mem_cons_self ..)
  refine⟨by simp,.inl ⟨D,_,rfl,run_takeDeferred hh,?_⟩⟩
  have g:=grownBy_putObj' w D (.deferred none)
  have hlt:=(Array.getElem?_eq_some_iff.1 hh).1
  have b1:Below lo w (w.putObj D (.deferred none)):=(Below.refl lo w).grown g (by omega) (fun k e=>by cases e;exact hD)
  refine leaves_marks Ds _ h2 (fun D' hD'=>⟨(hk D' (List.mem_cons_of_mem _ hD')).1,?_⟩) fun w' hc hb=>h w' ((CW.putObj hh rfl _).trans hc) (b1.trans hb)
  have hne:D'≠D:=fun e=>h1 (e▸hD')
  exact(World.putObj_heap_other hne).trans (hk D' (List.mem_cons_of_mem _ hD')).2
def markPost (P:Program) (fn:Func) (R:Ending->World->Prop) (e:Exit) (a:Act) (w:World):Prop:=
 (e= .normal\/e= .ret)/\ ∃lo,Mk lo a.defers w/\ ∀w',CW w w'->Below lo w w'->bodyPost P fn R .ret {tmps:=a.tmps,defers:=[]} w'
theorem calls_marks {P:Program} {f:FuncId} {fn:Func} {c:Code} {args:Array Value} {w:World} {R:Ending->World->Prop} (hf:P.funcs[f]? =some fn) (hb:fn.body=some c)
  (h:c.wp P (markPost P fn R) {tmps:=args++Array.replicate (fn.ntmps - args.size) undef,defers:=[]} w):Calls P f args w R:=by
 refine(callsIn_wide (n:=1)).1 (callsIn_of_wp_marks hf hb trivial (wpIn_mono (wpIn_wide.2 h) ?_) rfl)
 rintro e a w1 ⟨he,lo,⟨Ds,h1,h2,h3⟩,hk⟩
 have key:LeavesInM Fence.wide 1 P fn a.tmps R a.defers .returning w1:=by
  rw [h2]
  refine leaves_marks Ds w1 h1 h3 fun w' hc hb'=> ?_
  obtain⟨-,v,hv,hR⟩:=hk w' hc hb'
  exact⟨v,hv,hR⟩
 rcases he with rfl|rfl
 ·exact key
 ·exact key
theorem markPost.of {P:Program} {fn:Func} {R:Ending->World->Prop} {tmps:Array Value} {ds:List Deferred} {w:World} (lo:Nat) (hm:Mk lo ds w) (h: ∀w',CW w w'->Below lo w w'->bodyPost P fn R .ret {tmps:=tmps,defers:=[]} w'):markPost P fn R .ret {tmps:=tmps,defers:=ds} w:=⟨.inr rfl,lo,hm,h⟩
theorem markPost.bare {P:Program} {fn:Func} {R:Ending->World->Prop} {tmps:Array Value} {w:World} (h: ∀w',CW w w'->Below w.heap.size w w'->bodyPost P fn R .ret {tmps:=tmps,defers:=[]} w'):markPost P fn R .ret {tmps:=tmps,defers:=[]} w:=⟨.inr rfl,_,Mk.nil _ _,h⟩
attribute [irreducible] markPost
def HandE (p:Act->World->Prop) (a:Act) (w:World):Prop:=p a w
theorem HandE.mk {p:Act->World->Prop} {a:Act} {w:World} (h:p a w):HandE p a w:=h
end Go.Proofs.YthlbjgabhpdbfaaGreat
namespace Go.Proofs.YthlbjgabhpdbfaaGreat
set_option linter.unusedVariables false
set_option linter.unusedSimpArgs false
open Go.RowKit Go.Shelf
attribute [local irreducible] wpStill wpOne wpPh
attribute [local go_sem] Oper.semAt_some
theorem Tryz.infoAct:(Tryz.prog.info? 46).map (fun i=>(i.zero,i.size,i.bytes))=some (some (.agg #[.int .i64 0,.int .i64 0]),2,16):=by kernel_rfl
def AcPost (w:World) (l:List Ac) (e:Ending) (w':World):Prop:=Below w.heap.size w w'/\ ∃A c,e= .returned (.slice A l.length c)/\RdIt w' (fun b=>w.heap.size<=b/\b<w'.heap.size) (.slice A l.length c) l
theorem blk_own {β:Type} (B:Nat) (t:TypeId) (f:β->Array Value):Own (fun s W=>Blk W B t (f s)):=by
 intro s X Y row hs hg hrow
 exact hs.grown hg (fun e=>by
  obtain⟨o,ho,hc⟩:=hrow B e.symm
  unfold Blk at hs
  rw [hs]at ho
  cases ho
  cases hc)
theorem touch_putObj {S:Nat->Prop} {W:World} {l:Nat} (o':Obj) (hS:S l):Touch S W (W.putObj l o'):=(Touch.refl S W).grown (grownBy_putObj' W l o') (fun k e _=>by cases e;exact hS)
theorem below_touch {S:Nat->Prop} {B:Nat} {W W':World} (h:Below B W W') (hS: ∀k,B<=k->S k):Touch S W W':=(Touch.of_below h).mono fun k _ hk=>hS k hk
set_option maxRecDepth 100000 in
set_option maxHeartbeats 4000000 in
theorem acts_at {w:World} {F:Nat->Prop} {vl vL:Value} {D:Sts0} {LL:List (List Lk)} (hD:RdSt w F vl D) (hL:RdLks w F vL LL) (hlen:LL.length=D.length) (hF: ∀b,F b->b<w.heap.size) (own t:Int) {i:Nat} (hi:i<D.length) (hsm:(possD own (trD D i) (lkD LL i) t).length<=1000000):
  Calls Tryz.prog 138 #[.agg #[.int .i64 own,vl,vL],.int .i64 (i:Int),.int .i64 t] w (AcPost w (possD own (trD D i) (lkD LL i) t)):=by
 obtain⟨A1,n1,c1,rfl⟩:=rdst_shape hD
 obtain⟨A2,n2,c2,rfl⟩: ∃A n c,vL= .slice A n c:=by
  obtain⟨Z,-,⟨A,n,c,hv,-⟩,-⟩:=hL
  exact⟨A,n,c,hv⟩
 obtain⟨hn1,hc1,hm1,hcell1⟩:=hD.at_
 obtain⟨hn2,hc2,hm2,hcell2⟩:=hL.at_
 unfold maxLen at hm1 hm2
 obtain⟨b1,o1,rfl,-,hcc1⟩:=hcell1 (by omega)
 obtain⟨b2,o2,rfl,-,hcc2⟩:=hcell2 (by omega)
 obtain⟨e,he⟩: ∃e,D[i]? =some e:=⟨_,List.getElem?_eq_getElem hi⟩
 obtain⟨L,hLi⟩: ∃e,LL[i]? =some e:=⟨_,List.getElem?_eq_getElem (by rw [hlen];exact hi)⟩
 rw [trD_get he,lkD_get hLi]at hsm⊢
 obtain⟨z1,z2,x1,x2,r1,r2⟩:=hcc1 i e he
 obtain⟨A3,n3,c3,y1,r3⟩:=hcc2 i L hLi
 have hlt1:(i:Int)<(n1:Int):=by omega
 have hlt2:(i:Int)<(n2:Int):=by omega
 obtain⟨w1,hw1⟩: ∃w1,w1=(w.alloc (.cells #[.int .i64 own,.slice (some ⟨b1,o1,none⟩) n1 c1,.slice (some ⟨b2,o2,none⟩) n2 c2] 103)).alloc (.cells #[.slice none 0 0] 113):=⟨_,rfl⟩
 have bb1:Below w.heap.size w w1:=by rw [hw1];exact((Below.refl _ _).alloc (Nat.le_refl _) _).alloc (by simp) _
 have kM:Blk w1 w.heap.size 103 #[.int .i64 own,.slice (some ⟨b1,o1,none⟩) n1 c1,.slice (some ⟨b2,o2,none⟩) n2 c2]:=by rw [hw1];exact(Blk.new _ _ _).alloc _
 have bO:Boxed w1 (w.heap.size+1) 113 (.slice none 0 0):=by rw [hw1];have:=Boxed.new (w.alloc (.cells #[.int .i64 own,.slice (some ⟨b1,o1,none⟩) n1 c1,.slice (some ⟨b2,o2,none⟩) n2 c2] 103)) 113 (.slice none 0 0);rw [World.size_alloc]at this;exact this
 obtain⟨q0,q1,q2⟩:w1.cell? ⟨w.heap.size,0,none⟩=some (.int .i64 own)/\w1.cell? ⟨w.heap.size,1,none⟩=some (.slice (some ⟨b1,o1,none⟩) n1 c1)/\w1.cell? ⟨w.heap.size,2,none⟩=some (.slice (some ⟨b2,o2,none⟩) n2 c2):=⟨(kM.cell 0).trans rfl,(kM.cell 1).trans rfl,(kM.cell 2).trans rfl⟩
 have x1:=up_cell bb1 x1
 have x2:=up_cell bb1 x2
 have y1:=up_cell bb1 y1
 have tr1:=(r2.below bb1 hF)
 have lk1:=(r3.below bb1 hF)
 have hz1:w1.heap.size=w.heap.size+1+1:=by rw [hw1];simp
 clear hD hL hlen hn1 hn2 hcell1 hcell2 hcc1 hcc2 he hLi r1 r2 r3 kM hm1 hm2 hi
 obtain⟨Xhw1,Xhsm,Xbb1,Xtr1,Xlk1,Xhz1,XhF,XbO⟩:=HqZ8 hw1 hsm bb1 tr1 lk1 hz1 hF bO;clear hw1 hsm bb1 tr1 lk1 hz1 hF bO
 refine calls_marks Tryz.func138 rfl ?_
 simp only [Tryz.ntmps138,List.size_toArray,List.length_cons,List.length_nil,Nat.reduceAdd,Nat.reduceSub,Array.replicate_succ,Array.replicate_zero,List.push_toArray,List.append_toArray,List.nil_append,List.cons_append]
 go_upto_region 2 with fail
 rw [<-Xhw1.out]
 refine region_tail 13 (by kernel_rfl) (by kernel_rfl) ?_
 simp only [List.take_succ_cons,List.take_zero,List.drop_succ_cons,List.drop_zero]
 repeat still_step
 refine wpStill_nil ?_
 go_wp2_with fail
 refine(acts_possible own t z1 z2 _ _ _ _).mono ?_
 rintro ee w2 ⟨rfl,hw2⟩
 go_wp2_with fail
 obtain⟨W0,hW0⟩: ∃W0,W0=((((w1.alloc (.cells #[.int .i64 own] 3)).alloc (.cells #[z1,z2] 112)).alloc (.cells #[.slice A3 n3 c3] 117)).alloc (.cells #[.int .i64 t] 3)).drew:=⟨_,rfl⟩
 rw [<-hW0]
 have b0:Below w1.heap.size w1 W0:=by rw [hW0];exact(((((Below.refl _ w1).alloc (Nat.le_refl _) _).alloc (by simp) _).alloc (by simp;omega) _).alloc (by simp;omega) _).drew
 have hz0:W0.heap.size=w1.heap.size+1+1+1+1:=by rw [hW0];simp [World.drew]
 have Xhz0:=hide hz0;clear hz0
 have k0:Blk W0 w1.heap.size 3 #[.int .i64 own]:=by rw [hW0];exact((((Blk.new _ _ _).alloc _).alloc _).alloc _).drew
 have k1:Blk W0 (w1.heap.size+1) 112 #[z1,z2]:=by
  rw [hW0]
  have:=(((Blk.new (w1.alloc (.cells #[.int .i64 own] 3)) 112 #[z1,z2]).alloc (.cells #[.slice A3 n3 c3] 117)).alloc (.cells #[.int .i64 t] 3)).drew
  simpa using this
 have k2:Blk W0 (w1.heap.size+1+1) 117 #[.slice A3 n3 c3]:=by
  rw [hW0]
  have:=((Blk.new ((w1.alloc (.cells #[.int .i64 own] 3)).alloc (.cells #[z1,z2] 112)) 117 #[.slice A3 n3 c3]).alloc (.cells #[.int .i64 t] 3)).drew
  simpa using this
 have k3:Blk W0 (w1.heap.size+1+1+1) 3 #[.int .i64 t]:=by
  rw [hW0]
  have:=(Blk.new (((w1.alloc (.cells #[.int .i64 own] 3)).alloc (.cells #[z1,z2] 112)).alloc (.cells #[.slice A3 n3 c3] 117)) 3 #[.int .i64 t]).drew
  simpa using this
 have bO0:Boxed W0 (w.heap.size+1) 113 (.slice none 0 0):=(b0.block _ XbO.out.lt).trans XbO.out
 have b00:=Xbb1.out.trans (b0.mono Xbb1.out.size)
 obtain⟨F0,hF0⟩: ∃F0:Nat->Prop,F0=fun b=>b<w.heap.size\/(w1.heap.size<=b/\b<W0.heap.size):=⟨_,rfl⟩
 obtain⟨S,hS⟩: ∃S:Nat->Prop,S=fun k=>k=w.heap.size+1\/W0.heap.size<=k:=⟨_,rfl⟩
 have pc:PosC W0 F0 (w1.heap.size+1) (w1.heap.size+1+1+1) (w1.heap.size+1+1) w1.heap.size z1 z2 (.slice A3 n3 c3) own t e.2 L:=by
  have hl: ∀b,F b->b<w1.heap.size:=fun b hb=>Nat.lt_of_lt_of_le (XhF.out b hb) Xbb1.out.size
  refine⟨k1,k3,k2,k0,(Rd.below Xtr1.out b0 hl).mono ?_,(Xlk1.out.below b0 hl).mono ?_,?_⟩
  ·intro b hb;rw [hF0];exact .inl (XhF.out b hb)
  ·intro b hb;rw [hF0];exact .inl (XhF.out b hb)
  ·rw [hF0];exact⟨.inr (by have:=Xhz0.out;omega),.inr (by have:=Xhz0.out;omega),.inr (by have:=Xhz0.out;omega),.inr (by have:=Xhz0.out;omega)⟩
 have hF0l: ∀b,F0 b->b<W0.heap.size:=fun b hb=>by
  rw [hF0]at hb
  rcases hb with hb|hb
  ·have:=Xhz0.out;have:=Xhz1.out;omega
  ·exact hb.2
 have hFS: ∀b,F0 b-> ¬S b:=fun b hb hs=>by
  rw [hF0]at hb
  rw [hS]at hs
  rcases hb with hb|hb
  ·rcases hs with hs|hs<;>(have:=Xhz0.out;have:=Xhz1.out;omega)
  ·rcases hs with hs|hs<;>(have:=Xhz0.out;have:=Xhz1.out;omega)
 have hzW:w.heap.size+2<=W0.heap.size:=by have:=Xhz0.out;have:=Xhz1.out;omega
 have hSb:S (w.heap.size+1):=by rw [hS];exact .inl rfl
 have hSn: ∀k,W0.heap.size<=k->S k:=fun k hk=>by rw [hS];exact .inr hk
 obtain⟨i0,hi,hi0,hi1,hi2⟩:=info_parts Tryz.infoAct
 obtain⟨XhF0,XhS,XhW0,XhSb,XhSn⟩:=HqZ5 hF0 hS hW0 hSb hSn;clear hF0 hS hW0 hSb hSn
 refine wpIn_wide.1 (wpIn_rangeFunc_ownH (n:=5) (α:=Ac) rfl (by omega) (gf:=139) (lb:= #[.pointer (some ⟨w1.heap.size+1,0,none⟩),.pointer (some ⟨w1.heap.size+1+1+1,0,none⟩),.pointer (some ⟨w1.heap.size+1+1,0,none⟩),.pointer (some ⟨w1.heap.size,0,none⟩)]) rfl trivial (enters_of Tryz.func139 (by kernel_rfl) rfl)
  (poss_stops pc hF0l hFS 4 (by omega)) (fun h k=>h.trans' k) (fun W l o o' hl _ _ _=>touch_putObj o' (XhSn.out _ hl)) (Below.refl _ _) (fun _=>rfl)
  (fun pre W=>(∃v,Boxed W (w.heap.size+1) 113 v/\W.ownsRow W0.heap.size 46 2 v pre.length (itCells pre)/\True)/\(Below w.heap.size w W/\W0.heap.size<=W.heap.size))
  (fun _ _ _=>False)
  (OwnFrom.and (Own.from (holdsRow_own W0.heap.size (w.heap.size+1) 113 46 2 (fun pre:List Ac=>pre.length) (fun pre=>itCells pre) (fun _ _=>True)) _) (OwnFrom.and (ownFrom_below (Nat.le_refl _) b00.size) (fun s X Y row hs hg _=>Nat.le_trans hs hg.size)))
  (fun _ _ _ _ _ hs _ _=>hs)
  ⟨⟨_,bO0,World.ownsRow_nil _ _ _ _,trivial⟩,b00,Nat.le_refl _⟩
  (fun x a' W=> ∃Bx,W0.heap.size<=Bx/\Blk W Bx 46 #[.int .i64 x.1,.int .i64 x.2]/\a'={tmps:= #[.agg #[.int .i64 own,.slice (some ⟨b1,o1,none⟩) n1 c1,.slice (some ⟨b2,o2,none⟩) n2 c2],.int .i64 (i:Int),.int .i64 t,.pointer (some ⟨w.heap.size,0,none⟩),undef,undef,.slice none 0 0,.pointer (some ⟨w.heap.size+1,0,none⟩),.pointer (some ⟨Bx,0,none⟩),.pointer (some ⟨w.heap.size,0,none⟩),.int .i64 own,.pointer (some ⟨w.heap.size,1,none⟩),.slice (some ⟨b1,o1,none⟩) n1 c1,.int .i64 (i:Int),.pointer (some ⟨b1,o1+i * 2,none⟩),.agg #[z1,z2],.pointer (some ⟨w.heap.size,2,none⟩),.slice (some ⟨b2,o2,none⟩) n2 c2,.int .i64 (i:Int),.pointer (some ⟨b2,o2+i,none⟩),.slice A3 n3 c3,.int .i64 t,.func (.func 139) #[] #[.pointer (some ⟨w1.heap.size+1,0,none⟩),.pointer (some ⟨w1.heap.size+1+1+1,0,none⟩),.pointer (some ⟨w1.heap.size+1+1,0,none⟩),.pointer (some ⟨w1.heap.size,0,none⟩)],.agg #[.int .i64 x.1,.int .i64 x.2],undef,undef,undef,undef,undef],defers:=[]})
  (fun x a'=>by
   rintro _ X Y row ⟨Bx,h1,h2,h3⟩ hg hr
   exact⟨Bx,h1,(blk_own Bx 46 (fun _:Unit=> #[.int .i64 x.1,.int .i64 x.2])).from W0.heap.size () X Y row h2 hg hr,h3⟩) ?assign ?body ?done ?stop)
 case assign=>
  rintro l pre x W K ⟨⟨v,hv,hrow,-⟩,hB,hZ⟩ hK
  gi_wp2_with fail
  exact hK _ _ ((KeepsOthers.alloc _ _).from _) (below_touch ((Below.refl W.heap.size W).alloc (Nat.le_refl _) _) (fun k hk=>XhSn.out k (Nat.le_trans hZ hk))) ⟨⟨v,hv.alloc _,own_below' hrow ((Below.refl _ _).alloc (Nat.le_refl _) _),trivial⟩,hB.alloc hB.size _,Nat.le_trans hZ (by simp)⟩ ⟨W.heap.size,hZ,Blk.new _ _ _,rfl⟩
 case body=>
  rintro l pre x a' W hl hr ⟨⟨v,hv,hrow,-⟩,hB,hZ⟩ ⟨Bx,hBx,kX,rfl⟩ hlt
  obtain⟨x0,x1⟩:=x
  have hlt':pre.length<1000000:=Nat.lt_of_lt_of_le hlt Xhsm.out
  have hc:=hv.cell
  have kx0:=(kX.cell 0).trans rfl
  have kx1:=(kX.cell 1).trans rfl
  have hone: ∀j u,[Value.int .i64 x0,.int .i64 x1][j]? =some u->(W.alloc (.cells #[.int .i64 x0,.int .i64 x1] 46)).cell? ((⟨W.heap.size,0,none⟩:Addr).add j)=some u:=fun j u hu=>by
   rw [add_none,Nat.zero_add,(Blk.new W _ _).cell];simpa using hu
  have hrow2:=ownsRow_base hrow (base':=w.heap.size) (fun k e=>by have:=hrow.lt k e;omega)
  have happ:itCells (pre++[(x0,x1)])=itCells pre++[.int .i64 x0,.int .i64 x1]:=itCells_append _ _
  obtain⟨Xhapp,Xhrow2,Xhone⟩:=HqZ3 happ hrow2 hone;clear happ hrow2 hone
  gi_wp2_with (gi_at_builtin;refine wpListIn_append_own _ rfl _ _ _ rfl W0.heap.size 46 i0 (.agg #[.int .i64 0,.int .i64 0]) 2 16 Tryz.underlying113 hi hi0 hi1 hi2 rfl (by decide) v pre.length (itCells pre) rfl (own_below' hrow ((Below.refl _ _).alloc (Nat.le_refl _) _)) ⟨W.heap.size,0,none⟩ 1 1 [.int .i64 x0,.int .i64 x1] rfl rfl Xhone.out (by simp [Value.oneCell']) (by unfold maxLen;omega) (by omega) (Nat.le_trans hZ (by simp)) ?_;intro v' w5 hown' hgrow _;obtain⟨g',cap',rfl⟩:=ownsRow_succ hown';obtain⟨hv1,hv2,hr2,hk2,hb2⟩:=hv.appended (by decide) Xhrow2.out hB.size (by omega) (ownsRow_base hown' (base':=w.heap.size) (fun k e=>by have:=hown'.lt k e;omega)) hgrow;have hc1:=hv1.cell;have hf1:=hv1.frozen)
  have hown2:=hown'.kept (grownBy_setCell' w5 (w.heap.size+1) (.slice (some ⟨g',0,none⟩) (pre.length+1) cap')) (.inr (hv1.not_row (by decide) hown').symm)
  have tS:Touch S W (w5.setCell ⟨w.heap.size+1,0,none⟩ (.slice (some ⟨g',0,none⟩) (pre.length+1) cap')):=(((Touch.refl S W).alloc _).grown hgrow (fun k e _=>XhSn.out k (hrow.lt k e).1)).setCell (fun _=>XhSb.out) _
  exact⟨hk2.from _,tS,⟨⟨_,hv2,by rw [Xhapp.out,List.length_append];exact hown2⟩,hB.trans hb2,Nat.le_trans hZ tS.size⟩⟩
 case done=>
  rintro D xs W hD rfl ⟨⟨v,hv,hrow,-⟩,hB,hZ⟩ hK
  obtain⟨A,c,rfl,-,-⟩:=ownsRow_shape hrow
  have hc:=hv.cell
  have hmk:Mk W0.heap.size [mark D] W:=⟨[D],by simp,rfl,fun D' h=>by rw [List.mem_singleton]at h;subst h;exact⟨hD,hK⟩⟩
  obtain⟨Xhmk,XhB,Xhrow,Xhv,XhK⟩:=HqZ5 hmk hB hrow hv hK;clear hmk hB hrow hv hK
  go_wp2_with fail
  refine markPost.of W0.heap.size Xhmk.out fun w' hcw hbw=> ?_
  go_ret
  exact⟨XhB.out.trans (hbw.mono (by omega)),A,c,rfl,((Rd.of_own Xhrow.out).cw hcw).mono (fun k hk=>by have:=Xhrow.out.lt k hk;have:=hbw.size;omega)⟩
 case stop=>
  rintro D c pre W _ _ h _
  exact h.elim
end Go.Proofs.YthlbjgabhpdbfaaGreat
namespace Go.Proofs.YthlbjgabhpdbfaaGreat
set_option linter.unusedVariables false
set_option linter.unusedSimpArgs false
open Go.RowKit
attribute [local irreducible] wpStill wpOne wpPh
def claCells (l:List Cla):List Value:=l.flatMap fun x=>[.int .i64 x.1.1,.int .i64 x.1.2,.int .i64 x.2.1.1,.int .i64 x.2.1.2,.int .i64 x.2.2.1,.int .i64 x.2.2.2]
theorem claCells_app (a b:List Cla):claCells (a++b)=claCells a++claCells b:=by unfold claCells;rw [List.flatMap_append]
theorem claCells_one {l:List Cla}: ∀u∈claCells l,u.oneCell'=true:=by
 intro u hu
 unfold claCells at hu
 obtain⟨x,-,h⟩:=List.mem_flatMap.1 hu
 simp at h
 rcases h with rfl|rfl|rfl|rfl|rfl|rfl<;>rfl
theorem Tryz.infoClash:(Tryz.prog.info? 100).map (fun i=>(i.zero,i.size,i.bytes))=some (some (.agg #[.int .i64 0,.int .i64 0,.int .i64 0,.int .i64 0,.int .i64 0,.int .i64 0]),6,48):=by kernel_rfl
theorem Tryz.elemClash:Elem Tryz.prog 28 100 (.agg #[.int .i64 0,.int .i64 0,.int .i64 0,.int .i64 0,.int .i64 0,.int .i64 0]) 6 48:=⟨Tryz.underlying28,Tryz.infoClash,rfl,by decide⟩
structure SmallD (D:Sts0) (LL:List (List Lk)) (T:Nat):Prop where
 n:D.length<=2000
 len:LL.length=D.length
 tr: ∀(i:Nat) e,D[i]? =some e->e.2.length<=240
 lk: ∀(i:Nat) L,LL[i]? =some L->L.length<=301
 t:T<=120
theorem poss_len {own t:Int} {tr:List It} {L:List Lk}:(possD own tr L t).length<=tr.length+2 * L.length:=by
 unfold possD
 rw [List.length_append,List.length_append]
 have h1:=List.length_filterMap_le (p1A t) tr
 have h2:=List.length_filterMap_le (p2A own t) L
 have h3:=List.length_filterMap_le (p3A own t) L
 omega
theorem clAt_len (i t:Int) (a:List Ac):(clAt i t a).length=a.length - 1:=by unfold clAt;simp
theorem SmallD.poss {D:Sts0} {LL:List (List Lk)} {T:Nat} (h:SmallD D LL T) (own t:Int) {i:Nat} (hi:i<D.length):(possD own (trD D i) (lkD LL i) t).length<=842:=by
 obtain⟨e,he⟩: ∃e,D[i]? =some e:=⟨_,List.getElem?_eq_getElem hi⟩
 obtain⟨L,hL⟩: ∃e,LL[i]? =some e:=⟨_,List.getElem?_eq_getElem (by rw [h.len];exact hi)⟩
 rw [trD_get he,lkD_get hL]
 have h1:=h.tr i e he
 have h2:=h.lk i L hL
 have h3:=poss_len (own:=own) (t:=t) (tr:=e.2) (L:=L)
 omega
theorem clRow_len {own:Int} {tr:List It} {L:List Lk} {i:Nat} (hp: ∀t:Int,(possD own tr L t).length<=842): ∀m,(clRow own tr L i m).length<=m * 842
 |0=>by unfold clRow;simp
 |m+1=>by
  rw [clRow_next,List.length_append,clAt_len]
  have:=clRow_len hp m (i:=i)
  have:=hp (m:Int)
  omega
theorem cls_len {own:Int} {D:Sts0} {LL:List (List Lk)} {T m:Nat} (h:SmallD D LL T) (hm:m<=121): ∀i,i<=D.length->(clsD own D LL m i).length<=i * (121 * 842)
 |0,_=>by unfold clsD;simp
 |i+1,hi=>by
  rw [clsD_next,List.length_append]
  have h1:=cls_len (own:=own) h hm i (by omega)
  have h2:=clRow_len (own:=own) (tr:=trD D i) (L:=lkD LL i) (i:=i) (fun t=>h.poss own t (by omega)) m
  have h3:m * 842<=121 * 842:=Nat.mul_le_mul_right _ hm
  omega
theorem clAt_get {i t:Int} {a:List Ac} {k:Nat} {x y:Ac} (h0:a[0]? =some x) (h:a[k+1]? =some y):(clAt i t a).take (k+1)=(clAt i t a).take k++[((i,t),(x,y))]:=by
 have h1:(clAt i t a)[k]? =some ((i,t),(x,y)):=by
  cases a with
  |nil=>cases h0
  |cons z r=>
   injection h0 with h0
   subst h0
   unfold clAt
   rw [List.getElem?_map]
   have:r[k]? =some y:=h
   simp [this]
 rw [List.take_add_one,h1];rfl
def ClaPost (w:World) (l:List Cla) (e:Ending) (w':World):Prop:=Below w.heap.size w w'/\ ∃A c,e= .returned (.slice A l.length c)/\Rd w' (fun b=>w.heap.size<=b/\b<w'.heap.size) (.slice A l.length c) 6 (claCells l)
theorem grown_below {base n c e size:Nat} {A:Option Addr} {xs:List Value} {w w2 w3:World} (h2:w.ownsRow base e size (.slice A n c) n xs) (hbase:base<=w.heap.size) (b2:Below w.heap.size w w2) (g:w2.grownBy w3 (Value.slice A n c).ownBlock):Below base w w3/\Touch (fun k=>(Value.slice A n c).ownBlock=some k) w2 w3:=by
 have t:Touch (fun k=>(Value.slice A n c).ownBlock=some k) w2 w3:=(Touch.refl _ _).grown g (fun k e _=>e)
 exact⟨t.toBelow (fun k e=>(h2.lt k e).1) (b2.mono hbase) (Nat.le_trans hbase b2.size),t⟩
set_option maxRecDepth 100000 in
set_option maxHeartbeats 4000000 in
theorem acts_clashes {w:World} {F:Nat->Prop} {vl vL:Value} {D:Sts0} {LL:List (List Lk)} (hD:RdSt w F vl D) (hL:RdLks w F vL LL) (hF: ∀b,F b->b<w.heap.size) (own:Int) {T:Nat} (hS:SmallD D LL T):
  Calls Tryz.prog 71 #[.agg #[.int .i64 own,vl,vL],.int .i64 (T:Int)] w (ClaPost w (clsD own D LL (T+1) D.length)):=by
 obtain⟨A1,n1,c1,rfl⟩:=rdst_shape hD
 obtain⟨A2,n2,c2,rfl⟩: ∃A n c,vL= .slice A n c:=by
  obtain⟨Z,-,⟨A,n,c,hv,-⟩,-⟩:=hL
  exact⟨A,n,c,hv⟩
 obtain⟨hn1,hc1,hm1,-⟩:=hD.at_
 obtain⟨hn2,hc2,hm2,-⟩:=hL.at_
 unfold maxLen at hm1 hm2
 have hT:=hS.t
 have hn:=hS.n
 rw [<-hn1]at hn
 obtain⟨w1,hw1⟩: ∃w1,w1=w.alloc (.cells #[.int .i64 own,.slice A1 n1 c1,.slice A2 n2 c2] 103):=⟨_,rfl⟩
 have b1:Below w.heap.size w w1:=by rw [hw1];exact(Below.refl _ _).alloc (Nat.le_refl _) _
 have kM:Blk w1 w.heap.size 103 #[.int .i64 own,.slice A1 n1 c1,.slice A2 n2 c2]:=by rw [hw1];exact Blk.new _ _ _
 have hD1:=hD.below b1 hF
 have hL1:=hL.below b1 hF
 have hF1: ∀b,F b->b<w1.heap.size:=fun b hb=>Nat.lt_of_lt_of_le (hF b hb) b1.size
 have cA:=fun wr (b:Below w1.heap.size w1 wr) (i t:Nat) (hi:i<D.length)=>acts_at (hD1.below b hF1) (hL1.below b hF1) hS.len (fun x hx=>Nat.lt_of_lt_of_le (hF1 x hx) b.size) own (t:Int) hi (Nat.le_trans (hS.poss own (t:Int) hi) (by decide))
 obtain⟨q0,q1,q2⟩:w1.cell? ⟨w.heap.size,0,none⟩=some (.int .i64 own)/\w1.cell? ⟨w.heap.size,1,none⟩=some (.slice A1 n1 c1)/\w1.cell? ⟨w.heap.size,2,none⟩=some (.slice A2 n2 c2):=⟨(kM.cell 0).trans rfl,(kM.cell 1).trans rfl,(kM.cell 2).trans rfl⟩
 clear hD hL hF kM hD1 hL1 hF1 hn2 hc2 hm2
 obtain⟨D1,hD1⟩: ∃x,x=w1.heap.size:=⟨_,rfl⟩
 obtain⟨XhS,Xhn1,Xb1,XcA,XhD1⟩:=HqZ5 hS hn1 b1 cA hD1;clear hS hn1 b1 cA hD1
 go_enter Tryz.func71,Tryz.ntmps71
 go_wp2_with fail
 rw [<-hw1]
 clear hw1
 go_loopw [5,13] (fun ov iv wr=> ∃(i:Nat) (A:Option Addr) (m c:Nat),i<=n1/\iv= .int .i64 (i:Int)/\ov= .slice A m c/\m=(clsD own D LL (T+1) i).length/\wr.ownsRow D1 100 6 (.slice A m c) m (claCells (clsD own D LL (T+1) i))/\Below D1 w1 wr) (fun _ iv _=>n1 - (intOf iv).toNat)
 case atStart=>exact⟨0,none,0,0,Nat.zero_le _,rfl,rfl,rfl,World.ownsRow_nil _ _ _ _,Below.refl _ _⟩
 case round=>
  obtain⟨i,A,m,c,hi,rfl,rfl,hm,own0,le⟩:=hrel
  have le':Below w1.heap.size w1 wr:=by rw [<-XhD1.out];exact le
  have q0:=up_cell le' q0
  have q1:=up_cell le' q1
  have q2:=up_cell le' q2
  by_cases hlt:i<n1
  ·have hlt':(i:Int)<(n1:Int):=by omega
   have hT1:IntKind.i64.wrap ((T:Int)+1)=(T:Int)+1:=by rw [IntKind.wrap_i64];omega
   obtain⟨base,hbase⟩: ∃x,x=clsD own D LL (T+1) i:=⟨_,rfl⟩
   have hbl:=cls_len (own:=own) (T:=T) (m:=T+1) XhS.out (by omega) i (by have:=Xhn1.out;omega)
   rw [<-hbase]at hm own0 hbl
   have hr0:clRow own (trD D i) (lkD LL i) i 0=[]:=rfl
   have hbl2:i * (121 * 842)<=2000 * (121 * 842):=Nat.mul_le_mul_right _ (by omega)
   clear q0 q1 q2
   obtain⟨Xhm,Xown0,Xle,Xle',Xhbase,Xhbl,Xhr0⟩:=HqZ7 hm own0 le le' hbase hbl hr0;clear hm own0 le le' hbase hbl hr0
   go_wp2_with fail
   go_loopw [5,18] (fun ov tv wr=> ∃(t:Nat) (A:Option Addr) (m c:Nat),t<=T+1/\tv= .int .i64 (t:Int)/\ov= .slice A m c/\m=(base++clRow own (trD D i) (lkD LL i) i t).length/\wr.ownsRow D1 100 6 (.slice A m c) m (claCells (base++clRow own (trD D i) (lkD LL i) i t))/\Below D1 w1 wr) (fun _ tv _=>T+1 - (intOf tv).toNat)
   case atStart=>exact⟨0,A,m,c,Nat.zero_le _,rfl,rfl,by rw [Xhr0.out,List.append_nil];exact Xhm.out,by rw [Xhr0.out,List.append_nil];exact Xown0.out,Xle.out⟩
   case round=>
    clear Xhm Xown0 Xle Xle' Xhr0
    obtain⟨t,A,m,c,ht,rfl,rfl,hm,own0,le⟩:=hrel
    have le':Below w1.heap.size w1 wr:=by rw [<-XhD1.out];exact le
    have q0:=up_cell le' q0
    have q1:=up_cell le' q1
    have q2:=up_cell le' q2
    by_cases hlu:t<T+1
    ·have hlu':(t:Int)<(T:Int)+1:=by omega
     have cB:=XcA.out wr le' i t (by rw [<-Xhn1.out];exact hlt)
     have hpl:=XhS.out.poss own (t:Int) (i:=i) (by rw [<-Xhn1.out];exact hlt)
     have hrl:=clRow_len (own:=own) (tr:=trD D i) (L:=lkD LL i) (i:=i) (fun t=>XhS.out.poss own t (by rw [<-Xhn1.out];exact hlt)) t
     have hnx:=clRow_next own (trD D i) (lkD LL i) i t
     obtain⟨a,ha⟩: ∃x,x=possD own (trD D i) (lkD LL i) (t:Int):=⟨_,rfl⟩
     obtain⟨rw0,hrw⟩: ∃x,x=clRow own (trD D i) (lkD LL i) i t:=⟨_,rfl⟩
     rw [<-ha,<-hrw]at hnx
     rw [<-ha]at cB hpl
     rw [<-hrw]at hm own0 hrl
     obtain⟨XcB,Xhm,Xown0,Xle,Xle',Xhnx,Xha,Xhrw,Xhrl⟩:=HqZ9 cB hm own0 le le' hnx ha hrw hrl;clear cB hm own0 le le' hnx ha hrw hrl
     go_wp2_with fail
     refine XcB.out.mono ?_
     rintro e w2 ⟨b2,Aa,ca,rfl,rda⟩
     have own2:=own_below' Xown0.out b2
     have le2:=Xle'.out.trans (b2.mono Xle'.out.size)
     have le3:Below D1 w1 w2:=by rw [XhD1.out];exact le2
     have hz2:=b2.size
     have hob: ∀k,(Value.slice A m c).ownBlock=some k->k<wr.heap.size\/w2.heap.size<=k:=fun k e=> .inl (Xown0.out.lt k e).2
     obtain⟨z0,hz0⟩: ∃x,x=wr.heap.size:=⟨_,rfl⟩
     rw [<-hz0]at rda hob hz2
     obtain⟨na,hna⟩: ∃n,n=a.length:=⟨_,rfl⟩
     rw [<-hna]at rda hpl
     obtain⟨-,hnc1,hnc2,-⟩:=RdIt.at_ rda
     rw [<-hna]
     clear b2 XcB Xown0 Xle Xle' q0 q1 q2 hz0
     have hc0:clAt (i:Int) (t:Int) a=clAt (i:Int) (t:Int) a:=rfl
     obtain⟨Xown2,Xle3,Xrda,Xhna,Xhob⟩:=HqZ5 own2 le3 rda hna hob;clear own2 le3 rda hna hob
     go_wp2_with fail
     go_loopw [5,9] (fun ov kv wr=> ∃(k:Nat) (A:Option Addr) (m c:Nat),k<=na - 1/\kv= .int .i64 ((k:Int)+1)/\ov= .slice A m c/\m=(base++rw0++(clAt (i:Int) (t:Int) a).take k).length/\wr.ownsRow D1 100 6 (.slice A m c) m (claCells (base++rw0++(clAt (i:Int) (t:Int) a).take k))/\Below D1 w1 wr/\RdIt wr (fun b=>z0<=b/\b<w2.heap.size) (.slice Aa na ca) a/\w2.heap.size<=wr.heap.size/\ ∀k,(Value.slice A m c).ownBlock=some k->k<z0\/w2.heap.size<=k) (fun _ kv _=>na - (intOf kv).toNat)
     case atStart=>exact⟨0,A,m,c,Nat.zero_le _,rfl,rfl,by rw [List.take_zero,List.append_nil];exact Xhm.out,by rw [List.take_zero,List.append_nil];exact Xown2.out,Xle3.out,Xrda.out,Nat.le_refl _,Xhob.out⟩
     case round=>
      clear Xhm Xown2 Xle3 Xrda Xhob
      obtain⟨k,A,m,c,hk,rfl,rfl,hm,own0,le,rdk,hzk,hob⟩:=hrel
      by_cases hlk:k+1<na
      ·have hlk':(k:Int)+1<(na:Int):=by omega
       obtain⟨x,hx⟩: ∃x,a[0]? =some x:=⟨_,List.getElem?_eq_getElem (by rw [<-Xhna.out];omega)⟩
       obtain⟨y,hy⟩: ∃x,a[k+1]? =some x:=⟨_,List.getElem?_eq_getElem (by rw [<-Xhna.out];omega)⟩
       obtain⟨-,-,-,hcell⟩:=RdIt.at_ rdk
       obtain⟨ba,oa,rfl,-,hcc⟩:=hcell (by omega)
       obtain⟨x0,x1⟩:=hcc 0 x hx
       obtain⟨y0,y1⟩:=hcc (k+1) y hy
       have htk:=clAt_get (i:=(i:Int)) (t:=(t:Int)) hx hy
       have hml:m<=2000 * (121 * 842)+121 * 842+842:=by
        have h1:=Xhbl.out
        have h2:=Xhrl.out
        have h3:t * 842<=121 * 842:=Nat.mul_le_mul_right _ (by omega)
        have h4:((clAt (i:Int) (t:Int) a).take k).length<=k:=List.length_take_le _ _
        rw [hm,List.length_append,List.length_append]
        omega
       obtain⟨xa,xb⟩:=x
       obtain⟨ya,yb⟩:=y
       simp only at x0 x1 y0 y1
       rw [show oa+0 * 2=oa from by omega]at x0 x1
       rw [show((k+1:Nat)) * 2=(k+1) * 2 from rfl]at y0 y1
       clear hcc
       have al:Below wr.drew.heap.size wr.drew (wr.drew.alloc (.cells #[.int .i64 (i:Int),.int .i64 (t:Int),.int .i64 xa,.int .i64 xb,.int .i64 ya,.int .i64 yb] 100)):=(Below.refl _ _).alloc (Nat.le_refl _) _
       have own3:=own_below' (show wr.drew.ownsRow D1 100 6 (.slice A m c) m _ from own0) al
       have rone:Rd (wr.drew.alloc (.cells #[.int .i64 (i:Int),.int .i64 (t:Int),.int .i64 xa,.int .i64 xb,.int .i64 ya,.int .i64 yb] 100)) (fun _=>True) (.slice (some ⟨wr.drew.heap.size,0,none⟩) 1 1) 6 (claCells [(((i:Int),(t:Int)),((xa,xb),(ya,yb)))]):=Rd.one (w:=wr.drew) (e:=100) (claCells [(((i:Int),(t:Int)),((xa,xb),(ya,yb)))]) 6 rfl
       have h0n:(0:Int)<(na:Int):=by omega
       have h0m:0<na:=by omega
       have h01:(0:Int)<=(k:Int)+1:=by omega
       have hkt:((k:Int)+1).toNat=k+1:=by omega
       have hDz:D1<=wr.heap.size:=by have:=le.size;have:=XhD1.out;omega
       have hcell1:=fun W4 (b:Below wr.drew.heap.size wr.drew W4)=>b
       have hDz2:D1<=(wr.drew.alloc (.cells #[.int .i64 (i:Int),.int .i64 (t:Int),.int .i64 xa,.int .i64 xb,.int .i64 ya,.int .i64 yb] 100)).heap.size:=Nat.le_trans hDz al.size
       have hone:=claCells_one (l:=[(((i:Int),(t:Int)),((xa,xb),(ya,yb)))])
       have hcells:=claCells_app (base++rw0++(clAt (i:Int) (t:Int) a).take k) [(((i:Int),(t:Int)),((xa,xb),(ya,yb)))]
       rw [List.append_assoc (base++rw0),<-htk]at hcells
       have hSx:=(⟨up_cell al (show wr.drew.cell? _=_ from x0),up_cell al (show wr.drew.cell? _=_ from x1),up_cell al (show wr.drew.cell? _=_ from y0),up_cell al (show wr.drew.cell? _=_ from y1)⟩:_/\_/\_/\_)
       clear hx hy hcell hcell1
       have hSx:=hSx
       obtain⟨Xhm,Xown0,Xle,Xrdk,Xhob,Xhtk,Xal,Xown3,Xrone,Xhone,Xhcells,Xhml⟩:=HqZ12 hm own0 le rdk hob htk al own3 rone hone hcells hml;clear hm own0 le rdk hob htk al own3 rone hone hcells hml
       go_wp2_with fail
       refine region_late (fun W=>W.cell? ⟨ba,oa,none⟩=some (.int .i64 xa)/\W.cell? ⟨ba,oa+1,none⟩=some (.int .i64 xb)/\W.cell? ⟨ba,oa+(k+1) * 2,none⟩=some (.int .i64 ya)/\W.cell? ⟨ba,oa+(k+1) * 2+1,none⟩=some (.int .i64 yb)) 11 12 (by kernel_rfl) (by kernel_rfl) ⟨x0,x1,y0,y1⟩ ?_
       simp only [List.take_succ_cons,List.take_zero,List.drop_succ_cons,List.drop_zero]
       iterate 11
        refine wpHeld_cons ?_ (by rfl) (fun wS hwS=> ?_) ?_
        rotate_left
        ·(try dsimp only at hwS)
         go_simp
         all_goals with_reducible rfl
        simp only [Act.put,List.setIfInBounds_toArray,List.set_cons_zero,List.set_cons_succ]
       refine wpHeld_nil ?_
       refine wpMid_cons ?_
       go_wp2_with fail
       refine⟨hSx,wpMid_nil ?_⟩
       clear hSx
       go_wp2_with (at_builtin;refine wp_append _ rfl (.tmp 31) (.tmp 42) _ rfl Tryz.elemClash D1 (.slice A m c) m _ rfl Xown3.out _ _ (claCells [(((i:Int),(t:Int)),((xa,xb),(ya,yb)))]) 1 rfl rfl Xrone.out Xhone.out (by unfold maxLen;have:=Xhml.out;omega) (by have:=Xhml.out;omega) hDz2 ?_)
       intro A4 c4 w4 own4 g4 ho4
       obtain⟨bl4,t4⟩:=grown_below (w:=wr.drew) Xown0.out hDz Xal.out g4
       have le4:=Xle.out.drew.trans bl4
       have rd4:RdIt w4 (fun b=>z0<=b/\b<w2.heap.size) (.slice (some ⟨ba,oa,none⟩) na ca) a:=(Rd.below (w:=wr) Xrdk.out (B:=w2.heap.size) (((Below.refl wr.heap.size wr).drew.trans Xal.out).mono hzk) (fun b hb=>hb.2)).touch t4 (fun b hb e=>by rcases Xhob.out b e with h|h<;>omega)
       have hz4:w2.heap.size<=w4.heap.size:=Nat.le_trans hzk bl4.size
       have hob4: ∀k,(Value.slice A4 (m+1) c4).ownBlock=some k->k<z0\/w2.heap.size<=k:=fun k e=>by
        rcases ho4 with h|h
        ·exact Xhob.out k (h▸e)
        ·rw [h]at e
         injection e with e
         have:=Xal.out.size
         right
         rw [<-e]
         exact Nat.le_trans hzk (Nat.le_succ _)
       rw [<-List.append_assoc base,<-Xhcells.out]at own4
       have hm4:m+1=(base++rw0++(clAt (i:Int) (t:Int) a).take (k+1)).length:=by rw [Xhtk.out,<-List.append_assoc,List.length_append,<-Xhm.out];rfl
       clear Xown0 Xle Xrdk Xhob Xal Xown3 Xrone Xhone Xhcells bl4 t4 g4 ho4 Xhm hDz hDz2 x0 x1 y0 y1
       obtain⟨Xown4,Xle4,Xrd4,Xhob4,Xhm4⟩:=HqZ5 own4 le4 rd4 hob4 hm4;clear own4 le4 rd4 hob4 hm4
       go_wp2_with fail
       refine NoPanic.normal ?_
       go_wp2_with fail
       go_roundw
       case rel=>exact⟨k+1,A4,m+1,c4,by omega,by go_num,rfl,Xhm4.out,Xown4.out,Xle4.out,Xrd4.out,hz4,Xhob4.out⟩
       case measure=>simp [intOf];omega
      ·have hlk': ¬(k:Int)+1<(na:Int):=by omega
       have hfull:(clAt (i:Int) (t:Int) a).take k=clAt (i:Int) (t:Int) a:=List.take_of_length_le (by rw [clAt_len];have:=Xhna.out;omega)
       rw [hfull,List.append_assoc,<-Xhnx.out]at hm own0
       obtain⟨Xhm,Xown0,Xle⟩:=HqZ3 hm own0 le;clear hm own0 le
       go_wp2_with fail
       go_roundw
       case rel=>exact⟨t+1,A,m,c,by omega,by go_num,rfl,Xhm.out,Xown0.out,Xle.out⟩
       case measure=>simp [intOf];omega
    ·have hlu': ¬(t:Int)<(T:Int)+1:=by omega
     obtain rfl:t=T+1:=by omega
     rw [Xhbase.out,<-clsD_next]at hm own0
     obtain⟨Xhm,Xown0,Xle⟩:=HqZ3 hm own0 le;clear hm own0 le
     go_wp2_with fail
     go_roundw
     case rel=>exact⟨i+1,A,m,c,by omega,by go_num,rfl,Xhm.out,Xown0.out,Xle.out⟩
     case measure=>simp [intOf];omega
  ·have hlt': ¬(i:Int)<(n1:Int):=by omega
   obtain rfl:i=n1:=by omega
   rw [Xhn1.out]at hm own0
   have hb:=Xb1.out
   have hD:=XhD1.out
   have le2:=hb.trans (le'.mono hb.size)
   obtain⟨Xhm,Xown0,Xle2,XhD,Xhb⟩:=HqZ5 hm own0 le2 hD hb;clear hm own0 le2 hD hb
   go_wp2_with fail
   go_ret
   refine⟨Xle2.out,A,c,by rw [Xhm.out];rfl,?_⟩
   have:=(Rd.of_own Xown0.out).mono (F':=fun b=>w.heap.size<=b/\b<wr.heap.size) (fun k hk=>by have h1:=Xown0.out.lt k hk;have h2:=XhD.out;have h3:=Xhb.out.size;omega)
   rw [Xhm.out]at this
   exact this
end Go.Proofs.YthlbjgabhpdbfaaGreat

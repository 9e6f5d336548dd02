/- Tables: which actions are possible: the iterator gives them, in order. -/
import Derived.Test.YthlbjgabhpdbfaaGreatBActsPlain
import Derived.RangeFuncNested
import Derived.RangeFuncBound
import Derived.RangeFuncCalls
import Derived.RangeFuncLeaves
import Derived.Shelf.Abstract
import Derived.TacticsInMore
import Derived.OwnWalkIn
import Derived.LoopNIn
import Derived.LoopIn
import Derived.Test.YthlbjgabhpdbfaaGreatBBase
import Derived.Test.YthlbjgabhpdbfaaGreatBLook15
set_option linter.unusedVariables false
set_option linter.unusedSimpArgs false
set_option maxRecDepth 100000
set_option maxHeartbeats 4000000
namespace Go.Proofs.YthlbjgabhpdbfaaGreat
open Go.Proofs.Tryz
open List renaming append_assoc->Za,append_nil->Zb,drop_succ_cons->Zc,drop_zero->Zd,filterMap_append->Ze,length_append->Zf,length_cons->Zg,length_nil->Zh,map_cons->Zi,mem_cons_of_mem->Zj,nil_append->Zk,size_toArray->Zl,take_add_one->Zm,take_of_length_le->Zn,take_succ_cons->Zo,take_zero->Zp
open Nat renaming le_refl->Zq,le_trans->Zr,lt_of_lt_of_le->Zs,mul_le_mul_right->Zt,zero_le->Zu
open Go.RowKit Go.Shelf
attribute [local go_sem] Oper.semAt_some
def qX (xs:List Int) (s:Int):Int:=if s∈xs then((xs.idxOf s:Nat):Int)else -1
theorem AB {xs:List Int} {s:Int} {i:Nat} (h:xs[i]? =some s) (d: ∀b:Nat,b<i->xs[b]? ≠some s):qX xs s=i:=by
 have hm:=List.mem_of_getElem? h;have hi:=(List.getElem?_eq_some_iff.1 h).1;unfold qX;rw [if_pos hm];have a:xs.idxOf s<xs.length:=List.idxOf_lt_length_of_mem hm;have c:xs[xs.idxOf s]? =some s:=by rw [List.getElem?_eq_getElem a,List.getElem_idxOf a]
 have g:xs.idxOf s<=i:=by
  rcases Nat.lt_or_ge i (xs.idxOf s)with e|e
  ·exact absurd (List.getElem?_eq_some_iff.1 h).2 (by have:=List.not_of_lt_findIdx (p:=λf=>f==s) (xs:=xs) (i:=i) e;simpa using this)
  ·exact e
 rcases Nat.lt_or_ge (xs.idxOf s) i with e|e
 ·exact absurd c (d _ e)
 ·omega
theorem DG {xs:List Int} {s:Int} (h:s∉xs):qX xs s= -1:=if_neg h
theorem DH {xs:List Int} {s:Int}:decide (qX xs s>=0)=decide (s∈xs):=by
 unfold qX;by_cases h:s∈xs
 ·rw [if_pos h,decide_eq_true h];exact decide_eq_true (by omega)
 ·rw [if_neg h,decide_eq_false h];rfl
theorem AA {w:World} {F:Nat->Prop} {v:Value} {xs:List Int} (h:RdI w F v xs) (s:Int):
  Calls prog 201 #[v,.int .i64 s] w λe z=>e= .returned (.int .i64 (qX xs s))/\w=z:=by
 obtain⟨A,k,C,rfl,_⟩:=id h;obtain⟨r,H,u,q⟩:=RdI.at_ h;unfold maxLen at u;have m:=ab r;clear r
 go_enter func201,ntmps201
 go_wp2
 go_loop [8] (λj=> ∃a:Nat,a<=k/\j= .int .i64 a/\ ∀b:Nat,b<a->xs[b]? ≠some s) (λj=>k - (intOf j).toNat)
 case atStart=>exact⟨0,Zu _,rfl,λb f=>absurd f (by omega)⟩
 case round=>
  obtain⟨a,E,rfl,o⟩:=hrel;have g:=ab o;clear o;by_cases G:a<k
  ·obtain⟨B,I,rfl,_,p⟩:=q (by omega);obtain⟨d,i⟩: ∃d,xs[a]? =some d:=⟨_,List.getElem?_eq_getElem (by rw [<-m.out];omega)⟩;have D:=p a d i;have n:=ab i;clear q p i;by_cases c:s=d
   ·have l:=ab c;subst c;have x:(s==s)=true:=(by simp)
    go_wp2
    go_ret
    exact⟨au (AB n.out g.out).symm,rfl⟩
   ·have l:=ab c;have x:(s==d)=false:=(by simpa using c);clear c
    go_wp2
    go_round
    case rel=>
     refine⟨a+1,by omega,by go_num,λb f=> ?_⟩;by_cases y:b=a
     ·subst y;rw [n.out];intro e;injection e with e;exact l.out e.symm
     ·exact g.out b (by omega)
    case measure=>simp [intOf];omega
  ·go_wp2
   go_ret
   refine⟨au (DG ?_).symm,rfl⟩;intro hm;obtain⟨b,f,e⟩:=List.getElem_of_mem hm;exact g.out b (by have:=m.out;omega) (by rw [List.getElem?_eq_getElem f,e])
theorem x9 {w:World} {F:Nat->Prop} {v:Value} {xs:List Int} (h:RdI w F v xs) (s:Int):
  Calls prog 140 #[v,.int .i64 s] w λe c=>e= .returned (.bool (decide (s∈xs)))/\w=c:=by
 have b:=AA h s;have hm:=DH (xs:=xs) (s:=s);generalize decide (s∈xs)=g at *;generalize qX xs s=f at *;clear h;obtain⟨a,d⟩:=av b hm;clear b hm
 go_enter func140,ntmps140
 go_wp2_with fail
 refine a.out.mono ?_;rintro e c ⟨rfl,rfl⟩;clear a
 go_wp2_with fail
 go_ret
 exact⟨af d.out,rfl⟩
theorem pd (own t:Int) (d f:Value) (a:Option Addr) (c b:Nat) (w:World):
  Calls prog 73 #[.int .i64 own,.agg #[d,f],.slice a c b,.int .i64 t] w λe g=>e= .returned (.func (.func 139) #[] #[.pointer (some ⟨w.heap.size+1,0,none⟩),.pointer (some ⟨w.heap.size+1+1+1,0,none⟩),.pointer (some ⟨w.heap.size+1+1,0,none⟩),.pointer (some ⟨w.heap.size,0,none⟩)])/\g=(((w.alloc (.cells #[.int .i64 own] 3)).alloc (.cells #[d,f] 112)).alloc (.cells #[.slice a c b] 117)).alloc (.cells #[.int .i64 t] 3):=by
 go_enter func73,ntmps73
 go_wp2_with fail
 go_ret
 exact⟨rfl,rfl⟩
structure jb (W:World) (F:Nat->Prop) (bs bt bl bo:Nat) (z1 z2 vl:Value) (own t:Int) (tr:List It) (L:List Lk):Prop where
 s:Blk W bs 112 #[z1,z2]
 t:Blk W bt 3 #[.int .i64 t]
 l:Blk W bl 117 #[vl]
 o:Blk W bo 3 #[.int .i64 own]
 tr:aH W F z2 tr
 lk:ff W F vl L
 hF:F bs/\F bt/\F bl/\F bo
theorem jb.touch {b c:World} {F S:Nat->Prop} {g bt e f:Nat} {j l i:Value} {own t:Int} {tr:List It} {L:List Lk} (h:jb b F g bt e f j l i own t tr L) (k:aa S b c) (a: ∀d,F d-> ¬S d):jb c F g bt e f j l i own t tr L:=
 ⟨h.s.touch k (a _ h.hF.1),h.t.touch k (a _ h.hF.2.1),h.l.touch k (a _ h.hF.2.2.1),h.o.touch k (a _ h.hF.2.2.2),h.tr.touch k a,h.lk.touch k a,h.hF⟩
theorem jb.below {b c:World} {F:Nat->Prop} {g bt e f:Nat} {j l i:Value} {own t:Int} {tr:List It} {L:List Lk} {B:Nat} (h:jb b F g bt e f j l i own t tr L) (k:Below B b c) (a: ∀d,F d->d<B):jb c F g bt e f j l i own t tr L:=
 ⟨h.s.below k (a _ h.hF.1),h.t.below k (a _ h.hF.2.1),h.l.below k (a _ h.hF.2.2.1),h.o.below k (a _ h.hF.2.2.2),h.tr.below k a,h.lk.below k a,h.hF⟩
theorem jb.cells {a:World} {F:Nat->Prop} {d bt b c:Nat} {g f e:Value} {own t:Int} {tr:List It} {L:List Lk} (h:jb a F d bt b c g f e own t tr L):a.cell? ⟨d,1,none⟩=some f/\a.cell? ⟨bt,0,none⟩=some (.int .i64 t)/\a.cell? ⟨b,0,none⟩=some e/\a.cell? ⟨c,0,none⟩=some (.int .i64 own):=
 ⟨(h.s.cell 1).trans rfl,(h.t.cell 0).trans rfl,(h.l.cell 0).trans rfl,(h.o.cell 0).trans rfl⟩
abbrev acV (a:Ac):Array Value:= #[.agg #[.int .i64 a.1,.int .i64 a.2]]
theorem uw {α β:Type} {f:α->Option β} {l:List α} {k:Nat} {x:α} (h:l[k]? =some x):(l.take (k+1)).filterMap f=(l.take k).filterMap f++(f x).toList:=by
 rw [Zm,h,Ze];cases a:f x<;>simp [a]
theorem wo {α β:Type} {f:α->Option β} (l:List α) (k:Nat):(l.take k).filterMap f<+:l.filterMap f:=by
 have:=List.take_append_drop k l;refine⟨(l.drop k).filterMap f,?_⟩;rw [<-Ze,this]
section
variable {own t : Int} {tr : List It} {L : List Lk}
theorem BT (k:Nat):(tr.take k).filterMap (p1A t)<+:dy own tr L t:=by
 obtain⟨a,h⟩:=wo (f:=p1A t) tr k;exact⟨a++_,by unfold dy;rw [<-Za,h]⟩
theorem BS (k:Nat):tr.filterMap (p1A t)++(L.take k).filterMap (p2A own t)<+:dy own tr L t:=by
 obtain⟨a,h⟩:=wo (f:=p2A own t) L k;exact⟨a++L.filterMap (p3A own t),by unfold dy;rw [<-h];simp [Za]⟩
theorem BR (k:Nat):tr.filterMap (p1A t)++(L.filterMap (p2A own t)++(L.take k).filterMap (p3A own t))<+:dy own tr L t:=by
 obtain⟨a,h⟩:=wo (f:=p3A own t) L k;exact⟨a,by unfold dy;rw [<-h];simp [Za]⟩
end
theorem wl {α:Type} {a b:List α} {x:α} (h:a++[x]<+:b):a.length<b.length:=by
 have:=h.length_le;simp at this;omega
theorem sE {w:World} {F S:Nat->Prop} {a4 bt a2 a3:Nat} {bg cl cd:Value} {own t:Int} {tr:List It} {L:List Lk} (h:jb w F a4 bt a2 a3 bg cl cd own t tr L) (bw: ∀j,F j->j<w.heap.size) (bY: ∀j,F j-> ¬S j) (n:Nat) (ct:1<=n):
  SeqStopsK Fence.wide n prog 139 #[.pointer (some ⟨a4,0,none⟩),.pointer (some ⟨bt,0,none⟩),.pointer (some ⟨a2,0,none⟩),.pointer (some ⟨a3,0,none⟩)] acV (aa S) (λck=>ck=dy own tr L t) (λcj=>cj<+:dy own tr L t) (dy own tr L t).length w:=by
 intro cu Y cm bd bx bS bW b0 bP;have W:=h.below bx bw;have bR: ∀j,F j->j<bd.heap.size:=λj C=>Zs (bw j C) bx.size
 obtain⟨bi,U,br,rfl,-⟩:=id W.tr;obtain⟨-,bl,z,bs,rfl,-⟩:True/\ ∃bh n r,cd= .slice bh n r/\True:=by
  obtain⟨co,-,⟨bh,n,r,ch,-⟩,-⟩:=W.lk;exact⟨trivial,bh,n,r,ch,trivial⟩
 obtain⟨b2,cr,cf,-⟩:=aH.at_ W.tr;obtain⟨b3,cs,cg,-⟩:=ff.at_ W.lk;unfold maxLen at cf cg;clear h bw bx;obtain⟨bC,be,bp,ap,bo,cn,bq⟩:=de b2 b3 bY bR bS bW b0;clear b2 b3 bY bR bS bW b0;obtain⟨ad,ai,ak,al⟩:=W.cells;have bB:=ab W;clear W;refine callsIn_of_wp func139 rfl trivial ?_ rfl;simp only [ntmps139,Zl,Zg,Zh,Nat.reduceAdd,Nat.reduceSub,Array.replicate_succ,Array.replicate_zero,List.push_toArray,List.append_toArray,Zk,List.cons_append]
 gi_wp2_with fail
 gi_loopw [15] (λG wr=> ∃a:Nat,a<=U/\G= .int .i64 (a:Int)/\jb wr F a4 bt a2 a3 bg (.slice bi U br) (.slice bl z bs) own t tr L/\Y ((tr.take a).filterMap (p1A t)) wr/\bd.heap.size<=wr.heap.size) (λG _=>U - (intOf G).toNat)
 case atStart=>exact⟨0,Zu _,rfl,bB.out,bP,Zq _⟩
 case round=>
  clear bB bP ad ai ak al;obtain⟨a,b1,rfl,f,i,u⟩:=hrel;obtain⟨ad,ai,ak,al⟩:=f.cells;by_cases a5:a<U
  ·have a6:(a:Int)<(U:Int):=by omega
   obtain⟨-,-,-,R⟩:=aH.at_ f.tr;obtain⟨cp,cv,rfl,-,Q⟩:=R (by omega);obtain⟨v,D⟩: ∃v,tr[a]? =some v:=⟨_,List.getElem?_eq_getElem (by rw [<-bC.out];exact a5)⟩;obtain⟨bb,bc⟩:=Q a v D;obtain⟨b,l⟩:=v;simp only at bb bc;have x:Below wr.heap.size wr (wr.alloc (.cells #[.int .i64 b,.int .i64 l] 131)):=(Below.refl _ _).alloc (Zq _) _;have g:=f.below x (λj C=>Zs (ap.out j C) u);have k:=bo.out _ wr (wr.alloc (.cells #[.int .i64 b,.int .i64 l] 131)) none i (World.grownBy_alloc _ _ _) (λcb e=>by cases e);have c:=uw (f:=p1A t) D;have d:Blk (wr.alloc (.cells #[.int .i64 b,.int .i64 l] 131)) wr.heap.size 131 #[.int .i64 b,.int .i64 l]:=Blk.new _ _ _;have E:=Zr u x.size;obtain⟨b7,b8,b9,ca⟩:=g.cells;have b5:=(d.cell 0).trans rfl;have b6:=(d.cell 1).trans rfl;clear R Q f i x D;by_cases b4:0<t
   ·by_cases s:b=t
    ·subst s;have p:p1A b (b,l)=some (1,l):=if_pos ⟨b4,rfl⟩;rw [p]at c;have q:=BT (own:=own) (t:=b) (tr:=tr) (L:=L) (a+1);rw [c]at q;obtain⟨bO,cc,bE,bG,a8,P⟩:=bq.out _ (1,l) _ k (wl q);dsimp only [acV]at a8;have a7:(b==b)=true:=(by simp);obtain⟨a0,m,a1,o,K⟩:=aX P g q c d;clear P g q c d
     gi_wp2_with fail
     refine a0.out.mono ?_;rintro e bA (⟨rfl,N,T⟩|⟨rfl,O⟩)
     ·have M:=m.out.touch T bp.out;have a9:=Zr E T.size;obtain⟨an,aS⟩:=av M N;clear M N
      gi_wp2_with fail
      go_roundw
      case rel=>exact⟨a+1,by omega,by go_num,an.out,by rw [o.out];exact aS.out,a9⟩
      case measure=>simp [intOf];omega
     ·have aT:=ab O;clear O
      gi_wp2_with fail
      refine bodyPost_ret (results_none rfl _ _ _) rfl ?_;exact⟨⟨_,rfl⟩,.inr ⟨_,a1.out,aT.out⟩⟩
    ·have p:p1A t (b,l)=none:=if_neg (λr=>s r.2);rw [p]at c;have a7:(b==t)=false:=(by simpa using s);obtain⟨m,o,K,B⟩:=aA g c d k;clear g c d k
     gi_wp2_with fail
     refine⟨λ_ h=>(by cases h),?_⟩
     gi_wp2_with fail
     go_roundw
     case rel=>exact⟨a+1,by omega,by go_num,m.out,by rw [o.out];simpa using B.out,E⟩
     case measure=>simp [intOf];omega
   ·have p:p1A t (b,l)=none:=if_neg (λr=>b4 r.1);rw [p]at c;obtain⟨m,o,K,B⟩:=aA g c d k;clear g c d k
    gi_wp2_with fail
    refine⟨λ_ h=>(by cases h),?_⟩
    gi_wp2_with fail
    go_roundw
    case rel=>exact⟨a+1,by omega,by go_num,m.out,by rw [o.out];simpa using B.out,E⟩
    case measure=>simp [intOf];omega
  ·have a6: ¬(a:Int)<(U:Int):=by omega
   have i:Y (tr.filterMap (p1A t)) wr:=by
    have e:tr.take a=tr:=Zn (by rw [<-bC.out];omega);rw [e]at i;exact i
   obtain⟨Z,V⟩:=av f i;clear f i
   gi_wp2_with fail
   gi_loopw [38] (λG wr=> ∃a:Nat,a<=z/\G= .int .i64 (a:Int)/\jb wr F a4 bt a2 a3 bg (.slice bi U br) (.slice bl z bs) own t tr L/\Y (tr.filterMap (p1A t)++(L.take a).filterMap (p2A own t)) wr/\bd.heap.size<=wr.heap.size) (λG _=>z - (intOf G).toNat)
   case atStart=>exact⟨0,Zu _,rfl,Z.out,by simpa using V.out,u⟩
   case round=>
    clear Z V u ad ai ak al;obtain⟨a,b1,rfl,f,i,u⟩:=hrel;obtain⟨ad,ai,ak,al⟩:=f.cells;by_cases a5:a<z
    ·have a6:(a:Int)<(z:Int):=(by omega);obtain⟨-,-,-,R⟩:=ff.at_ f.lk;obtain⟨ce,ci,rfl,-,Q⟩:=R (by omega);obtain⟨v,D⟩: ∃v,L[a]? =some v:=⟨_,List.getElem?_eq_getElem (by rw [<-be.out];exact a5)⟩;obtain⟨H,J,I,bb,bc,X⟩:=Q a v D;obtain⟨b,l⟩:=v;simp only at bb bc X;have x:Below wr.heap.size wr (wr.alloc (.cells #[.int .i64 b,.slice H J I] 215)):=(Below.refl _ _).alloc (Zq _) _;have g:=f.below x (λj C=>Zs (ap.out j C) u);have ba:=X.below x (λj C=>Zs (ap.out j C) u);have k:=bo.out _ wr (wr.alloc (.cells #[.int .i64 b,.slice H J I] 215)) none i (World.grownBy_alloc _ _ _) (λcb e=>by cases e);have c:=uw (f:=p2A own t) D;have d:Blk (wr.alloc (.cells #[.int .i64 b,.slice H J I] 215)) wr.heap.size 215 #[.int .i64 b,.slice H J I]:=Blk.new _ _ _;have E:=Zr u x.size;obtain⟨b7,b8,b9,ca⟩:=g.cells;have b5:=(d.cell 0).trans rfl;have b6:=(d.cell 1).trans rfl;have y:=x9 ba t;clear R Q f i x D X ba;by_cases s:b=own
     ·subst s;have a7:(b==b)=true:=(by simp);by_cases hm:t∈l
      ·have p:p2A b t (b,l)=some (3,0):=if_pos ⟨rfl,hm⟩;rw [p]at c;have q:=BS (own:=b) (t:=t) (tr:=tr) (L:=L) (a+1);rw [c]at q;simp only [Option.toList_some,<-Za]at q
       try simp only [<-Za]at k
       obtain⟨bO,cc,bE,bG,a8,P⟩:=bq.out _ (3,0) _ k (wl q);dsimp only [acV]at a8;rw [decide_eq_true hm]at y;obtain⟨a0,m,a1,o,K,A⟩:=aM P g q c d y;clear P g q c d y
       gi_wp2_with fail
       refine⟨trivial,(callsIn_wide.2 A.out).mono ?_⟩;rintro bu bz ⟨rfl,rfl⟩;clear A
       gi_wp2_with fail
       refine a0.out.mono ?_;rintro e bA (⟨rfl,N,T⟩|⟨rfl,O⟩)
       ·have M:=m.out.touch T bp.out;have a9:=Zr E T.size;obtain⟨an,aS⟩:=av M N;clear M N
        gi_wp2_with fail
        go_roundw
        case rel=>exact⟨a+1,by omega,by go_num,an.out,by rw [o.out];simpa [Za]using aS.out,a9⟩
        case measure=>simp [intOf];omega
       ·have aT:=ab O;clear O
        gi_wp2_with fail
        refine bodyPost_ret (results_none rfl _ _ _) rfl ?_;exact⟨⟨_,rfl⟩,.inr ⟨_,a1.out,aT.out⟩⟩
      ·have p:p2A b t (b,l)=none:=if_neg (λr=>hm r.2);rw [p]at c;rw [decide_eq_false hm]at y;obtain⟨m,o,K,B,A⟩:=aX g c d k y;clear g c d k y
       gi_wp2_with fail
       refine⟨trivial,(callsIn_wide.2 A.out).mono ?_⟩;rintro bu bz ⟨rfl,rfl⟩;clear A
       gi_wp2_with fail
       refine⟨λ_ h=>(by cases h),?_⟩
       gi_wp2_with fail
       go_roundw
       case rel=>exact⟨a+1,by omega,by go_num,m.out,by rw [o.out];simpa using B.out,E⟩
       case measure=>simp [intOf];omega
     ·have p:p2A own t (b,l)=none:=if_neg (λr=>s r.1);rw [p]at c;have a7:(b==own)=false:=(by simpa using s);obtain⟨m,o,K,B⟩:=aA g c d k;clear g c d k
      gi_wp2_with fail
      refine⟨trivial,?_⟩
      gi_wp2_with fail
      refine⟨λ_ h=>(by cases h),?_⟩
      gi_wp2_with fail
      go_roundw
      case rel=>exact⟨a+1,by omega,by go_num,m.out,by rw [o.out];simpa using B.out,E⟩
      case measure=>simp [intOf];omega
    ·have a6: ¬(a:Int)<(z:Int):=(by omega);have i:Y (tr.filterMap (p1A t)++L.filterMap (p2A own t)) wr:=by
      have e:L.take a=L:=Zn (by rw [<-be.out];omega);rw [e]at i;exact i
     have f:=f;obtain⟨Z,V⟩:=av f i;clear f i
     gi_wp2_with fail
     gi_loopw [61] (λG wr=> ∃a:Nat,a<=z/\G= .int .i64 (a:Int)/\jb wr F a4 bt a2 a3 bg (.slice bi U br) (.slice bl z bs) own t tr L/\Y (tr.filterMap (p1A t)++(L.filterMap (p2A own t)++(L.take a).filterMap (p3A own t))) wr/\bd.heap.size<=wr.heap.size) (λG _=>z - (intOf G).toNat)
     case atStart=>exact⟨0,Zu _,rfl,Z.out,by simpa using V.out,u⟩
     case round=>
      clear Z V u ad ai ak al;obtain⟨a,b1,rfl,f,i,u⟩:=hrel;obtain⟨ad,ai,ak,al⟩:=f.cells;by_cases a5:a<z
      ·have a6:(a:Int)<(z:Int):=(by omega);obtain⟨-,-,-,R⟩:=ff.at_ f.lk;obtain⟨ce,ci,rfl,-,Q⟩:=R (by omega);obtain⟨v,D⟩: ∃v,L[a]? =some v:=⟨_,List.getElem?_eq_getElem (by rw [<-be.out];exact a5)⟩;obtain⟨H,J,I,bb,bc,X⟩:=Q a v D;obtain⟨b,l⟩:=v;simp only at bb bc X;have x:Below wr.heap.size wr (wr.alloc (.cells #[.int .i64 b,.slice H J I] 215)):=(Below.refl _ _).alloc (Zq _) _;have g:=f.below x (λj C=>Zs (ap.out j C) u);have ba:=X.below x (λj C=>Zs (ap.out j C) u);have k:=bo.out _ wr (wr.alloc (.cells #[.int .i64 b,.slice H J I] 215)) none i (World.grownBy_alloc _ _ _) (λcb e=>by cases e);have c:=uw (f:=p3A own t) D;have d:Blk (wr.alloc (.cells #[.int .i64 b,.slice H J I] 215)) wr.heap.size 215 #[.int .i64 b,.slice H J I]:=Blk.new _ _ _;have E:=Zr u x.size;obtain⟨b7,b8,b9,ca⟩:=g.cells;have b5:=(d.cell 0).trans rfl;have b6:=(d.cell 1).trans rfl;have y:=x9 ba t;clear R Q f i x D X ba;by_cases s:b≠own
       ·have a7:(b !=own)=true:=(by simpa using s);by_cases hm:t∈l
        ·have p:p3A own t (b,l)=some (2,b):=if_pos ⟨s,hm⟩;rw [p]at c;have q:=BR (own:=own) (t:=t) (tr:=tr) (L:=L) (a+1);rw [c]at q;simp only [Option.toList_some,<-Za]at q
         try simp only [<-Za]at k
         obtain⟨bO,cc,bE,bG,a8,P⟩:=bq.out _ (2,b) _ k (wl q);dsimp only [acV]at a8;rw [decide_eq_true hm]at y;obtain⟨a0,m,a1,o,K,A⟩:=aM P g q c d y;clear P g q c d y
         gi_wp2_with fail
         refine⟨trivial,(callsIn_wide.2 A.out).mono ?_⟩;rintro bu bz ⟨rfl,rfl⟩;clear A
         gi_wp2_with fail
         refine a0.out.mono ?_;rintro e bA (⟨rfl,N,T⟩|⟨rfl,O⟩)
         ·have M:=m.out.touch T bp.out;have a9:=Zr E T.size;obtain⟨an,aS⟩:=av M N;clear M N
          gi_wp2_with fail
          go_roundw
          case rel=>exact⟨a+1,by omega,by go_num,an.out,by rw [o.out];simpa [Za]using aS.out,a9⟩
          case measure=>simp [intOf];omega
         ·have aT:=ab O;clear O
          gi_wp2_with fail
          refine bodyPost_ret (results_none rfl _ _ _) rfl ?_;exact⟨⟨_,rfl⟩,.inr ⟨_,a1.out,aT.out⟩⟩
        ·have p:p3A own t (b,l)=none:=if_neg (λr=>hm r.2);rw [p]at c;rw [decide_eq_false hm]at y;obtain⟨m,o,K,B,A⟩:=aX g c d k y;clear g c d k y
         gi_wp2_with fail
         refine⟨trivial,(callsIn_wide.2 A.out).mono ?_⟩;rintro bu bz ⟨rfl,rfl⟩;clear A
         gi_wp2_with fail
         refine⟨λ_ h=>(by cases h),?_⟩
         gi_wp2_with fail
         go_roundw
         case rel=>exact⟨a+1,by omega,by go_num,m.out,by rw [o.out];simpa using B.out,E⟩
         case measure=>simp [intOf];omega
       ·have p:p3A own t (b,l)=none:=if_neg (λr=>s r.1);rw [p]at c;have s:b=own:=Decidable.not_not.1 s;subst s;have a7:(b !=b)=false:=(by simp);obtain⟨m,o,K,B⟩:=aA g c d k;clear g c d k
        gi_wp2_with fail
        refine⟨trivial,?_⟩
        gi_wp2_with fail
        refine⟨λ_ h=>(by cases h),?_⟩
        gi_wp2_with fail
        go_roundw
        case rel=>exact⟨a+1,by omega,by go_num,m.out,by rw [o.out];simpa using B.out,E⟩
        case measure=>simp [intOf];omega
      ·have a6: ¬(a:Int)<(z:Int):=(by omega);have i:Y (dy own tr L t) wr:=by
        have e:L.take a=L:=Zn (by rw [<-be.out];omega);rw [e]at i;exact i
       have f:=f;obtain⟨Z,V⟩:=av f i;clear f i
       gi_wp2_with fail
       go_end0
       exact⟨⟨_,rfl⟩,.inl V.out⟩
end Go.Proofs.YthlbjgabhpdbfaaGreat
namespace Go.Proofs.YthlbjgabhpdbfaaGreat
open Go.Proofs.Tryz
open List renaming append_assoc->Za,append_nil->Zb,drop_succ_cons->Zc,drop_zero->Zd,filterMap_append->Ze,length_append->Zf,length_cons->Zg,length_nil->Zh,map_cons->Zi,mem_cons_of_mem->Zj,nil_append->Zk,size_toArray->Zl,take_add_one->Zm,take_of_length_le->Zn,take_succ_cons->Zo,take_zero->Zp
open Nat renaming le_refl->Zq,le_trans->Zr,lt_of_lt_of_le->Zs,mul_le_mul_right->Zt,zero_le->Zu
open Go.RowKit
def CW (w w':World):Prop:= ∀(a:Addr) (u:Value),w.cell? a=some u->w'.cell? a=some u
theorem CW.refl (w:World):CW w w:=λ_ _ h=>h
theorem CW.trans {a b c:World} (h:CW a b) (k:CW b c):CW a c:=λf d e=>k f d (h f d e)
theorem CW.putObj {w:World} {l:Nat} {o:Obj} (h:w.heap[l]? =some o) (b:o.isCells=false) (a:Obj):CW w (w.putObj l a):=λd g e=>
 cell_kept e (grownBy_putObj' w l a) (λf c=>by cases c;exact⟨o,h,b⟩)
theorem Rd.cw {w w':World} {F:Nat->Prop} {v:Value} {size:Nat} {xs:List Value} (h:Rd w F v size xs) (k:CW w w'):Rd w' F v size xs:=by
 obtain⟨a,p,c,n,f,hm,i,l⟩:=h;refine⟨a,p,c,n,f,hm,i,λj=> ?_⟩;obtain⟨b,q,d,e,g⟩:=l j;exact⟨b,q,d,e,λo r m=>k _ _ (g o r m)⟩
abbrev mM (D:Nat):Deferred:={target:= .collected D,args:= #[]}
theorem Dz {a b:Nat} (h:mM a=mM b):a=b:=by injection h with h;injection h
def Mk (lo:Nat) (ds:List Deferred) (w:World):Prop:= ∃Ds:List Nat,Ds.Nodup/\ds=Ds.map mM/\ ∀D∈Ds,lo<=D/\w.heap[D]? =some (.deferred (some []))
theorem Mk.nil (lo:Nat) (w:World):Mk lo [] w:=⟨[],List.nodup_nil,rfl,λa h=>by cases h⟩
theorem Mk.keeps {lo:Nat} {d:List Deferred} {w w':World} (h:Mk lo d w) (k:KeepsFrom lo w w'):Mk lo d w':=by
 obtain⟨e,f,g,b⟩:=h;exact⟨e,f,g,λa c=>⟨(b a c).1,k.same a _ (b a c).1 (b a c).2 rfl⟩⟩
theorem pT: ∀{a b:List Nat},a.map mM=b.map mM->a=b
 |[],[],_=>rfl
 |[],_::_,h=>by cases h
 |_::_,[],h=>by cases h
 |x::a,y::b,h=>by
  rw [Zi,Zi]at h;injection h with c d
  rw [Dz c,pT d]
theorem Mk.cons {lo:Nat} {a:List Deferred} {w0 w:World} {D:Nat} (g:Mk lo a w0) (h:Mk lo a w) (p:lo<=w0.heap.size) (o:w0.heap.size<=D) (l:w.heap[D]? =some (.deferred (some []))):Mk lo (mM D::a) w:=by
 obtain⟨c,i,rfl,j⟩:=g;obtain⟨m,n,d,f⟩:=h;obtain rfl:=pT d;refine⟨D::c,List.nodup_cons.2 ⟨λhm=> ?_,i⟩,rfl,λb k=> ?_⟩
 ·have:=(Array.getElem?_eq_some_iff.1 (j D hm).2).1;omega
 ·rcases List.mem_cons.1 k with e|e
  ·subst e;exact⟨by omega,l⟩
  ·exact f b e
theorem pU {F:Fence} {n:Nat} {P:Program} {g:Func} {i:Array Value} {R:Ending->World->Prop} {lo:Nat}: ∀(a:List Nat) (w:World),a.Nodup->(∀D∈a,lo<=D/\w.heap[D]? =some (.deferred (some [])))->
  (∀b,CW w b->Below lo w b->LeavesIn F n P g i R [] .returning b)->LeavesInM F n P g i R (a.map mM) .returning w
 |[],w,_,_,h=>h w (CW.refl _) (Below.refl _ _)
 |D::a,w,hn,hk,h=>by
  obtain⟨l,m⟩:=List.nodup_cons.1 hn;obtain⟨o,f⟩:=hk D (List.mem_cons_self ..);refine⟨by simp,.inl ⟨D,_,rfl,run_takeDeferred f,?_⟩⟩;have k:=grownBy_putObj' w D (.deferred none);have s:=(Array.getElem?_eq_some_iff.1 f).1;have j:Below lo w (w.putObj D (.deferred none)):=(Below.refl lo w).grown k (by omega) (λu e=>by cases e;exact o);refine pU a _ m (λc d=>⟨(hk c (Zj _ d)).1,?_⟩) λb q p=>h b ((CW.putObj f rfl _).trans q) (j.trans p)
  have r:c≠D:=λe=>l (e▸d)
  exact(World.putObj_heap_other r).trans (hk c (Zj _ d)).2
def aY (P:Program) (fn:Func) (R:Ending->World->Prop) (e:Exit) (a:Act) (w:World):Prop:=
 (e= .normal\/e= .ret)/\ ∃lo,Mk lo a.defers w/\ ∀w',CW w w'->Below lo w w'->bodyPost P fn R .ret {tmps:=a.tmps,defers:=[]} w'
theorem qS {P:Program} {f:FuncId} {a:Func} {c:Code} {b:Array Value} {w:World} {R:Ending->World->Prop} (r:P.funcs[f]? =some a) (n:a.body=some c)
  (h:c.wp P (aY P a R) {tmps:=b++Array.replicate (a.ntmps - b.size) undef,defers:=[]} w):Calls P f b w R:=by
 refine(callsIn_wide (n:=1)).1 (callsIn_of_wp_marks r n trivial (wpIn_mono (wpIn_wide.2 h) ?_) rfl);rintro e d w1 ⟨q,y,⟨i,j,k,l⟩,s⟩;have g:LeavesInM Fence.wide 1 P a d.tmps R d.defers .returning w1:=by
  rw [k];refine pU i w1 j l λx p o=> ?_
  obtain⟨-,v,u,m⟩:=s x p o;exact⟨v,u,m⟩
 rcases q with rfl|rfl
 ·exact g
 ·exact g
theorem aY.of {P:Program} {c:Func} {R:Ending->World->Prop} {tmps:Array Value} {b:List Deferred} {w:World} (lo:Nat) (hm:Mk lo b w) (h: ∀a,CW w a->Below lo w a->bodyPost P c R .ret {tmps:=tmps,defers:=[]} a):aY P c R .ret {tmps:=tmps,defers:=b} w:=⟨.inr rfl,lo,hm,h⟩
theorem aY.bare {P:Program} {b:Func} {R:Ending->World->Prop} {tmps:Array Value} {w:World} (h: ∀a,CW w a->Below w.heap.size w a->bodyPost P b R .ret {tmps:=tmps,defers:=[]} a):aY P b R .ret {tmps:=tmps,defers:=[]} w:=⟨.inr rfl,_,Mk.nil _ _,h⟩
attribute [irreducible] aY
def kJ (p:Act->World->Prop) (a:Act) (w:World):Prop:=p a w
theorem kJ.mk {p:Act->World->Prop} {a:Act} {w:World} (h:p a w):kJ p a w:=h
end Go.Proofs.YthlbjgabhpdbfaaGreat
namespace Go.Proofs.YthlbjgabhpdbfaaGreat
open Go.Proofs.Tryz
open List renaming append_assoc->Za,append_nil->Zb,drop_succ_cons->Zc,drop_zero->Zd,filterMap_append->Ze,length_append->Zf,length_cons->Zg,length_nil->Zh,map_cons->Zi,mem_cons_of_mem->Zj,nil_append->Zk,size_toArray->Zl,take_add_one->Zm,take_of_length_le->Zn,take_succ_cons->Zo,take_zero->Zp
open Nat renaming le_refl->Zq,le_trans->Zr,lt_of_lt_of_le->Zs,mul_le_mul_right->Zt,zero_le->Zu
open Go.RowKit Go.Shelf
attribute [local irreducible] wpStill aB aO
attribute [local go_sem] Oper.semAt_some
theorem infoAct:(prog.info? 46).map (λa=>(a.zero,a.size,a.bytes))=some (some (.agg #[.int .i64 0,.int .i64 0]),2,16):=by kernel_rfl
theorem elemAct:dZ prog 113 46 (.agg #[.int .i64 0,.int .i64 0]) 2 16:=⟨underlying113,infoAct,rfl,by decide⟩
def Fy (w:World) (l:List Ac) (e:Ending) (w':World):Prop:=Below w.heap.size w w'/\ ∃A c,e= .returned (.slice A l.length c)/\aH w' (λb=>w.heap.size<=b/\b<w'.heap.size) (.slice A l.length c) l
theorem EU {β:Type} (B:Nat) (t:TypeId) (f:β->Array Value):Own (λc d=>Blk d B t (f c)):=by
 intro c j k m a h i;exact a.grown h (λe=>by
  obtain⟨l,b,g⟩:=i B e.symm
  unfold Blk at a
  rw [a]at b
  cases b
  cases g)
theorem pO {S:Nat->Prop} {a:World} {l:Nat} (b:Obj) (c:S l):aa S a (a.putObj l b):=(aa.refl S a).grown (grownBy_putObj' a l b) (λd e _=>by cases e;exact c)
theorem dC {S:Nat->Prop} {B:Nat} {b c:World} (h:Below B b c) (d: ∀a,B<=a->S a):aa S b c:=(aa.of_below h).mono λa _ e=>d a e
theorem EX {w:World} {F:Nat->Prop} {b4 a9:Value} {D:aP} {LL:List (List Lk)} (T:dG w F b4 D) (a0:eF w F a9 LL) (bx:LL.length=D.length) (ak: ∀b,F b->b<w.heap.size) (own t:Int) {i:Nat} (hi:i<D.length) (a4:(dy own (trD D i) (lkD LL i) t).length<=1000000):
  Calls prog 138 #[.agg #[.int .i64 own,b4,a9],.int .i64 (i:Int),.int .i64 t] w (Fy w (dy own (trD D i) (lkD LL i) t)):=by
 obtain⟨cO,G,O,rfl⟩:=oE T;obtain⟨cP,H,P,rfl⟩: ∃R a7 N,a9= .slice R a7 N:=by
  obtain⟨c3,-,⟨R,a7,N,l,-⟩,-⟩:=a0;exact⟨R,a7,N,l⟩
 obtain⟨cx,cp,bz,bt⟩:=T.at_;obtain⟨cy,c6,bA,bu⟩:=a0.at_;unfold maxLen at bz bA;obtain⟨y,J,rfl,-,br⟩:=bt (by omega);obtain⟨z,K,rfl,-,bs⟩:=bu (by omega);obtain⟨e,a2⟩: ∃e,D[i]? =some e:=⟨_,List.getElem?_eq_getElem hi⟩;obtain⟨L,a1⟩: ∃e,LL[i]? =some e:=⟨_,List.getElem?_eq_getElem (by rw [bx];exact hi)⟩;rw [n7 a2,ni a1]at a4⊢;obtain⟨r,s,q,b5,cN,bY⟩:=br i e a2;obtain⟨u,I,B,b6,b0⟩:=bs i L a1;have c9:(i:Int)<(G:Int):=by omega
 have dd:(i:Int)<(H:Int):=by omega
 obtain⟨w1,Q⟩: ∃w1,w1=(w.alloc (.cells #[.int .i64 own,.slice (some ⟨y,J,none⟩) G O,.slice (some ⟨z,K,none⟩) H P] 103)).alloc (.cells #[.slice none 0 0] 113):=⟨_,rfl⟩;have A:Below w.heap.size w w1:=by rw [Q];exact((Below.refl _ _).alloc (Zq _) _).alloc (by simp) _
 have al:Blk w1 w.heap.size 103 #[.int .i64 own,.slice (some ⟨y,J,none⟩) G O,.slice (some ⟨z,K,none⟩) H P]:=by rw [Q];exact(Blk.new _ _ _).alloc _
 have bg:Boxed w1 (w.heap.size+1) 113 (.slice none 0 0):=by rw [Q];have:=Boxed.new (w.alloc (.cells #[.int .i64 own,.slice (some ⟨y,J,none⟩) G O,.slice (some ⟨z,K,none⟩) H P] 103)) 113 (.slice none 0 0);rw [World.size_alloc]at this;exact this
 obtain⟨dS,d1,d2⟩:w1.cell? ⟨w.heap.size,0,none⟩=some (.int .i64 own)/\w1.cell? ⟨w.heap.size,1,none⟩=some (.slice (some ⟨y,J,none⟩) G O)/\w1.cell? ⟨w.heap.size,2,none⟩=some (.slice (some ⟨z,K,none⟩) H P):=⟨(al.cell 0).trans rfl,(al.cell 1).trans rfl,(al.cell 2).trans rfl⟩;have q:=ae A q;have b5:=ae A b5;have b6:=ae A b6;have b3:=(bY.below A ak);have bW:=(b0.below A ak);have bP:w1.heap.size=w.heap.size+1+1:=by rw [Q];simp
 clear T a0 bx cx cy bt bu br bs a2 a1 cN bY b0 al bz bA hi;obtain⟨ce,cd,an,cg,cf,ad,ap,bb⟩:=dA Q a4 A b3 bW bP ak bg;clear Q a4 A b3 bW bP ak bg;refine qS func138 rfl ?_;simp only [ntmps138,Zl,Zg,Zh,Nat.reduceAdd,Nat.reduceSub,Array.replicate_succ,Array.replicate_zero,List.push_toArray,List.append_toArray,Zk,List.cons_append]
 go_upto_region 2 with fail
 rw [<-ce.out];refine bX 13 (by kernel_rfl) (by kernel_rfl) ?_;simp only [Zo,Zp,Zc,Zd]
 repeat still_step
 refine wpStill_nil ?_
 go_wp2_with fail
 refine(pd own t r s _ _ _ _).mono ?_;rintro c4 w2 ⟨rfl,dr⟩
 go_wp2_with fail
 obtain⟨a,n⟩: ∃a,a=((((w1.alloc (.cells #[.int .i64 own] 3)).alloc (.cells #[r,s] 112)).alloc (.cells #[.slice u I B] 117)).alloc (.cells #[.int .i64 t] 3)).drew:=⟨_,rfl⟩;rw [<-n];have ai:Below w1.heap.size w1 a:=by rw [n];exact(((((Below.refl _ w1).alloc (Zq _) _).alloc (by simp) _).alloc (by simp;omega) _).alloc (by simp;omega) _).drew
 have bO:a.heap.size=w1.heap.size+1+1+1+1:=by rw [n];simp [World.drew]
 have o:=ab bO;clear bO;have cE:Blk a w1.heap.size 3 #[.int .i64 own]:=by rw [n];exact((((Blk.new _ _ _).alloc _).alloc _).alloc _).drew
 have cG:Blk a (w1.heap.size+1) 112 #[r,s]:=by
  rw [n];have:=(((Blk.new (w1.alloc (.cells #[.int .i64 own] 3)) 112 #[r,s]).alloc (.cells #[.slice u I B] 117)).alloc (.cells #[.int .i64 t] 3)).drew;simpa using this
 have cH:Blk a (w1.heap.size+1+1) 117 #[.slice u I B]:=by
  rw [n];have:=((Blk.new ((w1.alloc (.cells #[.int .i64 own] 3)).alloc (.cells #[r,s] 112)) 117 #[.slice u I B]).alloc (.cells #[.int .i64 t] 3)).drew;simpa using this
 have cI:Blk a (w1.heap.size+1+1+1) 3 #[.int .i64 t]:=by
  rw [n];have:=(Blk.new (((w1.alloc (.cells #[.int .i64 own] 3)).alloc (.cells #[r,s] 112)).alloc (.cells #[.slice u I B] 117)) 3 #[.int .i64 t]).drew;simpa using this
 have ch:Boxed a (w.heap.size+1) 113 (.slice none 0 0):=(ai.block _ bb.out.lt).trans bb.out;have be:=an.out.trans (ai.mono an.out.size);obtain⟨S,C⟩: ∃S:Nat->Prop,S=λb=>b<w.heap.size\/(w1.heap.size<=b/\b<a.heap.size):=⟨_,rfl⟩
 obtain⟨x,V⟩: ∃x:Nat->Prop,x=λd=>d=w.heap.size+1\/a.heap.size<=d:=⟨_,rfl⟩
 have cM:jb a S (w1.heap.size+1) (w1.heap.size+1+1+1) (w1.heap.size+1+1) w1.heap.size r s (.slice u I B) own t e.2 L:=by
  have X: ∀b,F b->b<w1.heap.size:=λb f=>Zs (ap.out b f) an.out.size
  refine⟨cG,cI,cH,cE,(Rd.below cg.out ai X).mono ?_,(cf.out.below ai X).mono ?_,?_⟩
  ·intro b f;rw [C];exact .inl (ap.out b f)
  ·intro b f;rw [C];exact .inl (ap.out b f)
  ·rw [C];exact⟨.inr (by have:=o.out;omega),.inr (by have:=o.out;omega),.inr (by have:=o.out;omega),.inr (by have:=o.out;omega)⟩
 have cl: ∀b,S b->b<a.heap.size:=λb f=>by
  rw [C]at f;rcases f with f|f
  ·have:=o.out;have:=ad.out;omega
  ·exact f.2
 have cm: ∀b,S b-> ¬x b:=λb f j=>by
  rw [C]at f;rw [V]at j;rcases f with f|f
  ·rcases j with j|j<;>(have:=o.out;have:=ad.out;omega)
  ·rcases j with j|j<;>(have:=o.out;have:=ad.out;omega)
 have ds:w.heap.size+2<=a.heap.size:=by have:=o.out;have:=ad.out;omega
 have bl:x (w.heap.size+1):=by rw [V];exact .inl rfl
 have bo: ∀d,a.heap.size<=d->x d:=λd W=>by rw [V];exact .inr W
 obtain⟨cC,hi,cs,ct,cu⟩:=info_parts infoAct;obtain⟨cT,c0,c1,b8,aS⟩:=aX C V n bl bo;clear C V n bl bo;refine wpIn_wide.1 (wpIn_rangeFunc_ownH (n:=5) (α:=Ac) rfl (by omega) (gf:=139) (lb:= #[.pointer (some ⟨w1.heap.size+1,0,none⟩),.pointer (some ⟨w1.heap.size+1+1+1,0,none⟩),.pointer (some ⟨w1.heap.size+1+1,0,none⟩),.pointer (some ⟨w1.heap.size,0,none⟩)]) rfl trivial (enters_of func139 (by kernel_rfl) rfl)
  (sE cM cl cm 4 (by omega)) (λh d=>h.trans' d) (λc bS dO cK X _ _ _=>pO cK (aS.out _ X)) (Below.refl _ _) (λ_=>rfl)
  (λg c=>(∃M,Boxed c (w.heap.size+1) 113 M/\c.ownsRow a.heap.size 46 2 M g.length (ar g)/\True)/\(Below w.heap.size w c/\a.heap.size<=c.heap.size))
  (λ_ _ _=>False)
  (OwnFrom.and (Own.from (holdsRow_own a.heap.size (w.heap.size+1) 113 46 2 (λg:List Ac=>g.length) (λg=>ar g) (λ_ _=>True)) _) (OwnFrom.and (ownFrom_below (Zq _) be.size) (λd3 ba bd b1 j a3 _=>Zr j a3.size)))
  (λ_ _ _ _ _ j _ _=>j)
  ⟨⟨_,ch,World.ownsRow_nil _ _ _ _,trivial⟩,be,Zq _⟩
  (λm aT c=> ∃v,a.heap.size<=v/\Blk c v 46 #[.int .i64 m.1,.int .i64 m.2]/\aT={tmps:= #[.agg #[.int .i64 own,.slice (some ⟨y,J,none⟩) G O,.slice (some ⟨z,K,none⟩) H P],.int .i64 (i:Int),.int .i64 t,.pointer (some ⟨w.heap.size,0,none⟩),undef,undef,.slice none 0 0,.pointer (some ⟨w.heap.size+1,0,none⟩),.pointer (some ⟨v,0,none⟩),.pointer (some ⟨w.heap.size,0,none⟩),.int .i64 own,.pointer (some ⟨w.heap.size,1,none⟩),.slice (some ⟨y,J,none⟩) G O,.int .i64 (i:Int),.pointer (some ⟨y,J+i * 2,none⟩),.agg #[r,s],.pointer (some ⟨w.heap.size,2,none⟩),.slice (some ⟨z,K,none⟩) H P,.int .i64 (i:Int),.pointer (some ⟨z,K+i,none⟩),.slice u I B,.int .i64 t,.func (.func 139) #[] #[.pointer (some ⟨w1.heap.size+1,0,none⟩),.pointer (some ⟨w1.heap.size+1+1+1,0,none⟩),.pointer (some ⟨w1.heap.size+1+1,0,none⟩),.pointer (some ⟨w1.heap.size,0,none⟩)],.agg #[.int .i64 m.1,.int .i64 m.2],undef,undef,undef,undef,undef],defers:=[]})
  (λm aT=>by
   rintro _ ba bd b1 ⟨v,ci,cj,ck⟩ a3 bE
   exact⟨v,ci,(EU v 46 (λ_:Unit=> #[.int .i64 m.1,.int .i64 m.2])).from a.heap.size () ba bd b1 cj a3 bE,ck⟩) ?assign ?body ?done ?stop)
 case assign=>
  rintro bS g m c cS ⟨⟨M,l,k,-⟩,p,E⟩ U
  gi_wp2_with fail
  exact U _ _ ((KeepsOthers.alloc _ _).from _) (dC ((Below.refl c.heap.size c).alloc (Zq _) _) (λd W=>aS.out d (Zr E W))) ⟨⟨M,l.alloc _,ah k ((Below.refl _ _).alloc (Zq _) _),trivial⟩,p.alloc p.size _,Zr E (by simp)⟩ ⟨c.heap.size,E,Blk.new _ _ _,rfl⟩
 case body=>
  rintro bS g m aT c X bE ⟨⟨M,l,k,-⟩,p,E⟩ ⟨v,c5,bR,rfl⟩ cw;obtain⟨Z,q⟩:=m;have c8:g.length<1000000:=Zs cw cd.out;have co:=l.cell;have dt:=(bR.cell 0).trans rfl;have dF:=(bR.cell 1).trans rfl;have bC: ∀a6 a8,[Value.int .i64 Z,.int .i64 q][a6]? =some a8->(c.alloc (.cells #[.int .i64 Z,.int .i64 q] 46)).cell? ((⟨c.heap.size,0,none⟩:Addr).add a6)=some a8:=λa6 a8 cA=>by
   rw [fJ,Nat.zero_add,(Blk.new c _ _).cell];simpa using cA
  have bG:=lP k (base':=w.heap.size) (λd e=>by have:=k.lt d e;omega);have bp:ar (g++[(Z,q)])=ar g++[.int .i64 Z,.int .i64 q]:=eD _ _;obtain⟨b9,cc,cb⟩:=aK bp bG bC;clear bp bG bC
  gi_wp2_with (gi_at_builtin;refine wpListIn_append_own _ rfl _ _ _ rfl a.heap.size 46 cC (.agg #[.int .i64 0,.int .i64 0]) 2 16 underlying113 hi cs ct cu rfl (by decide) M g.length (ar g) rfl (ah k ((Below.refl _ _).alloc (Zq _) _)) ⟨c.heap.size,0,none⟩ 1 1 [.int .i64 Z,.int .i64 q] rfl rfl cb.out (by simp [Value.oneCell']) (by unfold maxLen;omega) (by omega) (Zr E (by simp)) ?_;intro d4 w5 Y bw _;obtain⟨bi,bh,rfl⟩:=ownsRow_succ Y;obtain⟨a5,cB,dn,cv,cn⟩:=l.appended (by decide) cc.out p.size (by omega) (lP Y (base':=w.heap.size) (λd e=>by have:=Y.lt d e;omega)) bw;have cp:=a5.cell;have c7:=a5.frozen)
  have cz:=Y.kept (grownBy_setCell' w5 (w.heap.size+1) (.slice (some ⟨bi,0,none⟩) (g.length+1) bh)) (.inr (a5.not_row (by decide) Y).symm);have b2:aa x c (w5.setCell ⟨w.heap.size+1,0,none⟩ (.slice (some ⟨bi,0,none⟩) (g.length+1) bh)):=(((aa.refl x c).alloc _).grown bw (λd e _=>aS.out d (k.lt d e).1)).setCell (λ_=>b8.out) _;exact⟨cv.from _,b2,⟨⟨_,cB,by rw [b9.out,Zf];exact cz⟩,p.trans cn,Zr E b2.size⟩⟩
 case done=>
  rintro D d6 c T rfl ⟨⟨M,l,k,-⟩,p,E⟩ U;obtain⟨R,N,rfl,-,-⟩:=bH k;have co:=l.cell;have bB:Mk a.heap.size [mM D] c:=⟨[D],by simp,rfl,λcR h=>by rw [List.mem_singleton]at h;subst h;exact⟨T,U⟩⟩;obtain⟨ca,b7,bc,c2,cU⟩:=aX bB p k l U;clear bB p k l U
  go_wp2_with fail
  refine aY.of a.heap.size ca.out λd5 cr bq=> ?_
  go_ret
  exact⟨b7.out.trans (bq.mono (by omega)),R,N,rfl,((Rd.of_own bc.out).cw cr).mono (λd W=>by have:=bc.out.lt d W;have:=bq.size;omega)⟩
 case stop=>
  rintro D N g c _ _ h _;exact h.elim
end Go.Proofs.YthlbjgabhpdbfaaGreat
namespace Go.Proofs.YthlbjgabhpdbfaaGreat
open Go.Proofs.Tryz
open List renaming append_assoc->Za,append_nil->Zb,drop_succ_cons->Zc,drop_zero->Zd,filterMap_append->Ze,length_append->Zf,length_cons->Zg,length_nil->Zh,map_cons->Zi,mem_cons_of_mem->Zj,nil_append->Zk,size_toArray->Zl,take_add_one->Zm,take_of_length_le->Zn,take_succ_cons->Zo,take_zero->Zp
open Nat renaming le_refl->Zq,le_trans->Zr,lt_of_lt_of_le->Zs,mul_le_mul_right->Zt,zero_le->Zu
open Go.RowKit
attribute [local irreducible] wpStill aB aO
def eC (l:List Cla):List Value:=l.flatMap λx=>[.int .i64 x.1.1,.int .i64 x.1.2,.int .i64 x.2.1.1,.int .i64 x.2.1.2,.int .i64 x.2.2.1,.int .i64 x.2.2.2]
theorem xR (a b:List Cla):eC (a++b)=eC a++eC b:=by unfold eC;rw [List.flatMap_append]
theorem xQ {l:List Cla}: ∀b∈eC l,b.oneCell'=true:=by
 intro b a;unfold eC at a;obtain⟨c,-,h⟩:=List.mem_flatMap.1 a;simp at h;rcases h with rfl|rfl|rfl|rfl|rfl|rfl<;>rfl
theorem infoClash:(prog.info? 100).map (λa=>(a.zero,a.size,a.bytes))=some (some (.agg #[.int .i64 0,.int .i64 0,.int .i64 0,.int .i64 0,.int .i64 0,.int .i64 0]),6,48):=by kernel_rfl
theorem elemClash:dZ prog 28 100 (.agg #[.int .i64 0,.int .i64 0,.int .i64 0,.int .i64 0,.int .i64 0,.int .i64 0]) 6 48:=⟨underlying28,infoClash,rfl,by decide⟩
structure ke (D:aP) (LL:List (List Lk)) (T:Nat):Prop where
 n:D.length<=2000
 len:LL.length=D.length
 tr: ∀(i:Nat) e,D[i]? =some e->e.2.length<=240
 lk: ∀(i:Nat) L,LL[i]? =some L->L.length<=301
 t:T<=120
theorem Dp {own t:Int} {tr:List It} {L:List Lk}:(dy own tr L t).length<=tr.length+2 * L.length:=by
 unfold dy;rw [Zf,Zf];have a:=List.length_filterMap_le (p1A t) tr;have b:=List.length_filterMap_le (p2A own t) L;have c:=List.length_filterMap_le (p3A own t) L;omega
theorem xi (i t:Int) (a:List Ac):(i4 i t a).length=a.length - 1:=by unfold i4;simp
theorem ke.poss {D:aP} {LL:List (List Lk)} {T:Nat} (h:ke D LL T) (own t:Int) {i:Nat} (hi:i<D.length):(dy own (trD D i) (lkD LL i) t).length<=842:=by
 obtain⟨e,b⟩: ∃e,D[i]? =some e:=⟨_,List.getElem?_eq_getElem hi⟩;obtain⟨L,a⟩: ∃e,LL[i]? =some e:=⟨_,List.getElem?_eq_getElem (by rw [h.len];exact hi)⟩;rw [n7 b,ni a];have c:=h.tr i e b;have d:=h.lk i L a;have f:=Dp (own:=own) (t:=t) (tr:=e.2) (L:=L);omega
theorem pH {own:Int} {tr:List It} {L:List Lk} {i:Nat} (a: ∀t:Int,(dy own tr L t).length<=842): ∀m,(jl own tr L i m).length<=m * 842
 |0=>by unfold jl;simp
 |m+1=>by
  rw [tf,Zf,xi];have:=pH a m (i:=i);have:=a (m:Int);omega
theorem zf {own:Int} {D:aP} {LL:List (List Lk)} {T m:Nat} (h:ke D LL T) (hm:m<=121): ∀i,i<=D.length->(kq own D LL m i).length<=i * (121 * 842)
 |0,_=>by unfold kq;simp
 |i+1,hi=>by
  rw [vh,Zf];have a:=zf (own:=own) h hm i (by omega);have b:=pH (own:=own) (tr:=trD D i) (L:=lkD LL i) (i:=i) (λt=>h.poss own t (by omega)) m;have c:m * 842<=121 * 842:=Zt _ hm;omega
theorem DR {i t:Int} {a:List Ac} {k:Nat} {x y:Ac} (b:a[0]? =some x) (h:a[k+1]? =some y):(i4 i t a).take (k+1)=(i4 i t a).take k++[((i,t),(x,y))]:=by
 have c:(i4 i t a)[k]? =some ((i,t),(x,y)):=by
  cases a with
  |nil=>cases b
  |cons e d=>
   injection b with b
   subst b;unfold i4;rw [List.getElem?_map];have:d[k]? =some y:=h;simp [this]
 rw [Zm,c];rfl
def F4 (w:World) (l:List Cla) (e:Ending) (w':World):Prop:=Below w.heap.size w w'/\ ∃A c,e= .returned (.slice A l.length c)/\Rd w' (λb=>w.heap.size<=b/\b<w'.heap.size) (.slice A l.length c) 6 (eC l)
theorem yw {base n c e size:Nat} {A:Option Addr} {xs:List Value} {w w2 w3:World} (f:w.ownsRow base e size (.slice A n c) n xs) (d:base<=w.heap.size) (b:Below w.heap.size w w2) (g:w2.grownBy w3 (Value.slice A n c).ownBlock):Below base w w3/\aa (λa=>(Value.slice A n c).ownBlock=some a) w2 w3:=by
 have t:aa (λa=>(Value.slice A n c).ownBlock=some a) w2 w3:=(aa.refl _ _).grown g (λa e _=>e);exact⟨t.toBelow (λa e=>(f.lt a e).1) (b.mono d) (Zr d b.size),t⟩
theorem xV {w:World} {F:Nat->Prop} {cv bO:Value} {D:aP} {LL:List (List Lk)} (B:dG w F cv D) (aS:eF w F bO LL) (an: ∀d,F d->d<w.heap.size) (own:Int) {T:Nat} (G:ke D LL T):
  Calls prog 71 #[.agg #[.int .i64 own,cv,bO],.int .i64 (T:Int)] w (F4 w (kq own D LL (T+1) D.length)):=by
 obtain⟨a7,r,bd,rfl⟩:=oE B;obtain⟨a8,bB,be,rfl⟩: ∃f U g,bO= .slice f U g:=by
  obtain⟨dF,-,⟨f,U,g,dd,-⟩,-⟩:=aS;exact⟨f,U,g,dd⟩
 obtain⟨br,d6,c7,-⟩:=B.at_;obtain⟨c9,c1,ce,-⟩:=aS.at_;unfold maxLen at c7 ce;have hT:=G.t;have c8:=G.n;rw [<-br]at c8;obtain⟨w1,a3⟩: ∃w1,w1=w.alloc (.cells #[.int .i64 own,.slice a7 r bd,.slice a8 bB be] 103):=⟨_,rfl⟩;have P:Below w.heap.size w w1:=by rw [a3];exact(Below.refl _ _).alloc (Zq _) _
 have a4:Blk w1 w.heap.size 103 #[.int .i64 own,.slice a7 r bd,.slice a8 bB be]:=by rw [a3];exact Blk.new _ _ _
 have R:=B.below P an;have cb:=aS.below P an;have ap: ∀d,F d->d<w1.heap.size:=λd q=>Zs (an d q) P.size
 have b7:=λwr (d:Below w1.heap.size w1 wr) (a t:Nat) (hi:a<D.length)=>EX (R.below d ap) (cb.below d ap) G.len (λj S=>Zs (ap j S) d.size) own (t:Int) hi (Zr (G.poss own (t:Int) hi) (by decide))
 obtain⟨I,J,K⟩:w1.cell? ⟨w.heap.size,0,none⟩=some (.int .i64 own)/\w1.cell? ⟨w.heap.size,1,none⟩=some (.slice a7 r bd)/\w1.cell? ⟨w.heap.size,2,none⟩=some (.slice a8 bB be):=⟨(a4.cell 0).trans rfl,(a4.cell 1).trans rfl,(a4.cell 2).trans rfl⟩;clear B aS an a4 R cb ap c9 c1 ce;obtain⟨o,R⟩: ∃j,j=w1.heap.size:=⟨_,rfl⟩;obtain⟨a9,N,cz,cA,M⟩:=aX G br P b7 R;clear G br P b7 R
 go_enter func71,ntmps71
 go_wp2_with fail
 rw [<-a3];clear a3
 go_loopw [5,13] (λV bz wr=> ∃(a:Nat) (f:Option Addr) (c g:Nat),a<=r/\bz= .int .i64 (a:Int)/\V= .slice f c g/\c=(kq own D LL (T+1) a).length/\wr.ownsRow o 100 6 (.slice f c g) c (eC (kq own D LL (T+1) a))/\Below o w1 wr) (λ_ bz _=>r - (intOf bz).toNat)
 case atStart=>exact⟨0,none,0,0,Zu _,rfl,rfl,rfl,World.ownsRow_nil _ _ _ _,Below.refl _ _⟩
 case round=>
  obtain⟨a,f,c,g,hi,rfl,rfl,hm,i,le⟩:=hrel;have n:Below w1.heap.size w1 wr:=by rw [<-M.out];exact le
  have I:=ae n I;have J:=ae n J;have K:=ae n K;by_cases bq:a<r
  ·have c5:(a:Int)<(r:Int):=by omega
   have d3:IntKind.i64.wrap ((T:Int)+1)=(T:Int)+1:=by rw [IntKind.wrap_i64];omega
   obtain⟨A,bi⟩: ∃j,j=kq own D LL (T+1) a:=⟨_,rfl⟩;have bl:=zf (own:=own) (T:=T) (m:=T+1) a9.out (by omega) a (by have:=N.out;omega);rw [<-bi]at hm i bl;have cl:jl own (trD D a) (lkD LL a) a 0=[]:=rfl;have d4:a * (121 * 842)<=2000 * (121 * 842):=Zt _ (by omega);clear I J K;obtain⟨l,k,p,O,cE,cG,bb⟩:=de hm i le n bi bl cl;clear hm i le n bi bl cl
   go_wp2_with fail
   go_loopw [5,18] (λV bG wr=> ∃(t:Nat) (f:Option Addr) (c g:Nat),t<=T+1/\bG= .int .i64 (t:Int)/\V= .slice f c g/\c=(A++jl own (trD D a) (lkD LL a) a t).length/\wr.ownsRow o 100 6 (.slice f c g) c (eC (A++jl own (trD D a) (lkD LL a) a t))/\Below o w1 wr) (λ_ bG _=>T+1 - (intOf bG).toNat)
   case atStart=>exact⟨0,f,c,g,Zu _,rfl,rfl,by rw [bb.out,Zb];exact l.out,by rw [bb.out,Zb];exact k.out,p.out⟩
   case round=>
    clear l k p O bb;obtain⟨t,f,c,g,eg,rfl,rfl,hm,i,le⟩:=hrel;have n:Below w1.heap.size w1 wr:=(by rw [<-M.out];exact le);have I:=ae n I;have J:=ae n J;have K:=ae n K;by_cases ec:t<T+1
    ·have c6:(t:Int)<(T:Int)+1:=(by omega);have bg:=cA.out wr n a t (by rw [<-N.out];exact bq);have ck:=a9.out.poss own (t:Int) (i:=a) (by rw [<-N.out];exact bq);have bt:=pH (own:=own) (tr:=trD D a) (L:=lkD LL a) (i:=a) (λt=>a9.out.poss own t (by rw [<-N.out];exact bq)) t;have bs:=tf own (trD D a) (lkD LL a) a t;obtain⟨m,a0⟩: ∃j,j=dy own (trD D a) (lkD LL a) (t:Int):=⟨_,rfl⟩;obtain⟨X,a2⟩: ∃j,j=jl own (trD D a) (lkD LL a) a t:=⟨_,rfl⟩;rw [<-a0,<-a2]at bs;rw [<-a0]at bg ck;rw [<-a2]at hm i bt;obtain⟨bR,l,k,p,O,cI,ds,dt,cM⟩:=dQ bg hm i le n bs a0 a2 bt;clear bg hm i le n bs a0 a2 bt
     go_wp2_with fail
     refine bR.out.mono ?_;rintro e w2 ⟨al,cx,b8,rfl,W⟩;have cp:=ah k.out al;have a5:=O.out.trans (al.mono O.out.size);have cn:Below o w1 w2:=(by rw [M.out];exact a5);have dn:=al.size;have H: ∀b,(Value.slice f c g).ownBlock=some b->b<wr.heap.size\/w2.heap.size<=b:=λb e=> .inl (k.out.lt b e).2
     obtain⟨a6,cm⟩: ∃j,j=wr.heap.size:=⟨_,rfl⟩;rw [<-cm]at W H dn;obtain⟨s,a1⟩: ∃U,U=m.length:=⟨_,rfl⟩;rw [<-a1]at W ck;obtain⟨-,ed,ee,-⟩:=aH.at_ W;rw [<-a1];clear al bR k p O I J K cm;have d5:i4 (a:Int) (t:Int) m=i4 (a:Int) (t:Int) m:=rfl;obtain⟨b1,b0,b3,ba,E⟩:=aX cp cn W a1 H;clear cp cn W a1 H
     go_wp2_with fail
     go_loopw [5,9] (λV bA wr=> ∃(b:Nat) (f:Option Addr) (c g:Nat),b<=s - 1/\bA= .int .i64 ((b:Int)+1)/\V= .slice f c g/\c=(A++X++(i4 (a:Int) (t:Int) m).take b).length/\wr.ownsRow o 100 6 (.slice f c g) c (eC (A++X++(i4 (a:Int) (t:Int) m).take b))/\Below o w1 wr/\aH wr (λd=>a6<=d/\d<w2.heap.size) (.slice cx s b8) m/\w2.heap.size<=wr.heap.size/\ ∀b,(Value.slice f c g).ownBlock=some b->b<a6\/w2.heap.size<=b) (λ_ bA _=>s - (intOf bA).toNat)
     case atStart=>exact⟨0,f,c,g,Zu _,rfl,rfl,by rw [Zp,Zb];exact l.out,by rw [Zp,Zb];exact b1.out,b0.out,b3.out,Zq _,E.out⟩
     case round=>
      clear l b1 b0 b3 E;obtain⟨b,f,c,g,cd,rfl,rfl,hm,i,le,bE,bx,H⟩:=hrel;by_cases eb:b+1<s
      ·have c4:(b:Int)+1<(s:Int):=(by omega);obtain⟨j,S⟩: ∃j,m[0]? =some j:=⟨_,List.getElem?_eq_getElem (by rw [<-ba.out];omega)⟩;obtain⟨cw,bw⟩: ∃j,m[b+1]? =some j:=⟨_,List.getElem?_eq_getElem (by rw [<-ba.out];omega)⟩;obtain⟨-,-,-,cc⟩:=aH.at_ bE;obtain⟨Q,C,rfl,-,bo⟩:=cc (by omega);obtain⟨Y,Z⟩:=bo 0 j S;obtain⟨y0,ad⟩:=bo (b+1) cw bw;have bu:=DR (i:=(a:Int)) (t:=(t:Int)) S bw;have cg:c<=2000 * (121 * 842)+121 * 842+842:=by
        have cT:=cG.out;have cU:=cM.out;have c0:t * 842<=121 * 842:=Zt _ (by omega);have d2:((i4 (a:Int) (t:Int) m).take b).length<=b:=List.length_take_le _ _;rw [hm,Zf,Zf];omega
       obtain⟨u,v⟩:=j;obtain⟨x,y⟩:=cw;simp only at Y Z y0 ad;rw [show C+0 * 2=C from by omega]at Y Z;rw [show((b+1:Nat)) * 2=(b+1) * 2 from rfl]at y0 ad;clear bo;have z:Below wr.drew.heap.size wr.drew (wr.drew.alloc (.cells #[.int .i64 (a:Int),.int .i64 (t:Int),.int .i64 u,.int .i64 v,.int .i64 x,.int .i64 y] 100)):=(Below.refl _ _).alloc (Zq _) _;have cr:=ah (show wr.drew.ownsRow o 100 6 (.slice f c g) c _ from i) z;have ct:Rd (wr.drew.alloc (.cells #[.int .i64 (a:Int),.int .i64 (t:Int),.int .i64 u,.int .i64 v,.int .i64 x,.int .i64 y] 100)) (λ_=>True) (.slice (some ⟨wr.drew.heap.size,0,none⟩) 1 1) 6 (eC [(((a:Int),(t:Int)),((u,v),(x,y)))]):=Rd.one (w:=wr.drew) (e:=100) (eC [(((a:Int),(t:Int)),((u,v),(x,y)))]) 6 rfl;have d1:(0:Int)<(s:Int):=(by omega);have dS:0<s:=(by omega);have dO:(0:Int)<=(b:Int)+1:=(by omega);have ea:((b:Int)+1).toNat=b+1:=(by omega);have bh:o<=wr.heap.size:=(by have:=le.size;have:=M.out;omega);have c2:=λcy (d:Below wr.drew.heap.size wr.drew cy)=>d
       have ca:o<=(wr.drew.alloc (.cells #[.int .i64 (a:Int),.int .i64 (t:Int),.int .i64 u,.int .i64 v,.int .i64 x,.int .i64 y] 100)).heap.size:=Zr bh z.size;have cj:=xQ (l:=[(((a:Int),(t:Int)),((u,v),(x,y)))]);have bp:=xR (A++X++(i4 (a:Int) (t:Int) m).take b) [(((a:Int),(t:Int)),((u,v),(x,y)))];rw [Za (A++X),<-bu]at bp;have aT:=(⟨ae z (show wr.drew.cell? _=_ from Y),ae z (show wr.drew.cell? _=_ from Z),ae z (show wr.drew.cell? _=_ from y0),ae z (show wr.drew.cell? _=_ from ad)⟩:_/\_/\_/\_);clear S bw cc c2;have aT:=aT;obtain⟨l,k,p,b4,E,cN,ak,b2,b5,bY,bS,bW⟩:=gx hm i le bE H bu z cr ct cj bp cg;clear hm i le bE H bu z cr ct cj bp cg
       go_wp2_with fail
       refine cQ (λai=>ai.cell? ⟨Q,C,none⟩=some (.int .i64 u)/\ai.cell? ⟨Q,C+1,none⟩=some (.int .i64 v)/\ai.cell? ⟨Q,C+(b+1) * 2,none⟩=some (.int .i64 x)/\ai.cell? ⟨Q,C+(b+1) * 2+1,none⟩=some (.int .i64 y)) 11 12 (by kernel_rfl) (by kernel_rfl) ⟨Y,Z,y0,ad⟩ ?_;simp only [Zo,Zp,Zc,Zd]
       iterate 11
        refine bI ?_ (by rfl) (λwS hwS=> ?_) ?_
        rotate_left
        ·(try dsimp only at hwS)
         go_simp
         all_goals with_reducible rfl
        simp only [Act.put,List.setIfInBounds_toArray,List.set_cons_zero,List.set_cons_succ]
       refine bU ?_;refine ay ?_
       go_wp2_with fail
       refine⟨aT,cX ?_⟩;clear aT
       go_wp2_with (at_builtin;refine aJ _ rfl (.tmp 31) (.tmp 42) _ rfl elemClash o (.slice f c g) c _ rfl b2.out _ _ (eC [(((a:Int),(t:Int)),((u,v),(x,y)))]) 1 rfl rfl b5.out bY.out (by unfold maxLen;have:=bW.out;omega) (by have:=bW.out;omega) ca ?_)
       intro bP b6 w4 bC b9 ch;obtain⟨bc,cu⟩:=yw (w:=wr.drew) k.out bh ak.out b9;have co:=p.out.drew.trans bc;have cs:aH w4 (λd=>a6<=d/\d<w2.heap.size) (.slice (some ⟨Q,C,none⟩) s b8) m:=(Rd.below (w:=wr) b4.out (B:=w2.heap.size) (((Below.refl wr.heap.size wr).drew.trans ak.out).mono bx) (λd q=>q.2)).touch cu (λd q e=>by rcases E.out d e with h|h<;>omega);have dr:w2.heap.size<=w4.heap.size:=Zr bx bc.size;have ci: ∀b,(Value.slice bP (c+1) b6).ownBlock=some b->b<a6\/w2.heap.size<=b:=λb e=>by
        rcases ch with h|h
        ·exact E.out b (h▸e)
        ·rw [h]at e;injection e with e
         have:=ak.out.size;right;rw [<-e];exact Zr bx (Nat.le_succ _)
       rw [<-Za A,<-bS.out]at bC;have cf:c+1=(A++X++(i4 (a:Int) (t:Int) m).take (b+1)).length:=(by rw [cN.out,<-Za,Zf,<-l.out];rfl);clear k p b4 E ak b2 b5 bY bS bc cu b9 ch l bh ca Y Z y0 ad;obtain⟨cR,cP,cS,cK,cH⟩:=aX bC co cs ci cf;clear bC co cs ci cf
       go_wp2_with fail
       refine NoPanic.normal ?_
       go_wp2_with fail
       go_roundw
       case rel=>exact⟨b+1,bP,c+1,b6,by omega,by go_num,rfl,cH.out,cR.out,cP.out,cS.out,dr,cK.out⟩
       case measure=>simp [intOf];omega
      ·have c4: ¬(b:Int)+1<(s:Int):=(by omega);have c3:(i4 (a:Int) (t:Int) m).take b=i4 (a:Int) (t:Int) m:=Zn (by rw [xi];have:=ba.out;omega);rw [c3,Za,<-cI.out]at hm i;obtain⟨l,k,p⟩:=aK hm i le;clear hm i le
       go_wp2_with fail
       go_roundw
       case rel=>exact⟨t+1,f,c,g,by omega,by go_num,rfl,l.out,k.out,p.out⟩
       case measure=>simp [intOf];omega
    ·have c6: ¬(t:Int)<(T:Int)+1:=(by omega);obtain rfl:t=T+1:=(by omega);rw [cE.out,<-vh]at hm i;obtain⟨l,k,p⟩:=aK hm i le;clear hm i le
     go_wp2_with fail
     go_roundw
     case rel=>exact⟨a+1,f,c,g,by omega,by go_num,rfl,l.out,k.out,p.out⟩
     case measure=>simp [intOf];omega
  ·have c5: ¬(a:Int)<(r:Int):=by omega
   obtain rfl:a=r:=by omega
   rw [N.out]at hm i;have q:=cz.out;have B:=M.out;have a5:=q.trans (n.mono q.size);obtain⟨l,k,cO,cB,cC⟩:=aX hm i a5 B q;clear hm i a5 B q
   go_wp2_with fail
   go_ret
   refine⟨cO.out,f,g,by rw [l.out];rfl,?_⟩;have:=(Rd.of_own k.out).mono (F':=λd=>w.heap.size<=d/\d<wr.heap.size) (λb cd=>by have cT:=k.out.lt b cd;have cU:=cB.out;have c0:=cC.out.size;omega);rw [l.out]at this;exact this
end Go.Proofs.YthlbjgabhpdbfaaGreat

/- Packed tables, the reference: opened. -/
import Derived.Test.YtlpipniclimgeaaGreatDTabs12
import Derived.Test.YtlpipniclimgeaaGreatDPack7
import Derived.Test.YtlpipniclimgeaaGreatDItem8
import Derived.Test.YtlpipniclimgeaaGreatDPack5
namespace Go.Proofs.YtlpipniclimgeaaGreat
set_option linter.unusedVariables false
set_option linter.unusedSimpArgs false
open Go.RowKit
attribute [local irreducible] wpStill wpOne wpPh
structure Pr {X Y:Type} (tA tG:TypeId) (EA:World->(Nat->Prop)->Value->X->Prop) (EG:World->(Nat->Prop)->Value->Y->Prop) (loA loG:Nat->Prop) (D:Nat) (w:World) (Ax:Option Addr) (na ca:Nat) (Ag:Option Addr) (ng cg:Nat) (LA:List X) (LG:List Y):Prop where
 a:RM tA 1 (fun _=>[]) EA loA D w Ax na ca LA
 g:RM tG 1 (fun _=>[]) EG loG D w Ag ng cg LG
 lA: ∀b,loA b->D<=b/\b<w.heap.size/\(Value.slice Ax na ca).ownBlock≠some b/\(Value.slice Ag ng cg).ownBlock≠some b
 lG: ∀b,loG b->D<=b/\b<w.heap.size/\(Value.slice Ax na ca).ownBlock≠some b/\(Value.slice Ag ng cg).ownBlock≠some b
 ne: ∀b,(Value.slice Ax na ca).ownBlock=some b->(Value.slice Ag ng cg).ownBlock≠some b
section
variable {X Y : Type} {tA tG : TypeId} {EA : World -> (Nat -> Prop) -> Value -> X -> Prop} {EG : World -> (Nat -> Prop) -> Value -> Y -> Prop} {loA loG Fa : Nat -> Prop} {D na ca ng cg ca' : Nat} {wd u w1 : World} {Ax Ag A' : Option Addr} {LA : List X} {LG : List Y} {za : Value} {xa : X} {ZA : List Value}
theorem Pr.swap (h:Pr tA tG EA EG loA loG D wd Ax na ca Ag ng cg LA LG):Pr tG tA EG EA loG loA D wd Ag ng cg Ax na ca LG LA:=
 ⟨h.g,h.a,fun b q=>let k:=h.lG b q;⟨k.1,k.2.1,k.2.2.2,k.2.2.1⟩,fun b q=>let k:=h.lA b q;⟨k.1,k.2.1,k.2.2.2,k.2.2.1⟩,fun b e e'=>h.ne b e' e⟩
theorem Pr.touch (hA:Hands EA) (hG:Hands EG) (h:Pr tA tG EA EG loA loG D wd Ax na ca Ag ng cg LA LG) {S:Nat->Prop} (t:Touch S wd u) (hS: ∀b,D<=b->b<wd.heap.size-> ¬S b):Pr tA tG EA EG loA loG D u Ax na ca Ag ng cg LA LG:=
 ⟨h.a.touch hA t (fun b e=>hS b (h.a.block b e).1 (h.a.block b e).2) (fun b hb _=>hS b (h.lA b hb).1 (h.lA b hb).2.1),h.g.touch hG t (fun b e=>hS b (h.g.block b e).1 (h.g.block b e).2) (fun b hb _=>hS b (h.lG b hb).1 (h.lG b hb).2.1),
  fun q hq=>let k:=h.lA q hq;⟨k.1,Nat.lt_of_lt_of_le k.2.1 t.size,k.2.2⟩,fun q hq=>let k:=h.lG q hq;⟨k.1,Nat.lt_of_lt_of_le k.2.1 t.size,k.2.2⟩,h.ne⟩
theorem Pr.push (hA:Hands EA) (hG:Hands EG) (h:Pr tA tG EA EG loA loG D wd Ax na ca Ag ng cg LA LG) (hD:D<=wd.heap.size)
  (a1:ZA.length=LA.length) (a2:wd.ownsRow D tA 1 (.slice Ax na ca) na (rmCells (fun _=>[]) LA ZA)) (a3: ∀(j:Nat) z x,ZA[j]? =some z->LA[j]? =some x->EA wd (fun b=>loA b/\b<wd.heap.size/\(Value.slice Ax na ca).ownBlock≠some b) z x)
  (hrb: ∀b,Fa b->D<=b/\b<wd.heap.size/\(Value.slice Ax na ca).ownBlock≠some b/\(Value.slice Ag ng cg).ownBlock≠some b) (ra:EA wd Fa za xa)
  (b1:Below wd.heap.size wd u) (o1:w1.ownsRow D tA 1 (.slice A' (na+1) ca') (na+1) (rmCells (fun _=>[]) LA ZA++[za])) (r1:u.grownBy w1 (Value.slice Ax na ca).ownBlock) (h1:(Value.slice A' (na+1) ca').ownBlock=(Value.slice Ax na ca).ownBlock\/(Value.slice A' (na+1) ca').ownBlock=some u.heap.size):
  Pr tA tG EA EG (fun b=>loA b\/Fa b) loG D w1 A' (na+1) ca' Ag ng cg (LA++[xa]) LG/\Touch (fun k=>(Value.slice Ax na ca).ownBlock=some k) u w1:=by
 have hoG:=h.g.block
 have t1:Touch (fun k=>(Value.slice Ax na ca).ownBlock=some k) u w1:=(Touch.refl _ _).grown r1 (fun k e _=>e)
 have s1:=b1.size
 have s2:=t1.size
 have ra':EA wd (fun b=>(loA b\/Fa b)/\b<wd.heap.size/\(Value.slice Ax na ca).ownBlock≠some b) za xa:=hA.mono ra fun b hb=>⟨.inr hb,(hrb b hb).2.1,(hrb b hb).2.2.1⟩
 obtain⟨p1,-,-⟩:=RM.push (pre:=fun _:X=>[]) (lo:=fun b=>loA b\/Fa b) (w1:=wd) hA h.a.hn a1 a2 (fun j z x hz hx=>hA.mono (a3 j z x hz hx) fun b hb=>⟨.inl hb.1,hb.2⟩) hD ra' (Below.refl _ _) b1 o1 r1 h1
 have gg1:=(h.g.below hG b1).touch hG t1 (fun b e e'=>h.ne b e' e) (fun b hb _ e=>(h.lG b hb).2.2.1 e)
 have hA': ∀b,(Value.slice A' (na+1) ca').ownBlock=some b->(Value.slice Ax na ca).ownBlock=some b\/(b=u.heap.size/\b<w1.heap.size):=fun b e=>by
  rcases h1 with hh|hh
  ·exact .inl (hh▸e)
  ·have:=o1.lt b e
   rw [hh]at e;injection e with e;exact .inr ⟨e.symm,this.2⟩
 have cA: ∀b,D<=b/\b<wd.heap.size/\(Value.slice Ax na ca).ownBlock≠some b/\(Value.slice Ag ng cg).ownBlock≠some b->D<=b/\b<w1.heap.size/\(Value.slice A' (na+1) ca').ownBlock≠some b/\(Value.slice Ag ng cg).ownBlock≠some b:=fun b hb=>by
  refine⟨hb.1,by omega,fun e=> ?_,hb.2.2.2⟩
  rcases hA' b e with hh|hh
  ·exact hb.2.2.1 hh
  ·omega
 refine⟨⟨p1,gg1,fun b hb=>cA b ?_,fun b hb=>cA b (h.lG b hb),fun b e e'=> ?_⟩,t1⟩
 ·rcases hb with hb|hb
  ·exact h.lA b hb
  ·exact hrb b hb
 ·rcases hA' b e with hh|hh
  ·exact h.ne b hh e'
  ·have:=hoG b e';omega
end
set_option maxRecDepth 100000 in
set_option maxHeartbeats 8000000 in
theorem ref17_open {w:World} {F:Nat->Prop} {v1 v2 v3 v4 v5:Value} {p:PackD} (h:IsPack w F v1 v2 v3 v4 v5 p) (hl:LenP p):
  Calls Tryz.prog 48 #[PV v1 p.terms p.nons v2 v3 v4 v5] w (OpenPost w F p):=by
 obtain⟨A1,c1,A2,c2,A3,c3,A4,c4,A5,c5,rfl,rfl,rfl,rfl,rfl,k1,k2,k3,k4,k5⟩:=h.slices
 have hF:=h.lt
 obtain⟨w1,hw1⟩: ∃q,q=w.alloc (.cells #[.slice A1 p.rules.length c1,.int .i64 p.terms,.int .i64 p.nons,.slice A2 p.row.length c2,.slice A3 p.rows.length c3,.slice A4 p.gow.length c4,.slice A5 p.gows.length c5] 26):=⟨_,rfl⟩
 have g1:=PBox.new h p.terms p.nons
 rw [<-hw1]at g1
 have b1:Below w.heap.size w w1:=by rw [hw1];exact(Below.refl _ w).alloc (Nat.le_refl _) _
 have hz1:w1.heap.size=w.heap.size+1:=by rw [hw1];simp
 obtain⟨w2,hw2⟩: ∃q,q=w1.alloc (.cells #[.slice none 0 0,.int .i64 0,.int .i64 0,.slice none 0 0,.slice none 0 0] 44):=⟨_,rfl⟩
 have b2:Below w1.heap.size w1 w2:=by rw [hw2];exact(Below.refl _ _).alloc (Nat.le_refl _) _
 have kr2:Blk w2 w1.heap.size 44 #[.slice none 0 0,.int .i64 0,.int .i64 0,.slice none 0 0,.slice none 0 0]:=by rw [hw2];exact Blk.new _ _ _
 rw [hz1]at kr2
 have hz2:w2.heap.size=w.heap.size+2:=by rw [hw2,World.size_alloc,hz1]
 obtain⟨w4,hw4⟩: ∃q,q=w2.alloc (.cells #[.slice A1 p.rules.length c1,.int .i64 p.terms,.int .i64 p.nons,.slice none 0 0,.slice none 0 0] 44):=⟨_,rfl⟩
 have b4:Below w2.heap.size w2 w4:=by rw [hw4];exact(Below.refl _ _).alloc (Nat.le_refl _) _
 have kT:Blk w4 w2.heap.size 44 #[.slice A1 p.rules.length c1,.int .i64 p.terms,.int .i64 p.nons,.slice none 0 0,.slice none 0 0]:=by rw [hw4];exact Blk.new _ _ _
 rw [hz2]at kT
 have hz4:w4.heap.size=w.heap.size+3:=by rw [hw4,World.size_alloc,hz2]
 have g2:=g1.below b2
 have g4:=g2.below b4
 have kr4:=kr2.below b4 kr2.lt
 have bb4:=(b1.trans (b2.mono b1.size)).trans (b4.mono (Nat.le_trans b1.size b2.size))
 have hRP:rowsP p=(decide (p.row.length=p.gow.length)&&(p.row.all (inR p.rows.length)&&p.gow.all (inR p.gows.length))):=rfl
 have htn:=h.tn
 have hwr:=h.wr
 obtain⟨q0,q1,q2,q3,q4,q5,q6⟩:=g4.cells
 obtain⟨s0,s1,s2,s3,s4,s5,s6⟩:=g2.cells
 generalize hT:p.terms=T at *
 generalize hN:p.nons=N at *
 generalize hn1:p.rules.length=n1 at *
 generalize hn2:p.row.length=n2 at *
 generalize hn3:p.rows.length=n3 at *
 generalize hn4:p.gow.length=n4 at *
 generalize hn5:p.gows.length=n5 at *
 obtain⟨k11,k12⟩:=k1
 obtain⟨k21,k22⟩:=k2
 obtain⟨k31,k32⟩:=k3
 obtain⟨k41,k42⟩:=k4
 obtain⟨k51,k52⟩:=k5
 have d0:=(kr4.cell 0).trans rfl
 have d1:=(kr4.cell 1).trans rfl
 have d2:=(kr4.cell 2).trans rfl
 have d3:=(kr4.cell 3).trans rfl
 have d4:=(kr4.cell 4).trans rfl
 have f0:=kr4.frozen 0
 have f1:=kr4.frozen 1
 have f2:=kr4.frozen 2
 have f3:=kr4.frozen 3
 have f4:=kr4.frozen 4
 rw [hw2,hw1]at hw4
 rw [hw2,hw1]at s0 s1 s2 s3 s4 s5 s6
 rw [hw4]at q0 q1 q2 q3 q4 q5 q6 d0 d1 d2 d3 d4 f0 f1 f2 f3 f4
 clear h g1 g2 b1 b2 b4 kr2 hz1 hz2 hw1 hw2
 by_cases hnn:n2=n4
 ·subst hnn
  have hnn':((n2:Int) !=(n2:Int))=false:=by simp
  clear d0 d1 d2 d3 d4 f0 f1 f2 f3 f4
  obtain⟨Xhl,XhF,Xg4,XkT,Xkr4,Xbb4,XhRP,XhT,XhN,Xhn1,Xhn2,Xhn3,Xhn4,Xhn5⟩:=HqZ14 hl hF g4 kT kr4 bb4 hRP hT hN hn1 hn2 hn3 hn4 hn5;obtain⟨Xhtn,Xhwr,Xhz4⟩:=HqZ3 htn hwr hz4;clear hl hF g4 kT kr4 bb4 hRP hT hN hn1 hn2 hn3 hn4 hn5 htn hwr hz4
  go_enter Tryz.func48,Tryz.ntmps48
  go_wp2_with fail
  rw [<-hw4]
  obtain⟨Bt,hBt⟩: ∃q,q=w.heap.size+1+1:=⟨_,rfl⟩
  obtain⟨D2,hD2⟩: ∃q,q=w4.heap.size:=⟨_,rfl⟩
  have hBtD:Bt<D2:=by rw [hD2,Xhz4.out,hBt];omega
  have hwB:w.heap.size+1<Bt:=by omega
  have kT0:Blk w4 Bt 44 #[.slice A1 n1 c1,.int .i64 T,.int .i64 N,.slice none 0 0,.slice none 0 0]:=by rw [hBt];exact XkT.out
  rw [<-hBt]
  obtain⟨S2,hS2⟩: ∃S:Nat->Prop,S=fun b=>b=Bt\/D2<=b:=⟨_,rfl⟩
  have sB:S2 Bt:=by rw [hS2];exact .inl rfl
  have sD: ∀k,D2<=k->S2 k:=fun k hk=>by rw [hS2];exact .inr hk
  have sF: ∀k,k<D2->k≠Bt-> ¬S2 k:=fun k h1 h2 h=>by
   rw [hS2]at h
   rcases h with h|h<;>omega
  have tt0:Touch S2 w4 w4:=Touch.refl _ _
  have two0:Pr 93 23 (fun w F (z:Value) (x:List Ac)=>RdIt w F z x) (fun w F (z:Value) (x:List Int)=>RdI w F z x) (fun _=>False) (fun _=>False) D2 w4 none 0 0 none 0 0 ((p.row.take 0).map (rowPA p)) ((p.gow.take 0).map (rowPG p)):=⟨RM.nil _ _ _,RM.nil _ _ _,fun b h=>h.elim,fun b h=>h.elim,fun b h=>by cases h⟩
  have ok0:(p.row.take 0).all (inR n3)=true:=rfl
  have ok1:(p.gow.take 0).all (inR n5)=true:=rfl
  clear hBt hw4 q0 q1 q2 q3 q4 q5 q6 s0 s1 s2 s3 s4 s5 s6 hS2 XkT
  obtain⟨XsB,XsD,XsF,Xtt0,Xtwo0,XhBtD,XhwB,XkT0,XhD2,Xok0,Xok1⟩:=HqZ11 sB sD sF tt0 two0 hBtD hwB kT0 hD2 ok0 ok1;clear sB sD sF tt0 two0 hBtD hwB kT0 hD2 ok0 ok1
  go_loopw [5] (fun iv wr=> ∃(i ca' cg':Nat) (Ax Ag:Option Addr) (loA loG:Nat->Prop),i<=n2/\iv= .int .i64 (i:Int)/\Touch S2 w4 wr/\Blk wr Bt 44 #[.slice A1 n1 c1,.int .i64 T,.int .i64 N,.slice Ax i ca',.slice Ag i cg']/\
   Pr 93 23 (fun w F (z:Value) (x:List Ac)=>RdIt w F z x) (fun w F (z:Value) (x:List Int)=>RdI w F z x) loA loG D2 wr Ax i ca' Ag i cg' ((p.row.take i).map (rowPA p)) ((p.gow.take i).map (rowPG p))/\(p.row.take i).all (inR n3)=true/\(p.gow.take i).all (inR n5)=true) (fun iv _=>n2 - (intOf iv).toNat)
  case atStart=>exact⟨0,0,0,none,none,fun _=>False,fun _=>False,Nat.zero_le _,rfl,Xtt0.out,XkT0.out,Xtwo0.out,Xok0.out,Xok1.out⟩
  case round=>
   clear Xtt0 XkT0 Xtwo0 Xok0 Xok1
   obtain⟨i,ca',cg',Ax,Ag,loA,loG,hi,rfl,hS,kT,two,hokR,hokG⟩:=hrel
   obtain⟨V,rfl⟩: ∃x,x=wr:=⟨_,rfl⟩
   have gW:=Xg4.out.touch hS (fun b hb=>XsF.out b (by have:=XhF.out b hb;have:=XhBtD.out;have:=XhwB.out;omega) (by have:=XhF.out b hb;have:=XhwB.out;omega)) (XsF.out _ (by have:=XhBtD.out;have:=XhwB.out;omega) (by have:=XhwB.out;omega))
   have krW:=Xkr4.out.touch hS (XsF.out _ (by have:=XhBtD.out;have:=XhwB.out;omega) (by have:=XhwB.out;omega))
   have hDw:D2<=V.heap.size:=by rw [XhD2.out];exact hS.size
   have bW:Below w.heap.size w V:=hS.toBelow (fun b hb=>by
    rcases Nat.lt_or_ge b D2 with h1|h1
    ·by_cases e:b=Bt
     ·have:=XhwB.out;omega
     ·exact absurd hb (XsF.out b h1 e)
    ·have:=XhwB.out;have:=XhBtD.out;omega) Xbb4.out Xbb4.out.size
   obtain⟨q0,q1,q2,q3,q4,q5,q6⟩:=gW.cells
   have hn70:n2<=70000:=by have:=Xhl.out.1;rw [Xhn2.out]at this;exact this
   by_cases hlt:i<n2
   ·have hlt':(i:Int)<(n2:Int):=by omega
    obtain⟨x,hx⟩: ∃x,p.row[i]? =some x:=⟨_,List.getElem?_eq_getElem (by rw [Xhn2.out];exact hlt)⟩
    obtain⟨y,hy⟩: ∃y,p.gow[i]? =some y:=⟨_,List.getElem?_eq_getElem (by rw [Xhn4.out];exact hlt)⟩
    obtain⟨-,-,-,hc1⟩:=RdI.at_ gW.pk.row
    obtain⟨bR,oR,rfl,-,hcR⟩:=hc1 (by omega)
    obtain⟨-,-,-,hc2⟩:=RdI.at_ gW.pk.gow
    obtain⟨bG,oG,rfl,-,hcG⟩:=hc2 (by omega)
    have px:=hcR i x hx
    have py:=hcG i y hy
    have d0:=(krW.cell 0).trans rfl
    have d1:=(krW.cell 1).trans rfl
    have d2:=(krW.cell 2).trans rfl
    have d3:=(krW.cell 3).trans rfl
    have d4:=(krW.cell 4).trans rfl
    have f0:=krW.frozen 0
    have f1:=krW.frozen 1
    have f2:=krW.frozen 2
    have f3:=krW.frozen 3
    have f4:=krW.frozen 4
    have hi0:(0:Int)<=(i:Int):=by omega
    clear hc1 hcR hc2 hcG
    by_cases hx0:x<0
    ·skip
     have hno:rowsP p=false:=by
      rw [XhRP.out]
      rw [all_notP hx (inR_no (.inl hx0))];simp
     have Xhno:=hide hno;clear hno;obtain⟨XhS,XkT,Xtwo,XhokR,XhokG,XgW⟩:=HqZ6 hS kT two hokR hokG gW;clear hS kT two hokR hokG gW;obtain⟨Xkr2,Xbw2⟩:=HqZ2 krW bW;clear krW bW
     go_wp2_with fail
     refine region_reads (by kernel_rfl) (by kernel_rfl) ?_
     repeat still_step
     refine wpStill_nil ?_
     go_wp2_with fail
     have k5:=((((Xkr2.out.put 0 (.slice none 0 0)).put 1 (.int .i64 0)).put 2 (.int .i64 0)).put 3 (.slice none 0 0)).put 4 (.slice none 0 0)
     have e0:=(k5.cell 0).trans rfl
     have e1:=(k5.cell 1).trans rfl
     have e2:=(k5.cell 2).trans rfl
     have e3:=(k5.cell 3).trans rfl
     have e4:=(k5.cell 4).trans rfl
     have t5:=touch_five V (w.heap.size+1) (.slice none 0 0) (.int .i64 0) (.int .i64 0) (.slice none 0 0) (.slice none 0 0)
     refine bodyPost_ret (v:= .tuple #[TV (.slice none 0 0) 0 0 (.slice none 0 0) (.slice none 0 0),.bool false]) (by simp [results,Tryz.results48,go_sem,e0,e1,e2,e3,e4]) rfl ?_
     have b5:=t5.toBelow (fun k e=>by omega) Xbw2.out Xbw2.out.size
     refine⟨by first|exact b5|exact b5.drew,_,_,_,by rw [rows_no Xhno.out,Xhno.out];rfl,?_⟩
     rw [rows_no Xhno.out]
     exact IsTab.none _ _ (fun b hb=>hb.2)
    ·by_cases hxn:(n3:Int)<=x
     ·skip
      have hno:rowsP p=false:=by
       rw [XhRP.out]
       rw [all_notP hx (inR_no (.inr hxn))];simp
      have Xhno:=hide hno;clear hno;obtain⟨XhS,XkT,Xtwo,XhokR,XhokG,XgW⟩:=HqZ6 hS kT two hokR hokG gW;clear hS kT two hokR hokG gW;obtain⟨Xkr2,Xbw2⟩:=HqZ2 krW bW;clear krW bW
      go_wp2_with fail
      refine region_reads (by kernel_rfl) (by kernel_rfl) ?_
      repeat still_step
      refine wpStill_nil ?_
      go_wp2_with fail
      have k5:=((((Xkr2.out.put 0 (.slice none 0 0)).put 1 (.int .i64 0)).put 2 (.int .i64 0)).put 3 (.slice none 0 0)).put 4 (.slice none 0 0)
      have e0:=(k5.cell 0).trans rfl
      have e1:=(k5.cell 1).trans rfl
      have e2:=(k5.cell 2).trans rfl
      have e3:=(k5.cell 3).trans rfl
      have e4:=(k5.cell 4).trans rfl
      have t5:=touch_five V (w.heap.size+1) (.slice none 0 0) (.int .i64 0) (.int .i64 0) (.slice none 0 0) (.slice none 0 0)
      refine bodyPost_ret (v:= .tuple #[TV (.slice none 0 0) 0 0 (.slice none 0 0) (.slice none 0 0),.bool false]) (by simp [results,Tryz.results48,go_sem,e0,e1,e2,e3,e4]) rfl ?_
      have b5:=t5.toBelow (fun k e=>by omega) Xbw2.out Xbw2.out.size
      refine⟨by first|exact b5|exact b5.drew,_,_,_,by rw [rows_no Xhno.out,Xhno.out];rfl,?_⟩
      rw [rows_no Xhno.out]
      exact IsTab.none _ _ (fun b hb=>hb.2)
     ·by_cases hy0:y<0
      ·skip
       have hno:rowsP p=false:=by
        rw [XhRP.out]
        rw [all_notP hy (inR_no (.inl hy0))];simp
       have Xhno:=hide hno;clear hno;obtain⟨XhS,XkT,Xtwo,XhokR,XhokG,XgW⟩:=HqZ6 hS kT two hokR hokG gW;clear hS kT two hokR hokG gW;obtain⟨Xkr2,Xbw2⟩:=HqZ2 krW bW;clear krW bW
       go_wp2_with fail
       refine region_reads (by kernel_rfl) (by kernel_rfl) ?_
       repeat still_step
       refine wpStill_nil ?_
       go_wp2_with fail
       have k5:=((((Xkr2.out.put 0 (.slice none 0 0)).put 1 (.int .i64 0)).put 2 (.int .i64 0)).put 3 (.slice none 0 0)).put 4 (.slice none 0 0)
       have e0:=(k5.cell 0).trans rfl
       have e1:=(k5.cell 1).trans rfl
       have e2:=(k5.cell 2).trans rfl
       have e3:=(k5.cell 3).trans rfl
       have e4:=(k5.cell 4).trans rfl
       have t5:=touch_five V (w.heap.size+1) (.slice none 0 0) (.int .i64 0) (.int .i64 0) (.slice none 0 0) (.slice none 0 0)
       refine bodyPost_ret (v:= .tuple #[TV (.slice none 0 0) 0 0 (.slice none 0 0) (.slice none 0 0),.bool false]) (by simp [results,Tryz.results48,go_sem,e0,e1,e2,e3,e4]) rfl ?_
       have b5:=t5.toBelow (fun k e=>by omega) Xbw2.out Xbw2.out.size
       refine⟨by first|exact b5|exact b5.drew,_,_,_,by rw [rows_no Xhno.out,Xhno.out];rfl,?_⟩
       rw [rows_no Xhno.out]
       exact IsTab.none _ _ (fun b hb=>hb.2)
      ·by_cases hyn:(n5:Int)<=y
       ·skip
        have hno:rowsP p=false:=by
         rw [XhRP.out]
         rw [all_notP hy (inR_no (.inr hyn))];simp
        have Xhno:=hide hno;clear hno;obtain⟨XhS,XkT,Xtwo,XhokR,XhokG,XgW⟩:=HqZ6 hS kT two hokR hokG gW;clear hS kT two hokR hokG gW;obtain⟨Xkr2,Xbw2⟩:=HqZ2 krW bW;clear krW bW
        go_wp2_with fail
        refine region_reads (by kernel_rfl) (by kernel_rfl) ?_
        repeat still_step
        refine wpStill_nil ?_
        go_wp2_with fail
        have k5:=((((Xkr2.out.put 0 (.slice none 0 0)).put 1 (.int .i64 0)).put 2 (.int .i64 0)).put 3 (.slice none 0 0)).put 4 (.slice none 0 0)
        have e0:=(k5.cell 0).trans rfl
        have e1:=(k5.cell 1).trans rfl
        have e2:=(k5.cell 2).trans rfl
        have e3:=(k5.cell 3).trans rfl
        have e4:=(k5.cell 4).trans rfl
        have t5:=touch_five V (w.heap.size+1) (.slice none 0 0) (.int .i64 0) (.int .i64 0) (.slice none 0 0) (.slice none 0 0)
        refine bodyPost_ret (v:= .tuple #[TV (.slice none 0 0) 0 0 (.slice none 0 0) (.slice none 0 0),.bool false]) (by simp [results,Tryz.results48,go_sem,e0,e1,e2,e3,e4]) rfl ?_
        have b5:=t5.toBelow (fun k e=>by omega) Xbw2.out Xbw2.out.size
        refine⟨by first|exact b5|exact b5.drew,_,_,_,by rw [rows_no Xhno.out,Xhno.out];rfl,?_⟩
        rw [rows_no Xhno.out]
        exact IsTab.none _ _ (fun b hb=>hb.2)
       ·obtain⟨xj,rfl⟩:=Int.eq_ofNat_of_zero_le (by omega:0<=x)
        obtain⟨yj,rfl⟩:=Int.eq_ofNat_of_zero_le (by omega:0<=y)
        obtain⟨rx,hrx⟩: ∃r,p.rows[xj]? =some r:=⟨_,List.getElem?_eq_getElem (by rw [Xhn3.out];omega)⟩
        obtain⟨ry,hry⟩: ∃r,p.gows[yj]? =some r:=⟨_,List.getElem?_eq_getElem (by rw [Xhn5.out];omega)⟩
        obtain⟨b3,o3,Arx,crx,rfl,-,cx,rdx,-,mx⟩:=RdUs.row gW.pk.rows hrx
        obtain⟨b5,o5,Ary,cry,rfl,-,cy,rdy,-,my⟩:=RdUs.row gW.pk.gows hry
        unfold maxLen at mx my
        have hxn':(xj:Int)<(n3:Int):=by omega
        have hyn':(yj:Int)<(n5:Int):=by omega
        have ix:inR n3 (xj:Int)=true:=by unfold inR;rw [decide_eq_true (by omega:(0:Int)<=xj),decide_eq_true hxn'];rfl
        have iy:inR n5 (yj:Int)=true:=by unfold inR;rw [decide_eq_true (by omega:(0:Int)<=yj),decide_eq_true hyn'];rfl
        have hokR2:=take_all hx ix hokR
        have hokG2:=take_all hy iy hokG
        have hnA:(p.row.take (i+1)).map (rowPA p)=(p.row.take i).map (rowPA p)++[rowPA p (xj:Int)]:=by rw [take_next hx,List.map_append];rfl
        have hnG:(p.gow.take (i+1)).map (rowPG p)=(p.gow.take i).map (rowPG p)++[rowPG p (yj:Int)]:=by rw [take_next hy,List.map_append];rfl
        have eA:rowPA p (xj:Int)=rx.map actC:=by unfold rowPA;rw [List.getD_eq_getElem?_getD,Int.toNat_natCast,hrx];rfl
        have eG:rowPG p (yj:Int)=ry.map fun n=>n - 1:=by unfold rowPG;rw [List.getD_eq_getElem?_getD,Int.toNat_natCast,hry];rfl
        have hux:=gW.pk.u1 rx (List.mem_of_getElem? hrx)
        have huy:=gW.pk.u2 ry (List.mem_of_getElem? hry)
        have hlx:=Xhl.out.2.1 rx (List.mem_of_getElem? hrx)
        have hly:=Xhl.out.2.2 ry (List.mem_of_getElem? hry)
        obtain⟨nx,hnx⟩: ∃q,q=rx.length:=⟨_,rfl⟩
        obtain⟨ny,hny⟩: ∃q,q=ry.length:=⟨_,rfl⟩
        rw [<-hnx]at cx rdx hlx
        rw [<-hny]at cy rdy hly
        have lFx: ∀b,F b->b<V.heap.size:=gW.pk.lt
        have h00:V.ownsRow V.heap.size 99 2 (.slice none 0 0) 0 (itCells ((rx.take 0).map actC)):=World.ownsRow_nil _ _ _ _
        have hx00: ¬(xj:Int)<0:=by omega
        have hxn2: ¬(n3:Int)<=(xj:Int):=by omega
        have hxn3: ¬n3<=xj:=by omega
        have hyn3: ¬n5<=yj:=by omega
        have hxn4:xj<n3:=by omega
        have hyn4:yj<n5:=by omega
        have hyn2: ¬(n5:Int)<=(yj:Int):=by omega
        have hy00: ¬(yj:Int)<0:=by omega
        have ld:Below V.heap.size V V.drew:=(Below.refl _ V).drew
        clear d0 d1 d2 d3 d4 f0 f1 f2 f3 f4 hrx hry ix iy hokR hokG hx hy hx0 hxn hy0 hyn
        obtain⟨XhS,XkT,Xtwo,XgW,XkrW,XbW,Xrdx,Xrdy,XhokR2,XhokG2,XhnA,XhnG,XeA,XeG⟩:=HqZ14 hS kT two gW krW bW rdx rdy hokR2 hokG2 hnA hnG eA eG;obtain⟨Xhux,Xhuy,Xhnx,Xhny,XlFx,Xh00,Xld⟩:=HqZ7 hux huy hnx hny lFx h00 ld;clear hS kT two gW krW bW rdx rdy hokR2 hokG2 hnA hnG eA eG hux huy hnx hny lFx h00 ld
        go_wp2_with fail
        refine region_reads (by kernel_rfl) (by kernel_rfl) ?_
        repeat still_step
        refine wpStill_nil ?_
        go_wp2_with fail
        clear q0 q1 q2 q3 q4 q5 q6
        go_loopw [6,8] (fun ov iv wx=> ∃(k c:Nat) (A:Option Addr),k<=nx/\ov= .slice A k c/\iv= .int .i64 (k:Int)/\Below V.heap.size V wx/\wx.ownsRow V.heap.size 99 2 (.slice A k c) k (itCells ((rx.take k).map actC))) (fun _ iv _=>nx - (intOf iv).toNat)
        case atStart=>exact⟨0,0,none,Nat.zero_le _,rfl,rfl,Xld.out,Xh00.out⟩
        case round=>
         clear Xh00 Xld
         obtain⟨k,c,A,hk,rfl,rfl,le,own⟩:=hrel
         obtain⟨W1,rfl⟩: ∃q,q=wr:=⟨_,rfl⟩
         have g5:=XgW.out.below le
         obtain⟨q0,q1,q2,q3,q4,q5,q6⟩:=g5.cells
         have px5:=up_cell le px
         have cx5:=up_cell le cx
         by_cases hlk:k<nx
         ·have hlk':(k:Int)<(nx:Int):=by omega
          obtain⟨a,ha⟩: ∃a,rx[k]? =some a:=⟨_,List.getElem?_eq_getElem (by rw [<-Xhnx.out];exact hlk)⟩
          have ha2:=Xhux.out a (List.mem_of_getElem? ha)
          obtain⟨-,-,-,hcell⟩:=RdU.at_ (Rd.below Xrdx.out le XlFx.out)
          obtain⟨b7,o7,rfl,-,hcc⟩:=hcell (by omega)
          have p0:=hcc k a ha
          have hnb:itCells ((rx.take k).map actC)++itCells [actC a]=itCells ((rx.take (k+1)).map actC):=by rw [take_next ha,List.map_append,itCells_append];rfl
          obtain⟨us,hus⟩: ∃q,q=itCells ((rx.take k).map actC):=⟨_,rfl⟩
          have e16:IntKind.i64.wrap a=a:=by rw [IntKind.wrap_i64];omega
          have ed:a.tdiv 16384=a/16384:=Int.tdiv_eq_ediv_of_nonneg ha2.1
          have em:a.tmod 16384=a%16384:=Int.tmod_eq_emod_of_nonneg ha2.1
          have ew1:IntKind.i64.wrap (a/16384)=a/16384:=by rw [IntKind.wrap_i64];omega
          have ew2:IntKind.i64.wrap (a%16384)=a%16384:=by rw [IntKind.wrap_i64];omega
          have ew3:wrap64 (a/16384)=a/16384:=by unfold wrap64;omega
          have ew4:wrap64 (a%16384)=a%16384:=by unfold wrap64;omega
          obtain⟨a0,ea0⟩: ∃q,q=a/16384:=⟨_,rfl⟩
          obtain⟨a1,ea1⟩: ∃q,q=a%16384:=⟨_,rfl⟩
          have eac:actC a=(a0,a1):=by unfold actC;rw [ea0,ea1]
          rw [eac]at hnb
          rw [<-ea0]at ed ew1 ew3
          rw [<-ea1]at em ew2 ew4
          rw [<-hus]at own hnb
          have le2:Below V.heap.size V W1.drew.drew:=le.drew.drew
          have own2:W1.drew.drew.ownsRow V.heap.size 99 2 (.slice A k c) k us:=own
          clear hcell hcc ha ha2 hus ea0 ea1 eac le own g5
          obtain⟨Xle2,Xown2,Xhnb⟩:=HqZ3 le2 own2 hnb;clear le2 own2 hnb
          iterate 2
           go_wp2_with fail
           refine region_reads (by kernel_rfl) (by kernel_rfl) ?_
           repeat still_step
           refine wpStill_nil ?_
          generalize W1.drew.drew=w6 at *
          have al7:Below w6.heap.size w6 (w6.alloc (.cells #[.int .i64 a0,.int .i64 a1] 99)):=(Below.refl _ _).alloc (Nat.le_refl _) _
          have own7:=own_below' Xown2.out al7
          have le7:=Xle2.out.trans (al7.mono Xle2.out.size)
          have rone:Rd (w6.alloc (.cells #[.int .i64 a0,.int .i64 a1] 99)) (fun x=>x=w6.heap.size) (.slice (some ⟨w6.heap.size,0,none⟩) 1 1) 2 (itCells [(a0,a1)]):=Rd.one' (w:=w6) (e:=99) (itCells [(a0,a1)]) 2 rfl
          clear Xown2 Xle2 al7 p0 px5 cx5 q0 q1 q2 q3 q4 q5 q6
          obtain⟨Xown7,Xle7,Xrone⟩:=HqZ3 own7 le7 rone;clear own7 le7 rone
          go_wp2_with (at_builtin;refine wp_append _ rfl (.tmp 97) (.tmp 103) _ rfl Tryz.elemAct V.heap.size (.slice A k c) k _ rfl Xown7.out _ _ (itCells [(a0,a1)]) 1 rfl rfl Xrone.out (itCells_one _) (by unfold maxLen;omega) (by omega) Xle7.out.size ?_)
          intro A8 c8 w8 own8 g8 hb8
          rw [Xhnb.out]at own8
          have le8:=Xle7.out.grown g8 Xle7.out.size (fun q hq=>(World.ownsRow.lt Xown7.out q hq).1)
          clear g8 hb8 Xown7 Xle7 Xrone Xhnb
          obtain⟨Xown8,Xle8⟩:=HqZ2 own8 le8;clear own8 le8
          go_wp2_with fail
          go_roundw
          case rel=>exact⟨k+1,c8,A8,by omega,rfl,by go_num,Xle8.out,Xown8.out⟩
          case measure=>simp [intOf];omega
         ·have hlk': ¬(k:Int)<(nx:Int):=by omega
          obtain rfl:nx=k:=by omega
          rw [List.take_of_length_le (by rw [<-Xhnx.out];exact Nat.le_refl _),<-XeA.out]at own
          obtain⟨Aza,rfl⟩: ∃q,q=A:=⟨_,rfl⟩
          obtain⟨cza,rfl⟩: ∃q,q=c:=⟨_,rfl⟩
          have le2:Below V.heap.size V W1.drew:=le.drew
          have own2:W1.drew.ownsRow V.heap.size 99 2 (.slice Aza nx cza) nx (itCells (rowPA p (xj:Int))):=own
          clear le own g5
          obtain⟨Xle2,Xown2⟩:=HqZ2 le2 own2;clear le2 own2
          go_wp2_with fail
          refine region_reads (by kernel_rfl) (by kernel_rfl) ?_
          repeat still_step
          refine wpStill_nil ?_
          go_wp2_with fail
          generalize W1.drew=W5 at *
          clear q0 q1 q2 q3 q4 q5 q6 px5 cx5
          have h00:W5.ownsRow W5.heap.size 3 1 (.slice none 0 0) 0 (((ry.take 0).map fun n=>n - 1).map (Value.int .i64)):=World.ownsRow_nil _ _ _ _
          have ld:Below W5.heap.size W5 W5:=Below.refl _ W5
          have lF5: ∀b,F b->b<W5.heap.size:=fun b hb=>Nat.lt_of_lt_of_le (XlFx.out b hb) Xle2.out.size
          have g6:=XgW.out.below Xle2.out
          have py6:=up_cell Xle2.out py
          have cy6:=up_cell Xle2.out cy
          have rdy5:=Rd.below Xrdy.out Xle2.out XlFx.out
          obtain⟨Xh00,Xld,XlF5,Xg6,Xpy6,Xcy6,Xrdy5⟩:=HqZ7 h00 ld lF5 g6 py6 cy6 rdy5;clear h00 ld lF5 g6 py6 cy6 rdy5;clear px cx py cy Xrdx Xrdy
          go_loopw [7,10] (fun ov iv wx=> ∃(k c:Nat) (A:Option Addr),k<=ny/\ov= .slice A k c/\iv= .int .i64 (k:Int)/\Below W5.heap.size W5 wx/\wx.ownsRow W5.heap.size 3 1 (.slice A k c) k (((ry.take k).map fun n=>n - 1).map (Value.int .i64))) (fun _ iv _=>ny - (intOf iv).toNat)
          case atStart=>exact⟨0,0,none,Nat.zero_le _,rfl,rfl,Xld.out,Xh00.out⟩
          case round=>
           clear Xh00 Xld
           obtain⟨k,c,A,hk,rfl,rfl,le3,own3⟩:=hrel
           obtain⟨W2,rfl⟩: ∃q,q=wr:=⟨_,rfl⟩
           have g7:=Xg6.out.below le3
           obtain⟨q0,q1,q2,q3,q4,q5,q6⟩:=g7.cells
           have py7:=up_cell le3 Xpy6.out
           have cy7:=up_cell le3 Xcy6.out
           by_cases hlk:k<ny
           ·have hlk':(k:Int)<(ny:Int):=by omega
            obtain⟨a,ha⟩: ∃a,ry[k]? =some a:=⟨_,List.getElem?_eq_getElem (by rw [<-Xhny.out];exact hlk)⟩
            obtain⟨ha1,ha2⟩:=Xhuy.out a (List.mem_of_getElem? ha)
            obtain⟨-,-,-,hcell⟩:=RdU.at_ (Rd.below Xrdy5.out le3 XlF5.out)
            obtain⟨b7,o7,rfl,-,hcc⟩:=hcell (by omega)
            have p0:=hcc k a ha
            have hw4:IntKind.i64.wrap a=a:=by rw [IntKind.wrap_i64];omega
            have hw5:IntKind.i64.wrap (a - 1)=a - 1:=by rw [IntKind.wrap_i64];omega
            have hnb:((ry.take k).map fun n=>n - 1).map (Value.int .i64)++[.int .i64 (a - 1)]=((ry.take (k+1)).map fun n=>n - 1).map (Value.int .i64):=by rw [take_next ha,List.map_append,List.map_append];rfl
            obtain⟨us,hus⟩: ∃q,q=((ry.take k).map fun n=>n - 1).map (Value.int .i64):=⟨_,rfl⟩
            rw [<-hus]at own3 hnb
            have le4:Below W5.heap.size W5 W2.drew.drew:=le3.drew.drew
            have own4:W2.drew.drew.ownsRow W5.heap.size 3 1 (.slice A k c) k us:=own3
            have SS:W2.drew.drew.cell? ⟨w.heap.size,5,none⟩=some (.slice (some ⟨bG,oG,none⟩) n2 c4)/\W2.drew.drew.cell? ⟨w.heap.size,6,none⟩=some (.slice (some ⟨b5,o5,none⟩) n5 c5)/\W2.drew.drew.cell? ⟨bG,oG+i,none⟩=some (.int .i64 (yj:Int))/\W2.drew.drew.cell? ⟨b5,o5+yj,none⟩=some (.slice (some ⟨b7,o7,none⟩) ny cry)/\W2.drew.drew.cell? ⟨b7,o7+k,none⟩=some (.int .u16 a):=⟨q5,q6,py7,cy7,p0⟩
            clear hcell hcc ha hus le3 own3 g7
            obtain⟨Xle4,Xown4,Xhnb,XSS⟩:=HqZ4 le4 own4 hnb SS;clear le4 own4 hnb SS
            go_wp2_with fail
            refine region_reads (by kernel_rfl) (by kernel_rfl) ?_
            repeat still_step
            refine wpStill_nil ?_
            go_wp2_with fail
            refine region_late2 (fun W=>W.cell? ⟨w.heap.size,5,none⟩=some (.slice (some ⟨bG,oG,none⟩) n2 c4)/\W.cell? ⟨w.heap.size,6,none⟩=some (.slice (some ⟨b5,o5,none⟩) n5 c5)/\W.cell? ⟨bG,oG+i,none⟩=some (.int .i64 (yj:Int))/\W.cell? ⟨b5,o5+yj,none⟩=some (.slice (some ⟨b7,o7,none⟩) ny cry)/\W.cell? ⟨b7,o7+k,none⟩=some (.int .u16 a)) [0,1,2,3,4,5,6,7,8,9,10,11,12,13,14] [15] 16 (by kernel_rfl) (by kernel_rfl) XSS.out ?_
            simp only [pickO,List.getElem?_cons_succ,List.getElem?_cons_zero,List.drop_succ_cons,List.drop_zero]
            iterate 15
             refine wpHeld_cons ?_ (by rfl) (fun wS hwS=> ?_) ?_
             rotate_left
             ·(try dsimp only at hwS)
              go_simp
              all_goals with_reducible rfl
             simp only [Act.put,List.setIfInBounds_toArray,List.set_cons_zero,List.set_cons_succ]
            refine wpHeld_nil ?_
            generalize W2.drew.drew=w6 at *
            have SS:=XSS.out
            have al7:Below w6.heap.size w6 (w6.alloc (.cells #[.int .i64 (a - 1)] 3)):=(Below.refl _ _).alloc (Nat.le_refl _) _
            have own7:=own_below' Xown4.out al7
            have le7:=Xle4.out.trans (al7.mono Xle4.out.size)
            have rone:Rd (w6.alloc (.cells #[.int .i64 (a - 1)] 3)) (fun x=>x=w6.heap.size) (.slice (some ⟨w6.heap.size,0,none⟩) 1 1) 1 [.int .i64 (a - 1)]:=Rd.one' (w:=w6) (e:=3) [.int .i64 (a - 1)] 1 rfl
            have S7:(w6.alloc (.cells #[.int .i64 (a - 1)] 3)).cell? ⟨w.heap.size,5,none⟩=some (.slice (some ⟨bG,oG,none⟩) n2 c4)/\(w6.alloc (.cells #[.int .i64 (a - 1)] 3)).cell? ⟨w.heap.size,6,none⟩=some (.slice (some ⟨b5,o5,none⟩) n5 c5)/\(w6.alloc (.cells #[.int .i64 (a - 1)] 3)).cell? ⟨bG,oG+i,none⟩=some (.int .i64 (yj:Int))/\(w6.alloc (.cells #[.int .i64 (a - 1)] 3)).cell? ⟨b5,o5+yj,none⟩=some (.slice (some ⟨b7,o7,none⟩) ny cry)/\(w6.alloc (.cells #[.int .i64 (a - 1)] 3)).cell? ⟨b7,o7+k,none⟩=some (.int .u16 a):=⟨up_cell al7 SS.1,up_cell al7 SS.2.1,up_cell al7 SS.2.2.1,up_cell al7 SS.2.2.2.1,up_cell al7 SS.2.2.2.2⟩
            clear Xown4 Xle4 al7 p0 py7 cy7 q0 q1 q2 q3 q4 q5 q6 SS XSS
            obtain⟨Xown7,Xle7,Xrone,XS7⟩:=HqZ4 own7 le7 rone S7;clear own7 le7 rone S7
            refine wpMid_cons ?_
            go_wp2_with fail
            refine⟨XS7.out,wpMid_nil ?_⟩
            clear XS7
            go_wp2_with (at_builtin;refine wp_append _ rfl (.tmp 119) (.tmp 134) _ rfl Tryz.elemInt W5.heap.size (.slice A k c) k _ rfl Xown7.out _ _ [.int .i64 (a - 1)] 1 rfl rfl Xrone.out (by simp [Value.oneCell']) (by unfold maxLen;omega) (by omega) Xle7.out.size ?_)
            intro A8 c8 w8 own8 g8 hb8
            rw [Xhnb.out]at own8
            have le8:=Xle7.out.grown g8 Xle7.out.size (fun q hq=>(World.ownsRow.lt Xown7.out q hq).1)
            clear g8 hb8 Xown7 Xle7 Xrone Xhnb
            obtain⟨Xown8,Xle8⟩:=HqZ2 own8 le8;clear own8 le8
            go_wp2_with fail
            refine NoPanic.normal ?_
            go_wp2_with fail
            go_roundw
            case rel=>exact⟨k+1,c8,A8,by omega,rfl,by go_num,Xle8.out,Xown8.out⟩
            case measure=>simp [intOf];omega
           ·have hlk': ¬(k:Int)<(ny:Int):=by omega
            obtain rfl:ny=k:=by omega
            rw [List.take_of_length_le (by rw [<-Xhny.out];exact Nat.le_refl _),<-XeG.out]at own3
            obtain⟨Azg,rfl⟩: ∃q,q=A:=⟨_,rfl⟩
            obtain⟨czg,rfl⟩: ∃q,q=c:=⟨_,rfl⟩
            have le4:Below W5.heap.size W5 W2.drew:=le3.drew
            have own4:W2.drew.ownsRow W5.heap.size 3 1 (.slice Azg ny czg) ny ((rowPG p (yj:Int)).map (Value.int .i64)):=own3
            clear le3 own3 g7
            obtain⟨Xle4,Xown4⟩:=HqZ2 le4 own4;clear le4 own4
            go_wp2_with fail
            refine region_reads (by kernel_rfl) (by kernel_rfl) ?_
            repeat still_step
            refine wpStill_nil ?_
            generalize W2.drew=Wd at *
            clear q0 q1 q2 q3 q4 q5 q6 py7 cy7
            have hbd:Below V.heap.size V Wd:=Xle2.out.trans (Xle4.out.mono Xle2.out.size)
            have ownA:=own_below' Xown2.out Xle4.out
            have ownG:=Xown4.out
            have two9:=Xtwo.out.touch hands_it hands_i (Touch.of_size hbd (fun _=>False)) (fun _ _ _ e=>e)
            have kT9:=XkT.out.below hbd XkT.out.lt
            have tt9:=XhS.out.trans' (below_touch hbd (fun q hq=>XsD.out q (Nat.le_trans hDw hq)))
            have hD9:D2<=Wd.heap.size:=Nat.le_trans hDw hbd.size
            have bA:=fun b e=>Xtwo.out.a.block b e
            have bG':=fun b e=>Xtwo.out.g.block b e
            have hz5:=Xle2.out.size
            have ra:RdIt Wd (fun b=>(Value.slice Aza nx cza).ownBlock=some b) (.slice Aza nx cza) (rowPA p (xj:Int)):=Rd.of_own ownA
            have rg:RdI Wd (fun b=>(Value.slice Azg ny czg).ownBlock=some b) (.slice Azg ny czg) (rowPG p (yj:Int)):=Rd.of_own ownG
            have hrb3: ∀b,(Value.slice Aza nx cza).ownBlock=some b->D2<=b/\b<Wd.heap.size/\(Value.slice Ax i ca').ownBlock≠some b/\(Value.slice Ag i cg').ownBlock≠some b:=fun b hb=>by
             have h1:=ownA.lt b hb
             exact⟨by omega,h1.2,fun e=>by have:=(bA b e).2;omega,fun e=>by have:=(bG' b e).2;omega⟩
            have htb3: ∀b,(Value.slice Azg ny czg).ownBlock=some b->D2<=b/\b<Wd.heap.size/\(Value.slice Ag i cg').ownBlock≠some b/\b≠Wd.heap.size+1/\(Value.slice Ax i ca').ownBlock≠some b:=fun b hb=>by
             have h1:=ownG.lt b hb
             exact⟨by omega,h1.2,fun e=>by have:=(bG' b e).2;omega,by omega,fun e=>by have:=(bA b e).2;omega⟩
            have q3:=(kT9.cell 3).trans rfl
            have f3:=kT9.frozen 3
            obtain⟨ZA,ea1,ea2,ea3⟩:=two9.a.ex
            have al1:Below Wd.heap.size Wd (Wd.alloc (.cells #[.slice Aza nx cza] 93)):=(Below.refl _ Wd).alloc (Nat.le_refl _) _
            have oa1:=own_below' ea2 al1
            have r1:Rd (Wd.alloc (.cells #[.slice Aza nx cza] 93)) (fun x=>x=Wd.heap.size) (.slice (some ⟨Wd.heap.size,0,none⟩) 1 1) 1 [.slice Aza nx cza]:=Rd.one' (w:=Wd) (e:=93) [.slice Aza nx cza] 1 rfl
            have zA:D2<=(Wd.alloc (.cells #[.slice Aza nx cza] 93)).heap.size:=Nat.le_trans hD9 al1.size
            obtain⟨us,hus⟩: ∃q,q=rmCells (fun _=>[]) ((p.row.take i).map (rowPA p)) ZA:=⟨_,rfl⟩
            have oa1':=oa1
            rw [<-hus]at oa1'
            have hokR:=XhokR2.out
            have hokG:=XhokG2.out
            have sW5:V.heap.size<=W5.heap.size:=hz5
            clear hbd ownA ownG bA bG' oa1 hz5
            obtain⟨Xtwo9,XkT9,Xtt9,XhD9,Xra,Xrg,Xhrb3,Xhtb3,Xea1,Xea2,Xea3,Xal1,Xoa1',Xr1⟩:=HqZ14 two9 kT9 tt9 hD9 ra rg hrb3 htb3 ea1 ea2 ea3 al1 oa1' r1;obtain⟨XzA,Xhus,XhokR,XhokG,XsW5⟩:=HqZ5 zA hus hokR hokG sW5;clear two9 kT9 tt9 hD9 ra rg hrb3 htb3 ea1 ea2 ea3 al1 oa1' r1 zA hus hokR hokG sW5
            go_wp2_with (at_builtin;refine wp_append _ rfl (.tmp 137) (.tmp 139) _ rfl Tryz.elemRA D2 (.slice Ax i ca') i _ rfl Xoa1'.out _ _ [.slice Aza nx cza] 1 rfl rfl Xr1.out (by simp [Value.oneCell']) (by unfold maxLen;omega) (by omega) XzA.out ?_)
            intro A8 c8 w8 own8 g8 hb8
            rw [Xhus.out]at own8
            obtain⟨two8,t8⟩:=Pr.push hands_it hands_i Xtwo9.out XhD9.out Xea1.out Xea2.out Xea3.out Xhrb3.out Xra.out Xal1.out own8 g8 (by rw [World.size_alloc];exact hb8)
            have t18:Touch (fun k=>(Value.slice Ax i ca').ownBlock=some k) Wd w8:=(Touch.of_size Xal1.out _).trans' t8
            have hAo:=fun b e=>(Xtwo9.out.a.block b e)
            have kT8:=XkT9.out.touch t18 (fun e=>by have:=(hAo _ e).1;have:=XhBtD.out;omega)
            have tt8:=Xtt9.out.trans t18 (fun k _ e=>XsD.out k (hAo k e).1)
            have hD8:=Nat.le_trans XhD9.out t18.size
            have rg8:=Rd.touch Xrg.out t18 (fun b hb e=>(Xhtb3.out b hb).2.2.2.2 e)
            have htb8: ∀b,(Value.slice Azg ny czg).ownBlock=some b->D2<=b/\b<w8.heap.size/\(Value.slice Ag i cg').ownBlock≠some b/\(Value.slice A8 (i+1) c8).ownBlock≠some b:=fun b hb=>by
             obtain⟨k1,k2,k3,k4,k5⟩:=Xhtb3.out b hb
             have:=t18.size
             refine⟨k1,by omega,k3,fun e=> ?_⟩
             rcases hb8 with hh|hh
             ·exact k5 (hh▸e)
             ·rw [hh]at e;injection e with e;exact k4 e.symm
            have p3:=(kT8.cell 3).trans rfl
            have fr3:=kT8.frozen 3
            obtain⟨w9,hw9⟩: ∃q,q=w8.setCell ⟨Bt,3,none⟩ (.slice A8 (i+1) c8):=⟨_,rfl⟩
            have tB:Touch (fun k=>k=Bt) w8 w9:=by rw [hw9];exact touch_setT _ _ _ _
            have kT9:Blk w9 Bt 44 #[.slice A1 n1 c1,.int .i64 T,.int .i64 N,.slice A8 (i+1) c8,.slice Ag i cg']:=by rw [hw9];exact kT8.put 3 _
            have two9:=(Pr.touch hands_it hands_i two8 tB (fun b hb _ e=>by have:=XhBtD.out;omega)).swap
            have tt9:=tt8.trans tB (fun k _ e=>by subst e;exact XsB.out)
            have hD9:=Nat.le_trans hD8 tB.size
            have rg9:=Rd.touch rg8 tB (fun b hb e=>by have:=(htb8 b hb).1;have:=XhBtD.out;omega)
            have htb9: ∀b,(Value.slice Azg ny czg).ownBlock=some b->D2<=b/\b<w9.heap.size/\(Value.slice Ag i cg').ownBlock≠some b/\(Value.slice A8 (i+1) c8).ownBlock≠some b:=fun b hb=>let k:=htb8 b hb;⟨k.1,Nat.lt_of_lt_of_le k.2.1 tB.size,k.2.2⟩
            have q4:=(kT9.cell 4).trans rfl
            have f4:=kT9.frozen 4
            obtain⟨ZG,eg1,eg2,eg3⟩:=two9.a.ex
            have al2:Below w9.heap.size w9 (w9.alloc (.cells #[.slice Azg ny czg] 23)):=(Below.refl _ w9).alloc (Nat.le_refl _) _
            have og1:=own_below' eg2 al2
            have r2:Rd (w9.alloc (.cells #[.slice Azg ny czg] 23)) (fun x=>x=w9.heap.size) (.slice (some ⟨w9.heap.size,0,none⟩) 1 1) 1 [.slice Azg ny czg]:=Rd.one' (w:=w9) (e:=23) [.slice Azg ny czg] 1 rfl
            have zG:D2<=(w9.alloc (.cells #[.slice Azg ny czg] 23)).heap.size:=Nat.le_trans hD9 al2.size
            obtain⟨ug,hug⟩: ∃q,q=rmCells (fun _=>[]) ((p.gow.take i).map (rowPG p)) ZG:=⟨_,rfl⟩
            have og1':=og1
            rw [<-hug]at og1'
            have ew9:=hw9.symm
            clear hw9 own8 g8 hb8 two8 t8 t18 hAo kT8 tt8 hD8 rg8 htb8 tB og1 Xtwo9 XkT9 Xtt9 XhD9 Xra Xrg Xhrb3 Xhtb3 Xea1 Xea2 Xea3 Xal1 Xoa1' Xr1 XzA Xhus q3 f3
            obtain⟨Xtwo9,XkT9,Xtt9,XhD9,Xrg9,Xhtb9,Xeg1,Xeg2,Xeg3,Xal2,Xog1',Xr2,XzG,Xhug⟩:=HqZ14 two9 kT9 tt9 hD9 rg9 htb9 eg1 eg2 eg3 al2 og1' r2 zG hug;clear two9 kT9 tt9 hD9 rg9 htb9 eg1 eg2 eg3 al2 og1' r2 zG hug
            go_wp2_with (at_builtin;refine wp_append _ rfl (.tmp 143) (.tmp 145) _ rfl Tryz.elemRI D2 (.slice Ag i cg') i _ rfl Xog1'.out _ _ [.slice Azg ny czg] 1 rfl rfl Xr2.out (by simp [Value.oneCell']) (by unfold maxLen;omega) (by omega) XzG.out ?_)
            intro A6 c6 w6 own6 g6 hb6
            rw [Xhug.out]at own6
            obtain⟨two6,t6⟩:=Pr.push hands_i hands_it Xtwo9.out XhD9.out Xeg1.out Xeg2.out Xeg3.out Xhtb9.out Xrg9.out Xal2.out own6 g6 (by rw [World.size_alloc];exact hb6)
            have t16:Touch (fun k=>(Value.slice Ag i cg').ownBlock=some k) w9 w6:=(Touch.of_size Xal2.out _).trans' t6
            have hAo:=fun b e=>(Xtwo9.out.a.block b e)
            have kT6:=XkT9.out.touch t16 (fun e=>by have:=(hAo _ e).1;have:=XhBtD.out;omega)
            have tt6:=Xtt9.out.trans t16 (fun k _ e=>XsD.out k (hAo k e).1)
            have p4:=(kT6.cell 4).trans rfl
            have fr4:=kT6.frozen 4
            obtain⟨w7,hw7⟩: ∃q,q=w6.setCell ⟨Bt,4,none⟩ (.slice A6 (i+1) c6):=⟨_,rfl⟩
            have tB:Touch (fun k=>k=Bt) w6 w7:=by rw [hw7];exact touch_setT _ _ _ _
            have kT7:Blk w7 Bt 44 #[.slice A1 n1 c1,.int .i64 T,.int .i64 N,.slice A8 (i+1) c8,.slice A6 (i+1) c6]:=by rw [hw7];exact kT6.put 4 _
            have two7:=(Pr.touch hands_i hands_it two6 tB (fun b hb _ e=>by have:=XhBtD.out;omega)).swap
            have tt7:=tt6.trans tB (fun k _ e=>by subst e;exact XsB.out)
            rw [<-XhnA.out,<-XhnG.out]at two7
            have ew7:=hw7.symm
            clear hw7 own6 g6 hb6 two6 t6 t16 hAo kT6 tt6 tB ew9 p3 fr3 q4 f4 Xtwo9 XkT9 Xtt9 XhD9 Xrg9 Xhtb9 Xeg1 Xeg2 Xeg3 Xal2 Xog1' Xr2 XzG Xhug
            obtain⟨Xtwo7,XkT7,Xtt7⟩:=HqZ3 two7 kT7 tt7;clear two7 kT7 tt7
            go_wp2_with fail
            go_roundw
            case rel=>exact⟨i+1,c8,c6,A8,A6,_,_,by omega,by go_num,Xtt7.out,XkT7.out,Xtwo7.out,XhokR.out,XhokG.out⟩
            case measure=>simp [intOf];omega
   ·have hlt': ¬(i:Int)<(n2:Int):=by omega
    obtain rfl:n2=i:=by omega
    have tR:p.row.take n2=p.row:=List.take_of_length_le (by rw [Xhn2.out];exact Nat.le_refl _)
    have tG:p.gow.take n2=p.gow:=List.take_of_length_le (by rw [Xhn4.out];exact Nat.le_refl _)
    rw [tR]at hokR two
    rw [tG]at hokG two
    have hyes:rowsP p=true:=by rw [XhRP.out,hokR,hokG];simp
    obtain⟨FW,hFW⟩: ∃FW:Nat->Prop,FW=fun b=>(F b\/D2<=b)/\b<V.heap.size:=⟨_,rfl⟩
    have raa:=RM.rw (F:=FW) hands_it two.a (fun b h1 h2=>by rw [hFW];exact⟨.inr h1,h2⟩) (fun b h1 h2=>by rw [hFW];exact⟨.inr (two.lA b h1).1,h2⟩)
    have rgg:=RM.rw (F:=FW) hands_i two.g (fun b h1 h2=>by rw [hFW];exact⟨.inr h1,h2⟩) (fun b h1 h2=>by rw [hFW];exact⟨.inr (two.lG b h1).1,h2⟩)
    have fw: ∀b,F b->FW b:=fun b hb=>by rw [hFW];exact⟨.inl hb,gW.pk.lt b hb⟩
    have rr:RdL V FW 2 (ERule V FW) (.slice A1 n1 c1) p.rules:=gW.pk.rules.mono fw fun cs x ⟨v,e1,e2⟩=>⟨v,e1,e2.mono fw⟩
    have hFS: ∀b,FW b-> ¬b=w.heap.size+1:=fun b hb e=>by
     rw [hFW]at hb
     rcases hb.1 with h|h
     ·have:=XhF.out b h;omega
     ·have:=XhBtD.out;have:=XhwB.out;omega
    have d0:=(krW.cell 0).trans rfl
    have d1:=(krW.cell 1).trans rfl
    have d2:=(krW.cell 2).trans rfl
    have d3:=(krW.cell 3).trans rfl
    have d4:=(krW.cell 4).trans rfl
    have f0:=krW.frozen 0
    have f1:=krW.frozen 1
    have f2:=krW.frozen 2
    have f3:=krW.frozen 3
    have f4:=krW.frozen 4
    have p0:=(kT.cell 0).trans rfl
    have p1:=(kT.cell 1).trans rfl
    have p2:=(kT.cell 2).trans rfl
    have p3:=(kT.cell 3).trans rfl
    have p4:=(kT.cell 4).trans rfl
    clear tR tG hokR hokG hlt hi hDw gW
    obtain⟨XhS,XkT,Xtwo,XkrW,XbW,Xhyes,XhFW,Xraa,Xrgg,Xrr,XhFS,Xfw⟩:=HqZ12 hS kT two krW bW hyes hFW raa rgg rr hFS fw;clear hS kT two krW bW hyes hFW raa rgg rr hFS fw
    go_wp2_with fail
    have k5:=((((XkrW.out.put 0 (.slice A1 n1 c1)).put 1 (.int .i64 T)).put 2 (.int .i64 N)).put 3 (.slice Ax n2 ca')).put 4 (.slice Ag n2 cg')
    have t5:=touch_five V (w.heap.size+1) (.slice A1 n1 c1) (.int .i64 T) (.int .i64 N) (.slice Ax n2 ca') (.slice Ag n2 cg')
    have e0:=(k5.cell 0).trans rfl
    have e1:=(k5.cell 1).trans rfl
    have e2:=(k5.cell 2).trans rfl
    have e3:=(k5.cell 3).trans rfl
    have e4:=(k5.cell 4).trans rfl
    refine bodyPost_ret (v:= .tuple #[TV (.slice A1 n1 c1) T N (.slice Ax n2 ca') (.slice Ag n2 cg'),.bool true]) (by simp [results,Tryz.results48,go_sem,e0,e1,e2,e3,e4]) rfl ?_
    have b5:=t5.toBelow (fun k e=>by omega) XbW.out XbW.out.size
    have hO:openO p=openT p:=by unfold openO;rw [if_pos Xhyes.out]
    refine⟨by first|exact b5|exact b5.drew,_,_,_,by rw [hO,Xhyes.out];unfold openT;rw [XhT.out,XhN.out],?_⟩
    rw [hO]
    refine tab_cw (F:=FW) (t:=openT p) Xrr.out Xraa.out Xrgg.out (by first|exact t5|exact t5.drew) XhFS.out (CW.refl _) (fun b hb=> ?_) (fun b hb=>hb.2) (by have:=Xhtn.out;rw [<-XhT.out,<-XhN.out]at this;exact this) Xhwr.out
    rw [XhFW.out]at hb
    refine⟨?_,Nat.lt_of_lt_of_le hb.2 t5.size⟩
    rcases hb.1 with h|h
    ·exact .inl h
    ·exact .inr (by have:=XhBtD.out;have:=XhwB.out;omega)
 ·have hnn':((n2:Int) !=(n4:Int))=true:=by simpa using(by omega: ¬(n2:Int)=(n4:Int))
  have hno:rowsP p=false:=by rw [hRP,decide_eq_false hnn];rfl
  have hnn2:=hnn
  obtain⟨Xhl,XhF,Xg4,XkT,XhRP,XhT,XhN,Xhn1,Xhn2,Xhn3,Xhn4,Xhn5,Xhtn,Xhwr⟩:=HqZ14 hl hF g4 kT hRP hT hN hn1 hn2 hn3 hn4 hn5 htn hwr;obtain⟨Xhz4,Xhno,Xhnn⟩:=HqZ3 hz4 hno hnn;clear hl hF g4 kT hRP hT hN hn1 hn2 hn3 hn4 hn5 htn hwr hz4 hno hnn;obtain⟨Xkr2,Xbw2⟩:=HqZ2 kr4 bb4;clear kr4 bb4
  go_enter Tryz.func48,Tryz.ntmps48
  go_wp2_with fail
  rw [<-hw4]
  have e0:=(Xkr2.out.cell 0).trans rfl
  have e1:=(Xkr2.out.cell 1).trans rfl
  have e2:=(Xkr2.out.cell 2).trans rfl
  have e3:=(Xkr2.out.cell 3).trans rfl
  have e4:=(Xkr2.out.cell 4).trans rfl
  refine bodyPost_ret (v:= .tuple #[TV (.slice none 0 0) 0 0 (.slice none 0 0) (.slice none 0 0),.bool false]) (by simp [results,Tryz.results48,go_sem,e0,e1,e2,e3,e4]) rfl ?_
  refine⟨Xbw2.out,_,_,_,by rw [rows_no Xhno.out,Xhno.out];rfl,?_⟩
  rw [rows_no Xhno.out]
  exact IsTab.none _ _ (fun b hb=>hb.2)
theorem touch_setP (w:World) (g i:Nat) (u:Value):Touch (fun b=>b=g) w (w.setCell ⟨g,i,none⟩ u):=Touch.setCell (S:=fun b=>b=g) (p:=⟨g,i,none⟩) (Touch.refl _ _) (fun _=>rfl) u
structure P7 (wr:World) (P:Nat) (vr:Value) (T N:Int) (va vR vb vG:Value) (R:List (List Int)) (I:List Int) (G:List (List Int)) (J:List Int):Prop where
 box:Blk wr P 26 #[vr,.int .i64 T,.int .i64 N,va,vR,vb,vG]
 row:wr.ownsRow (P+1) 3 1 va I.length (I.map (Value.int .i64))
 gow:wr.ownsRow (P+1) 3 1 vb J.length (J.map (Value.int .i64))
 ap: ∀k,va.ownBlock=some k->vb.ownBlock≠some k
 rows:RdUs wr (fun b=>P<b/\b<wr.heap.size/\va.ownBlock≠some b/\vb.ownBlock≠some b) vR R
 gows:RdUs wr (fun b=>P<b/\b<wr.heap.size/\va.ownBlock≠some b/\vb.ownBlock≠some b) vG G
section
variable {wr W w2 : World} {P : Nat} {vr va vR vb vG v : Value} {T N : Int} {R G : List (List Int)} {I J : List Int}
theorem P7.below (h:P7 wr P vr T N va vR vb vG R I G J) (b:Below wr.heap.size wr W):P7 W P vr T N va vR vb vG R I G J:=by
 have hs:=b.size
 exact⟨h.box.below b h.box.lt,own_below' h.row b,own_below' h.gow b,h.ap,(RdUs.below h.rows b fun k hk=>hk.2.1).mono fun k hk=>⟨hk.1,by omega,hk.2.2⟩,(RdUs.below h.gows b fun k hk=>hk.2.1).mono fun k hk=>⟨hk.1,by omega,hk.2.2⟩⟩
theorem P7.putR {R':List (List Int)} (h:P7 wr P vr T N va vR vb vG R I G J) (hv:RdUs wr (fun b=>P<b/\b<wr.heap.size/\va.ownBlock≠some b/\vb.ownBlock≠some b) v R'):P7 (wr.setCell ⟨P,4,none⟩ v) P vr T N va v vb vG R' I G J:=by
 have t:Touch (fun b=>b=P) wr (wr.setCell ⟨P,4,none⟩ v):=touch_setP _ _ _ _
 have hz:(wr.setCell ⟨P,4,none⟩ v).heap.size=wr.heap.size:=by simp [World.setCell]
 exact⟨h.box.put 4 v,t.own h.row fun k hk=>by have:=(h.row.lt k hk).1;omega,t.own h.gow fun k hk=>by have:=(h.gow.lt k hk).1;omega,h.ap,(RdUs.touch hv t fun k hk=>by omega).mono fun k hk=>by rw [hz];exact hk,(RdUs.touch h.gows t fun k hk=>by omega).mono fun k hk=>by rw [hz];exact hk⟩
theorem P7.putG {G':List (List Int)} (h:P7 wr P vr T N va vR vb vG R I G J) (hv:RdUs wr (fun b=>P<b/\b<wr.heap.size/\va.ownBlock≠some b/\vb.ownBlock≠some b) v G'):P7 (wr.setCell ⟨P,6,none⟩ v) P vr T N va vR vb v R I G' J:=by
 have t:Touch (fun b=>b=P) wr (wr.setCell ⟨P,6,none⟩ v):=touch_setP _ _ _ _
 have hz:(wr.setCell ⟨P,6,none⟩ v).heap.size=wr.heap.size:=by simp [World.setCell]
 exact⟨h.box.put 6 v,t.own h.row fun k hk=>by have:=(h.row.lt k hk).1;omega,t.own h.gow fun k hk=>by have:=(h.gow.lt k hk).1;omega,h.ap,(RdUs.touch h.rows t fun k hk=>by omega).mono fun k hk=>by rw [hz];exact hk,(RdUs.touch hv t fun k hk=>by omega).mono fun k hk=>by rw [hz];exact hk⟩
theorem P7.pushI {x:Int} (h:P7 wr P vr T N va vR vb vG R I G J) (hg:wr.grownBy w2 va.ownBlock) (ho:w2.ownsRow (P+1) 3 1 v (I.length+1) (I.map (Value.int .i64)++[.int .i64 x])) (hv:v.ownBlock=va.ownBlock\/v.ownBlock=some wr.heap.size):
  P7 (w2.setCell ⟨P,3,none⟩ v) P vr T N v vR vb vG R (I++[x]) G J:=by
 have tg:Touch (fun b=>va.ownBlock=some b) wr w2:=(Touch.refl _ _).grown hg (fun k e _=>e)
 have hP: ¬va.ownBlock=some P:=fun e=>by have:=(h.row.lt P e).1;omega
 have kb:=h.box.touch tg hP
 have t:Touch (fun b=>b=P) w2 (w2.setCell ⟨P,3,none⟩ v):=touch_setP _ _ _ _
 have hz:(w2.setCell ⟨P,3,none⟩ v).heap.size=w2.heap.size:=by simp [World.setCell]
 have hs:=tg.size
 have hne: ∀b,b<wr.heap.size->va.ownBlock≠some b->v.ownBlock≠some b:=fun b hb hk e=>by
  rcases hv with q|q
  ·exact hk (q▸e)
  ·rw [q]at e;injection e with e;omega
 refine⟨kb.put 3 v,?_,t.own (tg.own h.gow fun k hk e=>h.ap k e hk) fun k hk=>by have:=(h.gow.lt k hk).1;omega,fun k hk e=> ?_,?_,?_⟩
 ·rw [List.length_append,List.map_append]
  exact t.own ho fun k hk=>by have:=(ho.lt k hk).1;omega
 ·have:=(h.gow.lt k e).2
  exact hne k this (fun c=>h.ap k c e) hk
 ·exact(RdUs.touch (RdUs.touch h.rows tg fun k hk e=>hk.2.2.1 e) t fun k hk=>by omega).mono fun k hk=>⟨hk.1,by omega,hne k hk.2.1 hk.2.2.1,hk.2.2.2⟩
 ·exact(RdUs.touch (RdUs.touch h.gows tg fun k hk e=>hk.2.2.1 e) t fun k hk=>by omega).mono fun k hk=>⟨hk.1,by omega,hne k hk.2.1 hk.2.2.1,hk.2.2.2⟩
theorem P7.pushJ {x:Int} (h:P7 wr P vr T N va vR vb vG R I G J) (hg:wr.grownBy w2 vb.ownBlock) (ho:w2.ownsRow (P+1) 3 1 v (J.length+1) (J.map (Value.int .i64)++[.int .i64 x])) (hv:v.ownBlock=vb.ownBlock\/v.ownBlock=some wr.heap.size):
  P7 (w2.setCell ⟨P,5,none⟩ v) P vr T N va vR v vG R I G (J++[x]):=by
 have tg:Touch (fun b=>vb.ownBlock=some b) wr w2:=(Touch.refl _ _).grown hg (fun k e _=>e)
 have hP: ¬vb.ownBlock=some P:=fun e=>by have:=(h.gow.lt P e).1;omega
 have kb:=h.box.touch tg hP
 have t:Touch (fun b=>b=P) w2 (w2.setCell ⟨P,5,none⟩ v):=touch_setP _ _ _ _
 have hz:(w2.setCell ⟨P,5,none⟩ v).heap.size=w2.heap.size:=by simp [World.setCell]
 have hs:=tg.size
 have hne: ∀b,b<wr.heap.size->vb.ownBlock≠some b->v.ownBlock≠some b:=fun b hb hk e=>by
  rcases hv with q|q
  ·exact hk (q▸e)
  ·rw [q]at e;injection e with e;omega
 refine⟨kb.put 5 v,t.own (tg.own h.row fun k hk e=>h.ap k hk e) fun k hk=>by have:=(h.row.lt k hk).1;omega,?_,fun k hk e=> ?_,?_,?_⟩
 ·rw [List.length_append,List.map_append]
  exact t.own ho fun k hk=>by have:=(ho.lt k hk).1;omega
 ·have:=(h.row.lt k hk).2
  exact hne k this (fun c=>h.ap k hk c) e
 ·exact(RdUs.touch (RdUs.touch h.rows tg fun k hk e=>hk.2.2.2 e) t fun k hk=>by omega).mono fun k hk=>⟨hk.1,by omega,hk.2.2.1,hne k hk.2.1 hk.2.2.2⟩
 ·exact(RdUs.touch (RdUs.touch h.gows tg fun k hk e=>hk.2.2.2 e) t fun k hk=>by omega).mono fun k hk=>⟨hk.1,by omega,hk.2.2.1,hne k hk.2.1 hk.2.2.2⟩
theorem P7.pack {F:Nat->Prop} {vx vy:Value} {t:TabD} (h:P7 wr P vr T N va vR vb vG (packU (numsA t)).1 (packU (numsA t)).2 (packU (numsG t)).1 (packU (numsG t)).2) (g:IsTab wr F vr vx vy t) (hf:fitT t=true):IsPack wr (fun b=>(F b\/P<b)/\b<wr.heap.size) vr va vR vb vG (packT t):=by
 have hsm:=(fit_parts hf).2.1
 have hm:t.goto.length=t.acts.length:=by
  have h1:=(fit_parts hf).1
  unfold rightT headT at h1
  simp only [Bool.and_eq_true,decide_eq_true_eq]at h1
  exact h1.1.2.2.1.symm
 have wI: ∀{rs:List (List Int)},rs.length<=16383-> ∀x∈(packU rs).2,W64 x:=fun{rs} hl x hx=>by
  have h1:=(List.all_eq_true.1 (in_rows (rs:=rs))) x hx
  have h2:=(packU_ok rs).le
  unfold inR at h1
  simp only [Bool.and_eq_true,decide_eq_true_eq]at h1
  unfold W64
  omega
 have fF: ∀b,F b->(F b\/P<b)/\b<wr.heap.size:=fun b hb=>⟨.inl hb,g.lt b hb⟩
 refine⟨g.rules.mono fF fun cs x e=> ?_,(Rd.of_own h.row).mono fun k hk=> ?_,h.rows.mono fun k hk=>⟨.inr hk.1,hk.2.1⟩,(Rd.of_own h.gow).mono fun k hk=> ?_,h.gows.mono fun k hk=>⟨.inr hk.1,hk.2.1⟩,fun b hb=>hb.2,g.tn,g.wr,?_,?_,fun r hr=>nums_u16A hf r ((packU_ok (numsA t)).mem r hr),fun r hr=>nums_u16G hf r ((packU_ok (numsG t)).mem r hr)⟩
 ·obtain⟨v,h1,h2⟩:=e
  exact⟨v,h1,Rd.mono h2 fF⟩
 ·have:=h.row.lt k hk;exact⟨.inr (by omega),this.2⟩
 ·have:=h.gow.lt k hk;exact⟨.inr (by omega),this.2⟩
 ·exact wI (by unfold numsA;rw [List.length_map];exact hsm)
 ·exact wI (by unfold numsG;rw [List.length_map,hm];exact hsm)
end
end Go.Proofs.YtlpipniclimgeaaGreat

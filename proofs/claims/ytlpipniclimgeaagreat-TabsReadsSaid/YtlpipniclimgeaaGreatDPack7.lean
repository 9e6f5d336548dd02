/- Packed tables: opened. -/
import Derived.Test.YtlpipniclimgeaaGreatDPack5
import Derived.Test.YtlpipniclimgeaaGreatDRs1
namespace Go.Proofs.YtlpipniclimgeaaGreat
set_option linter.unusedVariables false
set_option linter.unusedSimpArgs false
open Go.RowKit Go.Shelf
attribute [local irreducible] wpStill wpOne wpPh
def openO (p:PackD):TabD:=if rowsP p=true then openT p else noTab
def rowPA (p:PackD) (x:Int):List Ac:=(p.rows.getD x.toNat []).map actC
def rowPG (p:PackD) (x:Int):List Int:=(p.gows.getD x.toNat []).map fun n=>n - 1
def LenP (p:PackD):Prop:=p.row.length<=70000/\(∀r∈p.rows,r.length<=70000)/\ ∀r∈p.gows,r.length<=70000
def OpenPost (w:World) (F:Nat->Prop) (p:PackD) (e:Ending) (w':World):Prop:=Below w.heap.size w w'/\ ∃vr va vg,e= .returned (.tuple #[TV vr (openO p).terms (openO p).nons va vg,.bool (rowsP p)])/\IsTab w' (fun b=>(F b\/w.heap.size<=b)/\b<w'.heap.size) vr va vg (openO p)
theorem IsTab.none (w:World) (F:Nat->Prop) (hl: ∀b,F b->b<w.heap.size):IsTab w F (.slice none 0 0) (.slice none 0 0) (.slice none 0 0) noTab:=
 ⟨rdl_nil _ _ _ _,rdrw_nil _ _ _,rdrw_nil _ _ _,hl,by unfold W64 noTab;decide,fun r h=>(by cases h)⟩
theorem rows_no {p:PackD} (h:rowsP p=false):openO p=noTab:=by unfold openO;rw [h];rfl
theorem all_notP {l:List Int} {f:Int->Bool} {i:Nat} {x:Int} (h:l[i]? =some x) (hx:f x=false):l.all f=false:=by
 rw [Bool.eq_false_iff]
 intro c
 have:=(List.all_eq_true.1 c) x (List.mem_of_getElem? h)
 rw [hx]at this;cases this
theorem inR_no {n:Nat} {x:Int} (h:x<0\/(n:Int)<=x):inR n x=false:=by
 unfold inR
 rcases h with h|h
 ·rw [decide_eq_false (by omega)];rfl
 ·rw [decide_eq_false (by omega: ¬x<(n:Int)),Bool.and_false]
theorem take_all {l:List Int} {f:Int->Bool} {i:Nat} {x:Int} (h:l[i]? =some x) (hx:f x=true) (ha:(l.take i).all f=true):(l.take (i+1)).all f=true:=by
 rw [take_next h,List.all_append,ha]
 simp [hx]
section
variable {X Y : Type} {tA tG : TypeId} {EA : World -> (Nat -> Prop) -> Value -> X -> Prop} {EG : World -> (Nat -> Prop) -> Value -> Y -> Prop} {loA loG : Nat -> Prop} {D i ca cg ca' cg' : Nat} {wd u w1 v w2 : World} {Ax Ag A' G' : Option Addr} {LA : List X} {LG : List Y} {za zg : Value} {xa : X} {xg : Y} {ZA ZG : List Value}
theorem Two.pushF {Fa Fb:Nat->Prop} (hA:Hands EA) (hG:Hands EG) (h:Two tA tG EA EG loA loG D wd Ax ca Ag cg i LA LG) (hD:D<=wd.heap.size)
  (a1:ZA.length=LA.length) (a2:wd.ownsRow D tA 1 (.slice Ax i ca) i (rmCells (fun _=>[]) LA ZA)) (a3: ∀(j:Nat) z x,ZA[j]? =some z->LA[j]? =some x->EA wd (fun b=>loA b/\b<wd.heap.size/\(Value.slice Ax i ca).ownBlock≠some b) z x)
  (g1:ZG.length=LG.length) (g2:wd.ownsRow D tG 1 (.slice Ag i cg) i (rmCells (fun _=>[]) LG ZG)) (g3: ∀(j:Nat) z x,ZG[j]? =some z->LG[j]? =some x->EG wd (fun b=>loG b/\b<wd.heap.size/\(Value.slice Ag i cg).ownBlock≠some b) z x)
  (hrb: ∀b,Fa b->D<=b/\b<wd.heap.size/\(Value.slice Ax i ca).ownBlock≠some b/\(Value.slice Ag i cg).ownBlock≠some b) (htb: ∀b,Fb b->D<=b/\b<wd.heap.size/\(Value.slice Ax i ca).ownBlock≠some b/\(Value.slice Ag i cg).ownBlock≠some b)
  (ra:EA wd Fa za xa) (rg:EG wd Fb zg xg)
  (b1:Below wd.heap.size wd u) (o1:w1.ownsRow D tA 1 (.slice A' (i+1) ca') (i+1) (rmCells (fun _=>[]) LA ZA++[za])) (r1:u.grownBy w1 (Value.slice Ax i ca).ownBlock) (h1:(Value.slice A' (i+1) ca').ownBlock=(Value.slice Ax i ca).ownBlock\/(Value.slice A' (i+1) ca').ownBlock=some u.heap.size)
  (b2:Below w1.heap.size w1 v) (o2:w2.ownsRow D tG 1 (.slice G' (i+1) cg') (i+1) (rmCells (fun _=>[]) LG ZG++[zg])) (r2:v.grownBy w2 (Value.slice Ag i cg).ownBlock) (h2:(Value.slice G' (i+1) cg').ownBlock=(Value.slice Ag i cg).ownBlock\/(Value.slice G' (i+1) cg').ownBlock=some v.heap.size):
  Two tA tG EA EG (fun b=>loA b\/Fa b) (fun b=>loG b\/Fb b) D w2 A' ca' G' cg' (i+1) (LA++[xa]) (LG++[xg])/\Below D wd w2:=by
 have hoA: ∀b,(Value.slice Ax i ca).ownBlock=some b->D<=b/\b<wd.heap.size:=fun b e=>a2.lt b e
 have hoG: ∀b,(Value.slice Ag i cg).ownBlock=some b->D<=b/\b<wd.heap.size:=fun b e=>g2.lt b e
 have t1:Touch (fun k=>(Value.slice Ax i ca).ownBlock=some k) u w1:=(Touch.refl _ _).grown r1 (fun k e _=>e)
 have t2:Touch (fun k=>(Value.slice Ag i cg).ownBlock=some k) v w2:=(Touch.refl _ _).grown r2 (fun k e _=>e)
 have s1:=b1.size
 have s2:=t1.size
 have s3:=b2.size
 have s4:=t2.size
 have ra':EA wd (fun b=>(loA b\/Fa b)/\b<wd.heap.size/\(Value.slice Ax i ca).ownBlock≠some b) za xa:=hA.mono ra fun b hb=>⟨.inr hb,(hrb b hb).2.1,(hrb b hb).2.2.1⟩
 obtain⟨p1,q1,-⟩:=RM.push (pre:=fun _:X=>[]) (lo:=fun b=>loA b\/Fa b) (w1:=wd) hA h.a.hn a1 a2 (fun j z x hz hx=>hA.mono (a3 j z x hz hx) fun b hb=>⟨.inl hb.1,hb.2⟩) hD ra' (Below.refl _ _) b1 o1 r1 h1
 -- the other row,from wd tq9 w1
 have gg:RM tG 1 (fun _:Y=>[]) EG loG D u Ag i cg LG:=h.g.below hG b1
 have gg1:RM tG 1 (fun _:Y=>[]) EG (fun b=>loG b\/Fb b) D w1 Ag i cg LG:=(gg.touch hG t1 (fun b e e'=>h.ne b e' e) (fun b hb _ e=>(h.lG b hb).2.2.1 e)).lo hG fun b hb=> .inl hb
 obtain⟨ZG',k1,k2,k3⟩:=gg1.ex
 have eZ:rmCells (fun _:Y=>[]) LG ZG'=rmCells (fun _:Y=>[]) LG ZG:=by
  have e1:w1.ownsRow D tG 1 (.slice Ag i cg) i (rmCells (fun _=>[]) LG ZG):=t1.own (own_below' g2 b1) fun b e e'=>h.ne b e' e
  exact own_unique k2 e1
 rw [<-eZ]at o2
 have rg1:EG w1 (fun b=>(loG b\/Fb b)/\b<w1.heap.size/\(Value.slice Ag i cg).ownBlock≠some b) zg xg:=hG.mono (hG.touch (hG.touch rg (Touch.of_size b1 (fun _=>False)) (fun _ _ e=>e)) t1 (fun b hb e=>(htb b hb).2.2.1 e)) fun b hb=>⟨.inr hb,by have:=(htb b hb).2.1;omega,(htb b hb).2.2.2⟩
 obtain⟨p2,q2,-⟩:=RM.push (pre:=fun _:Y=>[]) (lo:=fun b=>loG b\/Fb b) (w1:=w1) hG gg1.hn k1 k2 k3 (by omega) rg1 (Below.refl _ _) b2 o2 r2 h2
 -- the first row,from w1 tq9 w2
 have hA': ∀b,(Value.slice A' (i+1) ca').ownBlock=some b->(Value.slice Ax i ca).ownBlock=some b\/(b=u.heap.size/\b<w1.heap.size):=fun b e=>by
  rcases h1 with hh|hh
  ·exact .inl (hh▸e)
  ·have:=o1.lt b e
   rw [hh]at e;injection e with e;exact .inr ⟨e.symm,this.2⟩
 have hG': ∀b,(Value.slice G' (i+1) cg').ownBlock=some b->(Value.slice Ag i cg).ownBlock=some b\/b=v.heap.size:=fun b e=>by
  rcases h2 with hh|hh
  ·exact .inl (hh▸e)
  ·rw [hh]at e;injection e with e;exact .inr e.symm
 have p1v:=p1.below hA b2
 have p1':=p1v.touch hA t2 (fun b e e'=>by
  rcases hA' b e with hh|hh
  ·exact h.ne b hh e'
  ·have:=hoG b e';omega) (fun b hb _ e'=>by
  rcases hb with hb|hb
  ·exact(h.lA b hb).2.2.2 e'
  ·exact(hrb b hb).2.2.2 e')
 have cA: ∀b,D<=b/\b<wd.heap.size/\(Value.slice Ax i ca).ownBlock≠some b/\(Value.slice Ag i cg).ownBlock≠some b->D<=b/\b<w2.heap.size/\(Value.slice A' (i+1) ca').ownBlock≠some b/\(Value.slice G' (i+1) cg').ownBlock≠some b:=fun b hb=>by
  refine⟨hb.1,by omega,fun e=> ?_,fun e=> ?_⟩
  ·rcases hA' b e with hh|hh
   ·exact hb.2.2.1 hh
   ·omega
  ·rcases hG' b e with hh|hh
   ·exact hb.2.2.2 hh
   ·omega
 refine⟨⟨p1',p2,fun b hb=>cA b ?_,fun b hb=>cA b ?_,fun b e e'=> ?_⟩,?_⟩
 ·rcases hb with hb|hb
  ·exact h.lA b hb
  ·exact hrb b hb
 ·rcases hb with hb|hb
  ·exact h.lG b hb
  ·exact htb b hb
 ·rcases hA' b e with hh|hh
  ·rcases hG' b e' with kk|kk
   ·exact h.ne b hh kk
   ·have:=hoA b hh;omega
  ·rcases hG' b e' with kk|kk
   ·have:=hoG b kk;omega
   ·omega
 ·exact q1.trans (q2.mono (Nat.le_refl _))
end
set_option maxRecDepth 100000 in
set_option maxHeartbeats 8000000 in
theorem pack_open {w:World} {F:Nat->Prop} {v1 v2 v3 v4 v5:Value} {p:PackD} (h:IsPack w F v1 v2 v3 v4 v5 p) (hl:LenP p):
  Calls Tryz.prog 62 #[PV v1 p.terms p.nons v2 v3 v4 v5] w (OpenPost w F p):=by
 obtain⟨A1,c1,A2,c2,A3,c3,A4,c4,A5,c5,rfl,rfl,rfl,rfl,rfl,k1,k2,k3,k4,k5⟩:=h.slices
 have hF:=h.lt
 obtain⟨w1,hw1⟩: ∃q,q=w.alloc (.cells #[.slice A1 p.rules.length c1,.int .i64 p.terms,.int .i64 p.nons,.slice A2 p.row.length c2,.slice A3 p.rows.length c3,.slice A4 p.gow.length c4,.slice A5 p.gows.length c5] 26):=⟨_,rfl⟩
 have g1:=PBox.new h p.terms p.nons
 rw [<-hw1]at g1
 have b1:Below w.heap.size w w1:=by rw [hw1];exact(Below.refl _ w).alloc (Nat.le_refl _) _
 have hz1:w1.heap.size=w.heap.size+1:=by rw [hw1];simp
 obtain⟨w2,hw2⟩: ∃q,q=w1.alloc (.cells #[.slice none 0 0,.int .i64 0,.int .i64 0,.slice none 0 0,.slice none 0 0] 44):=⟨_,rfl⟩
 have b2:Below w1.heap.size w1 w2:=by rw [hw2];exact(Below.refl _ _).alloc (Nat.le_refl _) _
 have kr2:Blk w2 w1.heap.size 44 #[.slice none 0 0,.int .i64 0,.int .i64 0,.slice none 0 0,.slice none 0 0]:=by rw [hw2];exact Blk.new _ _ _
 rw [hz1]at kr2
 have hz2:w2.heap.size=w.heap.size+2:=by rw [hw2,World.size_alloc,hz1]
 obtain⟨w4,hw4⟩: ∃q,q=w2.alloc (.cells #[.slice A1 p.rules.length c1,.int .i64 p.terms,.int .i64 p.nons,.slice none 0 0,.slice none 0 0] 44):=⟨_,rfl⟩
 have b4:Below w2.heap.size w2 w4:=by rw [hw4];exact(Below.refl _ _).alloc (Nat.le_refl _) _
 have kT:Blk w4 w2.heap.size 44 #[.slice A1 p.rules.length c1,.int .i64 p.terms,.int .i64 p.nons,.slice none 0 0,.slice none 0 0]:=by rw [hw4];exact Blk.new _ _ _
 rw [hz2]at kT
 have hz4:w4.heap.size=w.heap.size+3:=by rw [hw4,World.size_alloc,hz2]
 have g2:=g1.below b2
 have g4:=g2.below b4
 have kr4:=kr2.below b4 kr2.lt
 have bb4:=(b1.trans (b2.mono b1.size)).trans (b4.mono (Nat.le_trans b1.size b2.size))
 have hRP:rowsP p=(decide (p.row.length=p.gow.length)&&(p.row.all (inR p.rows.length)&&p.gow.all (inR p.gows.length))):=rfl
 have htn:=h.tn
 have hwr:=h.wr
 obtain⟨q0,q1,q2,q3,q4,q5,q6⟩:=g4.cells
 obtain⟨s0,s1,s2,s3,s4,s5,s6⟩:=g2.cells
 generalize hT:p.terms=T at *
 generalize hN:p.nons=N at *
 generalize hn1:p.rules.length=n1 at *
 generalize hn2:p.row.length=n2 at *
 generalize hn3:p.rows.length=n3 at *
 generalize hn4:p.gow.length=n4 at *
 generalize hn5:p.gows.length=n5 at *
 obtain⟨k11,k12⟩:=k1
 obtain⟨k21,k22⟩:=k2
 obtain⟨k31,k32⟩:=k3
 obtain⟨k41,k42⟩:=k4
 obtain⟨k51,k52⟩:=k5
 have d0:=(kr4.cell 0).trans rfl
 have d1:=(kr4.cell 1).trans rfl
 have d2:=(kr4.cell 2).trans rfl
 have d3:=(kr4.cell 3).trans rfl
 have d4:=(kr4.cell 4).trans rfl
 have f0:=kr4.frozen 0
 have f1:=kr4.frozen 1
 have f2:=kr4.frozen 2
 have f3:=kr4.frozen 3
 have f4:=kr4.frozen 4
 rw [hw2,hw1]at hw4
 rw [hw2,hw1]at s0 s1 s2 s3 s4 s5 s6
 rw [hw4]at q0 q1 q2 q3 q4 q5 q6 d0 d1 d2 d3 d4 f0 f1 f2 f3 f4
 clear h g1 g2 b1 b2 b4 kr2 hz1 hz2 hw1 hw2
 by_cases hnn:n2=n4
 ·subst hnn
  have hnn':((n2:Int) !=(n2:Int))=false:=by simp
  clear d0 d1 d2 d3 d4 f0 f1 f2 f3 f4
  obtain⟨Xhl,XhF,Xg4,XkT,Xkr4,Xbb4,XhRP,XhT,XhN,Xhn1,Xhn2,Xhn3,Xhn4,Xhn5⟩:=HqZ14 hl hF g4 kT kr4 bb4 hRP hT hN hn1 hn2 hn3 hn4 hn5;obtain⟨Xhtn,Xhwr,Xhz4⟩:=HqZ3 htn hwr hz4;clear hl hF g4 kT kr4 bb4 hRP hT hN hn1 hn2 hn3 hn4 hn5 htn hwr hz4
  go_enter Tryz.func62,Tryz.ntmps62
  go_wp2_with fail
  rw [<-hw4]
  obtain⟨Bt,hBt⟩: ∃q,q=w.heap.size+1+1:=⟨_,rfl⟩
  obtain⟨D2,hD2⟩: ∃q,q=w4.heap.size:=⟨_,rfl⟩
  have hBtD:Bt<D2:=by rw [hD2,Xhz4.out,hBt];omega
  have hwB:w.heap.size+1<Bt:=by omega
  have kT0:Blk w4 Bt 44 #[.slice A1 n1 c1,.int .i64 T,.int .i64 N,.slice none 0 0,.slice none 0 0]:=by rw [hBt];exact XkT.out
  rw [<-hBt]
  obtain⟨S2,hS2⟩: ∃S:Nat->Prop,S=fun b=>b=Bt\/D2<=b:=⟨_,rfl⟩
  have sB:S2 Bt:=by rw [hS2];exact .inl rfl
  have sD: ∀k,D2<=k->S2 k:=fun k hk=>by rw [hS2];exact .inr hk
  have sF: ∀k,k<D2->k≠Bt-> ¬S2 k:=fun k h1 h2 h=>by
   rw [hS2]at h
   rcases h with h|h<;>omega
  have tt0:Touch S2 w4 w4:=Touch.refl _ _
  have two0:Two 93 23 (fun w F (z:Value) (x:List Ac)=>RdIt w F z x) (fun w F (z:Value) (x:List Int)=>RdI w F z x) (fun _=>False) (fun _=>False) D2 w4 none 0 none 0 0 ((p.row.take 0).map (rowPA p)) ((p.gow.take 0).map (rowPG p)):=⟨RM.nil _ _ _,RM.nil _ _ _,fun b h=>h.elim,fun b h=>h.elim,fun b h=>by cases h⟩
  have ok0:(p.row.take 0).all (inR n3)=true:=rfl
  have ok1:(p.gow.take 0).all (inR n5)=true:=rfl
  clear hBt hw4 q0 q1 q2 q3 q4 q5 q6 s0 s1 s2 s3 s4 s5 s6 hS2 XkT
  obtain⟨XsB,XsD,XsF,Xtt0,Xtwo0,XhBtD,XhwB,XkT0,XhD2,Xok0,Xok1⟩:=HqZ11 sB sD sF tt0 two0 hBtD hwB kT0 hD2 ok0 ok1;clear sB sD sF tt0 two0 hBtD hwB kT0 hD2 ok0 ok1
  go_loopw [30] (fun iv wr=> ∃(i ca' cg':Nat) (Ax Ag:Option Addr) (loA loG:Nat->Prop),i<=n2/\iv= .int .i64 (i:Int)/\Touch S2 w4 wr/\Blk wr Bt 44 #[.slice A1 n1 c1,.int .i64 T,.int .i64 N,.slice Ax i ca',.slice Ag i cg']/\
   Two 93 23 (fun w F (z:Value) (x:List Ac)=>RdIt w F z x) (fun w F (z:Value) (x:List Int)=>RdI w F z x) loA loG D2 wr Ax ca' Ag cg' i ((p.row.take i).map (rowPA p)) ((p.gow.take i).map (rowPG p))/\(p.row.take i).all (inR n3)=true/\(p.gow.take i).all (inR n5)=true) (fun iv _=>n2 - (intOf iv).toNat)
  case atStart=>exact⟨0,0,0,none,none,fun _=>False,fun _=>False,Nat.zero_le _,rfl,Xtt0.out,XkT0.out,Xtwo0.out,Xok0.out,Xok1.out⟩
  case round=>
   clear Xtt0 XkT0 Xtwo0 Xok0 Xok1
   obtain⟨i,ca',cg',Ax,Ag,loA,loG,hi,rfl,hS,kT,two,hokR,hokG⟩:=hrel
   obtain⟨V,rfl⟩: ∃x,x=wr:=⟨_,rfl⟩
   have gW:=Xg4.out.touch hS (fun b hb=>XsF.out b (by have:=XhF.out b hb;have:=XhBtD.out;have:=XhwB.out;omega) (by have:=XhF.out b hb;have:=XhwB.out;omega)) (XsF.out _ (by have:=XhBtD.out;have:=XhwB.out;omega) (by have:=XhwB.out;omega))
   have krW:=Xkr4.out.touch hS (XsF.out _ (by have:=XhBtD.out;have:=XhwB.out;omega) (by have:=XhwB.out;omega))
   have hDw:D2<=V.heap.size:=by rw [XhD2.out];exact hS.size
   have bW:Below w.heap.size w V:=hS.toBelow (fun b hb=>by
    rcases Nat.lt_or_ge b D2 with h1|h1
    ·by_cases e:b=Bt
     ·have:=XhwB.out;omega
     ·exact absurd hb (XsF.out b h1 e)
    ·have:=XhwB.out;have:=XhBtD.out;omega) Xbb4.out Xbb4.out.size
   obtain⟨q0,q1,q2,q3,q4,q5,q6⟩:=gW.cells
   have hn70:n2<=70000:=by have:=Xhl.out.1;rw [Xhn2.out]at this;exact this
   by_cases hlt:i<n2
   ·have hlt':(i:Int)<(n2:Int):=by omega
    obtain⟨x,hx⟩: ∃x,p.row[i]? =some x:=⟨_,List.getElem?_eq_getElem (by rw [Xhn2.out];exact hlt)⟩
    obtain⟨y,hy⟩: ∃y,p.gow[i]? =some y:=⟨_,List.getElem?_eq_getElem (by rw [Xhn4.out];exact hlt)⟩
    obtain⟨-,-,-,hc1⟩:=RdI.at_ gW.pk.row
    obtain⟨bR,oR,rfl,-,hcR⟩:=hc1 (by omega)
    obtain⟨-,-,-,hc2⟩:=RdI.at_ gW.pk.gow
    obtain⟨bG,oG,rfl,-,hcG⟩:=hc2 (by omega)
    have px:=hcR i x hx
    have py:=hcG i y hy
    have d0:=(krW.cell 0).trans rfl
    have d1:=(krW.cell 1).trans rfl
    have d2:=(krW.cell 2).trans rfl
    have d3:=(krW.cell 3).trans rfl
    have d4:=(krW.cell 4).trans rfl
    have f0:=krW.frozen 0
    have f1:=krW.frozen 1
    have f2:=krW.frozen 2
    have f3:=krW.frozen 3
    have f4:=krW.frozen 4
    have hi0:(0:Int)<=(i:Int):=by omega
    clear hc1 hcR hc2 hcG
    by_cases hx0:x<0
    ·skip
     have hno:rowsP p=false:=by
      rw [XhRP.out]
      rw [all_notP hx (inR_no (.inl hx0))];simp
     have Xhno:=hide hno;clear hno;obtain⟨XhS,XkT,Xtwo,XhokR,XhokG,XgW⟩:=HqZ6 hS kT two hokR hokG gW;clear hS kT two hokR hokG gW;obtain⟨Xkr2,Xbw2⟩:=HqZ2 krW bW;clear krW bW
     go_wp2_with fail
     refine region_reads (by kernel_rfl) (by kernel_rfl) ?_
     repeat still_step
     refine wpStill_nil ?_
     go_wp2_with fail
     have k5:=((((Xkr2.out.put 0 (.slice none 0 0)).put 1 (.int .i64 0)).put 2 (.int .i64 0)).put 3 (.slice none 0 0)).put 4 (.slice none 0 0)
     have e0:=(k5.cell 0).trans rfl
     have e1:=(k5.cell 1).trans rfl
     have e2:=(k5.cell 2).trans rfl
     have e3:=(k5.cell 3).trans rfl
     have e4:=(k5.cell 4).trans rfl
     have t5:=touch_five V (w.heap.size+1) (.slice none 0 0) (.int .i64 0) (.int .i64 0) (.slice none 0 0) (.slice none 0 0)
     refine bodyPost_ret (v:= .tuple #[TV (.slice none 0 0) 0 0 (.slice none 0 0) (.slice none 0 0),.bool false]) (by simp [results,Tryz.results62,go_sem,e0,e1,e2,e3,e4]) rfl ?_
     have b5:=t5.toBelow (fun k e=>by omega) Xbw2.out Xbw2.out.size
     refine⟨by first|exact b5|exact b5.drew,_,_,_,by rw [rows_no Xhno.out,Xhno.out];rfl,?_⟩
     rw [rows_no Xhno.out]
     exact IsTab.none _ _ (fun b hb=>hb.2)
    ·by_cases hxn:(n3:Int)<=x
     ·skip
      have hno:rowsP p=false:=by
       rw [XhRP.out]
       rw [all_notP hx (inR_no (.inr hxn))];simp
      have Xhno:=hide hno;clear hno;obtain⟨XhS,XkT,Xtwo,XhokR,XhokG,XgW⟩:=HqZ6 hS kT two hokR hokG gW;clear hS kT two hokR hokG gW;obtain⟨Xkr2,Xbw2⟩:=HqZ2 krW bW;clear krW bW
      go_wp2_with fail
      refine region_reads (by kernel_rfl) (by kernel_rfl) ?_
      repeat still_step
      refine wpStill_nil ?_
      go_wp2_with fail
      have k5:=((((Xkr2.out.put 0 (.slice none 0 0)).put 1 (.int .i64 0)).put 2 (.int .i64 0)).put 3 (.slice none 0 0)).put 4 (.slice none 0 0)
      have e0:=(k5.cell 0).trans rfl
      have e1:=(k5.cell 1).trans rfl
      have e2:=(k5.cell 2).trans rfl
      have e3:=(k5.cell 3).trans rfl
      have e4:=(k5.cell 4).trans rfl
      have t5:=touch_five V (w.heap.size+1) (.slice none 0 0) (.int .i64 0) (.int .i64 0) (.slice none 0 0) (.slice none 0 0)
      refine bodyPost_ret (v:= .tuple #[TV (.slice none 0 0) 0 0 (.slice none 0 0) (.slice none 0 0),.bool false]) (by simp [results,Tryz.results62,go_sem,e0,e1,e2,e3,e4]) rfl ?_
      have b5:=t5.toBelow (fun k e=>by omega) Xbw2.out Xbw2.out.size
      refine⟨by first|exact b5|exact b5.drew,_,_,_,by rw [rows_no Xhno.out,Xhno.out];rfl,?_⟩
      rw [rows_no Xhno.out]
      exact IsTab.none _ _ (fun b hb=>hb.2)
     ·by_cases hy0:y<0
      ·skip
       have hno:rowsP p=false:=by
        rw [XhRP.out]
        rw [all_notP hy (inR_no (.inl hy0))];simp
       have Xhno:=hide hno;clear hno;obtain⟨XhS,XkT,Xtwo,XhokR,XhokG,XgW⟩:=HqZ6 hS kT two hokR hokG gW;clear hS kT two hokR hokG gW;obtain⟨Xkr2,Xbw2⟩:=HqZ2 krW bW;clear krW bW
       go_wp2_with fail
       refine region_reads (by kernel_rfl) (by kernel_rfl) ?_
       repeat still_step
       refine wpStill_nil ?_
       go_wp2_with fail
       have k5:=((((Xkr2.out.put 0 (.slice none 0 0)).put 1 (.int .i64 0)).put 2 (.int .i64 0)).put 3 (.slice none 0 0)).put 4 (.slice none 0 0)
       have e0:=(k5.cell 0).trans rfl
       have e1:=(k5.cell 1).trans rfl
       have e2:=(k5.cell 2).trans rfl
       have e3:=(k5.cell 3).trans rfl
       have e4:=(k5.cell 4).trans rfl
       have t5:=touch_five V (w.heap.size+1) (.slice none 0 0) (.int .i64 0) (.int .i64 0) (.slice none 0 0) (.slice none 0 0)
       refine bodyPost_ret (v:= .tuple #[TV (.slice none 0 0) 0 0 (.slice none 0 0) (.slice none 0 0),.bool false]) (by simp [results,Tryz.results62,go_sem,e0,e1,e2,e3,e4]) rfl ?_
       have b5:=t5.toBelow (fun k e=>by omega) Xbw2.out Xbw2.out.size
       refine⟨by first|exact b5|exact b5.drew,_,_,_,by rw [rows_no Xhno.out,Xhno.out];rfl,?_⟩
       rw [rows_no Xhno.out]
       exact IsTab.none _ _ (fun b hb=>hb.2)
      ·by_cases hyn:(n5:Int)<=y
       ·skip
        have hno:rowsP p=false:=by
         rw [XhRP.out]
         rw [all_notP hy (inR_no (.inr hyn))];simp
        have Xhno:=hide hno;clear hno;obtain⟨XhS,XkT,Xtwo,XhokR,XhokG,XgW⟩:=HqZ6 hS kT two hokR hokG gW;clear hS kT two hokR hokG gW;obtain⟨Xkr2,Xbw2⟩:=HqZ2 krW bW;clear krW bW
        go_wp2_with fail
        refine region_reads (by kernel_rfl) (by kernel_rfl) ?_
        repeat still_step
        refine wpStill_nil ?_
        go_wp2_with fail
        have k5:=((((Xkr2.out.put 0 (.slice none 0 0)).put 1 (.int .i64 0)).put 2 (.int .i64 0)).put 3 (.slice none 0 0)).put 4 (.slice none 0 0)
        have e0:=(k5.cell 0).trans rfl
        have e1:=(k5.cell 1).trans rfl
        have e2:=(k5.cell 2).trans rfl
        have e3:=(k5.cell 3).trans rfl
        have e4:=(k5.cell 4).trans rfl
        have t5:=touch_five V (w.heap.size+1) (.slice none 0 0) (.int .i64 0) (.int .i64 0) (.slice none 0 0) (.slice none 0 0)
        refine bodyPost_ret (v:= .tuple #[TV (.slice none 0 0) 0 0 (.slice none 0 0) (.slice none 0 0),.bool false]) (by simp [results,Tryz.results62,go_sem,e0,e1,e2,e3,e4]) rfl ?_
        have b5:=t5.toBelow (fun k e=>by omega) Xbw2.out Xbw2.out.size
        refine⟨by first|exact b5|exact b5.drew,_,_,_,by rw [rows_no Xhno.out,Xhno.out];rfl,?_⟩
        rw [rows_no Xhno.out]
        exact IsTab.none _ _ (fun b hb=>hb.2)
       ·obtain⟨xj,rfl⟩:=Int.eq_ofNat_of_zero_le (by omega:0<=x)
        obtain⟨yj,rfl⟩:=Int.eq_ofNat_of_zero_le (by omega:0<=y)
        obtain⟨rx,hrx⟩: ∃r,p.rows[xj]? =some r:=⟨_,List.getElem?_eq_getElem (by rw [Xhn3.out];omega)⟩
        obtain⟨ry,hry⟩: ∃r,p.gows[yj]? =some r:=⟨_,List.getElem?_eq_getElem (by rw [Xhn5.out];omega)⟩
        obtain⟨b3,o3,Arx,crx,rfl,-,cx,rdx,-,mx⟩:=RdUs.row gW.pk.rows hrx
        obtain⟨b5,o5,Ary,cry,rfl,-,cy,rdy,-,my⟩:=RdUs.row gW.pk.gows hry
        unfold maxLen at mx my
        have hxn':(xj:Int)<(n3:Int):=by omega
        have hyn':(yj:Int)<(n5:Int):=by omega
        have ix:inR n3 (xj:Int)=true:=by unfold inR;rw [decide_eq_true (by omega:(0:Int)<=xj),decide_eq_true hxn'];rfl
        have iy:inR n5 (yj:Int)=true:=by unfold inR;rw [decide_eq_true (by omega:(0:Int)<=yj),decide_eq_true hyn'];rfl
        have hokR2:=take_all hx ix hokR
        have hokG2:=take_all hy iy hokG
        have hnA:(p.row.take (i+1)).map (rowPA p)=(p.row.take i).map (rowPA p)++[rowPA p (xj:Int)]:=by rw [take_next hx,List.map_append];rfl
        have hnG:(p.gow.take (i+1)).map (rowPG p)=(p.gow.take i).map (rowPG p)++[rowPG p (yj:Int)]:=by rw [take_next hy,List.map_append];rfl
        have eA:rowPA p (xj:Int)=rx.map actC:=by unfold rowPA;rw [List.getD_eq_getElem?_getD,Int.toNat_natCast,hrx];rfl
        have eG:rowPG p (yj:Int)=ry.map fun n=>n - 1:=by unfold rowPG;rw [List.getD_eq_getElem?_getD,Int.toNat_natCast,hry];rfl
        have hux:=gW.pk.u1 rx (List.mem_of_getElem? hrx)
        have huy:=gW.pk.u2 ry (List.mem_of_getElem? hry)
        have hlx:=Xhl.out.2.1 rx (List.mem_of_getElem? hrx)
        have hly:=Xhl.out.2.2 ry (List.mem_of_getElem? hry)
        obtain⟨nx,hnx⟩: ∃q,q=rx.length:=⟨_,rfl⟩
        obtain⟨ny,hny⟩: ∃q,q=ry.length:=⟨_,rfl⟩
        rw [<-hnx]at cx rdx hlx
        rw [<-hny]at cy rdy hly
        have lFx: ∀b,F b->b<V.heap.size:=gW.pk.lt
        have h00:V.ownsRow V.heap.size 99 2 (.slice none 0 0) 0 (itCells ((rx.take 0).map actC)):=World.ownsRow_nil _ _ _ _
        have hx00: ¬(xj:Int)<0:=by omega
        have hxn2: ¬(n3:Int)<=(xj:Int):=by omega
        have hxn3: ¬n3<=xj:=by omega
        have hyn3: ¬n5<=yj:=by omega
        have hxn4:xj<n3:=by omega
        have hyn4:yj<n5:=by omega
        have hyn2: ¬(n5:Int)<=(yj:Int):=by omega
        have hy00: ¬(yj:Int)<0:=by omega
        have ld:Below V.heap.size V V.drew.drew:=((Below.refl _ V).drew).drew
        clear d0 d1 d2 d3 d4 f0 f1 f2 f3 f4 hrx hry ix iy hokR hokG hx hy hx0 hxn hy0 hyn
        obtain⟨XhS,XkT,Xtwo,XgW,XkrW,XbW,Xrdx,Xrdy,XhokR2,XhokG2,XhnA,XhnG,XeA,XeG⟩:=HqZ14 hS kT two gW krW bW rdx rdy hokR2 hokG2 hnA hnG eA eG;obtain⟨Xhux,Xhuy,Xhnx,Xhny,XlFx,Xh00,Xld⟩:=HqZ7 hux huy hnx hny lFx h00 ld;clear hS kT two gW krW bW rdx rdy hokR2 hokG2 hnA hnG eA eG hux huy hnx hny lFx h00 ld
        iterate 2
         go_wp2_with fail
         refine region_reads (by kernel_rfl) (by kernel_rfl) ?_
         repeat still_step
         refine wpStill_nil ?_
        go_wp2_with fail
        go_loopw [6,80] (fun ov iv wx=> ∃(k c:Nat) (A:Option Addr),k<=nx/\ov= .slice A k c/\iv= .int .i64 (k:Int)/\Below V.heap.size V wx/\wx.ownsRow V.heap.size 99 2 (.slice A k c) k (itCells ((rx.take k).map actC))) (fun _ iv _=>nx - (intOf iv).toNat)
        case atStart=>exact⟨0,0,none,Nat.zero_le _,rfl,rfl,Xld.out,Xh00.out⟩
        case round=>
         clear Xh00 Xld
         obtain⟨k,c,A,hk,rfl,rfl,le,own⟩:=hrel
         by_cases hlk:k<nx
         ·have hlk':(k:Int)<(nx:Int):=by omega
          obtain⟨a,ha⟩: ∃a,rx[k]? =some a:=⟨_,List.getElem?_eq_getElem (by rw [<-Xhnx.out];exact hlk)⟩
          have ha2:=Xhux.out a (List.mem_of_getElem? ha)
          obtain⟨-,-,-,hcell⟩:=RdU.at_ (Rd.below Xrdx.out le XlFx.out)
          obtain⟨b7,o7,rfl,-,hcc⟩:=hcell (by omega)
          have p0:=hcc k a ha
          have ca:=fun W=>pack_act a ha2 W
          have hnb:itCells ((rx.take k).map actC)++itCells [actC a]=itCells ((rx.take (k+1)).map actC):=by rw [take_next ha,List.map_append,itCells_append];rfl
          obtain⟨us,hus⟩: ∃q,q=itCells ((rx.take k).map actC):=⟨_,rfl⟩
          rw [<-hus]at own hnb
          obtain⟨a0,ea0⟩: ∃q,q=a/16384:=⟨_,rfl⟩
          obtain⟨a1,ea1⟩: ∃q,q=a%16384:=⟨_,rfl⟩
          have eac:actC a=(a0,a1):=by unfold actC;rw [ea0,ea1]
          rw [eac]at hnb
          rw [<-ea0,<-ea1]at ca
          clear hcell hcc ha ha2 hus ea0 ea1 eac
          obtain⟨Xle,Xown,Xca,Xhnb⟩:=HqZ4 le own ca hnb;clear le own ca hnb
          go_wp2_with fail
          refine(Xca.out _).mono ?_
          rintro e w6 ⟨rfl,b6⟩
          have le6:=Xle.out.trans (b6.mono Xle.out.size)
          have own6:=own_below' Xown.out b6
          have al7:Below w6.heap.size w6 (w6.alloc (.cells #[.int .i64 a0,.int .i64 a1] 99)):=(Below.refl _ _).alloc (Nat.le_refl _) _
          have own7:=own_below' own6 al7
          have le7:=le6.trans (al7.mono le6.size)
          have rone:Rd (w6.alloc (.cells #[.int .i64 a0,.int .i64 a1] 99)) (fun x=>x=w6.heap.size) (.slice (some ⟨w6.heap.size,0,none⟩) 1 1) 2 (itCells [(a0,a1)]):=Rd.one' (w:=w6) (e:=99) (itCells [(a0,a1)]) 2 rfl
          clear b6 le6 own6 al7 Xca Xle Xown p0
          obtain⟨Xown7,Xle7,Xrone⟩:=HqZ3 own7 le7 rone;clear own7 le7 rone
          go_wp2_with (at_builtin;refine wp_append _ rfl (.tmp 84) (.tmp 87) _ rfl Tryz.elemAct V.heap.size (.slice A k c) k _ rfl Xown7.out _ _ (itCells [(a0,a1)]) 1 rfl rfl Xrone.out (itCells_one _) (by unfold maxLen;omega) (by omega) Xle7.out.size ?_)
          intro A8 c8 w8 own8 g8 hb8
          rw [Xhnb.out]at own8
          have le8:=Xle7.out.grown g8 Xle7.out.size (fun q hq=>(World.ownsRow.lt Xown7.out q hq).1)
          clear g8 hb8 Xown7 Xle7 Xrone Xhnb
          obtain⟨Xown8,Xle8⟩:=HqZ2 own8 le8;clear own8 le8
          go_wp2_with fail
          go_roundw
          case rel=>exact⟨k+1,c8,A8,by omega,rfl,by go_num,Xle8.out,Xown8.out⟩
          case measure=>simp [intOf];omega
         ·have hlk': ¬(k:Int)<(nx:Int):=by omega
          obtain rfl:nx=k:=by omega
          rw [List.take_of_length_le (by rw [<-Xhnx.out];exact Nat.le_refl _),<-XeA.out]at own
          obtain⟨W5,rfl⟩: ∃q,q=wr:=⟨_,rfl⟩
          obtain⟨Aza,rfl⟩: ∃q,q=A:=⟨_,rfl⟩
          obtain⟨cza,rfl⟩: ∃q,q=c:=⟨_,rfl⟩
          have g5:=XgW.out.below le
          have py5:=up_cell le py
          have cy5:=up_cell le cy
          have rdy5:=Rd.below Xrdy.out le XlFx.out
          have h00:W5.ownsRow W5.heap.size 3 1 (.slice none 0 0) 0 (((ry.take 0).map fun n=>n - 1).map (Value.int .i64)):=World.ownsRow_nil _ _ _ _
          have ld:Below W5.heap.size W5 W5.drew:=(Below.refl _ W5).drew
          have lF5: ∀b,F b->b<W5.heap.size:=fun b hb=>Nat.lt_of_lt_of_le (XlFx.out b hb) le.size
          clear q0 q1 q2 q3 q4 q5 q6 px py cx cy Xrdx Xrdy
          obtain⟨q0,q1,q2,q3,q4,q5,q6⟩:=g5.cells
          obtain⟨Xle,Xown,Xg5,Xrdy5,Xh00,Xld,XlF5⟩:=HqZ7 le own g5 rdy5 h00 ld lF5;clear le own g5 rdy5 h00 ld lF5
          go_wp2_with fail
          refine region_reads (by kernel_rfl) (by kernel_rfl) ?_
          repeat still_step
          refine wpStill_nil ?_
          go_wp2_with fail
          go_loopw [9,100] (fun ov iv wx=> ∃(k c:Nat) (A:Option Addr),k<=ny/\ov= .slice A k c/\iv= .int .i64 (k:Int)/\Below W5.heap.size W5 wx/\wx.ownsRow W5.heap.size 3 1 (.slice A k c) k (((ry.take k).map fun n=>n - 1).map (Value.int .i64))) (fun _ iv _=>ny - (intOf iv).toNat)
          case atStart=>exact⟨0,0,none,Nat.zero_le _,rfl,rfl,Xld.out,Xh00.out⟩
          case round=>
           clear Xh00 Xld
           obtain⟨k,c,A,hk,rfl,rfl,le3,own3⟩:=hrel
           by_cases hlk:k<ny
           ·have hlk':(k:Int)<(ny:Int):=by omega
            obtain⟨a,ha⟩: ∃a,ry[k]? =some a:=⟨_,List.getElem?_eq_getElem (by rw [<-Xhny.out];exact hlk)⟩
            obtain⟨ha1,ha2⟩:=Xhuy.out a (List.mem_of_getElem? ha)
            obtain⟨-,-,-,hcell⟩:=RdU.at_ (Rd.below Xrdy5.out le3 XlF5.out)
            obtain⟨b7,o7,rfl,-,hcc⟩:=hcell (by omega)
            have p0:=hcc k a ha
            have hw4:IntKind.i64.wrap a=a:=by rw [IntKind.wrap_i64];omega
            have hw5:IntKind.i64.wrap (a - 1)=a - 1:=by rw [IntKind.wrap_i64];omega
            have hnb:((ry.take k).map fun n=>n - 1).map (Value.int .i64)++[.int .i64 (a - 1)]=((ry.take (k+1)).map fun n=>n - 1).map (Value.int .i64):=by rw [take_next ha,List.map_append,List.map_append];rfl
            obtain⟨us,hus⟩: ∃q,q=((ry.take k).map fun n=>n - 1).map (Value.int .i64):=⟨_,rfl⟩
            rw [<-hus]at own3 hnb
            have al7:Below wr.heap.size wr (wr.alloc (.cells #[.int .i64 (a - 1)] 3)):=(Below.refl _ _).alloc (Nat.le_refl _) _
            have own7:=own_below' own3 al7
            have le7:=le3.trans (al7.mono le3.size)
            have rone:Rd (wr.alloc (.cells #[.int .i64 (a - 1)] 3)) (fun x=>x=wr.heap.size) (.slice (some ⟨wr.heap.size,0,none⟩) 1 1) 1 [.int .i64 (a - 1)]:=Rd.one' (w:=wr) (e:=3) [.int .i64 (a - 1)] 1 rfl
            clear hcell hcc ha hus al7 own3 le3
            obtain⟨Xown7,Xle7,Xrone,Xhnb⟩:=HqZ4 own7 le7 rone hnb;clear own7 le7 rone hnb
            go_wp2_with (at_builtin;refine wp_append _ rfl (.tmp 104) (.tmp 108) _ rfl Tryz.elemInt W5.heap.size (.slice A k c) k _ rfl Xown7.out _ _ [.int .i64 (a - 1)] 1 rfl rfl Xrone.out (by simp [Value.oneCell']) (by unfold maxLen;omega) (by omega) Xle7.out.size ?_)
            intro A8 c8 w8 own8 g8 hb8
            rw [Xhnb.out]at own8
            have le8:=Xle7.out.grown g8 Xle7.out.size (fun q hq=>(World.ownsRow.lt Xown7.out q hq).1)
            clear g8 hb8 Xown7 Xle7 Xrone Xhnb
            obtain⟨Xown8,Xle8⟩:=HqZ2 own8 le8;clear own8 le8
            go_wp2_with fail
            go_roundw
            case rel=>exact⟨k+1,c8,A8,by omega,rfl,by go_num,Xle8.out,Xown8.out⟩
            case measure=>simp [intOf];omega
           ·have hlk': ¬(k:Int)<(ny:Int):=by omega
            obtain rfl:ny=k:=by omega
            rw [List.take_of_length_le (by rw [<-Xhny.out];exact Nat.le_refl _),<-XeG.out]at own3
            obtain⟨Wq,rfl⟩: ∃q,q=wr:=⟨_,rfl⟩
            obtain⟨Azg,rfl⟩: ∃q,q=A:=⟨_,rfl⟩
            obtain⟨czg,rfl⟩: ∃q,q=c:=⟨_,rfl⟩
            have le3d:Below W5.heap.size W5 Wq.drew:=le3.drew
            have hbd:Below V.heap.size V Wq.drew:=Xle.out.trans (le3d.mono Xle.out.size)
            have ownA:=own_below' Xown.out le3d
            have ownG:=ownsRow_drewN own3 1
            have ownG:Wq.drew.ownsRow W5.heap.size 3 1 (.slice Azg ny czg) ny ((rowPG p (yj:Int)).map (Value.int .i64)):=ownG
            have two9:=Xtwo.out.below hands_it hands_i hbd
            obtain⟨za,hza⟩: ∃x,x=Value.slice Aza nx cza:=⟨_,rfl⟩
            obtain⟨zg,hzg⟩: ∃x,x=Value.slice Azg ny czg:=⟨_,rfl⟩
            obtain⟨Fa,hFa⟩: ∃q:Nat->Prop,q=fun b=>(Value.slice Aza nx cza).ownBlock=some b:=⟨_,rfl⟩
            obtain⟨Fb,hFb⟩: ∃q:Nat->Prop,q=fun b=>(Value.slice Azg ny czg).ownBlock=some b:=⟨_,rfl⟩
            have ra:RdIt Wq.drew Fa za (rowPA p (xj:Int)):=by rw [hza,hFa];exact Rd.of_own ownA
            have rg:RdI Wq.drew Fb zg (rowPG p (yj:Int)):=by rw [hzg,hFb];exact Rd.of_own ownG
            have bA:=fun b e=>Xtwo.out.a.block b e
            have bG':=fun b e=>Xtwo.out.g.block b e
            have hrb3: ∀b,Fa b->D2<=b/\b<Wq.drew.heap.size/\(Value.slice Ax i ca').ownBlock≠some b/\(Value.slice Ag i cg').ownBlock≠some b:=fun b hb=>by
             rw [hFa]at hb
             have h1:=ownA.lt b hb
             exact⟨by omega,h1.2,fun e=>by have:=(bA b e).2;omega,fun e=>by have:=(bG' b e).2;omega⟩
            have htb3: ∀b,Fb b->D2<=b/\b<Wq.drew.heap.size/\(Value.slice Ax i ca').ownBlock≠some b/\(Value.slice Ag i cg').ownBlock≠some b:=fun b hb=>by
             rw [hFb]at hb
             have h1:=ownG.lt b hb
             have h2:=Xle.out.size
             exact⟨by omega,h1.2,fun e=>by have:=(bA b e).2;omega,fun e=>by have:=(bG' b e).2;omega⟩
            have kT9:=XkT.out.below hbd XkT.out.lt
            have tt9:=XhS.out.trans' (below_touch hbd (fun q hq=>XsD.out q (Nat.le_trans hDw hq)))
            have hD9:D2<=Wq.drew.heap.size:=Nat.le_trans hDw hbd.size
            obtain⟨Sx,hSx⟩: ∃S:Nat->Prop,S=fun k=>(Value.slice Ax i ca').ownBlock=some k\/(Value.slice Ag i cg').ownBlock=some k:=⟨_,rfl⟩
            have hSl: ∀k,Sx k->D2<=k/\k<V.heap.size:=fun k h=>by
             rw [hSx]at h
             rcases h with h|h
             ·exact bA k h
             ·exact bG' k h
            have hSB: ¬Sx Bt:=fun h=>by have:=hSl _ h;have:=XhBtD.out;omega
            have hS2: ∀k,Sx k->S2 k:=fun k h=>XsD.out k (hSl k h).1
            obtain⟨ZA,ea1,ea2,ea3⟩:=two9.a.ex
            obtain⟨ZG,eg1,eg2,eg3⟩:=two9.g.ex
            have hkx: ∀W,Touch Sx Wq.drew W->W.cell? ⟨Bt,3,none⟩=some (.slice Ax i ca')/\W.cell? ⟨Bt,4,none⟩=some (.slice Ag i cg'):=fun W t=>⟨t.cell (p:=⟨Bt,3,none⟩) (kT9.cell 3) hSB,t.cell (p:=⟨Bt,4,none⟩) (kT9.cell 4) hSB⟩
            have hHead:=hkx _ (Touch.refl _ _)
            have za1: ∀u∈[za],u.oneCell'=true:=by simp [hza,Value.oneCell']
            have zg1: ∀u∈[zg],u.oneCell'=true:=by simp [hzg,Value.oneCell']
            have hSxA: ∀k,(Value.slice Ax i ca').ownBlock=some k->Sx k:=fun k e=>by rw [hSx];exact .inl e
            have hSxG: ∀k,(Value.slice Ag i cg').ownBlock=some k->Sx k:=fun k e=>by rw [hSx];exact .inr e
            have hAl: ∀b,(Value.slice Ax i ca').ownBlock=some b->b<Wq.drew.heap.size:=fun b e=>by have:=(bA b e).2;have:=hbd.size;omega
            rw [<-hza,<-hzg]
            have zaE:=hza
            have zgE:=hzg
            have hokR:=XhokR2.out
            have hokG:=XhokG2.out
            clear hza hzg hSx own3 ownA ownG bA bG' hSl le3 le3d hFa hFb hbd q0 q1 q2 q3 q4 q5 q6 py5 cy5 Xg5 Xrdy5 Xown XgW XkrW XbW
            obtain⟨Xtwo9,XhD9,Xra,Xrg,XkT9,Xtt9,Xhrb3,Xhtb3,XhSB,XhS2,Xea1,Xea2,Xea3,Xeg1⟩:=HqZ14 two9 hD9 ra rg kT9 tt9 hrb3 htb3 hSB hS2 ea1 ea2 ea3 eg1;obtain⟨Xeg2,Xeg3,Xhkx,XhHead,XzaE,XzgE,Xza1,Xzg1,XhSxA,XhSxG,XhAl,XhokR,XhokG⟩:=HqZ13 eg2 eg3 hkx hHead zaE zgE za1 zg1 hSxA hSxG hAl hokR hokG;clear two9 hD9 ra rg kT9 tt9 hrb3 htb3 hSB hS2 ea1 ea2 ea3 eg1 eg2 eg3 hkx hHead zaE zgE za1 zg1 hSxA hSxG hAl hokR hokG
            go_wp2_with fail
            refine wp_region_hq (S:=fun u:World=>u.cell? ⟨Bt,3,none⟩=some (.slice Ax i ca')/\u.cell? ⟨Bt,4,none⟩=some (.slice Ag i cg')) 11 3 (fun j=>Nat.blt j 11) (by kernel_rfl) (by kernel_rfl) ?_ (fun hHeld=> ?_)
            ·exact XhHead.out
            refine tkq (i:=0) (oi:= ?_) (v:= ?_) ?_ (by kernel_rfl) ?_ (Or.inl ⟨?_,?_⟩) (by assumption) ?_;rotate_left 2;(focus((try simp only [gT,gs,gz]);try rfl));(first|exact fun c a w h=>(markPost.panic h).elim|exact fun _ _ _ h=>h);rfl;(focus(intro wS hwS;(try dsimp only at hwS);go_simp;all_goals with_reducible rfl));try simp only [Act.put,sT,s0,s1]
            refine tkq (i:=1) (oi:= ?_) (v:= ?_) ?_ (by kernel_rfl) ?_ (Or.inl ⟨?_,?_⟩) (by assumption) ?_;rotate_left 2;(focus((try simp only [gT,gs,gz]);try rfl));(first|exact fun c a w h=>(markPost.panic h).elim|exact fun _ _ _ h=>h);rfl;(focus(intro wS hwS;(try dsimp only at hwS);go_simp;all_goals with_reducible rfl));try simp only [Act.put,sT,s0,s1]
            refine tkq (i:=2) (oi:= ?_) (v:= ?_) ?_ (by kernel_rfl) ?_ (Or.inl ⟨?_,?_⟩) (by assumption) ?_;rotate_left 2;(focus((try simp only [gT,gs,gz]);try rfl));(first|exact fun c a w h=>(markPost.panic h).elim|exact fun _ _ _ h=>h);rfl;(focus(intro wS hwS;(try dsimp only at hwS);go_simp;all_goals with_reducible rfl));try simp only [Act.put,sT,s0,s1]
            refine tkq (i:=5) (oi:= ?_) (v:= ?_) ?_ (by kernel_rfl) ?_ (Or.inl ⟨?_,?_⟩) (by assumption) ?_;rotate_left 2;(focus((try simp only [gT,gs,gz]);try rfl));(first|exact fun c a w h=>(markPost.panic h).elim|exact fun _ _ _ h=>h);rfl;(focus(intro wS hwS;(try dsimp only at hwS);go_simp;all_goals with_reducible rfl));try simp only [Act.put,sT,s0,s1]
            refine tkq (i:=6) (oi:= ?_) (v:= ?_) ?_ (by kernel_rfl) ?_ (Or.inl ⟨?_,?_⟩) (by assumption) ?_;rotate_left 2;(focus((try simp only [gT,gs,gz]);try rfl));(first|exact fun c a w h=>(markPost.panic h).elim|exact fun _ _ _ h=>h);rfl;(focus(intro wS hwS;(try dsimp only at hwS);go_simp;all_goals with_reducible rfl));try simp only [Act.put,sT,s0,s1]
            refine tkq (i:=7) (oi:= ?_) (v:= ?_) ?_ (by kernel_rfl) ?_ (Or.inl ⟨?_,?_⟩) (by assumption) ?_;rotate_left 2;(focus((try simp only [gT,gs,gz]);try rfl));(first|exact fun c a w h=>(markPost.panic h).elim|exact fun _ _ _ h=>h);rfl;(focus(intro wS hwS;(try dsimp only at hwS);go_simp;all_goals with_reducible rfl));try simp only [Act.put,sT,s0,s1]
            generalize Wq.drew=Wd at *
            have BA:Below Wd.heap.size Wd (Wd.alloc (.cells #[za] 93)):=(Below.refl _ Wd).alloc (Nat.le_refl _) _
            have BG:Below Wd.heap.size Wd (Wd.alloc (.cells #[zg] 23)):=(Below.refl _ Wd).alloc (Nat.le_refl _) _
            have TA:Touch Sx Wd (Wd.alloc (.cells #[za] 93)):=Touch.of_size BA _
            have TG:Touch Sx Wd (Wd.alloc (.cells #[zg] 23)):=Touch.of_size BG _
            have RA:Rd (Wd.alloc (.cells #[za] 93)) (fun x=>x=Wd.heap.size) (.slice (some ⟨Wd.heap.size,0,none⟩) 1 1) 1 [za]:=Rd.one' (w:=Wd) (e:=93) [za] 1 rfl
            have RG:Rd (Wd.alloc (.cells #[zg] 23)) (fun x=>x=Wd.heap.size) (.slice (some ⟨Wd.heap.size,0,none⟩) 1 1) 1 [zg]:=Rd.one' (w:=Wd) (e:=23) [zg] 1 rfl
            have zA:=Nat.le_trans XhD9.out BA.size
            have zG:=Nat.le_trans XhD9.out BG.size
            obtain⟨XBA,XBG,XTA,XTG,XRA,XRG,XzA,XzG⟩:=HqZ8 BA BG TA TG RA RG zA zG;clear BA BG TA TG RA RG zA zG
            refine wpHq_ready (rs:=[3,8]) (by kernel_rfl) (by simp) (by kernel_rfl) ?_
            refine AllReadyQ.cons (o:= ?_) ?_ (fun K hK=> ?_) ?_;rotate_left 1;(focus((try simp only [gT,gs,gz]);try rfl))
            ·refine Tryz.step_RA rfl (.tmp 113) rfl za rfl XzaE.out ?_
             refine hK.out _ _ ?_ (fun hHeld=> ?_)
             ·exact Xhkx.out _ XTA.out
             clear hK K
             try simp only [Act.put,sT,s0,s1]
             refine wpHq_ready (rs:=[4,8]) (by kernel_rfl) (by simp) (by kernel_rfl) ?_
             refine AllReadyQ.cons (o:= ?_) ?_ (fun K hK=> ?_) ?_;rotate_left 1;(focus((try simp only [gT,gs,gz]);try rfl))
             ·skip
              refine step_append _ rfl (.tmp 112) (.tmp 114) _ rfl Tryz.elemRA D2 (.slice Ax i ca') i _ rfl (own_below' Xea2.out XBA.out) _ _ [za] 1 rfl rfl (XRA.out) Xza1.out (by unfold maxLen;omega) (by omega) (XzA.out) ?_
              intro A' ca2 w1 o1 r1 h1
              have T2:Touch Sx Wd w1:=(XTA.out).grown r1 (fun k e _=>XhSxA.out k e)
              have TA1:Touch (fun k=>(Value.slice Ax i ca').ownBlock=some k) _ w1:=(Touch.refl _ _).grown r1 (fun k e _=>e)
              have og:=TA1.own (own_below' Xeg2.out XBA.out) (fun b e e'=>Xtwo9.out.ne b e' e)
              have z1:=Nat.le_trans XhD9.out T2.size
              refine hK.out _ _ ?_ (fun hHeld=> ?_)
              ·exact Xhkx.out _ T2
              clear hK K
              try simp only [Act.put,sT,s0,s1]
              refine tkq (i:=10) (oi:= ?_) (v:= ?_) ?_ (by kernel_rfl) ?_ (Or.inl ⟨?_,?_⟩) (by assumption) ?_;rotate_left 2;(focus((try simp only [gT,gs,gz]);try rfl));(first|exact fun c a w h=>(markPost.panic h).elim|exact fun _ _ _ h=>h);rfl;(focus(intro wS hwS;(try dsimp only at hwS);go_simp;all_goals with_reducible rfl));try simp only [Act.put,sT,s0,s1]
              refine wpHq_ready (rs:=[8]) (by kernel_rfl) (by simp) (by kernel_rfl) ?_
              refine AllReadyQ.cons (o:= ?_) ?_ (fun K hK=> ?_) ?_;rotate_left 1;(focus((try simp only [gT,gs,gz]);try rfl))
              ·refine Tryz.step_RI rfl (.tmp 118) rfl zg rfl XzgE.out ?_
               have B3:Below w1.heap.size w1 (w1.alloc (.cells #[zg] 23)):=(Below.refl _ w1).alloc (Nat.le_refl _) _
               have R3:Rd (w1.alloc (.cells #[zg] 23)) (fun x=>x=w1.heap.size) (.slice (some ⟨w1.heap.size,0,none⟩) 1 1) 1 [zg]:=Rd.one' (w:=w1) (e:=23) [zg] 1 rfl
               have T3:Touch Sx Wd (w1.alloc (.cells #[zg] 23)):=T2.trans' (Touch.of_size B3 _)
               have z3:=Nat.le_trans z1 B3.size
               have og3:=own_below' og B3
               refine hK.out _ _ ?_ (fun hHeld=> ?_)
               ·exact Xhkx.out _ T3
               clear hK K
               try simp only [Act.put,sT,s0,s1]
               refine wpHq_ready (rs:=[9]) (by kernel_rfl) (by simp) (by kernel_rfl) ?_
               refine AllReadyQ.cons (o:= ?_) ?_ (fun K hK=> ?_) ?_;rotate_left 1;(focus((try simp only [gT,gs,gz]);try rfl))
               ·skip
                refine step_append _ rfl (.tmp 117) (.tmp 119) _ rfl Tryz.elemRI D2 (.slice Ag i cg') i _ rfl (og3) _ _ [zg] 1 rfl rfl (R3) Xzg1.out (by unfold maxLen;omega) (by omega) (z3) ?_
                intro G' cg2 w2 o2 r2 h2
                have T4:Touch Sx Wd w2:=(T3).grown r2 (fun k e _=>XhSxG.out k e)
                refine hK.out _ _ ?_ (fun hHeld=> ?_)
                ·exact Xhkx.out _ T4
                clear hK K
                try simp only [Act.put,sT,s0,s1]
                obtain⟨two',bT⟩:=Two.pushF hands_it hands_i Xtwo9.out XhD9.out Xea1.out Xea2.out Xea3.out Xeg1.out Xeg2.out Xeg3.out Xhrb3.out Xhtb3.out Xra.out Xrg.out (XBA.out) o1 r1 h1 (B3) o2 r2 h2
                rw [<-XhnA.out,<-XhnG.out]at two'
                have kT10:=XkT9.out.touch T4 XhSB.out
                have tt10:=Xtt9.out.trans T4 (fun k _ e=>XhS2.out k e)
                have f3:=kT10.frozen 3
                have f4:=kT10.frozen 4
                have p3:=(kT10.cell 3).trans rfl
                have p4:=(kT10.cell 4).trans rfl
                have kT11:=(kT10.put 3 (.slice A' (i+1) ca2)).put 4 (.slice G' (i+1) cg2)
                have tB:Touch (fun k=>k=Bt) w2 ((w2.setCell ⟨Bt,3,none⟩ (.slice A' (i+1) ca2)).setCell ⟨Bt,4,none⟩ (.slice G' (i+1) cg2)):=((Touch.refl (fun k=>k=Bt) w2).setCell (p:=⟨Bt,3,none⟩) (fun _=>rfl) _).setCell (p:=⟨Bt,4,none⟩) (fun _=>rfl) _
                have two11:=two'.touch hands_it hands_i tB (fun b hb _ e=>by have:=XhBtD.out;omega)
                have tt11:=tt10.trans tB (fun k _ e=>by subst e;exact XsB.out)
                clear o1 r1 h1 o2 r2 h2 T2 TA1 og z1 T4 kT10 tt10 two' bT tB
                obtain⟨Xtwo11,Xtt11,XkT11⟩:=HqZ3 two11 tt11 kT11;clear two11 tt11 kT11
                refine wpHq_seq 11 (by rfl) (by kernel_rfl) (by kernel_rfl) ?_
                simp only [List.drop_succ_cons,List.drop_zero]
                go_wp2_with fail
                go_roundw
                case rel=>exact⟨i+1,ca2,cg2,A',G',_,_,by omega,by go_num,Xtt11.out,XkT11.out,Xtwo11.out,XhokR.out,XhokG.out⟩
                case measure=>simp [intOf];omega
               ·exact AllReadyQ.nil
              ·exact AllReadyQ.nil
             ·refine AllReadyQ.cons (o:= ?_) ?_ (fun K hK=> ?_) ?_;rotate_left 1;(focus((try simp only [gT,gs,gz]);try rfl))
              ·refine Tryz.step_RI rfl (.tmp 118) rfl zg rfl XzgE.out ?_
               have B2:Below Wd.heap.size Wd ((Wd.alloc (.cells #[za] 93)).alloc (.cells #[zg] 23)):=XBA.out.alloc XBA.out.size _
               have TB2:Touch Sx Wd ((Wd.alloc (.cells #[za] 93)).alloc (.cells #[zg] 23)):=Touch.of_size B2 _
               have R2:Rd ((Wd.alloc (.cells #[za] 93)).alloc (.cells #[zg] 23)) (fun x=>x=Wd.heap.size) (.slice (some ⟨Wd.heap.size,0,none⟩) 1 1) 1 [za]:=Rd.below XRA.out ((Below.refl (Wd.heap.size+1) _).alloc (by simp) _) (fun k e=>by subst e;simp)
               have RG:Rd ((Wd.alloc (.cells #[za] 93)).alloc (.cells #[zg] 23)) (fun x=>x=(Wd.alloc (.cells #[za] 93)).heap.size) (.slice (some ⟨(Wd.alloc (.cells #[za] 93)).heap.size,0,none⟩) 1 1) 1 [zg]:=Rd.one' (w:=Wd.alloc (.cells #[za] 93)) (e:=23) [zg] 1 rfl
               have z2:=Nat.le_trans XhD9.out B2.size
               refine hK.out _ _ ?_ (fun hHeld=> ?_)
               ·exact Xhkx.out _ TB2
               clear hK K
               try simp only [Act.put,sT,s0,s1]
               refine wpHq_ready (rs:=[4]) (by kernel_rfl) (by simp) (by kernel_rfl) ?_
               refine AllReadyQ.cons (o:= ?_) ?_ (fun K hK=> ?_) ?_;rotate_left 1;(focus((try simp only [gT,gs,gz]);try rfl))
               ·skip
                refine step_append _ rfl (.tmp 112) (.tmp 114) _ rfl Tryz.elemRA D2 (.slice Ax i ca') i _ rfl (own_below' Xea2.out B2) _ _ [za] 1 rfl rfl (R2) Xza1.out (by unfold maxLen;omega) (by omega) (z2) ?_
                intro A' ca2 w1 o1 r1 h1
                have T2:Touch Sx Wd w1:=(TB2).grown r1 (fun k e _=>XhSxA.out k e)
                have TA1:Touch (fun k=>(Value.slice Ax i ca').ownBlock=some k) _ w1:=(Touch.refl _ _).grown r1 (fun k e _=>e)
                have og:=TA1.own (own_below' Xeg2.out B2) (fun b e e'=>Xtwo9.out.ne b e' e)
                have z1:=Nat.le_trans XhD9.out T2.size
                refine hK.out _ _ ?_ (fun hHeld=> ?_)
                ·exact Xhkx.out _ T2
                clear hK K
                try simp only [Act.put,sT,s0,s1]
                refine tkq (i:=10) (oi:= ?_) (v:= ?_) ?_ (by kernel_rfl) ?_ (Or.inl ⟨?_,?_⟩) (by assumption) ?_;rotate_left 2;(focus((try simp only [gT,gs,gz]);try rfl));(first|exact fun c a w h=>(markPost.panic h).elim|exact fun _ _ _ h=>h);rfl;(focus(intro wS hwS;(try dsimp only at hwS);go_simp;all_goals with_reducible rfl));try simp only [Act.put,sT,s0,s1]
                have RG2:Rd w1 (fun x=>x=(Wd.alloc (.cells #[za] 93)).heap.size) (.slice (some ⟨(Wd.alloc (.cells #[za] 93)).heap.size,0,none⟩) 1 1) 1 [zg]:=Rd.touch RG TA1 (fun b hb e=>by have:=XhAl.out b e;rw [World.size_alloc]at hb;omega)
                refine wpHq_ready (rs:=[9]) (by kernel_rfl) (by simp) (by kernel_rfl) ?_
                refine AllReadyQ.cons (o:= ?_) ?_ (fun K hK=> ?_) ?_;rotate_left 1;(focus((try simp only [gT,gs,gz]);try rfl))
                ·skip
                 refine step_append _ rfl (.tmp 117) (.tmp 119) _ rfl Tryz.elemRI D2 (.slice Ag i cg') i _ rfl (og) _ _ [zg] 1 rfl rfl (RG2) Xzg1.out (by unfold maxLen;omega) (by omega) (z1) ?_
                 intro G' cg2 w2 o2 r2 h2
                 have T4:Touch Sx Wd w2:=(T2).grown r2 (fun k e _=>XhSxG.out k e)
                 refine hK.out _ _ ?_ (fun hHeld=> ?_)
                 ·exact Xhkx.out _ T4
                 clear hK K
                 try simp only [Act.put,sT,s0,s1]
                 obtain⟨two',bT⟩:=Two.pushF hands_it hands_i Xtwo9.out XhD9.out Xea1.out Xea2.out Xea3.out Xeg1.out Xeg2.out Xeg3.out Xhrb3.out Xhtb3.out Xra.out Xrg.out (B2) o1 r1 h1 ((Below.refl _ _)) o2 r2 h2
                 rw [<-XhnA.out,<-XhnG.out]at two'
                 have kT10:=XkT9.out.touch T4 XhSB.out
                 have tt10:=Xtt9.out.trans T4 (fun k _ e=>XhS2.out k e)
                 have f3:=kT10.frozen 3
                 have f4:=kT10.frozen 4
                 have p3:=(kT10.cell 3).trans rfl
                 have p4:=(kT10.cell 4).trans rfl
                 have kT11:=(kT10.put 3 (.slice A' (i+1) ca2)).put 4 (.slice G' (i+1) cg2)
                 have tB:Touch (fun k=>k=Bt) w2 ((w2.setCell ⟨Bt,3,none⟩ (.slice A' (i+1) ca2)).setCell ⟨Bt,4,none⟩ (.slice G' (i+1) cg2)):=((Touch.refl (fun k=>k=Bt) w2).setCell (p:=⟨Bt,3,none⟩) (fun _=>rfl) _).setCell (p:=⟨Bt,4,none⟩) (fun _=>rfl) _
                 have two11:=two'.touch hands_it hands_i tB (fun b hb _ e=>by have:=XhBtD.out;omega)
                 have tt11:=tt10.trans tB (fun k _ e=>by subst e;exact XsB.out)
                 clear o1 r1 h1 o2 r2 h2 T2 TA1 og z1 T4 kT10 tt10 two' bT tB
                 obtain⟨Xtwo11,Xtt11,XkT11⟩:=HqZ3 two11 tt11 kT11;clear two11 tt11 kT11
                 refine wpHq_seq 11 (by rfl) (by kernel_rfl) (by kernel_rfl) ?_
                 simp only [List.drop_succ_cons,List.drop_zero]
                 go_wp2_with fail
                 go_roundw
                 case rel=>exact⟨i+1,ca2,cg2,A',G',_,_,by omega,by go_num,Xtt11.out,XkT11.out,Xtwo11.out,XhokR.out,XhokG.out⟩
                 case measure=>simp [intOf];omega
                ·exact AllReadyQ.nil
               ·exact AllReadyQ.nil
              ·exact AllReadyQ.nil
            ·refine AllReadyQ.cons (o:= ?_) ?_ (fun K hK=> ?_) ?_;rotate_left 1;(focus((try simp only [gT,gs,gz]);try rfl))
             ·refine Tryz.step_RI rfl (.tmp 118) rfl zg rfl XzgE.out ?_
              refine hK.out _ _ ?_ (fun hHeld=> ?_)
              ·exact Xhkx.out _ XTG.out
              clear hK K
              try simp only [Act.put,sT,s0,s1]
              refine wpHq_ready (rs:=[3]) (by kernel_rfl) (by simp) (by kernel_rfl) ?_
              refine AllReadyQ.cons (o:= ?_) ?_ (fun K hK=> ?_) ?_;rotate_left 1;(focus((try simp only [gT,gs,gz]);try rfl))
              ·refine Tryz.step_RA rfl (.tmp 113) rfl za rfl XzaE.out ?_
               have B2:Below Wd.heap.size Wd ((Wd.alloc (.cells #[zg] 23)).alloc (.cells #[za] 93)):=XBG.out.alloc XBG.out.size _
               have TB2:Touch Sx Wd ((Wd.alloc (.cells #[zg] 23)).alloc (.cells #[za] 93)):=Touch.of_size B2 _
               have R2:Rd ((Wd.alloc (.cells #[zg] 23)).alloc (.cells #[za] 93)) (fun x=>x=(Wd.alloc (.cells #[zg] 23)).heap.size) (.slice (some ⟨(Wd.alloc (.cells #[zg] 23)).heap.size,0,none⟩) 1 1) 1 [za]:=Rd.one' (w:=Wd.alloc (.cells #[zg] 23)) (e:=93) [za] 1 rfl
               have RG:Rd ((Wd.alloc (.cells #[zg] 23)).alloc (.cells #[za] 93)) (fun x=>x=Wd.heap.size) (.slice (some ⟨Wd.heap.size,0,none⟩) 1 1) 1 [zg]:=Rd.below XRG.out ((Below.refl (Wd.heap.size+1) _).alloc (by simp) _) (fun k e=>by subst e;simp)
               have z2:=Nat.le_trans XhD9.out B2.size
               refine hK.out _ _ ?_ (fun hHeld=> ?_)
               ·exact Xhkx.out _ TB2
               clear hK K
               try simp only [Act.put,sT,s0,s1]
               refine wpHq_ready (rs:=[4]) (by kernel_rfl) (by simp) (by kernel_rfl) ?_
               refine AllReadyQ.cons (o:= ?_) ?_ (fun K hK=> ?_) ?_;rotate_left 1;(focus((try simp only [gT,gs,gz]);try rfl))
               ·skip
                refine step_append _ rfl (.tmp 112) (.tmp 114) _ rfl Tryz.elemRA D2 (.slice Ax i ca') i _ rfl (own_below' Xea2.out B2) _ _ [za] 1 rfl rfl (R2) Xza1.out (by unfold maxLen;omega) (by omega) (z2) ?_
                intro A' ca2 w1 o1 r1 h1
                have T2:Touch Sx Wd w1:=(TB2).grown r1 (fun k e _=>XhSxA.out k e)
                have TA1:Touch (fun k=>(Value.slice Ax i ca').ownBlock=some k) _ w1:=(Touch.refl _ _).grown r1 (fun k e _=>e)
                have og:=TA1.own (own_below' Xeg2.out B2) (fun b e e'=>Xtwo9.out.ne b e' e)
                have z1:=Nat.le_trans XhD9.out T2.size
                refine hK.out _ _ ?_ (fun hHeld=> ?_)
                ·exact Xhkx.out _ T2
                clear hK K
                try simp only [Act.put,sT,s0,s1]
                refine tkq (i:=10) (oi:= ?_) (v:= ?_) ?_ (by kernel_rfl) ?_ (Or.inl ⟨?_,?_⟩) (by assumption) ?_;rotate_left 2;(focus((try simp only [gT,gs,gz]);try rfl));(first|exact fun c a w h=>(markPost.panic h).elim|exact fun _ _ _ h=>h);rfl;(focus(intro wS hwS;(try dsimp only at hwS);go_simp;all_goals with_reducible rfl));try simp only [Act.put,sT,s0,s1]
                have RG2:Rd w1 (fun x=>x=Wd.heap.size) (.slice (some ⟨Wd.heap.size,0,none⟩) 1 1) 1 [zg]:=Rd.touch RG TA1 (fun b hb e=>by have:=XhAl.out b e;omega)
                refine wpHq_ready (rs:=[9]) (by kernel_rfl) (by simp) (by kernel_rfl) ?_
                refine AllReadyQ.cons (o:= ?_) ?_ (fun K hK=> ?_) ?_;rotate_left 1;(focus((try simp only [gT,gs,gz]);try rfl))
                ·skip
                 refine step_append _ rfl (.tmp 117) (.tmp 119) _ rfl Tryz.elemRI D2 (.slice Ag i cg') i _ rfl (og) _ _ [zg] 1 rfl rfl (RG2) Xzg1.out (by unfold maxLen;omega) (by omega) (z1) ?_
                 intro G' cg2 w2 o2 r2 h2
                 have T4:Touch Sx Wd w2:=(T2).grown r2 (fun k e _=>XhSxG.out k e)
                 refine hK.out _ _ ?_ (fun hHeld=> ?_)
                 ·exact Xhkx.out _ T4
                 clear hK K
                 try simp only [Act.put,sT,s0,s1]
                 obtain⟨two',bT⟩:=Two.pushF hands_it hands_i Xtwo9.out XhD9.out Xea1.out Xea2.out Xea3.out Xeg1.out Xeg2.out Xeg3.out Xhrb3.out Xhtb3.out Xra.out Xrg.out (B2) o1 r1 h1 ((Below.refl _ _)) o2 r2 h2
                 rw [<-XhnA.out,<-XhnG.out]at two'
                 have kT10:=XkT9.out.touch T4 XhSB.out
                 have tt10:=Xtt9.out.trans T4 (fun k _ e=>XhS2.out k e)
                 have f3:=kT10.frozen 3
                 have f4:=kT10.frozen 4
                 have p3:=(kT10.cell 3).trans rfl
                 have p4:=(kT10.cell 4).trans rfl
                 have kT11:=(kT10.put 3 (.slice A' (i+1) ca2)).put 4 (.slice G' (i+1) cg2)
                 have tB:Touch (fun k=>k=Bt) w2 ((w2.setCell ⟨Bt,3,none⟩ (.slice A' (i+1) ca2)).setCell ⟨Bt,4,none⟩ (.slice G' (i+1) cg2)):=((Touch.refl (fun k=>k=Bt) w2).setCell (p:=⟨Bt,3,none⟩) (fun _=>rfl) _).setCell (p:=⟨Bt,4,none⟩) (fun _=>rfl) _
                 have two11:=two'.touch hands_it hands_i tB (fun b hb _ e=>by have:=XhBtD.out;omega)
                 have tt11:=tt10.trans tB (fun k _ e=>by subst e;exact XsB.out)
                 clear o1 r1 h1 o2 r2 h2 T2 TA1 og z1 T4 kT10 tt10 two' bT tB
                 obtain⟨Xtwo11,Xtt11,XkT11⟩:=HqZ3 two11 tt11 kT11;clear two11 tt11 kT11
                 refine wpHq_seq 11 (by rfl) (by kernel_rfl) (by kernel_rfl) ?_
                 simp only [List.drop_succ_cons,List.drop_zero]
                 go_wp2_with fail
                 go_roundw
                 case rel=>exact⟨i+1,ca2,cg2,A',G',_,_,by omega,by go_num,Xtt11.out,XkT11.out,Xtwo11.out,XhokR.out,XhokG.out⟩
                 case measure=>simp [intOf];omega
                ·exact AllReadyQ.nil
               ·exact AllReadyQ.nil
              ·exact AllReadyQ.nil
             ·exact AllReadyQ.nil
   ·have hlt': ¬(i:Int)<(n2:Int):=by omega
    obtain rfl:n2=i:=by omega
    have tR:p.row.take n2=p.row:=List.take_of_length_le (by rw [Xhn2.out];exact Nat.le_refl _)
    have tG:p.gow.take n2=p.gow:=List.take_of_length_le (by rw [Xhn4.out];exact Nat.le_refl _)
    rw [tR]at hokR two
    rw [tG]at hokG two
    have hyes:rowsP p=true:=by rw [XhRP.out,hokR,hokG];simp
    obtain⟨FW,hFW⟩: ∃FW:Nat->Prop,FW=fun b=>(F b\/D2<=b)/\b<V.heap.size:=⟨_,rfl⟩
    have raa:=RM.rw (F:=FW) hands_it two.a (fun b h1 h2=>by rw [hFW];exact⟨.inr h1,h2⟩) (fun b h1 h2=>by rw [hFW];exact⟨.inr (two.lA b h1).1,h2⟩)
    have rgg:=RM.rw (F:=FW) hands_i two.g (fun b h1 h2=>by rw [hFW];exact⟨.inr h1,h2⟩) (fun b h1 h2=>by rw [hFW];exact⟨.inr (two.lG b h1).1,h2⟩)
    have fw: ∀b,F b->FW b:=fun b hb=>by rw [hFW];exact⟨.inl hb,gW.pk.lt b hb⟩
    have rr:RdL V FW 2 (ERule V FW) (.slice A1 n1 c1) p.rules:=gW.pk.rules.mono fw fun cs x ⟨v,e1,e2⟩=>⟨v,e1,e2.mono fw⟩
    have hFS: ∀b,FW b-> ¬b=w.heap.size+1:=fun b hb e=>by
     rw [hFW]at hb
     rcases hb.1 with h|h
     ·have:=XhF.out b h;omega
     ·have:=XhBtD.out;have:=XhwB.out;omega
    have d0:=(krW.cell 0).trans rfl
    have d1:=(krW.cell 1).trans rfl
    have d2:=(krW.cell 2).trans rfl
    have d3:=(krW.cell 3).trans rfl
    have d4:=(krW.cell 4).trans rfl
    have f0:=krW.frozen 0
    have f1:=krW.frozen 1
    have f2:=krW.frozen 2
    have f3:=krW.frozen 3
    have f4:=krW.frozen 4
    have p0:=(kT.cell 0).trans rfl
    have p1:=(kT.cell 1).trans rfl
    have p2:=(kT.cell 2).trans rfl
    have p3:=(kT.cell 3).trans rfl
    have p4:=(kT.cell 4).trans rfl
    clear tR tG hokR hokG hlt hi hDw gW
    obtain⟨XhS,XkT,Xtwo,XkrW,XbW,Xhyes,XhFW,Xraa,Xrgg,Xrr,XhFS,Xfw⟩:=HqZ12 hS kT two krW bW hyes hFW raa rgg rr hFS fw;clear hS kT two krW bW hyes hFW raa rgg rr hFS fw
    go_wp2_with fail
    have k5:=((((XkrW.out.put 0 (.slice A1 n1 c1)).put 1 (.int .i64 T)).put 2 (.int .i64 N)).put 3 (.slice Ax n2 ca')).put 4 (.slice Ag n2 cg')
    have t5:=touch_five V (w.heap.size+1) (.slice A1 n1 c1) (.int .i64 T) (.int .i64 N) (.slice Ax n2 ca') (.slice Ag n2 cg')
    have e0:=(k5.cell 0).trans rfl
    have e1:=(k5.cell 1).trans rfl
    have e2:=(k5.cell 2).trans rfl
    have e3:=(k5.cell 3).trans rfl
    have e4:=(k5.cell 4).trans rfl
    refine bodyPost_ret (v:= .tuple #[TV (.slice A1 n1 c1) T N (.slice Ax n2 ca') (.slice Ag n2 cg'),.bool true]) (by simp [results,Tryz.results62,go_sem,e0,e1,e2,e3,e4]) rfl ?_
    have b5:=t5.toBelow (fun k e=>by omega) XbW.out XbW.out.size
    have hO:openO p=openT p:=by unfold openO;rw [if_pos Xhyes.out]
    refine⟨by first|exact b5|exact b5.drew,_,_,_,by rw [hO,Xhyes.out];unfold openT;rw [XhT.out,XhN.out],?_⟩
    rw [hO]
    refine tab_cw (F:=FW) (t:=openT p) Xrr.out Xraa.out Xrgg.out (by first|exact t5|exact t5.drew) XhFS.out (CW.refl _) (fun b hb=> ?_) (fun b hb=>hb.2) (by have:=Xhtn.out;rw [<-XhT.out,<-XhN.out]at this;exact this) Xhwr.out
    rw [XhFW.out]at hb
    refine⟨?_,Nat.lt_of_lt_of_le hb.2 t5.size⟩
    rcases hb.1 with h|h
    ·exact .inl h
    ·exact .inr (by have:=XhBtD.out;have:=XhwB.out;omega)
 ·have hnn':((n2:Int) !=(n4:Int))=true:=by simpa using(by omega: ¬(n2:Int)=(n4:Int))
  have hno:rowsP p=false:=by rw [hRP,decide_eq_false hnn];rfl
  have hnn2:=hnn
  obtain⟨Xhl,XhF,Xg4,XkT,XhRP,XhT,XhN,Xhn1,Xhn2,Xhn3,Xhn4,Xhn5,Xhtn,Xhwr⟩:=HqZ14 hl hF g4 kT hRP hT hN hn1 hn2 hn3 hn4 hn5 htn hwr;obtain⟨Xhz4,Xhno,Xhnn⟩:=HqZ3 hz4 hno hnn;clear hl hF g4 kT hRP hT hN hn1 hn2 hn3 hn4 hn5 htn hwr hz4 hno hnn;obtain⟨Xkr2,Xbw2⟩:=HqZ2 kr4 bb4;clear kr4 bb4
  go_enter Tryz.func62,Tryz.ntmps62
  go_wp2_with fail
  rw [<-hw4]
  have e0:=(Xkr2.out.cell 0).trans rfl
  have e1:=(Xkr2.out.cell 1).trans rfl
  have e2:=(Xkr2.out.cell 2).trans rfl
  have e3:=(Xkr2.out.cell 3).trans rfl
  have e4:=(Xkr2.out.cell 4).trans rfl
  refine bodyPost_ret (v:= .tuple #[TV (.slice none 0 0) 0 0 (.slice none 0 0) (.slice none 0 0),.bool false]) (by simp [results,Tryz.results62,go_sem,e0,e1,e2,e3,e4]) rfl ?_
  refine⟨Xbw2.out,_,_,_,by rw [rows_no Xhno.out,Xhno.out];rfl,?_⟩
  rw [rows_no Xhno.out]
  exact IsTab.none _ _ (fun b hb=>hb.2)
end Go.Proofs.YtlpipniclimgeaaGreat

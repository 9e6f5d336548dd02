/- conchref11: rows of bools; rows, put, list. -/
import Derived.Test.YtlpokomfljmogaaGreatQLivePlain
import Derived.Test.YtlpokomfljmogaaGreatQLook15
import Derived.Test.YtlpokomfljmogaaGreatQFirst4
import Derived.Test.YtlpokomfljmogaaGreatQFirst1
import Derived.Test.YtlpokomfljmogaaGreatQBitsL
namespace Go.Proofs.YtlpokomfljmogaaGreat
set_option linter.unusedVariables false
section
open Go.RowKit
attribute [local irreducible] wpStill wpOne wpPh
structure BSet (w:World) (b m:Nat) (f:Nat→Bool):Prop where
 row: ∃cells,Blk w b 4 cells∧cells.size=m∧ ∀i,i<m→cells[i]? =some (.bool (f i))
 high: ∀t,m≤t→f t=false
section
variable {w w' : World} {b m : Nat} {f g : Nat → Bool} {S : Nat → Prop}
theorem BSet.lt (h:BSet w b m f):b<w.heap.size:=by obtain⟨c,hb,-⟩:=h.row;exact hb.lt
theorem BSet.cell (h:BSet w b m f) {i:Nat} (hi:i<m):w.cell? ⟨b,i,none⟩=some (.bool (f i)):=by
 obtain⟨c,hb,hs,hc⟩:=h.row
 exact(hb.cell i).trans (hc i hi)
theorem BSet.frozen (h:BSet w b m f) (i:Nat):w.frozen? ⟨b,i,none⟩=false:=by
 obtain⟨c,hb,-⟩:=h.row
 exact hb.frozen i
theorem BSet.touch (h:BSet w b m f) (ht:Touch S w w') (hb: ¬S b):BSet w' b m f:=by
 obtain⟨c,hk,hs,hc⟩:=h.row
 exact⟨⟨c,hk.touch ht hb,hs,hc⟩,h.high⟩
theorem BSet.below (h:BSet w b m f) (hb:Below w.heap.size w w'):BSet w' b m f:=h.touch (Touch.of_size hb (fun _=>False)) (fun h=>h)
theorem BSet.put (h:BSet w b m f) {i:Nat} (hi:i<m) (v:Bool) (hg: ∀t,g t=if t=i then v else f t):BSet (w.setCell ⟨b,i,none⟩ (.bool v)) b m g:=by
 obtain⟨c,hk,hs,hc⟩:=h.row
 refine⟨⟨_,hk.put i _,by simpa using hs,fun j hj=> ?_⟩,fun t ht=> ?_⟩
 ·rw [hg]
  by_cases e:j=i
  ·subst e
   rw [Array.getElem?_setIfInBounds_self_of_lt (by omega)];simp
  ·rw [Array.getElem?_setIfInBounds_ne (by omega),hc j hj,if_neg e]
 ·rw [hg,if_neg (by omega)];exact h.high t ht
theorem BSet.new (w:World) (m:Nat):BSet (w.alloc (.cells (madeCells #[.bool false] m) 4)) w.heap.size m noBits:=
 ⟨⟨_,Blk.new _ _ _,by simp [size_madeCells],fun i hi=>made_one _ _ _ hi⟩,fun _ _=>rfl⟩
end
theorem Tryz.infoBools:(Tryz.prog.info? 117).map (fun i=>(i.zero,i.size,i.bytes))=some (some (.slice none 0 0),1,24):=by kernel_rfl
theorem Tryz.elemBools:Elem Tryz.prog 131 117 (.slice none 0 0) 1 24:=⟨Tryz.underlying131,Tryz.infoBools,rfl,by decide⟩
abbrev RowV (b m:Nat):Value:= .slice (some ⟨b,0,none⟩) m m
structure BFam (w:World) (g n m:Nat) (ps:Nat→Nat) (F:Nat→Nat→Bool):Prop where
 cell: ∀i,i<n→w.cell? ⟨g,i,none⟩=some (RowV (ps i) m)
 set: ∀i,i<n→BSet w (ps i) m (F i)
 far: ∀i,i<n→ps i≠g
 apart: ∀i j,i<n→j<n→ps i=ps j→i=j
 lt:g<w.heap.size
section
variable {w w' : World} {g n m : Nat} {ps : Nat → Nat} {F F' : Nat → Nat → Bool} {S : Nat → Prop}
theorem BFam.touch (h:BFam w g n m ps F) (ht:Touch S w w') (hg: ¬S g) (hS: ∀i,i<n→ ¬S (ps i)):BFam w' g n m ps F:=
 ⟨fun i hi=>ht.cell (h.cell i hi) hg,fun i hi=>(h.set i hi).touch ht (hS i hi),h.far,h.apart,Nat.lt_of_lt_of_le h.lt ht.size⟩
theorem BFam.below (h:BFam w g n m ps F) (hb:Below w.heap.size w w'):BFam w' g n m ps F:=
 h.touch (Touch.of_size hb (fun _=>False)) (fun h=>h) (fun _ _ h=>h)
theorem BFam.put (h:BFam w g n m ps F) {i:Nat} (hi:i<n) {f:Nat→Bool} (hs:BSet w' (ps i) m f) (ht:Touch (fun k=>k=ps i) w w'):BFam w' g n m ps (setF F i f):=by
 refine⟨fun j hj=>ht.cell (h.cell j hj) (fun e=>h.far i hi e.symm),fun j hj=> ?_,h.far,h.apart,Nat.lt_of_lt_of_le h.lt ht.size⟩
 by_cases e:j=i
 ·subst e;rw [setF_same];exact hs
 ·rw [setF_ne e];exact(h.set j hj).touch ht fun hk=>e (h.apart j i hj hi hk)
theorem BFam.ext (h:BFam w g n m ps F) (e: ∀i,i<n→F' i=F i):BFam w g n m ps F':=
 ⟨h.cell,fun i hi=>by rw [e i hi];exact h.set i hi,h.far,h.apart,h.lt⟩
end
structure BFamG (w wr:World) (A:Option Addr) (k c m:Nat) (ps:Nat→Nat):Prop where
 own:wr.ownsRow w.heap.size 117 1 (.slice A k c) k ((List.range k).map fun i=>RowV (ps i) m)
 set: ∀i,i<k→BSet wr (ps i) m noBits
 low: ∀i,i<k→w.heap.size≤ps i∧(Value.slice A k c).ownBlock≠some (ps i)
 apart: ∀i j,i<k→j<k→ps i=ps j→i=j
 b:Below w.heap.size w wr
theorem BFamG.zero (w:World) (m:Nat):BFamG w w none 0 0 m (fun _=>0):=
 ⟨World.ownsRow_nil _ _ _ _,fun i hi=>absurd hi (by omega),fun i hi=>absurd hi (by omega),fun i j hi=>absurd hi (by omega),Below.refl _ _⟩
theorem BFamG.push {w wr w1 w2 w3:World} {A B:Option Addr} {k c d m:Nat} {ps:Nat→Nat} {o:Obj} (h:BFamG w wr A k c m ps) (h1:w1=wr.alloc (.cells (madeCells #[.bool false] m) 4)) (h2:w2=w1.alloc o)
  (ho:w3.ownsRow w.heap.size 117 1 (.slice B (k+1) d) (k+1) (((List.range k).map fun i=>RowV (ps i) m)++[RowV wr.heap.size m])) (hg:w2.grownBy w3 (Value.slice A k c).ownBlock) (hv:(Value.slice B (k+1) d).ownBlock=(Value.slice A k c).ownBlock∨(Value.slice B (k+1) d).ownBlock=some w2.heap.size):
  BFamG w w3 B (k+1) d m (fun i=>if i=k then wr.heap.size else ps i):=by
 have hz:=h.b.size
 have hz1:w1.heap.size=wr.heap.size+1:=by rw [h1];simp
 have hz2:w2.heap.size=wr.heap.size+2:=by rw [h2];simp;omega
 have hown: ∀q,(Value.slice A k c).ownBlock=some q→q<wr.heap.size:=fun q hq=>(h.own.lt q hq).2
 have hownlo: ∀q,(Value.slice A k c).ownBlock=some q→w.heap.size≤q:=fun q hq=>(h.own.lt q hq).1
 have b1:Below wr.heap.size wr w1:=by rw [h1];exact(Below.refl _ _).alloc (Nat.le_refl _) _
 have b12:Below w1.heap.size w1 w2:=by rw [h2];exact(Below.refl _ _).alloc (Nat.le_refl _) _
 have b2:Below wr.heap.size wr w2:=b1.trans (b12.mono (by omega))
 have t3:Touch (fun q=>(Value.slice A k c).ownBlock=some q) w2 w3:=(Touch.refl _ w2).grown hg (fun q hq _=>hq)
 have hB: ∀q,(Value.slice B (k+1) d).ownBlock=some q→q<wr.heap.size∧(Value.slice A k c).ownBlock=some q∨q=w2.heap.size:=fun q hq=>by
  rcases hv with hv|hv
  ·rw [hv]at hq;exact .inl ⟨hown q hq,hq⟩
  ·rw [hv]at hq;injection hq with hq;exact .inr hq.symm
 have hlt: ∀i,i<k→ps i<wr.heap.size:=fun i hi=>(h.set i hi).lt
 refine⟨?_,fun i hi=> ?_,fun i hi=> ?_,fun i j hi hj hij=> ?_,(h.b.trans (b2.mono hz)).trans (t3.below (fun q hq _ hq'=>by have:=hownlo q hq';omega) (by omega))⟩
 ·have e:(List.range (k+1)).map (fun i=>RowV (if i=k then wr.heap.size else ps i) m)=((List.range k).map fun i=>RowV (ps i) m)++[RowV wr.heap.size m]:=by
   rw [List.range_succ,List.map_append]
   congr 1
   ·refine List.map_congr_left fun i hi=> ?_
    have:=List.mem_range.1 hi
    rw [if_neg (by omega)]
   ·simp
  rw [e];exact ho
 ·by_cases e:i=k
  ·subst e
   simp only [if_true]
   have hn:BSet w1 wr.heap.size m noBits:=by rw [h1];exact BSet.new wr m
   exact(hn.below b12).touch t3 fun hq=>by have:=hown _ hq;omega
  ·simp only [if_neg e]
   exact((h.set i (by omega)).below b2).touch t3 fun hq=>(h.low i (by omega)).2 hq
 ·by_cases e:i=k
  ·subst e
   simp only [if_true]
   exact⟨hz,fun hh=>by rcases hB _ hh with h1|h1<;>omega⟩
  ·simp only [if_neg e]
   obtain⟨l1,l3⟩:=h.low i (by omega)
   refine⟨l1,fun hh=> ?_⟩
   rcases hB _ hh with h1|h1
   ·exact l3 h1.2
   ·have:=hlt i (by omega);omega
 ·by_cases ei:i=k
  ·by_cases ej:j=k
   ·omega
   ·rw [if_pos ei,if_neg ej]at hij
    have:=hlt j (by omega);omega
  ·by_cases ej:j=k
   ·rw [if_neg ei,if_pos ej]at hij
    have:=hlt i (by omega);omega
   ·rw [if_neg ei,if_neg ej]at hij
    exact h.apart i j (by omega) (by omega) hij
theorem BFamG.fam {w wr:World} {A:Option Addr} {k c m:Nat} {ps:Nat→Nat} (h:BFamG w wr A k c m ps) (hk:0<k): ∃g,A=some ⟨g,0,none⟩∧w.heap.size≤g∧g<wr.heap.size∧k≤c∧c≤9223372036854775807∧BFam wr g k m ps (fun _=>noBits):=by
 have hl:=h.own.lt
 rcases h.own.2 with⟨h1,h2⟩|⟨g,cap,cur,h1,hb,hh,hn,hc,hz,ht⟩
 ·injection h1 with _ h1;omega
 ·injection h1 with e1 e2 e3
  subst e1
  have hl:=hl g rfl
  refine⟨g,rfl,hl.1,hl.2,by omega,by unfold maxLen at hc;omega,fun i hi=> ?_,h.set,fun i hi hf=>(h.low i hi).2 (by rw [hf];rfl),h.apart,hl.2⟩
  rw [cell_of_row wr g i cur _ (0,0) hh]
  have h3:((List.range k).map fun i=>RowV (ps i) m)[i]? =some (RowV (ps i) m):=by simp [hi]
  rw [←ht,List.getElem?_take]at h3
  split at h3
  ·simpa using h3
  ·cases h3
def RowsPost (w:World) (n m:Nat) (e:Ending) (w':World):Prop:= ∃g c ps,e= .returned (.slice (some ⟨g,0,none⟩) n c)∧n≤c∧c≤9223372036854775807∧w.heap.size≤g∧(∀i,i<n→w.heap.size≤ps i)∧BFam w' g n m ps (fun _=>noBits)∧Below w.heap.size w w'
set_option maxRecDepth 100000 in
set_option maxHeartbeats 2000000 in
theorem ref11_rows (w:World) (n m:Nat) (hn:1≤n∧n≤4096) (hm:m≤4096):Calls Tryz.prog 93 #[.int .i64 n,.int .i64 m] w (RowsPost w n m):=by
 have hmk:=fun w=>make_bools m (by omega) w
 generalize hmc:madeCells #[.bool false] m=mc at hmk
 have Xhmc:=hide hmc;clear hmc
 go_enter Tryz.func93,Tryz.ntmps93
 go_wp2_with fail
 go_loopw [5,6] (fun v i wr=> ∃(k:Nat) (A:Option Addr) (c:Nat) (ps:Nat→Nat),k≤n∧i= .int .i64 k∧v= .slice A k c∧BFamG w wr A k c m ps) (fun _ i _=>n - (intOf i).toNat)
 case atStart=>exact⟨0,none,0,_,Nat.zero_le _,rfl,rfl,BFamG.zero w m⟩
 case round=>
  obtain⟨k,A,c,ps,hk,rfl,rfl,t⟩:=hrel
  by_cases hlt:k<n
  ·have hlt':(k:Int)<(n:Int):=by omega
   have hmk1:=hmk wr
   obtain⟨wm,hwm⟩: ∃wm,wm=wr.alloc (.cells mc 4):=⟨_,rfl⟩
   have b1:Below wr.heap.size wr wm:=by rw [hwm];exact(Below.refl _ _).alloc (Nat.le_refl _) _
   have z1:wm.heap.size=wr.heap.size+1:=by rw [hwm];simp
   rw [←hwm]at hmk1
   have o1:=own_below' t.own b1
   have zb:=t.b.size
   have zb1:=b1.size
   clear b1 hmk
   have Xt:=hide t;have Xhwm:=hide hwm;have Xz1:=hide z1;clear t hwm z1
   go_wp2_with (at_builtin;refine wp_append _ rfl (.tmp 12) (.tmp 15) _ rfl Tryz.elemBools w.heap.size _ k _ rfl (o1.alloc _) _ _ [RowV wr.heap.size m] 1 rfl rfl (Rd.one [RowV wr.heap.size m] 1 rfl) (by simp [Value.oneCell',RowV]) (by unfold maxLen;omega) (by omega) (by simp;omega) ?_)
   intro A2 c2 w2 ho hg hv
   have t2:=Xt.out.push (by rw [Xhmc.out];exact Xhwm.out) rfl ho hg (by simpa using hv)
   clear o1 ho hg hv
   have Xt2:=hide t2;clear t2
   go_wp2_with fail
   go_roundw
   case rel=>exact⟨k+1,A2,c2,_,by omega,by go_num,rfl,Xt2.out⟩
   case measure=>simp [intOf];omega
  ·have hkn:k=n:=by omega
   have hlt': ¬(k:Int)<(n:Int):=by omega
   have fin:RowsPost w n m (.returned (.slice A k c)) wr:=by
    subst hkn
    obtain⟨g,rfl,h1,h2,h3,h4,h5⟩:=t.fam (by omega)
    exact⟨g,c,ps,rfl,h3,h4,h1,fun i hi=>(t.low i hi).1,h5,t.b⟩
   have Xt:=hide t;have Xfin:=hide fin;clear t fin;clear hkn
   go_wp2_with fail
   go_ret
   exact Xfin.out
def RowPutPost (w:World) (b m:Nat) (f f':Nat→Bool) (e:Ending) (w':World):Prop:=e= .returned (.bool (moreB m f f'))∧BSet w' b m f'∧Touch (fun k=>k=b) w w'
def joinTo (f g:Nat→Bool) (k:Nat) (t:Nat):Bool:=f t||(decide (t<k)&&g t)
set_option maxRecDepth 100000 in
set_option maxHeartbeats 2000000 in
theorem ref11_put {w:World} {b b2 m:Nat} {f g:Nat→Bool} (h:BSet w b m f) (h2:BSet w b2 m g) (hm:m≤4096) (hs:b=b2→f=g):
  Calls Tryz.prog 95 #[RowV b m,RowV b2 m] w (RowPutPost w b m f (fun t=>f t||g t)):=by
 have hi:=h2.high
 have hc2:=fun t ht=>h2.cell (i:=t) ht
 have hbb:b=b2→ ∀t,f t=g t:=fun e t=>by rw [hs e]
 have Xh:=hide h;have Xhi:=hide hi;have Xhc2:=hide hc2;have Xhbb:=hide hbb;clear h hi hc2 hbb;clear h2 hs
 go_enter Tryz.func95,Tryz.ntmps95
 go_wp2_with fail
 go_loopw [5,6] (fun mo i wr=> ∃(k:Nat) (f':Nat→Bool),k≤m∧i= .int .i64 k∧f'=joinTo f g k∧mo= .bool (moreB m f f')∧BSet wr b m f'∧(∀t,k≤t→t<m→wr.cell? ⟨b2,t,none⟩=some (.bool (g t)))∧Touch (fun k=>k=b) w wr) (fun _ i _=>m - (intOf i).toNat)
 case atStart=>exact⟨0,f,Nat.zero_le _,rfl,by funext t;simp [joinTo],by rw [moreB_self],Xh.out,fun t _ ht=>Xhc2.out t ht,Touch.refl _ _⟩
 case round=>
  obtain⟨k,f',hk,rfl,hf,rfl,hb,hc,ht⟩:=hrel
  by_cases hlt:k<m
  ·have hlt':(k:Int)<(m:Int):=by omega
   have hck:=hc k (Nat.le_refl _) hlt
   have hbk:=hb.cell hlt
   have hfr:=hb.frozen k
   have hsucc: ∀t,joinTo f g (k+1) t=if t=k then(f' k||g k)else f' t:=fun t=>by
    rw [hf]
    unfold joinTo
    by_cases e:t=k
    ·subst e;simp
    ·by_cases h1:t<k
     ·have:t<k+1:=by omega
      simp [e,h1,this]
     ·have: ¬t<k+1:=by omega
      simp [e,h1,this]
   obtain⟨mo,hmo⟩: ∃mo,mo=moreB m f f':=⟨_,rfl⟩
   rw [←hmo]
   cases hg:g k with
   |false=>
    rw [hg]at hck
    have hsame:joinTo f g (k+1)=f':=by
     funext t;rw [hsucc]
     by_cases e:t=k
     ·subst e;simp [hg]
     ·simp [e]
    have hc': ∀t,k+1≤t→t<m→wr.cell? ⟨b2,t,none⟩=some (.bool (g t)):=fun t h1 h2=>hc t (by omega) h2
    clear hbk hfr hc
    have Xhsame:=hide hsame;have Xhc':=hide hc';have Xhsucc:=hide hsucc;have Xhmo:=hide hmo;have Xhf:=hide hf;have Xhb:=hide hb;have Xht:=hide ht;have Xhg:=hide hg;clear hsame hc' hsucc hmo hf hb ht hg
    go_wp2_with fail
    go_roundw
    case rel=>exact⟨k+1,f',by omega,by go_num,Xhsame.out.symm,by rw [Xhmo.out],Xhb.out,Xhc'.out,Xht.out⟩
    case measure=>simp [intOf];omega
   |true=>
    rw [hg]at hck
    cases hfk:f' k with
    |true=>
     rw [hfk]at hbk
     have hsame:joinTo f g (k+1)=f':=by
      funext t;rw [hsucc]
      by_cases e:t=k
      ·subst e;simp [hfk]
      ·simp [e]
     have hc': ∀t,k+1≤t→t<m→wr.cell? ⟨b2,t,none⟩=some (.bool (g t)):=fun t h1 h2=>hc t (by omega) h2
     clear hfr hc
     have Xhsame:=hide hsame;have Xhc':=hide hc';have Xhsucc:=hide hsucc;have Xhmo:=hide hmo;have Xhf:=hide hf;have Xhb:=hide hb;have Xht:=hide ht;have Xhg:=hide hg;have Xhfk:=hide hfk;clear hsame hc' hsucc hmo hf hb ht hg hfk
     go_wp2_with fail
     go_roundw
     case rel=>exact⟨k+1,f',by omega,by go_num,Xhsame.out.symm,by rw [Xhmo.out],Xhb.out,Xhc'.out,Xht.out⟩
     case measure=>simp [intOf];omega
    |false=>
     rw [hfk]at hbk
     have hset:BSet (wr.setCell ⟨b,k,none⟩ (.bool true)) b m (joinTo f g (k+1)):=hb.put hlt true (fun t=>by rw [hsucc];simp [hfk,hg])
     have hmore:true=moreB m f (joinTo f g (k+1)):=by
      refine(moreB_iff.2 ⟨k,hlt,?_,?_⟩).symm
      ·rw [hsucc];simp [hg]
      ·rw [hf]at hfk
       unfold joinTo at hfk
       rw [Bool.or_eq_false_iff]at hfk
       exact hfk.1
     have ht2:Touch (fun k=>k=b) w (wr.setCell ⟨b,k,none⟩ (.bool true)):=ht.setCell (fun _=>rfl) _
     have hc': ∀t,k+1≤t→t<m→(wr.setCell ⟨b,k,none⟩ (.bool true)).cell? ⟨b2,t,none⟩=some (.bool (g t)):=fun t h1 h2=>by
      by_cases e:b=b2
      ·subst e
       have h3:=hset.cell h2
       rw [h3,hsucc,if_neg (by omega),hf]
       have:=Xhbb.out rfl t
       unfold joinTo
       rw [this]
       simp
      ·exact((Touch.refl (fun k=>k=b) wr).setCell (p:=⟨b,k,none⟩) (fun _=>rfl) (.bool true)).cell (hc t (by omega) h2) (fun e'=>e e'.symm)
     obtain⟨w2,hw2⟩: ∃w2,w2=wr.setCell ⟨b,k,none⟩ (.bool true):=⟨_,rfl⟩
     rw [←hw2]at hset ht2 hc'
     clear hc
     have Xhset:=hide hset;have Xhc':=hide hc';have Xhsucc:=hide hsucc;have Xhmo:=hide hmo;have Xhf:=hide hf;have Xhb:=hide hb;have Xht:=hide ht;have Xhg:=hide hg;have Xhfk:=hide hfk;have Xhmore:=hide hmore;have Xht2:=hide ht2;have Xhw2:=hide hw2;clear hset hc' hsucc hmo hf hb ht hg hfk hmore ht2 hw2
     go_wp2_with fail
     rw [←Xhw2.out]
     go_roundw
     case rel=>exact⟨k+1,_,by omega,by go_num,rfl,by rw [←Xhmore.out],Xhset.out,Xhc'.out,Xht2.out⟩
     case measure=>simp [intOf];omega
  ·have hkm:k=m:=by omega
   have hlt': ¬(k:Int)<(m:Int):=by omega
   have hfin:f'=fun t=>f t||g t:=by
    rw [hf];funext t
    unfold joinTo
    cases h1:decide (t<k)with
    |true=>simp
    |false=>rw [Xhi.out t (by have:=of_decide_eq_false h1;omega)];simp
   rw [hfin]at hb⊢
   have fin:RowPutPost w b m f (fun t=>f t||g t) (.returned (.bool (moreB m f (fun t=>f t||g t)))) wr:=⟨rfl,hb,ht⟩
   generalize moreB m f (fun t=>f t||g t)=mo at *
   have Xhb:=hide hb;have Xht:=hide ht;have Xhf:=hide hf;have Xhfin:=hide hfin;have Xhc:=hide hc;have Xfin:=hide fin;clear hb ht hf hfin hc fin;clear hkm
   go_wp2_with fail
   go_ret
   exact Xfin.out
set_option maxRecDepth 100000 in
set_option maxHeartbeats 2000000 in
theorem ref11_list {w:World} {b m:Nat} {f:Nat→Bool} (h:BSet w b m f) (hm:m≤4096):Calls Tryz.prog 99 #[RowV b m] w (ListPost w (below f m)):=by
 have hblt:=h.lt
 have Xh:=hide h;have Xhblt:=hide hblt;clear h hblt
 go_enter Tryz.func99,Tryz.ntmps99
 go_wp2_with fail
 go_loopw [3,4] (fun v i wr=> ∃(k:Nat) (A:Option Addr) (c:Nat),k≤m∧i= .int .i64 k∧v= .slice A (below f k).length c∧wr.ownsRow w.heap.size 3 1 (.slice A (below f k).length c) (below f k).length ((below f k).map J64)∧Below w.heap.size w wr) (fun _ i _=>m - (intOf i).toNat)
 case atStart=>exact⟨0,none,0,Nat.zero_le _,rfl,rfl,World.ownsRow_nil _ _ _ _,Below.refl _ _⟩
 case round=>
  obtain⟨k,A,c,hk,rfl,rfl,ho,hb⟩:=hrel
  have hz:=hb.size
  by_cases hlt:k<m
  ·have hlt':(k:Int)<(m:Int):=by omega
   have hck:=(Xh.out.below hb).cell hlt
   have hsucc:=below_succ f k
   have hle:=below_le f k
   cases hf:f k with
   |false=>
    rw [hf]at hck hsucc
    simp only [Bool.false_eq_true,if_false,List.append_nil]at hsucc
    have Xho:=hide ho;have Xhb:=hide hb;have Xhsucc:=hide hsucc;have Xhf:=hide hf;clear ho hb hsucc hf;clear hz hle
    go_wp2_with fail
    go_roundw
    case rel=>exact⟨k+1,A,c,by omega,by go_num,by rw [Xhsucc.out],by rw [Xhsucc.out];exact Xho.out,Xhb.out⟩
    case measure=>simp [intOf];omega
   |true=>
    rw [hf]at hck hsucc
    simp only [if_true]at hsucc
    obtain⟨l,hl⟩: ∃l,l=below f k:=⟨_,rfl⟩
    rw [←hl]at ho hsucc hle⊢
    clear hl
    have Xhb:=hide hb;have Xhsucc:=hide hsucc;have Xhf:=hide hf;clear hb hsucc hf
    go_wp2_with (at_builtin;refine wp_append _ rfl (.tmp 15) (.tmp 17) _ rfl Tryz.elemInt w.heap.size _ l.length (l.map J64) rfl (ho.alloc _) _ _ [J64 k] 1 rfl rfl (Rd.one [J64 k] 1 rfl) (by simp [Value.oneCell']) (by unfold maxLen;omega) (by omega) (by simp;omega) ?_)
    intro A2 c2 w2 ho2 hg2 _
    have hb2:Below w.heap.size w w2:=((Xhb.out.alloc hz _).grown hg2 (by simp;omega) (fun q hq=>(ho.lt q hq).1))
    clear ho hg2
    have Xho2:=hide ho2;have Xhb2:=hide hb2;clear ho2 hb2
    go_wp2_with fail
    go_roundw
    case rel=>exact⟨k+1,A2,c2,by omega,by go_num,by rw [Xhsucc.out];simp,by rw [Xhsucc.out];simpa using Xho2.out,Xhb2.out⟩
    case measure=>simp [intOf];omega
  ·have hkm:k=m:=by omega
   have hlt': ¬(k:Int)<(m:Int):=by omega
   have fin:ListPost w (below f m) (.returned (.slice A (below f k).length c)) wr:=⟨A,c,by rw [hkm],by rw [←hkm];exact ho,hb⟩
   have Xfin:=hide fin;have Xho:=hide ho;have Xhb:=hide hb;clear fin ho hb;clear hkm
   go_wp2_with fail
   go_ret
   exact Xfin.out
end
section
open Go.RowKit
attribute [local irreducible] wpStill wpOne wpPh
structure RD:Type where
 (s gi gb cb gh ch n m z:Nat)
 psb:Nat→Nat
 psh:Nat→Nat
 A1:Option Addr
 (T c1:Nat)
 A2:Option Addr
 (N c2:Nat)
 A3:Option Addr
 (R c3:Nat)
 st:Int
 F:Nat→Prop
structure RSets (w:World) (q:RD) (G:GramD) (e:Nat→Bool) (bg bh:Nat→Nat→Bool):Prop where
 blk:Blk w q.s 134 #[.slice q.A1 q.T q.c1,.slice q.A2 q.N q.c2,.slice q.A3 q.R q.c3,.int .i64 q.st,RowV q.gi q.n,.slice (some ⟨q.gb,0,none⟩) q.n q.cb,.slice (some ⟨q.gh,0,none⟩) q.n q.ch]
 gram:IsGram w q.F (.slice q.A1 q.T q.c1) (.slice q.A2 q.N q.c2) (.slice q.A3 q.R q.c3) G
 can:BSet w q.gi q.n e
 bgn:BFam w q.gb q.n q.m q.psb bg
 bhd:BFam w q.gh q.n q.m q.psh bh
 cap:((q.n≤q.cb∧q.cb≤9223372036854775807)∧q.n≤q.ch∧q.ch≤9223372036854775807)∧q.T≤q.c1∧q.c1≤9223372036854775807
 mT:q.m=q.T+1
 nG:q.n=topN G∧q.T=G.terms.length
 sz:q.n≤4096∧q.m≤4096∧q.T<q.n
 lo: ∀k,q.F k→k<q.z
 zs:q.z≤q.s∧q.z≤q.gi∧q.z≤q.gb∧q.z≤q.gh∧ ∀i,i<q.n→q.z≤q.psb i∧q.z≤q.psh i
 hi:q.gi<q.s∧q.gb<q.s∧q.gh<q.s∧ ∀i,i<q.n→q.psb i<q.s∧q.psh i<q.s
 ne:(q.gi≠q.gb∧q.gi≠q.gh)∧ ∀i,i<q.n→q.psb i≠q.gi∧q.psb i≠q.gh∧q.psh i≠q.gi∧q.psh i≠q.gb∧ ∀j,j<q.n→q.psb i≠q.psh j
section
variable {w w' : World} {q : RD} {G : GramD} {e e' : Nat → Bool} {bg bh : Nat → Nat → Bool} {S : Nat → Prop}
theorem RSets.touch (h:RSets w q G e bg bh) (ht:Touch S w w') (hS: ∀k,S k→q.s<k):RSets w' q G e bg bh:=by
 obtain⟨z1,z2,z3,z4,z5⟩:=h.zs
 obtain⟨i1,i2,i3,i4⟩:=h.hi
 have fs: ∀k,k≤q.s→ ¬S k:=fun k h1 hk=>by have:=hS k hk;omega
 exact⟨h.blk.touch ht (fs _ (Nat.le_refl _)),h.gram.touch ht (fun k hk=>fs k (by have:=h.lo k hk;omega)),h.can.touch ht (fs _ (by omega)),h.bgn.touch ht (fs _ (by omega)) (fun i hi=>fs _ (by have:=i4 i hi;omega)),h.bhd.touch ht (fs _ (by omega)) (fun i hi=>fs _ (by have:=i4 i hi;omega)),h.cap,h.mT,h.nG,h.sz,h.lo,h.zs,h.hi,h.ne⟩
theorem RSets.below (h:RSets w q G e bg bh) (hb:Below w.heap.size w w'):RSets w' q G e bg bh:=h.touch (Touch.of_size hb (fun _=>False)) fun _ h=>h.elim
theorem RSets.putE (h:RSets w q G e bg bh) (hs:BSet w' q.gi q.n e') (ht:Touch (fun k=>k=q.gi) w w'):RSets w' q G e' bg bh:=by
 obtain⟨z1,z2,z3,z4,z5⟩:=h.zs
 obtain⟨i1,i2,i3,i4⟩:=h.hi
 obtain⟨⟨n1,n2⟩,n3⟩:=h.ne
 exact⟨h.blk.touch ht (by omega),h.gram.touch ht (fun k hk e=>by have:=h.lo k hk;omega),hs,h.bgn.touch ht (fun e=>n1 e.symm) (fun i hi e=>(n3 i hi).1 e),h.bhd.touch ht (fun e=>n2 e.symm) (fun i hi e=>(n3 i hi).2.2.1 e),h.cap,h.mT,h.nG,h.sz,h.lo,h.zs,h.hi,h.ne⟩
theorem RSets.putB (h:RSets w q G e bg bh) {i:Nat} (hi:i<q.n) {f:Nat→Bool} (hs:BSet w' (q.psb i) q.m f) (ht:Touch (fun k=>k=q.psb i) w w'):RSets w' q G e (setF bg i f) bh:=by
 obtain⟨z1,z2,z3,z4,z5⟩:=h.zs
 obtain⟨i1,i2,i3,i4⟩:=h.hi
 obtain⟨⟨n1,n2⟩,n3⟩:=h.ne
 have hi4:=i4 i hi
 have hz5:=z5 i hi
 obtain⟨m1,m2,m3,m4,m5⟩:=n3 i hi
 exact⟨h.blk.touch ht (by omega),h.gram.touch ht (fun k hk e=>by have:=h.lo k hk;omega),h.can.touch ht (fun e=>m1 e.symm),h.bgn.put hi hs ht,h.bhd.touch ht (fun e=>m2 e.symm) (fun j hj e=>m5 j hj e.symm),h.cap,h.mT,h.nG,h.sz,h.lo,h.zs,h.hi,h.ne⟩
theorem RSets.putH (h:RSets w q G e bg bh) {i:Nat} (hi:i<q.n) {f:Nat→Bool} (hs:BSet w' (q.psh i) q.m f) (ht:Touch (fun k=>k=q.psh i) w w'):RSets w' q G e bg (setF bh i f):=by
 obtain⟨z1,z2,z3,z4,z5⟩:=h.zs
 obtain⟨i1,i2,i3,i4⟩:=h.hi
 obtain⟨⟨n1,n2⟩,n3⟩:=h.ne
 have hi4:=i4 i hi
 have hz5:=z5 i hi
 obtain⟨m1,m2,m3,m4,m5⟩:=n3 i hi
 exact⟨h.blk.touch ht (by omega),h.gram.touch ht (fun k hk e=>by have:=h.lo k hk;omega),h.can.touch ht (fun e=>m3 e.symm),h.bgn.touch ht (fun e=>m4 e.symm) (fun j hj e=>(n3 j hj).2.2.2.2 i hi e),h.bhd.put hi hs ht,h.cap,h.mT,h.nG,h.sz,h.lo,h.zs,h.hi,h.ne⟩
theorem RSets.cells (h:RSets w q G e bg bh):(w.cell? ⟨q.s,0,none⟩=some (.slice q.A1 q.T q.c1)∧w.cell? ⟨q.s,1,none⟩=some (.slice q.A2 q.N q.c2)∧w.cell? ⟨q.s,2,none⟩=some (.slice q.A3 q.R q.c3)∧w.cell? ⟨q.s,3,none⟩=some (.int .i64 q.st))∧w.cell? ⟨q.s,4,none⟩=some (RowV q.gi q.n)∧w.cell? ⟨q.s,5,none⟩=some (.slice (some ⟨q.gb,0,none⟩) q.n q.cb)∧w.cell? ⟨q.s,6,none⟩=some (.slice (some ⟨q.gh,0,none⟩) q.n q.ch):=
 ⟨⟨(h.blk.cell 0).trans rfl,(h.blk.cell 1).trans rfl,(h.blk.cell 2).trans rfl,(h.blk.cell 3).trans rfl⟩,(h.blk.cell 4).trans rfl,(h.blk.cell 5).trans rfl,(h.blk.cell 6).trans rfl⟩
theorem RSets.hiB (h:RSets w q G e bg bh): ∀i t,i<q.n→q.m≤t→bg i t=false:=fun i t hi ht=>(h.bgn.set i hi).high t ht
theorem RSets.hiH (h:RSets w q G e bg bh): ∀i t,i<q.n→q.m≤t→bh i t=false:=fun i t hi ht=>(h.bhd.set i hi).high t ht
theorem RSets.extB {bg':Nat→Nat→Bool} (h:RSets w q G e bg bh) (hb: ∀i,i<q.n→bg' i=bg i):RSets w q G e bg' bh:=⟨h.blk,h.gram,h.can,h.bgn.ext hb,h.bhd,h.cap,h.mT,h.nG,h.sz,h.lo,h.zs,h.hi,h.ne⟩
theorem RSets.extH {bh':Nat→Nat→Bool} (h:RSets w q G e bg bh) (hb: ∀i,i<q.n→bh' i=bh i):RSets w q G e bg bh':=⟨h.blk,h.gram,h.can,h.bgn,h.bhd.ext hb,h.cap,h.mT,h.nG,h.sz,h.lo,h.zs,h.hi,h.ne⟩
end
theorem ref11_in {w:World} {q:RD} {G:GramD} {e:Nat→Bool} {bg bh:Nat→Nat→Bool} (h:RSets w q G e bg bh) (x:Int):Calls Tryz.prog 97 #[PtrV q.s,.int .i64 x] w (fun e w'=>e= .returned (.bool (decide (0≤x)&&decide (x<q.n)))∧w=w'):=by
 have s4:=h.cells.2.1
 clear h
 go_enter Tryz.func97,Tryz.ntmps97
 by_cases h0:0≤x
 ·by_cases h1:x<(q.n:Int)
  ·go_wp2_with fail
   go_ret
   exact⟨ret_bool (by symm;simp<;>omega),rfl⟩
  ·go_wp2_with fail
   go_ret
   exact⟨ret_bool (by symm;simp<;>omega),rfl⟩
 ·go_wp2_with fail
  go_ret
  exact⟨ret_bool (by symm;simp<;>omega),rfl⟩
def BegPost (w:World) (m:Nat) (f:Nat→Bool) (all:Bool) (e:Ending) (w':World):Prop:= ∃b,e= .returned (.tuple #[RowV b m,.bool all])∧BSet w' b m f∧w.heap.size≤b∧Below w.heap.size w w'
set_option maxRecDepth 100000 in
set_option maxHeartbeats 4000000 in
theorem ref11_begins {w:World} {q:RD} {G:GramD} {e:Nat→Bool} {bg bh:Nat→Nat→Bool} (h:RSets w q G e bg bh) {F:Nat→Prop} {v:Value} {l:List Int} (hl:RdI w F v l) (hF: ∀k,F k→k<w.heap.size):
  Calls Tryz.prog 94 #[PtrV q.s,v] w (BegPost w q.m (lineB (hasI q.n e) (famI q.n bg) l) (l.all (hasI q.n e))):=by
 obtain⟨A,p,d,rfl,-⟩:=id hl
 obtain⟨hn,hnd,hdm,hcell⟩:=RdI.at_ hl
 unfold maxLen at hdm
 have hsz:=h.sz
 have hmT:=h.mT
 have hmk1:=make_bools q.m (by omega) w
 obtain⟨w1,hw1⟩: ∃w1,w1=w.alloc (.cells (madeCells #[.bool false] q.m) 4):=⟨_,rfl⟩
 have b1:Below w.heap.size w w1:=by rw [hw1];exact(Below.refl _ _).alloc (Nat.le_refl _) _
 have hb1:BSet w1 w.heap.size q.m noBits:=by rw [hw1];exact BSet.new w q.m
 rw [←hw1,show((q.m:Nat):Int)=(q.T:Int)+1 by omega]at hmk1
 have h1:=h.below b1
 have hsw:=h.blk.lt
 have hwT:IntKind.i64.wrap ((q.T:Int)+1)=(q.T:Int)+1:=by rw [IntKind.wrap_i64];omega
 obtain⟨⟨s0,-⟩,-⟩:=h.cells
 obtain⟨hcap,hT1,hT2⟩:=h.cap
 clear h hsz hw1 hcap
 have hmm:q.m≤4096:=h1.sz.2.1
 have Xhn:=hide hn;have Xhl:=hide hl;have XhF:=hide hF;have Xh1:=hide h1;have Xhb1:=hide hb1;have Xb1:=hide b1;have XhmT:=hide hmT;have Xhsw:=hide hsw;have Xhmm:=hide hmm;clear hn hl hF h1 hb1 b1 hmT hsw hmm
 go_enter Tryz.func94,Tryz.ntmps94
 go_wp2_with fail
 clear s0 hmk1 hT1 hT2
 go_loopw [7] (fun i wr=> ∃k:Nat,k≤p∧i= .int .i64 k∧(l.take k).all (hasI q.n e)=true∧RSets wr q G e bg bh∧BSet wr w.heap.size q.m (lineB (hasI q.n e) (famI q.n bg) (l.take k))∧Touch (fun k=>k=w.heap.size) w1 wr) (fun i _=>p - (intOf i).toNat)
 case atStart=>exact⟨0,Nat.zero_le _,rfl,rfl,Xh1.out,Xhb1.out,Touch.refl _ _⟩
 case round=>
  clear Xh1 Xhb1
  obtain⟨k,hk,rfl,hall,hS,hB,ht⟩:=hrel
  have hbel:Below w.heap.size w wr:=Xb1.out.trans (ht.below (fun k hk _ e=>by omega) Xb1.out.size)
  by_cases hlt:k<p
  ·have hlt':(k:Int)<(p:Int):=by omega
   obtain⟨bb,off,rfl,hFb,hc1⟩:=hcell (by omega)
   obtain⟨x,hx⟩: ∃x,l[k]? =some x:=⟨_,List.getElem?_eq_getElem (by rw [←Xhn.out];exact hlt)⟩
   have hcx:=(hbel.cell (p:=⟨bb,off+k,none⟩) (XhF.out _ hFb)).trans (hc1 k x hx)
   have ci:=ref11_in hS x
   clear hcell hc1
   by_cases hin:0≤x∧x<(q.n:Int)
   case neg=>
    have hsy:(decide (0≤x)&&decide (x<(q.n:Int)))=false:=by
     rw [Bool.and_eq_false_iff,decide_eq_false_iff_not,decide_eq_false_iff_not];omega
    rw [hsy]at ci
    have hno:x<0∨(q.n:Int)≤x:=by omega
    have he:hasI q.n e x=false:=hasI_no hno
    have hff:lineB (hasI q.n e) (famI q.n bg) l=lineB (hasI q.n e) (famI q.n bg) (l.take k):=by
     funext t
     rw [lineB_stop hx he,take_get hx,lineB_snoc hall,famI_no hno]
     simp
    have fin:BegPost w q.m (lineB (hasI q.n e) (famI q.n bg) l) (l.all (hasI q.n e)) (.returned (.tuple #[RowV w.heap.size q.m,.bool false])) wr:=⟨_,by rw [all_stop hx he],by rw [hff];exact hB,Nat.le_refl _,hbel⟩
    clear hin hno hff he
    have Xfin:=hide fin;have Xci:=hide ci;have Xhx:=hide hx;have Xhall:=hide hall;have XhS:=hide hS;have XhB:=hide hB;have Xht:=hide ht;have Xhbel:=hide hbel;have Xhsy:=hide hsy;clear fin ci hx hall hS hB ht hbel hsy
    go_wp2_with fail
    refine Xci.out.mono ?_
    rintro ee w2 ⟨rfl,rfl⟩
    go_wp2_with fail
    go_ret2
    exact Xfin.out
   case pos=>
    have hsy:(decide (0≤x)&&decide (x<(q.n:Int)))=true:=by rw [decide_eq_true hin.1,decide_eq_true hin.2];rfl
    rw [hsy]at ci
    obtain⟨i,rfl⟩:=Int.eq_ofNat_of_zero_le hin.1
    have hi2:=hin.2
    have hi:i<q.n:=by omega
    have hSd:=hS.below ((Below.refl _ wr).drew)
    have hne:w.heap.size≠q.psb i:=by have:=hS.hi.2.2.2 i hi;have:=Xhsw.out;omega
    have cp:=ref11_put (w:=wr.drew) (hB.below ((Below.refl _ wr).drew)) (hSd.bgn.set i hi) Xhmm.out (fun e=>absurd e hne)
    obtain⟨-,s4,s5,s6⟩:=hS.cells
    have hpi:=hS.bgn.cell i hi
    obtain⟨⟨⟨hc1,hc2⟩,-⟩,-⟩:=hS.cap
    have hf2:(fun t=>lineB (hasI q.n e) (famI q.n bg) (l.take k) t||bg i t)=lineB (hasI q.n e) (famI q.n bg) (l.take (k+1)):=by
     funext t
     rw [take_get hx,lineB_snoc hall,famI_nat hi]
    rw [hf2]at cp
    unfold RowPutPost at cp
    generalize moreB q.m (lineB (hasI q.n e) (famI q.n bg) (l.take k)) (lineB (hasI q.n e) (famI q.n bg) (l.take (k+1)))=mo at cp
    have hstop:hasI q.n e (i:Int)=false→lineB (hasI q.n e) (famI q.n bg) l=lineB (hasI q.n e) (famI q.n bg) (l.take (k+1))∧l.all (hasI q.n e)=false:=fun he=>⟨by funext t;exact lineB_stop hx he,all_stop hx he⟩
    have hnext:hasI q.n e (i:Int)=true→(l.take (k+1)).all (hasI q.n e)=true:=fun he=>all_take hx hall he
    clear hin hsy hf2
    have Xci:=hide ci;have Xhx:=hide hx;have Xhall:=hide hall;have XhS:=hide hS;have XhB:=hide hB;have Xht:=hide ht;have Xhbel:=hide hbel;have XhSd:=hide hSd;have Xcp:=hide cp;have Xhne:=hide hne;have Xhstop:=hide hstop;have Xhnext:=hide hnext;clear ci hx hall hS hB ht hbel hSd cp hne hstop hnext
    go_wp2_with fail
    refine Xci.out.mono ?_
    rintro ee w2 ⟨rfl,rfl⟩
    go_wp2_with fail
    refine region_tail 11 (by kernel_rfl) (by kernel_rfl) ?_
    simp only [List.take_succ_cons,List.take_zero,List.drop_succ_cons,List.drop_zero]
    repeat still_step
    refine wpStill_nil ?_
    go_wp2_with fail
    with_reducible refine Xcp.out.mono ?_
    rintro ee w3 ⟨rfl,hs3,t3⟩
    have hS3:=XhSd.out.touch t3 (fun k hk=>by have:=Xhsw.out;omega)
    have ht3:=(Xht.out.drew).trans' t3
    have hb3:Below w.heap.size w w3:=Xb1.out.trans (ht3.below (fun k hk _ e=>by omega) Xb1.out.size)
    have hcx3:=(hb3.cell (p:=⟨bb,off+k,none⟩) (XhF.out _ hFb)).trans ((Xhbel.out.cell (p:=⟨bb,off+k,none⟩) (XhF.out _ hFb)).symm.trans hcx)
    have s43:=hS3.cells.2.1
    have he3:=hS3.can.cell hi
    clear s4 s5 s6 hpi hcx t3 XhS XhB Xht Xhbel XhSd Xcp Xci
    cases he:e i with
    |false=>
     obtain⟨e1,e2⟩:=Xhstop.out (by rw [hasI_nat hi];exact he)
     rw [he]at he3
     have fin:BegPost w q.m (lineB (hasI q.n e) (famI q.n bg) l) (l.all (hasI q.n e)) (.returned (.tuple #[RowV w.heap.size q.m,.bool false])) w3.drew:=⟨_,by rw [e2],by rw [e1];exact hs3.below ((Below.refl _ _).drew),Nat.le_refl _,hb3.drew⟩
     clear e1 e2 hb3 ht3
     have Xfin:=hide fin;have Xhs3:=hide hs3;have XhS3:=hide hS3;have Xhe:=hide he;clear fin hs3 hS3 he
     go_wp2_with fail
     refine region_reads (by kernel_rfl) (by kernel_rfl) ?_
     repeat still_step
     refine wpStill_nil ?_
     go_wp2_with fail
     go_ret2
     exact Xfin.out
    |true=>
     have hall2:=Xhnext.out (by rw [hasI_nat hi];exact he)
     rw [he]at he3
     have hS4:=hS3.below ((Below.refl _ _).drew)
     have hs4:=hs3.below ((Below.refl _ w3).drew)
     have ht4:=ht3.drew
     clear hb3 ht3
     have XhS3:=hide hS3;have Xhe:=hide he;have Xhall2:=hide hall2;have XhS4:=hide hS4;have Xhs4:=hide hs4;have Xht4:=hide ht4;have Xhs3:=hide hs3;clear hS3 he hall2 hS4 hs4 ht4 hs3
     go_wp2_with fail
     refine region_reads (by kernel_rfl) (by kernel_rfl) ?_
     repeat still_step
     refine wpStill_nil ?_
     go_wp2_with fail
     go_roundw
     case rel=>exact⟨k+1,by omega,by go_num,Xhall2.out,XhS4.out,Xhs4.out,Xht4.out⟩
     case measure=>simp [intOf];omega
  ·have hkq:k=p:=by omega
   have hlt': ¬(k:Int)<(p:Int):=by omega
   have hk2:l.take k=l:=List.take_of_length_le (by have:=Xhn.out;omega)
   rw [hk2]at hB hall
   have fin:BegPost w q.m (lineB (hasI q.n e) (famI q.n bg) l) (l.all (hasI q.n e)) (.returned (.tuple #[RowV w.heap.size q.m,.bool true])) wr:=⟨_,by rw [hall],hB,Nat.le_refl _,hbel⟩
   have Xfin:=hide fin;have Xhall:=hide hall;have XhS:=hide hS;have XhB:=hide hB;have Xht:=hide ht;have Xhbel:=hide hbel;have Xhk2:=hide hk2;clear fin hall hS hB ht hbel hk2;clear hkq
   go_wp2_with fail
   go_ret2
   exact Xfin.out
end
end Go.Proofs.YtlpokomfljmogaaGreat
namespace Go.Proofs.YtlpokomfljmogaaGreat
set_option linter.unusedVariables false
open Go.RowKit
attribute [local irreducible] wpStill wpOne wpPh
def RHPost (w:World) (q:RD) (G:GramD) (e:Nat→Bool) (bg bh:Nat→Nat→Bool) (l:Int) (xs:List Int) (ee:Ending) (w':World):Prop:=
 ∃bh' m,ee= .returned (.bool m)∧RSets w' q G e bg bh'∧HStep G.terms.length (topOf G) q.n q.m (hasI q.n e) (famI q.n bg) bh l xs xs.length bh' m∧Touch (fun k=> ∃i,i<q.n∧k=q.psh i) w w'
set_option maxRecDepth 100000 in
set_option maxHeartbeats 8000000 in
theorem ref11_behind {w:World} {q:RD} {G:GramD} {e:Nat→Bool} {bg bh:Nat→Nat→Bool} (h:RSets w q G e bg bh) {F:Nat→Prop} {v:Value} {l:Int} {xs:List Int} (hl:RdI w F v xs) (hF: ∀k,F k→k<q.z) (hlr:0≤l∧l<q.n) (hxr: ∀x∈xs,1≤x∧x<q.n):
  Calls Tryz.prog 96 #[PtrV q.s,.agg #[.int .i64 l,v]] w (RHPost w q G e bg bh l xs):=by
 obtain⟨li,rfl⟩:=Int.eq_ofNat_of_zero_le hlr.1
 have hli:li<q.n:=by omega
 have hli2:(li:Int)<(q.n:Int):=by omega
 clear hlr
 obtain⟨A,nx,d,rfl,-⟩:=id hl
 obtain⟨hn,hnd,hdm,hcell⟩:=RdI.at_ hl
 unfold maxLen at hdm
 obtain⟨w1,hw1⟩: ∃w1,w1=w.alloc (.cells #[.int .i64 (li:Int),.slice A nx d] 80):=⟨_,rfl⟩
 have b1:Below w.heap.size w w1:=by rw [hw1];exact(Below.refl _ w).alloc (Nat.le_refl _) _
 have k1:Blk w1 w.heap.size 80 #[.int .i64 (li:Int),.slice A nx d]:=by rw [hw1];exact Blk.new _ _ _
 have h1:=h.below b1
 have hsw:=h.blk.lt
 have hF1: ∀k,F k→k<w.heap.size:=fun k hk=>by have:=hF k hk;have:=h.zs.1;omega
 have hF2: ∀k,F k→k<w1.heap.size:=fun k hk=>by have:=hF1 k hk;have:=b1.size;omega
 have hl1:RdI w1 F (.slice A nx d) xs:=hl.below b1 hF1
 have far: ∀k,F k→ ¬(∃i,i<q.n∧k=q.psh i):=fun k hk e=>by obtain⟨i,hi,rfl⟩:=e;have:=hF _ hk;have:=(h.zs.2.2.2.2 i hi).2;omega
 have c1:=(k1.cell 1).trans rfl
 rw [hw1]at c1
 clear h hF
 have Xhn:=hide hn;have Xhl:=hide hl;have Xk1:=hide k1;have Xh1:=hide h1;have Xhl1:=hide hl1;have Xb1:=hide b1;have Xhsw:=hide hsw;have XhF1:=hide hF1;have XhF2:=hide hF2;have Xfar:=hide far;have Xhxr:=hide hxr;clear hn hl k1 h1 hl1 b1 hsw hF1 hF2 far hxr
 go_enter Tryz.func96,Tryz.ntmps96
 go_wp2_with fail
 rw [←hw1]
 clear c1 hw1
 go_loopw [5,6] (fun mo i wr=> ∃(k:Nat) (bh':Nat→Nat→Bool) (m:Bool),k≤nx∧i= .int .i64 k∧mo= .bool m∧RSets wr q G e bg bh'∧HStep G.terms.length (topOf G) q.n q.m (hasI q.n e) (famI q.n bg) bh (li:Int) xs k bh' m∧Touch (fun k=> ∃i,i<q.n∧k=q.psh i) w1 wr) (fun _ i _=>nx - (intOf i).toNat)
 case atStart=>exact⟨0,bh,false,Nat.zero_le _,rfl,rfl,Xh1.out,HStep.zero _ _ _ _ _ _ _ _ _,Touch.refl _ _⟩
 case round=>
  obtain⟨k,bh',m,hk,rfl,rfl,hS,hst,ht⟩:=hrel
  have kr:=Xk1.out.touch ht (fun hk=>by obtain⟨j,hj,e⟩:=hk;have:=hS.hi.2.2.2 j hj;have:=Xhsw.out;omega)
  have kr1:=(kr.cell 1).trans rfl
  by_cases hlt:k<nx
  ·have hlt':(k:Int)<(nx:Int):=by omega
   obtain⟨bb,off,rfl,hFb,hc1⟩:=hcell (by omega)
   obtain⟨x,hx⟩: ∃x,xs[k]? =some x:=⟨_,List.getElem?_eq_getElem (by rw [←Xhn.out];exact hlt)⟩
   have hcxx: ∀w',Touch (fun k=> ∃i,i<q.n∧k=q.psh i) w1 w'→w'.cell? ⟨bb,off+k,none⟩=some (.int .i64 x):=fun w' t=>t.cell ((Xb1.out.cell (p:=⟨bb,off+k,none⟩) (XhF1.out _ hFb)).trans (hc1 k x hx)) (Xfar.out _ hFb)
   have hcx:=hcxx wr ht
   obtain⟨⟨s0,s1,s2,s3⟩,-⟩:=hS.cells
   have hxx:=Xhxr.out x (List.mem_of_getElem? hx)
   obtain⟨i,rfl⟩:=Int.eq_ofNat_of_zero_le (show 0≤x by omega)
   have hi:i<q.n:=by omega
   have hi2:(i:Int)<(q.n:Int):=by omega
   have hSd:=hS.below ((Below.refl _ wr).drew)
   have cnn:=ref_non hSd.gram q.st (i:Int)
   have hnb:=nonB_isNon (G:=G) (x:=(i:Int))
   rw [←hnb]at cnn
   obtain⟨nb,hnon⟩: ∃nb,nb=nonB G.terms.length (topOf G) (i:Int):=⟨_,rfl⟩
   rw [←hnon]at cnn
   clear hcell hc1 hxx kr hnb
   have Xhx:=hide hx;have XhS:=hide hS;have Xht:=hide ht;have Xhcxx:=hide hcxx;have XhSd:=hide hSd;have Xcnn:=hide cnn;have Xhst:=hide hst;have Xhnon:=hide hnon;clear hx hS ht hcxx hSd cnn hst hnon
   go_wp2_with fail
   refine region_tail 9 (by kernel_rfl) (by kernel_rfl) ?_
   simp only [List.take_succ_cons,List.take_zero,List.drop_succ_cons,List.drop_zero]
   repeat still_step
   refine wpStill_nil ?_
   go_wp2_with fail
   with_reducible refine Xcnn.out.mono ?_
   rintro ee w2 ⟨rfl,b2⟩
   have hS2:=XhSd.out.below b2
   have ht2:=(Xht.out.drew).trans' ((Touch.of_size b2 (fun _=>False)).mono fun _ _ h=>h.elim)
   clear s0 s1 s2 s3 hcx kr1 XhS XhSd Xcnn
   cases nb with
   |false=>
    have hst2:=Xhst.out.skip Xhx.out Xhnon.out.symm
    clear b2
    have Xhst2:=hide hst2;have XhS2:=hide hS2;have Xht2:=hide ht2;clear hst2 hS2 ht2
    go_wp2_with fail
    go_roundw
    case rel=>exact⟨k+1,bh',m,by omega,by go_num,rfl,XhS2.out,Xhst2.out,Xht2.out⟩
    case measure=>simp [intOf];omega
   |true=>
    have hst:=Xhst.out
    have hnon:=Xhnon.out.symm
    clear Xhst Xhnon
    obtain⟨⟨s0,s1,s2,s3⟩,-⟩:=hS2.cells
    obtain⟨⟨-,kc1,kc2⟩,-⟩:=hS2.cap
    have hnk:(k:Int)+1≤(nx:Int):=by omega
    have hw63:IntKind.i64.wrap ((k:Int)+1)=(k:Int)+1:=by rw [IntKind.wrap_i64];omega
    have htn:((k:Int)+1).toNat=k+1:=by omega
    have h0k:(0:Int)≤(k:Int)+1:=by omega
    have hrt:=RdI.tail (Rd.touch Xhl1.out ht2 Xfar.out) (k:=k+1) (by omega)
    obtain⟨A',hA'⟩: ∃A':Option Addr,(if d=k+1 then(some ⟨bb,off,none⟩:Option Addr)else some ⟨bb,off+(k+1),none⟩)=A':=⟨_,rfl⟩
    rw [hA']at hrt
    have cb:=fun wq (hb:Below w2.heap.size w2 wq)=>ref11_begins (hS2.below hb) (hrt.below hb (fun k hk=>Nat.lt_of_lt_of_le (XhF2.out k hk) (Nat.le_trans Xht.out.size b2.size))) (fun k hk=>Nat.lt_of_lt_of_le (XhF2.out k hk) (Nat.le_trans (Nat.le_trans Xht.out.size b2.size) hb.size))
    have cb2:=cb w2 (Below.refl _ _)
    obtain⟨f,hf⟩: ∃f,f=joinL (bh' i) (hasI q.n e) (famI q.n bg) (xs.drop (k+1)):=⟨_,rfl⟩
    obtain⟨m1,hm1⟩: ∃m1,m1=moreB q.m (bh' i) f:=⟨_,rfl⟩
    obtain⟨al,hal⟩: ∃al,al=(xs.drop (k+1)).all (hasI q.n e):=⟨_,rfl⟩
    obtain⟨g,hg⟩: ∃g,g=lineB (hasI q.n e) (famI q.n bg) (xs.drop (k+1)):=⟨_,rfl⟩
    have hfg:f=fun t=>bh' i t||g t:=by rw [hf,hg];rfl
    rw [←hg,←hal]at cb2
    have hp:=hS2.bhd.cell i hi
    have hb1:=((Xk1.out.touch ht2 (fun hk=>by obtain⟨j,hj,e⟩:=hk;have:=hS2.hi.2.2.2 j hj;have:=Xhsw.out;omega)).cell 1).trans rfl
    clear b2 cb
    have Xhst:=hide hst;have XhS2:=hide hS2;have Xht2:=hide ht2;have Xhnon:=hide hnon;have Xhrt:=hide hrt;have Xcb2:=hide cb2;have Xhf:=hide hf;have Xhm1:=hide hm1;have Xhal:=hide hal;have Xhg:=hide hg;have Xhfg:=hide hfg;clear hst hS2 ht2 hnon hrt cb2 hf hm1 hal hg hfg
    go_wp2_with fail
    refine Xcb2.out.mono ?_
    rintro ee w3 ⟨b,rfl,hs3,hbl,b3⟩
    have hS3:=XhS2.out.below b3
    have hS3d:=hS3.below ((Below.refl _ w3).drew)
    have hs3d:=hs3.below ((Below.refl _ w3).drew)
    have ht3:=Xht2.out.trans' ((Touch.of_size (b3.trans ((Below.refl _ w3).drew.mono b3.size)) (fun _=>False)).mono fun _ _ h=>h.elim)
    have hsb:q.psh i<b:=by have:=hS3.hi.2.2.2 i hi;have:=XhS2.out.blk.lt;omega
    have cp:=ref11_put (hS3d.bhd.set i hi) hs3d hS3.sz.2.1 (fun e=>by omega)
    rw [←Xhfg.out]at cp
    unfold RowPutPost at cp
    rw [←Xhm1.out]at cp
    obtain⟨-,s4,s5,s6⟩:=hS3.cells
    have hp:=hS3.bhd.cell i hi
    have hb3:=((Xk1.out.touch ht3 (fun hk=>by obtain⟨j,hj,e⟩:=hk;have:=hS3.hi.2.2.2 j hj;have:=Xhsw.out;omega)).cell 1).trans rfl
    have hcx3:=(Xhcxx.out w3.drew ht3)
    have hhi:=XhS2.out.hiH
    have hhb: ∀t,q.m≤t→lineB (hasI q.n e) (famI q.n bg) (xs.drop (k+1)) t=false:=fun t ht=>lineB_high XhS2.out.hiB ht
    have hnp:topOf G<q.n:=by rw [hS3.nG.1];unfold topOf topN;omega
    clear hb1 s0 s1 s2 s3 hbl b3 hS3 hs3 Xcb2 Xhrt
    have Xcp:=hide cp;have XhS3d:=hide hS3d;have Xhs3d:=hide hs3d;have Xht3:=hide ht3;have Xhhi:=hide hhi;have Xhhb:=hide hhb;have Xhnp:=hide hnp;clear cp hS3d hs3d ht3 hhi hhb hnp
    go_wp2_with fail
    refine region_tail 12 (by kernel_rfl) (by kernel_rfl) ?_
    simp only [List.take_succ_cons,List.take_zero,List.drop_succ_cons,List.drop_zero]
    repeat still_step
    refine wpStill_nil ?_
    go_wp2_with fail
    with_reducible refine Xcp.out.mono ?_
    rintro ee w4 ⟨rfl,hs4,t4⟩
    have hS4:=XhS3d.out.putH hi hs4 t4
    have ht4:=Xht3.out.trans t4 (fun j _ hj=>⟨i,hi,hj⟩)
    clear s4 s5 s6 hp hb3 hcx3 hs4 t4 Xcp XhS3d Xhs3d Xht3
    have hb4:=Xk1.out.touch ht4 (fun hk=>by obtain⟨j,hj,e⟩:=hk;have:=hS4.hi.2.2.2 j hj;have:=Xhsw.out;omega)
    have hb41:=(hb4.cell 1).trans rfl
    have hb40:=(hb4.cell 0).trans rfl
    obtain⟨-,s4,s5,s6⟩:=hS4.cells
    have hp:=hS4.bhd.cell i hi
    have hp2:=hS4.bhd.cell li hli
    have hcx4:=(Xhcxx.out w4 ht4)
    cases al with
    |false=>
     have hpart:=Xhst.out.part Xhx.out Xhnon.out Xhnp.out Xhhi.out Xhhb.out Xhal.out.symm
     rw [Int.toNat_natCast,←Xhf.out,←Xhm1.out]at hpart
     have hS5:=hS4.below ((Below.refl _ w4).drew)
     have ht5:=ht4.drew
     clear hS4 ht4 hb4
     cases m1
     all_goals
      simp only [Bool.or_false,Bool.or_true]at hpart
      have Xhpart:=hide hpart;have XhS5:=hide hS5;have Xht5:=hide ht5;clear hpart hS5 ht5
      go_wp2_with fail
      refine region_tail 21 (by kernel_rfl) (by kernel_rfl) ?_
      simp only [List.take_succ_cons,List.take_zero,List.drop_succ_cons,List.drop_zero]
      repeat still_step
      refine wpStill_nil ?_
      go_wp2_with fail
      go_roundw
      case rel=>exact⟨k+1,_,_,by omega,by go_num,rfl,XhS5.out,Xhpart.out,Xht5.out⟩
      case measure=>simp [intOf];omega
    |true=>
     obtain⟨f2,hf2⟩: ∃f2,f2=fun t=>f t||setF bh' i f li t:=⟨_,rfl⟩
     obtain⟨m2,hm2⟩: ∃m2,m2=moreB q.m f f2:=⟨_,rfl⟩
     have hwhole:=Xhst.out.whole (f:=f) (f2:=f2) Xhx.out Xhnon.out Xhnp.out Xhhi.out Xhhb.out Xhal.out.symm (by rw [Int.toNat_natCast];exact hli) (by rw [Int.toNat_natCast];exact Xhf.out) (by rw [Int.toNat_natCast,Int.toNat_natCast];exact hf2)
     rw [Int.toNat_natCast,←hm2,←Xhm1.out]at hwhole
     have hSd:=hS4.below ((Below.refl _ w4).drew)
     have co:=ref11_put (hSd.bhd.set i hi) (hSd.bhd.set li hli) hSd.sz.2.1 (fun e=>by rw [hSd.bhd.apart i li hi hli e])
     unfold RowPutPost at co
     rw [setF_same,←hf2,←hm2]at co
     have ht5:=ht4.drew
     clear hS4 ht4 hb4
     cases m2
     all_goals
      cases m1
      all_goals
       simp only [Bool.or_false,Bool.or_true]at hwhole
       have Xhwhole:=hide hwhole;have Xht5:=hide ht5;have Xco:=hide co;have XhSd:=hide hSd;have Xhf2:=hide hf2;have Xhm2:=hide hm2;clear hwhole ht5 co hSd hf2 hm2
       go_wp2_with fail
       refine region_tail 21 (by kernel_rfl) (by kernel_rfl) ?_
       simp only [List.take_succ_cons,List.take_zero,List.drop_succ_cons,List.drop_zero]
       repeat still_step
       refine wpStill_nil ?_
       go_wp2_with fail
       with_reducible refine Xco.out.mono ?_
       rintro ee w6 ⟨rfl,hs6,t6⟩
       have hS6:=XhSd.out.putH hi hs6 t6
       have ht6:=Xht5.out.trans t6 (fun j _ hj=>⟨i,hi,hj⟩)
       clear s4 s5 s6 hp hp2 hb40 hb41 hcx4 hs6 t6 Xco XhSd Xht5
       have XhS6:=hide hS6;have Xht6:=hide ht6;clear hS6 ht6
       go_wp2_with fail
       go_roundw
       case rel=>exact⟨k+1,_,_,by omega,by go_num,rfl,XhS6.out,Xhwhole.out,Xht6.out⟩
       case measure=>simp [intOf];omega
  ·have hkq:k=nx:=by omega
   have hlt': ¬(k:Int)<(nx:Int):=by omega
   have hlen:k=xs.length:=by have:=Xhn.out;omega
   rw [hlen]at hst
   have fin:RHPost w q G e bg bh (li:Int) xs (.returned (.bool m)) wr:=⟨bh',m,rfl,hS,hst,(Touch.of_size Xb1.out _).trans' ht⟩
   have Xfin:=hide fin;have XhS:=hide hS;have Xhst:=hide hst;have Xht:=hide ht;have Xhlen:=hide hlen;have Xkr:=hide kr;clear fin hS hst ht hlen kr;clear hkq
   go_wp2_with fail
   go_ret
   exact Xfin.out
end Go.Proofs.YtlpokomfljmogaaGreat

/- Items in memory: lists of two cells an element. -/
import Derived.Test.YtlpokomfljmogaaGreatRFirstPlain
import Derived.Test.YtlpokomfljmogaaGreatRBase
import Derived.Test.YtlpokomfljmogaaGreatRG7
import Derived.Test.YtlpokomfljmogaaGreatRRegion
import Derived.Laws.StructEq
import Derived.Shelf.SlicesE.Kit
import Derived.Shelf.SlSortCmp.NoneTotal
import Derived.Shelf.SlicesG.Cmp
import Derived.Test.YtlpokomfljmogaaGreatProg
import Derived.Shelf.Strings.Builder1
namespace Go.Proofs.YtlpokomfljmogaaGreat
set_option linter.unusedVariables false
section
open Go.RowKit
def itCells:List It→List Value
 |[]=>[]
 |x::r=>I64 x.1::I64 x.2::itCells r
theorem itCells_length: ∀l:List It,(itCells l).length=l.length * 2
 |[]=>rfl
 |x::r=>by simp [itCells,itCells_length r];omega
theorem itCells_append: ∀a b:List It,itCells (a++b)=itCells a++itCells b
 |[],b=>rfl
 |x::r,b=>by simp [itCells,itCells_append r b]
theorem itCells_get: ∀{l:List It} {k:Nat} {x:It},l[k]? =some x→(itCells l)[k * 2]? =some (I64 x.1)∧(itCells l)[k * 2+1]? =some (I64 x.2)
 |[],k,x,h=>by simp at h
 |y::r,0,x,h=>by simp at h;subst h;exact⟨rfl,rfl⟩
 |y::r,k+1,x,h=>by
  have:=itCells_get (l:=r) (k:=k) (x:=x) (by simpa using h)
  rw [show(k+1) * 2=k * 2+1+1 by omega]
  simpa [itCells]using this
theorem itCells_one (l:List It): ∀u∈itCells l,u.oneCell'=true:=by
 induction l with
 |nil=>simp [itCells]
 |cons x r ih=>
  intro u hu
  simp only [itCells,List.mem_cons]at hu
  rcases hu with rfl|rfl|hu
  ·rfl
  ·rfl
  ·exact ih u hu
theorem itCells_at {l:List It} {j:Nat} {u:Value} (h:(itCells l)[j]? =some u): ∃k x,l[k]? =some x∧((j=k * 2∧u=I64 x.1)∨(j=k * 2+1∧u=I64 x.2)):=by
 induction l generalizing j with
 |nil=>simp [itCells]at h
 |cons y r ih=>
  match j,h with
  |0,h=>simp [itCells]at h;exact⟨0,y,rfl,.inl ⟨rfl,h.symm⟩⟩
  |1,h=>simp [itCells]at h;exact⟨0,y,rfl,.inr ⟨rfl,h.symm⟩⟩
  |j+2,h=>
   simp [itCells]at h
   obtain⟨k,x,h1,h2⟩:=ih h
   refine⟨k+1,x,by simpa using h1,?_⟩
   rcases h2 with⟨e1,e2⟩|⟨e1,e2⟩
   ·exact .inl ⟨by omega,e2⟩
   ·exact .inr ⟨by omega,e2⟩
abbrev RdIt (w:World) (F:Nat→Prop) (v:Value) (l:List It):Prop:=Rd w F v 2 (itCells l)
theorem RdIt.at_ {w:World} {F:Nat→Prop} {A:Option Addr} {n c:Nat} {l:List It} (h:RdIt w F (.slice A n c) l):n=l.length∧n≤c∧c≤maxLen∧(0<n→ ∃b off,A=some ⟨b,off,none⟩∧F b∧ ∀k x,l[k]? =some x→w.cell? ⟨b,off+k * 2,none⟩=some (.int .i64 x.1)∧w.cell? ⟨b,off+k * 2+1,none⟩=some (.int .i64 x.2)):=by
 obtain⟨A',n',c',hv,h1,h2,hl,hr⟩:=h
 injection hv with e1 e2 e3
 subst e1 e2 e3
 rw [itCells_length]at hl
 refine⟨by omega,h1,h2,fun hn=> ?_⟩
 obtain⟨b,off,hA,hF,hc⟩:=hr hn
 refine⟨b,off,hA,hF,fun k x hx=> ?_⟩
 obtain⟨k1,k2⟩:=itCells_get hx
 exact⟨hc _ _ k1,by rw [Nat.add_assoc];exact hc _ _ k2⟩
theorem RdIt.mk {w:World} {F:Nat→Prop} {b off n c:Nat} {l:List It} (hn:n=l.length) (hc:n≤c) (hm:c≤maxLen) (hF:F b) (h: ∀k x,l[k]? =some x→w.cell? ⟨b,off+k * 2,none⟩=some (.int .i64 x.1)∧w.cell? ⟨b,off+k * 2+1,none⟩=some (.int .i64 x.2)):RdIt w F (.slice (some ⟨b,off,none⟩) n c) l:=by
 refine⟨_,_,_,rfl,hc,hm,by rw [itCells_length,hn],fun _=>⟨b,off,rfl,hF,fun j u hu=> ?_⟩⟩
 obtain⟨k,x,hx,h2|h2⟩:=itCells_at hu
 ·rw [h2.1,h2.2];exact(h k x hx).1
 ·rw [h2.1,h2.2,←Nat.add_assoc];exact(h k x hx).2
theorem RdIt.one {w:World} {e:TypeId} (x:It):RdIt (w.alloc (.cells #[.int .i64 x.1,.int .i64 x.2] e)) (fun b=>b=w.heap.size) (.slice (some ⟨w.heap.size,0,none⟩) 1 1) [x]:=Rd.one' (w:=w) (e:=e) [I64 x.1,I64 x.2] 2 rfl
section
open Go.ChangeShapes Go.WideShapes Go.ChangeAt Go.RowKit Go.Deep
variable {H : Type} {enc : TypeId × Value → H} {w : World} {sp : Nat → Bool}
end
def WfI (x:It):Prop:=(-9223372036854775808≤x.1∧x.1≤9223372036854775807)∧(-9223372036854775808≤x.2∧x.2≤9223372036854775807)
end
section
open Go.RowKit
attribute [local irreducible] wpStill wpOne wpPh
abbrev ItV (x:It):Value:= .agg #[.int .i64 x.1,.int .i64 x.2]
theorem two_boxes {w:World} {F:Nat→Prop} {A1:Option Addr} {c1:Nat} {A2:Option Addr} {c2:Nat} {A3:Option Addr} {c3 T N R:Nat} {G:GramD} (h:IsGram w F (.slice A1 T c1) (.slice A2 N c2) (.slice A3 R c3) G) (st a d:Int):
  ∃w2,w2=(w.alloc (.cells #[.slice A1 T c1,.slice A2 N c2,.slice A3 R c3,.int .i64 st] 25)).alloc (.cells #[.int .i64 a,.int .i64 d] 34)∧GBox w2 F w.heap.size A1 c1 A2 c2 A3 c3 T N R st G∧Blk w2 (w.heap.size+1) 34 #[.int .i64 a,.int .i64 d]∧Below w.heap.size w w2:=by
 have g1:=GBox.new h st
 obtain⟨w1,hw1⟩: ∃w1,w1=w.alloc (.cells #[.slice A1 T c1,.slice A2 N c2,.slice A3 R c3,.int .i64 st] 25):=⟨_,rfl⟩
 have hs:w1.heap.size=w.heap.size+1:=by rw [hw1];simp
 rw [←hw1]at g1
 have b1:Below w.heap.size w w1:=by rw [hw1];exact(Below.refl _ w).alloc (Nat.le_refl _) _
 have b2:Below w1.heap.size w1 (w1.alloc (.cells #[.int .i64 a,.int .i64 d] 34)):=(Below.refl _ _).alloc (Nat.le_refl _) _
 refine⟨_,rfl,?_,?_,?_⟩
 ·rw [←hw1];exact g1.below b2
 ·rw [←hw1,←hs];exact Blk.new _ _ _
 ·rw [←hw1];exact b1.trans (b2.mono b1.size)
set_option maxRecDepth 100000 in
set_option maxHeartbeats 2000000 in
theorem ref12_right {w:World} {F:Nat→Prop} {vt vn vr:Value} {G:GramD} (h:IsGram w F vt vn vr G) (st:Int) (x:It):
  Calls Tryz.prog 22 #[GV vt vn vr st,ItV x] w (Quiet w (.bool (rightI G st x))):=by
 have n1:(ruleOf G st x.1).2=(ruleOf G st x.1).2:=rfl
 have n2:=n1
 obtain⟨A1,c1,A2,c2,A3,c3,rfl,rfl,rfl,-⟩:=h.slices
 obtain⟨a,d⟩:=x
 obtain⟨w2,hw2,g2,k2,hb2⟩:=two_boxes h st a d
 have hc:=ref_rule g2.gram st a
 obtain⟨q0,q1,q2,q3⟩:=g2.cells
 have d0:=(k2.cell 0).trans rfl
 have d1:=(k2.cell 1).trans rfl
 have hv:rightI G st (a,d)=((ruleOf G st a).2&&(decide (0≤d)&&decide (d≤(ruleOf G st a).1.2.length))):=rfl
 generalize ruleOf G st a=r at *
 obtain⟨⟨l,xs⟩,ok⟩:=r
 (try simp only at hv n1 n2)
 rw [hw2]at hc q0 q1 q2 q3 d0 d1
 generalize G.terms.length=T at *
 generalize G.nons.length=N at *
 generalize G.rules.length=R at *
 have Xg2:=hide g2;have Xk2:=hide k2;have Xhb2:=hide hb2;have Xhc:=hide hc;have Xhv:=hide hv;have Xh:=hide h;have Xn1:=hide n1;have Xn2:=hide n2;clear g2 k2 hb2 hc hv h n1 n2
 go_enter Tryz.func22,Tryz.ntmps22
 go_wp2_with fail
 refine Xhc.out.mono ?_
 rintro e w3 ⟨A,n,c,rfl,hrd,b3⟩
 rw [←hw2]at b3
 have hb3:=Xhb2.out.trans (b3.mono Xhb2.out.size)
 have k3:=Xk2.out.below b3 Xk2.out.lt
 clear hw2 q0 q1 q2 q3 d0 d1 Xhc
 obtain⟨hn,hnc,hcm,-⟩:=RdI.at_ hrd
 obtain⟨w4,hw4⟩: ∃w4,w4=w3.alloc (.cells #[.int .i64 l,.slice A n c] 80):=⟨_,rfl⟩
 have b4:Below w3.heap.size w3 w4:=by rw [hw4];exact(Below.refl _ _).alloc (Nat.le_refl _) _
 have k4:=k3.below b4 k3.lt
 have hb4:=hb3.trans (b4.mono hb3.size)
 have d0:=(k4.cell 0).trans rfl
 have d1:=(k4.cell 1).trans rfl
 have hrd4:=hrd.below b4 (fun b hb=>hb)
 rw [←hn]at Xhv
 rw [hw4]at d0 d1
 clear hnc hcm hn b3 b4 k3 k4 hb3 Xk2 Xhb2 Xg2
 have Xhrd:=hide hrd;have Xhrd4:=hide hrd4;have Xhb4:=hide hb4;clear hrd hrd4 hb4
 cases ok with
 |false=>
  go_wp2_with fail
  go_ret
  rw [←hw4]
  exact⟨ret_bool (by rw [Xhv.out];rfl),Xhb4.out⟩
 |true=>
  by_cases h0:(0:Int)≤d
  ·by_cases h1:d≤(n:Int)
   ·go_wp2_with fail
    go_ret
    rw [←hw4]
    exact⟨ret_bool (by rw [Xhv.out,decide_eq_true h0,decide_eq_true h1];rfl),Xhb4.out⟩
   ·go_wp2_with fail
    go_ret
    rw [←hw4]
    exact⟨ret_bool (by rw [Xhv.out,decide_eq_true h0,decide_eq_false (by omega)];rfl),Xhb4.out⟩
  ·go_wp2_with fail
   go_ret
   rw [←hw4]
   exact⟨ret_bool (by rw [Xhv.out,decide_eq_false (by omega)];rfl),Xhb4.out⟩
def BehindPost (w:World) (r:Int×Bool) (e:Ending) (w':World):Prop:=e= .returned (.tuple #[.int .i64 r.1,.bool r.2])∧Below w.heap.size w w'
theorem behind_no {G:GramD} {st a d:Int} (h:(ruleOf G st a).2=false∨d<0∨((ruleOf G st a).1.2.length:Int)≤d):behindI G st (a,d)=(0,false):=by
 unfold behindI rightI
 rw [if_neg]
 rintro⟨h1,h2⟩
 simp only [Bool.and_eq_true,decide_eq_true_eq]at h1 h2
 rcases h with h|h|h
 ·rw [h]at h1;exact absurd h1.1 (by simp)
 ·omega
 ·omega
theorem behind_yes {G:GramD} {st a:Int} {k:Nat} {s:Int} (h:(ruleOf G st a).2=true) (hs:(ruleOf G st a).1.2[k]? =some s):behindI G st (a,(k:Int))=(s,true):=by
 have hk:=(List.getElem?_eq_some_iff.1 hs).1
 unfold behindI rightI
 rw [if_pos,Int.toNat_natCast,hs];rfl
 simp only [h,Bool.true_and,Bool.and_eq_true,decide_eq_true_eq]
 omega
set_option maxRecDepth 100000 in
set_option maxHeartbeats 2000000 in
theorem ref12_behind {w:World} {F:Nat→Prop} {vt vn vr:Value} {G:GramD} (h:IsGram w F vt vn vr G) (st:Int) (x:It):
  Calls Tryz.prog 21 #[GV vt vn vr st,ItV x] w (BehindPost w (behindI G st x)):=by
 obtain⟨A1,c1,A2,c2,A3,c3,rfl,rfl,rfl,-⟩:=h.slices
 obtain⟨a,d⟩:=x
 obtain⟨w2,hw2,g2,k2,hb2⟩:=two_boxes h st a d
 have hc:=ref_rule g2.gram st a
 obtain⟨q0,q1,q2,q3⟩:=g2.cells
 have d0:=(k2.cell 0).trans rfl
 have d1:=(k2.cell 1).trans rfl
 have cr: ∀wr,GBox wr F w.heap.size A1 c1 A2 c2 A3 c3 G.terms.length G.nons.length G.rules.length st G→Calls Tryz.prog 22 #[GV (.slice A1 G.terms.length c1) (.slice A2 G.nons.length c2) (.slice A3 G.rules.length c3) st,.agg #[.int .i64 a,.int .i64 d]] wr (Quiet wr (.bool (rightI G st (a,d)))):=fun wr g=>ref12_right g.gram st (a,d)
 have n0:rightI G st (a,d)=false→behindI G st (a,d)=(0,false):=fun e=>by unfold behindI;rw [if_neg (by rw [e];simp)]
 have n1:((ruleOf G st a).1.2.length:Int)≤d→behindI G st (a,d)=(0,false):=fun e=>behind_no (.inr (.inr e))
 have n2: ∀(k:Nat) (s:Int),d=k→(ruleOf G st a).2=true→(ruleOf G st a).1.2[k]? =some s→behindI G st (a,d)=(s,true):=fun k s e h1 h2=>by rw [e];exact behind_yes h1 h2
 have n3:rightI G st (a,d)=true→(ruleOf G st a).2=true∧0≤d:=fun e=>by
  unfold rightI at e
  simp only [Bool.and_eq_true,decide_eq_true_eq]at e
  exact⟨e.1,e.2.1⟩
 generalize ruleOf G st a=r at *
 obtain⟨⟨l,xs⟩,ok⟩:=r
 generalize rightI G st (a,d)=rt at *
 rw [hw2]at hc q0 q1 q2 q3 d0 d1
 generalize G.terms.length=T at *
 generalize G.nons.length=N at *
 generalize G.rules.length=R at *
 simp only at n1 n2 n3
 have Xg2:=hide g2;have Xk2:=hide k2;have Xhb2:=hide hb2;have Xhc:=hide hc;have Xh:=hide h;have Xn0:=hide n0;have Xn1:=hide n1;have Xn2:=hide n2;have Xn3:=hide n3;have Xcr:=hide cr;clear g2 k2 hb2 hc h n0 n1 n2 n3 cr
 go_enter Tryz.func21,Tryz.ntmps21
 go_wp2_with fail
 refine Xhc.out.mono ?_
 rintro e w3 ⟨A,n,c,rfl,hrd,b3⟩
 rw [←hw2]at b3
 have hb3:=Xhb2.out.trans (b3.mono Xhb2.out.size)
 have k3:=Xk2.out.below b3 Xk2.out.lt
 have g3:=Xg2.out.below b3
 clear hw2 q0 q1 q2 q3 d0 d1 Xhc Xg2 Xk2 Xhb2
 obtain⟨hn,hnc,hcm,-⟩:=RdI.at_ hrd
 obtain⟨w4,hw4⟩: ∃w4,w4=w3.alloc (.cells #[.int .i64 l,.slice A n c] 80):=⟨_,rfl⟩
 have b4:Below w3.heap.size w3 w4:=by rw [hw4];exact(Below.refl _ _).alloc (Nat.le_refl _) _
 have k4:=k3.below b4 k3.lt
 have g4:=g3.below b4
 have r4:Blk w4 w3.heap.size 80 #[.int .i64 l,.slice A n c]:=by rw [hw4];exact Blk.new _ _ _
 have hb4:=hb3.trans (b4.mono hb3.size)
 have d0:=(k4.cell 0).trans rfl
 have d1:=(k4.cell 1).trans rfl
 have hrd4:=hrd.below b4 (fun b hb=>hb)
 obtain⟨q0,q1,q2,q3⟩:=g4.cells
 have hc4:=Xcr.out _ g4
 rw [hw4]at d0 d1 q0 q1 q2 q3 hc4
 clear Xcr b3 k3 g3 hb3 g4
 have Xk4:=hide k4;have Xr4:=hide r4;have Xhb4:=hide hb4;have Xhrd4:=hide hrd4;have Xhc4:=hide hc4;have Xhn:=hide hn;have Xhrd:=hide hrd;clear k4 r4 hb4 hrd4 hc4 hn hrd
 go_wp2_with fail
 with_reducible refine Xhc4.out.mono ?_
 rintro e w5 ⟨rfl,b5⟩
 rw [←hw4]at b5
 have k5:=Xk4.out.below b5 Xk4.out.lt
 have r5:=Xr4.out.below b5 Xr4.out.lt
 have hb5:=Xhb4.out.trans (b5.mono Xhb4.out.size)
 have hrd5:=Xhrd4.out.below b5 (fun b hb=>Nat.lt_of_lt_of_le hb b4.size)
 have d0:=(k5.cell 0).trans rfl
 have d1:=(k5.cell 1).trans rfl
 have e0:=(r5.cell 0).trans rfl
 have e1:=(r5.cell 1).trans rfl
 clear hw4 b4 b5 k5 r5 Xk4 Xr4 Xhb4 Xhrd4 Xhc4 Xhrd q0 q1 q2 q3
 have Xhb5:=hide hb5;clear hb5
 cases rt with
 |false=>
  have hf:=Xn0.out rfl
  have Xhf:=hide hf;have Xhrd5:=hide hrd5;clear hf hrd5
  go_wp2_with fail
  go_ret2
  exact⟨by rw [Xhf.out];rfl,Xhb5.out⟩
 |true=>
  obtain⟨h1,h0⟩:=Xn3.out rfl
  by_cases h2:(n:Int)≤d
  ·have hf:=Xn1.out (by rw [←Xhn.out];exact h2)
   have Xhf:=hide hf;have Xhrd5:=hide hrd5;have Xh1:=hide h1;clear hf hrd5 h1
   go_wp2_with fail
   go_ret2
   exact⟨by rw [Xhf.out];rfl,Xhb5.out⟩
  ·obtain⟨k,rfl⟩:=Int.eq_ofNat_of_zero_le h0
   have hk:k<n:=by omega
   obtain⟨-,-,-,hcell⟩:=RdI.at_ hrd5
   obtain⟨b,off,rfl,-,hcc⟩:=hcell (by omega)
   obtain⟨s,hs⟩: ∃s,xs[k]? =some s:=⟨_,List.getElem?_eq_getElem (by rw [←Xhn.out];exact hk)⟩
   have hcs:=hcc k s hs
   have hf:=Xn2.out k s rfl h1 hs
   clear hrd5 hcell hcc
   have Xhf:=hide hf;have Xhs:=hide hs;have Xh1:=hide h1;clear hf hs h1
   go_wp2_with fail
   go_ret2
   exact⟨by rw [Xhf.out];rfl,Xhb5.out⟩
def mayB (G:GramD) (st:Int):Bool:=decide (checkOf G st=0)
set_option maxRecDepth 100000 in
set_option maxHeartbeats 2000000 in
theorem item_may {w:World} {F:Nat→Prop} {vt vn vr:Value} {G:GramD} (h:IsGram w F vt vn vr G) (st:Int):
  Calls Tryz.prog 58 #[GV vt vn vr st] w (Quiet w (.bool (mayB G st))):=by
 obtain⟨A1,c1,A2,c2,A3,c3,rfl,rfl,rfl,-⟩:=h.slices
 obtain⟨w1,hw1⟩: ∃w1,w1=w.alloc (.cells #[.slice A1 G.terms.length c1,.slice A2 G.nons.length c2,.slice A3 G.rules.length c3,.int .i64 st] 25):=⟨_,rfl⟩
 have g1:=GBox.new h st
 have b1:Below w.heap.size w w1:=by rw [hw1];exact(Below.refl _ w).alloc (Nat.le_refl _) _
 rw [←hw1]at g1
 have hc:=gram_check g1.gram st
 have hm:mayB G st=decide (checkOf G st=0):=rfl
 obtain⟨q0,q1,q2,q3⟩:=g1.cells
 generalize checkOf G st=cz at *
 generalize G.terms.length=T at *
 generalize G.nons.length=N at *
 generalize G.rules.length=R at *
 rw [hw1]at hc q0 q1 q2 q3
 have Xhc:=hide hc;have Xb1:=hide b1;have Xg1:=hide g1;have Xh:=hide h;have Xhm:=hide hm;clear hc b1 g1 h hm
 go_enter Tryz.func58,Tryz.ntmps58
 go_wp2_with fail
 with_reducible refine Xhc.out.mono ?_
 rintro e w2 ⟨rfl,b2⟩
 rw [←hw1]at b2
 clear hw1 q0 q1 q2 q3
 have hb2:=Xb1.out.trans (b2.mono Xb1.out.size)
 by_cases hz:cz=0
 ·subst hz
  go_wp2_with fail
  go_ret
  exact⟨ret_bool (by rw [Xhm.out];rfl),hb2⟩
 ·have hz':(cz==0)=false:=by simpa using hz
  go_wp2_with fail
  go_ret
  exact⟨ret_bool (by rw [Xhm.out,decide_eq_false hz]),hb2⟩
end
section
open Go.RowKit
attribute [local irreducible] wpStill wpOne wpPh
def ItPost (w:World) (l:List It) (e:Ending) (w':World):Prop:= ∃A n c,e= .returned (.slice A n c)∧RdIt w' (fun b=>w.heap.size≤b∧b<w'.heap.size) (.slice A n c) l∧Below w.heap.size w w'
theorem ItPost.nil {w w':World} (h:Below w.heap.size w w'):ItPost w [] (.returned (.slice none 0 0)) w':=⟨none,0,0,rfl,Rd.nil _ _ _,h⟩
set_option maxRecDepth 100000 in
set_option maxHeartbeats 2000000 in
theorem item_Begin {w:World} {F:Nat→Prop} {vt vn vr:Value} {G:GramD} (h:IsGram w F vt vn vr G) (st:Int):
  Calls Tryz.prog 17 #[GV vt vn vr st] w (ItPost w (if mayB G st=true then [((G.rules.length:Int),0)]else [])):=by
 obtain⟨A1,c1,A2,c2,A3,c3,rfl,rfl,rfl,-⟩:=h.slices
 obtain⟨w1,hw1⟩: ∃w1,w1=w.alloc (.cells #[.slice A1 G.terms.length c1,.slice A2 G.nons.length c2,.slice A3 G.rules.length c3,.int .i64 st] 25):=⟨_,rfl⟩
 have g1:=GBox.new h st
 have b1:Below w.heap.size w w1:=by rw [hw1];exact(Below.refl _ w).alloc (Nat.le_refl _) _
 rw [←hw1]at g1
 have hc:=item_may g1.gram st
 obtain⟨q0,q1,q2,q3⟩:=g1.cells
 generalize mayB G st=mb at *
 generalize G.terms.length=T at *
 generalize G.nons.length=N at *
 generalize G.rules.length=R at *
 obtain⟨rs,hrs⟩: ∃r,r=(if mb=true then [((R:Int),(0:Int))]else []):=⟨_,rfl⟩
 rw [←hrs]
 rw [hw1]at hc q0 q1 q2 q3
 have Xhc:=hide hc;have Xb1:=hide b1;have Xg1:=hide g1;have Xh:=hide h;have Xhrs:=hide hrs;clear hc b1 g1 h hrs
 go_enter Tryz.func17,Tryz.ntmps17
 go_wp2_with fail
 with_reducible refine Xhc.out.mono ?_
 rintro e w2 ⟨rfl,b2⟩
 rw [←hw1]at b2
 have g2:=Xg1.out.below b2
 have hb2:=Xb1.out.trans (b2.mono Xb1.out.size)
 clear hw1 q0 q1 q2 q3 Xhc Xb1 Xg1 b2
 obtain⟨q0,q1,q2,q3⟩:=g2.cells
 cases mb with
 |false=>
  have Xhb2:=hide hb2;have Xg2:=hide g2;clear hb2 g2
  go_wp2_with fail
  go_ret
  rw [Xhrs.out]
  exact ItPost.nil Xhb2.out
 |true=>
  have Xhb2:=hide hb2;have Xg2:=hide g2;clear hb2 g2
  go_wp2_with fail
  go_ret
  rw [Xhrs.out]
  exact⟨_,_,_,rfl,Rd.mono (RdIt.one (w:=w2) (e:=34) ((R:Int),0)) (fun b e=>by rw [e];exact⟨Xhb2.out.size,by simp⟩),Xhb2.out.alloc Xhb2.out.size _⟩
theorem Tryz.fieldsItem:Tryz.prog.underlying 34=some (.struct (Tryz.prog.fieldsOf 34)):=by kernel_rfl
theorem Tryz.stoodItem:Tryz.prog.stoodInHeld 34=false:=by kernel_rfl
theorem Tryz.guardItem:Tryz.prog.eqGuardType Tryz.prog.depth 34=false:=by kernel_rfl
theorem eql_item (a b c d:Int) (w:World):Sem.run Tryz.prog (binOp .eql 34 (.agg #[.int .i64 a,.int .i64 b]) (.agg #[.int .i64 c,.int .i64 d])) w= .ok (.bool (decide (((a,b):It)=(c,d)))) w:=by
 have u3:=Tryz.underlying3
 have hS:=Tryz.fieldsItem
 have hp:=Tryz.stoodItem
 rw [run_eql_struct,show(10000:Nat)=9999+1 from rfl,run_equalIn_agg w 9999 34 _ _ hS hp]
 simp only [Program.fieldsOf,Tryz.underlying34]
 have a3:=Tryz.isAgg3
 have z3:=Tryz.sizeOf3
 go_simp
 by_cases h1:a=c<;>by_cases h2:b=d<;>simp [h1,h2]
theorem neq_item (a b c d:Int) (w:World):Sem.run Tryz.prog (binOp .neq 34 (.agg #[.int .i64 a,.int .i64 b]) (.agg #[.int .i64 c,.int .i64 d])) w= .ok (.bool (!decide (((a,b):It)=(c,d)))) w:=by
 have h:=eql_item a b c d w
 rw [run_eql_struct]at h
 rw [run_neq_struct]
 generalize Sem.run Tryz.prog (Op.equalIn 10000 34 (.agg #[.int .i64 a,.int .i64 b]) (.agg #[.int .i64 c,.int .i64 d])) w=r at h⊢
 cases r<;>simp_all [Result.andThen]
theorem guard_item (op:BinOp) (p q:Operand) (x y:It) (w:World):(eqGuard op 34 p q (ItV x) (ItV y)).run Tryz.prog w= .ok () w:=run_eqGuard_agg w op 34 p q _ _ Tryz.guardItem
end
section
open Go.RowKit
attribute [local irreducible] wpStill wpOne wpPh
theorem boxes_it {w:World} (a b c d:Int): ∃w2,w2=(w.alloc (.cells #[.int .i64 a,.int .i64 b] 34)).alloc (.cells #[.int .i64 c,.int .i64 d] 34)∧Blk w2 w.heap.size 34 #[.int .i64 a,.int .i64 b]∧Blk w2 (w.heap.size+1) 34 #[.int .i64 c,.int .i64 d]∧Below w.heap.size w w2:=by
 obtain⟨w1,hw1⟩: ∃w1,w1=w.alloc (.cells #[.int .i64 a,.int .i64 b] 34):=⟨_,rfl⟩
 have hs:w1.heap.size=w.heap.size+1:=by rw [hw1];simp
 have k1:Blk w1 w.heap.size 34 #[.int .i64 a,.int .i64 b]:=by rw [hw1];exact Blk.new _ _ _
 have b1:Below w.heap.size w w1:=by rw [hw1];exact(Below.refl _ w).alloc (Nat.le_refl _) _
 have b2:Below w1.heap.size w1 (w1.alloc (.cells #[.int .i64 c,.int .i64 d] 34)):=(Below.refl _ _).alloc (Nat.le_refl _) _
 refine⟨_,rfl,?_,?_,?_⟩
 ·rw [←hw1];exact k1.below b2 k1.lt
 ·rw [←hw1,←hs];exact Blk.new _ _ _
 ·rw [←hw1];exact b1.trans (b2.mono b1.size)
set_option maxRecDepth 100000 in
set_option maxHeartbeats 2000000 in
theorem ref12_less (x y:It) (w:World):Calls Tryz.prog 111 #[ItV x,ItV y] w (Quiet w (.bool (itLt x y))):=by
 obtain⟨a,b⟩:=x
 obtain⟨c,d⟩:=y
 have hv:itLt (a,b) (c,d)=(decide (a<c)||(decide (a=c)&&decide (b<d))):=rfl
 obtain⟨w2,hw2,k1,k2,hb2⟩:=boxes_it (w:=w) a b c d
 have d0:=(k1.cell 0).trans rfl
 have d1:=(k1.cell 1).trans rfl
 have e0:=(k2.cell 0).trans rfl
 have e1:=(k2.cell 1).trans rfl
 rw [hw2]at d0 d1 e0 e1
 by_cases h1:a<c
 ·have Xhb2:=hide hb2
  have Xhv:=hide hv;clear hb2 hv;clear k1 k2
  go_enter Tryz.func111,Tryz.ntmps111
  go_wp2_with fail
  go_ret
  rw [←hw2]
  exact⟨ret_bool (by rw [Xhv.out];simp;try omega),Xhb2.out⟩
 ·by_cases h2:a=c
  ·have h2':(a==c)=true:=by simpa using h2
   by_cases h3:b<d
   ·have Xhb2:=hide hb2
    have Xhv:=hide hv;have Xh2:=hide h2;clear hb2 hv h2;clear k1 k2
    go_enter Tryz.func111,Tryz.ntmps111
    go_wp2_with fail
    go_ret
    rw [←hw2]
    exact⟨ret_bool (by rw [Xhv.out,decide_eq_true Xh2.out,decide_eq_true h3];simp),Xhb2.out⟩
   ·have Xhb2:=hide hb2
    have Xhv:=hide hv;have Xh2:=hide h2;clear hb2 hv h2;clear k1 k2
    go_enter Tryz.func111,Tryz.ntmps111
    go_wp2_with fail
    go_ret
    rw [←hw2]
    exact⟨ret_bool (by rw [Xhv.out,decide_eq_false (show¬a<c by omega),decide_eq_false (show¬b<d by omega)];simp),Xhb2.out⟩
  ·have h2':(a==c)=false:=by simpa using h2
   have Xhb2:=hide hb2;have Xhv:=hide hv;have Xh2:=hide h2;clear hb2 hv h2;clear k1 k2
   go_enter Tryz.func111,Tryz.ntmps111
   go_wp2_with fail
   go_ret
   rw [←hw2]
   exact⟨ret_bool (by rw [Xhv.out,decide_eq_false (show¬a<c by omega),decide_eq_false Xh2.out];simp),Xhb2.out⟩
end
end Go.Proofs.YtlpokomfljmogaaGreat
namespace Go.Proofs.YtlpokomfljmogaaGreat
set_option linter.unusedVariables false
section
open Go.Shelf
def Tryz.sortIt_ren:Go.Shelf.Ren:=⟨fun|6=>106|15=>136|14=>154|28=>179|29=>180|20=>191|21=>192|22=>193|23=>194|24=>195|25=>196|26=>197|27=>198|46=>221|47=>213|48=>214|49=>222|50=>223|57=>228|n=>n,fun|22=>26|24=>34|25=>145|3=>3|39=>169|0=>0|53=>228|55=>184|4=>4|46=>222|45=>221|50=>31|5=>5|9=>9|66=>256|70=>260|76=>271|77=>272|n=>n,fun|n=>n⟩
theorem Tryz.sortIt:Go.Proofs.SlLaysF0.n6 Tryz.prog Tryz.sortIt_ren:={
 mixed:=by kernel_rfl
 f6:=⟨Tryz.f106.name,by decide,Tryz.func106.trans (congrArg some (by kernel_rfl))⟩
 f14:=⟨Tryz.f154.name,by decide,Tryz.func154.trans (congrArg some (by kernel_rfl))⟩
 f15:=Tryz.func136.trans (congrArg some (by kernel_rfl))
 f20:=⟨Tryz.f191.name,by decide,Tryz.func191.trans (congrArg some (by kernel_rfl))⟩
 f21:=⟨Tryz.f192.name,by decide,Tryz.func192.trans (congrArg some (by kernel_rfl))⟩
 f22:=⟨Tryz.f193.name,by decide,Tryz.func193.trans (congrArg some (by kernel_rfl))⟩
 f23:=⟨Tryz.f194.name,by decide,Tryz.func194.trans (congrArg some (by kernel_rfl))⟩
 f24:=⟨Tryz.f195.name,by decide,Tryz.func195.trans (congrArg some (by kernel_rfl))⟩
 f25:=⟨Tryz.f196.name,by decide,Tryz.func196.trans (congrArg some (by kernel_rfl))⟩
 f26:=⟨Tryz.f197.name,by decide,Tryz.func197.trans (congrArg some (by kernel_rfl))⟩
 f27:=⟨Tryz.f198.name,by decide,Tryz.func198.trans (congrArg some (by kernel_rfl))⟩
 f28:=Tryz.func179.trans (congrArg some (by kernel_rfl))
 f29:=Tryz.func180.trans (congrArg some (by kernel_rfl))
 f46:=⟨Tryz.f221.name,by decide,Tryz.func221.trans (congrArg some (by kernel_rfl))⟩
 f47:=Tryz.func213.trans (congrArg some (by kernel_rfl))
 f48:=Tryz.func214.trans (congrArg some (by kernel_rfl))
 f49:=⟨Tryz.f222.name,by decide,Tryz.func222.trans (congrArg some (by kernel_rfl))⟩
 f50:=⟨Tryz.f223.name,by decide,Tryz.func223.trans (congrArg some (by kernel_rfl))⟩
 f57:=⟨Tryz.f228.name,by decide,Tryz.func228.trans (congrArg some (by kernel_rfl))⟩
 t0:=Tryz.underlying0
 a0:=Tryz.isAgg0
 z0:=Tryz.sizeOf0
 v0:=Tryz.zeroValue0
 t3:=Tryz.underlying3
 a3:=Tryz.isAgg3
 z3:=Tryz.sizeOf3
 v3:=Tryz.zeroValue3
 t4:=Tryz.underlying4
 a4:=Tryz.isAgg4
 z4:=Tryz.sizeOf4
 v4:=Tryz.zeroValue4
 t5:=Tryz.underlying5
 a5:=Tryz.isAgg5
 z5:=Tryz.sizeOf5
 v5:=Tryz.zeroValue5
 t9:=Tryz.underlying9
 a9:=Tryz.isAgg9
 z9:=Tryz.sizeOf9
 v9:=Tryz.zeroValue9
 t22:=Tryz.underlying26
 a22:=Tryz.isAgg26
 z22:=Tryz.sizeOf26
 v22:=Tryz.zeroValue26
 t25:=Tryz.underlying145
 a25:=Tryz.isAgg145
 z25:=Tryz.sizeOf145
 v25:=Tryz.zeroValue145
 t39:=Tryz.underlying169
 a39:=Tryz.isAgg169
 z39:=Tryz.sizeOf169
 v39:=Tryz.zeroValue169
 t45:=Tryz.underlying221
 a45:=Tryz.isAgg221
 z45:=Tryz.sizeOf221
 v45:=Tryz.zeroValue221
 t46:=Tryz.underlying222
 a46:=Tryz.isAgg222
 z46:=Tryz.sizeOf222
 v46:=Tryz.zeroValue222
 t50:=Tryz.underlying31
 a50:=Tryz.isAgg31
 z50:=Tryz.sizeOf31
 v50:=Tryz.zeroValue31
 t53:=Tryz.underlying228
 a53:=Tryz.isAgg228
 z53:=Tryz.sizeOf228
 v53:=Tryz.zeroValue228
 t55:=Tryz.underlying184
 a55:=Tryz.isAgg184
 z55:=Tryz.sizeOf184
 v55:=Tryz.zeroValue184
 t66:=Tryz.underlying256
 a66:=Tryz.isAgg256
 z66:=Tryz.sizeOf256
 v66:=Tryz.zeroValue256
 t70:=Tryz.underlying260
 a70:=Tryz.isAgg260
 z70:=Tryz.sizeOf260
 v70:=Tryz.zeroValue260
 t76:=Tryz.underlying271
 a76:=Tryz.isAgg271
 z76:=Tryz.sizeOf271
 v76:=Tryz.zeroValue271
 t77:=Tryz.underlying272
 a77:=Tryz.isAgg272
 z77:=Tryz.sizeOf272
 v77:=Tryz.zeroValue272}
end
section
open Go.Shelf
def Tryz.bString_ren:Go.Shelf.Ren:=⟨fun|169=>168|n=>n,fun|70=>214|9=>9|0=>0|72=>217|37=>215|127=>255|3=>3|5=>5|n=>n,fun|n=>n⟩
theorem Tryz.bString:Go.Proofs.Lays.n169 Tryz.prog Tryz.bString_ren:={
 mixed:=by kernel_rfl
 f169:=Tryz.func168.trans (congrArg some (by kernel_rfl))
 t0:=Tryz.underlying0
 a0:=Tryz.isAgg0
 z0:=Tryz.sizeOf0
 v0:=Tryz.zeroValue0
 t3:=Tryz.underlying3
 a3:=Tryz.isAgg3
 z3:=Tryz.sizeOf3
 v3:=Tryz.zeroValue3
 t9:=Tryz.underlying9
 a9:=Tryz.isAgg9
 z9:=Tryz.sizeOf9
 v9:=Tryz.zeroValue9
 t37:=Tryz.underlying215
 a37:=Tryz.isAgg215
 z37:=Tryz.sizeOf215
 v37:=Tryz.zeroValue215
 t70:=Tryz.underlying214
 a70:=Tryz.isAgg214
 z70:=Tryz.sizeOf214
 v70:=Tryz.zeroValue214
 t72:=Tryz.underlying217
 a72:=Tryz.isAgg217
 z72:=Tryz.sizeOf217
 v72:=Tryz.zeroValue217
 t127:=Tryz.underlying255
 a127:=Tryz.isAgg255
 z127:=Tryz.sizeOf255
 v127:=Tryz.zeroValue255}
end
section
open Go.Shelf
end
end Go.Proofs.YtlpokomfljmogaaGreat
namespace Go.Proofs.YtlpokomfljmogaaGreat
set_option linter.unusedVariables false
section
open Go.RowKit
theorem Rd.of_blk {w:World} {F:Nat→Prop} {g n size:Nat} {t:TypeId} {us:List Value} (hk:Blk w g t us.toArray) (hF:F g) (hl:us.length=n * size) (hm:n≤maxLen):Rd w F (.slice (some ⟨g,0,none⟩) n n) size us:=
 ⟨_,n,n,rfl,Nat.le_refl _,hm,hl,fun _=>⟨g,0,rfl,hF,fun j u hu=>by rw [hk.cell];simpa using hu⟩⟩
theorem flat_two {X:Type} {f:X→Value×Value}: ∀(l:List X) (i:Nat) (p:X),l[i]? =some p→(l.flatMap (fun p=>[(f p).1,(f p).2]))[i * 2]? =some (f p).1∧(l.flatMap (fun p=>[(f p).1,(f p).2]))[i * 2+1]? =some (f p).2
 |a::r,0,p,h=>by
  simp at h
  subst h
  simp
 |a::r,i+1,p,h=>by
  have:=flat_two (f:=f) r i p (by simpa using h)
  simp only [List.flatMap_cons]
  rw [show(i+1) * 2=i * 2+2 by omega]
  exact this
theorem RdR.of_blk {w:World} {F:Nat→Prop} {g:Nat} {t:TypeId} (rvs:List ((Int×List Int)×Value)) (hk:Blk w g t (rvs.flatMap (fun p=>[Value.int .i64 p.1.1,p.2])).toArray) (hF:F g) (h: ∀p∈rvs,RdI w F p.2 p.1.2) (hl:rvs.length≤maxLen):
  RdR w F (.slice (some ⟨g,0,none⟩) rvs.length rvs.length) (rvs.map (·.1)):=by
 refine⟨some ⟨g,0,none⟩,rvs.length,by rw [List.length_map],by rw [List.length_map];exact Nat.le_refl _,hl,fun hn=>⟨g,0,rfl,hF,fun i x hx=> ?_⟩⟩
 rw [List.getElem?_map]at hx
 obtain⟨p,hp,rfl⟩:=Option.map_eq_some_iff.1 hx
 have hc:=flat_two (f:=fun p:(Int×List Int)×Value=>(Value.int .i64 p.1.1,p.2)) rvs i p hp
 refine⟨[Value.int .i64 p.1.1,p.2],rfl,⟨p.2,rfl,h p (List.mem_of_getElem? hp)⟩,fun j u hu=> ?_⟩
 rw [hk.cell]
 have hj:=(List.getElem?_eq_some_iff.1 hu).1
 simp only [List.length_cons,List.length_nil]at hj
 have hj2:j=0∨j=1:=by omega
 rcases hj2 with rfl|rfl
 ·simp at hu;subst hu;simpa using hc.1
 ·simp at hu;subst hu;simpa using hc.2
end
section
open Go.RowKit
theorem own_below {w w':World} {base:Nat} {e:TypeId} {size n:Nat} {v:Value} {xs:List Value} (h:w.ownsRow base e size v n xs) {z:Nat} (hb:Below z w w') (hz: ∀k,v.ownBlock=some k→k<z):w'.ownsRow base e size v n xs:=
 (Touch.of_below hb).own h fun k hk hz'=>by have:=hz k hk;omega
theorem own_below' {w w':World} {base:Nat} {e:TypeId} {size n:Nat} {v:Value} {xs:List Value} (h:w.ownsRow base e size v n xs) (hb:Below w.heap.size w w'):w'.ownsRow base e size v n xs:=
 own_below h hb fun k hk=>(h.lt k hk).2
theorem own_far {w:World} {base:Nat} {e:TypeId} {size n:Nat} {v:Value} {xs:List Value} (h:w.ownsRow base e size v n xs) {p:Addr} (hp:v.ownBlock≠some p.block) (u:Value):(w.setCell p u).ownsRow base e size v n xs:=
 ((Touch.refl (fun k=>k=p.block) w).setCell (fun _=>rfl) u).own h fun k hk e=>hp (by rw [hk,e])
section
variable {w w' w2 : World} {base B : Nat} {vt vn vr v : Value} {st : Int} {ts ns : List ByteArray} {rvs : List ((Int × List Int) × Value)}
end
end
end Go.Proofs.YtlpokomfljmogaaGreat

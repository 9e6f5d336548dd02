/- Items in memory: lists of two cells an element. -/
import Derived.Test.YtlpokomfljmogaaGreatQLivePlain
import Derived.Test.YtlpokomfljmogaaGreatQBase
import Derived.Test.YtlpokomfljmogaaGreatQG7
import Derived.Test.YtlpokomfljmogaaGreatQBitsL
import Derived.Laws.StructEq
import Derived.Shelf.SlicesE.Kit
import Derived.Shelf.SlSortCmp.NoneTotal
import Derived.Shelf.SlicesG.Cmp
import Derived.Test.YtlpokomfljmogaaGreatProg
import Derived.Shelf.Strings.Builder1
import Derived.Deep.Cut
import Derived.DeepKeys4
import Derived.Maps.OwnOps
namespace Go.Proofs.YtlpokomfljmogaaGreat
set_option linter.unusedVariables false
section
open Go.RowKit
def itCells:List It→List Value
 |[]=>[]
 |x::r=>I64 x.1::I64 x.2::itCells r
theorem itCells_length: ∀l:List It,(itCells l).length=l.length * 2
 |[]=>rfl
 |x::r=>by simp [itCells,itCells_length r];omega
theorem itCells_append: ∀a b:List It,itCells (a++b)=itCells a++itCells b
 |[],b=>rfl
 |x::r,b=>by simp [itCells,itCells_append r b]
theorem itCells_get: ∀{l:List It} {k:Nat} {x:It},l[k]? =some x→(itCells l)[k * 2]? =some (I64 x.1)∧(itCells l)[k * 2+1]? =some (I64 x.2)
 |[],k,x,h=>by simp at h
 |y::r,0,x,h=>by simp at h;subst h;exact⟨rfl,rfl⟩
 |y::r,k+1,x,h=>by
  have:=itCells_get (l:=r) (k:=k) (x:=x) (by simpa using h)
  rw [show(k+1) * 2=k * 2+1+1 by omega]
  simpa [itCells]using this
theorem itCells_one (l:List It): ∀u∈itCells l,u.oneCell'=true:=by
 induction l with
 |nil=>simp [itCells]
 |cons x r ih=>
  intro u hu
  simp only [itCells,List.mem_cons]at hu
  rcases hu with rfl|rfl|hu
  ·rfl
  ·rfl
  ·exact ih u hu
theorem itCells_at {l:List It} {j:Nat} {u:Value} (h:(itCells l)[j]? =some u): ∃k x,l[k]? =some x∧((j=k * 2∧u=I64 x.1)∨(j=k * 2+1∧u=I64 x.2)):=by
 induction l generalizing j with
 |nil=>simp [itCells]at h
 |cons y r ih=>
  match j,h with
  |0,h=>simp [itCells]at h;exact⟨0,y,rfl,.inl ⟨rfl,h.symm⟩⟩
  |1,h=>simp [itCells]at h;exact⟨0,y,rfl,.inr ⟨rfl,h.symm⟩⟩
  |j+2,h=>
   simp [itCells]at h
   obtain⟨k,x,h1,h2⟩:=ih h
   refine⟨k+1,x,by simpa using h1,?_⟩
   rcases h2 with⟨e1,e2⟩|⟨e1,e2⟩
   ·exact .inl ⟨by omega,e2⟩
   ·exact .inr ⟨by omega,e2⟩
abbrev RdIt (w:World) (F:Nat→Prop) (v:Value) (l:List It):Prop:=Rd w F v 2 (itCells l)
theorem RdIt.at_ {w:World} {F:Nat→Prop} {A:Option Addr} {n c:Nat} {l:List It} (h:RdIt w F (.slice A n c) l):n=l.length∧n≤c∧c≤maxLen∧(0<n→ ∃b off,A=some ⟨b,off,none⟩∧F b∧ ∀k x,l[k]? =some x→w.cell? ⟨b,off+k * 2,none⟩=some (.int .i64 x.1)∧w.cell? ⟨b,off+k * 2+1,none⟩=some (.int .i64 x.2)):=by
 obtain⟨A',n',c',hv,h1,h2,hl,hr⟩:=h
 injection hv with e1 e2 e3
 subst e1 e2 e3
 rw [itCells_length]at hl
 refine⟨by omega,h1,h2,fun hn=> ?_⟩
 obtain⟨b,off,hA,hF,hc⟩:=hr hn
 refine⟨b,off,hA,hF,fun k x hx=> ?_⟩
 obtain⟨k1,k2⟩:=itCells_get hx
 exact⟨hc _ _ k1,by rw [Nat.add_assoc];exact hc _ _ k2⟩
theorem RdIt.mk {w:World} {F:Nat→Prop} {b off n c:Nat} {l:List It} (hn:n=l.length) (hc:n≤c) (hm:c≤maxLen) (hF:F b) (h: ∀k x,l[k]? =some x→w.cell? ⟨b,off+k * 2,none⟩=some (.int .i64 x.1)∧w.cell? ⟨b,off+k * 2+1,none⟩=some (.int .i64 x.2)):RdIt w F (.slice (some ⟨b,off,none⟩) n c) l:=by
 refine⟨_,_,_,rfl,hc,hm,by rw [itCells_length,hn],fun _=>⟨b,off,rfl,hF,fun j u hu=> ?_⟩⟩
 obtain⟨k,x,hx,h2|h2⟩:=itCells_at hu
 ·rw [h2.1,h2.2];exact(h k x hx).1
 ·rw [h2.1,h2.2,←Nat.add_assoc];exact(h k x hx).2
theorem RdIt.one {w:World} {e:TypeId} (x:It):RdIt (w.alloc (.cells #[.int .i64 x.1,.int .i64 x.2] e)) (fun b=>b=w.heap.size) (.slice (some ⟨w.heap.size,0,none⟩) 1 1) [x]:=Rd.one' (w:=w) (e:=e) [I64 x.1,I64 x.2] 2 rfl
section
open Go.ChangeShapes Go.WideShapes Go.ChangeAt Go.RowKit Go.Deep
variable {H : Type} {enc : TypeId × Value → H} {w : World} {sp : Nat → Bool}
end
def WfI (x:It):Prop:=(-9223372036854775808≤x.1∧x.1≤9223372036854775807)∧(-9223372036854775808≤x.2∧x.2≤9223372036854775807)
end
section
open Go.RowKit
attribute [local irreducible] wpStill wpOne wpPh
abbrev ItV (x:It):Value:= .agg #[.int .i64 x.1,.int .i64 x.2]
theorem behind_no {G:GramD} {st a d:Int} (h:(ruleOf G st a).2=false∨d<0∨((ruleOf G st a).1.2.length:Int)≤d):behindI G st (a,d)=(0,false):=by
 unfold behindI rightI
 rw [if_neg]
 rintro⟨h1,h2⟩
 simp only [Bool.and_eq_true,decide_eq_true_eq]at h1 h2
 rcases h with h|h|h
 ·rw [h]at h1;exact absurd h1.1 (by simp)
 ·omega
 ·omega
theorem behind_yes {G:GramD} {st a:Int} {k:Nat} {s:Int} (h:(ruleOf G st a).2=true) (hs:(ruleOf G st a).1.2[k]? =some s):behindI G st (a,(k:Int))=(s,true):=by
 have hk:=(List.getElem?_eq_some_iff.1 hs).1
 unfold behindI rightI
 rw [if_pos,Int.toNat_natCast,hs];rfl
 simp only [h,Bool.true_and,Bool.and_eq_true,decide_eq_true_eq]
 omega
def mayB (G:GramD) (st:Int):Bool:=decide (checkOf G st=0)
set_option maxRecDepth 100000 in
set_option maxHeartbeats 2000000 in
theorem item_may {w:World} {F:Nat→Prop} {vt vn vr:Value} {G:GramD} (h:IsGram w F vt vn vr G) (st:Int):
  Calls Tryz.prog 58 #[GV vt vn vr st] w (Quiet w (.bool (mayB G st))):=by
 obtain⟨A1,c1,A2,c2,A3,c3,rfl,rfl,rfl,-⟩:=h.slices
 obtain⟨w1,hw1⟩: ∃w1,w1=w.alloc (.cells #[.slice A1 G.terms.length c1,.slice A2 G.nons.length c2,.slice A3 G.rules.length c3,.int .i64 st] 25):=⟨_,rfl⟩
 have g1:=GBox.new h st
 have b1:Below w.heap.size w w1:=by rw [hw1];exact(Below.refl _ w).alloc (Nat.le_refl _) _
 rw [←hw1]at g1
 have hc:=gram_check g1.gram st
 have hm:mayB G st=decide (checkOf G st=0):=rfl
 obtain⟨q0,q1,q2,q3⟩:=g1.cells
 generalize checkOf G st=cz at *
 generalize G.terms.length=T at *
 generalize G.nons.length=N at *
 generalize G.rules.length=R at *
 rw [hw1]at hc q0 q1 q2 q3
 have Xhc:=hide hc;have Xb1:=hide b1;have Xg1:=hide g1;have Xh:=hide h;have Xhm:=hide hm;clear hc b1 g1 h hm
 go_enter Tryz.func58,Tryz.ntmps58
 go_wp2_with fail
 with_reducible refine Xhc.out.mono ?_
 rintro e w2 ⟨rfl,b2⟩
 rw [←hw1]at b2
 clear hw1 q0 q1 q2 q3
 have hb2:=Xb1.out.trans (b2.mono Xb1.out.size)
 by_cases hz:cz=0
 ·subst hz
  go_wp2_with fail
  go_ret
  exact⟨ret_bool (by rw [Xhm.out];rfl),hb2⟩
 ·have hz':(cz==0)=false:=by simpa using hz
  go_wp2_with fail
  go_ret
  exact⟨ret_bool (by rw [Xhm.out,decide_eq_false hz]),hb2⟩
end
section
open Go.RowKit
attribute [local irreducible] wpStill wpOne wpPh
def ItPost (w:World) (l:List It) (e:Ending) (w':World):Prop:= ∃A n c,e= .returned (.slice A n c)∧RdIt w' (fun b=>w.heap.size≤b∧b<w'.heap.size) (.slice A n c) l∧Below w.heap.size w w'
theorem ItPost.nil {w w':World} (h:Below w.heap.size w w'):ItPost w [] (.returned (.slice none 0 0)) w':=⟨none,0,0,rfl,Rd.nil _ _ _,h⟩
set_option maxRecDepth 100000 in
set_option maxHeartbeats 2000000 in
theorem item_Begin {w:World} {F:Nat→Prop} {vt vn vr:Value} {G:GramD} (h:IsGram w F vt vn vr G) (st:Int):
  Calls Tryz.prog 17 #[GV vt vn vr st] w (ItPost w (if mayB G st=true then [((G.rules.length:Int),0)]else [])):=by
 obtain⟨A1,c1,A2,c2,A3,c3,rfl,rfl,rfl,-⟩:=h.slices
 obtain⟨w1,hw1⟩: ∃w1,w1=w.alloc (.cells #[.slice A1 G.terms.length c1,.slice A2 G.nons.length c2,.slice A3 G.rules.length c3,.int .i64 st] 25):=⟨_,rfl⟩
 have g1:=GBox.new h st
 have b1:Below w.heap.size w w1:=by rw [hw1];exact(Below.refl _ w).alloc (Nat.le_refl _) _
 rw [←hw1]at g1
 have hc:=item_may g1.gram st
 obtain⟨q0,q1,q2,q3⟩:=g1.cells
 generalize mayB G st=mb at *
 generalize G.terms.length=T at *
 generalize G.nons.length=N at *
 generalize G.rules.length=R at *
 obtain⟨rs,hrs⟩: ∃r,r=(if mb=true then [((R:Int),(0:Int))]else []):=⟨_,rfl⟩
 rw [←hrs]
 rw [hw1]at hc q0 q1 q2 q3
 have Xhc:=hide hc;have Xb1:=hide b1;have Xg1:=hide g1;have Xh:=hide h;have Xhrs:=hide hrs;clear hc b1 g1 h hrs
 go_enter Tryz.func17,Tryz.ntmps17
 go_wp2_with fail
 with_reducible refine Xhc.out.mono ?_
 rintro e w2 ⟨rfl,b2⟩
 rw [←hw1]at b2
 have g2:=Xg1.out.below b2
 have hb2:=Xb1.out.trans (b2.mono Xb1.out.size)
 clear hw1 q0 q1 q2 q3 Xhc Xb1 Xg1 b2
 obtain⟨q0,q1,q2,q3⟩:=g2.cells
 cases mb with
 |false=>
  have Xhb2:=hide hb2;have Xg2:=hide g2;clear hb2 g2
  go_wp2_with fail
  go_ret
  rw [Xhrs.out]
  exact ItPost.nil Xhb2.out
 |true=>
  have Xhb2:=hide hb2;have Xg2:=hide g2;clear hb2 g2
  go_wp2_with fail
  go_ret
  rw [Xhrs.out]
  exact⟨_,_,_,rfl,Rd.mono (RdIt.one (w:=w2) (e:=34) ((R:Int),0)) (fun b e=>by rw [e];exact⟨Xhb2.out.size,by simp⟩),Xhb2.out.alloc Xhb2.out.size _⟩
theorem Tryz.fieldsItem:Tryz.prog.underlying 34=some (.struct (Tryz.prog.fieldsOf 34)):=by kernel_rfl
theorem Tryz.stoodItem:Tryz.prog.stoodInHeld 34=false:=by kernel_rfl
theorem Tryz.guardItem:Tryz.prog.eqGuardType Tryz.prog.depth 34=false:=by kernel_rfl
theorem eql_item (a b c d:Int) (w:World):Sem.run Tryz.prog (binOp .eql 34 (.agg #[.int .i64 a,.int .i64 b]) (.agg #[.int .i64 c,.int .i64 d])) w= .ok (.bool (decide (((a,b):It)=(c,d)))) w:=by
 have u3:=Tryz.underlying3
 have hS:=Tryz.fieldsItem
 have hp:=Tryz.stoodItem
 rw [run_eql_struct,show(10000:Nat)=9999+1 from rfl,run_equalIn_agg w 9999 34 _ _ hS hp]
 simp only [Program.fieldsOf,Tryz.underlying34]
 have a3:=Tryz.isAgg3
 have z3:=Tryz.sizeOf3
 go_simp
 by_cases h1:a=c<;>by_cases h2:b=d<;>simp [h1,h2]
theorem neq_item (a b c d:Int) (w:World):Sem.run Tryz.prog (binOp .neq 34 (.agg #[.int .i64 a,.int .i64 b]) (.agg #[.int .i64 c,.int .i64 d])) w= .ok (.bool (!decide (((a,b):It)=(c,d)))) w:=by
 have h:=eql_item a b c d w
 rw [run_eql_struct]at h
 rw [run_neq_struct]
 generalize Sem.run Tryz.prog (Op.equalIn 10000 34 (.agg #[.int .i64 a,.int .i64 b]) (.agg #[.int .i64 c,.int .i64 d])) w=r at h⊢
 cases r<;>simp_all [Result.andThen]
theorem guard_item (op:BinOp) (p q:Operand) (x y:It) (w:World):(eqGuard op 34 p q (ItV x) (ItV y)).run Tryz.prog w= .ok () w:=run_eqGuard_agg w op 34 p q _ _ Tryz.guardItem
end
section
open Go.RowKit
attribute [local irreducible] wpStill wpOne wpPh
theorem boxes_it {w:World} (a b c d:Int): ∃w2,w2=(w.alloc (.cells #[.int .i64 a,.int .i64 b] 34)).alloc (.cells #[.int .i64 c,.int .i64 d] 34)∧Blk w2 w.heap.size 34 #[.int .i64 a,.int .i64 b]∧Blk w2 (w.heap.size+1) 34 #[.int .i64 c,.int .i64 d]∧Below w.heap.size w w2:=by
 obtain⟨w1,hw1⟩: ∃w1,w1=w.alloc (.cells #[.int .i64 a,.int .i64 b] 34):=⟨_,rfl⟩
 have hs:w1.heap.size=w.heap.size+1:=by rw [hw1];simp
 have k1:Blk w1 w.heap.size 34 #[.int .i64 a,.int .i64 b]:=by rw [hw1];exact Blk.new _ _ _
 have b1:Below w.heap.size w w1:=by rw [hw1];exact(Below.refl _ w).alloc (Nat.le_refl _) _
 have b2:Below w1.heap.size w1 (w1.alloc (.cells #[.int .i64 c,.int .i64 d] 34)):=(Below.refl _ _).alloc (Nat.le_refl _) _
 refine⟨_,rfl,?_,?_,?_⟩
 ·rw [←hw1];exact k1.below b2 k1.lt
 ·rw [←hw1,←hs];exact Blk.new _ _ _
 ·rw [←hw1];exact b1.trans (b2.mono b1.size)
end
end Go.Proofs.YtlpokomfljmogaaGreat
namespace Go.Proofs.YtlpokomfljmogaaGreat
set_option linter.unusedVariables false
section
open Go.Shelf
def Tryz.sortIt_ren:Go.Shelf.Ren:=⟨fun|6=>106|15=>136|14=>154|28=>179|29=>180|20=>191|21=>192|22=>193|23=>194|24=>195|25=>196|26=>197|27=>198|46=>221|47=>213|48=>214|49=>222|50=>223|57=>228|n=>n,fun|22=>26|24=>34|25=>145|3=>3|39=>169|0=>0|53=>228|55=>184|4=>4|46=>222|45=>221|50=>31|5=>5|9=>9|66=>256|70=>260|76=>271|77=>272|n=>n,fun|n=>n⟩
theorem Tryz.sortIt:Go.Proofs.SlLaysF0.n6 Tryz.prog Tryz.sortIt_ren:={
 mixed:=by kernel_rfl
 f6:=⟨Tryz.f106.name,by decide,Tryz.func106.trans (congrArg some (by kernel_rfl))⟩
 f14:=⟨Tryz.f154.name,by decide,Tryz.func154.trans (congrArg some (by kernel_rfl))⟩
 f15:=Tryz.func136.trans (congrArg some (by kernel_rfl))
 f20:=⟨Tryz.f191.name,by decide,Tryz.func191.trans (congrArg some (by kernel_rfl))⟩
 f21:=⟨Tryz.f192.name,by decide,Tryz.func192.trans (congrArg some (by kernel_rfl))⟩
 f22:=⟨Tryz.f193.name,by decide,Tryz.func193.trans (congrArg some (by kernel_rfl))⟩
 f23:=⟨Tryz.f194.name,by decide,Tryz.func194.trans (congrArg some (by kernel_rfl))⟩
 f24:=⟨Tryz.f195.name,by decide,Tryz.func195.trans (congrArg some (by kernel_rfl))⟩
 f25:=⟨Tryz.f196.name,by decide,Tryz.func196.trans (congrArg some (by kernel_rfl))⟩
 f26:=⟨Tryz.f197.name,by decide,Tryz.func197.trans (congrArg some (by kernel_rfl))⟩
 f27:=⟨Tryz.f198.name,by decide,Tryz.func198.trans (congrArg some (by kernel_rfl))⟩
 f28:=Tryz.func179.trans (congrArg some (by kernel_rfl))
 f29:=Tryz.func180.trans (congrArg some (by kernel_rfl))
 f46:=⟨Tryz.f221.name,by decide,Tryz.func221.trans (congrArg some (by kernel_rfl))⟩
 f47:=Tryz.func213.trans (congrArg some (by kernel_rfl))
 f48:=Tryz.func214.trans (congrArg some (by kernel_rfl))
 f49:=⟨Tryz.f222.name,by decide,Tryz.func222.trans (congrArg some (by kernel_rfl))⟩
 f50:=⟨Tryz.f223.name,by decide,Tryz.func223.trans (congrArg some (by kernel_rfl))⟩
 f57:=⟨Tryz.f228.name,by decide,Tryz.func228.trans (congrArg some (by kernel_rfl))⟩
 t0:=Tryz.underlying0
 a0:=Tryz.isAgg0
 z0:=Tryz.sizeOf0
 v0:=Tryz.zeroValue0
 t3:=Tryz.underlying3
 a3:=Tryz.isAgg3
 z3:=Tryz.sizeOf3
 v3:=Tryz.zeroValue3
 t4:=Tryz.underlying4
 a4:=Tryz.isAgg4
 z4:=Tryz.sizeOf4
 v4:=Tryz.zeroValue4
 t5:=Tryz.underlying5
 a5:=Tryz.isAgg5
 z5:=Tryz.sizeOf5
 v5:=Tryz.zeroValue5
 t9:=Tryz.underlying9
 a9:=Tryz.isAgg9
 z9:=Tryz.sizeOf9
 v9:=Tryz.zeroValue9
 t22:=Tryz.underlying26
 a22:=Tryz.isAgg26
 z22:=Tryz.sizeOf26
 v22:=Tryz.zeroValue26
 t25:=Tryz.underlying145
 a25:=Tryz.isAgg145
 z25:=Tryz.sizeOf145
 v25:=Tryz.zeroValue145
 t39:=Tryz.underlying169
 a39:=Tryz.isAgg169
 z39:=Tryz.sizeOf169
 v39:=Tryz.zeroValue169
 t45:=Tryz.underlying221
 a45:=Tryz.isAgg221
 z45:=Tryz.sizeOf221
 v45:=Tryz.zeroValue221
 t46:=Tryz.underlying222
 a46:=Tryz.isAgg222
 z46:=Tryz.sizeOf222
 v46:=Tryz.zeroValue222
 t50:=Tryz.underlying31
 a50:=Tryz.isAgg31
 z50:=Tryz.sizeOf31
 v50:=Tryz.zeroValue31
 t53:=Tryz.underlying228
 a53:=Tryz.isAgg228
 z53:=Tryz.sizeOf228
 v53:=Tryz.zeroValue228
 t55:=Tryz.underlying184
 a55:=Tryz.isAgg184
 z55:=Tryz.sizeOf184
 v55:=Tryz.zeroValue184
 t66:=Tryz.underlying256
 a66:=Tryz.isAgg256
 z66:=Tryz.sizeOf256
 v66:=Tryz.zeroValue256
 t70:=Tryz.underlying260
 a70:=Tryz.isAgg260
 z70:=Tryz.sizeOf260
 v70:=Tryz.zeroValue260
 t76:=Tryz.underlying271
 a76:=Tryz.isAgg271
 z76:=Tryz.sizeOf271
 v76:=Tryz.zeroValue271
 t77:=Tryz.underlying272
 a77:=Tryz.isAgg272
 z77:=Tryz.sizeOf272
 v77:=Tryz.zeroValue272}
end
section
open Go.Shelf
def Tryz.bString_ren:Go.Shelf.Ren:=⟨fun|169=>168|n=>n,fun|70=>214|9=>9|0=>0|72=>217|37=>215|127=>255|3=>3|5=>5|n=>n,fun|n=>n⟩
theorem Tryz.bString:Go.Proofs.Lays.n169 Tryz.prog Tryz.bString_ren:={
 mixed:=by kernel_rfl
 f169:=Tryz.func168.trans (congrArg some (by kernel_rfl))
 t0:=Tryz.underlying0
 a0:=Tryz.isAgg0
 z0:=Tryz.sizeOf0
 v0:=Tryz.zeroValue0
 t3:=Tryz.underlying3
 a3:=Tryz.isAgg3
 z3:=Tryz.sizeOf3
 v3:=Tryz.zeroValue3
 t9:=Tryz.underlying9
 a9:=Tryz.isAgg9
 z9:=Tryz.sizeOf9
 v9:=Tryz.zeroValue9
 t37:=Tryz.underlying215
 a37:=Tryz.isAgg215
 z37:=Tryz.sizeOf215
 v37:=Tryz.zeroValue215
 t70:=Tryz.underlying214
 a70:=Tryz.isAgg214
 z70:=Tryz.sizeOf214
 v70:=Tryz.zeroValue214
 t72:=Tryz.underlying217
 a72:=Tryz.isAgg217
 z72:=Tryz.sizeOf217
 v72:=Tryz.zeroValue217
 t127:=Tryz.underlying255
 a127:=Tryz.isAgg255
 z127:=Tryz.sizeOf255
 v127:=Tryz.zeroValue255}
end
section
open Go.Shelf
end
end Go.Proofs.YtlpokomfljmogaaGreat
namespace Go.Proofs.YtlpokomfljmogaaGreat
set_option linter.unusedVariables false
section
open Go.RowKit
theorem Rd.of_blk {w:World} {F:Nat→Prop} {g n size:Nat} {t:TypeId} {us:List Value} (hk:Blk w g t us.toArray) (hF:F g) (hl:us.length=n * size) (hm:n≤maxLen):Rd w F (.slice (some ⟨g,0,none⟩) n n) size us:=
 ⟨_,n,n,rfl,Nat.le_refl _,hm,hl,fun _=>⟨g,0,rfl,hF,fun j u hu=>by rw [hk.cell];simpa using hu⟩⟩
theorem flat_two {X:Type} {f:X→Value×Value}: ∀(l:List X) (i:Nat) (p:X),l[i]? =some p→(l.flatMap (fun p=>[(f p).1,(f p).2]))[i * 2]? =some (f p).1∧(l.flatMap (fun p=>[(f p).1,(f p).2]))[i * 2+1]? =some (f p).2
 |a::r,0,p,h=>by
  simp at h
  subst h
  simp
 |a::r,i+1,p,h=>by
  have:=flat_two (f:=f) r i p (by simpa using h)
  simp only [List.flatMap_cons]
  rw [show(i+1) * 2=i * 2+2 by omega]
  exact this
theorem RdR.of_blk {w:World} {F:Nat→Prop} {g:Nat} {t:TypeId} (rvs:List ((Int×List Int)×Value)) (hk:Blk w g t (rvs.flatMap (fun p=>[Value.int .i64 p.1.1,p.2])).toArray) (hF:F g) (h: ∀p∈rvs,RdI w F p.2 p.1.2) (hl:rvs.length≤maxLen):
  RdR w F (.slice (some ⟨g,0,none⟩) rvs.length rvs.length) (rvs.map (·.1)):=by
 refine⟨some ⟨g,0,none⟩,rvs.length,by rw [List.length_map],by rw [List.length_map];exact Nat.le_refl _,hl,fun hn=>⟨g,0,rfl,hF,fun i x hx=> ?_⟩⟩
 rw [List.getElem?_map]at hx
 obtain⟨p,hp,rfl⟩:=Option.map_eq_some_iff.1 hx
 have hc:=flat_two (f:=fun p:(Int×List Int)×Value=>(Value.int .i64 p.1.1,p.2)) rvs i p hp
 refine⟨[Value.int .i64 p.1.1,p.2],rfl,⟨p.2,rfl,h p (List.mem_of_getElem? hp)⟩,fun j u hu=> ?_⟩
 rw [hk.cell]
 have hj:=(List.getElem?_eq_some_iff.1 hu).1
 simp only [List.length_cons,List.length_nil]at hj
 have hj2:j=0∨j=1:=by omega
 rcases hj2 with rfl|rfl
 ·simp at hu;subst hu;simpa using hc.1
 ·simp at hu;subst hu;simpa using hc.2
end
section
open Go.RowKit
theorem own_below {w w':World} {base:Nat} {e:TypeId} {size n:Nat} {v:Value} {xs:List Value} (h:w.ownsRow base e size v n xs) {z:Nat} (hb:Below z w w') (hz: ∀k,v.ownBlock=some k→k<z):w'.ownsRow base e size v n xs:=
 (Touch.of_below hb).own h fun k hk hz'=>by have:=hz k hk;omega
theorem own_below' {w w':World} {base:Nat} {e:TypeId} {size n:Nat} {v:Value} {xs:List Value} (h:w.ownsRow base e size v n xs) (hb:Below w.heap.size w w'):w'.ownsRow base e size v n xs:=
 own_below h hb fun k hk=>(h.lt k hk).2
theorem own_far {w:World} {base:Nat} {e:TypeId} {size n:Nat} {v:Value} {xs:List Value} (h:w.ownsRow base e size v n xs) {p:Addr} (hp:v.ownBlock≠some p.block) (u:Value):(w.setCell p u).ownsRow base e size v n xs:=
 ((Touch.refl (fun k=>k=p.block) w).setCell (fun _=>rfl) u).own h fun k hk e=>hp (by rw [hk,e])
section
variable {w w' w2 : World} {base B : Nat} {vt vn vr v : Value} {st : Int} {ts ns : List ByteArray} {rvs : List ((Int × List Int) × Value)}
end
end
end Go.Proofs.YtlpokomfljmogaaGreat
namespace Go.Proofs.YtlpokomfljmogaaGreat
set_option linter.unusedVariables false
section
set_option linter.unusedSimpArgs false
open Go.RowKit
attribute [local irreducible] wpStill wpOne wpPh
theorem Tryz.infoItem:(Tryz.prog.info? 34).map (fun i=>(i.zero,i.size,i.bytes))=some (some (.agg #[.int .i64 0,.int .i64 0]),2,16):=by kernel_rfl
theorem Tryz.elemItem:Elem Tryz.prog 26 34 (.agg #[.int .i64 0,.int .i64 0]) 2 16:=⟨Tryz.underlying26,Tryz.infoItem,rfl,by decide⟩
theorem own_alloc {w:World} {base:Nat} {e:TypeId} {size n:Nat} {v:Value} {xs:List Value} (h:w.ownsRow base e size v n xs) (o:Obj):(w.alloc o).ownsRow base e size v n xs:=own_below' h ((Below.refl _ w).alloc (Nat.le_refl _) o)
end
section
set_option linter.unusedSimpArgs false
open Go.RowKit
attribute [local irreducible] wpStill wpOne wpPh
section
variable {w wr wr' : World} {F : Nat → Prop} {A1 : Option Addr} {c1 : Nat} {A2 : Option Addr} {c2 : Nat} {A3 : Option Addr} {c3 T N R : Nat} {st : Int} {G : GramD} {v : Value} {l : List It} {u : Value} {o : List It}
end
end
section
set_option linter.unusedSimpArgs false
open Go.RowKit
attribute [local irreducible] wpStill wpOne wpPh
end
end Go.Proofs.YtlpokomfljmogaaGreat
namespace Go.Proofs.YtlpokomfljmogaaGreat
set_option linter.unusedVariables false
section
set_option linter.unusedSimpArgs false
open Go.RowKit Go.Shelf Go.Lib Go.Sort
attribute [local irreducible] wpStill wpOne wpPh
def encIt (x:It):List Value:=[.int .i64 x.1,.int .i64 x.2]
theorem sort_items_none (p:Option Addr) (cap:Nat) (fv:Value) (w:World):Calls Tryz.prog 106 #[.slice p 0 cap,fv] w fun e w'=>e= .returned (.tuple #[])∧w'=w:=
 AnyF.slices_SortFunc_none Tryz.sortIt p cap fv w
end
section
set_option linter.unusedSimpArgs false
open Go.RowKit Go.Shelf Go.Lib Go.Sort
attribute [local irreducible] wpStill wpOne wpPh
def HI (w:World) (g:Nat) (l:List It):Prop:= ∀(k:Nat) (x:It),l[k]? =some x→(w.cell? ⟨g,k * 2,none⟩=some (.int .i64 x.1)∧w.frozen? ⟨g,k * 2,none⟩=false)∧(w.cell? ⟨g,k * 2+1,none⟩=some (.int .i64 x.2)∧w.frozen? ⟨g,k * 2+1,none⟩=false)
theorem HI.drewN {w:World} {g:Nat} {l:List It} (h:HI w g l) (q:Nat):HI (w.drewN q) g l:=h
theorem HI.set {w:World} {g:Nat} {l:List It} (h:HI w g l) {k:Nat} (hk:k<l.length) (x:It):HI ((w.setCell ⟨g,k * 2,none⟩ (.int .i64 x.1)).setCell ⟨g,k * 2+1,none⟩ (.int .i64 x.2)) g (l.set k x):=by
 intro j y hy
 have hj:j<l.length:=by have:=(List.getElem?_eq_some_iff.1 hy).1;simpa using this
 obtain⟨⟨a1,a2⟩,a3,a4⟩:=h j l[j] (List.getElem?_eq_getElem hj)
 rw [World.frozen?_setCell,World.frozen?_setCell,World.frozen?_setCell,World.frozen?_setCell]
 refine⟨⟨?_,a2⟩,?_,a4⟩
 ·by_cases e:j=k
  ·subst e
   rw [List.getElem?_set_self hj]at hy
   injection hy with hy
   subst hy
   rw [World.cell?_setCell_other _ _ _ _ (fun ea=>by injection ea with _ ea;omega),World.cell?_setCell_same' _ _ _ (by rw [a1];rfl)]
  ·rw [List.getElem?_set_ne (fun e'=>e e'.symm),List.getElem?_eq_getElem hj]at hy
   injection hy with hy
   subst hy
   rw [World.cell?_setCell_other _ _ _ _ (fun ea=>by injection ea with _ ea;omega),World.cell?_setCell_other _ _ _ _ (fun ea=>by injection ea with _ ea;omega)]
   exact a1
 ·by_cases e:j=k
  ·subst e
   rw [List.getElem?_set_self hj]at hy
   injection hy with hy
   subst hy
   refine World.cell?_setCell_same' _ _ _ ?_
   rw [World.cell?_setCell_other _ _ _ _ (fun ea=>by injection ea with _ ea;omega),a3];rfl
  ·rw [List.getElem?_set_ne (fun e'=>e e'.symm),List.getElem?_eq_getElem hj]at hy
   injection hy with hy
   subst hy
   rw [World.cell?_setCell_other _ _ _ _ (fun ea=>by injection ea with _ ea;omega),World.cell?_setCell_other _ _ _ _ (fun ea=>by injection ea with _ ea;omega)]
   exact a3
theorem HI.holds {w:World} {g:Nat} {l:List It} (h:HI w g l):HoldsK encIt 2 w g 0 l.toArray:=by
 intro t ht
 rw [size_flatK]at ht
 rw [get_flatK _ _ _ _ ht,Nat.zero_add]
 have hk:t/2<l.length:=by simp at ht;omega
 obtain⟨⟨a1,a2⟩,a3,a4⟩:=h (t/2) l[t/2] (List.getElem?_eq_getElem hk)
 have e:l.toArray[t/2]! =l[t/2]:=by simp [hk]
 rw [e]
 rcases Nat.mod_two_eq_zero_or_one t with h0|h1
 ·rw [h0]
  have ht2:t=t/2 * 2:=by omega
  have e1:(⟨g,t,none⟩:Addr)=⟨g,t/2 * 2,none⟩:=by rw [←ht2]
  rw [e1];exact⟨a1,a2⟩
 ·rw [h1]
  have ht2:t=t/2 * 2+1:=by omega
  have e1:(⟨g,t,none⟩:Addr)=⟨g,t/2 * 2+1,none⟩:=by rw [←ht2]
  rw [e1];exact⟨a3,a4⟩
theorem HI.of_holds {w:World} {g:Nat} {l:List It} (h:HoldsK encIt 2 w g 0 l.toArray):HI w g l:=by
 intro k x hx
 have hk:=(List.getElem?_eq_some_iff.1 hx).1
 have e:l.toArray[k]! =x:=by
  rw [List.getElem?_eq_getElem hk]at hx;injection hx with hx;simp [hk,hx]
 have h0:=HoldsK.cell h (i:=k) (c:=0) (by simpa using hk) (by omega)
 have h1:=HoldsK.cell h (i:=k) (c:=1) (by simpa using hk) (by omega)
 rw [e,Nat.zero_add]at h0 h1
 exact⟨h0,h1⟩
theorem HI.of_own {w:World} {base:Nat} {e:TypeId} {n g c:Nat} {l:List It} (h:w.ownsRow base e 2 (.slice (some ⟨g,0,none⟩) n c) n (itCells l)) (hl:0<l.length):HI w g l:=by
 have hlen:=h.1
 rw [itCells_length]at hlen
 rcases h.2 with⟨h1,-⟩|⟨g',cap,cur,h1,hb,hh,hn,hc,hz,ht⟩
 ·cases h1
 ·injection h1 with h1 _ _
  injection h1 with h1
  injection h1 with h1 _ _
  subst h1
  have key: ∀j u,(itCells l)[j]? =some u→w.cell? ⟨g,j,none⟩=some u∧w.frozen? ⟨g,j,none⟩=false:=fun j u hu=>by
   constructor
   ·rw [cell_of_row w g j cur e (0,0) hh]
    rw [←ht,List.getElem?_take]at hu
    split at hu
    ·simpa using hu
    ·cases hu
   ·unfold World.frozen?
    rw [hh]
    simp
  intro k x hx
  obtain⟨k1,k2⟩:=itCells_get hx
  exact⟨key _ _ k1,key _ _ k2⟩
theorem HI.rd {w:World} {g n c:Nat} {l:List It} (h:HI w g l) (hn:n=l.length) (hc:n≤c) (hm:c≤maxLen):RdIt w (fun b=>b=g) (.slice (some ⟨g,0,none⟩) n c) l:=
 RdIt.mk hn hc hm rfl fun k x hx=>by obtain⟨⟨a1,-⟩,a3,-⟩:=h k x hx;rw [Nat.zero_add];exact⟨a1,a3⟩
theorem HI.take {w:World} {g m:Nat} {l:List It} (h:HI w g l):HI w g (l.take m):=fun k x hx=>by
 rw [List.getElem?_take]at hx
 split at hx
 ·exact h k x hx
 ·cases hx
theorem sort_touch (w:World) (g n:Nat) (d:Array It) (os:Array Obj):Touch (fun b=>b=g) w (sortWorldK encIt 2 w g 0 n d os):=by
 refine⟨rfl,rfl,rfl,?_,fun i hi hn=> ?_⟩
 ·unfold sortWorldK grow putRowK putRow mapBlock Sort.ahead
  simp
 ·unfold sortWorldK grow putRowK putRow mapBlock Sort.ahead
  simp only
  rw [Array.getElem?_append_left (by simpa using hi),Array.getElem?_modify,if_neg (fun e=>hn e.symm)]
theorem clear_items {w:World} {g:Nat} {l:List It} (h:HI w g l) {k:Nat} (hk:k<l.length) (c:Nat) (ty:TypeId):(Builtin.clear_ #[26] ty #[.slice (some ⟨g,k * 2,none⟩) (l.length - k) c]).run Tryz.prog w= .ok (.tuple #[]) (w.setCells g (k * 2) (List.replicate ((l.length - k) * 2) (.int .i64 0))):=by
 obtain⟨m,hm⟩: ∃m,l.length - k=m+1:=⟨l.length - k - 1,by omega⟩
 have hz:(Builtin.zeroCells (Value.cells (.agg #[.int .i64 0,.int .i64 0])) (m+1)).toList=List.replicate ((m+1) * 2) (.int .i64 0):=by
  simp [Builtin.zeroCells,Value.cells]
  apply List.ext_getElem
  ·simp
  ·intro i h1 h2
   simp
   rcases Nat.mod_two_eq_zero_or_one i with e|e<;>simp [e]
 have hat: ∀j,j<(m+1) * 2→(w.cell? ⟨g,k * 2+j,none⟩).isSome=true∧w.frozen? ⟨g,k * 2+j,none⟩=false:=fun j hj=>by
  obtain⟨⟨a1,a2⟩,a3,a4⟩:=h (k+j/2) l[k+j/2] (List.getElem?_eq_getElem (by omega))
  rcases Nat.mod_two_eq_zero_or_one j with e|e
  ·rw [show k * 2+j=(k+j/2) * 2 by omega,a1];exact⟨rfl,a2⟩
  ·rw [show k * 2+j=(k+j/2) * 2+1 by omega,a3];exact⟨rfl,a4⟩
 have hst:=run_storeCells_cells (P:=Tryz.prog) g (k * 2) (List.replicate ((m+1) * 2) (.int .i64 0)) 0 w (fun j hj=>by rw [Nat.add_zero];exact(hat j (by simpa using hj)).1) (fun j hj=>by rw [Nat.add_zero];exact(hat j (by simpa using hj)).2) (by intro v hv';rw [List.eq_of_mem_replicate hv'];rfl)
 simp only [Nat.add_zero]at hst
 rw [hm]
 simp [Builtin.clear_,run_underlying Tryz.underlying26,Tryz.zeroValue34,hz,hst]
end
section
set_option linter.unusedSimpArgs false
open Go.RowKit Go.Shelf Go.Lib Go.Sort
attribute [local irreducible] wpStill wpOne wpPh
theorem Touch.setCells {S:Nat→Prop} {a:World} {g:Nat} (hg:S g): ∀(vs:List Value) (o:Nat) {b:World},Touch S a b→Touch S a (b.setCells g o vs)
 |[],_,_,h=>h
 |v::vs,o,b,h=>Touch.setCells hg vs (o+1) (h.setCell (p:=⟨g,o,none⟩) (fun _=>hg) v)
theorem HI.cleared {w:World} {g k m:Nat} {l:List It} (h:HI w g l) (hk:l.length≤k) (vs:List Value):HI (w.setCells g (k * 2) vs) g l:=by
 intro j x hx
 have hj:=(List.getElem?_eq_some_iff.1 hx).1
 obtain⟨⟨a1,a2⟩,a3,a4⟩:=h j x hx
 rw [World.frozen?_setCells,World.frozen?_setCells,World.cell?_setCells_out _ _ _ _ _ (fun _ _=> .inl (by simp;omega)),World.cell?_setCells_out _ _ _ _ _ (fun _ _=> .inl (by simp;omega))]
 exact⟨⟨a1,a2⟩,a3,a4⟩
def CompPost (w:World) (g cap:Nat) (l:List It) (e:Ending) (w':World):Prop:=e= .returned (.slice (some ⟨g,0,none⟩) l.length cap)∧HI w' g l∧Touch (fun b=>b=g) w w'
set_option maxRecDepth 100000 in
set_option maxHeartbeats 4000000 in
theorem compact_items {w:World} {g cap n:Nat} {l:List It} (h:HI w g l) (hn:n=l.length) (hc:n≤cap) (hm:cap≤9223372036854775807):
  Calls Tryz.prog 110 #[.slice (some ⟨g,0,none⟩) n cap] w (CompPost w g cap (compI l)):=by
 by_cases h2:n<2
 ·have h2':(n:Int)<2:=by omega
  have hcs:=comp_short (l:=l) (by omega)
  have Xh:=hide h;have Xhn:=hide hn;have Xhcs:=hide hcs;clear h hn hcs
  go_enter Tryz.func110,Tryz.ntmps110
  go_wp2_with fail
  go_ret
  rw [Xhcs.out]
  exact⟨by rw [Xhn.out];rfl,Xh.out,Touch.refl _ _⟩
 ·have h2': ¬(n:Int)<2:=by omega
  have hfirst:=comp_first (l:=l)
  have Xh:=hide h;have Xhn:=hide hn;have Xhfirst:=hide hfirst;clear h hn hfirst
  go_enter Tryz.func110,Tryz.ntmps110
  go_wp2_with fail
  go_loopw [3] (fun i wr=> ∃k q:Nat,1≤k∧k≤n∧i= .int .i64 k∧wr=w.drewN q∧compI (l.take k)=l.take k) (fun i _=>n - (intOf i).toNat)
  case atStart=>exact⟨1,0,Nat.le_refl _,by omega,rfl,rfl,Xhfirst.out⟩
  case round=>
   clear Xhfirst
   obtain⟨k,q,hk1,hk,rfl,rfl,hcp⟩:=hrel
   by_cases hlt:k<n
   ·have hlt':(k:Int)<(n:Int):=by omega
    obtain⟨r,hr⟩: ∃r,k=r+1:=⟨k - 1,by omega⟩
    have hw63:IntKind.i64.wrap ((k:Int) - 1)=(r:Int):=by rw [IntKind.wrap_i64];omega
    have hrn:(r:Int)<(n:Int):=by omega
    obtain⟨⟨x0,x1⟩,hx⟩: ∃x,l[k]? =some x:=⟨_,List.getElem?_eq_getElem (by rw [←Xhn.out];exact hlt)⟩
    obtain⟨⟨y0,y1⟩,hy⟩: ∃x,l[r]? =some x:=⟨_,List.getElem?_eq_getElem (by rw [←Xhn.out];omega)⟩
    obtain⟨⟨p0,-⟩,p1,-⟩:=Xh.out k _ hx
    obtain⟨⟨r0,-⟩,r1,-⟩:=Xh.out r _ hy
    simp only at p0 p1 r0 r1
    have heq:=eql_item x0 x1 y0 y1
    have hgd:=fun op p q=>guard_item op p q (x0,x1) (y0,y1)
    have hnext:=comp_next (l:=l) (r:=r) hy (by rw [←hr];exact hx)
    rw [show r+2=k+1 by omega,←hr,hcp]at hnext
    by_cases he:((x0,x1):It)=(y0,y1)
    ·rw [decide_eq_true he]at heq
     rw [if_pos he.symm]at hnext
     have hck: ¬cap=k:=by omega
     have hkc:(k:Int)≤(cap:Int):=by omega
     have hk0:(0:Int)≤(k:Int):=by omega
     have hlk:k=(compI (l.take (k+1))).length:=by rw [hnext,List.length_take];have:=Xhn.out;omega
     have Xhr:=hide hr;have Xhx:=hide hx;have Xhy:=hide hy;have Xhe:=hide he;have Xhcp:=hide hcp;have Xhnext:=hide hnext;have Xhlk:=hide hlk;clear hr hx hy he hcp hnext hlk
     go_wp2_with fail
     refine region_reads (by kernel_rfl) (by kernel_rfl) ?_
     repeat still_step
     refine wpStill_nil ?_
     go_wp2_with fail
     go_loopw [3,5] (fun i m wr=> ∃(kk s:Nat) (L:List It),i= .int .i64 kk∧m= .int .i64 s∧1≤s∧k+s≤n∧kk+1≤k+s∧L.length=n∧kk=(compI (l.take (k+s))).length∧L.take kk=compI (l.take (k+s))∧(∀j,k+s≤j+1→L[j]? =l[j]?)∧HI wr g L∧Touch (fun b=>b=g) w wr) (fun _ m _=>n - (intOf m).toNat)
     case atStart=>exact⟨k,1,l,rfl,rfl,Nat.le_refl _,by omega,Nat.le_refl _,Xhn.out.symm,Xhlk.out,Xhnext.out.symm,fun _ _=>rfl,Xh.out.drewN _,(Touch.refl _ _).drewN _⟩
     case round=>
      clear p0 p1 r0 r1 heq hgd hw63 hrn
      obtain⟨kk,s,L,rfl,rfl,hs1,hsn,hks,hL,hkk,hLt,hLe,hH,tt⟩:=hrel
      have hkn:(kk:Int)<(n:Int):=by omega
      by_cases hlt2:k+s<n
      ·have hlt2':(s:Int)<((n - k:Nat):Int):=by omega
       obtain⟨u,hu⟩: ∃u,s=u+1:=⟨s - 1,by omega⟩
       have hw64:IntKind.i64.wrap ((s:Int) - 1)=(u:Int):=by rw [IntKind.wrap_i64];omega
       have hun:(u:Int)<((n - k:Nat):Int):=by omega
       obtain⟨⟨x0,x1⟩,hx⟩: ∃x,l[k+s]? =some x:=⟨_,List.getElem?_eq_getElem (by rw [←Xhn.out];exact hlt2)⟩
       obtain⟨⟨y0,y1⟩,hy⟩: ∃x,l[k+u]? =some x:=⟨_,List.getElem?_eq_getElem (by rw [←Xhn.out];omega)⟩
       obtain⟨⟨p0,-⟩,p1,-⟩:=hH (k+s) _ ((hLe _ (by omega)).trans hx)
       obtain⟨⟨r0,-⟩,r1,-⟩:=hH (k+u) _ ((hLe _ (by omega)).trans hy)
       rw [Nat.add_mul]at p0 p1 r0 r1
       obtain⟨⟨z0,z1⟩,hz⟩: ∃x,L[kk]? =some x:=⟨_,List.getElem?_eq_getElem (by omega)⟩
       obtain⟨⟨f0,f1⟩,f2,f3⟩:=hH kk _ hz
       simp only at p0 p1 r0 r1 f0 f2
       have hne:=neq_item x0 x1 y0 y1
       have hgd:=fun op p q=>guard_item op p q (x0,x1) (y0,y1)
       have hnext2:=comp_next (l:=l) (r:=k+u) hy (by rw [Nat.add_assoc,←hu];exact hx)
       rw [show k+u+2=k+(s+1) by omega,show k+u+1=k+s by omega]at hnext2
       by_cases he2:((x0,x1):It)=(y0,y1)
       ·rw [decide_eq_true he2]at hne
        rw [if_pos he2.symm]at hnext2
        have Xhu:=hide hu;have Xhx:=hide hx;have Xhy:=hide hy;have Xhe2:=hide he2;have Xhz:=hide hz;have Xhnext2:=hide hnext2;have XhL:=hide hL;have Xhkk:=hide hkk;have XhLt:=hide hLt;have XhLe:=hide hLe;have XhH:=hide hH;have Xtt:=hide tt;clear hu hx hy he2 hz hnext2 hL hkk hLt hLe hH tt;clear f0 f1 f2 f3
        go_wp2_with fail
        refine region_reads (by kernel_rfl) (by kernel_rfl) ?_
        repeat still_step
        refine wpStill_nil ?_
        go_wp2_with fail
        go_roundw
        case rel=>exact⟨kk,s+1,L,rfl,by go_num,by omega,by omega,by omega,XhL.out,by rw [Xhnext2.out];exact Xhkk.out,by rw [Xhnext2.out];exact XhLt.out,fun j hj=>XhLe.out j (by omega),XhH.out.drewN _,Xtt.out.drewN _⟩
        case measure=>simp [intOf];omega
       ·rw [decide_eq_false he2]at hne
        rw [if_neg (fun e=>he2 e.symm)]at hnext2
        have hkk2:kk+1=(compI (l.take (k+(s+1)))).length:=by rw [hnext2,List.length_append,←hkk];rfl
        have hLt2:(L.set kk (x0,x1)).take (kk+1)=compI (l.take (k+(s+1))):=by
         rw [hnext2,List.take_add_one,List.getElem?_set_self (by omega),List.take_set_of_le (Nat.le_refl _),hLt];rfl
        have hLe2: ∀j,k+(s+1)≤j+1→(L.set kk (x0,x1))[j]? =l[j]? :=fun j hj=>by
         rw [List.getElem?_set_ne (by omega)];exact hLe j (by omega)
        have hH2:=fun q=>HI.set (hH.drewN q) (k:=kk) (by omega) (x0,x1)
        have tt2:=fun q v0 v1=>((tt.drewN q).setCell (p:=⟨g,kk * 2,none⟩) (fun _=>rfl) v0).setCell (p:=⟨g,kk * 2+1,none⟩) (fun _=>rfl) v1
        have hL2:(L.set kk (x0,x1)).length=n:=by rw [List.length_set];exact hL
        simp only at hH2
        have Xhu:=hide hu;have Xhx:=hide hx;have Xhy:=hide hy;have Xhe2:=hide he2;have Xhz:=hide hz;have Xhnext2:=hide hnext2;have XhL:=hide hL;have Xhkk:=hide hkk;have XhLt:=hide hLt;have XhLe:=hide hLe;have XhH:=hide hH;have Xtt:=hide tt;have Xhkk2:=hide hkk2;have XhLt2:=hide hLt2;have XhLe2:=hide hLe2;have XhH2:=hide hH2;have Xtt2:=hide tt2;have XhL2:=hide hL2;clear hu hx hy he2 hz hnext2 hL hkk hLt hLe hH tt hkk2 hLt2 hLe2 hH2 tt2 hL2
        go_wp2_with fail
        refine region_reads (by kernel_rfl) (by kernel_rfl) ?_
        repeat still_step
        refine wpStill_nil ?_
        go_wp2_with fail
        go_roundw
        case rel=>exact⟨kk+1,s+1,L.set kk (x0,x1),by go_num,by go_num,by omega,by omega,by omega,XhL2.out,Xhkk2.out,XhLt2.out,XhLe2.out,XhH2.out 1,Xtt2.out 1 _ _⟩
        case measure=>simp [intOf];omega
      ·have hlt2': ¬(s:Int)<((n - k:Nat):Int):=by omega
       have hend:k+s=n:=by omega
       have hfin:compI (l.take (k+s))=compI l:=by rw [List.take_of_length_le (by have:=Xhn.out;omega)]
       rw [hfin]at hkk hLt
       have hck2: ¬cap=kk:=by omega
       have hkc2:(kk:Int)≤(cap:Int):=by omega
       have hkn2:(kk:Int)≤(n:Int):=by omega
       have hkk0:(0:Int)≤(kk:Int):=by omega
       have hcl:=fun ty=>clear_items hH (k:=kk) (by omega) (cap - kk) ty
       rw [hL]at hcl
       have hH3:=fun vs=>HI.cleared (k:=kk) (m:=0) (hLt▸HI.take (m:=kk) hH) (by omega) vs
       have tt3:=fun vs=>Touch.setCells (g:=g) (S:=fun b=>b=g) rfl vs (kk * 2) tt
       have XhL:=hide hL;have Xhkk:=hide hkk;have XhLt:=hide hLt;have XhLe:=hide hLe;have XhH:=hide hH;have Xtt:=hide tt;have Xhfin:=hide hfin;have XhH3:=hide hH3;have Xtt3:=hide tt3;have Xhend:=hide hend;clear hL hkk hLt hLe hH tt hfin hH3 tt3 hend
       go_wp2_with fail
       go_ret
       exact⟨by rw [Xhkk.out];rfl,XhH3.out _,Xtt3.out _⟩
    ·rw [decide_eq_false he]at heq
     rw [if_neg (fun e=>he e.symm)]at hnext
     have hcp2:compI (l.take (k+1))=l.take (k+1):=by rw [hnext,List.take_add_one,hx];rfl
     clear hnext
     have Xhr:=hide hr;have Xhx:=hide hx;have Xhy:=hide hy;have Xhe:=hide he;have Xhcp:=hide hcp;have Xhcp2:=hide hcp2;clear hr hx hy he hcp hcp2
     go_wp2_with fail
     refine region_reads (by kernel_rfl) (by kernel_rfl) ?_
     repeat still_step
     refine wpStill_nil ?_
     go_wp2_with fail
     go_roundw
     case rel=>exact⟨k+1,q+1,by omega,by omega,by go_num,rfl,Xhcp2.out⟩
     case measure=>simp [intOf];omega
   ·have hlt': ¬(k:Int)<(n:Int):=by omega
    have hall:compI l=l:=by rw [List.take_of_length_le (by have:=Xhn.out;omega)]at hcp;exact hcp
    have Xhcp:=hide hcp;have Xhall:=hide hall;clear hcp hall
    go_wp2_with fail
    go_ret
    rw [Xhall.out]
    exact⟨by rw [Xhn.out];rfl,Xh.out.drewN q,(Touch.refl _ _).drewN q⟩
theorem compact_none (p:Option Addr) (cap:Nat) (w:World):Calls Tryz.prog 110 #[.slice p 0 cap] w fun e w'=>e= .returned (.slice p 0 cap)∧w'=w:=by
 go_enter Tryz.func110,Tryz.ntmps110
 go_wp2_with fail
 go_ret
 exact⟨rfl,by first|rfl|trivial⟩
end
end Go.Proofs.YtlpokomfljmogaaGreat
namespace Go.Proofs.YtlpokomfljmogaaGreat
set_option linter.unusedVariables false
section
set_option linter.unusedSimpArgs false
open Go.RowKit
attribute [local irreducible] wpStill wpOne wpPh
section
variable {w wr wr' : World} {F : Nat → Prop} {A1 : Option Addr} {c1 : Nat} {A2 : Option Addr} {c2 : Nat} {A3 : Option Addr} {c3 T N R : Nat} {st : Int} {G : GramD} {vl : Value} {l : List It} {vo : Value} {o : List It}
end
end
section
set_option linter.unusedSimpArgs false
open Go.RowKit Go.Maps
theorem Tryz.laidOut:laidOutB Tryz.prog=true:=by kernel_rfl
theorem Tryz.intCells:Tryz.prog.cellsOf 3=1:=by kernel_rfl
theorem wf_i64_mk {n:Int} (h: -9223372036854775808≤n∧n≤9223372036854775807):(Lit.int .i64 n).wf=true:=by
 simp [Lit.wf,IntKind.min,IntKind.max,IntKind.signed,IntKind.bits]
 omega
noncomputable def ikey (x:It):Lit:=(keyOf Tryz.prog 34 (ItV x)).getD (.bool false)
attribute [irreducible] ikey
end
section
set_option linter.unusedSimpArgs false
open Go.RowKit Go.Maps
attribute [local irreducible] wpStill wpOne wpPh
section
variable {w wr wr' : World} {F : Nat → Prop} {A1 : Option Addr} {c1 : Nat} {A2 : Option Addr} {c2 : Nat} {A3 : Option Addr} {c3 T N R : Nat} {st : Int} {G : GramD} {vl : Value} {l : List It} {s : Nat} {vo : Value} {o : List It}
end
end
section
set_option linter.unusedSimpArgs false
open Go.RowKit Go.Maps
attribute [local irreducible] wpStill wpOne wpPh
structure KnI (G:GramD) (st:Int):Prop where
 r:G.rules.length≤300
 non: ∀s k,k∈ofOf G s→isNon G s=true
 short:ShortG G st
theorem KnI.of_check {G:GramD} {st:Int} (h:checkOf G st=0):KnI G st:=by
 obtain⟨hm,-,-,hk,-,-⟩:=checkOf_zero h
 obtain⟨-,-,h3,hsh⟩:=manyOf_no hm
 refine⟨h3,fun s k hs=> ?_,fun i=> ?_⟩
 ·obtain⟨n,x,-,hx⟩:=of_mem.1 hs
  unfold allKnown at hk
  rw [Bool.and_eq_true,List.all_eq_true]at hk
  have:=hk.2 _ (List.mem_of_getElem? hx)
  unfold knownOf at this
  rw [Bool.and_eq_true]at this
  exact this.1
 ·unfold shortOf at hsh
  rw [List.all_eq_true]at hsh
  unfold ruleOf
  split
  ·simp
  ·split
   ·simp
   ·cases e:G.rules[i.toNat]? with
    |none=>simp
    |some r=>have:=hsh r (List.mem_of_getElem? e);simp at this⊢;omega
section
variable {w : World} {F : Nat → Prop} {A1 : Option Addr} {c1 : Nat} {A2 : Option Addr} {c2 : Nat} {A3 : Option Addr} {c3 T N R : Nat} {st : Int} {G : GramD} {vl : Value} {l : List It}
end
end
end Go.Proofs.YtlpokomfljmogaaGreat

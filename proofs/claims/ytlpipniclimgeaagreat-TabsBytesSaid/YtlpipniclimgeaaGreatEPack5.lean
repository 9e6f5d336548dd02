/- Packed tables: a table, packed. -/
import Derived.Test.YtlpipniclimgeaaGreatETabs2
namespace Go.Proofs.YtlpipniclimgeaaGreat
set_option linter.unusedVariables false
set_option linter.unusedSimpArgs false
open Go.RowKit Go.Maps
attribute [local irreducible] wpStill wpOne wpPh
theorem IsTab.touch {w w':World} {F S:Nat->Prop} {vr va vg:Value} {t:TabD} (h:IsTab w F vr va vg t) (tt:Touch S w w') (hS: ∀b,F b-> ¬S b):IsTab w' F vr va vg t:=
 ⟨h.rules.touch tt hS fun cs x _ e=>by
  obtain⟨v,e1,e2⟩:=e
  exact⟨v,e1,Rd.touch e2 tt hS⟩,RdRw.mono' h.acts (fun Z r=>r.touch tt hS) (fun z x r=>Rd.touch r tt hS),RdRw.mono' h.goto (fun Z r=>r.touch tt hS) (fun z x r=>Rd.touch r tt hS),fun k hk=>Nat.lt_of_lt_of_le (h.lt k hk) tt.size,h.tn,h.wr⟩
theorem TBox.touch {w w':World} {F:Nat->Prop} {B:Nat} {A1:Option Addr} {c1:Nat} {A2:Option Addr} {c2:Nat} {A3:Option Addr} {c3 R n m:Nat} {T N:Int} {t:TabD} {S:Nat->Prop} (h:TBox w F B A1 c1 A2 c2 A3 c3 R n m T N t) (tt:Touch S w w') (hS: ∀b,F b-> ¬S b) (hB: ¬S B):TBox w' F B A1 c1 A2 c2 A3 c3 R n m T N t:=⟨h.tab.touch tt hS,h.blk.touch tt hB⟩
def ow5 (P:Nat) (b:Nat):Nat:=if b=P then 1 else if b=P+1 then 3 else if b=P+2 then 2 else if b=P+3 then 7 else if b=P+4 then 6 else 0
theorem ow5_low {P b:Nat} (h:b<P):ow5 P b=0:=by unfold ow5;rw [if_neg (by omega),if_neg (by omega),if_neg (by omega),if_neg (by omega),if_neg (by omega)]
theorem PkS.start (w3:World) (A1:Option Addr) (R c1:Nat) (T N:Int) (t:TabD): ∃wS,wS=((((w3.alloc (.cells #[.slice A1 R c1,.int .i64 T,.int .i64 N,.slice none 0 0,.slice none 0 0,.slice none 0 0,.slice none 0 0] 26)).alloc (.map #[] 0)).alloc (.cells #[.map (some (w3.heap.size+1)),.slice none 0 0] 104)).alloc (.map #[] 0)).alloc (.cells #[.map (some (w3.heap.size+3)),.slice none 0 0] 104)/\
  PkS wS (ow5 w3.heap.size) wS (ow5 w3.heap.size) w3.heap.size (w3.heap.size+2) (w3.heap.size+1) (w3.heap.size+4) (w3.heap.size+3) A1 R c1 T N none 0 none 0 none 0 0 none 0 0 0 0 t/\Below w3.heap.size w3 wS/\wS.heap.size=w3.heap.size+5:=by
 obtain⟨P,hP⟩: ∃P,P=w3.heap.size:=⟨_,rfl⟩
 rw [<-hP]
 obtain⟨wa,hwa⟩: ∃q,q=w3.alloc (.cells #[.slice A1 R c1,.int .i64 T,.int .i64 N,.slice none 0 0,.slice none 0 0,.slice none 0 0,.slice none 0 0] 26):=⟨_,rfl⟩
 obtain⟨wb,hwb⟩: ∃q,q=wa.alloc (.map #[] 0):=⟨_,rfl⟩
 obtain⟨wc,hwc⟩: ∃q,q=wb.alloc (.cells #[.map (some (P+1)),.slice none 0 0] 104):=⟨_,rfl⟩
 obtain⟨wd,hwd⟩: ∃q,q=wc.alloc (.map #[] 0):=⟨_,rfl⟩
 obtain⟨wS,hwS⟩: ∃q,q=wd.alloc (.cells #[.map (some (P+3)),.slice none 0 0] 104):=⟨_,rfl⟩
 have sa:wa.heap.size=P+1:=by rw [hwa,hP];simp
 have sb:wb.heap.size=P+2:=by rw [hwb];simp [sa]
 have sc:wc.heap.size=P+3:=by rw [hwc];simp [sb]
 have sd:wd.heap.size=P+4:=by rw [hwd];simp [sc]
 have sS:wS.heap.size=P+5:=by rw [hwS];simp [sd]
 have ba:Below w3.heap.size w3 wa:=by rw [hwa];exact(Below.refl _ _).alloc (Nat.le_refl _) _
 have bb:Below wa.heap.size wa wb:=by rw [hwb];exact(Below.refl _ _).alloc (Nat.le_refl _) _
 have bc:Below wb.heap.size wb wc:=by rw [hwc];exact(Below.refl _ _).alloc (Nat.le_refl _) _
 have bd:Below wc.heap.size wc wd:=by rw [hwd];exact(Below.refl _ _).alloc (Nat.le_refl _) _
 have bS:Below wd.heap.size wd wS:=by rw [hwS];exact(Below.refl _ _).alloc (Nat.le_refl _) _
 have bdS:=bd.trans (bS.mono bd.size)
 have bcS:=bc.trans (bdS.mono bc.size)
 have bbS:=bb.trans (bcS.mono bb.size)
 have kP:Blk wS P 26 #[.slice A1 R c1,.int .i64 T,.int .i64 N,.slice none 0 0,.slice none 0 0,.slice none 0 0,.slice none 0 0]:=by
  have:=Blk.new w3 26 #[.slice A1 R c1,.int .i64 T,.int .i64 N,.slice none 0 0,.slice none 0 0,.slice none 0 0,.slice none 0 0]
  rw [<-hwa,<-hP]at this
  exact this.below bbS this.lt
 have kA:Blk wS (P+2) 104 #[.map (some (P+1)),.slice none 0 0]:=by
  have:=Blk.new wb 104 #[.map (some (P+1)),.slice none 0 0]
  rw [<-hwc,sb]at this
  exact this.below bdS this.lt
 have kG:Blk wS (P+4) 104 #[.map (some (P+3)),.slice none 0 0]:=by
  have:=Blk.new wd 104 #[.map (some (P+3)),.slice none 0 0]
  rwa [<-hwS,sd]at this
 have mA:wb.ownsMap Tryz.prog 9 (plainElem (H:=Unit) Tryz.prog 3) (P+1) 0 (.map []):=by rw [hwb,<-sa];exact World.ownsMap_made wa Tryz.prog 9 (plainElem (H:=Unit) Tryz.prog 3)
 have mG:wd.ownsMap Tryz.prog 9 (plainElem (H:=Unit) Tryz.prog 3) (P+3) 0 (.map []):=by rw [hwd,<-sc];exact World.ownsMap_made wc Tryz.prog 9 (plainElem (H:=Unit) Tryz.prog 3)
 refine⟨wS,by rw [hwS,hwd,hwc,hwb,hwa],⟨StL.refl _ _ _,by simp [ow5],kP,?_,?_,Row.nil _ _ _ _ _,Row.nil _ _ _ _ _⟩,ba.trans (bbS.mono ba.size)|>.mono (by rw [hP];exact Nat.le_refl _),sS⟩
 ·exact⟨rfl,by simp [ow5],by simp [ow5],kA,⟨_,(Touch.of_size bcS (fun _=>False)).ownsMap mA (fun e=>e),NMap.empty⟩,⟨[],rfl,Row.nil _ _ _ _ _,fun j z r hz=>by simp at hz⟩,fun r hr=>by cases hr⟩
 ·exact⟨rfl,by simp [ow5],by simp [ow5],kG,⟨_,(Touch.of_size bS (fun _=>False)).ownsMap mG (fun e=>e),NMap.empty⟩,⟨[],rfl,Row.nil _ _ _ _ _,fun j z r hz=>by simp at hz⟩,fun r hr=>by cases hr⟩
def PackPost (w:World) (F:Nat->Prop) (t:TabD) (e:Ending) (w':World):Prop:=Below w.heap.size w w'/\ ∃vr vrow vrows vgow vgows,e= .returned (.tuple #[PV vr (packO t).terms (packO t).nons vrow vrows vgow vgows,.bool (fitT t)])/\IsPack w' (fun b=>(F b\/w.heap.size<=b)/\b<w'.heap.size) vr vrow vrows vgow vgows (packO t)
theorem PackPost.fin {w wS wr W2 W3:World} {F:Nat->Prop} {A1:Option Addr} {R c1:Nat} {T N:Int} {A2:Option Addr} {c2:Nat} {A3:Option Addr} {c3:Nat} {Ar:Option Addr} {cr:Nat} {Ao:Option Addr} {co:Nat} {Aa:Option Addr} {na ca:Nat} {Ag:Option Addr} {ng cg n P Ba Ma Bg Mg:Nat} {ow:Nat->Nat} {t:TabD} (hf:fitT t=true) (hF: ∀b,F b->b<w.heap.size) (hT:t.terms=T) (hN:t.nons=N) (hn:t.acts.length=n) (hm:t.goto.length=n) (hR:t.rules.length=R) (hPz:w.heap.size+2<=P) (hSz:wS.heap.size=P+5) (hRow:ow (w.heap.size+1)=0) (b05:Below w.heap.size w wS)
  (hS:PkS wS (ow5 P) wr ow P Ba Ma Bg Mg A1 R c1 T N Ar cr Ao co Aa na ca Ag ng cg n n t) (gW:IsTab wr F (.slice A1 R c1) (.slice A2 n c2) (.slice A3 n c3) t) (tW:Touch (fun k=>k=P) wr W2) (t9:Touch (fun k=>k=w.heap.size+1) W2 W3):
  PackPost w F t (.returned (.tuple #[PV (.slice A1 R c1) T N (.slice Ar n cr) (.slice Aa na ca) (.slice Ao n co) (.slice Ag ng cg),.bool true])) W3:=by
 have hpo:packO t=packT t:=if_pos hf
 have e1:(numsA t).take n=numsA t:=List.take_of_length_le (by unfold numsA;rw [List.length_map,hn];exact Nat.le_refl _)
 have e2:(numsG t).take n=numsG t:=List.take_of_length_le (by unfold numsG;rw [List.length_map,hm];exact Nat.le_refl _)
 have hra:=hS.ra
 have hrg:=hS.rg
 have hrr:=hS.rr
 have hro:=hS.ro
 rw [e1]at hra hrr
 rw [e2]at hrg hro
 have tot:Touch (fun k=>k=P\/k=w.heap.size+1) wr W3:=(tW.mono fun k _ e=> .inl e).trans t9 (fun k _ e=> .inr e)
 have low: ∀b,b<P->ow b=0:=fun b hb=>(hS.st.eq b (by omega)).trans (ow5_low hb)
 have bwr:Below w.heap.size w wr:=hS.st.t.toBelow (fun b e=>by
  rcases Nat.lt_or_ge b P with h|h
  ·exact absurd (ow5_low h) e
  ·omega) b05 b05.size
 have bW3:Below w.heap.size w W3:=tot.toBelow (fun b e=>by omega) bwr bwr.size
 obtain⟨Fx,hFx⟩: ∃Fx:Nat->Prop,Fx=fun b=>F b\/(b<wr.heap.size/\(ow b=4\/ow b=5\/ow b=8\/ow b=9\/ow b=10\/ow b=11)):=⟨_,rfl⟩
 have fF: ∀b,F b->Fx b:=fun b hb=>by rw [hFx];exact .inl hb
 have fT: ∀i,(i=4\/i=5\/i=8\/i=9\/i=10\/i=11)-> ∀b,TF wr ow (fun k=>k=i) b->Fx b:=fun i hi b hb=>by
  rw [hFx]
  have h1:=hb.1
  have h2:ow b=i:=hb.2
  exact .inr ⟨h1,by omega⟩
 have hsm:=(fit_parts hf).2.1
 have wI: ∀{rs:List (List Int)},rs.length<=16383-> ∀x∈(packU rs).2,W64 x:=fun{rs} hl x hx=>by
  have h1:=(List.all_eq_true.1 (in_rows (rs:=rs))) x hx
  have h2:=(packU_ok rs).le
  unfold inR at h1
  simp only [Bool.and_eq_true,decide_eq_true_eq]at h1
  unfold W64
  omega
 have rowsR: ∀{tb tm ta te B M:Nat} {A:Option Addr} {k c:Nat} {L:List (List Int)},RowsT wr ow tb tm ta te B M A k c L->(ta=4\/ta=8)->(te=5\/te=9)->RdUs wr Fx (.slice A k c) L:=fun h h1 h2=>by
  obtain⟨Z,z1,z2,z3⟩:=h.row
  exact⟨Z,z1,z2.rd.mono (fT _ (by omega)),fun j z x hz hx=>Rd.mono (z3 j z x hz hx) (fT _ (by omega))⟩
 have isP:IsPack wr Fx (.slice A1 R c1) (.slice Ar n cr) (.slice Aa na ca) (.slice Ao n co) (.slice Ag ng cg) (packT t):=by
  refine⟨gW.rules.mono fF fun cs x e=> ?_,hrr.rd.mono (fT 10 (by omega)),rowsR hra (.inl rfl) (.inl rfl),hro.rd.mono (fT 11 (by omega)),rowsR hrg (.inr rfl) (.inr rfl),fun b hb=> ?_,gW.tn,gW.wr,?_,?_,hra.u16,hrg.u16⟩
  ·obtain⟨v,h1,h2⟩:=e
   exact⟨v,h1,Rd.mono h2 fF⟩
  ·rw [hFx]at hb
   rcases hb with hb|hb
   ·have:=hF b hb;have:=bwr.size;omega
   ·exact hb.1
  ·exact wI (by unfold numsA;rw [List.length_map];exact hsm)
  ·exact wI (by unfold numsG;rw [List.length_map,hm,<-hn];exact hsm)
 have isQ:=(isP.touch tot (fun b hb e=>by
  rw [hFx]at hb
  rcases hb with hb|⟨-,hb⟩
  ·have:=hF b hb;omega
  ·rcases e with e|e
   ·subst e;rw [hS.oP]at hb;omega
   ·subst e;rw [hRow]at hb;omega)).mono (F':=fun b=>(F b\/w.heap.size<=b)/\b<W3.heap.size) (fun b hb=>by
  rw [hFx]at hb
  rcases hb with hb|⟨h1,hb⟩
  ·exact⟨.inl hb,by have:=hF b hb;have:=bW3.size;omega⟩
  ·refine⟨.inr ?_,Nat.lt_of_lt_of_le h1 tot.size⟩
   rcases Nat.lt_or_ge b P with h|h
   ·rw [low b h]at hb;omega
   ·omega) (fun b hb=>hb.2)
 refine⟨bW3,_,_,_,_,_,?_,by rw [hpo];exact isQ⟩
 rw [hpo,hf]
 have e3:(packT t).terms=T:=hT
 have e4:(packT t).nons=N:=hN
 rw [e3,e4]
theorem touch_seven (W:World) (z:Nat) (u v x y q r s:Value):Touch (fun k=>k=z) W (((((((W.setCell ⟨z,0,none⟩ u).setCell ⟨z,1,none⟩ v).setCell ⟨z,2,none⟩ x).setCell ⟨z,3,none⟩ y).setCell ⟨z,4,none⟩ q).setCell ⟨z,5,none⟩ r).setCell ⟨z,6,none⟩ s):=
 ((((((((Touch.refl (fun k=>k=z) W).setCell (p:=⟨z,0,none⟩) (fun _=>rfl) u).setCell (p:=⟨z,1,none⟩) (fun _=>rfl) v).setCell (p:=⟨z,2,none⟩) (fun _=>rfl) x).setCell (p:=⟨z,3,none⟩) (fun _=>rfl) y).setCell (p:=⟨z,4,none⟩) (fun _=>rfl) q).setCell (p:=⟨z,5,none⟩) (fun _=>rfl) r).setCell (p:=⟨z,6,none⟩) (fun _=>rfl) s)
set_option maxRecDepth 100000 in
set_option maxHeartbeats 8000000 in
theorem pack_Pack {w:World} {F:Nat->Prop} {vr va vg:Value} {t:TabD} (h:IsTab w F vr va vg t) (hl:LenT t):
  Calls Tryz.prog 15 #[TV vr t.terms t.nons va vg] w (PackPost w F t):=by
 obtain⟨A1,c1,A2,c2,A3,c3,rfl,rfl,rfl,l1,l2,l3,m1,m2,m3⟩:=h.slices
 have hF:=h.lt
 obtain⟨w1,hw1⟩: ∃w1,w1=w.alloc (.cells #[.slice A1 t.rules.length c1,.int .i64 t.terms,.int .i64 t.nons,.slice A2 t.acts.length c2,.slice A3 t.goto.length c3] 44):=⟨_,rfl⟩
 have g1:=TBox.new h t.terms t.nons
 have b1:Below w.heap.size w w1:=by rw [hw1];exact(Below.refl _ w).alloc (Nat.le_refl _) _
 rw [<-hw1]at g1
 have hz1:w1.heap.size=w.heap.size+1:=by rw [hw1];simp
 obtain⟨wr,hwr⟩: ∃q,q=w1.alloc (.cells #[.slice none 0 0,.int .i64 0,.int .i64 0,.slice none 0 0,.slice none 0 0,.slice none 0 0,.slice none 0 0] 26):=⟨_,rfl⟩
 have br:Below w1.heap.size w1 wr:=by rw [hwr];exact(Below.refl _ _).alloc (Nat.le_refl _) _
 have kr:Blk wr w1.heap.size 26 #[.slice none 0 0,.int .i64 0,.int .i64 0,.slice none 0 0,.slice none 0 0,.slice none 0 0,.slice none 0 0]:=by rw [hwr];exact Blk.new _ _ _
 have gr:=g1.below br
 have b0r:=b1.trans (br.mono b1.size)
 rw [hz1]at kr
 have cR:=acts_Right gr.tab
 obtain⟨q0,q1,q2,q3,q4⟩:=gr.cells
 have tw:=h.wr
 have ttn:=h.tn
 have hzr:wr.heap.size=w.heap.size+2:=by rw [hwr,World.size_alloc,hz1]
 have hmm:= @run_makeMap Tryz.prog
 rw [hw1]at hwr
 have hfit:fitT t=(rightT t&&(decide (t.acts.length<=16383)&&decide (t.rules.length<=16383))):=rfl
 generalize hT:t.terms=T at *
 generalize hN:t.nons=N at *
 generalize hn:t.acts.length=n at *
 generalize hR:t.rules.length=R at *
 generalize hm:t.goto.length=m at *
 generalize rightT t=rt at *
 clear h hw1 g1 b1 br hz1
 rw [hwr]at q0 q1 q2 q3 q4 cR
 obtain⟨Xhl,XhF,Xgr,Xb0r,Xkr,XcR,Xtw,Xttn,Xhzr,XhT,XhN,Xhn,XhR,Xhm⟩:=HqZ14 hl hF gr b0r kr cR tw ttn hzr hT hN hn hR hm;have Xhfit:=hide hfit;clear hl hF gr b0r kr cR tw ttn hzr hT hN hn hR hm hfit
 go_enter Tryz.func15,Tryz.ntmps15
 go_wp2_with fail
 with_reducible refine XcR.out.mono ?_
 rintro e w2 ⟨rfl,b2⟩
 rw [<-hwr]at b2
 have g2:=Xgr.out.below b2
 have k2:=Xkr.out.below b2 Xkr.out.lt
 have b02:=Xb0r.out.trans (b2.mono Xb0r.out.size)
 have hz2:w.heap.size+2<=w2.heap.size:=by have:=b2.size;have:=Xhzr.out;omega
 clear q0 q1 q2 q3 q4 XcR Xgr Xkr Xb0r hwr
 obtain⟨q0,q1,q2,q3,q4⟩:=g2.cells
 obtain⟨d0,d1,d2,d3,d4,d5,d6⟩:w2.cell? ⟨w.heap.size+1,0,none⟩=some (.slice none 0 0)/\w2.cell? ⟨w.heap.size+1,1,none⟩=some (.int .i64 0)/\w2.cell? ⟨w.heap.size+1,2,none⟩=some (.int .i64 0)/\w2.cell? ⟨w.heap.size+1,3,none⟩=some (.slice none 0 0)/\w2.cell? ⟨w.heap.size+1,4,none⟩=some (.slice none 0 0)/\w2.cell? ⟨w.heap.size+1,5,none⟩=some (.slice none 0 0)/\w2.cell? ⟨w.heap.size+1,6,none⟩=some (.slice none 0 0):=⟨(k2.cell 0).trans rfl,(k2.cell 1).trans rfl,(k2.cell 2).trans rfl,(k2.cell 3).trans rfl,(k2.cell 4).trans rfl,(k2.cell 5).trans rfl,(k2.cell 6).trans rfl⟩
 have z0:=k2.frozen 0
 have z1:=k2.frozen 1
 have z2:=k2.frozen 2
 have z3:=k2.frozen 3
 have z4:=k2.frozen 4
 have z5:=k2.frozen 5
 have z6:=k2.frozen 6
 cases hrt:rt with
 |false=>
  subst hrt
  obtain⟨Xg2,Xk2,Xb02,Xb2,Xhz2⟩:=HqZ5 g2 k2 b02 b2 hz2;clear g2 k2 b02 b2 hz2
  go_wp2_with fail
  have hff:=Xhfit.out
  rw [Bool.false_and]at hff
  have hno:fitT t=false:=hff
  have hpo:packO t=noPack:=by unfold packO;rw [if_neg (by rw [hno];exact Bool.false_ne_true)]
  have k5:=((((((Xk2.out.put 0 (.slice none 0 0)).put 1 (.int .i64 0)).put 2 (.int .i64 0)).put 3 (.slice none 0 0)).put 4 (.slice none 0 0)).put 5 (.slice none 0 0)).put 6 (.slice none 0 0)
  have e0:=(k5.cell 0).trans rfl
  have e1:=(k5.cell 1).trans rfl
  have e2:=(k5.cell 2).trans rfl
  have e3:=(k5.cell 3).trans rfl
  have e4:=(k5.cell 4).trans rfl
  have e5:=(k5.cell 5).trans rfl
  have e6:=(k5.cell 6).trans rfl
  refine bodyPost_ret (v:= .tuple #[PV (.slice none 0 0) 0 0 (.slice none 0 0) (.slice none 0 0) (.slice none 0 0) (.slice none 0 0),.bool false]) (by simp [results,Tryz.results15,go_sem,e0,e1,e2,e3,e4,e5,e6]) rfl ?_
  have t5:=touch_seven w2 (w.heap.size+1) (.slice none 0 0) (.int .i64 0) (.int .i64 0) (.slice none 0 0) (.slice none 0 0) (.slice none 0 0) (.slice none 0 0)
  have b5:=t5.toBelow (fun k e=>by omega) Xb02.out Xb02.out.size
  refine⟨b5,_,_,_,_,_,by rw [hpo,hno];rfl,?_⟩
  rw [hpo]
  exact IsPack.none _ _ (fun b hb=>hb.2)
 |true=>
  subst hrt
  by_cases hn1:n<=16383
  ·have hn1': ¬(16383:Int)<(n:Int):=by omega
   by_cases hR1:R<=16383
   ·have hR1': ¬(16383:Int)<(R:Int):=by omega
    have hf:fitT t=true:=by rw [Xhfit.out,decide_eq_true hn1,decide_eq_true hR1];rfl
    obtain⟨wS,hwS,hst,bS,hzS⟩:=PkS.start w2 A1 R c1 T N t
    have hwS':wS=((((w2.alloc (.cells #[.slice A1 R c1,.int .i64 T,.int .i64 N,.slice none 0 0,.slice none 0 0,.slice none 0 0,.slice none 0 0] 26)).alloc (.map #[] 0)).alloc (.cells #[.map (some (w2.heap.size+1)),.slice none 0 0] 104)).alloc (.map #[] 0)).alloc (.cells #[.map (some (w2.heap.size+1+1+1)),.slice none 0 0] 104):=hwS
    have g5:=g2.below bS
    have k5:=k2.below bS k2.lt
    have b05:=b02.trans (bS.mono b02.size)
    obtain⟨P,hP⟩: ∃q,q=w2.heap.size:=⟨_,rfl⟩
    obtain⟨Ba,hBa⟩: ∃q,q=w2.heap.size+1+1:=⟨_,rfl⟩
    obtain⟨Bg,hBg⟩: ∃q,q=w2.heap.size+1+1+1+1:=⟨_,rfl⟩
    have hst5:PkS wS (ow5 P) wS (ow5 P) P Ba (w2.heap.size+1) Bg (w2.heap.size+3) A1 R c1 T N none 0 none 0 none 0 0 none 0 0 0 0 t:=by rw [hP,hBa,hBg];exact hst
    obtain⟨Ma,hMa⟩: ∃q,q=w2.heap.size+1:=⟨_,rfl⟩
    obtain⟨Mg,hMg⟩: ∃q,q=w2.heap.size+3:=⟨_,rfl⟩
    rw [<-hMa,<-hMg]at hst5
    have hFow0: ∀b,F b->ow5 P b=0:=fun b hb=>ow5_low (by have:=XhF.out b hb;omega)
    have hBow0:ow5 P w.heap.size=0:=ow5_low (by omega)
    have hRow0:ow5 P (w.heap.size+1)=0:=ow5_low (by omega)
    have hPz:w.heap.size+2<=P:=by omega
    have hSz:wS.heap.size=P+5:=by rw [hzS,hP]
    obtain⟨hmn,ht0,hN0⟩:=right_len (fit_parts hf).1
    rw [Xhn.out,Xhm.out]at hmn
    subst hmn
    clear hwS hst bS hzS hMa hMg d0 d1 d2 d3 d4 d5 d6 z0 z1 z2 z3 z4 z5 z6 ht0 hN0
    obtain⟨r0,r1,r2,r3,r4⟩:=g5.cells
    rw [hwS']at r0 r1 r2 r3 r4
    obtain⟨Xg2,Xk2,Xb02,Xb2,Xhz2,Xhf,Xg5,Xk5,Xb05,Xhst5,XhFow0,XhBow0,XhRow0,XhPz⟩:=HqZ14 g2 k2 b02 b2 hz2 hf g5 k5 b05 hst5 hFow0 hBow0 hRow0 hPz;have XhSz:=hide hSz;clear g2 k2 b02 b2 hz2 hf g5 k5 b05 hst5 hFow0 hBow0 hRow0 hPz hSz
    go_wp2_with fail
    rw [<-hwS',<-hBg,<-hBa,<-hP]
    have hFow0:=XhFow0.out
    have hBow0:=XhBow0.out
    have hFow: ∀{W:World} (ow:Nat->Nat) (b:Nat),F b->StL (fun k=>k≠0) wS (ow5 P) W ow->ow b=0:=fun ow b hb st=>(st.eq b (by have:=XhF.out b hb;have:=XhPz.out;have:=XhSz.out;omega)).trans (hFow0 b hb)
    have hBow: ∀{W:World} (ow:Nat->Nat),StL (fun k=>k≠0) wS (ow5 P) W ow->ow w.heap.size=0:=fun ow st=>(st.eq _ (by have:=XhPz.out;have:=XhSz.out;omega)).trans hBow0
    clear r0 r1 r2 r3 r4 q0 q1 q2 q3 q4 hwS' hBg hBa hP XhFow0 XhBow0 Xg2 Xk2 Xb02 Xb2
    obtain⟨XhFow0,XhBow0⟩:=HqZ2 hFow0 hBow0
    have hFow':Hid (∀{W:World} (ow:Nat->Nat) (b:Nat),F b->StL (fun k=>k≠0) wS (ow5 P) W ow->ow b=0):=hide hFow
    have hBow':Hid (∀{W:World} (ow:Nat->Nat),StL (fun k=>k≠0) wS (ow5 P) W ow->ow w.heap.size=0):=hide hBow
    clear hFow hBow hFow0 hBow0
    go_loopw [40] (fun iv wr=> ∃(i:Nat) (ow:Nat->Nat) (Ar:Option Addr) (cr:Nat) (Ao:Option Addr) (co:Nat) (Aa:Option Addr) (na ca:Nat) (Ag:Option Addr) (ng cg:Nat),i<=n/\iv= .int .i64 (i:Int)/\PkS wS (ow5 P) wr ow P Ba Ma Bg Mg A1 R c1 T N Ar cr Ao co Aa na ca Ag ng cg i i t) (fun iv _=>n - (intOf iv).toNat)
    case atStart=>exact⟨0,ow5 P,none,0,none,0,none,0,0,none,0,0,Nat.zero_le _,rfl,Xhst5.out⟩
    case round=>
     clear Xhst5
     obtain⟨i,ow,Ar,cr,Ao,co,Aa,na,ca,Ag,ng,cg,hi,rfl,hS⟩:=hrel
     have hFow0:=XhFow0.out
     have hBow0:=XhBow0.out
     have gW:=Xg5.out.touch hS.st.t (fun b hb e=>e (hFow0 b hb)) (fun e=>e hBow0)
     clear hFow0 hBow0
     by_cases hlt:i<n
     ·have hlt':(i:Int)<(n:Int):=by omega
      obtain⟨x,hx⟩: ∃x,t.acts[i]? =some x:=⟨_,List.getElem?_eq_getElem (by rw [Xhn.out];exact hlt)⟩
      obtain⟨y,hy⟩: ∃y,t.goto[i]? =some y:=⟨_,List.getElem?_eq_getElem (by rw [Xhm.out];exact hlt)⟩
      have hlx0:=Xhl.out.1 x (List.mem_of_getElem? hx)
      have hly0:=Xhl.out.2 y (List.mem_of_getElem? hy)
      have hrowx:(numsA t)[i]? =some (x.map codeA):=by unfold numsA;rw [List.getElem?_map,hx];rfl
      have hrowy:(numsG t)[i]? =some (y.map fun z=>z+1):=by unfold numsG;rw [List.getElem?_map,hy];rfl
      obtain⟨XhS,XgW,Xhx,Xhy,Xhlx0,Xhly0,Xhrowx,Xhrowy⟩:=HqZ8 hS gW hx hy hlx0 hly0 hrowx hrowy;clear hS gW hx hy hlx0 hly0 hrowx hrowy
      go_wp2_with fail
      have s0A:StL (fun _=>False) wr ow wr.drew ow:=⟨Touch.of_size ((Below.refl _ wr).drew) _,fun _ _=>rfl⟩
      have h0A:=XhS.out.step s0A
      have g0A:=XgW.out.touch (S:=fun _=>False) s0A.t (fun _ _ e=>e) id
      have c0A:=pack_numbers0 g0A.tab Xhf.out Xhx.out Xhlx0.out
      rw [XhT.out,XhN.out]at c0A
      obtain⟨q0,q1,q2,q3,q4⟩:=g0A.cells
      have q5:=(h0A.kP.cell 3).trans rfl
      obtain⟨Xh0A,Xg0A,Xc0A⟩:=HqZ3 h0A g0A c0A;clear h0A g0A c0A
      go_wp2_with fail
      refine region_late (fun W=>W.cell? ⟨P,3,none⟩=some (.slice Ar i cr)/\W.cell? ⟨w.heap.size,0,none⟩=some (.slice A1 R c1)/\W.cell? ⟨w.heap.size,1,none⟩=some (.int .i64 T)/\W.cell? ⟨w.heap.size,2,none⟩=some (.int .i64 N)/\W.cell? ⟨w.heap.size,3,none⟩=some (.slice A2 n c2)/\W.cell? ⟨w.heap.size,4,none⟩=some (.slice A3 n c3)) 5 8 (by kernel_rfl) (by kernel_rfl) ⟨q5,q0,q1,q2,q3,q4⟩ ?_
      simp only [List.take_succ_cons,List.take_zero,List.drop_succ_cons,List.drop_zero]
      iterate 5
       refine wpHeld_cons ?_ (by rfl) (fun wS hwS=> ?_) ?_
       rotate_left
       ·(try dsimp only at hwS)
        go_simp
        all_goals with_reducible rfl
       simp only [Act.put,List.setIfInBounds_toArray,List.set_cons_zero,List.set_cons_succ]
      refine wpHeld_nil ?_
      refine wpMid_cons ?_
      go_wp2_with fail
      with_reducible refine Xc0A.out.mono ?_
      rintro e w6 ⟨b6,Av,cv,rfl,rv⟩
      obtain⟨ow6,how6⟩: ∃q,q=ext wr.drew ow 5:=⟨_,rfl⟩
      have s6:StL (fun _=>False) wr.drew ow w6 ow6:=by rw [how6];exact StL.new _ b6 _ _
      have h6:=Xh0A.out.step s6
      have g6:=Xg0A.out.below b6
      have rv6:RdU w6 (TF w6 ow6 (fun k=>k=5)) (.slice Av (x.map codeA).length cv) (x.map codeA):=Rd.mono rv fun b hb=>⟨hb.2,by rw [how6];exact ext_new hb.1⟩
      have hR6:na<=100000:=by
       have h1:=h6.ra.hn
       have h2:=(packU_ok ((numsA t).take i)).le
       rw [List.length_take]at h2
       omega
      have hu6:U16 (x.map codeA):=nums_u16A Xhf.out _ (List.mem_of_getElem? Xhrowx.out)
      have hl6:(x.map codeA).length<=70000:=by rw [List.length_map];exact Xhlx0.out
      have cput:=pack_put h6.ra (by decide) rv6 hu6 hl6 hR6
      obtain⟨y0,y1,y2,y3,y4⟩:=g6.cells
      have y5:=(h6.kP.cell 3).trans rfl
      obtain⟨pl,hpl⟩: ∃q,q=plR (packU ((numsA t).take i)).1 (x.map codeA):=⟨_,rfl⟩
      obtain⟨lx,hlx⟩: ∃q,q=(x.map codeA).length:=⟨_,rfl⟩
      rw [<-hlx]at cput⊢
      unfold PuPost at cput
      rw [<-hpl]at cput
      clear q0 q1 q2 q3 q4 q5 Xc0A Xh0A Xg0A b6 rv rv6 how6 hR6 hu6 hl6
      obtain⟨Xh6,Xg6,Xcput,Xhpl,Xhlx,Xs6⟩:=HqZ6 h6 g6 cput hpl hlx s6;clear h6 g6 cput hpl hlx s6
      go_wp2_with fail
      refine⟨⟨y5,y0,y1,y2,y3,y4⟩,wpMid_cons ?_⟩
      go_wp2_with fail
      with_reducible refine Xcput.out.mono ?_
      rintro e w7 ⟨rfl,ow7,Aa',na',ca',s7,ra7⟩
      have g7:=Xg6.out.touch s7.t (fun b hb e=>by
       have h0:=hFow'.out _ b hb (Xh6.out.st)
       omega) (by
       have h0:=hBow'.out _ (Xh6.out.st)
       omega)
      have kP7:=Xh6.out.kP.touch s7.t (by rw [Xh6.out.oP];omega)
      obtain⟨x0,x1,x2,x3,x4⟩:=g7.cells
      have x5:=(kP7.cell 3).trans rfl
      obtain⟨w8,hw8⟩: ∃q,q=w7.alloc (.cells #[.int .i64 (pl:Int)] 3):=⟨_,rfl⟩
      have b8:Below w7.heap.size w7 w8:=by rw [hw8];exact(Below.refl _ _).alloc (Nat.le_refl _) _
      obtain⟨ow8,how8⟩: ∃q,q=ext w7 ow7 12:=⟨_,rfl⟩
      have s8:StL (fun _=>False) w7 ow7 w8 ow8:=by rw [how8];exact StL.new _ b8 _ _
      have rr8:=(Xh6.out.rr.step s7 (by omega)).step s8 id
      have own8:=rr8.own
      have hone:Rd w8 (fun b=>b=w7.heap.size) (.slice (some ⟨w7.heap.size,0,none⟩) 1 1) 1 [.int .i64 (pl:Int)]:=by rw [hw8];exact Rd.one' (w:=w7) (e:=3) [.int .i64 (pl:Int)] 1 rfl
      have g8:=g7.below b8
      obtain⟨z0,z1,z2,z3,z4⟩:=g8.cells
      have kP8:=kP7.below b8 kP7.lt
      have z5:=(kP8.cell 3).trans rfl
      obtain⟨us,hus⟩: ∃q,q=(packU ((numsA t).take i)).2.map (Value.int .i64):=⟨_,rfl⟩
      rw [<-hus]at own8
      rw [hw8]at own8 hone z0 z1 z2 z3 z4 z5
      clear y0 y1 y2 y3 y4 y5 Xcput g8 kP8 rr8 how8 kP7 Xg6
      obtain⟨Xown8,Xhone,Xb8,Xs8,Xs7,Xra7,Xg7,Xhus⟩:=HqZ8 own8 hone b8 s8 s7 ra7 g7 hus;clear own8 hone b8 s8 s7 ra7 g7 hus
      go_wp2_with fail
      refine⟨⟨x5,x0,x1,x2,x3,x4⟩,wpMid_cons ?_⟩
      go_wp2_with fail
      refine⟨⟨z5,z0,z1,z2,z3,z4⟩,wpMid_nil ?_⟩
      go_wp2_with (at_builtin;refine wp_append _ rfl (.tmp 44) (.tmp 50) _ rfl Tryz.elemInt 0 (.slice Ar i cr) i _ rfl Xown8.out _ _ [.int .i64 (pl:Int)] 1 rfl rfl Xhone.out (by simp [Value.oneCell']) (by unfold maxLen;omega) (by omega) (Nat.zero_le _) ?_)
      intro A9A c9A w9A own9 g9 hb9
      rw [<-hw8]at g9
      rw [show w7.heap.size+1=w8.heap.size by rw [hw8];simp]at hb9
      rw [Xhus.out,Xhpl.out]at own9
      obtain⟨ow9A,h9A,kP9A⟩:=Xh6.out.pushA Xhrowx.out Xs7.out Xra7.out Xs8.out own9 g9 hb9
      have p9:=(kP9A.cell 3).trans rfl
      have f9:=kP9A.frozen 3
      have gTA:TBox (w9A.setCell ⟨P,3,none⟩ (.slice A9A (i+1) c9A)) F w.heap.size A1 c1 A2 c2 A3 c3 R n n T N t:=Xg5.out.touch h9A.st.t (fun b hb e=>e (XhFow0.out b hb)) (fun e=>e XhBow0.out)
      clear own9 g9 hb9 kP9A hw8 Xown8 Xhone Xb8 Xs8 Xs7 Xra7 Xg7 Xhus Xhpl Xhlx Xh6 Xs6 z0 z1 z2 z3 z4 z5 x0 x1 x2 x3 x4 x5
      obtain⟨Xh9A,XgTA⟩:=HqZ2 h9A gTA;clear h9A gTA
      go_wp2_with fail
      refine NoPanic.normal ?_
      go_wp2_with fail
      have s0G:StL (fun _=>False) (w9A.setCell ⟨P,3,none⟩ (.slice A9A (i+1) c9A)) ow9A (w9A.setCell ⟨P,3,none⟩ (.slice A9A (i+1) c9A)).drew ow9A:=⟨Touch.of_size ((Below.refl _ (w9A.setCell ⟨P,3,none⟩ (.slice A9A (i+1) c9A))).drew) _,fun _ _=>rfl⟩
      have h0G:=Xh9A.out.step s0G
      have g0G:=XgTA.out.touch (S:=fun _=>False) s0G.t (fun _ _ e=>e) id
      have c0G:=pack_numbers1 g0G.tab Xhf.out Xhy.out Xhly0.out
      rw [XhT.out,XhN.out]at c0G
      obtain⟨q0,q1,q2,q3,q4⟩:=g0G.cells
      have q5:=(h0G.kP.cell 5).trans rfl
      obtain⟨Xh0G,Xg0G,Xc0G⟩:=HqZ3 h0G g0G c0G;clear h0G g0G c0G
      go_wp2_with fail
      refine region_late (fun W=>W.cell? ⟨P,5,none⟩=some (.slice Ao i co)/\W.cell? ⟨w.heap.size,0,none⟩=some (.slice A1 R c1)/\W.cell? ⟨w.heap.size,1,none⟩=some (.int .i64 T)/\W.cell? ⟨w.heap.size,2,none⟩=some (.int .i64 N)/\W.cell? ⟨w.heap.size,3,none⟩=some (.slice A2 n c2)/\W.cell? ⟨w.heap.size,4,none⟩=some (.slice A3 n c3)) 5 8 (by kernel_rfl) (by kernel_rfl) ⟨q5,q0,q1,q2,q3,q4⟩ ?_
      simp only [List.take_succ_cons,List.take_zero,List.drop_succ_cons,List.drop_zero]
      iterate 5
       refine wpHeld_cons ?_ (by rfl) (fun wS hwS=> ?_) ?_
       rotate_left
       ·(try dsimp only at hwS)
        go_simp
        all_goals with_reducible rfl
       simp only [Act.put,List.setIfInBounds_toArray,List.set_cons_zero,List.set_cons_succ]
      refine wpHeld_nil ?_
      refine wpMid_cons ?_
      go_wp2_with fail
      with_reducible refine Xc0G.out.mono ?_
      rintro e w6 ⟨b6,Av,cv,rfl,rv⟩
      obtain⟨ow6,how6⟩: ∃q,q=ext (w9A.setCell ⟨P,3,none⟩ (.slice A9A (i+1) c9A)).drew ow9A 9:=⟨_,rfl⟩
      have s6:StL (fun _=>False) (w9A.setCell ⟨P,3,none⟩ (.slice A9A (i+1) c9A)).drew ow9A w6 ow6:=by rw [how6];exact StL.new _ b6 _ _
      have h6:=Xh0G.out.step s6
      have g6:=Xg0G.out.below b6
      have rv6:RdU w6 (TF w6 ow6 (fun k=>k=9)) (.slice Av (y.map fun z=>z+1).length cv) (y.map fun z=>z+1):=Rd.mono rv fun b hb=>⟨hb.2,by rw [how6];exact ext_new hb.1⟩
      have hR6:ng<=100000:=by
       have h1:=h6.rg.hn
       have h2:=(packU_ok ((numsG t).take i)).le
       rw [List.length_take]at h2
       omega
      have hu6:U16 (y.map fun z=>z+1):=nums_u16G Xhf.out _ (List.mem_of_getElem? Xhrowy.out)
      have hl6:(y.map fun z=>z+1).length<=70000:=by rw [List.length_map];exact Xhly0.out
      have cput:=pack_put h6.rg (by decide) rv6 hu6 hl6 hR6
      obtain⟨y0,y1,y2,y3,y4⟩:=g6.cells
      have y5:=(h6.kP.cell 5).trans rfl
      obtain⟨pl,hpl⟩: ∃q,q=plR (packU ((numsG t).take i)).1 (y.map fun z=>z+1):=⟨_,rfl⟩
      obtain⟨lx,hlx⟩: ∃q,q=(y.map fun z=>z+1).length:=⟨_,rfl⟩
      rw [<-hlx]at cput⊢
      unfold PuPost at cput
      rw [<-hpl]at cput
      clear q0 q1 q2 q3 q4 q5 Xc0G Xh0G Xg0G b6 rv rv6 how6 hR6 hu6 hl6
      obtain⟨Xh6,Xg6,Xcput,Xhpl,Xhlx,Xs6⟩:=HqZ6 h6 g6 cput hpl hlx s6;clear h6 g6 cput hpl hlx s6
      go_wp2_with fail
      refine⟨⟨y5,y0,y1,y2,y3,y4⟩,wpMid_cons ?_⟩
      go_wp2_with fail
      with_reducible refine Xcput.out.mono ?_
      rintro e w7 ⟨rfl,ow7,Ag',ng',cg',s7,ra7⟩
      have g7:=Xg6.out.touch s7.t (fun b hb e=>by
       have h0:=hFow'.out _ b hb (Xh6.out.st)
       omega) (by
       have h0:=hBow'.out _ (Xh6.out.st)
       omega)
      have kP7:=Xh6.out.kP.touch s7.t (by rw [Xh6.out.oP];omega)
      obtain⟨x0,x1,x2,x3,x4⟩:=g7.cells
      have x5:=(kP7.cell 5).trans rfl
      obtain⟨w8,hw8⟩: ∃q,q=w7.alloc (.cells #[.int .i64 (pl:Int)] 3):=⟨_,rfl⟩
      have b8:Below w7.heap.size w7 w8:=by rw [hw8];exact(Below.refl _ _).alloc (Nat.le_refl _) _
      obtain⟨ow8,how8⟩: ∃q,q=ext w7 ow7 12:=⟨_,rfl⟩
      have s8:StL (fun _=>False) w7 ow7 w8 ow8:=by rw [how8];exact StL.new _ b8 _ _
      have rr8:=(Xh6.out.ro.step s7 (by omega)).step s8 id
      have own8:=rr8.own
      have hone:Rd w8 (fun b=>b=w7.heap.size) (.slice (some ⟨w7.heap.size,0,none⟩) 1 1) 1 [.int .i64 (pl:Int)]:=by rw [hw8];exact Rd.one' (w:=w7) (e:=3) [.int .i64 (pl:Int)] 1 rfl
      have g8:=g7.below b8
      obtain⟨z0,z1,z2,z3,z4⟩:=g8.cells
      have kP8:=kP7.below b8 kP7.lt
      have z5:=(kP8.cell 5).trans rfl
      obtain⟨us,hus⟩: ∃q,q=(packU ((numsG t).take i)).2.map (Value.int .i64):=⟨_,rfl⟩
      rw [<-hus]at own8
      rw [hw8]at own8 hone z0 z1 z2 z3 z4 z5
      clear y0 y1 y2 y3 y4 y5 Xcput g8 kP8 rr8 how8 kP7 Xg6
      obtain⟨Xown8,Xhone,Xb8,Xs8,Xs7,Xra7,Xg7,Xhus⟩:=HqZ8 own8 hone b8 s8 s7 ra7 g7 hus;clear own8 hone b8 s8 s7 ra7 g7 hus
      go_wp2_with fail
      refine⟨⟨x5,x0,x1,x2,x3,x4⟩,wpMid_cons ?_⟩
      go_wp2_with fail
      refine⟨⟨z5,z0,z1,z2,z3,z4⟩,wpMid_nil ?_⟩
      go_wp2_with (at_builtin;refine wp_append _ rfl (.tmp 54) (.tmp 60) _ rfl Tryz.elemInt 0 (.slice Ao i co) i _ rfl Xown8.out _ _ [.int .i64 (pl:Int)] 1 rfl rfl Xhone.out (by simp [Value.oneCell']) (by unfold maxLen;omega) (by omega) (Nat.zero_le _) ?_)
      intro A9G c9G w9G own9 g9 hb9
      rw [<-hw8]at g9
      rw [show w7.heap.size+1=w8.heap.size by rw [hw8];simp]at hb9
      rw [Xhus.out,Xhpl.out]at own9
      obtain⟨ow9G,h9G,kP9G⟩:=Xh6.out.pushG Xhrowy.out Xs7.out Xra7.out Xs8.out own9 g9 hb9
      have p9:=(kP9G.cell 5).trans rfl
      have f9:=kP9G.frozen 5
      have gTG:TBox (w9G.setCell ⟨P,5,none⟩ (.slice A9G (i+1) c9G)) F w.heap.size A1 c1 A2 c2 A3 c3 R n n T N t:=Xg5.out.touch h9G.st.t (fun b hb e=>e (XhFow0.out b hb)) (fun e=>e XhBow0.out)
      clear own9 g9 hb9 kP9G hw8 Xown8 Xhone Xb8 Xs8 Xs7 Xra7 Xg7 Xhus Xhpl Xhlx Xh6 Xs6 z0 z1 z2 z3 z4 z5 x0 x1 x2 x3 x4 x5
      obtain⟨Xh9G,XgTG⟩:=HqZ2 h9G gTG;clear h9G gTG
      go_wp2_with fail
      refine NoPanic.normal ?_
      go_wp2_with fail
      go_roundw
      case rel=>exact⟨i+1,ow9G,A9A,c9A,A9G,c9G,Aa',na',ca',Ag',ng',cg',by omega,by go_num,Xh9G.out⟩
      case measure=>simp [intOf];omega
     ·have hlt': ¬(i:Int)<(n:Int):=by omega
      obtain rfl:n=i:=by omega
      have hRow:=(hS.st.eq (w.heap.size+1) (by have:=XhPz.out;have:=XhSz.out;omega)).trans XhRow0.out
      have kr:=Xk5.out.touch hS.st.t (fun e=>e XhRow0.out)
      have kPd:=hS.kP
      have krd:=kr
      have a1:=(hS.ra.blk.cell 1).trans rfl
      have a2:=(hS.rg.blk.cell 1).trans rfl
      have p4:=(hS.kP.cell 4).trans rfl
      have p6:=(hS.kP.cell 6).trans rfl
      have f4:=hS.kP.frozen 4
      have f6:=hS.kP.frozen 6
      obtain⟨W2,hW2⟩: ∃q,q=(wr.setCell ⟨P,4,none⟩ (.slice Aa na ca)).setCell ⟨P,6,none⟩ (.slice Ag ng cg):=⟨_,rfl⟩
      have tW:Touch (fun k=>k=P) wr W2:=by rw [hW2];exact((Touch.refl (fun k=>k=P) wr).setCell (p:=⟨P,4,none⟩) (fun _=>rfl) _).setCell (p:=⟨P,6,none⟩) (fun _=>rfl) _
      have kP2:Blk W2 P 26 #[.slice A1 R c1,.int .i64 T,.int .i64 N,.slice Ar n cr,.slice Aa na ca,.slice Ao n co,.slice Ag ng cg]:=by rw [hW2];exact(kPd.put 4 (.slice Aa na ca)).put 6 (.slice Ag ng cg)
      have kr2:=krd.touch tW (by have:=XhPz.out;omega)
      have c0:=(kP2.cell 0).trans rfl
      have c1':=(kP2.cell 1).trans rfl
      have c2':=(kP2.cell 2).trans rfl
      have c3':=(kP2.cell 3).trans rfl
      have c4':=(kP2.cell 4).trans rfl
      have c5':=(kP2.cell 5).trans rfl
      have c6':=(kP2.cell 6).trans rfl
      have d0:=(kr2.cell 0).trans rfl
      have d1:=(kr2.cell 1).trans rfl
      have d2:=(kr2.cell 2).trans rfl
      have d3:=(kr2.cell 3).trans rfl
      have d4:=(kr2.cell 4).trans rfl
      have d5:=(kr2.cell 5).trans rfl
      have d6:=(kr2.cell 6).trans rfl
      have z0:=kr2.frozen 0
      have z1:=kr2.frozen 1
      have z2:=kr2.frozen 2
      have z3:=kr2.frozen 3
      have z4:=kr2.frozen 4
      have z5:=kr2.frozen 5
      have z6:=kr2.frozen 6
      rw [hW2]at c0 c1' c2' c3' c4' c5' c6' d0 d1 d2 d3 d4 d5 d6 z0 z1 z2 z3 z4 z5 z6
      have aS: ∀W,Touch (fun k=>k=P) wr W->W.drew.cell? ⟨Ba,1,none⟩=some (.slice Aa na ca)/\W.drew.cell? ⟨Bg,1,none⟩=some (.slice Ag ng cg):=fun W tt=>⟨tt.cell (p:=⟨Ba,1,none⟩) (hS.ra.blk.cell 1) (fun e=>by have h1:=hS.ra.oB;have h2:=hS.oP;rw [show Ba=P from e]at h1;omega),tt.cell (p:=⟨Bg,1,none⟩) (hS.rg.blk.cell 1) (fun e=>by have h1:=hS.rg.oB;have h2:=hS.oP;rw [show Bg=P from e]at h1;omega)⟩
      have tV:Touch (fun k=>k=P) wr (wr.setCell ⟨P,4,none⟩ (.slice Aa na ca)):=(Touch.refl (fun k=>k=P) wr).setCell (p:=⟨P,4,none⟩) (fun _=>rfl) _
      have tU:Touch (fun k=>k=P) wr ((wr.setCell ⟨P,4,none⟩ (.slice Aa na ca)).setCell ⟨P,6,none⟩ (.slice Ag ng cg)):=by rw [<-hW2];exact tW
      clear kPd krd kr
      obtain⟨XhS,XgW,XhRow,XtW,XkP2,Xkr2,XaS,XtV,XtU⟩:=HqZ9 hS gW hRow tW kP2 kr2 aS tV tU;clear hS gW hRow tW kP2 kr2 aS tV tU
      go_wp2_with fail
      refine wp_region_held_drew (S:=(fun W:World=>W.cell? ⟨Ba,1,none⟩=some (.slice Aa na ca)/\W.cell? ⟨Bg,1,none⟩=some (.slice Ag ng cg))) (by kernel_rfl) ?_ (fun hHeld=> ?_)
      ·exact XaS.out _ (Touch.refl _ _)
      refine tZ 0 ?_;try simp only [Act.put,sT,s0,s1]
      refine tZ 1 ?_;try simp only [Act.put,sT,s0,s1]
      refine tZ 2 ?_;try simp only [Act.put,sT,s0,s1]
      refine tZ 3 ?_;try simp only [Act.put,sT,s0,s1]
      refine tZ 4 ?_;try simp only [Act.put,sT,s0,s1]
      refine tZ 5 ?_;try simp only [Act.put,sT,s0,s1]
      refine tZ 6 ?_;try simp only [Act.put,sT,s0,s1]
      refine tZ 7 ?_;try simp only [Act.put,sT,s0,s1]
      refine tZ 8 ?_;try simp only [Act.put,sT,s0,s1]
      refine wpAnyH_ready (rs:=[9]) (by kernel_rfl) (by simp) ?_
      refine AllReadyH.cons (o:= ?_) ?_ (fun K hK=> ?_) AllReadyH.nil;rotate_left 1;(focus((try simp only [gT,gs,gz]);try rfl))
      go_simp
      refine hK.out _ _ ?_ (fun hHeld=> ?_)
      ·exact XaS.out _ XtV.out
      clear hK K
      try simp only [Act.put,sT,s0,s1]
      refine tZ 10 ?_;try simp only [Act.put,sT,s0,s1]
      refine wpAnyH_ready (rs:=[11]) (by kernel_rfl) (by simp) ?_
      refine AllReadyH.cons (o:= ?_) ?_ (fun K hK=> ?_) AllReadyH.nil;rotate_left 1;(focus((try simp only [gT,gs,gz]);try rfl))
      go_simp
      refine hK.out _ _ ?_ (fun hHeld=> ?_)
      ·exact XaS.out _ XtU.out
      clear hK K
      try simp only [Act.put,sT,s0,s1]
      refine wpAnyH_done (by kernel_rfl) ?_ _
      go_wp2_with fail
      rw [<-hW2]
      have hS:=XhS.out
      have k9:=((((((Xkr2.out.put 0 (.slice A1 R c1)).put 1 (.int .i64 T)).put 2 (.int .i64 N)).put 3 (.slice Ar n cr)).put 4 (.slice Aa na ca)).put 5 (.slice Ao n co)).put 6 (.slice Ag ng cg)
      have e0:=(k9.cell 0).trans rfl
      have e1:=(k9.cell 1).trans rfl
      have e2:=(k9.cell 2).trans rfl
      have e3:=(k9.cell 3).trans rfl
      have e4:=(k9.cell 4).trans rfl
      have e5:=(k9.cell 5).trans rfl
      have e6:=(k9.cell 6).trans rfl
      have t9:=touch_seven W2 (w.heap.size+1) (.slice A1 R c1) (.int .i64 T) (.int .i64 N) (.slice Ar n cr) (.slice Aa na ca) (.slice Ao n co) (.slice Ag ng cg)
      refine bodyPost_ret (v:= .tuple #[PV (.slice A1 R c1) T N (.slice Ar n cr) (.slice Aa na ca) (.slice Ao n co) (.slice Ag ng cg),.bool true]) (by simp [results,Tryz.results15,go_sem,e0,e1,e2,e3,e4,e5,e6]) rfl ?_
      exact PackPost.fin Xhf.out XhF.out XhT.out XhN.out Xhn.out Xhm.out XhR.out XhPz.out XhSz.out XhRow.out Xb05.out hS XgW.out.tab XtW.out (t9.trans' (Touch.of_size ((Below.refl _ _).drew) _))
   ·have hR1':(16383:Int)<(R:Int):=by omega
    obtain⟨Xg2,Xk2,Xb02,Xb2,Xhz2⟩:=HqZ5 g2 k2 b02 b2 hz2;clear g2 k2 b02 b2 hz2
    go_wp2_with fail
    have hff:=Xhfit.out
    rw [decide_eq_false hR1,Bool.and_false,Bool.and_false]at hff
    have hno:fitT t=false:=hff
    have hpo:packO t=noPack:=by unfold packO;rw [if_neg (by rw [hno];exact Bool.false_ne_true)]
    have k5:=((((((Xk2.out.put 0 (.slice none 0 0)).put 1 (.int .i64 0)).put 2 (.int .i64 0)).put 3 (.slice none 0 0)).put 4 (.slice none 0 0)).put 5 (.slice none 0 0)).put 6 (.slice none 0 0)
    have e0:=(k5.cell 0).trans rfl
    have e1:=(k5.cell 1).trans rfl
    have e2:=(k5.cell 2).trans rfl
    have e3:=(k5.cell 3).trans rfl
    have e4:=(k5.cell 4).trans rfl
    have e5:=(k5.cell 5).trans rfl
    have e6:=(k5.cell 6).trans rfl
    refine bodyPost_ret (v:= .tuple #[PV (.slice none 0 0) 0 0 (.slice none 0 0) (.slice none 0 0) (.slice none 0 0) (.slice none 0 0),.bool false]) (by simp [results,Tryz.results15,go_sem,e0,e1,e2,e3,e4,e5,e6]) rfl ?_
    have t5:=touch_seven w2 (w.heap.size+1) (.slice none 0 0) (.int .i64 0) (.int .i64 0) (.slice none 0 0) (.slice none 0 0) (.slice none 0 0) (.slice none 0 0)
    have b5:=t5.toBelow (fun k e=>by omega) Xb02.out Xb02.out.size
    refine⟨b5,_,_,_,_,_,by rw [hpo,hno];rfl,?_⟩
    rw [hpo]
    exact IsPack.none _ _ (fun b hb=>hb.2)
  ·have hn1':(16383:Int)<(n:Int):=by omega
   obtain⟨Xg2,Xk2,Xb02,Xb2,Xhz2⟩:=HqZ5 g2 k2 b02 b2 hz2;clear g2 k2 b02 b2 hz2
   go_wp2_with fail
   have hff:=Xhfit.out
   rw [decide_eq_false hn1,Bool.false_and,Bool.and_false]at hff
   have hno:fitT t=false:=hff
   have hpo:packO t=noPack:=by unfold packO;rw [if_neg (by rw [hno];exact Bool.false_ne_true)]
   have k5:=((((((Xk2.out.put 0 (.slice none 0 0)).put 1 (.int .i64 0)).put 2 (.int .i64 0)).put 3 (.slice none 0 0)).put 4 (.slice none 0 0)).put 5 (.slice none 0 0)).put 6 (.slice none 0 0)
   have e0:=(k5.cell 0).trans rfl
   have e1:=(k5.cell 1).trans rfl
   have e2:=(k5.cell 2).trans rfl
   have e3:=(k5.cell 3).trans rfl
   have e4:=(k5.cell 4).trans rfl
   have e5:=(k5.cell 5).trans rfl
   have e6:=(k5.cell 6).trans rfl
   refine bodyPost_ret (v:= .tuple #[PV (.slice none 0 0) 0 0 (.slice none 0 0) (.slice none 0 0) (.slice none 0 0) (.slice none 0 0),.bool false]) (by simp [results,Tryz.results15,go_sem,e0,e1,e2,e3,e4,e5,e6]) rfl ?_
   have t5:=touch_seven w2 (w.heap.size+1) (.slice none 0 0) (.int .i64 0) (.int .i64 0) (.slice none 0 0) (.slice none 0 0) (.slice none 0 0) (.slice none 0 0)
   have b5:=t5.toBelow (fun k e=>by omega) Xb02.out Xb02.out.size
   refine⟨b5,_,_,_,_,_,by rw [hpo,hno];rfl,?_⟩
   rw [hpo]
   exact IsPack.none _ _ (fun b hb=>hb.2)
end Go.Proofs.YtlpipniclimgeaaGreat
namespace Go.Proofs.YtlpipniclimgeaaGreat
set_option linter.unusedVariables false
set_option linter.unusedSimpArgs false
open Go.RowKit
attribute [local irreducible] wpStill wpOne wpPh
theorem ref17_same {w:World} {F G:Nat->Prop} {v u:Value} {xs ys:List Int} (h:RdU w F v xs) (g:RdU w G u ys):
  Calls Tryz.prog 34 #[v,u] w (Quiet w (.bool (decide (xs=ys)))):=by
 obtain⟨A,n,c,rfl,_⟩:=id h
 obtain⟨B,m,d,rfl,_⟩:=id g
 obtain⟨hn,hnc,hcm,hcell⟩:=RdU.at_ h
 obtain⟨hm,hmd,hdm,hcell'⟩:=RdU.at_ g
 unfold maxLen at hcm hdm
 by_cases hnm:n=m
 ·subst hnm
  have HN:=hide hn
  have HM:=hide hm
  clear hn hm
  go_enter Tryz.func34,Tryz.ntmps34
  go_wp2
  go_loopw [5] (fun i wr=> ∃k q:Nat,k<=n/\i= .int .i64 k/\wr=w.drewN q/\ ∀j:Nat,j<k->xs[j]? =ys[j]?) (fun i _=>n - (intOf i).toNat)
  case atStart=>exact⟨0,0,Nat.zero_le _,rfl,rfl,fun j hj=>absurd hj (by omega)⟩
  case round=>
   obtain⟨k,q,hk,rfl,rfl,hbefore⟩:=hrel
   have HB:=hide hbefore
   clear hbefore
   by_cases hlt:k<n
   ·obtain⟨b,off,rfl,_,hc⟩:=hcell (by omega)
    obtain⟨b',off',rfl,_,hc'⟩:=hcell' (by omega)
    obtain⟨x,hx⟩: ∃x,xs[k]? =some x:=⟨_,List.getElem?_eq_getElem (by rw [<-HN.out];omega)⟩
    obtain⟨y,hy⟩: ∃y,ys[k]? =some y:=⟨_,List.getElem?_eq_getElem (by rw [<-HM.out];omega)⟩
    have hcx:=hc k x hx
    have hcy:=hc' k y hy
    have HX:=hide hx
    have HY:=hide hy
    clear hcell hc hx hcell' hc' hy
    by_cases he:x=y
    ·have HE:=hide he
     have he':(x==y)=true:=by subst he;simp
     clear he
     go_wp2_with fail
     go_quiet (fail)
     go_wp2
     go_roundw
     case rel=>
      refine⟨k+1,q+nq,by omega,by go_num,rfl,fun j hj=> ?_⟩
      by_cases hjk:j=k
      ·subst hjk;rw [HX.out,HY.out,HE.out]
      ·exact HB.out j (by omega)
     case measure=>simp [intOf];omega
    ·have HE:=hide he
     have he':(x==y)=false:=by simpa using he
     clear he
     go_wp2_with fail
     go_quiet (fail)
     go_wp2
     go_ret
     refine⟨ret_bool ?_,⟨rfl,rfl,rfl,Nat.le_refl _,fun _ _=>rfl⟩⟩
     symm
     rw [decide_eq_false_iff_not]
     rintro rfl
     rw [HX.out]at HY
     have:=HY.out
     injection this with this
     exact HE.out this
   ·go_wp2
    go_ret
    refine⟨ret_bool ?_,⟨rfl,rfl,rfl,Nat.le_refl _,fun _ _=>rfl⟩⟩
    symm
    rw [decide_eq_true_eq]
    apply List.ext_getElem?
    intro j
    by_cases hj:j<n
    ·exact HB.out j (by omega)
    ·rw [List.getElem?_eq_none (by rw [<-HN.out];omega),List.getElem?_eq_none (by rw [<-HM.out];omega)]
 ·have hne:((n:Int)==(m:Int))=false:=by simpa using(by omega: ¬(n:Int)=(m:Int))
  have HN:=hide hn
  have HM:=hide hm
  clear hn hm
  go_enter Tryz.func34,Tryz.ntmps34
  go_wp2
  go_ret
  refine⟨ret_bool ?_,⟨rfl,rfl,rfl,Nat.le_refl _,fun _ _=>rfl⟩⟩
  symm
  rw [decide_eq_false_iff_not]
  rintro rfl
  exact hnm (by rw [HN.out,HM.out])
def plI (R:List (List Int)) (r:List Int):Int:=if r∈R then(plR R r:Int)else -1
theorem ref17_place {w:World} {F G:Nat->Prop} {v u:Value} {R:List (List Int)} {r:List Int} (h:RdUs w F v R) (hF: ∀b,F b->b<w.heap.size) (g:RdU w G u r) (hG: ∀b,G b->b<w.heap.size):
  Calls Tryz.prog 83 #[v,u] w (Quiet w (.int .i64 (plI R r))):=by
 obtain⟨A,c,rfl,hnc,hcm⟩:=RdRw.shape h
 obtain⟨B,m,d,rfl,_⟩:=id g
 unfold maxLen at hcm
 obtain⟨n,hn⟩: ∃n,n=R.length:=⟨_,rfl⟩
 rw [<-hn]at hnc h⊢
 obtain⟨Xhn,Xh,Xg,XhF,XhG⟩:=HqZ5 hn h g hF hG;clear hn h g hF hG
 go_enter Tryz.func83,Tryz.ntmps83
 go_wp2_with fail
 go_loopw [5] (fun i wr=> ∃k:Nat,k<=n/\i= .int .i64 k/\Below w.heap.size w wr/\ ∀j,j<k->R[j]? ≠some r) (fun i _=>n - (intOf i).toNat)
 case atStart=>exact⟨0,Nat.zero_le _,rfl,Below.refl _ _,fun j hj=>absurd hj (by omega)⟩
 case round=>
  obtain⟨k,hk,rfl,le,hb⟩:=hrel
  by_cases hlt:k<n
  ·have hlt':(k:Int)<(n:Int):=by omega
   obtain⟨x,hx⟩: ∃x,R[k]? =some x:=⟨_,List.getElem?_eq_getElem (by rw [<-Xhn.out];exact hlt)⟩
   obtain⟨b,off,A',c',rfl,-,cx,rx,-,-⟩:=RdUs.row (RdUs.below Xh.out le XhF.out) hx
   have cS:=ref17_same rx (Rd.below Xg.out le XhG.out)
   obtain⟨q,hq⟩: ∃q,q=decide (x=r):=⟨_,rfl⟩
   rw [<-hq]at cS
   clear rx
   cases q with
   |true=>
    have hp:plI R r=(k:Int):=by
     have hxr:x=r:=of_decide_eq_true hq.symm
     subst hxr
     unfold plI
     rw [if_pos (List.mem_of_getElem? hx),plR_first hx hb]
    clear hq hb hx
    obtain⟨XcS,Xhp,Xle⟩:=HqZ3 cS hp le;clear cS hp le
    go_wp2_with fail
    refine XcS.out.mono ?_
    rintro e w2 ⟨rfl,b2⟩
    have l2:=Xle.out.trans (b2.mono Xle.out.size)
    clear XcS b2
    have Xl2:=hide l2;clear l2
    go_wp2_with fail
    go_ret
    exact⟨ret_int Xhp.out.symm,Xl2.out⟩
   |false=>
    have hb2: ∀j,j<k+1->R[j]? ≠some r:=fun j hj=>by
     by_cases e:j=k
     ·subst e
      rw [hx]
      intro c
      injection c with c
      exact of_decide_eq_false hq.symm c
     ·exact hb j (by omega)
    clear hq hb hx
    obtain⟨XcS,Xhb2,Xle⟩:=HqZ3 cS hb2 le;clear cS hb2 le
    go_wp2_with fail
    refine XcS.out.mono ?_
    rintro e w2 ⟨rfl,b2⟩
    have l2:=Xle.out.trans (b2.mono Xle.out.size)
    clear XcS b2
    have Xl2:=hide l2;clear l2
    go_wp2_with fail
    go_roundw
    case rel=>exact⟨k+1,by omega,by go_num,Xl2.out,Xhb2.out⟩
    case measure=>simp [intOf];omega
  ·have hlt': ¬(k:Int)<(n:Int):=by omega
   have hp:plI R r= -1:=by
    unfold plI
    rw [if_neg fun c=> ?_]
    obtain⟨j,hj⟩:=List.mem_iff_getElem?.1 c
    exact hb j (by have:=(List.getElem?_eq_some_iff.1 hj).1;have:=Xhn.out;omega) hj
   clear hb
   obtain⟨Xhp,Xle⟩:=HqZ2 hp le;clear hp le
   go_wp2_with fail
   go_ret
   exact⟨ret_int Xhp.out.symm,Xle.out⟩
theorem rows_one {w:World} {F:Nat->Prop} {R:List (List Int)} {Z:List Value} (h1:Z.length=R.length) (h3: ∀(j:Nat) z x,Z[j]? =some z->R[j]? =some x->RdU w F z x): ∀u∈Z,u.oneCell'=true:=fun u hu=>by
 obtain⟨j,hj⟩:=List.mem_iff_getElem?.1 hu
 obtain⟨x,hx⟩: ∃x,R[j]? =some x:=⟨_,List.getElem?_eq_getElem (by have:=(List.getElem?_eq_some_iff.1 hj).1;omega)⟩
 obtain⟨A,n,c,rfl,-⟩:=h3 j u x hj hx
 rfl
def PutP (w:World) (F:Nat->Prop) (R:List (List Int)) (r:List Int) (e:Ending) (w':World):Prop:=Below w.heap.size w w'/\ ∃A c,e= .returned (.tuple #[.slice A (putR R r).length c,.int .i64 (plR R r:Int)])/\RdUs w' (fun b=>(F b\/w.heap.size<=b)/\b<w'.heap.size) (.slice A (putR R r).length c) (putR R r)
theorem ref17_put {w:World} {F:Nat->Prop} {v u:Value} {R:List (List Int)} {r:List Int} (h:RdUs w F v R) (hF: ∀b,F b->b<w.heap.size) (g:RdU w F u r) (hl:R.length<=70000):
  Calls Tryz.prog 67 #[v,u] w (PutP w F R r):=by
 obtain⟨A,c,rfl,hnc,hcm⟩:=RdRw.shape h
 obtain⟨B,m,d,rfl,_⟩:=id g
 unfold maxLen at hcm
 have cP:=ref17_place h hF g hF
 obtain⟨n,hn⟩: ∃n,n=R.length:=⟨_,rfl⟩
 rw [<-hn]at hnc h cP hl⊢
 by_cases hm:r∈R
 ·have hp:plI R r=(plR R r:Int):=if_pos hm
  have hle:=plR_lt.2 hm
  rw [hp]at cP
  obtain⟨k,hk⟩: ∃k,k=plR R r:=⟨_,rfl⟩
  rw [<-hk]at cP
  have hk0:(0:Int)<=(k:Int):=by omega
  obtain⟨Xhn,Xh,Xg,XhF,XcP,Xhm,Xhk⟩:=HqZ7 hn h g hF cP hm hk;clear hn h g hF cP hm hk;clear hp hle
  go_enter Tryz.func67,Tryz.ntmps67
  go_wp2_with fail
  refine XcP.out.mono ?_
  rintro e w2 ⟨rfl,b2⟩
  have Xb2:=hide b2;clear b2;clear XcP
  go_wp2_with fail
  go_ret2
  refine⟨Xb2.out,A,c,by rw [putR_yes Xhm.out,<-Xhn.out,<-Xhk.out];rfl,?_⟩
  rw [putR_yes Xhm.out,<-Xhn.out]
  exact(RdUs.below Xh.out Xb2.out XhF.out).mono fun b hb=>⟨.inl hb,Nat.lt_of_lt_of_le (XhF.out b hb) Xb2.out.size⟩
 ·have hp:plI R r= -1:=if_neg hm
  rw [hp]at cP
  obtain⟨Z,hZ1,hZ2,hZ3⟩:=id h
  obtain⟨Xhn,Xh,Xg,XhF,XcP,Xhm,XhZ1,XhZ2,XhZ3⟩:=HqZ9 hn h g hF cP hm hZ1 hZ2 hZ3;clear hn h g hF cP hm hZ1 hZ2 hZ3;clear hp
  go_enter Tryz.func67,Tryz.ntmps67
  go_wp2_with fail
  refine XcP.out.mono ?_
  rintro e w2 ⟨rfl,b2⟩
  clear XcP
  have rZ:=Rd.below XhZ2.out b2 XhF.out
  obtain⟨wd,hwd⟩: ∃q,w2.alloc (.cells #[] 51)=q:=⟨_,rfl⟩
  have al0:Below w2.heap.size w2 wd:=by rw [<-hwd];exact(Below.refl _ _).alloc (Nat.le_refl _) _
  have zd:wd.heap.size=w2.heap.size+1:=by rw [<-hwd];simp
  have z2:=b2.size
  have own0:wd.ownsRow w2.heap.size 51 1 (.slice (some ⟨w2.heap.size,0,none⟩) 0 0) 0 []:=by
   rw [<-hwd]
   exact World.ownsRow_made w2 #[] 0 (Nat.le_refl _) (by decide) rfl
  have rZd:=Rd.below rZ al0 (fun b hb=>Nat.lt_of_lt_of_le (XhF.out b hb) z2)
  have bd:=b2.trans (al0.mono z2)
  clear al0 rZ b2
  obtain⟨XrZd,Xown0,Xbd⟩:=HqZ3 rZd own0 bd;clear rZd own0 bd
  go_wp2_with (at_builtin;refine wp_append _ rfl (.tmp 14) (.tmp 15) _ rfl Tryz.elemRU w2.heap.size _ 0 [] rfl Xown0.out _ _ Z n rfl (by rw [Nat.mul_one,XhZ1.out,<-Xhn.out]) XrZd.out (rows_one XhZ1.out XhZ3.out) (by unfold maxLen;omega) (by omega) (by omega) ?_)
  intro A3 c3 w3 own3 g3 _
  have own3':w3.ownsRow w2.heap.size 51 1 (.slice A3 n c3) n Z:=by simpa using own3
  have b3:Below w.heap.size w w3:=Xbd.out.trans ((Touch.refl (fun k=>(Value.slice (some ⟨w2.heap.size,0,none⟩) 0 0).ownBlock=some k) _).grown g3 (fun k e _=>e)|>.below (fun k hk _ e=>by have:=(Xown0.out.lt k e).1;omega) (by omega))
  have z3:w2.heap.size+1<=w3.heap.size:=by have:=g3.size;omega
  have e0:0+n=n:=Nat.zero_add n
  clear own3 g3 Xown0 XrZd Xbd
  obtain⟨w4,hw4⟩: ∃q,w3.alloc (.cells #[.slice B m d] 51)=q:=⟨_,rfl⟩
  have al:Below w3.heap.size w3 w4:=by rw [<-hw4];exact(Below.refl _ _).alloc (Nat.le_refl _) _
  have rone:Rd w4 (fun _=>True) (.slice (some ⟨w3.heap.size,0,none⟩) 1 1) 1 [Value.slice B m d]:=by rw [<-hw4];exact Rd.one (w:=w3) (e:=51) [Value.slice B m d] 1 rfl
  have own4:=own_below' own3' al
  have z4:=al.size
  have b4:=b3.trans (al.mono b3.size)
  clear own3' b3 al
  obtain⟨Xown4,Xb4,Xrone⟩:=HqZ3 own4 b4 rone;clear own4 b4 rone
  go_wp2_with (at_builtin;refine wp_append _ rfl (.tmp 16) (.tmp 18) _ rfl Tryz.elemRU w2.heap.size (.slice A3 n c3) n _ (by first|rfl|simp) Xown4.out _ _ [.slice B m d] 1 rfl rfl Xrone.out (by simp [Value.oneCell']) (by unfold maxLen;omega) (by omega) (by omega) ?_)
  intro A5 c5 w5 own5 g5 _
  have b5:Below w.heap.size w w5:=Xb4.out.trans ((Touch.refl (fun k=>(Value.slice A3 n c3).ownBlock=some k) _).grown g5 (fun k e _=>e)|>.below (fun k hk _ e=>by have:=(Xown4.out.lt k e).1;omega) (by omega))
  have lt5:=own5.lt
  clear g5 Xown4 Xb4 Xrone
  obtain⟨Xown5,Xb5,Xlt5⟩:=HqZ3 own5 b5 lt5;clear own5 b5 lt5
  go_wp2_with fail
  go_ret2
  have hput:putR R r=R++[r]:=putR_no Xhm.out
  have hlen:(putR R r).length=n+1:=by rw [hput,List.length_append,<-Xhn.out];rfl
  refine⟨Xb5.out,A5,c5,by rw [hlen,plR_no Xhm.out,<-Xhn.out];rfl,?_⟩
  rw [hlen,hput]
  refine⟨Z++[.slice B m d],by rw [List.length_append,List.length_append,XhZ1.out];rfl,(Rd.of_own Xown5.out).mono fun k hk=>⟨.inr (by have:=(Xlt5.out k hk).1;omega),(Xlt5.out k hk).2⟩,fun j z x hz hx=> ?_⟩
  have mono: ∀{z:Value} {x:List Int},RdU w F z x->RdU w5 (fun b=>(F b\/w.heap.size<=b)/\b<w5.heap.size) z x:=fun hr=>(Rd.below hr Xb5.out XhF.out).mono fun b hb=>⟨.inl hb,Nat.lt_of_lt_of_le (XhF.out b hb) Xb5.out.size⟩
  by_cases hj:j<R.length
  ·rw [List.getElem?_append_left (by rw [XhZ1.out];exact hj)]at hz
   rw [List.getElem?_append_left hj]at hx
   exact mono (XhZ3.out j z x hz hx)
  ·have hj':j=R.length:=by have:=(List.getElem?_eq_some_iff.1 hx).1;simp at this;omega
   subst hj'
   rw [<-XhZ1.out,List.getElem?_append_right (Nat.le_refl _),Nat.sub_self]at hz
   rw [List.getElem?_append_right (Nat.le_refl _),Nat.sub_self]at hx
   injection hz with hz
   injection hx with hx
   subst hz hx
   exact mono Xg.out
theorem ref17_code (a:Ac) (h0:0<=a.1) (h1:a.1<=3) (h2:0<=a.2) (h3:a.2<16384) (w:World):
  Calls Tryz.prog 66 #[.agg #[.int .i64 a.1,.int .i64 a.2]] w (Quiet w (.int .u16 (codeA a))):=by
 obtain⟨k,n⟩:=a
 have hc:codeA (k,n)=k * 16384+n:=rfl
 simp only at h0 h1 h2 h3⊢
 have al:Below w.heap.size w (w.alloc (.cells #[.int .i64 k,.int .i64 n] 99)):=(Below.refl _ _).alloc (Nat.le_refl _) _
 obtain⟨Xal,Xhc⟩:=HqZ2 al hc;clear al hc
 go_enter Tryz.func66,Tryz.ntmps66
 go_wp2_with fail
 go_ret
 refine⟨?_,Xal.out⟩
 rw [Xhc.out]
 rfl
structure PBox (w:World) (F:Nat->Prop) (B:Nat) (A1:Option Addr) (n1 c1:Nat) (A2:Option Addr) (n2 c2:Nat) (A3:Option Addr) (n3 c3:Nat) (A4:Option Addr) (n4 c4:Nat) (A5:Option Addr) (n5 c5:Nat) (T N:Int) (p:PackD):Prop where
 pk:IsPack w F (.slice A1 n1 c1) (.slice A2 n2 c2) (.slice A3 n3 c3) (.slice A4 n4 c4) (.slice A5 n5 c5) p
 blk:Blk w B 26 #[.slice A1 n1 c1,.int .i64 T,.int .i64 N,.slice A2 n2 c2,.slice A3 n3 c3,.slice A4 n4 c4,.slice A5 n5 c5]
section
variable {w w' : World} {F : Nat -> Prop} {B : Nat} {A1 : Option Addr} {n1 c1 : Nat} {A2 : Option Addr} {n2 c2 : Nat} {A3 : Option Addr} {n3 c3 : Nat} {A4 : Option Addr} {n4 c4 : Nat} {A5 : Option Addr} {n5 c5 : Nat} {T N : Int} {p : PackD}
theorem PBox.new (h:IsPack w F (.slice A1 n1 c1) (.slice A2 n2 c2) (.slice A3 n3 c3) (.slice A4 n4 c4) (.slice A5 n5 c5) p) (T N:Int):PBox (w.alloc (.cells #[.slice A1 n1 c1,.int .i64 T,.int .i64 N,.slice A2 n2 c2,.slice A3 n3 c3,.slice A4 n4 c4,.slice A5 n5 c5] 26)) F w.heap.size A1 n1 c1 A2 n2 c2 A3 n3 c3 A4 n4 c4 A5 n5 c5 T N p:=⟨h.below ((Below.refl _ _).alloc (Nat.le_refl _) _),Blk.new _ _ _⟩
theorem PBox.below (h:PBox w F B A1 n1 c1 A2 n2 c2 A3 n3 c3 A4 n4 c4 A5 n5 c5 T N p) (b:Below w.heap.size w w'):PBox w' F B A1 n1 c1 A2 n2 c2 A3 n3 c3 A4 n4 c4 A5 n5 c5 T N p:=⟨h.pk.below b,h.blk.below b h.blk.lt⟩
theorem PBox.touch {S:Nat->Prop} (h:PBox w F B A1 n1 c1 A2 n2 c2 A3 n3 c3 A4 n4 c4 A5 n5 c5 T N p) (t:Touch S w w') (hS: ∀b,F b-> ¬S b) (hB: ¬S B):PBox w' F B A1 n1 c1 A2 n2 c2 A3 n3 c3 A4 n4 c4 A5 n5 c5 T N p:=⟨h.pk.touch t hS,h.blk.touch t hB⟩
theorem PBox.cells (h:PBox w F B A1 n1 c1 A2 n2 c2 A3 n3 c3 A4 n4 c4 A5 n5 c5 T N p):w.cell? ⟨B,0,none⟩=some (.slice A1 n1 c1)/\w.cell? ⟨B,1,none⟩=some (.int .i64 T)/\w.cell? ⟨B,2,none⟩=some (.int .i64 N)/\w.cell? ⟨B,3,none⟩=some (.slice A2 n2 c2)/\w.cell? ⟨B,4,none⟩=some (.slice A3 n3 c3)/\w.cell? ⟨B,5,none⟩=some (.slice A4 n4 c4)/\w.cell? ⟨B,6,none⟩=some (.slice A5 n5 c5):=
 ⟨(h.blk.cell 0).trans rfl,(h.blk.cell 1).trans rfl,(h.blk.cell 2).trans rfl,(h.blk.cell 3).trans rfl,(h.blk.cell 4).trans rfl,(h.blk.cell 5).trans rfl,(h.blk.cell 6).trans rfl⟩
end
end Go.Proofs.YtlpipniclimgeaaGreat

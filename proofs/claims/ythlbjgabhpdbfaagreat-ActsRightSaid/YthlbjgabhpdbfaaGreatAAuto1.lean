/- The automaton: the builder in memory; what stands behind a dot; a symbol's items. -/
import Derived.Test.YthlbjgabhpdbfaaGreatAItemLay
import Derived.Test.YthlbjgabhpdbfaaGreatAFirstPlain
namespace Go.Proofs.YthlbjgabhpdbfaaGreat
set_option linter.unusedVariables false
section
set_option linter.unusedSimpArgs false
open Go.RowKit
attribute [local irreducible] wpStill wpOne wpPh
abbrev PtB (b:Nat):Value:= .pointer (some ⟨b,0,none⟩)
theorem touch_two (W:World) (z:Nat) (u v:Value):Touch (fun k=>k=z) W ((W.setCell ⟨z,0,none⟩ u).setCell ⟨z,1,none⟩ v):=
 ((Touch.refl (fun k=>k=z) W).setCell (p:=⟨z,0,none⟩) (fun _=>rfl) u).setCell (p:=⟨z,1,none⟩) (fun _=>rfl) v
structure Bd (w:World) (F:Nat->Prop) (B:Nat) (A1:Option Addr) (c1:Nat) (A2:Option Addr) (c2:Nat) (A3:Option Addr) (c3 T N R:Nat) (st:Int) (G:GramD) (vb vs:Value) (m1 m2:Nat):Prop where
 gram:IsGram w F (.slice A1 T c1) (.slice A2 N c2) (.slice A3 R c3) G
 blk:Blk w B 124 #[.slice A1 T c1,.slice A2 N c2,.slice A3 R c3,.int .i64 st,vb,vs,.map (some m1),.map (some m2)]
section
variable {w w' : World} {F : Nat -> Prop} {B : Nat} {A1 : Option Addr} {c1 : Nat} {A2 : Option Addr} {c2 : Nat} {A3 : Option Addr} {c3 T N R : Nat} {st : Int} {G : GramD} {vb vs : Value} {m1 m2 : Nat}
theorem Bd.below (h:Bd w F B A1 c1 A2 c2 A3 c3 T N R st G vb vs m1 m2) (hb:Below w.heap.size w w'):Bd w' F B A1 c1 A2 c2 A3 c3 T N R st G vb vs m1 m2:=⟨h.gram.below hb,h.blk.below hb h.blk.lt⟩
theorem Bd.touch {S:Nat->Prop} (h:Bd w F B A1 c1 A2 c2 A3 c3 T N R st G vb vs m1 m2) (ht:Touch S w w') (hS: ∀b,F b-> ¬S b) (hB: ¬S B):Bd w' F B A1 c1 A2 c2 A3 c3 T N R st G vb vs m1 m2:=⟨h.gram.touch ht hS,h.blk.touch ht hB⟩
theorem Bd.drew (h:Bd w F B A1 c1 A2 c2 A3 c3 T N R st G vb vs m1 m2):Bd w.drew F B A1 c1 A2 c2 A3 c3 T N R st G vb vs m1 m2:=h.below ((Below.refl _ w).drew)
theorem Bd.cells (h:Bd w F B A1 c1 A2 c2 A3 c3 T N R st G vb vs m1 m2):w.cell? ⟨B,0,none⟩=some (.slice A1 T c1)/\w.cell? ⟨B,1,none⟩=some (.slice A2 N c2)/\w.cell? ⟨B,2,none⟩=some (.slice A3 R c3)/\w.cell? ⟨B,3,none⟩=some (.int .i64 st):=
 ⟨(h.blk.cell 0).trans rfl,(h.blk.cell 1).trans rfl,(h.blk.cell 2).trans rfl,(h.blk.cell 3).trans rfl⟩
end
def RuleP (w:World) (F:Nat->Prop) (r:(Int×List Int)×Bool) (e:Ending) (w':World):Prop:=
 ∃A n c,e= .returned (.tuple #[.agg #[.int .i64 r.1.1,.slice A n c],.bool r.2])/\RdI w' (fun b=>F b\/(w.heap.size<=b/\b<w'.heap.size)) (.slice A n c) r.1.2/\Below w.heap.size w w'
theorem RuleP.mk {w w':World} {F:Nat->Prop} {r:(Int×List Int)×Bool} {l:Int} {A:Option Addr} {n c:Nat} {xs:List Int} {ok:Bool} {e:Ending} (he:e= .returned (.tuple #[.agg #[.int .i64 l,.slice A n c],.bool ok])) (hr:r=((l,xs),ok)) (h:RdI w' (fun b=>F b\/(w.heap.size<=b/\b<w'.heap.size)) (.slice A n c) xs) (hb:Below w.heap.size w w'):RuleP w F r e w':=by
 subst hr he
 exact⟨A,n,c,rfl,h,hb⟩
set_option maxRecDepth 100000 in
set_option maxHeartbeats 2000000 in
theorem gram_rule2 {w:World} {F:Nat->Prop} {vt vn vr:Value} {G:GramD} (h:IsGram w F vt vn vr G) (st i:Int):
  Calls Tryz.prog 72 #[GV vt vn vr st,.int .i64 i] w (RuleP w F (ruleOf G st i)):=by
 have hF:=h.lt
 have hsm:=h.small
 obtain⟨A1,c1,A2,c2,A3,c3,rfl,rfl,rfl,l1,l2,l3,m1,m2,m3⟩:=h.slices
 obtain⟨-,-,-,hcell⟩:=ERule.at_ h.rules
 obtain⟨n,en⟩: ∃n,n=G.rules.length:=⟨_,rfl⟩
 have f1:(i<0\/(n:Int)<i)->ruleOf G st i=((0,[]),false):=fun e=>by unfold ruleOf;rw [<-en,if_pos e]
 have f2:i=(n:Int)->ruleOf G st i=((0,[st]),true):=fun e=>by unfold ruleOf;rw [<-en,if_neg (by omega),if_pos e]
 have f3: ∀(k:Nat) (l:Int) (x:List Int),i=(k:Int)->k<n->G.rules[k]? =some (l,x)->ruleOf G st i=((l,x),true):=fun k l x e e' hx=>by
  unfold ruleOf;rw [<-en,if_neg (by omega),if_neg (by omega),show i.toNat=k by omega,hx];rfl
 rw [<-en]at hsm hcell l3⊢
 obtain⟨s1,s2,s3⟩:=hsm
 have HN:=hide en
 have HC:=hide hcell
 have HF:=hide hF
 have F1:=hide f1
 have F2:=hide f2
 have F3:=hide f3
 clear en hcell hF h f1 f2 f3
 by_cases h0:i<0
 ·go_enter Tryz.func72,Tryz.ntmps72
  go_wp2_with fail
  refine bodyPost_ret (v:= .tuple #[.agg #[.int .i64 0,.slice none 0 0],.bool false]) (by simp [results,Tryz.results72,go_sem]) rfl ?_
  exact RuleP.mk rfl (F1.out (.inl h0)) (Rd.nil _ _ _) (((Below.refl _ w).alloc (Nat.le_refl _) _).alloc (by simp) _)
 ·by_cases h1:(n:Int)<i
  ·go_enter Tryz.func72,Tryz.ntmps72
   go_wp2_with fail
   refine bodyPost_ret (v:= .tuple #[.agg #[.int .i64 0,.slice none 0 0],.bool false]) (by simp [results,Tryz.results72,go_sem]) rfl ?_
   exact RuleP.mk rfl (F1.out (.inr h1)) (Rd.nil _ _ _) (((Below.refl _ w).alloc (Nat.le_refl _) _).alloc (by simp) _)
  ·by_cases h2:i=(n:Int)
   ·subst h2
    have r1:Rd (((w.alloc (.cells #[.slice A1 G.terms.length c1,.slice A2 G.nons.length c2,.slice A3 n c3,.int .i64 st] 25)).alloc (.cells #[.int .i64 0,.slice (some ⟨w.heap.size+2,0,none⟩) 1 1] 98)).alloc (.cells #[.int .i64 st] 3)) (fun b=>b=w.heap.size+2) (.slice (some ⟨w.heap.size+2,0,none⟩) 1 1) 1 [.int .i64 st]:=by
     have:=Rd.one' (w:=((w.alloc (.cells #[.slice A1 G.terms.length c1,.slice A2 G.nons.length c2,.slice A3 n c3,.int .i64 st] 25)).alloc (.cells #[.int .i64 0,.slice (some ⟨w.heap.size+2,0,none⟩) 1 1] 98))) (e:=3) [.int .i64 st] 1 rfl
     simpa using this
    go_enter Tryz.func72,Tryz.ntmps72
    go_wp2_with fail
    refine bodyPost_ret (v:= .tuple #[.agg #[.int .i64 0,.slice (some ⟨w.heap.size+2,0,none⟩) 1 1],.bool true]) (by simp [results,Tryz.results72,go_sem]) rfl ?_
    exact RuleP.mk rfl (F2.out (by first|rfl|trivial)) (r1.mono (fun b hb=> .inr (by simp;omega))) ((((Below.refl _ w).alloc (Nat.le_refl _) _).alloc (by simp) _).alloc (by simp;omega) _)
   ·obtain⟨k,rfl⟩:=Int.eq_ofNat_of_zero_le (by omega:0<=i)
    have hlt:k<n:=by omega
    obtain⟨b,off,rfl,hb,hc⟩:=HC.out (by omega)
    obtain⟨l0,x,vx,hx,hx0,hx1,hxr⟩:=RdR.get (n:=n) HF.out hb (Below.refl _ w) hc (k:=k) (by rw [<-HN.out];omega)
    obtain⟨A5,n5,c5,rfl,_⟩:=id hxr
    have hbw:=HF.out b hb
    have hx0':=fun o=>cell_a hx0 o
    have hx1':=fun o=>cell_a hx1 o
    have hfin:=F3.out k l0 x rfl hlt hx
    have HFIN:=hide hfin
    have HXR:=hide hxr
    have hki:((k:Int)==(n:Int))=false:=by simpa using(by omega: ¬(k:Int)=(n:Int))
    clear hc hx hxr hfin h2
    go_enter Tryz.func72,Tryz.ntmps72
    go_wp2_with fail
    refine bodyPost_ret (v:= .tuple #[.agg #[.int .i64 l0,.slice A5 n5 c5],.bool true]) (by simp [results,Tryz.results72,go_sem]) rfl ?_
    have B2:Below w.heap.size w ((w.alloc (.cells #[.slice A1 G.terms.length c1,.slice A2 G.nons.length c2,.slice (some ⟨b,off,none⟩) n c3,.int .i64 st] 25)).alloc (.cells #[.int .i64 l0,.slice A5 n5 c5] 98)):=((Below.refl _ w).alloc (Nat.le_refl _) _).alloc (by simp) _
    exact RuleP.mk rfl HFIN.out ((HXR.out.below B2 HF.out).mono (fun b hb=> .inl hb)) B2
def nextI (G:GramD) (st:Int) (x:It):Int:=(behindI G st x).1
theorem next_end {G:GramD} {st:Int} {a d:Int} (h:((ruleOf G st a).1.2.length:Int)<=d):nextI G st (a,d)=0:=by unfold nextI;rw [behind_no (.inr (.inr h))]
theorem next_at {G:GramD} {st:Int} {a:Int} {k:Nat} {s:Int} (h:(ruleOf G st a).2=true) (hs:(ruleOf G st a).1.2[k]? =some s):nextI G st (a,(k:Int))=s:=by unfold nextI;rw [behind_yes h hs]
set_option maxRecDepth 100000 in
set_option maxHeartbeats 4000000 in
theorem auto_next {w:World} {F:Nat->Prop} {B:Nat} {A1:Option Addr} {c1:Nat} {A2:Option Addr} {c2:Nat} {A3:Option Addr} {c3 T N R:Nat} {st:Int} {G:GramD} {vb vs:Value} {m1 m2:Nat}
  (h:Bd w F B A1 c1 A2 c2 A3 c3 T N R st G vb vs m1 m2) (x:It) (hx:rightI G st x=true):
  Calls Tryz.prog 155 #[PtB B,ItV x] w (Quiet w (.int .i64 (nextI G st x))):=by
 obtain⟨a,d⟩:=x
 have n1:((ruleOf G st a).1.2.length:Int)<=d->nextI G st (a,d)=0:=next_end
 have n2: ∀(k:Nat) (s:Int),d=k->(ruleOf G st a).1.2[k]? =some s->nextI G st (a,d)=s:=fun k s e hs=>by
  rw [e]
  unfold rightI at hx
  simp only [Bool.and_eq_true]at hx
  exact next_at hx.1 hs
 have n3:0<=d:=by
  unfold rightI at hx
  simp only [Bool.and_eq_true,decide_eq_true_eq]at hx
  exact hx.2.1
 clear hx
 obtain⟨w1,hw1⟩: ∃w1,w1=w.alloc (.cells #[.int .i64 a,.int .i64 d] 226):=⟨_,rfl⟩
 have b1:Below w.heap.size w w1:=by rw [hw1];exact(Below.refl _ w).alloc (Nat.le_refl _) _
 have kx1:Blk w1 w.heap.size 226 #[.int .i64 a,.int .i64 d]:=by rw [hw1];exact Blk.new _ _ _
 have t1:=h.below b1
 have cr:=fun wr (g:Bd wr F B A1 c1 A2 c2 A3 c3 T N R st G vb vs m1 m2)=>gram_rule2 g.gram st a
 obtain⟨q0,q1,q2,q3⟩:=t1.cells
 have d0:=(kx1.cell 0).trans rfl
 have d1:=(kx1.cell 1).trans rfl
 generalize nextI G st (a,d)=r at *
 generalize ruleOf G st a=ru at *
 obtain⟨⟨l,xs⟩,ok⟩:=ru
 simp only at n1 n2
 rw [hw1]at q0 q1 q2 q3 d0 d1
 clear h
 obtain⟨Xb1,Xkx1,Xt1,Xcr,Xn1,Xn2,Xn3⟩:=HqZ7 b1 kx1 t1 cr n1 n2 n3;clear b1 kx1 t1 cr n1 n2 n3
 go_enter Tryz.func155,Tryz.ntmps155
 go_wp2_with fail
 refine wp_region_held_drew (S:=(fun W=>W.cell? ⟨B,0,none⟩=some (.slice A1 T c1)/\W.cell? ⟨B,1,none⟩=some (.slice A2 N c2)/\W.cell? ⟨B,2,none⟩=some (.slice A3 R c3)/\W.cell? ⟨B,3,none⟩=some (.int .i64 st)/\W.cell? ⟨w.heap.size,0,none⟩=some (.int .i64 a)/\W.cell? ⟨w.heap.size,1,none⟩=some (.int .i64 d))) (by kernel_rfl) ?_ (fun hHeld=> ?_)
 ·exact⟨q0,q1,q2,q3,d0,d1⟩
 rw [<-hw1]at hHeld⊢
 generalize hwd:w1.drew=wd at *
 have t2:Bd wd F B A1 c1 A2 c2 A3 c3 T N R st G vb vs m1 m2:=by rw [<-hwd];exact Xt1.out.drew
 have kx2:Blk wd w.heap.size 226 #[.int .i64 a,.int .i64 d]:=by rw [<-hwd];exact Xkx1.out.drew
 have bd:Below w.heap.size w wd:=by rw [<-hwd];exact Xb1.out.drew
 have hS: ∀W,Below wd.heap.size wd W->W.cell? ⟨B,0,none⟩=some (.slice A1 T c1)/\W.cell? ⟨B,1,none⟩=some (.slice A2 N c2)/\W.cell? ⟨B,2,none⟩=some (.slice A3 R c3)/\W.cell? ⟨B,3,none⟩=some (.int .i64 st)/\W.cell? ⟨w.heap.size,0,none⟩=some (.int .i64 a)/\W.cell? ⟨w.heap.size,1,none⟩=some (.int .i64 d):=fun W hb=>by
  obtain⟨p0,p1,p2,p3⟩:=(t2.below hb).cells
  have kk:=kx2.below hb kx2.lt
  exact⟨p0,p1,p2,p3,(kk.cell 0).trans rfl,(kk.cell 1).trans rfl⟩
 clear hwd hw1 Xt1 Xkx1 Xb1 q0 q1 q2 q3 d0 d1
 obtain⟨Xt2,Xkx2,Xbd,XhS⟩:=HqZ4 t2 kx2 bd hS;clear t2 kx2 bd hS
 refine tZ 0 ?_;try simp only [Act.put,sT,s0,s1]
 refine tZ 1 ?_;try simp only [Act.put,sT,s0,s1]
 refine tZ 2 ?_;try simp only [Act.put,sT,s0,s1]
 refine tZ 3 ?_;try simp only [Act.put,sT,s0,s1]
 refine tZ 4 ?_;try simp only [Act.put,sT,s0,s1]
 refine tZ 5 ?_;try simp only [Act.put,sT,s0,s1]
 refine wpAnyH_ready (rs:=[6,10]) (by kernel_rfl) (by simp) ?_
 refine AllReadyH.cons (o:= ?_) ?_ (fun K hK=> ?_) ?_;rotate_left 1;(focus((try simp only [gT,gs,gz]);try rfl))
 ·go_simp
  go_at_call 72
  refine(Xcr.out _ Xt2.out).mono ?_
  rintro e w3 ⟨A,n,c,rfl,hrd,b3⟩
  obtain⟨hn,hnc,hcm,-⟩:=RdI.at_ hrd
  unfold maxLen at hcm
  replace hn:n=xs.length:=hn
  replace hrd:RdI w3 (fun b=>F b\/(wd.heap.size<=b/\b<w3.heap.size)) (.slice A n c) xs:=hrd
  obtain⟨Xhrd,Xhn⟩:=HqZ2 hrd hn;clear hrd hn
  refine hK.out _ _ ?_ (fun hHeld=> ?_)
  ·exact XhS.out _ b3
  clear hK K
  try simp only [Act.put,sT,s0,s1]
  refine tZ 7 ?_;try simp only [Act.put,sT,s0,s1]
  refine tZ 8 ?_;try simp only [Act.put,sT,s0,s1]
  refine tZ 9 ?_;try simp only [Act.put,sT,s0,s1]
  have Xb3:=hide b3;clear b3
  refine wpAnyH_ready (rs:=[10]) (by kernel_rfl) (by simp) ?_
  refine AllReadyH.cons (o:= ?_) ?_ (fun K hK=> ?_) AllReadyH.nil;rotate_left 1;(focus((try simp only [gT,gs,gz]);try rfl))
  go_simp
  have b4:Below wd.heap.size wd (w3.alloc (.cells #[.int .i64 0,.slice none 0 0] 98)):=Xb3.out.alloc Xb3.out.size _
  have k4:Blk (w3.alloc (.cells #[.int .i64 0,.slice none 0 0] 98)) w3.heap.size 98 #[.int .i64 0,.slice none 0 0]:=Blk.new _ _ _
  have hK2:wd.heap.size<=w3.heap.size:=Xb3.out.size
  have hFl: ∀b,F b\/(wd.heap.size<=b/\b<w3.heap.size)->b<w3.heap.size:=fun b hb=>hb.elim (fun hb=>Nat.lt_of_lt_of_le (Xt2.out.gram.lt b hb) Xb3.out.size) (fun hb=>hb.2)
  have hrd4:=Xhrd.out.below (Below.refl _ w3|>.alloc (Nat.le_refl _) (.cells #[.int .i64 0,.slice none 0 0] 98)) hFl
  have hrl: ∀b,F b\/(wd.heap.size<=b/\b<w3.heap.size)-> ¬b=w3.heap.size:=fun b hb=>by have:=hFl b hb;omega
  clear hFl Xhrd
  refine hK.out _ _ ?_ (fun hHeld=> ?_)
  ·exact XhS.out _ b4
  clear hK K
  try simp only [Act.put,sT,s0,s1]
  generalize w3.heap.size=Kb at *
  generalize w3.alloc (.cells #[.int .i64 0,.slice none 0 0] 98)=w4 at *
  have f0:=(k4.cell 0).trans rfl
  have f1:=(k4.cell 1).trans rfl
  have z0:=k4.frozen 0
  have z1:=k4.frozen 1
  have k5:=(k4.put 0 (.int .i64 l)).put 1 (.slice A n c)
  have tt:=touch_two w4 (Kb) (.int .i64 l) (.slice A n c)
  have b5:Below wd.heap.size wd ((w4.setCell ⟨Kb,0,none⟩ (.int .i64 l)).setCell ⟨Kb,1,none⟩ (.slice A n c)):=b4.trans (tt.below (fun i hi _ e=>by omega) b4.size)
  have hrd5:=hrd4.touch tt hrl
  obtain⟨Xb4,Xk4,Xhrd4,XhK2,Xhrl,Xk5,Xtt,Xb5,Xhrd5⟩:=HqZ9 b4 k4 hrd4 hK2 hrl k5 tt b5 hrd5;clear b4 k4 hrd4 hK2 hrl k5 tt b5 hrd5
  refine wpAnyH_ready (rs:=[11]) (by kernel_rfl) (by simp) ?_
  refine AllReadyH.cons (o:= ?_) ?_ (fun K hK=> ?_) AllReadyH.nil;rotate_left 1;(focus((try simp only [gT,gs,gz]);try rfl))
  go_simp
  refine hK.out _ _ ?_ (fun hHeld=> ?_)
  ·exact XhS.out _ Xb5.out
  clear hK K
  try simp only [Act.put,sT,s0,s1]
  generalize (w4.setCell ⟨Kb,0,none⟩ (.int .i64 l)).setCell ⟨Kb,1,none⟩ (.slice A n c)=w5 at *
  refine tZ 12 ?_;try simp only [Act.put,sT,s0,s1]
  refine wpAnyH_done (by kernel_rfl) ?_ _
  obtain⟨-,-,-,-,d0,d2⟩:=id hHeld
  have d3:=(Xk5.out.cell 0).trans rfl
  have d4:=(Xk5.out.cell 1).trans rfl
  have hb5:=Xbd.out.trans (Xb5.out.mono Xbd.out.size)
  have hrd:=Xhrd5.out
  have hn:=Xhn.out
  by_cases h1:(n:Int)<=d
  ·have hv:=Xn1.out (by rw [<-hn];exact h1)
   obtain⟨Xhv,Xhb5,Xhrd,Xhn⟩:=HqZ4 hv hb5 hrd hn;clear hv hb5 hrd hn
   go_wp2_with fail
   go_ret
   exact⟨ret_int Xhv.out.symm,Xhb5.out⟩
  ·obtain⟨k,rfl⟩:=Int.eq_ofNat_of_zero_le (show 0<=d from Xn3.out)
   have hk:k<n:=by omega
   obtain⟨-,-,-,hcell⟩:=RdI.at_ hrd
   obtain⟨b,off,rfl,-,hcc⟩:=hcell (by omega)
   obtain⟨s,hs⟩: ∃s,xs[k]? =some s:=⟨_,List.getElem?_eq_getElem (by rw [<-hn];exact hk)⟩
   have hcs:=hcc k s hs
   have hv:=Xn2.out k s rfl hs
   clear hcell hcc
   obtain⟨Xhv,Xhb5,Xhrd,Xhn,Xhs⟩:=HqZ5 hv hb5 hrd hn hs;clear hv hb5 hrd hn hs
   go_wp2_with fail
   go_ret
   exact⟨ret_int Xhv.out.symm,Xhb5.out⟩
 ·refine AllReadyH.cons (o:= ?_) ?_ (fun K hK=> ?_) ?_;rotate_left 1;(focus((try simp only [gT,gs,gz]);try rfl))
  ·go_simp
   have b4:Below wd.heap.size wd (wd.alloc (.cells #[.int .i64 0,.slice none 0 0] 98)):=(Below.refl _ wd).alloc (Nat.le_refl _) _
   have k4:Blk (wd.alloc (.cells #[.int .i64 0,.slice none 0 0] 98)) wd.heap.size 98 #[.int .i64 0,.slice none 0 0]:=Blk.new _ _ _
   have t4:=Xt2.out.below b4
   refine hK.out _ _ ?_ (fun hHeld=> ?_)
   ·exact XhS.out _ b4
   clear hK K
   try simp only [Act.put,sT,s0,s1]
   have hK2:wd.heap.size<=wd.heap.size:=Nat.le_refl _
   generalize wd.alloc (.cells #[.int .i64 0,.slice none 0 0] 98)=wa at *
   obtain⟨Xb4,Xk4,Xt4⟩:=HqZ3 b4 k4 t4;clear b4 k4 t4
   refine wpAnyH_ready (rs:=[6]) (by kernel_rfl) (by simp) ?_
   refine AllReadyH.cons (o:= ?_) ?_ (fun K hK=> ?_) AllReadyH.nil;rotate_left 1;(focus((try simp only [gT,gs,gz]);try rfl))
   go_simp
   go_at_call 72
   refine(Xcr.out _ Xt4.out).mono ?_
   rintro e w4 ⟨A,n,c,rfl,hrd4,b5⟩
   obtain⟨hn,hnc,hcm,-⟩:=RdI.at_ hrd4
   unfold maxLen at hcm
   have k4:=Xk4.out.below b5 Xk4.out.lt
   have hwa:wd.heap.size<wa.heap.size:=Xk4.out.lt
   have hrl: ∀b,F b\/(wa.heap.size<=b/\b<w4.heap.size)-> ¬b=wd.heap.size:=fun b hb=>hb.elim (fun hb e=>by have:=Xt2.out.gram.lt b hb;omega) (fun hb=>by omega)
   have b4:=Xb4.out.trans (b5.mono Xb4.out.size)
   clear b5 Xb4 Xk4 Xt4 hwa
   replace hn:n=xs.length:=hn
   replace hrd4:RdI w4 (fun b=>F b\/(wa.heap.size<=b/\b<w4.heap.size)) (.slice A n c) xs:=hrd4
   have Xhn:=hide hn;clear hn
   refine hK.out _ _ ?_ (fun hHeld=> ?_)
   ·exact XhS.out _ b4
   clear hK K
   try simp only [Act.put,sT,s0,s1]
   refine tZ 7 ?_;try simp only [Act.put,sT,s0,s1]
   refine tZ 8 ?_;try simp only [Act.put,sT,s0,s1]
   refine tZ 9 ?_;try simp only [Act.put,sT,s0,s1]
   have f0:=(k4.cell 0).trans rfl
   have f1:=(k4.cell 1).trans rfl
   have z0:=k4.frozen 0
   have z1:=k4.frozen 1
   have k5:=(k4.put 0 (.int .i64 l)).put 1 (.slice A n c)
   have tt:=touch_two w4 (wd.heap.size) (.int .i64 l) (.slice A n c)
   have b5:Below wd.heap.size wd ((w4.setCell ⟨wd.heap.size,0,none⟩ (.int .i64 l)).setCell ⟨wd.heap.size,1,none⟩ (.slice A n c)):=b4.trans (tt.below (fun i hi _ e=>by omega) b4.size)
   have hrd5:=hrd4.touch tt hrl
   obtain⟨Xb4,Xk4,Xhrd4,XhK2,Xhrl,Xk5,Xtt,Xb5,Xhrd5⟩:=HqZ9 b4 k4 hrd4 hK2 hrl k5 tt b5 hrd5;clear b4 k4 hrd4 hK2 hrl k5 tt b5 hrd5
   refine wpAnyH_ready (rs:=[11]) (by kernel_rfl) (by simp) ?_
   refine AllReadyH.cons (o:= ?_) ?_ (fun K hK=> ?_) AllReadyH.nil;rotate_left 1;(focus((try simp only [gT,gs,gz]);try rfl))
   go_simp
   refine hK.out _ _ ?_ (fun hHeld=> ?_)
   ·exact XhS.out _ Xb5.out
   clear hK K
   try simp only [Act.put,sT,s0,s1]
   generalize (w4.setCell ⟨wd.heap.size,0,none⟩ (.int .i64 l)).setCell ⟨wd.heap.size,1,none⟩ (.slice A n c)=w5 at *
   refine tZ 12 ?_;try simp only [Act.put,sT,s0,s1]
   refine wpAnyH_done (by kernel_rfl) ?_ _
   obtain⟨-,-,-,-,d0,d2⟩:=id hHeld
   have d3:=(Xk5.out.cell 0).trans rfl
   have d4:=(Xk5.out.cell 1).trans rfl
   have hb5:=Xbd.out.trans (Xb5.out.mono Xbd.out.size)
   have hrd:=Xhrd5.out
   have hn:=Xhn.out
   by_cases h1:(n:Int)<=d
   ·have hv:=Xn1.out (by rw [<-hn];exact h1)
    obtain⟨Xhv,Xhb5,Xhrd,Xhn⟩:=HqZ4 hv hb5 hrd hn;clear hv hb5 hrd hn
    go_wp2_with fail
    go_ret
    exact⟨ret_int Xhv.out.symm,Xhb5.out⟩
   ·obtain⟨k,rfl⟩:=Int.eq_ofNat_of_zero_le (show 0<=d from Xn3.out)
    have hk:k<n:=by omega
    obtain⟨-,-,-,hcell⟩:=RdI.at_ hrd
    obtain⟨b,off,rfl,-,hcc⟩:=hcell (by omega)
    obtain⟨s,hs⟩: ∃s,xs[k]? =some s:=⟨_,List.getElem?_eq_getElem (by rw [<-hn];exact hk)⟩
    have hcs:=hcc k s hs
    have hv:=Xn2.out k s rfl hs
    clear hcell hcc
    obtain⟨Xhv,Xhb5,Xhrd,Xhn,Xhs⟩:=HqZ5 hv hb5 hrd hn hs;clear hv hb5 hrd hn hs
    go_wp2_with fail
    go_ret
    exact⟨ret_int Xhv.out.symm,Xhb5.out⟩
  ·exact AllReadyH.nil
end
section
set_option linter.unusedSimpArgs false
open Go.RowKit
attribute [local irreducible] wpStill wpOne wpPh
def ItOwn (w:World) (l:List It) (e:Ending) (w':World):Prop:= ∃A c,e= .returned (.slice A l.length c)/\w'.ownsRow w.heap.size 226 2 (.slice A l.length c) l.length (itCells l)/\Below w.heap.size w w'
set_option maxRecDepth 100000 in
set_option maxHeartbeats 4000000 in
theorem auto_rules {w:World} {F:Nat->Prop} {B:Nat} {A1:Option Addr} {c1:Nat} {A2:Option Addr} {c2:Nat} {A3:Option Addr} {c3 T N R:Nat} {st:Int} {G:GramD} {vb vs:Value} {m1 m2:Nat}
  (h:Bd w F B A1 c1 A2 c2 A3 c3 T N R st G vb vs m1 m2) (s:Int) (hl:(ofOf G s).length<=300):
  Calls Tryz.prog 154 #[PtB B,.int .i64 s] w (ItOwn w (rulesI (ofOf G s))):=by
 have co:=gram_of h.gram st s
 obtain⟨q0,q1,q2,q3⟩:=h.cells
 generalize ofOf G s=ks at *
 obtain⟨Xh,Xco⟩:=HqZ2 h co;clear h co
 go_enter Tryz.func154,Tryz.ntmps154
 go_wp2_with fail
 with_reducible refine Xco.out.mono ?_
 rintro e w2 ⟨Ar,cr,rfl,hown,b2⟩
 have hrd:RdI w2 (fun b=>w.heap.size<=b/\b<w2.heap.size) (.slice Ar ks.length cr) ks:=(Rd.of_own hown).mono (fun q hq=>hown.lt q hq)
 clear hown q0 q1 q2 q3 Xco Xh
 obtain⟨n,hn⟩: ∃n,n=ks.length:=⟨_,rfl⟩
 rw [<-hn]at hl hrd⊢
 obtain⟨-,hnc,hcm,-⟩:=RdI.at_ hrd
 unfold maxLen at hcm
 obtain⟨Xhrd,Xb2,Xhn⟩:=HqZ3 hrd b2 hn;clear hrd b2 hn
 go_wp2_with fail
 go_loopw [5,15] (fun o i wr=> ∃(k:Nat) (A:Option Addr) (c:Nat),k<=n/\i= .int .i64 k/\o= .slice A k c/\wr.ownsRow w2.heap.size 226 2 (.slice A k c) k (itCells (rulesI (ks.take k)))/\Below w2.heap.size w2 wr) (fun _ i _=>n - (intOf i).toNat)
 case atStart=>exact⟨0,none,0,Nat.zero_le _,rfl,rfl,World.ownsRow_nil _ _ _ _,Below.refl _ _⟩
 case round=>
  obtain⟨k,A,c,hk,rfl,rfl,own,le⟩:=hrel
  obtain⟨-,hkc,hkm,-⟩:=RdIt.at_ (Rd.of_own own)
  unfold maxLen at hkm
  by_cases hlt:k<n
  ·have hlt':(k:Int)<(n:Int):=by omega
   obtain⟨-,-,-,hcell⟩:=RdI.at_ (Xhrd.out.below le (fun b hb=>hb.2))
   obtain⟨b,off,rfl,hb,hcc⟩:=hcell (by omega)
   obtain⟨r,hr⟩: ∃r,ks[k]? =some r:=⟨_,List.getElem?_eq_getElem (by rw [<-Xhn.out];exact hlt)⟩
   have hc:=hcc k r hr
   have hnx:=rules_next hr
   have hone:RdIt (wr.alloc (.cells #[.int .i64 r,.int .i64 0] 226)) (fun b=>b=wr.heap.size) (.slice (some ⟨wr.heap.size,0,none⟩) 1 1) [(r,0)]:=RdIt.one (w:=wr) (e:=226) (r,0)
   have own7:=own_alloc own (.cells #[.int .i64 r,.int .i64 0] 226)
   have le7:=le.alloc le.size (.cells #[.int .i64 r,.int .i64 0] 226)
   clear hcc hcell hb
   obtain⟨Xown,Xle,Xhr,Xhnx,Xhone,Xown7,Xle7⟩:=HqZ7 own le hr hnx hone own7 le7;clear own le hr hnx hone own7 le7
   go_wp2_with (at_builtin;refine wp_append _ rfl (.tmp 19) (.tmp 22) _ rfl Tryz.elemItem w2.heap.size _ k _ rfl Xown7.out _ _ [I64 r,I64 0] 1 rfl rfl Xhone.out (itCells_one [(r,0)]) (by unfold maxLen;omega) (by omega) (Xle7.out.size) ?_)
   intro A8 c8 w8 own8 g8 hb8
   have le8:=Xle7.out.grown g8 Xle7.out.size (fun q hq=>(Xown7.out.lt q hq).1)
   rw [show [I64 r,I64 0]=itCells [(r,0)]from rfl,<-itCells_append,<-Xhnx.out]at own8
   obtain⟨Xown8,Xle8⟩:=HqZ2 own8 le8;clear own8 le8
   go_wp2_with fail
   go_roundw
   case rel=>exact⟨k+1,A8,c8,by omega,by go_num,rfl,Xown8.out,Xle8.out⟩
   case measure=>simp [intOf];omega
  ·have hlt': ¬(k:Int)<(n:Int):=by omega
   obtain rfl:k=n:=by omega
   have hall:rulesI (ks.take k)=rulesI ks:=by rw [Xhn.out,List.take_length]
   rw [hall]at own
   have hlen:k=(rulesI ks).length:=by rw [rules_len,<-Xhn.out]
   obtain⟨Xown,Xle,Xhall,Xhlen⟩:=HqZ4 own le hall hlen;clear own le hall hlen
   go_wp2_with fail
   go_ret
   unfold ItOwn
   rw [<-Xhlen.out]
   exact⟨A,c,rfl,ownsRow_base Xown.out (fun q hq=>Nat.le_trans Xb2.out.size (World.ownsRow.lt Xown.out q hq).1),Xb2.out.trans (Xle.out.mono Xb2.out.size)⟩
end
section
set_option linter.unusedSimpArgs false
open Go.RowKit Go.Maps
structure QueI (w:World) (lo g off n c:Nat) (l:List Int):Prop where
 len:n=l.length
 cap:n<=c/\c<=maxLen
 low:lo<=g/\g<w.heap.size
 at_: ∀j x,l[j]? =some x->w.cell? ⟨g,off+j,none⟩=some (.int .i64 x)
 room: ∀j,j<c->(w.cell? ⟨g,off+j,none⟩).isSome=true/\w.frozen? ⟨g,off+j,none⟩=false
section
variable {w w' : World} {lo g off n c : Nat} {l : List Int}
theorem QueI.touch {S:Nat->Prop} (h:QueI w lo g off n c l) (ht:Touch S w w') (hg: ¬S g):QueI w' lo g off n c l:=by
 have e:w'.heap[g]? =w.heap[g]? :=ht.block g h.low.2 hg
 refine⟨h.len,h.cap,⟨h.low.1,Nat.lt_of_lt_of_le h.low.2 ht.size⟩,fun j x hx=>(World.cell?_of_block e).trans (h.at_ j x hx),fun j hj=> ?_⟩
 have:=h.room j hj
 rw [World.cell?_of_block (a:=⟨g,off+j,none⟩) e,World.frozen?_of_block (a:=⟨g,off+j,none⟩) e]
 exact this
theorem QueI.below (h:QueI w lo g off n c l) (hb:Below w.heap.size w w'):QueI w' lo g off n c l:=h.touch (Touch.of_size hb (fun _=>False)) (fun e=>e)
theorem QueI.one (w:World) (hlo:lo<=w.heap.size) (s:Int) (t:TypeId):QueI (w.alloc (.cells #[.int .i64 s] t)) lo w.heap.size 0 1 1 [s]:=by
 have k:Blk (w.alloc (.cells #[.int .i64 s] t)) w.heap.size t #[.int .i64 s]:=Blk.new _ _ _
 refine⟨rfl,⟨Nat.le_refl _,by decide⟩,⟨hlo,by simp⟩,fun j x hx=> ?_,fun j hj=> ?_⟩
 ·match j,hx with
  |0,hx=>simp at hx;subst hx;exact(k.cell 0).trans rfl
 ·obtain rfl:j=0:=by omega
  exact⟨by rw [Nat.zero_add,k.cell 0];rfl,k.frozen _⟩
theorem QueI.pop {x:Int} {r:List Int} (h:QueI w lo g off n c (x::r)):QueI w lo g (if c=1 then off else off+1) (n - 1) (c - 1) r:=by
 have hl:=h.len
 have hc:=h.cap
 simp only [List.length_cons]at hl
 refine⟨by omega,⟨by omega,by omega⟩,h.low,fun j y hy=> ?_,fun j hj=> ?_⟩
 ·have hj:=(List.getElem?_eq_some_iff.1 hy).1
  rw [if_neg (by omega),Nat.add_assoc,Nat.add_comm 1 j]
  exact h.at_ (j+1) y (by simpa using hy)
 ·rw [if_neg (by omega),Nat.add_assoc,Nat.add_comm 1 j]
  exact h.room (j+1) (by omega)
theorem QueI.push (h:QueI w lo g off n c l) {ad:Nat} {x:Int} (hx:w.cell? ⟨ad,0,none⟩=some (.int .i64 x)) (hn:n<=100000) (hlo:lo<=w.heap.size) (ty:TypeId):
  ∃g' off' c' w',(Builtin.append_ #[49,49] ty #[.slice (some ⟨g,off,none⟩) n c,.slice (some ⟨ad,0,none⟩) 1 1]).run Tryz.prog w= .ok (.slice (some ⟨g',off',none⟩) (n+1) c') w'/\QueI w' lo g' off' (n+1) c' (l++[x])/\Touch (fun b=>b=g) w w'/\(g'=g\/w.heap.size<=g'):=by
 obtain⟨i,hi,hz,hsize,hby⟩:=info_parts Tryz.infoInt
 have hnews: ∀j u,([Value.int .i64 x]:List Value)[j]? =some u->w.cell? ((⟨ad,0,none⟩:Addr).add j)=some u:=fun j u hu=>by
  match j,hu with
  |0,hu=>simp at hu;subst hu;rw [add_none];exact hx
 have hln:=h.len
 by_cases hroom:n+1<=c
 ·have hf:=run_firstCells_some (P:=Tryz.prog) w i.size 1 ⟨ad,0,none⟩ 1 1 [.int .i64 x] (by rw [hsize];rfl) hnews
  obtain⟨r1,r2⟩:=h.room n (by omega)
  have j0: ∀j,j<[Value.int .i64 x].length->j=0:=fun j hj=>by simpa using hj
  have hst:=run_storeCells_cells (P:=Tryz.prog) g (off+n) [.int .i64 x] 0 w (fun j hj=>by rw [j0 j hj];exact r1) (fun j hj=>by rw [j0 j hj];exact r2) (by simp [Value.oneCell'])
  have tt:Touch (fun b=>b=g) w (w.setCell ⟨g,off+n,none⟩ (.int .i64 x)):=(Touch.refl (fun b=>b=g) w).setCell (p:=⟨g,off+n,none⟩) (fun _=>rfl) _
  refine⟨g,off,c,w.setCell ⟨g,off+n,none⟩ (.int .i64 x),?_,⟨?_,?_,⟨h.low.1,by simpa [World.setCell]using h.low.2⟩,fun j y hy=> ?_,fun j hj=> ?_⟩,tt,.inl rfl⟩
  ·have hadd:(⟨g,off,none⟩:Addr).add n=⟨g,off+n,none⟩:=add_none _ _ _
   rw [hsize]at hf
   simp [Builtin.append_,run_underlying Tryz.underlying49,sizeOf,typeInfo,hi,hsize,Builtin.lenOf,hroom,hf,hadd,hst,World.setCells,Tryz.underlying3]
  ·rw [List.length_append,<-hln];rfl
  ·exact⟨hroom,h.cap.2⟩
  ·by_cases e:j=n
   ·subst e
    rw [hln,List.getElem?_concat_length]at hy
    have hy:=Option.some.inj hy
    rw [<-hy]
    exact World.cell?_setCell_same' _ _ _ r1
   ·have hjn:j<n:=by have:=(List.getElem?_eq_some_iff.1 hy).1;simp at this;omega
    rw [List.getElem?_append_left (by omega)]at hy
    rw [World.cell?_setCell_other _ _ _ _ (fun ea=>by injection ea with _ ea;omega)]
    exact h.at_ j y hy
  ·obtain⟨s1,s2⟩:=h.room j hj
   rw [World.frozen?_setCell]
   refine⟨?_,s2⟩
   by_cases e:j=n
   ·subst e
    rw [World.cell?_setCell_same' _ _ _ r1];rfl
   ·rw [World.cell?_setCell_other _ _ _ _ (fun ea=>by injection ea with _ ea;omega)]
    exact s1
 ·have hr:=run_append_grow (P:=Tryz.prog) w 49 ty 3 i (.int .i64 0) Tryz.underlying49 hi hz ⟨g,off,none⟩ n c (l.map (Value.int .i64)) (by rw [List.length_map,hsize];omega) (fun j u hu=>by
   rw [List.getElem?_map]at hu
   obtain⟨y,hy,rfl⟩:=Option.map_eq_some_iff.1 hu
   rw [add_none]
   exact h.at_ j y hy) ⟨ad,0,none⟩ 1 1 [.int .i64 x] (by rw [hsize];rfl) hnews (by omega) (by omega) (growslice_fits (by omega) (by rw [hby];omega))
  have hge:=grownCap_ge w (n+1) c 3
  have hcm:=grownCap_le_maxLen w (n+1) c 3 (by unfold maxLen;omega)
  generalize grownCap w (n+1) c 3=cc at *
  obtain⟨cs,hcs⟩: ∃cs,cs=(l.map (Value.int .i64)).toArray++[Value.int .i64 x].toArray++Builtin.zeroCells (Value.cells (.int .i64 0)) (cc - (n+1)):=⟨_,rfl⟩
  rw [<-hcs]at hr
  have k:Blk (w.drew.alloc (.cells cs 3)) w.heap.size 3 cs:=Blk.new w.drew _ _
  have hsz:cs.size=cc:=by rw [hcs];simp [Builtin.zeroCells,Value.cells];omega
  refine⟨w.heap.size,0,cc,_,hr,⟨by rw [List.length_append,<-hln];rfl,⟨hge,hcm⟩,⟨hlo,by simp⟩,fun j y hy=> ?_,fun j hj=>⟨?_,?_⟩⟩,((Touch.refl _ w).drew).alloc _,.inr (Nat.le_refl _)⟩
  ·rw [Nat.zero_add,k.cell,hcs]
   have:((l.map (Value.int .i64))++[Value.int .i64 x])[j]? =some (.int .i64 y):=by
    have:=congrArg (Option.map (Value.int .i64)) hy
    rw [<-List.getElem?_map]at this
    simpa using this
   have hj:=(List.getElem?_eq_some_iff.1 this).1
   rw [Array.getElem?_append_left (by simpa using hj)]
   rw [<-Array.getElem?_toList]
   simpa using this
  ·rw [Nat.zero_add,k.cell,Array.getElem?_eq_getElem (by omega)];rfl
  ·exact k.frozen _
theorem wp_push {ops:Array Oper} {rest:List Oper} {o:Oper} {a:Act} {Q:Exit->Act->World->Prop} (hgd:o.guard=none) (s x:Operand)
  (ho:o.op= .call {callee:= .builtin .append,args:= #[s,x],argTypes:= #[49,49]}) (h:QueI w lo g off n c l) (hs:a.eval s= .slice (some ⟨g,off,none⟩) n c) {ad:Nat} {y:Int} (hx:a.eval x= .slice (some ⟨ad,0,none⟩) 1 1) (hc:w.cell? ⟨ad,0,none⟩=some (.int .i64 y)) (hn:n<=100000) (hlo:lo<=w.heap.size)
  (hk: ∀g' off' c' w',QueI w' lo g' off' (n+1) c' (l++[y])->Touch (fun b=>b=g) w w'->(g'=g\/w.heap.size<=g')->wpList Tryz.prog ops Q rest (a.put o.dst (.slice (some ⟨g',off',none⟩) (n+1) c')) w'):wpList Tryz.prog ops Q (o::rest) a w:=by
 refine wpList_plain hgd fun _ hK=> ?_
 obtain⟨g',off',c',w',hrun,h2,h3,h4⟩:=h.push hc hn hlo o.type
 unfold Oper.wp execOp
 simp only [ho,resolve,invoke,builtin,Sem.run_bind,Sem.run_pure,Result.andThen_ok,List.map_toArray,List.map_cons,List.map_nil,hs,hx,hrun]
 exact hK _ _ (hk g' off' c' w' h2 h3 h4)
end
theorem Tryz.intKeyed:Keyed Tryz.prog 3:=int_keyed Tryz.underlying3
def nkey (n:Int):Lit:= .int .i64 n
theorem nkey_some {n:Int} (h: -9223372036854775808<=n/\n<=9223372036854775807):keyOf Tryz.prog 3 (.int .i64 n)=some (nkey n):=by
 have hw:=wf_i64_mk h
 have hkt:Tryz.prog.keyType 3=true:=by kernel_rfl
 unfold keyOf
 simp [Tryz.underlying3,hkt,Value.formed,mapKey,hw,nkey]
theorem nkey_inj {a b:Int} (h:nkey a=nkey b):a=b:=by injection h
structure NumMap (D:DataW Unit) (o:List Int):Prop where
 m:Maps.IsMap D
 at_: ∀x,D.atKey (nkey x) (.lit (.bool false))= .lit (.bool (decide (x∈o)))
theorem NumMap.empty:NumMap (.map []) []:=⟨⟨[],rfl⟩,fun x=>rfl⟩
theorem NumMap.put {D:DataW Unit} {o:List Int} (h:NumMap D o) {x:Int} (hx: -9223372036854775808<=x/\x<=9223372036854775807):NumMap (D.put (nkey x) (.lit (.bool true))) (o++[x]):=by
 refine⟨h.m.put _ _,fun y=> ?_⟩
 by_cases e:y=x
 ·subst e
  rw [Maps.atKey_put_same h.m (Tryz.intKeyed.key (nkey_some hx))]
  simp
 ·rw [Maps.atKey_put_other (fun c=>e (nkey_inj c)),h.at_ y]
  simp [e]
set_option maxRecDepth 100000 in
theorem NumMap.look {w:World} {b n:Nat} {D:DataW Unit} {o:List Int} (h:NumMap D o) (hm:w.ownsMap Tryz.prog 3 (plainElem Tryz.prog 4) b n D) {x:Int} (hx: -9223372036854775808<=x/\x<=9223372036854775807):
  (Instr.lookup 223 (.map (some b)) (.int .i64 x) false).run Tryz.prog w= .ok (.bool (decide (x∈o))) w:=by
 have hz:(zeroValue 4).run Tryz.prog w= .ok (.bool false) w:=Tryz.zeroValue4 w
 obtain⟨v,ps,hrun,hv⟩:=hm.lookup Tryz.intKeyed Tryz.underlying223 hz (plainElem_bool Tryz.underlying4 false) (nkey_some hx)
 rw [h.at_ x]at hv
 generalize decide (x∈o)=dd at *
 have hv2:v= .bool dd:=by
  unfold plainElem at hv
  rw [Tryz.underlying4]at hv
  cases v with
  |bool b=>simp only [Option.some.injEq,Prod.mk.injEq]at hv;have:=hv.1;injection this with this;injection this with this;rw [this]
  |_=>simp at hv
 subst hv2
 exact hrun
end
end Go.Proofs.YthlbjgabhpdbfaaGreat

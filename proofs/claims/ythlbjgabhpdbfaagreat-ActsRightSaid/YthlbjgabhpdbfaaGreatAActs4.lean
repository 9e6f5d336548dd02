/- Tables: an automaton with its lookaheads; a grammar's clashes. -/
import Derived.Test.YthlbjgabhpdbfaaGreatAActs1
import Derived.Test.YthlbjgabhpdbfaaGreatALook16
import Derived.Test.YthlbjgabhpdbfaaGreatAItemLay
namespace Go.Proofs.YthlbjgabhpdbfaaGreat
set_option linter.unusedVariables false
set_option linter.unusedSimpArgs false
open Go.RowKit
attribute [local irreducible] wpStill wpOne wpPh
theorem RdLks.touch {V V':World} {F S:Nat->Prop} {v:Value} {LL:List (List Lk)} (h:RdLks V F v LL) (t:Touch S V V') (hF: ∀b,F b-> ¬S b):RdLks V' F v LL:=by
 obtain⟨Z,h1,h2,h3⟩:=h
 exact⟨Z,h1,h2.touch t hF,fun j z x hz hx=>(h3 j z x hz hx).touch t hF⟩
theorem touch_three (W:World) (z:Nat) (u v x:Value):Touch (fun k=>k=z) W (((W.setCell ⟨z,0,none⟩ u).setCell ⟨z,1,none⟩ v).setCell ⟨z,2,none⟩ x):=
 Touch.setCell (touch_two W z u v) (p:=⟨z,2,none⟩) (fun _=>rfl) x
def MakesPost (w:World) (G:GramD) (st:Int) (e:Ending) (w':World):Prop:=Below w.heap.size w w'/\ ∃own A1 n1 c1 A2 n2 c2 ev D,e= .returned (.tuple #[.agg #[.int .i64 own,.slice A1 n1 c1,.slice A2 n2 c2],.int .i64 ev])/\AutoIs G st (checkOf G st) ev D/\(ev=0->own=(G.rules.length:Int)/\RdSt w' (fun b=>w.heap.size<=b/\b<w'.heap.size) (.slice A1 n1 c1) D/\RdLks w' (fun b=>w.heap.size<=b/\b<w'.heap.size) (.slice A2 n2 c2) (looksD G st D))
theorem MakesPost.mk {w w':World} {G:GramD} {st:Int} {e:Ending} {own:Int} {A1:Option Addr} {n1 c1:Nat} {A2:Option Addr} {n2 c2:Nat} {ev:Int} {D:Sts0} (hb:Below w.heap.size w w') (he:e= .returned (.tuple #[.agg #[.int .i64 own,.slice A1 n1 c1,.slice A2 n2 c2],.int .i64 ev])) (hA:AutoIs G st (checkOf G st) ev D)
  (h:ev=0->own=(G.rules.length:Int)/\RdSt w' (fun b=>w.heap.size<=b/\b<w'.heap.size) (.slice A1 n1 c1) D/\RdLks w' (fun b=>w.heap.size<=b/\b<w'.heap.size) (.slice A2 n2 c2) (looksD G st D)):MakesPost w G st e w':=⟨hb,own,A1,n1,c1,A2,n2,c2,ev,D,he,hA,h⟩
set_option maxRecDepth 100000 in
set_option maxHeartbeats 4000000 in
theorem acts_makes {w:World} {F:Nat->Prop} {vt vn vr:Value} {G:GramD} (h:IsGram w F vt vn vr G) (hF: ∀b,F b->b<w.heap.size) (st:Int):
  Calls Tryz.prog 70 #[GV vt vn vr st] w (MakesPost w G st):=by
 obtain⟨A1,c1,A2,c2,A3,c3,rfl,rfl,rfl,-⟩:=h.slices
 obtain⟨w1,hw1⟩: ∃w1,w1=w.alloc (.cells #[.slice A1 G.terms.length c1,.slice A2 G.nons.length c2,.slice A3 G.rules.length c3,.int .i64 st] 25):=⟨_,rfl⟩
 have g1:=GBox.new h st
 have b1:Below w.heap.size w w1:=by rw [hw1];exact(Below.refl _ w).alloc (Nat.le_refl _) _
 rw [<-hw1]at g1
 have hz:w1.heap.size=w.heap.size+1:=by rw [hw1];simp
 obtain⟨w2,hw2⟩: ∃x,x=w1.alloc (.cells #[.int .i64 0,.slice none 0 0,.slice none 0 0] 103):=⟨_,rfl⟩
 have b2:Below w1.heap.size w1 w2:=by rw [hw2];exact(Below.refl _ _).alloc (Nat.le_refl _) _
 have k2:Blk w2 w1.heap.size 103 #[.int .i64 0,.slice none 0 0,.slice none 0 0]:=by rw [hw2];exact Blk.new _ _ _
 have g2:=g1.below b2
 have b02:=b1.trans (b2.mono b1.size)
 rw [hz]at k2
 have cf:=fun wr (g:GBox wr F w.heap.size A1 c1 A2 c2 A3 c3 G.terms.length G.nons.length G.rules.length st G)=>auto_build g.gram g.gram.lt st
 have cl:=fun wr (g:GBox wr F w.heap.size A1 c1 A2 c2 A3 c3 G.terms.length G.nons.length G.rules.length st G)=>look_Of g.gram g.gram.lt st
 obtain⟨q0,q1,q2,q3⟩:=g2.cells
 generalize hT:G.terms.length=T at *
 generalize hN:G.nons.length=N at *
 generalize hR:G.rules.length=R at *
 have hz2:w2.heap.size=w.heap.size+2:=by rw [hw2,World.size_alloc,hz]
 rw [hw1]at hw2
 have c0:=cf _ g2
 clear h hF g1 b1 b2 hz hw1
 obtain⟨Xg2,Xb02,Xk2,Xcf,Xcl,Xc0,XhR,XhT,XhN,Xhz2⟩:=HqZ10 g2 b02 k2 cf cl c0 hR hT hN hz2;clear g2 b02 k2 cf cl c0 hR hT hN hz2
 go_enter Tryz.func70,Tryz.ntmps70
 go_wp2_with fail
 rw [<-hw2]
 refine Xc0.out.mono ?_
 rintro e w3 hp
 obtain⟨b3,Aa,na,ca,ev,D,rfl,rs3,hai⟩:=hp.flat
 have g3:=Xg2.out.below b3
 have k3:=Xk2.out.below b3 Xk2.out.lt
 have b03:=Xb02.out.trans (b3.mono Xb02.out.size)
 have rs3:=rs3.mono (F':=fun b=>w.heap.size+2<=b/\b<w3.heap.size) (fun b hb=>⟨by have:=Xhz2.out;omega,hb.2⟩)
 have hz3:w.heap.size+2<=w3.heap.size:=by have:=Xhz2.out;have:=b3.size;omega
 clear hp q0 q1 q2 q3 hw2 Xc0 Xg2 Xk2 b3
 by_cases hev:ev=0
 ·subst hev
  have c1:=Xcl.out _ g3
  obtain⟨q0,q1,q2,q3⟩:=g3.cells
  obtain⟨Xg3,Xk3,Xb03,Xrs3,Xhai,Xc1⟩:=HqZ6 g3 k3 b03 rs3 hai c1;clear g3 k3 b03 rs3 hai c1
  go_wp2_with fail
  refine Xc1.out.mono ?_
  rintro e w4 hp
  obtain⟨b4,Ab,nb,cb,ev',D',rfl,hai',rd4⟩:=hp
  obtain⟨rfl,rfl⟩:=Xhai.out.unique hai'
  have g4:=Xg3.out.below b4
  have k4:=Xk3.out.below b4 Xk3.out.lt
  have b04:=Xb03.out.trans (b4.mono Xb03.out.size)
  have rs4:=(Xrs3.out.below b4 (fun b hb=>hb.2)).mono (F':=fun b=>w.heap.size+2<=b/\b<w4.heap.size) (fun b hb=>⟨hb.1,Nat.lt_of_lt_of_le hb.2 b4.size⟩)
  have rd4:=rd4.mono (F':=fun b=>w.heap.size+2<=b/\b<w4.heap.size) (fun b hb=>⟨Nat.le_trans hz3 hb.1,hb.2⟩)
  obtain⟨q0,q1,q2,q3⟩:=g4.cells
  obtain⟨d0,d1,d2⟩:w4.cell? ⟨w.heap.size+1,0,none⟩=some (.int .i64 0)/\w4.cell? ⟨w.heap.size+1,1,none⟩=some (.slice none 0 0)/\w4.cell? ⟨w.heap.size+1,2,none⟩=some (.slice none 0 0):=⟨(k4.cell 0).trans rfl,(k4.cell 1).trans rfl,(k4.cell 2).trans rfl⟩
  have z0:=k4.frozen 0
  have z1:=k4.frozen 1
  have z2:=k4.frozen 2
  clear hai' b4 Xg3 Xk3 Xb03 Xrs3 Xc1
  obtain⟨Xg4,Xk4,Xb04,Xrs4,Xrd4⟩:=HqZ5 g4 k4 b04 rs4 rd4;clear g4 k4 b04 rs4 rd4
  go_wp2_with fail
  have k5:=((Xk4.out.put 0 (.int .i64 (R:Int))).put 1 (.slice Aa na ca)).put 2 (.slice Ab nb cb)
  have t5:=touch_three w4 (w.heap.size+1) (.int .i64 (R:Int)) (.slice Aa na ca) (.slice Ab nb cb)
  have e0:=(k5.cell 0).trans rfl
  have e1:=(k5.cell 1).trans rfl
  have e2:=(k5.cell 2).trans rfl
  refine bodyPost_ret (v:= .tuple #[.agg #[.int .i64 (R:Int),.slice Aa na ca,.slice Ab nb cb],.int .i64 0]) (by simp [results,Tryz.results70,go_sem,e0,e1,e2]) rfl ?_
  refine MakesPost.mk (t5.toBelow (fun k e=>by omega) Xb04.out Xb04.out.size) rfl Xhai.out fun _=>⟨by rw [XhR.out],(Xrs4.out.touch t5 (fun b hb e=>by omega)).mono fun b hb=>⟨by omega,Nat.lt_of_lt_of_le hb.2 t5.size⟩,(Xrd4.out.touch t5 (fun b hb e=>by omega)).mono fun b hb=>⟨by omega,Nat.lt_of_lt_of_le hb.2 t5.size⟩⟩
 ·have hev':(ev !=0)=true:=by simpa using hev
  obtain⟨d0,d1,d2⟩:w3.cell? ⟨w.heap.size+1,0,none⟩=some (.int .i64 0)/\w3.cell? ⟨w.heap.size+1,1,none⟩=some (.slice none 0 0)/\w3.cell? ⟨w.heap.size+1,2,none⟩=some (.slice none 0 0):=⟨(k3.cell 0).trans rfl,(k3.cell 1).trans rfl,(k3.cell 2).trans rfl⟩
  have z0:=k3.frozen 0
  have z1:=k3.frozen 1
  have z2:=k3.frozen 2
  obtain⟨Xg3,Xk3,Xb03,Xrs3,Xhai,Xhev⟩:=HqZ6 g3 k3 b03 rs3 hai hev;clear g3 k3 b03 rs3 hai hev
  go_wp2_with fail
  have k5:=((Xk3.out.put 0 (.int .i64 0)).put 1 (.slice none 0 0)).put 2 (.slice none 0 0)
  have t5:=touch_three w3 (w.heap.size+1) (.int .i64 0) (.slice none 0 0) (.slice none 0 0)
  have e0:=(k5.cell 0).trans rfl
  have e1:=(k5.cell 1).trans rfl
  have e2:=(k5.cell 2).trans rfl
  refine bodyPost_ret (v:= .tuple #[.agg #[.int .i64 0,.slice none 0 0,.slice none 0 0],.int .i64 ev]) (by simp [results,Tryz.results70,go_sem,e0,e1,e2]) rfl ?_
  exact MakesPost.mk (t5.toBelow (fun k e=>by omega) Xb03.out Xb03.out.size) rfl Xhai.out fun h=>absurd h Xhev.out
theorem AutoIs.ok {G:GramD} {st ck:Int} {D:Sts0} (h:AutoIs G st ck 0 D):ck=0/\ ∃L T,Bld G st L.length L T/\D=stD L T:=by
 rcases h with⟨h1,h2,-⟩|⟨-,-,h2,-⟩|⟨h1,L,T,h2,-,h3⟩
 ·exact absurd h2.symm h1
 ·cases h2
 ·cases h2 with
  |ok _ _ hb=>exact⟨h1,L,T,hb,h3⟩
theorem SmallD.of {G:GramD} {st:Int} {D:Sts0} (h:AutoIs G st (checkOf G st) 0 D):SmallD D (looksD G st D) G.terms.length:=by
 obtain⟨hc,L,T,hb,rfl⟩:=h.ok
 have hK:=KnA.of_check hc
 have hf:=hb.f
 refine⟨by rw [stD_len];exact hf.small,looksD_len _ _ _,fun i e he=> ?_,fun i l hl=> ?_,hK.t⟩
 ·obtain⟨t,ht,-,e2⟩:=st_way hb he
  rw [e2]
  have h1:=hf.tlen t (List.mem_of_getElem? ht)
  have h2:=hK.t
  have h3:=hK.n
  unfold topOf at h1
  omega
 ·obtain⟨e,he⟩: ∃e,(stD L T)[i]? =some e:=⟨_,List.getElem?_eq_getElem (by have:=(List.getElem?_eq_some_iff.1 hl).1;rwa [looksD_len]at this)⟩
  rw [looksD_get he]at hl
  injection hl with hl
  rw [<-hl]
  have h1:=lks_len301 (G:=G) (st:=st) (D:=stD L T) (i:=i) (e:=e)
  have h2:=hK.r
  omega
noncomputable def clsOf (G:GramD) (st ev:Int) (D:Sts0):List Cla:=if ev=0 then clsD G.rules.length D (looksD G st D) (G.terms.length+1) D.length else []
def ClashesPost (w:World) (G:GramD) (st:Int) (e:Ending) (w':World):Prop:=Below w.heap.size w w'/\ ∃A c ev D,e= .returned (.tuple #[.slice A (clsOf G st ev D).length c,.int .i64 ev])/\AutoIs G st (checkOf G st) ev D/\Rd w' (fun b=>w.heap.size<=b/\b<w'.heap.size) (.slice A (clsOf G st ev D).length c) 6 (claCells (clsOf G st ev D))
theorem ClashesPost.mk {w w':World} {G:GramD} {st:Int} {e:Ending} {A:Option Addr} {n c:Nat} {ev:Int} {D:Sts0} (hb:Below w.heap.size w w') (hA:AutoIs G st (checkOf G st) ev D) (hn:n=(clsOf G st ev D).length) (he:e= .returned (.tuple #[.slice A n c,.int .i64 ev])) (hr:Rd w' (fun b=>w.heap.size<=b/\b<w'.heap.size) (.slice A n c) 6 (claCells (clsOf G st ev D))):ClashesPost w G st e w':=by
 subst hn
 exact⟨hb,A,c,ev,D,he,hA,hr⟩
set_option maxRecDepth 100000 in
set_option maxHeartbeats 4000000 in
theorem acts_Clashes {w:World} {F:Nat->Prop} {vt vn vr:Value} {G:GramD} (h:IsGram w F vt vn vr G) (hF: ∀b,F b->b<w.heap.size) (st:Int):
  Calls Tryz.prog 18 #[GV vt vn vr st] w (ClashesPost w G st):=by
 obtain⟨A1,c1,A2,c2,A3,c3,rfl,rfl,rfl,l1,-,-,m1,-,-⟩:=h.slices
 obtain⟨w1,hw1⟩: ∃w1,w1=w.alloc (.cells #[.slice A1 G.terms.length c1,.slice A2 G.nons.length c2,.slice A3 G.rules.length c3,.int .i64 st] 25):=⟨_,rfl⟩
 have g1:=GBox.new h st
 have b1:Below w.heap.size w w1:=by rw [hw1];exact(Below.refl _ w).alloc (Nat.le_refl _) _
 rw [<-hw1]at g1
 have cm:=acts_makes g1.gram g1.gram.lt st
 obtain⟨q0,q1,q2,q3⟩:=g1.cells
 generalize hT:G.terms.length=T at *
 generalize hN:G.nons.length=N at *
 generalize hR:G.rules.length=R at *
 clear h hF
 obtain⟨Xg1,Xb1,Xcm,XhT,XhN,XhR⟩:=HqZ6 g1 b1 cm hT hN hR;clear g1 b1 cm hT hN hR
 go_enter Tryz.func18,Tryz.ntmps18
 go_wp2_with fail
 rw [<-hw1]
 refine Xcm.out.mono ?_
 rintro e w2 ⟨b2,own,Aa,na,ca,Ab,nb,cb,ev,D,rfl,hai,hrd⟩
 have g2:=Xg1.out.below b2
 have b02:=Xb1.out.trans (b2.mono Xb1.out.size)
 have al:Below w2.heap.size w2 (w2.alloc (.cells #[.int .i64 own,.slice Aa na ca,.slice Ab nb cb] 103)):=(Below.refl _ _).alloc (Nat.le_refl _) _
 have g3:=g2.below al
 have kM:Blk (w2.alloc (.cells #[.int .i64 own,.slice Aa na ca,.slice Ab nb cb] 103)) w2.heap.size 103 #[.int .i64 own,.slice Aa na ca,.slice Ab nb cb]:=Blk.new _ _ _
 have b03:=b02.trans (al.mono b02.size)
 obtain⟨d0,d1,d2⟩:(w2.alloc (.cells #[.int .i64 own,.slice Aa na ca,.slice Ab nb cb] 103)).cell? ⟨w2.heap.size,0,none⟩=some (.int .i64 own)/\(w2.alloc (.cells #[.int .i64 own,.slice Aa na ca,.slice Ab nb cb] 103)).cell? ⟨w2.heap.size,1,none⟩=some (.slice Aa na ca)/\(w2.alloc (.cells #[.int .i64 own,.slice Aa na ca,.slice Ab nb cb] 103)).cell? ⟨w2.heap.size,2,none⟩=some (.slice Ab nb cb):=⟨(kM.cell 0).trans rfl,(kM.cell 1).trans rfl,(kM.cell 2).trans rfl⟩
 clear q0 q1 q2 q3 hw1 Xcm Xg1 Xb1 b2 kM
 by_cases hev:ev=0
 ·subst hev
  obtain⟨hown,rs,rd⟩:=hrd rfl
  rw [XhR.out]at hown
  subst hown
  have hS:=SmallD.of hai
  rw [XhT.out]at hS
  have cc:=acts_clashes (rs.below al (fun b hb=>hb.2)) (rd.below al (fun b hb=>hb.2)) (fun b hb=>Nat.lt_of_lt_of_le hb.2 al.size) (R:Int) hS
  obtain⟨q0,q1,q2,q3⟩:=g3.cells
  have hcl:clsOf G st 0 D=clsD (R:Int) D (looksD G st D) (T+1) D.length:=by unfold clsOf;rw [if_pos rfl,XhR.out,XhT.out]
  generalize clsD (R:Int) D (looksD G st D) (T+1) D.length=cl at *
  clear hS rs rd hrd al
  obtain⟨Xg2,Xg3,Xb03,Xhai,Xcc,Xhcl,Xb02⟩:=HqZ7 g2 g3 b03 hai cc hcl b02;clear g2 g3 b03 hai cc hcl b02
  go_wp2_with fail
  refine Xcc.out.mono ?_
  rintro e w3 ⟨b3,A,c,rfl,rdc⟩
  have b04:=Xb03.out.trans (b3.mono Xb03.out.size)
  have hz3:=Xb03.out.size
  obtain⟨n,hn⟩: ∃n,n=cl.length:=⟨_,rfl⟩
  rw [<-hn]at rdc⊢
  rw [<-Xhcl.out]at hn rdc
  have rdc:=rdc.mono (F':=fun b=>w.heap.size<=b/\b<w3.heap.size) (fun b hb=>⟨Nat.le_trans hz3 hb.1,hb.2⟩)
  clear b3 Xcc q0 q1 q2 q3 d0 d1 d2
  obtain⟨Xb04,Xhn,Xrdc⟩:=HqZ3 b04 hn rdc;clear b04 hn rdc
  go_wp2_with fail
  go_ret2
  exact ClashesPost.mk Xb04.out Xhai.out Xhn.out rfl Xrdc.out
 ·have hev':(ev !=0)=true:=by simpa using hev
  have hcl:clsOf G st ev D=[]:=by unfold clsOf;rw [if_neg hev]
  clear hrd al
  obtain⟨Xg2,Xg3,Xb03,Xhai,Xhcl,Xb02,Xhev⟩:=HqZ7 g2 g3 b03 hai hcl b02 hev;clear g2 g3 b03 hai hcl b02 hev
  go_wp2_with fail
  go_ret2
  exact ClashesPost.mk Xb03.out Xhai.out (by rw [Xhcl.out];rfl) rfl (by rw [Xhcl.out];exact Rd.nil _ _ _)
def RdRw {X:Type} (E:Value->X->Prop) (w:World) (F:Nat->Prop) (v:Value) (l:List X):Prop:= ∃Z:List Value,Z.length=l.length/\Rd w F v 1 Z/\ ∀(j:Nat) z x,Z[j]? =some z->l[j]? =some x->E z x
theorem RdRw.mono' {X:Type} {E E':Value->X->Prop} {w w':World} {F F':Nat->Prop} {v:Value} {l:List X} (h:RdRw E w F v l) (hR: ∀Z,Rd w F v 1 Z->Rd w' F' v 1 Z) (hE: ∀z x,E z x->E' z x):RdRw E' w' F' v l:=by
 obtain⟨Z,h1,h2,h3⟩:=h
 exact⟨Z,h1,hR Z h2,fun j z x hz hx=>hE z x (h3 j z x hz hx)⟩
abbrev RdAs (w:World) (F:Nat->Prop) (v:Value) (l:List (List Ac)):Prop:=RdRw (fun z x=>RdIt w F z x) w F v l
abbrev RdIs (w:World) (F:Nat->Prop) (v:Value) (l:List (List Int)):Prop:=RdRw (fun z x=>RdI w F z x) w F v l
theorem RdRw.shape {X:Type} {E:Value->X->Prop} {w:World} {F:Nat->Prop} {v:Value} {l:List X} (h:RdRw E w F v l): ∃A c,v= .slice A l.length c/\l.length<=c/\c<=maxLen:=by
 obtain⟨Z,h1,⟨A,n,c,hv,hc,hm,hl,-⟩,-⟩:=h
 have:n=l.length:=by omega
 subst this
 exact⟨A,c,hv,hc,hm⟩
theorem RdRw.at_ {X:Type} {E:Value->X->Prop} {w:World} {F:Nat->Prop} {A:Option Addr} {n c:Nat} {l:List X} (h:RdRw E w F (.slice A n c) l):n=l.length/\n<=c/\c<=maxLen/\(0<n-> ∃b off,A=some ⟨b,off,none⟩/\F b/\ ∀(i:Nat) x,l[i]? =some x-> ∃z,w.cell? ⟨b,off+i,none⟩=some z/\E z x):=by
 obtain⟨Z,h1,⟨A',n',c',hv,hc,hm,hl,hr⟩,h3⟩:=h
 injection hv with e1 e2 e3
 subst e1 e2 e3
 refine⟨by omega,hc,hm,fun hn=> ?_⟩
 obtain⟨b,off,hA,hF,hcell⟩:=hr hn
 refine⟨b,off,hA,hF,fun i x hx=> ?_⟩
 obtain⟨z,hz⟩: ∃z,Z[i]? =some z:=⟨_,List.getElem?_eq_getElem (by have:=(List.getElem?_eq_some_iff.1 hx).1;omega)⟩
 exact⟨z,hcell i z hz,h3 i z x hz hx⟩
theorem RdAs.below {w w':World} {F:Nat->Prop} {B:Nat} {v:Value} {l:List (List Ac)} (h:RdAs w F v l) (b:Below B w w') (hF: ∀k,F k->k<B):RdAs w' F v l:=RdRw.mono' h (fun Z r=>r.below b hF) fun z x r=>Rd.below r b hF
theorem RdIs.below {w w':World} {F:Nat->Prop} {B:Nat} {v:Value} {l:List (List Int)} (h:RdIs w F v l) (b:Below B w w') (hF: ∀k,F k->k<B):RdIs w' F v l:=RdRw.mono' h (fun Z r=>r.below b hF) fun z x r=>Rd.below r b hF
theorem RdAs.row {w:World} {F:Nat->Prop} {A:Option Addr} {n c:Nat} {l:List (List Ac)} (h:RdAs w F (.slice A n c) l) {i:Nat} {x:List Ac} (hx:l[i]? =some x): ∃b off A' c',A=some ⟨b,off,none⟩/\F b/\w.cell? ⟨b,off+i,none⟩=some (.slice A' x.length c')/\RdIt w F (.slice A' x.length c') x/\x.length<=c'/\c'<=maxLen:=by
 obtain⟨hn,-,-,hc⟩:=RdRw.at_ h
 obtain⟨b,off,hA,hF,hcc⟩:=hc (by have:=(List.getElem?_eq_some_iff.1 hx).1;omega)
 obtain⟨z,hz,r⟩:=hcc i x hx
 obtain⟨A',n',c',rfl,-⟩:=id r
 obtain⟨rfl,h1,h2,-⟩:=RdIt.at_ r
 exact⟨b,off,A',c',hA,hF,hz,r,h1,h2⟩
theorem RdIs.row {w:World} {F:Nat->Prop} {A:Option Addr} {n c:Nat} {l:List (List Int)} (h:RdIs w F (.slice A n c) l) {i:Nat} {x:List Int} (hx:l[i]? =some x): ∃b off A' c',A=some ⟨b,off,none⟩/\F b/\w.cell? ⟨b,off+i,none⟩=some (.slice A' x.length c')/\RdI w F (.slice A' x.length c') x/\x.length<=c'/\c'<=maxLen:=by
 obtain⟨hn,-,-,hc⟩:=RdRw.at_ h
 obtain⟨b,off,hA,hF,hcc⟩:=hc (by have:=(List.getElem?_eq_some_iff.1 hx).1;omega)
 obtain⟨z,hz,r⟩:=hcc i x hx
 obtain⟨A',n',c',rfl,-⟩:=id r
 obtain⟨rfl,h1,h2,-⟩:=RdI.at_ r
 exact⟨b,off,A',c',hA,hF,hz,r,h1,h2⟩
def W64 (x:Int):Prop:= -9223372036854775808<=x/\x<=9223372036854775807
structure IsTab (w:World) (F:Nat->Prop) (vr va vg:Value) (t:TabD):Prop where
 rules:RdL w F 2 (ERule w F) vr t.rules
 acts:RdAs w F va t.acts
 goto:RdIs w F vg t.goto
 lt: ∀b,F b->b<w.heap.size
 tn:W64 t.terms/\W64 t.nons
 wr: ∀r∈t.rules,W64 r.1
theorem IsTab.below {w w':World} {F:Nat->Prop} {vr va vg:Value} {t:TabD} (h:IsTab w F vr va vg t) (b:Below w.heap.size w w'):IsTab w' F vr va vg t:=
 ⟨h.rules.below b h.lt fun cs x _ e=>e.below b h.lt,h.acts.below b h.lt,h.goto.below b h.lt,fun k hk=>Nat.lt_of_lt_of_le (h.lt k hk) b.size,h.tn,h.wr⟩
abbrev TV (vr:Value) (T N:Int) (va vg:Value):Value:= .agg #[vr,.int .i64 T,.int .i64 N,va,vg]
theorem IsTab.slices {w:World} {F:Nat->Prop} {vr va vg:Value} {t:TabD} (h:IsTab w F vr va vg t): ∃A1 c1 A2 c2 A3 c3,vr= .slice A1 t.rules.length c1/\va= .slice A2 t.acts.length c2/\vg= .slice A3 t.goto.length c3/\t.rules.length<=c1/\t.acts.length<=c2/\t.goto.length<=c3/\c1<=9223372036854775807/\c2<=9223372036854775807/\c3<=9223372036854775807:=by
 obtain⟨A1,c1,e1,h1,m1,-⟩:=h.rules
 obtain⟨A2,c2,e2,h2,m2⟩:=RdRw.shape h.acts
 obtain⟨A3,c3,e3,h3,m3⟩:=RdRw.shape h.goto
 unfold maxLen at m1 m2 m3
 exact⟨A1,c1,A2,c2,A3,c3,e1,e2,e3,h1,h2,h3,by omega,by omega,by omega⟩
structure TBox (w:World) (F:Nat->Prop) (B:Nat) (A1:Option Addr) (c1:Nat) (A2:Option Addr) (c2:Nat) (A3:Option Addr) (c3 R n m:Nat) (T N:Int) (t:TabD):Prop where
 tab:IsTab w F (.slice A1 R c1) (.slice A2 n c2) (.slice A3 m c3) t
 blk:Blk w B 35 #[.slice A1 R c1,.int .i64 T,.int .i64 N,.slice A2 n c2,.slice A3 m c3]
section
variable {w w' : World} {F : Nat -> Prop} {B : Nat} {A1 : Option Addr} {c1 : Nat} {A2 : Option Addr} {c2 : Nat} {A3 : Option Addr} {c3 R n m : Nat} {T N : Int} {t : TabD}
theorem TBox.new (h:IsTab w F (.slice A1 R c1) (.slice A2 n c2) (.slice A3 m c3) t) (T N:Int):TBox (w.alloc (.cells #[.slice A1 R c1,.int .i64 T,.int .i64 N,.slice A2 n c2,.slice A3 m c3] 35)) F w.heap.size A1 c1 A2 c2 A3 c3 R n m T N t:=⟨h.below ((Below.refl _ _).alloc (Nat.le_refl _) _),Blk.new _ _ _⟩
theorem TBox.below (h:TBox w F B A1 c1 A2 c2 A3 c3 R n m T N t) (b:Below w.heap.size w w'):TBox w' F B A1 c1 A2 c2 A3 c3 R n m T N t:=⟨h.tab.below b,h.blk.below b h.blk.lt⟩
theorem TBox.cells (h:TBox w F B A1 c1 A2 c2 A3 c3 R n m T N t):w.cell? ⟨B,0,none⟩=some (.slice A1 R c1)/\w.cell? ⟨B,1,none⟩=some (.int .i64 T)/\w.cell? ⟨B,2,none⟩=some (.int .i64 N)/\w.cell? ⟨B,3,none⟩=some (.slice A2 n c2)/\w.cell? ⟨B,4,none⟩=some (.slice A3 m c3):=
 ⟨(h.blk.cell 0).trans rfl,(h.blk.cell 1).trans rfl,(h.blk.cell 2).trans rfl,(h.blk.cell 3).trans rfl,(h.blk.cell 4).trans rfl⟩
end
theorem may0 {n r:Nat} {a:Ac} (h:a.1=0\/a.1=3):mayA n r a=decide (a.2=0):=if_pos h
theorem may1 {n r:Nat} {a:Ac} (h:a.1=1):mayA n r a=(decide (0<=a.2)&&decide (a.2<n)):=by unfold mayA;rw [if_neg (by omega),if_pos h]
theorem may2 {n r:Nat} {a:Ac} (h:a.1=2):mayA n r a=(decide (0<=a.2)&&decide (a.2<(r:Int) - 1)):=by unfold mayA;rw [if_neg (by omega),if_neg (by omega),decide_eq_true h];rfl
theorem may9 {n r:Nat} {a:Ac} (h:a.1≠0/\a.1≠1/\a.1≠2/\a.1≠3):mayA n r a=false:=by unfold mayA;rw [if_neg (by omega),if_neg (by omega),decide_eq_false h.2.2.1];rfl
theorem acts_may {A1:Option Addr} {c1:Nat} {A2:Option Addr} {c2:Nat} {A3:Option Addr} {c3 R n m:Nat} (T N:Int) (hR:R<=c1/\c1<=9223372036854775807) (hn:n<=c2/\c2<=9223372036854775807) (a:Ac) (w:World):
  Calls Tryz.prog 160 #[TV (.slice A1 R c1) T N (.slice A2 n c2) (.slice A3 m c3),.agg #[.int .i64 a.1,.int .i64 a.2]] w (Quiet w (.bool (mayA n R a))):=by
 have b2:Below w.heap.size w ((w.alloc (.cells #[.slice A1 R c1,.int .i64 T,.int .i64 N,.slice A2 n c2,.slice A3 m c3] 35)).alloc (.cells #[.int .i64 a.1,.int .i64 a.2] 46)):=((Below.refl _ w).alloc (Nat.le_refl _) _).alloc (by simp) _
 obtain⟨k,x⟩:=a
 simp only at b2⊢
 have m0:=fun h=>may0 (n:=n) (r:=R) (a:=(k,x)) h
 have m1:=fun h=>may1 (n:=n) (r:=R) (a:=(k,x)) h
 have m2:=fun h=>may2 (n:=n) (r:=R) (a:=(k,x)) h
 have m9:=fun h=>may9 (n:=n) (r:=R) (a:=(k,x)) h
 simp only at m0 m1 m2 m9
 generalize mayA n R (k,x)=y at *
 have hw:IntKind.i64.wrap ((R:Int) - 1)=(R:Int) - 1:=by rw [IntKind.wrap_i64];omega
 obtain⟨Xb2,Xm0,Xm1,Xm2,Xm9⟩:=HqZ5 b2 m0 m1 m2 m9;clear b2 m0 m1 m2 m9
 by_cases h0:k=0
 ·subst h0
  have hy:=Xm0.out (.inl rfl)
  have Xhy:=hide hy;clear hy
  go_enter Tryz.func160,Tryz.ntmps160
  go_wp2_with fail
  go_ret
  exact⟨ret_bool (by rw [Xhy.out,Bool.beq_eq_decide_eq]),Xb2.out⟩
 ·have h0':(k==0)=false:=by simpa using h0
  by_cases h3:k=3
  ·subst h3
   have hy:=Xm0.out (.inr rfl)
   have Xhy:=hide hy;clear hy
   go_enter Tryz.func160,Tryz.ntmps160
   go_wp2_with fail
   go_ret
   exact⟨ret_bool (by rw [Xhy.out,Bool.beq_eq_decide_eq]),Xb2.out⟩
  ·have h3':(k==3)=false:=by simpa using h3
   by_cases h1:k=1
   ·subst h1
    have hy:=Xm1.out rfl
    by_cases hx:0<=x
    ·rw [decide_eq_true hx]at hy
     have Xhy:=hide hy;clear hy
     go_enter Tryz.func160,Tryz.ntmps160
     go_wp2_with fail
     go_ret
     exact⟨ret_bool (by rw [Xhy.out];rfl),Xb2.out⟩
    ·rw [decide_eq_false hx]at hy
     have Xhy:=hide hy;clear hy
     go_enter Tryz.func160,Tryz.ntmps160
     go_wp2_with fail
     go_ret
     exact⟨ret_bool (by rw [Xhy.out];rfl),Xb2.out⟩
   ·have h1':(k==1)=false:=by simpa using h1
    by_cases h2:k=2
    ·subst h2
     have hy:=Xm2.out rfl
     by_cases hx:0<=x
     ·rw [decide_eq_true hx]at hy
      have Xhy:=hide hy;clear hy
      go_enter Tryz.func160,Tryz.ntmps160
      go_wp2_with fail
      go_ret
      exact⟨ret_bool (by rw [Xhy.out];rfl),Xb2.out⟩
     ·rw [decide_eq_false hx]at hy
      have Xhy:=hide hy;clear hy
      go_enter Tryz.func160,Tryz.ntmps160
      go_wp2_with fail
      go_ret
      exact⟨ret_bool (by rw [Xhy.out];rfl),Xb2.out⟩
    ·have h2':(k==2)=false:=by simpa using h2
     have hy:=Xm9.out ⟨h0,h1,h2,h3⟩
     have Xhy:=hide hy;clear hy
     go_enter Tryz.func160,Tryz.ntmps160
     go_wp2_with fail
     go_ret
     exact⟨ret_bool Xhy.out.symm,Xb2.out⟩
theorem all_no' {α:Type} {p:α->Bool} {l:List α} {k:Nat} {x:α} (h:l[k]? =some x) (hp:p x=false):l.all p=false:=by
 rw [<-Bool.not_eq_true,List.all_eq_true]
 intro hh
 have:=hh x (List.mem_of_getElem? h)
 rw [hp]at this
 cases this
theorem all_upto {α:Type} {p:α->Bool} {l:List α} {k:Nat} {x:α} (h:l[k]? =some x) (ha:(l.take k).all p=true) (hp:p x=true):(l.take (k+1)).all p=true:=by
 rw [List.take_add_one,h,List.all_append,ha]
 simp [hp]
theorem all_end {α:Type} {p:α->Bool} {l:List α} {k:Nat} (ha:(l.take k).all p=true) (hk:l.length<=k):l.all p=true:=by rwa [List.take_of_length_le hk]at ha
theorem rowT_head {T N:Int} {n r:Nat} {x:List Ac} {y:List Int} (h:x.length=0\/(x.length:Int) - 1≠T\/(y.length:Int)≠N):rowT T N n r (x,y)=false:=by
 unfold rowT
 rcases h with h|h|h
 ·simp [h]
 ·simp [h]
 ·simp [h]
theorem rowT_body {T N:Int} {n r:Nat} {x:List Ac} {y:List Int} (h0: ¬x.length=0) (h1:(x.length:Int) - 1=T) (h2:(y.length:Int)=N):rowT T N n r (x,y)=(x.all (mayA n r)&&y.all (wayA n)):=by
 unfold rowT
 simp only [h1,h2,decide_true,Bool.and_self,Bool.and_true]
 rw [decide_eq_false h0];rfl
set_option maxRecDepth 100000 in
set_option maxHeartbeats 4000000 in
theorem acts_row {w:World} {F:Nat->Prop} {vr va vg:Value} {t:TabD} (h:IsTab w F vr va vg t) {i:Nat} {x:List Ac} {y:List Int} (hx:t.acts[i]? =some x) (hy:t.goto[i]? =some y):
  Calls Tryz.prog 81 #[TV vr t.terms t.nons va vg,.int .i64 (i:Int)] w (Quiet w (.bool (rowT t.terms t.nons t.acts.length t.rules.length (x,y)))):=by
 obtain⟨A1,c1,A2,c2,A3,c3,rfl,rfl,rfl,l1,l2,l3,m1,m2,m3⟩:=h.slices
 obtain⟨tn,nn⟩:=h.tn
 have hF:=h.lt
 have hi1:=(List.getElem?_eq_some_iff.1 hx).1
 have hi2:=(List.getElem?_eq_some_iff.1 hy).1
 have f1:=fun hh=>rowT_head (T:=t.terms) (N:=t.nons) (n:=t.acts.length) (r:=t.rules.length) (x:=x) (y:=y) hh
 have f2:=fun a b c=>rowT_body (T:=t.terms) (N:=t.nons) (n:=t.acts.length) (r:=t.rules.length) (x:=x) (y:=y) a b c
 obtain⟨w1,hw1⟩: ∃w1,w1=w.alloc (.cells #[.slice A1 t.rules.length c1,.int .i64 t.terms,.int .i64 t.nons,.slice A2 t.acts.length c2,.slice A3 t.goto.length c3] 35):=⟨_,rfl⟩
 have g1:=TBox.new h t.terms t.nons
 have b1:Below w.heap.size w w1:=by rw [hw1];exact(Below.refl _ w).alloc (Nat.le_refl _) _
 rw [<-hw1]at g1
 obtain⟨ba,oa,A4,c4,hA2,-,p4,rx,l4,m4⟩:=RdAs.row g1.tab.acts hx
 obtain⟨bg,og,A5,c5,hA3,-,p5,ry,l5,m5⟩:=RdIs.row g1.tab.goto hy
 subst hA2 hA3
 obtain⟨q0,q1,q2,q3,q4⟩:=g1.cells
 have hcm:=fun(a:Ac) wr=>acts_may (A1:=A1) (c1:=c1) (A2:=some ⟨ba,oa,none⟩) (c2:=c2) (A3:=some ⟨bg,og,none⟩) (c3:=c3) (R:=t.rules.length) (n:=t.acts.length) (m:=t.goto.length) t.terms t.nons ⟨l1,m1⟩ ⟨l2,m2⟩ a wr
 have F1: ∀b,F b->b<w1.heap.size:=fun b hb=>Nat.lt_of_lt_of_le (hF b hb) b1.size
 unfold maxLen at m4 m5
 unfold W64 at tn nn
 generalize t.terms=T at *
 generalize t.nons=N at *
 generalize hn:t.acts.length=n at *
 generalize t.rules.length=R at *
 generalize hm:t.goto.length=m at *
 generalize rowT T N n R (x,y)=z at *
 have hlt1:(i:Int)<(n:Int):=by omega
 have hlt2:(i:Int)<(m:Int):=by omega
 generalize hxl:x.length=xl at *
 generalize hyl:y.length=yl at *
 have hwx:IntKind.i64.wrap ((xl:Int) - 1)=(xl:Int) - 1:=by rw [IntKind.wrap_i64];omega
 clear h hx hy hF hi1 hi2 g1
 obtain⟨Xf1,Xf2,Xhcm,Xb1,Xrx,Xry,XF1,Xhn,Xhm,Xhxl,Xhyl⟩:=HqZ11 f1 f2 hcm b1 rx ry F1 hn hm hxl hyl;clear f1 f2 hcm b1 rx ry F1 hn hm hxl hyl
 by_cases h0:xl=0
 ·subst h0
  have hz:=Xf1.out (.inl rfl)
  have Xhz:=hide hz;clear hz
  go_enter Tryz.func81,Tryz.ntmps81
  go_upto_region 1 with fail
  rw [<-hw1]
  clear hw1
  refine region_reads (by kernel_rfl) (by kernel_rfl) ?_
  repeat still_step
  refine wpStill_nil ?_
  go_wp2_with fail
  go_wp2_with fail
  go_ret
  exact⟨ret_bool Xhz.out.symm,Xb1.out.drew⟩
 ·have h0':((xl:Int)==0)=false:=by simp;omega
  by_cases h1:(xl:Int) - 1=T
  ·by_cases h2:(yl:Int)=N
   ·have hz:=Xf2.out h0 h1 h2
    subst h1 h2
    have e1:((xl:Int) - 1 !=(xl:Int) - 1)=false:=by simp
    have e2:((yl:Int) !=(yl:Int))=false:=by simp
    have Xhz:=hide hz;clear hz
    go_enter Tryz.func81,Tryz.ntmps81
    go_upto_region 1 with fail
    rw [<-hw1]
    clear hw1
    refine region_reads (by kernel_rfl) (by kernel_rfl) ?_
    repeat still_step
    refine wpStill_nil ?_
    go_wp2_with fail
    go_wp2_with fail
    have bz:Below w1.heap.size w1 w1.drew:=(Below.refl _ _).drew
    have h00:(x.take 0).all (mayA n R)=true:=rfl
    have h01:(y.take 0).all (wayA n)=true:=rfl
    obtain⟨Xbz,Xh00,Xh01⟩:=HqZ3 bz h00 h01;clear bz h00 h01
    go_loopw [45] (fun iv wr=> ∃k:Nat,k<=xl/\iv= .int .i64 (k:Int)/\Below w1.heap.size w1 wr/\(x.take k).all (mayA n R)=true) (fun iv _=>xl - (intOf iv).toNat)
    case atStart=>exact⟨0,Nat.zero_le _,rfl,Xbz.out,Xh00.out⟩
    case round=>
     clear Xbz Xh00
     obtain⟨k,hk,rfl,le,hall⟩:=hrel
     by_cases hlk:k<xl
     ·have hlk':(k:Int)<(xl:Int):=by omega
      have rk:=Rd.below Xrx.out le XF1.out
      obtain⟨-,-,-,hcell⟩:=RdIt.at_ rk
      obtain⟨b4,o4,rfl,-,hcc⟩:=hcell (by omega)
      obtain⟨a,ha⟩: ∃a,x[k]? =some a:=⟨_,List.getElem?_eq_getElem (by rw [Xhxl.out];exact hlk)⟩
      obtain⟨a0,a1⟩:=hcc k a ha
      have al:Below wr.heap.size wr (wr.alloc (.cells #[.int .i64 a.1,.int .i64 a.2] 46)):=(Below.refl _ _).alloc (Nat.le_refl _) _
      have kA:Blk (wr.alloc (.cells #[.int .i64 a.1,.int .i64 a.2] 46)) wr.heap.size 46 #[.int .i64 a.1,.int .i64 a.2]:=Blk.new _ _ _
      have leA:=le.trans (al.mono le.size)
      have q0:=up_cell leA q0
      have q1:=up_cell leA q1
      have q2:=up_cell leA q2
      have q3:=up_cell leA q3
      have q4:=up_cell leA q4
      have f0:=(kA.cell 0).trans rfl
      have f1:=(kA.cell 1).trans rfl
      have cm:=Xhcm.out a (wr.alloc (.cells #[.int .i64 a.1,.int .i64 a.2] 46))
      obtain⟨r,hr⟩: ∃r,r=mayA n R a:=⟨_,rfl⟩
      rw [<-hr]at cm
      obtain⟨ak,an⟩:=a
      simp only at a0 a1 f0 f1 leA cm q0 q1 q2 q3 q4
      clear rk hcell hcc al kA le
      cases r with
      |true=>
       have hall2:=all_upto ha hall hr.symm
       obtain⟨XleA,Xcm,Xhall2,Xha,Xhall,Xhr⟩:=HqZ6 leA cm hall2 ha hall hr;clear leA cm hall2 ha hall hr
       go_wp2_with fail
       refine Xcm.out.mono ?_
       rintro e w3 ⟨rfl,b3⟩
       have le3:=XleA.out.trans (b3.mono XleA.out.size)
       clear b3 Xcm XleA q0 q1 q2 q3 q4 f0 f1 a0 a1
       have Xle3:=hide le3;clear le3
       go_wp2_with fail
       go_roundw
       case rel=>exact⟨k+1,by omega,by go_num,Xle3.out,Xhall2.out⟩
       case measure=>simp [intOf];omega
      |false=>
       have hall2:=all_no' ha hr.symm
       obtain⟨XleA,Xcm,Xhall2,Xha,Xhall,Xhr⟩:=HqZ6 leA cm hall2 ha hall hr;clear leA cm hall2 ha hall hr
       go_wp2_with fail
       refine Xcm.out.mono ?_
       rintro e w3 ⟨rfl,b3⟩
       have le3:=XleA.out.trans (b3.mono XleA.out.size)
       have bfin:=Xb1.out.trans (le3.mono Xb1.out.size)
       clear b3 Xcm XleA q0 q1 q2 q3 q4 f0 f1 a0 a1
       obtain⟨Xle3,Xbfin⟩:=HqZ2 le3 bfin;clear le3 bfin
       go_wp2_with fail
       go_ret
       exact⟨ret_bool (by rw [Xhz.out,Xhall2.out];rfl),Xbfin.out⟩
     ·have hlk': ¬(k:Int)<(xl:Int):=by omega
      have hallx:=all_end hall (by rw [Xhxl.out];omega)
      have q0:=up_cell le q0
      have q1:=up_cell le q1
      have q2:=up_cell le q2
      have q3:=up_cell le q3
      have q4:=up_cell le q4
      have p4:=up_cell le p4
      have p5:=up_cell le p5
      clear hall
      obtain⟨Xhallx,Xle⟩:=HqZ2 hallx le;clear hallx le
      go_wp2_with fail
      go_loopw [60] (fun iv wr=> ∃k:Nat,k<=yl/\iv= .int .i64 (k:Int)/\Below w1.heap.size w1 wr/\(y.take k).all (wayA n)=true) (fun iv _=>yl - (intOf iv).toNat)
      case atStart=>exact⟨0,Nat.zero_le _,rfl,Xle.out,Xh01.out⟩
      case round=>
       clear Xle Xh01 q0 q1 q2 q3 q4 p4 p5
       obtain⟨k,hk,rfl,le,hall⟩:=hrel
       have q3:=up_cell le (by assumption:w1.cell? ⟨w.heap.size,3,none⟩=_)
       by_cases hlk:k<yl
       ·have hlk':(k:Int)<(yl:Int):=by omega
        have rk:=Rd.below Xry.out le XF1.out
        obtain⟨-,-,-,hcell⟩:=RdI.at_ rk
        obtain⟨b4,o4,rfl,-,hcc⟩:=hcell (by omega)
        obtain⟨a,ha⟩: ∃a,y[k]? =some a:=⟨_,List.getElem?_eq_getElem (by rw [Xhyl.out];exact hlk)⟩
        have a0:=hcc k a ha
        have hwa:wayA n a=(decide (-1<=a)&&decide (a<(n:Int))):=rfl
        clear rk hcell hcc
        by_cases g1:a< -1
        ·have hno:=all_no' (p:=wayA n) ha (by rw [hwa,decide_eq_false (by omega)];rfl)
         have bfin:=Xb1.out.trans (le.mono Xb1.out.size)
         obtain⟨Xhno,Xle,Xha,Xhall,Xbfin,Xhwa⟩:=HqZ6 hno le ha hall bfin hwa;clear hno le ha hall bfin hwa
         go_wp2_with fail
         go_ret
         exact⟨ret_bool (by rw [Xhz.out,Xhno.out,Bool.and_false]),Xbfin.out⟩
        ·by_cases g2:a<(n:Int)
         ·have hyes:=all_upto ha hall (by rw [hwa,decide_eq_true g2,decide_eq_true (by omega)];rfl)
          have g3: ¬(n:Int)<=a:=by omega
          obtain⟨Xhyes,Xle,Xha,Xhall,Xhwa⟩:=HqZ5 hyes le ha hall hwa;clear hyes le ha hall hwa
          go_wp2_with fail
          go_roundw
          case rel=>exact⟨k+1,by omega,by go_num,Xle.out,Xhyes.out⟩
          case measure=>simp [intOf];omega
         ·have hno:=all_no' (p:=wayA n) ha (by rw [hwa,decide_eq_false g2,Bool.and_false])
          have bfin:=Xb1.out.trans (le.mono Xb1.out.size)
          have g3:(n:Int)<=a:=by omega
          obtain⟨Xhno,Xle,Xha,Xhall,Xbfin,Xhwa⟩:=HqZ6 hno le ha hall bfin hwa;clear hno le ha hall bfin hwa
          go_wp2_with fail
          go_ret
          exact⟨ret_bool (by rw [Xhz.out,Xhno.out,Bool.and_false]),Xbfin.out⟩
       ·have hlk': ¬(k:Int)<(yl:Int):=by omega
        have hally:=all_end hall (by rw [Xhyl.out];omega)
        have bfin:=Xb1.out.trans (le.mono Xb1.out.size)
        clear hall
        obtain⟨Xhally,Xle,Xbfin⟩:=HqZ3 hally le bfin;clear hally le bfin
        go_wp2_with fail
        go_ret
        exact⟨ret_bool (by rw [Xhz.out,Xhallx.out,Xhally.out];rfl),Xbfin.out⟩
   ·have hz:=Xf1.out (.inr (.inr h2))
    subst h1
    have e1:((xl:Int) - 1 !=(xl:Int) - 1)=false:=by simp
    have e2:((yl:Int) !=N)=true:=by simpa using h2
    have Xhz:=hide hz;clear hz
    go_enter Tryz.func81,Tryz.ntmps81
    go_upto_region 1 with fail
    rw [<-hw1]
    clear hw1
    refine region_reads (by kernel_rfl) (by kernel_rfl) ?_
    repeat still_step
    refine wpStill_nil ?_
    go_wp2_with fail
    go_wp2_with fail
    go_ret
    exact⟨ret_bool Xhz.out.symm,Xb1.out.drew⟩
  ·have hz:=Xf1.out (.inr (.inl h1))
   have e1:((xl:Int) - 1 !=T)=true:=by simpa using h1
   have Xhz:=hide hz;clear hz
   go_enter Tryz.func81,Tryz.ntmps81
   go_upto_region 1 with fail
   rw [<-hw1]
   clear hw1
   refine region_reads (by kernel_rfl) (by kernel_rfl) ?_
   repeat still_step
   refine wpStill_nil ?_
   go_wp2_with fail
   go_wp2_with fail
   go_ret
   exact⟨ret_bool Xhz.out.symm,Xb1.out.drew⟩
end Go.Proofs.YthlbjgabhpdbfaaGreat
namespace Go.Proofs.YthlbjgabhpdbfaaGreat
set_option linter.unusedVariables false
open Go.RowKit
structure Hands {X:Type} (E:World->(Nat->Prop)->Value->X->Prop):Prop where
 mono: ∀{w:World} {F F':Nat->Prop} {z:Value} {x:X},E w F z x->(∀b,F b->F' b)->E w F' z x
 touch: ∀{w w':World} {F S:Nat->Prop} {z:Value} {x:X},E w F z x->Touch S w w'->(∀b,F b-> ¬S b)->E w' F z x
def rmCells {X:Type} (pre:X->List Value) (L:List X) (Z:List Value):List Value:=(List.zip L Z).flatMap fun p=>pre p.1++[p.2]
theorem rmCells_app {X:Type} {pre:X->List Value} {L:List X} {Z:List Value} (h:Z.length=L.length) (x:X) (z:Value):rmCells pre (L++[x]) (Z++[z])=rmCells pre L Z++(pre x++[z]):=by
 unfold rmCells
 rw [List.zip_append h.symm,List.flatMap_append]
 simp
structure RM {X:Type} (e:TypeId) (size:Nat) (pre:X->List Value) (E:World->(Nat->Prop)->Value->X->Prop) (lo:Nat->Prop) (base:Nat) (w:World) (A:Option Addr) (n c:Nat) (L:List X):Prop where
 ex: ∃Z:List Value,Z.length=L.length/\w.ownsRow base e size (.slice A n c) n (rmCells pre L Z)/\ ∀(j:Nat) z x,Z[j]? =some z->L[j]? =some x->E w (fun b=>lo b/\b<w.heap.size/\(Value.slice A n c).ownBlock≠some b) z x
 hn:n=L.length
section
variable {X : Type} {e : TypeId} {size : Nat} {pre : X -> List Value} {E : World -> (Nat -> Prop) -> Value -> X -> Prop} {lo : Nat -> Prop} {base n : Nat} {w w1 w2 w3 : World} {A A' : Option Addr} {c c' : Nat} {L : List X} {Z : List Value}
theorem RM.nil (lo:Nat->Prop) (base:Nat) (w:World):RM e size pre E lo base w none 0 0 []:=⟨⟨[],rfl,World.ownsRow_nil _ _ _ _,fun j p x h=>by simp at h⟩,rfl⟩
theorem RM.touch (hE:Hands E) (h:RM e size pre E lo base w A n c L) {S:Nat->Prop} (t:Touch S w w1) (h1: ∀b,(Value.slice A n c).ownBlock=some b-> ¬S b) (h2: ∀b,lo b->b<w.heap.size-> ¬S b):RM e size pre E lo base w1 A n c L:=by
 obtain⟨Ps,g1,g2,g3⟩:=h.ex
 exact⟨⟨Ps,g1,t.own g2 h1,fun j p x hp hx=>hE.mono (hE.touch (g3 j p x hp hx) t fun b hb=>h2 b hb.1 hb.2.1) fun k hk=>⟨hk.1,Nat.lt_of_lt_of_le hk.2.1 t.size,hk.2.2⟩⟩,h.hn⟩
theorem RM.below (hE:Hands E) (h:RM e size pre E lo base w A n c L) (b:Below w.heap.size w w1):RM e size pre E lo base w1 A n c L:=by
 obtain⟨Ps,h1,h2,h3⟩:=h.ex
 exact⟨⟨Ps,h1,own_below' h2 b,fun j p x hp hx=>hE.mono (hE.touch (h3 j p x hp hx) (Touch.of_size b (fun _=>False)) (fun _ _ e=>e)) fun k hk=>⟨hk.1,Nat.lt_of_lt_of_le hk.2.1 b.size,hk.2.2⟩⟩,h.hn⟩
theorem RM.block (h:RM e size pre E lo base w A n c L): ∀b,(Value.slice A n c).ownBlock=some b->base<=b/\b<w.heap.size:=by
 obtain⟨Z,-,h2,-⟩:=h.ex
 exact h2.lt
theorem RM.push (hE:Hands E) {z:Value} {x:X} (hn:n=L.length) (h1:Z.length=L.length) (h2:w.ownsRow base e size (.slice A n c) n (rmCells pre L Z)) (h3: ∀(j:Nat) z x,Z[j]? =some z->L[j]? =some x->E w (fun b=>lo b/\b<w.heap.size/\(Value.slice A n c).ownBlock≠some b) z x) (hbase:base<=w.heap.size)
  (hs:E w1 (fun b=>lo b/\b<w1.heap.size/\(Value.slice A n c).ownBlock≠some b) z x) (b1:Below w.heap.size w w1) (b2:Below w1.heap.size w1 w2)
  (own:w3.ownsRow base e size (.slice A' (n+1) c') (n+1) (rmCells pre L Z++(pre x++[z]))) (g:w2.grownBy w3 (Value.slice A n c).ownBlock) (ho:(Value.slice A' (n+1) c').ownBlock=(Value.slice A n c).ownBlock\/(Value.slice A' (n+1) c').ownBlock=some w2.heap.size):
  RM e size pre E lo base w3 A' (n+1) c' (L++[x])/\Below base w w3/\Touch (fun k=>(Value.slice A n c).ownBlock=some k) w2 w3:=by
 have t:Touch (fun k=>(Value.slice A n c).ownBlock=some k) w2 w3:=(Touch.refl _ _).grown g (fun k e _=>e)
 have b12:=b1.trans (b2.mono b1.size)
 have hvl: ∀k,(Value.slice A n c).ownBlock=some k->base<=k/\k<w.heap.size:=fun k e=>h2.lt k e
 have hnew: ∀k,(Value.slice A' (n+1) c').ownBlock=some k->(Value.slice A n c).ownBlock=some k\/k=w2.heap.size:=fun k hk=>by
  rcases ho with ho|ho
  ·exact .inl (ho▸hk)
  ·rw [ho]at hk;injection hk with hk;exact .inr hk.symm
 have s1:=b1.size
 have s2:=b2.size
 have s3:=t.size
 refine⟨⟨⟨Z++[z],by simp [h1],by rw [rmCells_app h1];exact own,fun j p y hp hx=> ?_⟩,by rw [List.length_append,<-hn];rfl⟩,t.toBelow (fun k e=>(hvl k e).1) (b12.mono hbase) (Nat.le_trans hbase b12.size),t⟩
 by_cases hj:j<Z.length
 ·rw [List.getElem?_append_left hj]at hp
  rw [List.getElem?_append_left (by omega)]at hx
  refine hE.mono (hE.touch (hE.touch (h3 j p y hp hx) (Touch.of_size b12 (fun _=>False)) (fun _ _ e=>e)) t (fun k hk=>hk.2.2)) fun k hk=>⟨hk.1,by omega,fun e=> ?_⟩
  rcases hnew k e with e|e
  ·exact hk.2.2 e
  ·omega
 ·have hj':j=Z.length:=by have:=(List.getElem?_eq_some_iff.1 hp).1;simp at this;omega
  subst hj'
  rw [List.getElem?_append_right (Nat.le_refl _),Nat.sub_self]at hp
  rw [List.getElem?_append_right (by omega),h1,Nat.sub_self]at hx
  injection hp with hp
  injection hx with hx
  subst hp hx
  refine hE.mono (hE.touch (hE.touch hs (Touch.of_size b2 (fun _=>False)) (fun _ _ e=>e)) t (fun k hk=>hk.2.2)) fun k hk=>⟨hk.1,by omega,fun e=> ?_⟩
  rcases hnew k e with e|e
  ·exact hk.2.2 e
  ·omega
end
set_option linter.unusedSimpArgs false
theorem hands_it:Hands (X:=List Ac) (fun w F z x=>RdIt w F z x):=⟨fun h hF=>Rd.mono h hF,fun h t hF=>Rd.touch h t hF⟩
theorem hands_i:Hands (X:=List Int) (fun w F z x=>RdI w F z x):=⟨fun h hF=>Rd.mono h hF,fun h t hF=>Rd.touch h t hF⟩
theorem hands_r:Hands (X:=Int×List Int) (fun w F z x=>RdI w F z x.2):=⟨fun h hF=>Rd.mono h hF,fun h t hF=>Rd.touch h t hF⟩
def fillR {α:Type} (d:α) (l:List α) (m:Nat):List α:=l++List.replicate (m - l.length) d
theorem fillR_nil {α:Type} (d:α) (m:Nat):fillR d [] m=List.replicate m d:=by unfold fillR;simp
theorem fillR_len {α:Type} (d:α) {l:List α} {m:Nat} (h:l.length<=m):(fillR d l m).length=m:=by unfold fillR;simp;omega
theorem fillR_set {α:Type} (d:α) {l:List α} {m:Nat} (h:l.length<m) (x:α):(fillR d l m).set l.length x=fillR d (l++[x]) m:=by
 unfold fillR
 obtain⟨k,hk⟩: ∃k,m - l.length=k+1:=⟨m - l.length - 1,by omega⟩
 rw [hk,List.replicate_succ,List.set_append_right _ _ (Nat.le_refl _),Nat.sub_self]
 have:m - (l++[x]).length=k:=by simp;omega
 rw [this]
 simp
theorem fillR_all {α:Type} (d:α) {l:List α} {m:Nat} (h:m<=l.length):fillR d l m=l:=by unfold fillR;rw [show m - l.length=0 by omega];simp
theorem itCells_set: ∀{l:List It} {k:Nat} (x:It),k<l.length->((itCells l).set (k * 2) (.int .i64 x.1)).set (k * 2+1) (.int .i64 x.2)=itCells (l.set k x)
 |[],k,x,h=>by simp at h
 |y::r,0,x,h=>by simp [itCells]
 |y::r,k+1,x,h=>by
  have ih:=itCells_set (l:=r) (k:=k) x (by simpa using h)
  rw [show(k+1) * 2=k * 2+1+1 by omega,show k * 2+1+1+1=(k * 2+1)+1+1 by omega]
  simp only [itCells,List.set_cons_succ]
  rw [ih]
theorem own_of_blk {w:World} {base g n size:Nat} {e:TypeId} {xs:List Value} (hk:Blk w g e xs.toArray) (hl:xs.length=n * size) (hb:base<=g) (hm:n<=maxLen):w.ownsRow base e size (.slice (some ⟨g,0,none⟩) n n) n xs:=
 ⟨hl,.inr ⟨g,n,xs.toArray,rfl,hb,hk,Nat.le_refl _,hm,by simpa using hl,by rw [<-hl];simp⟩⟩
theorem made_all (z:Value) (s n:Nat) (hs:0<s):madeCells (Array.replicate s z) n=(List.replicate n z).toArray:=by
 unfold madeCells
 apply Array.ext
 ·simp
 ·intro i h1 h2
  simp at h1
  simp [Array.getElem!_eq_getD,Array.getD,Nat.mod_lt _ hs]
theorem itCells_rep: ∀m:Nat,itCells (List.replicate m ((0:Int),(0:Int)))=List.replicate (m * 2) (.int .i64 0)
 |0=>rfl
 |m+1=>by rw [List.replicate_succ,show(m+1) * 2=m * 2+1+1 by omega,List.replicate_succ,List.replicate_succ,<-itCells_rep m];rfl
theorem made_it (m:Nat):madeCells #[.int .i64 0,.int .i64 0] (m * 2)=(itCells (List.replicate m ((0:Int),(0:Int)))).toArray:=by
 rw [itCells_rep]
 exact made_all (.int .i64 0) 2 (m * 2) (by decide)
theorem made_i (m:Nat):madeCells #[.int .i64 0] m=((List.replicate m (0:Int)).map (Value.int .i64)).toArray:=by
 rw [List.map_replicate]
 exact made_all (.int .i64 0) 1 m (by decide)
theorem make_acts (n:Nat) (hn:n<=65536) (w:World):(Instr.makeSlice 113 (.int .i64 (n:Int)) (.int .i64 (n:Int))).run Tryz.prog w= .ok (.slice (some ⟨w.heap.size,0,none⟩) n n) (w.alloc (.cells (itCells (List.replicate n ((0:Int),(0:Int)))).toArray 46)):=by
 obtain⟨i,hi,hz,hsize,hby⟩:=info_parts Tryz.infoAct
 have hr:=run_make (P:=Tryz.prog) w 113 46 i _ Tryz.underlying113 hi hz .i64 .i64 (n:Int) n (by omega) (by omega) (by rw [hby];omega) (by omega)
 simp only [Int.toNat_natCast]at hr
 rw [hr,hsize,<-made_it];rfl
theorem Tryz.infoInt':(Tryz.prog.info? 3).map (fun i=>(i.zero,i.size,i.bytes))=some (some (.int .i64 0),1,8):=by kernel_rfl
theorem make_gotos (n:Nat) (hn:n<=65536) (w:World):(Instr.makeSlice 49 (.int .i64 (n:Int)) (.int .i64 (n:Int))).run Tryz.prog w= .ok (.slice (some ⟨w.heap.size,0,none⟩) n n) (w.alloc (.cells ((List.replicate n (0:Int)).map (Value.int .i64)).toArray 3)):=by
 rw [run_make_row' _ _ _ 8 Tryz.underlying49 Tryz.infoInt' rfl .i64 .i64 n (by omega) (by omega) w,made_i]
end Go.Proofs.YthlbjgabhpdbfaaGreat

/- The reckoning machine at this program: its tables. -/
import Derived.Test.YthlbjgabhpdbfaaGreatCEvF
import Derived.Test.YthlbjgabhpdbfaaGreatProg
import Derived.Test.YthlbjgabhpdbfaaGreatCPack8
import Derived.Test.YthlbjgabhpdbfaaGreatCRp4
namespace Go.Proofs.YthlbjgabhpdbfaaGreat
set_option linter.unusedVariables false
open Go.RowKit Go.Lib
noncomputable def evTab:Ev.Tab:=Ev.mkTab Tryz.prog 216 []
theorem evTab_ok:Ev.TabOK evTab/\Ev.FldOK evTab:=
 Ev.mkTab_ok (by kernel_rfl) (Ev.esc_ok Tryz.func216 (by kernel_rfl) (by kernel_rfl) (by kernel_rfl) (by kernel_rfl)) (fun f e h=>(by cases h)) (by kernel_rfl)
theorem ev_calls {f:FuncId} {n:Nat} (e:Ev.evalT evTab f n=true) (w:World):Calls Tryz.prog f #[] w fun e w'=>e= .returned (.bool true)/\Below w.heap.size w w':=
 (Ev.evalT_ok evTab_ok.1 evTab_ok.2 evTab_ok.1.mixed e w).mono fun e w' h=>by
  cases e with
  |returned v=>obtain⟨rfl,hb⟩:=h;exact⟨rfl,hb⟩
  |panicked c=>exact h.elim
  |outgrown=>exact h.elim
end Go.Proofs.YthlbjgabhpdbfaaGreat
namespace Go.Proofs.YthlbjgabhpdbfaaGreat
open Go.RowKit
set_option maxRecDepth 1000000 in
theorem law17_awake (w:World):Calls Tryz.prog 28 #[] w fun e w'=>e= .returned (.bool true)/\Below w.heap.size w w':=ev_calls (n:=200000) (by kernel_rfl) w
set_option linter.unusedVariables false
set_option linter.unusedSimpArgs false
attribute [local irreducible] wpStill wpOne wpPh
def SPP (B C:Nat) (P1:Option Addr) (y1 x1:Nat) (S M:Int) (P2:Option Addr) (y2 x2:Nat) (P3:Option Addr) (y3 x3:Nat) (P4:Option Addr) (y4 x4:Nat) (P5:Option Addr) (y5 x5:Nat) (A1:Option Addr) (R c1:Nat) (T N:Int) (A2:Option Addr) (n c2:Nat) (A3:Option Addr) (m c3:Nat) (W:World):Prop:=
 (W.cell? ⟨B,0,none⟩=some (.slice P1 y1 x1)/\W.cell? ⟨B,1,none⟩=some (.int .i64 S)/\W.cell? ⟨B,2,none⟩=some (.int .i64 M)/\W.cell? ⟨B,3,none⟩=some (.slice P2 y2 x2)/\W.cell? ⟨B,4,none⟩=some (.slice P3 y3 x3)/\W.cell? ⟨B,5,none⟩=some (.slice P4 y4 x4)/\W.cell? ⟨B,6,none⟩=some (.slice P5 y5 x5))/\
 W.cell? ⟨C,0,none⟩=some (.slice A1 R c1)/\W.cell? ⟨C,1,none⟩=some (.int .i64 T)/\W.cell? ⟨C,2,none⟩=some (.int .i64 N)/\W.cell? ⟨C,3,none⟩=some (.slice A2 n c2)/\W.cell? ⟨C,4,none⟩=some (.slice A3 m c3)
set_option maxRecDepth 100000 in
set_option maxHeartbeats 8000000 in
theorem walk_PackPacks (C:Array Value) (t:TabD) (w:World) (hg:TableCells w C.toList t):
  Calls Tryz.prog 4 #[.agg C] w (Quiet w (.bool true)):=by
 obtain⟨v1,v2,v3,hC,ht⟩:=hg
 obtain rfl:C= #[v1,.int .i64 t.terms,.int .i64 t.nons,v2,v3]:=Array.toList_inj.1 hC
 clear hC
 obtain⟨A1,c1,A2,c2,A3,c3,rfl,rfl,rfl,-⟩:=ht.slices
 obtain⟨w1,hw1⟩: ∃q',q'=w.alloc (.cells #[.slice A1 t.rules.length c1,.int .i64 t.terms,.int .i64 t.nons,.slice A2 t.acts.length c2,.slice A3 t.goto.length c3] 35):=⟨_,rfl⟩
 obtain⟨F,hF⟩: ∃F:Nat->Prop,F=fun b=>b<w.heap.size:=⟨_,rfl⟩
 rw [<-hF]at ht
 have gT:=TBox.new ht t.terms t.nons
 have b1:Below w.heap.size w w1:=by rw [hw1];exact(Below.refl _ w).alloc (Nat.le_refl _) _
 rw [<-hw1]at gT
 have cS:=law15_Small gT.tab
 have cP:=fun wr (g:TBox wr F w.heap.size A1 c1 A2 c2 A3 c3 t.rules.length t.acts.length t.goto.length t.terms t.nons t) (hl:LenT t)=>pack_Pack g.tab hl
 have cQ:=fun wr (g:TBox wr F w.heap.size A1 c1 A2 c2 A3 c3 t.rules.length t.acts.length t.goto.length t.terms t.nons t) (hl:LenT t)=>ref17_Pack g.tab hl
 have c15:=fun wr G u1 u2 u3 (g:TBox wr F w.heap.size A1 c1 A2 c2 A3 c3 t.rules.length t.acts.length t.goto.length t.terms t.nons t) (h:IsTab wr G u1 u2 u3 t)=>ref15_Same h g.tab
 have hrp:fitT t=true->rightP (packO t)=true:=fun e=>by unfold packO;rw [if_pos e];exact right_pack e
 have hup:fitT t=true->unpackP (packO t)=t:=fun e=>by unfold packO;rw [if_pos e];exact unpack_pack e
 have hlp:LenT t->t.acts.length<=60->LenP (packO t):=fun e e'=>by
  unfold packO
  split
  ·exact LenP.of_packT e (by omega)
  ·exact lenP_no
 obtain⟨T,gT1⟩: ∃x,x=t.terms:=⟨_,rfl⟩
 obtain⟨N,gT2⟩: ∃x,x=t.nons:=⟨_,rfl⟩
 obtain⟨R,gR⟩: ∃x,x=t.rules.length:=⟨_,rfl⟩
 obtain⟨n,gn⟩: ∃x,x=t.acts.length:=⟨_,rfl⟩
 obtain⟨m,gm⟩: ∃x,x=t.goto.length:=⟨_,rfl⟩
 rw [<-gT1,<-gT2,<-gR,<-gn,<-gm]at gT hw1 cS cP cQ c15
 rw [<-gT1,<-gT2,<-gR,<-gn,<-gm]
 obtain⟨a0,a1,a2,a3,a4⟩:=gT.cells
 rw [hw1]at a0 a1 a2 a3 a4 cS
 clear ht hF
 obtain⟨XgT,Xb1,XgT1,XgT2,XgR,Xgn,Xgm,XcS,XcP,XcQ,Xc15,Xhrp,Xhup,Xhlp⟩:=HqZ14 gT b1 gT1 gT2 gR gn gm cS cP cQ c15 hrp hup hlp;clear gT b1 gT1 gT2 gR gn gm cS cP cQ c15 hrp hup hlp
 go_enter Tryz.func4,Tryz.ntmps4
 go_wp2_with fail
 refine XcS.out.mono ?_
 rintro e w2 ⟨r,rfl,b2,hr⟩
 rw [<-hw1]at b2
 have g2:=XgT.out.below b2
 have bb2:=Xb1.out.trans (b2.mono Xb1.out.size)
 clear XcS b2 XgT Xb1 a0 a1 a2 a3 a4 hw1
 cases r with
 |false=>
  have cA:=law17_awake w2
  clear hr
  obtain⟨Xg2,Xbb2,XcA⟩:=HqZ3 g2 bb2 cA;clear g2 bb2 cA
  go_wp2_with fail
  refine XcA.out.mono ?_
  rintro e w3 ⟨rfl,b3⟩
  have bb:=Xbb2.out.trans (b3.mono Xbb2.out.size)
  have Xbb:=hide bb;clear bb
  go_wp2_with fail
  go_ret
  exact⟨rfl,Xbb.out⟩
 |true=>
  obtain⟨hn,hl⟩:=hr rfl
  have cP2:=XcP.out _ g2 hl
  obtain⟨a0,a1,a2,a3,a4⟩:=g2.cells
  obtain⟨Xg2,Xbb2,XcP2,Xhn,Xhl⟩:=HqZ5 g2 bb2 cP2 hn hl;clear g2 bb2 cP2 hn hl;clear hr
  go_wp2_with fail
  refine XcP2.out.mono ?_
  rintro e w3 ⟨b3,p1,p2,p3,p4,p5,rfl,hp⟩
  clear a0 a1 a2 a3 a4
  obtain⟨P1,x1,P2,x2,P3,x3,P4,x4,P5,x5,rfl,rfl,rfl,rfl,rfl,-⟩:=hp.slices
  have g3:=Xg2.out.below b3
  have bb3:=Xbb2.out.trans (b3.mono Xbb2.out.size)
  obtain⟨FP,hFP⟩: ∃q,q=fun b=>(F b\/w2.heap.size<=b)/\b<w3.heap.size:=⟨_,rfl⟩
  rw [<-hFP]at hp
  obtain⟨p,hpo⟩: ∃q,q=packO t:=⟨_,rfl⟩
  rw [<-hpo]at hp
  rw [<-hpo]
  have p4:=PBox.new hp p.terms p.nons
  obtain⟨w4,hw4⟩: ∃q,q=w3.alloc (.cells #[.slice P1 p.rules.length x1,.int .i64 p.terms,.int .i64 p.nons,.slice P2 p.row.length x2,.slice P3 p.rows.length x3,.slice P4 p.gow.length x4,.slice P5 p.gows.length x5] 52):=⟨_,rfl⟩
  rw [<-hw4]at p4
  have al:Below w3.heap.size w3 w4:=by rw [hw4];exact(Below.refl _ _).alloc (Nat.le_refl _) _
  have g4:=g3.below al
  have bb4:=bb3.trans (al.mono bb3.size)
  have cQ4:=XcQ.out _ g4 Xhl.out
  obtain⟨ok,hok⟩: ∃q,q=fitT t:=⟨_,rfl⟩
  unfold PackPost at cQ4
  rw [<-hpo,<-hok]at cQ4
  rw [<-hok]
  have cR:=fun wr (h:PBox wr FP w3.heap.size P1 p.rules.length x1 P2 p.row.length x2 P3 p.rows.length x3 P4 p.gow.length x4 P5 p.gows.length x5 p.terms p.nons p) (hl:LenP p)=>pack_Right h.pk hl
  have cU:=fun wr (h:PBox wr FP w3.heap.size P1 p.rules.length x1 P2 p.row.length x2 P3 p.rows.length x3 P4 p.gow.length x4 P5 p.gows.length x5 p.terms p.nons p) (hl:LenP p)=>pack_Unpack h.pk hl
  have cE:=fun wr G u1 u2 u3 u4 u5 (h:PBox wr FP w3.heap.size P1 p.rules.length x1 P2 p.row.length x2 P3 p.rows.length x3 P4 p.gow.length x4 P5 p.gows.length x5 p.terms p.nons p) (h':IsPack wr G u1 u2 u3 u4 u5 p)=>ref17_Same h.pk h' true ⟨fun _=>rfl,fun _=>rfl⟩
  have hlP:=Xhlp.out Xhl.out (by rw [<-Xgn.out];rw [Xgn.out];exact Xhn.out)
  rw [<-hpo]at hlP
  have hrP:=Xhrp.out
  have huP:=Xhup.out
  rw [<-hpo,<-hok]at hrP huP
  obtain⟨S,gS⟩: ∃x,x=p.terms:=⟨_,rfl⟩
  obtain⟨M,gM⟩: ∃x,x=p.nons:=⟨_,rfl⟩
  obtain⟨y1,k1⟩: ∃x,x=p.rules.length:=⟨_,rfl⟩
  obtain⟨y2,k2⟩: ∃x,x=p.row.length:=⟨_,rfl⟩
  obtain⟨y3,k3⟩: ∃x,x=p.rows.length:=⟨_,rfl⟩
  obtain⟨y4,k4⟩: ∃x,x=p.gow.length:=⟨_,rfl⟩
  obtain⟨y5,k5⟩: ∃x,x=p.gows.length:=⟨_,rfl⟩
  rw [<-gS,<-gM,<-k1,<-k2,<-k3,<-k4,<-k5]at p4 hw4 cR cU cE
  rw [<-gS,<-gM,<-k1,<-k2,<-k3,<-k4,<-k5]
  rw [<-gS,<-gM]at cQ4
  have hne:(ok !=ok)=false:=by simp
  obtain⟨a0,a1,a2,a3,a4⟩:=g4.cells
  obtain⟨z0,z1,z2,z3,z4,z5,z6⟩:=p4.cells
  rw [hw4]at a0 a1 a2 a3 a4 z0 z1 z2 z3 z4 z5 z6 cQ4
  clear hp g3 bb3 al b3 hFP Xg2 Xbb2 XcP2 XcP XcQ
  obtain⟨Xp4,Xg4,Xbb4,XcQ4,XcR,XcU,XcE,XhlP,XhrP,XhuP,Xhpo,Xhok,XgS,XgM⟩:=HqZ14 p4 g4 bb4 cQ4 cR cU cE hlP hrP huP hpo hok gS gM;obtain⟨Xk1,Xk2,Xk3,Xk4,Xk5⟩:=HqZ5 k1 k2 k3 k4 k5;clear p4 g4 bb4 cQ4 cR cU cE hlP hrP huP hpo hok gS gM k1 k2 k3 k4 k5
  go_wp2_with fail
  refine XcQ4.out.mono ?_
  rintro e w5 ⟨b5,q1,q2,q3,q4,q5,rfl,hq⟩
  rw [<-hw4]at b5
  obtain⟨E1,e1,E2,e2,E3,e3,E4,e4,E5,e5,rfl,rfl,rfl,rfl,rfl,-⟩:=hq.slices
  rw [<-Xk1.out,<-Xk2.out,<-Xk3.out,<-Xk4.out,<-Xk5.out]at hq
  rw [<-Xk1.out,<-Xk2.out,<-Xk3.out,<-Xk4.out,<-Xk5.out]
  have g5:=Xg4.out.below b5
  have p5:=Xp4.out.below b5
  have bb5:=Xbb4.out.trans (b5.mono Xbb4.out.size)
  have q6:=PBox.new hq S M
  obtain⟨w6,hw6⟩: ∃q,q=w5.alloc (.cells #[.slice E1 y1 e1,.int .i64 S,.int .i64 M,.slice E2 y2 e2,.slice E3 y3 e3,.slice E4 y4 e4,.slice E5 y5 e5] 52):=⟨_,rfl⟩
  rw [<-hw6]at q6
  have al:Below w5.heap.size w5 w6:=by rw [hw6];exact(Below.refl _ _).alloc (Nat.le_refl _) _
  have g6:=g5.below al
  have p6:=p5.below al
  have bb6:=bb5.trans (al.mono bb5.size)
  have cE6:=XcE.out _ _ _ _ _ _ _ p6 q6.pk
  obtain⟨z0,z1,z2,z3,z4,z5,z6⟩:=p6.cells
  obtain⟨u0,u1,u2,u3,u4,u5,u6⟩:=q6.cells
  rw [hw6]at z0 z1 z2 z3 z4 z5 z6 u0 u1 u2 u3 u4 u5 u6 cE6
  clear hq g5 p5 bb5 al b5 Xg4 Xp4 Xbb4 XcQ4 hw4 a0 a1 a2 a3 a4 q6
  obtain⟨Xp6,Xg6,Xbb6,XcE6⟩:=HqZ4 p6 g6 bb6 cE6;clear p6 g6 bb6 cE6
  go_wp2_with fail
  refine XcE6.out.mono ?_
  rintro e w7 ⟨rfl,b7⟩
  rw [<-hw6]at b7
  obtain⟨W6,hW6⟩: ∃q,q=w6:=⟨_,rfl⟩
  rw [<-hW6]at b7 Xp6 Xg6 Xbb6
  clear hw6 hW6 XcE6 XcE z0 z1 z2 z3 z4 z5 z6 u0 u1 u2 u3 u4 u5 u6
  have hSb: ∀wr,Below W6.heap.size W6 wr->SPP w3.heap.size w.heap.size P1 y1 x1 S M P2 y2 x2 P3 y3 x3 P4 y4 x4 P5 y5 x5 A1 R c1 T N A2 n c2 A3 m c3 wr:=fun wr l=>⟨(Xp6.out.below l).cells,(Xg6.out.below l).cells⟩
  have ledr:=b7.drew
  have hS:=hSb _ ledr
  have hlt6:=Xbb6.out.size
  clear b7
  cases ok with
  |false=>
   obtain⟨Xledr,XhS,XhSb⟩:=HqZ3 ledr hS hSb;clear ledr hS hSb
   unfold SPP at XhS XhSb
   go_wp2_with fail
   refine wp_region_held_drew (S:=(fun W=>(W.cell? ⟨w3.heap.size,0,none⟩=some (.slice P1 y1 x1)/\W.cell? ⟨w3.heap.size,1,none⟩=some (.int .i64 S)/\W.cell? ⟨w3.heap.size,2,none⟩=some (.int .i64 M)/\W.cell? ⟨w3.heap.size,3,none⟩=some (.slice P2 y2 x2)/\W.cell? ⟨w3.heap.size,4,none⟩=some (.slice P3 y3 x3)/\W.cell? ⟨w3.heap.size,5,none⟩=some (.slice P4 y4 x4)/\W.cell? ⟨w3.heap.size,6,none⟩=some (.slice P5 y5 x5))/\W.cell? ⟨w.heap.size,0,none⟩=some (.slice A1 R c1)/\W.cell? ⟨w.heap.size,1,none⟩=some (.int .i64 T)/\W.cell? ⟨w.heap.size,2,none⟩=some (.int .i64 N)/\W.cell? ⟨w.heap.size,3,none⟩=some (.slice A2 n c2)/\W.cell? ⟨w.heap.size,4,none⟩=some (.slice A3 m c3))) (by kernel_rfl) ?_ (fun hHeld=> ?_)
   ·exact XhS.out
   generalize w7.drew=wd at *
   refine tZ 0 ?_;try simp only [Act.put,sT,s0,s1]
   refine tZ 1 ?_;try simp only [Act.put,sT,s0,s1]
   refine tZ 2 ?_;try simp only [Act.put,sT,s0,s1]
   refine tk (i:=3) (oi:= ?_) (v:=undef) ?_ (by kernel_rfl) ?_ (Or.inr ⟨?_,rfl⟩) (by assumption) ?_;rotate_left 1;(focus((try simp only [gT,gs,gz]);try rfl));exact fun _ _ _ h=>h;rfl;try simp only [Act.put,sT,s0,s1]
   refine tk (i:=4) (oi:= ?_) (v:=undef) ?_ (by kernel_rfl) ?_ (Or.inr ⟨?_,rfl⟩) (by assumption) ?_;rotate_left 1;(focus((try simp only [gT,gs,gz]);try rfl));exact fun _ _ _ h=>h;rfl;try simp only [Act.put,sT,s0,s1]
   refine tk (i:=5) (oi:= ?_) (v:=undef) ?_ (by kernel_rfl) ?_ (Or.inr ⟨?_,rfl⟩) (by assumption) ?_;rotate_left 1;(focus((try simp only [gT,gs,gz]);try rfl));exact fun _ _ _ h=>h;rfl;try simp only [Act.put,sT,s0,s1]
   refine tk (i:=6) (oi:= ?_) (v:=undef) ?_ (by kernel_rfl) ?_ (Or.inr ⟨?_,rfl⟩) (by assumption) ?_;rotate_left 1;(focus((try simp only [gT,gs,gz]);try rfl));exact fun _ _ _ h=>h;rfl;try simp only [Act.put,sT,s0,s1]
   refine tk (i:=7) (oi:= ?_) (v:=undef) ?_ (by kernel_rfl) ?_ (Or.inr ⟨?_,rfl⟩) (by assumption) ?_;rotate_left 1;(focus((try simp only [gT,gs,gz]);try rfl));exact fun _ _ _ h=>h;rfl;try simp only [Act.put,sT,s0,s1]
   refine tk (i:=8) (oi:= ?_) (v:=undef) ?_ (by kernel_rfl) ?_ (Or.inr ⟨?_,rfl⟩) (by assumption) ?_;rotate_left 1;(focus((try simp only [gT,gs,gz]);try rfl));exact fun _ _ _ h=>h;rfl;try simp only [Act.put,sT,s0,s1]
   refine tk (i:=9) (oi:= ?_) (v:=undef) ?_ (by kernel_rfl) ?_ (Or.inr ⟨?_,rfl⟩) (by assumption) ?_;rotate_left 1;(focus((try simp only [gT,gs,gz]);try rfl));exact fun _ _ _ h=>h;rfl;try simp only [Act.put,sT,s0,s1]
   refine tk (i:=10) (oi:= ?_) (v:=undef) ?_ (by kernel_rfl) ?_ (Or.inr ⟨?_,rfl⟩) (by assumption) ?_;rotate_left 1;(focus((try simp only [gT,gs,gz]);try rfl));exact fun _ _ _ h=>h;rfl;try simp only [Act.put,sT,s0,s1]
   refine tZ 11 ?_;try simp only [Act.put,sT,s0,s1]
   refine tZ 12 ?_;try simp only [Act.put,sT,s0,s1]
   refine wpAnyH_ready (rs:=[13]) (by kernel_rfl) (by simp) ?_
   refine AllReadyH.cons (o:= ?_) ?_ (fun K hK=> ?_) AllReadyH.nil;rotate_left 1;(focus((try simp only [gT,gs,gz]);try rfl))
   go_simp
   go_at_call 28
   refine(law17_awake _).mono ?_
   rintro e w8 ⟨rfl,b8⟩
   have le8:=Xledr.out.trans (b8.mono Xledr.out.size)
   clear Xledr b8 hHeld XhS
   have Xle8:=hide le8;clear le8
   refine hK.out _ _ ?_ (fun hHeld=> ?_)
   ·exact XhSb.out _ Xle8.out
   clear hK K
   try simp only [Act.put,sT,s0,s1]
   refine tZ 14 ?_;try simp only [Act.put,sT,s0,s1]
   refine tZ 15 ?_;try simp only [Act.put,sT,s0,s1]
   refine wpAnyH_done (by kernel_rfl) ?_ _
   go_wp2_with fail
   go_ret
   exact⟨rfl,Xbb6.out.trans (Xle8.out.mono hlt6)⟩
  |true=>
   have cR':=fun wr (l:Below W6.heap.size W6 wr)=>XcR.out _ (Xp6.out.below l) XhlP.out
   have cU':=fun wr (l:Below W6.heap.size W6 wr)=>XcU.out _ (Xp6.out.below l) XhlP.out
   have cV':=fun wr G u1 u2 u3 (l:Below W6.heap.size W6 wr) h=>Xc15.out wr G u1 u2 u3 (Xg6.out.below l) h
   rw [XhrP.out rfl]at cR'
   unfold UnpackPost at cU'
   rw [XhuP.out rfl,<-XgT1.out,<-XgT2.out]at cU'
   obtain⟨Xledr,XhS,XhSb,XcR',XcU',XcV'⟩:=HqZ6 ledr hS hSb cR' cU' cV';clear ledr hS hSb cR' cU' cV'
   go_wp2_with fail
   refine wp_region_held_drew (S:=(fun W=>(W.cell? ⟨w3.heap.size,0,none⟩=some (.slice P1 y1 x1)/\W.cell? ⟨w3.heap.size,1,none⟩=some (.int .i64 S)/\W.cell? ⟨w3.heap.size,2,none⟩=some (.int .i64 M)/\W.cell? ⟨w3.heap.size,3,none⟩=some (.slice P2 y2 x2)/\W.cell? ⟨w3.heap.size,4,none⟩=some (.slice P3 y3 x3)/\W.cell? ⟨w3.heap.size,5,none⟩=some (.slice P4 y4 x4)/\W.cell? ⟨w3.heap.size,6,none⟩=some (.slice P5 y5 x5))/\W.cell? ⟨w.heap.size,0,none⟩=some (.slice A1 R c1)/\W.cell? ⟨w.heap.size,1,none⟩=some (.int .i64 T)/\W.cell? ⟨w.heap.size,2,none⟩=some (.int .i64 N)/\W.cell? ⟨w.heap.size,3,none⟩=some (.slice A2 n c2)/\W.cell? ⟨w.heap.size,4,none⟩=some (.slice A3 m c3))) (by kernel_rfl) ?_ (fun hHeld=> ?_)
   ·exact XhS.out
   generalize w7.drew=wd at *
   refine tZ 0 ?_;try simp only [Act.put,sT,s0,s1]
   refine tZ 1 ?_;try simp only [Act.put,sT,s0,s1]
   refine tZ 2 ?_;try simp only [Act.put,sT,s0,s1]
   refine tZ 3 ?_;try simp only [Act.put,sT,s0,s1]
   refine wpAnyH_ready (rs:=[4]) (by kernel_rfl) (by simp) ?_
   refine AllReadyH.cons (o:= ?_) ?_ (fun K hK=> ?_) AllReadyH.nil;rotate_left 1;(focus((try simp only [gT,gs,gz]);try rfl))
   go_simp
   go_at_call 32
   refine(XcR'.out _ Xledr.out).mono ?_
   rintro e w8 ⟨rfl,b8⟩
   have le8:=Xledr.out.trans (b8.mono Xledr.out.size)
   clear Xledr b8 hHeld XhS XcR'
   have Xle8:=hide le8;clear le8
   refine hK.out _ _ ?_ (fun hHeld=> ?_)
   ·exact XhSb.out _ Xle8.out
   clear hK K
   try simp only [Act.put,sT,s0,s1]
   refine tZ 5 ?_;try simp only [Act.put,sT,s0,s1]
   refine tZ 6 ?_;try simp only [Act.put,sT,s0,s1]
   refine tZ 8 ?_;try simp only [Act.put,sT,s0,s1]
   refine wpAnyH_ready (rs:=[7]) (by kernel_rfl) (by simp) ?_
   refine AllReadyH.cons (o:= ?_) ?_ (fun K hK=> ?_) AllReadyH.nil;rotate_left 1;(focus((try simp only [gT,gs,gz]);try rfl))
   go_simp
   go_at_call 34
   refine(XcU'.out _ Xle8.out).mono ?_
   rintro e w9 ⟨b9,o1,o2,o3,rfl,hit⟩
   have le9:=Xle8.out.trans (b9.mono Xle8.out.size)
   obtain⟨O1,k1',O2,k2',O3,k3',rfl,rfl,rfl,-⟩:=hit.slices
   have cW:=XcV'.out _ _ _ _ _ le9 hit
   rw [<-XgR.out,<-Xgn.out,<-Xgm.out]at cW⊢
   clear Xle8 b9 hHeld XcU' hit
   obtain⟨Xle9,XcW⟩:=HqZ2 le9 cW;clear le9 cW
   refine hK.out _ _ ?_ (fun hHeld=> ?_)
   ·exact XhSb.out _ Xle9.out
   clear hK K
   try simp only [Act.put,sT,s0,s1]
   refine wpAnyH_ready (rs:=[9]) (by kernel_rfl) (by simp) ?_
   refine AllReadyH.cons (o:= ?_) ?_ (fun K hK=> ?_) AllReadyH.nil;rotate_left 1;(focus((try simp only [gT,gs,gz]);try rfl))
   go_simp
   go_at_call 33
   refine XcW.out.mono ?_
   rintro e w10 ⟨rfl,b10⟩
   have le10:=Xle9.out.trans (b10.mono Xle9.out.size)
   clear Xle9 b10 hHeld XcW
   have Xle10:=hide le10;clear le10
   refine hK.out _ _ ?_ (fun hHeld=> ?_)
   ·exact XhSb.out _ Xle10.out
   clear hK K
   try simp only [Act.put,sT,s0,s1]
   refine tZ 10 ?_;try simp only [Act.put,sT,s0,s1]
   refine tZ 11 ?_;try simp only [Act.put,sT,s0,s1]
   refine tZ 12 ?_;try simp only [Act.put,sT,s0,s1]
   refine wpAnyH_ready (rs:=[13]) (by kernel_rfl) (by simp) ?_
   refine AllReadyH.cons (o:= ?_) ?_ (fun K hK=> ?_) AllReadyH.nil;rotate_left 1;(focus((try simp only [gT,gs,gz]);try rfl))
   go_simp
   go_at_call 28
   refine(law17_awake _).mono ?_
   rintro e w11 ⟨rfl,b11⟩
   have le11:=Xle10.out.trans (b11.mono Xle10.out.size)
   clear Xle10 b11 hHeld
   have Xle11:=hide le11;clear le11
   refine hK.out _ _ ?_ (fun hHeld=> ?_)
   ·exact XhSb.out _ Xle11.out
   clear hK K
   try simp only [Act.put,sT,s0,s1]
   refine tZ 14 ?_;try simp only [Act.put,sT,s0,s1]
   refine tZ 15 ?_;try simp only [Act.put,sT,s0,s1]
   refine wpAnyH_done (by kernel_rfl) ?_ _
   go_wp2_with fail
   go_ret
   exact⟨rfl,Xbb6.out.trans (Xle11.out.mono hlt6)⟩
end Go.Proofs.YthlbjgabhpdbfaaGreat

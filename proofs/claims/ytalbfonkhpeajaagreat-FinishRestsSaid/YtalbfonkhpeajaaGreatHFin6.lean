/- The least end: a place's steps. -/
import Derived.Test.YtalbfonkhpeajaaGreatHRoute1
import Derived.Test.YtalbfonkhpeajaaGreatHAutoPlain
import Derived.Deep.Cut
import Derived.Deep.CutRange
namespace Go.Proofs.YtalbfonkhpeajaaGreat
set_option linter.unusedVariables false
section
set_option linter.unusedSimpArgs false
open Go.RowKit Go.Maps
attribute [local irreducible] wpStill wpOne wpPh
theorem RdI.ltB {w:World} {F:Nat→Prop} {v:Value} {xs:List Int} (h:RdI w F v xs):RdI w (fun b=>b<w.heap.size) v xs:=by
 obtain⟨A,n,c,hv,h1,h2,hl,hr⟩:=h
 refine⟨A,n,c,hv,h1,h2,hl,fun hn=> ?_⟩
 obtain⟨b,off,hA,hF,hc⟩:=hr hn
 have h0:0<(xs.map (Value.int .i64)).length:=by omega
 exact⟨b,off,hA,World.block_lt_of_cell? _ _ (hc 0 _ (List.getElem?_eq_getElem h0)),hc⟩
def StepsP (w:World) (X:List PStp) (e:Ending) (w':World):Prop:= ∃A c Z,e= .returned (.slice A X.length c)∧SpOwn w' w.heap.size (.slice A X.length c) X Z∧Below w.heap.size w w'
structure StI2 (w wr:World) (p:Pl) (K:List It) (f:It→Option StpF) (j:Nat) (A:Option Addr) (nx c:Nat):Prop where
 own: ∃X Z,nx=X.length∧SpOwn wr w.heap.size (.slice A nx c) X Z∧X=((K.take j).filterMap f).map fun x=>(p,x)
 le:Below w.heap.size w wr
 box:Blk wr w.heap.size 60 #[.int .i64 (p.1:Int),.int .i64 (p.2:Int)]
theorem StI2.below {w wr wq:World} {p:Pl} {K:List It} {f:It→Option StpF} {j:Nat} {A:Option Addr} {nx c:Nat} (h:StI2 w wr p K f j A nx c) (b:Below wr.heap.size wr wq):StI2 w wq p K f j A nx c:=by
 obtain⟨X,Z,h1,h2,h3⟩:=h.own
 exact⟨⟨X,Z,h1,h2.below b,h3⟩,h.le.trans (b.mono h.le.size),h.box.below b h.box.lt⟩
theorem StI2.skip {w wr:World} {p:Pl} {K:List It} {f:It→Option StpF} {j:Nat} {A:Option Addr} {nx c:Nat} {x:It} (h:StI2 w wr p K f j A nx c) (hx:K[j]? =some x) (hf:f x=none):StI2 w wr p K f (j+1) A nx c:=by
 obtain⟨X,Z,h1,h2,h3⟩:=h.own
 refine⟨⟨X,Z,h1,h2,?_⟩,h.le,h.box⟩
 rw [h3,List.take_add_one,hx]
 simp [hf]
theorem StI2.len {w wr:World} {p:Pl} {K:List It} {f:It→Option StpF} {j:Nat} {A:Option Addr} {nx c:Nat} (h:StI2 w wr p K f j A nx c):nx≤j:=by
 obtain⟨X,Z,h1,h2,h3⟩:=h.own
 rw [h1,h3,List.length_map]
 exact Nat.le_trans (List.length_filterMap_le _ _) (by rw [List.length_take];omega)
theorem StI2.put {w wr wa wq:World} {p:Pl} {K:List It} {f:It→Option StpF} {j:Nat} {A B Aq:Option Addr} {nx c m d cq:Nat} {x:It} {y:StpF} {Z:List (PStp×Value)} {X:List PStp} (h:StI2 w wr p K f j A nx c) (hx:K[j]? =some x) (hf:f x=some y) (hX:nx=X.length) (hXe:X=((K.take j).filterMap f).map fun x=>(p,x))
  (own:SpOwn wa w.heap.size (.slice A nx c) X Z) (ba:Below wr.heap.size wr wa) (hr:RdI wa (IntB wa) (.slice B m d) y.1)
  (oq:wq.ownsRow w.heap.size 71 6 (.slice Aq (nx+1) cq) (nx+1) (spCells Z++spC ((p,y),.slice B m d))) (g:wa.grownBy wq (Value.slice A nx c).ownBlock):StI2 w wq p K f (j+1) Aq (nx+1) cq:=by
 have bw:=h.le.trans (ba.mono h.le.size)
 have bz:=bw.grown g (by exact bw.size) (fun k e=>(own.own.lt k e).1)
 have e1:[((p,y),Value.slice B m d)].map Prod.fst=[(p,y)]:=rfl
 have hso:SpOk wa [((p,y),Value.slice B m d)]:=fun q hq=>by rw [List.mem_singleton.1 hq];exact hr
 have e2:spCells [((p,y),Value.slice B m d)]=spC ((p,y),.slice B m d):=by simp [spCells]
 subst hX
 have:=own.app (m:=1) (c:=cq) (A:=Aq) e1 hso rfl (by rw [e2];exact oq) g
 refine⟨⟨_,_,by simp,this,?_⟩,bz,?_⟩
 ·rw [hXe,List.take_add_one,hx]
  simp [hf]
 ·have k:=h.box.below ba h.box.lt
  exact k.grown g (fun e=>k.ne_own own.own (by decide) e.symm)
set_option maxRecDepth 100000 in
set_option maxHeartbeats 8000000 in
theorem fin_steps {w:World} {F Fs:Nat→Prop} {E:Nat} {A1:Option Addr} {c1:Nat} {A2:Option Addr} {c2:Nat} {A3:Option Addr} {c3 T N R:Nat} {st:Int} {G:GramD} {Aa:Option Addr} {n ca:Nat} {D:List (List It×List It)} {pb:Nat} {S:List FoundD} (h:EndsC w F E A1 c1 A2 c2 A3 c3 T N R st G Aa n ca D pb S)
  {s:List Nat} {As:Option Addr} {ms cs:Nat} (hs:RdI w Fs (.slice As ms cs) (NatL s)) (hFs: ∀b,Fs b→b<w.heap.size) {p:Pl} {d:List It×List It} (hd:D[p.2]? =some d) (hp1:p.1≤100000) (hkl:d.1.length≤1000000) (hG:GoodS G.terms.length S)
  (hdot: ∀x∈d.1,0≤x.2∧x.2.toNat≤(ruleOf G st x.1).1.2.length∧0<(ruleOf G st x.1).1.2.length∧(x.1≠(G.rules.length:Int)→0<x.2∧x.2.toNat≤p.1∧ ∃i q:Nat,s[p.1 - x.2.toNat]? =some i∧gotoD D i (ruleOf G st x.1).1.1=(q:Int))):
  Calls Tryz.prog 52 #[.pointer (some ⟨E,0,none⟩),.slice As ms cs,PlV p] w (StepsP w ((stepsF G st D S s p).map fun x=>(p,x))):=by
 obtain⟨K,hK⟩: ∃K,K=d.1:=⟨_,rfl⟩
 obtain⟨f,hf⟩: ∃f,f=stepF G st D S s p:=⟨_,rfl⟩
 have hend:(stepsF G st D S s p)=K.filterMap f:=by unfold stepsF;rw [hd,hK,hf];rfl
 rw [hend]
 rw [←hK]at hkl hdot
 have hR:=h.r
 have hms:ms=s.length:=by have:=(RdI.at_ hs).1;rwa [List.length_map]at this
 have hmc:=(RdI.at_ hs).2.1
 have hcm:=(RdI.at_ hs).2.2.1
 unfold maxLen at hcm
 obtain⟨w1,hw1⟩: ∃z,z=w.alloc (.cells #[.int .i64 (p.1:Int),.int .i64 (p.2:Int)] 60):=⟨_,rfl⟩
 have b1:Below w.heap.size w w1:=by rw [hw1];exact(Below.refl _ _).alloc (Nat.le_refl _) _
 have k1:Blk w1 w.heap.size 60 #[.int .i64 (p.1:Int),.int .i64 (p.2:Int)]:=by rw [hw1];exact Blk.new _ _ _
 have ec:=h.below b1
 obtain⟨hn,hnc,hncm,hcell⟩:=ec.a.at_
 unfold maxLen at hncm
 have hp2:=(List.getElem?_eq_some_iff.1 hd).1
 obtain⟨ba,oa,rfl,hba,hcc⟩:=hcell (by omega)
 obtain⟨z1,z2,e1,e2,r1,r2⟩:=hcc p.2 d hd
 obtain⟨Ai,ni,ci,rfl,-⟩:=id r1
 obtain⟨hni,hnic,hcim,-⟩:=RdIt.at_ r1
 unfold maxLen at hcim
 rw [←hK]at hni r1
 have hnib:ni≤1000000:=by omega
 have hpq:(p.2:Int)<(n:Int):=by omega
 have hp0:(0:Int)≤(p.2:Int):=by omega
 have q0:=(ec.blk.cell 0).trans rfl
 have q1:=(ec.blk.cell 1).trans rfl
 have q2:=(ec.blk.cell 2).trans rfl
 have q3:=(ec.blk.cell 3).trans rfl
 have q4:=(ec.blk.cell 4).trans rfl
 have q5:=(ec.blk.cell 5).trans rfl
 have k10:=(k1.cell 0).trans rfl
 have k11:=(k1.cell 1).trans rfl
 have st0:StI2 w w1.drew p K f 0 none 0 0:=by
  refine StI2.below (wr:=w1) ⟨⟨[],[],rfl,SpOwn.nil _ _,by simp⟩,b1,k1⟩ ((Below.refl _ _).drew)
 have hlt:=h.g.lt
 have rit: ∀wr,Below w.heap.size w wr→Below w1.heap.size w1 wr→RdIt wr F (.slice Ai ni ci) K:=fun wr _ hb=>Rd.below r1 hb ec.g.lt
 have ecs: ∀wr,Below w.heap.size w wr→EndsC wr F E A1 c1 A2 c2 A3 c3 T N R st G (some ⟨ba,oa,none⟩) n ca D pb S:=fun wr hb=>h.below hb
 have rss: ∀wr,Below w.heap.size w wr→RdI wr Fs (.slice As ms cs) (NatL s):=fun wr hb=>Rd.below hs hb hFs
 have ris: ∀wr,Below w.heap.size w wr→RdIt wr F (.slice Ai ni ci) K:=fun wr hb=>by
  obtain⟨_,_,_,hc9⟩:=(h.a).at_
  obtain⟨b9,o9,e9,_,hc9⟩:=hc9 (by omega)
  injection e9 with e9
  injection e9 with e9 e8 _
  subst e9 e8
  obtain⟨y1,y2,g1,g2,g3,g4⟩:=hc9 p.2 d hd
  have:y1= .slice Ai ni ci:=by
   have q:=b1.cell (p:=⟨ba,oa+p.2 * 2,none⟩) (hlt _ hba)
   rw [q,g1]at e1
   injection e1
  subst this
  rw [←hK]at g3
  exact Rd.below g3 hb hlt
 rw [hw1]at q0 q1 q2 q3 q4 q5 e1 k10 k11 st0
 clear rit hcell hcc r1 r2 hd h hs k1 ec e2 hw1 b1 hba
 have Xhend:=hide hend;have XhK:=hide hK;have Xhf:=hide hf;have XhG:=hide hG;have Xhdot:=hide hdot;have XhR:=hide hR;have Xhms:=hide hms;have Xhn:=hide hn;have Xhp2:=hide hp2;have Xhni:=hide hni;have Xst0:=hide st0;have Xhlt:=hide hlt;have Xecs:=hide ecs;have Xrss:=hide rss;have Xris:=hide ris;have XhFs:=hide hFs;clear hend hK hf hG hdot hR hms hn hp2 hni st0 hlt ecs rss ris hFs
 go_enter Tryz.func52,Tryz.ntmps52
 go_wp2_with fail
 refine region_reads (by kernel_rfl) (by kernel_rfl) ?_
 repeat still_step
 refine wpStill_nil ?_
 go_wp2_with fail
 go_loopw [7,25] (fun o i wr=> ∃(j:Nat) (A:Option Addr) (nx c:Nat),j≤ni∧i= .int .i64 j∧o= .slice A nx c∧StI2 w wr p K f j A nx c) (fun _ i _=>ni - (intOf i).toNat)
 case atStart=>exact⟨0,none,0,0,Nat.zero_le _,rfl,rfl,Xst0.out⟩
 case round=>
  clear q0 q1 q2 q3 q4 q5 e1 k10 k11 Xst0
  obtain⟨j,A,nx,c,hj,rfl,rfl,sx⟩:=hrel
  by_cases hltj:j<ni
  ·have hltj':(j:Int)<(ni:Int):=by omega
   obtain⟨-,-,-,hck⟩:=RdIt.at_ (Xris.out wr sx.le)
   obtain⟨bi,oi,rfl,-,hck⟩:=hck (by omega)
   obtain⟨⟨x0,x1⟩,hx⟩: ∃x,K[j]? =some x:=⟨_,List.getElem?_eq_getElem (by rw [←Xhni.out];exact hltj)⟩
   obtain⟨p0,p1⟩:=hck j _ hx
   obtain⟨hd0,hd1,hd2,hd3⟩:=Xhdot.out _ (List.mem_of_getElem? hx)
   simp only at p0 p1 hd0 hd1 hd2 hd3
   obtain⟨t,rfl⟩:=Int.eq_ofNat_of_zero_le hd0
   rw [Int.toNat_natCast]at hd1 hd3
   obtain⟨l,xs,bk,hr⟩: ∃l xs bk,ruleOf G st x0=((l,xs),bk):=⟨_,_,_,rfl⟩
   rw [hr]at hd1 hd2 hd3
   simp only at hd1 hd2 hd3
   obtain⟨wb,hwb⟩: ∃wb,wb=wr.alloc (.cells #[.int .i64 x0,.int .i64 (t:Int)] 86):=⟨_,rfl⟩
   have bb:Below wr.heap.size wr wb:=by rw [hwb];exact(Below.refl _ _).alloc (Nat.le_refl _) _
   have kb:Blk wb wr.heap.size 86 #[.int .i64 x0,.int .i64 (t:Int)]:=by rw [hwb];exact Blk.new _ _ _
   obtain⟨Bi,hBi⟩: ∃q,q=wr.heap.size:=⟨_,rfl⟩
   rw [←hBi]at kb
   have sb:=sx.below bb
   have ec:=Xecs.out wb sb.le
   have cr0: ∀wq,IsGram wq F (.slice A1 T c1) (.slice A2 N c2) (.slice A3 R c3) G→Calls Tryz.prog 90 #[GV (.slice A1 T c1) (.slice A2 N c2) (.slice A3 R c3) st,.int .i64 x0] wq (RuleP wq F ((l,xs),bk)):=fun wq g=>by
    have:=gram_rule2 g st x0
    rw [hr]at this
    exact this
   clear hck sx
   have Xhx:=hide hx;have Xhd1:=hide hd1;have Xhd2:=hide hd2;have Xhd3:=hide hd3;have Xhr:=hide hr;have Xkb:=hide kb;have Xsb:=hide sb;have Xec:=hide ec;have Xcr0:=hide cr0;have XhBi:=hide hBi;have Xbb:=hide bb;clear hx hd1 hd2 hd3 hr kb sb ec cr0 hBi bb
   go_wp2_with fail
   rw [←hwb,←XhBi.out]
   clear p0 p1 hwb
   go_cut [10,11]from 29 to 38 (fun v10 v11 wx=> ∃(Kq:Nat) (Ar:Option Addr) (nr cr:Nat) (bk':Bool),v10= .pointer (some ⟨Kq,0,none⟩)∧v11= .bool bk'∧Blk wx Kq 42 #[.int .i64 l,.slice Ar nr cr]∧RdI wx (fun b=>b<wx.heap.size) (.slice Ar nr cr) xs∧Below wb.drew.heap.size wb.drew wx)
   case first=>
    have ec:=Xec.out
    have q0:=(ec.blk.cell 0).trans rfl
    have q1:=(ec.blk.cell 1).trans rfl
    have q2:=(ec.blk.cell 2).trans rfl
    have q3:=(ec.blk.cell 3).trans rfl
    have q4:=(ec.blk.cell 4).trans rfl
    have q5:=(ec.blk.cell 5).trans rfl
    have p0:=(Xkb.out.cell 0).trans rfl
    have p1:=(Xkb.out.cell 1).trans rfl
    refine wp_region_held_drew (S:=(fun W=>W.cell? ⟨E,0,none⟩=some (.slice A1 T c1)∧W.cell? ⟨E,1,none⟩=some (.slice A2 N c2)∧W.cell? ⟨E,2,none⟩=some (.slice A3 R c3)∧W.cell? ⟨E,3,none⟩=some (.int .i64 st)∧W.cell? ⟨Bi,0,none⟩=some (.int .i64 x0)∧W.cell? ⟨Bi,1,none⟩=some (.int .i64 (t:Int)))) (by kernel_rfl) ?_ (fun hHeld=> ?_)
    ·exact⟨q0,q1,q2,q3,p0,p1⟩
    have dr:=(Below.refl wb.heap.size wb).drew
    have ed:=ec.below dr
    have kd:=Xkb.out.below dr Xkb.out.lt
    have gg:=ed.g
    clear q0 q1 q2 q3 q4 q5 p0 p1 ec dr
    generalize wb.drew=wd at *
    have hS: ∀W,Below wd.heap.size wd W→W.cell? ⟨E,0,none⟩=some (.slice A1 T c1)∧W.cell? ⟨E,1,none⟩=some (.slice A2 N c2)∧W.cell? ⟨E,2,none⟩=some (.slice A3 R c3)∧W.cell? ⟨E,3,none⟩=some (.int .i64 st)∧W.cell? ⟨Bi,0,none⟩=some (.int .i64 x0)∧W.cell? ⟨Bi,1,none⟩=some (.int .i64 (t:Int)):=fun W hb=>by
     have kk:=kd.below hb kd.lt
     have ec:=ed.below hb
     have q0:=(ec.blk.cell 0).trans rfl
     have q1:=(ec.blk.cell 1).trans rfl
     have q2:=(ec.blk.cell 2).trans rfl
     have q3:=(ec.blk.cell 3).trans rfl
     have q4:=(ec.blk.cell 4).trans rfl
     have q5:=(ec.blk.cell 5).trans rfl
     exact⟨q0,q1,q2,q3,(kk.cell 0).trans rfl,(kk.cell 1).trans rfl⟩
    clear ed kd
    have XhS:=hide hS;have Xgg:=hide gg;clear hS gg
    refine tk (i:=0) (oi:= ?_) (v:= ?_) ?_ (by kernel_rfl) ?_ (Or.inl ⟨?_,?_⟩) (by assumption) ?_;rotate_left 2;(focus((try simp only [gT,gs,gz]);try rfl));exact fun _ _ _ h=>h;rfl;(focus(intro wS hwS;(try dsimp only at hwS);go_simp;all_goals with_reducible rfl));try simp only [Act.put,sT,s0,s1]
    refine tk (i:=1) (oi:= ?_) (v:= ?_) ?_ (by kernel_rfl) ?_ (Or.inl ⟨?_,?_⟩) (by assumption) ?_;rotate_left 2;(focus((try simp only [gT,gs,gz]);try rfl));exact fun _ _ _ h=>h;rfl;(focus(intro wS hwS;(try dsimp only at hwS);go_simp;all_goals with_reducible rfl));try simp only [Act.put,sT,s0,s1]
    refine tk (i:=2) (oi:= ?_) (v:= ?_) ?_ (by kernel_rfl) ?_ (Or.inl ⟨?_,?_⟩) (by assumption) ?_;rotate_left 2;(focus((try simp only [gT,gs,gz]);try rfl));exact fun _ _ _ h=>h;rfl;(focus(intro wS hwS;(try dsimp only at hwS);go_simp;all_goals with_reducible rfl));try simp only [Act.put,sT,s0,s1]
    refine tk (i:=3) (oi:= ?_) (v:= ?_) ?_ (by kernel_rfl) ?_ (Or.inl ⟨?_,?_⟩) (by assumption) ?_;rotate_left 2;(focus((try simp only [gT,gs,gz]);try rfl));exact fun _ _ _ h=>h;rfl;(focus(intro wS hwS;(try dsimp only at hwS);go_simp;all_goals with_reducible rfl));try simp only [Act.put,sT,s0,s1]
    refine tk (i:=4) (oi:= ?_) (v:= ?_) ?_ (by kernel_rfl) ?_ (Or.inl ⟨?_,?_⟩) (by assumption) ?_;rotate_left 2;(focus((try simp only [gT,gs,gz]);try rfl));exact fun _ _ _ h=>h;rfl;(focus(intro wS hwS;(try dsimp only at hwS);go_simp;all_goals with_reducible rfl));try simp only [Act.put,sT,s0,s1]
    refine tk (i:=5) (oi:= ?_) (v:= ?_) ?_ (by kernel_rfl) ?_ (Or.inl ⟨?_,?_⟩) (by assumption) ?_;rotate_left 2;(focus((try simp only [gT,gs,gz]);try rfl));exact fun _ _ _ h=>h;rfl;(focus(intro wS hwS;(try dsimp only at hwS);go_simp;all_goals with_reducible rfl));try simp only [Act.put,sT,s0,s1]
    refine wpAnyH_ready (rs:=[6,10]) (by kernel_rfl) (by simp) ?_
    refine AllReadyH.cons (o:= ?_) ?_ (fun K hK=> ?_) ?_;rotate_left 1;(focus((try simp only [gT,gs,gz]);try rfl))
    ·go_simp
     go_at_call 90
     refine(Xcr0.out _ Xgg.out).mono ?_
     rintro e w3 ⟨Ar,nr,cr,rfl,hrd,b3⟩
     have Xhrd:=hide hrd;clear hrd
     refine hK.out _ _ ?_ (fun hHeld=> ?_)
     ·exact XhS.out _ b3
     clear hK K
     try simp only [Act.put,sT,s0,s1]
     refine tk (i:=7) (oi:= ?_) (v:= ?_) ?_ (by kernel_rfl) ?_ (Or.inl ⟨?_,?_⟩) (by assumption) ?_;rotate_left 2;(focus((try simp only [gT,gs,gz]);try rfl));exact fun _ _ _ h=>h;rfl;(focus(intro wS hwS;(try dsimp only at hwS);go_simp;all_goals with_reducible rfl));try simp only [Act.put,sT,s0,s1]
     refine tk (i:=8) (oi:= ?_) (v:= ?_) ?_ (by kernel_rfl) ?_ (Or.inl ⟨?_,?_⟩) (by assumption) ?_;rotate_left 2;(focus((try simp only [gT,gs,gz]);try rfl));exact fun _ _ _ h=>h;rfl;(focus(intro wS hwS;(try dsimp only at hwS);go_simp;all_goals with_reducible rfl));try simp only [Act.put,sT,s0,s1]
     refine tk (i:=9) (oi:= ?_) (v:= ?_) ?_ (by kernel_rfl) ?_ (Or.inl ⟨?_,?_⟩) (by assumption) ?_;rotate_left 2;(focus((try simp only [gT,gs,gz]);try rfl));exact fun _ _ _ h=>h;rfl;(focus(intro wS hwS;(try dsimp only at hwS);go_simp;all_goals with_reducible rfl));try simp only [Act.put,sT,s0,s1]
     have Xb3:=hide b3;clear b3
     refine wpAnyH_ready (rs:=[10]) (by kernel_rfl) (by simp) ?_
     refine AllReadyH.cons (o:= ?_) ?_ (fun K hK=> ?_) AllReadyH.nil;rotate_left 1;(focus((try simp only [gT,gs,gz]);try rfl))
     go_simp
     have b4:Below wd.heap.size wd (w3.alloc (.cells #[.int .i64 0,.slice none 0 0] 42)):=Xb3.out.alloc Xb3.out.size _
     have k4:Blk (w3.alloc (.cells #[.int .i64 0,.slice none 0 0] 42)) w3.heap.size 42 #[.int .i64 0,.slice none 0 0]:=Blk.new _ _ _
     have hK2:wd.heap.size≤w3.heap.size:=Xb3.out.size
     have hFl: ∀b,F b∨(wd.heap.size≤b∧b<w3.heap.size)→b<w3.heap.size:=fun b hb=>hb.elim (fun hb=>Nat.lt_of_lt_of_le (Xgg.out.lt b hb) Xb3.out.size) (fun hb=>hb.2)
     have hrd4:=Xhrd.out.below (Below.refl _ w3|>.alloc (Nat.le_refl _) (.cells #[.int .i64 0,.slice none 0 0] 42)) hFl
     have hrl: ∀b,F b∨(wd.heap.size≤b∧b<w3.heap.size)→ ¬b=w3.heap.size:=fun b hb=>by have:=hFl b hb;omega
     clear hFl Xhrd
     refine hK.out _ _ ?_ (fun hHeld=> ?_)
     ·exact XhS.out _ b4
     clear hK K
     try simp only [Act.put,sT,s0,s1]
     generalize w3.heap.size=Kb at *
     generalize w3.alloc (.cells #[.int .i64 0,.slice none 0 0] 42)=w4 at *
     have f0:=(k4.cell 0).trans rfl
     have f1:=(k4.cell 1).trans rfl
     have z0:=k4.frozen 0
     have z1:=k4.frozen 1
     have k5:=(k4.put 0 (.int .i64 l)).put 1 (.slice Ar nr cr)
     have tt:=touch_two w4 (Kb) (.int .i64 l) (.slice Ar nr cr)
     have b5:Below wd.heap.size wd ((w4.setCell ⟨Kb,0,none⟩ (.int .i64 l)).setCell ⟨Kb,1,none⟩ (.slice Ar nr cr)):=b4.trans (tt.below (fun i hi _ e=>by omega) b4.size)
     have hrd5:=hrd4.touch tt hrl
     have Xb4:=hide b4;have Xk4:=hide k4;have Xhrd4:=hide hrd4;have XhK2:=hide hK2;have Xhrl:=hide hrl;have Xk5:=hide k5;have Xtt:=hide tt;have Xb5:=hide b5;have Xhrd5:=hide hrd5;clear b4 k4 hrd4 hK2 hrl k5 tt b5 hrd5
     refine wpAnyH_ready (rs:=[11]) (by kernel_rfl) (by simp) ?_
     refine AllReadyH.cons (o:= ?_) ?_ (fun K hK=> ?_) AllReadyH.nil;rotate_left 1;(focus((try simp only [gT,gs,gz]);try rfl))
     go_simp
     refine hK.out _ _ ?_ (fun hHeld=> ?_)
     ·exact XhS.out _ Xb5.out
     clear hK K
     try simp only [Act.put,sT,s0,s1]
     generalize (w4.setCell ⟨Kb,0,none⟩ (.int .i64 l)).setCell ⟨Kb,1,none⟩ (.slice Ar nr cr)=w5 at *
     refine tk (i:=12) (oi:= ?_) (v:= ?_) ?_ (by kernel_rfl) ?_ (Or.inl ⟨?_,?_⟩) (by assumption) ?_;rotate_left 2;(focus((try simp only [gT,gs,gz]);try rfl));exact fun _ _ _ h=>h;rfl;(focus(intro wS hwS;(try dsimp only at hwS);go_simp;all_goals with_reducible rfl));try simp only [Act.put,sT,s0,s1]
     refine wpAnyH_done (by kernel_rfl) ?_ _
     go_wp2_with fail
     go_meet
     exact⟨_,Ar,nr,cr,_,rfl,rfl,Xk5.out,RdI.ltB Xhrd5.out,Xb5.out⟩
    ·refine AllReadyH.cons (o:= ?_) ?_ (fun K hK=> ?_) ?_;rotate_left 1;(focus((try simp only [gT,gs,gz]);try rfl))
     ·go_simp
      have b4:Below wd.heap.size wd (wd.alloc (.cells #[.int .i64 0,.slice none 0 0] 42)):=(Below.refl _ wd).alloc (Nat.le_refl _) _
      have k4:Blk (wd.alloc (.cells #[.int .i64 0,.slice none 0 0] 42)) wd.heap.size 42 #[.int .i64 0,.slice none 0 0]:=Blk.new _ _ _
      have t4:=Xgg.out.below b4
      refine hK.out _ _ ?_ (fun hHeld=> ?_)
      ·exact XhS.out _ b4
      clear hK K
      try simp only [Act.put,sT,s0,s1]
      have hK2:wd.heap.size≤wd.heap.size:=Nat.le_refl _
      generalize wd.alloc (.cells #[.int .i64 0,.slice none 0 0] 42)=wa at *
      have Xb4:=hide b4;have Xk4:=hide k4;have Xt4:=hide t4;clear b4 k4 t4
      refine wpAnyH_ready (rs:=[6]) (by kernel_rfl) (by simp) ?_
      refine AllReadyH.cons (o:= ?_) ?_ (fun K hK=> ?_) AllReadyH.nil;rotate_left 1;(focus((try simp only [gT,gs,gz]);try rfl))
      go_simp
      go_at_call 90
      refine(Xcr0.out _ Xt4.out).mono ?_
      rintro e w4 ⟨Ar,nr,cr,rfl,hrd4,b5⟩
      have k4:=Xk4.out.below b5 Xk4.out.lt
      have hwa:wd.heap.size<wa.heap.size:=Xk4.out.lt
      have hrl: ∀b,F b∨(wa.heap.size≤b∧b<w4.heap.size)→ ¬b=wd.heap.size:=fun b hb=>hb.elim (fun hb e=>by have:=Xgg.out.lt b hb;omega) (fun hb=>by omega)
      have b4:=Xb4.out.trans (b5.mono Xb4.out.size)
      clear b5 Xb4 Xk4 Xt4 hwa
      refine hK.out _ _ ?_ (fun hHeld=> ?_)
      ·exact XhS.out _ b4
      clear hK K
      try simp only [Act.put,sT,s0,s1]
      refine tk (i:=7) (oi:= ?_) (v:= ?_) ?_ (by kernel_rfl) ?_ (Or.inl ⟨?_,?_⟩) (by assumption) ?_;rotate_left 2;(focus((try simp only [gT,gs,gz]);try rfl));exact fun _ _ _ h=>h;rfl;(focus(intro wS hwS;(try dsimp only at hwS);go_simp;all_goals with_reducible rfl));try simp only [Act.put,sT,s0,s1]
      refine tk (i:=8) (oi:= ?_) (v:= ?_) ?_ (by kernel_rfl) ?_ (Or.inl ⟨?_,?_⟩) (by assumption) ?_;rotate_left 2;(focus((try simp only [gT,gs,gz]);try rfl));exact fun _ _ _ h=>h;rfl;(focus(intro wS hwS;(try dsimp only at hwS);go_simp;all_goals with_reducible rfl));try simp only [Act.put,sT,s0,s1]
      refine tk (i:=9) (oi:= ?_) (v:= ?_) ?_ (by kernel_rfl) ?_ (Or.inl ⟨?_,?_⟩) (by assumption) ?_;rotate_left 2;(focus((try simp only [gT,gs,gz]);try rfl));exact fun _ _ _ h=>h;rfl;(focus(intro wS hwS;(try dsimp only at hwS);go_simp;all_goals with_reducible rfl));try simp only [Act.put,sT,s0,s1]
      have f0:=(k4.cell 0).trans rfl
      have f1:=(k4.cell 1).trans rfl
      have z0:=k4.frozen 0
      have z1:=k4.frozen 1
      have k5:=(k4.put 0 (.int .i64 l)).put 1 (.slice Ar nr cr)
      have tt:=touch_two w4 (wd.heap.size) (.int .i64 l) (.slice Ar nr cr)
      have b5:Below wd.heap.size wd ((w4.setCell ⟨wd.heap.size,0,none⟩ (.int .i64 l)).setCell ⟨wd.heap.size,1,none⟩ (.slice Ar nr cr)):=b4.trans (tt.below (fun i hi _ e=>by omega) b4.size)
      have hrd5:=hrd4.touch tt hrl
      have Xb4:=hide b4;have Xk4:=hide k4;have Xhrd4:=hide hrd4;have XhK2:=hide hK2;have Xhrl:=hide hrl;have Xk5:=hide k5;have Xtt:=hide tt;have Xb5:=hide b5;have Xhrd5:=hide hrd5;clear b4 k4 hrd4 hK2 hrl k5 tt b5 hrd5
      refine wpAnyH_ready (rs:=[11]) (by kernel_rfl) (by simp) ?_
      refine AllReadyH.cons (o:= ?_) ?_ (fun K hK=> ?_) AllReadyH.nil;rotate_left 1;(focus((try simp only [gT,gs,gz]);try rfl))
      go_simp
      refine hK.out _ _ ?_ (fun hHeld=> ?_)
      ·exact XhS.out _ Xb5.out
      clear hK K
      try simp only [Act.put,sT,s0,s1]
      generalize (w4.setCell ⟨wd.heap.size,0,none⟩ (.int .i64 l)).setCell ⟨wd.heap.size,1,none⟩ (.slice Ar nr cr)=w5 at *
      refine tk (i:=12) (oi:= ?_) (v:= ?_) ?_ (by kernel_rfl) ?_ (Or.inl ⟨?_,?_⟩) (by assumption) ?_;rotate_left 2;(focus((try simp only [gT,gs,gz]);try rfl));exact fun _ _ _ h=>h;rfl;(focus(intro wS hwS;(try dsimp only at hwS);go_simp;all_goals with_reducible rfl));try simp only [Act.put,sT,s0,s1]
      refine wpAnyH_done (by kernel_rfl) ?_ _
      go_wp2_with fail
      go_meet
      exact⟨_,Ar,nr,cr,_,rfl,rfl,Xk5.out,RdI.ltB Xhrd5.out,Xb5.out⟩
     ·exact AllReadyH.nil
   case rest=>
    obtain⟨Kq,Ar,nr,cr,bk',rfl,rfl,kr,rdr,b5⟩:=hcut
    generalize wc=w5 at *
    have bwc:Below wb.heap.size wb w5:=((Below.refl _ wb).drew).trans b5
    have sc:=Xsb.out.below bwc
    have ec:=Xecs.out w5 sc.le
    have kbc:=Xkb.out.below bwc Xkb.out.lt
    obtain⟨hnr,hncr,hcrm,hcr⟩:=RdI.at_ rdr
    unfold maxLen at hcrm
    obtain⟨br,orr,rfl,-,-⟩:=hcr (by have:=Xhd2.out;omega)
    have htn:t≤nr:=by have:=Xhd1.out;omega
    have hrt:=RdI.tailF rdr (k:=t) htn
    obtain⟨At,hAt⟩: ∃A':Option Addr,(if cr=t then(some ⟨br,orr,none⟩:Option Addr)else some ⟨br,orr+t,none⟩)=A':=⟨_,rfl⟩
    rw [hAt]at hrt
    obtain⟨ok,hok⟩: ∃q,q=((joinOf S (xs.drop t)).is&& !(joinOf S (xs.drop t)).long):=⟨_,rfl⟩
    obtain⟨jl,hjl⟩: ∃q,q=(joinOf S (xs.drop t)).l:=⟨_,rfl⟩
    have hfx:f (x0,(t:Int))=if ok=true then(if x0=(G.rules.length:Int)then some (jl,none)else some (jl,some (p.1 - t+1,(gotoD D (((s[p.1 - t]?).getD 0:Nat):Int) l).toNat)))else none:=by
     rw [Xhf.out]
     unfold stepF lineF
     simp only [Xhr.out,Int.toNat_natCast]
     rw [hok,hjl]
     cases (joinOf S (xs.drop t)).is<;>cases (joinOf S (xs.drop t)).long<;>simp
    have cl:Calls Tryz.prog 91 #[.pointer (some ⟨pb,0,none⟩),.slice At (nr - t) (cr - t)] w5.drew (fun e w'=> ∃A n c,e= .returned (.tuple #[.slice A n c,.bool ok])∧w'.ownsRow w5.drew.heap.size 3 1 (.slice A n c) n (jl.map I64)∧Below w5.drew.heap.size w5.drew w'):=by
     obtain⟨b9,g9,Fw,hpw,iw,hFw,-,-⟩:=ec.ws
     injection hpw with hpw
     injection hpw with hpw
     injection hpw with hpw _ _
     subst hpw
     rw [hok,hjl]
     exact least_line_own (iw.below ((Below.refl _ _).drew)) (Rd.drew hrt) (fun k hk=>hk) (fun i=>(jTo_good XhG.out _).1)
    have hn1:(t:Int)≤(nr:Int):=by omega
    have hn0:(0:Int)≤(t:Int):=by omega
    clear hcr rdr b5 hrt Xcr0 Xhr
    clear Xsb Xec Xkb
    have q5:=(ec.blk.cell 5).trans rfl
    have p0:=(kbc.cell 0).trans rfl
    have p1:=(kbc.cell 1).trans rfl
    have p2:=(kr.cell 0).trans rfl
    have p3:=(kr.cell 1).trans rfl
    have Xbwc:=hide bwc;have Xsc:=hide sc;have Xec:=hide ec;have Xkbc:=hide kbc;have Xkr:=hide kr;have Xhok:=hide hok;have Xhjl:=hide hjl;have Xhfx:=hide hfx;have Xcl:=hide cl;have Xhnr:=hide hnr;clear bwc sc ec kbc kr hok hjl hfx cl hnr
    go_wp2_with fail
    go_cut [12,13]from 39 to 51 (fun v12 v13 wx=> ∃(B:Option Addr) (m2 d2:Nat),v12= .slice B m2 d2∧v13= .bool ok∧RdI wx (IntB wx) (.slice B m2 d2) jl∧Below w5.drew.heap.size w5.drew wx)
    case first=>
     refine wp_region_held_drew (S:=(fun W=>W.cell? ⟨E,5,none⟩=some (.pointer (some ⟨pb,0,none⟩))∧W.cell? ⟨Kq,1,none⟩=some (.slice (some ⟨br,orr,none⟩) nr cr)∧W.cell? ⟨Bi,1,none⟩=some (.int .i64 (t:Int)))) (by kernel_rfl) ?_ (fun hHeld=> ?_)
     ·exact⟨q5,p3,p1⟩
     have hS: ∀W,Below w5.drew.heap.size w5.drew W→W.cell? ⟨E,5,none⟩=some (.pointer (some ⟨pb,0,none⟩))∧W.cell? ⟨Kq,1,none⟩=some (.slice (some ⟨br,orr,none⟩) nr cr)∧W.cell? ⟨Bi,1,none⟩=some (.int .i64 (t:Int)):=fun W hb=>by
      exact⟨(hb.cell (World.block_lt_of_cell? _ _ q5)).trans q5,(hb.cell (World.block_lt_of_cell? _ _ p3)).trans p3,(hb.cell (World.block_lt_of_cell? _ _ p1)).trans p1⟩
     clear q5 p0 p1 p2 p3
     generalize w5.drew=wd at *
     have XhS:=hide hS;clear hS
     refine tk (i:=0) (oi:= ?_) (v:= ?_) ?_ (by kernel_rfl) ?_ (Or.inl ⟨?_,?_⟩) (by assumption) ?_;rotate_left 2;(focus((try simp only [gT,gs,gz]);try rfl));exact fun _ _ _ h=>h;rfl;(focus(intro wS hwS;(try dsimp only at hwS);go_simp;all_goals with_reducible rfl));try simp only [Act.put,sT,s0,s1]
     refine tk (i:=1) (oi:= ?_) (v:= ?_) ?_ (by kernel_rfl) ?_ (Or.inl ⟨?_,?_⟩) (by assumption) ?_;rotate_left 2;(focus((try simp only [gT,gs,gz]);try rfl));exact fun _ _ _ h=>h;rfl;(focus(intro wS hwS;(try dsimp only at hwS);go_simp;all_goals with_reducible rfl));try simp only [Act.put,sT,s0,s1]
     refine tk (i:=2) (oi:= ?_) (v:= ?_) ?_ (by kernel_rfl) ?_ (Or.inl ⟨?_,?_⟩) (by assumption) ?_;rotate_left 2;(focus((try simp only [gT,gs,gz]);try rfl));exact fun _ _ _ h=>h;rfl;(focus(intro wS hwS;(try dsimp only at hwS);go_simp;all_goals with_reducible rfl));try simp only [Act.put,sT,s0,s1]
     refine tk (i:=3) (oi:= ?_) (v:= ?_) ?_ (by kernel_rfl) ?_ (Or.inl ⟨?_,?_⟩) (by assumption) ?_;rotate_left 2;(focus((try simp only [gT,gs,gz]);try rfl));exact fun _ _ _ h=>h;rfl;(focus(intro wS hwS;(try dsimp only at hwS);go_simp;all_goals with_reducible rfl));try simp only [Act.put,sT,s0,s1]
     refine tk (i:=4) (oi:= ?_) (v:= ?_) ?_ (by kernel_rfl) ?_ (Or.inl ⟨?_,?_⟩) (by assumption) ?_;rotate_left 2;(focus((try simp only [gT,gs,gz]);try rfl));exact fun _ _ _ h=>h;rfl;(focus(intro wS hwS;(try dsimp only at hwS);go_simp;all_goals with_reducible rfl));try simp only [Act.put,sT,s0,s1]
     refine tk (i:=5) (oi:= ?_) (v:= ?_) ?_ (by kernel_rfl) ?_ (Or.inl ⟨?_,?_⟩) (by assumption) ?_;rotate_left 2;(focus((try simp only [gT,gs,gz]);try rfl));exact fun _ _ _ h=>h;rfl;(focus(intro wS hwS;(try dsimp only at hwS);go_simp;all_goals with_reducible rfl));try simp only [Act.put,sT,s0,s1]
     refine tk (i:=6) (oi:= ?_) (v:= ?_) ?_ (by kernel_rfl) ?_ (Or.inl ⟨?_,?_⟩) (by assumption) ?_;rotate_left 2;(focus((try simp only [gT,gs,gz]);try rfl));exact fun _ _ _ h=>h;rfl;(focus(intro wS hwS;(try dsimp only at hwS);go_simp;all_goals with_reducible rfl));try simp only [Act.put,sT,s0,s1]
     refine tk (i:=7) (oi:= ?_) (v:= ?_) ?_ (by kernel_rfl) ?_ (Or.inl ⟨?_,?_⟩) (by assumption) ?_;rotate_left 2;(focus((try simp only [gT,gs,gz]);try rfl));exact fun _ _ _ h=>h;rfl;(focus(intro wS hwS;(try dsimp only at hwS);go_simp;all_goals with_reducible rfl));try simp only [Act.put,sT,s0,s1]
     refine tk (i:=8) (oi:= ?_) (v:= ?_) ?_ (by kernel_rfl) ?_ (Or.inl ⟨?_,?_⟩) (by assumption) ?_;rotate_left 2;(focus((try simp only [gT,gs,gz]);try rfl));exact fun _ _ _ h=>h;rfl;(focus(intro wS hwS;(try dsimp only at hwS);go_simp;all_goals with_reducible rfl));try simp only [Act.put,sT,s0,s1]
     refine wpAnyH_ready (rs:=[9]) (by kernel_rfl) (by simp) ?_
     refine AllReadyH.cons (o:= ?_) ?_ (fun K hK=> ?_) AllReadyH.nil;rotate_left 1;(focus((try simp only [gT,gs,gz]);try rfl))
     go_simp
     go_at_call 91
     refine Xcl.out.mono ?_
     rintro e w6 ⟨B,m2,d2,rfl,own6,b6⟩
     have r6:=IntB.of_own own6
     clear own6
     have Xr6:=hide r6;clear r6
     refine hK.out _ _ ?_ (fun hHeld=> ?_)
     ·exact XhS.out _ b6
     clear hK K
     try simp only [Act.put,sT,s0,s1]
     have Xb6:=hide b6;clear b6
     refine tk (i:=10) (oi:= ?_) (v:= ?_) ?_ (by kernel_rfl) ?_ (Or.inl ⟨?_,?_⟩) (by assumption) ?_;rotate_left 2;(focus((try simp only [gT,gs,gz]);try rfl));exact fun _ _ _ h=>h;rfl;(focus(intro wS hwS;(try dsimp only at hwS);go_simp;all_goals with_reducible rfl));try simp only [Act.put,sT,s0,s1]
     refine tk (i:=11) (oi:= ?_) (v:= ?_) ?_ (by kernel_rfl) ?_ (Or.inl ⟨?_,?_⟩) (by assumption) ?_;rotate_left 2;(focus((try simp only [gT,gs,gz]);try rfl));exact fun _ _ _ h=>h;rfl;(focus(intro wS hwS;(try dsimp only at hwS);go_simp;all_goals with_reducible rfl));try simp only [Act.put,sT,s0,s1]
     refine tk (i:=12) (oi:= ?_) (v:= ?_) ?_ (by kernel_rfl) ?_ (Or.inl ⟨?_,?_⟩) (by assumption) ?_;rotate_left 2;(focus((try simp only [gT,gs,gz]);try rfl));exact fun _ _ _ h=>h;rfl;(focus(intro wS hwS;(try dsimp only at hwS);go_simp;all_goals with_reducible rfl));try simp only [Act.put,sT,s0,s1]
     refine tk (i:=13) (oi:= ?_) (v:= ?_) ?_ (by kernel_rfl) ?_ (Or.inl ⟨?_,?_⟩) (by assumption) ?_;rotate_left 2;(focus((try simp only [gT,gs,gz]);try rfl));exact fun _ _ _ h=>h;rfl;(focus(intro wS hwS;(try dsimp only at hwS);go_simp;all_goals with_reducible rfl));try simp only [Act.put,sT,s0,s1]
     refine tk (i:=14) (oi:= ?_) (v:= ?_) ?_ (by kernel_rfl) ?_ (Or.inl ⟨?_,?_⟩) (by assumption) ?_;rotate_left 2;(focus((try simp only [gT,gs,gz]);try rfl));exact fun _ _ _ h=>h;rfl;(focus(intro wS hwS;(try dsimp only at hwS);go_simp;all_goals with_reducible rfl));try simp only [Act.put,sT,s0,s1]
     refine wpAnyH_done (by kernel_rfl) ?_ _
     go_wp2_with fail
     go_meet
     exact⟨B,m2,d2,rfl,rfl,Xr6.out,Xb6.out⟩
    case rest=>
     obtain⟨B,m2,d2,rfl,rfl,rl,b6⟩:=hcut
     have bw2:Below w5.heap.size w5 wc:=((Below.refl _ w5).drew).trans b6
     have s2:=Xsc.out.below bw2
     have e2:=Xecs.out wc s2.le
     have kb2:=Xkbc.out.below bw2 Xkbc.out.lt
     have kr2:=Xkr.out.below bw2 Xkr.out.lt
     clear b6 Xsc Xec Xkbc Xkr q5 p0 p1 p2 p3 Xcl Xbwc
     cases ok with
     |false=>
      have hfn:f (x0,(t:Int))=none:=by rw [Xhfx.out];rfl
      have sn:=s2.skip Xhx.out hfn
      clear s2 e2 kb2 kr2 rl bw2
      have Xsn:=hide sn;have Xhfn:=hide hfn;clear sn hfn
      go_wp2_with fail
      go_roundw
      case rel=>exact⟨j+1,A,nx,c,by omega,by go_num,rfl,Xsn.out⟩
      case measure=>simp [intOf];omega
     |true=>
      have hnxj:=s2.len
      obtain⟨X,Z,hX,sp,hXe⟩:=s2.own
      have q2:=(e2.blk.cell 2).trans rfl
      have q4:=(e2.blk.cell 4).trans rfl
      have p0:=(kb2.cell 0).trans rfl
      have p1:=(kb2.cell 1).trans rfl
      have k0:=(s2.box.cell 0).trans rfl
      have k1:=(s2.box.cell 1).trans rfl
      have p3:=(kr2.cell 0).trans rfl
      by_cases hR2:x0=(G.rules.length:Int)
      ·have hRb:(x0==(R:Int))=true:=by rw [hR2,XhR.out];simp
       have hfs:f (x0,(t:Int))=some (jl,none):=by rw [Xhfx.out,if_pos rfl,if_pos hR2]
       obtain⟨wa,hwa⟩: ∃q,q=(wc.alloc (.cells #[.int .i64 (p.1:Int),.int .i64 (p.2:Int),.slice B m2 d2,.int .i64 0,.int .i64 0,.bool true] 71)).drew:=⟨_,rfl⟩
       have ba:Below wc.heap.size wc wa:=by rw [hwa];exact((Below.refl _ wc).alloc (Nat.le_refl _) _).drew
       have rone:Rd wa (fun _=>True) (.slice (some ⟨wc.heap.size,0,none⟩) 1 1) 6 [.int .i64 (p.1:Int),.int .i64 (p.2:Int),.slice B m2 d2,.int .i64 0,.int .i64 0,.bool true]:=by
        rw [hwa]
        exact(Rd.one (w:=wc) (e:=71) [.int .i64 (p.1:Int),.int .i64 (p.2:Int),.slice B m2 d2,.int .i64 0,.int .i64 0,.bool true] 6 rfl).drew
       have spa:=sp.below ba
       have ra:=RdI.intBelow rl ba
       have hbz:w.heap.size≤wa.heap.size:=Nat.le_trans s2.le.size ba.size
       have own:=spa.own
       rw [←hX]at own
       rw [hwa]at own rone hbz
       clear sp rl e2 kb2 kr2 q4 p1 p3
       have XhR2:=hide hR2;have Xhfs:=hide hfs;have Xba:=hide ba;have Xrone:=hide rone;have Xspa:=hide spa;have Xra:=hide ra;have Xhbz:=hide hbz;have Xown:=hide own;have Xs2:=hide s2;have XhX:=hide hX;have XhXe:=hide hXe;have Xhnxj:=hide hnxj;clear hR2 hfs ba rone spa ra hbz own s2 hX hXe hnxj
       go_wp2_with fail
       refine region_reads (by kernel_rfl) (by kernel_rfl) ?_
       repeat still_step
       refine wpStill_nil ?_
       go_wp2_with (at_builtin;refine wp_append _ rfl (.tmp 91) (.tmp 95) _ rfl Tryz.elemStep w.heap.size _ nx (spCells Z) rfl Xown.out _ _ _ 1 rfl rfl Xrone.out (by simp [Value.oneCell']) (by unfold maxLen;have:=Xhnxj.out;omega) (by have:=Xhnxj.out;omega) Xhbz.out ?_)
       intro A8 c8 w8 own8 g8 hb8
       rw [←hwa]at g8
       have sn:=Xs2.out.put Xhx.out Xhfs.out XhX.out XhXe.out (by rw [XhX.out];rw [XhX.out]at Xspa;exact Xspa.out) Xba.out Xra.out own8 g8
       clear own8 g8 hb8 hwa Xs2 Xspa Xown Xrone Xba Xra Xhbz XhX XhXe q2 p0 k0 k1
       have Xsn:=hide sn;clear sn
       go_wp2_with fail
       go_roundw
       case rel=>exact⟨j+1,A8,nx+1,c8,by omega,by go_num,rfl,Xsn.out⟩
       case measure=>simp [intOf];omega
      ·have hRb:(x0==(R:Int))=false:=by rw [XhR.out];simpa using hR2
       obtain⟨ht0,ht1,i,q,hi,hgo⟩:=Xhd3.out hR2
       obtain⟨u,hu⟩: ∃u,u=p.1 - t:=⟨_,rfl⟩
       rw [←hu]at hi
       have hput:p.1=u+t:=by omega
       have hfs:f (x0,(t:Int))=some (jl,some (u+1,q)):=by
        rw [Xhfx.out,if_pos rfl,if_neg hR2,←hu,hi,Option.getD_some,hgo,Int.toNat_natCast]
       have hw1:IntKind.i64.wrap ((p.1:Int) - (t:Int))=(u:Int):=by rw [IntKind.wrap_i64];omega
       have hw2:IntKind.i64.wrap ((u:Int)+1)=(u:Int)+1:=by rw [IntKind.wrap_i64];omega
       have hw3:IntKind.i64.wrap ((u:Int)+1 - 1)=(u:Int):=by rw [IntKind.wrap_i64];omega
       have hw4:IntKind.i64.wrap (u:Int)=(u:Int):=by rw [IntKind.wrap_i64];omega
       have hul:=(List.getElem?_eq_some_iff.1 hi).1
       have hul2:(u:Int)<(ms:Int):=by have:=Xhms.out;omega
       have hu0:(0:Int)≤(u:Int):=by omega
       obtain⟨-,-,-,hcs⟩:=RdI.at_ (Xrss.out wc s2.le)
       obtain⟨bs,os,rfl,-,hcs⟩:=hcs (by omega)
       have qs:=hcs u _ (natL_get hi)
       have cgo:Calls Tryz.prog 92 #[.slice (some ⟨ba,oa,none⟩) n ca,.int .i64 (i:Int),.int .i64 l] wc.drew.drew (Quiet wc.drew.drew (.int .i64 (q:Int))):=by
        have e3:=e2.below ((Below.refl _ wc).drew.drew)
        have:=auto_Goto e3.a e3.g.lt (i:Int) l
        rw [hgo]at this
        exact this
       clear hcs hu ht0 ht1 hgo e2 kr2
       have Xhfs:=hide hfs;have Xhi:=hide hi;have Xs2:=hide s2;have Xsp:=hide sp;have Xrl:=hide rl;have XhX:=hide hX;have XhXe:=hide hXe;have Xhnxj:=hide hnxj;have Xcgo:=hide cgo;have Xhput:=hide hput;have XhR2:=hide hR2;clear hfs hi s2 sp rl hX hXe hnxj cgo hput hR2
       go_wp2_with fail
       refine region_reads (by kernel_rfl) (by kernel_rfl) ?_
       repeat still_step
       refine wpStill_nil ?_
       go_wp2_with fail
       have hS: ∀W,Below wc.heap.size wc W→W.cell? ⟨w.heap.size,0,none⟩=some (.int .i64 (p.1:Int))∧W.cell? ⟨w.heap.size,1,none⟩=some (.int .i64 (p.2:Int))∧W.cell? ⟨E,4,none⟩=some (.slice (some ⟨ba,oa,none⟩) n ca)∧W.cell? ⟨bs,os+u,none⟩=some (.int .i64 (i:Int))∧W.cell? ⟨Kq,0,none⟩=some (.int .i64 l):=fun W hb=>
        ⟨(hb.cell (World.block_lt_of_cell? _ _ k0)).trans k0,(hb.cell (World.block_lt_of_cell? _ _ k1)).trans k1,(hb.cell (World.block_lt_of_cell? _ _ q4)).trans q4,(hb.cell (World.block_lt_of_cell? _ _ qs)).trans qs,(hb.cell (World.block_lt_of_cell? _ _ p3)).trans p3⟩
       have XhS:=hide hS;clear hS
       refine region_late (fun W=>W.cell? ⟨w.heap.size,0,none⟩=some (.int .i64 (p.1:Int))∧W.cell? ⟨w.heap.size,1,none⟩=some (.int .i64 (p.2:Int))∧W.cell? ⟨E,4,none⟩=some (.slice (some ⟨ba,oa,none⟩) n ca)∧W.cell? ⟨bs,os+u,none⟩=some (.int .i64 (i:Int))∧W.cell? ⟨Kq,0,none⟩=some (.int .i64 l)) 15 19 (by kernel_rfl) (by kernel_rfl) (XhS.out _ ((Below.refl _ wc).drew.drew)) ?_
       simp only [List.take_succ_cons,List.take_zero,List.drop_succ_cons,List.drop_zero]
       iterate 15
        refine wpHeld_cons ?_ (by rfl) (fun wS hwS=> ?_) ?_
        rotate_left
        ·(try dsimp only at hwS)
         go_simp
         all_goals with_reducible rfl
        simp only [Act.put,List.setIfInBounds_toArray,List.set_cons_zero,List.set_cons_succ]
       refine wpHeld_nil ?_
       refine wpMid_cons ?_
       go_wp2_with fail
       with_reducible refine Xcgo.out.mono ?_
       rintro e w7 ⟨rfl,b7⟩
       have bS:=((Below.refl _ wc).drew.drew).trans b7
       have XbS:=hide bS;clear bS
       have s7:=Xs2.out.below (((Below.refl _ wc).drew.drew).trans b7)
       have sp7:=Xsp.out.below (((Below.refl _ wc).drew.drew).trans b7)
       have rl7:=RdI.intBelow Xrl.out (((Below.refl _ wc).drew.drew).trans b7)
       obtain⟨wa,hwa⟩: ∃z,z=w7.alloc (.cells #[.int .i64 (p.1:Int),.int .i64 (p.2:Int),.slice B m2 d2,.int .i64 ((u:Int)+1),.int .i64 (q:Int),.bool false] 71):=⟨_,rfl⟩
       have ba:Below w7.heap.size w7 wa:=by rw [hwa];exact(Below.refl _ w7).alloc (Nat.le_refl _) _
       have rone:Rd wa (fun _=>True) (.slice (some ⟨w7.heap.size,0,none⟩) 1 1) 6 [.int .i64 (p.1:Int),.int .i64 (p.2:Int),.slice B m2 d2,.int .i64 ((u:Int)+1),.int .i64 (q:Int),.bool false]:=by
        rw [hwa]
        exact Rd.one (w:=w7) (e:=71) [.int .i64 (p.1:Int),.int .i64 (p.2:Int),.slice B m2 d2,.int .i64 ((u:Int)+1),.int .i64 (q:Int),.bool false] 6 rfl
       have spa:=sp7.below ba
       have ra:=RdI.intBelow rl7 ba
       have hbz:w.heap.size≤wa.heap.size:=Nat.le_trans s7.le.size ba.size
       have own:=spa.own
       rw [←XhX.out]at own
       rw [hwa]at own rone hbz
       clear b7 sp7 rl7 Xs2 Xsp Xrl Xcgo q2 q4 p0 p1 k0 k1 p3 qs
       have Xs7:=hide s7;have Xba:=hide ba;have Xrone:=hide rone;have Xspa:=hide spa;have Xra:=hide ra;have Xhbz:=hide hbz;have Xown:=hide own;clear s7 ba rone spa ra hbz own
       iterate 3
        go_wp2_with fail
        refine⟨XhS.out _ XbS.out,wpMid_cons ?_⟩
       go_wp2_with fail
       refine⟨XhS.out _ (XbS.out.alloc XbS.out.size _),wpMid_nil ?_⟩
       go_wp2_with (at_builtin;refine wp_append _ rfl (.tmp 58) (.tmp 76) _ rfl Tryz.elemStep w.heap.size _ nx (spCells Z) rfl Xown.out _ _ _ 1 rfl rfl Xrone.out (by simp [Value.oneCell']) (by unfold maxLen;have:=Xhnxj.out;omega) (by have:=Xhnxj.out;omega) Xhbz.out ?_)
       intro A8 c8 w8 own8 g8 hb8
       rw [←hwa]at g8
       have sn:=Xs7.out.put (y:=(jl,some (u+1,q))) Xhx.out Xhfs.out XhX.out XhXe.out (by rw [XhX.out];rw [XhX.out]at Xspa;exact Xspa.out) Xba.out Xra.out own8 g8
       clear own8 g8 hb8 hwa Xs7 Xspa Xown Xrone Xba Xra Xhbz XhX XhXe
       have Xsn:=hide sn;clear sn
       go_wp2_with fail
       refine NoPanic.normal ?_
       go_wp2_with fail
       go_roundw
       case rel=>exact⟨j+1,A8,nx+1,c8,by omega,by go_num,rfl,Xsn.out⟩
       case measure=>simp [intOf];omega
  ·have hltj': ¬(j:Int)<(ni:Int):=by omega
   obtain⟨X,Z,hX,sp,hXe⟩:=sx.own
   have hall:X=(K.filterMap f).map fun x=>(p,x):=by rw [hXe,List.take_of_length_le (by have:=Xhni.out;omega)]
   have le:=sx.le
   subst hX
   clear sx hXe
   have Xhall:=hide hall;have Xsp:=hide sp;have Xle:=hide le;clear hall sp le
   go_wp2_with fail
   go_ret
   show StepsP _ _ _ _
   rw [←Xhall.out]
   exact⟨A,c,Z,rfl,Xsp.out,Xle.out⟩
end
end Go.Proofs.YtalbfonkhpeajaaGreat

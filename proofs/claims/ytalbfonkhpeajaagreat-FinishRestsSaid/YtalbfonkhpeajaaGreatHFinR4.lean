/- The least end, the document's: an item, walked. -/
import Derived.Test.YtalbfonkhpeajaaGreatHFinR1
import Derived.Test.YtalbfonkhpeajaaGreatHFin14
import Derived.Deep.Cut
import Derived.Deep.CutRange
namespace Go.Proofs.YtalbfonkhpeajaaGreat
set_option linter.unusedVariables false
set_option linter.unusedSimpArgs false
open Go.RowKit
attribute [local irreducible] wpStill wpOne wpPh
set_option maxRecDepth 100000 in
set_option maxHeartbeats 8000000 in
theorem ref_item {w:World} {E:Nat} {A1:Option Addr} {c1:Nat} {A2:Option Addr} {c2:Nat} {A3:Option Addr} {c3 T N R:Nat} {st:Int} {G:GramD} {Aa:Option Addr} {n ca:Nat} {D:List (List It×List It)} {pb:Nat} {S:List FoundD} {As:Option Addr} {ms cs:Nat} {s:List Nat} {vN:Value} {Z:List NdV} {i:Nat} {z:NdV} {F:Pl→Option Wd} {x0:Int} {t:Nat} {l:Int} {xs:List Int} {bk:Bool}
  (h:NdM w E A1 c1 A2 c2 A3 c3 T N R st G Aa n ca D pb S As ms cs s vN Z) (hz:Z[i]? =some z) (hrel:RelF F Z) (hnd:(nmZ Z).Nodup) (hout: ∀p,p∉nmZ Z→F p=none) (hZ:Z.length≤1000000) (hG:GoodS G.terms.length S) (hlen: ∀y∈Z,(y.1.2.getD []).length≤4096) (hp1:z.1.1.1≤100000)
  (hr:ruleOf G st x0=((l,xs),bk)) (hd1:t≤xs.length) (hd2:0<xs.length) (hd3:x0≠(G.rules.length:Int)→0<t∧t≤z.1.1.1∧ ∃i q:Nat,s[z.1.1.1 - t]? =some i∧gotoD D i l=(q:Int)):
  Calls Tryz.prog 28 #[.pointer (some ⟨E,0,none⟩),.int .i64 (i:Int),.agg #[.int .i64 x0,.int .i64 (t:Int)]] w (ItemR w E A1 c1 A2 c2 A3 c3 T N R st G Aa n ca D pb S As ms cs s (nmZ Z) F z.1.1 (stepF G st D S s z.1.1 (x0,(t:Int)))):=by
 obtain⟨o,ho⟩: ∃o,o=stepF G st D S s z.1.1 (x0,(t:Int)):=⟨_,rfl⟩
 rw [←ho]
 have hR:=h.r
 have hms:ms=s.length:=by have:=(RdI.at_ h.s).1;rwa [List.length_map]at this
 have hmc:=(RdI.at_ h.s).2.1
 have hcm:=(RdI.at_ h.s).2.2.1
 unfold maxLen at hcm
 obtain⟨g,cap,rfl,hl1,hl2,hEg,hgl,-⟩:=h.cell hz
 unfold maxLen at hl2
 obtain⟨L,hL⟩: ∃q,q=Z.length:=⟨_,rfl⟩
 have hZ':=hZ
 rw [←hL]at h hl1 hZ
 have hiL:i<L:=by rw [hL];exact(List.getElem?_eq_some_iff.1 hz).1
 have hwo: ∀b,(Value.slice (some ⟨g,0,none⟩) L cap).ownBlock=some b→b=g:=fun b e=>by
  have:some g=some b:=e
  injection this with this
  exact this.symm
 obtain⟨F1,hF1⟩: ∃F1:Nat→Prop,F1=fun b=>b<E:=⟨_,rfl⟩
 obtain⟨wb,hwb⟩: ∃wb,wb=w.alloc (.cells #[.int .i64 x0,.int .i64 (t:Int)] 86):=⟨_,rfl⟩
 have bb:Below w.heap.size w wb:=by rw [hwb];exact(Below.refl _ _).alloc (Nat.le_refl _) _
 have kb:Blk wb w.heap.size 86 #[.int .i64 x0,.int .i64 (t:Int)]:=by rw [hwb];exact Blk.new _ _ _
 obtain⟨Bi,hBi⟩: ∃q,q=w.heap.size:=⟨_,rfl⟩
 have hgB:g<Bi:=by omega
 have ec:=h.below bb
 rw [←hBi]at kb
 have cr0: ∀wq,IsGram wq F1 (.slice A1 T c1) (.slice A2 N c2) (.slice A3 R c3) G→Calls Tryz.prog 58 #[GV (.slice A1 T c1) (.slice A2 N c2) (.slice A3 R c3) st,.int .i64 x0] wq (RuleP wq F1 ((l,xs),bk)):=fun wq g=>by
  have:=ref_rule2 g st x0
  rw [hr]at this
  exact this
 clear h
 have XhZ':=hide hZ';have Xhp1:=hide hp1;have Xho:=hide ho;have XhR:=hide hR;have Xhms:=hide hms;have XhL:=hide hL;have Xhz:=hide hz;have Xhrel:=hide hrel;have Xhnd:=hide hnd;have Xhout:=hide hout;have XhG:=hide hG;have Xhlen:=hide hlen;have Xhr:=hide hr;have Xhd1:=hide hd1;have Xhd2:=hide hd2;have Xhd3:=hide hd3;have Xbb:=hide bb;have Xkb:=hide kb;have Xec:=hide ec;have Xcr0:=hide cr0;have XhBi:=hide hBi;have XhF1:=hide hF1;have Xhwo:=hide hwo;have XhEg:=hide hEg;have Xhgl:=hide hgl;have Xhl1:=hide hl1;have XhgB:=hide hgB;have XhiL:=hide hiL;clear hZ' hp1 ho hR hms hL hz hrel hnd hout hG hlen hr hd1 hd2 hd3 bb kb ec cr0 hBi hF1 hwo hEg hgl hl1 hgB hiL
 go_enter Tryz.func28,Tryz.ntmps28
 go_wp2_with fail
 rw [←hwb,←XhBi.out]
 clear hwb
 go_cut [7,8]from 14 to 23 (fun v7 v8 wx=> ∃(Kq:Nat) (Ar:Option Addr) (nr cr:Nat) (bk':Bool),v7= .pointer (some ⟨Kq,0,none⟩)∧v8= .bool bk'∧Blk wx Kq 42 #[.int .i64 l,.slice Ar nr cr]∧RdI wx (fun b=>b<wx.heap.size) (.slice Ar nr cr) xs∧Below wb.drew.heap.size wb.drew wx∧wb.heap.size≤Kq)
 case first=>
  have q0:=(Xec.out.blk.cell 0).trans rfl
  have q1:=(Xec.out.blk.cell 1).trans rfl
  have q2:=(Xec.out.blk.cell 2).trans rfl
  have q3:=(Xec.out.blk.cell 3).trans rfl
  have p0:=(Xkb.out.cell 0).trans rfl
  refine wp_region_held_drew (S:=(fun W=>W.cell? ⟨E,0,none⟩=some (.slice A1 T c1)∧W.cell? ⟨E,1,none⟩=some (.slice A2 N c2)∧W.cell? ⟨E,2,none⟩=some (.slice A3 R c3)∧W.cell? ⟨E,3,none⟩=some (.int .i64 st)∧W.cell? ⟨Bi,0,none⟩=some (.int .i64 x0))) (by kernel_rfl) ?_ (fun hHeld=> ?_)
  ·exact⟨q0,q1,q2,q3,p0⟩
  have dr:=(Below.refl wb.heap.size wb).drew
  have ed:=Xec.out.below dr
  have kd:=Xkb.out.below dr Xkb.out.lt
  have hwz:wb.heap.size≤wb.drew.heap.size:=Nat.le_refl _
  have gg:IsGram wb.drew F1 (.slice A1 T c1) (.slice A2 N c2) (.slice A3 R c3) G:=by rw [XhF1.out];exact ed.g
  clear q0 q1 q2 q3 p0 dr
  generalize wb.drew=wd at *
  have hS: ∀W,Below wd.heap.size wd W→W.cell? ⟨E,0,none⟩=some (.slice A1 T c1)∧W.cell? ⟨E,1,none⟩=some (.slice A2 N c2)∧W.cell? ⟨E,2,none⟩=some (.slice A3 R c3)∧W.cell? ⟨E,3,none⟩=some (.int .i64 st)∧W.cell? ⟨Bi,0,none⟩=some (.int .i64 x0):=fun W hb=>by
   have kk:=kd.below hb kd.lt
   have e9:=ed.below hb
   exact⟨(e9.blk.cell 0).trans rfl,(e9.blk.cell 1).trans rfl,(e9.blk.cell 2).trans rfl,(e9.blk.cell 3).trans rfl,(kk.cell 0).trans rfl⟩
  clear ed kd
  have XhS:=hide hS;have Xgg:=hide gg;have Xhwz:=hide hwz;clear hS gg hwz
  refine tk (i:=0) (oi:= ?_) (v:= ?_) ?_ (by kernel_rfl) ?_ (Or.inl ⟨?_,?_⟩) (by assumption) ?_;rotate_left 2;(focus((try simp only [gT,gs,gz]);try rfl));exact fun _ _ _ h=>h;rfl;(focus(intro wS hwS;(try dsimp only at hwS);go_simp;all_goals with_reducible rfl));try simp only [Act.put,sT,s0,s1]
  refine tk (i:=1) (oi:= ?_) (v:= ?_) ?_ (by kernel_rfl) ?_ (Or.inl ⟨?_,?_⟩) (by assumption) ?_;rotate_left 2;(focus((try simp only [gT,gs,gz]);try rfl));exact fun _ _ _ h=>h;rfl;(focus(intro wS hwS;(try dsimp only at hwS);go_simp;all_goals with_reducible rfl));try simp only [Act.put,sT,s0,s1]
  refine tk (i:=2) (oi:= ?_) (v:= ?_) ?_ (by kernel_rfl) ?_ (Or.inl ⟨?_,?_⟩) (by assumption) ?_;rotate_left 2;(focus((try simp only [gT,gs,gz]);try rfl));exact fun _ _ _ h=>h;rfl;(focus(intro wS hwS;(try dsimp only at hwS);go_simp;all_goals with_reducible rfl));try simp only [Act.put,sT,s0,s1]
  refine tk (i:=3) (oi:= ?_) (v:= ?_) ?_ (by kernel_rfl) ?_ (Or.inl ⟨?_,?_⟩) (by assumption) ?_;rotate_left 2;(focus((try simp only [gT,gs,gz]);try rfl));exact fun _ _ _ h=>h;rfl;(focus(intro wS hwS;(try dsimp only at hwS);go_simp;all_goals with_reducible rfl));try simp only [Act.put,sT,s0,s1]
  refine tk (i:=4) (oi:= ?_) (v:= ?_) ?_ (by kernel_rfl) ?_ (Or.inl ⟨?_,?_⟩) (by assumption) ?_;rotate_left 2;(focus((try simp only [gT,gs,gz]);try rfl));exact fun _ _ _ h=>h;rfl;(focus(intro wS hwS;(try dsimp only at hwS);go_simp;all_goals with_reducible rfl));try simp only [Act.put,sT,s0,s1]
  refine tk (i:=5) (oi:= ?_) (v:= ?_) ?_ (by kernel_rfl) ?_ (Or.inl ⟨?_,?_⟩) (by assumption) ?_;rotate_left 2;(focus((try simp only [gT,gs,gz]);try rfl));exact fun _ _ _ h=>h;rfl;(focus(intro wS hwS;(try dsimp only at hwS);go_simp;all_goals with_reducible rfl));try simp only [Act.put,sT,s0,s1]
  refine wpAnyH_ready (rs:=[6,10]) (by kernel_rfl) (by simp) ?_
  refine AllReadyH.cons (o:= ?_) ?_ (fun K hK=> ?_) ?_;rotate_left 1;(focus((try simp only [gT,gs,gz]);try rfl))
  ·go_simp
   go_at_call 58
   refine(Xcr0.out _ Xgg.out).mono ?_
   rintro e w3 ⟨Ar,nr,cr,rfl,hrd,b3⟩
   have Xhrd:=hide hrd;clear hrd
   refine hK.out _ _ ?_ (fun hHeld=> ?_)
   ·exact XhS.out _ b3
   clear hK K
   try simp only [Act.put,sT,s0,s1]
   refine tk (i:=7) (oi:= ?_) (v:= ?_) ?_ (by kernel_rfl) ?_ (Or.inl ⟨?_,?_⟩) (by assumption) ?_;rotate_left 2;(focus((try simp only [gT,gs,gz]);try rfl));exact fun _ _ _ h=>h;rfl;(focus(intro wS hwS;(try dsimp only at hwS);go_simp;all_goals with_reducible rfl));try simp only [Act.put,sT,s0,s1]
   refine tk (i:=8) (oi:= ?_) (v:= ?_) ?_ (by kernel_rfl) ?_ (Or.inl ⟨?_,?_⟩) (by assumption) ?_;rotate_left 2;(focus((try simp only [gT,gs,gz]);try rfl));exact fun _ _ _ h=>h;rfl;(focus(intro wS hwS;(try dsimp only at hwS);go_simp;all_goals with_reducible rfl));try simp only [Act.put,sT,s0,s1]
   refine tk (i:=9) (oi:= ?_) (v:= ?_) ?_ (by kernel_rfl) ?_ (Or.inl ⟨?_,?_⟩) (by assumption) ?_;rotate_left 2;(focus((try simp only [gT,gs,gz]);try rfl));exact fun _ _ _ h=>h;rfl;(focus(intro wS hwS;(try dsimp only at hwS);go_simp;all_goals with_reducible rfl));try simp only [Act.put,sT,s0,s1]
   have Xb3:=hide b3;clear b3
   refine wpAnyH_ready (rs:=[10]) (by kernel_rfl) (by simp) ?_
   refine AllReadyH.cons (o:= ?_) ?_ (fun K hK=> ?_) AllReadyH.nil;rotate_left 1;(focus((try simp only [gT,gs,gz]);try rfl))
   go_simp
   have b4:Below wd.heap.size wd (w3.alloc (.cells #[.int .i64 0,.slice none 0 0] 42)):=Xb3.out.alloc Xb3.out.size _
   have k4:Blk (w3.alloc (.cells #[.int .i64 0,.slice none 0 0] 42)) w3.heap.size 42 #[.int .i64 0,.slice none 0 0]:=Blk.new _ _ _
   have hK2:wd.heap.size≤w3.heap.size:=Xb3.out.size
   have hFl: ∀b,F1 b∨(wd.heap.size≤b∧b<w3.heap.size)→b<w3.heap.size:=fun b hb=>hb.elim (fun hb=>Nat.lt_of_lt_of_le (Xgg.out.lt b hb) Xb3.out.size) (fun hb=>hb.2)
   have hrd4:=Xhrd.out.below (Below.refl _ w3|>.alloc (Nat.le_refl _) (.cells #[.int .i64 0,.slice none 0 0] 42)) hFl
   have hrl: ∀b,F1 b∨(wd.heap.size≤b∧b<w3.heap.size)→ ¬b=w3.heap.size:=fun b hb=>by have:=hFl b hb;omega
   clear hFl Xhrd
   refine hK.out _ _ ?_ (fun hHeld=> ?_)
   ·exact XhS.out _ b4
   clear hK K
   try simp only [Act.put,sT,s0,s1]
   generalize w3.heap.size=Kb at *
   generalize w3.alloc (.cells #[.int .i64 0,.slice none 0 0] 42)=w4 at *
   have f0:=(k4.cell 0).trans rfl
   have f1:=(k4.cell 1).trans rfl
   have z0:=k4.frozen 0
   have z1:=k4.frozen 1
   have k5:=(k4.put 0 (.int .i64 l)).put 1 (.slice Ar nr cr)
   have tt:=touch_two w4 (Kb) (.int .i64 l) (.slice Ar nr cr)
   have b5:Below wd.heap.size wd ((w4.setCell ⟨Kb,0,none⟩ (.int .i64 l)).setCell ⟨Kb,1,none⟩ (.slice Ar nr cr)):=b4.trans (tt.below (fun i hi _ e=>by omega) b4.size)
   have hrd5:=hrd4.touch tt hrl
   have Xb4:=hide b4;have Xk4:=hide k4;have Xhrd4:=hide hrd4;have XhK2:=hide hK2;have Xhrl:=hide hrl;have Xk5:=hide k5;have Xtt:=hide tt;have Xb5:=hide b5;have Xhrd5:=hide hrd5;clear b4 k4 hrd4 hK2 hrl k5 tt b5 hrd5
   refine wpAnyH_ready (rs:=[11]) (by kernel_rfl) (by simp) ?_
   refine AllReadyH.cons (o:= ?_) ?_ (fun K hK=> ?_) AllReadyH.nil;rotate_left 1;(focus((try simp only [gT,gs,gz]);try rfl))
   go_simp
   refine hK.out _ _ ?_ (fun hHeld=> ?_)
   ·exact XhS.out _ Xb5.out
   clear hK K
   try simp only [Act.put,sT,s0,s1]
   generalize (w4.setCell ⟨Kb,0,none⟩ (.int .i64 l)).setCell ⟨Kb,1,none⟩ (.slice Ar nr cr)=w5 at *
   refine tk (i:=12) (oi:= ?_) (v:= ?_) ?_ (by kernel_rfl) ?_ (Or.inl ⟨?_,?_⟩) (by assumption) ?_;rotate_left 2;(focus((try simp only [gT,gs,gz]);try rfl));exact fun _ _ _ h=>h;rfl;(focus(intro wS hwS;(try dsimp only at hwS);go_simp;all_goals with_reducible rfl));try simp only [Act.put,sT,s0,s1]
   refine wpAnyH_done (by kernel_rfl) ?_ _
   go_wp2_with fail
   go_meet
   exact⟨_,Ar,nr,cr,_,rfl,rfl,Xk5.out,RdI.ltB Xhrd5.out,Xb5.out,by have:=XhK2.out;have:=Xhwz.out;omega⟩
  ·refine AllReadyH.cons (o:= ?_) ?_ (fun K hK=> ?_) ?_;rotate_left 1;(focus((try simp only [gT,gs,gz]);try rfl))
   ·go_simp
    have b4:Below wd.heap.size wd (wd.alloc (.cells #[.int .i64 0,.slice none 0 0] 42)):=(Below.refl _ wd).alloc (Nat.le_refl _) _
    have k4:Blk (wd.alloc (.cells #[.int .i64 0,.slice none 0 0] 42)) wd.heap.size 42 #[.int .i64 0,.slice none 0 0]:=Blk.new _ _ _
    have t4:=Xgg.out.below b4
    refine hK.out _ _ ?_ (fun hHeld=> ?_)
    ·exact XhS.out _ b4
    clear hK K
    try simp only [Act.put,sT,s0,s1]
    have hK2:wd.heap.size≤wd.heap.size:=Nat.le_refl _
    generalize wd.alloc (.cells #[.int .i64 0,.slice none 0 0] 42)=wa at *
    have Xb4:=hide b4;have Xk4:=hide k4;have Xt4:=hide t4;clear b4 k4 t4
    refine wpAnyH_ready (rs:=[6]) (by kernel_rfl) (by simp) ?_
    refine AllReadyH.cons (o:= ?_) ?_ (fun K hK=> ?_) AllReadyH.nil;rotate_left 1;(focus((try simp only [gT,gs,gz]);try rfl))
    go_simp
    go_at_call 58
    refine(Xcr0.out _ Xt4.out).mono ?_
    rintro e w4 ⟨Ar,nr,cr,rfl,hrd4,b5⟩
    have k4:=Xk4.out.below b5 Xk4.out.lt
    have hwa:wd.heap.size<wa.heap.size:=Xk4.out.lt
    have hrl: ∀b,F1 b∨(wa.heap.size≤b∧b<w4.heap.size)→ ¬b=wd.heap.size:=fun b hb=>hb.elim (fun hb e=>by have:=Xgg.out.lt b hb;omega) (fun hb=>by omega)
    have b4:=Xb4.out.trans (b5.mono Xb4.out.size)
    clear b5 Xb4 Xk4 Xt4 hwa
    refine hK.out _ _ ?_ (fun hHeld=> ?_)
    ·exact XhS.out _ b4
    clear hK K
    try simp only [Act.put,sT,s0,s1]
    refine tk (i:=7) (oi:= ?_) (v:= ?_) ?_ (by kernel_rfl) ?_ (Or.inl ⟨?_,?_⟩) (by assumption) ?_;rotate_left 2;(focus((try simp only [gT,gs,gz]);try rfl));exact fun _ _ _ h=>h;rfl;(focus(intro wS hwS;(try dsimp only at hwS);go_simp;all_goals with_reducible rfl));try simp only [Act.put,sT,s0,s1]
    refine tk (i:=8) (oi:= ?_) (v:= ?_) ?_ (by kernel_rfl) ?_ (Or.inl ⟨?_,?_⟩) (by assumption) ?_;rotate_left 2;(focus((try simp only [gT,gs,gz]);try rfl));exact fun _ _ _ h=>h;rfl;(focus(intro wS hwS;(try dsimp only at hwS);go_simp;all_goals with_reducible rfl));try simp only [Act.put,sT,s0,s1]
    refine tk (i:=9) (oi:= ?_) (v:= ?_) ?_ (by kernel_rfl) ?_ (Or.inl ⟨?_,?_⟩) (by assumption) ?_;rotate_left 2;(focus((try simp only [gT,gs,gz]);try rfl));exact fun _ _ _ h=>h;rfl;(focus(intro wS hwS;(try dsimp only at hwS);go_simp;all_goals with_reducible rfl));try simp only [Act.put,sT,s0,s1]
    have f0:=(k4.cell 0).trans rfl
    have f1:=(k4.cell 1).trans rfl
    have z0:=k4.frozen 0
    have z1:=k4.frozen 1
    have k5:=(k4.put 0 (.int .i64 l)).put 1 (.slice Ar nr cr)
    have tt:=touch_two w4 (wd.heap.size) (.int .i64 l) (.slice Ar nr cr)
    have b5:Below wd.heap.size wd ((w4.setCell ⟨wd.heap.size,0,none⟩ (.int .i64 l)).setCell ⟨wd.heap.size,1,none⟩ (.slice Ar nr cr)):=b4.trans (tt.below (fun i hi _ e=>by omega) b4.size)
    have hrd5:=hrd4.touch tt hrl
    have Xb4:=hide b4;have Xk4:=hide k4;have Xhrd4:=hide hrd4;have XhK2:=hide hK2;have Xhrl:=hide hrl;have Xk5:=hide k5;have Xtt:=hide tt;have Xb5:=hide b5;have Xhrd5:=hide hrd5;clear b4 k4 hrd4 hK2 hrl k5 tt b5 hrd5
    refine wpAnyH_ready (rs:=[11]) (by kernel_rfl) (by simp) ?_
    refine AllReadyH.cons (o:= ?_) ?_ (fun K hK=> ?_) AllReadyH.nil;rotate_left 1;(focus((try simp only [gT,gs,gz]);try rfl))
    go_simp
    refine hK.out _ _ ?_ (fun hHeld=> ?_)
    ·exact XhS.out _ Xb5.out
    clear hK K
    try simp only [Act.put,sT,s0,s1]
    generalize (w4.setCell ⟨wd.heap.size,0,none⟩ (.int .i64 l)).setCell ⟨wd.heap.size,1,none⟩ (.slice Ar nr cr)=w5 at *
    refine tk (i:=12) (oi:= ?_) (v:= ?_) ?_ (by kernel_rfl) ?_ (Or.inl ⟨?_,?_⟩) (by assumption) ?_;rotate_left 2;(focus((try simp only [gT,gs,gz]);try rfl));exact fun _ _ _ h=>h;rfl;(focus(intro wS hwS;(try dsimp only at hwS);go_simp;all_goals with_reducible rfl));try simp only [Act.put,sT,s0,s1]
    refine wpAnyH_done (by kernel_rfl) ?_ _
    go_wp2_with fail
    go_meet
    exact⟨_,Ar,nr,cr,_,rfl,rfl,Xk5.out,RdI.ltB Xhrd5.out,Xb5.out,by have:=XhK2.out;have:=Xhwz.out;omega⟩
   ·exact AllReadyH.nil
 case rest=>
  obtain⟨Kq,Ar,nr,cr,bk',rfl,rfl,kr,rdr,b5,hKq⟩:=hcut
  generalize wc=w5 at *
  have bwc:Below wb.heap.size wb w5:=((Below.refl _ wb).drew).trans b5
  have e5:=Xec.out.below bwc
  have kbc:=Xkb.out.below bwc Xkb.out.lt
  have hgK:g<Kq:=by have:=Xbb.out.size;have:=XhBi.out;have:=XhgB.out;omega
  have tw5:Touch (fun b=>E≤b) w w5:=Touch.of_size (Xbb.out.trans (bwc.mono Xbb.out.size)) _
  obtain⟨hnr,hncr,hcrm,hcr⟩:=RdI.at_ rdr
  unfold maxLen at hcrm
  obtain⟨br,orr,rfl,-,-⟩:=hcr (by have:=Xhd2.out;omega)
  have htn:t≤nr:=by have:=Xhd1.out;omega
  have hrt:=RdI.tailF rdr (k:=t) htn
  obtain⟨At,hAt⟩: ∃A':Option Addr,(if cr=t then(some ⟨br,orr,none⟩:Option Addr)else some ⟨br,orr+t,none⟩)=A':=⟨_,rfl⟩
  rw [hAt]at hrt
  obtain⟨ok,hok⟩: ∃q,q=((joinOf S (xs.drop t)).is&& !(joinOf S (xs.drop t)).long):=⟨_,rfl⟩
  obtain⟨jl,hjl⟩: ∃q,q=(joinOf S (xs.drop t)).l:=⟨_,rfl⟩
  have hfx:o=if ok=true then(if x0=(G.rules.length:Int)then some (jl,none)else some (jl,some (z.1.1.1 - t+1,(gotoD D (((s[z.1.1.1 - t]?).getD 0:Nat):Int) l).toNat)))else none:=by
   rw [Xho.out]
   unfold stepF lineF
   simp only [Xhr.out,Int.toNat_natCast]
   rw [hok,hjl]
   cases (joinOf S (xs.drop t)).is<;>cases (joinOf S (xs.drop t)).long<;>simp
  have hjlen:jl.length≤4096:=by
   rw [hjl]
   unfold joinOf
   split
   ·dsimp only
    split
    ·exact Nat.zero_le _
    ·exact(jTo_good XhG.out _).1
   ·exact Nat.zero_le _
  have cl: ∀wr,Below w5.heap.size w5 wr→Calls Tryz.prog 60 #[.pointer (some ⟨pb,0,none⟩),.slice At (nr - t) (cr - t)] wr (fun e w'=> ∃A n c,e= .returned (.tuple #[.slice A n c,.bool ok])∧RdI w' (fun k=>wr.heap.size≤k∧k<w'.heap.size) (.slice A n c) jl∧Below wr.heap.size wr w'):=fun wr hb=>by
   obtain⟨b9,gl9,gi9,gm9,Fw,hpw,iw,hFw,-⟩:=(e5.below hb).ws
   injection hpw with hpw
   injection hpw with hpw
   injection hpw with hpw _ _
   subst hpw
   rw [hok,hjl]
   exact ref_line iw (Rd.below hrt hb (fun k hk=>hk)) (fun k hk=>Nat.lt_of_lt_of_le hk hb.size) (fun i=>(jTo_good XhG.out _).1)
  have hn1:(t:Int)≤(nr:Int):=by omega
  have hn0:(0:Int)≤(t:Int):=by omega
  have q2:=(e5.blk.cell 2).trans rfl
  have q5:=(e5.blk.cell 5).trans rfl
  have p0:=(kbc.cell 0).trans rfl
  have p1:=(kbc.cell 1).trans rfl
  have p3:=(kr.cell 1).trans rfl
  have Xhr9:=Xhr
  clear hcr rdr b5 hrt Xcr0 Xhr Xec Xkb Xbb bwc
  by_cases hO:x0=(G.rules.length:Int)
  ·have hRb:(x0==(R:Int))=true:=by rw [hO,XhR.out];simp
   by_cases ht1:t=1
   ·have hxs:xs=[st]:=by
     have h:=Xhr9.out
     rw [hO]at h
     unfold ruleOf at h
     rw [if_neg (by omega),if_pos rfl]at h
     injection h with h _
     injection h with _ h
     exact h.symm
    have hj0:joinOf S (xs.drop t)=⟨true,false,[]⟩:=by rw [hxs,ht1];rfl
    rw [hj0]at hok hjl
    have hfy:=hfx
    rw [hok,hjl,if_pos (by decide),if_pos hO]at hfy
    have htb:((t:Int)==1)=true:=by rw [ht1];rfl
    have e6:=e5.below ((Below.refl _ w5).drew)
    have tw6:=tw5.trans' (Touch.of_size ((Below.refl _ w5).drew) _)
    clear e5 tw5 kbc kr hok hjl hfx cl hnr hjlen hKq hgK hxs hj0 Xhr9
    have hv:RdI w5.drew (NdF w5.drew E (.slice (some ⟨g,0,none⟩) L cap)) (.slice none 0 0) []:=Rd.nil _ _ _
    have XhO:=hide hO;have Xht1:=hide ht1;have Xhfy:=hide hfy;have Xe6:=hide e6;have Xtw6:=hide tw6;have Xhv:=hide hv;clear hO ht1 hfy e6 tw6 hv
    go_wp2_with fail
    refine region_reads (by kernel_rfl) (by kernel_rfl) ?_
    repeat still_step
    refine wpStill_nil ?_
    go_wp2_with fail
    go_wp2_with fail
    refine(ref_put22 Xe6.out Xhz.out Xhv.out).mono ?_
    rintro e w9 ⟨rfl,h9,t9⟩
    have tt:=Xtw6.out.trans (t9.mono (fun b _ e=>by rw [e];exact Nat.le_of_lt XhEg.out)) (fun _ _ e=>e)
    have rr:=ItemR.of_put (o:=o) (p:=z.1.1) (u:= .slice none 0 0) Xhfy.out (cand_over _ _) (node_over _ _).symm Xhrel.out Xhnd.out Xhz.out rfl rfl h9 tt
    clear h9 t9 tt
    have Xrr:=hide rr;clear rr
    go_wp2_with fail
    go_ret
    exact Xrr.out
   ·have htb:((t:Int)==1)=false:=by simp;omega
    clear Xhr9
    have XhO:=hide hO;have Xht1:=hide ht1;have Xtw5:=hide tw5;have Xe5:=hide e5;have Xkbc:=hide kbc;have Xkr:=hide kr;have Xhok:=hide hok;have Xhjl:=hide hjl;have Xhfx:=hide hfx;have Xcl:=hide cl;have Xhnr:=hide hnr;have Xhjlen:=hide hjlen;have XhKq:=hide hKq;have XhgK:=hide hgK;clear hO ht1 tw5 e5 kbc kr hok hjl hfx cl hnr hjlen hKq hgK
    go_wp2_with fail
    refine region_reads (by kernel_rfl) (by kernel_rfl) ?_
    repeat still_step
    refine wpStill_nil ?_
    go_wp2_with fail
    go_wp2_with fail
    go_cut [10,11]from 42 to 54 (fun v10 v11 wx=> ∃(B:Option Addr) (m2 d2:Nat),v10= .slice B m2 d2∧v11= .bool ok∧RdI wx (fun k=>w5.heap.size≤k∧k<wx.heap.size) (.slice B m2 d2) jl∧Below w5.heap.size w5 wx)
    case first=>
     refine wp_region_held_drew (S:=(fun W=>W.cell? ⟨E,5,none⟩=some (.pointer (some ⟨pb,0,none⟩))∧W.cell? ⟨Kq,1,none⟩=some (.slice (some ⟨br,orr,none⟩) nr cr)∧W.cell? ⟨Bi,1,none⟩=some (.int .i64 (t:Int)))) (by kernel_rfl) ?_ (fun hHeld=> ?_)
     ·exact⟨q5,p3,p1⟩
     have hS: ∀W,Below w5.heap.size w5 W→W.cell? ⟨E,5,none⟩=some (.pointer (some ⟨pb,0,none⟩))∧W.cell? ⟨Kq,1,none⟩=some (.slice (some ⟨br,orr,none⟩) nr cr)∧W.cell? ⟨Bi,1,none⟩=some (.int .i64 (t:Int)):=fun W hb=>by
      exact⟨(hb.cell (World.block_lt_of_cell? _ _ q5)).trans q5,(hb.cell (World.block_lt_of_cell? _ _ p3)).trans p3,(hb.cell (World.block_lt_of_cell? _ _ p1)).trans p1⟩
     have bd:Below w5.heap.size w5 w5.drew.drew:=(Below.refl _ w5).drew.drew
     have hzd:w5.drew.drew.heap.size=w5.heap.size:=rfl
     clear q2 q5 p0 p1 p3
     generalize w5.drew.drew=wd at *
     have cl:=Xcl.out wd bd
     have XhS:=hide hS;have Xcl:=hide cl;have Xbd:=hide bd;have Xhzd:=hide hzd;clear hS cl bd hzd
     refine tk (i:=0) (oi:= ?_) (v:= ?_) ?_ (by kernel_rfl) ?_ (Or.inl ⟨?_,?_⟩) (by assumption) ?_;rotate_left 2;(focus((try simp only [gT,gs,gz]);try rfl));exact fun _ _ _ h=>h;rfl;(focus(intro wS hwS;(try dsimp only at hwS);go_simp;all_goals with_reducible rfl));try simp only [Act.put,sT,s0,s1]
     refine tk (i:=1) (oi:= ?_) (v:= ?_) ?_ (by kernel_rfl) ?_ (Or.inl ⟨?_,?_⟩) (by assumption) ?_;rotate_left 2;(focus((try simp only [gT,gs,gz]);try rfl));exact fun _ _ _ h=>h;rfl;(focus(intro wS hwS;(try dsimp only at hwS);go_simp;all_goals with_reducible rfl));try simp only [Act.put,sT,s0,s1]
     refine tk (i:=2) (oi:= ?_) (v:= ?_) ?_ (by kernel_rfl) ?_ (Or.inl ⟨?_,?_⟩) (by assumption) ?_;rotate_left 2;(focus((try simp only [gT,gs,gz]);try rfl));exact fun _ _ _ h=>h;rfl;(focus(intro wS hwS;(try dsimp only at hwS);go_simp;all_goals with_reducible rfl));try simp only [Act.put,sT,s0,s1]
     refine tk (i:=3) (oi:= ?_) (v:= ?_) ?_ (by kernel_rfl) ?_ (Or.inl ⟨?_,?_⟩) (by assumption) ?_;rotate_left 2;(focus((try simp only [gT,gs,gz]);try rfl));exact fun _ _ _ h=>h;rfl;(focus(intro wS hwS;(try dsimp only at hwS);go_simp;all_goals with_reducible rfl));try simp only [Act.put,sT,s0,s1]
     refine tk (i:=4) (oi:= ?_) (v:= ?_) ?_ (by kernel_rfl) ?_ (Or.inl ⟨?_,?_⟩) (by assumption) ?_;rotate_left 2;(focus((try simp only [gT,gs,gz]);try rfl));exact fun _ _ _ h=>h;rfl;(focus(intro wS hwS;(try dsimp only at hwS);go_simp;all_goals with_reducible rfl));try simp only [Act.put,sT,s0,s1]
     refine tk (i:=5) (oi:= ?_) (v:= ?_) ?_ (by kernel_rfl) ?_ (Or.inl ⟨?_,?_⟩) (by assumption) ?_;rotate_left 2;(focus((try simp only [gT,gs,gz]);try rfl));exact fun _ _ _ h=>h;rfl;(focus(intro wS hwS;(try dsimp only at hwS);go_simp;all_goals with_reducible rfl));try simp only [Act.put,sT,s0,s1]
     refine tk (i:=6) (oi:= ?_) (v:= ?_) ?_ (by kernel_rfl) ?_ (Or.inl ⟨?_,?_⟩) (by assumption) ?_;rotate_left 2;(focus((try simp only [gT,gs,gz]);try rfl));exact fun _ _ _ h=>h;rfl;(focus(intro wS hwS;(try dsimp only at hwS);go_simp;all_goals with_reducible rfl));try simp only [Act.put,sT,s0,s1]
     refine tk (i:=7) (oi:= ?_) (v:= ?_) ?_ (by kernel_rfl) ?_ (Or.inl ⟨?_,?_⟩) (by assumption) ?_;rotate_left 2;(focus((try simp only [gT,gs,gz]);try rfl));exact fun _ _ _ h=>h;rfl;(focus(intro wS hwS;(try dsimp only at hwS);go_simp;all_goals with_reducible rfl));try simp only [Act.put,sT,s0,s1]
     refine tk (i:=8) (oi:= ?_) (v:= ?_) ?_ (by kernel_rfl) ?_ (Or.inl ⟨?_,?_⟩) (by assumption) ?_;rotate_left 2;(focus((try simp only [gT,gs,gz]);try rfl));exact fun _ _ _ h=>h;rfl;(focus(intro wS hwS;(try dsimp only at hwS);go_simp;all_goals with_reducible rfl));try simp only [Act.put,sT,s0,s1]
     refine wpAnyH_ready (rs:=[9]) (by kernel_rfl) (by simp) ?_
     refine AllReadyH.cons (o:= ?_) ?_ (fun K hK=> ?_) AllReadyH.nil;rotate_left 1;(focus((try simp only [gT,gs,gz]);try rfl))
     go_simp
     go_at_call 60
     refine Xcl.out.mono ?_
     rintro e w6 ⟨B,m2,d2,rfl,r6,b6⟩
     rw [Xhzd.out]at r6 b6
     have b6:=Xbd.out.trans b6
     have Xr6:=hide r6;clear r6
     refine hK.out _ _ ?_ (fun hHeld=> ?_)
     ·exact XhS.out _ b6
     clear hK K
     try simp only [Act.put,sT,s0,s1]
     have Xb6:=hide b6;clear b6
     refine tk (i:=10) (oi:= ?_) (v:= ?_) ?_ (by kernel_rfl) ?_ (Or.inl ⟨?_,?_⟩) (by assumption) ?_;rotate_left 2;(focus((try simp only [gT,gs,gz]);try rfl));exact fun _ _ _ h=>h;rfl;(focus(intro wS hwS;(try dsimp only at hwS);go_simp;all_goals with_reducible rfl));try simp only [Act.put,sT,s0,s1]
     refine tk (i:=11) (oi:= ?_) (v:= ?_) ?_ (by kernel_rfl) ?_ (Or.inl ⟨?_,?_⟩) (by assumption) ?_;rotate_left 2;(focus((try simp only [gT,gs,gz]);try rfl));exact fun _ _ _ h=>h;rfl;(focus(intro wS hwS;(try dsimp only at hwS);go_simp;all_goals with_reducible rfl));try simp only [Act.put,sT,s0,s1]
     refine tk (i:=12) (oi:= ?_) (v:= ?_) ?_ (by kernel_rfl) ?_ (Or.inl ⟨?_,?_⟩) (by assumption) ?_;rotate_left 2;(focus((try simp only [gT,gs,gz]);try rfl));exact fun _ _ _ h=>h;rfl;(focus(intro wS hwS;(try dsimp only at hwS);go_simp;all_goals with_reducible rfl));try simp only [Act.put,sT,s0,s1]
     refine tk (i:=13) (oi:= ?_) (v:= ?_) ?_ (by kernel_rfl) ?_ (Or.inl ⟨?_,?_⟩) (by assumption) ?_;rotate_left 2;(focus((try simp only [gT,gs,gz]);try rfl));exact fun _ _ _ h=>h;rfl;(focus(intro wS hwS;(try dsimp only at hwS);go_simp;all_goals with_reducible rfl));try simp only [Act.put,sT,s0,s1]
     refine tk (i:=14) (oi:= ?_) (v:= ?_) ?_ (by kernel_rfl) ?_ (Or.inl ⟨?_,?_⟩) (by assumption) ?_;rotate_left 2;(focus((try simp only [gT,gs,gz]);try rfl));exact fun _ _ _ h=>h;rfl;(focus(intro wS hwS;(try dsimp only at hwS);go_simp;all_goals with_reducible rfl));try simp only [Act.put,sT,s0,s1]
     refine wpAnyH_done (by kernel_rfl) ?_ _
     go_wp2_with fail
     go_meet
     exact⟨B,m2,d2,rfl,rfl,Xr6.out,Xb6.out⟩
    case rest=>
     obtain⟨B,m2,d2,rfl,rfl,rl,b6⟩:=hcut
     generalize wc=w6 at *
     have e6:=Xe5.out.below b6
     have kb6:=Xkbc.out.below b6 Xkbc.out.lt
     have kr6:=Xkr.out.below b6 Xkr.out.lt
     have tw6:Touch (fun b=>E≤b) w w6:=Xtw5.out.trans' (Touch.of_size b6 _)
     have h5E:=Xe5.out.blk.lt
     have h5K:=Xkr.out.lt
     have rl6:RdI w6 (NdF w6 E (.slice (some ⟨g,0,none⟩) L cap)) (.slice B m2 d2) jl:=Rd.mono rl fun b hb=>⟨hb.2,by have:=hb.1;omega,fun e=>by have:=Xhwo.out b e;have:=hb.1;have:=XhgK.out;omega⟩
     clear b6 q2 q5 p0 p1 p3 Xcl Xe5 Xkbc Xkr Xtw5 rl
     cases ok with
     |false=>
      have h9:=Xhfx.out
      rw [if_neg (by decide)]at h9
      have hno:=ItemR.of_no (p:=z.1.1) h9 rfl Xhrel.out rfl e6 tw6
      clear e6 kb6 kr6 tw6 rl6 h5E h5K h9
      have Xhno:=hide hno;clear hno
      go_wp2_with fail
      go_ret
      exact Xhno.out
     |true=>
      have hfy:=Xhfx.out
      rw [if_pos rfl]at hfy
      rw [if_pos XhO.out]at hfy
      clear kb6 kr6 h5E h5K
      have Xe6:=hide e6;have Xtw6:=hide tw6;have Xrl6:=hide rl6;have Xhfy:=hide hfy;clear e6 tw6 rl6 hfy
      go_wp2_with fail
      refine(ref_put22 Xe6.out Xhz.out Xrl6.out).mono ?_
      rintro e w9 ⟨rfl,h9,t9⟩
      have tt:=Xtw6.out.trans (t9.mono (fun b _ e=>by rw [e];exact Nat.le_of_lt XhEg.out)) (fun _ _ e=>e)
      have rr:=ItemR.of_put (o:=o) (p:=z.1.1) (u:= .slice B m2 d2) Xhfy.out (cand_over _ _) (node_over _ _).symm Xhrel.out Xhnd.out Xhz.out rfl rfl h9 tt
      clear h9 t9 tt
      have Xrr:=hide rr;clear rr
      go_wp2_with fail
      go_ret
      exact Xrr.out
  ·have hRb:(x0==(R:Int))=false:=by rw [XhR.out];simpa using hO
   clear Xhr9
   have XhO:=hide hO;have Xtw5:=hide tw5;have Xe5:=hide e5;have Xkbc:=hide kbc;have Xkr:=hide kr;have Xhok:=hide hok;have Xhjl:=hide hjl;have Xhfx:=hide hfx;have Xcl:=hide cl;have Xhnr:=hide hnr;have Xhjlen:=hide hjlen;have XhKq:=hide hKq;have XhgK:=hide hgK;clear hO tw5 e5 kbc kr hok hjl hfx cl hnr hjlen hKq hgK
   go_wp2_with fail
   refine region_reads (by kernel_rfl) (by kernel_rfl) ?_
   repeat still_step
   refine wpStill_nil ?_
   go_wp2_with fail
   go_wp2_with fail
   go_cut [10,11]from 42 to 54 (fun v10 v11 wx=> ∃(B:Option Addr) (m2 d2:Nat),v10= .slice B m2 d2∧v11= .bool ok∧RdI wx (fun k=>w5.heap.size≤k∧k<wx.heap.size) (.slice B m2 d2) jl∧Below w5.heap.size w5 wx)
   case first=>
    refine wp_region_held_drew (S:=(fun W=>W.cell? ⟨E,5,none⟩=some (.pointer (some ⟨pb,0,none⟩))∧W.cell? ⟨Kq,1,none⟩=some (.slice (some ⟨br,orr,none⟩) nr cr)∧W.cell? ⟨Bi,1,none⟩=some (.int .i64 (t:Int)))) (by kernel_rfl) ?_ (fun hHeld=> ?_)
    ·exact⟨q5,p3,p1⟩
    have hS: ∀W,Below w5.heap.size w5 W→W.cell? ⟨E,5,none⟩=some (.pointer (some ⟨pb,0,none⟩))∧W.cell? ⟨Kq,1,none⟩=some (.slice (some ⟨br,orr,none⟩) nr cr)∧W.cell? ⟨Bi,1,none⟩=some (.int .i64 (t:Int)):=fun W hb=>by
     exact⟨(hb.cell (World.block_lt_of_cell? _ _ q5)).trans q5,(hb.cell (World.block_lt_of_cell? _ _ p3)).trans p3,(hb.cell (World.block_lt_of_cell? _ _ p1)).trans p1⟩
    have bd:Below w5.heap.size w5 w5.drew.drew:=(Below.refl _ w5).drew.drew
    have hzd:w5.drew.drew.heap.size=w5.heap.size:=rfl
    clear q2 q5 p0 p1 p3
    generalize w5.drew.drew=wd at *
    have cl:=Xcl.out wd bd
    have XhS:=hide hS;have Xcl:=hide cl;have Xbd:=hide bd;have Xhzd:=hide hzd;clear hS cl bd hzd
    refine tk (i:=0) (oi:= ?_) (v:= ?_) ?_ (by kernel_rfl) ?_ (Or.inl ⟨?_,?_⟩) (by assumption) ?_;rotate_left 2;(focus((try simp only [gT,gs,gz]);try rfl));exact fun _ _ _ h=>h;rfl;(focus(intro wS hwS;(try dsimp only at hwS);go_simp;all_goals with_reducible rfl));try simp only [Act.put,sT,s0,s1]
    refine tk (i:=1) (oi:= ?_) (v:= ?_) ?_ (by kernel_rfl) ?_ (Or.inl ⟨?_,?_⟩) (by assumption) ?_;rotate_left 2;(focus((try simp only [gT,gs,gz]);try rfl));exact fun _ _ _ h=>h;rfl;(focus(intro wS hwS;(try dsimp only at hwS);go_simp;all_goals with_reducible rfl));try simp only [Act.put,sT,s0,s1]
    refine tk (i:=2) (oi:= ?_) (v:= ?_) ?_ (by kernel_rfl) ?_ (Or.inl ⟨?_,?_⟩) (by assumption) ?_;rotate_left 2;(focus((try simp only [gT,gs,gz]);try rfl));exact fun _ _ _ h=>h;rfl;(focus(intro wS hwS;(try dsimp only at hwS);go_simp;all_goals with_reducible rfl));try simp only [Act.put,sT,s0,s1]
    refine tk (i:=3) (oi:= ?_) (v:= ?_) ?_ (by kernel_rfl) ?_ (Or.inl ⟨?_,?_⟩) (by assumption) ?_;rotate_left 2;(focus((try simp only [gT,gs,gz]);try rfl));exact fun _ _ _ h=>h;rfl;(focus(intro wS hwS;(try dsimp only at hwS);go_simp;all_goals with_reducible rfl));try simp only [Act.put,sT,s0,s1]
    refine tk (i:=4) (oi:= ?_) (v:= ?_) ?_ (by kernel_rfl) ?_ (Or.inl ⟨?_,?_⟩) (by assumption) ?_;rotate_left 2;(focus((try simp only [gT,gs,gz]);try rfl));exact fun _ _ _ h=>h;rfl;(focus(intro wS hwS;(try dsimp only at hwS);go_simp;all_goals with_reducible rfl));try simp only [Act.put,sT,s0,s1]
    refine tk (i:=5) (oi:= ?_) (v:= ?_) ?_ (by kernel_rfl) ?_ (Or.inl ⟨?_,?_⟩) (by assumption) ?_;rotate_left 2;(focus((try simp only [gT,gs,gz]);try rfl));exact fun _ _ _ h=>h;rfl;(focus(intro wS hwS;(try dsimp only at hwS);go_simp;all_goals with_reducible rfl));try simp only [Act.put,sT,s0,s1]
    refine tk (i:=6) (oi:= ?_) (v:= ?_) ?_ (by kernel_rfl) ?_ (Or.inl ⟨?_,?_⟩) (by assumption) ?_;rotate_left 2;(focus((try simp only [gT,gs,gz]);try rfl));exact fun _ _ _ h=>h;rfl;(focus(intro wS hwS;(try dsimp only at hwS);go_simp;all_goals with_reducible rfl));try simp only [Act.put,sT,s0,s1]
    refine tk (i:=7) (oi:= ?_) (v:= ?_) ?_ (by kernel_rfl) ?_ (Or.inl ⟨?_,?_⟩) (by assumption) ?_;rotate_left 2;(focus((try simp only [gT,gs,gz]);try rfl));exact fun _ _ _ h=>h;rfl;(focus(intro wS hwS;(try dsimp only at hwS);go_simp;all_goals with_reducible rfl));try simp only [Act.put,sT,s0,s1]
    refine tk (i:=8) (oi:= ?_) (v:= ?_) ?_ (by kernel_rfl) ?_ (Or.inl ⟨?_,?_⟩) (by assumption) ?_;rotate_left 2;(focus((try simp only [gT,gs,gz]);try rfl));exact fun _ _ _ h=>h;rfl;(focus(intro wS hwS;(try dsimp only at hwS);go_simp;all_goals with_reducible rfl));try simp only [Act.put,sT,s0,s1]
    refine wpAnyH_ready (rs:=[9]) (by kernel_rfl) (by simp) ?_
    refine AllReadyH.cons (o:= ?_) ?_ (fun K hK=> ?_) AllReadyH.nil;rotate_left 1;(focus((try simp only [gT,gs,gz]);try rfl))
    go_simp
    go_at_call 60
    refine Xcl.out.mono ?_
    rintro e w6 ⟨B,m2,d2,rfl,r6,b6⟩
    rw [Xhzd.out]at r6 b6
    have b6:=Xbd.out.trans b6
    have Xr6:=hide r6;clear r6
    refine hK.out _ _ ?_ (fun hHeld=> ?_)
    ·exact XhS.out _ b6
    clear hK K
    try simp only [Act.put,sT,s0,s1]
    have Xb6:=hide b6;clear b6
    refine tk (i:=10) (oi:= ?_) (v:= ?_) ?_ (by kernel_rfl) ?_ (Or.inl ⟨?_,?_⟩) (by assumption) ?_;rotate_left 2;(focus((try simp only [gT,gs,gz]);try rfl));exact fun _ _ _ h=>h;rfl;(focus(intro wS hwS;(try dsimp only at hwS);go_simp;all_goals with_reducible rfl));try simp only [Act.put,sT,s0,s1]
    refine tk (i:=11) (oi:= ?_) (v:= ?_) ?_ (by kernel_rfl) ?_ (Or.inl ⟨?_,?_⟩) (by assumption) ?_;rotate_left 2;(focus((try simp only [gT,gs,gz]);try rfl));exact fun _ _ _ h=>h;rfl;(focus(intro wS hwS;(try dsimp only at hwS);go_simp;all_goals with_reducible rfl));try simp only [Act.put,sT,s0,s1]
    refine tk (i:=12) (oi:= ?_) (v:= ?_) ?_ (by kernel_rfl) ?_ (Or.inl ⟨?_,?_⟩) (by assumption) ?_;rotate_left 2;(focus((try simp only [gT,gs,gz]);try rfl));exact fun _ _ _ h=>h;rfl;(focus(intro wS hwS;(try dsimp only at hwS);go_simp;all_goals with_reducible rfl));try simp only [Act.put,sT,s0,s1]
    refine tk (i:=13) (oi:= ?_) (v:= ?_) ?_ (by kernel_rfl) ?_ (Or.inl ⟨?_,?_⟩) (by assumption) ?_;rotate_left 2;(focus((try simp only [gT,gs,gz]);try rfl));exact fun _ _ _ h=>h;rfl;(focus(intro wS hwS;(try dsimp only at hwS);go_simp;all_goals with_reducible rfl));try simp only [Act.put,sT,s0,s1]
    refine tk (i:=14) (oi:= ?_) (v:= ?_) ?_ (by kernel_rfl) ?_ (Or.inl ⟨?_,?_⟩) (by assumption) ?_;rotate_left 2;(focus((try simp only [gT,gs,gz]);try rfl));exact fun _ _ _ h=>h;rfl;(focus(intro wS hwS;(try dsimp only at hwS);go_simp;all_goals with_reducible rfl));try simp only [Act.put,sT,s0,s1]
    refine wpAnyH_done (by kernel_rfl) ?_ _
    go_wp2_with fail
    go_meet
    exact⟨B,m2,d2,rfl,rfl,Xr6.out,Xb6.out⟩
   case rest=>
    obtain⟨B,m2,d2,rfl,rfl,rl,b6⟩:=hcut
    generalize wc=w6 at *
    have e6:=Xe5.out.below b6
    have kb6:=Xkbc.out.below b6 Xkbc.out.lt
    have kr6:=Xkr.out.below b6 Xkr.out.lt
    have tw6:Touch (fun b=>E≤b) w w6:=Xtw5.out.trans' (Touch.of_size b6 _)
    have h5E:=Xe5.out.blk.lt
    have h5K:=Xkr.out.lt
    have rl6:RdI w6 (NdF w6 E (.slice (some ⟨g,0,none⟩) L cap)) (.slice B m2 d2) jl:=Rd.mono rl fun b hb=>⟨hb.2,by have:=hb.1;omega,fun e=>by have:=Xhwo.out b e;have:=hb.1;have:=XhgK.out;omega⟩
    clear b6 q2 q5 p0 p1 p3 Xcl Xe5 Xkbc Xkr Xtw5 rl
    cases ok with
    |false=>
     have h9:=Xhfx.out
     rw [if_neg (by decide)]at h9
     have hno:=ItemR.of_no (p:=z.1.1) h9 rfl Xhrel.out rfl e6 tw6
     clear e6 kb6 kr6 tw6 rl6 h5E h5K h9
     have Xhno:=hide hno;clear hno
     go_wp2_with fail
     go_ret
     exact Xhno.out
    |true=>
     have hfy:=Xhfx.out
     rw [if_pos rfl]at hfy
     rw [if_neg XhO.out]at hfy
     obtain⟨ht0,htp,i0,q,hi0,hgo⟩:=Xhd3.out XhO.out
     obtain⟨u,hu⟩: ∃u,u=z.1.1.1 - t:=⟨_,rfl⟩
     rw [←hu]at hi0 hfy
     have hput:z.1.1.1=u+t:=by omega
     rw [hi0,Option.getD_some,hgo,Int.toNat_natCast]at hfy
     have hp9:=Xhp1.out
     have hw1:IntKind.i64.wrap ((z.1.1.1:Int) - (t:Int))=(u:Int):=by rw [IntKind.wrap_i64];omega
     have hw2:IntKind.i64.wrap ((u:Int)+1)=(u:Int)+1:=by rw [IntKind.wrap_i64];omega
     have hw3:IntKind.i64.wrap ((u:Int)+1 - 1)=(u:Int):=by rw [IntKind.wrap_i64];omega
     have hw4:IntKind.i64.wrap (u:Int)=(u:Int):=by rw [IntKind.wrap_i64];omega
     have hul:=(List.getElem?_eq_some_iff.1 hi0).1
     have hul2:(u:Int)<(ms:Int):=by have:=Xhms.out;omega
     have hu0:(0:Int)≤(u:Int):=by omega
     have hiL2:(i:Int)<(L:Int):=by have:=XhiL.out;omega
     have hi9:(0:Int)≤(i:Int):=by omega
     obtain⟨g',cap',e9,-,-,-,-,c0,-⟩:=e6.cell Xhz.out
     injection e9 with e9 e8 e7
     clear e8 e7
     injection e9 with e9
     injection e9 with e9 e8 e7
     clear e8 e7
     subst e9
     obtain⟨-,-,-,hcs⟩:=RdI.at_ e6.s
     obtain⟨bs,os,rfl,hbs,hcs⟩:=hcs (by omega)
     have qs:=hcs u _ (natL_get hi0)
     have q7:=(e6.blk.cell 7).trans rfl
     have q4:=(e6.blk.cell 4).trans rfl
     have q6:=(e6.blk.cell 6).trans rfl
     have p1:=(kb6.cell 1).trans rfl
     have p4:=(kr6.cell 0).trans rfl
     have hKE:Kq≠E:=by have:=XhgK.out;have:=XhEg.out;omega
     have cgo:Calls Tryz.prog 61 #[.slice Aa n ca,.int .i64 (i0:Int),.int .i64 l] w6.drew.drew (fun e w'=>e= .returned (.int .i64 (q:Int))∧w6.drew.drew=w'):=by
      have:=ref13_Goto (e6.below ((Below.refl _ w6).drew.drew)).a (i0:Int) l
      rw [hgo]at this
      exact this
     have cfi:=ref_find22 (e6.below ((Below.refl _ w6).drew.drew)) (u+1,q) XhZ'.out
     have dr:=(Below.refl w6.heap.size w6).drew.drew
     have tw7:=tw6.trans' (Touch.of_size dr _)
     have rl7:RdI w6.drew.drew (NdF w6.drew.drew E (.slice (some ⟨g,0,none⟩) L cap)) (.slice B m2 d2) jl:=Rd.drew (Rd.drew rl6)
     have hSg:w6.drew.drew.cell? ⟨E,4,none⟩=some (.slice Aa n ca)∧w6.drew.drew.cell? ⟨E,6,none⟩=some (.slice (some ⟨bs,os,none⟩) ms cs)∧w6.drew.drew.cell? ⟨bs,os+u,none⟩=some (.int .i64 (i0:Int))∧w6.drew.drew.cell? ⟨Kq,0,none⟩=some (.int .i64 l):=⟨q4,q6,qs,p4⟩
     clear kb6 kr6 h5E h5K e6 tw6 rl6 hcs ht0 htp hu hgo hp9 hul dr
     have Xhi0:=hide hi0;have Xhput:=hide hput;have Xhfy:=hide hfy;have Xhbs:=hide hbs;have XhKE:=hide hKE;have Xcfi:=hide cfi;have Xcgo:=hide cgo;have Xtw7:=hide tw7;have Xrl7:=hide rl7;have XhSg:=hide hSg;clear hi0 hput hfy hbs hKE cfi cgo tw7 rl7 hSg
     go_wp2_with fail
     refine region_reads (by kernel_rfl) (by kernel_rfl) ?_
     repeat still_step
     refine wpStill_nil ?_
     go_wp2_with fail
     go_wp2_with fail
     refine wp_region_held_drew (S:=(fun W=>W.cell? ⟨E,4,none⟩=some (.slice Aa n ca)∧W.cell? ⟨E,6,none⟩=some (.slice (some ⟨bs,os,none⟩) ms cs)∧W.cell? ⟨bs,os+u,none⟩=some (.int .i64 (i0:Int))∧W.cell? ⟨Kq,0,none⟩=some (.int .i64 l))) (by kernel_rfl) ?_ (fun hHeld=> ?_)
     ·exact⟨q4,q6,qs,p4⟩
     clear q4 q6 qs p4 q7 p1 c0
     generalize w6.drew.drew=wd at *
     refine tk (i:=0) (oi:= ?_) (v:= ?_) ?_ (by kernel_rfl) ?_ (Or.inl ⟨?_,?_⟩) (by assumption) ?_;rotate_left 2;(focus((try simp only [gT,gs,gz]);try rfl));exact fun _ _ _ h=>h;rfl;(focus(intro wS hwS;(try dsimp only at hwS);go_simp;all_goals with_reducible rfl));try simp only [Act.put,sT,s0,s1]
     refine tk (i:=1) (oi:= ?_) (v:= ?_) ?_ (by kernel_rfl) ?_ (Or.inl ⟨?_,?_⟩) (by assumption) ?_;rotate_left 2;(focus((try simp only [gT,gs,gz]);try rfl));exact fun _ _ _ h=>h;rfl;(focus(intro wS hwS;(try dsimp only at hwS);go_simp;all_goals with_reducible rfl));try simp only [Act.put,sT,s0,s1]
     refine tk (i:=2) (oi:= ?_) (v:= ?_) ?_ (by kernel_rfl) ?_ (Or.inl ⟨?_,?_⟩) (by assumption) ?_;rotate_left 2;(focus((try simp only [gT,gs,gz]);try rfl));exact fun _ _ _ h=>h;rfl;(focus(intro wS hwS;(try dsimp only at hwS);go_simp;all_goals with_reducible rfl));try simp only [Act.put,sT,s0,s1]
     refine tk (i:=3) (oi:= ?_) (v:= ?_) ?_ (by kernel_rfl) ?_ (Or.inl ⟨?_,?_⟩) (by assumption) ?_;rotate_left 2;(focus((try simp only [gT,gs,gz]);try rfl));exact fun _ _ _ h=>h;rfl;(focus(intro wS hwS;(try dsimp only at hwS);go_simp;all_goals with_reducible rfl));try simp only [Act.put,sT,s0,s1]
     refine tk (i:=4) (oi:= ?_) (v:= ?_) ?_ (by kernel_rfl) ?_ (Or.inl ⟨?_,?_⟩) (by assumption) ?_;rotate_left 2;(focus((try simp only [gT,gs,gz]);try rfl));exact fun _ _ _ h=>h;rfl;(focus(intro wS hwS;(try dsimp only at hwS);go_simp;all_goals with_reducible rfl));try simp only [Act.put,sT,s0,s1]
     refine tk (i:=5) (oi:= ?_) (v:= ?_) ?_ (by kernel_rfl) ?_ (Or.inl ⟨?_,?_⟩) (by assumption) ?_;rotate_left 2;(focus((try simp only [gT,gs,gz]);try rfl));exact fun _ _ _ h=>h;rfl;(focus(intro wS hwS;(try dsimp only at hwS);go_simp;all_goals with_reducible rfl));try simp only [Act.put,sT,s0,s1]
     refine tk (i:=6) (oi:= ?_) (v:= ?_) ?_ (by kernel_rfl) ?_ (Or.inl ⟨?_,?_⟩) (by assumption) ?_;rotate_left 2;(focus((try simp only [gT,gs,gz]);try rfl));exact fun _ _ _ h=>h;rfl;(focus(intro wS hwS;(try dsimp only at hwS);go_simp;all_goals with_reducible rfl));try simp only [Act.put,sT,s0,s1]
     refine tk (i:=7) (oi:= ?_) (v:= ?_) ?_ (by kernel_rfl) ?_ (Or.inl ⟨?_,?_⟩) (by assumption) ?_;rotate_left 2;(focus((try simp only [gT,gs,gz]);try rfl));exact fun _ _ _ h=>h;rfl;(focus(intro wS hwS;(try dsimp only at hwS);go_simp;all_goals with_reducible rfl));try simp only [Act.put,sT,s0,s1]
     refine tk (i:=8) (oi:= ?_) (v:= ?_) ?_ (by kernel_rfl) ?_ (Or.inl ⟨?_,?_⟩) (by assumption) ?_;rotate_left 2;(focus((try simp only [gT,gs,gz]);try rfl));exact fun _ _ _ h=>h;rfl;(focus(intro wS hwS;(try dsimp only at hwS);go_simp;all_goals with_reducible rfl));try simp only [Act.put,sT,s0,s1]
     refine tk (i:=9) (oi:= ?_) (v:= ?_) ?_ (by kernel_rfl) ?_ (Or.inl ⟨?_,?_⟩) (by assumption) ?_;rotate_left 2;(focus((try simp only [gT,gs,gz]);try rfl));exact fun _ _ _ h=>h;rfl;(focus(intro wS hwS;(try dsimp only at hwS);go_simp;all_goals with_reducible rfl));try simp only [Act.put,sT,s0,s1]
     refine tk (i:=10) (oi:= ?_) (v:= ?_) ?_ (by kernel_rfl) ?_ (Or.inl ⟨?_,?_⟩) (by assumption) ?_;rotate_left 2;(focus((try simp only [gT,gs,gz]);try rfl));exact fun _ _ _ h=>h;rfl;(focus(intro wS hwS;(try dsimp only at hwS);go_simp;all_goals with_reducible rfl));try simp only [Act.put,sT,s0,s1]
     refine tk (i:=11) (oi:= ?_) (v:= ?_) ?_ (by kernel_rfl) ?_ (Or.inl ⟨?_,?_⟩) (by assumption) ?_;rotate_left 2;(focus((try simp only [gT,gs,gz]);try rfl));exact fun _ _ _ h=>h;rfl;(focus(intro wS hwS;(try dsimp only at hwS);go_simp;all_goals with_reducible rfl));try simp only [Act.put,sT,s0,s1]
     refine tk (i:=12) (oi:= ?_) (v:= ?_) ?_ (by kernel_rfl) ?_ (Or.inl ⟨?_,?_⟩) (by assumption) ?_;rotate_left 2;(focus((try simp only [gT,gs,gz]);try rfl));exact fun _ _ _ h=>h;rfl;(focus(intro wS hwS;(try dsimp only at hwS);go_simp;all_goals with_reducible rfl));try simp only [Act.put,sT,s0,s1]
     refine tk (i:=13) (oi:= ?_) (v:= ?_) ?_ (by kernel_rfl) ?_ (Or.inl ⟨?_,?_⟩) (by assumption) ?_;rotate_left 2;(focus((try simp only [gT,gs,gz]);try rfl));exact fun _ _ _ h=>h;rfl;(focus(intro wS hwS;(try dsimp only at hwS);go_simp;all_goals with_reducible rfl));try simp only [Act.put,sT,s0,s1]
     refine tk (i:=14) (oi:= ?_) (v:= ?_) ?_ (by kernel_rfl) ?_ (Or.inl ⟨?_,?_⟩) (by assumption) ?_;rotate_left 2;(focus((try simp only [gT,gs,gz]);try rfl));exact fun _ _ _ h=>h;rfl;(focus(intro wS hwS;(try dsimp only at hwS);go_simp;all_goals with_reducible rfl));try simp only [Act.put,sT,s0,s1]
     refine tk (i:=15) (oi:= ?_) (v:= ?_) ?_ (by kernel_rfl) ?_ (Or.inl ⟨?_,?_⟩) (by assumption) ?_;rotate_left 2;(focus((try simp only [gT,gs,gz]);try rfl));exact fun _ _ _ h=>h;rfl;(focus(intro wS hwS;(try dsimp only at hwS);go_simp;all_goals with_reducible rfl));try simp only [Act.put,sT,s0,s1]
     refine wpAnyH_ready (rs:=[16]) (by kernel_rfl) (by simp) ?_
     refine AllReadyH.cons (o:= ?_) ?_ (fun K hK=> ?_) AllReadyH.nil;rotate_left 1;(focus((try simp only [gT,gs,gz]);try rfl))
     go_simp
     go_at_call 61
     refine Xcgo.out.mono ?_
     rintro e w7 ⟨rfl,rfl⟩
     refine hK.out _ _ ?_ (fun hHeld=> ?_)
     ·exact XhSg.out
     clear hK K
     try simp only [Act.put,sT,s0,s1]
     refine wpAnyH_ready (rs:=[17]) (by kernel_rfl) (by simp) ?_
     refine AllReadyH.cons (o:= ?_) ?_ (fun K hK=> ?_) AllReadyH.nil;rotate_left 1;(focus((try simp only [gT,gs,gz]);try rfl))
     go_simp
     go_at_call 27
     refine Xcfi.out.mono ?_
     rintro e w7 ⟨k,vN',Z',rfl,e8,t8,hvn,⟨z2,hz2,hz2n⟩,hcs8⟩
     obtain⟨s4,s6,ss,s0⟩:=XhSg.out
     have hfar: ∀b,b≠E→b≠g→ ¬(b=E∨(Value.slice (some ⟨g,0,none⟩) L cap).ownBlock=some b):=fun b h1 h2 e=>e.elim h1 (fun e=>h2 (Xhwo.out b e))
     have y0:=t8.cell s0 (hfar Kq XhKE.out (by have:=XhgK.out;omega))
     have ys:=t8.cell ss (hfar bs (by have:=Xhbs.out;omega) (by have:=Xhbs.out;have:=XhEg.out;omega))
     have y4:=(e8.blk.cell 4).trans rfl
     have y6:=(e8.blk.cell 6).trans rfl
     obtain⟨nm8,rel8,nd8,len8,hz8⟩:=find_says (jl:=jl) Xhrel.out Xhnd.out Xhout.out Xhlen.out hcs8
     have hz8:=hz8 i z Xhz.out
     have tw8:Touch (fun b=>E≤b) w w7:=Xtw7.out.trans t8 (fun b _ e=>by
      rcases e with e|e
      ·exact Nat.le_of_eq e.symm
      ·have:=Xhwo.out b e;have:=XhEg.out;omega)
     have rl8:RdI w7 (NdF w7 E vN') (.slice B m2 d2) jl:=Rd.mono (Rd.touch Xrl7.out t8 (fun b hb=>hfar b hb.2.1 (fun e=>hb.2.2 (by rw [e];rfl)))) fun b hb=>⟨Nat.lt_of_lt_of_le hb.1 t8.size,hb.2.1,fun e=>by
      rcases hvn with h|⟨b9,h1,h2⟩
      ·exact hb.2.2 (h▸e)
      ·rw [h1]at e;injection e with e;have:=hb.1;omega⟩
     clear hcs8 hvn t8 hfar XhSg Xcfi Xcgo Xtw7 Xrl7 s4 s6 ss s0
     have Xe8:=hide e8;have Xhz2:=hide hz2;have Xhz2n:=hide hz2n;have Xnm8:=hide nm8;have Xrel8:=hide rel8;have Xnd8:=hide nd8;have Xlen8:=hide len8;have Xhz8:=hide hz8;have Xtw8:=hide tw8;have Xrl8:=hide rl8;clear e8 hz2 hz2n nm8 rel8 nd8 len8 hz8 tw8 rl8
     refine hK.out _ _ ?_ (fun hHeld=> ?_)
     ·exact⟨y4,y6,ys,y0⟩
     clear hK K
     try simp only [Act.put,sT,s0,s1]
     clear y4 y6 ys y0
     refine tk (i:=18) (oi:= ?_) (v:= ?_) ?_ (by kernel_rfl) ?_ (Or.inl ⟨?_,?_⟩) (by assumption) ?_;rotate_left 2;(focus((try simp only [gT,gs,gz]);try rfl));exact fun _ _ _ h=>h;rfl;(focus(intro wS hwS;(try dsimp only at hwS);go_simp;all_goals with_reducible rfl));try simp only [Act.put,sT,s0,s1]
     refine wpAnyH_done (by kernel_rfl) ?_ _
     obtain⟨g2,cap2,rfl,hl3,hm3,hE2,hg2,-,-,y2,y3,-⟩:=Xe8.out.cell Xhz2.out
     unfold maxLen at hm3
     obtain⟨L2,hL2⟩: ∃q,q=Z'.length:=⟨_,rfl⟩
     rw [←hL2]at Xe8 hl3 Xrl8
     have q7:=(Xe8.out.blk.cell 7).trans rfl
     have hkL:(k:Int)<(L2:Int):=by have:=(List.getElem?_eq_some_iff.1 Xhz2.out).1;omega
     have hk0:(0:Int)≤(k:Int):=by omega
     have hFr:F (u+1,q)=z2.1.2:=by have:=Xrel8.out z2 (List.mem_of_getElem? Xhz2.out);rw [Xhz2n.out]at this;exact this
     cases hzo:z2.1.2 with
     |none=>
      rw [hzo]at hFr y2
      simp only [Option.isSome_none]at y2
      have rr:=ItemR.of_none (p:=z.1.1) Xhfy.out (cand_no hFr _) Xnm8.out Xrel8.out rfl Xe8.out Xtw8.out
      clear y3 hFr
      have Xrr:=hide rr;have XhL2:=hide hL2;have Xhzo:=hide hzo;clear rr hL2 hzo
      go_wp2_with fail
      go_ret
      exact Xrr.out
     |some lk=>
      rw [hzo]at hFr y2
      simp only [Option.isSome_some]at y2
      obtain⟨Av,mv,cv,hvz,-⟩:=id (Xe8.out.ok z2 (List.mem_of_getElem? Xhz2.out))
      have hrz:=Xe8.out.ok z2 (List.mem_of_getElem? Xhz2.out)
      have hlk:=Xlen8.out z2 (List.mem_of_getElem? Xhz2.out)
      rw [hzo,Option.getD_some]at hlk
      rw [hvz,hzo,Option.getD_some]at hrz
      rw [hvz]at y3
      have hmv:mv=lk.length:=by have:=(RdI.at_ hrz).1;exact this
      have hm2:m2=jl.length:=by have:=(RdI.at_ Xrl8.out).1;exact this
      have hjl9:=Xhjlen.out
      have ln1:(jl.map (Value.int .i64)).length=m2 * 1:=by rw [List.length_map];omega
      have ln2:(lk.map (Value.int .i64)).length=mv * 1:=by rw [List.length_map];omega
      obtain⟨wd,hwd⟩: ∃wd,wd=w7.drew:=⟨_,rfl⟩
      have dr:Below w7.heap.size w7 wd:=by rw [hwd];exact(Below.refl w7.heap.size w7).drew
      have e9:=Xe8.out.below dr
      have tw9:=Xtw8.out.trans' (Touch.of_size dr _)
      have r1: ∀W,Below wd.heap.size wd W→RdI W (NdF wd E (.slice (some ⟨g2,0,none⟩) L2 cap2)) (.slice B m2 d2) jl:=fun W hb=>by
       have:RdI wd (NdF wd E (.slice (some ⟨g2,0,none⟩) L2 cap2)) (.slice B m2 d2) jl:=by rw [hwd];exact Rd.drew Xrl8.out
       exact Rd.below this hb (fun b hb=>hb.1)
      have r2: ∀W,Below wd.heap.size wd W→RdI W (NdF wd E (.slice (some ⟨g2,0,none⟩) L2 cap2)) (.slice Av mv cv) lk:=fun W hb=>by
       have:RdI wd (NdF wd E (.slice (some ⟨g2,0,none⟩) L2 cap2)) (.slice Av mv cv) lk:=by rw [hwd];exact Rd.drew hrz
       exact Rd.below this hb (fun b hb=>hb.1)
      have hS: ∀W,Below wd.heap.size wd W→W.cell? ⟨E,7,none⟩=some (.slice (some ⟨g2,0,none⟩) L2 cap2)∧W.cell? ⟨g2,k * 4+3,none⟩=some (.slice Av mv cv):=fun W hb=>by
       have a1:wd.cell? ⟨E,7,none⟩=some (.slice (some ⟨g2,0,none⟩) L2 cap2):=by rw [hwd];exact q7
       have a2:wd.cell? ⟨g2,k * 4+3,none⟩=some (.slice Av mv cv):=by rw [hwd];exact y3
       exact⟨(hb.cell (World.block_lt_of_cell? _ _ a1)).trans a1,(hb.cell (World.block_lt_of_cell? _ _ a2)).trans a2⟩
      have hgs:g2<wd.heap.size∧E<wd.heap.size:=⟨by rw [hwd];exact hg2,by have:=e9.blk.lt;exact this⟩
      have hc9:=cand_way hFr jl
      clear hFr hrz hvz dr Xe8 Xtw8 Xrl8
      have XhL2:=hide hL2;have Xhzo:=hide hzo;have Xhlk:=hide hlk;have Xhmv:=hide hmv;have Xhm2:=hide hm2;have Xln1:=hide ln1;have Xln2:=hide ln2;have Xe9:=hide e9;have Xtw9:=hide tw9;have Xr1:=hide r1;have Xr2:=hide r2;have XhS:=hide hS;have Xhgs:=hide hgs;have Xhc9:=hide hc9;have Xhjl9:=hide hjl9;clear hL2 hzo hlk hmv hm2 ln1 ln2 e9 tw9 r1 r2 hS hgs hc9 hjl9
      go_wp2_with fail
      refine region_late2 (fun W=>W.cell? ⟨E,7,none⟩=some (.slice (some ⟨g2,0,none⟩) L2 cap2)∧W.cell? ⟨g2,k * 4+3,none⟩=some (.slice Av mv cv)) [0,1,3,5,6,7,8,9,10,11,12] [2,4,13] 14 (by kernel_rfl) (by kernel_rfl) ⟨q7,y3⟩ ?_
      simp only [pickO,List.getElem?_cons_succ,List.getElem?_cons_zero,List.drop_succ_cons,List.drop_zero]
      iterate 11
       refine wpHeld_cons ?_ (by rfl) (fun wS hwS=> ?_) ?_
       rotate_left
       ·(try dsimp only at hwS)
        go_simp
        all_goals with_reducible rfl
       simp only [Act.put,List.setIfInBounds_toArray,List.set_cons_zero,List.set_cons_succ]
      refine wpHeld_nil ?_
      rw [←hwd]
      clear hwd q7 y3
      have B1:Below wd.heap.size wd (wd.alloc (.cells #[] 3)):=(Below.refl _ wd).alloc (Nat.le_refl _) _
      have o1:=own_empty wd 3 1
      have XB1:=hide B1;clear B1
      refine wpMid_cons ?_
      go_wp2_with fail
      refine⟨XhS.out _ XB1.out,wpMid_cons ?_⟩
      go_wp2_with (at_builtin;refine wp_append _ rfl (.tmp 103) (.tmp 104) _ rfl Tryz.elemInt wd.heap.size _ 0 [] rfl o1 _ _ (jl.map (Value.int .i64)) m2 rfl Xln1.out (Xr1.out _ XB1.out) (by intro u hu;obtain⟨x,-,rfl⟩:=List.mem_map.1 hu;rfl) (by unfold maxLen;have:=Xhm2.out;have:=Xhjl9.out;omega) (by have:=Xhm2.out;have:=Xhjl9.out;omega) XB1.out.size ?_)
      intro A4 c4 w4 own4 hg4 hb4
      try rw [Nat.zero_add]at own4
      try rw [Nat.zero_add]
      have hg4:World.grownBy _ w4 (some wd.heap.size):=hg4
      have B4:=XB1.out.grown hg4 XB1.out.size (fun q hq=>(World.ownsRow.lt o1 q hq).1)
      have XB4:=hide B4;have Xown4:=hide own4;clear B4 own4;clear hg4 hb4 o1
      refine⟨XhS.out _ XB4.out,wpMid_cons ?_⟩
      go_wp2_with (at_builtin;refine wp_append _ rfl (.tmp 105) (.tmp 113) _ rfl Tryz.elemInt wd.heap.size _ m2 _ rfl Xown4.out _ _ (lk.map (Value.int .i64)) mv rfl Xln2.out (Xr2.out _ XB4.out) (by intro u hu;obtain⟨x,-,rfl⟩:=List.mem_map.1 hu;rfl) (by unfold maxLen;have:=Xhm2.out;have:=Xhjl9.out;have:=Xhmv.out;have:=Xhlk.out;omega) (by have:=Xhm2.out;have:=Xhjl9.out;have:=Xhmv.out;have:=Xhlk.out;omega) XB4.out.size ?_)
      intro A6 c6 w6 own6 hg6 hb6
      have B6:=XB4.out.grown hg6 XB4.out.size (fun q hq=>(World.ownsRow.lt Xown4.out q hq).1)
      have own6:w6.ownsRow wd.heap.size 3 1 (.slice A6 (m2+mv) c6) (m2+mv) ((jl++lk).map (Value.int .i64)):=by simpa using own6
      have e10:=Xe9.out.below B6
      have tw10:=Xtw9.out.trans' (Touch.of_size B6 _)
      have hgs:=Xhgs.out
      have rl10:RdI w6 (NdF w6 E (.slice (some ⟨g2,0,none⟩) L2 cap2)) (.slice A6 (m2+mv) c6) (jl++lk):=(Rd.of_own own6).mono fun b hb=>by
       have:=World.ownsRow.lt own6 b hb
       refine⟨this.2,by omega,fun e=> ?_⟩
       have e:some g2=some b:=e
       injection e with e
       omega
      clear own6 hg6 hb6 Xown4 XB4 hgs XB1
      have hS6:=XhS.out _ B6
      have Xe10:=hide e10;have Xtw10:=hide tw10;have Xrl10:=hide rl10;have XhS6:=hide hS6;have XB6:=hide B6;clear e10 tw10 rl10 hS6 B6
      refine⟨XhS6.out,wpMid_nil ?_⟩
      go_wp2_with fail
      refine(ref_put22 Xe10.out Xhz8.out Xrl10.out).mono ?_
      rintro e w9 ⟨rfl,h9,t9⟩
      have tt:=Xtw10.out.trans (t9.mono (fun b _ e=>by rw [e];exact Nat.le_of_lt hE2)) (fun _ _ e=>e)
      have rr:=ItemR.of_put (o:=o) (p:=z.1.1) (u:= .slice A6 (m2+mv) c6) Xhfy.out Xhc9.out Xnm8.out Xrel8.out Xnd8.out Xhz8.out rfl rfl h9 tt
      clear h9 t9 tt
      have Xrr:=hide rr;clear rr
      go_wp2_with fail
      refine NoPanic.normal ?_
      go_wp2_with fail
      go_ret
      exact Xrr.out
end Go.Proofs.YtalbfonkhpeajaaGreat

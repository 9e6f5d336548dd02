/- Lookaheads: what is handed on. -/
import Derived.Test.YthlbjgabhpdbfaaGreatALook4
import Derived.Test.YthlbjgabhpdbfaaGreatAAuto11
namespace Go.Proofs.YthlbjgabhpdbfaaGreat
set_option linter.unusedVariables false
set_option linter.unusedSimpArgs false
open Go.RowKit
attribute [local irreducible] wpStill wpOne wpPh
def aliveB (m:Nat) (xs:Bool) (fx:Nat->Bool):Bool:=xs|| !decide (nextOf fx m 0<0)
theorem alive_iff {m:Nat} {xs:Bool} {fx:Nat->Bool} (hh: ∀t,m<=t->fx t=false):aliveB m xs fx=true↔xs=true\/ ∃t,fx t=true:=by
 unfold aliveB
 rw [Bool.or_eq_true,Bool.not_eq_true',decide_eq_false_iff_not,nextOf_no]
 constructor
 ·rintro(h|h)
  ·exact .inl h
  ·refine .inr (Classical.byContradiction fun hn=>h fun t _=> ?_)
   cases e:fx t with
   |false=>rfl
   |true=>exact absurd ⟨t,e⟩ hn
 ·rintro(h|⟨t,ht⟩)
  ·exact .inl h
  ·refine .inr fun hn=> ?_
   have:t<m:=by
    apply Classical.byContradiction
    intro hge
    rw [hh t (by omega)]at ht
    cases ht
   rw [hn t this]at ht
   cases ht
structure HandPost (V:World) (g o bt:Nat) (S:Nat->Prop) (m:Nat) (d d':Co) (e:Ending) (V':World):Prop where
 ret:e= .returned (.bool (chgC m d d'))
 set:IsSet V' bt S m d'.f
 self:V'.cell? ⟨g,o+2,none⟩=some (.bool d'.self)
 blk: ∃W:World,W.heap[g]? =V.heap[g]? /\(V'=W\/V'=W.setCell ⟨g,o+2,none⟩ (.bool d'.self))
 t:Touch (fun b=>S b\/b=g) V V'
theorem handC_dead {xs:Bool} {fx ln:Nat->Bool} {em:Bool} {d:Co}:handC false xs fx ln em d=d:=rfl
theorem chg_self (m:Nat) (d:Co):chgC m d d=false:=by
 unfold chgC
 rw [moreB_self]
 cases d.self<;>rfl
theorem handC_f0 {xs:Bool} {fx ln:Nat->Bool} {d:Co}:handC true xs fx ln false d=⟨d.s,fun t=>d.f t||ln t,d.self⟩:=by unfold handC;simp
theorem handC_f1 {xs:Bool} {fx ln:Nat->Bool} {d:Co}:handC true xs fx ln true d=⟨d.s,fun t=>(d.f t||ln t)||fx t,d.self||xs⟩:=by unfold handC;simp
section
variable {V : World}
set_option maxRecDepth 100000 in
set_option maxHeartbeats 4000000 in
theorem look_hand {M g o bt m:Nat} {px pt:Value} {fx ft:Nat->Bool} {Fx Ft S:Nat->Prop} {s:Int} {xs em:Bool} {d:Co} (hx:SetP V Fx m px fx) (ht:SetP V Ft m pt ft) (hd:IsSet V bt S m d.f)
  (c1:V.cell? ⟨g,o+1,none⟩=some (PtrV bt)) (c2:V.cell? ⟨g,o+2,none⟩=some (.bool d.self)) (f2:V.frozen? ⟨g,o+2,none⟩=false) (hg: ¬S g)
  (hal:(px=PtrV bt/\fx=d.f)\/ ∀k,Fx k-> ¬S k) (hft: ∀k,Ft k-> ¬S k) (hFx: ∀k,Fx k->k<V.heap.size) (hFt: ∀k,Ft k->k<V.heap.size):
  Calls Tryz.prog 254 #[PtrV M,.agg #[.int .i64 s,px,.bool xs],.pointer (some ⟨g,o,none⟩),.agg #[pt,.bool em]] V (HandPost V g o bt S m d (handC (aliveB m xs fx) xs fx ft em d)):=by
 obtain⟨w1,hw1⟩: ∃x,V.alloc (.cells #[.int .i64 s,px,.bool xs] 293)=x:=⟨_,rfl⟩
 obtain⟨w2,hw2⟩: ∃x,w1.alloc (.cells #[pt,.bool em] 278)=x:=⟨_,rfl⟩
 have b1:Below V.heap.size V w1:=by rw [<-hw1];exact(Below.refl _ _).alloc (Nat.le_refl _) _
 have b12:Below w1.heap.size w1 w2:=by rw [<-hw2];exact(Below.refl _ _).alloc (Nat.le_refl _) _
 have b2:=b1.trans (b12.mono b1.size)
 have hz1:w1.heap.size=V.heap.size+1:=by rw [<-hw1];simp
 have k1:Blk w2 V.heap.size 293 #[.int .i64 s,px,.bool xs]:=by
  have h:Blk w1 V.heap.size 293 #[.int .i64 s,px,.bool xs]:=by rw [<-hw1];exact Blk.new _ _ _
  exact h.below b12 h.lt
 have k2:Blk w2 (V.heap.size+1) 278 #[pt,.bool em]:=by
  have h:=Blk.new w1 278 #[pt,.bool em]
  rw [hw2,hz1]at h
  exact h
 have gl:g<V.heap.size:=World.block_lt_of_cell? _ _ c1
 have hSl:=hd.lt
 have x1:w2.cell? ⟨V.heap.size,1,none⟩=some px:=(k1.cell 1).trans rfl
 have x2:w2.cell? ⟨V.heap.size,2,none⟩=some (.bool xs):=(k1.cell 2).trans rfl
 have t0:w2.cell? ⟨V.heap.size+1,0,none⟩=some pt:=(k2.cell 0).trans rfl
 have t1:w2.cell? ⟨V.heap.size+1,1,none⟩=some (.bool em):=(k2.cell 1).trans rfl
 have hx2:=hx.touch (Touch.of_size b2 (fun _=>False)) (fun _ _ h=>h)
 have ht2:=ht.touch (Touch.of_size b2 (fun _=>False)) (fun _ _ h=>h)
 have hd2:=hd.touch (Touch.of_size b2 (fun _=>False)) (fun _ _ h=>h)
 have c1':=(b2.cell (p:=⟨g,o+1,none⟩) gl).trans c1
 have c2':=(b2.cell (p:=⟨g,o+2,none⟩) gl).trans c2
 have f2':=(World.frozen?_of_block (a:=⟨g,o+2,none⟩) (b2.block g gl)).trans f2
 have cn:=setp_next hx2
 have base:HandPost V g o bt S m d d (.returned (.bool false)) w2:=⟨by rw [chg_self],hd2,c2',⟨w2,b2.block g gl,.inl rfl⟩,Touch.of_size b2 _⟩
 have hxh:=hx.high
 clear hx ht hd c1 c2 f2
 unfold PtrV at c1'
 unfold PtrV
 obtain⟨al,hale⟩: ∃al,al=aliveB m xs fx:=⟨_,rfl⟩
 rw [<-hale]
 have hdead:al=false->HandPost V g o bt S m d (handC al xs fx ft em d) (.returned (.bool false)) w2:=fun e=>by rw [e,handC_dead];exact base
 have hgV:g≠V.heap.size/\g≠V.heap.size+1:=⟨by omega,by omega⟩
 have hSV: ¬S V.heap.size/\ ¬S (V.heap.size+1):=⟨fun h=>by have:=hSl _ h;omega,fun h=>by have:=hSl _ h;omega⟩
 obtain⟨Xb2,Xhx2,Xht2,Xhd2,Xcn,XhSl,Xhal,Xhft,XhFx,XhFt,Xhale,Xhg,Xhdead,Xhxh⟩:=HqZ14 b2 hx2 ht2 hd2 cn hSl hal hft hFx hFt hale hg hdead hxh;obtain⟨XhgV,XhSV⟩:=HqZ2 hgV hSV;clear b2 hx2 ht2 hd2 cn hSl hal hft hFx hFt hale hg hdead hxh hgV hSV;clear base k1 k2 b1 b12
 cases xs with
 |false=>
  by_cases hn:nextOf fx m 0<0
  ·have hal0:al=false:=by rw [Xhale.out];unfold aliveB;rw [decide_eq_true hn];rfl
   have hfin:=Xhdead.out hal0
   clear t0 t1 c1' c2' f2'
   obtain⟨Xhfin,Xhal0⟩:=HqZ2 hfin hal0;clear hfin hal0
   go_enter Tryz.func254,Tryz.ntmps254
   go_wp2_with fail
   refine Xcn.out.mono ?_
   rintro e w' ⟨rfl,rfl⟩
   go_wp2_with fail
   go_ret
   exact Xhfin.out
  ·have hal1:al=true:=by rw [Xhale.out];unfold aliveB;rw [decide_eq_false hn];rfl
   subst hal1
   clear Xhdead
   go_enter Tryz.func254,Tryz.ntmps254
   go_wp2_with fail
   refine Xcn.out.mono ?_
   rintro e w' ⟨rfl,rfl⟩
   go_wp2_with fail
   have q1:w2.drew.cell? ⟨g,o+1,none⟩=some (.pointer (some ⟨bt,0,none⟩)):=c1'
   have q2:w2.drew.cell? ⟨V.heap.size+1,0,none⟩=some pt:=t0
   have q3:w2.drew.cell? ⟨g,o+2,none⟩=some (.bool d.self):=c2'
   have q4:w2.drew.frozen? ⟨g,o+2,none⟩=false:=f2'
   have q5:w2.drew.cell? ⟨V.heap.size,1,none⟩=some px:=x1
   have q6:w2.drew.cell? ⟨V.heap.size,2,none⟩=some (.bool false):=x2
   have q7:w2.drew.cell? ⟨V.heap.size+1,1,none⟩=some (.bool em):=t1
   refine wp_region_held_drew (S:=(fun W=>W.cell? ⟨g,o+1,none⟩=some (.pointer (some ⟨bt,0,none⟩))/\W.cell? ⟨V.heap.size+1,0,none⟩=some pt)) (by kernel_rfl) ?_ (fun hHeld=> ?_)
   ·exact⟨q1,q2⟩
   have bd:Below V.heap.size V w2.drew:=Xb2.out.drew
   have hd3:IsSet w2.drew bt S m d.f:=Xhd2.out.drew
   have hx3:=Xhx2.out.touch ((Touch.refl (fun _=>False) w2).drew) (fun _ _ h=>h)
   have ht3:=Xht2.out.touch ((Touch.refl (fun _=>False) w2).drew) (fun _ _ h=>h)
   have cor:=setp_or hd3 ht3
   have hoth:w2.drew.heap[g]? =V.heap[g]? :=bd.block g gl
   unfold PtrV at cor
   clear c1' c2' f2' x1 x2 t0 t1 hw1 hw2 hz1 Xb2 Xhd2 Xhx2 Xht2
   obtain⟨Xbd,Xhd3,Xhx3,Xht3,Xcor,Xhoth⟩:=HqZ6 bd hd3 hx3 ht3 cor hoth;clear bd hd3 hx3 ht3 cor hoth
   generalize w2.drew=wd at *
   refine tZ 0 ?_;try simp only [Act.put,sT,s0,s1]
   refine tZ 1 ?_;try simp only [Act.put,sT,s0,s1]
   refine tZ 2 ?_;try simp only [Act.put,sT,s0,s1]
   refine tZ 3 ?_;try simp only [Act.put,sT,s0,s1]
   refine tZ 4 ?_;try simp only [Act.put,sT,s0,s1]
   refine tZ 5 ?_;try simp only [Act.put,sT,s0,s1]
   refine wpAnyH_ready (rs:=[6]) (by kernel_rfl) (by simp) ?_
   refine AllReadyH.cons (o:= ?_) ?_ (fun K hK=> ?_) AllReadyH.nil;rotate_left 1;(focus((try simp only [gT,gs,gz]);try rfl))
   go_simp
   go_at_call 232
   refine Xcor.out.mono ?_
   rintro e w3 ⟨rfl,hs3,tt3⟩
   have hgg:=Xhg.out
   have hSV:=XhSV.out
   have r1':=tt3.cell q1 hgg
   have r2':=tt3.cell q2 hSV.2
   have r3:=tt3.cell q3 hgg
   have r4:=(World.frozen?_of_block (a:=⟨g,o+2,none⟩) (tt3.block g (World.block_lt_of_cell? _ _ q3) hgg)).trans q4
   have r5:=tt3.cell q5 hSV.1
   have r6:=tt3.cell q6 hSV.1
   have r7:=tt3.cell q7 hSV.2
   have S3:=And.intro r1' r2'
   have hd3':=Xhd3.out
   have tV:Touch (fun b=>S b\/b=g) V w3:=(Touch.of_size Xbd.out _).trans (tt3.mono (S':=fun b=>S b\/b=g) (fun b _ h=> .inl h)) (fun _ _ h=>h)
   have hoth3:w3.heap[g]? =V.heap[g]? :=(tt3.block g (World.block_lt_of_cell? _ _ q3) hgg).trans Xhoth.out
   obtain⟨f1,hf1⟩: ∃f:Nat->Bool,f=fun t=>d.f t||ft t:=⟨_,rfl⟩
   rw [<-hf1]at hs3⊢
   obtain⟨Fx',fx',hsx,hfx⟩: ∃(F':Nat->Prop) (f':Nat->Bool),SetP w3 F' m px f'/\(fun t=>f1 t||f' t)=fun t=>f1 t||fx t:=by
    rcases Xhal.out with⟨e1,e2⟩|hdis
    ·refine⟨S,f1,.inr ⟨bt,S,e1,hs3,fun _ h=>h⟩,?_⟩
     funext t
     rw [hf1,e2]
     show((d.f t||ft t)||(d.f t||ft t))=((d.f t||ft t)||d.f t)
     cases d.f t<;>cases ft t<;>rfl
    ·exact⟨Fx,fx,Xhx3.out.touch tt3 hdis,rfl⟩
   clear q1 q2 q3 q4 q5 q6 q7 tt3 Xbd Xhd3 Xht3 Xcor Xhoth hHeld hd3' Xhx3
   obtain⟨XS3,Xhs3,XtV,Xhoth3,Xhf1,Xhsx,Xhfx,Xhgg,XhSV⟩:=HqZ9 S3 hs3 tV hoth3 hf1 hsx hfx hgg hSV;clear S3 hs3 tV hoth3 hf1 hsx hfx hgg hSV
   refine hK.out _ _ ?_ (fun hHeld=> ?_)
   ·exact XS3.out
   clear hK K
   try simp only [Act.put,sT,s0,s1]
   refine tZ 7 ?_;try simp only [Act.put,sT,s0,s1]
   refine wpAnyH_done (by kernel_rfl) ?_ _
   cases em with
   |false=>
    have hres:HandPost V g o bt S m d (handC true false fx ft false d) (.returned (.bool (moreB m d.f f1))) w3:=by
     rw [handC_f0,<-Xhf1.out]
     refine⟨?_,Xhs3.out,r3,⟨w3,Xhoth3.out,.inl rfl⟩,XtV.out⟩
     unfold chgC
     cases d.self<;>simp
    clear r1' r2' r3 r4 r5 r6 Xhs3 XtV Xhoth3 Xhsx Xhfx
    have Xhres:=hide hres;clear hres
    go_wp2_with fail
    go_ret
    exact Xhres.out
   |true=>
    obtain⟨f2,hf2⟩: ∃f:Nat->Bool,f=fun t=>f1 t||fx t:=⟨_,rfl⟩
    have cor:=setp_or (Xhs3.out.drew) (Xhsx.out.touch ((Touch.refl (fun _=>False) w3).drew) (fun _ _ h=>h))
    rw [Xhfx.out,<-hf2]at cor
    have hmore:(moreB m f1 f2||moreB m d.f f1)=moreB m d.f f2:=moreB_trans (fun t h=>by rw [Xhf1.out];simp [h]) (fun t h=>by rw [hf2];simp [h])
    have hfin:handC true false fx ft true d=⟨d.s,f2,d.self||false⟩:=by rw [handC_f1,hf2,Xhf1.out]
    unfold PtrV at cor
    obtain⟨ra,hra⟩: ∃r,r=moreB m f1 f2:=⟨_,rfl⟩
    rw [<-hra]at cor hmore
    clear r2' Xhs3 Xhsx Xhfx hf2 hra
    obtain⟨Xcor,Xhmore,Xhfin⟩:=HqZ3 cor hmore hfin;clear cor hmore hfin
    go_wp2_with fail
    have q1:w3.drew.cell? ⟨g,o+1,none⟩=some (.pointer (some ⟨bt,0,none⟩)):=r1'
    have q3:w3.drew.cell? ⟨g,o+2,none⟩=some (.bool d.self):=r3
    have q4:w3.drew.frozen? ⟨g,o+2,none⟩=false:=r4
    have q5:w3.drew.cell? ⟨V.heap.size,1,none⟩=some px:=r5
    have q6:w3.drew.cell? ⟨V.heap.size,2,none⟩=some (.bool false):=r6
    have tW:Touch (fun b=>S b\/b=g) V w3.drew:=XtV.out.drew
    have hoth4:w3.drew.heap[g]? =V.heap[g]? :=Xhoth3.out
    clear r1' r3 r4 r5 r6 r7 XtV Xhoth3
    refine wp_region_held_drew (S:=(fun W=>W.cell? ⟨g,o+1,none⟩=some (.pointer (some ⟨bt,0,none⟩))/\W.cell? ⟨V.heap.size,1,none⟩=some px)) (by kernel_rfl) ?_ (fun hHeld=> ?_)
    ·exact⟨q1,q5⟩
    obtain⟨XtW,Xhoth4⟩:=HqZ2 tW hoth4;clear tW hoth4
    generalize w3.drew=wd at *
    refine tZ 0 ?_;try simp only [Act.put,sT,s0,s1]
    refine tZ 1 ?_;try simp only [Act.put,sT,s0,s1]
    refine tZ 2 ?_;try simp only [Act.put,sT,s0,s1]
    refine tZ 3 ?_;try simp only [Act.put,sT,s0,s1]
    refine tZ 4 ?_;try simp only [Act.put,sT,s0,s1]
    refine tZ 5 ?_;try simp only [Act.put,sT,s0,s1]
    refine wpAnyH_ready (rs:=[6]) (by kernel_rfl) (by simp) ?_
    refine AllReadyH.cons (o:= ?_) ?_ (fun K hK=> ?_) AllReadyH.nil;rotate_left 1;(focus((try simp only [gT,gs,gz]);try rfl))
    go_simp
    go_at_call 232
    refine Xcor.out.mono ?_
    rintro e w5 ⟨rfl,hs5,tt5⟩
    have S5:=And.intro (tt5.cell q1 Xhgg.out) (tt5.cell q5 XhSV.out.1)
    have r3:=tt5.cell q3 Xhgg.out
    have r4:=(World.frozen?_of_block (a:=⟨g,o+2,none⟩) (tt5.block g (World.block_lt_of_cell? _ _ q3) Xhgg.out)).trans q4
    have r6:=tt5.cell q6 XhSV.out.1
    have t5:Touch (fun b=>S b\/b=g) V w5:=XtW.out.trans (tt5.mono (S':=fun b=>S b\/b=g) (fun b _ h=> .inl h)) (fun _ _ h=>h)
    have hoth5:w5.heap[g]? =V.heap[g]? :=(tt5.block g (World.block_lt_of_cell? _ _ q3) Xhgg.out).trans Xhoth4.out
    clear q1 q3 q4 q5 q6 tt5 XtW Xhoth4 Xcor hHeld
    obtain⟨XS5,Xhs5,Xt5,Xhoth5⟩:=HqZ4 S5 hs5 t5 hoth5;clear S5 hs5 t5 hoth5
    refine hK.out _ _ ?_ (fun hHeld=> ?_)
    ·exact XS5.out
    clear hK K
    try simp only [Act.put,sT,s0,s1]
    cases ra with
    |true=>
     refine tZ 7 ?_;try simp only [Act.put,sT,s0,s1]
     refine tk (i:=8) (oi:= ?_) (v:=undef) ?_ (by kernel_rfl) ?_ (Or.inr ⟨?_,rfl⟩) (by assumption) ?_;rotate_left 1;(focus((try simp only [gT,gs,gz]);try rfl));exact fun _ _ _ h=>h;rfl;try simp only [Act.put,sT,s0,s1]
     refine tZ 9 ?_;try simp only [Act.put,sT,s0,s1]
     refine tZ 10 ?_;try simp only [Act.put,sT,s0,s1]
     refine wpAnyH_done (by kernel_rfl) ?_ _
     cases hds:d.self with
     |true=>
      rw [hds]at r3
      have hres:HandPost V g o bt S m d ⟨d.s,f2,d.self||false⟩ (.returned (.bool true)) w5:=by
       refine⟨?_,Xhs5.out,by rw [hds];exact r3,⟨w5,Xhoth5.out,.inl rfl⟩,Xt5.out⟩
       have:=Xhmore.out
       unfold chgC
       simp only
       rw [<-this,hds]
       simp
      clear Xhs5 Xt5 Xhoth5
      have Xhres:=hide hres;clear hres
      go_wp2_with fail
      go_ret
      rw [Xhfin.out]
      exact Xhres.out
     |false=>
      rw [hds]at r3
      have hres:HandPost V g o bt S m d ⟨d.s,f2,d.self||false⟩ (.returned (.bool true)) w5:=by
       refine⟨?_,Xhs5.out,by rw [hds];exact r3,⟨w5,Xhoth5.out,.inl rfl⟩,Xt5.out⟩
       have:=Xhmore.out
       unfold chgC
       simp only
       rw [<-this,hds]
       simp
      clear Xhs5 Xt5 Xhoth5
      have Xhres:=hide hres;clear hres
      go_wp2_with fail
      go_ret
      rw [Xhfin.out]
      exact Xhres.out
    |false=>
     refine tZ 7 ?_;try simp only [Act.put,sT,s0,s1]
     refine tZ 8 ?_;try simp only [Act.put,sT,s0,s1]
     refine tZ 9 ?_;try simp only [Act.put,sT,s0,s1]
     refine tZ 10 ?_;try simp only [Act.put,sT,s0,s1]
     refine wpAnyH_done (by kernel_rfl) ?_ _
     cases hds:d.self with
     |true=>
      rw [hds]at r3
      have hres:HandPost V g o bt S m d ⟨d.s,f2,d.self||false⟩ (.returned (.bool (moreB m d.f f1))) w5:=by
       refine⟨?_,Xhs5.out,by rw [hds];exact r3,⟨w5,Xhoth5.out,.inl rfl⟩,Xt5.out⟩
       have:=Xhmore.out
       unfold chgC
       simp only
       rw [<-this,hds]
       simp
      clear Xhs5 Xt5 Xhoth5
      have Xhres:=hide hres;clear hres
      go_wp2_with fail
      go_ret
      rw [Xhfin.out]
      exact Xhres.out
     |false=>
      rw [hds]at r3
      have hres:HandPost V g o bt S m d ⟨d.s,f2,d.self||false⟩ (.returned (.bool (moreB m d.f f1))) w5:=by
       refine⟨?_,Xhs5.out,by rw [hds];exact r3,⟨w5,Xhoth5.out,.inl rfl⟩,Xt5.out⟩
       have:=Xhmore.out
       unfold chgC
       simp only
       rw [<-this,hds]
       simp
      clear Xhs5 Xt5 Xhoth5
      have Xhres:=hide hres;clear hres
      go_wp2_with fail
      go_ret
      rw [Xhfin.out]
      exact Xhres.out
 |true=>
  have hal1:al=true:=by rw [Xhale.out];rfl
  subst hal1
  clear Xhdead Xcn
  go_enter Tryz.func254,Tryz.ntmps254
  go_wp2_with fail
  have q1:w2.drew.cell? ⟨g,o+1,none⟩=some (.pointer (some ⟨bt,0,none⟩)):=c1'
  have q2:w2.drew.cell? ⟨V.heap.size+1,0,none⟩=some pt:=t0
  have q3:w2.drew.cell? ⟨g,o+2,none⟩=some (.bool d.self):=c2'
  have q4:w2.drew.frozen? ⟨g,o+2,none⟩=false:=f2'
  have q5:w2.drew.cell? ⟨V.heap.size,1,none⟩=some px:=x1
  have q6:w2.drew.cell? ⟨V.heap.size,2,none⟩=some (.bool true):=x2
  have q7:w2.drew.cell? ⟨V.heap.size+1,1,none⟩=some (.bool em):=t1
  refine wp_region_held_drew (S:=(fun W=>W.cell? ⟨g,o+1,none⟩=some (.pointer (some ⟨bt,0,none⟩))/\W.cell? ⟨V.heap.size+1,0,none⟩=some pt)) (by kernel_rfl) ?_ (fun hHeld=> ?_)
  ·exact⟨q1,q2⟩
  have bd:Below V.heap.size V w2.drew:=Xb2.out.drew
  have hd3:IsSet w2.drew bt S m d.f:=Xhd2.out.drew
  have hx3:=Xhx2.out.touch ((Touch.refl (fun _=>False) w2).drew) (fun _ _ h=>h)
  have ht3:=Xht2.out.touch ((Touch.refl (fun _=>False) w2).drew) (fun _ _ h=>h)
  have cor:=setp_or hd3 ht3
  have hoth:w2.drew.heap[g]? =V.heap[g]? :=bd.block g gl
  unfold PtrV at cor
  clear c1' c2' f2' x1 x2 t0 t1 hw1 hw2 hz1 Xb2 Xhd2 Xhx2 Xht2
  obtain⟨Xbd,Xhd3,Xhx3,Xht3,Xcor,Xhoth⟩:=HqZ6 bd hd3 hx3 ht3 cor hoth;clear bd hd3 hx3 ht3 cor hoth
  generalize w2.drew=wd at *
  refine tZ 0 ?_;try simp only [Act.put,sT,s0,s1]
  refine tZ 1 ?_;try simp only [Act.put,sT,s0,s1]
  refine tZ 2 ?_;try simp only [Act.put,sT,s0,s1]
  refine tZ 3 ?_;try simp only [Act.put,sT,s0,s1]
  refine tZ 4 ?_;try simp only [Act.put,sT,s0,s1]
  refine tZ 5 ?_;try simp only [Act.put,sT,s0,s1]
  refine wpAnyH_ready (rs:=[6]) (by kernel_rfl) (by simp) ?_
  refine AllReadyH.cons (o:= ?_) ?_ (fun K hK=> ?_) AllReadyH.nil;rotate_left 1;(focus((try simp only [gT,gs,gz]);try rfl))
  go_simp
  go_at_call 232
  refine Xcor.out.mono ?_
  rintro e w3 ⟨rfl,hs3,tt3⟩
  have hgg:=Xhg.out
  have hSV:=XhSV.out
  have r1':=tt3.cell q1 hgg
  have r2':=tt3.cell q2 hSV.2
  have r3:=tt3.cell q3 hgg
  have r4:=(World.frozen?_of_block (a:=⟨g,o+2,none⟩) (tt3.block g (World.block_lt_of_cell? _ _ q3) hgg)).trans q4
  have r5:=tt3.cell q5 hSV.1
  have r6:=tt3.cell q6 hSV.1
  have r7:=tt3.cell q7 hSV.2
  have S3:=And.intro r1' r2'
  have hd3':=Xhd3.out
  have tV:Touch (fun b=>S b\/b=g) V w3:=(Touch.of_size Xbd.out _).trans (tt3.mono (S':=fun b=>S b\/b=g) (fun b _ h=> .inl h)) (fun _ _ h=>h)
  have hoth3:w3.heap[g]? =V.heap[g]? :=(tt3.block g (World.block_lt_of_cell? _ _ q3) hgg).trans Xhoth.out
  obtain⟨f1,hf1⟩: ∃f:Nat->Bool,f=fun t=>d.f t||ft t:=⟨_,rfl⟩
  rw [<-hf1]at hs3⊢
  obtain⟨Fx',fx',hsx,hfx⟩: ∃(F':Nat->Prop) (f':Nat->Bool),SetP w3 F' m px f'/\(fun t=>f1 t||f' t)=fun t=>f1 t||fx t:=by
   rcases Xhal.out with⟨e1,e2⟩|hdis
   ·refine⟨S,f1,.inr ⟨bt,S,e1,hs3,fun _ h=>h⟩,?_⟩
    funext t
    rw [hf1,e2]
    show((d.f t||ft t)||(d.f t||ft t))=((d.f t||ft t)||d.f t)
    cases d.f t<;>cases ft t<;>rfl
   ·exact⟨Fx,fx,Xhx3.out.touch tt3 hdis,rfl⟩
  clear q1 q2 q3 q4 q5 q6 q7 tt3 Xbd Xhd3 Xht3 Xcor Xhoth hHeld hd3' Xhx3
  obtain⟨XS3,Xhs3,XtV,Xhoth3,Xhf1,Xhsx,Xhfx,Xhgg,XhSV⟩:=HqZ9 S3 hs3 tV hoth3 hf1 hsx hfx hgg hSV;clear S3 hs3 tV hoth3 hf1 hsx hfx hgg hSV
  refine hK.out _ _ ?_ (fun hHeld=> ?_)
  ·exact XS3.out
  clear hK K
  try simp only [Act.put,sT,s0,s1]
  refine tZ 7 ?_;try simp only [Act.put,sT,s0,s1]
  refine wpAnyH_done (by kernel_rfl) ?_ _
  cases em with
  |false=>
   have hres:HandPost V g o bt S m d (handC true true fx ft false d) (.returned (.bool (moreB m d.f f1))) w3:=by
    rw [handC_f0,<-Xhf1.out]
    refine⟨?_,Xhs3.out,r3,⟨w3,Xhoth3.out,.inl rfl⟩,XtV.out⟩
    unfold chgC
    cases d.self<;>simp
   clear r1' r2' r3 r4 r5 r6 Xhs3 XtV Xhoth3 Xhsx Xhfx
   have Xhres:=hide hres;clear hres
   go_wp2_with fail
   go_ret
   exact Xhres.out
  |true=>
   obtain⟨f2,hf2⟩: ∃f:Nat->Bool,f=fun t=>f1 t||fx t:=⟨_,rfl⟩
   have cor:=setp_or (Xhs3.out.drew) (Xhsx.out.touch ((Touch.refl (fun _=>False) w3).drew) (fun _ _ h=>h))
   rw [Xhfx.out,<-hf2]at cor
   have hmore:(moreB m f1 f2||moreB m d.f f1)=moreB m d.f f2:=moreB_trans (fun t h=>by rw [Xhf1.out];simp [h]) (fun t h=>by rw [hf2];simp [h])
   have hfin:handC true true fx ft true d=⟨d.s,f2,d.self||true⟩:=by rw [handC_f1,hf2,Xhf1.out]
   unfold PtrV at cor
   obtain⟨ra,hra⟩: ∃r,r=moreB m f1 f2:=⟨_,rfl⟩
   rw [<-hra]at cor hmore
   clear r2' Xhs3 Xhsx Xhfx hf2 hra
   obtain⟨Xcor,Xhmore,Xhfin⟩:=HqZ3 cor hmore hfin;clear cor hmore hfin
   go_wp2_with fail
   have q1:w3.drew.cell? ⟨g,o+1,none⟩=some (.pointer (some ⟨bt,0,none⟩)):=r1'
   have q3:w3.drew.cell? ⟨g,o+2,none⟩=some (.bool d.self):=r3
   have q4:w3.drew.frozen? ⟨g,o+2,none⟩=false:=r4
   have q5:w3.drew.cell? ⟨V.heap.size,1,none⟩=some px:=r5
   have q6:w3.drew.cell? ⟨V.heap.size,2,none⟩=some (.bool true):=r6
   have tW:Touch (fun b=>S b\/b=g) V w3.drew:=XtV.out.drew
   have hoth4:w3.drew.heap[g]? =V.heap[g]? :=Xhoth3.out
   clear r1' r3 r4 r5 r6 r7 XtV Xhoth3
   refine wp_region_held_drew (S:=(fun W=>W.cell? ⟨g,o+1,none⟩=some (.pointer (some ⟨bt,0,none⟩))/\W.cell? ⟨V.heap.size,1,none⟩=some px)) (by kernel_rfl) ?_ (fun hHeld=> ?_)
   ·exact⟨q1,q5⟩
   obtain⟨XtW,Xhoth4⟩:=HqZ2 tW hoth4;clear tW hoth4
   generalize w3.drew=wd at *
   refine tZ 0 ?_;try simp only [Act.put,sT,s0,s1]
   refine tZ 1 ?_;try simp only [Act.put,sT,s0,s1]
   refine tZ 2 ?_;try simp only [Act.put,sT,s0,s1]
   refine tZ 3 ?_;try simp only [Act.put,sT,s0,s1]
   refine tZ 4 ?_;try simp only [Act.put,sT,s0,s1]
   refine tZ 5 ?_;try simp only [Act.put,sT,s0,s1]
   refine wpAnyH_ready (rs:=[6]) (by kernel_rfl) (by simp) ?_
   refine AllReadyH.cons (o:= ?_) ?_ (fun K hK=> ?_) AllReadyH.nil;rotate_left 1;(focus((try simp only [gT,gs,gz]);try rfl))
   go_simp
   go_at_call 232
   refine Xcor.out.mono ?_
   rintro e w5 ⟨rfl,hs5,tt5⟩
   have S5:=And.intro (tt5.cell q1 Xhgg.out) (tt5.cell q5 XhSV.out.1)
   have r3:=tt5.cell q3 Xhgg.out
   have r4:=(World.frozen?_of_block (a:=⟨g,o+2,none⟩) (tt5.block g (World.block_lt_of_cell? _ _ q3) Xhgg.out)).trans q4
   have r6:=tt5.cell q6 XhSV.out.1
   have t5:Touch (fun b=>S b\/b=g) V w5:=XtW.out.trans (tt5.mono (S':=fun b=>S b\/b=g) (fun b _ h=> .inl h)) (fun _ _ h=>h)
   have hoth5:w5.heap[g]? =V.heap[g]? :=(tt5.block g (World.block_lt_of_cell? _ _ q3) Xhgg.out).trans Xhoth4.out
   clear q1 q3 q4 q5 q6 tt5 XtW Xhoth4 Xcor hHeld
   obtain⟨XS5,Xhs5,Xt5,Xhoth5⟩:=HqZ4 S5 hs5 t5 hoth5;clear S5 hs5 t5 hoth5
   refine hK.out _ _ ?_ (fun hHeld=> ?_)
   ·exact XS5.out
   clear hK K
   try simp only [Act.put,sT,s0,s1]
   cases ra with
   |true=>
    refine tZ 7 ?_;try simp only [Act.put,sT,s0,s1]
    refine tk (i:=8) (oi:= ?_) (v:=undef) ?_ (by kernel_rfl) ?_ (Or.inr ⟨?_,rfl⟩) (by assumption) ?_;rotate_left 1;(focus((try simp only [gT,gs,gz]);try rfl));exact fun _ _ _ h=>h;rfl;try simp only [Act.put,sT,s0,s1]
    refine tZ 9 ?_;try simp only [Act.put,sT,s0,s1]
    refine tZ 10 ?_;try simp only [Act.put,sT,s0,s1]
    refine wpAnyH_done (by kernel_rfl) ?_ _
    cases hds:d.self with
    |true=>
     rw [hds]at r3
     have hres:HandPost V g o bt S m d ⟨d.s,f2,d.self||true⟩ (.returned (.bool true)) w5:=by
      refine⟨?_,Xhs5.out,by rw [hds];exact r3,⟨w5,Xhoth5.out,.inl rfl⟩,Xt5.out⟩
      have:=Xhmore.out
      unfold chgC
      simp only
      rw [<-this,hds]
      simp
     clear Xhs5 Xt5 Xhoth5
     have Xhres:=hide hres;clear hres
     go_wp2_with fail
     go_ret
     rw [Xhfin.out]
     exact Xhres.out
    |false=>
     rw [hds]at r3
     have hres:HandPost V g o bt S m d ⟨d.s,f2,true⟩ (.returned (.bool true)) (w5.setCell ⟨g,o+2,none⟩ (.bool true)):=by
      have tg:Touch (fun b=>b=g) w5 (w5.setCell ⟨g,o+2,none⟩ (.bool true)):=(Touch.refl (fun b=>b=g) w5).setCell (p:=⟨g,o+2,none⟩) (fun _=>rfl) _
      refine⟨?_,Xhs5.out.touch tg (fun k hk e=>Xhgg.out (e▸hk)),World.cell?_setCell_same' _ _ _ (by rw [r3];rfl),⟨w5,Xhoth5.out,.inr rfl⟩,Xt5.out.trans (tg.mono (S':=fun b=>S b\/b=g) (fun b _ h=> .inr h)) (fun _ _ h=>h)⟩
      unfold chgC
      simp [hds]
     clear Xhs5 Xt5 Xhoth5
     have Xhres:=hide hres;clear hres
     go_wp2_with fail
     go_ret
     rw [Xhfin.out,Bool.or_true]
     exact Xhres.out
   |false=>
    refine tZ 7 ?_;try simp only [Act.put,sT,s0,s1]
    refine tZ 8 ?_;try simp only [Act.put,sT,s0,s1]
    refine tZ 9 ?_;try simp only [Act.put,sT,s0,s1]
    refine tZ 10 ?_;try simp only [Act.put,sT,s0,s1]
    refine wpAnyH_done (by kernel_rfl) ?_ _
    cases hds:d.self with
    |true=>
     rw [hds]at r3
     have hres:HandPost V g o bt S m d ⟨d.s,f2,d.self||true⟩ (.returned (.bool (moreB m d.f f1))) w5:=by
      refine⟨?_,Xhs5.out,by rw [hds];exact r3,⟨w5,Xhoth5.out,.inl rfl⟩,Xt5.out⟩
      have:=Xhmore.out
      unfold chgC
      simp only
      rw [<-this,hds]
      simp
     clear Xhs5 Xt5 Xhoth5
     have Xhres:=hide hres;clear hres
     go_wp2_with fail
     go_ret
     rw [Xhfin.out]
     exact Xhres.out
    |false=>
     rw [hds]at r3
     have hres:HandPost V g o bt S m d ⟨d.s,f2,true⟩ (.returned (.bool true)) (w5.setCell ⟨g,o+2,none⟩ (.bool true)):=by
      have tg:Touch (fun b=>b=g) w5 (w5.setCell ⟨g,o+2,none⟩ (.bool true)):=(Touch.refl (fun b=>b=g) w5).setCell (p:=⟨g,o+2,none⟩) (fun _=>rfl) _
      refine⟨?_,Xhs5.out.touch tg (fun k hk e=>Xhgg.out (e▸hk)),World.cell?_setCell_same' _ _ _ (by rw [r3];rfl),⟨w5,Xhoth5.out,.inr rfl⟩,Xt5.out.trans (tg.mono (S':=fun b=>S b\/b=g) (fun b _ h=> .inr h)) (fun _ _ h=>h)⟩
      unfold chgC
      simp [hds]
     clear Xhs5 Xt5 Xhoth5
     have Xhres:=hide hres;clear hres
     go_wp2_with fail
     go_ret
     rw [Xhfin.out,Bool.or_true]
     exact Xhres.out
end
end Go.Proofs.YthlbjgabhpdbfaaGreat
namespace Go.Proofs.YthlbjgabhpdbfaaGreat
set_option linter.unusedVariables false
def anyB (m:Nat) (f:Nat->Bool):Bool:= !decide (nextOf f m 0<0)
theorem anyB_iff {m:Nat} {f:Nat->Bool}:anyB m f=true↔ ∃t,t<m/\f t=true:=by
 unfold anyB
 rw [Bool.not_eq_true',decide_eq_false_iff_not,nextOf_no]
 constructor
 ·intro h
  refine Classical.byContradiction fun hn=>h fun t ht=> ?_
  cases e:f t with
  |false=>rfl
  |true=>exact absurd ⟨t,ht,e⟩ hn
 ·rintro⟨t,ht,h⟩ hn
  rw [hn t ht]at h
  cases h
def ClE (m:Nat) (F:Nat->Nat->Bool) (e:Ed):Prop:=(∃t,t<m/\F e.at_ t=true)->(∀t,t<m->e.f t=true->F e.tq9.toNat t=true)/\(e.self=true-> ∀t,t<m->F e.at_ t=true->F e.tq9.toNat t=true)
inductive LE (F0:Nat->Nat->Bool) (ed:List Ed):Nat->Nat->Prop
 |base (p t:Nat):F0 p t=true->LE F0 ed p t
 |set (e:Ed) (t u:Nat):e∈ed->LE F0 ed e.at_ u->e.f t=true->LE F0 ed e.tq9.toNat t
 |self (e:Ed) (t:Nat):e∈ed->e.self=true->LE F0 ed e.at_ t->LE F0 ed e.tq9.toNat t
structure SpIn (m n:Nat) (F0:Nat->Nat->Bool) (ed:List Ed) (F:Nat->Nat->Bool) (k:Nat) (b:Bool) (F':Nat->Nat->Bool):Prop where
 le: ∀p t,F p t=true->F' p t=true
 snd: ∀p t,F' p t=true->LE F0 ed p t
 hi: ∀p t,p<n->m<=t->F' p t=false
 same:b=false->F'=F/\ ∀(j:Nat) e,j<k->ed[j]? =some e->ClE m F e
 less:b=true->unsetF F' m n<unsetF F m n
section
variable {m n : Nat} {F0 F F' : Nat -> Nat -> Bool} {ed : List Ed} {k : Nat} {b : Bool} {e : Ed}
theorem SpIn.start (h1: ∀p t,F p t=true->LE F0 ed p t) (h2: ∀p t,p<n->m<=t->F p t=false):SpIn m n F0 ed F 0 false F:=
 ⟨fun _ _ h=>h,h1,h2,fun _=>⟨rfl,fun j e hj=>by omega⟩,fun h=>by cases h⟩
theorem SpIn.skip (h:SpIn m n F0 ed F k b F') (he:ed[k]? =some e) (hn:anyB m (F' e.at_)=false):SpIn m n F0 ed F (k+1) b F':=by
 refine⟨h.le,h.snd,h.hi,fun hb=>⟨(h.same hb).1,fun j e' hj hj'=> ?_⟩,h.less⟩
 by_cases ej:j=k
 ·subst ej
  rw [he]at hj'
  injection hj' with hj'
  subst hj'
  intro hh
  rw [<-(h.same hb).1]at hh
  rw [anyB_iff.2 hh]at hn
  cases hn
 ·exact(h.same hb).2 j e' (by omega) hj'
theorem SpIn.grow {p:Nat} {f:Nat->Bool} (h:SpIn m n F0 ed F k b F') (hp:p<n) (hf: ∀t,F' p t=true->f t=true) (hs: ∀t,f t=true->LE F0 ed p t) (hh: ∀t,m<=t->f t=false):SpIn m n F0 ed F k (moreB m (F' p) f||b) (setF F' p f):=by
 have hle:unsetF (setF F' p f) m n<=unsetF F' m n:=unsetF_leq hp hf
 refine⟨fun p' t ht=> ?_,fun p' t ht=> ?_,fun p' t h1 h2=> ?_,fun hb=> ?_,fun hb=> ?_⟩
 ·unfold setF
  split
  ·rename_i e;subst e;exact hf t (h.le _ t ht)
  ·exact h.le p' t ht
 ·unfold setF at ht
  split at ht
  ·rename_i e;subst e;exact hs t ht
  ·exact h.snd p' t ht
 ·unfold setF
  split
  ·exact hh t h2
  ·exact h.hi p' t h1 h2
 ·rw [Bool.or_eq_false_iff]at hb
  have e1:=moreB_eq hb.1 hf hh
  have e2:setF F' p f=F':=setF_id e1
  rw [e2]
  exact h.same hb.2
 ·rw [Bool.or_eq_true]at hb
  cases hb2:b with
  |true=>exact Nat.lt_of_le_of_lt hle (h.less hb2)
  |false=>
   have hb1:=hb.resolve_right (by rw [hb2];simp)
   have h2:=unsetF_less hp hb1 hf
   rw [(h.same hb2).1]at h2⊢
   exact h2
theorem SpIn.mark {b':Bool} (h:SpIn m n F0 ed F k b' F') (he:ed[k]? =some e) (hc:b'=false->ClE m F e):SpIn m n F0 ed F (k+1) b' F':=by
 refine⟨h.le,h.snd,h.hi,fun hb=>⟨(h.same hb).1,fun j e' hj hj'=> ?_⟩,h.less⟩
 by_cases ej:j=k
 ·subst ej
  rw [he]at hj'
  injection hj' with hj'
  subst hj'
  exact hc hb
 ·exact(h.same hb).2 j e' (by omega) hj'
theorem SpIn.edge1 (h:SpIn m n F0 ed F k b F') (he:ed[k]? =some e) (hat:anyB m (F' e.at_)=true) (hto:e.tq9.toNat<n) (hf: ∀t,m<=t->e.f t=false):SpIn m n F0 ed F k (moreB m (F' e.tq9.toNat) (fun t=>F' e.tq9.toNat t||e.f t)||b) (setF F' e.tq9.toNat fun t=>F' e.tq9.toNat t||e.f t):=by
 obtain⟨u,-,hu⟩:=anyB_iff.1 hat
 refine h.grow hto (fun t ht=>by simp [ht]) (fun t ht=> ?_) (fun t ht=> ?_)
 ·rw [Bool.or_eq_true]at ht
  rcases ht with ht|ht
  ·exact h.snd _ t ht
  ·exact .set e t u (List.mem_of_getElem? he) (h.snd _ u hu) ht
 ·rw [h.hi _ t hto ht,hf t ht];rfl
theorem SpIn.edge2 (h:SpIn m n F0 ed F k b F') (he:ed[k]? =some e) (hs:e.self=true) (hto:e.tq9.toNat<n) (hat:e.at_<n):SpIn m n F0 ed F k (moreB m (F' e.tq9.toNat) (fun t=>F' e.tq9.toNat t||F' e.at_ t)||b) (setF F' e.tq9.toNat fun t=>F' e.tq9.toNat t||F' e.at_ t):=by
 refine h.grow hto (fun t ht=>by simp [ht]) (fun t ht=> ?_) (fun t ht=> ?_)
 ·rw [Bool.or_eq_true]at ht
  rcases ht with ht|ht
  ·exact h.snd _ t ht
  ·exact .self e t (List.mem_of_getElem? he) hs (h.snd _ t ht)
 ·rw [h.hi _ t hto ht,h.hi _ t hat ht];rfl
theorem SpIn.done1 (h:SpIn m n F0 ed F k b F') (he:ed[k]? =some e) (hat:anyB m (F' e.at_)=true) (hto:e.tq9.toNat<n) (hf: ∀t,m<=t->e.f t=false) (hs:e.self=false):SpIn m n F0 ed F (k+1) (moreB m (F' e.tq9.toNat) (fun t=>F' e.tq9.toNat t||e.f t)||b) (setF F' e.tq9.toNat fun t=>F' e.tq9.toNat t||e.f t):=by
 refine(h.edge1 he hat hto hf).mark he fun hb _=> ?_
 rw [Bool.or_eq_false_iff]at hb
 obtain⟨e1,-⟩:=h.same hb.2
 subst e1
 exact⟨fun t ht h1=>moreB_no.1 hb.1 t ht (by simp [h1]),fun e=>by rw [hs]at e;cases e⟩
theorem SpIn.done2 {F1:Nat->Nat->Bool} {b1:Bool} (h:SpIn m n F0 ed F k b F') (he:ed[k]? =some e) (hat:anyB m (F' e.at_)=true) (hto:e.tq9.toNat<n) (hatn:e.at_<n) (hf: ∀t,m<=t->e.f t=false) (hs:e.self=true)
  (hF1:F1=setF F' e.tq9.toNat fun t=>F' e.tq9.toNat t||e.f t) (hb1:b1=(moreB m (F' e.tq9.toNat) (fun t=>F' e.tq9.toNat t||e.f t)||b)):
  SpIn m n F0 ed F (k+1) (moreB m (F1 e.tq9.toNat) (fun t=>F1 e.tq9.toNat t||F1 e.at_ t)||b1) (setF F1 e.tq9.toNat fun t=>F1 e.tq9.toNat t||F1 e.at_ t):=by
 have h1:=h.edge1 he hat hto hf
 rw [<-hF1,<-hb1]at h1
 refine(h1.edge2 he hs hto hatn).mark he fun hb _=> ?_
 rw [Bool.or_eq_false_iff]at hb
 have hb1':=hb.2
 rw [hb1,Bool.or_eq_false_iff]at hb1'
 obtain⟨e0,-⟩:=h.same hb1'.2
 obtain⟨e1,-⟩:=h1.same hb.2
 subst e0
 rw [e1]at hb
 exact⟨fun t ht h1=>moreB_no.1 hb1'.1 t ht (by simp [h1]),fun _ t ht h1=>moreB_no.1 hb.1 t ht (by simp [h1])⟩
structure Spread (m n:Nat) (F0:Nat->Nat->Bool) (ed:List Ed) (F:Nat->Nat->Bool):Prop where
 le: ∀p t,F0 p t=true->F p t=true
 snd: ∀p t,F p t=true->LE F0 ed p t
 hi: ∀p t,p<n->m<=t->F p t=false
 closed: ∀e∈ed,ClE m F e
theorem SpIn.end_ (h:SpIn m n F0 ed F k false F') (hk:ed.length<=k) (hle: ∀p t,F0 p t=true->F p t=true):Spread m n F0 ed F':=by
 obtain⟨e1,e2⟩:=h.same rfl
 subst e1
 refine⟨hle,h.snd,h.hi,fun e he=> ?_⟩
 obtain⟨j,hj,e'⟩:=List.getElem_of_mem he
 exact e2 j e (by omega) (by rw [List.getElem?_eq_getElem hj,e'])
end
end Go.Proofs.YthlbjgabhpdbfaaGreat

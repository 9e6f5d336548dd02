/- Lookaheads: what is prepared. -/
import Derived.Test.YthlbjgabhpdbfaaGreatALook9
import Derived.Deep.CutRange
namespace Go.Proofs.YthlbjgabhpdbfaaGreat
set_option linter.unusedVariables false
set_option linter.unusedSimpArgs false
open Go.RowKit Go.Maps
attribute [local irreducible] wpStill wpOne wpPh
def JQ (j:Nat):Prop:=j=0\/j=3\/j=4\/j=5\/j=6
def LPrepPost (V:World) (q:LQ) (d:LD) (y:Dy) (e:Ending) (V':World):Prop:=e= .returned (.tuple #[])/\ ∃q' cm,MK V' q' (prepD d cm) y/\q'.M=q.M/\StL JQ V q.ow V' q'.ow/\ ∀s:Int,isNon d.G s=true->ComesOf d.G d.st s (cm s.toNat)
def JP (j:Nat):Prop:=j=0\/j=3\/j=4\/j=5
theorem dK_zero {d:LD} (hrs:d.rs=[]) (htl:d.tl=[]):({d with nu:=topOf d.G+1,ru:=fun s=>ofUpto d.G.rules s (min 0 d.G.rules.length)}:LD)=dK d 0:=by
 cases d
 simp only at hrs htl
 subst hrs htl
 rfl
theorem RdTl.mono {V:World} {F F':Nat->Prop} {m:Nat} {z:Value} {l:List Tl} (h:RdTl V F m z l) (hF: ∀b,F b->F' b):RdTl V F' m z l:=by
 obtain⟨ps,h1,h2,h3⟩:=h
 exact⟨ps,h1,h2.mono hF,fun j p x hp hx=>(h3 j p x hp hx).mono hF⟩
theorem RdCo.mono {V:World} {F F':Nat->Prop} {m:Nat} {z:Value} {l:List Co} (h:RdCo V F m z l) (hF: ∀b,F b->F' b):RdCo V F' m z l:=by
 obtain⟨ps,h1,h2,h3⟩:=h
 exact⟨ps,h1,h2.mono hF,fun j p x hp hx=>(h3 j p x hp hx).mono hF⟩
theorem take_getA {X:Type} {l:List X} {k:Nat} {x:X} (h:l[k]? =some x):l.take k++[x]=l.take (k+1):=by rw [List.take_add_one,h];rfl
theorem StL.how {J:Nat->Prop} {V V':World} {ow ow0 ow':Nat->Nat} (s:StL J V ow V' ow') (h:ow=ow0):StL J V ow0 V' ow':=h▸s
noncomputable def dU (d:LD) (k:Nat):LD:={dK d k with rs:=rsK d.G d.st (k+1),ru:=fun s=>ofUpto d.G.rules s (min (k+1) d.G.rules.length)}
theorem dU_no {d:LD} {k:Nat} (h:d.G.rules.length<=k):({dK d k with rs:=rsK d.G d.st (k+1)}:LD)=dU d k:=by
 unfold dU dK
 rw [show min (k+1) d.G.rules.length=min k d.G.rules.length by omega]
theorem dU_yes {d:LD} {k:Nat} {l:Nat} {x:List Int} (h:d.G.rules[k]? =some ((l:Int),x)):({({dK d k with rs:=rsK d.G d.st (k+1)}:LD)with nu:=topOf d.G+1,ru:=upd (dK d k).ru l ((dK d k).ru l++[(k:Int)])}:LD)=dU d k:=by
 have hk:=(List.getElem?_eq_some_iff.1 h).1
 unfold dU dK
 rw [show min (k+1) d.G.rules.length=k+1 by omega,show min k d.G.rules.length=k by omega,ruK_next h]
theorem dK_all (d:LD) (cm:Nat->List Co):({dK d (d.G.rules.length+1)with nc:=topOf d.G+1,cm:=cm}:LD)=prepD d cm:=by
 unfold dK prepD
 simp only
 rw [show min (d.G.rules.length+1) d.G.rules.length=d.G.rules.length by omega]
 rfl
def CutU (V:World) (ow:Nat->Nat) (d:LD) (y:Dy) (k M X:Nat) (T:TypeId) (l:Int) (vz:Value) (xs:List Int) (wx:World):Prop:= ∃q7:LQ,MK wx q7 (dU d k) y/\q7.M=M/\Blk wx X T #[.int .i64 l,vz]/\q7.ow X=2/\RdI wx (TF wx q7.ow (fun t=>t=1\/t=2)) vz xs/\StL JP V ow wx q7.ow
theorem ru_upd (f:Nat->List Int) (i:Nat) (k:Int):upd (fun j=>(f j).map (Value.int .i64)) i ((f i).map (Value.int .i64)++[.int .i64 k])=fun j=>(upd f i (f i++[k]) j).map (Value.int .i64):=by
 funext j
 by_cases e:j=i
 ·subst e
  rw [upd_same,upd_same,List.map_append];rfl
 ·rw [upd_ne e,upd_ne e]
theorem MK.rowK {V:World} {q:LQ} {d:LD} {y:Dy} {k:Nat} {rs:List (List Int)} (h:MK V q {dK d k with rs:=rs} y) {x:Nat} (hx:x<=topOf d.G): ∃P vs A m c,q.vu= .slice (some ⟨P,0,none⟩) (topOf d.G+1) (topOf d.G+1)/\Rows V q.ow 5 3 1 P (topOf d.G+1) vs (fun s=>((dK d k).ru s).map (Value.int .i64))/\vs x= .slice A m c/\V.cell? ⟨P,x,none⟩=some (.slice A m c)/\Row V q.ow 5 3 1 A m c (((dK d k).ru x).map (Value.int .i64))/\m<=d.G.rules.length:=by
 rcases h.u with⟨-,e⟩|⟨P,vs,e,r⟩
 ·exact absurd e (Nat.succ_ne_zero _)
 ·obtain⟨A,m,c,h1,h2,h3,h4⟩:=r.at_ (k:=x) (Nat.lt_succ_of_le hx) (by decide)
  refine⟨P,vs,A,m,c,e,r,h1,h2,h3,?_⟩
  have h4:(((dK d k).ru x).map (Value.int .i64)).length=m * 1:=h4
  rw [List.length_map,Nat.mul_one]at h4
  have:((dK d k).ru x).length<=d.G.rules.length:=by
   show(ofUpto d.G.rules x (min k d.G.rules.length)).length<=_
   exact Nat.le_trans ofUpto_len (Nat.min_le_right _ _)
  omega
set_option maxRecDepth 100000 in
set_option maxHeartbeats 16000000 in
theorem look_prepare {V:World} {q:LQ} {d:LD} {y:Dy} (h:MK V q d y) (hrs:d.rs=[]) (htl:d.tl=[]) (hc:checkOf d.G d.st=0):
  Calls Tryz.prog 195 #[PtrV q.M] V (LPrepPost V q d y):=by
 have hK:=KnA.of_check hc
 obtain⟨M,hM⟩: ∃x,x=q.M:=⟨_,rfl⟩
 obtain⟨T,hT⟩: ∃x,x=d.G.terms.length:=⟨_,rfl⟩
 obtain⟨N,hN⟩: ∃x,x=d.G.nons.length:=⟨_,rfl⟩
 obtain⟨R,hR⟩: ∃x,x=d.G.rules.length:=⟨_,rfl⟩
 obtain⟨p,hp⟩: ∃x,x=topOf d.G:=⟨_,rfl⟩
 have hpb:p<=240:=by have:=hK.t;have:=hK.n;rw [hp];unfold topOf;omega
 have hRb:R<=300:=by rw [hR];exact hK.r
 have hTb:T<=120:=by rw [hT];exact hK.t
 obtain⟨A1,c1,A2,c2,A3,c3,g0,g1,g2,g3,hg⟩:=h.gc (G:=d.G) (st:=d.st) (M:=M) rfl rfl hT hN hR hM.symm
 have cf:=first_Of hg d.st
 rw [<-hM]
 obtain⟨Xh,Xhrs,Xhtl,Xhc,XhK,XhM,XhT,XhN,XhR,Xhp,Xcf,Xhg⟩:=HqZ12 h hrs htl hc hK hM hT hN hR hp cf hg;clear h hrs htl hc hK hM hT hN hR hp cf hg
 unfold PtrV
 go_enter Tryz.func195,Tryz.ntmps195
 go_wp2_with fail
 refine Xcf.out.mono ?_
 rintro e w1 hpost
 rcases hpost with⟨hne,-⟩|⟨-,fd,rfl,hfs,f1,f2,f3,f4,b1⟩
 ·exact absurd Xhc.out hne
 rw [<-XhT.out]at f1
 have h1:=Xh.out.below b1 2
 have hM1:({q with ow:=ext V q.ow 2}:LQ).M=M:=XhM.out.symm
 have st1:StL JP V q.ow w1 ({q with ow:=ext V q.ow 2}:LQ).ow:=StL.new _ b1 _ 2
 obtain⟨q1,hq1⟩: ∃x:LQ,x={q with ow:=ext V q.ow 2}:=⟨_,rfl⟩
 have how:q1.ow=ext V q.ow 2:=by rw [hq1]
 rw [<-hq1]at h1 hM1 st1
 clear g0 g1 g2 g3 Xhg Xcf hq1 b1
 obtain⟨A1,c1,A2,c2,A3,c3,g0,g1,g2,g3,hg⟩:=h1.gc (G:=d.G) (st:=d.st) (M:=M) rfl rfl XhT.out XhN.out XhR.out hM1
 have ct:=gram_top hg d.st
 rw [<-Xhp.out]at ct
 have hmk: ∀w:World,(Instr.makeSlice 33 (.int .i64 ((p:Int)+1)) (.int .i64 ((p:Int)+1))).run Tryz.prog w= .ok (.slice (some ⟨w.heap.size,0,none⟩) (p+1) (p+1)) (w.alloc (.cells (madeCells #[.slice none 0 0] (p+1)) 49)):=fun w=>by
  have:=make_ints (p+1) (by omega) w
  push_cast at this
  exact this
 have hwp:IntKind.i64.wrap ((p:Int)+1)=(p:Int)+1:=by rw [IntKind.wrap_i64];omega
 unfold PtrV
 obtain⟨Xhfs,Xf1,Xf2,Xf3,Xf4,Xh1,XhM1,Xst1,Xhow,Xhg,Xct⟩:=HqZ11 hfs f1 f2 f3 f4 h1 hM1 st1 how hg ct;clear hfs f1 f2 f3 f4 h1 hM1 st1 how hg ct
 go_wp2_with fail
 refine Xct.out.mono ?_
 rintro e w2 ⟨rfl,b2⟩
 have h2:=Xh1.out.below b2 2
 have s2:StL JP w1 q1.ow w2 (ext w1 q1.ow 2):=StL.new _ b2 _ 2
 obtain⟨q2,hq2⟩: ∃x:LQ,x={q1 with ow:=ext w1 q1.ow 2}:=⟨_,rfl⟩
 have hM2:q2.M=M:=by rw [hq2];exact XhM1.out
 have s2:StL JP w1 q1.ow w2 q2.ow:=by rw [hq2];exact s2
 rw [<-hq2]at h2
 have b3:Below w2.heap.size w2 (w2.alloc (.cells (madeCells #[.slice none 0 0] (p+1)) 49)):=(Below.refl _ _).alloc (Nat.le_refl _) _
 have ru3:RuV (w2.alloc (.cells (madeCells #[.slice none 0 0] (p+1)) 49)) (ext w2 q2.ow 5) (.slice (some ⟨w2.heap.size,0,none⟩) (p+1) (p+1)) (topOf d.G+1) (fun s=>ofUpto d.G.rules s (min 0 d.G.rules.length)):=by
  rw [<-Xhp.out]
  have e:(fun k:Nat=>((fun s:Nat=>ofUpto d.G.rules s (min 0 d.G.rules.length)) k).map (Value.int .i64))=fun _=>[]:=by funext k;simp [ofUpto]
  refine .inr ⟨w2.heap.size,fun _=> .slice none 0 0,rfl,?_⟩
  rw [e]
  exact Rows.made (Blk.new w2 _ _) (ext_new (Nat.le_refl _))
 obtain⟨q3,mk3,hM3,s3⟩:=h2.madeU ru3 (StL.new _ b3 _ 5)
 rw [dK_zero Xhrs.out Xhtl.out]at mk3
 rw [hM2]at mk3 hM3 s3
 have s3:=s2.trans (s3.mono (J':=JP) (fun j hj=>by unfold JP;omega))
 have q7:=Xh1.out.cells.2.2.2.2.2.2.2.1
 have g7:w2.cell? ⟨M,7,none⟩=some q2.vu:=by have:=h2.cells.2.2.2.2.2.2.2.1;rw [hM2]at this;exact this
 have z7:w2.frozen? ⟨M,7,none⟩=false:=by have:=h2.box.frozen 7;rw [hM2]at this;exact this
 have l7:=World.block_lt_of_cell? _ _ g7
 have g7':(w2.alloc (.cells (madeCells #[.slice none 0 0] (p+1)) 49)).cell? ⟨M,7,none⟩=some q2.vu:=(b3.cell (p:=⟨M,7,none⟩) l7).trans g7
 have z7':(w2.alloc (.cells (madeCells #[.slice none 0 0] (p+1)) 49)).frozen? ⟨M,7,none⟩=false:=(World.frozen?_of_block (a:=⟨M,7,none⟩) (b3.block M l7)).trans z7
 clear g0 g1 g2 g3 Xhg Xct Xh1 b2 h2 hq2 s2 b3 ru3 hM2 q7 g7 z7 l7
 obtain⟨Xmk3,XhM3,Xs3⟩:=HqZ3 mk3 hM3 s3;clear mk3 hM3 s3
 go_upto_region 2 with fail
 generalize (w2.alloc (.cells (madeCells #[.slice none 0 0] (p+1)) 49)).setCell ⟨M,7,none⟩ (.slice (some ⟨w2.heap.size,0,none⟩) (p+1) (p+1))=w3 at *
 clear g7' z7' hmk
 obtain⟨A1,c1,A2,c2,A3,c3,g0,g1,g2,g3,hg⟩:=Xmk3.out.gc (G:=d.G) (st:=d.st) (M:=M) rfl rfl XhT.out XhN.out XhR.out XhM3.out
 have hwr:IntKind.i64.wrap ((R:Int)+1)=(R:Int)+1:=by rw [IntKind.wrap_i64];omega
 clear g0 g1 g3
 have Xhg:=hide hg;clear hg
 go_wp2_with fail
 go_loopw [33] (fun i wr=> ∃(k:Nat) (qk:LQ),k<=R+1/\i= .int .i64 k/\MK wr qk (dK d k) y/\qk.M=M/\StL JP w1 q1.ow wr qk.ow) (fun i _=>R+1 - (intOf i).toNat)
 case atStart=>exact⟨0,q3,Nat.zero_le _,rfl,Xmk3.out,XhM3.out,Xs3.out⟩
 case round=>
  clear g2 Xhg Xmk3 XhM3 Xs3
  obtain⟨k,qk,hk,rfl,hm,hMk,st⟩:=hrel
  by_cases hlt:k<R+1
  ·have hlt':(k:Int)<(R:Int)+1:=by omega
   obtain⟨A1,c1,A2,c2,A3,c3,g0,g1,g2,g3,hg⟩:=hm.gc (G:=d.G) (st:=d.st) (M:=M) rfl rfl XhT.out XhN.out XhR.out hMk
   have cr:=gram_rule2 hg d.st (k:Int)
   obtain⟨ru,hru⟩: ∃r,r=ruleOf d.G d.st (k:Int):=⟨_,rfl⟩
   rw [<-hru]at cr
   obtain⟨⟨l,xs⟩,ok⟩:=ru
   have hxs:rgt d.G d.st k=xs:=by unfold rgt;rw [<-hru]
   obtain⟨Xhm,XhMk,Xst,Xhru,Xhxs,Xcr,Xhg⟩:=HqZ7 hm hMk st hru hxs cr hg;clear hm hMk st hru hxs cr hg
   go_wp2_with fail
   refine Xcr.out.mono ?_
   rintro e wa ⟨Az,nz,cz,rfl,hrd,ba⟩
   replace hrd:RdI wa (fun b=>qk.Fg b\/(wr.heap.size<=b/\b<wa.heap.size)) (.slice Az nz cz) xs:=hrd
   have al:Below wa.heap.size wa (wa.alloc (.cells #[.int .i64 l,.slice Az nz cz] 98)):=(Below.refl _ _).alloc (Nat.le_refl _) _
   have kX:Blk (wa.alloc (.cells #[.int .i64 l,.slice Az nz cz] 98)) wa.heap.size 98 #[.int .i64 l,.slice Az nz cz]:=Blk.new _ _ _
   have bb:Below wr.heap.size wr (wa.alloc (.cells #[.int .i64 l,.slice Az nz cz] 98)):=ba.trans (al.mono ba.size)
   have hb:=Xhm.out.below bb 2
   have sb:StL JP wr qk.ow (wa.alloc (.cells #[.int .i64 l,.slice Az nz cz] 98)) (ext wr qk.ow 2):=StL.new _ bb _ 2
   have tX:ext wr qk.ow 2 wa.heap.size=2:=ext_new ba.size
   have rdb:RdI (wa.alloc (.cells #[.int .i64 l,.slice Az nz cz] 98)) (TF (wa.alloc (.cells #[.int .i64 l,.slice Az nz cz] 98)) (ext wr qk.ow 2) (fun t=>t=1\/t=2)) (.slice Az nz cz) xs:=
    (Rd.below hrd al (fun b hb=>hb.elim (fun hb=>Nat.lt_of_lt_of_le (Xhm.out.gF b hb).1 ba.size) (fun hb=>hb.2))).mono (fun b hb=>by
     rcases hb with hb|hb
     ·have h1:=Xhm.out.gF b hb
      exact⟨Nat.lt_of_lt_of_le h1.1 bb.size,.inl ((ext_old h1.1).trans h1.2)⟩
     ·exact⟨Nat.lt_of_lt_of_le hb.2 al.size,.inr (ext_new hb.1)⟩)
   obtain⟨hnz,hnzc,hczm,-⟩:=RdI.at_ hrd
   have hnz8:nz<=8:=by have h1:=XhK.out.eight (k:Int);rw [<-Xhru.out]at h1;rw [hnz];exact h1
   unfold maxLen at hczm
   obtain⟨X,hX⟩: ∃X,X=wa.heap.size:=⟨_,rfl⟩
   rw [<-hX]at kX tX
   obtain⟨qb,hqb⟩: ∃x:LQ,x={qk with ow:=ext wr qk.ow 2}:=⟨_,rfl⟩
   have hMb:qb.M=M:=by rw [hqb];exact XhMk.out
   have hob:ext wr qk.ow 2=qb.ow:=by rw [hqb]
   rw [<-hqb]at hb
   rw [hob]at sb tX rdb
   have stb:=Xst.out.trans sb
   clear g0 g1 g2 g3 hrd al ba bb hqb hob sb Xhm XhMk Xst Xcr Xhg
   obtain⟨XkX,Xhb,XtX,Xrdb,XhMb,Xstb,Xhnz⟩:=HqZ7 kX hb tX rdb hMb stb hnz;clear kX hb tX rdb hMb stb hnz
   go_wp2_with fail
   rw [<-hX]
   clear hX
   generalize wa.alloc (.cells #[.int .i64 l,.slice Az nz cz] 98)=wb at *
   have dr:Below wb.heap.size wb wb.drew:=(Below.refl _ _).drew
   have hd:=Xhb.out.below dr 2
   have kXd:=XkX.out.drew
   have tXd:ext wb qb.ow 2 X=2:=(ext_old XkX.out.lt).trans XtX.out
   have sd:StL JP wb qb.ow wb.drew (ext wb qb.ow 2):=StL.new _ dr _ 2
   have rdd:RdI wb.drew (TF wb.drew (ext wb qb.ow 2) (fun t=>t=1\/t=2)) (.slice Az nz cz) xs:=Rd.step Xrdb.out sd (fun i hi=>by unfold JP;omega)
   obtain⟨qd,hqd⟩: ∃x:LQ,x={qb with ow:=ext wb qb.ow 2}:=⟨_,rfl⟩
   have hMd:qd.M=M:=by rw [hqd];exact XhMb.out
   have hod:ext wb qb.ow 2=qd.ow:=by rw [hqd]
   rw [<-hqd]at hd
   rw [hod]at tXd sd rdd
   have sd:=Xstb.out.trans sd
   clear hqd hod Xhb XkX XtX Xrdb XhMb Xstb dr
   obtain⟨Z,z1,z2,z3⟩:=hd.r
   have ersl:(dK d k).rs.length=k:=rsK_len _ _ _
   obtain⟨Ar,hAr⟩: ∃x,x=qd.Ar:=⟨_,rfl⟩
   obtain⟨cr,hcr⟩: ∃x,x=qd.cr:=⟨_,rfl⟩
   have q5:=hd.cells.2.2.2.2.2.1
   rw [ersl,hMd,<-hAr,<-hcr]at q5
   rw [ersl,<-hAr,<-hcr]at z2
   have zc:=z2.cap
   have xx1:wb.drew.cell? ⟨X,1,none⟩=some (.slice Az nz cz):=(kXd.cell 1).trans rfl
   clear hAr hcr
   obtain⟨Xhd,XkXd,XtXd,XhMd,Xsd,Xrdd,Xz1,Xz2,Xz3,Xersl⟩:=HqZ10 hd kXd tXd hMd sd rdd z1 z2 z3 ersl;clear hd kXd tXd hMd sd rdd z1 z2 z3 ersl
   refine region_late (fun W=>W.cell? ⟨M,5,none⟩=some (.slice Ar k cr)/\W.cell? ⟨X,1,none⟩=some (.slice Az nz cz)) 7 9 (by kernel_rfl) (by kernel_rfl) ⟨q5,xx1⟩ ?_
   simp only [List.take_succ_cons,List.take_zero,List.drop_succ_cons,List.drop_zero]
   iterate 7
    refine wpHeld_cons ?_ (by rfl) (fun wS hwS=> ?_) ?_
    rotate_left
    ·(try dsimp only at hwS)
     go_simp
     all_goals with_reducible rfl
    simp only [Act.put,List.setIfInBounds_toArray,List.set_cons_zero,List.set_cons_succ]
   refine wpHeld_nil ?_
   generalize wb.drew=wd at *
   have al:Below wd.heap.size wd (wd.alloc (.cells #[.slice Az nz cz] 49)):=(Below.refl _ _).alloc (Nat.le_refl _) _
   have he:=Xhd.out.below al 2
   have kXe:=XkXd.out.below al XkXd.out.lt
   have se:StL (fun _=>False) wd qd.ow (wd.alloc (.cells #[.slice Az nz cz] 49)) (ext wd qd.ow 2):=StL.new _ al _ 2
   have tXe:ext wd qd.ow 2 X=2:=(ext_old XkXd.out.lt).trans XtXd.out
   have rde:=Rd.step Xrdd.out se (fun _ _ e=>e)
   have z2e:=Xz2.out.step se (fun e=>e)
   have z3e:=fun(i:Nat) (z:Value) (r:List Int) hz hr=>Rd.step (Xz3.out i z r hz hr) se (fun _ _ e=>e)
   have hMe:({qd with ow:=ext wd qd.ow 2}:LQ).M=M:=XhMd.out
   have rone:Rd (wd.alloc (.cells #[.slice Az nz cz] 49)) (fun x=>x=wd.heap.size) (.slice (some ⟨wd.heap.size,0,none⟩) 1 1) 1 [.slice Az nz cz]:=Rd.one' (w:=wd) (e:=49) [.slice Az nz cz] 1 rfl
   have se:=Xsd.out.trans (se.mono (J':=JP) (fun _ e=>e.elim))
   have q5e:=up_cell al q5
   have xx1e:=up_cell al xx1
   have Se:=And.intro q5e xx1e
   clear q5 xx1 al q5e xx1e
   obtain⟨Xhe,XkXe,Xse,XtXe,Xrde,Xz2e,Xz3e,Xrone,XhMe,XSe⟩:=HqZ10 he kXe se tXe rde z2e z3e rone hMe Se;clear he kXe se tXe rde z2e z3e rone hMe Se
   refine wpMid_cons ?_
   go_wp2_with fail
   refine⟨XSe.out,wpMid_cons ?_⟩
   generalize wd.alloc (.cells #[.slice Az nz cz] 49)=we at *
   go_wp2_with (at_builtin;refine wp_append _ rfl (.tmp 49) (.tmp 52) _ rfl Tryz.elemIntsE 0 (.slice Ar k cr) k Z rfl Xz2e.out.own _ _ [.slice Az nz cz] 1 rfl rfl Xrone.out (by intro u hu;obtain rfl:=List.mem_singleton.1 hu;rfl) (by unfold maxLen;omega) (by omega) (Nat.zero_le _) ?_)
   intro A4 c4 w4 own4 g4 ho4
   obtain⟨rg4,st4⟩:=RgtV.push (rs:=rsK d.G d.st k) (r:=rgt d.G d.st k) (Xersl.out.symm) Xz1.out Xz2e.out Xz3e.out (by rw [Xhxs.out];exact Xrde.out) own4 g4 ho4
   rw [<-rsK_next]at rg4
   obtain⟨q6,mk6,hM6,st6⟩:=Xhe.out.putR (n':=k+1) (rsK_len _ _ _).symm rg4 st4
   rw [XhMe.out]at mk6 hM6 st6
   have kX4:=XkXe.out.touch st4.t (by rw [XtXe.out];omega)
   have htm:ext wd qd.ow 2 qd.M=0:=Xhe.out.tm
   have htm2:ext wd qd.ow 2 M=0:=by rw [<-htm,show qd.M=M from XhMe.out]
   have bx4:=Xhe.out.box.touch st4.t (by show¬ext wd qd.ow 2 qd.M=3;rw [htm];omega)
   rw [XhMe.out]at bx4
   have q5f:w4.cell? ⟨M,5,none⟩=some (.slice Ar k cr):=(World.cell?_of_block (a:=⟨M,5,none⟩) (st4.t.block M (World.block_lt_of_cell? _ _ XSe.out.1) (by rw [htm2];omega))).trans XSe.out.1
   have z5f:=bx4.frozen 5
   have xx1f:w4.cell? ⟨X,1,none⟩=some (.slice Az nz cz):=(kX4.cell 1).trans rfl
   have kX6:=kX4.touch (((Touch.refl (fun b=>b=M) w4).setCell (p:=⟨M,5,none⟩) (fun _=>rfl) (.slice A4 (k+1) c4))) (fun e=>by have h1:=XtXe.out;rw [e,htm2]at h1;cases h1)
   have tX6:q6.ow X=2:=(st6.eq X XkXe.out.lt).trans XtXe.out
   have rd6:=Rd.step Xrde.out st6 (fun i hi=>by omega)
   have s6:=Xse.out.trans (st6.mono (J':=JP) (fun j hj=>by unfold JP;omega))
   clear own4 g4 ho4 rg4 st4 st6 kX4 bx4 htm htm2 XSe Xhe XkXe Xse XtXe Xrde Xz2e Xz3e Xrone XhMe Xhd XkXd XtXd XhMd Xsd Xrdd Xz1 Xz2 Xz3 Xersl
   obtain⟨Xmk6,XhM6,XkX6,XtX6,Xrd6,Xs6⟩:=HqZ6 mk6 hM6 kX6 tX6 rd6 s6;clear mk6 hM6 kX6 tX6 rd6 s6
   refine⟨⟨q5f,xx1f⟩,wpMid_nil ?_⟩
   go_wp2_with fail
   refine NoPanic.normal ?_
   clear q5f xx1f z5f
   generalize w4.setCell ⟨M,5,none⟩ (.slice A4 (k+1) c4)=w6 at *
   obtain⟨A1,c1,A2,c2,A3,c3,g0,g1,g2,g3,hg⟩:=Xmk6.out.gc (G:=d.G) (st:=d.st) (M:=M) rfl rfl XhT.out XhN.out XhR.out XhM6.out
   clear g0 g1 g3 hg
   go_upto_if 63 with fail
   go_cut [3]from 56 to 81 (fun v wx=>v= .int .i64 (k:Int)/\CutU w1 q1.ow d y k M X 98 l (.slice Az nz cz) xs wx)
   case first=>
    by_cases hkR:k<R
    ·have hkR':(k:Int)<(R:Int):=by omega
     obtain⟨⟨l',x'⟩,hr⟩: ∃r,d.G.rules[k]? =some r:=⟨_,List.getElem?_eq_getElem (by rw [<-XhR.out];exact hkR)⟩
     have hr0:=Xhru.out
     rw [ruleOf_nat hr]at hr0
     injection hr0 with hr0 hok
     injection hr0 with e1 e2
     obtain⟨hl0,hl1⟩:=(Kn.of_check Xhc.out).left (List.mem_of_getElem? hr)
     rw [<-e1]at hl0 hl1 hr
     obtain⟨ln,eln⟩:=Int.eq_ofNat_of_zero_le hl0
     clear e1 e2 hok hl0
     subst eln
     have hlp:ln<=topOf d.G:=by unfold topN at hl1;unfold topOf;simp only at hl1;omega
     obtain⟨P,vs,Ar,m,cr,hvu,rows,hvs,cP,row,hm⟩:=Xmk6.out.rowK hlp
     have q7c:=Xmk6.out.cells.2.2.2.2.2.2.2.1
     obtain⟨np,hnp⟩: ∃x,x=p+1:=⟨_,rfl⟩
     rw [XhM6.out,hvu,<-Xhp.out,<-hnp]at q7c
     have hli:(ln:Int)<(np:Int):=by have:=Xhp.out;omega
     have hli2:ln<np:=by omega
     have hnp2:np<=241:=by omega
     obtain⟨hmc,hcm⟩:=row.cap
     have hmR:m<=300:=by have:=XhR.out;omega
     have x0:w6.cell? ⟨X,0,none⟩=some (.int .i64 (ln:Int)):=(XkX6.out.cell 0).trans rfl
     clear hl1 hm
     obtain⟨Xhr,Xhvu,Xrows,Xhvs,Xrow,Xhlp,Xhnp⟩:=HqZ7 hr hvu rows hvs row hlp hnp;clear hr hvu rows hvs row hlp hnp
     go_wp2_with fail
     refine region_late (fun W=>W.cell? ⟨M,7,none⟩=some (.slice (some ⟨P,0,none⟩) np np)/\W.cell? ⟨X,0,none⟩=some (.int .i64 (ln:Int))/\W.cell? ⟨P,ln,none⟩=some (.slice Ar m cr)) 15 17 (by kernel_rfl) (by kernel_rfl) ⟨q7c,x0,cP⟩ ?_
     simp only [List.take_succ_cons,List.take_zero,List.drop_succ_cons,List.drop_zero]
     iterate 15
      refine wpHeld_cons ?_ (by rfl) (fun wS hwS=> ?_) ?_
      rotate_left
      ·(try dsimp only at hwS)
       go_simp
       all_goals with_reducible rfl
      simp only [Act.put,List.setIfInBounds_toArray,List.set_cons_zero,List.set_cons_succ]
     refine wpHeld_nil ?_
     have bA:Below w6.heap.size w6 (w6.drew.alloc (.cells #[.int .i64 (k:Int)] 3)):=((Below.refl _ _).drew).alloc (Nat.le_refl _) _
     have SA:(w6.drew.alloc (.cells #[.int .i64 (k:Int)] 3)).cell? ⟨M,7,none⟩=some (.slice (some ⟨P,0,none⟩) np np)/\(w6.drew.alloc (.cells #[.int .i64 (k:Int)] 3)).cell? ⟨X,0,none⟩=some (.int .i64 (ln:Int))/\(w6.drew.alloc (.cells #[.int .i64 (k:Int)] 3)).cell? ⟨P,ln,none⟩=some (.slice Ar m cr):=⟨up_cell bA q7c,up_cell bA x0,up_cell bA cP⟩
     have rone:Rd (w6.drew.alloc (.cells #[.int .i64 (k:Int)] 3)) (fun x=>x=w6.heap.size) (.slice (some ⟨w6.heap.size,0,none⟩) 1 1) 1 [.int .i64 (k:Int)]:=Rd.one' (w:=w6.drew) (e:=3) [.int .i64 (k:Int)] 1 rfl
     have h4:=Xmk6.out.below bA 2
     have stA:StL (fun _=>False) w6 q6.ow (w6.drew.alloc (.cells #[.int .i64 (k:Int)] 3)) (ext w6 q6.ow 2):=StL.new _ bA _ _
     obtain⟨q4,hq4⟩: ∃x:LQ,x={q6 with ow:=ext w6 q6.ow 2}:=⟨_,rfl⟩
     have hM4:q4.M=M:=by rw [hq4];exact XhM6.out
     have how4:ext w6 q6.ow 2=q4.ow:=by rw [hq4]
     have hvu4:q4.vu= .slice (some ⟨P,0,none⟩) (topOf d.G+1) (topOf d.G+1):=by rw [hq4];exact Xhvu.out
     rw [<-hq4]at h4
     rw [how4]at stA
     have rows4:=Xrows.out.step stA (fun e=>e)
     have row4:=Xrow.out.step stA (fun e=>e)
     have kX4:=XkX6.out.below bA XkX6.out.lt
     have tX4:q4.ow X=2:=(stA.eq X XkX6.out.lt).trans XtX6.out
     have rd4:=Rd.step Xrd6.out stA (fun _ _ e=>e)
     have s4:=Xs6.out.trans (stA.mono (J':=JP) (fun _ e=>e.elim))
     clear q7c x0 cP bA stA hq4 how4 Xmk6 XhM6 XkX6 XtX6 Xrd6 Xs6 Xrows Xrow Xhvu g2
     obtain⟨XSA,Xrone,Xh4,XhM4,Xhvu4,Xrows4,Xrow4,XkX4,XtX4,Xrd4,Xs4⟩:=HqZ11 SA rone h4 hM4 hvu4 rows4 row4 kX4 tX4 rd4 s4;clear SA rone h4 hM4 hvu4 rows4 row4 kX4 tX4 rd4 s4
     generalize hwA:w6.drew.alloc (.cells #[.int .i64 (k:Int)] 3)=wA at *
     refine wpMid_cons ?_
     go_wp2_with fail
     try rw [hwA]
     refine⟨XSA.out,wpMid_cons ?_⟩
     go_wp2_with (at_builtin;refine wp_append _ rfl (.tmp 77) (.tmp 79) _ rfl Tryz.elemInt 0 (.slice Ar m cr) m (((dK d k).ru ln).map (Value.int .i64)) rfl Xrow4.out.own _ _ [.int .i64 (k:Int)] 1 rfl rfl Xrone.out (by intro u hu;obtain rfl:=List.mem_singleton.1 hu;rfl) (by unfold maxLen;omega) (by omega) (Nat.zero_le _) ?_)
     intro A9 c9 w9 own9 g9 hb9
     obtain⟨rows9,st9⟩:=Xrows4.out.app (Nat.lt_succ_of_le Xhlp.out) Xhvs.out own9 g9 hb9
     obtain⟨cP9,fP9⟩:=Xrows4.out.grown_cell (Nat.lt_succ_of_le Xhlp.out) (by rw [Xhvs.out];exact g9)
     rw [Xhvs.out]at cP9
     rw [ru_upd]at rows9
     have mk9:=Xh4.out.putU (.inr ⟨P,_,Xhvu4.out,rows9⟩) st9
     rw [dU_yes Xhr.out]at mk9
     obtain⟨-,st8⟩:=Xrow4.out.app own9 g9 hb9
     have c7:w9.cell? ⟨M,7,none⟩=some (.slice (some ⟨P,0,none⟩) np np):=(World.cell?_of_block (a:=⟨M,7,none⟩) (st8.t.block M (World.block_lt_of_cell? _ _ XSA.out.1) (by have:=Xh4.out.tm;rw [XhM4.out]at this;rw [this];omega))).trans XSA.out.1
     have cx0:w9.cell? ⟨X,0,none⟩=some (.int .i64 (ln:Int)):=(World.cell?_of_block (a:=⟨X,0,none⟩) (st8.t.block X (World.block_lt_of_cell? _ _ XSA.out.2.1) (by rw [XtX4.out];omega))).trans XSA.out.2.1
     have hfin:CutU w1 q1.ow d y k M X 98 (ln:Int) (.slice Az nz cz) xs (w9.setCell ⟨P,ln,none⟩ (.slice A9 (m+1) c9)):=
      ⟨_,mk9,XhM4.out,XkX4.out.touch st9.t (by rw [XtX4.out];omega),(st9.eq X XkX4.out.lt).trans XtX4.out,Rd.step Xrd4.out st9 (fun i hi=>by omega),Xs4.out.trans (st9.mono (J':=JP) (fun j hj=>by unfold JP;omega))⟩
     clear own9 g9 hb9 rows9 st9 st8 mk9 XSA Xh4 Xrows4 Xrow4 XkX4 XtX4 Xrd4 Xs4 Xrone hwA
     have Xhfin:=hide hfin;clear hfin
     refine⟨⟨c7,cx0,cP9⟩,wpMid_nil ?_⟩
     go_wp2_with fail
     refine NoPanic.normal ?_
     go_wp2_with fail
     go_meet
     exact⟨rfl,Xhfin.out⟩
    ·have hkR': ¬(k:Int)<(R:Int):=by omega
     have hfin:CutU w1 q1.ow d y k M X 98 l (.slice Az nz cz) xs w6:=⟨q6,by rw [<-dU_no (by rw [<-XhR.out];omega)];exact Xmk6.out,XhM6.out,XkX6.out,XtX6.out,Xrd6.out,Xs6.out⟩
     clear hkR Xmk6 XhM6 XkX6 XtX6 Xrd6 Xs6
     have Xhfin:=hide hfin;clear hfin
     go_wp2_with fail
     go_meet
     exact⟨rfl,Xhfin.out⟩
   case rest=>
    clear Xmk6 XhM6 XkX6 XtX6 Xrd6 Xs6 g2
    obtain⟨rfl,q7,mk7,hM7,kX7,tX7,rd7,s7⟩:=hcut
    have x1:=(kX7.cell 1).trans rfl
    obtain⟨D0,hD0⟩: ∃x,x=wc.heap.size:=⟨_,rfl⟩
    have hfc:=FSets.stepL Xhfs.out (Xf4.out) (s7.how Xhow.out) (by unfold JP;omega)
    obtain⟨Xmk7,XhM7,XkX7,XtX7,Xrd7,Xs7,XhD0,Xhfc⟩:=HqZ8 mk7 hM7 kX7 tX7 rd7 s7 hD0 hfc;clear mk7 hM7 kX7 tX7 rd7 s7 hD0 hfc
    go_wp2_with fail
    go_loopw [6,85] (fun tv iv wr'=> ∃(j:Nat) (A:Option Addr) (c:Nat),j<=nz/\iv= .int .i64 j/\tv= .slice A j c/\TlM D0 wr' (T+1) A j c ((tlOf d.G d.st k).take j)/\Below D0 wc wr') (fun _ iv _=>nz - (intOf iv).toNat)
    case atStart=>exact⟨0,none,0,Nat.zero_le _,rfl,rfl,by rw [List.take_zero];exact TlM.nil _ _ _,by rw [XhD0.out];exact Below.refl _ _⟩
    case round=>
     obtain⟨j,At,ct,hj,rfl,rfl,htl,le⟩:=hrel
     by_cases hlj:j<nz
     ·have hlj':(j:Int)<(nz:Int):=by omega
      obtain⟨-,-,-,hcell⟩:=RdI.at_ Xrd7.out
      obtain⟨bb,off,rfl,-,-⟩:=hcell (by omega)
      have le':Below wc.heap.size wc wr:=by rw [<-XhD0.out];exact le
      have rdr:=Rd.below Xrd7.out le' (fun b hb=>hb.1)
      have hrt:=RdI.tail rdr (k:=j+1) (by omega)
      obtain⟨A',hA'⟩: ∃A':Option Addr,(if cz=j+1 then(some ⟨bb,off,none⟩:Option Addr)else some ⟨bb,off+(j+1),none⟩)=A':=⟨_,rfl⟩
      rw [hA']at hrt
      have cl:=first_Line (Xhfc.out.below le') hrt (fun b hb=>Nat.lt_of_lt_of_le hb.1 le'.size)
      rw [Xf1.out,Xf3.out]at cl
      obtain⟨ln,hln⟩: ∃x,x=lineL (T+1) (hasI (topN d.G) (empB d.G)) (famI (topN d.G) (begB d.G)) (xs.drop (j+1)):=⟨_,rfl⟩
      obtain⟨em,hem⟩: ∃x,x=(xs.drop (j+1)).all (hasI (topN d.G) (empB d.G)):=⟨_,rfl⟩
      rw [<-hln,<-hem]at cl
      have hset:putAll (T+1) ln=lnB d.G (xs.drop (j+1)):=by
       rw [hln]
       exact putAll_below (fun t ht=>by
        cases e:lineB (hasI (topN d.G) (empB d.G)) (famI (topN d.G) (begB d.G)) (xs.drop (j+1)) t with
        |false=>rfl
        |true=>have:=lnB_lt (G:=d.G) (l:=xs.drop (j+1)) (t:=t) e;rw [<-XhT.out]at this;omega)
      have hget:(tlOf d.G d.st k)[j]? =some ⟨lnB d.G (xs.drop (j+1)),em⟩:=by
       have:=tlOf_get (G:=d.G) (st:=d.st) (k:=(k:Int)) (j:=j) (by rw [Xhxs.out,<-Xhnz.out];exact hlj)
       rw [Xhxs.out]at this
       rw [this,hem];rfl
      have x1':=up_cell le' x1
      have hnk:(j:Int)+1<=(nz:Int):=by omega
      have hw63:IntKind.i64.wrap ((j:Int)+1)=(j:Int)+1:=by rw [IntKind.wrap_i64];omega
      have htn:((j:Int)+1).toNat=j+1:=by omega
      have h0k:(0:Int)<=(j:Int)+1:=by omega
      obtain⟨A1,c1,A2,c2,A3,c3,g0,g1,g2,g3,hg⟩:=Xmk7.out.gc (G:=d.G) (st:=d.st) (M:=M) rfl rfl XhT.out XhN.out XhR.out XhM7.out
      have g0r:=up_cell le' g0
      have hDr:D0<=wr.heap.size:=by rw [XhD0.out];exact le'.size
      clear hcell rdr g0 g1 g2 g3 hg le'
      unfold PtrV at cl
      obtain⟨Xhtl,Xle,Xhrt,Xcl,Xhln,Xhem,Xhset,Xhget⟩:=HqZ8 htl le hrt cl hln hem hset hget;clear htl le hrt cl hln hem hset hget
      go_wp2_with fail
      refine Xcl.out.mono ?_
      rintro e wa ⟨A9,n9,c9,rfl,hrl,ba⟩
      have cs:=look_set (V:=wa) (up_cell ba g0r) hTb hrl (fun b hb=>hb.2)
      rw [Xhset.out]at cs
      unfold PtrV at cs
      have htl2:=Xhtl.out.below ba
      have lea:=Xle.out.trans (ba.mono hDr)
      have hDa:D0<=wa.heap.size:=Nat.le_trans hDr ba.size
      clear g0r x1' hrl ba hA' hw63 htn h0k hnk hDr Xcl Xhset Xhrt Xhtl Xle
      obtain⟨Xcs,Xhtl2,Xlea⟩:=HqZ3 cs htl2 lea;clear cs htl2 lea
      go_wp2_with fail
      refine Xcs.out.mono ?_
      rintro e wb ⟨b,S,rfl,hs,hS,bw⟩
      obtain⟨Ps,p1,p2,p3⟩:=Xhtl2.out.ex
      have al:Below wb.heap.size wb (wb.alloc (.cells #[.pointer (some ⟨b,0,none⟩),.bool em] 278)):=(Below.refl _ _).alloc (Nat.le_refl _) _
      have rone:Rd (wb.alloc (.cells #[.pointer (some ⟨b,0,none⟩),.bool em] 278)) (fun x=>x=wb.heap.size) (.slice (some ⟨wb.heap.size,0,none⟩) 1 1) 2 [.pointer (some ⟨b,0,none⟩),.bool em]:=Rd.one' (w:=wb) (e:=278) [.pointer (some ⟨b,0,none⟩),.bool em] 2 rfl
      have own2:=own_below' p2 (bw.trans (al.mono bw.size))
      have hD2:D0<=(wb.alloc (.cells #[.pointer (some ⟨b,0,none⟩),.bool em] 278)).heap.size:=Nat.le_trans hDa (bw.trans (al.mono bw.size)).size
      obtain⟨hjc,hcm⟩:j<=ct/\ct<=9223372036854775807:=by
       obtain⟨A',c',e,h1,h2⟩:=ownsRow_shape p2
       cases e
       exact⟨h1,h2⟩
      have hj8:j<=8:=by omega
      unfold PtrV
      clear Xcs
      obtain⟨Xhs,XhS,Xbw,Xp1,Xp2,Xp3,Xal,Xrone,Xown2⟩:=HqZ9 hs hS bw p1 p2 p3 al rone own2;clear hs hS bw p1 p2 p3 al rone own2
      go_wp2_with (at_builtin;refine wp_append _ rfl (.tmp 98) (.tmp 104) _ rfl Tryz.elemTail D0 (.slice At j ct) j _ rfl Xown2.out _ _ [.pointer (some ⟨b,0,none⟩),.bool em] 1 rfl rfl Xrone.out (by intro u hu;simp only [List.mem_cons,List.not_mem_nil,or_false]at hu;rcases hu with rfl|rfl<;>rfl) (by unfold maxLen;omega) (by omega) hD2 ?_)
      intro A4 c4 w4 own4 g4 ho4
      obtain⟨htl3,le3⟩:=TlM.push Xhtl2.out.hn Xp1.out Xp2.out Xp3.out hDa Xhs.out XhS.out Xbw.out Xal.out own4 g4 (by rw [World.size_alloc];exact ho4)
      rw [take_getA Xhget.out]at htl3
      have le4:=Xlea.out.trans le3
      clear own4 g4 ho4 le3 Xhtl2 Xp1 Xp2 Xp3 Xhs XhS Xbw Xal Xrone Xown2 Xlea hD2 hDa
      obtain⟨Xhtl3,Xle4⟩:=HqZ2 htl3 le4;clear htl3 le4
      go_wp2_with fail
      go_roundw
      case rel=>exact⟨j+1,A4,c4,by omega,by go_num,rfl,Xhtl3.out,Xle4.out⟩
      case measure=>simp [intOf];omega
     ·have hlj': ¬(j:Int)<(nz:Int):=by omega
      have hjn:j=nz:=by omega
      rw [List.take_of_length_le (by rw [tlOf_len,Xhxs.out,<-Xhnz.out];omega)]at htl
      have le':Below wc.heap.size wc wr:=by rw [<-XhD0.out];exact le
      have q6c:=Xmk7.out.cells.2.2.2.2.2.2.1
      have etl:(dU d k).tl.length=k:=tlK_len _ _ _
      obtain⟨A7,hA7⟩: ∃x,x=q7.At:=⟨_,rfl⟩
      obtain⟨c7,hc7⟩: ∃x,x=q7.ct:=⟨_,rfl⟩
      rw [XhM7.out,etl,<-hA7,<-hc7]at q6c
      have q6d:=up_cell le' q6c
      have bB:Below wc.heap.size wc (wr.alloc (.cells #[.slice At j ct] 273)):=le'.alloc le'.size _
      have q6e:=up_cell bB q6c
      have h9:=Xmk7.out.below bB 2
      have rdt:RdTl (wr.alloc (.cells #[.slice At j ct] 273)) (TF (wr.alloc (.cells #[.slice At j ct] 273)) (ext wc q7.ow 2) (fun t=>t=2)) (T+1) (.slice At j ct) (tlOf d.G d.st k):=by
       have al:Below wr.heap.size wr (wr.alloc (.cells #[.slice At j ct] 273)):=(Below.refl _ _).alloc (Nat.le_refl _) _
       exact(htl.below al).rd.mono fun b hb=>⟨hb.2,ext_new (by rw [<-XhD0.out];exact hb.1)⟩
      obtain⟨q9,hq9⟩: ∃x:LQ,x={q7 with ow:=ext wc q7.ow 2}:=⟨_,rfl⟩
      have hM9:q9.M=M:=by rw [hq9];exact XhM7.out
      have how9:ext wc q7.ow 2=q9.ow:=by rw [hq9]
      have hA9:q9.At=A7/\q9.ct=c7:=by rw [hq9,hA7,hc7];exact⟨rfl,rfl⟩
      have s9:StL JP w1 q1.ow (wr.alloc (.cells #[.slice At j ct] 273)) q9.ow:=by rw [<-how9];exact Xs7.out.trans (StL.new _ bB _ 2)
      rw [<-hq9]at h9
      rw [how9,show T+1=(dU d k).T+1 from by rw [XhT.out];rfl]at rdt
      obtain⟨Z,z1,z2,z3⟩:=h9.t
      rw [hA9.1,hA9.2,etl]at z2
      have z2c:=z2.cap
      have rone:Rd (wr.alloc (.cells #[.slice At j ct] 273)) (fun x=>x=wr.heap.size) (.slice (some ⟨wr.heap.size,0,none⟩) 1 1) 1 [.slice At j ct]:=Rd.one' (w:=wr) (e:=273) [.slice At j ct] 1 rfl
      have hk3:k<=300:=by omega
      clear hjn htl le le' q6c hA7 hc7 bB hq9 how9 hA9 Xmk7 XhM7 XkX7 XtX7 Xrd7 Xs7 Xhfc XhD0 x1 Xhxs Xhru
      obtain⟨Xetl,Xh9,Xrdt,XhM9,Xs9,Xz1,Xz2,Xz3,Xrone⟩:=HqZ9 etl h9 rdt hM9 s9 z1 z2 z3 rone;clear etl h9 rdt hM9 s9 z1 z2 z3 rone
      go_wp2_with (at_builtin;refine wp_append _ rfl (.tmp 111) (.tmp 113) _ rfl Tryz.elemTails 0 (.slice A7 k c7) k Z rfl Xz2.out.own _ _ [.slice At j ct] 1 rfl rfl Xrone.out (by intro u hu;obtain rfl:=List.mem_singleton.1 hu;rfl) (by unfold maxLen;omega) (by omega) (Nat.zero_le _) ?_)
      intro A4 c4 w4 own4 g4 ho4
      obtain⟨tl4,st4⟩:=TlV.push (tl:=tlK d.G d.st k) (l:=tlOf d.G d.st k) (Xetl.out.symm) Xz1.out Xz2.out Xz3.out Xrdt.out own4 g4 (by rw [World.size_alloc];exact ho4)
      rw [<-tlK_next]at tl4
      obtain⟨q10,mk10,hM10,st10⟩:=Xh9.out.putT (n':=k+1) (tlK_len _ _ _).symm tl4 st4
      rw [XhM9.out]at mk10 hM10 st10
      have mk10:MK _ q10 (dK d (k+1)) y:=mk10
      have htm:q9.ow M=0:=by have:=Xh9.out.tm;rwa [XhM9.out]at this
      have q6f:w4.cell? ⟨M,6,none⟩=some (.slice A7 k c7):=(World.cell?_of_block (a:=⟨M,6,none⟩) (st4.t.block M (World.block_lt_of_cell? _ _ q6e) (by rw [htm];omega))).trans q6e
      have bx4:=Xh9.out.box.touch st4.t (by rw [XhM9.out,htm];omega)
      rw [XhM9.out]at bx4
      have z6f:=bx4.frozen 6
      have s10:=Xs9.out.trans (st10.mono (J':=JP) (fun j hj=>by unfold JP;omega))
      clear own4 g4 ho4 tl4 st4 st10 q6d q6e htm bx4 Xetl Xh9 Xrdt XhM9 Xs9 Xz1 Xz2 Xz3 Xrone
      obtain⟨Xmk10,XhM10,Xs10⟩:=HqZ3 mk10 hM10 s10;clear mk10 hM10 s10
      go_wp2_with fail
      go_roundw
      case rel=>exact⟨k+1,q10,by omega,by go_num,Xmk10.out,XhM10.out,Xs10.out⟩
      case measure=>simp [intOf];omega
  ·have hlt': ¬(k:Int)<(R:Int)+1:=by omega
   have hkR:k=R+1:=by omega
   obtain⟨A1,c1,A2,c2,A3,c3,g0,g1,g2,g3,hg⟩:=hm.gc (G:=d.G) (st:=d.st) (M:=M) rfl rfl XhT.out XhN.out XhR.out hMk
   have ct:=gram_top hg d.st
   rw [<-Xhp.out]at ct
   have hmk: ∀w:World,(Instr.makeSlice 252 (.int .i64 ((p:Int)+1)) (.int .i64 ((p:Int)+1))).run Tryz.prog w= .ok (.slice (some ⟨w.heap.size,0,none⟩) (p+1) (p+1)) (w.alloc (.cells (madeCells #[.slice none 0 0] (p+1)) 279)):=fun w=>by
    have:=make_comes (p+1) (by omega) w
    push_cast at this
    exact this
   obtain⟨Xhm,XhMk,Xst,Xhg,Xct,XhkR⟩:=HqZ6 hm hMk st hg ct hkR;clear hm hMk st hg ct hkR
   go_wp2_with fail
   refine Xct.out.mono ?_
   rintro e wa ⟨rfl,ba⟩
   have h2:=Xhm.out.below ba 2
   have s2:=Xst.out.trans (StL.new JP ba qk.ow 2)
   obtain⟨q2,hq2⟩: ∃x:LQ,x={qk with ow:=ext wr qk.ow 2}:=⟨_,rfl⟩
   have hM2:q2.M=M:=by rw [hq2];exact XhMk.out
   have s2:StL JP w1 q1.ow wa q2.ow:=by rw [hq2];exact s2
   rw [<-hq2]at h2
   have b3:Below wa.heap.size wa (wa.alloc (.cells (madeCells #[.slice none 0 0] (p+1)) 279)):=(Below.refl _ _).alloc (Nat.le_refl _) _
   have cm3:CmV (wa.alloc (.cells (madeCells #[.slice none 0 0] (p+1)) 279)) (ext wa q2.ow 6) (.slice (some ⟨wa.heap.size,0,none⟩) (p+1) (p+1)) ((dK d k).T+1) (topOf d.G+1) (fun _=>[]):=by
    rw [<-Xhp.out]
    have kk:=Blk.new wa 279 (madeCells #[.slice none 0 0] (p+1))
    exact .inr ⟨wa.heap.size,rfl,⟨kk.lt,ext_new (Nat.le_refl _)⟩,fun j _=>kk.frozen j,fun j hj=>⟨_,(kk.cell j).trans (made_item _ _ _ hj),[],rfl,Rd.nil _ _ _,fun j p x h=>by simp at h⟩⟩
   obtain⟨q3,mk3,hM3,s3⟩:=h2.madeC cm3 (StL.new _ b3 _ 6)
   have e3:({dK d k with nc:=topOf d.G+1,cm:=fun _=>[]}:LD)=prepD d (fun _=>[]):=by rw [XhkR.out,XhR.out];exact dK_all d _
   rw [e3,hM2]at mk3
   rw [hM2]at hM3 s3
   have s4:=(s2.mono (J':=JQ) (fun j hj=>by unfold JP at hj;unfold JQ;omega)).trans (s3.mono (J':=JQ) (fun j hj=>by unfold JQ;omega))
   have g8:wa.cell? ⟨M,8,none⟩=some q2.vc:=by have:=h2.cells.2.2.2.2.2.2.2.2.1;rw [hM2]at this;exact this
   have z8:wa.frozen? ⟨M,8,none⟩=false:=by have:=h2.box.frozen 8;rw [hM2]at this;exact this
   have l8:=World.block_lt_of_cell? _ _ g8
   have g8':=up_cell b3 g8
   have z8':(wa.alloc (.cells (madeCells #[.slice none 0 0] (p+1)) 279)).frozen? ⟨M,8,none⟩=false:=(World.frozen?_of_block (a:=⟨M,8,none⟩) (b3.block M l8)).trans z8
   clear g0 g1 g2 g3 Xhg Xct Xhm XhMk Xst ba h2 hq2 s2 b3 cm3 hM2 g8 z8 l8 e3
   obtain⟨Xmk3,XhM3,Xs4⟩:=HqZ3 mk3 hM3 s4;clear mk3 hM3 s4
   go_upto_region 19 with fail
   generalize (wa.alloc (.cells (madeCells #[.slice none 0 0] (p+1)) 279)).setCell ⟨M,8,none⟩ (.slice (some ⟨wa.heap.size,0,none⟩) (p+1) (p+1))=w3 at *
   clear g8' z8' hmk s3
   obtain⟨A1,c1,A2,c2,A3,c3,g0,g1,g2,g3,hg⟩:=Xmk3.out.gc (G:=d.G) (st:=d.st) (M:=M) rfl rfl XhT.out XhN.out XhR.out XhM3.out
   have hwt:IntKind.i64.wrap ((T:Int)+1)=(T:Int)+1:=by rw [IntKind.wrap_i64];omega
   have hTp:T<=p:=by rw [Xhp.out,XhT.out];unfold topOf;omega
   clear g1 g2 g3 hg hlt hlt'
   go_wp2_with fail
   go_loopw [10] (fun iv wr'=> ∃(s:Nat) (qs:LQ) (cm:Nat->List Co),T+1<=s/\s<=p+1/\iv= .int .i64 (s:Int)/\MK wr' qs (prepD d cm) y/\qs.M=M/\StL JQ w1 q1.ow wr' qs.ow/\ ∀x:Nat,T+1<=x->x<s->ComesOf d.G d.st x (cm x)) (fun iv _=>p+1 - (intOf iv).toNat)
   case atStart=>exact⟨T+1,q3,_,Nat.le_refl _,by omega,by go_num,Xmk3.out,XhM3.out,Xs4.out,fun x h1 h2=>by omega⟩
   case round=>
    clear Xmk3 XhM3 Xs4 g0
    obtain⟨s,qs,cm,hs1,hs2,rfl,hm,hMs,st,hco⟩:=hrel
    obtain⟨A1,c1,A2,c2,A3,c3,g0,g1,g2,g3,hg⟩:=hm.gc (G:=d.G) (st:=d.st) (M:=M) rfl rfl XhT.out XhN.out XhR.out hMs
    have ct:=gram_top hg d.st
    rw [<-Xhp.out]at ct
    by_cases hlt2:s<=p
    ·have hlt2':(s:Int)<=(p:Int):=by omega
     obtain⟨Xhm,XhMs,Xst,Xhco,Xct,Xhg⟩:=HqZ6 hm hMs st hco ct hg;clear hm hMs st hco ct hg
     go_wp2_with fail
     refine Xct.out.mono ?_
     rintro e wb ⟨rfl,bb⟩
     have bd:Below wr.heap.size wr wb.drew:=bb.drew
     have hd:=Xhm.out.below bd 2
     obtain⟨qd,hqd⟩: ∃x:LQ,x={qs with ow:=ext wr qs.ow 2}:=⟨_,rfl⟩
     have hMd:qd.M=M:=by rw [hqd];exact XhMs.out
     have sd:StL JQ w1 q1.ow wb.drew qd.ow:=by rw [hqd];exact Xst.out.trans (StL.new _ bd _ 2)
     rw [<-hqd]at hd
     clear hqd bd bb g0 g1 g2 g3 Xhg Xct Xhm XhMs Xst
     rcases id hd.c with⟨-,e⟩|⟨P,hv,hPt,hfz,hcells⟩
     ·exact absurd e (Nat.succ_ne_zero _)
     have hsp:s<topOf d.G+1:=by rw [<-Xhp.out];omega
     obtain⟨z0,cz0,-⟩:=hcells s hsp
     have fz0:=hfz s hsp
     have q8:=hd.cells.2.2.2.2.2.2.2.2.1
     obtain⟨np,hnp⟩: ∃x,x=(prepD d cm).nc:=⟨_,rfl⟩
     rw [hv,hMd,<-hnp]at q8
     have hnp':np=p+1:=by rw [hnp,Xhp.out];rfl
     have hsi:(s:Int)<(np:Int):=by omega
     have hsi2:s<np:=by omega
     have hnp2:np<=241:=by omega
     have hPn: ¬P=M:=fun e=>by have h1:=hPt.2;rw [e,<-hMd,hd.tm]at h1;cases h1
     have cc:=look_coming hd (prepD_is d cm) XhK.out (s:=(s:Int)) (by show isNon d.G (s:Int)=true;unfold isNon topOf;rw [<-XhT.out,<-XhN.out];have:=Xhp.out;unfold topOf at this;rw [<-XhT.out,<-XhN.out]at this;simp only [Bool.and_eq_true,decide_eq_true_eq];omega)
     rw [hMd]at cc
     unfold PtrV at cc
     have hvP:({qd with ow:=ext wb.drew qd.ow 2}:LQ).vc= .slice (some ⟨P,0,none⟩) (prepD d cm).nc (prepD d cm).nc:=hv
     clear hcells hfz hnp' hnp
     obtain⟨Xhd,XhMd,Xsd,Xhv,XhPt,Xhsp,Xcc,XhvP⟩:=HqZ8 hd hMd sd hv hPt hsp cc hvP;clear hd hMd sd hv hPt hsp cc hvP
     go_wp2_with fail
     refine region_late (fun W=>W.cell? ⟨M,8,none⟩=some (.slice (some ⟨P,0,none⟩) np np)) 7 8 (by kernel_rfl) (by kernel_rfl) q8 ?_
     simp only [List.take_succ_cons,List.take_zero,List.drop_succ_cons,List.drop_zero]
     iterate 7
      refine wpHeld_cons ?_ (by rfl) (fun wS hwS=> ?_) ?_
      rotate_left
      ·(try dsimp only at hwS)
       go_simp
       all_goals with_reducible rfl
      simp only [Act.put,List.setIfInBounds_toArray,List.set_cons_zero,List.set_cons_succ]
     refine wpHeld_nil ?_
     generalize wb.drew=wd at *
     refine wpMid_cons ?_
     go_wp2_with fail
     refine Xcc.out.mono ?_
     rintro e we ⟨z,out,rfl,be,rdz,hco2⟩
     obtain⟨ps,p1,⟨Az,nz,cz,rfl,p2⟩,p3⟩:=id rdz
     have q8e:=up_cell be q8
     have cze:=up_cell be cz0
     have fze:we.frozen? ⟨P,s,none⟩=false:=(World.frozen?_of_block (a:=⟨P,s,none⟩) (be.block P XhPt.out.1)).trans fz0
     have he:=Xhd.out.below be 2
     have stE:StL (fun _=>False) wd qd.ow we (ext wd qd.ow 2):=StL.new _ be _ 2
     have rdz:=(RdCo.mono rdz (F':=TF we (ext wd qd.ow 2) (fun t=>t=2)) (fun b hb=>⟨hb.2,ext_new hb.1⟩))
     obtain⟨mk9,st9⟩:=he.putC XhvP.out Xhsp.out rdz
     have sF:=(Xsd.out.trans (stE.mono (J':=JQ) (fun _ e=>e.elim))).trans (st9.mono (J':=JQ) (fun j hj=>by unfold JQ;omega))
     have hcoF: ∀x:Nat,T+1<=x->x<s+1->ComesOf d.G d.st x (upd cm s out x):=fun x h1 h2=>by
      by_cases e:x=s
      ·subst e;rw [upd_same];exact hco2
      ·rw [upd_ne e];exact Xhco.out x h1 (by omega)
     have mk9:MK _ {qd with ow:=ext wd qd.ow 2} (prepD d (upd cm s out)) y:=mk9
     clear rdz be he stE st9 p1 p2 p3 q8 cz0 fz0 Xcc Xhd Xsd hco2 Xhco
     obtain⟨Xmk9,XsF,XhcoF,Xq8e⟩:=HqZ4 mk9 sF hcoF q8e;clear mk9 sF hcoF q8e
     go_wp2_with fail
     refine⟨Xq8e.out,wpMid_nil ?_⟩
     go_wp2_with fail
     refine NoPanic.normal ?_
     go_wp2_with fail
     go_roundw
     case rel=>exact⟨s+1,_,_,by omega,by omega,by go_num,Xmk9.out,XhMd.out,XsF.out,XhcoF.out⟩
     case measure=>simp [intOf];omega
    ·have hlt2': ¬(s:Int)<=(p:Int):=by omega
     obtain⟨Xhm,XhMs,Xst,Xhco,Xct,Xhg⟩:=HqZ6 hm hMs st hco ct hg;clear hm hMs st hco ct hg
     go_wp2_with fail
     refine Xct.out.mono ?_
     rintro e wb ⟨rfl,bb⟩
     have hb:=Xhm.out.below bb 2
     have sb:StL JQ V q.ow wb (ext wr qs.ow 2):=(Xst1.out.mono (J':=JQ) (fun j hj=>by unfold JP at hj;unfold JQ;omega)).trans (Xst.out.trans (StL.new _ bb _ 2))
     obtain⟨Xhb,Xsb⟩:=HqZ2 hb sb;clear hb sb
     go_wp2_with fail
     go_end0
     refine⟨rfl,_,cm,Xhb.out,XhMs.out.trans XhM.out,Xsb.out,fun x hx=> ?_⟩
     have hx2:=hx
     unfold isNon topOf at hx2
     simp only [Bool.and_eq_true,decide_eq_true_eq]at hx2
     have:=Xhco.out x.toNat (by have:=XhT.out;omega) (by have:=Xhp.out;unfold topOf at this;omega)
     rwa [show((x.toNat:Nat):Int)=x by omega]at this
end Go.Proofs.YthlbjgabhpdbfaaGreat

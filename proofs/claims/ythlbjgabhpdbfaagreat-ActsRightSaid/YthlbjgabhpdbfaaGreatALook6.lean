/- Lookaheads: all goes on, until nothing changes. -/
import Derived.Test.YthlbjgabhpdbfaaGreatALook5
import Derived.Scope
import Derived.WalkMore
import Derived.ScopeJumps
namespace Go.Proofs.YthlbjgabhpdbfaaGreat
set_option linter.unusedVariables false
set_option linter.unusedSimpArgs false
open Go.RowKit
attribute [local irreducible] wpStill wpOne wpPh
theorem least_nat {p:Nat->Prop} (h: ∃n,p n): ∃n,p n/\ ∀m,p m->n<=m:=by
 obtain⟨n,hn⟩:=h
 induction n using Nat.strongRecOn with
 |ind n ih=>
  by_cases hs: ∃m,m<n/\p m
  ·obtain⟨m,hm,hp⟩:=hs
   exact ih m hm hp
  ·exact⟨n,hn,fun m hp=>Classical.byContradiction fun hlt=>hs ⟨m,by omega,hp⟩⟩
open Classical in
noncomputable def leastN (p:Nat->Prop):Nat:=if h: ∃n,p n then(least_nat h).choose else 0
theorem leastN_spec {p:Nat->Prop} (h: ∃n,p n):p (leastN p)/\ ∀m,p m->leastN p<=m:=by
 unfold leastN
 rw [dif_pos h]
 exact(least_nat h).choose_spec
theorem wp_scope_labelg {P:Program} {a:Act} {w:World} {Q:Exit->Act->World->Prop} {r:Code} (l:Nat) (J:Nat->Act->World->Prop) {κ0:Nat} (h0:J κ0 a w)
  (pass: ∀κ a w,J κ a w->r.wp P (Exit.jump l (fun a' w'=> ∃κ',κ'<κ/\J κ' a' w') Q) a w):(Code.scope ((Code.label l).seq r)).wp P Q a w:=by
 refine wp_scope_jumps (rest:=Code.skip.seq r) l (fun a w=> ∃κ,J κ a w) (fun a w=>leastN (fun κ=>J κ a w)) (by simp [findLabel]) ?_ ?_
 ·refine wp_seq (wp_label ?_)
  show r.wp P _ a w
  refine wp_mono (pass κ0 a w h0) fun e a' w' hq=> ?_
  cases e with
  |goto l'=>exact⟨hq.1,hq.2.imp fun κ' h=>h.2⟩
  |normal=>exact hq
  |exit id=>exact hq
  |ret=>exact hq
  |panic ch=>exact hq
  |outgrown=>exact hq
 ·intro a w hJ
  obtain⟨h1,h2⟩:=leastN_spec hJ
  refine wp_seq (wp_skip ?_)
  show r.wp P _ a w
  refine wp_mono (pass _ a w h1) fun e a' w' hq=> ?_
  cases e with
  |goto l'=>
   obtain⟨e,κ',hlt,hj⟩:=hq
   exact⟨e,⟨κ',hj⟩,Nat.lt_of_le_of_lt ((leastN_spec ⟨κ',hj⟩).2 κ' hj) hlt⟩
  |normal=>exact hq
  |exit id=>exact hq
  |ret=>exact hq
  |panic ch=>exact hq
  |outgrown=>exact hq
theorem SetP.ptr {V:World} {F:Nat->Prop} {m:Nat} {p:Value} {f:Nat->Bool} (h:SetP V F m p f): ∃P,p= .pointer P:=by
 rcases h with⟨rfl,-⟩|⟨b,S,rfl,-⟩
 ·exact⟨_,rfl⟩
 ·exact⟨_,rfl⟩
theorem EdV.at_ {V:World} {ow:Nat->Nat} {A:Option Addr} {c m:Nat} {ed:List Ed} (h:EdV V ow A c m ed) {k:Nat} {e:Ed} (he:ed[k]? =some e): ∃g p,A=some ⟨g,0,none⟩/\V.cell? ⟨g,k * 4,none⟩=some (.int .i64 e.tq9)/\V.cell? ⟨g,k * 4+1,none⟩=some (.int .i64 (e.at_:Int))/\V.cell? ⟨g,k * 4+2,none⟩=some p/\V.cell? ⟨g,k * 4+3,none⟩=some (.bool e.self)/\SetP V (TF V ow (fun t=>t=2)) m p e.f:=by
 obtain⟨ps,h1,h2,h3⟩:=h
 obtain⟨p,hp,hz⟩:=zip_get h1 he
 have fg:=fun j hj=>flat_get (k:=4) (f:=fun x:Value×Ed=>[.int .i64 x.2.tq9,.int .i64 (x.2.at_:Int),x.1,.bool x.2.self]) (fun _=>rfl) hz (j:=j) hj
 obtain⟨g,eA,c0,-,-⟩:=h2.at_ (fg 0 (by omega))
 obtain⟨g1,e1,c1,-,-⟩:=h2.at_ (fg 1 (by omega))
 obtain⟨g2,e2,c2,-,-⟩:=h2.at_ (fg 2 (by omega))
 obtain⟨g3,e3,c3,-,-⟩:=h2.at_ (fg 3 (by omega))
 rw [eA]at e1 e2 e3
 injection e1 with e1;injection e1 with e1
 injection e2 with e2;injection e2 with e2
 injection e3 with e3;injection e3 with e3
 subst e1 e2 e3
 exact⟨g,p,eA,c0,c1,c2,c3,h3 k p e hp he⟩
section
variable {V : World} {q : LQ} {d : LD} {y : Dy}
set_option maxRecDepth 100000 in
set_option maxHeartbeats 8000000 in
theorem look_spread (h:MK V q d y) (hT:d.T<=120) (hv: ∀e∈y.ed,(0<=e.tq9/\e.tq9<(y.na:Int))/\e.at_<y.na) (hh: ∀p t,p<y.na->d.T+1<=t->y.F p t=false):
  Calls Tryz.prog 199 #[PtrV q.M] V fun e V'=>e= .returned (.tuple #[])/\ ∃F',Dy01 V q d {y with F:=F'} (fun j=>j=0\/j=8) V'/\Spread (d.T+1) y.na y.F y.ed F':=by
 obtain⟨M,hM⟩: ∃x,x=q.M:=⟨_,rfl⟩
 rw [<-hM]
 obtain⟨Xh,XhT,Xhv,Xhh,XhM⟩:=HqZ5 h hT hv hh hM;clear h hT hv hh hM
 unfold PtrV
 go_enter Tryz.func199,Tryz.ntmps199
 go_wp2_with fail
 refine wp_scope_labelg 0 (fun κ a' w'=> ∃(F:Nat->Nat->Bool) (q':LQ) (u1 u2 u3 u4 u5 u6 u7 u8 u9 u10 u11 u12 u13 u14 u15 u16 u17 u18 u19 u20 u21 u22 u23 u24 u25 u26 u27 u28 u29 u30 u31 u32 u33 u34 u35 u36 u37 u38 u39 u40 u41 u42 u43 u44 u45 u46 u47 u48 u49 u50 u51 u52 u53 u54 u55 u56 u57 u58 u59 u60 u61:Value),a'={tmps:= #[.pointer (some ⟨M,0,none⟩),u1,u2,u3,u4,u5,u6,u7,u8,u9,u10,u11,u12,u13,u14,u15,u16,u17,u18,u19,u20,u21,u22,u23,u24,u25,u26,u27,u28,u29,u30,u31,u32,u33,u34,u35,u36,u37,u38,u39,u40,u41,u42,u43,u44,u45,u46,u47,u48,u49,u50,u51,u52,u53,u54,u55,u56,u57,u58,u59,u60,u61],defers:=[]}/\MK w' q' d {y with F:=F}/\q'.M=M/\StL (fun j=>j=0\/j=8) V q.ow w' q'.ow/\(∀p t,y.F p t=true->F p t=true)/\(∀p t,F p t=true->LE y.F y.ed p t)/\(∀p t,p<y.na->d.T+1<=t->F p t=false)/\κ=unsetF F (d.T+1) y.na) (κ0:=unsetF y.F (d.T+1) y.na) ⟨y.F,q,_,_,_,_,_,_,_,_,_,_,_,_,_,_,_,_,_,_,_,_,_,_,_,_,_,_,_,_,_,_,_,_,_,_,_,_,_,_,_,_,_,_,_,_,_,_,_,_,_,_,_,_,_,_,_,_,_,_,_,_,_,rfl,Xh.out,XhM.out.symm,StL.refl _ _ _,fun _ _ h=>h,fun p t h=> .base p t h,Xhh.out,rfl⟩ ?_
 rintro κ a w ⟨F,q',u1,u2,u3,u4,u5,u6,u7,u8,u9,u10,u11,u12,u13,u14,u15,u16,u17,u18,u19,u20,u21,u22,u23,u24,u25,u26,u27,u28,u29,u30,u31,u32,u33,u34,u35,u36,u37,u38,u39,u40,u41,u42,u43,u44,u45,u46,u47,u48,u49,u50,u51,u52,u53,u54,u55,u56,u57,u58,u59,u60,u61,rfl,h,hM',st,hle,hsnd,hhi,hκ⟩
 have hpl:=SpIn.start hsnd hhi
 obtain⟨-,-,-,-,-,-,-,-,-,-,-,q11,-⟩:=h.cells
 obtain⟨nE,hnE⟩: ∃n,n=y.ed.length:=⟨_,rfl⟩
 obtain⟨cE,hcE⟩: ∃n,n=q'.ce:=⟨_,rfl⟩
 obtain⟨Ae,hAe⟩: ∃n,n=q'.Ae:=⟨_,rfl⟩
 have hcap:nE<=cE/\cE<=9223372036854775807:=by
  obtain⟨ps,-,hr,-⟩:=h.e
  rw [hnE,hcE]
  exact hr.cap
 rw [hM']at q11
 dsimp only at q11
 rw [<-hnE,<-hcE,<-hAe]at q11
 obtain⟨Xh,XhM',Xst,Xhle,Xhsnd,Xhhi,Xhκ,Xhpl,XhnE,XhcE,XhAe⟩:=HqZ11 h hM' st hle hsnd hhi hκ hpl hnE hcE hAe;clear h hM' st hle hsnd hhi hκ hpl hnE hcE hAe
 go_wp2_with fail
 go_loopw [2,10] (fun mo iv wr=> ∃(b:Bool) (k:Nat) (F':Nat->Nat->Bool) (q1:LQ),k<=nE/\mo= .bool b/\iv= .int .i64 k/\SpIn (d.T+1) y.na y.F y.ed F k b F'/\MK wr q1 d {y with F:=F'}/\q1.M=M/\q1.Ae=Ae/\q1.ce=cE/\StL (fun j=>j=0\/j=8) V q.ow wr q1.ow) (fun _ iv _=>nE - (intOf iv).toNat)
 case atStart=>exact⟨false,0,F,q',Nat.zero_le _,rfl,rfl,Xhpl.out,Xh.out,XhM'.out,XhAe.out.symm,XhcE.out.symm,Xst.out⟩
 case round=>
  clear q11
  obtain⟨b,k,F',q1,hk,rfl,rfl,sp,h1,hM1,hA1,hc1,st1⟩:=hrel
  by_cases hlt:k<nE
  ·have hlt':(k:Int)<(nE:Int):=by omega
   obtain⟨e,he⟩: ∃e,y.ed[k]? =some e:=⟨_,List.getElem?_eq_getElem (by rw [<-XhnE.out];exact hlt)⟩
   obtain⟨⟨v1,v2⟩,v3⟩:=Xhv.out e (List.mem_of_getElem? he)
   obtain⟨tn,etn⟩:=Int.eq_ofNat_of_zero_le v1
   have htn:e.tq9.toNat=tn:=by rw [etn];rfl
   have htl:tn<y.na:=by omega
   obtain⟨-,-,-,-,-,-,-,-,-,-,r10,r11,-⟩:=h1.cells
   obtain⟨ge,px,eA,c0,c1,c2,c3,hsp⟩:=h1.e.at_ he
   rw [hA1]at eA
   subst eA
   obtain⟨px,rfl⟩:=hsp.ptr
   obtain⟨ga,eAa,ca⟩:=h1.a.at_ v3
   obtain⟨ga',eAa',ct⟩:=h1.a.at_ htl
   rw [eAa]at eAa'
   injection eAa' with eAa'
   injection eAa' with eAa'
   subst eAa'
   obtain⟨na,hna⟩: ∃n,n=y.na:=⟨_,rfl⟩
   obtain⟨cA,hcA⟩: ∃n,n=q1.ca:=⟨_,rfl⟩
   rw [eAa,hM1]at r10
   dsimp only at r10
   rw [<-hna,<-hcA]at r10
   have hset:=h1.a.set e.at_ v3
   have hset2:=h1.a.set tn htl
   obtain⟨pa,hpa⟩: ∃x,x=q1.ps e.at_:=⟨_,rfl⟩
   obtain⟨pt,hpt⟩: ∃x,x=q1.ps tn:=⟨_,rfl⟩
   rw [<-hpa]at ca hset
   rw [<-hpt]at ct hset2
   unfold PtrV at ca ct
   obtain⟨at_,hat_⟩: ∃x,x=e.at_:=⟨_,rfl⟩
   rw [<-hat_]at ca hset c1 v3
   rw [etn]at c0
   have hat':(at_:Int)<(na:Int):=by omega
   have hto':(tn:Int)<(na:Int):=by omega
   have al:Below wr.heap.size wr (wr.alloc (.cells #[.int .i64 (tn:Int),.int .i64 (at_:Int),.pointer px,.bool e.self] 290)):=(Below.refl _ _).alloc (Nat.le_refl _) _
   have kx:Blk (wr.alloc (.cells #[.int .i64 (tn:Int),.int .i64 (at_:Int),.pointer px,.bool e.self] 290)) wr.heap.size 290 #[.int .i64 (tn:Int),.int .i64 (at_:Int),.pointer px,.bool e.self]:=Blk.new _ _ _
   clear r11 v1 v2
   have r10':=(al.cell (p:=⟨M,10,none⟩) (World.block_lt_of_cell? _ _ r10)).trans r10
   have ca':=(al.cell (p:=⟨ga,at_,none⟩) (World.block_lt_of_cell? _ _ ca)).trans ca
   have ct':=(al.cell (p:=⟨ga,tn,none⟩) (World.block_lt_of_cell? _ _ ct)).trans ct
   have x0:(wr.alloc (.cells #[.int .i64 (tn:Int),.int .i64 (at_:Int),.pointer px,.bool e.self] 290)).cell? ⟨wr.heap.size,0,none⟩=some (.int .i64 (tn:Int)):=(kx.cell 0).trans rfl
   have x1:(wr.alloc (.cells #[.int .i64 (tn:Int),.int .i64 (at_:Int),.pointer px,.bool e.self] 290)).cell? ⟨wr.heap.size,1,none⟩=some (.int .i64 (at_:Int)):=(kx.cell 1).trans rfl
   have x2:(wr.alloc (.cells #[.int .i64 (tn:Int),.int .i64 (at_:Int),.pointer px,.bool e.self] 290)).cell? ⟨wr.heap.size,2,none⟩=some (.pointer px):=(kx.cell 2).trans rfl
   have x3:(wr.alloc (.cells #[.int .i64 (tn:Int),.int .i64 (at_:Int),.pointer px,.bool e.self] 290)).cell? ⟨wr.heap.size,3,none⟩=some (.bool e.self):=(kx.cell 3).trans rfl
   clear hset hset2 kx
   obtain⟨Xhsp,Xhe,Xsp,Xh1,XhM1,Xhc1,Xst1,Xhpa,Xhpt,Xhat_,Xhtn,Xhtl,XeAa,Xhna⟩:=HqZ14 hsp he sp h1 hM1 hc1 st1 hpa hpt hat_ htn htl eAa hna;obtain⟨XhcA,Xal,Xv3,XhA1⟩:=HqZ4 hcA al v3 hA1;clear hsp he sp h1 hM1 hc1 st1 hpa hpt hat_ htn htl eAa hna hcA al v3 hA1
   go_wp2_with fail
   refine wp_region_held_drew (S:=(fun W=>W.cell? ⟨M,10,none⟩=some (.slice (some ⟨ga,0,none⟩) na cA)/\W.cell? ⟨wr.heap.size,1,none⟩=some (.int .i64 (at_:Int))/\W.cell? ⟨ga,at_,none⟩=some (.pointer (some ⟨pa,0,none⟩)))) (by kernel_rfl) ?_ (fun hHeld=> ?_)
   ·exact⟨r10',x1,ca'⟩
   have bd:Below wr.heap.size wr (wr.alloc (.cells #[.int .i64 (tn:Int),.int .i64 (at_:Int),.pointer px,.bool e.self] 290)).drew:=Xal.out.drew
   have hX:wr.heap.size<(wr.alloc (.cells #[.int .i64 (tn:Int),.int .i64 (at_:Int),.pointer px,.bool e.self] 290)).drew.heap.size:=World.block_lt_of_cell? (wr.alloc (.cells #[.int .i64 (tn:Int),.int .i64 (at_:Int),.pointer px,.bool e.self] 290)) _ x0
   have y0:(wr.alloc (.cells #[.int .i64 (tn:Int),.int .i64 (at_:Int),.pointer px,.bool e.self] 290)).drew.cell? ⟨wr.heap.size,0,none⟩=some (.int .i64 (tn:Int)):=x0
   have y1:(wr.alloc (.cells #[.int .i64 (tn:Int),.int .i64 (at_:Int),.pointer px,.bool e.self] 290)).drew.cell? ⟨wr.heap.size,1,none⟩=some (.int .i64 (at_:Int)):=x1
   have y2:(wr.alloc (.cells #[.int .i64 (tn:Int),.int .i64 (at_:Int),.pointer px,.bool e.self] 290)).drew.cell? ⟨wr.heap.size,2,none⟩=some (.pointer px):=x2
   have y3:(wr.alloc (.cells #[.int .i64 (tn:Int),.int .i64 (at_:Int),.pointer px,.bool e.self] 290)).drew.cell? ⟨wr.heap.size,3,none⟩=some (.bool e.self):=x3
   have s10:(wr.alloc (.cells #[.int .i64 (tn:Int),.int .i64 (at_:Int),.pointer px,.bool e.self] 290)).drew.cell? ⟨M,10,none⟩=some (.slice (some ⟨ga,0,none⟩) na cA):=r10'
   have sca:(wr.alloc (.cells #[.int .i64 (tn:Int),.int .i64 (at_:Int),.pointer px,.bool e.self] 290)).drew.cell? ⟨ga,at_,none⟩=some (.pointer (some ⟨pa,0,none⟩)):=ca'
   have sct:(wr.alloc (.cells #[.int .i64 (tn:Int),.int .i64 (at_:Int),.pointer px,.bool e.self] 290)).drew.cell? ⟨ga,tn,none⟩=some (.pointer (some ⟨pt,0,none⟩)):=ct'
   clear x0 x1 x2 x3 r10' ca' ct' r10 ca ct c0 c1 c2 c3
   generalize (wr.alloc (.cells #[.int .i64 (tn:Int),.int .i64 (at_:Int),.pointer px,.bool e.self] 290)).drew=wd at *
   obtain⟨X,hXe⟩: ∃x,x=wr.heap.size:=⟨_,rfl⟩
   have h2:=Xh1.out.below bd 2
   have st2:StL (fun j=>j=0\/j=8) V q.ow wd (ext wr q1.ow 2):=Xst1.out.trans (StL.new _ bd _ _)
   have hsetA:=h2.a.set at_ Xv3.out
   have hsetT:=h2.a.set tn Xhtl.out
   have hXf: ∀k,q1.foot tn k->k≠X:=fun k hk e=>by have:=(Xh1.out.a.set tn Xhtl.out).lt k hk;omega
   have hgf: ∀k,q1.foot tn k->k≠ga:=fun k hk e=>by
    have:=(Xh1.out.a.tag tn k Xhtl.out hk).2
    rw [XeAa.out]at this
    exact this (by rw [e];rfl)
   have hMf: ∀k,q1.foot tn k->k≠M:=fun k hk e=>by
    have h1:=(Xh1.out.a.tag tn k Xhtl.out hk).1
    have h2:=Xh1.out.tm
    rw [XhM1.out]at h2
    rw [e,h2]at h1
    omega
   have cn:=set_next hsetA 0 (by decide)
   rw [show Value.pointer (some ⟨(({q1 with ow:=ext wr q1.ow 2}:LQ).ps at_),0,none⟩)= .pointer (some ⟨pa,0,none⟩)from by rw [Xhpa.out,Xhat_.out]]at cn
   have S4:=And.intro s10 (And.intro y1 sca)
   clear Xal
   obtain⟨Xbd,XhX,Xh2,Xst2,XhsetA,XhsetT,XhXf,Xhgf,XhMf,Xcn,XS4,XhXe⟩:=HqZ12 bd hX h2 st2 hsetA hsetT hXf hgf hMf cn S4 hXe;clear bd hX h2 st2 hsetA hsetT hXf hgf hMf cn S4 hXe
   refine tZ 0 ?_;try simp only [Act.put,sT,s0,s1]
   refine tZ 1 ?_;try simp only [Act.put,sT,s0,s1]
   refine tZ 2 ?_;try simp only [Act.put,sT,s0,s1]
   refine tZ 3 ?_;try simp only [Act.put,sT,s0,s1]
   refine tZ 4 ?_;try simp only [Act.put,sT,s0,s1]
   refine tZ 5 ?_;try simp only [Act.put,sT,s0,s1]
   refine tZ 6 ?_;try simp only [Act.put,sT,s0,s1]
   refine tZ 7 ?_;try simp only [Act.put,sT,s0,s1]
   refine wpAnyH_ready (rs:=[8]) (by kernel_rfl) (by simp) ?_
   refine AllReadyH.cons (o:= ?_) ?_ (fun K hK=> ?_) AllReadyH.nil;rotate_left 1;(focus((try simp only [gT,gs,gz]);try rfl))
   go_simp
   go_at_call 230
   refine Xcn.out.mono ?_
   rintro e' w' ⟨rfl,rfl⟩
   clear hHeld
   refine hK.out _ _ ?_ (fun hHeld=> ?_)
   ·exact XS4.out
   clear hK K
   try simp only [Act.put,sT,s0,s1]
   refine tZ 9 ?_;try simp only [Act.put,sT,s0,s1]
   refine wpAnyH_done (by kernel_rfl) ?_ _
   by_cases hz:nextOf (F' at_) (d.T+1) 0<0
   ·have hany:anyB (d.T+1) (F' e.at_)=false:=by unfold anyB;rw [<-Xhat_.out,decide_eq_true hz];rfl
    have sp2:=Xsp.out.skip Xhe.out hany
    clear y0 y1 y2 y3 s10 sca sct Xcn XS4 hHeld
    obtain⟨Xsp2,Xhany⟩:=HqZ2 sp2 hany;clear sp2 hany
    go_wp2_with fail
    go_roundw
    case rel=>exact⟨b,k+1,F',_,by omega,rfl,by go_num,Xsp2.out,Xh2.out,XhM1.out,XhA1.out,Xhc1.out,Xst2.out⟩
    case measure=>simp [intOf];omega
   ·have hany:anyB (d.T+1) (F' e.at_)=true:=by unfold anyB;rw [<-Xhat_.out,decide_eq_false hz];rfl
    clear Xcn XS4 hHeld
    have Xhany:=hide hany;clear hany
    go_wp2_with fail
    have z0:wd.drew.cell? ⟨wr.heap.size,0,none⟩=some (.int .i64 (tn:Int)):=y0
    have z1:wd.drew.cell? ⟨wr.heap.size,1,none⟩=some (.int .i64 (at_:Int)):=y1
    have z2:wd.drew.cell? ⟨wr.heap.size,2,none⟩=some (.pointer px):=y2
    have z3:wd.drew.cell? ⟨wr.heap.size,3,none⟩=some (.bool e.self):=y3
    have p10:wd.drew.cell? ⟨M,10,none⟩=some (.slice (some ⟨ga,0,none⟩) na cA):=s10
    have pca:wd.drew.cell? ⟨ga,at_,none⟩=some (.pointer (some ⟨pa,0,none⟩)):=sca
    have pct:wd.drew.cell? ⟨ga,tn,none⟩=some (.pointer (some ⟨pt,0,none⟩)):=sct
    refine wp_region_held_drew (S:=(fun W=>W.cell? ⟨M,10,none⟩=some (.slice (some ⟨ga,0,none⟩) na cA)/\W.cell? ⟨wr.heap.size,0,none⟩=some (.int .i64 (tn:Int))/\W.cell? ⟨ga,tn,none⟩=some (.pointer (some ⟨pt,0,none⟩))/\W.cell? ⟨wr.heap.size,2,none⟩=some (.pointer px))) (by kernel_rfl) ?_ (fun hHeld=> ?_)
    ·exact⟨p10,z0,pct,z2⟩
    have bd2:Below wd.heap.size wd wd.drew:=(Below.refl _ _).drew
    have h3:=Xh2.out.below bd2 2
    have st3:StL (fun j=>j=0\/j=8) V q.ow wd.drew (ext wd (ext wr q1.ow 2) 2):=Xst2.out.trans (StL.new _ bd2 _ _)
    have hsT:=h3.a.set tn Xhtl.out
    have hs3:=(Xhsp.out.touch (Touch.of_size Xbd.out (fun _=>False)) (fun _ _ h=>h)).touch (Touch.of_size bd2 (fun _=>False)) (fun _ _ h=>h)
    have hfh:=Xhsp.out.high
    have cor:=setp_or hsT hs3
    rw [show PtrV (({({q1 with ow:=ext wr q1.ow 2}:LQ)with ow:=ext wd (ext wr q1.ow 2) 2}:LQ).ps tn)= .pointer (some ⟨pt,0,none⟩)from by rw [Xhpt.out]]at cor
    obtain⟨f1,hf1⟩: ∃f:Nat->Bool,f=fun t=>F' tn t||e.f t:=⟨_,rfl⟩
    rw [<-hf1]at cor
    have hf1':(fun t=>F' e.tq9.toNat t||e.f t)=f1:=by rw [Xhtn.out,hf1]
    clear y0 y1 y2 y3 s10 sca sct Xh2 Xst2 XhsetA XhsetT hsT hs3 Xhsp
    obtain⟨Xbd2,Xh3,Xst3,Xhfh,Xcor,Xhf1,Xhf1'⟩:=HqZ7 bd2 h3 st3 hfh cor hf1 hf1';clear bd2 h3 st3 hfh cor hf1 hf1'
    have XbX:=hide (Nat.lt_of_lt_of_le XhX.out Xbd2.out.size)
    generalize wd.drew=we at *
    refine tZ 0 ?_;try simp only [Act.put,sT,s0,s1]
    refine tZ 1 ?_;try simp only [Act.put,sT,s0,s1]
    refine tZ 2 ?_;try simp only [Act.put,sT,s0,s1]
    refine tZ 3 ?_;try simp only [Act.put,sT,s0,s1]
    refine tZ 4 ?_;try simp only [Act.put,sT,s0,s1]
    refine tZ 5 ?_;try simp only [Act.put,sT,s0,s1]
    refine tZ 6 ?_;try simp only [Act.put,sT,s0,s1]
    refine tZ 7 ?_;try simp only [Act.put,sT,s0,s1]
    refine tZ 8 ?_;try simp only [Act.put,sT,s0,s1]
    refine tZ 9 ?_;try simp only [Act.put,sT,s0,s1]
    refine wpAnyH_ready (rs:=[10]) (by kernel_rfl) (by simp) ?_
    refine AllReadyH.cons (o:= ?_) ?_ (fun K hK=> ?_) AllReadyH.nil;rotate_left 1;(focus((try simp only [gT,gs,gz]);try rfl))
    go_simp
    go_at_call 232
    refine Xcor.out.mono ?_
    rintro e' w5 ⟨rfl,hs5,tt5⟩
    have nX: ¬q1.foot tn wr.heap.size:=fun h=>XhXf.out _ h XhXe.out.symm
    have nG: ¬q1.foot tn ga:=fun h=>Xhgf.out _ h rfl
    have nM: ¬q1.foot tn M:=fun h=>XhMf.out _ h rfl
    have tq:Touch (fun b=>q1.foot tn b) we w5:=tt5
    have m0:=tq.cell z0 nX
    have m1:=tq.cell z1 nX
    have m2:=tq.cell z2 nX
    have m3:=tq.cell z3 nX
    have m10:=tq.cell p10 nM
    have mca:=tq.cell pca nG
    have mct:=tq.cell pct nG
    have S5:=And.intro m10 (And.intro m0 (And.intro mct m2))
    obtain⟨fam5,sf5⟩:=Xh3.out.a.put Xhtl.out hs5 tt5
    have h5:=Xh3.out.putF fam5 sf5
    have st5:=Xst3.out.trans (StL.mono (J':=fun j=>j=0\/j=8) sf5 (fun j e=> .inr e))
    obtain⟨q5,hq5⟩: ∃x:LQ,x={({({q1 with ow:=ext wr q1.ow 2}:LQ)with ow:=ext wd (ext wr q1.ow 2) 2}:LQ)with ow:=ext we (ext wd (ext wr q1.ow 2) 2) 8}:=⟨_,rfl⟩
    have h5:MK w5 q5 d {y with F:=setF F' tn f1}:=by rw [hq5];exact h5
    have st5:StL (fun j=>j=0\/j=8) V q.ow w5 q5.ow:=by rw [hq5];exact st5
    have hM5:q5.M=M:=by rw [hq5];exact XhM1.out
    have hA5:q5.Ae=some ⟨ge,0,none⟩:=by rw [hq5];exact XhA1.out
    have hc5:q5.ce=cE:=by rw [hq5];exact Xhc1.out
    have hps5:q5.ps=q1.ps:=by rw [hq5]
    have hfo5:q5.foot=q1.foot:=by rw [hq5]
    clear z0 z1 z2 z3 p10 pca pct tt5 tq hs5 fam5 sf5 hq5 Xh3 Xst3 Xcor hHeld nX nG nM
    obtain⟨XS5,Xh5,Xst5,XhM5,XhA5,Xhc5,Xhps5,Xhfo5⟩:=HqZ8 S5 h5 st5 hM5 hA5 hc5 hps5 hfo5;clear S5 h5 st5 hM5 hA5 hc5 hps5 hfo5
    refine hK.out _ _ ?_ (fun hHeld=> ?_)
    ·exact XS5.out
    clear hK K
    try simp only [Act.put,sT,s0,s1]
    obtain⟨r1,hr1⟩: ∃r,r=moreB (d.T+1) (F' tn) f1:=⟨_,rfl⟩
    rw [<-hr1]
    obtain⟨F1,hF1⟩: ∃F1,F1=setF F' tn f1:=⟨_,rfl⟩
    rw [<-hF1]at Xh5
    obtain⟨Xhr1,XhF1⟩:=HqZ2 hr1 hF1;clear hr1 hF1
    cases r1 with
    |true=>
     refine tZ 11 ?_;try simp only [Act.put,sT,s0,s1]
     refine tk (i:=12) (oi:= ?_) (v:=undef) ?_ (by kernel_rfl) ?_ (Or.inr ⟨?_,rfl⟩) (by assumption) ?_;rotate_left 1;(focus((try simp only [gT,gs,gz]);try rfl));exact fun _ _ _ h=>h;rfl;try simp only [Act.put,sT,s0,s1]
     refine tZ 13 ?_;try simp only [Act.put,sT,s0,s1]
     refine tZ 14 ?_;try simp only [Act.put,sT,s0,s1]
     refine wpAnyH_done (by kernel_rfl) ?_ _
     cases hself:e.self with
     |false=>
      have sp5:=Xsp.out.done1 Xhe.out Xhany.out (by rw [Xhtn.out];exact Xhtl.out) Xhfh.out hself
      rw [Xhf1'.out,Xhtn.out,<-Xhr1.out,<-XhF1.out]at sp5
      rw [hself]at m3
      clear m0 m1 m2 m10 mca mct hHeld
      have Xsp5:=hide sp5;clear sp5
      go_wp2_with fail
      go_roundw
      case rel=>exact⟨true,k+1,F1,q5,by omega,rfl,by go_num,(by simpa using Xsp5.out),Xh5.out,XhM5.out,XhA5.out,Xhc5.out,Xst5.out⟩
      case measure=>simp [intOf];omega
     |true=>
      rw [hself]at m3
      clear hHeld
      go_wp2_with fail
      have z0:w5.drew.cell? ⟨wr.heap.size,0,none⟩=some (.int .i64 (tn:Int)):=m0
      have z1:w5.drew.cell? ⟨wr.heap.size,1,none⟩=some (.int .i64 (at_:Int)):=m1
      have p10:w5.drew.cell? ⟨M,10,none⟩=some (.slice (some ⟨ga,0,none⟩) na cA):=m10
      have pca:w5.drew.cell? ⟨ga,at_,none⟩=some (.pointer (some ⟨pa,0,none⟩)):=mca
      have pct:w5.drew.cell? ⟨ga,tn,none⟩=some (.pointer (some ⟨pt,0,none⟩)):=mct
      refine wp_region_held_drew (S:=(fun W=>W.cell? ⟨M,10,none⟩=some (.slice (some ⟨ga,0,none⟩) na cA)/\W.cell? ⟨wr.heap.size,0,none⟩=some (.int .i64 (tn:Int))/\W.cell? ⟨wr.heap.size,1,none⟩=some (.int .i64 (at_:Int))/\W.cell? ⟨ga,tn,none⟩=some (.pointer (some ⟨pt,0,none⟩))/\W.cell? ⟨ga,at_,none⟩=some (.pointer (some ⟨pa,0,none⟩)))) (by kernel_rfl) ?_ (fun hHeld=> ?_)
      ·exact⟨p10,z0,z1,pct,pca⟩
      have bd5:Below w5.heap.size w5 w5.drew:=(Below.refl _ _).drew
      have h6:=Xh5.out.below bd5 2
      have st6:StL (fun j=>j=0\/j=8) V q.ow w5.drew (ext w5 q5.ow 2):=Xst5.out.trans (StL.new _ bd5 _ _)
      have cor:=set_or' (h6.a.set tn Xhtl.out) (h6.a.set at_ Xv3.out)
      rw [show PtrV (({q5 with ow:=ext w5 q5.ow 2}:LQ).ps tn)= .pointer (some ⟨pt,0,none⟩)from by rw [Xhpt.out,<-Xhps5.out],show PtrV (({q5 with ow:=ext w5 q5.ow 2}:LQ).ps at_)= .pointer (some ⟨pa,0,none⟩)from by rw [Xhpa.out,Xhat_.out,<-Xhps5.out]]at cor
      obtain⟨f2,hf2⟩: ∃f:Nat->Bool,f=fun t=>F1 tn t||F1 at_ t:=⟨_,rfl⟩
      have cor:Calls Tryz.prog 232 #[.pointer (some ⟨pt,0,none⟩),.pointer (some ⟨pa,0,none⟩)] w5.drew (OrPost w5.drew (({q5 with ow:=ext w5 q5.ow 2}:LQ).ps tn) (({q5 with ow:=ext w5 q5.ow 2}:LQ).foot tn) (d.T+1) f2 (moreB (d.T+1) (F1 tn) f2)):=by rw [hf2];exact cor
      clear m0 m1 m2 m3 m10 mca mct XS5
      obtain⟨Xbd5,Xh6,Xst6,Xcor,Xhf2⟩:=HqZ5 bd5 h6 st6 cor hf2;clear bd5 h6 st6 cor hf2
      generalize w5.drew=wg at *
      refine tZ 0 ?_;try simp only [Act.put,sT,s0,s1]
      refine tZ 1 ?_;try simp only [Act.put,sT,s0,s1]
      refine tZ 2 ?_;try simp only [Act.put,sT,s0,s1]
      refine tZ 3 ?_;try simp only [Act.put,sT,s0,s1]
      refine tZ 4 ?_;try simp only [Act.put,sT,s0,s1]
      refine tZ 5 ?_;try simp only [Act.put,sT,s0,s1]
      refine tZ 6 ?_;try simp only [Act.put,sT,s0,s1]
      refine tZ 7 ?_;try simp only [Act.put,sT,s0,s1]
      refine tZ 8 ?_;try simp only [Act.put,sT,s0,s1]
      refine tZ 9 ?_;try simp only [Act.put,sT,s0,s1]
      refine tZ 10 ?_;try simp only [Act.put,sT,s0,s1]
      refine tZ 11 ?_;try simp only [Act.put,sT,s0,s1]
      refine tZ 12 ?_;try simp only [Act.put,sT,s0,s1]
      refine tZ 13 ?_;try simp only [Act.put,sT,s0,s1]
      refine tZ 14 ?_;try simp only [Act.put,sT,s0,s1]
      refine tZ 15 ?_;try simp only [Act.put,sT,s0,s1]
      refine wpAnyH_ready (rs:=[16]) (by kernel_rfl) (by simp) ?_
      refine AllReadyH.cons (o:= ?_) ?_ (fun K hK=> ?_) AllReadyH.nil;rotate_left 1;(focus((try simp only [gT,gs,gz]);try rfl))
      go_simp
      go_at_call 232
      refine Xcor.out.mono ?_
      rintro e' w7 ⟨rfl,hs7,tt7⟩
      have nX: ¬q1.foot tn wr.heap.size:=fun h=>XhXf.out _ h XhXe.out.symm
      have nG: ¬q1.foot tn ga:=fun h=>Xhgf.out _ h rfl
      have nM: ¬q1.foot tn M:=fun h=>XhMf.out _ h rfl
      have tq:Touch (fun b=>q1.foot tn b) wg w7:=by rw [<-Xhfo5.out];exact tt7
      have S7:=And.intro (tq.cell p10 nM) (And.intro (tq.cell z0 nX) (And.intro (tq.cell z1 nX) (And.intro (tq.cell pct nG) (tq.cell pca nG))))
      obtain⟨fam7,sf7⟩:=Xh6.out.a.put Xhtl.out hs7 tt7
      have h7:=Xh6.out.putF fam7 sf7
      have st7:=Xst6.out.trans (StL.mono (J':=fun j=>j=0\/j=8) sf7 (fun j e=> .inr e))
      have sp7:=Xsp.out.done2 Xhe.out Xhany.out (by rw [Xhtn.out];exact Xhtl.out) (by rw [<-Xhat_.out];exact Xv3.out) Xhfh.out hself (F1:=F1) (b1:=(true||b)) (by rw [Xhf1'.out,Xhtn.out];exact XhF1.out) (by rw [Xhf1'.out,Xhtn.out,<-Xhr1.out])
      rw [Xhtn.out,<-Xhat_.out,<-Xhf2.out]at sp7
      obtain⟨r2,hr2⟩: ∃r,r=moreB (d.T+1) (F1 tn) f2:=⟨_,rfl⟩
      rw [<-hr2]at sp7
      rw [<-hr2]
      clear z0 z1 p10 pca pct tt7 tq hs7 fam7 sf7 Xh6 Xst6 Xcor hHeld nX nG nM hr2
      obtain⟨XS7,Xh7,Xst7,Xsp7⟩:=HqZ4 S7 h7 st7 sp7;clear S7 h7 st7 sp7
      refine hK.out _ _ ?_ (fun hHeld=> ?_)
      ·exact XS7.out
      clear hK K
      try simp only [Act.put,sT,s0,s1]
      cases r2 with
      |true=>
       refine tZ 17 ?_;try simp only [Act.put,sT,s0,s1]
       refine tk (i:=18) (oi:= ?_) (v:=undef) ?_ (by kernel_rfl) ?_ (Or.inr ⟨?_,rfl⟩) (by assumption) ?_;rotate_left 1;(focus((try simp only [gT,gs,gz]);try rfl));exact fun _ _ _ h=>h;rfl;try simp only [Act.put,sT,s0,s1]
       refine tZ 19 ?_;try simp only [Act.put,sT,s0,s1]
       refine tZ 20 ?_;try simp only [Act.put,sT,s0,s1]
       refine wpAnyH_done (by kernel_rfl) ?_ _
       clear hHeld
       go_wp2_with fail
       go_roundw
       case rel=>exact⟨true,k+1,_,_,by omega,rfl,by go_num,(by simpa using Xsp7.out),Xh7.out,XhM5.out,XhA5.out,Xhc5.out,Xst7.out⟩
       case measure=>simp [intOf];omega
      |false=>
       refine tZ 17 ?_;try simp only [Act.put,sT,s0,s1]
       refine tZ 18 ?_;try simp only [Act.put,sT,s0,s1]
       refine tZ 19 ?_;try simp only [Act.put,sT,s0,s1]
       refine tZ 20 ?_;try simp only [Act.put,sT,s0,s1]
       refine wpAnyH_done (by kernel_rfl) ?_ _
       clear hHeld
       go_wp2_with fail
       go_roundw
       case rel=>exact⟨true,k+1,_,_,by omega,rfl,by go_num,(by simpa using Xsp7.out),Xh7.out,XhM5.out,XhA5.out,Xhc5.out,Xst7.out⟩
       case measure=>simp [intOf];omega
    |false=>
     refine tZ 11 ?_;try simp only [Act.put,sT,s0,s1]
     refine tZ 12 ?_;try simp only [Act.put,sT,s0,s1]
     refine tZ 13 ?_;try simp only [Act.put,sT,s0,s1]
     refine tZ 14 ?_;try simp only [Act.put,sT,s0,s1]
     refine wpAnyH_done (by kernel_rfl) ?_ _
     cases hself:e.self with
     |false=>
      have sp5:=Xsp.out.done1 Xhe.out Xhany.out (by rw [Xhtn.out];exact Xhtl.out) Xhfh.out hself
      rw [Xhf1'.out,Xhtn.out,<-Xhr1.out,<-XhF1.out]at sp5
      rw [hself]at m3
      clear m0 m1 m2 m10 mca mct hHeld
      have Xsp5:=hide sp5;clear sp5
      go_wp2_with fail
      go_roundw
      case rel=>exact⟨b,k+1,F1,q5,by omega,rfl,by go_num,(by simpa using Xsp5.out),Xh5.out,XhM5.out,XhA5.out,Xhc5.out,Xst5.out⟩
      case measure=>simp [intOf];omega
     |true=>
      rw [hself]at m3
      clear hHeld
      go_wp2_with fail
      have z0:w5.drew.cell? ⟨wr.heap.size,0,none⟩=some (.int .i64 (tn:Int)):=m0
      have z1:w5.drew.cell? ⟨wr.heap.size,1,none⟩=some (.int .i64 (at_:Int)):=m1
      have p10:w5.drew.cell? ⟨M,10,none⟩=some (.slice (some ⟨ga,0,none⟩) na cA):=m10
      have pca:w5.drew.cell? ⟨ga,at_,none⟩=some (.pointer (some ⟨pa,0,none⟩)):=mca
      have pct:w5.drew.cell? ⟨ga,tn,none⟩=some (.pointer (some ⟨pt,0,none⟩)):=mct
      refine wp_region_held_drew (S:=(fun W=>W.cell? ⟨M,10,none⟩=some (.slice (some ⟨ga,0,none⟩) na cA)/\W.cell? ⟨wr.heap.size,0,none⟩=some (.int .i64 (tn:Int))/\W.cell? ⟨wr.heap.size,1,none⟩=some (.int .i64 (at_:Int))/\W.cell? ⟨ga,tn,none⟩=some (.pointer (some ⟨pt,0,none⟩))/\W.cell? ⟨ga,at_,none⟩=some (.pointer (some ⟨pa,0,none⟩)))) (by kernel_rfl) ?_ (fun hHeld=> ?_)
      ·exact⟨p10,z0,z1,pct,pca⟩
      have bd5:Below w5.heap.size w5 w5.drew:=(Below.refl _ _).drew
      have h6:=Xh5.out.below bd5 2
      have st6:StL (fun j=>j=0\/j=8) V q.ow w5.drew (ext w5 q5.ow 2):=Xst5.out.trans (StL.new _ bd5 _ _)
      have cor:=set_or' (h6.a.set tn Xhtl.out) (h6.a.set at_ Xv3.out)
      rw [show PtrV (({q5 with ow:=ext w5 q5.ow 2}:LQ).ps tn)= .pointer (some ⟨pt,0,none⟩)from by rw [Xhpt.out,<-Xhps5.out],show PtrV (({q5 with ow:=ext w5 q5.ow 2}:LQ).ps at_)= .pointer (some ⟨pa,0,none⟩)from by rw [Xhpa.out,Xhat_.out,<-Xhps5.out]]at cor
      obtain⟨f2,hf2⟩: ∃f:Nat->Bool,f=fun t=>F1 tn t||F1 at_ t:=⟨_,rfl⟩
      have cor:Calls Tryz.prog 232 #[.pointer (some ⟨pt,0,none⟩),.pointer (some ⟨pa,0,none⟩)] w5.drew (OrPost w5.drew (({q5 with ow:=ext w5 q5.ow 2}:LQ).ps tn) (({q5 with ow:=ext w5 q5.ow 2}:LQ).foot tn) (d.T+1) f2 (moreB (d.T+1) (F1 tn) f2)):=by rw [hf2];exact cor
      clear m0 m1 m2 m3 m10 mca mct XS5
      obtain⟨Xbd5,Xh6,Xst6,Xcor,Xhf2⟩:=HqZ5 bd5 h6 st6 cor hf2;clear bd5 h6 st6 cor hf2
      generalize w5.drew=wg at *
      refine tZ 0 ?_;try simp only [Act.put,sT,s0,s1]
      refine tZ 1 ?_;try simp only [Act.put,sT,s0,s1]
      refine tZ 2 ?_;try simp only [Act.put,sT,s0,s1]
      refine tZ 3 ?_;try simp only [Act.put,sT,s0,s1]
      refine tZ 4 ?_;try simp only [Act.put,sT,s0,s1]
      refine tZ 5 ?_;try simp only [Act.put,sT,s0,s1]
      refine tZ 6 ?_;try simp only [Act.put,sT,s0,s1]
      refine tZ 7 ?_;try simp only [Act.put,sT,s0,s1]
      refine tZ 8 ?_;try simp only [Act.put,sT,s0,s1]
      refine tZ 9 ?_;try simp only [Act.put,sT,s0,s1]
      refine tZ 10 ?_;try simp only [Act.put,sT,s0,s1]
      refine tZ 11 ?_;try simp only [Act.put,sT,s0,s1]
      refine tZ 12 ?_;try simp only [Act.put,sT,s0,s1]
      refine tZ 13 ?_;try simp only [Act.put,sT,s0,s1]
      refine tZ 14 ?_;try simp only [Act.put,sT,s0,s1]
      refine tZ 15 ?_;try simp only [Act.put,sT,s0,s1]
      refine wpAnyH_ready (rs:=[16]) (by kernel_rfl) (by simp) ?_
      refine AllReadyH.cons (o:= ?_) ?_ (fun K hK=> ?_) AllReadyH.nil;rotate_left 1;(focus((try simp only [gT,gs,gz]);try rfl))
      go_simp
      go_at_call 232
      refine Xcor.out.mono ?_
      rintro e' w7 ⟨rfl,hs7,tt7⟩
      have nX: ¬q1.foot tn wr.heap.size:=fun h=>XhXf.out _ h XhXe.out.symm
      have nG: ¬q1.foot tn ga:=fun h=>Xhgf.out _ h rfl
      have nM: ¬q1.foot tn M:=fun h=>XhMf.out _ h rfl
      have tq:Touch (fun b=>q1.foot tn b) wg w7:=by rw [<-Xhfo5.out];exact tt7
      have S7:=And.intro (tq.cell p10 nM) (And.intro (tq.cell z0 nX) (And.intro (tq.cell z1 nX) (And.intro (tq.cell pct nG) (tq.cell pca nG))))
      obtain⟨fam7,sf7⟩:=Xh6.out.a.put Xhtl.out hs7 tt7
      have h7:=Xh6.out.putF fam7 sf7
      have st7:=Xst6.out.trans (StL.mono (J':=fun j=>j=0\/j=8) sf7 (fun j e=> .inr e))
      have sp7:=Xsp.out.done2 Xhe.out Xhany.out (by rw [Xhtn.out];exact Xhtl.out) (by rw [<-Xhat_.out];exact Xv3.out) Xhfh.out hself (F1:=F1) (b1:=(false||b)) (by rw [Xhf1'.out,Xhtn.out];exact XhF1.out) (by rw [Xhf1'.out,Xhtn.out,<-Xhr1.out])
      rw [Xhtn.out,<-Xhat_.out,<-Xhf2.out]at sp7
      obtain⟨r2,hr2⟩: ∃r,r=moreB (d.T+1) (F1 tn) f2:=⟨_,rfl⟩
      rw [<-hr2]at sp7
      rw [<-hr2]
      clear z0 z1 p10 pca pct tt7 tq hs7 fam7 sf7 Xh6 Xst6 Xcor hHeld nX nG nM hr2
      obtain⟨XS7,Xh7,Xst7,Xsp7⟩:=HqZ4 S7 h7 st7 sp7;clear S7 h7 st7 sp7
      refine hK.out _ _ ?_ (fun hHeld=> ?_)
      ·exact XS7.out
      clear hK K
      try simp only [Act.put,sT,s0,s1]
      cases r2 with
      |true=>
       refine tZ 17 ?_;try simp only [Act.put,sT,s0,s1]
       refine tk (i:=18) (oi:= ?_) (v:=undef) ?_ (by kernel_rfl) ?_ (Or.inr ⟨?_,rfl⟩) (by assumption) ?_;rotate_left 1;(focus((try simp only [gT,gs,gz]);try rfl));exact fun _ _ _ h=>h;rfl;try simp only [Act.put,sT,s0,s1]
       refine tZ 19 ?_;try simp only [Act.put,sT,s0,s1]
       refine tZ 20 ?_;try simp only [Act.put,sT,s0,s1]
       refine wpAnyH_done (by kernel_rfl) ?_ _
       clear hHeld
       go_wp2_with fail
       go_roundw
       case rel=>exact⟨true,k+1,_,_,by omega,rfl,by go_num,(by simpa using Xsp7.out),Xh7.out,XhM5.out,XhA5.out,Xhc5.out,Xst7.out⟩
       case measure=>simp [intOf];omega
      |false=>
       refine tZ 17 ?_;try simp only [Act.put,sT,s0,s1]
       refine tZ 18 ?_;try simp only [Act.put,sT,s0,s1]
       refine tZ 19 ?_;try simp only [Act.put,sT,s0,s1]
       refine tZ 20 ?_;try simp only [Act.put,sT,s0,s1]
       refine wpAnyH_done (by kernel_rfl) ?_ _
       clear hHeld
       go_wp2_with fail
       go_roundw
       case rel=>exact⟨b,k+1,_,_,by omega,rfl,by go_num,(by simpa using Xsp7.out),Xh7.out,XhM5.out,XhA5.out,Xhc5.out,Xst7.out⟩
       case measure=>simp [intOf];omega
  ·have hlt': ¬(k:Int)<(nE:Int):=by omega
   cases b with
   |true=>
    have hlt:=sp.less rfl
    rw [<-Xhκ.out]at hlt
    have hJ: ∃κ',κ'<κ/\unsetF F' (d.T+1) y.na=κ':=⟨_,hlt,rfl⟩
    obtain⟨κ',hκ1,hκ2⟩:=hJ
    have hle2: ∀p t,y.F p t=true->F' p t=true:=fun p t hh=>sp.le p t (Xhle.out p t hh)
    obtain⟨Xsp,Xh1,XhM1,Xst1,Xhκ1,Xhκ2,Xhle2⟩:=HqZ7 sp h1 hM1 st1 hκ1 hκ2 hle2;clear sp h1 hM1 st1 hκ1 hκ2 hle2
    go_wp2_with fail
    go_step3
    refine⟨rfl,κ',Xhκ1.out,F',q1,_,_,_,_,_,_,_,_,_,_,_,_,_,_,_,_,_,_,_,_,_,_,_,_,_,_,_,_,_,_,_,_,_,_,_,_,_,_,_,_,_,_,_,_,_,_,_,_,_,_,_,_,_,_,_,_,_,_,_,_,_,rfl,Xh1.out,XhM1.out,Xst1.out,Xhle2.out,Xsp.out.snd,Xsp.out.hi,Xhκ2.out.symm⟩
   |false=>
    have hfin:=sp.end_ (by rw [<-XhnE.out];omega) Xhle.out
    obtain⟨e0,-⟩:=sp.same rfl
    obtain⟨Xhfin,Xsp,Xh1,XhM1,Xst1⟩:=HqZ5 hfin sp h1 hM1 st1;clear hfin sp h1 hM1 st1
    go_wp2_with fail
    simp only [Exit.jump]
    go_end0
    exact⟨rfl,F',⟨q1,Xh1.out,XhM1.out.trans XhM.out,Xst1.out⟩,Xhfin.out⟩
end
end Go.Proofs.YthlbjgabhpdbfaaGreat

/- Lookaheads: all goes on, until nothing changes. -/
import Derived.Test.YthlbjgabhpdbfaaGreatBLook5
import Derived.Scope
import Derived.WalkMore
import Derived.ScopeJumps
set_option linter.unusedVariables false
set_option linter.unusedSimpArgs false
set_option maxRecDepth 100000
set_option maxHeartbeats 8000000
namespace Go.Proofs.YthlbjgabhpdbfaaGreat
open Go.Proofs.Tryz
open Go.RowKit
attribute [local irreducible] wpStill aB aO
theorem uV {p:Nat->Prop} (h: ∃b,p b): ∃b,p b/\ ∀a,p a->b<=a:=by
 obtain⟨b,f⟩:=h
 induction b using Nat.strongRecOn with
 |ind b g=>
  by_cases e: ∃a,a<b/\p a
  ·obtain⟨a,hm,c⟩:=e;exact g a hm c
  ·exact⟨b,f,λa c=>Classical.byContradiction λi=>e ⟨a,by omega,c⟩⟩
open Classical in
noncomputable def pm (p:Nat->Prop):Nat:=if h: ∃n,p n then(uV h).choose else 0
theorem jV {p:Nat->Prop} (h: ∃b,p b):p (pm p)/\ ∀a,p a->pm p<=a:=by
 unfold pm;rw [dif_pos h];exact(uV h).choose_spec
theorem tM {P:Program} {a:Act} {w:World} {Q:Exit->Act->World->Prop} {r:Code} (l:Nat) (g:Nat->Act->World->Prop) {κ0:Nat} (o:g κ0 a w)
  (m: ∀f a w,g f a w->r.wp P (Exit.jump l (λi k=> ∃c,c<f/\g c i k) Q) a w):(Code.scope ((Code.label l).seq r)).wp P Q a w:=by
 refine wp_scope_jumps (rest:=Code.skip.seq r) l (λa w=> ∃f,g f a w) (λa w=>pm (λf=>g f a w)) (by simp [findLabel]) ?_ ?_
 ·refine wp_seq (wp_label ?_);show r.wp P _ a w;refine wp_mono (m κ0 a w o) λe i k b=> ?_
  cases e with
  |goto u=>exact⟨b.1,b.2.imp λc h=>h.2⟩
  |normal=>exact b
  |exit id=>exact b
  |ret=>exact b
  |panic n=>exact b
  |outgrown=>exact b
 ·intro a w s;obtain⟨p,v⟩:=jV s;refine wp_seq (wp_skip ?_);show r.wp P _ a w;refine wp_mono (m _ a w p) λe i k b=> ?_
  cases e with
  |goto u=>
   obtain⟨e,c,t,j⟩:=b;exact⟨e,⟨c,j⟩,Nat.lt_of_le_of_lt ((jV ⟨c,j⟩).2 c j) t⟩
  |normal=>exact b
  |exit id=>exact b
  |ret=>exact b
  |panic n=>exact b
  |outgrown=>exact b
theorem dx.ptr {V:World} {F:Nat->Prop} {m:Nat} {p:Value} {f:Nat->Bool} (h:dx V F m p f): ∃a,p= .pointer a:=by
 rcases h with⟨rfl,-⟩|⟨c,b,rfl,-⟩
 ·exact⟨_,rfl⟩
 ·exact⟨_,rfl⟩
theorem EdV.at_ {V:World} {s:Nat->Nat} {A:Option Addr} {c m:Nat} {p:List Ed} (h:EdV V s A c m p) {k:Nat} {e:Ed} (r:p[k]? =some e): ∃a i,A=some ⟨a,0,none⟩/\V.cell? ⟨a,k * 4,none⟩=some (.int .i64 e.tq9)/\V.cell? ⟨a,k * 4+1,none⟩=some (.int .i64 (e.at_:Int))/\V.cell? ⟨a,k * 4+2,none⟩=some i/\V.cell? ⟨a,k * 4+3,none⟩=some (.bool e.self)/\dx V (TF V s (λF=>F=2)) m i e.f:=by
 obtain⟨J,x,l,z⟩:=h;obtain⟨i,C,D⟩:=qh x r;have j:=λE B=>ez (k:=4) (f:=λn:Value×Ed=>[.int .i64 n.2.tq9,.int .i64 (n.2.at_:Int),n.1,.bool n.2.self]) (λ_=>rfl) D (j:=E) B
 obtain⟨a,o,t,-,-⟩:=l.at_ (j 0 (by omega));obtain⟨G,b,u,-,-⟩:=l.at_ (j 1 (by omega));obtain⟨H,f,v,-,-⟩:=l.at_ (j 2 (by omega));obtain⟨I,g,w,-,-⟩:=l.at_ (j 3 (by omega));rw [o]at b f g;injection b with b;injection b with b
 injection f with f;injection f with f
 injection g with g;injection g with g
 subst b f g;exact⟨a,i,o,t,u,v,w,z k i e C r⟩
section
variable {V : World} {q : LQ} {d : LD} {y : Dy}
theorem yp (h:MK V q d y) (hT:d.T<=120) (fs: ∀e∈y.ed,(0<=e.tq9/\e.tq9<(y.na:Int))/\e.at_<y.na) (ci: ∀r i,r<y.na->d.T+1<=i->y.F r i=false):
  Calls prog 199 #[aq q.M] V λe f6=>e= .returned (.tuple #[])/\ ∃p,ui V q d {y with F:=p} (λg=>g=0\/g=8) f6/\po (d.T+1) y.na y.F y.ed p:=by
 obtain⟨s,c1⟩: ∃I,I=q.M:=⟨_,rfl⟩;rw [<-c1];obtain⟨cx,hb,gB,gk,el⟩:=aX h hT fs ci c1;clear h hT fs ci c1;unfold aq
 go_enter func199,ntmps199
 go_wp2_with fail
 refine tM 0 (λed g0 d3=> ∃(F:Nat->Nat->Bool) (a4:LQ) (u1 u2 u3 u4 u5 u6 u7 u8 u9 u10 u11 u12 u13 u14 u15 u16 u17 u18 u19 u20 u21 u22 u23 u24 u25 u26 u27 u28 u29 u30 u31 u32 u33 u34 u35 u36 u37 u38 u39 u40 u41 u42 u43 u44 u45 u46 u47 u48 u49 u50 u51 u52 u53 u54 u55 u56 u57 u58 u59 u60 u61:Value),g0={tmps:= #[.pointer (some ⟨s,0,none⟩),u1,u2,u3,u4,u5,u6,u7,u8,u9,u10,u11,u12,u13,u14,u15,u16,u17,u18,u19,u20,u21,u22,u23,u24,u25,u26,u27,u28,u29,u30,u31,u32,u33,u34,u35,u36,u37,u38,u39,u40,u41,u42,u43,u44,u45,u46,u47,u48,u49,u50,u51,u52,u53,u54,u55,u56,u57,u58,u59,u60,u61],defers:=[]}/\MK d3 a4 d {y with F:=F}/\a4.M=s/\StL (λg=>g=0\/g=8) V q.ow d3 a4.ow/\(∀r i,y.F r i=true->F r i=true)/\(∀r i,F r i=true->LE y.F y.ed r i)/\(∀r i,r<y.na->d.T+1<=i->F r i=false)/\ed=bJ F (d.T+1) y.na) (κ0:=bJ y.F (d.T+1) y.na) ⟨y.F,q,_,_,_,_,_,_,_,_,_,_,_,_,_,_,_,_,_,_,_,_,_,_,_,_,_,_,_,_,_,_,_,_,_,_,_,_,_,_,_,_,_,_,_,_,_,_,_,_,_,_,_,_,_,_,_,_,_,_,_,_,_,rfl,cx.out,el.out.symm,StL.refl _ _ _,λ_ _ h=>h,λr i h=> .base r i h,gk.out,rfl⟩ ?_;rintro ed hh ho ⟨F,a4,u1,u2,u3,u4,u5,u6,u7,u8,u9,u10,u11,u12,u13,u14,u15,u16,u17,u18,u19,u20,u21,u22,u23,u24,u25,u26,u27,u28,u29,u30,u31,u32,u33,u34,u35,u36,u37,u38,u39,u40,u41,u42,u43,u44,u45,u46,u47,u48,u49,u50,u51,u52,u53,u54,u55,u56,u57,u58,u59,u60,u61,rfl,h,c2,fF,e6,dr,c5,fv⟩;have e9:=eh.start dr c5;obtain⟨-,-,-,-,-,-,-,-,-,-,-,cm,-⟩:=h.cells;obtain⟨bo,ck⟩: ∃U,U=y.ed.length:=⟨_,rfl⟩;obtain⟨cb,cf⟩: ∃U,U=a4.ce:=⟨_,rfl⟩;obtain⟨f5,cU⟩: ∃U,U=a4.Ae:=⟨_,rfl⟩;have hl:bo<=cb/\cb<=9223372036854775807:=by
  obtain⟨hn,-,g5,-⟩:=h.e;rw [ck,cf];exact g5.cap
 rw [c2]at cm;dsimp only at cm;rw [<-ck,<-cf,<-cU]at cm;obtain⟨cx,gf,gW,ep,hg,he,gE,gm,er,gh,gd⟩:=fa h c2 fF e6 dr c5 fv e9 ck cf cU;clear h c2 fF e6 dr c5 fv e9 ck cf cU
 go_wp2_with fail
 go_loopw [2,10] (λg6 dt wr=> ∃(b:Bool) (j:Nat) (p:Nat->Nat->Bool) (f:LQ),j<=bo/\g6= .bool b/\dt= .int .i64 j/\eh (d.T+1) y.na y.F y.ed F j b p/\MK wr f d {y with F:=p}/\f.M=s/\f.Ae=f5/\f.ce=cb/\StL (λg=>g=0\/g=8) V q.ow wr f.ow) (λ_ dt _=>bo - (intOf dt).toNat)
 case atStart=>exact⟨false,0,F,a4,Nat.zero_le _,rfl,rfl,gm.out,cx.out,gf.out,gd.out.symm,gh.out.symm,gW.out⟩
 case round=>
  clear cm;obtain⟨b,j,p,f,bg,rfl,rfl,M,x,aS,cT,eZ,bq⟩:=hrel;by_cases cj:j<bo
  ·have g4:(j:Int)<(bo:Int):=by omega
   obtain⟨e,cg⟩: ∃e,y.ed[j]? =some e:=⟨_,List.getElem?_eq_getElem (by rw [<-er.out];exact cj)⟩;obtain⟨⟨f0,g9⟩,b4⟩:=gB.out e (List.mem_of_getElem? cg);obtain⟨a,ey⟩:=Int.eq_ofNat_of_zero_le f0;have fn:e.tq9.toNat=a:=by rw [ey];rfl
   have cl:a<y.na:=by omega
   obtain⟨-,-,-,-,-,-,-,-,-,-,bp,g8,-⟩:=x.cells;obtain⟨ge,m,ex,et,ev,g1,g2,ds⟩:=x.e.at_ cg;rw [cT]at ex;subst ex;obtain⟨m,rfl⟩:=ds.ptr;obtain⟨k,cc,bc⟩:=x.a.at_ b4;obtain⟨hj,bd,bO⟩:=x.a.at_ cl;rw [cc]at bd;injection bd with bd
   injection bd with bd
   subst bd;obtain⟨K,c6⟩: ∃U,U=y.na:=⟨_,rfl⟩;obtain⟨Y,c4⟩: ∃U,U=f.ca:=⟨_,rfl⟩;rw [cc,aS]at bp;dsimp only at bp;rw [<-c6,<-c4]at bp;have dd:=x.a.set e.at_ b4;have fh:=x.a.set a cl;obtain⟨B,c7⟩: ∃I,I=f.ps e.at_:=⟨_,rfl⟩;obtain⟨C,c8⟩: ∃I,I=f.ps a:=⟨_,rfl⟩;rw [<-c7]at bc dd;rw [<-c8]at bO fh;unfold aq at bc bO;obtain⟨c,c3⟩: ∃I,I=e.at_:=⟨_,rfl⟩;rw [<-c3]at bc dd ev b4;rw [ey]at et;have hk:(c:Int)<(K:Int):=by omega
   have hm:(a:Int)<(K:Int):=by omega
   have bE:Below wr.heap.size wr (wr.alloc (.cells #[.int .i64 (a:Int),.int .i64 (c:Int),.pointer m,.bool e.self] 290)):=(Below.refl _ _).alloc (Nat.le_refl _) _;have bY:Blk (wr.alloc (.cells #[.int .i64 (a:Int),.int .i64 (c:Int),.pointer m,.bool e.self] 290)) wr.heap.size 290 #[.int .i64 (a:Int),.int .i64 (c:Int),.pointer m,.bool e.self]:=Blk.new _ _ _;clear g8 f0 g9;have dF:=(bE.cell (p:=⟨s,10,none⟩) (World.block_lt_of_cell? _ _ bp)).trans bp;have cO:=(bE.cell (p:=⟨k,c,none⟩) (World.block_lt_of_cell? _ _ bc)).trans bc;have ew:=(bE.cell (p:=⟨k,a,none⟩) (World.block_lt_of_cell? _ _ bO)).trans bO;have d5:(wr.alloc (.cells #[.int .i64 (a:Int),.int .i64 (c:Int),.pointer m,.bool e.self] 290)).cell? ⟨wr.heap.size,0,none⟩=some (.int .i64 (a:Int)):=(bY.cell 0).trans rfl;have d6:(wr.alloc (.cells #[.int .i64 (a:Int),.int .i64 (c:Int),.pointer m,.bool e.self] 290)).cell? ⟨wr.heap.size,1,none⟩=some (.int .i64 (c:Int)):=(bY.cell 1).trans rfl;have f2:(wr.alloc (.cells #[.int .i64 (a:Int),.int .i64 (c:Int),.pointer m,.bool e.self] 290)).cell? ⟨wr.heap.size,2,none⟩=some (.pointer m):=(bY.cell 2).trans rfl;have f3:(wr.alloc (.cells #[.int .i64 (a:Int),.int .i64 (c:Int),.pointer m,.bool e.self] 290)).cell? ⟨wr.heap.size,3,none⟩=some (.bool e.self):=(bY.cell 3).trans rfl;clear dd fh bY;obtain⟨cK,bw,Q,O,al,em,bz,cH,cI,P,z,w,gc,hf⟩:=dh ds cg M x aS eZ bq c7 c8 c3 fn cl cc c6;obtain⟨hc,ei,bC,ej⟩:=aA c4 bE b4 cT;clear ds cg M x aS eZ bq c7 c8 c3 fn cl cc c6 c4 bE b4 cT
   go_wp2_with fail
   refine wp_region_held_drew (S:=(λo=>o.cell? ⟨s,10,none⟩=some (.slice (some ⟨k,0,none⟩) K Y)/\o.cell? ⟨wr.heap.size,1,none⟩=some (.int .i64 (c:Int))/\o.cell? ⟨k,c,none⟩=some (.pointer (some ⟨B,0,none⟩)))) (by kernel_rfl) ?_ (λhHeld=> ?_)
   ·exact⟨dF,d6,cO⟩
   have ca:Below wr.heap.size wr (wr.alloc (.cells #[.int .i64 (a:Int),.int .i64 (c:Int),.pointer m,.bool e.self] 290)).drew:=ei.out.drew;have eQ:wr.heap.size<(wr.alloc (.cells #[.int .i64 (a:Int),.int .i64 (c:Int),.pointer m,.bool e.self] 290)).drew.heap.size:=World.block_lt_of_cell? (wr.alloc (.cells #[.int .i64 (a:Int),.int .i64 (c:Int),.pointer m,.bool e.self] 290)) _ d5;have y0:(wr.alloc (.cells #[.int .i64 (a:Int),.int .i64 (c:Int),.pointer m,.bool e.self] 290)).drew.cell? ⟨wr.heap.size,0,none⟩=some (.int .i64 (a:Int)):=d5;have cr:(wr.alloc (.cells #[.int .i64 (a:Int),.int .i64 (c:Int),.pointer m,.bool e.self] 290)).drew.cell? ⟨wr.heap.size,1,none⟩=some (.int .i64 (c:Int)):=d6;have ea:(wr.alloc (.cells #[.int .i64 (a:Int),.int .i64 (c:Int),.pointer m,.bool e.self] 290)).drew.cell? ⟨wr.heap.size,2,none⟩=some (.pointer m):=f2;have eb:(wr.alloc (.cells #[.int .i64 (a:Int),.int .i64 (c:Int),.pointer m,.bool e.self] 290)).drew.cell? ⟨wr.heap.size,3,none⟩=some (.bool e.self):=f3;have cn:(wr.alloc (.cells #[.int .i64 (a:Int),.int .i64 (c:Int),.pointer m,.bool e.self] 290)).drew.cell? ⟨s,10,none⟩=some (.slice (some ⟨k,0,none⟩) K Y):=dF;have co:(wr.alloc (.cells #[.int .i64 (a:Int),.int .i64 (c:Int),.pointer m,.bool e.self] 290)).drew.cell? ⟨k,c,none⟩=some (.pointer (some ⟨B,0,none⟩)):=cO;have dS:(wr.alloc (.cells #[.int .i64 (a:Int),.int .i64 (c:Int),.pointer m,.bool e.self] 290)).drew.cell? ⟨k,a,none⟩=some (.pointer (some ⟨C,0,none⟩)):=ew;clear d5 d6 f2 f3 dF cO ew bp bc bO et ev g1 g2;generalize (wr.alloc (.cells #[.int .i64 (a:Int),.int .i64 (c:Int),.pointer m,.bool e.self] 290)).drew=t at *;obtain⟨f8,eR⟩: ∃I,I=wr.heap.size:=⟨_,rfl⟩;have ap:=O.out.below ca 2;have fL:StL (λg=>g=0\/g=8) V q.ow t (ext wr f.ow 2):=bz.out.trans (StL.new _ ca _ _);have dn:=ap.a.set c bC.out;have fi:=ap.a.set a w.out;have eX: ∀j,f.foot a j->j≠f8:=λj bg e=>by have:=(O.out.a.set a w.out).lt j bg;omega
   have e5: ∀j,f.foot a j->j≠k:=λj bg e=>by
    have:=(O.out.a.tag a j w.out bg).2;rw [gc.out]at this;exact this (by rw [e];rfl)
   have eG: ∀j,f.foot a j->j≠s:=λj bg e=>by
    have x:=(O.out.a.tag a j w.out bg).1;have ap:=O.out.tm;rw [al.out]at ap;rw [e,ap]at x;omega
   have cP:=nY dn 0 (by decide);rw [show Value.pointer (some ⟨(({f with ow:=ext wr f.ow 2}:LQ).ps c),0,none⟩)= .pointer (some ⟨B,0,none⟩)from by rw [cH.out,P.out]]at cP;have ee:=And.intro cn (And.intro cr co);clear ei;obtain⟨f9,gg,cy,cN,gr,gA,cC,cG,cA,cw,ct,cB⟩:=gx ca eQ ap fL dn fi eX e5 eG cP ee eR;clear ca eQ ap fL dn fi eX e5 eG cP ee eR;refine tZ 0 ?_;try simp only [Act.put,sT,s0,s1]
   refine tZ 1 ?_;try simp only [Act.put,sT,s0,s1]
   refine tZ 2 ?_;try simp only [Act.put,sT,s0,s1]
   refine tZ 3 ?_;try simp only [Act.put,sT,s0,s1]
   refine tZ 4 ?_;try simp only [Act.put,sT,s0,s1]
   refine tZ 5 ?_;try simp only [Act.put,sT,s0,s1]
   refine tZ 6 ?_;try simp only [Act.put,sT,s0,s1]
   refine tZ 7 ?_;try simp only [Act.put,sT,s0,s1]
   refine wpAnyH_ready (rs:=[8]) (by kernel_rfl) (by simp) ?_;refine AllReadyH.cons (o:= ?_) ?_ (λai D=> ?_) AllReadyH.nil;rotate_left 1;(focus((try simp only [gT,gs,gz]);try rfl))
   go_simp
   go_at_call 230
   refine cw.out.mono ?_;rintro cR d3 ⟨rfl,rfl⟩;clear hHeld;refine D.out _ _ ?_ (λhHeld=> ?_)
   ·exact ct.out
   clear D ai
   try simp only [Act.put,sT,s0,s1]
   refine tZ 9 ?_;try simp only [Act.put,sT,s0,s1]
   refine wpAnyH_done (by kernel_rfl) ?_ _;by_cases ft:eL (p c) (d.T+1) 0<0
   ·have be:ku (d.T+1) (p e.at_)=false:=(by unfold ku;rw [<-P.out,decide_eq_true ft];rfl);have fz:=Q.out.skip bw.out be;clear y0 cr ea eb cn co dS cw ct hHeld;obtain⟨gO,bu⟩:=av fz be;clear fz be
    go_wp2_with fail
    go_roundw
    case rel=>exact⟨b,j+1,p,_,by omega,rfl,by go_num,gO.out,cy.out,al.out,ej.out,em.out,cN.out⟩
    case measure=>simp [intOf];omega
   ·have be:ku (d.T+1) (p e.at_)=true:=(by unfold ku;rw [<-P.out,decide_eq_false ft];rfl);clear cw ct hHeld;have bu:=ab be;clear be
    go_wp2_with fail
    have J:t.drew.cell? ⟨wr.heap.size,0,none⟩=some (.int .i64 (a:Int)):=y0;have N:t.drew.cell? ⟨wr.heap.size,1,none⟩=some (.int .i64 (c:Int)):=cr;have ec:t.drew.cell? ⟨wr.heap.size,2,none⟩=some (.pointer m):=ea;have f4:t.drew.cell? ⟨wr.heap.size,3,none⟩=some (.bool e.self):=eb;have G:t.drew.cell? ⟨s,10,none⟩=some (.slice (some ⟨k,0,none⟩) K Y):=cn;have L:t.drew.cell? ⟨k,c,none⟩=some (.pointer (some ⟨B,0,none⟩)):=co;have H:t.drew.cell? ⟨k,a,none⟩=some (.pointer (some ⟨C,0,none⟩)):=dS;refine wp_region_held_drew (S:=(λo=>o.cell? ⟨s,10,none⟩=some (.slice (some ⟨k,0,none⟩) K Y)/\o.cell? ⟨wr.heap.size,0,none⟩=some (.int .i64 (a:Int))/\o.cell? ⟨k,a,none⟩=some (.pointer (some ⟨C,0,none⟩))/\o.cell? ⟨wr.heap.size,2,none⟩=some (.pointer m))) (by kernel_rfl) ?_ (λhHeld=> ?_)
    ·exact⟨G,J,H,ec⟩
    have bG:Below t.heap.size t t.drew:=(Below.refl _ _).drew;have cS:=cy.out.below bG 2;have fT:StL (λg=>g=0\/g=8) V q.ow t.drew (ext t (ext wr f.ow 2) 2):=cN.out.trans (StL.new _ bG _ _);have fg:=cS.a.set a w.out;have fc:=(cK.out.touch (aa.of_size f9.out (λ_=>False)) (λ_ _ h=>h)).touch (aa.of_size bG (λ_=>False)) (λ_ _ h=>h);have e2:=cK.out.high;have u:=kY fg fc;rw [show aq (({({f with ow:=ext wr f.ow 2}:LQ)with ow:=ext t (ext wr f.ow 2) 2}:LQ).ps a)= .pointer (some ⟨C,0,none⟩)from by rw [cI.out]]at u;obtain⟨cd,ch⟩: ∃bP:Nat->Bool,bP=λi=>p a i||e.f i:=⟨_,rfl⟩
    rw [<-ch]at u;have e1:(λi=>p e.tq9.toNat i||e.f i)=cd:=(by rw [z.out,ch]);clear y0 cr ea eb cn co dS cy cN gr gA fg fc cK;obtain⟨ga,cz,es,b6,X,hd,bb⟩:=de bG cS fT e2 u ch e1;clear bG cS fT e2 u ch e1;have ha:=ab (Nat.lt_of_lt_of_le gg.out ga.out.size);generalize t.drew=f1 at *;refine tZ 0 ?_;try simp only [Act.put,sT,s0,s1]
    refine tZ 1 ?_;try simp only [Act.put,sT,s0,s1]
    refine tZ 2 ?_;try simp only [Act.put,sT,s0,s1]
    refine tZ 3 ?_;try simp only [Act.put,sT,s0,s1]
    refine tZ 4 ?_;try simp only [Act.put,sT,s0,s1]
    refine tZ 5 ?_;try simp only [Act.put,sT,s0,s1]
    refine tZ 6 ?_;try simp only [Act.put,sT,s0,s1]
    refine tZ 7 ?_;try simp only [Act.put,sT,s0,s1]
    refine tZ 8 ?_;try simp only [Act.put,sT,s0,s1]
    refine tZ 9 ?_;try simp only [Act.put,sT,s0,s1]
    refine wpAnyH_ready (rs:=[10]) (by kernel_rfl) (by simp) ?_;refine AllReadyH.cons (o:= ?_) ?_ (λai D=> ?_) AllReadyH.nil;rotate_left 1;(focus((try simp only [gT,gs,gz]);try rfl))
    go_simp
    go_at_call 232
    refine X.out.mono ?_;rintro cR w5 ⟨rfl,fd,d2⟩;have A: ¬f.foot a wr.heap.size:=λh=>cC.out _ h cB.out.symm
    have E: ¬f.foot a k:=λh=>cG.out _ h rfl
    have ad: ¬f.foot a s:=λh=>cA.out _ h rfl
    have n:aa (λb=>f.foot a b) f1 w5:=d2;have a1:=n.cell J A;have bh:=n.cell N A;have b0:=n.cell ec A;have bi:=n.cell f4 A;have a2:=n.cell G ad;have bl:=n.cell L E;have a3:=n.cell H E;have eg:=And.intro a2 (And.intro a1 (And.intro a3 b0));obtain⟨eA,d1⟩:=cz.out.a.put w.out fd d2;have ce:=cz.out.putF eA d1;have cp:=es.out.trans (StL.mono (J':=λg=>g=0\/g=8) d1 (λg e=> .inr e));obtain⟨l,Z⟩: ∃I:LQ,I={({({f with ow:=ext wr f.ow 2}:LQ)with ow:=ext t (ext wr f.ow 2) 2}:LQ)with ow:=ext f1 (ext t (ext wr f.ow 2) 2) 8}:=⟨_,rfl⟩;have ce:MK w5 l d {y with F:=bv p a cd}:=(by rw [Z];exact ce);have cp:StL (λg=>g=0\/g=8) V q.ow w5 l.ow:=(by rw [Z];exact cp);have eE:l.M=s:=(by rw [Z];exact al.out);have eB:l.Ae=some ⟨ge,0,none⟩:=(by rw [Z];exact ej.out);have e0:l.ce=cb:=(by rw [Z];exact em.out);have fb:l.ps=f.ps:=(by rw [Z]);have e4:l.foot=f.foot:=(by rw [Z]);clear J N ec f4 G L H d2 n fd eA d1 Z cz es X hHeld A E ad;obtain⟨cu,bs,b9,a9,a8,ba,b7,en⟩:=dA eg ce cp eE eB e0 fb e4;clear eg ce cp eE eB e0 fb e4;refine D.out _ _ ?_ (λhHeld=> ?_)
    ·exact cu.out
    clear D ai
    try simp only [Act.put,sT,s0,s1]
    obtain⟨g7,c9⟩: ∃b1,b1=aE (d.T+1) (p a) cd:=⟨_,rfl⟩;rw [<-c9];obtain⟨v,c0⟩: ∃v,v=bv p a cd:=⟨_,rfl⟩;rw [<-c0]at bs;obtain⟨b8,b5⟩:=av c9 c0;clear c9 c0;cases g7 with
    |true=>
     refine tZ 11 ?_;try simp only [Act.put,sT,s0,s1]
     refine tk (i:=12) (oi:= ?_) (v:=undef) ?_ (by kernel_rfl) ?_ (Or.inr ⟨?_,rfl⟩) (by assumption) ?_;rotate_left 1;(focus((try simp only [gT,gs,gz]);try rfl));exact λ_ _ _ h=>h;rfl;try simp only [Act.put,sT,s0,s1]
     refine tZ 13 ?_;try simp only [Act.put,sT,s0,s1]
     refine tZ 14 ?_;try simp only [Act.put,sT,s0,s1]
     refine wpAnyH_done (by kernel_rfl) ?_ _;cases T:e.self with
     |false=>
      have a6:=Q.out.done1 bw.out bu.out (by rw [z.out];exact w.out) b6.out T;rw [bb.out,z.out,<-b8.out,<-b5.out]at a6;rw [T]at bi;clear a1 bh b0 a2 bl a3 hHeld;have cM:=ab a6;clear a6
      go_wp2_with fail
      go_roundw
      case rel=>exact⟨true,j+1,v,l,by omega,rfl,by go_num,(by simpa using cM.out),bs.out,a9.out,a8.out,ba.out,b9.out⟩
      case measure=>simp [intOf];omega
     |true=>
      rw [T]at bi;clear hHeld
      go_wp2_with fail
      have J:w5.drew.cell? ⟨wr.heap.size,0,none⟩=some (.int .i64 (a:Int)):=a1;have N:w5.drew.cell? ⟨wr.heap.size,1,none⟩=some (.int .i64 (c:Int)):=bh;have G:w5.drew.cell? ⟨s,10,none⟩=some (.slice (some ⟨k,0,none⟩) K Y):=a2;have L:w5.drew.cell? ⟨k,c,none⟩=some (.pointer (some ⟨B,0,none⟩)):=bl;have H:w5.drew.cell? ⟨k,a,none⟩=some (.pointer (some ⟨C,0,none⟩)):=a3;refine wp_region_held_drew (S:=(λo=>o.cell? ⟨s,10,none⟩=some (.slice (some ⟨k,0,none⟩) K Y)/\o.cell? ⟨wr.heap.size,0,none⟩=some (.int .i64 (a:Int))/\o.cell? ⟨wr.heap.size,1,none⟩=some (.int .i64 (c:Int))/\o.cell? ⟨k,a,none⟩=some (.pointer (some ⟨C,0,none⟩))/\o.cell? ⟨k,c,none⟩=some (.pointer (some ⟨B,0,none⟩)))) (by kernel_rfl) ?_ (λhHeld=> ?_)
      ·exact⟨G,J,N,H,L⟩
      have R:Below w5.heap.size w5 w5.drew:=(Below.refl _ _).drew;have S:=bs.out.below R 2;have b2:StL (λg=>g=0\/g=8) V q.ow w5.drew (ext w5 l.ow 2):=b9.out.trans (StL.new _ R _ _);have u:=nd (S.a.set a w.out) (S.a.set c bC.out);rw [show aq (({l with ow:=ext w5 l.ow 2}:LQ).ps a)= .pointer (some ⟨C,0,none⟩)from by rw [cI.out,<-b7.out],show aq (({l with ow:=ext w5 l.ow 2}:LQ).ps c)= .pointer (some ⟨B,0,none⟩)from by rw [cH.out,P.out,<-b7.out]]at u;obtain⟨an,aT⟩: ∃bP:Nat->Bool,bP=λi=>v a i||v c i:=⟨_,rfl⟩
      have u:Calls prog 232 #[.pointer (some ⟨C,0,none⟩),.pointer (some ⟨B,0,none⟩)] w5.drew (pq w5.drew (({l with ow:=ext w5 l.ow 2}:LQ).ps a) (({l with ow:=ext w5 l.ow 2}:LQ).foot a) (d.T+1) an (aE (d.T+1) (v a) an)):=(by rw [aT];exact u);clear a1 bh b0 bi a2 bl a3 cu;obtain⟨gb,ak,bA,X,cE⟩:=aX R S b2 u aT;clear R S b2 u aT;generalize w5.drew=d4 at *;refine tZ 0 ?_;try simp only [Act.put,sT,s0,s1]
      refine tZ 1 ?_;try simp only [Act.put,sT,s0,s1]
      refine tZ 2 ?_;try simp only [Act.put,sT,s0,s1]
      refine tZ 3 ?_;try simp only [Act.put,sT,s0,s1]
      refine tZ 4 ?_;try simp only [Act.put,sT,s0,s1]
      refine tZ 5 ?_;try simp only [Act.put,sT,s0,s1]
      refine tZ 6 ?_;try simp only [Act.put,sT,s0,s1]
      refine tZ 7 ?_;try simp only [Act.put,sT,s0,s1]
      refine tZ 8 ?_;try simp only [Act.put,sT,s0,s1]
      refine tZ 9 ?_;try simp only [Act.put,sT,s0,s1]
      refine tZ 10 ?_;try simp only [Act.put,sT,s0,s1]
      refine tZ 11 ?_;try simp only [Act.put,sT,s0,s1]
      refine tZ 12 ?_;try simp only [Act.put,sT,s0,s1]
      refine tZ 13 ?_;try simp only [Act.put,sT,s0,s1]
      refine tZ 14 ?_;try simp only [Act.put,sT,s0,s1]
      refine tZ 15 ?_;try simp only [Act.put,sT,s0,s1]
      refine wpAnyH_ready (rs:=[16]) (by kernel_rfl) (by simp) ?_;refine AllReadyH.cons (o:= ?_) ?_ (λai D=> ?_) AllReadyH.nil;rotate_left 1;(focus((try simp only [gT,gs,gz]);try rfl))
      go_simp
      go_at_call 232
      refine X.out.mono ?_;rintro cR w7 ⟨rfl,bW,a7⟩;have A: ¬f.foot a wr.heap.size:=λh=>cC.out _ h cB.out.symm
      have E: ¬f.foot a k:=λh=>cG.out _ h rfl
      have ad: ¬f.foot a s:=λh=>cA.out _ h rfl
      have n:aa (λb=>f.foot a b) d4 w7:=(by rw [<-en.out];exact a7);have br:=And.intro (n.cell G ad) (And.intro (n.cell J A) (And.intro (n.cell N A) (And.intro (n.cell H E) (n.cell L E))));obtain⟨bR,a5⟩:=ak.out.a.put w.out bW a7;have bS:=ak.out.putF bR a5;have b3:=bA.out.trans (StL.mono (J':=λg=>g=0\/g=8) a5 (λg e=> .inr e));have W:=Q.out.done2 bw.out bu.out (by rw [z.out];exact w.out) (by rw [<-P.out];exact bC.out) b6.out T (F1:=v) (b1:=(true||b)) (by rw [bb.out,z.out];exact b5.out) (by rw [bb.out,z.out,<-b8.out]);rw [z.out,<-P.out,<-cE.out]at W;obtain⟨dO,a0⟩: ∃b1,b1=aE (d.T+1) (v a) an:=⟨_,rfl⟩;rw [<-a0]at W;rw [<-a0];clear J N G L H a7 n bW bR a5 ak bA X hHeld A E ad a0;obtain⟨cv,bt,bB,bx⟩:=aA br bS b3 W;clear br bS b3 W;refine D.out _ _ ?_ (λhHeld=> ?_)
      ·exact cv.out
      clear D ai
      try simp only [Act.put,sT,s0,s1]
      cases dO with
      |true=>
       refine tZ 17 ?_;try simp only [Act.put,sT,s0,s1]
       refine tk (i:=18) (oi:= ?_) (v:=undef) ?_ (by kernel_rfl) ?_ (Or.inr ⟨?_,rfl⟩) (by assumption) ?_;rotate_left 1;(focus((try simp only [gT,gs,gz]);try rfl));exact λ_ _ _ h=>h;rfl;try simp only [Act.put,sT,s0,s1]
       refine tZ 19 ?_;try simp only [Act.put,sT,s0,s1]
       refine tZ 20 ?_;try simp only [Act.put,sT,s0,s1]
       refine wpAnyH_done (by kernel_rfl) ?_ _;clear hHeld
       go_wp2_with fail
       go_roundw
       case rel=>exact⟨true,j+1,_,_,by omega,rfl,by go_num,(by simpa using bx.out),bt.out,a9.out,a8.out,ba.out,bB.out⟩
       case measure=>simp [intOf];omega
      |false=>
       refine tZ 17 ?_;try simp only [Act.put,sT,s0,s1]
       refine tZ 18 ?_;try simp only [Act.put,sT,s0,s1]
       refine tZ 19 ?_;try simp only [Act.put,sT,s0,s1]
       refine tZ 20 ?_;try simp only [Act.put,sT,s0,s1]
       refine wpAnyH_done (by kernel_rfl) ?_ _;clear hHeld
       go_wp2_with fail
       go_roundw
       case rel=>exact⟨true,j+1,_,_,by omega,rfl,by go_num,(by simpa using bx.out),bt.out,a9.out,a8.out,ba.out,bB.out⟩
       case measure=>simp [intOf];omega
    |false=>
     refine tZ 11 ?_;try simp only [Act.put,sT,s0,s1]
     refine tZ 12 ?_;try simp only [Act.put,sT,s0,s1]
     refine tZ 13 ?_;try simp only [Act.put,sT,s0,s1]
     refine tZ 14 ?_;try simp only [Act.put,sT,s0,s1]
     refine wpAnyH_done (by kernel_rfl) ?_ _;cases T:e.self with
     |false=>
      have a6:=Q.out.done1 bw.out bu.out (by rw [z.out];exact w.out) b6.out T;rw [bb.out,z.out,<-b8.out,<-b5.out]at a6;rw [T]at bi;clear a1 bh b0 a2 bl a3 hHeld;have cM:=ab a6;clear a6
      go_wp2_with fail
      go_roundw
      case rel=>exact⟨b,j+1,v,l,by omega,rfl,by go_num,(by simpa using cM.out),bs.out,a9.out,a8.out,ba.out,b9.out⟩
      case measure=>simp [intOf];omega
     |true=>
      rw [T]at bi;clear hHeld
      go_wp2_with fail
      have J:w5.drew.cell? ⟨wr.heap.size,0,none⟩=some (.int .i64 (a:Int)):=a1;have N:w5.drew.cell? ⟨wr.heap.size,1,none⟩=some (.int .i64 (c:Int)):=bh;have G:w5.drew.cell? ⟨s,10,none⟩=some (.slice (some ⟨k,0,none⟩) K Y):=a2;have L:w5.drew.cell? ⟨k,c,none⟩=some (.pointer (some ⟨B,0,none⟩)):=bl;have H:w5.drew.cell? ⟨k,a,none⟩=some (.pointer (some ⟨C,0,none⟩)):=a3;refine wp_region_held_drew (S:=(λo=>o.cell? ⟨s,10,none⟩=some (.slice (some ⟨k,0,none⟩) K Y)/\o.cell? ⟨wr.heap.size,0,none⟩=some (.int .i64 (a:Int))/\o.cell? ⟨wr.heap.size,1,none⟩=some (.int .i64 (c:Int))/\o.cell? ⟨k,a,none⟩=some (.pointer (some ⟨C,0,none⟩))/\o.cell? ⟨k,c,none⟩=some (.pointer (some ⟨B,0,none⟩)))) (by kernel_rfl) ?_ (λhHeld=> ?_)
      ·exact⟨G,J,N,H,L⟩
      have R:Below w5.heap.size w5 w5.drew:=(Below.refl _ _).drew;have S:=bs.out.below R 2;have b2:StL (λg=>g=0\/g=8) V q.ow w5.drew (ext w5 l.ow 2):=b9.out.trans (StL.new _ R _ _);have u:=nd (S.a.set a w.out) (S.a.set c bC.out);rw [show aq (({l with ow:=ext w5 l.ow 2}:LQ).ps a)= .pointer (some ⟨C,0,none⟩)from by rw [cI.out,<-b7.out],show aq (({l with ow:=ext w5 l.ow 2}:LQ).ps c)= .pointer (some ⟨B,0,none⟩)from by rw [cH.out,P.out,<-b7.out]]at u;obtain⟨an,aT⟩: ∃bP:Nat->Bool,bP=λi=>v a i||v c i:=⟨_,rfl⟩
      have u:Calls prog 232 #[.pointer (some ⟨C,0,none⟩),.pointer (some ⟨B,0,none⟩)] w5.drew (pq w5.drew (({l with ow:=ext w5 l.ow 2}:LQ).ps a) (({l with ow:=ext w5 l.ow 2}:LQ).foot a) (d.T+1) an (aE (d.T+1) (v a) an)):=(by rw [aT];exact u);clear a1 bh b0 bi a2 bl a3 cu;obtain⟨gb,ak,bA,X,cE⟩:=aX R S b2 u aT;clear R S b2 u aT;generalize w5.drew=d4 at *;refine tZ 0 ?_;try simp only [Act.put,sT,s0,s1]
      refine tZ 1 ?_;try simp only [Act.put,sT,s0,s1]
      refine tZ 2 ?_;try simp only [Act.put,sT,s0,s1]
      refine tZ 3 ?_;try simp only [Act.put,sT,s0,s1]
      refine tZ 4 ?_;try simp only [Act.put,sT,s0,s1]
      refine tZ 5 ?_;try simp only [Act.put,sT,s0,s1]
      refine tZ 6 ?_;try simp only [Act.put,sT,s0,s1]
      refine tZ 7 ?_;try simp only [Act.put,sT,s0,s1]
      refine tZ 8 ?_;try simp only [Act.put,sT,s0,s1]
      refine tZ 9 ?_;try simp only [Act.put,sT,s0,s1]
      refine tZ 10 ?_;try simp only [Act.put,sT,s0,s1]
      refine tZ 11 ?_;try simp only [Act.put,sT,s0,s1]
      refine tZ 12 ?_;try simp only [Act.put,sT,s0,s1]
      refine tZ 13 ?_;try simp only [Act.put,sT,s0,s1]
      refine tZ 14 ?_;try simp only [Act.put,sT,s0,s1]
      refine tZ 15 ?_;try simp only [Act.put,sT,s0,s1]
      refine wpAnyH_ready (rs:=[16]) (by kernel_rfl) (by simp) ?_;refine AllReadyH.cons (o:= ?_) ?_ (λai D=> ?_) AllReadyH.nil;rotate_left 1;(focus((try simp only [gT,gs,gz]);try rfl))
      go_simp
      go_at_call 232
      refine X.out.mono ?_;rintro cR w7 ⟨rfl,bW,a7⟩;have A: ¬f.foot a wr.heap.size:=λh=>cC.out _ h cB.out.symm
      have E: ¬f.foot a k:=λh=>cG.out _ h rfl
      have ad: ¬f.foot a s:=λh=>cA.out _ h rfl
      have n:aa (λb=>f.foot a b) d4 w7:=(by rw [<-en.out];exact a7);have br:=And.intro (n.cell G ad) (And.intro (n.cell J A) (And.intro (n.cell N A) (And.intro (n.cell H E) (n.cell L E))));obtain⟨bR,a5⟩:=ak.out.a.put w.out bW a7;have bS:=ak.out.putF bR a5;have b3:=bA.out.trans (StL.mono (J':=λg=>g=0\/g=8) a5 (λg e=> .inr e));have W:=Q.out.done2 bw.out bu.out (by rw [z.out];exact w.out) (by rw [<-P.out];exact bC.out) b6.out T (F1:=v) (b1:=(false||b)) (by rw [bb.out,z.out];exact b5.out) (by rw [bb.out,z.out,<-b8.out]);rw [z.out,<-P.out,<-cE.out]at W;obtain⟨dO,a0⟩: ∃b1,b1=aE (d.T+1) (v a) an:=⟨_,rfl⟩;rw [<-a0]at W;rw [<-a0];clear J N G L H a7 n bW bR a5 ak bA X hHeld A E ad a0;obtain⟨cv,bt,bB,bx⟩:=aA br bS b3 W;clear br bS b3 W;refine D.out _ _ ?_ (λhHeld=> ?_)
      ·exact cv.out
      clear D ai
      try simp only [Act.put,sT,s0,s1]
      cases dO with
      |true=>
       refine tZ 17 ?_;try simp only [Act.put,sT,s0,s1]
       refine tk (i:=18) (oi:= ?_) (v:=undef) ?_ (by kernel_rfl) ?_ (Or.inr ⟨?_,rfl⟩) (by assumption) ?_;rotate_left 1;(focus((try simp only [gT,gs,gz]);try rfl));exact λ_ _ _ h=>h;rfl;try simp only [Act.put,sT,s0,s1]
       refine tZ 19 ?_;try simp only [Act.put,sT,s0,s1]
       refine tZ 20 ?_;try simp only [Act.put,sT,s0,s1]
       refine wpAnyH_done (by kernel_rfl) ?_ _;clear hHeld
       go_wp2_with fail
       go_roundw
       case rel=>exact⟨true,j+1,_,_,by omega,rfl,by go_num,(by simpa using bx.out),bt.out,a9.out,a8.out,ba.out,bB.out⟩
       case measure=>simp [intOf];omega
      |false=>
       refine tZ 17 ?_;try simp only [Act.put,sT,s0,s1]
       refine tZ 18 ?_;try simp only [Act.put,sT,s0,s1]
       refine tZ 19 ?_;try simp only [Act.put,sT,s0,s1]
       refine tZ 20 ?_;try simp only [Act.put,sT,s0,s1]
       refine wpAnyH_done (by kernel_rfl) ?_ _;clear hHeld
       go_wp2_with fail
       go_roundw
       case rel=>exact⟨b,j+1,_,_,by omega,rfl,by go_num,(by simpa using bx.out),bt.out,a9.out,a8.out,ba.out,bB.out⟩
       case measure=>simp [intOf];omega
  ·have g4: ¬(j:Int)<(bo:Int):=by omega
   cases b with
   |true=>
    have cj:=M.less rfl;rw [<-gE.out]at cj;have g3: ∃cs,cs<ed/\bJ p (d.T+1) y.na=cs:=⟨_,cj,rfl⟩;obtain⟨cs,fw,fx⟩:=g3;have e8: ∀r i,y.F r i=true->p r i=true:=λr i ci=>M.le r i (ep.out r i ci)
    obtain⟨Q,O,al,bz,gF,gM,gl⟩:=de M x aS bq fw fx e8;clear M x aS bq fw fx e8
    go_wp2_with fail
    go_step3
    refine⟨rfl,cs,gF.out,p,f,_,_,_,_,_,_,_,_,_,_,_,_,_,_,_,_,_,_,_,_,_,_,_,_,_,_,_,_,_,_,_,_,_,_,_,_,_,_,_,_,_,_,_,_,_,_,_,_,_,_,_,_,_,_,_,_,_,_,_,_,_,rfl,O.out,al.out,bz.out,gl.out,Q.out.snd,Q.out.hi,gM.out.symm⟩
   |false=>
    have e3:=M.end_ (by rw [<-er.out];omega) ep.out;obtain⟨hi,-⟩:=M.same rfl;obtain⟨gi,Q,O,al,bz⟩:=aX e3 M x aS bq;clear e3 M x aS bq
    go_wp2_with fail
    simp only [Exit.jump]
    go_end0
    exact⟨rfl,p,⟨f,O.out,al.out.trans el.out,bz.out⟩,gi.out⟩
end
end Go.Proofs.YthlbjgabhpdbfaaGreat

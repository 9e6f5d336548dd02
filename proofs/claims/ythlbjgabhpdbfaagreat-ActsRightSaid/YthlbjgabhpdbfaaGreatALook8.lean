/- Lookaheads: what comes with a nonterminal. -/
import Derived.Test.YthlbjgabhpdbfaaGreatALook7
import Derived.Scope
import Derived.WalkMore
namespace Go.Proofs.YthlbjgabhpdbfaaGreat
set_option linter.unusedVariables false
set_option linter.unusedSimpArgs false
open Go.RowKit Go.Maps
attribute [local irreducible] wpStill wpOne wpPh
structure PrepD (d:LD):Prop where
 rl:d.rs.length=d.G.rules.length+1
 rs: ∀k:Nat,k<=d.G.rules.length->d.rs[k]? =some (rgt d.G d.st k)
 tll:d.tl.length=d.G.rules.length+1
 tl: ∀k:Nat,k<=d.G.rules.length-> ∃l,d.tl[k]? =some l/\l.length=(rgt d.G d.st k).length/\ ∀j:Nat,j<(rgt d.G d.st k).length->l[j]? =some ⟨lnB d.G ((rgt d.G d.st k).drop (j+1)),emB d.G ((rgt d.G d.st k).drop (j+1))⟩
 nu:d.nu=topOf d.G+1
 ru: ∀s:Nat,s<=topOf d.G->d.ru s=ofOf d.G s
theorem TlV.at_ {V:World} {ow:Nat->Nat} {A:Option Addr} {c m:Nat} {tl:List (List Tl)} (h:TlV V ow A c m tl) {k:Nat} {l:List Tl} (hk:tl[k]? =some l): ∃g Az nz cz,A=some ⟨g,0,none⟩/\V.cell? ⟨g,k,none⟩=some (.slice Az nz cz)/\RdTl V (TF V ow (fun t=>t=2)) m (.slice Az nz cz) l/\tl.length<=c/\c<=9223372036854775807:=by
 obtain⟨Z,h1,h2,h3⟩:=h
 have hkl:=(List.getElem?_eq_some_iff.1 hk).1
 obtain⟨z,hz⟩: ∃z,Z[k]? =some z:=⟨_,List.getElem?_eq_getElem (by omega)⟩
 obtain⟨g,e1,e2,-,-⟩:=h2.at_ hz
 have hr:=h3 k z l hz hk
 obtain⟨ps,p1,⟨Az,nz,cz,rfl,p2⟩,p3⟩:=id hr
 obtain⟨_,c0,ec,hc,hm⟩:=ownsRow_shape h2.own
 injection ec with _ _ ec
 rw [<-ec]at hc hm
 exact⟨g,Az,nz,cz,e1,e2,hr,hc,hm⟩
theorem MK.rowU {V:World} {q:LQ} {d:LD} {y:Dy} (h:MK V q d y) (hP:PrepD d) {x:Nat} (hx:x<=topOf d.G): ∃P Ax nx cx,q.vu= .slice (some ⟨P,0,none⟩) (topOf d.G+1) (topOf d.G+1)/\V.cell? ⟨P,x,none⟩=some (.slice Ax nx cx)/\RdI V (TF V q.ow (fun t=>t=5)) (.slice Ax nx cx) (ofOf d.G x):=by
 rcases h.u with⟨-,e⟩|⟨P,vs,e,rows⟩
 ·have:=hP.nu;omega
 ·rw [hP.nu]at e rows
  obtain⟨A,m,c,hv,hc,row,-⟩:=rows.at_ (k:=x) (by omega) (by decide)
  have:=row.rd
  rw [hP.ru x hx]at this
  exact⟨P,A,m,c,e,hc,this⟩
theorem rgt_of {G:GramD} {st x k y:Int} {rest:List Int} (hk:k∈ofOf G x) (hr:rgt G st k=y::rest):behindI G st (k,0)=(y,true):=by
 obtain⟨n,r,rfl,hn⟩:=of_mem.1 hk
 unfold rgt at hr
 exact behind_yes (k:=0) (by rw [ruleOf_nat hn]) (by rw [hr];rfl)
theorem rgt_at {G:GramD} {st k y:Int} (h:behindI G st (k,0)=(y,true)): ∃rest,rgt G st k=y::rest:=by
 unfold rgt
 unfold behindI at h
 split at h
 ·rename_i hc
  simp only [Int.toNat_zero,Prod.mk.injEq]at h
  obtain⟨h1,-⟩:=h
  cases e:(ruleOf G st k).1.2 with
  |nil=>rw [e]at hc;simp at hc
  |cons a r=>
   rw [e]at h1
   simp at h1
   rw [h1]
   exact⟨r,rfl⟩
 ·cases h
theorem Tryz.infoCome:(Tryz.prog.info? 293).map (fun i=>(i.zero,i.size,i.bytes))=some (some (.agg #[.int .i64 0,.pointer none,.bool false]),3,24):=by kernel_rfl
theorem Tryz.elemCome:Elem Tryz.prog 279 293 (.agg #[.int .i64 0,.pointer none,.bool false]) 3 24:=⟨Tryz.underlying279,Tryz.infoCome,rfl,by decide⟩
def FrC (M:Nat) (s:Int) (mb:Nat) (A:Option Addr) (n c g off qn qc:Nat) (vs:Nat->Value):Act:={tmps:= #[.pointer (some ⟨M,0,none⟩),.int .i64 s,vs 2,vs 3,vs 4,.map (some mb),.slice A n c,.slice (some ⟨g,off,none⟩) qn qc,vs 8,vs 9,vs 10,vs 11,vs 12,vs 13,vs 14,vs 15,vs 16,vs 17,vs 18,vs 19,vs 20,vs 21,vs 22,vs 23,vs 24,vs 25,vs 26,vs 27,vs 28,vs 29,vs 30,vs 31,vs 32,vs 33,vs 34,vs 35,vs 36,vs 37,vs 38,vs 39,vs 40,vs 41,vs 42,vs 43,vs 44,vs 45,vs 46,vs 47,vs 48,vs 49,vs 50,vs 51,vs 52,vs 53,vs 54,vs 55,vs 56,vs 57,vs 58,vs 59,vs 60,vs 61,vs 62,vs 63,vs 64,vs 65,vs 66,vs 67,vs 68,vs 69,vs 70,vs 71,vs 72,vs 73,vs 74,vs 75,vs 76,vs 77,vs 78,vs 79,vs 80,vs 81,vs 82,vs 83,vs 84,vs 85,vs 86,vs 87,vs 88,vs 89,vs 90,vs 91,vs 92,vs 93,vs 94,vs 95,vs 96,vs 97,vs 98,vs 99,vs 100,vs 101,vs 102,vs 103,vs 104,vs 105,vs 106,vs 107,vs 108,vs 109,vs 110,vs 111,vs 112,vs 113,vs 114,vs 115,vs 116,vs 117,vs 118],defers:=[]}
theorem frC_ex {a':Act} {M:Nat} {s:Int} {mb:Nat} {A:Option Addr} {n c g off qn qc:Nat} (h:a'=FrC M s mb A n c g off qn qc (fun i=>(a'.tmps.toList).getD i undef)): ∃vs,a'=FrC M s mb A n c g off qn qc vs:=⟨_,h⟩
def JC (V:World) (d:LD) (M T N:Nat) (s:Int) (κ:Nat) (a':Act) (w':World):Prop:= ∃(ow:Nat->Nat) (mb:Nat) (A:Option Addr) (n c g off qn qc:Nat) (out:List Co) (todo:List Nat) (ps:Nat->Nat) (foot:Nat->Nat->Prop),(∃vs,a'=FrC M s mb A n c g off qn qc vs)/\CoM V w' ow (T+1) mb A n c g off qn qc out todo (out.map Co.s) ps foot/\CoAll d.G d.st s out todo/\κ=2 * measC N (T+1) out+todo.length/\κ<=100000
theorem up_cell {V W:World} (b:Below V.heap.size V W) {a:Addr} {v:Value} (h:V.cell? a=some v):W.cell? a=some v:=(b.cell (World.block_lt_of_cell? _ _ h)).trans h
theorem onlyN_mk {K:Act->World->Prop} {a:Act} {w:World} (h:K a w):OnlyN K .normal a w:=h
set_option maxRecDepth 100000 in
set_option maxHeartbeats 16000000 in
theorem look_coming {V:World} {q:LQ} {d:LD} {y:Dy} (h:MK V q d y) (hP:PrepD d) (hK:KnA d.G d.st) {s:Int} (hs:isNon d.G s=true):
  Calls Tryz.prog 226 #[PtrV q.M,.int .i64 s] V fun e V'=> ∃z out,e= .returned z/\Below V.heap.size V V'/\RdCo V' (fun b=>V.heap.size<=b/\b<V'.heap.size) (d.T+1) z out/\ComesOf d.G d.st s out:=by
 obtain⟨M,hM⟩: ∃x,x=q.M:=⟨_,rfl⟩
 obtain⟨T,hT⟩: ∃x,x=d.T:=⟨_,rfl⟩
 obtain⟨N,hN⟩: ∃x,x=d.G.nons.length:=⟨_,rfl⟩
 rw [<-hM,<-hT]
 have cset: ∀W,Below V.heap.size V W->Calls Tryz.prog 225 #[.pointer (some ⟨M,0,none⟩),.slice none 0 0] W (NewSet W (T+1) noBits):=fun W b=>by
  rw [hM,hT]
  exact look_set (h.below b 2).cells.1 hK.t (Rd.nil _ _ _) (l:=[]) (F:=fun _=>False) (fun _ e=>e.elim)
 have hmm:= @run_makeMap Tryz.prog
 have hown:=World.ownsMap_made V Tryz.prog 3 (plainElem (H:=Unit) Tryz.prog 3)
 have hkey:=nkey_some (n:=s) (by unfold isNon topOf at hs;have h1:=hK.t;have h2:=hK.n;simp only [Bool.and_eq_true,decide_eq_true_eq]at hs;omega)
 obtain⟨Xh,XhP,XhK,Xhs,XhM,XhT,XhN,Xcset⟩:=HqZ8 h hP hK hs hM hT hN cset;clear h hP hK hs hM hT hN cset
 unfold PtrV
 go_enter Tryz.func226,Tryz.ntmps226
 go_wp2_with fail
 refine wp_scope_label3 0 (JC V d M T N s) rfl rfl rfl ?_ ?_
 ·go_wp2_with (refine wpList_insert_own _ rfl _ _ _ 296 rfl 3 3 Tryz.intKeyed Tryz.underlying296 _ V.heap.size 0 (.map []) rfl hown (by unfold maxLen;omega) _ _ _ rfl rfl hkey _ [] (plainElem_int Tryz.underlying3 (WalkArith.wf_i64 (by omega))) ?_)
  intro w1 m1 g1
  have le:Below V.heap.size V w1:=((Below.refl _ V).alloc (Nat.le_refl _) _).grown g1 (by simp) (fun k e=>by injection e with e;omega)
  clear hown hkey hmm g1
  obtain⟨Xm1,Xle⟩:=HqZ2 m1 le;clear m1 le
  go_wp2_with fail
  refine(Xcset.out _ Xle.out).mono ?_
  rintro e w2 ⟨b,S,rfl,hs2,hS,b2⟩
  obtain⟨ow,hc⟩:=CoM.start (t:=3) Xm1.out (FnMap.empty.put s 0) Xle.out hs2 hS b2
  clear hs2 hS b2 Xm1 Xle Xcset
  have Xhc:=hide hc;clear hc
  go_wp2_with fail
  refine onlyN_mk ?_
  refine⟨2 * measC N (T+1) [⟨s,noBits,true⟩]+1,ow,V.heap.size,some ⟨w2.heap.size,0,none⟩,1,1,w2.heap.size+1,0,1,1,[⟨s,noBits,true⟩],[0],fun _=>b,fun _=>S,frC_ex rfl,?_,?_,?_⟩
  ·exact Xhc.out
  ·exact CoAll.start Xhs.out
  ·refine⟨rfl,?_⟩
   have h1:=XhK.out.n
   have h2:=XhK.out.t
   have h3:unset noBits (T+1)<=T+1:=unset_none _
   have h4:d.T=d.G.terms.length:=rfl
   have h5:(N - 1) * (T+1+2)<=120 * 123:=Nat.mul_le_mul (by rw [XhN.out];omega) (by rw [XhT.out];omega)
   unfold measC oneC
   simp only [List.length_singleton,List.map_cons,List.map_nil,List.sum_cons,List.sum_nil,if_true]
   rw [<-XhT.out]at h4
   omega
 ·clear hmm hown hkey
  intro rr hrr
  rintro κ a w ⟨ow,mb,A,n,c,g,off,qn,qc,out,todo,ps,foot,⟨vs,rfl⟩,cm,ca,hκ⟩
  unfold FrC
  subst hrr
  cases todo with
  |nil=>
   have hqn:qn=0:=cm.q.len
   subst hqn
   obtain⟨Xcm,Xca,Xhκ⟩:=HqZ3 cm ca hκ;clear cm ca hκ
   go_wp2_with fail
   simp only [Exit.jump]
   go_ret
   exact⟨_,out,rfl,Xcm.out.le,Xcm.out.rdco,Xca.out.is (fun x k y hk hb=>rgt_at hb)⟩
  |cons i0 r=>
   have hqn:qn=r.length+1:=by have:=cm.q.len;simpa using this
   have hqc:=cm.q.cap
   have hq0:w.cell? ⟨g,off,none⟩=some (.int .i64 (i0:Int)):=by have:=cm.q.at_ 0 (i0:Int) rfl;simpa using this
   unfold maxLen at hqc
   obtain⟨c0,hc0⟩: ∃c0,out[i0]? =some c0:=⟨_,List.getElem?_eq_getElem (ca.low i0 (List.mem_cons_self ..))⟩
   obtain⟨gA,eA,k0,k1,k2,-,tgA⟩:=cm.at_ hc0
   have hnc:=cm.row.cap
   have hi0:(i0:Int)<(n:Int):=by have:=cm.lt hc0;omega
   subst eA
   have ci:=ca.pop hc0
   have hκ1:2 * measC N (T+1) out+r.length<κ:=by rw [hκ.1,List.length_cons];omega
   have hκ2:=hκ.2
   obtain⟨x,hx⟩: ∃x,x=c0.s:=⟨_,rfl⟩
   obtain⟨xs,hxs⟩: ∃x,x=c0.self:=⟨_,rfl⟩
   obtain⟨px,hpx⟩: ∃x,x=ps i0:=⟨_,rfl⟩
   have hxn:=(ca.snd c0 (List.mem_of_getElem? hc0)).2.1
   rw [<-hx]at k0 ci hxn
   rw [<-hxs]at k2 ci
   rw [<-hpx]at k1
   have hxn':=hxn
   unfold isNon at hxn'
   simp only [Bool.and_eq_true,decide_eq_true_eq]at hxn'
   obtain⟨xn,exn⟩:=Int.eq_ofNat_of_zero_le (show 0<=x by omega)
   subst exn
   have htopb:topOf d.G<=240:=by have:=XhK.out.t;have:=XhK.out.n;unfold topOf;omega
   obtain⟨P,Ax,nx,cx,hvu,hcu,rdx⟩:=Xh.out.rowU XhP.out (x:=xn) (by omega)
   obtain⟨hnx,hnxc,hcxm,-⟩:=RdI.at_ rdx
   unfold maxLen at hcxm
   have hnx3:nx<=300:=by rw [hnx];have:=of_len (G:=d.G) (s:=(xn:Int));have:=XhK.out.r;omega
   have rdx:=rdx.mono (F':=fun b=>b<V.heap.size) (fun b hb=>hb.1)
   have q7:=Xh.out.cells.2.2.2.2.2.2.2.1
   rw [hvu,<-XhM.out]at q7
   obtain⟨tp,htp⟩: ∃t,t=topOf d.G+1:=⟨_,rfl⟩
   rw [<-htp]at q7
   have hxt:(xn:Int)<(tp:Int):=by omega
   have htp2:tp<=241:=by omega
   have al:Below w.heap.size w (w.alloc (.cells #[.int .i64 (xn:Int),.pointer (some ⟨px,0,none⟩),.bool xs] 293)):=(Below.refl _ _).alloc (Nat.le_refl _) _
   have kx:Blk (w.alloc (.cells #[.int .i64 (xn:Int),.pointer (some ⟨px,0,none⟩),.bool xs] 293)) w.heap.size 293 #[.int .i64 (xn:Int),.pointer (some ⟨px,0,none⟩),.bool xs]:=Blk.new _ _ _
   have cm1:=cm.pop.below al
   have e0:ext w ow 0 w.heap.size=0:=ext_new (Nat.le_refl _)
   obtain⟨off',hoff⟩: ∃o,o=if qc=1 then off else off+1:=⟨_,rfl⟩
   rw [<-hoff]at cm1
   have hif:(if qc=1 then(some ⟨g,off,none⟩:Option Addr)else some ⟨g,off+1,none⟩)=some ⟨g,off',none⟩:=by rw [hoff];split<;>rfl
   have hn1:0<qn:=by omega
   have q7':=(cm1.le.cell (p:=⟨M,7,none⟩) (World.block_lt_of_cell? _ _ q7)).trans q7
   have hcu':=(cm1.le.cell (p:=⟨P,xn,none⟩) (World.block_lt_of_cell? _ _ hcu)).trans hcu
   have f0:=(kx.cell 0).trans rfl
   obtain⟨X,hX⟩: ∃X,X=w.heap.size:=⟨_,rfl⟩
   unfold PtrV at k1
   clear cm ca hκ hvu hcu q7 htopb hxn' al hoff htp hx hxs
   obtain⟨Xcm1,Xe0,Xci,Xhκ1,Xhκ2,Xhpx,Xhxn,Xrdx,Xhnx,Xkx,Xhqn,Xhc0,XtgA,XhX⟩:=HqZ14 cm1 e0 ci hκ1 hκ2 hpx hxn rdx hnx kx hqn hc0 tgA hX;clear cm1 e0 ci hκ1 hκ2 hpx hxn rdx hnx kx hqn hc0 tgA hX
   go_wp2_with fail
   generalize w.alloc (.cells #[.int .i64 (xn:Int),.pointer (some ⟨px,0,none⟩),.bool xs] 293)=w1 at *
   refine region_reads (by kernel_rfl) (by kernel_rfl) ?_
   repeat still_step
   refine wpStill_nil ?_
   go_wp2_with fail
   have dr:Below w1.heap.size w1 w1.drew:=(Below.refl _ _).drew
   have cm2:=Xcm1.out.below dr
   have kx2:=Xkx.out.drew
   have e2:ext w1 (ext w ow 0) 0 w.heap.size=0:=(ext_old Xkx.out.lt).trans Xe0.out
   obtain⟨ow2,how2⟩: ∃o,o=ext w1 (ext w ow 0) 0:=⟨_,rfl⟩
   rw [<-how2]at cm2 e2
   clear q7' hcu' f0 dr how2 Xcm1 Xkx Xe0 XhX hif hxt htp2 hqc hnc hi0 hn1 k0 k1 k2 hq0 XtgA
   generalize w1.drew=w2 at *
   obtain⟨Xcm2,Xkx2,Xe2⟩:=HqZ3 cm2 kx2 e2;clear cm2 kx2 e2
   go_loopw [6,7,44] (fun ov tv iv wr=> ∃(j:Nat) (ow:Nat->Nat) (A:Option Addr) (n c g off qn qc:Nat) (out:List Co) (todo:List Nat) (ps:Nat->Nat) (foot:Nat->Nat->Prop),j<=nx/\iv= .int .i64 j/\ov= .slice A n c/\tv= .slice (some ⟨g,off,none⟩) qn qc/\CoM V wr ow (T+1) mb A n c g off qn qc out todo (out.map Co.s) ps foot/\CoIn d.G d.st s out todo i0 (xn:Int) xs j/\Blk wr w.heap.size 293 #[.int .i64 (xn:Int),.pointer (some ⟨px,0,none⟩),.bool xs]/\ow w.heap.size=0/\px=ps i0/\2 * measC N (T+1) out+todo.length<κ) (fun _ _ iv _=>nx - (intOf iv).toNat)
   case atStart=>exact⟨0,ow2,_,n,c,g,off',qn - 1,qc - 1,out,r,ps,foot,Nat.zero_le _,rfl,rfl,rfl,Xcm2.out,Xci.out,Xkx2.out,Xe2.out,Xhpx.out,Xhκ1.out⟩
   case round=>
    clear Xcm2 Xkx2 Xe2 Xci Xhpx Xhκ1 Xhc0 Xhqn
    obtain⟨j,ow,A,n,c,g,off,qn,qc,out,todo,ps,foot,hj,rfl,rfl,rfl,cm,ci,kx,eX,hpx,hms⟩:=hrel
    by_cases hlt:j<nx
    ·have hlt':(j:Int)<(nx:Int):=by omega
     obtain⟨k,hk⟩: ∃k,(ofOf d.G xn)[j]? =some k:=⟨_,List.getElem?_eq_getElem (by rw [<-Xhnx.out];exact hlt)⟩
     obtain⟨kn,rl,rfl,hkn⟩:=of_mem.1 (List.mem_of_getElem? hk)
     have hkR:kn<d.G.rules.length:=(List.getElem?_eq_some_iff.1 hkn).1
     obtain⟨-,-,-,hcell⟩:=RdI.at_ (Xrdx.out.below cm.le (fun b hb=>hb))
     obtain⟨bx,ox,rfl,-,hcc⟩:=hcell (by omega)
     have k0:=hcc j _ hk
     obtain⟨gr,Az,nz,cz,eR,u1,rdr,hrc,hrm⟩:=Xh.out.r.at_ (XhP.out.rs kn (by omega))
     obtain⟨q0,q1,q2,q3,-,q5,q6,-⟩:=Xh.out.cells
     obtain⟨nR,hnR⟩: ∃n,n=d.rs.length:=⟨_,rfl⟩
     obtain⟨cR,hcR⟩: ∃n,n=q.cr:=⟨_,rfl⟩
     rw [eR,<-hnR,<-hcR,<-XhM.out]at q5
     rw [<-hnR,<-hcR]at hrc
     rw [<-hcR]at hrm
     rw [<-XhM.out]at q0 q1 q2 q3 q6
     have hkR':(kn:Int)<(nR:Int):=by have:=XhP.out.rl;omega
     have q5':=up_cell cm.le q5
     have u1':=up_cell cm.le u1
     obtain⟨hnz,hnzc,hczm,hcellz⟩:=RdI.at_ rdr
     unfold maxLen at hczm
     have dr:Below wr.heap.size wr wr.drew:=(Below.refl _ _).drew
     have cm2:=cm.below dr
     have kx2:=kx.drew
     have eX2:ext wr ow 0 w.heap.size=0:=(ext_old kx.lt).trans eX
     clear hcell hcc hkn rl kx eX cm q5 u1 dr
     cases hg:rgt d.G d.st kn with
     |nil=>
      have hnz0:nz=0:=by rw [hnz,hg];rfl
      subst hnz0
      have ci2:=ci.skip hk (fun y rest e=>by rw [hg]at e;cases e)
      clear q0 q1 q2 q3 q6 hcellz rdr hnz ci
      obtain⟨Xcm2,Xkx2,XeX2,Xci2,Xhk,Xhg,Xhpx,Xhms,XhnR,XhcR,XeR⟩:=HqZ11 cm2 kx2 eX2 ci2 hk hg hpx hms hnR hcR eR;clear cm2 kx2 eX2 ci2 hk hg hpx hms hnR hcR eR
      go_wp2_with fail
      refine wp_region_held_drew (S:=(fun W=>True)) (by kernel_rfl) ?_ (fun hHeld=> ?_)
      ·exact trivial
      generalize wr.drew=wd at *
      refine tZ 0 ?_;try simp only [Act.put,sT,s0,s1]
      refine tZ 1 ?_;try simp only [Act.put,sT,s0,s1]
      refine tZ 2 ?_;try simp only [Act.put,sT,s0,s1]
      refine tZ 3 ?_;try simp only [Act.put,sT,s0,s1]
      refine tk (i:=4) (oi:= ?_) (v:=undef) ?_ (by kernel_rfl) ?_ (Or.inr ⟨?_,rfl⟩) (by assumption) ?_;rotate_left 1;(focus((try simp only [gT,gs,gz]);try rfl));exact fun _ _ _ h=>h;rfl;try simp only [Act.put,sT,s0,s1]
      refine tk (i:=5) (oi:= ?_) (v:=undef) ?_ (by kernel_rfl) ?_ (Or.inr ⟨?_,rfl⟩) (by assumption) ?_;rotate_left 1;(focus((try simp only [gT,gs,gz]);try rfl));exact fun _ _ _ h=>h;rfl;try simp only [Act.put,sT,s0,s1]
      refine tk (i:=6) (oi:= ?_) (v:=undef) ?_ (by kernel_rfl) ?_ (Or.inr ⟨?_,rfl⟩) (by assumption) ?_;rotate_left 1;(focus((try simp only [gT,gs,gz]);try rfl));exact fun _ _ _ h=>h;rfl;try simp only [Act.put,sT,s0,s1]
      refine tk (i:=7) (oi:= ?_) (v:=undef) ?_ (by kernel_rfl) ?_ (Or.inr ⟨?_,rfl⟩) (by assumption) ?_;rotate_left 1;(focus((try simp only [gT,gs,gz]);try rfl));exact fun _ _ _ h=>h;rfl;try simp only [Act.put,sT,s0,s1]
      refine tk (i:=8) (oi:= ?_) (v:=undef) ?_ (by kernel_rfl) ?_ (Or.inr ⟨?_,rfl⟩) (by assumption) ?_;rotate_left 1;(focus((try simp only [gT,gs,gz]);try rfl));exact fun _ _ _ h=>h;rfl;try simp only [Act.put,sT,s0,s1]
      refine tk (i:=9) (oi:= ?_) (v:=undef) ?_ (by kernel_rfl) ?_ (Or.inr ⟨?_,rfl⟩) (by assumption) ?_;rotate_left 1;(focus((try simp only [gT,gs,gz]);try rfl));exact fun _ _ _ h=>h;rfl;try simp only [Act.put,sT,s0,s1]
      refine tk (i:=10) (oi:= ?_) (v:=undef) ?_ (by kernel_rfl) ?_ (Or.inr ⟨?_,rfl⟩) (by assumption) ?_;rotate_left 1;(focus((try simp only [gT,gs,gz]);try rfl));exact fun _ _ _ h=>h;rfl;try simp only [Act.put,sT,s0,s1]
      refine tk (i:=11) (oi:= ?_) (v:=undef) ?_ (by kernel_rfl) ?_ (Or.inr ⟨?_,rfl⟩) (by assumption) ?_;rotate_left 1;(focus((try simp only [gT,gs,gz]);try rfl));exact fun _ _ _ h=>h;rfl;try simp only [Act.put,sT,s0,s1]
      refine tk (i:=12) (oi:= ?_) (v:=undef) ?_ (by kernel_rfl) ?_ (Or.inr ⟨?_,rfl⟩) (by assumption) ?_;rotate_left 1;(focus((try simp only [gT,gs,gz]);try rfl));exact fun _ _ _ h=>h;rfl;try simp only [Act.put,sT,s0,s1]
      refine tZ 13 ?_;try simp only [Act.put,sT,s0,s1]
      refine wpAnyH_done (by kernel_rfl) ?_ _
      go_wp2_with fail
      go_roundw
      case rel=>exact⟨j+1,_,A,n,c,g,off,qn,qc,out,todo,ps,foot,by omega,by go_num,rfl,rfl,Xcm2.out,Xci2.out,Xkx2.out,XeX2.out,Xhpx.out,Xhms.out⟩
      case measure=>simp [intOf];omega
     |cons y0 rest=>
      have hnz1:nz=rest.length+1:=by rw [hnz,hg];rfl
      obtain⟨bz,oz,rfl,-,hcz⟩:=hcellz (by omega)
      have z0:=hcz 0 y0 (by rw [hg];rfl)
      rw [Nat.add_zero]at z0
      have hnzp:0<nz:=by omega
      have hnzp':((nz:Int)==0)=false:=by simp;omega
      clear hcz hcellz rdr hnz
      obtain⟨W1,hW1⟩: ∃v,v=Value.slice q.A1 d.G.terms.length q.c1:=⟨_,rfl⟩
      obtain⟨W2,hW2⟩: ∃v,v=Value.slice q.A2 d.G.nons.length q.c2:=⟨_,rfl⟩
      obtain⟨W3,hW3⟩: ∃v,v=Value.slice q.A3 d.G.rules.length q.c3:=⟨_,rfl⟩
      have cn:=gram_non ((Xh.out.below cm2.le 2).g) d.st y0
      simp only at cn
      rw [<-hW1,<-hW2,<-hW3]at cn
      rw [<-hW1]at q0
      rw [<-hW2]at q1
      rw [<-hW3]at q2
      have s0:=up_cell cm2.le q0
      have s1:=up_cell cm2.le q1
      have s2:=up_cell cm2.le q2
      have s3:=up_cell cm2.le q3
      have sz:=up_cell cm2.le z0
      have hyb:isNon d.G y0=true-> -9223372036854775808<=y0/\y0<=9223372036854775807:=fun e=>by
       unfold isNon topOf at e
       simp only [Bool.and_eq_true,decide_eq_true_eq]at e
       have h1:=XhK.out.t
       have h2:=XhK.out.n
       omega
      clear q0 q1 q2 q3 hW1 hW2 hW3
      have hpy: ∀W,Below wr.drew.heap.size wr.drew W->(W.cell? ⟨M,0,none⟩=some W1/\W.cell? ⟨M,1,none⟩=some W2/\W.cell? ⟨M,2,none⟩=some W3/\W.cell? ⟨M,3,none⟩=some (.int .i64 d.st)/\W.cell? ⟨bz,oz,none⟩=some (.int .i64 y0)):=fun W b=>⟨up_cell b s0,up_cell b s1,up_cell b s2,up_cell b s3,up_cell b sz⟩
      obtain⟨ny,hny⟩: ∃b,b=isNon d.G y0:=⟨_,rfl⟩
      rw [<-hny]at cn hyb
      obtain⟨Xcm2,Xkx2,XeX2,Xci,Xhk,Xhg,Xhpx,Xhms,XhnR,XhcR,XeR,XhkR,Xhny,Xhyb⟩:=HqZ14 cm2 kx2 eX2 ci hk hg hpx hms hnR hcR eR hkR hny hyb;obtain⟨Xcn,Xhpy,Xhnz1,Xq6,Xz0⟩:=HqZ5 cn hpy hnz1 q6 z0;clear cm2 kx2 eX2 ci hk hg hpx hms hnR hcR eR hkR hny hyb cn hpy hnz1 q6 z0
      go_wp2_with fail
      refine wp_region_held_drew (S:=(fun W=>W.cell? ⟨M,0,none⟩=some W1/\W.cell? ⟨M,1,none⟩=some W2/\W.cell? ⟨M,2,none⟩=some W3/\W.cell? ⟨M,3,none⟩=some (.int .i64 d.st)/\W.cell? ⟨bz,oz,none⟩=some (.int .i64 y0))) (by kernel_rfl) ?_ (fun hHeld=> ?_)
      ·exact⟨s0,s1,s2,s3,sz⟩
      clear s0 s1 s2 s3 sz q5' u1' hkR' k0
      obtain⟨od,hod⟩: ∃o,o=ext wr ow 0:=⟨_,rfl⟩
      rw [<-hod]at Xcm2 XeX2
      clear hod
      generalize wr.drew=wd at *
      refine tZ 0 ?_;try simp only [Act.put,sT,s0,s1]
      refine tZ 1 ?_;try simp only [Act.put,sT,s0,s1]
      refine tZ 2 ?_;try simp only [Act.put,sT,s0,s1]
      refine tZ 3 ?_;try simp only [Act.put,sT,s0,s1]
      refine tZ 4 ?_;try simp only [Act.put,sT,s0,s1]
      refine tZ 5 ?_;try simp only [Act.put,sT,s0,s1]
      refine tZ 6 ?_;try simp only [Act.put,sT,s0,s1]
      refine tZ 7 ?_;try simp only [Act.put,sT,s0,s1]
      refine tZ 8 ?_;try simp only [Act.put,sT,s0,s1]
      refine tZ 9 ?_;try simp only [Act.put,sT,s0,s1]
      refine tZ 10 ?_;try simp only [Act.put,sT,s0,s1]
      refine wpAnyH_ready (rs:=[11]) (by kernel_rfl) (by simp) ?_
      refine AllReadyH.cons (o:= ?_) ?_ (fun K hK=> ?_) AllReadyH.nil;rotate_left 1;(focus((try simp only [gT,gs,gz]);try rfl))
      go_simp
      go_at_call 148
      refine Xcn.out.mono ?_
      rintro e w5 ⟨rfl,b5⟩
      have S5:=Xhpy.out w5 b5
      have cm5:=Xcm2.out.below b5
      have kx5:=Xkx2.out.below b5 Xkx2.out.lt
      have eX5:ext wd od 0 w.heap.size=0:=(ext_old Xkx2.out.lt).trans XeX2.out
      obtain⟨o5,ho5⟩: ∃o,o=ext wd od 0:=⟨_,rfl⟩
      rw [<-ho5]at cm5 eX5
      clear b5 Xcn Xhpy Xcm2 Xkx2 XeX2 hHeld ho5
      obtain⟨XS5,Xcm5,Xkx5,XeX5⟩:=HqZ4 S5 cm5 kx5 eX5;clear S5 cm5 kx5 eX5
      refine hK.out _ _ ?_ (fun hHeld=> ?_)
      ·exact XS5.out
      clear hK K
      try simp only [Act.put,sT,s0,s1]
      refine tZ 12 ?_;try simp only [Act.put,sT,s0,s1]
      refine tZ 13 ?_;try simp only [Act.put,sT,s0,s1]
      refine wpAnyH_done (by kernel_rfl) ?_ _
      cases ny with
      |false=>
       have ci2:=Xci.out.skip Xhk.out (fun y rest' e=>by rw [Xhg.out]at e;injection e with e _;rw [<-e];exact Xhny.out.symm)
       have Xci2:=hide ci2;clear ci2;clear hHeld XS5
       go_wp2_with fail
       go_roundw
       case rel=>exact⟨j+1,_,A,n,c,g,off,qn,qc,out,todo,ps,foot,by omega,by go_num,rfl,rfl,Xcm5.out,Xci2.out,Xkx5.out,XeX5.out,Xhpx.out,Xhms.out⟩
       case measure=>simp [intOf];omega
      |true=>
       have sz:=XS5.out.2.2.2.2
       obtain⟨D,f,m1,mf,mL⟩:=Xcm5.out.map
       have hkey:=nkey_some (Xhyb.out (by first|rfl|trivial))
       have hh:=mf.has y0
       -- the tails
       obtain⟨lt,hlt2,hltl,hlte⟩:=XhP.out.tl kn (by have:=XhkR.out;omega)
       obtain⟨gT,At,nt,ct,eT,ut,rdt,htc,htm⟩:=Xh.out.t.at_ hlt2
       have hl0:=hlte 0 (by rw [Xhg.out];simp)
       rw [Xhg.out]at hl0
       simp only [List.drop_succ_cons,List.drop_zero]at hl0
       obtain⟨hnt,htnc,htcm,hct⟩:=rdt.at_
       have hnt1:nt=rest.length+1:=by rw [hnt,hltl,Xhg.out];rfl
       obtain⟨bt,ot,rfl,-,hct⟩:=hct (by omega)
       obtain⟨pt,p0,p1,hset⟩:=hct 0 _ hl0
       rw [Nat.zero_mul,Nat.add_zero]at p0 p1
       obtain⟨pt,rfl⟩:=hset.ptr
       simp only at p1 hset
       rw [<-XhT.out]at hset
       unfold maxLen at htcm
       have hntp:0<nt:=by omega
       obtain⟨em,hem⟩: ∃b,b=emB d.G rest:=⟨_,rfl⟩
       obtain⟨cT,hcT⟩: ∃n,n=q.ct:=⟨_,rfl⟩
       obtain⟨nT,hnT⟩: ∃n,n=d.tl.length:=⟨_,rfl⟩
       have hkT:(kn:Int)<(nT:Int):=by have:=XhP.out.tll;have:=XhkR.out;omega
       have q6:=Xq6.out
       rw [eT,<-hcT,<-hnT]at q6
       rw [<-hcT,<-hnT]at htc
       rw [<-hcT]at htm
       rw [<-hem]at p1
       clear hlt2 hltl hlte hl0 rdt hnt hct eT Xq6
       obtain⟨Xq6,Xut,Xp0,Xp1,Xhset,Xhem,XhcT,XhnT,Xhnt1⟩:=HqZ9 q6 ut p0 p1 hset hem hcT hnT hnt1;clear q6 ut p0 p1 hset hem hcT hnT hnt1
       by_cases hin:y0∈out.map Co.s
       ·obtain⟨i,hi⟩:=List.mem_iff_getElem?.1 hin
        have hf:f y0=some (i:Int):=(mL y0 i).2 ⟨i,rfl,hi⟩
        have hyes:Maps.has D (nkey y0)=true:=by rw [hh,hf];rfl
        have hat0:=mf.at_ y0 i hf (.lit (.int .i64 0))
        obtain⟨dd,hdd,hds⟩: ∃dd,out[i]? =some dd/\dd.s=y0:=by
         rw [List.getElem?_map]at hi
         exact Option.map_eq_some_iff.1 hi
        clear hh mf mL hf hin hi
        obtain⟨Xhat0,Xhdd,Xhds⟩:=HqZ3 hat0 hdd hds;clear hat0 hdd hds
        go_wp2_with (at_lookup;refine wpList_lookup_own_ok_int _ rfl _ _ 296 rfl 3 3 .i64 Tryz.intKeyed Tryz.underlying296 Tryz.underlying3 (Tryz.zeroInt _) _ _ D rfl m1 _ _ rfl hkey ?_;intro cc hat hwc)
        have hcc:cc=(i:Int):=by
         rw [Xhat0.out]at hat
         injection hat with hat
         injection hat with _ hat
         exact hat.symm
        subst hcc
        clear hat hwc hyes hkey m1 Xhat0 hHeld XS5 sz
        go_wp2_with fail
        have dr:Below w5.heap.size w5 w5.drew:=(Below.refl _ _).drew
        have cmd:=Xcm5.out.below dr
        have kxd:=Xkx5.out.drew
        have eXd:ext w5 o5 0 w.heap.size=0:=(ext_old Xkx5.out.lt).trans XeX5.out
        obtain⟨od,hod⟩: ∃o,o=ext w5 o5 0:=⟨_,rfl⟩
        rw [<-hod]at cmd eXd
        obtain⟨gB,eB,-,b1,b2,fz,tgB⟩:=cmd.at_ Xhdd.out
        subst eB
        have hin:=cmd.lt Xhdd.out
        have hin':(i:Int)<(n:Int):=by omega
        have hcap:=cmd.row.cap
        have a6:=up_cell cmd.le Xq6.out
        have aut:=up_cell cmd.le Xut.out
        have ap0:=up_cell cmd.le Xp0.out
        have ap1:=up_cell cmd.le Xp1.out
        have x0:w5.drew.cell? ⟨w.heap.size,0,none⟩=some (.int .i64 (xn:Int)):=(kxd.cell 0).trans rfl
        have x1:w5.drew.cell? ⟨w.heap.size,1,none⟩=some (.pointer (some ⟨px,0,none⟩)):=(kxd.cell 1).trans rfl
        have x2:w5.drew.cell? ⟨w.heap.size,2,none⟩=some (.bool xs):=(kxd.cell 2).trans rfl
        obtain⟨cc,hcc,-,-,-⟩:=Xci.out.cur
        have hi0n:=cmd.lt hcc
        have co:=look_hand (V:=w5.drew) (M:=M) (g:=gB) (o:=i * 3) (bt:=ps i) (m:=T+1) (px:= .pointer (some ⟨px,0,none⟩)) (pt:= .pointer pt) (fx:=cc.f) (ft:=lnB d.G rest) (Fx:=foot i0) (Ft:=TF V q.ow (fun t=>t=2)) (S:=foot i) (s:=(xn:Int)) (xs:=xs) (em:=em) (d:=dd) (.inr ⟨px,_,rfl,by rw [Xhpx.out];exact cmd.set i0 cc hcc,fun _ h=>h⟩) (Xhset.out.touch (Touch.of_size cmd.le (fun _=>False)) (fun _ _ h=>h)) (cmd.set i dd Xhdd.out) b1 b2 fz (fun e=>by have:=cmd.tag i gB hin e;rw [tgB]at this;omega)
         (by
          by_cases e:i0=i
          ·left
           have:cc=dd:=by
            rw [e]at hcc
            have:=Xhdd.out
            rw [hcc]at this
            injection this
           exact⟨by rw [Xhpx.out,e],by rw [this]⟩
          ·right
           exact fun k h1 h2=>by have g1:=cmd.tag i0 k hi0n h1;have g2:=cmd.tag i k hin h2;omega)
         (fun k h1 h2=>by have:=cmd.low (b:=k) (by rw [cmd.tag i k hin h2];omega);have:=h1.1;omega) (fun k hk=>(cmd.set i0 cc hcc).lt k hk) (fun k hk=>Nat.lt_of_lt_of_le hk.1 cmd.le.size)
        obtain⟨d',hd'⟩: ∃x,x=handC (aliveB (T+1) xs cc.f) xs cc.f (lnB d.G rest) em dd:=⟨_,rfl⟩
        rw [<-hd']at co
        have hal:=alive_iff (m:=T+1) (xs:=xs) (fx:=cc.f) (cmd.set i0 cc hcc).high
        have hln: ∀t,d.G.terms.length+1<=t->lnB d.G rest t=false:=fun t ht=>Xhset.out.high t (by rw [XhT.out];exact ht)
        have hhi: ∀t,T+1<=t->d'.f t=false:=fun t ht=>by
         rw [hd']
         unfold handC
         split
         ·simp only [(cmd.set i dd Xhdd.out).high t ht,(cmd.set i0 cc hcc).high t ht,Xhset.out.high t ht,Bool.and_false,Bool.or_false]
         ·exact(cmd.set i dd Xhdd.out).high t ht
        unfold PtrV at co
        clear dr hod b1 b2 fz tgB hi0n Xcm5 Xkx5 XeX5
        obtain⟨Xcmd,Xkxd,XeXd,Xco,Xhcc,Xhal,Xhln,Xhd',Xhhi⟩:=HqZ9 cmd kxd eXd co hcc hal hln hd' hhi;clear cmd kxd eXd co hcc hal hln hd' hhi
        refine wp_region_held_drew (S:=(fun W=>W.cell? ⟨w.heap.size,0,none⟩=some (.int .i64 (xn:Int))/\W.cell? ⟨w.heap.size,1,none⟩=some (.pointer (some ⟨px,0,none⟩))/\W.cell? ⟨w.heap.size,2,none⟩=some (.bool xs)/\W.cell? ⟨M,6,none⟩=some (.slice (some ⟨gT,0,none⟩) nT cT)/\W.cell? ⟨gT,kn,none⟩=some (.slice (some ⟨bt,ot,none⟩) nt ct)/\W.cell? ⟨bt,ot,none⟩=some (.pointer pt)/\W.cell? ⟨bt,ot+1,none⟩=some (.bool em))) (by kernel_rfl) ?_ (fun hHeld=> ?_)
        ·exact⟨x0,x1,x2,a6,aut,ap0,ap1⟩
        clear x0 x1 x2 a6 aut ap0 ap1
        generalize w5.drew=wd at *
        refine tZ 0 ?_;try simp only [Act.put,sT,s0,s1]
        refine tZ 1 ?_;try simp only [Act.put,sT,s0,s1]
        refine tZ 2 ?_;try simp only [Act.put,sT,s0,s1]
        refine tZ 3 ?_;try simp only [Act.put,sT,s0,s1]
        refine tZ 4 ?_;try simp only [Act.put,sT,s0,s1]
        refine tZ 5 ?_;try simp only [Act.put,sT,s0,s1]
        refine tZ 6 ?_;try simp only [Act.put,sT,s0,s1]
        refine tZ 7 ?_;try simp only [Act.put,sT,s0,s1]
        refine tZ 8 ?_;try simp only [Act.put,sT,s0,s1]
        refine tZ 9 ?_;try simp only [Act.put,sT,s0,s1]
        refine tZ 10 ?_;try simp only [Act.put,sT,s0,s1]
        refine tZ 11 ?_;try simp only [Act.put,sT,s0,s1]
        refine tZ 12 ?_;try simp only [Act.put,sT,s0,s1]
        refine tZ 13 ?_;try simp only [Act.put,sT,s0,s1]
        refine wpAnyH_ready (rs:=[14]) (by kernel_rfl) (by simp) ?_
        refine AllReadyH.cons (o:= ?_) ?_ (fun K hK=> ?_) AllReadyH.nil;rotate_left 1;(focus((try simp only [gT,gs,gz]);try rfl))
        go_simp
        go_at_call 254
        refine Xco.out.mono ?_
        rintro e w7 hp
        have he:=hp.ret
        subst he
        obtain⟨cm7,st7⟩:=Xcmd.out.hand Xhdd.out (by rw [Xhd'.out];exact hand_s) rfl hp
        have kx7:=Xkxd.out.touch st7.t (by rw [XeXd.out];omega)
        have eX7:ext wd od 0 w.heap.size=0:=(st7.eq _ Xkxd.out.lt).trans XeXd.out
        have S7:w7.cell? ⟨w.heap.size,0,none⟩=some (.int .i64 (xn:Int))/\w7.cell? ⟨w.heap.size,1,none⟩=some (.pointer (some ⟨px,0,none⟩))/\w7.cell? ⟨w.heap.size,2,none⟩=some (.bool xs)/\w7.cell? ⟨M,6,none⟩=some (.slice (some ⟨gT,0,none⟩) nT cT)/\w7.cell? ⟨gT,kn,none⟩=some (.slice (some ⟨bt,ot,none⟩) nt ct)/\w7.cell? ⟨bt,ot,none⟩=some (.pointer pt)/\w7.cell? ⟨bt,ot+1,none⟩=some (.bool em):=⟨(kx7.cell 0).trans rfl,(kx7.cell 1).trans rfl,(kx7.cell 2).trans rfl,up_cell cm7.le Xq6.out,up_cell cm7.le Xut.out,up_cell cm7.le Xp0.out,up_cell cm7.le Xp1.out⟩
        obtain⟨o7,ho7⟩: ∃o,o=ext wd od 0:=⟨_,rfl⟩
        rw [<-ho7]at cm7 eX7
        have hmap:(out.set i d').map Co.s=out.map Co.s:=by
         rw [List.map_set,show d'.s=dd.s by rw [Xhd'.out];exact hand_s]
         exact set_get (by rw [List.getElem?_map,Xhdd.out];rfl)
        clear hp st7 ho7 hHeld Xco Xcmd Xkxd XeXd
        obtain⟨XS7,Xcm7,Xkx7,XeX7,Xhmap⟩:=HqZ5 S7 cm7 kx7 eX7 hmap;clear S7 cm7 kx7 eX7 hmap
        refine hK.out _ _ ?_ (fun hHeld=> ?_)
        ·exact XS7.out
        clear hK K
        try simp only [Act.put,sT,s0,s1]
        obtain⟨ch,hch⟩: ∃b,b=chgC (T+1) dd d':=⟨_,rfl⟩
        rw [<-hch]
        have Xhch:=hide hch;clear hch
        cases ch with
        |true=>
         refine tZ 15 ?_;try simp only [Act.put,sT,s0,s1]
         refine tk (i:=16) (oi:= ?_) (v:=undef) ?_ (by kernel_rfl) ?_ (Or.inr ⟨?_,rfl⟩) (by assumption) ?_;rotate_left 1;(focus((try simp only [gT,gs,gz]);try rfl));exact fun _ _ _ h=>h;rfl;try simp only [Act.put,sT,s0,s1]
         refine tk (i:=17) (oi:= ?_) (v:=undef) ?_ (by kernel_rfl) ?_ (Or.inr ⟨?_,rfl⟩) (by assumption) ?_;rotate_left 1;(focus((try simp only [gT,gs,gz]);try rfl));exact fun _ _ _ h=>h;rfl;try simp only [Act.put,sT,s0,s1]
         refine tZ 18 ?_;try simp only [Act.put,sT,s0,s1]
         refine wpAnyH_done (by kernel_rfl) ?_ _
         have ci9:=(Xci.out.push (i:=i) (List.getElem?_eq_some_iff.1 Xhdd.out).1).hand Xhk.out Xhg.out Xhny.out.symm Xhcc.out Xhdd.out Xhds.out (by simp) Xhal.out Xhln.out
         rw [<-Xhem.out,<-Xhd'.out]at ci9
         have ms9:2 * measC N (T+1) (out.set i d')+(todo++[i]).length<κ:=by
          have h1:=measC_set (N:=N) (M:=T+1) (d':=d') Xhdd.out (by rw [Xhd'.out];exact chg_less (by rw [<-Xhd'.out];exact Xhch.out.symm))
          have h2:=Xhms.out
          rw [List.length_append,List.length_singleton]
          omega
         obtain⟨Xci9,Xms9⟩:=HqZ2 ci9 ms9;clear ci9 ms9
         rw [<-Xhmap.out]at Xcm7
         have al:Below w7.heap.size w7 (w7.alloc (.cells #[.int .i64 (i:Int)] 3)):=(Below.refl _ _).alloc (Nat.le_refl _) _
         have cm8:=Xcm7.out.below al
         have kx8:=Xkx7.out.below al Xkx7.out.lt
         have eX8:ext w7 o7 0 w.heap.size=0:=(ext_old Xkx7.out.lt).trans XeX7.out
         have hc8:(w7.alloc (.cells #[.int .i64 (i:Int)] 3)).cell? ⟨w7.heap.size,0,none⟩=some (.int .i64 (i:Int)):=(Blk.new w7 3 #[.int .i64 (i:Int)]).cell 0
         have hz8:=cm8.le.size
         have hqb:qn<=100000:=by
          have h1:=Xms9.out
          have h2:=Xhκ2.out
          have h3:=cm8.q.len
          rw [List.length_map]at h3
          rw [List.length_append,List.length_singleton]at h1
          omega
         clear al Xcm7 Xkx7 XeX7 XS7 hHeld
         obtain⟨Xcm8,Xkx8,XeX8,Xhc8⟩:=HqZ4 cm8 kx8 eX8 hc8;clear cm8 kx8 eX8 hc8
         go_wp2_with (at_builtin;refine wp_push rfl (.tmp 114) (.tmp 116) rfl Xcm8.out.q rfl rfl Xhc8.out (by omega) hz8 ?_)
         intro g' of' c' w9 q9 t9 hg9
         obtain⟨cm9,st9⟩:=Xcm8.out.push q9 t9 (hg9.imp id (fun h=>by simpa using h))
         have kx9:=Xkx8.out.touch st9.t (by rw [XeX8.out];omega)
         have eX9:=(st9.eq _ Xkx8.out.lt).trans XeX8.out
         clear q9 t9 hg9 st9 Xcm8 Xkx8 XeX8 Xhc8 hz8 hqb
         obtain⟨Xcm9,Xkx9,XeX9⟩:=HqZ3 cm9 kx9 eX9;clear cm9 kx9 eX9
         go_wp2_with fail
         go_roundw
         case rel=>exact⟨j+1,_,some ⟨gB,0,none⟩,n,c,g',of',qn+1,c',out.set i d',todo++[i],ps,foot,by omega,by go_num,rfl,rfl,Xcm9.out,Xci9.out,Xkx9.out,XeX9.out,Xhpx.out,Xms9.out⟩
         case measure=>simp [intOf];omega
        |false=>
         refine tZ 15 ?_;try simp only [Act.put,sT,s0,s1]
         refine tZ 16 ?_;try simp only [Act.put,sT,s0,s1]
         refine tZ 17 ?_;try simp only [Act.put,sT,s0,s1]
         refine tZ 18 ?_;try simp only [Act.put,sT,s0,s1]
         refine wpAnyH_done (by kernel_rfl) ?_ _
         have he:=chg_same (al:=aliveB (T+1) xs cc.f) (xs:=xs) (fx:=cc.f) (ln:=lnB d.G rest) (em:=em) (d:=dd) (M:=T+1) (by rw [<-Xhd'.out];exact Xhch.out.symm) (by rw [<-Xhd'.out];exact Xhhi.out)
         have ci9:=Xci.out.same Xhk.out Xhg.out Xhny.out.symm Xhcc.out Xhdd.out Xhds.out Xhal.out (by rw [<-Xhem.out];exact he)
         rw [<-Xhd'.out]at he
         have cm9:=Xcm7.out
         rw [he,set_get Xhdd.out]at cm9
         clear Xcm7 hHeld XS7
         obtain⟨Xci9,Xcm9,Xhe⟩:=HqZ3 ci9 cm9 he;clear ci9 cm9 he
         go_wp2_with fail
         go_roundw
         case rel=>exact⟨j+1,_,some ⟨gB,0,none⟩,n,c,g,off,qn,qc,out,todo,ps,foot,by omega,by go_num,rfl,rfl,Xcm9.out,Xci9.out,Xkx7.out,XeX7.out,Xhpx.out,Xhms.out⟩
         case measure=>simp [intOf];omega
       ·have hno0:f y0=none:=by
         cases hf:f y0 with
         |none=>rfl
         |some v=>
          obtain⟨k',-,hk'⟩:=(mL y0 v).1 hf
          exact absurd (List.mem_of_getElem? hk') hin
        have hnot:Maps.has D (nkey y0)=false:=by rw [hh,hno0];rfl
        have ciN:=Xci.out.new (List.mem_of_getElem? Xhk.out) Xhg.out Xhny.out.symm hin (fun k y rest hr hk=>rgt_of hk hr)
        have hlN:=ciN.toCoSt.len
        rw [List.length_append,List.length_singleton,<-XhN.out]at hlN
        have hNb:N<=120:=by rw [XhN.out];exact XhK.out.n
        have hno:n=(out.map Co.s).length:=by rw [List.length_map];exact Xcm5.out.hn
        have hno':out.length=n:=Xcm5.out.hn.symm
        have hnN:n+1<=120:=by omega
        have hml:(out.map Co.s).length<maxLen:=by rw [<-hno];unfold maxLen;omega
        have hnc:=Xcm5.out.row.cap
        have hwfn:(Lit.int .i64 (n:Int)).wf=true:=wf_i64_mk (by omega)
        have hmsN:=measC_new (N:=N) (M:=T+1) (y:=y0) (out:=out) (by omega)
        rw [hno']at ciN
        obtain⟨w6,hrun6,m6,g6⟩:=m1.update Tryz.intKeyed Tryz.underlying296 hml hkey (plainElem_int Tryz.underlying3 hwfn)
        clear hh hno0
        obtain⟨XciN,XhmsN,Xmf,XmL,Xhno,Xhno',Xhml,Xhin,Xm6,Xg6⟩:=HqZ10 ciN hmsN mf mL hno hno' hml hin m6 g6;clear ciN hmsN mf mL hno hno' hml hin m6 g6
        go_wp2_with (at_lookup;refine wpList_lookup_own_ok_int _ rfl _ _ 296 rfl 3 3 .i64 Tryz.intKeyed Tryz.underlying296 Tryz.underlying3 (Tryz.zeroInt _) _ _ D rfl m1 _ _ rfl hkey ?_;intro cc hat hwc)
        clear hat hwc hnot hrun6
        have m6':w6.ownsMap Tryz.prog 3 (plainElem Tryz.prog 3) mb ((out.map Co.s).length+1) (D.put (nkey y0) (.lit (.int .i64 ((out.map Co.s).length:Int)))):=by have m6:=Xm6.out;rw [<-Xhno.out]at m6⊢;exact m6
        obtain⟨cm6,st6⟩:=Xcm5.out.meet Xmf.out XmL.out Xhin.out m6' Xg6.out
        have kx6:=Xkx5.out.touch st6.t (by rw [XeX5.out];omega)
        have eX6:=(st6.eq _ Xkx5.out.lt).trans XeX5.out
        have sz6:=up_cell cm6.le Xz0.out
        obtain⟨o6,ho6⟩: ∃o,o=ext w5 o5 4:=⟨_,rfl⟩
        rw [<-ho6]at cm6 eX6
        have hmapN:out.map Co.s++[y0]=(out++[(⟨y0,noBits,false⟩:Co)]).map Co.s:=by simp
        rw [hmapN]at cm6
        have dr6:Below w6.heap.size w6 w6.drew:=(Below.refl _ _).drew
        have cm6d:=cm6.below dr6
        have kx6d:=kx6.drew
        have eX6d:ext w6 o6 0 w.heap.size=0:=(ext_old kx6.lt).trans eX6
        obtain⟨o6d,ho6d⟩: ∃o,o=ext w6 o6 0:=⟨_,rfl⟩
        rw [<-ho6d]at cm6d eX6d
        have sz6d:w6.drew.cell? ⟨bz,oz,none⟩=some (.int .i64 y0):=sz6
        clear Xm6 m6' Xg6 st6 hkey m1 hwfn ho6 hmapN dr6 cm6 kx6 eX6 ho6d sz Xcm5 Xkx5 XeX5 XS5 hHeld Xmf XmL Xhml Xhin
        obtain⟨Xcm6d,Xkx6d,XeX6d⟩:=HqZ3 cm6d kx6d eX6d;clear cm6d kx6d eX6d
        refine region_late (fun W=>W.cell? ⟨bz,oz,none⟩=some (.int .i64 y0)) 5 9 (by kernel_rfl) (by kernel_rfl) sz6 ?_
        simp only [List.take_succ_cons,List.take_zero,List.drop_succ_cons,List.drop_zero]
        iterate 5
         refine wpHeld_cons ?_ (by rfl) (fun wS hwS=> ?_) ?_
         rotate_left
         ·(try dsimp only at hwS)
          go_simp
          all_goals with_reducible rfl
         simp only [Act.put,List.setIfInBounds_toArray,List.set_cons_zero,List.set_cons_succ]
        refine wpHeld_nil ?_
        generalize w6.drew=w6d at *
        refine wpMid_cons ?_
        go_wp2_with fail
        refine(Xcset.out _ Xcm6d.out.le).mono ?_
        rintro e wa ⟨b,Sb,rfl,hsb,hSb,ba⟩
        have sza:=up_cell ba sz6d
        obtain⟨Xhsb,XhSb,Xba⟩:=HqZ3 hsb hSb ba;clear hsb hSb ba
        go_wp2_with fail
        refine⟨sza,wpMid_cons ?_⟩
        unfold PtrV
        go_wp2_with fail
        refine⟨sza,wpMid_cons ?_⟩
        have al:Below wa.heap.size wa (wa.alloc (.cells #[.int .i64 y0,.pointer (some ⟨b,0,none⟩),.bool false] 293)):=(Below.refl _ _).alloc (Nat.le_refl _) _
        have szb:=up_cell al sza
        have rone:Rd (wa.alloc (.cells #[.int .i64 y0,.pointer (some ⟨b,0,none⟩),.bool false] 293)) (fun x=>x=wa.heap.size) (.slice (some ⟨wa.heap.size,0,none⟩) 1 1) 3 [.int .i64 y0,.pointer (some ⟨b,0,none⟩),.bool false]:=Rd.one' (w:=wa) (e:=293) [.int .i64 y0,.pointer (some ⟨b,0,none⟩),.bool false] 3 rfl
        have own2:=(Xcm6d.out.row.step (StL.new (fun _=>False) (Xba.out.trans (al.mono Xba.out.size)) _ 0) (fun e=>e)).own
        obtain⟨Xal,Xrone,Xown2⟩:=HqZ3 al rone own2;clear al rone own2
        go_wp2_with fail
        refine⟨szb,wpMid_cons ?_⟩
        generalize hwb:wa.alloc (.cells #[.int .i64 y0,.pointer (some ⟨b,0,none⟩),.bool false] 293)=wb at *
        have Xhwb:=hide hwb;clear hwb
        go_wp2_with (at_builtin;refine wp_append _ rfl (.tmp 86) (.tmp 93) _ rfl Tryz.elemCome 0 (.slice A n c) n (coCells (PsV ps n) out) rfl Xown2.out _ _ [.int .i64 y0,.pointer (some ⟨b,0,none⟩),.bool false] 1 rfl rfl Xrone.out (by intro u hu;simp at hu;rcases hu with rfl|rfl|rfl<;>rfl) (by unfold maxLen;omega) (by omega) (Nat.zero_le _) ?_)
        intro A3 c3 w3 own3 g3 ho3
        obtain⟨o3,cm3,st3⟩:=Xcm6d.out.add Xhsb.out XhSb.out Xba.out Xal.out own3 g3 ho3
        have kx3:=Xkx6d.out.touch st3.t (by rw [XeX6d.out];omega)
        have eX3:=(st3.eq _ Xkx6d.out.lt).trans XeX6d.out
        have sz3:=up_cell cm3.le Xz0.out
        have hi0:i0≠n:=fun e=>by
         obtain⟨cc,hcc,-,-,hh⟩:=Xci.out.cur
         have:=(List.getElem?_eq_some_iff.1 hcc).1
         have:=Xhno'.out
         omega
        have hpx3:px=upd ps n b i0:=by rw [upd_ne hi0];exact Xhpx.out
        obtain⟨dd,hdde⟩: ∃dd:Co,dd=⟨y0,noBits,false⟩:=⟨_,rfl⟩
        have hdd:(out++[dd])[n]? =some dd:=by rw [<-Xhno'.out,List.getElem?_concat_length]
        have hds:dd.s=y0:=by rw [hdde]
        rw [<-hdde]at cm3
        have ciN:=XciN.out
        rw [<-hdde]at ciN
        have hmsN:=XhmsN.out
        rw [<-hdde]at hmsN
        have hmsN2:2 * measC N (T+1) (out++[dd])+todo.length+1<κ:=by have:=Xhms.out;omega
        obtain⟨out3,hout3⟩: ∃o,o=out++[dd]:=⟨_,rfl⟩
        obtain⟨ps3,hps3⟩: ∃o,o=upd ps n b:=⟨_,rfl⟩
        obtain⟨foot3,hfoot3⟩: ∃o,o=upd foot n Sb:=⟨_,rfl⟩
        rw [<-hout3]at cm3 ciN hmsN2 hdd
        rw [<-hps3]at cm3 hpx3
        rw [<-hfoot3]at cm3
        clear own3 g3 ho3 st3 Xcm6d Xkx6d XeX6d Xhsb XhSb Xba Xal Xrone Xown2 Xhwb XhmsN XciN hmsN Xhpx hps3 hfoot3 hout3 hdde hi0 sz6d
        obtain⟨Xcm3,Xkx3,XeX3,XciN,XhmsN2,Xhdd,Xhds⟩:=HqZ7 cm3 kx3 eX3 ciN hmsN2 hdd hds;clear cm3 kx3 eX3 ciN hmsN2 hdd hds;have Xhpx:=hide hpx3;clear hpx3
        refine⟨sz3,wpMid_nil ?_⟩
        go_wp2_with fail
        refine NoPanic.normal ?_
        go_wp2_with fail
        have dr:Below w3.heap.size w3 w3.drew:=(Below.refl _ _).drew
        have cmd:=Xcm3.out.below dr
        have kxd:=Xkx3.out.drew
        have eXd:ext w3 o3 0 w.heap.size=0:=(ext_old Xkx3.out.lt).trans XeX3.out
        obtain⟨od,hod⟩: ∃o,o=ext w3 o3 0:=⟨_,rfl⟩
        rw [<-hod]at cmd eXd
        obtain⟨gB,eB,-,b1,b2,fz,tgB⟩:=cmd.at_ Xhdd.out
        subst eB
        have hin:=cmd.lt Xhdd.out
        have hin':(n:Int)<((n+1):Int):=by omega
        have hcap:=cmd.row.cap
        have a6:=up_cell cmd.le Xq6.out
        have aut:=up_cell cmd.le Xut.out
        have ap0:=up_cell cmd.le Xp0.out
        have ap1:=up_cell cmd.le Xp1.out
        have x0:w3.drew.cell? ⟨w.heap.size,0,none⟩=some (.int .i64 (xn:Int)):=(kxd.cell 0).trans rfl
        have x1:w3.drew.cell? ⟨w.heap.size,1,none⟩=some (.pointer (some ⟨px,0,none⟩)):=(kxd.cell 1).trans rfl
        have x2:w3.drew.cell? ⟨w.heap.size,2,none⟩=some (.bool xs):=(kxd.cell 2).trans rfl
        obtain⟨cc,hcc,-,-,-⟩:=XciN.out.cur
        have hi0n:=cmd.lt hcc
        have co:=look_hand (V:=w3.drew) (M:=M) (g:=gB) (o:=n * 3) (bt:=ps3 n) (m:=T+1) (px:= .pointer (some ⟨px,0,none⟩)) (pt:= .pointer pt) (fx:=cc.f) (ft:=lnB d.G rest) (Fx:=foot3 i0) (Ft:=TF V q.ow (fun t=>t=2)) (S:=foot3 n) (s:=(xn:Int)) (xs:=xs) (em:=em) (d:=dd) (.inr ⟨px,_,rfl,by rw [Xhpx.out];exact cmd.set i0 cc hcc,fun _ h=>h⟩) (Xhset.out.touch (Touch.of_size cmd.le (fun _=>False)) (fun _ _ h=>h)) (cmd.set n dd Xhdd.out) b1 b2 fz (fun e=>by have:=cmd.tag n gB hin e;rw [tgB]at this;omega)
         (by
          by_cases e:i0=n
          ·left
           have:cc=dd:=by
            rw [e]at hcc
            have:=Xhdd.out
            rw [hcc]at this
            injection this
           exact⟨by rw [Xhpx.out,e],by rw [this]⟩
          ·right
           exact fun k h1 h2=>by have g1:=cmd.tag i0 k hi0n h1;have g2:=cmd.tag n k hin h2;omega)
         (fun k h1 h2=>by have:=cmd.low (b:=k) (by rw [cmd.tag n k hin h2];omega);have:=h1.1;omega) (fun k hk=>(cmd.set i0 cc hcc).lt k hk) (fun k hk=>Nat.lt_of_lt_of_le hk.1 cmd.le.size)
        obtain⟨d',hd'⟩: ∃x,x=handC (aliveB (T+1) xs cc.f) xs cc.f (lnB d.G rest) em dd:=⟨_,rfl⟩
        rw [<-hd']at co
        have hal:=alive_iff (m:=T+1) (xs:=xs) (fx:=cc.f) (cmd.set i0 cc hcc).high
        have hln: ∀t,d.G.terms.length+1<=t->lnB d.G rest t=false:=fun t ht=>Xhset.out.high t (by rw [XhT.out];exact ht)
        have hhi: ∀t,T+1<=t->d'.f t=false:=fun t ht=>by
         rw [hd']
         unfold handC
         split
         ·simp only [(cmd.set n dd Xhdd.out).high t ht,(cmd.set i0 cc hcc).high t ht,Xhset.out.high t ht,Bool.and_false,Bool.or_false]
         ·exact(cmd.set n dd Xhdd.out).high t ht
        unfold PtrV at co
        clear dr hod b1 b2 fz tgB hi0n Xcm3 Xkx3 XeX3
        obtain⟨Xcmd,Xkxd,XeXd,Xco,Xhcc,Xhal,Xhln,Xhd',Xhhi⟩:=HqZ9 cmd kxd eXd co hcc hal hln hd' hhi;clear cmd kxd eXd co hcc hal hln hd' hhi
        refine wp_region_held_drew (S:=(fun W=>W.cell? ⟨w.heap.size,0,none⟩=some (.int .i64 (xn:Int))/\W.cell? ⟨w.heap.size,1,none⟩=some (.pointer (some ⟨px,0,none⟩))/\W.cell? ⟨w.heap.size,2,none⟩=some (.bool xs)/\W.cell? ⟨M,6,none⟩=some (.slice (some ⟨gT,0,none⟩) nT cT)/\W.cell? ⟨gT,kn,none⟩=some (.slice (some ⟨bt,ot,none⟩) nt ct)/\W.cell? ⟨bt,ot,none⟩=some (.pointer pt)/\W.cell? ⟨bt,ot+1,none⟩=some (.bool em))) (by kernel_rfl) ?_ (fun hHeld=> ?_)
        ·exact⟨x0,x1,x2,a6,aut,ap0,ap1⟩
        clear x0 x1 x2 a6 aut ap0 ap1
        generalize w3.drew=wd at *
        refine tZ 0 ?_;try simp only [Act.put,sT,s0,s1]
        refine tZ 1 ?_;try simp only [Act.put,sT,s0,s1]
        refine tZ 2 ?_;try simp only [Act.put,sT,s0,s1]
        refine tZ 3 ?_;try simp only [Act.put,sT,s0,s1]
        refine tZ 4 ?_;try simp only [Act.put,sT,s0,s1]
        refine tZ 5 ?_;try simp only [Act.put,sT,s0,s1]
        refine tZ 6 ?_;try simp only [Act.put,sT,s0,s1]
        refine tZ 7 ?_;try simp only [Act.put,sT,s0,s1]
        refine tZ 8 ?_;try simp only [Act.put,sT,s0,s1]
        refine tZ 9 ?_;try simp only [Act.put,sT,s0,s1]
        refine tZ 10 ?_;try simp only [Act.put,sT,s0,s1]
        refine tZ 11 ?_;try simp only [Act.put,sT,s0,s1]
        refine tZ 12 ?_;try simp only [Act.put,sT,s0,s1]
        refine tZ 13 ?_;try simp only [Act.put,sT,s0,s1]
        refine wpAnyH_ready (rs:=[14]) (by kernel_rfl) (by simp) ?_
        refine AllReadyH.cons (o:= ?_) ?_ (fun K hK=> ?_) AllReadyH.nil;rotate_left 1;(focus((try simp only [gT,gs,gz]);try rfl))
        go_simp
        go_at_call 254
        refine Xco.out.mono ?_
        rintro e w7 hp
        have he:=hp.ret
        subst he
        obtain⟨cm7,st7⟩:=Xcmd.out.hand Xhdd.out (by rw [Xhd'.out];exact hand_s) rfl hp
        have kx7:=Xkxd.out.touch st7.t (by rw [XeXd.out];omega)
        have eX7:ext wd od 0 w.heap.size=0:=(st7.eq _ Xkxd.out.lt).trans XeXd.out
        have S7:w7.cell? ⟨w.heap.size,0,none⟩=some (.int .i64 (xn:Int))/\w7.cell? ⟨w.heap.size,1,none⟩=some (.pointer (some ⟨px,0,none⟩))/\w7.cell? ⟨w.heap.size,2,none⟩=some (.bool xs)/\w7.cell? ⟨M,6,none⟩=some (.slice (some ⟨gT,0,none⟩) nT cT)/\w7.cell? ⟨gT,kn,none⟩=some (.slice (some ⟨bt,ot,none⟩) nt ct)/\w7.cell? ⟨bt,ot,none⟩=some (.pointer pt)/\w7.cell? ⟨bt,ot+1,none⟩=some (.bool em):=⟨(kx7.cell 0).trans rfl,(kx7.cell 1).trans rfl,(kx7.cell 2).trans rfl,up_cell cm7.le Xq6.out,up_cell cm7.le Xut.out,up_cell cm7.le Xp0.out,up_cell cm7.le Xp1.out⟩
        obtain⟨o7,ho7⟩: ∃o,o=ext wd od 0:=⟨_,rfl⟩
        rw [<-ho7]at cm7 eX7
        have hmap:(out3.set n d').map Co.s=out3.map Co.s:=by
         rw [List.map_set,show d'.s=dd.s by rw [Xhd'.out];exact hand_s]
         exact set_get (by rw [List.getElem?_map,Xhdd.out];rfl)
        clear hp st7 ho7 hHeld Xco Xcmd Xkxd XeXd
        obtain⟨XS7,Xcm7,Xkx7,XeX7,Xhmap⟩:=HqZ5 S7 cm7 kx7 eX7 hmap;clear S7 cm7 kx7 eX7 hmap
        refine hK.out _ _ ?_ (fun hHeld=> ?_)
        ·exact XS7.out
        clear hK K
        try simp only [Act.put,sT,s0,s1]
        obtain⟨ch,hch⟩: ∃b,b=chgC (T+1) dd d':=⟨_,rfl⟩
        rw [<-hch]
        have Xhch:=hide hch;clear hch
        have ci9:=XciN.out.hand Xhk.out Xhg.out Xhny.out.symm Xhcc.out Xhdd.out Xhds.out (by simp) Xhal.out Xhln.out
        rw [<-Xhem.out,<-Xhd'.out]at ci9
        have ms9:2 * measC N (T+1) (out3.set n d')+(todo++[n]).length<κ:=by
         have h2:=XhmsN2.out
         have h1:measC N (T+1) (out3.set n d')<=measC N (T+1) out3:=by
          cases hc:chgC (T+1) dd d' with
          |true=>exact Nat.le_of_lt (measC_set (N:=N) (M:=T+1) (d':=d') Xhdd.out (by rw [Xhd'.out];exact chg_less (by rw [<-Xhd'.out];exact hc)))
          |false=>
           have he:=chg_same (al:=aliveB (T+1) xs cc.f) (xs:=xs) (fx:=cc.f) (ln:=lnB d.G rest) (em:=em) (d:=dd) (M:=T+1) (by rw [<-Xhd'.out];exact hc) (by rw [<-Xhd'.out];exact Xhhi.out)
           rw [<-Xhd'.out]at he
           rw [he,set_get Xhdd.out]
           exact Nat.le_refl _
         rw [List.length_append,List.length_singleton]
         omega
        obtain⟨Xci9,Xms9⟩:=HqZ2 ci9 ms9;clear ci9 ms9
        cases ch with
        |true=>
         refine tZ 15 ?_;try simp only [Act.put,sT,s0,s1]
         refine tk (i:=16) (oi:= ?_) (v:=undef) ?_ (by kernel_rfl) ?_ (Or.inr ⟨?_,rfl⟩) (by assumption) ?_;rotate_left 1;(focus((try simp only [gT,gs,gz]);try rfl));exact fun _ _ _ h=>h;rfl;try simp only [Act.put,sT,s0,s1]
         refine tk (i:=17) (oi:= ?_) (v:=undef) ?_ (by kernel_rfl) ?_ (Or.inr ⟨?_,rfl⟩) (by assumption) ?_;rotate_left 1;(focus((try simp only [gT,gs,gz]);try rfl));exact fun _ _ _ h=>h;rfl;try simp only [Act.put,sT,s0,s1]
         refine tZ 18 ?_;try simp only [Act.put,sT,s0,s1]
         refine wpAnyH_done (by kernel_rfl) ?_ _
         rw [<-Xhmap.out]at Xcm7
         have al:Below w7.heap.size w7 (w7.alloc (.cells #[.int .i64 (n:Int)] 3)):=(Below.refl _ _).alloc (Nat.le_refl _) _
         have cm8:=Xcm7.out.below al
         have kx8:=Xkx7.out.below al Xkx7.out.lt
         have eX8:ext w7 o7 0 w.heap.size=0:=(ext_old Xkx7.out.lt).trans XeX7.out
         have hc8:(w7.alloc (.cells #[.int .i64 (n:Int)] 3)).cell? ⟨w7.heap.size,0,none⟩=some (.int .i64 (n:Int)):=(Blk.new w7 3 #[.int .i64 (n:Int)]).cell 0
         have hz8:=cm8.le.size
         have hqb:qn<=100000:=by
          have h1:=Xms9.out
          have h2:=Xhκ2.out
          have h3:=cm8.q.len
          rw [List.length_map]at h3
          rw [List.length_append,List.length_singleton]at h1
          omega
         clear al Xcm7 Xkx7 XeX7 XS7 hHeld
         obtain⟨Xcm8,Xkx8,XeX8,Xhc8⟩:=HqZ4 cm8 kx8 eX8 hc8;clear cm8 kx8 eX8 hc8
         go_wp2_with (at_builtin;refine wp_push rfl (.tmp 114) (.tmp 116) rfl Xcm8.out.q rfl rfl Xhc8.out (by omega) hz8 ?_)
         intro g' of' c' w9 q9 t9 hg9
         obtain⟨cm9,st9⟩:=Xcm8.out.push q9 t9 (hg9.imp id (fun h=>by simpa using h))
         have kx9:=Xkx8.out.touch st9.t (by rw [XeX8.out];omega)
         have eX9:=(st9.eq _ Xkx8.out.lt).trans XeX8.out
         clear q9 t9 hg9 st9 Xcm8 Xkx8 XeX8 Xhc8 hz8 hqb
         obtain⟨Xcm9,Xkx9,XeX9⟩:=HqZ3 cm9 kx9 eX9;clear cm9 kx9 eX9
         go_wp2_with fail
         go_roundw
         case rel=>exact⟨j+1,_,some ⟨gB,0,none⟩,(n+1),c3,g',of',qn+1,c',out3.set n d',todo++[n],ps3,foot3,by omega,by go_num,rfl,rfl,Xcm9.out,Xci9.out,Xkx9.out,XeX9.out,Xhpx.out,Xms9.out⟩
         case measure=>simp [intOf];omega
        |false=>
         refine tZ 15 ?_;try simp only [Act.put,sT,s0,s1]
         refine tZ 16 ?_;try simp only [Act.put,sT,s0,s1]
         refine tZ 17 ?_;try simp only [Act.put,sT,s0,s1]
         refine tZ 18 ?_;try simp only [Act.put,sT,s0,s1]
         refine wpAnyH_done (by kernel_rfl) ?_ _
         rw [<-Xhmap.out]at Xcm7
         have al:Below w7.heap.size w7 (w7.alloc (.cells #[.int .i64 (n:Int)] 3)):=(Below.refl _ _).alloc (Nat.le_refl _) _
         have cm8:=Xcm7.out.below al
         have kx8:=Xkx7.out.below al Xkx7.out.lt
         have eX8:ext w7 o7 0 w.heap.size=0:=(ext_old Xkx7.out.lt).trans XeX7.out
         have hc8:(w7.alloc (.cells #[.int .i64 (n:Int)] 3)).cell? ⟨w7.heap.size,0,none⟩=some (.int .i64 (n:Int)):=(Blk.new w7 3 #[.int .i64 (n:Int)]).cell 0
         have hz8:=cm8.le.size
         have hqb:qn<=100000:=by
          have h1:=Xms9.out
          have h2:=Xhκ2.out
          have h3:=cm8.q.len
          rw [List.length_map]at h3
          rw [List.length_append,List.length_singleton]at h1
          omega
         clear al Xcm7 Xkx7 XeX7 XS7 hHeld
         obtain⟨Xcm8,Xkx8,XeX8,Xhc8⟩:=HqZ4 cm8 kx8 eX8 hc8;clear cm8 kx8 eX8 hc8
         go_wp2_with (at_builtin;refine wp_push rfl (.tmp 114) (.tmp 116) rfl Xcm8.out.q rfl rfl Xhc8.out (by omega) hz8 ?_)
         intro g' of' c' w9 q9 t9 hg9
         obtain⟨cm9,st9⟩:=Xcm8.out.push q9 t9 (hg9.imp id (fun h=>by simpa using h))
         have kx9:=Xkx8.out.touch st9.t (by rw [XeX8.out];omega)
         have eX9:=(st9.eq _ Xkx8.out.lt).trans XeX8.out
         clear q9 t9 hg9 st9 Xcm8 Xkx8 XeX8 Xhc8 hz8 hqb
         obtain⟨Xcm9,Xkx9,XeX9⟩:=HqZ3 cm9 kx9 eX9;clear cm9 kx9 eX9
         go_wp2_with fail
         go_roundw
         case rel=>exact⟨j+1,_,some ⟨gB,0,none⟩,(n+1),c3,g',of',qn+1,c',out3.set n d',todo++[n],ps3,foot3,by omega,by go_num,rfl,rfl,Xcm9.out,Xci9.out,Xkx9.out,XeX9.out,Xhpx.out,Xms9.out⟩
         case measure=>simp [intOf];omega
    ·have hlt': ¬(j:Int)<(nx:Int):=by omega
     have ca2:=ci.end_ (by rw [<-Xhnx.out];omega)
     have hJ: ∃κ',κ'<κ/\2 * measC N (T+1) out+todo.length=κ'/\κ'<=100000:=⟨_,hms,rfl,by have:=Xhκ2.out;omega⟩
     obtain⟨κ',hκ1,hκ3,hκ4⟩:=hJ
     obtain⟨Xcm,Xca2,Xhκ1,Xhκ3,Xhκ4⟩:=HqZ5 cm ca2 hκ1 hκ3 hκ4;clear cm ca2 hκ1 hκ3 hκ4;clear ci hpx hms kx
     go_wp2_with fail
     go_step3
     exact⟨rfl,κ',Xhκ1.out,ow,mb,A,n,c,g,off,qn,qc,out,todo,ps,foot,frC_ex rfl,Xcm.out,Xca2.out,Xhκ3.out.symm,Xhκ4.out⟩
end Go.Proofs.YthlbjgabhpdbfaaGreat

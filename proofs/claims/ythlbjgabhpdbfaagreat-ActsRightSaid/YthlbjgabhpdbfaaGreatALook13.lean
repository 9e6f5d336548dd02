/- Lookaheads: where a kernel item's lookaheads go: what lies in memory. -/
import Derived.Test.YthlbjgabhpdbfaaGreatALook9
import Derived.Test.YthlbjgabhpdbfaaGreatALook10
import Derived.Deep.CutRange
namespace Go.Proofs.YthlbjgabhpdbfaaGreat
set_option linter.unusedVariables false
set_option linter.unusedSimpArgs false
open Go.RowKit Go.Maps
attribute [local irreducible] wpStill wpOne wpPh
def JI (j:Nat):Prop:=j=0\/j=8\/j=9\/j=10
structure LkD (d:LD):Prop where
 hP:PrepD d
 nc:d.nc=topOf d.G+1
 hK:KnA d.G d.st
 hA:IsAuto d.G d.st d.D
 ba:BaOk d
 bl:d.ba.length=d.D.length
 co: ∀s:Int,isNon d.G s=true->ComesOf d.G d.st s (d.cm s.toNat)
structure SI (V:World) (ow:Nat->Nat) (M:Nat) (L:List (Nat×TypeId×Array Value)) (Sx:List (Value×(Nat->Bool))) (d:LD) (w:World) (q:LQ) (y:Dy):Prop where
 k:MK w q d y
 M:q.M=M
 bx: ∀z∈L,Blk w z.1 z.2.1 z.2.2/\q.ow z.1=2
 sx: ∀z∈Sx,SetP w (TF w q.ow (fun t=>t=2)) (d.T+1) z.1 z.2
 st:StL JI V ow w q.ow
section
variable {V : World} {ow : Nat -> Nat} {M : Nat} {L : List (Nat × TypeId × Array Value)} {Sx : List (Value × (Nat -> Bool))} {d : LD} {w w' : World} {q q' : LQ} {y y' : Dy} {J : Nat -> Prop}
theorem SI.step (h:SI V ow M L Sx d w q y) (mk:MK w' q' d y') (hM:q'.M=M) (s:StL J w q.ow w' q'.ow) (h2: ¬J 2) (hJ: ∀j,J j->JI j):SI V ow M L Sx d w' q' y' where
 k:=mk
 M:=hM
 bx:=fun z hz=>⟨(h.bx z hz).1.touch s.t (by rw [(h.bx z hz).2];exact h2),(s.eq _ (h.bx z hz).1.lt).trans (h.bx z hz).2⟩
 sx:=fun z hz=>(h.sx z hz).step s (fun t ht=>by rw [ht];exact h2)
 st:=h.st.trans (s.mono hJ)
theorem SI.below (h:SI V ow M L Sx d w q y) (b:Below w.heap.size w w'):SI V ow M L Sx d w' {q with ow:=ext w q.ow 2} y:=
 h.step (h.k.below b 2) h.M (StL.new (fun _=>False) b q.ow 2) (fun e=>e) (fun _ e=>e.elim)
theorem SI.below' (h:SI V ow M L Sx d w q y) (b:Below w.heap.size w w'): ∃q',SI V ow M L Sx d w' q' y:=⟨_,h.below b⟩
theorem SI.box (h:SI V ow M L Sx d w q y) (t:TypeId) (cs:Array Value): ∃q',SI V ow M ((w.heap.size,t,cs)::L) Sx d (w.alloc (.cells cs t)) q' y:=by
 have b:Below w.heap.size w (w.alloc (.cells cs t)):=(Below.refl _ _).alloc (Nat.le_refl _) _
 have g:=h.below b
 refine⟨_,g.k,g.M,fun z hz=> ?_,g.sx,g.st⟩
 rcases List.mem_cons.1 hz with rfl|hz
 ·exact⟨Blk.new _ _ _,ext_new (Nat.le_refl _)⟩
 ·exact g.bx z hz
theorem SI.boxB {B:Nat} {t:TypeId} {cs:Array Value} (h:SI V ow M L Sx d w q y) (b:Below w.heap.size w w') (hB:w.heap.size<=B) (k:Blk w' B t cs): ∃q',SI V ow M ((B,t,cs)::L) Sx d w' q' y:=by
 have g:=h.below b
 refine⟨_,g.k,g.M,fun z hz=> ?_,g.sx,g.st⟩
 rcases List.mem_cons.1 hz with rfl|hz
 ·exact⟨k,ext_new hB⟩
 ·exact g.bx z hz
theorem SI.set {p:Value} {f:Nat->Bool} (h:SI V ow M L Sx d w q y) (b:Below w.heap.size w w') (hp:SetP w' (fun k=>TF w q.ow (fun t=>t=2) k\/(w.heap.size<=k/\k<w'.heap.size)) (d.T+1) p f): ∃q',SI V ow M L ((p,f)::Sx) d w' q' y:=by
 have g:=h.below b
 refine⟨_,g.k,g.M,g.bx,fun z hz=> ?_,g.st⟩
 rcases List.mem_cons.1 hz with rfl|hz
 ·refine hp.mono fun k hk=> ?_
  rcases hk with hk|hk
  ·exact⟨Nat.lt_of_lt_of_le hk.1 b.size,by show ext w q.ow 2 k=2;rw [ext_old hk.1];exact hk.2⟩
  ·exact⟨hk.2,ext_new hk.1⟩
 ·exact g.sx z hz
theorem SI.drop {z:Nat×TypeId×Array Value} (h:SI V ow M (z::L) Sx d w q y):SI V ow M L Sx d w q y:=⟨h.k,h.M,fun x hx=>h.bx x (List.mem_cons_of_mem _ hx),h.sx,h.st⟩
theorem SI.dropS {z:Value×(Nat->Bool)} (h:SI V ow M L (z::Sx) d w q y):SI V ow M L Sx d w q y:=⟨h.k,h.M,h.bx,fun x hx=>h.sx x (List.mem_cons_of_mem _ hx),h.st⟩
theorem SI.cell {b:Nat} {t:TypeId} {cs:Array Value} (h:SI V ow M L Sx d w q y) (hz:(b,t,cs)∈L) (i:Nat):w.cell? ⟨b,i,none⟩=cs[i]? :=((h.bx _ hz).1.cell i).trans rfl
theorem SI.base (h:SI V ow M L Sx d w q y):SI w q.ow M L Sx d w q y:=⟨h.k,h.M,h.bx,h.sx,StL.refl _ _ _⟩
theorem SI.addS {z:Value×(Nat->Bool)} (h:SI V ow M L Sx d w q y) (hz:SetP w (TF w q.ow (fun t=>t=2)) (d.T+1) z.1 z.2):SI V ow M L (z::Sx) d w q y:=⟨h.k,h.M,h.bx,fun x hx=>by
 rcases List.mem_cons.1 hx with rfl|hx
 ·exact hz
 ·exact h.sx x hx,h.st⟩
theorem SI.edge {ps:List Value} {e:Ed} {p:Value} {A':Option Addr} {c':Nat} {wA w4:World} (h:SI V ow M L Sx d w q y) (hp:SetP w (TF w q.ow (fun t=>t=2)) (d.T+1) p e.f) (b:Below w.heap.size w wA)
  (h1:ps.length=y.ed.length) (h2:Row w q.ow 9 290 4 q.Ae y.ed.length q.ce (edCells ps y.ed)) (h3: ∀(j:Nat) p x,ps[j]? =some p->y.ed[j]? =some x->SetP w (TF w q.ow (fun t=>t=2)) (d.T+1) p x.f)
  (own:w4.ownsRow 0 290 4 (.slice A' (y.ed.length+1) c') (y.ed.length+1) (edCells ps y.ed++[.int .i64 e.tq9,.int .i64 (e.at_:Int),p,.bool e.self])) (g:wA.grownBy w4 (Value.slice q.Ae y.ed.length q.ce).ownBlock) (hb:(Value.slice A' (y.ed.length+1) c').ownBlock=(Value.slice q.Ae y.ed.length q.ce).ownBlock\/(Value.slice A' (y.ed.length+1) c').ownBlock=some wA.heap.size):
  w4.cell? ⟨M,11,none⟩=some (.slice q.Ae y.ed.length q.ce)/\(∀z∈L,∀(i:Nat) v,z.2.2[i]? =some v->w4.cell? ⟨z.1,i,none⟩=some v)/\w4.frozen? ⟨M,11,none⟩=false/\ ∃q',SI V ow M L Sx d (w4.setCell ⟨M,11,none⟩ (.slice A' (y.ed.length+1) c')) q' {y with ed:=y.ed++[e]}:=by
 have g2:=h.below b
 have sA:StL (fun _=>False) w q.ow wA (ext w q.ow 2):=StL.new _ b _ 2
 have r2:=h2.step sA (fun e=>e)
 have p2:=hp.step sA (fun _ _ e=>e)
 have q3:=fun j p x hp hx=>(h3 j p x hp hx).step sA (fun _ _ e=>e)
 obtain⟨row,s⟩:=r2.app own g hb
 have he:EdV w4 (ext wA (ext w q.ow 2) 9) A' c' (d.T+1) (y.ed++[e]):=by
  refine⟨ps++[p],by simp [h1],?_,fun j u x hu hx=> ?_⟩
  ·have e1:edCells (ps++[p]) (y.ed++[e])=edCells ps y.ed++[.int .i64 e.tq9,.int .i64 (e.at_:Int),p,.bool e.self]:=by
    unfold edCells
    rw [List.zip_append h1,List.flatMap_append];rfl
   rw [e1,List.length_append]
   exact row
  ·by_cases hj:j<ps.length
   ·rw [List.getElem?_append_left hj]at hu
    rw [List.getElem?_append_left (by omega)]at hx
    exact(q3 j u x hu hx).step s (fun t ht=>by omega)
   ·have hj':j=ps.length:=by have:=(List.getElem?_eq_some_iff.1 hu).1;simp at this;omega
    subst hj'
    rw [List.getElem?_append_right (Nat.le_refl _),Nat.sub_self]at hu
    rw [List.getElem?_append_right (by omega),h1,Nat.sub_self]at hx
    injection hu with hu
    injection hx with hx
    subst hu hx
    exact p2.step s (fun t ht=>by omega)
 obtain⟨q',mk,hM,st⟩:=g2.k.putE he s
 rw [List.length_append,List.length_singleton]at mk st
 rw [g2.M]at hM
 have hM2:({q with ow:=ext w q.ow 2}:LQ).M=M:=h.M
 rw [hM2]at mk st
 refine⟨?_,fun z hz i v hv=>(((g2.bx z hz).1.touch s.t (by have h9:ext w q.ow 2 z.1=2:=(g2.bx z hz).2;rw [h9];omega)).cell i).trans hv,?_,q',g2.step mk hM st (by omega) (fun j hj=>by unfold JI;omega)⟩
 ·have htm:ext w q.ow 2 q.M=0:=g2.k.tm
  have hbx:=g2.k.box.touch s.t (by show¬ext w q.ow 2 q.M=9;rw [htm];omega)
  rw [hM2]at hbx
  exact(hbx.cell 11).trans rfl
 have htm:ext w q.ow 2 q.M=0:=g2.k.tm
 have hbx:=g2.k.box.touch s.t (by show¬ext w q.ow 2 q.M=9;rw [htm];omega)
 rw [hM2]at hbx
 exact hbx.frozen 11
end
def ItemPost (V:World) (q:LQ) (d:LD) (y:Dy) (p i:Nat) (x:It) (e:Ending) (V':World):Prop:=e= .returned (.tuple #[])/\ ∃q' y',MK V' q' d y'/\q'.M=q.M/\StL JI V q.ow V' q'.ow/\ItI d d.cm y'/\GrI y y'/\Full d.G d.st d.D d.cm y'.ed y'.fi p i x/\y'.ed.length<=y.ed.length+40000
def CutI (W:World) (ow:Nat->Nat) (M:Nat) (L:List (Nat×TypeId×Array Value)) (Sx:List (Value×(Nat->Bool))) (d:LD) (i:Nat) (kn:Int) (yb:Dy) (v:Value) (wx:World):Prop:= ∃(q':LQ) (y':Dy) (t:Nat),v= .int .i64 (t:Int)/\SI W ow M L Sx d wx q' y'/\ItI d d.cm y'/\GrI yb y'/\y'.ed=yb.ed/\((rgt d.G d.st kn=[]/\(kn,t)∈y'.fi i)\/ ∃(y0:Int) (r:List Int) (j:Nat),rgt d.G d.st kn=y0::r/\gotoD d.D i y0=(j:Int)/\KP d.D t j (kn,1))
theorem full_of {G:GramD} {st:Int} {d:LD} {y:Dy} {p i:Nat} {x:It} {s:Int} (hG:d.G=G) (hst:d.st=st) (hb:behindI G st x=(s,true)) (hA: ∃e∈y.ed,e.at_=p/\EA d.D e i x s) (hB:isNon G s=true-> ∀c∈d.cm s.toNat,∀k∈ofOf G c.s,DoneK d p i x c k y):Full G st d.D d.cm y.ed y.fi p i x:=fun s' hs'=>by
 subst hG hst
 rw [hb]at hs'
 injection hs' with e _
 subst e
 exact⟨hA,hB⟩
theorem Tryz.infoEdge:(Tryz.prog.info? 290).map (fun i=>(i.zero,i.size,i.bytes))=some (some (.agg #[.int .i64 0,.int .i64 0,.pointer none,.bool false]),4,32):=by kernel_rfl
theorem Tryz.elemEdge:Elem Tryz.prog 254 290 (.agg #[.int .i64 0,.int .i64 0,.pointer none,.bool false]) 4 32:=⟨Tryz.underlying254,Tryz.infoEdge,rfl,by decide⟩
theorem full_end {G:GramD} {st:Int} {D:Sts0} {cm:Nat->List Co} {ed:List Ed} {fi:Fin0} {p i:Nat} {x:It} (h:(rgt G st x.1).length<=x.2.toNat) (h0:0<=x.2):Full G st D cm ed fi p i x:=fun s hs=>by
 obtain⟨-,h2,-⟩:=behind_right hs
 unfold rgt at h
 omega
set_option maxRecDepth 100000 in
set_option maxHeartbeats 16000000 in
theorem look_item {V:World} {q:LQ} {d:LD} {y:Dy} (h:MK V q d y) (hL:LkD d) (hI:ItI d d.cm y) (hl:y.ed.length<=1000000000000) {p i:Nat} {x:It} (hp:KP d.D p i x):
  Calls Tryz.prog 198 #[PtrV q.M,.int .i64 (i:Int),.int .i64 (p:Int),.agg #[.int .i64 x.1,.int .i64 x.2]] V (ItemPost V q d y p i x):=by
 obtain⟨e,he,hx⟩:=hp.mem
 have hr:=(hL.hA.kern i e x he hx).1
 obtain⟨⟨x0,-⟩,x2,x3⟩:=hL.hK.right hr
 have hi:=(List.getElem?_eq_some_iff.1 he).1
 obtain⟨k0,d0⟩:=x
 simp only at x0 x2 x3
 obtain⟨k,rfl⟩:=Int.eq_ofNat_of_zero_le x0
 obtain⟨dt,rfl⟩:=Int.eq_ofNat_of_zero_le x2
 have hkR:k<=d.G.rules.length:=by
  apply Classical.byContradiction
  intro hn
  unfold rightI ruleOf at hr
  rw [if_pos (by simp only;omega)]at hr
  simp at hr
 obtain⟨M,hM⟩: ∃x,x=q.M:=⟨_,rfl⟩
 obtain⟨T,hT⟩: ∃x,x=d.G.terms.length:=⟨_,rfl⟩
 obtain⟨N,hN⟩: ∃x,x=d.G.nons.length:=⟨_,rfl⟩
 obtain⟨R,hR⟩: ∃x,x=d.G.rules.length:=⟨_,rfl⟩
 have hB:LkB d:=⟨hL.hK.t,fun b hb=>by
  obtain⟨j,hj,rfl⟩:=List.getElem_of_mem hb
  have h1:=hL.ba j (by rw [<-hL.bl];exact hj)
  rw [List.getElem?_eq_getElem hj]at h1
  injection h1 with h1
  rw [h1]
  have h2:=preD_bound (D:=d.D) (B:=2709) (fun e he=>by
   obtain⟨i,hi,rfl⟩:=List.getElem_of_mem he
   exact strict_len9 hL.hK (hL.hA.strict i _ (List.getElem?_eq_getElem hi)) (fun x hx=>(hL.hA.kern i _ x (List.getElem?_eq_getElem hi) hx).1)) j
  have h3:=hL.hA.n
  have h4:j * 2709<=2000 * 2709:=Nat.mul_le_mul_right _ (by have:=hL.bl;omega)
  omega,fun e he=>by
  obtain⟨i,hi,rfl⟩:=List.getElem_of_mem he
  have:=strict_len9 hL.hK (hL.hA.strict i _ (List.getElem?_eq_getElem hi)) (fun x hx=>(hL.hA.kern i _ x (List.getElem?_eq_getElem hi) hx).1)
  omega,hL.hA.n⟩
 obtain⟨r,hrr⟩: ∃r,r=rgt d.G d.st (k:Int):=⟨_,rfl⟩
 have hrs:d.rs[k]? =some r:=by rw [hrr];exact hL.hP.rs k hkR
 obtain⟨gr,Az,nz,cz,eR,u1,rdr,hrc,hrm⟩:=h.r.at_ hrs
 obtain⟨hnz,hnzc,hczm,-⟩:=RdI.at_ rdr
 unfold maxLen at hczm
 have hnz8:nz<=8:=by rw [hnz,hrr];exact hL.hK.eight k
 obtain⟨nR,hnR⟩: ∃n,n=d.rs.length:=⟨_,rfl⟩
 obtain⟨cR,hcR⟩: ∃n,n=q.cr:=⟨_,rfl⟩
 have q5:=h.cells.2.2.2.2.2.1
 rw [eR,<-hnR,<-hcR,<-hM]at q5
 rw [<-hnR,<-hcR]at hrc
 rw [<-hcR]at hrm
 have hkn:(k:Int)<(nR:Int):=by rw [hnR,hL.hP.rl];omega
 have s0:SI V q.ow M [] [] d V q y:=⟨h,hM.symm,fun z hz=>(by cases hz),fun z hz=>(by cases hz),StL.refl _ _ _⟩
 obtain⟨q1,s1⟩:=s0.box 226 #[.int .i64 (k:Int),.int .i64 (dt:Int)]
 have b1:Below V.heap.size V (V.alloc (.cells #[.int .i64 (k:Int),.int .i64 (dt:Int)] 226)):=(Below.refl _ _).alloc (Nat.le_refl _) _
 obtain⟨X,hX⟩: ∃X,X=V.heap.size:=⟨_,rfl⟩
 rw [<-hX]at s1
 generalize hw1:V.alloc (.cells #[.int .i64 (k:Int),.int .i64 (dt:Int)] 226)=w1 at *
 have q5:=up_cell b1 q5
 have u1:=up_cell b1 u1
 have c0:=s1.cell (b:=X) (t:=226) (List.mem_cons_self ..) 0
 have c1:=s1.cell (b:=X) (t:=226) (List.mem_cons_self ..) 1
 have rdr0:=rdr
 have rdr:=Rd.below rdr b1 (fun b hb=>hb.1)
 clear s0 he hx x0 x2 b1 eR hnR hcR rdr
 unfold PtrV
 rw [<-hM]
 by_cases hdl:dt<nz
 ·have hdl': ¬(nz:Int)<=(dt:Int):=by omega
  have hdl2:(dt:Int)<(nz:Int):=by omega
  have hdr:dt<r.length:=by omega
  obtain⟨s,hsr⟩: ∃s,r[dt]? =some s:=⟨_,List.getElem?_eq_getElem hdr⟩
  have hbe:behindI d.G d.st ((k:Int),(dt:Int))=(s,true):=by
   unfold behindI
   have e:(ruleOf d.G d.st (k:Int)).1.2=r:=hrr.symm
   rw [if_pos ⟨hr,by show(dt:Int)<((ruleOf d.G d.st (k:Int)).1.2.length:Int);rw [e];omega⟩]
   show((ruleOf d.G d.st (k:Int)).1.2[((dt:Nat):Int).toNat]?.getD 0,true)=_
   rw [Int.toNat_natCast,e,hsr];rfl
  clear hr
  obtain⟨Xh,XhL,XhI,Xhl,Xhp,XhB,Xhrr,Xhrs,Xhsr,Xhbe,Xrdr0,Xhnz,Xs1,XhM⟩:=HqZ14 h hL hI hl hp hB hrr hrs hsr hbe rdr0 hnz s1 hM;obtain⟨XhX,Xhdr,XhT,XhN,XhR,XhkR⟩:=HqZ6 hX hdr hT hN hR hkR;clear h hL hI hl hp hB hrr hrs hsr hbe rdr0 hnz s1 hM hX hdr hT hN hR hkR
  go_enter Tryz.func198,Tryz.ntmps198
  go_wp2_with fail
  try rw [<-XhX.out]
  refine region_reads (by kernel_rfl) (by kernel_rfl) ?_
  repeat still_step
  refine wpStill_nil ?_
  go_wp2_with fail
  go_wp2_with fail
  have dr:Below w1.heap.size w1 w1.drew.drew:=(Below.refl _ _).drew.drew
  obtain⟨q2,s2⟩:=Xs1.out.below' dr
  obtain⟨j,hj,hjl,hea⟩:=ea_of XhL.out.hA XhL.out.ba Xhp.out Xhbe.out
  have cp:=look_to s2.k XhB.out Xhrs.out Xhsr.out hj hjl (by rw [XhL.out.bl];exact hjl)
  rw [s2.M]at cp
  obtain⟨tv,htv⟩: ∃x,x=toD d i ((k:Int),(dt:Int)) s:=⟨_,rfl⟩
  rw [<-htv]at cp hea
  obtain⟨nE,hnE⟩: ∃n,n=y.ed.length:=⟨_,rfl⟩
  have hnE2:nE<=1000000000000:=by rw [hnE];exact Xhl.out
  obtain⟨Ae,hAe⟩: ∃x,x=q2.Ae:=⟨_,rfl⟩
  obtain⟨ce,hce⟩: ∃x,x=q2.ce:=⟨_,rfl⟩
  have q11:=s2.k.cells.2.2.2.2.2.2.2.2.2.2.2.1
  rw [s2.M,<-hnE,<-hAe,<-hce]at q11
  have d0:=s2.cell (b:=X) (t:=226) (List.mem_cons_self ..) 0
  have d1:=s2.cell (b:=X) (t:=226) (List.mem_cons_self ..) 1
  have S2:w1.drew.drew.cell? ⟨M,11,none⟩=some (.slice Ae nE ce)/\w1.drew.drew.cell? ⟨X,0,none⟩=some (.int .i64 (k:Int))/\w1.drew.drew.cell? ⟨X,1,none⟩=some (.int .i64 (dt:Int)):=⟨q11,d0,d1⟩
  unfold PtrV at cp
  clear q5 u1 c0 c1 hj hjl htv q11 d0 d1 Xs1 dr
  obtain⟨Xs2,Xhea,Xcp,XhnE,XhAe,Xhce,XS2⟩:=HqZ7 s2 hea cp hnE hAe hce S2;clear s2 hea cp hnE hAe hce S2
  refine region_late2 (fun W=>W.cell? ⟨M,11,none⟩=some (.slice Ae nE ce)/\W.cell? ⟨X,0,none⟩=some (.int .i64 (k:Int))/\W.cell? ⟨X,1,none⟩=some (.int .i64 (dt:Int))) [0,1,2,3,4,5,6,7,9] [8,10,11,12] 13 (by kernel_rfl) (by kernel_rfl) XS2.out ?_
  simp only [pickO,List.getElem?_cons_succ,List.getElem?_cons_zero,List.drop_succ_cons,List.drop_zero]
  iterate 9
   refine wpHeld_cons ?_ (by rfl) (fun wS hwS=> ?_) ?_
   rotate_left
   ·(try dsimp only at hwS)
    go_simp
    all_goals with_reducible rfl
   simp only [Act.put,List.setIfInBounds_toArray,List.set_cons_zero,List.set_cons_succ]
  refine wpHeld_nil ?_
  generalize w1.drew.drew=wd at *
  refine wpMid_cons ?_
  go_wp2_with fail
  refine Xcp.out.mono ?_
  rintro e w3 ⟨rfl,b3⟩
  have s3:=Xs2.out.below b3
  have S3:w3.cell? ⟨M,11,none⟩=some (.slice Ae nE ce)/\w3.cell? ⟨X,0,none⟩=some (.int .i64 (k:Int))/\w3.cell? ⟨X,1,none⟩=some (.int .i64 (dt:Int)):=⟨up_cell b3 XS2.out.1,up_cell b3 XS2.out.2.1,up_cell b3 XS2.out.2.2⟩
  obtain⟨q3,hq3⟩: ∃x:LQ,x={q2 with ow:=ext wd q2.ow 2}:=⟨_,rfl⟩
  rw [<-hq3]at s3
  have hAe3:q3.Ae=Ae/\q3.ce=ce:=by rw [hq3,XhAe.out,Xhce.out];exact⟨rfl,rfl⟩
  have bA:Below w3.heap.size w3 (w3.alloc (.cells #[.int .i64 tv,.int .i64 (p:Int),.pointer none,.bool true] 290)):=(Below.refl _ _).alloc (Nat.le_refl _) _
  have SA:(w3.alloc (.cells #[.int .i64 tv,.int .i64 (p:Int),.pointer none,.bool true] 290)).cell? ⟨M,11,none⟩=some (.slice Ae nE ce)/\(w3.alloc (.cells #[.int .i64 tv,.int .i64 (p:Int),.pointer none,.bool true] 290)).cell? ⟨X,0,none⟩=some (.int .i64 (k:Int))/\(w3.alloc (.cells #[.int .i64 tv,.int .i64 (p:Int),.pointer none,.bool true] 290)).cell? ⟨X,1,none⟩=some (.int .i64 (dt:Int)):=⟨up_cell bA S3.1,up_cell bA S3.2.1,up_cell bA S3.2.2⟩
  obtain⟨ps,p1,p2,p3⟩:=s3.k.e
  have ownA:=own_below' p2.own bA
  rw [hAe3.1,hAe3.2,<-XhnE.out]at ownA
  have rone:Rd (w3.alloc (.cells #[.int .i64 tv,.int .i64 (p:Int),.pointer none,.bool true] 290)) (fun x=>x=w3.heap.size) (.slice (some ⟨w3.heap.size,0,none⟩) 1 1) 4 [.int .i64 tv,.int .i64 (p:Int),.pointer none,.bool true]:=Rd.one' (w:=w3) (e:=290) [.int .i64 tv,.int .i64 (p:Int),.pointer none,.bool true] 4 rfl
  clear hq3 b3 Xs2 XS2 Xcp XhAe Xhce
  obtain⟨Xs3,XS3,XhAe3,XbA,XSA,Xp1,Xp2,Xp3,XownA,Xrone⟩:=HqZ10 s3 S3 hAe3 bA SA p1 p2 p3 ownA rone;clear s3 S3 hAe3 bA SA p1 p2 p3 ownA rone
  iterate 2
   go_wp2_with fail
   refine⟨XS3.out,wpMid_cons ?_⟩
  go_wp2_with fail
  refine⟨XSA.out,wpMid_cons ?_⟩
  go_wp2_with (at_builtin;refine wp_append _ rfl (.tmp 34) (.tmp 41) _ rfl Tryz.elemEdge 0 (.slice Ae nE ce) nE _ rfl XownA.out _ _ [.int .i64 tv,.int .i64 (p:Int),.pointer none,.bool true] 1 rfl rfl Xrone.out (by intro u hu;simp only [List.mem_cons,List.not_mem_nil,or_false]at hu;rcases hu with rfl|rfl|rfl|rfl<;>rfl) (by unfold maxLen;omega) (by omega) (Nat.zero_le _) ?_)
  intro A4 c4 w4 own4 g4 ho4
  rw [XhnE.out]at own4 g4 ho4
  rw [<-XhAe3.out.1,<-XhAe3.out.2]at g4 ho4
  obtain⟨f11,fL,fz,q5,s5⟩:=Xs3.out.edge (e:=⟨tv,p,noBits,true⟩) (p:= .pointer none) (.inl ⟨rfl,rfl⟩) XbA.out Xp1.out Xp2.out Xp3.out own4 g4 (by rw [World.size_alloc];exact ho4)
  rw [XhAe3.out.1,XhAe3.out.2,<-XhnE.out]at f11
  rw [<-XhnE.out]at s5
  have S4:w4.cell? ⟨M,11,none⟩=some (.slice Ae nE ce)/\w4.cell? ⟨X,0,none⟩=some (.int .i64 (k:Int))/\w4.cell? ⟨X,1,none⟩=some (.int .i64 (dt:Int)):=⟨f11,fL _ (List.mem_cons_self ..) 0 _ rfl,fL _ (List.mem_cons_self ..) 1 _ rfl⟩
  obtain⟨hI1,hG1⟩:=XhI.out.edge (e:=⟨tv,p,noBits,true⟩) ⟨i,_,s,Xhp.out,Xhbe.out,.inl Xhea.out⟩
  obtain⟨y1,hy1⟩: ∃z:Dy,z={y with ed:=y.ed++[⟨tv,p,noBits,true⟩]}:=⟨_,rfl⟩
  have hA1: ∃e∈y1.ed,e.at_=p/\EA d.D e i ((k:Int),(dt:Int)) s:=⟨⟨tv,p,noBits,true⟩,by rw [hy1];exact List.mem_append_right _ (List.mem_singleton.2 rfl),rfl,Xhea.out⟩
  have hnn1:y1.ed.length=nE+1:=by rw [hy1,XhnE.out];exact List.length_append
  rw [<-hy1]at hI1 hG1 s5
  clear own4 g4 ho4 fL f11 hy1 Xs3 XS3 XhAe3 XbA XSA Xp1 Xp2 Xp3 XownA Xrone Xhea
  obtain⟨Xs5,XhI1,XhG1,XhA1,Xhnn1,XS4⟩:=HqZ6 s5 hI1 hG1 hA1 hnn1 S4;clear s5 hI1 hG1 hA1 hnn1 S4
  go_wp2_with fail
  refine⟨XS4.out,wpMid_nil ?_⟩
  obtain⟨o4,-⟩:=XS4.out
  clear XS4
  go_wp2_with fail
  refine NoPanic.normal ?_
  clear o4 fz
  generalize w4.setCell ⟨M,11,none⟩ (.slice A4 (nE+1) c4)=w5 at *
  have dr:Below w5.heap.size w5 w5.drew:=(Below.refl _ _).drew
  obtain⟨q6,s6⟩:=Xs5.out.below' dr
  obtain⟨A1,c1,A2,c2,A3,c3,g0,g1,g2,g3,hg⟩:=s6.k.gc (G:=d.G) (st:=d.st) (M:=M) rfl rfl XhT.out XhN.out XhR.out s6.M
  have rd6:=Rd.step Xrdr0.out s6.st (fun i hi=>by unfold JI;omega)
  obtain⟨-,-,-,hcell⟩:=RdI.at_ rd6
  obtain⟨bb,off,rfl,-,hcc⟩:=hcell (by omega)
  have cs:=hcc dt s Xhsr.out
  have d0:=s6.cell (b:=X) (t:=226) (List.mem_cons_self ..) 0
  have d1:=s6.cell (b:=X) (t:=226) (List.mem_cons_self ..) 1
  have cn:=gram_non hg d.st s
  obtain⟨nn,hnn⟩: ∃b,b=isNon d.G s:=⟨_,rfl⟩
  rw [<-hnn]at cn
  clear dr hcell hcc rd6 Xs5
  obtain⟨Xs6,Xhg,Xcn,Xhnn⟩:=HqZ4 s6 hg cn hnn;clear s6 hg cn hnn
  go_wp2_with fail
  refine region_tail 9 (by kernel_rfl) (by kernel_rfl) ?_
  simp only [List.take_succ_cons,List.take_zero,List.drop_succ_cons,List.drop_zero]
  repeat still_step
  refine wpStill_nil ?_
  go_wp2_with fail
  generalize w5.drew=w6 at *
  refine Xcn.out.mono ?_
  rintro e w7 ⟨rfl,b7⟩
  obtain⟨q7,s7⟩:=Xs6.out.below' b7
  clear g0 g1 g2 g3 cs d0 d1 Xs6 Xcn Xhg b7
  cases nn with
  |false=>
   have Xs7:=hide s7;clear s7
   go_wp2_with fail
   go_end0
   exact⟨rfl,q7,y1,Xs7.out.k,Xs7.out.M.trans XhM.out,Xs7.out.st,XhI1.out,XhG1.out,full_of rfl rfl Xhbe.out XhA1.out (fun e=>by rw [<-Xhnn.out]at e;cases e),by rw [Xhnn1.out,XhnE.out];omega⟩
  |true=>
   obtain⟨tl,htl,-,htj⟩:=XhL.out.hP.tl k XhkR.out
   have htx:tl[dt]? =some (tlI d.G d.st ((k:Int),(dt:Int))):=htj dt (by rw [<-Xhrr.out];exact Xhdr.out)
   obtain⟨gt,Az,nt,ct,eT,ut,rdt,htc,htm⟩:=s7.k.t.at_ htl
   obtain⟨hnt,hntc,hctm,hcell⟩:=rdt.at_
   have hdt:dt<nt:=by rw [hnt];exact(List.getElem?_eq_some_iff.1 htx).1
   obtain⟨bt,ot,rfl,-,hcc⟩:=hcell (by omega)
   obtain⟨pt,t0,t1,stp⟩:=hcc dt _ htx
   obtain⟨Pt,rfl⟩:=stp.ptr
   obtain⟨nT,hnT⟩: ∃n,n=d.tl.length:=⟨_,rfl⟩
   obtain⟨cT,hcT⟩: ∃n,n=q7.ct:=⟨_,rfl⟩
   have q6:=s7.k.cells.2.2.2.2.2.2.1
   rw [s7.M,eT,<-hnT,<-hcT]at q6
   rw [<-hnT,<-hcT]at htc
   rw [<-hcT]at htm
   have hkt:(k:Int)<(nT:Int):=by rw [hnT,XhL.out.hP.tll];have:=XhkR.out;omega
   have hdt':(dt:Int)<(nt:Int):=by omega
   unfold maxLen at hctm
   have d0:=s7.cell (b:=X) (t:=226) (List.mem_cons_self ..) 0
   have d1:=s7.cell (b:=X) (t:=226) (List.mem_cons_self ..) 1
   obtain⟨tx,htxe⟩: ∃x,x=tlI d.G d.st ((k:Int),(dt:Int)):=⟨_,rfl⟩
   rw [<-htxe]at t1 stp
   obtain⟨ft,em⟩:=tx
   simp only at t1 stp
   have s7:=s7.addS (z:=(_,ft)) stp
   obtain⟨B,hB7⟩: ∃x,x=w7.heap.size:=⟨_,rfl⟩
   have hS: ∀W,Below w7.heap.size w7 W->W.cell? ⟨M,6,none⟩=some (.slice (some ⟨gt,0,none⟩) nT cT)/\W.cell? ⟨X,0,none⟩=some (.int .i64 (k:Int))/\W.cell? ⟨X,1,none⟩=some (.int .i64 (dt:Int))/\W.cell? ⟨gt,k,none⟩=some (.slice (some ⟨bt,ot,none⟩) nt ct)/\W.cell? ⟨bt,ot+dt * 2,none⟩=some (.pointer Pt)/\W.cell? ⟨bt,ot+dt * 2+1,none⟩=some (.bool em):=fun W b=>⟨up_cell b q6,up_cell b d0,up_cell b d1,up_cell b ut,up_cell b t0,up_cell b t1⟩
   clear htj htx rdt hcell hcc hnT hcT eT stp htl
   obtain⟨Xs7,Xhtxe,Xhnt,XhB7,XhS⟩:=HqZ5 s7 htxe hnt hB7 hS;clear s7 htxe hnt hB7 hS
   go_wp2_with fail
   refine wp_region_held_drew (S:=(fun W=>W.cell? ⟨M,6,none⟩=some (.slice (some ⟨gt,0,none⟩) nT cT)/\W.cell? ⟨X,0,none⟩=some (.int .i64 (k:Int))/\W.cell? ⟨X,1,none⟩=some (.int .i64 (dt:Int))/\W.cell? ⟨gt,k,none⟩=some (.slice (some ⟨bt,ot,none⟩) nt ct)/\W.cell? ⟨bt,ot+dt * 2,none⟩=some (.pointer Pt)/\W.cell? ⟨bt,ot+dt * 2+1,none⟩=some (.bool em))) (by kernel_rfl) ?_ (fun hHeld=> ?_)
   ·exact XhS.out _ ((Below.refl _ _).drew)
   have bd:Below w7.heap.size w7 w7.drew:=(Below.refl _ _).drew
   have hBd:B=w7.drew.heap.size:=XhB7.out
   generalize w7.drew=wd at *
   obtain⟨Xbd,XhBd⟩:=HqZ2 bd hBd;clear bd hBd
   refine tZ 0 ?_;try simp only [Act.put,sT,s0,s1]
   refine tZ 1 ?_;try simp only [Act.put,sT,s0,s1]
   refine tZ 2 ?_;try simp only [Act.put,sT,s0,s1]
   refine tZ 3 ?_;try simp only [Act.put,sT,s0,s1]
   refine tZ 4 ?_;try simp only [Act.put,sT,s0,s1]
   refine tZ 5 ?_;try simp only [Act.put,sT,s0,s1]
   refine tZ 6 ?_;try simp only [Act.put,sT,s0,s1]
   refine tZ 7 ?_;try simp only [Act.put,sT,s0,s1]
   refine tZ 8 ?_;try simp only [Act.put,sT,s0,s1]
   refine tZ 9 ?_;try simp only [Act.put,sT,s0,s1]
   refine tZ 10 ?_;try simp only [Act.put,sT,s0,s1]
   refine tZ 11 ?_;try simp only [Act.put,sT,s0,s1]
   refine wpAnyH_ready (rs:=[12]) (by kernel_rfl) (by simp) ?_
   refine AllReadyH.cons (o:= ?_) ?_ (fun K hK=> ?_) AllReadyH.nil;rotate_left 1;(focus((try simp only [gT,gs,gz]);try rfl))
   go_simp
   have b8:Below w7.heap.size w7 (wd.alloc (.cells #[.pointer none,.bool false] 278)):=Xbd.out.alloc Xbd.out.size _
   have k8:Blk (wd.alloc (.cells #[.pointer none,.bool false] 278)) B 278 #[.pointer none,.bool false]:=by rw [XhBd.out];exact Blk.new wd _ _
   clear q6 d0 d1 ut t0 t1 hHeld
   refine hK.out _ _ ?_ (fun hHeld=> ?_)
   ·exact XhS.out _ b8
   clear hK K
   try simp only [Act.put,sT,s0,s1]
   rw [<-XhBd.out]
   clear XhBd Xbd
   generalize wd.alloc (.cells #[.pointer none,.bool false] 278)=w8 at *
   have f0:=(k8.cell 0).trans rfl
   have f1:=(k8.cell 1).trans rfl
   have z0:=k8.frozen 0
   have z1:=k8.frozen 1
   have k9:=(k8.put 0 (.pointer Pt)).put 1 (.bool em)
   have b9:Below w7.heap.size w7 ((w8.setCell ⟨B,0,none⟩ (.pointer Pt)).setCell ⟨B,1,none⟩ (.bool em)):=b8.trans ((touch_two w8 B (.pointer Pt) (.bool em)).below (fun i hi _ e=>by have:=XhB7.out;omega) b8.size)
   obtain⟨q9,s9⟩:=Xs7.out.boxB b9 (Nat.le_of_eq XhB7.out.symm) k9
   clear b8 k8
   obtain⟨Xs9,Xb9⟩:=HqZ2 s9 b9;clear s9 b9
   refine wpAnyH_ready (rs:=[13]) (by kernel_rfl) (by simp) ?_
   refine AllReadyH.cons (o:= ?_) ?_ (fun K hK=> ?_) AllReadyH.nil;rotate_left 1;(focus((try simp only [gT,gs,gz]);try rfl))
   go_simp
   refine hK.out _ _ ?_ (fun hHeld=> ?_)
   ·exact XhS.out _ Xb9.out
   clear hK K
   try simp only [Act.put,sT,s0,s1]
   generalize hw9:(w8.setCell ⟨B,0,none⟩ (.pointer Pt)).setCell ⟨B,1,none⟩ (.bool em)=w9 at *
   have e0:=Xs9.out.cell (b:=B) (t:=278) (List.mem_cons_self ..) 0
   have e1:=Xs9.out.cell (b:=B) (t:=278) (List.mem_cons_self ..) 1
   have cN:=setp_next (Xs9.out.sx _ (List.mem_cons_self ..))
   clear f0 f1 z0 z1 k9 hw9 hHeld Xb9 XhS Xs7 hkt hdt' htc htm hntc hctm hdt
   have XcN:=hide cN;clear cN
   refine wpAnyH_done (by kernel_rfl) ?_ _
   go_upto_region 6 with fail
   go_cut [10]from 68 to 76 (fun v wx=>v= .bool (noneT (d.T+1) ⟨ft,em⟩)/\wx=w9)
   case first=>
    cases em with
    |true=>
     go_wp2_with fail
     go_meet
     exact⟨rfl,rfl⟩
    |false=>
     go_wp2_with fail
     refine XcN.out.mono ?_
     rintro e w' ⟨rfl,rfl⟩
     go_wp2_with fail
     go_meet
     exact⟨by unfold noneT anyB;simp,rfl⟩
   case rest=>
    obtain⟨rfl,ew⟩:=hcut
    have ew:=ew.symm
    subst ew
    obtain⟨no,hno⟩: ∃b,b=noneT (d.T+1) ⟨ft,em⟩:=⟨_,rfl⟩
    rw [<-hno]
    have hsn:=Xhnn.out.symm
    unfold isNon topOf at hsn
    simp only [Bool.and_eq_true,decide_eq_true_eq]at hsn
    obtain⟨sn,rfl⟩:=Int.eq_ofNat_of_zero_le (show 0<=s by omega)
    rcases id Xs9.out.k.c with⟨-,e⟩|⟨P,hv,-,-,hcells⟩
    ·exact absurd e (by rw [XhL.out.nc];omega)
    have hsl:sn<d.nc:=by rw [XhL.out.nc];unfold topOf;omega
    obtain⟨zc,cz0,rdc⟩:=hcells sn hsl
    obtain⟨pc,-,⟨Ac,nC,cC,rfl,-⟩,-⟩:=id rdc
    obtain⟨hnC,hnCc,hcCm,-⟩:=rdc.at_
    unfold maxLen at hcCm
    have hco:=XhL.out.co (sn:Int) Xhnn.out.symm
    rw [Int.toNat_natCast]at hco
    have hnC2:nC<=120:=by
     rw [hnC]
     have h1:=nons_len (G:=d.G) (l:=(d.cm sn).map Co.s) hco.nodup (fun x hx=>by obtain⟨c,hc,rfl⟩:=List.mem_map.1 hx;exact hco.non c hc)
     rw [List.length_map]at h1
     exact Nat.le_trans h1 XhL.out.hK.n
    have q8:=Xs9.out.k.cells.2.2.2.2.2.2.2.2.1
    obtain⟨nP,hnP⟩: ∃x,x=d.nc:=⟨_,rfl⟩
    rw [Xs9.out.M,hv,<-hnP]at q8
    have hnP2:nP<=241:=by rw [hnP,XhL.out.nc];have:=XhL.out.hK.n;have:=XhL.out.hK.t;unfold topOf;omega
    have hsP:(sn:Int)<(nP:Int):=by omega
    have rd9:=Rd.step Xrdr0.out Xs9.out.st (fun i hi=>by unfold JI;omega)
    obtain⟨-,-,-,hcell⟩:=RdI.at_ rd9
    obtain⟨bb',off',eb,-,hcc⟩:=hcell (by omega)
    injection eb with eb
    injection eb with eb1 eb2
    subst eb1 eb2
    have cs:=hcc dt _ Xhsr.out
    have d1:=Xs9.out.cell (b:=X) (t:=226) (List.mem_cons_of_mem _ (List.mem_cons_self ..)) 1
    clear hcells hv hsl hnP hcell hcc rd9 hsn e0 e1 XcN
    obtain⟨Xrdc,XhnC,Xhco,Xhno⟩:=HqZ4 rdc hnC hco hno;clear rdc hnC hco hno
    go_upto_region 7 with fail
    refine region_reads (by kernel_rfl) (by kernel_rfl) ?_
    repeat still_step
    refine wpStill_nil ?_
    go_wp2_with fail
    have dr:Below w9.heap.size w9 w9.drew:=(Below.refl _ _).drew
    have s10:=Xs9.out.below dr
    have rdc:=Xrdc.out.step (StL.new (fun _=>False) dr q9.ow 2) (fun _ _ e=>e)
    obtain⟨q10,hq10⟩: ∃x:LQ,x={q9 with ow:=ext w9 q9.ow 2}:=⟨_,rfl⟩
    rw [<-hq10]at s10
    rw [show ext w9 q9.ow 2=q10.ow from by rw [hq10]]at rdc
    have sb:=s10.base
    clear dr hq10 q8 cs d1 cz0 hsP Xs9 Xrdc
    generalize w9.drew=w10 at *
    have st10:=s10.st
    obtain⟨n1,hn1⟩: ∃n,n=y1.ed.length:=⟨_,rfl⟩
    obtain⟨Xsb,Xrdc,Xst10,Xhn1⟩:=HqZ4 sb rdc st10 hn1;clear sb rdc st10 hn1;clear s10
    go_wp2_with fail
    go_loopw [89] (fun iv wr=> ∃(a:Nat) (qa:LQ) (ya:Dy),a<=nC/\iv= .int .i64 (a:Int)/\SI w10 q10.ow M [(B,278, #[.pointer Pt,.bool em]),(X,226, #[.int .i64 (k:Int),.int .i64 (dt:Int)])] [(.pointer Pt,ft)] d wr qa ya/\ItI d d.cm ya/\GrI y1 ya/\ya.ed.length<=n1+a * 300/\ ∀c∈(d.cm sn).take a,∀k'∈ofOf d.G c.s,DoneK d p i ((k:Int),(dt:Int)) c k' ya) (fun iv _=>nC - (intOf iv).toNat)
    case atStart=>exact⟨0,q10,y1,Nat.zero_le _,rfl,Xsb.out,XhI1.out,GrI.refl _,by rw [Xhn1.out];omega,fun c hc=>by rw [List.take_zero]at hc;cases hc⟩
    case round=>
     clear Xsb
     obtain⟨a,qa,ya,ha,rfl,sa,hIa,hGa,hla,hda⟩:=hrel
     by_cases hlt:a<nC
     ·have hlt':(a:Int)<(nC:Int):=by omega
      obtain⟨c,hc⟩: ∃c,(d.cm sn)[a]? =some c:=⟨_,List.getElem?_eq_getElem (by rw [<-XhnC.out];exact hlt)⟩
      have hcm:=List.mem_of_getElem? hc
      have rdA:=Xrdc.out.step sa.st (fun i hi=>by unfold JI;omega)
      obtain⟨-,-,-,hcell⟩:=rdA.at_
      obtain⟨bC,oC,rfl,-,hcc⟩:=hcell (by omega)
      obtain⟨pc,c0,c1,c2,bs,Ss,rfl,hss,hsF⟩:=hcc a c hc
      have hcn:=Xhco.out.non c hcm
      have hbg:=(Xhco.out.mem c.s).1 ⟨c,hcm,rfl⟩
      have hcn2:=hcn
      unfold isNon topOf at hcn2
      simp only [Bool.and_eq_true,decide_eq_true_eq]at hcn2
      obtain⟨csn,hcs⟩:=Int.eq_ofNat_of_zero_le (show 0<=c.s by omega)
      have hct:csn<=topOf d.G:=by unfold topOf;omega
      obtain⟨se,hse⟩: ∃b,b=c.self:=⟨_,rfl⟩
      rw [hcs]at c0
      rw [<-hse]at c2
      have sa2:=sa.addS (z:=(PtrV bs,c.f)) (.inr ⟨bs,Ss,rfl,hss,hsF⟩)
      obtain⟨qb,sb⟩:=sa2.box 293 #[.int .i64 (csn:Int),PtrV bs,.bool se]
      have al:Below wr.heap.size wr (wr.alloc (.cells #[.int .i64 (csn:Int),PtrV bs,.bool se] 293)):=(Below.refl _ _).alloc (Nat.le_refl _) _
      have hss:=hss.touch (Touch.of_size al (fun _=>False)) (fun _ _ e=>e)
      unfold PtrV at sb hss al
      generalize hw11:wr.alloc (.cells #[.int .i64 (csn:Int),.pointer (some ⟨bs,0,none⟩),.bool se] 293)=w11 at *
      unfold PtrV at c1
      have g0:=sb.cell (b:=wr.heap.size) (t:=293) (List.mem_cons_self ..) 0
      have g1:=sb.cell (b:=wr.heap.size) (t:=293) (List.mem_cons_self ..) 1
      have g2:=sb.cell (b:=wr.heap.size) (t:=293) (List.mem_cons_self ..) 2
      have e0:=sb.cell (b:=B) (t:=278) (List.mem_cons_of_mem _ (List.mem_cons_self ..)) 0
      have ct:=set_twin hss
      have hlt2:a<nC:=hlt
      clear sa sa2 rdA hcell hcc hss hsF al hcn2
      obtain⟨Xsb,XhIa,XhGa,Xhla,Xhda,Xhc,Xhcm,Xhcn,Xhbg,Xhcs,Xhct,Xhse,Xct⟩:=HqZ13 sb hIa hGa hla hda hc hcm hcn hbg hcs hct hse ct;clear sb hIa hGa hla hda hc hcm hcn hbg hcs hct hse ct
      go_upto_if 96 with fail
      clear hw11 c0 c1 c2
      generalize wr.heap.size=C at *
      go_cut [13]from 97 to 103 (fun v wx=>Below w11.heap.size w11 wx/\SetP wx (fun k=>TF w11 qb.ow (fun t=>t=2) k\/(w11.heap.size<=k/\k<wx.heap.size)) (d.T+1) v (setOf c ⟨ft,em⟩))
      case first=>
       cases se with
       |true=>
        have hfo:setOf c ⟨ft,em⟩=fun u=>c.f u||ft u:=by unfold setOf;rw [if_pos Xhse.out.symm]
        have Xhfo:=hide hfo;clear hfo
        go_wp2_with fail
        refine Xct.out.mono ?_
        rintro e w12 ⟨b',rfl,hs12,b12⟩
        have e0':=up_cell b12 e0
        have s12:=Xsb.out.below b12
        have co:=setp_or hs12 (s12.sx (.pointer Pt,ft) (List.mem_cons_of_mem _ (List.mem_cons_self ..)))
        clear e0 s12 g0 g1 g2 Xct
        unfold PtrV at co
        obtain⟨Xhs12,Xb12,Xco⟩:=HqZ3 hs12 b12 co;clear hs12 b12 co
        go_wp2_with fail
        refine Xco.out.mono ?_
        rintro e w13 ⟨rfl,hs13,t13⟩
        have b13:Below w11.heap.size w11 w13:=t13.toBelow (fun k hk=>(hk.resolve_left id).1) Xb12.out Xb12.out.size
        have hfin:SetP w13 (fun k=>TF w11 qb.ow (fun t=>t=2) k\/(w11.heap.size<=k/\k<w13.heap.size)) (d.T+1) (.pointer (some ⟨b',0,none⟩)) (setOf c ⟨ft,em⟩):=by
         rw [Xhfo.out]
         exact .inr ⟨b',_,rfl,hs13,fun k hk=> .inr ⟨(hk.resolve_left id).1,hs13.lt k hk⟩⟩
        clear t13 hs13 e0'
        obtain⟨Xb13,Xhfin⟩:=HqZ2 b13 hfin;clear b13 hfin
        go_wp2_with fail
        go_meet
        exact⟨Xb13.out,Xhfin.out⟩
       |false=>
        have hfin:SetP w11 (fun k=>TF w11 qb.ow (fun t=>t=2) k\/(w11.heap.size<=k/\k<w11.heap.size)) (d.T+1) (.pointer (some ⟨bs,0,none⟩)) (setOf c ⟨ft,em⟩):=by
         have:setOf c ⟨ft,em⟩=c.f:=by unfold setOf;rw [if_neg (by rw [<-Xhse.out];simp)]
         rw [this]
         exact(Xsb.out.sx _ (List.mem_cons_self ..)).mono fun k hk=> .inl hk
        have Xhfin:=hide hfin;clear hfin
        go_wp2_with fail
        go_meet
        exact⟨Below.refl _ _,Xhfin.out⟩
      case rest=>
       obtain⟨bx,spx⟩:=hcut
       obtain⟨Pv,rfl⟩:=spx.ptr
       obtain⟨qc,sc⟩:=Xsb.out.set bx spx
       obtain⟨Pu,Au,nu,cu,hvu,hcu,rdu⟩:=sc.k.rowU XhL.out.hP Xhct.out
       obtain⟨hnu,hnuc,hcum,-⟩:=RdI.at_ rdu
       unfold maxLen at hcum
       have hnu3:nu<=300:=by rw [hnu];exact Nat.le_trans of_len XhL.out.hK.r
       have q7:=sc.k.cells.2.2.2.2.2.2.2.1
       obtain⟨np,hnp⟩: ∃x,x=topOf d.G+1:=⟨_,rfl⟩
       rw [sc.M,hvu,<-hnp]at q7
       have hcp:(csn:Int)<(np:Int):=by have:=Xhct.out;omega
       have hnp2:np<=241:=by rw [hnp];have:=XhL.out.hK.n;have:=XhL.out.hK.t;unfold topOf;omega
       have g0:=sc.cell (b:=C) (t:=293) (List.mem_cons_self ..) 0
       clear bx spx hvu hnp g1 g2 e0 Xct
       obtain⟨Xrdu,Xhnu,Xsc⟩:=HqZ3 rdu hnu sc;clear rdu hnu sc
       go_upto_region 14 with fail
       refine region_reads (by kernel_rfl) (by kernel_rfl) ?_
       repeat still_step
       refine wpStill_nil ?_
       go_wp2_with fail
       have dr:Below wc.heap.size wc wc.drew:=(Below.refl _ _).drew
       have s14:=Xsc.out.below dr
       have rdu:=Rd.step Xrdu.out (StL.new (fun _=>False) dr qc.ow 2) (fun _ _ e=>e)
       obtain⟨q14,hq14⟩: ∃x:LQ,x={qc with ow:=ext wc qc.ow 2}:=⟨_,rfl⟩
       rw [<-hq14]at s14
       rw [show ext wc qc.ow 2=q14.ow from by rw [hq14]]at rdu
       have sb:=s14.base
       have st14:=s14.st
       clear dr hq14 q7 hcu hcp g0 Xsc Xrdu s14 Xsb
       generalize wc.drew=w14 at *
       obtain⟨n2,hn2⟩: ∃n,n=ya.ed.length:=⟨_,rfl⟩
       obtain⟨Xsb,Xrdu,Xst14,Xhn2⟩:=HqZ4 sb rdu st14 hn2;clear sb rdu st14 hn2
       go_wp2_with fail
       go_loopw [113] (fun iv wr'=> ∃(b:Nat) (qe:LQ) (yb:Dy),b<=nu/\iv= .int .i64 (b:Int)/\SI w14 q14.ow M [(C,293, #[.int .i64 (csn:Int),.pointer (some ⟨bs,0,none⟩),.bool se]),(B,278, #[.pointer Pt,.bool em]),(X,226, #[.int .i64 (k:Int),.int .i64 (dt:Int)])] [(.pointer Pv,setOf c ⟨ft,em⟩),(.pointer (some ⟨bs,0,none⟩),c.f),(.pointer Pt,ft)] d wr' qe yb/\ItI d d.cm yb/\GrI ya yb/\yb.ed.length<=n2+b/\ ∀k'∈(ofOf d.G (csn:Int)).take b,DoneK d p i ((k:Int),(dt:Int)) c k' yb) (fun iv _=>nu - (intOf iv).toNat)
       case atStart=>exact⟨0,q14,ya,Nat.zero_le _,rfl,Xsb.out,XhIa.out,GrI.refl _,by rw [Xhn2.out];omega,fun k' hk'=>by rw [List.take_zero]at hk';cases hk'⟩
       case round=>
        clear Xsb
        obtain⟨b,qe,yb,hb,rfl,se',hIb,hGb,hlb,hdb⟩:=hrel
        by_cases hlu:b<nu
        ·have hlu':(b:Int)<(nu:Int):=by omega
         obtain⟨k',hk'⟩: ∃k',(ofOf d.G (csn:Int))[b]? =some k':=⟨_,List.getElem?_eq_getElem (by rw [<-Xhnu.out];exact hlu)⟩
         have hkm:=List.mem_of_getElem? hk'
         obtain⟨kn,rl,rfl,hkr⟩:=of_mem.1 hkm
         have hkR':kn<d.G.rules.length:=(List.getElem?_eq_some_iff.1 hkr).1
         have rdE:=Rd.step Xrdu.out se'.st (fun i hi=>by unfold JI;omega)
         obtain⟨-,-,-,hcell⟩:=RdI.at_ rdE
         obtain⟨bu,ou,rfl,-,hcc⟩:=hcell (by omega)
         have cu0:=hcc b _ hk'
         obtain⟨ge,Ar,nr,cr,eE,ue,rde,hec,hem⟩:=se'.k.r.at_ (XhL.out.hP.rs kn (by omega))
         obtain⟨hnr,hnrc,hcrm,-⟩:=RdI.at_ rde
         unfold maxLen at hcrm
         obtain⟨nE2,hnE2⟩: ∃n,n=d.rs.length:=⟨_,rfl⟩
         obtain⟨cE2,hcE2⟩: ∃n,n=qe.cr:=⟨_,rfl⟩
         have q5:=se'.k.cells.2.2.2.2.2.1
         rw [se'.M,eE,<-hnE2,<-hcE2]at q5
         rw [<-hnE2,<-hcE2]at hec
         rw [<-hcE2]at hem
         have hke:(kn:Int)<(nE2:Int):=by rw [hnE2,XhL.out.hP.rl];omega
         clear hcell hcc rdE rde eE hnE2 hcE2 hkr
         obtain⟨Xse',XhIb,XhGb,Xhlb,Xhdb,Xhk',Xhkm,Xhnr,XhkR'⟩:=HqZ9 se' hIb hGb hlb hdb hk' hkm hnr hkR';clear se' hIb hGb hlb hdb hk' hkm hnr hkR'
         go_upto_if 125 with fail
         go_cut [16]from 125 to 134 (fun v wx=>CutI w14 q14.ow M [(C,293, #[.int .i64 (csn:Int),.pointer (some ⟨bs,0,none⟩),.bool se]),(B,278, #[.pointer Pt,.bool em]),(X,226, #[.int .i64 (k:Int),.int .i64 (dt:Int)])] [(.pointer Pv,setOf c ⟨ft,em⟩),(.pointer (some ⟨bs,0,none⟩),c.f),(.pointer Pt,ft)] d i (kn:Int) yb v wx)
         case first=>
          clear q5 ue cu0 hke hec hem hcrm hnrc
          cases hrg:rgt d.G d.st (kn:Int)with
          |nil=>
           have hn0:nr=0:=by rw [Xhnr.out,hrg];rfl
           have hid:i<d.D.length:=by obtain⟨e,he,-⟩:=Xhp.out.mem;exact(List.getElem?_eq_some_iff.1 he).1
           have ce:=look_end Xse'.out.k XhL.out.hK.t (Nat.le_trans (XhIb.out.na_le XhL.out.hA XhL.out.hK) (by omega)) hid (Nat.le_trans (XhIb.out.fi_le XhL.out.hK i) (by omega)) XhL.out.hA.n (kn:Int)
           rw [Xse'.out.M]at ce
           obtain⟨hI2,hm2,hG2⟩:=XhIb.out.end_ hid (k:=(kn:Int)) (by have:=XhkR'.out;omega) hrg (by
            obtain⟨e,he,hxe⟩:=Xhp.out.mem
            exact⟨e,_,(sn:Int),he,hxe,Xhbe.out,Xhnn.out.symm,c,by rw [Int.toNat_natCast];exact Xhcm.out,by rw [Xhcs.out];exact Xhkm.out⟩)
           subst hn0
           unfold PtrV at ce
           obtain⟨Xce,XhI2,Xhm2,XhG2,Xhrg,Xhid⟩:=HqZ6 ce hI2 hm2 hG2 hrg hid;clear ce hI2 hm2 hG2 hrg hid
           go_wp2_with fail
           refine Xce.out.mono ?_
           rintro e we ⟨rfl,q',mk,hM',st'⟩
           have s2:=Xse'.out.step mk (hM'.trans Xse'.out.M) st' (by omega) (fun j hj=>by unfold JI;omega)
           clear mk hM' st' Xce
           have Xs2:=hide s2;clear s2
           go_wp2_with fail
           go_meet
           exact⟨q',_,_,rfl,Xs2.out,XhI2.out,XhG2.out,endD_ed _ _ _,.inl ⟨Xhrg.out,Xhm2.out⟩⟩
          |cons y0 r0=>
           have hn0:((nr:Int)==0)=false:=by rw [Xhnr.out,hrg];simp;omega
           have hn1: ¬nr=0:=by rw [Xhnr.out,hrg];simp
           have hbg2:Bg d.G d.st (sn:Int) (csn:Int):=by rw [<-Xhcs.out];exact Xhbg.out
           obtain⟨j2,p2,hj2,hjl2,ht2,hkp2⟩:=eb_of XhL.out.hA XhL.out.ba Xhp.out Xhbe.out hbg2 Xhkm.out hrg
           have ct2:=look_to (dt:=0) (r:=rgt d.G d.st (kn:Int)) (s:=y0) Xse'.out.k XhB.out (XhL.out.hP.rs kn (by have:=XhkR'.out;omega)) (by rw [hrg];rfl) hj2 hjl2 (by rw [XhL.out.bl];exact hjl2)
           rw [Xse'.out.M]at ct2
           have ht2':toD d i ((kn:Int),((0:Nat):Int)) y0=(p2:Int):=ht2
           rw [ht2']at ct2
           have ct2:Calls Tryz.prog 229 #[PtrV M,.int .i64 (i:Int),.agg #[.int .i64 (kn:Int),.int .i64 0]] wr (Quiet wr (.int .i64 (p2:Int))):=ct2
           unfold PtrV at ct2
           clear ht2 ht2' hjl2
           obtain⟨Xct2,Xhrg,Xhj2,Xhkp2,Xhbg2⟩:=HqZ5 ct2 hrg hj2 hkp2 hbg2;clear ct2 hrg hj2 hkp2 hbg2
           go_wp2_with fail
           refine Xct2.out.mono ?_
           rintro e we ⟨rfl,be⟩
           obtain⟨q',s2⟩:=Xse'.out.below' be
           clear be Xct2
           have Xs2:=hide s2;clear s2
           go_wp2_with fail
           go_meet
           exact⟨q',yb,p2,rfl,Xs2.out,XhIb.out,GrI.refl _,rfl,.inr ⟨y0,r0,j2,Xhrg.out,Xhj2.out,Xhkp2.out⟩⟩
         case rest=>
          obtain⟨q',yc,t,rfl,sc,hIc,hGc,hec2,hto⟩:=hcut
          clear q5 ue cu0 hke hec hem hcrm hnrc Xse'
          have hdc: ∀k''∈(ofOf d.G (csn:Int)).take b,DoneK d p i ((k:Int),(dt:Int)) c k'' yc:=fun k'' h=>(Xhdb.out k'' h).mono hGc
          have hlc:yc.ed.length<=n2+b:=by rw [hec2];exact Xhlb.out
          have hGbc:=XhGb.out.trans hGc
          have hdn:rgt d.G d.st (kn:Int)=[]-> ∃p',((kn:Int),p')∈yc.fi i:=fun e=>by
           rcases hto with⟨-,h⟩|⟨y0,r,j,h,-⟩
           ·exact⟨t,h⟩
           ·rw [e]at h;cases h
          cases no with
          |true=>
           have hdF: ∀k''∈(ofOf d.G (csn:Int)).take (b+1),DoneK d p i ((k:Int),(dt:Int)) c k'' yc:=fun k'' h=>by
            rw [<-take_getA Xhk'.out]at h
            rcases List.mem_append.1 h with h|h
            ·exact hdc k'' h
            ·rw [List.mem_singleton.1 h]
             exact⟨hdn,fun e=>by have h1:=Xhno.out;rw [Xhtxe.out]at h1;have h2:noneT (d.T+1) (tlI d.G d.st ((k:Int),(dt:Int)))=false:=e;rw [h2]at h1;cases h1⟩
           clear hdc hdn hto hec2
           obtain⟨Xsc,XhIc,XhGbc,Xhlc,XhdF,XhGc⟩:=HqZ6 sc hIc hGbc hlc hdF hGc;clear sc hIc hGbc hlc hdF hGc
           go_wp2_with fail
           go_roundw
           case rel=>exact⟨b+1,q',yc,by omega,by go_num,Xsc.out,XhIc.out,XhGbc.out,by have:=Xhlc.out;omega,XhdF.out⟩
           case measure=>simp [intOf];omega
          |false=>
           cases se with
           |true=>
            have hEB:EB d.G d.st d.D yc.fi ⟨(t:Int),p,setOf c ⟨ft,em⟩,em⟩ i ((k:Int),(dt:Int)) c (kn:Int):=by
             refine⟨by rw [<-Xhtxe.out],by rw [<-Xhtxe.out,<-Xhse.out];rfl,t,rfl,?_⟩
             rcases hto with h|⟨y0,r,j,h1,h2,h3⟩
             ·exact .inl h
             ·exact .inr ⟨y0,r,j,h1,h2,h3⟩
            obtain⟨hI2,hG2⟩:=hIc.edge (e:=⟨(t:Int),p,setOf c ⟨ft,em⟩,em⟩) ⟨i,_,(sn:Int),Xhp.out,Xhbe.out,.inr ⟨Xhnn.out.symm,c,by rw [Int.toNat_natCast];exact Xhcm.out,(kn:Int),by rw [Xhcs.out];exact Xhkm.out,by rw [<-Xhtxe.out];exact Xhno.out.symm,hEB⟩⟩
            obtain⟨y2,hy2⟩: ∃z:Dy,z={yc with ed:=yc.ed++[⟨(t:Int),p,setOf c ⟨ft,em⟩,em⟩]}:=⟨_,rfl⟩
            have hdF: ∀k''∈(ofOf d.G (csn:Int)).take (b+1),DoneK d p i ((k:Int),(dt:Int)) c k'' y2:=fun k'' h=>by
             rw [<-hy2]at hG2
             rw [<-take_getA Xhk'.out]at h
             rcases List.mem_append.1 h with h|h
             ·exact(hdc k'' h).mono hG2
             ·rw [List.mem_singleton.1 h]
              exact⟨fun e=>(hdn e).imp fun p' hp'=>hG2.fi _ _ hp',fun _=>⟨⟨(t:Int),p,setOf c ⟨ft,em⟩,em⟩,by rw [hy2];exact List.mem_append_right _ (List.mem_singleton.2 rfl),rfl,by rw [hy2];exact hEB⟩⟩
            have hl2:y2.ed.length=yc.ed.length+1:=by rw [hy2];exact List.length_append
            have hG3:=hGbc.trans hG2
            rw [<-hy2]at hI2 hG3
            have dr:Below wc.heap.size wc wc.drew:=(Below.refl _ _).drew
            obtain⟨q2,s2⟩:=sc.below' dr
            obtain⟨nF,hnF⟩: ∃n,n=yc.ed.length:=⟨_,rfl⟩
            have hnF2:nF<=2000000000000:=by
             have h1:=Xhl.out;have h2:=Xhn1.out;have h3:=Xhnn1.out;have h4:=Xhla.out;have h5:=Xhn2.out;have h7:=XhnE.out
             have h6:a * 300<=120 * 300:=Nat.mul_le_mul_right _ (by omega)
             omega
            obtain⟨Ae',hAe⟩: ∃x,x=q2.Ae:=⟨_,rfl⟩
            obtain⟨ce',hce⟩: ∃x,x=q2.ce:=⟨_,rfl⟩
            have q11:=s2.k.cells.2.2.2.2.2.2.2.2.2.2.2.1
            rw [s2.M,<-hnF,<-hAe,<-hce]at q11
            have S2:wc.drew.cell? ⟨M,11,none⟩=some (.slice Ae' nF ce')/\wc.drew.cell? ⟨C,2,none⟩=some (.bool true)/\wc.drew.cell? ⟨B,1,none⟩=some (.bool em):=⟨q11,s2.cell (b:=C) (t:=293) (List.mem_cons_self ..) 2,s2.cell (b:=B) (t:=278) (List.mem_cons_of_mem _ (List.mem_cons_self ..)) 1⟩
            have bA:Below wc.drew.heap.size wc.drew (wc.drew.alloc (.cells #[.int .i64 (t:Int),.int .i64 (p:Int),.pointer Pv,.bool em] 290)):=(Below.refl _ _).alloc (Nat.le_refl _) _
            have SA:(wc.drew.alloc (.cells #[.int .i64 (t:Int),.int .i64 (p:Int),.pointer Pv,.bool em] 290)).cell? ⟨M,11,none⟩=some (.slice Ae' nF ce')/\(wc.drew.alloc (.cells #[.int .i64 (t:Int),.int .i64 (p:Int),.pointer Pv,.bool em] 290)).cell? ⟨C,2,none⟩=some (.bool true)/\(wc.drew.alloc (.cells #[.int .i64 (t:Int),.int .i64 (p:Int),.pointer Pv,.bool em] 290)).cell? ⟨B,1,none⟩=some (.bool em):=⟨up_cell bA S2.1,up_cell bA S2.2.1,up_cell bA S2.2.2⟩
            obtain⟨ps,p1,p2,p3⟩:=s2.k.e
            have ownA:=own_below' p2.own bA
            rw [<-hAe,<-hce,<-hnF]at ownA
            have rone:Rd (wc.drew.alloc (.cells #[.int .i64 (t:Int),.int .i64 (p:Int),.pointer Pv,.bool em] 290)) (fun x=>x=wc.drew.heap.size) (.slice (some ⟨wc.drew.heap.size,0,none⟩) 1 1) 4 [.int .i64 (t:Int),.int .i64 (p:Int),.pointer Pv,.bool em]:=Rd.one' (w:=wc.drew) (e:=290) [.int .i64 (t:Int),.int .i64 (p:Int),.pointer Pv,.bool em] 4 rfl
            clear q11 dr sc hIc hGc hdc hdn hto hec2 hG2 hGbc hEB
            obtain⟨Xs2,XS2,XbA,XSA,Xp1,Xp2,Xp3,XownA,Xrone,XhAe,Xhce,XhnF,XhI2,XhG3⟩:=HqZ14 s2 S2 bA SA p1 p2 p3 ownA rone hAe hce hnF hI2 hG3;obtain⟨XhdF,Xhl2,Xhlc,Xhy2⟩:=HqZ4 hdF hl2 hlc hy2;clear s2 S2 bA SA p1 p2 p3 ownA rone hAe hce hnF hI2 hG3 hdF hl2 hlc hy2
            go_wp2_with fail
            refine region_late2 (fun W=>W.cell? ⟨M,11,none⟩=some (.slice Ae' nF ce')/\W.cell? ⟨C,2,none⟩=some (.bool true)/\W.cell? ⟨B,1,none⟩=some (.bool em)) [0,1,2,3,4,5,6,7,8,9,10,11,12,13,14] [15,16] 17 (by kernel_rfl) (by kernel_rfl) XS2.out ?_
            simp only [pickO,List.getElem?_cons_succ,List.getElem?_cons_zero,List.drop_succ_cons,List.drop_zero]
            iterate 15
             refine wpHeld_cons ?_ (by rfl) (fun wS hwS=> ?_) ?_
             rotate_left
             ·(try dsimp only at hwS)
              go_simp
              all_goals with_reducible rfl
             simp only [Act.put,List.setIfInBounds_toArray,List.set_cons_zero,List.set_cons_succ]
            refine wpHeld_nil ?_
            generalize hwA:wc.drew.alloc (.cells #[.int .i64 (t:Int),.int .i64 (p:Int),.pointer Pv,.bool em] 290)=wA at *
            generalize wc.drew=wd at *
            refine wpMid_cons ?_
            go_wp2_with fail
            try rw [hwA]
            refine⟨XSA.out,wpMid_cons ?_⟩
            go_wp2_with (at_builtin;refine wp_append _ rfl (.tmp 141) (.tmp 152) _ rfl Tryz.elemEdge 0 (.slice Ae' nF ce') nF _ rfl XownA.out _ _ [.int .i64 (t:Int),.int .i64 (p:Int),.pointer Pv,.bool em] 1 rfl rfl Xrone.out (by intro u hu;simp only [List.mem_cons,List.not_mem_nil,or_false]at hu;rcases hu with rfl|rfl|rfl|rfl<;>rfl) (by unfold maxLen;omega) (by omega) (Nat.zero_le _) ?_)
            intro A4 c4 w4 own4 g4 ho4
            rw [XhnF.out]at own4 g4 ho4
            rw [XhAe.out,Xhce.out]at g4 ho4
            obtain⟨f11,fL,fz,q5,s5⟩:=Xs2.out.edge (e:=⟨(t:Int),p,setOf c ⟨ft,em⟩,em⟩) (p:= .pointer Pv) (Xs2.out.sx _ (List.mem_cons_self ..)) XbA.out Xp1.out Xp2.out Xp3.out own4 g4 ho4
            rw [<-XhAe.out,<-Xhce.out,<-XhnF.out]at f11
            rw [<-XhnF.out,<-Xhy2.out]at s5
            have S4:w4.cell? ⟨M,11,none⟩=some (.slice Ae' nF ce')/\w4.cell? ⟨C,2,none⟩=some (.bool true)/\w4.cell? ⟨B,1,none⟩=some (.bool em):=⟨f11,fL _ (List.mem_cons_self ..) 2 _ rfl,fL _ (List.mem_cons_of_mem _ (List.mem_cons_self ..)) 1 _ rfl⟩
            clear own4 g4 ho4 fL XSA XbA Xs2 XS2 Xp1 Xp2 Xp3 XownA Xrone hwA
            obtain⟨Xs5,XS4⟩:=HqZ2 s5 S4;clear s5 S4
            refine⟨XS4.out,wpMid_nil ?_⟩
            clear XS4
            go_wp2_with fail
            refine NoPanic.normal ?_
            clear f11 fz
            go_wp2_with fail
            go_roundw
            case rel=>exact⟨b+1,q5,y2,by omega,by go_num,Xs5.out,XhI2.out,XhG3.out,by have:=Xhlc.out;have:=Xhl2.out;omega,XhdF.out⟩
            case measure=>simp [intOf];omega
           |false=>
            have hEB:EB d.G d.st d.D yc.fi ⟨(t:Int),p,setOf c ⟨ft,em⟩,false⟩ i ((k:Int),(dt:Int)) c (kn:Int):=by
             refine⟨by rw [<-Xhtxe.out],by rw [<-Xhtxe.out,<-Xhse.out];rfl,t,rfl,?_⟩
             rcases hto with h|⟨y0,r,j,h1,h2,h3⟩
             ·exact .inl h
             ·exact .inr ⟨y0,r,j,h1,h2,h3⟩
            obtain⟨hI2,hG2⟩:=hIc.edge (e:=⟨(t:Int),p,setOf c ⟨ft,em⟩,false⟩) ⟨i,_,(sn:Int),Xhp.out,Xhbe.out,.inr ⟨Xhnn.out.symm,c,by rw [Int.toNat_natCast];exact Xhcm.out,(kn:Int),by rw [Xhcs.out];exact Xhkm.out,by rw [<-Xhtxe.out];exact Xhno.out.symm,hEB⟩⟩
            obtain⟨y2,hy2⟩: ∃z:Dy,z={yc with ed:=yc.ed++[⟨(t:Int),p,setOf c ⟨ft,em⟩,false⟩]}:=⟨_,rfl⟩
            have hdF: ∀k''∈(ofOf d.G (csn:Int)).take (b+1),DoneK d p i ((k:Int),(dt:Int)) c k'' y2:=fun k'' h=>by
             rw [<-hy2]at hG2
             rw [<-take_getA Xhk'.out]at h
             rcases List.mem_append.1 h with h|h
             ·exact(hdc k'' h).mono hG2
             ·rw [List.mem_singleton.1 h]
              exact⟨fun e=>(hdn e).imp fun p' hp'=>hG2.fi _ _ hp',fun _=>⟨⟨(t:Int),p,setOf c ⟨ft,em⟩,false⟩,by rw [hy2];exact List.mem_append_right _ (List.mem_singleton.2 rfl),rfl,by rw [hy2];exact hEB⟩⟩
            have hl2:y2.ed.length=yc.ed.length+1:=by rw [hy2];exact List.length_append
            have hG3:=hGbc.trans hG2
            rw [<-hy2]at hI2 hG3
            have dr:Below wc.heap.size wc wc.drew:=(Below.refl _ _).drew
            obtain⟨q2,s2⟩:=sc.below' dr
            obtain⟨nF,hnF⟩: ∃n,n=yc.ed.length:=⟨_,rfl⟩
            have hnF2:nF<=2000000000000:=by
             have h1:=Xhl.out;have h2:=Xhn1.out;have h3:=Xhnn1.out;have h4:=Xhla.out;have h5:=Xhn2.out;have h7:=XhnE.out
             have h6:a * 300<=120 * 300:=Nat.mul_le_mul_right _ (by omega)
             omega
            obtain⟨Ae',hAe⟩: ∃x,x=q2.Ae:=⟨_,rfl⟩
            obtain⟨ce',hce⟩: ∃x,x=q2.ce:=⟨_,rfl⟩
            have q11:=s2.k.cells.2.2.2.2.2.2.2.2.2.2.2.1
            rw [s2.M,<-hnF,<-hAe,<-hce]at q11
            have S2:wc.drew.cell? ⟨M,11,none⟩=some (.slice Ae' nF ce')/\wc.drew.cell? ⟨C,2,none⟩=some (.bool false)/\wc.drew.cell? ⟨B,1,none⟩=some (.bool em):=⟨q11,s2.cell (b:=C) (t:=293) (List.mem_cons_self ..) 2,s2.cell (b:=B) (t:=278) (List.mem_cons_of_mem _ (List.mem_cons_self ..)) 1⟩
            have bA:Below wc.drew.heap.size wc.drew (wc.drew.alloc (.cells #[.int .i64 (t:Int),.int .i64 (p:Int),.pointer Pv,.bool false] 290)):=(Below.refl _ _).alloc (Nat.le_refl _) _
            have SA:(wc.drew.alloc (.cells #[.int .i64 (t:Int),.int .i64 (p:Int),.pointer Pv,.bool false] 290)).cell? ⟨M,11,none⟩=some (.slice Ae' nF ce')/\(wc.drew.alloc (.cells #[.int .i64 (t:Int),.int .i64 (p:Int),.pointer Pv,.bool false] 290)).cell? ⟨C,2,none⟩=some (.bool false)/\(wc.drew.alloc (.cells #[.int .i64 (t:Int),.int .i64 (p:Int),.pointer Pv,.bool false] 290)).cell? ⟨B,1,none⟩=some (.bool em):=⟨up_cell bA S2.1,up_cell bA S2.2.1,up_cell bA S2.2.2⟩
            obtain⟨ps,p1,p2,p3⟩:=s2.k.e
            have ownA:=own_below' p2.own bA
            rw [<-hAe,<-hce,<-hnF]at ownA
            have rone:Rd (wc.drew.alloc (.cells #[.int .i64 (t:Int),.int .i64 (p:Int),.pointer Pv,.bool false] 290)) (fun x=>x=wc.drew.heap.size) (.slice (some ⟨wc.drew.heap.size,0,none⟩) 1 1) 4 [.int .i64 (t:Int),.int .i64 (p:Int),.pointer Pv,.bool false]:=Rd.one' (w:=wc.drew) (e:=290) [.int .i64 (t:Int),.int .i64 (p:Int),.pointer Pv,.bool false] 4 rfl
            clear q11 dr sc hIc hGc hdc hdn hto hec2 hG2 hGbc hEB
            obtain⟨Xs2,XS2,XbA,XSA,Xp1,Xp2,Xp3,XownA,Xrone,XhAe,Xhce,XhnF,XhI2,XhG3⟩:=HqZ14 s2 S2 bA SA p1 p2 p3 ownA rone hAe hce hnF hI2 hG3;obtain⟨XhdF,Xhl2,Xhlc,Xhy2⟩:=HqZ4 hdF hl2 hlc hy2;clear s2 S2 bA SA p1 p2 p3 ownA rone hAe hce hnF hI2 hG3 hdF hl2 hlc hy2
            go_wp2_with fail
            refine region_late2 (fun W=>W.cell? ⟨M,11,none⟩=some (.slice Ae' nF ce')/\W.cell? ⟨C,2,none⟩=some (.bool false)/\W.cell? ⟨B,1,none⟩=some (.bool em)) [0,1,2,3,4,5,6,7,8,9,10,11,12,13,14] [15,16] 17 (by kernel_rfl) (by kernel_rfl) XS2.out ?_
            simp only [pickO,List.getElem?_cons_succ,List.getElem?_cons_zero,List.drop_succ_cons,List.drop_zero]
            iterate 11
             refine wpHeld_cons ?_ (by rfl) (fun wS hwS=> ?_) ?_
             rotate_left
             ·(try dsimp only at hwS)
              go_simp
              all_goals with_reducible rfl
             simp only [Act.put,List.setIfInBounds_toArray,List.set_cons_zero,List.set_cons_succ]
            iterate 2
             refine wpHeld_off (by rfl) ?_
             simp only [Act.put,List.setIfInBounds_toArray,List.set_cons_zero,List.set_cons_succ]
            iterate 2
             refine wpHeld_cons ?_ (by rfl) (fun wS hwS=> ?_) ?_
             rotate_left
             ·(try dsimp only at hwS)
              go_simp
              all_goals with_reducible rfl
             simp only [Act.put,List.setIfInBounds_toArray,List.set_cons_zero,List.set_cons_succ]
            refine wpHeld_nil ?_
            generalize hwA:wc.drew.alloc (.cells #[.int .i64 (t:Int),.int .i64 (p:Int),.pointer Pv,.bool false] 290)=wA at *
            generalize wc.drew=wd at *
            refine wpMid_cons ?_
            go_wp2_with fail
            try rw [hwA]
            refine⟨XSA.out,wpMid_cons ?_⟩
            go_wp2_with (at_builtin;refine wp_append _ rfl (.tmp 141) (.tmp 152) _ rfl Tryz.elemEdge 0 (.slice Ae' nF ce') nF _ rfl XownA.out _ _ [.int .i64 (t:Int),.int .i64 (p:Int),.pointer Pv,.bool false] 1 rfl rfl Xrone.out (by intro u hu;simp only [List.mem_cons,List.not_mem_nil,or_false]at hu;rcases hu with rfl|rfl|rfl|rfl<;>rfl) (by unfold maxLen;omega) (by omega) (Nat.zero_le _) ?_)
            intro A4 c4 w4 own4 g4 ho4
            rw [XhnF.out]at own4 g4 ho4
            rw [XhAe.out,Xhce.out]at g4 ho4
            obtain⟨f11,fL,fz,q5,s5⟩:=Xs2.out.edge (e:=⟨(t:Int),p,setOf c ⟨ft,em⟩,false⟩) (p:= .pointer Pv) (Xs2.out.sx _ (List.mem_cons_self ..)) XbA.out Xp1.out Xp2.out Xp3.out own4 g4 ho4
            rw [<-XhAe.out,<-Xhce.out,<-XhnF.out]at f11
            rw [<-XhnF.out,<-Xhy2.out]at s5
            have S4:w4.cell? ⟨M,11,none⟩=some (.slice Ae' nF ce')/\w4.cell? ⟨C,2,none⟩=some (.bool false)/\w4.cell? ⟨B,1,none⟩=some (.bool em):=⟨f11,fL _ (List.mem_cons_self ..) 2 _ rfl,fL _ (List.mem_cons_of_mem _ (List.mem_cons_self ..)) 1 _ rfl⟩
            clear own4 g4 ho4 fL XSA XbA Xs2 XS2 Xp1 Xp2 Xp3 XownA Xrone hwA
            obtain⟨Xs5,XS4⟩:=HqZ2 s5 S4;clear s5 S4
            refine⟨XS4.out,wpMid_nil ?_⟩
            clear XS4
            go_wp2_with fail
            refine NoPanic.normal ?_
            clear f11 fz
            go_wp2_with fail
            go_roundw
            case rel=>exact⟨b+1,q5,y2,by omega,by go_num,Xs5.out,XhI2.out,XhG3.out,by have:=Xhlc.out;have:=Xhl2.out;omega,XhdF.out⟩
            case measure=>simp [intOf];omega
        ·have hlu': ¬(b:Int)<(nu:Int):=by omega
         rw [List.take_of_length_le (by rw [<-Xhnu.out];omega)]at hdb
         have hstF:=Xst14.out.trans se'.st
         have sF:SI w10 q10.ow M [(B,278, #[.pointer Pt,.bool em]),(X,226, #[.int .i64 (k:Int),.int .i64 (dt:Int)])] [(.pointer Pt,ft)] d wr qe yb:=by
          have:=se'.drop.dropS.dropS
          exact⟨this.k,this.M,this.bx,this.sx,hstF⟩
         have hdF: ∀c'∈(d.cm sn).take (a+1),∀k'∈ofOf d.G c'.s,DoneK d p i ((k:Int),(dt:Int)) c' k' yb:=fun c' hc' k' hk'=>by
          rw [<-take_getA Xhc.out]at hc'
          rcases List.mem_append.1 hc' with hc'|hc'
          ·exact(Xhda.out c' hc' k' hk').mono hGb
          ·rw [List.mem_singleton.1 hc']at hk'⊢
           rw [Xhcs.out]at hk'
           exact hdb k' hk'
         have hGF:=XhGa.out.trans hGb
         have hlF:yb.ed.length<=n1+(a+1) * 300:=by have:=Xhla.out;have:=Xhn2.out;rw [Nat.add_mul];omega
         clear se' hdb hstF
         obtain⟨XsF,XhdF,XhGF,XhlF,XhIb⟩:=HqZ5 sF hdF hGF hlF hIb;clear sF hdF hGF hlF hIb
         go_wp2_with fail
         go_roundw
         case rel=>exact⟨a+1,qe,yb,by omega,by go_num,XsF.out,XhIb.out,XhGF.out,XhlF.out,XhdF.out⟩
         case measure=>simp [intOf];omega
     ·have hlt': ¬(a:Int)<(nC:Int):=by omega
      rw [List.take_of_length_le (by rw [<-XhnC.out];omega)]at hda
      have hG:=XhG1.out.trans hGa
      have hst:=Xst10.out.trans sa.st
      have hln:ya.ed.length<=y.ed.length+40000:=by have h1:a * 300<=120 * 300:=Nat.mul_le_mul_right _ (by omega);have:=Xhn1.out;rw [Xhnn1.out]at this;have:=XhnE.out;omega
      obtain⟨Xsa,XhIa,XhGa,Xhda,XhG,Xhst,Xhln⟩:=HqZ7 sa hIa hGa hda hG hst hln;clear sa hIa hGa hda hG hst hln
      go_wp2_with fail
      go_end0
      exact⟨rfl,qa,ya,Xsa.out.k,Xsa.out.M.trans XhM.out,Xhst.out,XhIa.out,XhG.out,full_of rfl rfl Xhbe.out (by obtain⟨e,e1,e2⟩:=XhA1.out;exact⟨e,XhGa.out.ed e e1,e2⟩) (fun _=>by rw [Int.toNat_natCast];exact Xhda.out),Xhln.out⟩
 ·have hdl':(nz:Int)<=(dt:Int):=by omega
  obtain⟨Xh,XhL,XhI,Xhl,Xhp,XhB,Xhrr,Xhrs,Xhnz,Xs1,XhM,XhX,XhT,XhN⟩:=HqZ14 h hL hI hl hp hB hrr hrs hnz s1 hM hX hT hN;have XhR:=hide hR;clear h hL hI hl hp hB hrr hrs hnz s1 hM hX hT hN hR
  go_enter Tryz.func198,Tryz.ntmps198
  go_wp2_with fail
  try rw [<-XhX.out]
  refine region_reads (by kernel_rfl) (by kernel_rfl) ?_
  repeat still_step
  refine wpStill_nil ?_
  go_wp2_with fail
  go_wp2_with fail
  go_end0
  have dr:Below w1.heap.size w1 w1.drew:=(Below.refl _ _).drew
  obtain⟨q2,s2⟩:=Xs1.out.below' dr
  exact⟨rfl,q2,y,s2.k,s2.M.trans XhM.out,s2.st,XhI.out,GrI.refl y,full_end (by show(rgt d.G d.st (k:Int)).length<=((dt:Nat):Int).toNat;rw [<-Xhrr.out,<-Xhnz.out];omega) (by simp only;omega),Nat.le_add_right _ _⟩
end Go.Proofs.YthlbjgabhpdbfaaGreat

/- Lookaheads: the places of items. -/
import Derived.Test.YthlbjgabhpdbfaaGreatALook2
namespace Go.Proofs.YthlbjgabhpdbfaaGreat
set_option linter.unusedVariables false
set_option linter.unusedSimpArgs false
open Go.RowKit
attribute [local irreducible] wpStill wpOne wpPh
theorem idx_at: ∀{l:List It} {k:Nat} {x:It},l[k]? =some x->(∀(j:Nat) y,j<k->l[j]? =some y->y≠x)->l.idxOf x=k
 |[],k,x,h,_=>by simp at h
 |a::r,0,x,h,_=>by
  have:a=x:=by simpa using h
  subst this
  simp
 |a::r,k+1,x,h,hb=>by
  have h0:a≠x:=hb 0 a (by omega) rfl
  rw [List.idxOf_cons,show(a==x)=false from by simpa using h0]
  exact congrArg Nat.succ (idx_at (by simpa using h) (fun j y hj hy=>hb (j+1) y (by omega) (by simpa using hy)))
def placeD (D:List (List It×List It)) (ba:List Int) (i:Nat) (x:It):Int:=if x∈((D[i]?).getD ([],[])).1 then(ba[i]?).getD 0+(((D[i]?).getD ([],[])).1.idxOf x:Nat)else -1
structure LkB (d:LD):Prop where
 T:d.T<=120
 ba: ∀b∈d.ba,0<=b/\b<=100000000
 D: ∀e∈d.D,e.1.length<=1000000
 n:d.D.length<=2000
theorem Row.at_ {V:World} {ow:Nat->Nat} {i:Nat} {e:TypeId} {size:Nat} {A:Option Addr} {n c:Nat} {xs:List Value} (h:Row V ow i e size A n c xs) {j:Nat} {u:Value} (hu:xs[j]? =some u): ∃g,A=some ⟨g,0,none⟩/\V.cell? ⟨g,j,none⟩=some u/\V.frozen? ⟨g,j,none⟩=false/\ow g=i:=by
 rcases h.own.2 with⟨hv,he⟩|⟨g,cap,cur,hv,-⟩
 ·have h1:=h.own.1
  have h2:=(List.getElem?_eq_some_iff.1 hu).1
  rw [he,Nat.zero_mul]at h1
  omega
 ·injection hv with hv _ _
  subst hv
  obtain⟨a,b⟩:=own_cell h.own hu
  exact⟨g,rfl,a,b,h.tag g rfl⟩
theorem Row.cap {V:World} {ow:Nat->Nat} {i:Nat} {e:TypeId} {size:Nat} {A:Option Addr} {n c:Nat} {xs:List Value} (h:Row V ow i e size A n c xs):n<=c/\c<=9223372036854775807:=by
 obtain⟨A',c',e,h1,h2⟩:=ownsRow_shape h.own
 cases e
 exact⟨h1,h2⟩
section
variable {V : World} {q : LQ} {d : LD} {y : Dy}
set_option maxRecDepth 100000 in
set_option maxHeartbeats 2000000 in
theorem look_place (h:MK V q d y) (hB:LkB d) {i:Nat} (hi:i<d.D.length) (hib:i<d.ba.length) (x:It):
  Calls Tryz.prog 256 #[PtrV q.M,.int .i64 (i:Int),.agg #[.int .i64 x.1,.int .i64 x.2]] V (Quiet V (.int .i64 (placeD d.D d.ba i x))):=by
 obtain⟨-,-,-,-,q4,-,-,-,-,q9,-,-,-⟩:=h.cells
 obtain⟨e,he⟩: ∃e,d.D[i]? =some e:=⟨_,List.getElem?_eq_getElem hi⟩
 obtain⟨b0,hb0⟩: ∃b,d.ba[i]? =some b:=⟨_,List.getElem?_eq_getElem hib⟩
 obtain⟨hbl,hbh⟩:=hB.ba b0 (List.mem_of_getElem? hb0)
 have hel:=hB.D e (List.mem_of_getElem? he)
 obtain⟨-,hlc,hlm,hcell⟩:=h.l.at_
 obtain⟨bS,oS,hAl,hbS,hcs⟩:=hcell (by omega)
 obtain⟨z1,z2,u1,-,s1,-⟩:=hcs i e he
 obtain⟨A5,n5,c5,rfl,-⟩:=id s1
 obtain⟨hn5,hnc5,hcm5,-⟩:=RdIt.at_ s1
 unfold maxLen at hcm5 hlm
 obtain⟨gb,hAb,ub,-,-⟩:=h.b.at_ (j:=i) (u:= .int .i64 b0) (by rw [List.getElem?_map,hb0];rfl)
 obtain⟨_,cb0,ecb,hbc,hbm⟩:=ownsRow_shape h.b.own
 injection ecb with _ _ ecb
 rw [<-ecb]at hbc hbm
 unfold maxLen at hbm
 rw [hAl]at q4
 rw [hAb]at q9
 obtain⟨nD,hnD⟩: ∃n,n=d.D.length:=⟨_,rfl⟩
 obtain⟨nb,hnb⟩: ∃n,n=d.ba.length:=⟨_,rfl⟩
 obtain⟨cl,hcl⟩: ∃x,x=q.cl:=⟨_,rfl⟩
 obtain⟨cb,hcb⟩: ∃x,x=q.cb:=⟨_,rfl⟩
 obtain⟨M,hM⟩: ∃x,x=q.M:=⟨_,rfl⟩
 rw [<-hnD,<-hcl,<-hM]at q4
 rw [<-hnb,<-hcb,<-hM]at q9
 rw [<-hM]
 have hi':(i:Int)<(nD:Int):=by omega
 have hib':(i:Int)<(nb:Int):=by omega
 have s1:=s1.mono (F':=fun b=>b<V.heap.size) (fun b hb=>hb.1)
 obtain⟨x0,x1⟩:=x
 have hpl:placeD d.D d.ba i (x0,x1)=if((x0,x1):It)∈e.1 then b0+(e.1.idxOf (x0,x1):Nat)else -1:=by unfold placeD;rw [he,hb0];rfl
 obtain⟨R,hR⟩: ∃R,R=placeD d.D d.ba i (x0,x1):=⟨_,rfl⟩
 rw [<-hR]
 rw [hpl]at hR
 obtain⟨l,hl⟩: ∃l,l=e.1:=⟨_,rfl⟩
 rw [<-hl]at s1 hn5 hel hR
 have hl4:=World.block_lt_of_cell? _ _ q4
 have k1:Blk (V.alloc (.cells #[.int .i64 x0,.int .i64 x1] 226)) V.heap.size 226 #[.int .i64 x0,.int .i64 x1]:=Blk.new _ _ _
 have b1:Below V.heap.size V (V.alloc (.cells #[.int .i64 x0,.int .i64 x1] 226)):=(Below.refl _ _).alloc (Nat.le_refl _) _
 have u1l:=World.block_lt_of_cell? _ _ u1
 have ubl:=World.block_lt_of_cell? _ _ ub
 have q9l:=World.block_lt_of_cell? _ _ q9
 clear h hB he hcell hcs hAl hbS hnD hcl hcb hAb hM hpl hl hbc hnb hi hib hb0 hl4 hlc hlm
 obtain⟨Xs1,Xhn5,Xk1,Xb1,XhR⟩:=HqZ5 s1 hn5 k1 b1 hR;clear s1 hn5 k1 b1 hR
 unfold PtrV
 go_enter Tryz.func256,Tryz.ntmps256
 go_wp2_with fail
 go_loopw [18] (fun iv wr=> ∃k:Nat,k<=n5/\iv= .int .i64 k/\(∀(j:Nat) y,j<k->l[j]? =some y->y≠((x0,x1):It))/\Blk wr V.heap.size 226 #[.int .i64 x0,.int .i64 x1]/\Below V.heap.size V wr) (fun iv _=>n5 - (intOf iv).toNat)
 case atStart=>exact⟨0,Nat.zero_le _,rfl,fun j y hj=>absurd hj (by omega),Xk1.out,Xb1.out⟩
 case round=>
  clear Xk1 Xb1
  obtain⟨k,hk,rfl,hno,kx,le⟩:=hrel
  by_cases hlt:k<n5
  ·have hlt':(k:Int)<(n5:Int):=by omega
   have rl:=Xs1.out.below le (fun b hb=>hb)
   obtain⟨-,-,-,hcell5⟩:=RdIt.at_ rl
   obtain⟨b5,o5,rfl,-,hcc5⟩:=hcell5 (by omega)
   obtain⟨⟨y0,y1⟩,hy⟩: ∃y,l[k]? =some y:=⟨_,List.getElem?_eq_getElem (by rw [<-Xhn5.out];exact hlt)⟩
   obtain⟨p0,p1⟩:=hcc5 k _ hy
   simp only at p0 p1
   have al:Below wr.heap.size wr (wr.alloc (.cells #[.int .i64 y0,.int .i64 y1] 226)):=(Below.refl _ _).alloc (Nat.le_refl _) _
   have ky:Blk (wr.alloc (.cells #[.int .i64 y0,.int .i64 y1] 226)) wr.heap.size 226 #[.int .i64 y0,.int .i64 y1]:=Blk.new _ _ _
   have kx2:=kx.below al kx.lt
   have le2:=le.trans (al.mono le.size)
   have q9':=(le2.cell (p:=⟨M,9,none⟩) q9l).trans q9
   have ub':=(le2.cell (p:=⟨gb,i,none⟩) ubl).trans ub
   have e0:=(kx2.cell 0).trans rfl
   have e1:=(kx2.cell 1).trans rfl
   have f0:=(ky.cell 0).trans rfl
   have f1:=(ky.cell 1).trans rfl
   have heq:=fun W=>eql_item x0 x1 y0 y1 W
   clear hcell5 hcc5 rl al kx ky
   by_cases hxy:((x0,x1):It)=(y0,y1)
   ·rw [decide_eq_true hxy]at heq
    have hix:=idx_at (l:=l) (k:=k) (x:=(x0,x1)) (by rw [hxy];exact hy) hno
    have hmem:((x0,x1):It)∈l:=by rw [hxy];exact List.mem_of_getElem? hy
    have hwr:IntKind.i64.wrap (b0+(k:Int))=b0+(k:Int):=by have:=Xhn5.out;rw [IntKind.wrap_i64];omega
    obtain⟨Xhno,Xhy,Xkx2,Xle2,Xhxy,Xhix,Xhmem⟩:=HqZ7 hno hy kx2 le2 hxy hix hmem;clear hno hy kx2 le2 hxy hix hmem
    go_wp2_with fail
    go_ret
    rw [XhR.out,if_pos Xhmem.out,Xhix.out]
    exact⟨rfl,Xle2.out⟩
   ·rw [decide_eq_false hxy]at heq
    have hno2: ∀(j:Nat) y,j<k+1->l[j]? =some y->y≠((x0,x1):It):=fun j y hj hjy=>by
     by_cases ej:j=k
     ·subst ej;rw [hy]at hjy;injection hjy with hjy;rw [<-hjy];exact fun e=>hxy e.symm
     ·exact hno j y (by omega) hjy
    clear hno
    obtain⟨Xhno2,Xhy,Xkx2,Xle2,Xhxy⟩:=HqZ5 hno2 hy kx2 le2 hxy;clear hno2 hy kx2 le2 hxy
    go_wp2_with fail
    go_roundw
    case rel=>exact⟨k+1,by omega,by go_num,Xhno2.out,Xkx2.out,Xle2.out⟩
    case measure=>simp [intOf];omega
  ·have hlt': ¬(k:Int)<(n5:Int):=by omega
   have hmem: ¬((x0,x1):It)∈l:=fun hm=>by
    obtain⟨j,hj,e⟩:=List.getElem_of_mem hm
    exact hno j _ (by have:=Xhn5.out;omega) (List.getElem?_eq_getElem hj) e
   clear hno kx
   obtain⟨Xhmem,Xle⟩:=HqZ2 hmem le;clear hmem le
   go_wp2_with fail
   go_ret
   rw [XhR.out,if_neg Xhmem.out]
   exact⟨rfl,Xle.out⟩
theorem RgtV.at_ {ow:Nat->Nat} {A:Option Addr} {c:Nat} {rs:List (List Int)} (h:RgtV V ow A c rs) {k:Nat} {r:List Int} (hk:rs[k]? =some r): ∃g Az nz cz,A=some ⟨g,0,none⟩/\V.cell? ⟨g,k,none⟩=some (.slice Az nz cz)/\RdI V (TF V ow (fun t=>t=1\/t=2)) (.slice Az nz cz) r/\rs.length<=c/\c<=9223372036854775807:=by
 obtain⟨Z,h1,h2,h3⟩:=h
 have hkl:=(List.getElem?_eq_some_iff.1 hk).1
 obtain⟨z,hz⟩: ∃z,Z[k]? =some z:=⟨_,List.getElem?_eq_getElem (by omega)⟩
 obtain⟨g,e1,e2,-,-⟩:=h2.at_ hz
 have hr:=h3 k z r hz hk
 obtain⟨Az,nz,cz,rfl,-⟩:=id hr
 obtain⟨_,c0,ec,hc,hm⟩:=ownsRow_shape h2.own
 injection ec with _ _ ec
 rw [<-ec]at hc hm
 exact⟨g,Az,nz,cz,e1,e2,hr,hc,hm⟩
def toD (d:LD) (i:Nat) (x:It) (s:Int):Int:=placeD d.D d.ba (gotoD d.D i s).toNat (x.1,x.2+1)
set_option maxRecDepth 100000 in
set_option maxHeartbeats 2000000 in
theorem look_to (h:MK V q d y) (hB:LkB d) {i k dt j:Nat} {r:List Int} {s:Int} (hk:d.rs[k]? =some r) (hs:r[dt]? =some s) (hg:gotoD d.D i s=(j:Int)) (hj:j<d.D.length) (hjb:j<d.ba.length):
  Calls Tryz.prog 229 #[PtrV q.M,.int .i64 (i:Int),.agg #[.int .i64 (k:Int),.int .i64 (dt:Int)]] V (Quiet V (.int .i64 (toD d i ((k:Int),(dt:Int)) s))):=by
 have b1:Below V.heap.size V (V.alloc (.cells #[.int .i64 (k:Int),.int .i64 (dt:Int)] 226)):=(Below.refl _ _).alloc (Nat.le_refl _) _
 have k1:Blk (V.alloc (.cells #[.int .i64 (k:Int),.int .i64 (dt:Int)] 226)) V.heap.size 226 #[.int .i64 (k:Int),.int .i64 (dt:Int)]:=Blk.new _ _ _
 generalize hw1:V.alloc (.cells #[.int .i64 (k:Int),.int .i64 (dt:Int)] 226)=w1 at *
 have h1:=h.below b1 2
 obtain⟨q1,hq1⟩: ∃x,x={q with ow:=ext V q.ow 2}:=⟨_,rfl⟩
 rw [<-hq1]at h1
 have hM1:q.M=q1.M:=by rw [hq1]
 obtain⟨-,-,-,-,q4,q5,-⟩:=h1.cells
 obtain⟨gr,Az,nz,cz,eA,u1,rd,hrc,hrm⟩:=h1.r.at_ hk
 rw [eA]at q5
 obtain⟨hnz,hnc,hcm,hcell⟩:=RdI.at_ rd
 unfold maxLen at hcm
 have hdt:=(List.getElem?_eq_some_iff.1 hs).1
 obtain⟨bz,oz,eZ,-,hcc⟩:=hcell (by omega)
 subst eZ
 have us:=hcc dt s hs
 have hkl:=(List.getElem?_eq_some_iff.1 hk).1
 have cg:=fun W (b:Below w1.heap.size w1 W)=>auto_Goto (h1.l.below b (fun z hz=>hz.1)) (fun z hz=>Nat.lt_of_lt_of_le hz.1 b.size) (i:Int) s
 rw [hg]at cg
 have cp:=fun W (b:Below w1.heap.size w1 W)=>look_place (h1.below b 2) hB hj hjb ((k:Int),(dt:Int)+1)
 have hR:toD d i ((k:Int),(dt:Int)) s=placeD d.D d.ba j ((k:Int),(dt:Int)+1):=by unfold toD;rw [hg,Int.toNat_natCast]
 obtain⟨R,eR⟩: ∃R,R=placeD d.D d.ba j ((k:Int),(dt:Int)+1):=⟨_,rfl⟩
 rw [hR,<-eR]
 simp only [<-eR]at cp
 have d0:=(k1.cell 0).trans rfl
 have d1:=(k1.cell 1).trans rfl
 obtain⟨nR,hnR⟩: ∃n,n=d.rs.length:=⟨_,rfl⟩
 obtain⟨cR,hcR⟩: ∃n,n=q1.cr:=⟨_,rfl⟩
 obtain⟨nD,hnD⟩: ∃n,n=d.D.length:=⟨_,rfl⟩
 obtain⟨cl,hcl⟩: ∃n,n=q1.cl:=⟨_,rfl⟩
 obtain⟨Al,hAl⟩: ∃n,n=q1.Al:=⟨_,rfl⟩
 obtain⟨M,hM⟩: ∃x,x=q1.M:=⟨_,rfl⟩
 have cp: ∀W,Below w1.heap.size w1 W->Calls Tryz.prog 256 #[.pointer (some ⟨M,0,none⟩),.int .i64 (j:Int),.agg #[.int .i64 (k:Int),.int .i64 ((dt:Int)+1)]] W (Quiet W (.int .i64 R)):=fun W b=>by rw [hM];exact cp W b
 rw [<-hnD,<-hcl,<-hAl]at cg
 rw [<-hnR,<-hcR,<-hM]at q5
 rw [<-hnD,<-hcl,<-hAl,<-hM]at q4
 rw [hM1,<-hM]
 have hk':(k:Int)<(nR:Int):=by omega
 have hd':(dt:Int)<(nz:Int):=by omega
 have hwr:IntKind.i64.wrap ((dt:Int)+1)=(dt:Int)+1:=by rw [IntKind.wrap_i64];omega
 clear h h1 hB hk hs hg hj hjb k1 rd hcell hcc eA hq1 hM1 hM hnR hcR hnD hcl hAl hR eR hrc hrm hkl hnz hnc hcm hdt
 obtain⟨Xb1,Xcg,Xcp⟩:=HqZ3 b1 cg cp;clear b1 cg cp
 unfold PtrV
 go_enter Tryz.func229,Tryz.ntmps229
 go_wp2_with fail
 refine region_reads (by kernel_rfl) (by kernel_rfl) ?_
 repeat still_step
 refine wpStill_nil ?_
 go_wp2_with fail
 have dr:Below w1.heap.size w1 w1.drew.drew:=(Below.refl _ _).drew.drew
 have d0:w1.drew.drew.cell? ⟨V.heap.size,0,none⟩=some (.int .i64 (k:Int)):=d0
 have d1:w1.drew.drew.cell? ⟨V.heap.size,1,none⟩=some (.int .i64 (dt:Int)):=d1
 have q4:w1.drew.drew.cell? ⟨M,4,none⟩=some (.slice Al nD cl):=q4
 refine wp_region_held_drew (S:=(fun W=>W.cell? ⟨M,4,none⟩=some (.slice Al nD cl)/\W.cell? ⟨V.heap.size,0,none⟩=some (.int .i64 (k:Int))/\W.cell? ⟨V.heap.size,1,none⟩=some (.int .i64 (dt:Int)))) (by kernel_rfl) ?_ (fun hHeld=> ?_)
 ·exact⟨q4,d0,d1⟩
 clear q5 u1 us hk' hd' hw1
 have Xdr:=hide dr;clear dr
 generalize w1.drew.drew=wd at *
 refine tZ 0 ?_;try simp only [Act.put,sT,s0,s1]
 refine tZ 1 ?_;try simp only [Act.put,sT,s0,s1]
 refine tZ 2 ?_;try simp only [Act.put,sT,s0,s1]
 refine tZ 3 ?_;try simp only [Act.put,sT,s0,s1]
 refine tZ 4 ?_;try simp only [Act.put,sT,s0,s1]
 refine tZ 5 ?_;try simp only [Act.put,sT,s0,s1]
 refine tZ 6 ?_;try simp only [Act.put,sT,s0,s1]
 refine tZ 8 ?_;try simp only [Act.put,sT,s0,s1]
 refine tZ 9 ?_;try simp only [Act.put,sT,s0,s1]
 refine tZ 10 ?_;try simp only [Act.put,sT,s0,s1]
 refine tZ 11 ?_;try simp only [Act.put,sT,s0,s1]
 refine tZ 12 ?_;try simp only [Act.put,sT,s0,s1]
 refine tZ 13 ?_;try simp only [Act.put,sT,s0,s1]
 refine wpAnyH_ready (rs:=[7]) (by kernel_rfl) (by simp) ?_
 refine AllReadyH.cons (o:= ?_) ?_ (fun K hK=> ?_) AllReadyH.nil;rotate_left 1;(focus((try simp only [gT,gs,gz]);try rfl))
 go_simp
 go_at_call 74
 refine(Xcg.out _ Xdr.out).mono ?_
 rintro e w2 ⟨rfl,b2⟩
 have S2:w2.cell? ⟨M,4,none⟩=some (.slice Al nD cl)/\w2.cell? ⟨V.heap.size,0,none⟩=some (.int .i64 (k:Int))/\w2.cell? ⟨V.heap.size,1,none⟩=some (.int .i64 (dt:Int)):=⟨(b2.cell (p:=⟨M,4,none⟩) (World.block_lt_of_cell? _ _ q4)).trans q4,(b2.cell (p:=⟨V.heap.size,0,none⟩) (World.block_lt_of_cell? _ _ d0)).trans d0,(b2.cell (p:=⟨V.heap.size,1,none⟩) (World.block_lt_of_cell? _ _ d1)).trans d1⟩
 have bw2:=Xdr.out.trans (b2.mono Xdr.out.size)
 clear q4 d0 d1 b2 Xcg hHeld
 obtain⟨XS2,Xbw2⟩:=HqZ2 S2 bw2;clear S2 bw2
 refine hK.out _ _ ?_ (fun hHeld=> ?_)
 ·exact XS2.out
 clear hK K
 try simp only [Act.put,sT,s0,s1]
 refine wpAnyH_ready (rs:=[14]) (by kernel_rfl) (by simp) ?_
 refine AllReadyH.cons (o:= ?_) ?_ (fun K hK=> ?_) AllReadyH.nil;rotate_left 1;(focus((try simp only [gT,gs,gz]);try rfl))
 go_simp
 go_at_call 256
 refine(Xcp.out _ Xbw2.out).mono ?_
 rintro e w3 ⟨rfl,b3⟩
 obtain⟨q4,d0,d1⟩:=XS2.out
 have S3:w3.cell? ⟨M,4,none⟩=some (.slice Al nD cl)/\w3.cell? ⟨V.heap.size,0,none⟩=some (.int .i64 (k:Int))/\w3.cell? ⟨V.heap.size,1,none⟩=some (.int .i64 (dt:Int)):=⟨(b3.cell (p:=⟨M,4,none⟩) (World.block_lt_of_cell? _ _ q4)).trans q4,(b3.cell (p:=⟨V.heap.size,0,none⟩) (World.block_lt_of_cell? _ _ d0)).trans d0,(b3.cell (p:=⟨V.heap.size,1,none⟩) (World.block_lt_of_cell? _ _ d1)).trans d1⟩
 have bw3:=Xb1.out.trans ((Xbw2.out.trans (b3.mono Xbw2.out.size)).mono Xb1.out.size)
 clear q4 d0 d1 b3 Xcp hHeld
 obtain⟨XS3,Xbw3⟩:=HqZ2 S3 bw3;clear S3 bw3
 refine hK.out _ _ ?_ (fun hHeld=> ?_)
 ·exact XS3.out
 clear hK K
 try simp only [Act.put,sT,s0,s1]
 refine tZ 15 ?_;try simp only [Act.put,sT,s0,s1]
 refine wpAnyH_done (by kernel_rfl) ?_ _
 go_wp2_with fail
 go_ret
 exact⟨rfl,Xbw3.out⟩
def endD (y:Dy) (i:Nat) (k:Int):Dy×Nat:=match(y.fi i).find? (fun x=>decide (x.1=k))with|some x=>(y,x.2)|none=>({freshD y with fi:=upd y.fi i (y.fi i++[(k,y.na)])},y.na)
theorem Tryz.infoFinal:(Tryz.prog.info? 299).map (fun i=>(i.zero,i.size,i.bytes))=some (some (.agg #[.int .i64 0,.int .i64 0]),2,16):=by kernel_rfl
theorem Tryz.elemFinal:Elem Tryz.prog 297 299 (.agg #[.int .i64 0,.int .i64 0]) 2 16:=⟨Tryz.underlying297,Tryz.infoFinal,rfl,by decide⟩
theorem fi_len (l:List (Int×Nat)):(fiCells l).length=l.length * 2:=flat_len (k:=2) (f:=fun x:Int×Nat=>[.int .i64 x.1,.int .i64 (x.2:Int)]) (fun _=>rfl) l
theorem fi_get {l:List (Int×Nat)} {k:Nat} {x:Int×Nat} (h:l[k]? =some x):(fiCells l)[k * 2]? =some (.int .i64 x.1)/\(fiCells l)[k * 2+1]? =some (.int .i64 (x.2:Int)):=
 ⟨flat_get (k:=2) (f:=fun x:Int×Nat=>[.int .i64 x.1,.int .i64 (x.2:Int)]) (fun _=>rfl) h (j:=0) (by omega),flat_get (k:=2) (f:=fun x:Int×Nat=>[.int .i64 x.1,.int .i64 (x.2:Int)]) (fun _=>rfl) h (j:=1) (by omega)⟩
theorem Rows.grown_cell {V V':World} {ow:Nat->Nat} {i:Nat} {e:TypeId} {size P n:Nat} {vs:Nat->Value} {xs:Nat->List Value} (h:Rows V ow i e size P n vs xs) {k:Nat} (hk:k<n) (g:V.grownBy V' (vs k).ownBlock):V'.cell? ⟨P,k,none⟩=some (vs k)/\V'.frozen? ⟨P,k,none⟩=false:=by
 have t1:Touch (fun b=>(vs k).ownBlock=some b) V V':=(Touch.refl _ _).grown g (fun k e _=>e)
 have hPk: ¬(vs k).ownBlock=some P:=fun e=>(h.tag k P hk e).2 rfl
 exact⟨t1.cell (h.cell k hk) hPk,(World.frozen?_of_block (a:=⟨P,k,none⟩) (t1.block P h.hP.1 hPk)).trans (h.frz k hk)⟩
theorem fi_upd (fi:Nat->List (Int×Nat)) (i:Nat) (k:Int) (n:Nat):upd (fun j=>fiCells (fi j)) i (fiCells (fi i)++[.int .i64 k,.int .i64 (n:Int)])=fun j=>fiCells (upd fi i (fi i++[(k,n)]) j):=by
 funext j
 by_cases e:j=i
 ·subst e
  rw [upd_same,upd_same]
  unfold fiCells
  rw [List.flatMap_append];rfl
 ·rw [upd_ne e,upd_ne e]
set_option maxRecDepth 100000 in
set_option maxHeartbeats 4000000 in
theorem look_end (h:MK V q d y) (hT:d.T<=120) (hn:y.na<=100000000) {i:Nat} (hi:i<d.D.length) (hl:(y.fi i).length<=1000000) (hD:d.D.length<=2000) (k:Int):
  Calls Tryz.prog 233 #[PtrV q.M,.int .i64 (i:Int),.int .i64 k] V fun e V'=>e= .returned (.int .i64 ((endD y i k).2:Int))/\Dy01 V q d (endD y i k).1 (fun j=>j=0\/j=8\/j=10) V':=by
 obtain⟨-,-,-,-,-,-,-,-,-,-,-,-,q12⟩:=h.cells
 obtain⟨vs,rows⟩:=h.f
 obtain⟨A,m,c,hv,cP,row,hxl⟩:=rows.at_ hi (by decide)
 rw [fi_len]at hxl
 have hm:m=(y.fi i).length:=by omega
 obtain⟨hmc,hcm⟩:=row.cap
 obtain⟨l,hle⟩: ∃l,l=y.fi i:=⟨_,rfl⟩
 rw [<-hle]at hm hl row
 obtain⟨M,hM⟩: ∃x,x=q.M:=⟨_,rfl⟩
 obtain⟨P,hP⟩: ∃x,x=q.Pf:=⟨_,rfl⟩
 obtain⟨nD,hnD⟩: ∃n,n=d.D.length:=⟨_,rfl⟩
 rw [<-hM,<-hP,<-hnD]at q12
 rw [<-hP]at cP
 rw [<-hM]
 have hi':(i:Int)<(nD:Int):=by omega
 have q12l:=World.block_lt_of_cell? _ _ q12
 have cPl:=World.block_lt_of_cell? _ _ cP
 have hnD2:nD<=2000:=by omega
 obtain⟨R,hR⟩: ∃R,R=endD y i k:=⟨_,rfl⟩
 rw [<-hR]
 clear rows hxl hi hD
 obtain⟨Xh,XhT,Xhle,XhM,XhP,XhnD,Xhm,Xrow,Xhv,XhR⟩:=HqZ10 h hT hle hM hP hnD hm row hv hR;clear h hT hle hM hP hnD hm row hv hR
 unfold PtrV
 go_enter Tryz.func233,Tryz.ntmps233
 go_wp2_with fail
 go_loopw [18] (fun iv wr=> ∃p:Nat,p<=m/\iv= .int .i64 p/\(∀(j:Nat) x,j<p->l[j]? =some x->x.1≠k)/\Below V.heap.size V wr) (fun iv _=>m - (intOf iv).toNat)
 case atStart=>exact⟨0,Nat.zero_le _,rfl,fun j y hj=>absurd hj (by omega),Below.refl _ _⟩
 case round=>
  obtain⟨p,hp,rfl,hno,le⟩:=hrel
  by_cases hlt:p<m
  ·have hlt':(p:Int)<(m:Int):=by omega
   obtain⟨x,hx⟩: ∃x,l[p]? =some x:=⟨_,List.getElem?_eq_getElem (by rw [<-Xhm.out];exact hlt)⟩
   obtain⟨f0,f1⟩:=fi_get hx
   obtain⟨g,eA,c0,-,-⟩:=Xrow.out.at_ f0
   obtain⟨g',eA',c1,-,-⟩:=Xrow.out.at_ f1
   rw [eA]at eA'
   injection eA' with eA'
   injection eA' with eA'
   subst eA' eA
   have c0:=(le.cell (p:=⟨g,p * 2,none⟩) (World.block_lt_of_cell? _ _ c0)).trans c0
   have c1:=(le.cell (p:=⟨g,p * 2+1,none⟩) (World.block_lt_of_cell? _ _ c1)).trans c1
   have al:Below wr.heap.size wr (wr.alloc (.cells #[.int .i64 x.1,.int .i64 (x.2:Int)] 299)):=(Below.refl _ _).alloc (Nat.le_refl _) _
   have kf:Blk (wr.alloc (.cells #[.int .i64 x.1,.int .i64 (x.2:Int)] 299)) wr.heap.size 299 #[.int .i64 x.1,.int .i64 (x.2:Int)]:=Blk.new _ _ _
   have le2:=le.trans (al.mono le.size)
   have e0:=(kf.cell 0).trans rfl
   have e1:=(kf.cell 1).trans rfl
   clear f0 f1 al kf
   obtain⟨x0,x1⟩:=x
   simp only at c0 c1 e0 e1 le2
   by_cases hxk:x0=k
   ·have hb:(x0==k)=true:=by simpa using hxk
    have hres:endD y i k=(y,x1):=by
     unfold endD
     rw [<-Xhle.out,List.find?_eq_some_iff_getElem.2 ⟨by simpa using hxk,p,(List.getElem?_eq_some_iff.1 hx).1,(List.getElem?_eq_some_iff.1 hx).2,fun j hj=>by simpa using hno j _ hj (List.getElem?_eq_getElem (by have:=(List.getElem?_eq_some_iff.1 hx).1;omega))⟩]
    obtain⟨Xhno,Xle,Xle2,Xhx,Xhxk,Xhres⟩:=HqZ6 hno le le2 hx hxk hres;clear hno le le2 hx hxk hres
    go_wp2_with fail
    go_ret
    rw [XhR.out,Xhres.out]
    exact⟨rfl,_,Xh.out.below Xle2.out 8,rfl,StL.new _ Xle2.out _ _⟩
   ·have hb:(x0==k)=false:=by simpa using hxk
    have hno2: ∀(j:Nat) y,j<p+1->l[j]? =some y->y.1≠k:=fun j y hj hjy=>by
     by_cases ej:j=p
     ·subst ej;rw [hx]at hjy;injection hjy with hjy;rw [<-hjy];exact hxk
     ·exact hno j y (by omega) hjy
    clear hno
    obtain⟨Xhno2,Xle,Xle2,Xhx,Xhxk⟩:=HqZ5 hno2 le le2 hx hxk;clear hno2 le le2 hx hxk
    go_wp2_with fail
    go_roundw
    case rel=>exact⟨p+1,by omega,by go_num,Xhno2.out,Xle2.out⟩
    case measure=>simp [intOf];omega
  ·have hlt': ¬(p:Int)<(m:Int):=by omega
   have hnone:l.find? (fun x=>decide (x.1=k))=none:=by
    rw [List.find?_eq_none]
    intro x hx
    obtain⟨j,hj,e⟩:=List.getElem_of_mem hx
    have:=hno j x (by have:=Xhm.out;omega) (by rw [List.getElem?_eq_getElem hj,e])
    simpa using this
   have h1:=Xh.out.below le 8
   have cf:=look_fresh h1 XhT.out hn
   have hfin: ∀V',Dy01 V q d {freshD y with fi:=upd y.fi i (l++[(k,y.na)])} (fun j=>j=0\/j=8\/j=10) V'->Dy01 V q d R.1 (fun j=>j=0\/j=8\/j=10) V':=fun V' hh=>by
    rw [XhR.out];unfold endD;rw [<-Xhle.out,hnone];exact hh
   have hr2:R.2=y.na:=by rw [XhR.out];unfold endD;rw [<-Xhle.out,hnone]
   have st1:StL (fun j=>j=0\/j=8\/j=10) V q.ow wr (ext V q.ow 8):=StL.new _ le _ _
   rw [show PtrV q.M= .pointer (some ⟨M,0,none⟩)from by rw [XhM.out]]at cf
   clear hno hnone XhR le
   obtain⟨Xcf,Xhfin,Xst1,Xhr2,Xh1⟩:=HqZ5 cf hfin st1 hr2 h1;clear cf hfin st1 hr2 h1
   go_wp2_with fail
   refine Xcf.out.mono ?_
   rintro e w2 ⟨rfl,q2,h2,hM2,st2⟩
   have hM2':q2.M=M:=hM2.trans XhM.out.symm
   obtain⟨-,-,-,-,-,-,-,-,-,-,-,-,r12⟩:=h2.cells
   obtain⟨vs2,rows2⟩:=h2.f
   have hi2:i<d.D.length:=by have:=XhnD.out;omega
   obtain⟨A2,m2,c2,hv2,cP2,row2,hxl2⟩:=rows2.at_ hi2 (by decide)
   rw [fi_len]at hxl2
   have hfr:(freshD y).fi i=l:=Xhle.out.symm
   rw [hfr]at hxl2
   have hm2:m2=m:=by have:=Xhm.out;omega
   subst hm2
   have hm26:m2<=1000000:=by have:=Xhm.out;omega
   obtain⟨hmc2,hcm2⟩:=row2.cap
   obtain⟨P2,hP2⟩: ∃x,x=q2.Pf:=⟨_,rfl⟩
   rw [hM2',<-hP2,<-XhnD.out]at r12
   rw [<-hP2]at cP2
   obtain⟨na,hna⟩: ∃x,x=y.na:=⟨_,rfl⟩
   rw [<-hna]
   clear rows2 row2 hxl2 hv2 q12 cP q12l cPl
   obtain⟨Xh2,XhM2',Xst2,Xhi2,XhP2,Xhna,Xhfr,XhM2⟩:=HqZ8 h2 hM2' st2 hi2 hP2 hna hfr hM2;clear h2 hM2' st2 hi2 hP2 hna hfr hM2
   go_wp2_with fail
   refine region_late (fun W=>W.cell? ⟨M,12,none⟩=some (.slice (some ⟨P2,0,none⟩) nD nD)/\W.cell? ⟨P2,i,none⟩=some (.slice A2 m2 c2)) 15 17 (by kernel_rfl) (by kernel_rfl) ⟨r12,cP2⟩ ?_
   simp only [List.take_succ_cons,List.take_zero,List.drop_succ_cons,List.drop_zero]
   iterate 15
    refine wpHeld_cons ?_ (by rfl) (fun wS hwS=> ?_) ?_
    rotate_left
    ·(try dsimp only at hwS)
     go_simp
     all_goals with_reducible rfl
    simp only [Act.put,List.setIfInBounds_toArray,List.set_cons_zero,List.set_cons_succ]
   refine wpHeld_nil ?_
   have bA:Below w2.heap.size w2 (w2.drew.alloc (.cells #[.int .i64 k,.int .i64 (na:Int)] 299)):=((Below.refl _ _).drew).alloc (Nat.le_refl _) _
   have SA:(w2.drew.alloc (.cells #[.int .i64 k,.int .i64 (na:Int)] 299)).cell? ⟨M,12,none⟩=some (.slice (some ⟨P2,0,none⟩) nD nD)/\(w2.drew.alloc (.cells #[.int .i64 k,.int .i64 (na:Int)] 299)).cell? ⟨P2,i,none⟩=some (.slice A2 m2 c2):=⟨(bA.cell (p:=⟨M,12,none⟩) (World.block_lt_of_cell? _ _ r12)).trans r12,(bA.cell (p:=⟨P2,i,none⟩) (World.block_lt_of_cell? _ _ cP2)).trans cP2⟩
   have rone:Rd (w2.drew.alloc (.cells #[.int .i64 k,.int .i64 (na:Int)] 299)) (fun x=>x=w2.heap.size) (.slice (some ⟨w2.heap.size,0,none⟩) 1 1) 2 [.int .i64 k,.int .i64 (na:Int)]:=Rd.one' (w:=w2.drew) (e:=299) [.int .i64 k,.int .i64 (na:Int)] 2 rfl
   have h4:=Xh2.out.below bA 10
   obtain⟨q4,hq4⟩: ∃x,x={q2 with ow:=ext w2 q2.ow 10}:=⟨_,rfl⟩
   rw [<-hq4]at h4
   have hM4:q4.M=M:=by rw [hq4];exact XhM2'.out
   have hP4:q4.Pf=P2:=by rw [hq4];exact XhP2.out.symm
   have st4:StL (fun j=>j=0\/j=8\/j=10) V q.ow (w2.drew.alloc (.cells #[.int .i64 k,.int .i64 (na:Int)] 299)) q4.ow:=by
    rw [hq4]
    exact(Xst1.out.trans (Xst2.out.mono fun j e=>e.elim .inl (fun e=> .inr (.inl e)))).trans (StL.new _ bA _ _)
   obtain⟨vs4,rows4⟩:=h4.f
   rw [hP4]at rows4
   obtain⟨A4,m4,c4,hv4,cP4,row4,-⟩:=rows4.at_ Xhi2.out (by decide)
   have e4:=cP4.symm.trans SA.2
   injection e4 with e4
   injection e4 with e4a e4b e4c
   subst e4a e4b e4c
   have own4:=row4.own
   clear r12 cP2 Xh2 Xst1 Xst2 bA
   obtain⟨XSA,Xrone,Xh4,Xhq4,XhM4,XhP4,Xst4,Xrows4,Xhv4,Xown4,Xrow4⟩:=HqZ11 SA rone h4 hq4 hM4 hP4 st4 rows4 hv4 own4 row4;clear SA rone h4 hq4 hM4 hP4 st4 rows4 hv4 own4 row4
   generalize hwA:w2.drew.alloc (.cells #[.int .i64 k,.int .i64 (na:Int)] 299)=wA at *
   refine wpMid_cons ?_
   go_wp2_with fail
   try rw [hwA]
   refine⟨XSA.out,wpMid_cons ?_⟩
   go_wp2_with (at_builtin;refine wp_append _ rfl (.tmp 42) (.tmp 46) _ rfl Tryz.elemFinal 0 (.slice A4 m4 c4) m4 _ rfl Xown4.out _ _ [.int .i64 k,.int .i64 (na:Int)] 1 rfl rfl Xrone.out (by intro u hu;simp only [List.mem_cons,List.not_mem_nil,or_false]at hu;rcases hu with rfl|rfl<;>rfl) (by unfold maxLen;omega) (by omega) (Nat.zero_le _) ?_)
   intro A9 c9 w9 own9 g9 hb9
   obtain⟨rows9,st9⟩:=Xrows4.out.app Xhi2.out Xhv4.out own9 g9 hb9
   obtain⟨cP9,fP9⟩:=Xrows4.out.grown_cell Xhi2.out (by rw [Xhv4.out];exact g9)
   rw [Xhv4.out]at cP9
   obtain⟨-,st8⟩:=Xrow4.out.app own9 g9 hb9
   have hb:=Xh4.out.box.touch st8.t (by rw [Xh4.out.tm];omega)
   have c12:w9.cell? ⟨q4.M,12,none⟩=some (.slice (some ⟨q4.Pf,0,none⟩) d.D.length d.D.length):=(hb.cell 12).trans rfl
   rw [XhM4.out,XhP4.out,<-XhnD.out]at c12
   rw [fi_upd]at rows9
   rw [<-XhP4.out]at rows9 st9
   have mk9:=Xh4.out.putN ⟨_,rows9⟩ st9
   have hww:w9.setCell ⟨q4.Pf,i,none⟩ (.slice A9 (m4+1) c9)=w9.setCell ⟨P2,i,none⟩ (.slice A9 (m4+1) c9):=by rw [XhP4.out]
   rw [hww]at st9 mk9
   have e:upd (freshD y).fi i ((freshD y).fi i++[(k,na)])=upd y.fi i (l++[(k,y.na)]):=by rw [Xhfr.out,Xhna.out];rfl
   rw [e]at mk9
   have hres:=Xhfin.out (w9.setCell ⟨P2,i,none⟩ (.slice A9 (m4+1) c9)) ⟨{q4 with ow:=ext wA q4.ow 10},mk9,XhM4.out.trans XhM.out,Xst4.out.trans (StL.mono (J':=fun j=>j=0\/j=8\/j=10) st9 (fun j e=> .inr (.inr e)))⟩
   clear hww e
   clear own9 g9 hb9 rows9 st9 st8 hb mk9 XSA Xh4 Xrows4 Xst4 Xrow4 Xown4
   have Xhres:=hide hres;clear hres
   refine⟨⟨c12,cP9⟩,wpMid_nil ?_⟩
   go_wp2_with fail
   refine NoPanic.normal ?_
   go_wp2_with fail
   go_ret
   exact⟨by rw [Xhr2.out,<-Xhna.out];rfl,Xhres.out⟩
end
end Go.Proofs.YthlbjgabhpdbfaaGreat

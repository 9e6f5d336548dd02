/- Lookaheads: a state's lookaheads, by rules. -/
import Derived.Test.YthlbjgabhpdbfaaGreatALook13
namespace Go.Proofs.YthlbjgabhpdbfaaGreat
set_option linter.unusedVariables false
set_option linter.unusedSimpArgs false
open Go.RowKit Go.Maps
attribute [local irreducible] wpStill wpOne wpPh
theorem Tryz.infoLook:(Tryz.prog.info? 215).map (fun i=>(i.zero,i.size,i.bytes))=some (some (.agg #[.int .i64 0,.slice none 0 0]),2,32):=by kernel_rfl
theorem Tryz.elemLook:Elem Tryz.prog 117 215 (.agg #[.int .i64 0,.slice none 0 0]) 2 32:=⟨Tryz.underlying117,Tryz.infoLook,rfl,by decide⟩
abbrev Lk:=Int×List Int
def lkCells (L:List Lk) (Z:List Value):List Value:=(List.zip L Z).flatMap fun x=>[.int .i64 x.1.1,x.2]
def RdLk (V:World) (F:Nat->Prop) (v:Value) (L:List Lk):Prop:= ∃Z:List Value,Z.length=L.length/\Rd V F v 2 (lkCells L Z)/\ ∀(j:Nat) z x,Z[j]? =some z->L[j]? =some x->RdI V F z x.2
section
variable {V V' : World} {F F' S : Nat -> Prop} {v : Value} {L : List Lk}
theorem RdLk.mono (h:RdLk V F v L) (hF: ∀b,F b->F' b):RdLk V F' v L:=by
 obtain⟨Z,h1,h2,h3⟩:=h
 exact⟨Z,h1,h2.mono hF,fun j z x hz hx=>(h3 j z x hz hx).mono hF⟩
theorem RdLk.touch (h:RdLk V F v L) (t:Touch S V V') (hF: ∀b,F b-> ¬S b):RdLk V' F v L:=by
 obtain⟨Z,h1,h2,h3⟩:=h
 exact⟨Z,h1,h2.touch t hF,fun j z x hz hx=>(h3 j z x hz hx).touch t hF⟩
theorem RdLk.below {B:Nat} (h:RdLk V F v L) (b:Below B V V') (hF: ∀k,F k->k<B):RdLk V' F v L:=by
 obtain⟨Z,h1,h2,h3⟩:=h
 exact⟨Z,h1,h2.below b hF,fun j z x hz hx=>(h3 j z x hz hx).below b hF⟩
end
structure LkM (base:Nat) (w:World) (A:Option Addr) (n c:Nat) (L:List Lk):Prop where
 ex: ∃Z:List Value,Z.length=L.length/\w.ownsRow base 215 2 (.slice A n c) n (lkCells L Z)/\ ∀(j:Nat) z x,Z[j]? =some z->L[j]? =some x->RdI w (fun b=>base<=b/\b<w.heap.size/\(Value.slice A n c).ownBlock≠some b) z x.2
 hn:n=L.length
section
variable {base n b : Nat} {w w1 w2 w3 : World} {A A' : Option Addr} {c c' : Nat} {L : List Lk} {Z : List Value}
theorem LkM.nil (base:Nat) (w:World):LkM base w none 0 0 []:=⟨⟨[],rfl,World.ownsRow_nil _ _ _ _,fun j p x h=>by simp at h⟩,rfl⟩
theorem LkM.push {z:Value} {k:Int} {l:List Int} (hn:n=L.length) (h1:Z.length=L.length) (h2:w.ownsRow base 215 2 (.slice A n c) n (lkCells L Z)) (h3: ∀(j:Nat) z x,Z[j]? =some z->L[j]? =some x->RdI w (fun b=>base<=b/\b<w.heap.size/\(Value.slice A n c).ownBlock≠some b) z x.2) (hbase:base<=w.heap.size)
  (hs:RdI w1 (fun b=>w.heap.size<=b/\b<w1.heap.size) z l) (b1:Below w.heap.size w w1) (b2:Below w1.heap.size w1 w2)
  (own:w3.ownsRow base 215 2 (.slice A' (n+1) c') (n+1) (lkCells L Z++[.int .i64 k,z])) (g:w2.grownBy w3 (Value.slice A n c).ownBlock) (ho:(Value.slice A' (n+1) c').ownBlock=(Value.slice A n c).ownBlock\/(Value.slice A' (n+1) c').ownBlock=some w2.heap.size):
  LkM base w3 A' (n+1) c' (L++[(k,l)])/\Below base w w3:=by
 have t:Touch (fun k=>(Value.slice A n c).ownBlock=some k) w2 w3:=(Touch.refl _ _).grown g (fun k e _=>e)
 have b12:=b1.trans (b2.mono b1.size)
 have hvl: ∀k,(Value.slice A n c).ownBlock=some k->base<=k/\k<w.heap.size:=fun k e=>h2.lt k e
 have hnew: ∀k,(Value.slice A' (n+1) c').ownBlock=some k->(Value.slice A n c).ownBlock=some k\/k=w2.heap.size:=fun k hk=>by
  rcases ho with ho|ho
  ·exact .inl (ho▸hk)
  ·rw [ho]at hk;injection hk with hk;exact .inr hk.symm
 have s1:=b1.size
 have s2:=b2.size
 have s3:=t.size
 refine⟨⟨⟨Z++[z],by simp [h1],?_,fun j p x hp hx=> ?_⟩,by rw [List.length_append,<-hn];rfl⟩,t.toBelow (fun k e=>(hvl k e).1) (b12.mono hbase) (Nat.le_trans hbase b12.size)⟩
 ·have e1:lkCells (L++[(k,l)]) (Z++[z])=lkCells L Z++[.int .i64 k,z]:=by
   unfold lkCells
   rw [List.zip_append h1.symm,List.flatMap_append];rfl
  rw [e1]
  exact own
 ·by_cases hj:j<Z.length
  ·rw [List.getElem?_append_left hj]at hp
   rw [List.getElem?_append_left (by omega)]at hx
   refine(((h3 j p x hp hx).touch (Touch.of_size b12 (fun _=>False)) (fun _ _ e=>e)).touch t (fun k hk=>hk.2.2)).mono fun k hk=>⟨hk.1,by omega,fun e=> ?_⟩
   rcases hnew k e with e|e
   ·exact hk.2.2 e
   ·omega
  ·have hj':j=Z.length:=by have:=(List.getElem?_eq_some_iff.1 hp).1;simp at this;omega
   subst hj'
   rw [List.getElem?_append_right (Nat.le_refl _),Nat.sub_self]at hp
   rw [List.getElem?_append_right (by omega),h1,Nat.sub_self]at hx
   injection hp with hp
   injection hx with hx
   subst hp hx
   refine(((hs.touch (Touch.of_size b2 (fun _=>False)) (fun _ _ e=>e)).touch t (fun k hk e=>by have:=hvl k e;omega))).mono fun k hk=>⟨by omega,by omega,fun e=> ?_⟩
   rcases hnew k e with e|e
   ·have:=hvl k e;omega
   ·omega
theorem LkM.rd (h:LkM base w A n c L):RdLk w (fun b=>base<=b/\b<w.heap.size) (.slice A n c) L:=by
 obtain⟨Ps,h1,h2,h3⟩:=h.ex
 exact⟨Ps,h1,(Rd.of_own h2).mono (fun k hk=>h2.lt k hk),fun j p x hp hx=>(h3 j p x hp hx).mono fun k hk=>⟨hk.1,hk.2.1⟩⟩
end
def PlF (D:Sts0) (fi:Fin0) (i:Nat) (ln:Int->Int) (its:List It) (j j':Nat) (f:Int->Option Int):Prop:= ∀k v,f k=some v↔(∃m:Nat,m<j/\its[m]? =some (k,ln k)/\v=((preD D i+m:Nat):Int))\/ ∃(m p:Nat),m<j'/\(fi i)[m]? =some (k,p)/\v=(p:Int)
section
variable {D : Sts0} {fi : Fin0} {i : Nat} {ln : Int -> Int} {its : List It} {j j' : Nat} {f : Int -> Option Int}
theorem PlF.start:PlF D fi i ln its 0 0 (fun _=>none):=fun k v=>⟨fun h=>(by cases h),fun h=>by
 rcases h with⟨m,h,-⟩|⟨m,p,h,-⟩<;>omega⟩
theorem PlF.yes {x:It} (h:PlF D fi i ln its j 0 f) (hn:its.Nodup) (hx:its[j]? =some x) (he:x.2=ln x.1):PlF D fi i ln its (j+1) 0 (putF f x.1 ((preD D i+j:Nat):Int)):=fun k v=>by
 unfold putF
 by_cases e:k=x.1
 ·subst e
  rw [if_pos rfl]
  constructor
  ·intro h'
   injection h' with h'
   exact .inl ⟨j,by omega,by rw [hx,<-he],h'.symm⟩
  ·rintro(⟨m,h1,h2,h3⟩|⟨m,p,h1,-⟩)
   ·rw [<-he]at h2
    have:=nodup_get hn h2 hx
    rw [h3,this]
   ·omega
 ·rw [if_neg e,h k v]
  constructor
  ·rintro(⟨m,h1,h2⟩|⟨m,p,h1,h2⟩)
   ·exact .inl ⟨m,by omega,h2⟩
   ·omega
  ·rintro(⟨m,h1,h2,h3⟩|⟨m,p,h1,h2⟩)
   ·by_cases em:m=j
    ·subst em
     rw [hx]at h2
     injection h2 with h2
     rw [h2]at e
     exact absurd rfl e
    ·exact .inl ⟨m,by omega,h2,h3⟩
   ·omega
theorem PlF.no {x:It} (h:PlF D fi i ln its j 0 f) (hx:its[j]? =some x) (he:x.2≠ln x.1):PlF D fi i ln its (j+1) 0 f:=fun k v=>by
 rw [h k v]
 constructor
 ·rintro(⟨m,h1,h2⟩|⟨m,p,h1,h2⟩)
  ·exact .inl ⟨m,by omega,h2⟩
  ·omega
 ·rintro(⟨m,h1,h2,h3⟩|⟨m,p,h1,h2⟩)
  ·by_cases em:m=j
   ·subst em
    rw [hx]at h2
    injection h2 with h2
    rw [h2]at he
    exact absurd rfl he
   ·exact .inl ⟨m,by omega,h2,h3⟩
  ·omega
theorem PlF.fin {k0:Int} {p0:Nat} (h:PlF D fi i ln its j j' f) (hn:((fi i).map (·.1)).Nodup) (hx:(fi i)[j']? =some (k0,p0)) (hno: ∀m:Nat,its[m]? ≠some (k0,ln k0)):PlF D fi i ln its j (j'+1) (putF f k0 (p0:Int)):=fun k v=>by
 unfold putF
 by_cases e:k=k0
 ·subst e
  rw [if_pos rfl]
  constructor
  ·intro h'
   injection h' with h'
   exact .inr ⟨j',p0,by omega,hx,h'.symm⟩
  ·rintro(⟨m,h1,h2,h3⟩|⟨m,p,h1,h2,h3⟩)
   ·exact absurd h2 (hno m)
   ·have:=nodup_get hn (i:=m) (j:=j') (x:=k) (by rw [List.getElem?_map,h2];rfl) (by rw [List.getElem?_map,hx];rfl)
    subst this
    rw [hx]at h2
    injection h2 with h2
    injection h2 with _ h2
    rw [h3,h2]
 ·rw [if_neg e,h k v]
  constructor
  ·rintro(h1|⟨m,p,h1,h2⟩)
   ·exact .inl h1
   ·exact .inr ⟨m,p,by omega,h2⟩
  ·rintro(h1|⟨m,p,h1,h2,h3⟩)
   ·exact .inl h1
   ·by_cases em:m=j'
    ·subst em
     rw [hx]at h2
     injection h2 with h2
     injection h2 with h2 _
     exact absurd h2.symm e
    ·exact .inr ⟨m,p,by omega,h2,h3⟩
end
def tmsOf (m:Nat) (f:Nat->Bool):List Int:=(below f m).map fun n:Nat=>(n:Int)
def lkUpto (m:Nat) (F:Nat->Nat->Bool) (f:Int->Option Int) (k:Nat):List Lk:=(List.range k).filterMap fun k:Nat=>(f (k:Int)).map fun v=>((k:Int),tmsOf m (F v.toNat))
theorem lkUpto_yes {m:Nat} {F:Nat->Nat->Bool} {f:Int->Option Int} {k:Nat} {v:Int} (h:f (k:Int)=some v):lkUpto m F f (k+1)=lkUpto m F f k++[((k:Int),tmsOf m (F v.toNat))]:=by
 unfold lkUpto
 rw [List.range_succ,List.filterMap_append]
 simp [h]
theorem lkUpto_no {m:Nat} {F:Nat->Nat->Bool} {f:Int->Option Int} {k:Nat} (h:f (k:Int)=none):lkUpto m F f (k+1)=lkUpto m F f k:=by
 unfold lkUpto
 rw [List.range_succ,List.filterMap_append]
 simp [h]
theorem lkUpto_len (m:Nat) (F:Nat->Nat->Bool) (f:Int->Option Int) (k:Nat):(lkUpto m F f k).length<=k:=by
 unfold lkUpto
 exact Nat.le_trans (List.length_filterMap_le _ _) (by simp)
def LkIs (d:LD) (y:Dy) (i:Nat) (L:List Lk):Prop:= ∃f:Int->Option Int,(∀k v,f k=some v↔ ∃p:Nat,v=(p:Int)/\Pl d.D y.fi p i (k,((rgt d.G d.st k).length:Int)))/\L=lkUpto (d.T+1) y.F f (d.G.rules.length+1)
def LksPost (V:World) (d:LD) (y:Dy) (i:Nat) (e:Ending) (V':World):Prop:= ∃A n c L,e= .returned (.slice A n c)/\Below V.heap.size V V'/\RdLk V' (fun b=>V.heap.size<=b/\b<V'.heap.size) (.slice A n c) L/\LkIs d y i L
def MpW (w:World) (mb n:Nat) (f:Int->Option Int):Prop:= ∃D:DataW Unit,w.ownsMap Tryz.prog 3 (plainElem Tryz.prog 3) mb n D/\FnMap D f
theorem MpW.below {w w':World} {mb n:Nat} {f:Int->Option Int} (h:MpW w mb n f) (b:Below w.heap.size w w'):MpW w' mb n f:=by
 obtain⟨D,h1,h2⟩:=h
 exact⟨D,(Touch.of_size b (fun _=>False)).ownsMap h1 (fun e=>e),h2⟩
set_option maxRecDepth 100000 in
set_option maxHeartbeats 16000000 in
theorem look_looks {V:World} {q:LQ} {d:LD} {y:Dy} (h:MK V q d y) (hL:LkD d) (hf:FiOk d.G d.st d.D y.fi y.na) (hna:y.na<=10000000) {i:Nat} (hi:i<d.D.length):
  Calls Tryz.prog 200 #[PtrV q.M,.int .i64 (i:Int)] V (LksPost V d y i):=by
 obtain⟨M,hM⟩: ∃x,x=q.M:=⟨_,rfl⟩
 obtain⟨R,hR⟩: ∃x,x=d.G.rules.length:=⟨_,rfl⟩
 obtain⟨e,he⟩: ∃e,d.D[i]? =some e:=⟨_,List.getElem?_eq_getElem hi⟩
 have hel:=strict_len9 hL.hK (hL.hA.strict i e he) (fun x hx=>(hL.hA.kern i e x he hx).1)
 obtain⟨-,hlc,hlm,hcell⟩:=h.l.at_
 obtain⟨bS,oS,hAl,-,hcs⟩:=hcell (by omega)
 obtain⟨z1,z2,u1,-,s1,-⟩:=hcs i e he
 obtain⟨A5,n5,c5,rfl,-⟩:=id s1
 obtain⟨hn5,hnc5,hcm5,-⟩:=RdIt.at_ s1
 unfold maxLen at hcm5 hlm
 have q4:=h.cells.2.2.2.2.1
 obtain⟨nD,hnD⟩: ∃n,n=d.D.length:=⟨_,rfl⟩
 obtain⟨cl,hcl⟩: ∃x,x=q.cl:=⟨_,rfl⟩
 rw [hAl,<-hnD,<-hcl,<-hM]at q4
 rw [<-hnD,<-hcl]at hlc
 rw [<-hcl]at hlm
 have hiD:(i:Int)<(nD:Int):=by omega
 have hmm:= @run_makeMap Tryz.prog
 have hown:=World.ownsMap_made V Tryz.prog 3 (plainElem (H:=Unit) Tryz.prog 3)
 rw [<-hM]
 clear hcell hcs hAl hnD hcl
 obtain⟨Xh,XhL,Xhf,Xhna,XhM,XhR,Xhe,Xhel,Xs1,Xhn5,Xhi⟩:=HqZ11 h hL hf hna hM hR he hel s1 hn5 hi;clear h hL hf hna hM hR he hel s1 hn5 hi
 unfold PtrV
 go_enter Tryz.func200,Tryz.ntmps200
 go_upto_region 2 with fail
 clear hmm
 have b1:Below V.heap.size V (V.alloc (.map #[] 0)):=(Below.refl _ _).alloc (Nat.le_refl _) _
 have mp1:MpW (V.alloc (.map #[] 0)) V.heap.size 0 (fun _=>none):=⟨_,hown,FnMap.empty⟩
 clear hown
 generalize V.alloc (.map #[] 0)=w1 at *
 obtain⟨mb,hmb⟩: ∃x,x=V.heap.size:=⟨_,rfl⟩
 rw [<-hmb]at mp1⊢
 have q4:=up_cell b1 q4
 have u1:=up_cell b1 u1
 obtain⟨Xb1,Xmp1,Xhmb⟩:=HqZ3 b1 mp1 hmb;clear b1 mp1 hmb
 go_wp2_with fail
 go_loopw [24] (fun iv wr=> ∃(j:Nat) (f:Int->Option Int),j<=n5/\iv= .int .i64 (j:Int)/\Below V.heap.size V wr/\MpW wr mb j f/\PlF d.D y.fi i (fun k=>((rgt d.G d.st k).length:Int)) e.1 j 0 f) (fun iv _=>n5 - (intOf iv).toNat)
 case atStart=>exact⟨0,_,Nat.zero_le _,rfl,Xb1.out,Xmp1.out,PlF.start⟩
 case round=>
  clear Xb1 Xmp1 q4 u1
  obtain⟨j,f,hj,rfl,le,mp,pf⟩:=hrel
  by_cases hlt:j<n5
  ·have hlt':(j:Int)<(n5:Int):=by omega
   have rd:=Xs1.out.below le (fun b hb=>hb.1)
   obtain⟨-,-,-,hcell⟩:=RdIt.at_ rd
   obtain⟨b5,o5,rfl,-,hcc⟩:=hcell (by omega)
   obtain⟨x,hx⟩: ∃x,e.1[j]? =some x:=⟨_,List.getElem?_eq_getElem (by rw [<-Xhn5.out];exact hlt)⟩
   obtain⟨x0,x1⟩:=hcc j x hx
   have hxk:=XhL.out.hA.kern i e x Xhe.out (List.mem_of_getElem? hx)
   obtain⟨⟨k0,k1⟩,k2,k3⟩:=XhL.out.hK.right hxk.1
   obtain⟨xk,xd⟩:=x
   simp only at k0 k1 k2 k3 x0 x1
   obtain⟨k,rfl⟩:=Int.eq_ofNat_of_zero_le k0
   have hkR:k<=d.G.rules.length:=by
    apply Classical.byContradiction
    intro hn
    have hr:=hxk.1
    unfold rightI ruleOf at hr
    rw [if_pos (by simp only;omega)]at hr
    simp at hr
   obtain⟨gr,Ar,nr,cr,eE,ue,rde,hec,hem⟩:=Xh.out.r.at_ (XhL.out.hP.rs k hkR)
   obtain⟨hnr,hnrc,hcrm,-⟩:=RdI.at_ rde
   unfold maxLen at hcrm
   obtain⟨nE2,hnE2⟩: ∃n,n=d.rs.length:=⟨_,rfl⟩
   obtain⟨cE2,hcE2⟩: ∃n,n=q.cr:=⟨_,rfl⟩
   have q5:=Xh.out.cells.2.2.2.2.2.1
   rw [eE,<-hnE2,<-hcE2,<-XhM.out]at q5
   rw [<-hnE2,<-hcE2]at hec
   rw [<-hcE2]at hem
   have hke:(k:Int)<(nE2:Int):=by rw [hnE2,XhL.out.hP.rl];omega
   obtain⟨gb,hAb,ub,-,-⟩:=Xh.out.b.at_ (j:=i) (u:= .int .i64 ((preD d.D i:Nat):Int)) (by rw [List.getElem?_map,XhL.out.ba i Xhi.out];rfl)
   obtain⟨nb,hnb⟩: ∃n,n=d.ba.length:=⟨_,rfl⟩
   obtain⟨cb,hcb⟩: ∃n,n=q.cb:=⟨_,rfl⟩
   have q9:=Xh.out.cells.2.2.2.2.2.2.2.2.2.1
   have hbc:=Xh.out.b.cap
   rw [hAb,<-hnb,<-hcb,<-XhM.out]at q9
   rw [<-hnb,<-hcb]at hbc
   obtain⟨hbc1,hbc2⟩:=hbc
   have hib:(i:Int)<(nb:Int):=by rw [hnb,XhL.out.bl];have:=Xhi.out;omega
   obtain⟨pr,hpr⟩: ∃n,n=preD d.D i:=⟨_,rfl⟩
   rw [<-hpr]at ub
   have hprb:pr<=10000000:=by
    have h1:=preD_le d.D i (d.D.length - i)
    rw [show i+(d.D.length - i)=d.D.length by have:=Xhi.out;omega]at h1
    have:=Xhf.out.le
    have:=Xhna.out
    omega
   have al:Below wr.heap.size wr (wr.alloc (.cells #[.int .i64 (k:Int),.int .i64 xd] 226)):=(Below.refl _ _).alloc (Nat.le_refl _) _
   have kX:Blk (wr.alloc (.cells #[.int .i64 (k:Int),.int .i64 xd] 226)) wr.heap.size 226 #[.int .i64 (k:Int),.int .i64 xd]:=Blk.new _ _ _
   have mp2:=mp.below al
   have le2:=le.trans (al.mono le.size)
   have q5:=up_cell le2 q5
   have ue:=up_cell le2 ue
   have q9:=up_cell le2 q9
   have ub:=up_cell le2 ub
   have f0:=(kX.cell 0).trans rfl
   have f1:=(kX.cell 1).trans rfl
   have hj5:j<=2709:=by have:=Xhel.out;have:=Xhn5.out;omega
   clear rd hcell hcc k0 k3 rde eE hnE2 hcE2 hAb hnb hcb al kX mp le
   have hnrk:(nr:Int)=((rgt d.G d.st (k:Int)).length:Int):=by rw [hnr]
   by_cases hxd:xd=(nr:Int)
   ·have hnd:e.1.Nodup:=(XhL.out.hA.strict i e Xhe.out).nodup
    have pf2:=PlF.yes pf hnd hx (by show xd=((rgt d.G d.st (k:Int)).length:Int);rw [hxd,hnrk])
    subst hxd
    rw [<-hpr]at pf2
    have hxb:((nr:Int)==(nr:Int))=true:=by simp
    have hsum:IntKind.i64.wrap ((pr:Int)+(j:Int))=(pr:Int)+(j:Int):=by rw [IntKind.wrap_i64];omega
    have hkey:=nkey_some (n:=(k:Int)) (by omega)
    clear pf hnrk
    obtain⟨Xmp2,Xle2,Xpf2,Xhx,Xhxk,XhkR,Xhnr,Xhpr⟩:=HqZ8 mp2 le2 pf2 hx hxk hkR hnr hpr;clear mp2 le2 pf2 hx hxk hkR hnr hpr
    go_wp2_with fail
    generalize wr.alloc (.cells #[.int .i64 (k:Int),.int .i64 (nr:Int)] 226)=w2 at *
    refine region_reads (by kernel_rfl) (by kernel_rfl) ?_
    repeat still_step
    refine wpStill_nil ?_
    go_wp2_with fail
    go_upto_region 6 with fail
    refine region_tail 12 (by kernel_rfl) (by kernel_rfl) ?_
    simp only [List.take_succ_cons,List.take_zero,List.drop_succ_cons,List.drop_zero]
    repeat still_step
    refine wpStill_nil ?_
    have dr:Below w2.heap.size w2 w2.drew.drew:=(Below.refl _ _).drew.drew
    obtain⟨Dm,m2,fm2⟩:=Xmp2.out.below dr
    have le3:=Xle2.out.trans (dr.mono Xle2.out.size)
    clear dr Xmp2 Xle2 q5 ue q9 ub f0 f1
    go_wp2_with (at_mapUpdate;refine wpList_mapUpdate_own _ rfl _ _ _ 296 rfl 3 3 Tryz.intKeyed Tryz.underlying296 _ mb j Dm rfl m2 (by unfold maxLen;omega) _ _ _ rfl rfl hkey _ [] (plainElem_int Tryz.underlying3 (WalkArith.wf_i64 (by omega))) ?_)
    intro w3 m3 g3
    have le4:Below V.heap.size V w3:=le3.grown g3 le3.size (fun k e=>by injection e with e;have:=Xhmb.out;omega)
    have mp4:MpW w3 mb (j+1) (putF f (k:Int) ((pr:Int)+(j:Int))):=⟨_,m3,fm2.put _ _⟩
    rw [show((pr:Int)+(j:Int))=((pr+j:Nat):Int) by omega]at mp4
    clear m2 fm2 le3 m3 g3 hkey
    obtain⟨Xle4,Xmp4⟩:=HqZ2 le4 mp4;clear le4 mp4
    go_wp2_with fail
    go_roundw
    case rel=>exact⟨j+1,_,by omega,by go_num,Xle4.out,Xmp4.out,Xpf2.out⟩
    case measure=>simp [intOf];omega
   ·have pf2:=PlF.no pf hx (by show xd≠((rgt d.G d.st (k:Int)).length:Int);rw [<-hnrk];exact hxd)
    have hxb:(xd==(nr:Int))=false:=by simpa using hxd
    clear pf hnrk q9 ub
    obtain⟨Xmp2,Xle2,Xpf2,Xhx,Xhxk,XhkR,Xhnr,Xhpr⟩:=HqZ8 mp2 le2 pf2 hx hxk hkR hnr hpr;clear mp2 le2 pf2 hx hxk hkR hnr hpr
    go_wp2_with fail
    generalize wr.alloc (.cells #[.int .i64 (k:Int),.int .i64 xd] 226)=w2 at *
    refine region_reads (by kernel_rfl) (by kernel_rfl) ?_
    repeat still_step
    refine wpStill_nil ?_
    go_wp2_with fail
    have dr:Below w2.heap.size w2 w2.drew:=(Below.refl _ _).drew
    have mp3:=Xmp2.out.below dr
    have le3:=Xle2.out.trans (dr.mono Xle2.out.size)
    clear dr Xmp2 Xle2
    generalize w2.drew=w3 at *
    obtain⟨D3,o3,f3⟩:=mp3
    have mp4:MpW w3 mb (j+1) f:=⟨D3,o3.mono (Nat.le_succ j),f3⟩
    clear o3 f3
    obtain⟨Xmp4,Xle3⟩:=HqZ2 mp4 le3;clear mp4 le3
    go_wp2_with fail
    go_roundw
    case rel=>exact⟨j+1,f,by omega,by go_num,Xle3.out,Xmp4.out,Xpf2.out⟩
    case measure=>simp [intOf];omega
  ·have hlt': ¬(j:Int)<(n5:Int):=by omega
   have hj5:j=e.1.length:=by have:=Xhn5.out;omega
   obtain⟨vs,rows⟩:=Xh.out.f
   obtain⟨A6,n6,c6,hv6,cP,row,hxl⟩:=rows.at_ Xhi.out (by decide)
   rw [fi_len]at hxl
   have hn6:n6=(y.fi i).length:=by omega
   obtain⟨hnc6,hcm6⟩:=row.cap
   have hn63:n6<=300:=by rw [hn6];exact Nat.le_trans (Xhf.out.len i) XhL.out.hK.r
   obtain⟨P,hP⟩: ∃x,x=q.Pf:=⟨_,rfl⟩
   have q12:=Xh.out.cells.2.2.2.2.2.2.2.2.2.2.2.2
   obtain⟨nD2,hnD2⟩: ∃n,n=d.D.length:=⟨_,rfl⟩
   rw [<-hP,<-hnD2,<-XhM.out]at q12
   rw [<-hP]at cP
   have hiD2:(i:Int)<(nD2:Int):=by have:=Xhi.out;omega
   have q12:=up_cell le q12
   have cP:=up_cell le cP
   have hj27:j<=2709:=by have:=Xhel.out;omega
   obtain⟨D3,o3,f3⟩:=mp
   have mp:MpW wr mb (j+0) f:=⟨D3,o3,f3⟩
   clear rows hv6 hxl hP hnD2 o3 f3
   obtain⟨Xle,Xmp,Xpf,Xrow,Xhn6,Xhj5⟩:=HqZ6 le mp pf row hn6 hj5;clear le mp pf row hn6 hj5
   go_wp2_with fail
   go_loopw [62] (fun iv wr=> ∃(j':Nat) (f:Int->Option Int),j'<=n6/\iv= .int .i64 (j':Int)/\Below V.heap.size V wr/\MpW wr mb (j+j') f/\PlF d.D y.fi i (fun k=>((rgt d.G d.st k).length:Int)) e.1 j j' f) (fun iv _=>n6 - (intOf iv).toNat)
   case atStart=>exact⟨0,f,Nat.zero_le _,rfl,Xle.out,Xmp.out,Xpf.out⟩
   case round=>
    clear Xle Xmp Xpf q12 cP
    obtain⟨j',f,hj',rfl,le,mp,pf⟩:=hrel
    by_cases hlu:j'<n6
    ·have hlu':(j':Int)<(n6:Int):=by omega
     obtain⟨x,hx⟩: ∃x,(y.fi i)[j']? =some x:=⟨_,List.getElem?_eq_getElem (by rw [<-Xhn6.out];exact hlu)⟩
     obtain⟨f0,f1⟩:=fi_get hx
     obtain⟨g,eA,c0,-,-⟩:=Xrow.out.at_ f0
     obtain⟨g',eA',c1,-,-⟩:=Xrow.out.at_ f1
     rw [eA]at eA'
     injection eA' with eA'
     injection eA' with eA'
     subst eA' eA
     obtain⟨k0,p0⟩:=x
     simp only at c0 c1
     obtain⟨⟨hk0,hk1⟩,hk2,-,hp0⟩:=Xhf.out.key i k0 p0 (List.mem_of_getElem? hx)
     have hno: ∀m:Nat,e.1[m]? ≠some (k0,((rgt d.G d.st k0).length:Int)):=fun m hm=>by
      rw [hk2]at hm
      rcases(XhL.out.hA.kern i e _ Xhe.out (List.mem_of_getElem? hm)).2 with h1|h1
      ·injection h1 with h1;omega
      ·simp at h1
     have pf2:=PlF.fin pf (Xhf.out.nodup i) hx hno
     have al:Below wr.heap.size wr (wr.alloc (.cells #[.int .i64 k0,.int .i64 (p0:Int)] 299)):=(Below.refl _ _).alloc (Nat.le_refl _) _
     have kX:Blk (wr.alloc (.cells #[.int .i64 k0,.int .i64 (p0:Int)] 299)) wr.heap.size 299 #[.int .i64 k0,.int .i64 (p0:Int)]:=Blk.new _ _ _
     have le2:=le.trans (al.mono le.size)
     have c0:=up_cell le c0
     have c1:=up_cell le c1
     obtain⟨Dm,m2,fm2⟩:=mp.below al
     have e0:=(kX.cell 0).trans rfl
     have e1:=(kX.cell 1).trans rfl
     have hkb:d.G.rules.length<=300:=XhL.out.hK.r
     have hpb:p0<=10000000:=by have:=Xhna.out;omega
     have hkey:=nkey_some (n:=k0) (by omega)
     have hjj:j+j'<maxLen:=by unfold maxLen;omega
     clear f0 f1 hk0 hk1 hk2 hp0 hno pf al kX le mp hkb
     obtain⟨Xhx,Xpf2,Xle2,Xfm2⟩:=HqZ4 hx pf2 le2 fm2;clear hx pf2 le2 fm2
     go_wp2_with (at_mapUpdate;refine wpList_mapUpdate_own _ rfl _ _ _ 296 rfl 3 3 Tryz.intKeyed Tryz.underlying296 _ mb (j+j') Dm rfl m2 hjj _ _ _ rfl rfl hkey _ [] (plainElem_int Tryz.underlying3 (WalkArith.wf_i64 (by omega))) ?_)
     intro w3 m3 g3
     have le4:Below V.heap.size V w3:=Xle2.out.grown g3 Xle2.out.size (fun k e=>by injection e with e;have:=Xhmb.out;omega)
     have mp4:MpW w3 mb (j+(j'+1)) (putF f k0 (p0:Int)):=⟨_,m3,Xfm2.out.put _ _⟩
     clear m2 Xfm2 Xle2 m3 g3 hkey e0 e1 c0 c1
     obtain⟨Xle4,Xmp4⟩:=HqZ2 le4 mp4;clear le4 mp4
     go_wp2_with fail
     go_roundw
     case rel=>exact⟨j'+1,_,by omega,by go_num,Xle4.out,Xmp4.out,Xpf2.out⟩
     case measure=>simp [intOf];omega
    ·have hlu': ¬(j':Int)<(n6:Int):=by omega
     have hjn:j'=(y.fi i).length:=by have:=Xhn6.out;omega
     have hiff: ∀k v,f k=some v↔ ∃p:Nat,v=(p:Int)/\Pl d.D y.fi p i (k,((rgt d.G d.st k).length:Int)):=fun k v=>by
      rw [pf k v]
      constructor
      ·rintro(⟨m,-,h2,h3⟩|⟨m,p,-,h2,h3⟩)
       ·exact⟨_,h3,.inl ⟨e,m,Xhe.out,h2,rfl⟩⟩
       ·have hmem:=List.mem_of_getElem? h2
        have hr:=(Xhf.out.key i k p hmem).2.1
        exact⟨p,h3,.inr ⟨k,by rw [hr];rfl,hmem⟩⟩
      ·rintro⟨p,hv,hp⟩
       rcases hp with⟨e',m,h1,h2,h3⟩|⟨k',h1,h2⟩
       ·rw [Xhe.out]at h1
        injection h1 with h1
        subst h1
        exact .inl ⟨m,by rw [Xhj5.out];exact(List.getElem?_eq_some_iff.1 h2).1,h2,by rw [hv,h3]⟩
       ·injection h1 with h1 _
        subst h1
        obtain⟨m,hm,em⟩:=List.getElem_of_mem h2
        exact .inr ⟨m,p,by omega,by rw [List.getElem?_eq_getElem hm,em],hv⟩
     have q5:=Xh.out.cells.2.2.2.2.2.1
     obtain⟨nR,hnR⟩: ∃n,n=d.rs.length:=⟨_,rfl⟩
     obtain⟨AR,hAR⟩: ∃n,n=q.Ar:=⟨_,rfl⟩
     obtain⟨cR,hcR⟩: ∃n,n=q.cr:=⟨_,rfl⟩
     rw [<-hnR,<-hcR,<-hAR,<-XhM.out]at q5
     have hnR1:nR=R+1:=by rw [hnR,XhL.out.hP.rl,XhR.out]
     have hR3:R<=300:=by rw [XhR.out];exact XhL.out.hK.r
     subst hnR1
     have q5:=up_cell le q5
     obtain⟨w5,hw5⟩: ∃x,x=wr:=⟨_,rfl⟩
     rw [<-hw5]at le mp q5⊢
     obtain⟨D1,hD1⟩: ∃x,x=w5.heap.size:=⟨_,rfl⟩
     clear hw5 hnR hAR hcR pf hjn
     obtain⟨Xle,Xmp,Xhiff,XhD1⟩:=HqZ4 le mp hiff hD1;clear le mp hiff hD1
     go_wp2_with fail
     go_loopw [10,77] (fun ov iv wr'=> ∃(k:Nat) (A:Option Addr) (n c:Nat),k<=R+1/\iv= .int .i64 (k:Int)/\ov= .slice A n c/\LkM D1 wr' A n c (lkUpto (d.T+1) y.F f k)/\Below D1 w5 wr') (fun _ iv _=>R+1 - (intOf iv).toNat)
     case atStart=>exact⟨0,none,0,0,Nat.zero_le _,rfl,rfl,LkM.nil _ _,by rw [XhD1.out];exact Below.refl _ _⟩
     case round=>
      obtain⟨k,A,n,c,hk,rfl,rfl,lm,le5⟩:=hrel
      by_cases hlk:k<R+1
      ·have hlk':(k:Int)<(R:Int)+1:=by omega
       have hkey:=nkey_some (n:=(k:Int)) (by omega)
       have le5':Below w5.heap.size w5 wr:=by rw [<-XhD1.out];exact le5
       obtain⟨Dm,m2,fm2⟩:=Xmp.out.below le5'
       have hh:=fm2.has (k:Int)
       cases hfk:f (k:Int)with
       |none=>
        have hno:Maps.has Dm (nkey (k:Int))=false:=by rw [hh,hfk];rfl
        have lm2:=lm
        rw [<-lkUpto_no (m:=d.T+1) (F:=y.F) hfk]at lm2
        clear fm2 hh le5' lm hfk
        obtain⟨Xlm2,Xle5⟩:=HqZ2 lm2 le5;clear lm2 le5
        go_wp2_with (at_lookup;refine wpList_lookup_own_ok_int _ rfl _ _ 296 rfl 3 3 .i64 Tryz.intKeyed Tryz.underlying296 Tryz.underlying3 (Tryz.zeroInt _) _ _ Dm rfl m2 _ _ rfl hkey ?_;intro cc hat hwc)
        clear hat hwc m2
        go_wp2_with fail
        go_roundw
        case rel=>exact⟨k+1,A,n,c,by omega,by go_num,rfl,Xlm2.out,Xle5.out⟩
        case measure=>simp [intOf];omega
       |some v=>
        have hyes:Maps.has Dm (nkey (k:Int))=true:=by rw [hh,hfk];rfl
        have hat0:=fm2.at_ (k:Int) v hfk (.lit (.int .i64 0))
        have hcc: ∀cc:Int,Dm.atKey (nkey (k:Int)) (.lit (.int .i64 0))= .lit (.int .i64 cc)->v=cc:=fun cc hat=>by
         rw [hat0]at hat
         injection hat with hat
         injection hat with _ hat
        clear hat0
        obtain⟨p,hv,hpl⟩:=(Xhiff.out (k:Int) v).1 hfk
        subst hv
        have hpn:p<y.na:=by
         have h0:=Xhf.out.le
         rcases hpl with h1|⟨k',-,h1⟩
         ·have:=h1.lt;omega
         ·exact(Xhf.out.key i k' p h1).2.2.2
        have hb5:Below V.heap.size V wr:=Xle.out.trans (le5'.mono Xle.out.size)
        obtain⟨ga,eA,ca⟩:=Xh.out.a.at_ hpn
        have q10:=Xh.out.cells.2.2.2.2.2.2.2.2.2.2.1
        obtain⟨na,hna'⟩: ∃n,n=y.na:=⟨_,rfl⟩
        obtain⟨ca2,hca2⟩: ∃n,n=q.ca:=⟨_,rfl⟩
        have hcap:=Xh.out.a.row.cap
        rw [eA,<-hna',<-hca2,<-XhM.out]at q10
        rw [<-hna',<-hca2]at hcap
        obtain⟨hcap1,hcap2⟩:=hcap
        have hpi:(p:Int)<(na:Int):=by omega
        have hpi2:p<na:=by omega
        have q10:=up_cell hb5 q10
        have ca:=up_cell hb5 ca
        have hset:=(Xh.out.a.set p hpn).touch (Touch.of_size hb5 (fun _=>False)) (fun _ _ e=>e)
        obtain⟨pp,hpp⟩: ∃x,x=q.ps p:=⟨_,rfl⟩
        rw [<-hpp]at ca hset
        have cl:=set_list hset
        unfold PtrV at ca
        have hlen:=below_le (y.F p) (d.T+1)
        have hyy:=lkUpto_yes (m:=d.T+1) (F:=y.F) hfk
        rw [Int.toNat_natCast]at hyy
        obtain⟨hnl,hnl2⟩:n<=R+1/\n=(lkUpto (d.T+1) y.F f k).length:=by
         have h1:=lm.hn
         have h2:=lkUpto_len (d.T+1) y.F f k
         omega
        have hna8:na<=10000000:=by rw [hna'];exact Xhna.out
        have hTb:d.T<=120:=XhL.out.hK.t
        have hDw:D1<=wr.heap.size:=by rw [XhD1.out];exact le5'.size
        clear fm2 hh le5' hfk hpl hpn hb5 eA hna' hca2 hset hpp
        obtain⟨Xhcc,Xcl,Xlm,Xle5,Xhyy,Xhnl2⟩:=HqZ6 hcc cl lm le5 hyy hnl2;clear hcc cl lm le5 hyy hnl2
        go_wp2_with (at_lookup;refine wpList_lookup_own_ok_int _ rfl _ _ 296 rfl 3 3 .i64 Tryz.intKeyed Tryz.underlying296 Tryz.underlying3 (Tryz.zeroInt _) _ _ Dm rfl m2 _ _ rfl hkey ?_;intro cc hat hwc;obtain rfl:=Xhcc.out cc hat;clear hat hwc)
        clear m2 Xhcc hkey
        go_wp2_with fail
        refine Xcl.out.mono ?_
        rintro e w8 ⟨A8,c8,rfl,own8,b8⟩
        obtain⟨l8,hl8⟩: ∃x,x=(below (y.F p) (d.T+1)).length:=⟨_,rfl⟩
        have rd8:RdI w8 (fun b=>wr.heap.size<=b/\b<w8.heap.size) (.slice A8 l8 c8) (tmsOf (d.T+1) (y.F p)):=by
         have h1:=Rd.of_own own8
         rw [<-hl8]at h1
         have e1:(tmsOf (d.T+1) (y.F p)).map (Value.int .i64)=(below (y.F p) (d.T+1)).map J64:=by unfold tmsOf J64;rw [List.map_map];rfl
         unfold RdI
         rw [e1]
         exact h1.mono fun b hb=>own8.lt b (by rw [hl8]at hb;exact hb)
        have lm8:=Xlm.out
        obtain⟨Z,z1,z2,z3⟩:=lm8.ex
        have al:Below w8.heap.size w8 (w8.alloc (.cells #[.int .i64 (k:Int),.slice A8 l8 c8] 215)):=(Below.refl _ _).alloc (Nat.le_refl _) _
        have rone:Rd (w8.alloc (.cells #[.int .i64 (k:Int),.slice A8 l8 c8] 215)) (fun x=>x=w8.heap.size) (.slice (some ⟨w8.heap.size,0,none⟩) 1 1) 2 [.int .i64 (k:Int),.slice A8 l8 c8]:=Rd.one' (w:=w8) (e:=215) [.int .i64 (k:Int),.slice A8 l8 c8] 2 rfl
        have own2:=own_below' z2 (b8.trans (al.mono b8.size))
        have hD2:D1<=(w8.alloc (.cells #[.int .i64 (k:Int),.slice A8 l8 c8] 215)).heap.size:=Nat.le_trans hDw (b8.trans (al.mono b8.size)).size
        rw [<-hl8]
        clear own8 lm8 hl8 q10 ca
        obtain⟨Xrd8,Xz1,Xz2,Xz3,Xal,Xrone,Xown2,Xb8⟩:=HqZ8 rd8 z1 z2 z3 al rone own2 b8;clear rd8 z1 z2 z3 al rone own2 b8
        go_wp2_with (at_builtin;refine wp_append _ rfl (.tmp 87) (.tmp 98) _ rfl Tryz.elemLook D1 (.slice A n c) n _ rfl Xown2.out _ _ [.int .i64 (k:Int),.slice A8 l8 c8] 1 rfl rfl Xrone.out (by intro u hu;simp only [List.mem_cons,List.not_mem_nil,or_false]at hu;rcases hu with rfl|rfl<;>rfl) (by unfold maxLen;omega) (by omega) hD2 ?_)
        intro A4 c4 w4 own4 g4 ho4
        obtain⟨lm4,le4⟩:=LkM.push Xhnl2.out Xz1.out Xz2.out Xz3.out hDw Xrd8.out Xb8.out Xal.out own4 g4 (by rw [World.size_alloc];exact ho4)
        rw [<-Xhyy.out]at lm4
        have le9:=Xle5.out.trans le4
        clear own4 g4 ho4 le4 Xz1 Xz2 Xz3 Xrd8 Xb8 Xal Xown2 Xrone hD2
        obtain⟨Xlm4,Xle9⟩:=HqZ2 lm4 le9;clear lm4 le9
        go_wp2_with fail
        go_roundw
        case rel=>exact⟨k+1,A4,n+1,c4,by omega,by go_num,rfl,Xlm4.out,Xle9.out⟩
        case measure=>simp [intOf];omega
      ·have hlk': ¬(k:Int)<(R:Int)+1:=by omega
       have hkR:k=d.G.rules.length+1:=by have:=XhR.out;omega
       have hrd:=lm.rd
       rw [hkR]at hrd
       have hfin:Below V.heap.size V wr:=Xle.out.trans (le5.mono (by rw [XhD1.out];exact Xle.out.size))
       have hV:V.heap.size<=D1:=by rw [XhD1.out];exact Xle.out.size
       clear hkR
       obtain⟨Xhrd,Xhfin,Xlm,Xle5⟩:=HqZ4 hrd hfin lm le5;clear hrd hfin lm le5
       go_wp2_with fail
       go_ret
       exact⟨A,n,c,_,rfl,Xhfin.out,Xhrd.out.mono (fun b hb=>⟨Nat.le_trans hV hb.1,hb.2⟩),f,Xhiff.out,rfl⟩
end Go.Proofs.YthlbjgabhpdbfaaGreat

/- The least end: the steps of all places that are come to. -/
import Derived.Test.YtalbfonkhpeajaaGreatHFin6
import Derived.Test.YtalbfonkhpeajaaGreatHAuto4
import Derived.Test.YtalbfonkhpeajaaGreatHBase
import Derived.RangeFuncNested
import Derived.RangeFuncBound
import Derived.RangeFuncCalls
import Derived.RangeFuncLeaves
import Derived.TacticsInMore
import Derived.OwnWalkIn
import Derived.LoopNIn
import Derived.LoopIn
import Derived.Shelf.Abstract
import Derived.Test.YtalbfonkhpeajaaGreatHRegion
import Derived.Test.YtalbfonkhpeajaaGreatHFin1
namespace Go.Proofs.YtalbfonkhpeajaaGreat
set_option linter.unusedVariables false
section
set_option linter.unusedSimpArgs false
open Go.RowKit Go.Maps
attribute [local irreducible] wpStill wpOne wpPh
theorem allF_len {S:Pl→List StpF} {M:Nat}: ∀{l:List Pl},(∀p∈l,(S p).length≤M)→(allF S l).length≤l.length * M
 |[],_=>by simp [allF]
 |p::l,h=>by
  have:=allF_len (l:=l) fun q hq=>h q (List.mem_cons_of_mem _ hq)
  have h1:=h p (List.mem_cons_self ..)
  unfold allF at this⊢
  rw [List.flatMap_cons,List.length_append,List.length_map,List.length_cons,Nat.succ_mul]
  omega
structure FinM (w wr:World) (mb g off n c:Nat) (todo:List Pl) (va:Value) (X:List PStp) (met:List Pl):Prop where
 le:Below w.heap.size w wr
 map: ∃D:DataW Unit,wr.ownsMap Tryz.prog 60 (plainElem Tryz.prog 4) mb met.length D∧SetP D met
 q:QueP wr w.heap.size g off n c todo
 row: ∃Z,SpOwn wr w.heap.size va X Z
 lo:w.heap.size≤mb
section
variable {w wr wq : World} {mb g off n c : Nat} {todo : List Pl} {va : Value} {X : List PStp} {met : List Pl}
theorem FinM.apart (h:FinM w wr mb g off n c todo va X met):g≠mb∧(∀b,va.ownBlock=some b→b≠g∧b≠mb)∧(∀b,IntB wr b→b≠g∧b≠mb):=by
 obtain⟨D,m1,-⟩:=h.map
 obtain⟨cs,k⟩:=h.q.ty
 obtain⟨Z,sp⟩:=h.row
 refine⟨fun e=>k.ne_map m1 e.symm,fun b e=>⟨fun c=>k.ne_own sp.own (by decide) (by rw [e,c]),fun c=>own_ne_map sp.own m1 (by rw [e,c])⟩,fun b hb=>⟨hb.ne k (by decide),?_⟩⟩
 obtain⟨cs,k⟩:=hb
 exact fun e=>k.ne_map m1 e.symm
theorem FinM.below (h:FinM w wr mb g off n c todo va X met) (b:Below wr.heap.size wr wq):FinM w wq mb g off n c todo va X met:=by
 obtain⟨D,m1,m2⟩:=h.map
 obtain⟨Z,sp⟩:=h.row
 exact⟨h.le.trans (b.mono h.le.size),⟨D,(Touch.of_size b (fun _=>False)).ownsMap m1 (fun e=>e),m2⟩,h.q.below b,⟨Z,sp.below b⟩,h.lo⟩
theorem FinM.pop {p:Pl} (h:FinM w wr mb g off n c (p::todo) va X met):FinM w wr mb g (if c=1 then off else off+2) (n - 1) (c - 1) todo va X met:=⟨h.le,h.map,h.q.pop,h.row,h.lo⟩
theorem FinM.app {m:Nat} {X':List PStp} {Z':List (PStp×Value)} {A:Option Addr} {ca:Nat} (h:FinM w wr mb g off n c todo va X met) {Z:List (PStp×Value)} (sp:SpOwn wr w.heap.size va X Z) (hX:Z'.map Prod.fst=X') (hok:SpOk wr Z') (hm:m=X'.length)
  (own:wq.ownsRow w.heap.size 71 6 (.slice A (X.length+m) ca) (X.length+m) (spCells Z++spCells Z')) (gr:wr.grownBy wq va.ownBlock):FinM w wq mb g off n c todo (.slice A (X.length+m) ca) (X++X') met:=by
 obtain⟨D,m1,m2⟩:=h.map
 obtain⟨-,a2,-⟩:=h.apart
 have t:Touch (fun b=>va.ownBlock=some b) wr wq:=(Touch.refl _ _).grown gr (fun k e _=>e)
 exact⟨h.le.grown gr h.le.size (fun k e=>(sp.own.lt k e).1),⟨D,t.ownsMap m1 (fun e=>(a2 _ e).2 rfl),m2⟩,h.q.touch t (fun e=>(a2 _ e).1 rfl),⟨_,sp.app hX hok hm own gr⟩,h.lo⟩
theorem FinM.meet {x:Pl} {D:DataW Unit} (h:FinM w wr mb g off n c todo va X met) (m2:SetP D met) (hx:WfP x) (m3:wq.ownsMap Tryz.prog 60 (plainElem Tryz.prog 4) mb (met.length+1) (D.put (plkey x) (.lit (.bool true)))) (gr:wr.grownBy wq (some mb)):FinM w wq mb g off n c todo va X (met++[x]):=by
 obtain⟨Z,sp⟩:=h.row
 obtain⟨a1,a2,a3⟩:=h.apart
 have t:Touch (fun b=>b=mb) wr wq:=(Touch.refl _ _).grown gr (fun k e _=>by injection e with e;exact e.symm)
 refine⟨h.le.grown gr h.le.size (fun k e=>by injection e with e;rw [←e];exact h.lo),⟨_,by rw [List.length_append];exact m3,m2.put hx fun y=>by simp⟩,h.q.touch t a1,⟨Z,sp.touch t (fun b e=>(a2 b e).2) (fun b hb=>(a3 b hb).2)⟩,h.lo⟩
theorem FinM.push {x:Pl} {g' off' c':Nat} (h:FinM w wr mb g off n c todo va X met) (q:QueP wq w.heap.size g' off' (n+1) c' (todo++[x])) (t:Touch (fun b=>b=g) wr wq):FinM w wq mb g' off' (n+1) c' (todo++[x]) va X met:=by
 obtain⟨D,m1,m2⟩:=h.map
 obtain⟨Z,sp⟩:=h.row
 obtain⟨a1,a2,a3⟩:=h.apart
 exact⟨t.toBelow (fun k e=>by rw [e];exact h.q.low.1) h.le h.le.size,⟨D,t.ownsMap m1 (fun e=>a1 e.symm),m2⟩,q,⟨Z,sp.touch t (fun b e=>(a2 b e).1) (fun b hb=>(a3 b hb).1)⟩,h.lo⟩
end
def AllP (w:World) (S:Pl→List StpF) (Ap:Pl→Prop) (f:Pl) (e:Ending) (w':World):Prop:= ∃done A c Z,e= .returned (.slice A (allF S done).length c)∧SpOwn w' w.heap.size (.slice A (allF S done).length c) (allF S done) Z∧Below w.heap.size w w'∧f∈done∧StaysF S (fun q=>q∈done)∧(∀p∈done,Ap p)∧(allF S done).length≤1000000000000
set_option maxRecDepth 100000 in
set_option maxHeartbeats 8000000 in
theorem fin_all {w:World} {ve vs:Value} {Sf:Pl→List StpF} {Ap:Pl→Prop} {gr:List Pl} (hve: ∃a,ve= .pointer a) (hvs: ∃A n c,vs= .slice A n c)
  (hstep: ∀p,Ap p→ ∀wr,Below w.heap.size w wr→Calls Tryz.prog 52 #[ve,vs,PlV p] wr (StepsP wr ((Sf p).map fun x=>(p,x))))
  (hstay:StaysF Sf Ap) (hgr: ∀p,Ap p→p∈gr) (hgl:gr.length≤100000) (hwf: ∀p∈gr,WfP p) (hmany: ∀p,Ap p→(Sf p).length≤1000000) {f:Pl} (hf:Ap f):
  Calls Tryz.prog 20 #[ve,vs,PlV f] w (AllP w Sf Ap f):=by
 obtain⟨ae,rfl⟩:=hve
 obtain⟨As,ns,cs,rfl⟩:=hvs
 have hwff:=hwf f (hgr f hf)
 have hkey:=plkey_some hwff
 have hmm:= @run_makeMap Tryz.prog
 obtain⟨w1,hw1⟩: ∃q,q=w.alloc (.cells #[.int .i64 (f.1:Int),.int .i64 (f.2:Int)] 60):=⟨_,rfl⟩
 have b1:Below w.heap.size w w1:=by rw [hw1];exact(Below.refl _ _).alloc (Nat.le_refl _) _
 have k1:Blk w1 w.heap.size 60 #[.int .i64 (f.1:Int),.int .i64 (f.2:Int)]:=by rw [hw1];exact Blk.new _ _ _
 have hown:=World.ownsMap_made w1 Tryz.prog 60 (plainElem (H:=Unit) Tryz.prog 4)
 have bA:Below w.heap.size w (w1.alloc (.map #[] 0)):=b1.alloc b1.size _
 have kA:=k1.alloc (.map #[] 0)
 have q0:=(kA.cell 0).trans rfl
 have q1:=(kA.cell 1).trans rfl
 have hz1:=b1.size
 have hsz:w1.heap.size=w.heap.size+1:=by rw [hw1];simp
 rw [hsz]at hown
 rw [hw1]at hown bA kA q0 q1
 have Xhwff:=hide hwff;have Xhstep:=hide hstep;have Xhstay:=hide hstay;have Xhgr:=hide hgr;have Xhwf:=hide hwf;have Xhmany:=hide hmany;have Xhf:=hide hf;have XbA:=hide bA;have XkA:=hide kA;have Xb1:=hide b1;have Xhw1:=hide hw1;clear hwff hstep hstay hgr hwf hmany hf bA kA b1 hw1;clear k1
 go_enter Tryz.func20,Tryz.ntmps20
 go_wp2_with (refine wpList_insert_own _ rfl _ _ _ 118 rfl 60 4 Tryz.placeKeyed Tryz.underlying118 _ _ 0 (.map []) rfl hown (by unfold maxLen;omega) _ _ _ rfl rfl hkey _ [] (plainElem_bool Tryz.underlying4 true) ?_)
 intro w6 m6 g6
 have b6:Below w.heap.size w w6:=XbA.out.grown g6 XbA.out.size (fun k e=>by injection e with e;omega)
 have k6:=XkA.out.grown g6 (by intro e;injection e with e;omega)
 have q60:=(k6.cell 0).trans rfl
 have q61:=(k6.cell 1).trans rfl
 obtain⟨w7,hw7⟩: ∃q,q=w6.alloc (.cells #[.int .i64 (f.1:Int),.int .i64 (f.2:Int)] 60):=⟨_,rfl⟩
 have b7:Below w6.heap.size w6 w7:=by rw [hw7];exact(Below.refl _ _).alloc (Nat.le_refl _) _
 have inn:FinM w w7 (w.heap.size+1) w6.heap.size 0 1 1 [f] (.slice none 0 0) [] ([]++[f]):=by
  refine⟨b6.trans (b7.mono b6.size),⟨_,(Touch.of_size b7 (fun _=>False)).ownsMap m6 (fun e=>e),SetP.empty.put Xhwff.out (fun y=>by simp)⟩,by rw [hw7];exact QueP.one w6 b6.size f,⟨[],SpOwn.nil _ _⟩,by omega⟩
 have al0:=AllSt.start (S:=Sf) Xhf.out
 rw [hw7]at inn
 clear hkey hown m6 g6 hmm q0 q1 b7 k6 b6 hsz hz1 XbA XkA Xb1 Xhw1
 have Xinn:=hide inn;have Xhw7:=hide hw7;have Xal0:=hide al0;clear inn hw7 al0
 go_wp2_with fail
 go_loopg [8,9] gr.length (fun κ td out wr=> ∃(done todo:List Pl) (g off n c:Nat) (A:Option Addr) (nx ca:Nat),td= .slice (some ⟨g,off,none⟩) n c∧out= .slice A nx ca∧nx=(allF Sf done).length∧FinM w wr (w.heap.size+1) g off n c todo out (allF Sf done) (done++todo)∧AllSt Sf Ap f done todo∧gr.length≤κ+done.length)
 case atStart=>exact⟨[],[f],_,0,1,1,none,0,0,rfl,rfl,rfl,Xinn.out,Xal0.out,by simp⟩
 case round=>
  clear Xinn Xal0 q60 q61
  obtain⟨done,todo,g,off,n,c,A,nx,ca,rfl,rfl,hnx,inn,al,hκ⟩:=hrel
  have hnd:=sub_len al.nodup (fun x hx=>Xhgr.out x (al.ok x hx))
  rw [List.length_append]at hnd
  have hxl:nx≤done.length * 1000000:=by rw [hnx];exact allF_len fun p hp=>Xhmany.out p (al.ok p (List.mem_append_left _ hp))
  obtain⟨hqn,⟨hnc,hcm⟩,-,-,-,-⟩:=inn.q
  unfold maxLen at hcm
  cases todo with
  |nil=>
   have hn0:n=0:=hqn
   subst hn0
   obtain⟨Z,sp⟩:=inn.row
   have le:=inn.le
   have fin:AllP w Sf Ap f (.returned (.slice A nx ca)) wr:=by
    subst hnx
    refine⟨done,A,ca,Z,rfl,sp,le,by have:=al.from_;simpa using this,al.stays,fun p hp=>al.ok p (List.mem_append_left _ hp),?_⟩
    have:done.length≤100000:=by omega
    omega
   clear inn al hnx hnd hxl sp le hqn hκ
   have Xfin:=hide fin;clear fin
   go_wp2_with fail
   go_ret
   exact Xfin.out
  |cons p r=>
   have hn1:0<n:=by simp only [List.length_cons]at hqn;omega
   obtain⟨p0,p1⟩:wr.cell? ⟨g,off,none⟩=some (.int .i64 (p.1:Int))∧wr.cell? ⟨g,off+1,none⟩=some (.int .i64 (p.2:Int)):=by have:=inn.q.at_ 0 p rfl;simpa using this
   have hn1':(n:Int)>0:=by omega
   have hAp:Ap p:=al.ok p (by simp)
   have cst:=Xhstep.out p hAp wr inn.le
   have hmp:=Xhmany.out p hAp
   obtain⟨X',hX'⟩: ∃q,q=(Sf p).map fun x=>(p,x):=⟨_,rfl⟩
   rw [←hX']at cst
   have hXl:X'.length≤1000000:=by rw [hX',List.length_map];exact hmp
   have inn1:=inn.pop
   have hall:allF Sf (done++[p])=allF Sf done++X':=by rw [allF_snoc,hX']
   have al1:=al.take
   have hdl:done.length≤100000:=by omega
   obtain⟨off',hoff⟩: ∃q,q=if c=1 then off else off+2:=⟨_,rfl⟩
   rw [←hoff]at inn1
   have hif:(if c=1 then(some ⟨g,off,none⟩:Option Addr)else some ⟨g,off+2,none⟩)=some ⟨g,off',none⟩:=by rw [hoff];split<;>rfl
   have hap:=inn1.apart
   have hgz:=inn1.q.low.2
   have hmbz:w.heap.size+1<wr.heap.size:=by
    obtain⟨D,m1,-⟩:=inn1.map
    exact m1.lt
   have hvl0: ∀k,(Value.slice A nx ca).ownBlock=some k→k<wr.heap.size:=fun k e=>by
    obtain⟨Z1,s9⟩:=inn1.row
    exact(s9.own.lt k e).2
   clear inn al hqn
   have Xcst:=hide cst;have XhX':=hide hX';have Xinn1:=hide inn1;have Xhall:=hide hall;have Xal1:=hide al1;have Xhnx:=hide hnx;have Xhκ:=hide hκ;have Xhnd:=hide hnd;have Xhoff:=hide hoff;have XhAp:=hide hAp;have Xhap:=hide hap;have Xhgz:=hide hgz;have Xhmp:=hide hmp;have Xhvl0:=hide hvl0;have Xhmbz:=hide hmbz;clear cst hX' inn1 hall al1 hnx hκ hnd hoff hAp hap hgz hmp hvl0 hmbz
   go_wp2_with fail
   refine Xcst.out.mono ?_
   rintro e w3 ⟨Al,cl,Zl,rfl,spl,b3⟩
   have inn3:=Xinn1.out.below b3
   obtain⟨m,hm⟩: ∃q,q=X'.length:=⟨_,rfl⟩
   rw [←hm]at hXl⊢
   obtain⟨Z0,sp0⟩:=inn3.row
   have own3:=sp0.own
   rw [←Xhnx.out]at own3
   have rl:=spl.rd
   have ownl:=spl.own
   rw [←hm]at rl ownl
   have hz3:w.heap.size≤w3.heap.size:=inn3.le.size
   have rdl:Rd w3 (fun b=>wr.heap.size≤b∧b<w3.heap.size) (.slice Al m cl) 6 (spCells Zl):=(Rd.of_own ownl).mono (fun b hb=>ownl.lt b hb)
   have hlz:(spCells Zl).length=m * 6:=by rw [spCells_len,hm,←spl.eq,List.length_map]
   have hone:=SpOk.one spl.ok
   rw [hm.symm]at spl
   clear Xcst Xinn1 p0 p1 ownl
   have Xinn3:=hide inn3;have Xhm:=hide hm;have Xsp0:=hide sp0;have Xown3:=hide own3;have Xrl:=hide rl;have Xspl:=hide spl;have Xb3:=hide b3;have Xrdl:=hide rdl;have Xhlz:=hide hlz;have Xhone:=hide hone;clear inn3 hm sp0 own3 rl spl b3 rdl hlz hone
   go_wp2_with (at_builtin;refine wp_append _ rfl (.tmp 29) (.tmp 30) _ rfl Tryz.elemStep w.heap.size _ nx (spCells Z0) rfl Xown3.out _ _ (spCells Zl) m rfl Xhlz.out Xrdl.out Xhone.out (by unfold maxLen;omega) (by omega) hz3 ?_)
   intro A8 c8 w8 own8 g8 hb8
   have inn8:=by
    have h8:=Xinn3.out.app (wq:=w8) (m:=m) (A:=A8) (ca:=c8) Xsp0.out Xspl.out.eq Xspl.out.ok Xhm.out (by rw [←Xhnx.out];exact own8) g8
    rw [←Xhall.out,←Xhnx.out]at h8
    exact h8
   have t8:Touch (fun k=>(Value.slice A nx ca).ownBlock=some k) w3 w8:=(Touch.refl _ w3).grown g8 (fun k e _=>e)
   obtain⟨L0,hL0⟩: ∃q,q=wr.heap.size:=⟨_,rfl⟩
   obtain⟨L1,hL1⟩: ∃q,q=w3.heap.size:=⟨_,rfl⟩
   have hvl: ∀k,(Value.slice A nx ca).ownBlock=some k→k<wr.heap.size:=fun k e=>by
    obtain⟨Z1,s1'⟩:=Xinn3.out.row
    have h1:=Xsp0.out.own
    rcases h1.2 with⟨h2,-⟩|⟨gg,cap,cur,h2,hb,hh,-⟩
    ·rw [h2]at e;cases e
    ·rw [h2]at e
     simp only [Value.ownBlock,Option.some.injEq]at e
     subst e
     exact Xhvl0.out _ (by rw [h2];rfl)
   have rl8:RdSp w8 (fun b=>L0≤b∧b<L1) (.slice Al m cl) X':=by
    rw [hL0,hL1]
    exact Xrl.out.touch t8 (fun b hb e=>by have:=hvl b e;omega) (fun b ⟨cs,k⟩ e=>k.ne_own Xown3.out (by decide) e)
   have hz8:L1≤w8.heap.size:=by rw [hL1];exact g8.size
   have hgL:g<L0:=by rw [hL0];exact Xhgz.out
   have hML:w.heap.size+1<L0:=by rw [hL0];exact Xhmbz.out
   have hgk:0<gk:=by have:=Xhκ.out;have:=Xhnd.out;simp only [List.length_cons]at this;omega
   have hnl:nx+m=(allF Sf (done++[p])).length:=by rw [Xhall.out,List.length_append,←Xhnx.out,←Xhm.out]
   obtain⟨va,hva⟩: ∃q,q=nx+m:=⟨_,rfl⟩
   rw [←hva]at inn8 hnl
   have e4:done++p::r=done++[p]++r:=by simp
   rw [e4]at inn8
   have e5:=Xhnd.out
   rw [List.length_cons]at e5
   clear own8 g8 hb8 t8 Xinn3 Xsp0 Xown3 Xrl Xspl Xrdl Xhlz Xhone hz3 hif hvl Xb3
   rw [←hva]
   have Xinn8:=hide inn8;have Xrl8:=hide rl8;have Xhz8:=hide hz8;have XhL0:=hide hL0;have XhL1:=hide hL1;have XhgL:=hide hgL;have Xhnl:=hide hnl;have Xhgk:=hide hgk;have Xhva:=hide hva;have XhML:=hide hML;clear inn8 rl8 hz8 hL0 hL1 hgL hnl hgk hva hML
   go_wp2_with fail
   go_loopw [8,34] (fun td i wr'=> ∃(k:Nat) (todo:List Pl) (g off n c:Nat),k≤m∧i= .int .i64 k∧td= .slice (some ⟨g,off,none⟩) n c∧FinM w wr' (w.heap.size+1) g off n c todo (.slice A8 va c8) (allF Sf (done++[p])) (done++[p]++todo)∧AllIn Sf Ap f done p todo k∧(g<L0∨L1≤g)∧L1≤wr'.heap.size∧RdSp wr' (fun b=>L0≤b∧b<L1) (.slice Al m cl) X') (fun _ i _=>m - (intOf i).toNat)
   case atStart=>exact⟨0,r,g,off',n - 1,c - 1,Nat.zero_le _,rfl,by first|rfl|trivial,Xinn8.out,Xal1.out,.inl XhgL.out,Xhz8.out,Xrl8.out⟩
   case round=>
    clear Xinn8 Xal1 XhgL Xhz8 Xrl8 hnc hcm hn1 hn1'
    obtain⟨k,todo,g,off,n,c,hk,rfl,rfl,inn,ai,hgL,hzL,rd⟩:=hrel
    have hnd2:=sub_len ai.nodup (fun x hx=>Xhgr.out x (ai.ok x hx))
    have hnd3:n≤100000:=by have:=inn.q.len;simp only [List.length_append,List.length_singleton]at hnd2;omega
    obtain⟨-,⟨hnc,hcm⟩,-,-,-,-⟩:=inn.q
    unfold maxLen at hcm
    by_cases hlt:k<m
    ·have hlt':(k:Int)<(m:Int):=by omega
     obtain⟨-,-,-,hcell⟩:=rd.at_
     obtain⟨b,bo,rfl,hbb,hcc⟩:=hcell (by omega)
     obtain⟨y,hy⟩: ∃y,(Sf p)[k]? =some y:=⟨_,List.getElem?_eq_getElem (by have:=Xhm.out;rw [XhX'.out,List.length_map]at this;omega)⟩
     have hxk:X'[k]? =some (p,y):=by rw [XhX'.out,List.getElem?_map,hy];rfl
     obtain⟨Bn,mn,dn,rn,x0,x1,x2,x3,x4,x5⟩:=hcc k _ hxk
     simp only at x0 x1 x2 x3 x4 x5 rn
     obtain⟨tp,htp⟩: ∃q,q=toP y:=⟨_,rfl⟩
     obtain⟨ov,hov⟩: ∃q,q=y.2.isNone:=⟨_,rfl⟩
     rw [←htp]at x3 x4
     rw [←hov]at x5
     obtain⟨wb,hwb⟩: ∃wb,wb=wr.alloc (.cells #[.int .i64 (p.1:Int),.int .i64 (p.2:Int),.slice Bn mn dn,.int .i64 (tp.1:Int),.int .i64 (tp.2:Int),.bool ov] 71):=⟨_,rfl⟩
     have bb:Below wr.heap.size wr wb:=by rw [hwb];exact(Below.refl _ _).alloc (Nat.le_refl _) _
     have kb:Blk wb wr.heap.size 71 #[.int .i64 (p.1:Int),.int .i64 (p.2:Int),.slice Bn mn dn,.int .i64 (tp.1:Int),.int .i64 (tp.2:Int),.bool ov]:=by rw [hwb];exact Blk.new _ _ _
     have innb:=inn.below bb
     have rdb:=rd.below bb
     have hzb:L1≤wb.heap.size:=Nat.le_trans hzL bb.size
     clear hcell hcc rn inn rd hzL hnd2 e5 hxk
     cases ov with
     |true=>
      have ai2:=ai.skip hy (fun r hr=>by rw [hr]at hov;cases hov)
      rw [hwb]at innb rdb hzb
      clear hwb kb bb
      have Xinnb:=hide innb;have Xrdb:=hide rdb;have Xai2:=hide ai2;have Xhbb:=hide hbb;have Xhov:=hide hov;have Xhtp:=hide htp;have Xhy:=hide hy;have Xai:=hide ai;clear innb rdb ai2 hbb hov htp hy ai
      go_wp2_with fail
      go_roundw
      case rel=>exact⟨k+1,todo,g,off,n,c,by omega,by go_num,rfl,Xinnb.out,Xai2.out,hgL,hzb,Xrdb.out⟩
      case measure=>simp [intOf];omega
     |false=>
      obtain⟨r9,hr9⟩: ∃r9,y.2=some r9:=by cases e:y.2 with
       |none=>rw [e]at hov;cases hov
       |some r9=>exact⟨r9,rfl⟩
      have hAr:Ap r9:=Xhstay.out p XhAp.out y.1 r9 (by rw [←hr9];exact List.mem_of_getElem? hy)
      obtain rfl:tp=r9:=by rw [htp];unfold toP;rw [hr9];rfl
      have hwt:=Xhwf.out tp (Xhgr.out tp hAr)
      obtain⟨D,mm1,mm2⟩:=innb.map
      have hlk:=mm2.look mm1 hwt
      obtain⟨im,him⟩: ∃im,im=decide (tp∈done++[p]++todo):=⟨_,rfl⟩
      rw [←him]at hlk
      rw [hwb]at hlk
      cases im with
      |true=>
       have ai2:=ai.skip hy (fun r hr=>by rw [hr9]at hr;injection hr with hr;rw [←hr];exact of_decide_eq_true him.symm)
       rw [hwb]at innb rdb hzb
       clear hwb kb bb mm1 mm2
       have Xinnb:=hide innb;have Xrdb:=hide rdb;have Xai2:=hide ai2;have Xhbb:=hide hbb;have Xhov:=hide hov;have Xhtp:=hide htp;have Xhy:=hide hy;have Xai:=hide ai;have Xhim:=hide him;have Xhr9:=hide hr9;have XhAr:=hide hAr;have Xhwt:=hide hwt;clear innb rdb ai2 hbb hov htp hy ai him hr9 hAr hwt
       go_wp2_with fail
       go_roundw
       case rel=>exact⟨k+1,todo,g,off,n,c,by omega,by go_num,rfl,Xinnb.out,Xai2.out,hgL,hzb,Xrdb.out⟩
       case measure=>simp [intOf];omega
      |false=>
       have ai2:=ai.put hy hr9 hAr (of_decide_eq_false him.symm)
       have hkey:=plkey_some hwt
       have c3:=(kb.cell 3).trans rfl
       have c4:=(kb.cell 4).trans rfl
       have c5:=(kb.cell 5).trans rfl
       have hml:(done++[p]++todo).length≤100000:=Nat.le_trans (sub_len ai.nodup (fun x hx=>Xhgr.out x (ai.ok x hx))) hgl
       have hlb:wr.heap.size<wb.heap.size:=kb.lt
       have hkm:=kb.ne_map mm1
       obtain⟨ml,hml2⟩: ∃q,q=(done++[p]++todo).length:=⟨_,rfl⟩
       rw [←hml2]at mm1 hml
       rw [hwb]at mm1 c3 c4 c5
       clear hov htp hbb hlt
       have Xinnb:=hide innb;have Xrdb:=hide rdb;have Xai2:=hide ai2;have Xhy:=hide hy;have Xai:=hide ai;have Xhim:=hide him;have Xhr9:=hide hr9;have XhAr:=hide hAr;have Xmm2:=hide mm2;have Xkb:=hide kb;have Xhkm:=hide hkm;have Xhwb:=hide hwb;have Xbb:=hide bb;have Xhml2:=hide hml2;clear innb rdb ai2 hy ai him hr9 hAr mm2 kb hkm hwb bb hml2
       go_wp2_with (at_mapUpdate;refine wpList_mapUpdate_own _ rfl _ _ _ 118 rfl 60 4 Tryz.placeKeyed Tryz.underlying118 _ (w.heap.size+1) ml D rfl mm1 (by unfold maxLen;omega) _ _ _ rfl rfl hkey _ [] (plainElem_bool Tryz.underlying4 true) ?_)
       intro w6 m6 g6
       rw [←Xhwb.out]at g6
       rw [Xhml2.out]at m6
       have inn6:=Xinnb.out.meet Xmm2.out hwt m6 g6
       have k6:=Xkb.out.grown g6 (by intro e;injection e with e;exact Xhkm.out e.symm)
       have t6:Touch (fun b=>b=w.heap.size+1) wb w6:=(Touch.refl _ _).grown g6 (fun k e _=>by injection e with e;exact e.symm)
       have rd6:=Xrdb.out.touch t6 (fun b hb e=>by have:=XhML.out;omega) (fun b hb=>(Xinnb.out.apart.2.2 b hb).2)
       have hz6:L1≤w6.heap.size:=Nat.le_trans hzb g6.size
       have hz6b:=hz6
       have d3:=(k6.cell 3).trans rfl
       have d4:=(k6.cell 4).trans rfl
       have b7:Below w6.heap.size w6 (w6.alloc (.cells #[.int .i64 (tp.1:Int),.int .i64 (tp.2:Int)] 60)):=(Below.refl _ _).alloc (Nat.le_refl _) _
       have k7:Blk (w6.alloc (.cells #[.int .i64 (tp.1:Int),.int .i64 (tp.2:Int)] 60)) w6.heap.size 60 #[.int .i64 (tp.1:Int),.int .i64 (tp.2:Int)]:=Blk.new _ _ _
       have inn7:=inn6.below b7
       have rd7:=rd6.below b7
       have e0:=(k7.cell 0).trans rfl
       have e1:=(k7.cell 1).trans rfl
       have hz7:=Nat.le_trans hz6 b7.size
       have hlo7:=inn7.le.size
       have q7:=inn7.q
       clear mm1 m6 g6 t6 inn6 rd6 hz6 hkey hlk c3 c4 c5 hzb k6 b7 k7 hlb Xinnb Xrdb Xkb Xhwb Xbb Xmm2
       have Xinn7:=hide inn7;have Xrd7:=hide rd7;have Xq7:=hide q7;clear inn7 rd7 q7
       go_wp2_with (at_builtin;refine wp_pushP rfl (.tmp 51) (.tmp 54) rfl Xq7.out rfl rfl ⟨e0,e1⟩ (by omega) hlo7 ?_)
       intro g' off' c' w9 q9 t9 hg9
       have inn9:=Xinn7.out.push q9 t9
       have rd9:=Xrd7.out.touch t9 (fun b hb e=>by rcases hgL with h|h<;>omega) (fun b hb=>(Xinn7.out.apart.2.2 b hb).1)
       have hz9:=Nat.le_trans hz7 t9.size
       have hgL9:g'<L0∨L1≤g':=by rcases hg9 with h|h;rw [h];exact hgL;exact .inr (by have:=hz6b;omega)
       rw [List.append_assoc (done++[p])]at inn9
       clear q9 t9 hg9 hgL hz7 hlo7 e0 e1 d3 d4 Xinn7 Xrd7 Xq7
       have Xinn9:=hide inn9;have Xrd9:=hide rd9;have XhgL9:=hide hgL9;clear inn9 rd9 hgL9
       go_wp2_with fail
       go_roundw
       case rel=>exact⟨k+1,todo++[tp],g',off',n+1,c',by omega,by go_num,by first|rfl|trivial,Xinn9.out,Xai2.out,XhgL9.out,hz9,Xrd9.out⟩
       case measure=>simp [intOf];omega
    ·have hltk: ¬(k:Int)<(m:Int):=by omega
     have fin:=ai.back (by have:=Xhm.out;rw [XhX'.out,List.length_map]at this;omega)
     have hnl:=Xhnl.out
     have hκ':gr.length≤gk - 1+(done++[p]).length:=by have:=Xhκ.out;have:=Xhgk.out;rw [List.length_append,List.length_singleton];omega
     have hgk':=Xhgk.out
     clear rd hnd2 ai hnd3 Xhnl e5
     have Xinn:=hide inn;have Xfin:=hide fin;have Xhnl:=hide hnl;have Xhκ':=hide hκ';clear inn fin hnl hκ'
     go_wp2_with fail
     go_roundg (gk - 1)
     case rel=>exact⟨done++[p],todo,g,off,n,c,A8,va,c8,rfl,rfl,Xhnl.out,Xinn.out,Xfin.out,Xhκ'.out⟩
     case measure=>omega
end
end Go.Proofs.YtalbfonkhpeajaaGreat
namespace Go.Proofs.YtalbfonkhpeajaaGreat
set_option linter.unusedVariables false
open Go.RowKit
def CW (w w':World):Prop:= ∀(a:Addr) (u:Value),w.cell? a=some u→w'.cell? a=some u
theorem CW.refl (w:World):CW w w:=fun _ _ h=>h
theorem CW.trans {a b c:World} (h:CW a b) (k:CW b c):CW a c:=fun x u e=>k x u (h x u e)
theorem CW.putObj {w:World} {l:Nat} {o:Obj} (h:w.heap[l]? =some o) (ho:o.isCells=false) (o':Obj):CW w (w.putObj l o'):=fun a u e=>
 cell_kept e (grownBy_putObj' w l o') (fun r hr=>by cases hr;exact⟨o,h,ho⟩)
theorem Rd.cw {w w':World} {F:Nat→Prop} {v:Value} {size:Nat} {xs:List Value} (h:Rd w F v size xs) (k:CW w w'):Rd w' F v size xs:=by
 obtain⟨A,n,c,hv,hc,hm,hl,hr⟩:=h
 refine⟨A,n,c,hv,hc,hm,hl,fun hn=> ?_⟩
 obtain⟨b,off,hA,hb,hcell⟩:=hr hn
 exact⟨b,off,hA,hb,fun j u hu=>k _ _ (hcell j u hu)⟩
abbrev mark (D:Nat):Deferred:={target:= .collected D,args:= #[]}
theorem mark_inj {a b:Nat} (h:mark a=mark b):a=b:=by injection h with h;injection h
def Mk (lo:Nat) (ds:List Deferred) (w:World):Prop:= ∃Ds:List Nat,Ds.Nodup∧ds=Ds.map mark∧ ∀D∈Ds,lo≤D∧w.heap[D]? =some (.deferred (some []))
theorem Mk.nil (lo:Nat) (w:World):Mk lo [] w:=⟨[],List.nodup_nil,rfl,fun D h=>by cases h⟩
theorem map_mark_inj: ∀{a b:List Nat},a.map mark=b.map mark→a=b
 |[],[],_=>rfl
 |[],_::_,h=>by cases h
 |_::_,[],h=>by cases h
 |x::a,y::b,h=>by
  rw [List.map_cons,List.map_cons]at h
  injection h with h1 h2
  rw [mark_inj h1,map_mark_inj h2]
theorem Mk.cons {lo:Nat} {ds:List Deferred} {w0 w:World} {D:Nat} (h0:Mk lo ds w0) (h:Mk lo ds w) (hlo:lo≤w0.heap.size) (hD:w0.heap.size≤D) (hk:w.heap[D]? =some (.deferred (some []))):Mk lo (mark D::ds) w:=by
 obtain⟨Ds,h1,rfl,h3⟩:=h0
 obtain⟨Ds',g1,g2,g3⟩:=h
 obtain rfl:=map_mark_inj g2
 refine⟨D::Ds,List.nodup_cons.2 ⟨fun hm=> ?_,h1⟩,rfl,fun D' hD'=> ?_⟩
 ·have:=(Array.getElem?_eq_some_iff.1 (h3 D hm).2).1
  omega
 ·rcases List.mem_cons.1 hD' with e|e
  ·subst e;exact⟨by omega,hk⟩
  ·exact g3 D' e
theorem leaves_marks {F:Fence} {n:Nat} {P:Program} {fn:Func} {tmps:Array Value} {R:Ending→World→Prop} {lo:Nat}: ∀(Ds:List Nat) (w:World),Ds.Nodup→(∀D∈Ds,lo≤D∧w.heap[D]? =some (.deferred (some [])))→
  (∀w',CW w w'→Below lo w w'→LeavesIn F n P fn tmps R [] .returning w')→LeavesInM F n P fn tmps R (Ds.map mark) .returning w
 |[],w,_,_,h=>h w (CW.refl _) (Below.refl _ _)
 |D::Ds,w,hn,hk,h=>by
  obtain⟨h1,h2⟩:=List.nodup_cons.1 hn
  obtain⟨hD,hh⟩:=hk D (List.mem_cons_self ..)
  refine⟨by simp,.inl ⟨D,_,rfl,run_takeDeferred hh,?_⟩⟩
  have g:=grownBy_putObj' w D (.deferred none)
  have hlt:=(Array.getElem?_eq_some_iff.1 hh).1
  have b1:Below lo w (w.putObj D (.deferred none)):=(Below.refl lo w).grown g (by omega) (fun k e=>by cases e;exact hD)
  refine leaves_marks Ds _ h2 (fun D' hD'=>⟨(hk D' (List.mem_cons_of_mem _ hD')).1,?_⟩) fun w' hc hb=>h w' ((CW.putObj hh rfl _).trans hc) (b1.trans hb)
  have hne:D'≠D:=fun e=>h1 (e▸hD')
  exact(World.putObj_heap_other hne).trans (hk D' (List.mem_cons_of_mem _ hD')).2
def markPost (P:Program) (fn:Func) (R:Ending→World→Prop) (e:Exit) (a:Act) (w:World):Prop:=
 (e= .normal∨e= .ret)∧ ∃lo,Mk lo a.defers w∧ ∀w',CW w w'→Below lo w w'→bodyPost P fn R .ret {tmps:=a.tmps,defers:=[]} w'
attribute [irreducible] markPost
def HandE (p:Act→World→Prop) (a:Act) (w:World):Prop:=p a w
theorem HandE.mk {p:Act→World→Prop} {a:Act} {w:World} (h:p a w):HandE p a w:=h
end Go.Proofs.YtalbfonkhpeajaaGreat
namespace Go.Proofs.YtalbfonkhpeajaaGreat
set_option linter.unusedVariables false
open Go.RowKit
theorem touch_putObj {w:World} {l:Nat} (o:Obj):Touch (fun b=>b=l) w (w.putObj l o):=
 (Touch.refl _ _).grown (grownBy_putObj' w l o) (fun k e _=>by cases e;rfl)
end Go.Proofs.YtalbfonkhpeajaaGreat
namespace Go.Proofs.YtalbfonkhpeajaaGreat
set_option linter.unusedVariables false
set_option maxRecDepth 100000
open Go Go.RowKit Go.Shelf
theorem Mk.touch {lo:Nat} {ds:List Deferred} {w w':World} {S:Nat→Prop} (h:Mk lo ds w) (t:Touch S w w') (hS: ∀D,w.heap[D]? =some (.deferred (some []))→ ¬S D):Mk lo ds w':=by
 obtain⟨Ds,h1,h2,h3⟩:=h
 exact⟨Ds,h1,h2,fun D hD=>⟨(h3 D hD).1,(t.block D (Array.getElem?_eq_some_iff.1 (h3 D hD).2).1 (hS D (h3 D hD).2)).trans (h3 D hD).2⟩⟩
end Go.Proofs.YtalbfonkhpeajaaGreat
namespace Go.Proofs.YtalbfonkhpeajaaGreat
set_option linter.unusedVariables false
set_option linter.unusedSimpArgs false
open Go.RowKit
theorem upon_round {l n:Nat} {P:Program} {o:Oper} {a:Act} {K:Act→World→Prop} {Q:Exit→Act→World→Prop} {r:Result Next} (h:o.upon P a K Q r):o.uponIn (Fence.wide.inRound l) n P a K Q r:=by
 cases r with
 |ok nx w'=>
  cases nx<;>first
   |exact h
   |exact(h:False).elim
   |exact⟨fun c=>(by cases c),(callsIn_wide (n:=n - 1)).2 h⟩
   |exact⟨fun c=>(by cases c),fun c cs _=>let⟨v,w',r,s⟩:=h c cs;⟨v,w',r,stepsIn_wide.2 s⟩⟩
 |halt ht w'=>cases ht<;>first|exact h|exact(h:False).elim
theorem oper_round {l n:Nat} {P:Program} {o:Oper} {a:Act} {w:World} {K:Act→World→Prop} {Q:Exit→Act→World→Prop} (hnd: ∀c,o.op≠ .defer c) (h:o.wp P a w K Q):o.wpIn (Fence.wide.inRound l) n P a w K Q:=by
 refine⟨fun _ _=>trivial,?_⟩
 rw [show(Fence.wide.inRound l).round=some l from rfl,Oper.semAt_some l _ _ hnd]
 exact upon_round h
theorem any_round {l n:Nat} {P:Program} {md:Region.Mode} {ops:Array Oper} {Q:Exit→Act→World→Prop} (hnd: ∀(i:Nat) o,ops[i]? =some o→ ∀c,o.op≠ .defer c) (hQ: ¬LetsOut Q): ∀(fuel:Nat) (listed:Array Bool) (a:Act) (w:World),wpAny P md ops Q fuel listed a w→wpAnyIn (Fence.wide.inRound l) n P md ops Q fuel listed a w
 |0,_,_,_,h=>h
 |fuel+1,listed,a,w,h=>by
  refine⟨h.1,fun i hi=> ?_⟩
  have h2:=h.2 i hi
  unfold wpOp at h2
  unfold wpOpIn
  rcases ho:ops[i]? with _|o
  ·rw [ho]at h2
   exact any_round hnd hQ fuel _ a w h2
  ·rw [ho]at h2
   simp only at h2⊢
   by_cases hw:Region.wanted o (yielded ops a.tmps)=true
   ·rw [if_pos hw]at h2⊢
    rcases h2 with h2|⟨-,h2⟩
    ·exact Oper.wpIn_mono (fun a w k=>any_round hnd hQ fuel _ a w k) (oper_round (hnd i o ho) h2)
    ·exact absurd h2 hQ
   ·rw [if_neg hw]at h2⊢
    exact⟨fun _ _=>trivial,any_round hnd hQ fuel _ _ w h2⟩
section
def noDefer (l:List Oper):Bool:=l.all fun o=>match o.op with| .defer _=>false|_=>true
theorem noDefer_out {l:List Oper} (h:noDefer l=true) (i:Nat) (o:Oper) (ho:l.toArray[i]? =some o): ∀c,o.op≠ .defer c:=by
 intro c e
 unfold noDefer at h
 rw [List.all_eq_true]at h
 have:=h o (List.mem_of_getElem? (by simpa using ho))
 rw [e]at this
 cases this
end
end Go.Proofs.YtalbfonkhpeajaaGreat
namespace Go.Proofs.YtalbfonkhpeajaaGreat
set_option linter.unusedVariables false
open Go.RowKit
def SeqN {α:Type} (F:Fence) (n:Nat) (P:Program) (g:Nat) (lb:Array Value) (encs:α→Array Value) (R:Nat→Prop) (S Sp:List α→Prop) (w:World):Prop:=
 ∀(l:Nat) (J Jx:List α→World→Prop) (W:World),Below w.heap.size w W→
  (∀pre x W1,J pre W1→Sp (pre++[x])→YieldAt F (n - 1) P l (encs x) W1 fun e W'=>
   (e= .returned (.bool true)∧J (pre++[x]) W'∧Touch (fun b=> ¬R b) W1 W')∨(e= .returned (.bool false)∧Jx (pre++[x]) W'∧Touch (fun b=> ¬R b) W1 W'))→
  J [] W→
  CallsIn F n P g (#[.func (.yield l) #[] #[]]++lb) W fun e W'=>(∃v,e= .returned v)∧((∃xs,S xs∧J xs W')∨(∃pre,Sp pre∧Jx pre W'))
def ownPostN {α:Type} (B:Nat) (R:Nat→Prop) (I:List α→World→Prop) (Ix:Code→List α→World→Prop) (xs:List α) (W:World):Exit→Act→World→Prop
 | .normal,_,W'=>Touch (fun b=> ¬R b∧b≠B∧b≠B+1) W W'∧I xs W'
 | .ret,_,W'=>Touch (fun b=> ¬R b∧b≠B∧b≠B+1) W W'∧Ix .ret xs W'
 | .exit id,_,W'=>Touch (fun b=> ¬R b∧b≠B∧b≠B+1) W W'∧Ix (.exit id) xs W'
 | .goto t,_,W'=>Touch (fun b=> ¬R b∧b≠B∧b≠B+1) W W'∧Ix (.goto t) xs W'
 | .panic _,_,_=>False
 | .outgrown,_,_=>False
theorem wpIn_rangeFunc_N {F:Fence} {n:Nat} {P:Program} {α:Type} {g:Operand} {ps:Array Tmp} {assign body:Code} {Q:Exit→Act→World→Prop} {a:Act} {w:World}
  (hro:F.round=none) (h1:1≤n) {gf:Nat} {lb:Array Value} (hg:a.eval g= .func (.func gf) #[] lb) (hFg:F.fn gf) (eg: ∀args w,(callFunc gf args).run P w= .ok (.enter gf args) w)
  {encs:α→Array Value} {R:Nat→Prop} {S Sp:List α→Prop} {w0:World} (hseq:SeqN F (n - 1) P gf lb encs R S Sp w0)
  (hR: ∀b,R b→b<w.heap.size) (hb0:Below w0.heap.size w0 w) (hps: ∀x,(encs x).size=ps.size)
  (I:List α→World→Prop) (Ix:Code→List α→World→Prop)
  (hI: ∀pre A B,I pre A→Below A.heap.size A B→I pre B) (hIl: ∀pre A B,I pre A→Touch (fun b=>b=w.heap.size+1) A B→(∀t cs,¬Blk A (w.heap.size+1) t cs)→I pre B)
  (hIx: ∀c pre A B,Ix c pre A→Touch (fun b=>b=w.heap.size+1) A B→(∀t cs,¬Blk A (w.heap.size+1) t cs)→Ix c pre B)
  (h0:I [] w) (A1:α→Act→World→Prop)
  (hA1: ∀x a A B,A1 x a A→Touch (fun b=>b=w.heap.size+1) A B→A1 x a B)
  (hassign: ∀(l:Nat) (pre:List α) (x:α) (W:World) (K:Act→World→Prop),I pre W→w.heap.size+2≤W.heap.size→Sp (pre++[x])→(∀a1 V,Below W.heap.size W V→A1 x a1 V→K a1 V)→
   assign.wpIn (F.inRound l) (n - 1 - 1) P (Exit.then K (fun _ _ _=>False)) {tmps:=(ps.zip (encs x)).foldl (fun t (p,v)=>t.setIfInBounds p v) a.tmps,defers:=[]} W)
  (hbody: ∀(l:Nat) (pre:List α) (x:α) (a1:Act) (W:World),I pre W→w.heap.size+2≤W.heap.size→Sp (pre++[x])→A1 x a1 W→body.wpIn (F.inRound l) (n - 1 - 1) P (ownPostN w.heap.size R I Ix (pre++[x]) W) a1 W)
  (hdone: ∀(D:Nat) (xs:List α) (W:World),w.heap.size≤D→S xs→I xs W→W.heap[D]? =some (.deferred (some []))→Q .normal {a with defers:={target:= .collected D,args:= #[]}::a.defers} W)
  (hstop: ∀(D:Nat) (c:Code) (pre:List α) (W:World),w.heap.size≤D→Sp pre→Ix c pre W→W.heap[D]? =some (.deferred (some []))→c.wpIn F n P Q {a with defers:={target:= .collected D,args:= #[]}::a.defers} W):
  (Code.rangeFunc g ps assign body).wpIn F n P Q a w:=by
 refine wpIn_rangeFunc ?_
 intro fn hfn
 rw [hro]
 obtain⟨rec,hrec⟩: ∃rec:LoopState→Option Code→Loop,rec=fun st pe=>{state:=st,pending:=pe,fn,tmps:=a.tmps,params:=ps,assign,body,defers:=w.heap.size}:=⟨_,rfl⟩
 obtain⟨W1,hW1⟩: ∃W1,(w.alloc (.deferred (some []))).alloc (.loop (rec .ready none))=W1:=⟨_,rfl⟩
 have hL1:W1.heap[w.heap.size+1]? =some (.loop (rec .ready none)):=by
  rw [←hW1];have:=World.alloc_heap_new (w.alloc (.deferred (some []))) (.loop (rec .ready none));rwa [World.size_alloc]at this
 have hK1:W1.heap[w.heap.size]? =some (.deferred (some [])):=by
  rw [←hW1];exact(Below.heap_alloc _ _ _ (by simp)).trans (World.alloc_heap_new w _)
 have hs1:W1.heap.size=w.heap.size+2:=by rw [←hW1];simp
 have hI1:I [] W1:=by
  rw [←hW1]
  exact hI _ _ _ h0 (((Below.refl _ w).alloc (Nat.le_refl _) _).alloc (by simp) _)
 have hnb: ∀(V:World) (L:Loop),V.heap[w.heap.size+1]? =some (.loop L)→ ∀t cs,¬Blk V (w.heap.size+1) t cs:=fun V L h t cs k=>by unfold Blk at k;rw [h]at k;cases k
 have hb1:Below w0.heap.size w0 W1:=by
  rw [←hW1];exact hb0.trans ((((Below.refl _ w).alloc (Nat.le_refl _) _).alloc (by simp) _).mono hb0.size)
 refine⟨w.heap.size+1,[{target:= .collected w.heap.size,args:= #[]}],W1,{target:= .fn (.func gf) lb,args:= #[.func (.yield (w.heap.size+1)) #[] #[]]},W1,gf,
  #[.func (.yield (w.heap.size+1)) #[] #[]]++lb,W1,?_,?_,?_,?_,fun _=>h1,?_⟩
 ·rw [←hW1,hrec];exact run_enterLoop_outer _ _ _ _ _
 ·simp only [resolve,hg]
  simp [go_sem]
 ·intro f' hf';simp [Target.leads]at hf';subst hf';exact hFg
 ·simp [invoke,go_sem,eg]
 ·refine(hseq (w.heap.size+1)
   (fun pre W=>I pre W∧W.heap[w.heap.size+1]? =some (.loop (rec .ready none))∧W.heap[w.heap.size]? =some (.deferred (some [])))
   (fun pre W=> ∃c,Ix c pre W∧W.heap[w.heap.size+1]? =some (.loop (rec .done (some c)))∧W.heap[w.heap.size]? =some (.deferred (some [])))
   W1 hb1 ?_ ⟨hI1,hL1,hK1⟩).mono ?_
  ·rintro pre x W0 ⟨hi0,hl0,hk0⟩ hlen
   have hlt0:w.heap.size+1<W0.heap.size:=(Array.getElem?_eq_some_iff.1 hl0).1
   have hy:=run_yield (P:=P) (args:=encs x) hl0 (by rw [hrec];exact hps x)
   rw [hrec]at hy
   refine⟨fn,_,assign,body,hy,roundIn_of_wpIn hfn (hassign _ pre x W0 _ hi0 (by omega) hlen fun a1 W bV hA=> ?_)⟩
   have hi:=hI _ _ _ hi0 bV
   have hl:=(bV.block _ hlt0).trans hl0
   have hk:=(bV.block w.heap.size (by omega)).trans hk0
   have hlt:w.heap.size+1<W.heap.size:=Nat.lt_of_lt_of_le hlt0 bV.size
   refine⟨_,run_beginRound hl (by rw [hrec]),?_⟩
   have hl2:(W.putObj (w.heap.size+1) (.loop {rec .ready none with state:= .busy})).heap[w.heap.size+1]? =some (.loop {rec .ready none with state:= .busy}):=World.putObj_heap_same hlt
   have hk2:(W.putObj (w.heap.size+1) (.loop {rec .ready none with state:= .busy})).heap[w.heap.size]? =some (.deferred (some [])):=(World.putObj_heap_other (by omega)).trans hk
   have t2:Touch (fun b=>b=w.heap.size+1) W (W.putObj (w.heap.size+1) (.loop {rec .ready none with state:= .busy})):=touch_putObj _
   have z2:=t2.size
   refine wpIn_mono (hbody _ pre x a1 _ (hIl _ _ _ hi t2 (hnb _ _ hl)) (Nat.le_trans (by omega) z2) hlen (hA1 _ _ _ _ hA t2)) ?_
   have fin: ∀(jump:Option Code) (W3:World) (X:Nat→Prop),Touch X (W.putObj (w.heap.size+1) (.loop {rec .ready none with state:= .busy})) W3→(∀b,X b→b≠w.heap.size∧b≠w.heap.size+1)→
     (Instr.endRound (w.heap.size+1) jump).run P W3= .ok (.bool jump.isNone) (W3.putObj (w.heap.size+1) (.loop (rec (if jump.isNone then .ready else .done) jump)))∧
     W3.heap[w.heap.size+1]? =some (.loop {rec .ready none with state:= .busy})∧
     (W3.putObj (w.heap.size+1) (.loop (rec (if jump.isNone then .ready else .done) jump))).heap[w.heap.size+1]? =some (.loop (rec (if jump.isNone then .ready else .done) jump))∧
     (W3.putObj (w.heap.size+1) (.loop (rec (if jump.isNone then .ready else .done) jump))).heap[w.heap.size]? =some (.deferred (some [])):=fun jump W3 X ht hX=>by
    have hl3:=(ht.block _ (by omega) (fun c=>(hX _ c).2 rfl)).trans hl2
    have hk3:=(ht.block _ (by omega) (fun c=>(hX _ c).1 rfl)).trans hk2
    have:=run_endRound (P:=P) jump hl3
    rw [hrec]at this⊢
    exact⟨this,by rw [hrec]at hl3;exact hl3,World.putObj_heap_same (Array.getElem?_eq_some_iff.1 hl3).1,(World.putObj_heap_other (by omega)).trans hk3⟩
   have hout: ∀(W3:World) (o:Obj),Touch (fun b=>b=w.heap.size+1) W3 (W3.putObj (w.heap.size+1) o):=fun W3 o=>touch_putObj _
   have q: ∀b,b=w.heap.size+1→ ¬R b:=fun b e c=>by have:=hR b c;omega
   have tt: ∀(W3:World) (o:Obj),Touch (fun b=> ¬R b∧b≠w.heap.size∧b≠w.heap.size+1) (W.putObj (w.heap.size+1) (.loop {rec .ready none with state:= .busy})) W3→Touch (fun b=> ¬R b) W0 (W3.putObj (w.heap.size+1) o):=fun W3 o hk3=>
    (((Touch.of_size bV _).trans' (t2.mono (fun b _ h=>q b h))).trans' (hk3.mono (fun b _ h=>h.1))).trans' ((hout _ _).mono (fun b _ h=>q b h))
   rintro e a3 W3 hp
   cases e with
   |normal=>
    obtain⟨hk3,hi3⟩:=hp
    obtain⟨hr,hl3,hl4,hk4⟩:=fin none W3 _ hk3 (fun b h=>h.2)
    exact⟨_,_,hr,.inl ⟨rfl,⟨hIl _ _ _ hi3 (hout _ _) (hnb _ _ hl3),hl4,hk4⟩,tt _ _ hk3⟩⟩
   |ret=>
    obtain⟨hk3,hi3⟩:=hp
    obtain⟨hr,hl3,hl4,hk4⟩:=fin (some .ret) W3 _ hk3 (fun b h=>h.2)
    exact⟨_,_,hr,.inr ⟨rfl,⟨.ret,hIx _ _ _ _ hi3 (hout _ _) (hnb _ _ hl3),hl4,hk4⟩,tt _ _ hk3⟩⟩
   |exit id=>
    obtain⟨hk3,hi3⟩:=hp
    obtain⟨hr,hl3,hl4,hk4⟩:=fin (some (.exit id)) W3 _ hk3 (fun b h=>h.2)
    exact⟨_,_,hr,.inr ⟨rfl,⟨.exit id,hIx _ _ _ _ hi3 (hout _ _) (hnb _ _ hl3),hl4,hk4⟩,tt _ _ hk3⟩⟩
   |goto t=>
    obtain⟨hk3,hi3⟩:=hp
    obtain⟨hr,hl3,hl4,hk4⟩:=fin (some (.goto t)) W3 _ hk3 (fun b h=>h.2)
    exact⟨_,_,hr,.inr ⟨rfl,⟨.goto t,hIx _ _ _ _ hi3 (hout _ _) (hnb _ _ hl3),hl4,hk4⟩,tt _ _ hk3⟩⟩
   |panic ch=>exact hp.elim
   |outgrown=>exact hp.elim
  ·rintro e W2 ⟨⟨v,rfl⟩,(⟨xs,hS,hi,hl,hk⟩|⟨pre,hSp,c,hi,hl,hk⟩)⟩
   ·exact⟨none,_,by have:=run_endLoop (P:=P) hl (by rw [hrec];simp);rw [hrec]at this;exact this,hdone _ xs _ (Nat.le_refl _) hS (hIl _ _ _ hi (touch_putObj _) (hnb _ _ hl)) ((World.putObj_heap_other (by omega)).trans hk)⟩
   ·exact⟨some c,_,by have:=run_endLoop (P:=P) hl (by rw [hrec];simp);rw [hrec]at this;exact this,hstop _ c pre _ (Nat.le_refl _) hSp (hIx _ _ _ _ hi (touch_putObj _) (hnb _ _ hl)) ((World.putObj_heap_other (by omega)).trans hk)⟩
open Classical in
theorem loop_ghostF {F:Fence} {N:Nat} {P:Program} {Q:Exit→Act→World→Prop} {c:Code} {a:Act} {w:World} (I:Nat→Act→World→Prop) (n0:Nat) (h0:I n0 a w)
  (round: ∀n a w,I n a w→c.wpIn F N P (Exit.then (fun a' w'=> ∃m,m<n∧I m a' w') Q) a w):(Code.loop c).wpIn F N P Q a w:=by
 have key: ∀(n:Nat) (a:Act) (w:World),I n a w→ ∃k,I k a w∧ ∀m,I m a w→k≤m:=by
  intro n
  induction n using Nat.strongRecOn with
  |_ n ih=>
   intro a w h
   by_cases hm: ∃m,m<n∧I m a w
   ·obtain⟨m,h1,h2⟩:=hm
    exact ih m h1 a w h2
   ·exact⟨n,h,fun m hI=>Nat.le_of_not_lt fun c=>hm ⟨m,c,hI⟩⟩
 refine wpIn_loop (fun a w=> ∃n,I n a w) (fun a w=>if h: ∃n,I n a w then(key h.choose a w h.choose_spec).choose else 0) ⟨n0,h0⟩ ?_
 rintro a w hI
 have hk:=(key hI.choose a w hI.choose_spec).choose_spec
 refine wpIn_mono (round _ a w hk.1) ?_
 intro e a' w' hq
 cases e with
 |normal=>
  obtain⟨m,h1,h2⟩:=hq
  refine⟨⟨m,h2⟩,?_⟩
  have hI': ∃n,I n a' w':=⟨m,h2⟩
  rw [dif_pos hI',dif_pos hI]
  exact Nat.lt_of_le_of_lt ((key hI'.choose a' w' hI'.choose_spec).choose_spec.2 m h2) h1
 |exit id=>exact hq
 |goto l=>exact hq
 |ret=>exact hq
 |panic ch=>exact hq
 |outgrown=>exact hq
theorem loop_rest {F:Fence} {N:Nat} {P:Program} {Q:Exit→Act→World→Prop} {c:Code} {v0 v1 v2 v3 v4 v5 v6 v7 v8 v9 v10 v11 v12 v13 v14 v15 v16 v17 v18 v19 v20 v21 v22 v23 v24 v25 v26 v27 v28 v29 v30 v31 v32 v33 v34 v35 v36 v37 v38 v39 v40 v41 v42 v43 v44 v45 v46 v47 v48 v49 v50 v51 v52 v53 v54 v55 v56 v57 v58 v59 v60 v61 v62 v63 v64 v65 v66 v67 v68 v69 v70 v71 v72 v73 v74 v75 v76 v77 v78 v79 v80 v81 v82 v83 v84 v85 v86 v87 v88 v89 v90 v91 v92 v93 v94 v95:Value} {ds0:List Deferred} {w0:World} (rel:Value→List Deferred→Nat→World→Prop) (n0:Nat) (h0:rel v9 ds0 n0 w0)
  (round: ∀(y42 y43 y44 y84 uv:Value) (ds:List Deferred) (n:Nat) (w:World),rel uv ds n w→ ∀K:Act→World→Prop,(∀a' w',HandE (fun a' w'=> ∃(y42 y43 y44 y84 uv':Value) (ds':List Deferred) (m:Nat),rel uv' ds' m w'∧m<n∧a'={tmps:= #[v0,v1,v2,v3,v4,v5,v6,v7,v8,uv',v10,v11,v12,v13,v14,v15,v16,v17,v18,v19,v20,v21,v22,v23,v24,v25,v26,v27,v28,v29,v30,v31,v32,v33,v34,v35,v36,v37,v38,v39,v40,v41,y42,y43,y44,v45,v46,v47,v48,v49,v50,v51,v52,v53,v54,v55,v56,v57,v58,v59,v60,v61,v62,v63,v64,v65,v66,v67,v68,v69,v70,v71,v72,v73,v74,v75,v76,v77,v78,v79,v80,v81,v82,v83,y84,v85,v86,v87,v88,v89,v90,v91,v92,v93,v94,v95],defers:=ds'}) a' w'→K a' w')→c.wpIn F N P (Exit.then K Q) {tmps:= #[v0,v1,v2,v3,v4,v5,v6,v7,v8,uv,v10,v11,v12,v13,v14,v15,v16,v17,v18,v19,v20,v21,v22,v23,v24,v25,v26,v27,v28,v29,v30,v31,v32,v33,v34,v35,v36,v37,v38,v39,v40,v41,y42,y43,y44,v45,v46,v47,v48,v49,v50,v51,v52,v53,v54,v55,v56,v57,v58,v59,v60,v61,v62,v63,v64,v65,v66,v67,v68,v69,v70,v71,v72,v73,v74,v75,v76,v77,v78,v79,v80,v81,v82,v83,y84,v85,v86,v87,v88,v89,v90,v91,v92,v93,v94,v95],defers:=ds} w):(Code.loop c).wpIn F N P Q {tmps:= #[v0,v1,v2,v3,v4,v5,v6,v7,v8,v9,v10,v11,v12,v13,v14,v15,v16,v17,v18,v19,v20,v21,v22,v23,v24,v25,v26,v27,v28,v29,v30,v31,v32,v33,v34,v35,v36,v37,v38,v39,v40,v41,v42,v43,v44,v45,v46,v47,v48,v49,v50,v51,v52,v53,v54,v55,v56,v57,v58,v59,v60,v61,v62,v63,v64,v65,v66,v67,v68,v69,v70,v71,v72,v73,v74,v75,v76,v77,v78,v79,v80,v81,v82,v83,v84,v85,v86,v87,v88,v89,v90,v91,v92,v93,v94,v95],defers:=ds0} w0:=by
 refine loop_ghostF (fun n a w=> ∃(y42 y43 y44 y84 uv:Value) (ds:List Deferred),rel uv ds n w∧a={tmps:= #[v0,v1,v2,v3,v4,v5,v6,v7,v8,uv,v10,v11,v12,v13,v14,v15,v16,v17,v18,v19,v20,v21,v22,v23,v24,v25,v26,v27,v28,v29,v30,v31,v32,v33,v34,v35,v36,v37,v38,v39,v40,v41,y42,y43,y44,v45,v46,v47,v48,v49,v50,v51,v52,v53,v54,v55,v56,v57,v58,v59,v60,v61,v62,v63,v64,v65,v66,v67,v68,v69,v70,v71,v72,v73,v74,v75,v76,v77,v78,v79,v80,v81,v82,v83,y84,v85,v86,v87,v88,v89,v90,v91,v92,v93,v94,v95],defers:=ds}) n0 ⟨_,_,_,_,_,_,h0,rfl⟩ ?_
 rintro n a w ⟨y42,y43,y44,y84,uv,ds,h1,rfl⟩
 refine wpIn_mono (round y42 y43 y44 y84 uv ds n w h1 _ (fun a' w' h=>h)) ?_
 intro e a' w' hq
 cases e with
 |normal=>
  obtain⟨z42,z43,z44,z84,uv',ds',m,k1,k2,rfl⟩:=hq
  exact⟨m,k2,z42,z43,z44,z84,uv',ds',k1,rfl⟩
 |exit id=>exact hq
 |goto l=>exact hq
 |ret=>exact hq
 |panic ch=>exact hq
 |outgrown=>exact hq
theorem Mk.leaves {F:Fence} {n:Nat} {P:Program} {fn:Func} {tmps:Array Value} {R:Ending→World→Prop} {lo:Nat} {ds:List Deferred} {w:World} (h:Mk lo ds w) (k: ∀w',CW w w'→Below lo w w'→LeavesIn F n P fn tmps R [] .returning w'):LeavesInM F n P fn tmps R ds .returning w:=by
 obtain⟨Ds,h1,rfl,h3⟩:=h
 exact leaves_marks Ds w h1 h3 k
theorem region_reads_round {q n0:Nat} {P:Program} {id:Nat} {Q:Exit→Act→World→Prop} {a:Act} {w:World} {l:List Oper} (hm:P.follows .mixedOrders=true) (hB:Region.lexB .any l.toArray=true) (hnd:noDefer l=true) (hQ: ¬LetsOut Q)
  (h:wpStill P l.toArray w.drew (fun a'=>Q .normal a' w.drew) l a):(Code.region id l.toArray true).wpIn (Fence.wide.inRound q) n0 P Q a w:=by
 simp only [Region.lexB,Bool.and_eq_true]at hB
 have h1:=wpAnyS_lex (md:= .any) hB.1 l 0 (Array.replicate l.toArray.size false) a (by simp) (by simpa using hB.2) h
 have h2:wpAny P .any l.toArray Q l.toArray.size (Array.replicate l.toArray.size false) a w.drew:=wpAny_of_still (Q:=fun a'=>Q .normal a' w.drew) (fun _ h=>h) _ _ _ (by simpa using h1)
 exact wpIn_region_any hm (any_round (n:=n0) (l:=q) (noDefer_out hnd) hQ _ _ _ _ h2)
end Go.Proofs.YtalbfonkhpeajaaGreat
namespace Go.Proofs.YtalbfonkhpeajaaGreat
set_option linter.unusedVariables false
set_option linter.unusedSimpArgs false
open Go.RowKit Go.Shelf
attribute [local go_sem] Oper.semAt_some
theorem fin_Backward (A:Option Addr) (n c:Nat) (w:World):Calls Tryz.prog 22 #[.slice A n c] w fun e w'=>e= .returned (.func (.func 54) #[] #[.pointer (some ⟨w.heap.size,0,none⟩)])∧w'=w.alloc (.cells #[.slice A n c] 61):=by
 go_enter Tryz.func22,Tryz.ntmps22
 go_wp2_with fail
 go_ret
 exact⟨rfl,rfl⟩
abbrev StV:=PStp×Value
instance:Inhabited StV:=⟨(((0,0),([],none)),.bool false)⟩
def bwdF (xs:List StV):List (Int×StV):=(List.range xs.length).map fun k=>(((xs.length - 1 - k:Nat):Int),xs.getD (xs.length - 1 - k) default)
theorem bwdF_len (xs:List StV):(bwdF xs).length=xs.length:=by unfold bwdF;simp
theorem bwdF_get {xs:List StV} {j:Nat} {x:StV} (hx:xs[j]? =some x):(bwdF xs)[xs.length - 1 - j]? =some ((j:Int),x):=by
 have hj:=(List.getElem?_eq_some_iff.1 hx).1
 unfold bwdF
 rw [List.getElem?_map,List.getElem?_range (by omega)]
 have e:xs.length - 1 - (xs.length - 1 - j)=j:=by omega
 simp [e,List.getD_eq_getElem?_getD,hx]
theorem bwdF_snd (xs:List StV):(bwdF xs).map Prod.snd=xs.reverse:=by
 refine List.ext_getElem? fun i=> ?_
 rw [List.getElem?_map]
 by_cases hi:i<xs.length
 ·obtain⟨x,hx⟩: ∃x,xs[xs.length - 1 - i]? =some x:=⟨_,List.getElem?_eq_getElem (by omega)⟩
  have:=bwdF_get hx
  rw [show xs.length - 1 - (xs.length - 1 - i)=i by omega]at this
  rw [this,List.getElem?_reverse hi,hx];rfl
 ·rw [List.getElem?_eq_none (by rw [bwdF_len];omega),List.getElem?_eq_none (by rw [List.length_reverse];omega)];rfl
def spV (p:StV):Value:= .agg #[.int .i64 p.1.1.1,.int .i64 p.1.1.2,p.2,.int .i64 (toP p.1.2).1,.int .i64 (toP p.1.2).2,.bool p.1.2.2.isNone]
theorem rdZ_at {w:World} {F:Nat→Prop} {A:Option Addr} {n c:Nat} {Z:List StV} (h:Rd w F (.slice A n c) 6 (spCells Z)):n=Z.length∧n≤c∧c≤maxLen∧(0<n→ ∃b off,A=some ⟨b,off,none⟩∧F b∧ ∀(k:Nat) (p:StV),Z[k]? =some p→w.cell? ⟨b,off+k * 6,none⟩=some (.int .i64 p.1.1.1)∧w.cell? ⟨b,off+k * 6+1,none⟩=some (.int .i64 p.1.1.2)∧w.cell? ⟨b,off+k * 6+2,none⟩=some p.2∧w.cell? ⟨b,off+k * 6+3,none⟩=some (.int .i64 (toP p.1.2).1)∧w.cell? ⟨b,off+k * 6+4,none⟩=some (.int .i64 (toP p.1.2).2)∧w.cell? ⟨b,off+k * 6+5,none⟩=some (.bool p.1.2.2.isNone)):=by
 obtain⟨A',n',c',hv,h1,h2,hl,hr⟩:=h
 injection hv with e1 e2 e3
 subst e1 e2 e3
 rw [spCells_len]at hl
 refine⟨by omega,h1,h2,fun hp=> ?_⟩
 obtain⟨b,off,hA,hF,hc⟩:=hr hp
 refine⟨b,off,hA,hF,fun k p hp=> ?_⟩
 have g:=fun j hj u hu=>hc _ u ((spCells_get hp j hj).trans hu)
 refine⟨?_,?_,?_,?_,?_,?_⟩
 ·exact g 0 (by decide) _ rfl
 ·have:=g 1 (by decide) _ rfl;rwa [←Nat.add_assoc]at this
 ·have:=g 2 (by decide) _ rfl;rwa [←Nat.add_assoc]at this
 ·have:=g 3 (by decide) _ rfl;rwa [←Nat.add_assoc]at this
 ·have:=g 4 (by decide) _ rfl;rwa [←Nat.add_assoc]at this
 ·have:=g 5 (by decide) _ rfl;rwa [←Nat.add_assoc]at this
set_option maxRecDepth 100000 in
set_option maxHeartbeats 2000000 in
theorem back_N {w:World} {R:Nat→Prop} {bx:Nat} {v:Value} {xs:List StV} (hb:Blk w bx 61 #[v]) (hr:Rd w R v 6 (spCells xs)) (hR:R bx) (hlt: ∀b,R b→b<w.heap.size) (n:Nat) (hn:1≤n):
  SeqN Fence.wide n Tryz.prog 54 #[.pointer (some ⟨bx,0,none⟩)] (fun p:Int×StV=> #[.int .i64 p.1,spV p.2]) R (fun ys=>ys=bwdF xs) (fun pre=>pre<+:bwdF xs) w:=by
 intro l J Jx W hW hY h0
 have b0:=hb.below hW (hlt _ hR)
 have r0:=Rd.below hr hW hlt
 obtain⟨A,m,c,rfl,-⟩:=id hr
 obtain⟨hm,hmc,hcm,-⟩:=rdZ_at hr
 unfold maxLen at hcm
 have q0:=(b0.cell 0).trans rfl
 clear hb hr hlt
 have Xhm:=hide hm;have XhY:=hide hY;have Xr0:=hide r0;have Xb0:=hide b0;have XhR:=hide hR;clear hm hY r0 b0 hR
 refine callsIn_of_wp Tryz.func54 rfl trivial ?_ rfl
 simp only [Tryz.ntmps54,List.size_toArray,List.length_cons,List.length_nil,Nat.reduceAdd,Nat.reduceSub,Array.replicate_succ,Array.replicate_zero,List.push_toArray,List.append_toArray,List.nil_append,List.cons_append]
 have hwr:IntKind.i64.wrap ((m:Int) - 1)=(m:Int) - 1:=by rw [IntKind.wrap_i64];omega
 gi_wp2_with fail
 gi_loopw [3] (fun iv wr=> ∃j:Nat,j≤m∧iv= .int .i64 ((j:Int) - 1)∧Blk wr bx 61 #[.slice A m c]∧Rd wr R (.slice A m c) 6 (spCells xs)∧J ((bwdF xs).take (m - j)) wr∧W.heap.size≤wr.heap.size) (fun iv _=>(intOf iv+1).toNat)
 case atStart=>exact⟨m,Nat.le_refl _,by first|rfl|(rw [hwr]),Xb0.out,Xr0.out,by rw [Nat.sub_self,List.take_zero];exact h0,Nat.le_refl _⟩
 case round=>
  clear Xb0 Xr0 h0 q0
  obtain⟨j,hj,rfl,kb,rd,hJ,hz⟩:=hrel
  have q0:=(kb.cell 0).trans rfl
  by_cases hlj:0<j
  ·obtain⟨i,rfl⟩: ∃i,j=i+1:=⟨j - 1,by omega⟩
   have e1:((i+1:Nat):Int) - 1=(i:Int):=by omega
   rw [e1]
   have hi0:(0:Int)≤(i:Int):=by omega
   have hi1:(i:Int)<(m:Int):=by omega
   have hi2:i<m:=by omega
   have hw1:IntKind.i64.wrap ((i:Int) - 1)=(i:Int) - 1:=by rw [IntKind.wrap_i64];omega
   obtain⟨-,-,-,hcell⟩:=rdZ_at rd
   obtain⟨b,off,rfl,hb,hcc⟩:=hcell (by omega)
   obtain⟨x,hx⟩: ∃x,xs[i]? =some x:=⟨_,List.getElem?_eq_getElem (by rw [←Xhm.out];exact hi2)⟩
   obtain⟨y0,y1,y2,y3,y4,y5⟩:=hcc i x hx
   have hg:=bwdF_get hx
   rw [←Xhm.out]at hg
   have htk:(bwdF xs).take (m - i)=(bwdF xs).take (m - (i+1))++[((i:Int),x)]:=by
    rw [show m - i=m - (i+1)+1 by omega,List.take_add_one,show m - (i+1)=m - 1 - i by omega,hg];rfl
   have hpre:(bwdF xs).take (m - (i+1))++[((i:Int),x)]<+:bwdF xs:=by rw [←htk];exact List.take_prefix _ _
   obtain⟨fn,tmps,assign,body,hy,hR1⟩:=XhY.out _ ((i:Int),x) _ hJ hpre
   unfold spV at hy
   dsimp only at hy
   clear hcc hcell hg hx hJ
   have XhR1:=hide hR1;have Xkb:=hide kb;have Xrd:=hide rd;have Xhtk:=hide htk;have Xhpre:=hide hpre;clear hR1 kb rd htk hpre
   gi_wp2_with fail
   refine XhR1.out.mono ?_
   rintro e W3 (⟨rfl,hJ3,t3⟩|⟨rfl,hJx3,-⟩)
   ·have kb3:=Xkb.out.touch t3 (fun c=>c XhR.out)
    have rd3:=Rd.touch Xrd.out t3 (fun b hb c=>c hb)
    have hz3:=Nat.le_trans hz t3.size
    clear XhR1 t3
    have Xkb3:=hide kb3;have Xrd3:=hide rd3;have XhJ3:=hide hJ3;clear kb3 rd3 hJ3
    gi_wp2_with fail
    go_roundw
    case rel=>exact⟨i,by omega,by first|rfl|(rw [hw1]),Xkb3.out,Xrd3.out,by rw [Xhtk.out];exact XhJ3.out,hz3⟩
    case measure=>simp [intOf]
   ·clear XhR1
    have XhJx3:=hide hJx3;clear hJx3
    gi_wp2_with fail
    refine bodyPost_ret (results_none rfl _ _ _) rfl ?_
    exact⟨⟨_,rfl⟩,.inr ⟨_,Xhpre.out,XhJx3.out⟩⟩
  ·obtain rfl:j=0:=by omega
   have hall:(bwdF xs).take (m - 0)=bwdF xs:=List.take_of_length_le (by have:=bwdF_len xs;have:=Xhm.out;omega)
   rw [hall]at hJ
   clear kb rd hall
   have XhJ:=hide hJ;clear hJ
   gi_wp2_with fail
   go_end0
   exact⟨⟨_,rfl⟩,.inl ⟨_,rfl,XhJ.out⟩⟩
end Go.Proofs.YtalbfonkhpeajaaGreat

/- The least end in memory: places as keys of a map, in a queue; steps in a row; a map from places to words. -/
import Derived.Test.YtalbfonkhpeajaaGreatHLeastPlain
import Derived.Test.YtalbfonkhpeajaaGreatHItem8
import Derived.Test.YtalbfonkhpeajaaGreatHAutoPlain
import Derived.Test.YtalbfonkhpeajaaGreatHItemPlain
import Derived.Test.YtalbfonkhpeajaaGreatHG7
import Derived.Test.YtalbfonkhpeajaaGreatHG4
import Derived.Test.YtalbfonkhpeajaaGreatHRegion
namespace Go.Proofs.YtalbfonkhpeajaaGreat
set_option linter.unusedVariables false
section
set_option linter.unusedSimpArgs false
open Go.RowKit Go.Maps
def WfP (p:Pl):Prop:=p.1≤100000000∧p.2≤100000000
abbrev PlV (p:Pl):Value:= .agg #[.int .i64 (p.1:Int),.int .i64 (p.2:Int)]
theorem Tryz.placeRow:(60:TypeId)<Tryz.prog.types.size:=of_decide_eq_true (by kernel_rfl)
theorem Tryz.placeLaw:WideMaps.KeyLaw Tryz.prog 60:=deep_law_laid Tryz.laidOut (m:=3) (by omega) Tryz.placeRow (by kernel_rfl) (by kernel_rfl)
theorem Tryz.placeKeyed:Keyed Tryz.prog 60:=Keyed.of_law Tryz.placeLaw
theorem Tryz.placeKeyType:Tryz.prog.keyType 60=true:=by kernel_rfl
theorem Tryz.placeCells:Tryz.prog.cellsOf 60=2:=by kernel_rfl
theorem key_place {x:Pl} (hx:WfP x): ∃kl,keyOf Tryz.prog 60 (PlV x)=some kl:=by
 have h1:(Lit.int .i64 (x.1:Int)).wf=true:=wf_i64_mk (by have:=hx.1;omega)
 have h2:(Lit.int .i64 (x.2:Int)).wf=true:=wf_i64_mk (by have:=hx.2;omega)
 have hpos:0<Tryz.prog.types.size:=Nat.lt_of_le_of_lt (Nat.zero_le _) Tryz.placeRow
 obtain⟨d,hd⟩:=Nat.exists_eq_succ_of_ne_zero (Nat.ne_of_gt hpos)
 have hu:=Tryz.underlying60
 have hi:=Tryz.underlying3
 have hc:=Tryz.placeCells
 have hci:=Tryz.intCells
 have hk: ∀n:Int,(Lit.int .i64 n).wf=true→Tryz.prog.keyLits (d+1) 3 [.int .i64 n]=some [.int .i64 n]:=fun n hn=>by
  unfold Program.keyLits
  simp only [hi]
  simp [hn]
 have hf:(PlV x).formed Tryz.prog 60=true:=by simp [Value.formed,hu,hc]
 refine Option.isSome_iff_exists.1 ?_
 unfold keyOf
 simp only [hu]
 rw [Tryz.placeKeyType,hf,hd]
 unfold Program.keyLits
 simp only [hu]
 simp [Value.cells,hc,hci,hk _ h1,hk _ h2]
noncomputable def plkey (x:Pl):Lit:=(keyOf Tryz.prog 60 (PlV x)).getD (.bool false)
theorem plkey_some {x:Pl} (hx:WfP x):keyOf Tryz.prog 60 (PlV x)=some (plkey x):=by
 obtain⟨kl,h⟩:=key_place hx
 unfold plkey
 rw [h];rfl
attribute [irreducible] plkey
theorem plkey_inj {x y:Pl} (hx:WfP x) (hy:WfP y) (h:plkey x=plkey y):x=y:=by
 have e:=Tryz.placeKeyed.inj (plkey_some hx) (by rw [h];exact plkey_some hy)
 injection e with e
 have e1:=congrArg (fun a:Array Value=>a[0]?) e
 have e2:=congrArg (fun a:Array Value=>a[1]?) e
 simp at e1 e2
 exact Prod.ext (by omega) (by omega)
structure SetP (D:DataW Unit) (o:List Pl):Prop where
 m:Maps.IsMap D
 at_: ∀x,WfP x→D.atKey (plkey x) (.lit (.bool false))= .lit (.bool (decide (x∈o)))
theorem SetP.empty:SetP (.map []) []:=⟨⟨[],rfl⟩,fun x _=>rfl⟩
theorem SetP.put {D:DataW Unit} {o o':List Pl} (h:SetP D o) {x:Pl} (hx:WfP x) (ho: ∀y,y∈o'↔y∈o∨y=x):SetP (D.put (plkey x) (.lit (.bool true))) o':=by
 refine⟨h.m.put _ _,fun y hy=> ?_⟩
 by_cases e:y=x
 ·subst e
  rw [Maps.atKey_put_same h.m (Tryz.placeKeyed.key (plkey_some hx)),decide_eq_true ((ho y).2 (.inr rfl))]
 ·rw [Maps.atKey_put_other (fun c=>e (plkey_inj hy hx c)),h.at_ y hy]
  have:(y∈o')↔(y∈o):=by rw [ho y];simp [e]
  simp only [this]
set_option maxRecDepth 100000 in
theorem SetP.look {w:World} {b n:Nat} {D:DataW Unit} {o:List Pl} (h:SetP D o) (hm:w.ownsMap Tryz.prog 60 (plainElem Tryz.prog 4) b n D) {x:Pl} (hx:WfP x):
  (Instr.lookup 118 (.map (some b)) (PlV x) false).run Tryz.prog w= .ok (.bool (decide (x∈o))) w:=by
 have hz:(zeroValue 4).run Tryz.prog w= .ok (.bool false) w:=Tryz.zeroValue4 w
 obtain⟨v,ps,hrun,hv⟩:=hm.lookup Tryz.placeKeyed Tryz.underlying118 hz (plainElem_bool Tryz.underlying4 false) (plkey_some hx)
 rw [h.at_ x hx]at hv
 generalize decide (x∈o)=dd at *
 have hv2:v= .bool dd:=by
  unfold plainElem at hv
  rw [Tryz.underlying4]at hv
  cases v with
  |bool b=>simp only [Option.some.injEq,Prod.mk.injEq]at hv;have:=hv.1;injection this with this;injection this with this;rw [this]
  |_=>simp at hv
 subst hv2
 exact hrun
def heldV (v:Value):Option (DataW Value×List MemPlace):=some (.held v,[])
def IntB (w:World) (b:Nat):Prop:= ∃cs,Blk w b 3 cs
theorem IntB.lt {w:World} {b:Nat} (h:IntB w b):b<w.heap.size:=let⟨_,k⟩:=h;k.lt
theorem IntB.ne {w:World} {b g:Nat} {t:TypeId} {cs:Array Value} (h:IntB w b) (k:Blk w g t cs) (ht:t≠3):b≠g:=let⟨_,q⟩:=h;fun e=>by subst e;exact q.ne k (fun e=>ht e.symm) rfl
theorem IntB.of_own {w:World} {base n:Nat} {v:Value} {xs:List Value} (h:w.ownsRow base 3 1 v n xs):Rd w (IntB w) v 1 xs:=(Rd.of_own h).mono fun b e=>by
 rcases h.2 with⟨rfl,-⟩|⟨g,cap,cur,rfl,hb,hh,-⟩
 ·cases e
 ·simp only [Value.ownBlock,Option.some.injEq]at e
  subst e
  exact⟨cur,hh⟩
theorem RdI.intB {w w':World} {S:Nat→Prop} {v:Value} {xs:List Int} (h:RdI w (IntB w) v xs) (t:Touch S w w') (hS: ∀b,IntB w b→ ¬S b):RdI w' (IntB w') v xs:=
 Rd.mono (Rd.touch h t hS) fun b hb=>let⟨cs,k⟩:=hb;⟨cs,k.touch t (hS b hb)⟩
theorem RdI.intBelow {w w':World} {v:Value} {xs:List Int} (h:RdI w (IntB w) v xs) (b:Below w.heap.size w w'):RdI w' (IntB w') v xs:=RdI.intB h (Touch.of_size b (fun _=>False)) (fun _ _ e=>e)
structure BestMap (w:World) (D:DataW Value) (B:Pl→Option Wd):Prop where
 m:Maps.IsMap D
 no: ∀p,WfP p→B p=none→Maps.has D (plkey p)=false∧ ∀z,D.atKey (plkey p) z=z
 yes: ∀p v,WfP p→B p=some v→Maps.has D (plkey p)=true∧ ∃A n c,(∀z,D.atKey (plkey p) z= .held (.slice A n c))∧RdI w (IntB w) (.slice A n c) v
 cnt: ∃ks:List Pl,ks.Nodup∧Maps.size D=ks.length∧ ∀p∈ks,(B p).isSome=true
theorem BestMap.empty (w:World):BestMap w (.map []) (fun _=>none):=⟨⟨[],rfl⟩,fun p _ _=>⟨rfl,fun z=>rfl⟩,fun p v _ h=>(by cases h),⟨[],List.nodup_nil,rfl,fun p h=>(by cases h)⟩⟩
theorem BestMap.touch {w w':World} {S:Nat→Prop} {D:DataW Value} {B:Pl→Option Wd} (h:BestMap w D B) (t:Touch S w w') (hS: ∀b,IntB w b→ ¬S b):BestMap w' D B:=
 ⟨h.m,h.no,fun p v hp hv=>let⟨a,A,n,c,b,d⟩:=h.yes p v hp hv;⟨a,A,n,c,b,RdI.intB d t hS⟩,h.cnt⟩
theorem BestMap.put {w:World} {D:DataW Value} {B:Pl→Option Wd} (h:BestMap w D B) (hT:Maps.Tidy D) {p:Pl} (hp:WfP p) {A:Option Addr} {n c:Nat} {v:Wd} (hv:RdI w (IntB w) (.slice A n c) v):BestMap w (D.put (plkey p) (.held (.slice A n c))) (putF B p v):=by
 have hk:=Tryz.placeKeyed.key (plkey_some hp)
 refine⟨h.m.put _ _,fun q hq hn=> ?_,fun q u hq hu=> ?_,?_⟩
 ·unfold putF at hn
  by_cases e:q=p
  ·rw [if_pos e]at hn;cases hn
  ·rw [if_neg e]at hn
   obtain⟨a,b⟩:=h.no q hq hn
   exact⟨by rw [Maps.has_put_other (fun c=>e (plkey_inj hq hp c))];exact a,fun z=>by rw [Maps.atKey_put_other (fun c=>e (plkey_inj hq hp c))];exact b z⟩
 ·unfold putF at hu
  by_cases e:q=p
  ·subst e
   rw [if_pos rfl]at hu
   injection hu with hu
   subst hu
   exact⟨Maps.has_put_same h.m hk _,A,n,c,fun z=>Maps.atKey_put_same h.m hk _ z,hv⟩
  ·rw [if_neg e]at hu
   obtain⟨a,A',n',c',b,d⟩:=h.yes q u hq hu
   exact⟨by rw [Maps.has_put_other (fun c=>e (plkey_inj hq hp c))];exact a,A',n',c',fun z=>by rw [Maps.atKey_put_other (fun c=>e (plkey_inj hq hp c))];exact b z,d⟩
 ·obtain⟨ks,k1,k2,k3⟩:=h.cnt
  have up: ∀q∈ks,(putF B p v q).isSome=true:=fun q hq=>by
   unfold putF
   split
   ·rfl
   ·exact k3 q hq
  have self:(putF B p v p).isSome=true:=by unfold putF;rw [if_pos rfl];rfl
  rw [Maps.size_put hT]
  cases hB:B p with
  |none=>
   rw [(h.no p hp hB).1]
   refine⟨p::ks,List.nodup_cons.2 ⟨fun c=> ?_,k1⟩,by rw [k2];simp,fun q hq=> ?_⟩
   ·have:=k3 p c;rw [hB]at this;cases this
   ·rcases List.mem_cons.1 hq with rfl|hq
    ·exact self
    ·exact up q hq
  |some u=>
   rw [(h.yes p u hp hB).1]
   exact⟨ks,k1,k2,up⟩
set_option maxRecDepth 100000 in
theorem BestMap.look {w:World} {b n:Nat} {D:DataW Value} {B:Pl→Option Wd} (h:BestMap w D B) (hm:w.ownsMap Tryz.prog 60 heldV b n D) {p:Pl} (hp:WfP p):
  ∃A n' c,(Instr.lookup 64 (.map (some b)) (PlV p) true).run Tryz.prog w= .ok (.tuple #[.slice A n' c,.bool (B p).isSome]) w∧RdI w (IntB w) (.slice A n' c) ((B p).getD []):=by
 have hz:(zeroValue 26).run Tryz.prog w= .ok (.slice none 0 0) w:=Tryz.zeroValue26 w
 obtain⟨v,ps,hrun,hv⟩:=hm.look_ok Tryz.placeKeyed Tryz.underlying64 hz (zd:= .held (.slice none 0 0)) (zp:=[]) rfl (plkey_some hp)
 unfold heldV at hv
 injection hv with hv
 injection hv with hv _
 cases hB:B p with
 |none=>
  obtain⟨a,c⟩:=h.no p hp hB
  rw [c]at hv
  injection hv with hv
  subst hv
  rw [a]at hrun
  exact⟨none,0,0,hrun,Rd.nil _ _ _⟩
 |some u=>
  obtain⟨a,A,n',c,e,r⟩:=h.yes p u hp hB
  rw [e]at hv
  injection hv with hv
  subst hv
  rw [a]at hrun
  exact⟨A,n',c,hrun,r⟩
theorem ownsMap_exact {H:Type} {P:Program} {k:TypeId} {R:Value→Option (DataW H×List MemPlace)} {w:World} {b n:Nat} {D:DataW H} (h:w.ownsMap P k R b n D):w.ownsMap P k R b (Maps.size D) D:=by
 obtain⟨es,clock,hb,F,hs,rfl⟩:=h
 exact⟨es,clock,hb,F,by simp [Maps.size,length_sorted],rfl⟩
structure BestIs (w:World) (g:List Pl) (bb mb:Nat) (B:Pl→Option Wd):Prop where
 blk:Blk w bb 66 #[.map (some mb),.func (.func 21) #[] #[]]
 map: ∃D:DataW Value,w.ownsMap Tryz.prog 60 heldV mb (Maps.size D) D∧BestMap w D B
 dom: ∀q,(B q).isSome=true→q∈g
theorem BestIs.lt {w:World} {g:List Pl} {bb mb:Nat} {B:Pl→Option Wd} (h:BestIs w g bb mb B):bb<w.heap.size∧mb<w.heap.size∧bb≠mb:=by
 obtain⟨D,m,-⟩:=h.map
 exact⟨h.blk.lt,m.lt,fun e=>h.blk.ne_map m e.symm⟩
theorem BestIs.nint {w:World} {g:List Pl} {bb mb:Nat} {B:Pl→Option Wd} (h:BestIs w g bb mb B): ∀b,IntB w b→ ¬b=mb:=fun b ⟨cs,k⟩ e=>by
 obtain⟨D,m,-⟩:=h.map
 exact k.ne_map m e.symm
theorem BestIs.touch {w w':World} {S:Nat→Prop} {g:List Pl} {bb mb:Nat} {B:Pl→Option Wd} (h:BestIs w g bb mb B) (t:Touch S w w') (hS: ∀b,IntB w b→ ¬S b) (hb: ¬S bb) (hm: ¬S mb):BestIs w' g bb mb B:=by
 obtain⟨D,m1,m2⟩:=h.map
 exact⟨h.blk.touch t hb,⟨D,t.ownsMap m1 hm,m2.touch t hS⟩,h.dom⟩
theorem BestIs.below {w w':World} {g:List Pl} {bb mb:Nat} {B:Pl→Option Wd} (h:BestIs w g bb mb B) (b:Below w.heap.size w w'):BestIs w' g bb mb B:=h.touch (Touch.of_size b (fun _=>False)) (fun _ _ e=>e) (fun e=>e) (fun e=>e)
theorem BestIs.small {w:World} {g:List Pl} {bb mb:Nat} {B:Pl→Option Wd} {D:DataW Value} (h:BestIs w g bb mb B) (m:BestMap w D B):Maps.size D≤g.length:=by
 obtain⟨ks,k1,k2,k3⟩:=m.cnt
 rw [k2]
 exact sub_len k1 fun q hq=>h.dom q (k3 q hq)
end
section
set_option linter.unusedSimpArgs false
open Go.RowKit Go.Maps
theorem Tryz.infoPlace:(Tryz.prog.info? 60).map (fun i=>(i.zero,i.size,i.bytes))=some (some (.agg #[.int .i64 0,.int .i64 0]),2,16):=by kernel_rfl
theorem pl_len: ∀l:List Pl,(l.flatMap fun y:Pl=>[Value.int .i64 y.1,Value.int .i64 y.2]).length=l.length * 2
 |[]=>rfl
 |y::r=>by rw [List.flatMap_cons,List.length_append,pl_len r,List.length_cons];simp;omega
structure QueP (w:World) (lo g off n c:Nat) (l:List Pl):Prop where
 len:n=l.length
 cap:n≤c∧c≤maxLen
 low:lo≤g∧g<w.heap.size
 at_: ∀j (x:Pl),l[j]? =some x→w.cell? ⟨g,off+j * 2,none⟩=some (.int .i64 x.1)∧w.cell? ⟨g,off+j * 2+1,none⟩=some (.int .i64 x.2)
 room: ∀j,j<c * 2→(w.cell? ⟨g,off+j,none⟩).isSome=true∧w.frozen? ⟨g,off+j,none⟩=false
 ty: ∃cs,Blk w g 60 cs
variable {w w' : World} {lo g off n c : Nat} {l : List Pl}
theorem QueP.touch {S:Nat→Prop} (h:QueP w lo g off n c l) (ht:Touch S w w') (hg: ¬S g):QueP w' lo g off n c l:=by
 have e:w'.heap[g]? =w.heap[g]? :=ht.block g h.low.2 hg
 refine⟨h.len,h.cap,⟨h.low.1,Nat.lt_of_lt_of_le h.low.2 ht.size⟩,fun j x hx=> ?_,fun j hj=> ?_,let⟨cs,k⟩:=h.ty;⟨cs,k.touch ht hg⟩⟩
 ·exact⟨(World.cell?_of_block (a:=⟨g,off+j * 2,none⟩) e).trans (h.at_ j x hx).1,(World.cell?_of_block (a:=⟨g,off+j * 2+1,none⟩) e).trans (h.at_ j x hx).2⟩
 have:=h.room j hj
 rw [World.cell?_of_block (a:=⟨g,off+j,none⟩) e,World.frozen?_of_block (a:=⟨g,off+j,none⟩) e]
 exact this
theorem QueP.below (h:QueP w lo g off n c l) (hb:Below w.heap.size w w'):QueP w' lo g off n c l:=h.touch (Touch.of_size hb (fun _=>False)) (fun e=>e)
theorem QueP.one (w:World) (hlo:lo≤w.heap.size) (s:Pl):QueP (w.alloc (.cells #[.int .i64 s.1,.int .i64 s.2] 60)) lo w.heap.size 0 1 1 [s]:=by
 have k:Blk (w.alloc (.cells #[.int .i64 s.1,.int .i64 s.2] 60)) w.heap.size 60 #[.int .i64 s.1,.int .i64 s.2]:=Blk.new _ _ _
 refine⟨rfl,⟨Nat.le_refl _,by decide⟩,⟨hlo,by simp⟩,fun j x hx=> ?_,fun j hj=> ?_,⟨_,k⟩⟩
 ·match j,hx with
  |0,hx=>simp at hx;subst hx;exact⟨(k.cell 0).trans rfl,(k.cell 1).trans rfl⟩
 ·have:j=0∨j=1:=by omega
  rcases this with rfl|rfl
  ·exact⟨by rw [Nat.zero_add,k.cell 0];rfl,k.frozen _⟩
  ·exact⟨by rw [Nat.zero_add,k.cell 1];rfl,k.frozen _⟩
theorem QueP.pop {x:Pl} {r:List Pl} (h:QueP w lo g off n c (x::r)):QueP w lo g (if c=1 then off else off+2) (n - 1) (c - 1) r:=by
 have hl:=h.len
 have hc:=h.cap
 simp only [List.length_cons]at hl
 refine⟨by omega,⟨by omega,by omega⟩,h.low,fun j y hy=> ?_,fun j hj=> ?_,h.ty⟩
 ·have hj:=(List.getElem?_eq_some_iff.1 hy).1
  rw [if_neg (by omega),show off+2+j * 2=off+(j+1) * 2 by omega]
  exact h.at_ (j+1) y (by simpa using hy)
 ·rw [if_neg (by omega),show off+2+j=off+(j+2) by omega]
  exact h.room (j+2) (by omega)
theorem QueP.push (h:QueP w lo g off n c l) {ad:Nat} {x:Pl} (hx:w.cell? ⟨ad,0,none⟩=some (.int .i64 x.1)∧w.cell? ⟨ad,1,none⟩=some (.int .i64 x.2)) (hn:n≤1000000) (hlo:lo≤w.heap.size) (ty:TypeId):
  ∃g' off' c' w',(Builtin.append_ #[119,119] ty #[.slice (some ⟨g,off,none⟩) n c,.slice (some ⟨ad,0,none⟩) 1 1]).run Tryz.prog w= .ok (.slice (some ⟨g',off',none⟩) (n+1) c') w'∧QueP w' lo g' off' (n+1) c' (l++[x])∧Touch (fun b=>b=g) w w'∧(g'=g∨w.heap.size≤g'):=by
 obtain⟨i,hi,hz,hsize,hby⟩:=info_parts Tryz.infoPlace
 have hnews: ∀j u,([Value.int .i64 x.1,Value.int .i64 x.2]:List Value)[j]? =some u→w.cell? ((⟨ad,0,none⟩:Addr).add j)=some u:=fun j u hu=>by
  match j,hu with
  |0,hu=>simp at hu;subst hu;rw [add_none];exact hx.1
  |1,hu=>simp at hu;subst hu;rw [add_none];exact hx.2
 have hln:=h.len
 by_cases hroom:n+1≤c
 ·have hf:=run_firstCells_some (P:=Tryz.prog) w i.size 1 ⟨ad,0,none⟩ 1 1 [.int .i64 x.1,.int .i64 x.2] (by rw [hsize];rfl) hnews
  have j0: ∀j,j<[Value.int .i64 x.1,Value.int .i64 x.2].length→(w.cell? ⟨g,off+n * 2+0+j,none⟩).isSome=true∧w.frozen? ⟨g,off+n * 2+0+j,none⟩=false:=fun j hj=>by
   have hj:j<2:=by simpa using hj
   have:=h.room (n * 2+j) (by omega)
   rw [show off+n * 2+0+j=off+(n * 2+j) by omega]
   exact this
  have hst:=run_storeCells_cells (P:=Tryz.prog) g (off+n * 2) [.int .i64 x.1,.int .i64 x.2] 0 w (fun j hj=>(j0 j hj).1) (fun j hj=>(j0 j hj).2) (by simp [Value.oneCell'])
  have t1:Touch (fun b=>b=g) w (w.setCell ⟨g,off+n * 2,none⟩ (.int .i64 x.1)):=(Touch.refl (fun b=>b=g) w).setCell (p:=⟨g,off+n * 2,none⟩) (fun _=>rfl) _
  have tt:Touch (fun b=>b=g) w ((w.setCell ⟨g,off+n * 2,none⟩ (.int .i64 x.1)).setCell ⟨g,off+n * 2+1,none⟩ (.int .i64 x.2)):=t1.setCell (p:=⟨g,off+n * 2+1,none⟩) (fun _=>rfl) _
  have r0:=(h.room (n * 2) (by omega)).1
  have r1:=(h.room (n * 2+1) (by omega)).1
  rw [←Nat.add_assoc]at r1
  have c0:((w.setCell ⟨g,off+n * 2,none⟩ (.int .i64 x.1)).setCell ⟨g,off+n * 2+1,none⟩ (.int .i64 x.2)).cell? ⟨g,off+n * 2,none⟩=some (.int .i64 x.1):=by
   rw [World.cell?_setCell_other _ _ _ _ (fun ea=>by injection ea with _ ea;omega)]
   exact World.cell?_setCell_same' _ _ _ r0
  have c1:((w.setCell ⟨g,off+n * 2,none⟩ (.int .i64 x.1)).setCell ⟨g,off+n * 2+1,none⟩ (.int .i64 x.2)).cell? ⟨g,off+n * 2+1,none⟩=some (.int .i64 x.2):=by
   refine World.cell?_setCell_same' _ _ _ ?_
   rw [World.cell?_setCell_other _ _ _ _ (fun ea=>by injection ea with _ ea;omega)]
   exact r1
  have far: ∀k,k≠off+n * 2→k≠off+n * 2+1→((w.setCell ⟨g,off+n * 2,none⟩ (.int .i64 x.1)).setCell ⟨g,off+n * 2+1,none⟩ (.int .i64 x.2)).cell? ⟨g,k,none⟩=w.cell? ⟨g,k,none⟩:=fun k h1 h2=>by
   rw [World.cell?_setCell_other _ _ _ _ (fun ea=>by injection ea with _ ea;omega),World.cell?_setCell_other _ _ _ _ (fun ea=>by injection ea with _ ea;omega)]
  refine⟨g,off,c,(w.setCell ⟨g,off+n * 2,none⟩ (.int .i64 x.1)).setCell ⟨g,off+n * 2+1,none⟩ (.int .i64 x.2),?_,⟨?_,?_,⟨h.low.1,by simpa [World.setCell]using h.low.2⟩,fun j y hy=> ?_,fun j hj=> ?_,let⟨cs,k⟩:=h.ty;⟨_,(k.put _ _).put _ _⟩⟩,tt,.inl rfl⟩
  ·have hadd:(⟨g,off,none⟩:Addr).add (n * 2)=⟨g,off+n * 2,none⟩:=add_none _ _ _
   rw [hsize]at hf
   simp [Builtin.append_,run_underlying Tryz.underlying119,sizeOf,typeInfo,hi,hsize,Builtin.lenOf,hroom,hf,hadd,hst,World.setCells,Tryz.underlying60]
  ·rw [List.length_append,←hln];rfl
  ·exact⟨hroom,h.cap.2⟩
  ·by_cases e:j=n
   ·subst e
    rw [hln,List.getElem?_concat_length]at hy
    have hy:=Option.some.inj hy
    rw [←hy]
    exact⟨c0,c1⟩
   ·have hjn:j<n:=by have:=(List.getElem?_eq_some_iff.1 hy).1;simp at this;omega
    rw [List.getElem?_append_left (by omega)]at hy
    rw [far _ (by omega) (by omega),far _ (by omega) (by omega)]
    exact h.at_ j y hy
  ·obtain⟨s1,s2⟩:=h.room j hj
   rw [World.frozen?_setCell,World.frozen?_setCell]
   refine⟨?_,s2⟩
   by_cases e:off+j=off+n * 2
   ·rw [e,c0];rfl
   ·by_cases e2:off+j=off+n * 2+1
    ·rw [e2,c1];rfl
    ·rw [far _ e e2];exact s1
 ·have hr:=run_append_grow (P:=Tryz.prog) w 119 ty 60 i (.agg #[.int .i64 0,.int .i64 0]) Tryz.underlying119 hi hz ⟨g,off,none⟩ n c (l.flatMap fun y=>[Value.int .i64 y.1,Value.int .i64 y.2]) (by rw [hsize,pl_len];omega) (fun j u hu=>by
   rw [add_none]
   have key: ∀(l:List Pl) (j:Nat) u,(l.flatMap fun y:Pl=>[Value.int .i64 y.1,Value.int .i64 y.2])[j]? =some u→ ∃k y,l[k]? =some y∧((j=k * 2∧u= .int .i64 y.1)∨(j=k * 2+1∧u= .int .i64 y.2)):=fun l=>by
    induction l with
    |nil=>intro j u h;simp at h
    |cons y r ih=>
     intro j u h
     match j,h with
     |0,h=>simp at h;exact⟨0,y,rfl,.inl ⟨rfl,h.symm⟩⟩
     |1,h=>simp at h;exact⟨0,y,rfl,.inr ⟨rfl,h.symm⟩⟩
     |j+2,h=>
      obtain⟨k,z,h1,h2⟩:=ih j u (by simpa using h)
      refine⟨k+1,z,by simpa using h1,?_⟩
      rcases h2 with⟨e1,e2⟩|⟨e1,e2⟩
      ·exact .inl ⟨by omega,e2⟩
      ·exact .inr ⟨by omega,e2⟩
   obtain⟨k,y,hy,⟨e1,e2⟩|⟨e1,e2⟩⟩:=key l j u hu
   ·rw [e1,e2];exact(h.at_ k y hy).1
   ·rw [e1,e2,←Nat.add_assoc];exact(h.at_ k y hy).2) ⟨ad,0,none⟩ 1 1 [.int .i64 x.1,.int .i64 x.2] (by rw [hsize];rfl) hnews (by omega) (by omega) (growslice_fits (by omega) (by rw [hby];omega))
  have hge:=grownCap_ge w (n+1) c 60
  have hcm:=grownCap_le_maxLen w (n+1) c 60 (by unfold maxLen;omega)
  generalize grownCap w (n+1) c 60=cc at *
  obtain⟨cs,hcs⟩: ∃cs,cs=(l.flatMap fun y=>[Value.int .i64 y.1,Value.int .i64 y.2]).toArray++[Value.int .i64 x.1,Value.int .i64 x.2].toArray++Builtin.zeroCells (Value.cells (.agg #[.int .i64 0,.int .i64 0])) (cc - (n+1)):=⟨_,rfl⟩
  rw [←hcs]at hr
  have k:Blk (w.drew.alloc (.cells cs 60)) w.heap.size 60 cs:=Blk.new w.drew _ _
  have hl2:=pl_len l
  have hsz:cs.size=cc * 2:=by rw [hcs,Array.size_append,Array.size_append,List.size_toArray,hl2,size_zeroCells];simp [Value.cells];omega
  refine⟨w.heap.size,0,cc,_,hr,⟨by rw [List.length_append,←hln];rfl,⟨hge,hcm⟩,⟨hlo,by simp⟩,fun j y hy=> ?_,fun j hj=>⟨?_,?_⟩,⟨_,k⟩⟩,((Touch.refl _ w).drew).alloc _,.inr (Nat.le_refl _)⟩
  ·rw [Nat.zero_add,k.cell,k.cell]
   have e:cs=((l++[x]).flatMap fun y=>[Value.int .i64 y.1,Value.int .i64 y.2]).toArray++Builtin.zeroCells (Value.cells (.agg #[.int .i64 0,.int .i64 0])) (cc - (n+1)):=by rw [hcs];simp
   have key: ∀(l:List Pl) (j:Nat) (y:Pl),l[j]? =some y→(l.flatMap fun y:Pl=>[Value.int .i64 y.1,Value.int .i64 y.2])[j * 2]? =some (.int .i64 y.1)∧(l.flatMap fun y:Pl=>[Value.int .i64 y.1,Value.int .i64 y.2])[j * 2+1]? =some (.int .i64 y.2):=fun l=>by
    induction l with
    |nil=>intro j y h;simp at h
    |cons z r ih=>
     intro j y h
     match j,h with
     |0,h=>simp at h;subst h;exact⟨rfl,rfl⟩
     |j+1,h=>
      obtain⟨h1,h2⟩:=ih j y (by simpa using h)
      rw [show(j+1) * 2=j * 2+1+1 by omega]
      exact⟨by simpa using h1,by simpa using h2⟩
   obtain⟨h1,h2⟩:=key _ j y hy
   have b1:=(List.getElem?_eq_some_iff.1 h1).1
   have b2:=(List.getElem?_eq_some_iff.1 h2).1
   rw [e,Array.getElem?_append_left (by simpa using b1),Array.getElem?_append_left (by simpa using b2)]
   simp only [List.getElem?_toArray]
   exact⟨h1,h2⟩
  ·rw [Nat.zero_add,k.cell,Array.getElem?_eq_getElem (by omega)];rfl
  ·exact k.frozen _
theorem wp_pushP {ops:Array Oper} {rest:List Oper} {o:Oper} {a:Act} {Q:Exit→Act→World→Prop} (hgd:o.guard=none) (s x:Operand)
  (ho:o.op= .call {callee:= .builtin .append,args:= #[s,x],argTypes:= #[119,119]}) (h:QueP w lo g off n c l) (hs:a.eval s= .slice (some ⟨g,off,none⟩) n c) {ad:Nat} {y:Pl} (hx:a.eval x= .slice (some ⟨ad,0,none⟩) 1 1) (hc:w.cell? ⟨ad,0,none⟩=some (.int .i64 y.1)∧w.cell? ⟨ad,1,none⟩=some (.int .i64 y.2)) (hn:n≤1000000) (hlo:lo≤w.heap.size)
  (hk: ∀g' off' c' w',QueP w' lo g' off' (n+1) c' (l++[y])→Touch (fun b=>b=g) w w'→(g'=g∨w.heap.size≤g')→wpList Tryz.prog ops Q rest (a.put o.dst (.slice (some ⟨g',off',none⟩) (n+1) c')) w'):wpList Tryz.prog ops Q (o::rest) a w:=by
 refine wpList_plain hgd fun _ hK=> ?_
 obtain⟨g',off',c',w',hrun,h2,h3,h4⟩:=h.push hc hn hlo o.type
 unfold Oper.wp execOp
 simp only [ho,resolve,invoke,builtin,Sem.run_bind,Sem.run_pure,Result.andThen_ok,List.map_toArray,List.map_cons,List.map_nil,hs,hx,hrun]
 exact hK _ _ (hk g' off' c' w' h2 h3 h4)
end
section
open Go.RowKit
abbrev PStp:=Pl×StpF
def toP (x:StpF):Pl:=x.2.getD (0,0)
def spC (p:PStp×Value):List Value:=[.int .i64 p.1.1.1,.int .i64 p.1.1.2,p.2,.int .i64 (toP p.1.2).1,.int .i64 (toP p.1.2).2,.bool p.1.2.2.isNone]
def spCells (Z:List (PStp×Value)):List Value:=Z.flatMap spC
theorem spCells_len: ∀Z:List (PStp×Value),(spCells Z).length=Z.length * 6
 |[]=>rfl
 |z::Z=>by
  have:=spCells_len Z
  unfold spCells at this⊢
  rw [List.flatMap_cons,List.length_append,this,List.length_cons]
  simp [spC];omega
theorem spCells_app (Z Z':List (PStp×Value)):spCells (Z++Z')=spCells Z++spCells Z':=by simp [spCells]
theorem spCells_get: ∀{Z:List (PStp×Value)} {i:Nat} {p:PStp×Value},Z[i]? =some p→ ∀j,j<6→(spCells Z)[i * 6+j]? =(spC p)[j]?
 |[],i,p,h,j,hj=>by simp at h
 |z::Z,0,p,h,j,hj=>by
  simp at h;subst h
  show(List.flatMap spC (z::Z))[0 * 6+j]? =_
  rw [List.flatMap_cons,List.getElem?_append_left (by simp [spC];omega),Nat.zero_mul,Nat.zero_add]
 |z::Z,i+1,p,h,j,hj=>by
  have ih:=spCells_get (Z:=Z) (i:=i) (p:=p) (by simpa using h) j hj
  show(List.flatMap spC (z::Z))[(i+1) * 6+j]? =_
  rw [List.flatMap_cons,List.getElem?_append_right (by simp [spC];omega)]
  rw [show(i+1) * 6+j - (spC z).length=i * 6+j by simp [spC];omega]
  exact ih
def SpOk (w:World) (Z:List (PStp×Value)):Prop:= ∀p∈Z,RdI w (IntB w) p.2 p.1.2.1
theorem SpOk.one {w:World} {Z:List (PStp×Value)} (h:SpOk w Z): ∀u∈spCells Z,u.oneCell'=true:=by
 intro u hu
 unfold spCells at hu
 obtain⟨p,hp,hu⟩:=List.mem_flatMap.1 hu
 obtain⟨A,n,c,e,-⟩:=h p hp
 unfold spC at hu
 rw [e]at hu
 simp only [List.mem_cons,List.mem_nil_iff,or_false]at hu
 rcases hu with rfl|rfl|rfl|rfl|rfl|rfl<;>rfl
def RdSp (w:World) (F:Nat→Prop) (v:Value) (X:List PStp):Prop:= ∃Z:List (PStp×Value),Z.map Prod.fst=X∧Rd w F v 6 (spCells Z)∧SpOk w Z
theorem SpOk.touch {w w':World} {S:Nat→Prop} {Z:List (PStp×Value)} (h:SpOk w Z) (t:Touch S w w') (hS: ∀b,IntB w b→ ¬S b):SpOk w' Z:=fun p hp=>RdI.intB (h p hp) t hS
theorem RdSp.touch {w w':World} {F S:Nat→Prop} {v:Value} {X:List PStp} (h:RdSp w F v X) (t:Touch S w w') (hF: ∀b,F b→ ¬S b) (hS: ∀b,IntB w b→ ¬S b):RdSp w' F v X:=by
 obtain⟨Z,h1,h2,h3⟩:=h
 exact⟨Z,h1,h2.touch t hF,h3.touch t hS⟩
theorem RdSp.below {w w':World} {F:Nat→Prop} {v:Value} {X:List PStp} (h:RdSp w F v X) (b:Below w.heap.size w w'):RdSp w' F v X:=h.touch (Touch.of_size b (fun _=>False)) (fun _ _ e=>e) (fun _ _ e=>e)
theorem RdSp.at_ {w:World} {F:Nat→Prop} {A:Option Addr} {n c:Nat} {X:List PStp} (h:RdSp w F (.slice A n c) X):n=X.length∧n≤c∧c≤maxLen∧(0<n→ ∃b off,A=some ⟨b,off,none⟩∧F b∧ ∀(k:Nat) (x:PStp),X[k]? =some x→ ∃B m d,RdI w (IntB w) (.slice B m d) x.2.1∧w.cell? ⟨b,off+k * 6,none⟩=some (.int .i64 x.1.1)∧w.cell? ⟨b,off+k * 6+1,none⟩=some (.int .i64 x.1.2)∧w.cell? ⟨b,off+k * 6+2,none⟩=some (.slice B m d)∧w.cell? ⟨b,off+k * 6+3,none⟩=some (.int .i64 (toP x.2).1)∧w.cell? ⟨b,off+k * 6+4,none⟩=some (.int .i64 (toP x.2).2)∧w.cell? ⟨b,off+k * 6+5,none⟩=some (.bool x.2.2.isNone)):=by
 obtain⟨Z,hX,⟨A',n',c',hv,h1,h2,hl,hr⟩,h3⟩:=h
 injection hv with e1 e2 e3
 subst e1 e2 e3
 rw [spCells_len]at hl
 have hn:n=X.length:=by rw [←hX,List.length_map];omega
 refine⟨hn,h1,h2,fun hp=> ?_⟩
 obtain⟨b,off,hA,hF,hc⟩:=hr hp
 refine⟨b,off,hA,hF,fun k x hx=> ?_⟩
 rw [←hX,List.getElem?_map]at hx
 obtain⟨p,hp,rfl⟩:=Option.map_eq_some_iff.1 hx
 have hm:=h3 p (List.mem_of_getElem? hp)
 obtain⟨B,m,d,e,-⟩:=id hm
 have g:=fun j hj u hu=>hc _ u ((spCells_get hp j hj).trans hu)
 refine⟨B,m,d,e▸hm,?_,?_,?_,?_,?_,?_⟩
 ·exact g 0 (by decide) _ rfl
 ·have:=g 1 (by decide) _ rfl;rwa [←Nat.add_assoc]at this
 ·have:=g 2 (by decide) _ rfl;rw [e]at this;rwa [←Nat.add_assoc]at this
 ·have:=g 3 (by decide) _ rfl;rwa [←Nat.add_assoc]at this
 ·have:=g 4 (by decide) _ rfl;rwa [←Nat.add_assoc]at this
 ·have:=g 5 (by decide) _ rfl;rwa [←Nat.add_assoc]at this
theorem Tryz.infoStep:(Tryz.prog.info? 71).map (fun i=>(i.zero,i.size,i.bytes))=some (some (.agg #[.int .i64 0,.int .i64 0,.slice none 0 0,.int .i64 0,.int .i64 0,.bool false]),6,64):=by kernel_rfl
theorem Tryz.elemStep:Elem Tryz.prog 61 71 (.agg #[.int .i64 0,.int .i64 0,.slice none 0 0,.int .i64 0,.int .i64 0,.bool false]) 6 64:=⟨Tryz.underlying61,Tryz.infoStep,rfl,by decide⟩
structure SpOwn (w:World) (lo:Nat) (v:Value) (X:List PStp) (Z:List (PStp×Value)):Prop where
 eq:Z.map Prod.fst=X
 own:w.ownsRow lo 71 6 v X.length (spCells Z)
 ok:SpOk w Z
theorem SpOwn.nil (w:World) (lo:Nat):SpOwn w lo (.slice none 0 0) [] []:=⟨rfl,World.ownsRow_nil _ _ _ _,fun p hp=>(by cases hp)⟩
theorem SpOwn.rd {w:World} {lo:Nat} {v:Value} {X:List PStp} {Z:List (PStp×Value)} (h:SpOwn w lo v X Z):RdSp w (fun b=>lo≤b∧b<w.heap.size) v X:=
 ⟨Z,h.eq,(Rd.of_own h.own).mono (fun b hb=>h.own.lt b hb),h.ok⟩
theorem SpOwn.touch {w w':World} {S:Nat→Prop} {lo:Nat} {v:Value} {X:List PStp} {Z:List (PStp×Value)} (h:SpOwn w lo v X Z) (t:Touch S w w') (hv: ∀b,v.ownBlock=some b→ ¬S b) (hS: ∀b,IntB w b→ ¬S b):SpOwn w' lo v X Z:=
 ⟨h.eq,t.own h.own hv,h.ok.touch t hS⟩
theorem SpOwn.below {w w':World} {lo:Nat} {v:Value} {X:List PStp} {Z:List (PStp×Value)} (h:SpOwn w lo v X Z) (b:Below w.heap.size w w'):SpOwn w' lo v X Z:=h.touch (Touch.of_size b (fun _=>False)) (fun _ _ e=>e) (fun _ _ e=>e)
theorem SpOwn.app {w w':World} {lo m:Nat} {v:Value} {X X':List PStp} {Z Z':List (PStp×Value)} {A:Option Addr} {c:Nat} (h:SpOwn w lo v X Z) (hX:Z'.map Prod.fst=X') (hok:SpOk w Z') (hm:m=X'.length)
  (own:w'.ownsRow lo 71 6 (.slice A (X.length+m) c) (X.length+m) (spCells Z++spCells Z')) (g:w.grownBy w' v.ownBlock):SpOwn w' lo (.slice A (X.length+m) c) (X++X') (Z++Z'):=by
 have t:Touch (fun b=>v.ownBlock=some b) w w':=(Touch.refl _ _).grown g (fun k e _=>e)
 refine⟨by rw [List.map_append,h.eq,hX],by rw [List.length_append,←hm,spCells_app];exact own,SpOk.touch (fun p hp=> ?_) t fun b ⟨cs,k⟩ e=>k.ne_own h.own (by decide) e⟩
 rcases List.mem_append.1 hp with hp|hp
 ·exact h.ok p hp
 ·exact hok p hp
end
end Go.Proofs.YtalbfonkhpeajaaGreat
namespace Go.Proofs.YtalbfonkhpeajaaGreat
set_option linter.unusedVariables false
section
set_option linter.unusedSimpArgs false
open Go.RowKit
theorem intsF_one (xs:List Int): ∀u∈xs.map (Value.int .i64),u.oneCell'=true:=by
 intro u hu;obtain⟨x,_,rfl⟩:=List.mem_map.1 hu;rfl
set_option maxRecDepth 100000 in
set_option maxHeartbeats 1000000 in
theorem grow_ints (n:Nat) (hn:n≤65536) (w:World):Calls Tryz.prog 55 #[.slice none 0 0,.int .i64 n] w (OwnPost w 3 [] 0):=by
 by_cases h0:0<n
 ·obtain⟨i,hi,hz,hsize,hby⟩:=info_parts Tryz.infoInt
  have happ:=Lib.run_append_nil_zeros (P:=Tryz.prog) w 26 3 26 3 i (.int .i64 0) .i64 .i64 Tryz.underlying26 Tryz.underlying3 hi hz n h0 (by omega) (by omega) (by rw [hby];omega)
  have hge:=grownCap_ge w n 0 3
  have hle:=grownCap_le_maxLen w n 0 3 (by unfold maxLen;omega)
  generalize grownCap w n 0 3=cap at happ hge hle
  have hZs:(Builtin.zeroCells (Value.int .i64 0).cells n++Builtin.zeroCells (Value.int .i64 0).cells (cap - n)).size=cap * 1:=by simp [size_zeroCells,Value.cells];omega
  generalize (Builtin.zeroCells (Value.int .i64 0).cells n++Builtin.zeroCells (Value.int .i64 0).cells (cap - n))=Z at happ hZs
  have ho:=ownsRow_zero (w:=w.drew) (base:=w.heap.size) (e:=3) (Nat.le_refl _) hle hZs
  have hb:Below w.heap.size w (w.drew.alloc (.cells Z 3)):=((Below.refl _ w).drew).alloc (Nat.le_refl _) _
  unfold maxLen at hle
  clear hZs hi hz hsize hby
  have Xhapp:=hide happ;have Xho:=hide ho;have Xhb:=hide hb;clear happ ho hb
  go_enter Tryz.func55,Tryz.ntmps55
  go_wp2_with (at_builtin;refine Lib.wpList_append_run _ rfl _ _ _ _ rfl _ _ rfl rfl _ _ Xhapp.out ?_)
  go_ret
  exact⟨some ⟨w.heap.size,0,none⟩,cap,rfl,Xho.out,Xhb.out⟩
 ·obtain rfl:n=0:=by omega
  clear hn h0
  go_enter Tryz.func55,Tryz.ntmps55
  go_wp2_with fail
  go_ret
  exact⟨none,0,rfl,World.ownsRow_nil _ _ _ _,Below.refl _ _⟩
set_option maxRecDepth 100000 in
set_option maxHeartbeats 2000000 in
theorem concat_ints {w:World} {F:Nat→Prop} {va vb:Value} {xs ys:List Int} {B:Nat} (ha:RdI w F va xs) (hb:RdI w F vb ys) (hF: ∀b,F b→b<w.heap.size) (hk:Blk w B 26 #[va,vb]) (hl:xs.length+ys.length≤65536):
  Calls Tryz.prog 23 #[.slice (some ⟨B,0,none⟩) 2 2] w (OwnPost w 3 ((xs++ys).map (Value.int .i64)) (xs.length+ys.length)):=by
 have c0:w.cell? ⟨B,0,none⟩=some va:=(hk.cell 0).trans rfl
 have c1:w.cell? ⟨B,1,none⟩=some vb:=(hk.cell 1).trans rfl
 have hbl:=hk.lt
 obtain⟨A1,n1,d1,rfl,-⟩:=id ha
 obtain⟨A2,n2,d2,rfl,-⟩:=id hb
 obtain⟨e1,l1,m1,-⟩:=ha.at_
 obtain⟨e2,l2,m2,-⟩:=hb.at_
 unfold maxLen at m1 m2
 rw [←e1,←e2]at hl⊢
 have hg:=grow_ints (n1+n2) hl w
 have ln1:(xs.map (Value.int .i64)).length=n1 * 1:=by simpa using e1.symm
 have ln2:(ys.map (Value.int .i64)).length=n2 * 1:=by simpa using e2.symm
 have hrd: ∀wr,Below w.heap.size w wr→wr.cell? ⟨B,0,none⟩=some (.slice A1 n1 d1)∧wr.cell? ⟨B,1,none⟩=some (.slice A2 n2 d2)∧RdI wr F (.slice A1 n1 d1) xs∧RdI wr F (.slice A2 n2 d2) ys:=fun wr h=>⟨(h.cell (p:=⟨B,0,none⟩) hbl).trans c0,(h.cell (p:=⟨B,1,none⟩) hbl).trans c1,ha.below h hF,hb.below h hF⟩
 have Xhrd:=hide hrd;have Xhg:=hide hg;have Xln1:=hide ln1;have Xln2:=hide ln2;have Xe1:=hide e1;have Xe2:=hide e2;clear hrd hg ln1 ln2 e1 e2;clear ha hb hF hk
 go_enter Tryz.func23,Tryz.ntmps23
 go_wp2_with fail
 go_loopw [3,11] (fun s i wr=>((i= .int .i64 0∧s= .int .i64 0)∨(i= .int .i64 1∧s= .int .i64 n1)∨(i= .int .i64 2∧s= .int .i64 (n1+n2:Nat)))∧w=wr) (fun _ i _=>2 - (intOf i).toNat)
 case atStart=>exact⟨.inl ⟨rfl,rfl⟩,rfl⟩
 case round=>
  obtain⟨⟨rfl,rfl⟩|⟨rfl,rfl⟩|⟨rfl,rfl⟩,rfl⟩:=hrel
  ·go_wp2_with fail
   go_roundw
   case rel=>exact⟨.inr (.inl ⟨rfl,rfl⟩),by first|rfl|trivial⟩
   case measure=>simp [intOf]
  ·go_wp2_with fail
   go_roundw
   case rel=>exact⟨.inr (.inr ⟨rfl,by go_num⟩),by first|rfl|trivial⟩
   case measure=>simp [intOf]
  ·clear c0 c1
   go_wp2_with fail
   refine Xhg.out.mono ?_
   rintro e w1 ⟨A,c,rfl,hown,hb⟩
   have Xhown:=hide hown;have Xhb:=hide hb;clear hown hb
   go_wp2_with fail
   go_loopw [6,27] (fun s i wr=> ∃(A:Option Addr) (c:Nat),((i= .int .i64 0∧s= .slice A 0 c∧wr.ownsRow w.heap.size 3 1 (.slice A 0 c) 0 [])∨(i= .int .i64 1∧s= .slice A n1 c∧wr.ownsRow w.heap.size 3 1 (.slice A n1 c) n1 (xs.map (Value.int .i64)))∨(i= .int .i64 2∧s= .slice A (n1+n2) c∧wr.ownsRow w.heap.size 3 1 (.slice A (n1+n2) c) (n1+n2) ((xs++ys).map (Value.int .i64))))∧Below w.heap.size w wr) (fun _ i _=>2 - (intOf i).toNat)
   case atStart=>exact⟨A,c,.inl ⟨rfl,rfl,Xhown.out⟩,Xhb.out⟩
   case round=>
    clear Xhown Xhb
    obtain⟨A,c,⟨rfl,rfl,ho⟩|⟨rfl,rfl,ho⟩|⟨rfl,rfl,ho⟩,hb⟩:=hrel
    ·obtain⟨q0,q1,r0,r1⟩:=Xhrd.out wr hb
     have hbz:=hb.size
     have Xho:=hide ho;have Xr0:=hide r0;have Xr1:=hide r1;have Xhb:=hide hb;clear ho r0 r1 hb
     go_wp2_with (at_builtin;refine wp_append _ rfl (.tmp 31) (.tmp 32) _ rfl Tryz.elemInt w.heap.size _ 0 [] rfl Xho.out F _ _ n1 rfl Xln1.out Xr0.out (intsF_one _) (by unfold maxLen;omega) (by omega) hbz ?_)
     intro A' c' w2 hown2 hg2 hx2
     have ho2:w2.ownsRow w.heap.size 3 1 (.slice A' n1 c') n1 (xs.map (Value.int .i64)):=by simpa using hown2
     have hb2:=Xhb.out.grown hg2 hbz (fun q hq=>(Xho.out.lt q hq).1)
     clear hown2 hx2
     have Xho2:=hide ho2;have Xhb2:=hide hb2;have Xhg2:=hide hg2;clear ho2 hb2 hg2
     go_wp2_with fail
     go_roundw
     case rel=>exact⟨A',c',.inr (.inl ⟨rfl,rfl,Xho2.out⟩),Xhb2.out⟩
     case measure=>simp [intOf]
    ·obtain⟨q0,q1,r0,r1⟩:=Xhrd.out wr hb
     have hbz:=hb.size
     have Xho:=hide ho;have Xr0:=hide r0;have Xr1:=hide r1;have Xhb:=hide hb;clear ho r0 r1 hb
     go_wp2_with (at_builtin;refine wp_append _ rfl (.tmp 31) (.tmp 32) _ rfl Tryz.elemInt w.heap.size _ n1 (xs.map (Value.int .i64)) rfl Xho.out F _ _ n2 rfl Xln2.out Xr1.out (intsF_one _) (by unfold maxLen;omega) (by omega) hbz ?_)
     intro A' c' w2 hown2 hg2 hx2
     have ho2:w2.ownsRow w.heap.size 3 1 (.slice A' (n1+n2) c') (n1+n2) ((xs++ys).map (Value.int .i64)):=by rw [List.map_append];exact hown2
     have hb2:=Xhb.out.grown hg2 hbz (fun q hq=>(Xho.out.lt q hq).1)
     clear hown2 hx2
     have Xho2:=hide ho2;have Xhb2:=hide hb2;have Xhg2:=hide hg2;clear ho2 hb2 hg2
     go_wp2_with fail
     go_roundw
     case rel=>exact⟨A',c',.inr (.inr ⟨rfl,rfl,Xho2.out⟩),Xhb2.out⟩
     case measure=>simp [intOf]
    ·have Xho:=hide ho
     have Xhb:=hide hb;clear ho hb
     go_wp2_with fail
     go_ret
     exact⟨A,c,rfl,Xho.out,Xhb.out⟩
end
end Go.Proofs.YtalbfonkhpeajaaGreat
namespace Go.Proofs.YtalbfonkhpeajaaGreat
set_option linter.unusedVariables false
open Go.RowKit
attribute [local irreducible] wpStill wpOne wpPh
theorem ref_ints3 {w:World} {F G:Nat→Prop} {v u:Value} {xs ys:List Int} (h:RdI w F v xs) (g:RdI w G u ys):
  Calls Tryz.prog 10 #[v,u] w (Quiet w (.bool (decide (xs=ys)))):=by
 obtain⟨A,n,c,rfl,_⟩:=id h
 obtain⟨B,m,d,rfl,_⟩:=id g
 obtain⟨hn,hnc,hcm,hcell⟩:=h.at_
 obtain⟨hm,hmd,hdm,hcell'⟩:=g.at_
 unfold maxLen at hcm hdm
 by_cases hnm:n=m
 ·subst hnm
  have HN:=hide hn
  have HM:=hide hm
  clear hn hm
  go_enter Tryz.func10,Tryz.ntmps10
  go_wp2
  go_loopw [5] (fun i wr=> ∃k q:Nat,k≤n∧i= .int .i64 k∧wr=w.drewN q∧ ∀j:Nat,j<k→xs[j]? =ys[j]?) (fun i _=>n - (intOf i).toNat)
  case atStart=>exact⟨0,0,Nat.zero_le _,rfl,rfl,fun j hj=>absurd hj (by omega)⟩
  case round=>
   obtain⟨k,q,hk,rfl,rfl,hbefore⟩:=hrel
   have HB:=hide hbefore
   clear hbefore
   by_cases hlt:k<n
   ·obtain⟨b,off,rfl,_,hc⟩:=hcell (by omega)
    obtain⟨b',off',rfl,_,hc'⟩:=hcell' (by omega)
    obtain⟨x,hx⟩: ∃x,xs[k]? =some x:=⟨_,List.getElem?_eq_getElem (by rw [←HN.out];omega)⟩
    obtain⟨y,hy⟩: ∃y,ys[k]? =some y:=⟨_,List.getElem?_eq_getElem (by rw [←HM.out];omega)⟩
    have hcx:=hc k x hx
    have hcy:=hc' k y hy
    have HX:=hide hx
    have HY:=hide hy
    clear hcell hc hx hcell' hc' hy
    by_cases he:x=y
    ·have HE:=hide he
     have he':(x==y)=true:=by subst he;simp
     clear he
     go_wp2_with fail
     go_quiet (fail)
     go_wp2
     go_roundw
     case rel=>
      refine⟨k+1,q+nq,by omega,by go_num,rfl,fun j hj=> ?_⟩
      by_cases hjk:j=k
      ·subst hjk;rw [HX.out,HY.out,HE.out]
      ·exact HB.out j (by omega)
     case measure=>simp [intOf];omega
    ·have HE:=hide he
     have he':(x==y)=false:=by simpa using he
     clear he
     go_wp2_with fail
     go_quiet (fail)
     go_wp2
     go_ret
     refine⟨ret_bool ?_,⟨rfl,rfl,rfl,Nat.le_refl _,fun _ _=>rfl⟩⟩
     symm
     rw [decide_eq_false_iff_not]
     rintro rfl
     rw [HX.out]at HY
     have:=HY.out
     injection this with this
     exact HE.out this
   ·go_wp2
    go_ret
    refine⟨ret_bool ?_,⟨rfl,rfl,rfl,Nat.le_refl _,fun _ _=>rfl⟩⟩
    symm
    rw [decide_eq_true_eq]
    apply List.ext_getElem?
    intro j
    by_cases hj:j<n
    ·exact HB.out j (by omega)
    ·rw [List.getElem?_eq_none (by rw [←HN.out];omega),List.getElem?_eq_none (by rw [←HM.out];omega)]
 ·have hne:((n:Int)==(m:Int))=false:=by simpa using(by omega: ¬(n:Int)=(m:Int))
  have HN:=hide hn
  have HM:=hide hm
  clear hn hm
  go_enter Tryz.func10,Tryz.ntmps10
  go_wp2
  go_ret
  refine⟨ret_bool ?_,⟨rfl,rfl,rfl,Nat.le_refl _,fun _ _=>rfl⟩⟩
  symm
  rw [decide_eq_false_iff_not]
  rintro rfl
  exact hnm (by rw [HN.out,HM.out])
def cmpI (a b:Int):Int:=if a<b then -1 else if b<a then 1 else 0
theorem cmp_nan (a:Int) (w:World):Calls Tryz.prog 115 #[.int .i64 a] w fun e w'=>e= .returned (.bool false)∧w=w':=by
 have h:(a !=a)=false:=by simp
 go_enter Tryz.func115,Tryz.ntmps115
 go_wp2_with fail
 go_ret
 exact⟨rfl,by first|rfl|trivial⟩
theorem cmp_compare (a b:Int) (w:World):Calls Tryz.prog 93 #[.int .i64 a,.int .i64 b] w fun e w'=>e= .returned (.int .i64 (cmpI a b))∧w=w':=by
 have hn: ∀a,Calls Tryz.prog 115 #[.int .i64 a] w fun e w'=>e= .returned (.bool false)∧w=w':=fun a=>cmp_nan a w
 have hv:cmpI a b=if a<b then -1 else if b<a then 1 else 0:=rfl
 by_cases h1:a<b
 ·rw [if_pos h1]at hv
  have Xhn:=hide hn;have Xhv:=hide hv;clear hn hv
  go_enter Tryz.func93,Tryz.ntmps93
  iterate 2
   go_wp2_with fail
   refine(Xhn.out _).mono ?_
   rintro e w' ⟨rfl,rfl⟩
  go_wp2_with fail
  go_ret
  exact⟨ret_int Xhv.out.symm,by first|rfl|trivial⟩
 ·rw [if_neg h1]at hv
  by_cases h2:b<a
  ·rw [if_pos h2]at hv
   have Xhn:=hide hn;have Xhv:=hide hv;clear hn hv
   go_enter Tryz.func93,Tryz.ntmps93
   iterate 2
    go_wp2_with fail
    refine(Xhn.out _).mono ?_
    rintro e w' ⟨rfl,rfl⟩
   go_wp2_with fail
   go_ret
   exact⟨ret_int Xhv.out.symm,by first|rfl|trivial⟩
  ·rw [if_neg h2]at hv
   have Xhn:=hide hn;have Xhv:=hide hv;clear hn hv
   go_enter Tryz.func93,Tryz.ntmps93
   iterate 2
    go_wp2_with fail
    refine(Xhn.out _).mono ?_
    rintro e w' ⟨rfl,rfl⟩
   go_wp2_with fail
   go_ret
   exact⟨ret_int Xhv.out.symm,by first|rfl|trivial⟩
theorem lexB_at: ∀{xs ys:List Int} {k:Nat} {a b:Int},(∀j:Nat,j<k→xs[j]? =ys[j]?)→xs[k]? =some a→ys[k]? =some b→a≠b→lexB xs ys=decide (a<b)
 |x::r,y::t,0,a,b,_,hx,hy,hne=>by
  simp at hx hy
  subst hx hy
  unfold lexB
  rw [if_neg hne]
 |x::r,y::t,k+1,a,b,hb,hx,hy,hne=>by
  have h0:=hb 0 (by omega)
  simp at h0
  unfold lexB
  rw [if_pos h0]
  exact lexB_at (k:=k) (fun j hj=>by have:=hb (j+1) (by omega);simpa using this) (by simpa using hx) (by simpa using hy) hne
 |[],_,_,_,_,_,hx,_,_=>by simp at hx
 |_::_,[],_,_,_,_,_,hy,_=>by simp at hy
theorem lexB_same: ∀(xs:List Int),lexB xs xs=false
 |[]=>rfl
 |x::r=>by unfold lexB;rw [if_pos rfl];exact lexB_same r
set_option maxRecDepth 100000 in
set_option maxHeartbeats 2000000 in
theorem compare_ints {w:World} {F G:Nat→Prop} {v u:Value} {xs ys:List Int} (h:RdI w F v xs) (g:RdI w G u ys) (hlen:xs.length=ys.length):
  Calls Tryz.prog 53 #[v,u] w fun e w'=>(∃c:Int,e= .returned (.int .i64 c)∧decide (c<0)=lexB xs ys)∧w=w':=by
 obtain⟨A,n,c,rfl,-⟩:=id h
 obtain⟨B,m,d,rfl,-⟩:=id g
 obtain⟨hn,hnc,hcm,hcell⟩:=h.at_
 obtain⟨hm,hmd,hdm,hcell'⟩:=g.at_
 have hnm:m=n:=by omega
 subst hnm
 unfold maxLen at hcm hdm
 have hc: ∀a b,Calls Tryz.prog 93 #[.int .i64 a,.int .i64 b] w fun e w'=>e= .returned (.int .i64 (cmpI a b))∧w=w':=fun a b=>cmp_compare a b w
 have hat: ∀(k:Nat) (a b:Int),(∀j:Nat,j<k→xs[j]? =ys[j]?)→xs[k]? =some a→ys[k]? =some b→a≠b→lexB xs ys=decide (a<b):=fun k a b=>lexB_at
 have hall:(∀j:Nat,j<m→xs[j]? =ys[j]?)→lexB xs ys=false:=fun hh=>by
  have:xs=ys:=List.ext_getElem? fun j=>by
   by_cases hj:j<m
   ·exact hh j hj
   ·rw [List.getElem?_eq_none (by omega),List.getElem?_eq_none (by omega)]
  rw [this];exact lexB_same ys
 have Xhn:=hide hn;have Xhm:=hide hm;have Xhlen:=hide hlen;have Xhc:=hide hc;have Xhat:=hide hat;have Xhall:=hide hall;clear hn hm hlen hc hat hall;clear h g
 go_enter Tryz.func53,Tryz.ntmps53
 go_wp2_with fail
 go_loopw [11] (fun i wr=> ∃k:Nat,k≤m∧i= .int .i64 k∧(∀j:Nat,j<k→xs[j]? =ys[j]?)∧w=wr) (fun i _=>m - (intOf i).toNat)
 case atStart=>exact⟨0,Nat.zero_le _,rfl,fun j hj=>absurd hj (by omega),rfl⟩
 case round=>
  obtain⟨k,hk,rfl,hb,rfl⟩:=hrel
  have Xhb:=hide hb;clear hb
  by_cases hlt:k<m
  ·obtain⟨b,off,rfl,-,hc1⟩:=hcell (by omega)
   obtain⟨b',off',rfl,-,hc2⟩:=hcell' (by omega)
   obtain⟨x,hx⟩: ∃x,xs[k]? =some x:=⟨_,List.getElem?_eq_getElem (by rw [←Xhn.out];exact hlt)⟩
   obtain⟨y,hy⟩: ∃x,ys[k]? =some x:=⟨_,List.getElem?_eq_getElem (by rw [←Xhm.out];exact hlt)⟩
   have q1:=hc1 k x hx
   have q2:=hc2 k y hy
   have hcc:=Xhc.out x y
   have hlt':(k:Int)<(m:Int):=by omega
   by_cases he:x=y
   ·have hz:cmpI x y=0:=by unfold cmpI;rw [if_neg (by omega),if_neg (by omega)]
    rw [hz]at hcc
    have Xhx:=hide hx;have Xhy:=hide hy;have Xhcc:=hide hcc;have Xhe:=hide he;have Xhz:=hide hz;clear hx hy hcc he hz;clear hcell hcell' hc1 hc2
    go_wp2_with fail
    refine Xhcc.out.mono ?_
    rintro e w' ⟨rfl,rfl⟩
    go_wp2_with fail
    go_roundw
    case rel=>exact⟨k+1,by omega,by go_num,fun j hj=>by
     by_cases e:j=k
     ·subst e;rw [Xhx.out,Xhy.out,Xhe.out]
     ·exact Xhb.out j (by omega),by first|rfl|trivial⟩
    case measure=>simp [intOf];omega
   ·have hz:(cmpI x y !=0)=true:=by
     unfold cmpI
     by_cases h1:x<y
     ·rw [if_pos h1];rfl
     ·rw [if_neg h1,if_pos (by omega)];rfl
    have hfin:decide (cmpI x y<0)=lexB xs ys:=by
     rw [Xhat.out k x y Xhb.out hx hy he]
     unfold cmpI
     by_cases h1:x<y
     ·rw [if_pos h1,decide_eq_true h1];rfl
     ·rw [if_neg h1,if_pos (by omega),decide_eq_false h1];rfl
    generalize cmpI x y=cv at *
    have Xhx:=hide hx;have Xhy:=hide hy;have Xhcc:=hide hcc;have Xhe:=hide he;have Xhfin:=hide hfin;clear hx hy hcc he hfin;clear hcell hcell' hc1 hc2
    go_wp2_with fail
    refine Xhcc.out.mono ?_
    rintro e w' ⟨rfl,rfl⟩
    go_wp2_with fail
    go_ret
    exact⟨⟨cv,rfl,Xhfin.out⟩,by first|rfl|trivial⟩
  ·clear hcell hcell'
   go_wp2_with fail
   go_ret
   exact⟨⟨0,rfl,(Xhall.out fun j hj=>Xhb.out j (by omega)).symm⟩,by first|rfl|trivial⟩
theorem Tryz.enters_less:Enters Tryz.prog 88:=enters_of Tryz.func88 (by kernel_rfl) rfl
theorem less_clo {w:World} {F G:Nat→Prop} {v u:Value} {xs ys:List Int} (h:RdI w F v xs) (g:RdI w G u ys):
  Calls Tryz.prog 88 #[v,u] w fun e w'=>e= .returned (.bool (lessB xs ys))∧w=w':=by
 have hc:=fun hl=>compare_ints h g hl
 have hl:lessB xs ys=if xs.length=ys.length then lexB xs ys else decide (xs.length<ys.length):=rfl
 obtain⟨A,n,c,rfl,-⟩:=id h
 obtain⟨B,m,d,rfl,-⟩:=id g
 obtain⟨hn,hnc,hcm,-⟩:=h.at_
 obtain⟨hm,hmd,hdm,-⟩:=g.at_
 unfold maxLen at hcm hdm
 rw [←hn,←hm]at hl hc
 clear h g
 by_cases e:n=m
 ·subst e
  have hc:=hc rfl
  rw [if_pos rfl]at hl
  have Xhc:=hide hc;have Xhl:=hide hl;have Xhn:=hide hn;have Xhm:=hide hm;clear hc hl hn hm
  go_enter Tryz.func88,Tryz.ntmps88
  go_wp2_with fail
  refine Xhc.out.mono ?_
  rintro e w' ⟨⟨cv,rfl,hcv⟩,rfl⟩
  have Xhcv:=hide hcv;clear hcv
  go_wp2_with fail
  go_ret
  exact⟨ret_bool (by rw [Xhl.out];exact Xhcv.out),by first|rfl|trivial⟩
 ·have hne:((n:Int) !=(m:Int))=true:=by simpa using(by omega: ¬(n:Int)=(m:Int))
  rw [if_neg e]at hl
  have Xhc:=hide hc;have Xhl:=hide hl;have Xhn:=hide hn;have Xhm:=hide hm;clear hc hl hn hm
  go_enter Tryz.func88,Tryz.ntmps88
  go_wp2_with fail
  go_ret
  exact⟨ret_bool (by rw [Xhl.out]),by first|rfl|trivial⟩
set_option maxRecDepth 100000 in
set_option maxHeartbeats 2000000 in
theorem ref_less {w:World} {F G:Nat→Prop} {v u:Value} {xs ys:List Int} (h:RdI w F v xs) (g:RdI w G u ys):
  Calls Tryz.prog 94 #[v,u] w fun e w'=>e= .returned (.bool (lessB xs ys))∧ ∃q,w'=w.drewN q:=by
 have hl:lessB xs ys=if xs.length=ys.length then lexB xs ys else decide (xs.length<ys.length):=rfl
 obtain⟨A,n,c,rfl,-⟩:=id h
 obtain⟨B,m,d,rfl,-⟩:=id g
 obtain⟨hn,hnc,hcm,hcell⟩:=h.at_
 obtain⟨hm,hmd,hdm,hcell'⟩:=g.at_
 unfold maxLen at hcm hdm
 rw [←hn,←hm]at hl
 clear h g
 by_cases e:n=m
 ·subst e
  rw [if_pos rfl]at hl
  have hat: ∀(k:Nat) (a b:Int),(∀j:Nat,j<k→xs[j]? =ys[j]?)→xs[k]? =some a→ys[k]? =some b→a≠b→lexB xs ys=decide (a<b):=fun k a b=>lexB_at
  have hall:(∀j:Nat,j<n→xs[j]? =ys[j]?)→lexB xs ys=false:=fun hh=>by
   have:xs=ys:=List.ext_getElem? fun j=>by
    by_cases hj:j<n
    ·exact hh j hj
    ·rw [List.getElem?_eq_none (by omega),List.getElem?_eq_none (by omega)]
   rw [this];exact lexB_same ys
  have Xhl:=hide hl;have Xhn:=hide hn;have Xhm:=hide hm;have Xhat:=hide hat;have Xhall:=hide hall;clear hl hn hm hat hall
  go_enter Tryz.func94,Tryz.ntmps94
  go_wp2_with fail
  go_loopw [5] (fun i wr=> ∃k q:Nat,k≤n∧i= .int .i64 k∧(∀j:Nat,j<k→xs[j]? =ys[j]?)∧wr=w.drewN q) (fun i _=>n - (intOf i).toNat)
  case atStart=>exact⟨0,0,Nat.zero_le _,rfl,fun j hj=>absurd hj (by omega),rfl⟩
  case round=>
   obtain⟨k,q,hk,rfl,hb,rfl⟩:=hrel
   have Xhb:=hide hb;clear hb
   by_cases hlt:k<n
   ·obtain⟨b,off,rfl,-,hc1⟩:=hcell (by omega)
    obtain⟨b',off',rfl,-,hc2⟩:=hcell' (by omega)
    obtain⟨x,hx⟩: ∃x,xs[k]? =some x:=⟨_,List.getElem?_eq_getElem (by rw [←Xhn.out];exact hlt)⟩
    obtain⟨y,hy⟩: ∃x,ys[k]? =some x:=⟨_,List.getElem?_eq_getElem (by rw [←Xhm.out];exact hlt)⟩
    have q1:=hc1 k x hx
    have q2:=hc2 k y hy
    have hlt':(k:Int)<(n:Int):=by omega
    have hk0:(0:Int)≤(k:Int):=by omega
    by_cases he:x=y
    ·have hne:(x !=y)=false:=by simp [he]
     have Xhx:=hide hx;have Xhy:=hide hy;have Xhe:=hide he;clear hx hy he;clear hcell hcell' hc1 hc2
     go_wp2_with fail
     refine region_reads (by kernel_rfl) (by kernel_rfl) ?_
     repeat still_step
     refine wpStill_nil ?_
     go_wp2_with fail
     go_roundw
     case rel=>exact⟨k+1,q+1,by omega,by go_num,fun j hj=>by
      by_cases e:j=k
      ·subst e;rw [Xhx.out,Xhy.out,Xhe.out]
      ·exact Xhb.out j (by omega),rfl⟩
     case measure=>simp [intOf];omega
    ·have hne:(x !=y)=true:=by simpa using he
     have hfin:=Xhat.out k x y Xhb.out hx hy he
     have Xhx:=hide hx;have Xhy:=hide hy;have Xhe:=hide he;have Xhfin:=hide hfin;clear hx hy he hfin;clear hcell hcell' hc1 hc2
     iterate 2
      go_wp2_with fail
      refine region_reads (by kernel_rfl) (by kernel_rfl) ?_
      repeat still_step
      refine wpStill_nil ?_
     go_wp2_with fail
     go_ret
     exact⟨ret_bool (by rw [Xhl.out,Xhfin.out]),q+2,rfl⟩
   ·clear hcell hcell'
    go_wp2_with fail
    go_ret
    exact⟨ret_bool (by rw [Xhl.out,Xhall.out fun j hj=>Xhb.out j (by omega)]),q,rfl⟩
 ·have hne:((n:Int) !=(m:Int))=true:=by simpa using(by omega: ¬(n:Int)=(m:Int))
  rw [if_neg e]at hl
  have Xhl:=hide hl;have Xhn:=hide hn;have Xhm:=hide hm;clear hl hn hm;clear hcell hcell'
  go_enter Tryz.func94,Tryz.ntmps94
  go_wp2_with fail
  go_ret
  exact⟨ret_bool (by rw [Xhl.out]),0,rfl⟩
end Go.Proofs.YtalbfonkhpeajaaGreat

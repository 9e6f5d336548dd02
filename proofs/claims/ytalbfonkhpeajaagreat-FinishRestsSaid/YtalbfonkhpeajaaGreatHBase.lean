/- Words and lemmas that are of no program: which blocks a call may turn, a slice that reads as a list of cells, a block that is known whole.
  Conditions: none. -/
import Derived.WalkKit
import Derived.Maps.OwnSet
import Derived.BigQuiet
import Derived.Deep.QuietTactic
import Derived.Deep.Draws
import Derived.Deep.RegionHeld3
import Derived.Deep.DeepFit
import Derived.WalkSpells
import Derived.Deep.LoopGhost
import Derived.Deep.Slices
import Derived.ChangeSame
import Derived.StillTailTactics
import Derived.Maps.AppendAt
import Derived.Deep.AppendLies
import Derived.Laws.CopyOwn
import Derived.ProofKit
import Derived.OpenShut
import Derived.ShutString
import Derived.ChangeOld
import Derived.Carry
import Derived.Deep.Fields
import Derived.SizedLaws
namespace Go.Proofs.YtalbfonkhpeajaaGreat
set_option linter.unusedVariables false
open Go.RowKit
theorem hide {p:Prop} (h:p):Hid p:=h
theorem bytes_ext {a b:ByteArray} (h:a.data=b.data):a=b:=by cases a;cases b;cases h;rfl
instance:DecidableEq ByteArray:=fun a b=>if h:a.data=b.data then isTrue (bytes_ext h)else isFalse fun e=>h (by rw [e])
def place (xs:List ByteArray) (s:ByteArray):Int:=match xs.findIdx? (fun x=>decide (x=s))with|some i=>(i:Int)|none=> -1
theorem place_not {xs:List ByteArray} {s:ByteArray} (h:s∉xs):place xs s= -1:=by
 have:xs.findIdx? (fun x=>decide (x=s))=none:=by
  rw [List.findIdx?_eq_none_iff];intro x hx;simp;rintro rfl;exact h hx
 simp [place,this]
theorem place_first {xs:List ByteArray} {s:ByteArray} {i:Nat} (h:xs[i]? =some s) (hf: ∀j:Nat,j<i→xs[j]? ≠some s):place xs s=i:=by
 obtain⟨hi,hx⟩:=List.getElem?_eq_some_iff.1 h
 have:xs.findIdx? (fun x=>decide (x=s))=some i:=by
  rw [List.findIdx?_eq_some_iff_getElem]
  refine⟨hi,by simpa using hx,fun j hj=> ?_⟩
  have:=hf j hj
  simpa [List.getElem?_eq_getElem (show j<xs.length by omega)]using this
 simp [place,this]
theorem place_some {xs:List ByteArray} {s:ByteArray} (h:s∈xs): ∃i:Nat,xs[i]? =some s∧(∀j:Nat,j<i→xs[j]? ≠some s)∧place xs s=i:=by
 rcases hf:xs.findIdx? (fun x=>decide (x=s))with _|i
 ·rw [List.findIdx?_eq_none_iff]at hf
  have:=hf s h
  simp at this
 ·have hf':=hf
  rw [List.findIdx?_eq_some_iff_getElem]at hf
  obtain⟨hi,hx,hj⟩:=hf
  refine⟨i,by rw [List.getElem?_eq_getElem hi];simpa using hx,fun j hj'=> ?_,by simp [place,hf']⟩
  have:=hj j hj'
  rw [List.getElem?_eq_getElem (by omega)]
  simpa using this
theorem place_mem {xs:List ByteArray} {s:ByteArray}:0≤place xs s↔s∈xs:=by
 by_cases h:s∈xs
 ·obtain⟨i,_,_,hp⟩:=place_some h
  simp [h,hp]
 ·rw [place_not h];simp [h]
instance (s:ByteArray) (xs:List ByteArray):Decidable (s∈xs):=decidable_of_iff (0≤place xs s) place_mem
theorem ret_int {k:IntKind} {a b:Int} (h:a=b):Ending.returned (.int k a)= .returned (.int k b):=by rw [h]
theorem ret_bool {a b:Bool} (h:a=b):Ending.returned (.bool a)= .returned (.bool b):=by rw [h]
theorem toList_inj {a b:ByteArray} (h:a.toList=b.toList):a=b:=by
 rw [ByteArray.toList_eq,ByteArray.toList_eq]at h
 exact bytes_ext (Array.toList_inj.1 h)
theorem toList_len (s:ByteArray):s.toList.length=s.size:=by rw [ByteArray.toList_eq];rfl
theorem toList_nil (s:ByteArray):s.toList=[]↔s.size=0:=by rw [←toList_len];exact List.length_eq_zero_iff.symm
theorem isEmpty_size (s:ByteArray):s.toList.isEmpty=decide (s.size=0):=by
 rw [Bool.eq_iff_iff,List.isEmpty_iff,toList_nil];simp
theorem region_tail {P:Program} {id:Nat} {Q:Exit→Act→World→Prop} {a:Act} {w:World} {l:List Oper} (n:Nat) (hm:P.follows .mixedOrders=true) (hB:Region.lexTailB .any l.toArray n=true)
  (h:wpStill P l.toArray w.drew (fun a'=>wpList P l.toArray Q (l.drop n) a' w.drew) (l.take n) a):(Code.region id l.toArray true).wp P Q a w:=
 wp_region_still_tail n hm hB h
structure Touch (S:Nat→Prop) (w w':World):Prop where
 os:w'.os=w.os
 tape:w'.tape=w.tape
 output:w'.output=w.output
 size:w.heap.size≤w'.heap.size
 block: ∀k,k<w.heap.size→ ¬S k→w'.heap[k]? =w.heap[k]?
section
variable {S S' : Nat → Prop} {w w' a b c : World}
theorem Touch.refl (S:Nat→Prop) (w:World):Touch S w w:=⟨rfl,rfl,rfl,Nat.le_refl _,fun _ _ _=>rfl⟩
theorem Touch.trans (h:Touch S a b) (k:Touch S' b c) (hS: ∀i,i<a.heap.size→S' i→S i):Touch S a c:=
 ⟨k.os.trans h.os,k.tape.trans h.tape,k.output.trans h.output,Nat.le_trans h.size k.size,
  fun i hi hn=>(k.block i (Nat.lt_of_lt_of_le hi h.size) (fun hs=>hn (hS i hi hs))).trans (h.block i hi hn)⟩
theorem Touch.trans' (h:Touch S a b) (k:Touch S b c):Touch S a c:=h.trans k fun _ _ hs=>hs
theorem Touch.mono (h:Touch S a b) (hS: ∀i,i<a.heap.size→S i→S' i):Touch S' a b:=
 ⟨h.os,h.tape,h.output,h.size,fun i hi hn=>h.block i hi fun hs=>hn (hS i hi hs)⟩
theorem Touch.drew (h:Touch S a b):Touch S a b.drew:=⟨h.os,h.tape,h.output,h.size,h.block⟩
theorem Touch.drewN (h:Touch S a b) (n:Nat):Touch S a (b.drewN n):=⟨h.os,h.tape,h.output,h.size,h.block⟩
theorem Touch.alloc (h:Touch S a b) (o:Obj):Touch S a (b.alloc o):=
 h.trans' ⟨rfl,rfl,rfl,by simp,fun k hk _=>Below.heap_alloc _ _ _ hk⟩
theorem Touch.setCell (h:Touch S a b) {p:Addr} (hp:p.block<a.heap.size→S p.block) (u:Value):Touch S a (b.setCell p u):=
 ⟨h.os,h.tape,h.output,by simpa [World.setCell]using h.size,fun i hi hn=>(Below.heap_setCell _ _ _ _ (fun e=>hn (by rw [e];exact hp (e▸hi)))).trans (h.block i hi hn)⟩
theorem Touch.grown {row:Option Nat} (h:Touch S a b) (hg:b.grownBy c row) (hr: ∀k,row=some k→k<a.heap.size→S k):Touch S a c:=
 ⟨hg.os.trans h.os,hg.tape.trans h.tape,hg.output.trans h.output,Nat.le_trans h.size hg.size,
  fun i hi hn=>(hg.block i (Nat.lt_of_lt_of_le hi h.size) (fun e=>hn (hr i e.symm hi))).trans (h.block i hi hn)⟩
theorem Touch.below {B:Nat} (h:Touch S a b) (hS: ∀i,i<B→i<a.heap.size→ ¬S i) (hB:B≤a.heap.size):Below B a b:=
 ⟨h.os,h.tape,h.output,h.size,fun i hi=>h.block i (by omega) (hS i hi (by omega))⟩
theorem Touch.of_below {B:Nat} (h:Below B a b):Touch (fun k=>B≤k) a b:=⟨h.os,h.tape,h.output,h.size,fun i _ hn=>h.block i (by simpa using hn)⟩
theorem Touch.of_size (h:Below a.heap.size a b) (S:Nat→Prop):Touch S a b:=⟨h.os,h.tape,h.output,h.size,fun i hi _=>h.block i hi⟩
theorem Touch.cell (h:Touch S w w') {p:Addr} {u:Value} (hc:w.cell? p=some u) (hp: ¬S p.block):w'.cell? p=some u:=
 (World.cell?_of_block (h.block _ (World.block_lt_of_cell? w p hc) hp)).trans hc
theorem Touch.own {base:Nat} {e:TypeId} {size n:Nat} {v:Value} {xs:List Value} (h:Touch S w w') (ho:w.ownsRow base e size v n xs) (hS: ∀k,v.ownBlock=some k→ ¬S k):w'.ownsRow base e size v n xs:=by
 refine⟨ho.1,?_⟩
 rcases ho.2 with hn|⟨g,cap,cur,rfl,hb,hgg,rest⟩
 ·exact .inl hn
 ·exact .inr ⟨g,cap,cur,rfl,hb,(h.block g (Array.getElem?_eq_some_iff.1 hgg).1 (hS g rfl)).trans hgg,rest⟩
theorem Touch.ownsMap {H:Type} {P:Program} {k:TypeId} {R:Value→Option (DataW H×List MemPlace)} {n m:Nat} {D:DataW H} (h:Touch S w w') (ho:w.ownsMap P k R m n D) (hS: ¬S m):w'.ownsMap P k R m n D:=by
 have hlt:=ho.lt
 obtain⟨es,clock,hb,r⟩:=ho
 exact⟨es,clock,(h.block m hlt hS).trans hb,r⟩
end
theorem Touch.toBelow {w w':World} {S:Nat→Prop} {B:Nat} {w0:World} (h:Touch S w w') (hS: ∀k,S k→B≤k) (hb:Below B w0 w) (hB:B≤w.heap.size):Below B w0 w':=
 hb.trans (h.below (fun k hk _ hs=>by have:=hS k hs;omega) hB)
def Blk (w:World) (g:Nat) (t:TypeId) (cs:Array Value):Prop:=w.heap[g]? =some (.cells cs t (0,0))
section
variable {w w' : World} {g g' : Nat} {t t' : TypeId} {cs cs' : Array Value} {S : Nat → Prop}
theorem Blk.lt (h:Blk w g t cs):g<w.heap.size:=(Array.getElem?_eq_some_iff.1 h).1
theorem Blk.cell (h:Blk w g t cs) (i:Nat):w.cell? ⟨g,i,none⟩=cs[i]? :=cell_of_row w g i cs t (0,0) h
theorem Blk.frozen (h:Blk w g t cs) (i:Nat):w.frozen? ⟨g,i,none⟩=false:=by
 unfold Blk at h
 simp [World.frozen?,h]
theorem Blk.new (w:World) (t:TypeId) (cs:Array Value):Blk (w.alloc (.cells cs t)) w.heap.size t cs:=heap_alloc_new w _
theorem Blk.drew (h:Blk w g t cs):Blk w.drew g t cs:=h
theorem Blk.alloc (h:Blk w g t cs) (o:Obj):Blk (w.alloc o) g t cs:=(Below.heap_alloc w o g h.lt).trans h
theorem Blk.put (h:Blk w g t cs) (i:Nat) (u:Value):Blk (w.setCell ⟨g,i,none⟩ u) g t (cs.setIfInBounds i u):=by
 unfold Blk at h⊢
 simp [World.setCell,Array.getElem?_modify,h]
theorem Blk.below {B:Nat} (h:Blk w g t cs) (hb:Below B w w') (hg:g<B):Blk w' g t cs:=(hb.block g hg).trans h
theorem Blk.touch (h:Blk w g t cs) (hb:Touch S w w') (hg: ¬S g):Blk w' g t cs:=(hb.block g h.lt hg).trans h
theorem Blk.grown {row:Option Nat} (h:Blk w g t cs) (hb:w.grownBy w' row) (hg:some g≠row):Blk w' g t cs:=(hb.block g h.lt hg).trans h
theorem Blk.ne (h:Blk w g t cs) (h':Blk w g' t' cs') (hne:t≠t'):g≠g':=by
 rintro rfl
 unfold Blk at h h'
 rw [h]at h'
 injection h' with h'
 injection h' with _ ht
 exact hne ht
theorem Blk.ne_own {base:Nat} {e:TypeId} {size n:Nat} {v:Value} {xs:List Value} (hg:Blk w g t cs) (h:w.ownsRow base e size v n xs) (hne:e≠t):v.ownBlock≠some g:=by
 rcases h.2 with⟨rfl,_⟩|⟨g',cap,cur,rfl,_,hh,_⟩
 ·simp [Value.ownBlock]
 ·intro he
  have:g'=g:=by simpa [Value.ownBlock]using he
  subst this
  exact Blk.ne (t:=e) hh hg hne rfl
theorem Blk.ne_map {H:Type} {P:Program} {k:TypeId} {R:Value→Option (DataW H×List MemPlace)} {n m:Nat} {D:DataW H} (hg:Blk w g t cs) (ho:w.ownsMap P k R m n D):m≠g:=by
 rintro rfl
 obtain⟨es,clock,hb,_⟩:=ho
 unfold Blk at hg
 rw [hb]at hg
 cases hg
theorem own_ne_map {H:Type} {P:Program} {k:TypeId} {R:Value→Option (DataW H×List MemPlace)} {n' m:Nat} {D:DataW H} {base:Nat} {e:TypeId} {size n:Nat} {v:Value} {xs:List Value} (h:w.ownsRow base e size v n xs) (ho:w.ownsMap P k R m n' D):v.ownBlock≠some m:=by
 rcases h.2 with⟨rfl,_⟩|⟨g',cap,cur,rfl,_,hh,_⟩
 ·simp [Value.ownBlock]
 ·intro he
  have:g'=m:=by simpa [Value.ownBlock]using he
  subst this
  obtain⟨es,clock,hb,_⟩:=ho
  rw [hb]at hh
  cases hh
end
def Rd (w:World) (F:Nat→Prop) (v:Value) (size:Nat) (xs:List Value):Prop:=
 ∃A n c,v= .slice A n c∧n≤c∧c≤maxLen∧xs.length=n * size∧
  (0<n→ ∃b off,A=some ⟨b,off,none⟩∧F b∧ ∀j u,xs[j]? =some u→w.cell? ⟨b,off+j,none⟩=some u)
section
variable {w w' : World} {F F' S : Nat → Prop} {v : Value} {size : Nat} {xs : List Value}
theorem Rd.touch (h:Rd w F v size xs) (ht:Touch S w w') (hF: ∀k,F k→ ¬S k):Rd w' F v size xs:=by
 obtain⟨A,n,c,hv,hc,hm,hl,hr⟩:=h
 refine⟨A,n,c,hv,hc,hm,hl,fun hn=> ?_⟩
 obtain⟨b,off,hA,hb,hcell⟩:=hr hn
 exact⟨b,off,hA,hb,fun j u hu=>ht.cell (hcell j u hu) (hF b hb)⟩
theorem Rd.below {B:Nat} (h:Rd w F v size xs) (ht:Below B w w') (hF: ∀k,F k→k<B):Rd w' F v size xs:=by
 obtain⟨A,n,c,hv,hc,hm,hl,hr⟩:=h
 refine⟨A,n,c,hv,hc,hm,hl,fun hn=> ?_⟩
 obtain⟨b,off,hA,hb,hcell⟩:=hr hn
 exact⟨b,off,hA,hb,fun j u hu=>(ht.cell (p:=⟨b,off+j,none⟩) (hF b hb)).trans (hcell j u hu)⟩
theorem Rd.mono (h:Rd w F v size xs) (hF: ∀k,F k→F' k):Rd w F' v size xs:=by
 obtain⟨A,n,c,hv,hc,hm,hl,hr⟩:=h
 refine⟨A,n,c,hv,hc,hm,hl,fun hn=> ?_⟩
 obtain⟨b,off,hA,hb,hcell⟩:=hr hn
 exact⟨b,off,hA,hF b hb,hcell⟩
theorem Rd.drew (h:Rd w F v size xs):Rd w.drew F v size xs:=h
theorem Rd.drewN (h:Rd w F v size xs) (n:Nat):Rd (w.drewN n) F v size xs:=h
theorem Rd.nil (w:World) (F:Nat→Prop) (size:Nat):Rd w F (.slice none 0 0) size []:=⟨none,0,0,rfl,Nat.le_refl _,by decide,by simp,fun h=>absurd h (by omega)⟩
theorem Rd.of_own {base:Nat} {e:TypeId} {n:Nat} (h:w.ownsRow base e size v n xs):Rd w (fun k=>v.ownBlock=some k) v size xs:=by
 rcases h.2 with⟨rfl,rfl⟩|⟨g,cap,cur,rfl,hb,hh,hn,hc,hz,ht⟩
 ·have:xs=[]:=List.eq_nil_of_length_eq_zero (by simpa using h.1)
  subst this
  exact Rd.nil _ _ _
 ·refine⟨_,_,_,rfl,hn,hc,h.1,fun _=>⟨g,0,rfl,rfl,fun j u hu=> ?_⟩⟩
  rw [cell_of_row w g (0+j) cur e (0,0) hh,Nat.zero_add]
  rw [←ht,List.getElem?_take]at hu
  split at hu
  ·simpa using hu
  ·cases hu
end
theorem cell_a {w:World} {p:Addr} {u:Value} (h:w.cell? p=some u): ∀(o:Obj),(w.alloc o).cell? p=some u:=
 fun o=>(World.cell?_alloc_lt w o p (World.block_lt_of_cell? w p h)).trans h
structure Elem (P:Program) (t e:TypeId) (z:Value) (size bytes:Nat):Prop where
 slice:P.underlying t=some (.slice e)
 info:(P.info? e).map (fun i=>(i.zero,i.size,i.bytes))=some (some z,size,bytes)
 zs:z.cells.size=size
 pos:0<size
theorem ownsRow_shape {w:World} {base:Nat} {e:TypeId} {size n:Nat} {v:Value} {xs:List Value} (h:w.ownsRow base e size v n xs): ∃A c,v= .slice A n c∧n≤c∧c≤maxLen:=by
 rcases h.2 with⟨rfl,rfl⟩|⟨g,cap,cur,rfl,_,_,h1,h2,_⟩
 ·exact⟨none,0,rfl,Nat.le_refl _,by decide⟩
 ·exact⟨_,cap,rfl,h1,h2⟩
theorem ownsRow_base {w:World} {base base':Nat} {e:TypeId} {size n:Nat} {v:Value} {xs:List Value} (h:w.ownsRow base e size v n xs) (hb: ∀k,v.ownBlock=some k→base'≤k):w.ownsRow base' e size v n xs:=by
 refine⟨h.1,?_⟩
 rcases h.2 with hn|⟨g,cap,cur,rfl,_,r⟩
 ·exact .inl hn
 ·exact .inr ⟨g,cap,cur,rfl,hb g rfl,r⟩
theorem add_none (b off j:Nat):(⟨b,off,none⟩:Addr).add j=⟨b,off+j,none⟩:=by
 unfold Addr.add;split<;>simp_all
theorem append_run {P:Program} (w:World) {t e:TypeId} {z:Value} {size bytes:Nat} (E:Elem P t e z size bytes) (ty:TypeId) (base:Nat)
  (v:Value) (n:Nat) (xs:List Value) (hown:w.ownsRow base e size v n xs) (F:Nat→Prop) (vx:Value) (news:List Value) (m:Nat) (hm:news.length=m * size) (hr:Rd w F vx size news) (h1: ∀u∈news,u.oneCell'=true)
  (h63:n+m≤maxLen) (hbytes:(n+m) * bytes≤140737488355328) (hbase:base≤w.heap.size):
  ∃A c w',(Builtin.append_ #[t,t] ty #[v,vx]).run P w= .ok (.slice A (n+m) c) w'∧w'.ownsRow base e size (.slice A (n+m) c) (n+m) (xs++news)∧w.grownBy w' v.ownBlock∧
   ((Value.slice A (n+m) c).ownBlock=v.ownBlock∨(Value.slice A (n+m) c).ownBlock=some w.heap.size):=by
 obtain⟨i,hi,hz,hsize,hby⟩:=info_parts E.info
 obtain⟨A,m',c,rfl,hc,hcm,hl,hcell⟩:=hr
 obtain rfl:m'=m:=Nat.eq_of_mul_eq_mul_right E.pos (by rw [←hl,hm])
 have hcs: ∀ad,A=some ad→ ∀j u,news[j]? =some u→w.cell? (ad.add j)=some u:=by
  intro ad hA j u hu
  have hlt:=(List.getElem?_eq_some_iff.1 hu).1
  rcases Nat.eq_zero_or_pos m' with h0|h0
  ·subst h0;simp at hl;subst hl;simp at hlt
  ·obtain⟨b,off,hA',_,hcs⟩:=hcell h0
   rw [hA]at hA'
   injection hA' with hA'
   subst hA'
   rw [add_none]
   exact hcs j u hu
 rcases A with _|ad
 ·have h0:m'=0:=by
   rcases Nat.eq_zero_or_pos m' with h0|h0
   ·exact h0
   ·obtain⟨b,off,hA',_⟩:=hcell h0;cases hA'
  subst h0
  obtain rfl:news=[]:=List.eq_nil_of_length_eq_zero (by simpa using hl)
  obtain⟨Av,cv,hv,_,_⟩:=ownsRow_shape hown
  refine⟨Av,cv,w,?_,by rw [hv]at hown;simpa using hown,World.grownBy.refl w _,.inl (by rw [hv];rfl)⟩
  rw [Nat.add_zero,←hv]
  rcases hown.2 with⟨rfl,rfl⟩|⟨g,cap,cur,rfl,_,_,hnc,_⟩
  ·simp [Builtin.append_,run_underlying E.slice,sizeOf,typeInfo,hi,Builtin.lenOf,Builtin.firstCells]
  ·simp [Builtin.append_,run_underlying E.slice,sizeOf,typeInfo,hi,Builtin.lenOf,Builtin.firstCells,hnc,storeCells]
 ·obtain⟨v',w',hrun,h2,h3,_,h5⟩:=run_append_own_at (P:=P) w base t ty e i z size bytes E.slice hi hz hsize hby E.zs E.pos v n xs hown ad m' c news hl (hcs ad rfl) h1 h63 hbytes hbase
  obtain⟨A',c',rfl,_,_⟩:=ownsRow_shape h2
  exact⟨A',c',w',hrun,h2,h3,h5⟩
theorem wp_append {P:Program} (w:World) {ops:Array Oper} {rest:List Oper} {o:Oper} {a:Act} {Q:Exit→Act→World→Prop} (hgd:o.guard=none) (s x:Operand) (t:TypeId)
  (ho:o.op= .call {callee:= .builtin .append,args:= #[s,x],argTypes:= #[t,t]}) {e:TypeId} {z:Value} {size bytes:Nat} (E:Elem P t e z size bytes) (base:Nat)
  (v:Value) (n:Nat) (xs:List Value) (hs:a.eval s=v) (hown:w.ownsRow base e size v n xs) (F:Nat→Prop) (vx:Value) (news:List Value) (m:Nat) (hx:a.eval x=vx) (hm:news.length=m * size) (hr:Rd w F vx size news) (h1: ∀u∈news,u.oneCell'=true)
  (h63:n+m≤maxLen) (hbytes:(n+m) * bytes≤140737488355328) (hbase:base≤w.heap.size)
  (h: ∀A c w',w'.ownsRow base e size (.slice A (n+m) c) (n+m) (xs++news)→w.grownBy w' v.ownBlock→((Value.slice A (n+m) c).ownBlock=v.ownBlock∨(Value.slice A (n+m) c).ownBlock=some w.heap.size)→wpList P ops Q rest (a.put o.dst (.slice A (n+m) c)) w'):
  wpList P ops Q (o::rest) a w:=by
 refine wpList_plain hgd fun _ hK=> ?_
 obtain⟨A,c,w',hrun,h2,h3,h4⟩:=append_run (P:=P) w E o.type base v n xs hown F vx news m hm hr h1 h63 hbytes hbase
 unfold Oper.wp execOp
 simp only [ho,resolve,invoke,builtin,Sem.run_bind,Sem.run_pure,Result.andThen_ok,List.map_toArray,List.map_cons,List.map_nil,hs,hx,hrun]
 exact hK _ _ (h A c w' h2 h3 h4)
theorem step_append {P:Program} (w:World) {ops:Array Oper} {o:Oper} {a:Act} {K:Act→World→Prop} {Q:Exit→Act→World→Prop} {E':Prop} (hgd:o.guard=none) (s x:Operand) (t:TypeId)
  (ho:o.op= .call {callee:= .builtin .append,args:= #[s,x],argTypes:= #[t,t]}) {e:TypeId} {z:Value} {size bytes:Nat} (E:Elem P t e z size bytes) (base:Nat)
  (v:Value) (n:Nat) (xs:List Value) (hs:a.eval s=v) (hown:w.ownsRow base e size v n xs) (F:Nat→Prop) (vx:Value) (news:List Value) (m:Nat) (hx:a.eval x=vx) (hm:news.length=m * size) (hr:Rd w F vx size news) (h1: ∀u∈news,u.oneCell'=true)
  (h63:n+m≤maxLen) (hbytes:(n+m) * bytes≤140737488355328) (hbase:base≤w.heap.size)
  (h: ∀A c w',w'.ownsRow base e size (.slice A (n+m) c) (n+m) (xs++news)→w.grownBy w' v.ownBlock→((Value.slice A (n+m) c).ownBlock=v.ownBlock∨(Value.slice A (n+m) c).ownBlock=some w.heap.size)→K (a.put o.dst (.slice A (n+m) c)) w'):
  if Region.wanted o (yielded ops a.tmps)=true then Oper.wp P o a w K Q else E':=by
 have hw:Region.wanted o (yielded ops a.tmps)=true:=by simp [Region.wanted,hgd]
 rw [if_pos hw]
 obtain⟨A,c,w',hrun,h2,h3,h4⟩:=append_run (P:=P) w E o.type base v n xs hown F vx news m hm hr h1 h63 hbytes hbase
 unfold Oper.wp execOp
 simp only [ho,resolve,invoke,builtin,Sem.run_bind,Sem.run_pure,Result.andThen_ok,List.map_toArray,List.map_cons,List.map_nil,hs,hx,hrun]
 exact h A c w' h2 h3 h4
theorem Rd.one {w:World} {e:TypeId} (us:List Value) (size:Nat) (hl:us.length=size):Rd (w.alloc (.cells us.toArray e)) (fun _=>True) (.slice (some ⟨w.heap.size,0,none⟩) 1 1) size us:=
 ⟨_,1,1,rfl,Nat.le_refl _,by decide,by simpa using hl,fun _=>⟨_,0,rfl,trivial,fun j u hu=>by
  rw [(Blk.new w e us.toArray).cell];simpa using hu⟩⟩
end Go.Proofs.YtalbfonkhpeajaaGreat
namespace Go.Proofs.YtalbfonkhpeajaaGreat
open Go.ChangeShapes Go.WideShapes Go.ChangeAt Go.RowKit Go.Deep
def RdL {X:Type} (w:World) (F:Nat→Prop) (k:Nat) (E:List Value→X→Prop) (v:Value) (xs:List X):Prop:=
 ∃A c,v= .slice A xs.length c∧xs.length≤c∧c≤maxLen∧
  (0<xs.length→ ∃b off,A=some ⟨b,off,none⟩∧F b∧ ∀i x,xs[i]? =some x→ ∃cs,cs.length=k∧E cs x∧ ∀j u,cs[j]? =some u→w.cell? ⟨b,off+i * k+j,none⟩=some u)
theorem RdL.touch {X:Type} {w w':World} {F S:Nat→Prop} {k:Nat} {E E':List Value→X→Prop} {v:Value} {xs:List X} (h:RdL w F k E v xs) (ht:Touch S w w') (hF: ∀b,F b→ ¬S b) (hE: ∀cs x,x∈xs→E cs x→E' cs x):RdL w' F k E' v xs:=by
 obtain⟨A,c,hv,hc,hm,hr⟩:=h
 refine⟨A,c,hv,hc,hm,fun hn=> ?_⟩
 obtain⟨b,off,hA,hb,hcell⟩:=hr hn
 refine⟨b,off,hA,hb,fun i x hx=> ?_⟩
 obtain⟨cs,hl,he,hu⟩:=hcell i x hx
 exact⟨cs,hl,hE _ _ (List.mem_of_getElem? hx) he,fun j u hj=>ht.cell (hu j u hj) (hF b hb)⟩
theorem RdL.below {X:Type} {w w':World} {F:Nat→Prop} {B k:Nat} {E E':List Value→X→Prop} {v:Value} {xs:List X} (h:RdL w F k E v xs) (ht:Below B w w') (hF: ∀b,F b→b<B) (hE: ∀cs x,x∈xs→E cs x→E' cs x):RdL w' F k E' v xs:=by
 obtain⟨A,c,hv,hc,hm,hr⟩:=h
 refine⟨A,c,hv,hc,hm,fun hn=> ?_⟩
 obtain⟨b,off,hA,hb,hcell⟩:=hr hn
 refine⟨b,off,hA,hb,fun i x hx=> ?_⟩
 obtain⟨cs,hl,he,hu⟩:=hcell i x hx
 exact⟨cs,hl,hE _ _ (List.mem_of_getElem? hx) he,fun j u hj=>(ht.cell (p:=⟨b,off+i * k+j,none⟩) (hF b hb)).trans (hu j u hj)⟩
theorem RdL.rd {X:Type} {w:World} {F:Nat→Prop} {f:X→Value} {v:Value} {xs:List X} (h:RdL w F 1 (fun cs x=>cs=[f x]) v xs):Rd w F v 1 (xs.map f):=by
 obtain⟨A,c,hv,hc,hm,hr⟩:=h
 refine⟨A,_,c,hv,hc,hm,by simp,fun hn=> ?_⟩
 obtain⟨b,off,hA,hb,hcell⟩:=hr hn
 refine⟨b,off,hA,hb,fun j u hu=> ?_⟩
 rw [List.getElem?_map]at hu
 obtain⟨x,hx,rfl⟩:=Option.map_eq_some_iff.1 hu
 obtain⟨cs,_,rfl,hc'⟩:=hcell j x hx
 simpa using hc' 0 (f x) rfl
theorem RdL.parts {X:Type} {w:World} {F:Nat→Prop} {k:Nat} {E:List Value→X→Prop} {p:X→Prop} {v:Value} {xs:List X} (h:RdL w F k (fun cs x=>E cs x∧p x) v xs):RdL w F k E v xs∧ ∀x∈xs,p x:=by
 obtain⟨A,c,hv,hc,hm,hr⟩:=h
 refine⟨⟨A,c,hv,hc,hm,fun hn=> ?_⟩,fun x hx=> ?_⟩
 ·obtain⟨b,off,hA,hb,hcell⟩:=hr hn
  exact⟨b,off,hA,hb,fun i x hx=>by obtain⟨cs,hl,he,hu⟩:=hcell i x hx;exact⟨cs,hl,he.1,hu⟩⟩
 ·obtain⟨i,hi,rfl⟩:=List.getElem_of_mem hx
  obtain⟨b,off,hA,hb,hcell⟩:=hr (by omega)
  obtain⟨cs,hl,he,hu⟩:=hcell i _ (List.getElem?_eq_getElem hi)
  exact he.2
section
variable {H : Type} {enc : TypeId × Value → H} {P : Program} {w : World} {sp : Nat → Bool}
abbrev Opens (enc:TypeId×Value→H) (P:Program) (w:World) (sp:Nat→Bool) (t:TypeId) {X:Type} (E:List Value→X→Prop):Prop:=
 ∀(n:Nat) (cs:List Value) (y:DataW H×List MemPlace),DataW.trod enc P w 0 sp true n t cs=some y→ ∃x:X,E cs x
theorem opens_int {t:TypeId} {k:IntKind} (ht:P.underlying t=some (.int k)):Opens enc P w sp t (fun cs (n:Int)=>cs=[.int k n]∧(Lit.int k n).wf=true):=by
 intro fuel cs y h
 obtain⟨n,h1,_,h2⟩:=DataW.trod_int ht h
 exact⟨n,h1,h2⟩
theorem trod_back (hl:laidOutB P=true) {t:TypeId} (hr:P.readableRec t=true) (hrow:t<P.types.size) {W W':World} {v:Value} {d:DataW H} {ps:List MemPlace}
  (h:DataW.Trod enc P W 0 (fun _=>true) true t v d ps) (hb:Below W.heap.size W W'):DataW.Trod enc P W' 0 (fun b=>decide (b<W.heap.size)) true t v d ps:=
 Below.trod hl hr hrow h hb (by obtain⟨n,hn⟩:=h;exact DataW.trod_lt n _ _ _ hn)
end
end Go.Proofs.YtalbfonkhpeajaaGreat
namespace Go.Proofs.YtalbfonkhpeajaaGreat
set_option linter.unusedVariables false
open Go.ChangeShapes Go.WideShapes Go.ChangeAt Go.RowKit Go.Deep
section
variable {H : Type} {enc : TypeId × Value → H} {P : Program} {w : World} {sp : Nat → Bool}
abbrev Reached (P:Program) (t:TypeId) (d:DataW H):Prop:= ∀x∈d.weights P t,x≤140737488351232
abbrev OpensZ (enc:TypeId×Value→H) (P:Program) (w:World) (sp:Nat→Bool) (t:TypeId) {X:Type} (E:List Value→X→Prop):Prop:=
 ∀(n:Nat) (cs:List Value) (y:DataW H×List MemPlace),DataW.trod enc P w 0 sp true n t cs=some y→Reached P t y.1→ ∃x:X,E cs x
theorem OpensZ.of {X:Type} {t:TypeId} {E:List Value→X→Prop} (h:Opens enc P w sp t E):OpensZ enc P w sp t E:=fun n cs y hy _=>h n cs y hy
theorem weightsAll_mem {e:TypeId} {d:DataW H}: ∀{l:List (DataW H)},d∈l→ ∀x∈d.weights P e,x∈DataW.weightsAll P e l
 |a::r,h,x,hx=>by
  rw [DataW.weightsAll,List.mem_append]
  rcases List.mem_cons.1 h with rfl|h
  ·exact .inl hx
  ·exact .inr (weightsAll_mem h x hx)
theorem opens_listZ {X:Type} {t e:TypeId} {k bytes:Nat} {E:List Value→X→Prop} (ht:P.underlying t=some (.slice e)) (hk:P.cellsOf e=k) (hk0:0<k) (hb:P.bytesOf e=bytes) (hE:OpensZ enc P w sp e E):
  OpensZ enc P w sp t (fun cs (xs:List X)=> ∃v,cs=[v]∧RdL w (· <w.heap.size) k E v xs∧xs.length * bytes≤140737488351232):=by
 intro fuel cs y h hreach
 rcases open_slice ht h with⟨rfl,rfl⟩|⟨a,len,cap,m,n,D,Pl,rfl,_,hl,hm,hmm,rfl,hi⟩
 ·exact⟨[],_,rfl,⟨none,0,rfl,Nat.le_refl _,by decide,fun h=>absurd h (by simp)⟩,by simp⟩
 ·rw [hk]at hi
  have hlm:len≤m:=by rw [hmm];split<;>omega
  have hw:DataW.weights P t (DataW.slice ((List.range len).map D) ((List.range (m - len)).map fun j=>D (len+j)))=
    (((List.range len).map D).length+((List.range (m - len)).map fun j=>D (len+j)).length) * P.bytesOf e::(DataW.weightsAll P e ((List.range len).map D)++DataW.weightsAll P e ((List.range (m - len)).map fun j=>D (len+j))):=by
   rw [DataW.weights,ht]
  have hsize:len * bytes≤140737488351232:=by
   have:=hreach _ (by rw [hw];exact List.mem_cons_self ..)
   rw [hb]at this
   simp only [List.length_map,List.length_range]at this
   exact Nat.le_trans (Nat.mul_le_mul_right _ (by omega)) this
  have each: ∀i,i<len→ ∃x:X,∃cs',cs'.length=k∧E cs' x∧ ∀j,j<k→w.cell? ((a.add (i * k)).add j)=cs'[j]? :=fun i hlt=>by
   obtain⟨cs',hc,ht'⟩:=hi i (by omega)
   obtain⟨x,hx⟩:=hE _ _ _ ht' (fun x hx=>hreach x (by
    rw [hw]
    refine List.mem_cons_of_mem _ (List.mem_append.2 (.inl (weightsAll_mem (d:=D i) ?_ x hx)))
    exact List.mem_map.2 ⟨i,List.mem_range.2 hlt,rfl⟩))
   obtain⟨_,hcl,hat⟩:=World.cells?_some hc
   exact⟨x,cs',hcl,hx,hat⟩
  obtain⟨xs,hxl,hxs⟩: ∃xs:List X,xs.length=len∧ ∀i x,xs[i]? =some x→ ∃cs',cs'.length=k∧E cs' x∧ ∀j,j<k→w.cell? ((a.add (i * k)).add j)=cs'[j]? :=by
   refine⟨List.ofFn fun i:Fin len=>(each i.1 i.2).choose,by simp,fun i x hx=> ?_⟩
   obtain⟨hlt,rfl⟩:=List.getElem?_eq_some_iff.1 hx
   simp only [List.length_ofFn]at hlt
   rw [List.getElem_ofFn]
   exact(each i hlt).choose_spec
  refine⟨xs,_,rfl,⟨some a,cap,by rw [hxl],by omega,hm,fun hn=> ?_⟩,by rw [hxl];exact hsize⟩
  obtain⟨b,off,spot⟩:=a
  obtain⟨cs0,hc0,_,hat0⟩:=hxs 0 _ (List.getElem?_eq_getElem hn)
  have h00:=hat0 0 hk0
  rw [List.getElem?_eq_getElem (by omega)]at h00
  have hspot:spot=none:=by
   have:=World.cell?_spot h00
   simpa [Addr.add]using this
  subst hspot
  have hlt:=World.block_lt_of_cell? w _ h00
  rw [add_none,add_none]at hlt
  refine⟨b,off,rfl,hlt,fun i x hx=> ?_⟩
  obtain⟨cs',hcl,hex,hat⟩:=hxs i x hx
  refine⟨cs',hcl,hex,fun j u hu=> ?_⟩
  have hj:=(List.getElem?_eq_some_iff.1 hu).1
  have:=hat j (by omega)
  rw [add_none,add_none]at this
  rw [this,hu]
theorem weightsEach_get: ∀{ts:List TypeId} {ds:List (DataW H)} {j:Nat} {t:TypeId} {d:DataW H},ts[j]? =some t→ds[j]? =some d→ ∀x∈d.weights P t,x∈DataW.weightsEach P ts ds
 |t'::ts,d'::ds,0,t,d,ht,hd,x,hx=>by
  simp at ht hd
  subst ht hd
  rw [DataW.weightsEach,List.mem_append]
  exact .inl hx
 |t'::ts,d'::ds,j+1,t,d,ht,hd,x,hx=>by
  rw [DataW.weightsEach,List.mem_append]
  exact .inr (weightsEach_get (j:=j) (by simpa using ht) (by simpa using hd) x hx)
theorem field_open {X:Type} {t:TypeId} {fs:Array Field} {n:Nat} {cs:List Value} {y:DataW H×List MemPlace} (ht:P.underlying t=some (.struct fs)) (hone:oneCellFields P fs=true) (h:DataW.trod enc P w 0 sp true n t cs=some y) (hr:Reached P t y.1)
  (j:Nat) (f:Field) (hf:fs[j]? =some f) (hj:j<cs.length) {E:List Value→X→Prop} (hE:OpensZ enc P w sp f.type E): ∃x,E [cs[j]] x:=by
 obtain⟨xs,n',_,hy,hlen,hxl,hg⟩:=DataW.trod_struct ht h
 obtain⟨o,k⟩:=hone_of hone j f hf
 have g:=hg j f hf
 rw [o,k]at g
 have hjl:j<xs.length:=by rw [hxl];exact(Array.getElem?_eq_some_iff.1 hf).1
 rw [List.getElem?_eq_getElem hjl]at g
 have h1:(cs.drop j).take 1=[cs[j]]:=by rw [List.drop_eq_getElem_cons hj];rfl
 rw [h1]at g
 refine hE _ _ _ g (fun x hx=>hr x ?_)
 rw [hy]
 show x∈DataW.weights P t (DataW.agg (xs.map (·.1)))
 rw [DataW.weights,ht]
 refine weightsEach_get (j:=j) (t:=f.type) (d:=(xs[j]).1) ?_ ?_ x hx
 ·rw [List.getElem?_map];simp [hf]
 ·rw [List.getElem?_map,List.getElem?_eq_getElem hjl];rfl
theorem struct_len {t:TypeId} {fs:Array Field} {n:Nat} {cs:List Value} {y:DataW H×List MemPlace} (ht:P.underlying t=some (.struct fs)) (h:DataW.trod enc P w 0 sp true n t cs=some y):cs.length=P.cellsOf t:=by
 obtain⟨xs,n',_,hy,hlen,_⟩:=DataW.trod_struct ht h
 exact hlen
theorem opens_struct2Z {X Y:Type} {t:TypeId} {f0 f1:Field} {E0:List Value→X→Prop} {E1:List Value→Y→Prop} (ht:P.underlying t=some (.struct #[f0,f1])) (hone:oneCellFields P #[f0,f1]=true) (hC:P.cellsOf t=2)
  (h0:OpensZ enc P w sp f0.type E0) (h1:OpensZ enc P w sp f1.type E1):OpensZ enc P w sp t (fun cs (x:X×Y)=> ∃c0 c1,cs=[c0,c1]∧E0 [c0] x.1∧E1 [c1] x.2):=by
 intro n cs y h hr
 have hl:=(struct_len ht h).trans hC
 match cs,hl with
 |[c0,c1],_=>
  obtain⟨x,hx⟩:=field_open ht hone h hr 0 f0 rfl (by simp) h0
  obtain⟨z,hz⟩:=field_open ht hone h hr 1 f1 rfl (by simp) h1
  exact⟨(x,z),c0,c1,rfl,by simpa using hx,by simpa using hz⟩
theorem opens_struct4Z {X Y Z U:Type} {t:TypeId} {f0 f1 f2 f3:Field} {E0:List Value→X→Prop} {E1:List Value→Y→Prop} {E2:List Value→Z→Prop} {E3:List Value→U→Prop} (ht:P.underlying t=some (.struct #[f0,f1,f2,f3])) (hone:oneCellFields P #[f0,f1,f2,f3]=true) (hC:P.cellsOf t=4)
  (h0:OpensZ enc P w sp f0.type E0) (h1:OpensZ enc P w sp f1.type E1) (h2:OpensZ enc P w sp f2.type E2) (h3:OpensZ enc P w sp f3.type E3):
  OpensZ enc P w sp t (fun cs (x:X×Y×Z×U)=> ∃c0 c1 c2 c3,cs=[c0,c1,c2,c3]∧E0 [c0] x.1∧E1 [c1] x.2.1∧E2 [c2] x.2.2.1∧E3 [c3] x.2.2.2):=by
 intro n cs y h hr
 have hl:=(struct_len ht h).trans hC
 match cs,hl with
 |[c0,c1,c2,c3],_=>
  obtain⟨x,hx⟩:=field_open ht hone h hr 0 f0 rfl (by simp) h0
  obtain⟨z,hz⟩:=field_open ht hone h hr 1 f1 rfl (by simp) h1
  obtain⟨u,hu⟩:=field_open ht hone h hr 2 f2 rfl (by simp) h2
  obtain⟨v,hv⟩:=field_open ht hone h hr 3 f3 rfl (by simp) h3
  exact⟨(x,z,u,v),c0,c1,c2,c3,rfl,by simpa using hx,by simpa using hz,by simpa using hu,by simpa using hv⟩
theorem reached_of {ts:List TypeId} {ds:List (DataW H)} (h:(DataW.weightsEach P ts ds).all (· ≤reachBytes)=true) {j:Nat} {t:TypeId} {d:DataW H} (ht:ts[j]? =some t) (hd:ds[j]? =some d):Reached P t d:=fun x hx=>by
 have:=List.all_eq_true.1 h x (weightsEach_get ht hd x hx)
 exact of_decide_eq_true this
end
end Go.Proofs.YtalbfonkhpeajaaGreat

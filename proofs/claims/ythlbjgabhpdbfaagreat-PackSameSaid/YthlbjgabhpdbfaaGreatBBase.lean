/- Words and lemmas that are of no program: which blocks a call may turn, a slice that reads as a list of cells, a block that is known whole.
  Conditions: none. -/
import Derived.WalkKit
import Derived.Maps.OwnSet
import Derived.BigQuiet
import Derived.Deep.QuietTactic
import Derived.Deep.Draws
import Derived.Deep.RegionHeld3
import Derived.Deep.DeepFit
import Derived.WalkSpells
import Derived.Deep.LoopGhost
import Derived.Deep.Slices
import Derived.ChangeSame
import Derived.StillTailTactics
import Derived.Maps.AppendAt
import Derived.Deep.AppendLies
import Derived.Laws.CopyOwn
import Derived.ProofKit
import Derived.OpenShut
import Derived.ShutString
import Derived.ChangeOld
import Derived.Carry
import Derived.Deep.Fields
import Derived.SizedLaws
import Derived.Test.YthlbjgabhpdbfaaGreatProg
import Derived.Laws.MakeOwn
set_option linter.unusedVariables false
set_option maxRecDepth 100000
set_option maxHeartbeats 1000000
namespace Go.Proofs.YthlbjgabhpdbfaaGreat
open Go.Proofs.Tryz
open Int renaming eq_ofNat_of_zero_le->Za,toNat_natCast->Zb
open List renaming eq_nil_of_length_eq_zero->Zc,map_cons->Zd,map_nil->Ze,mem_append->Zf,mem_map->Zg,mem_of_getElem?->Zh
open Nat renaming le_refl->Zi,le_trans->Zj,lt_of_lt_of_le->Zk,mod_eq_of_lt->Zl
open Go.RowKit
theorem ab {p:Prop} (h:p):Hid p:=h
theorem av {d e:Prop} (f:d) (h:e):Hid d/\Hid e:=⟨ab f,ab h⟩
theorem aK {d e f:Prop} (h:d) (i:e) (j:f):Hid d/\Hid e/\Hid f:=⟨ab h,ab i,ab j⟩
theorem aA {d e f h:Prop} (i:d) (j:e) (k:f) (l:h):Hid d/\Hid e/\Hid f/\Hid h:=⟨ab i,ab j,ab k,ab l⟩
theorem aX {d e f h i:Prop} (j:d) (k:e) (l:f) (m:h) (n:i):Hid d/\Hid e/\Hid f/\Hid h/\Hid i:=⟨ab j,ab k,ab l,ab m,ab n⟩
theorem aM {d e f h i j:Prop} (k:d) (l:e) (m:f) (n:h) (o:i) (p:j):Hid d/\Hid e/\Hid f/\Hid h/\Hid i/\Hid j:=⟨ab k,ab l,ab m,ab n,ab o,ab p⟩
theorem de {d e f h i j k:Prop} (l:d) (m:e) (n:f) (o:h) (p:i) (q:j) (r:k):Hid d/\Hid e/\Hid f/\Hid h/\Hid i/\Hid j/\Hid k:=⟨ab l,ab m,ab n,ab o,ab p,ab q,ab r⟩
theorem dA {d e f h i j k l:Prop} (m:d) (n:e) (o:f) (p:h) (q:i) (r:j) (s:k) (u:l):Hid d/\Hid e/\Hid f/\Hid h/\Hid i/\Hid j/\Hid k/\Hid l:=⟨ab m,ab n,ab o,ab p,ab q,ab r,ab s,ab u⟩
theorem dQ {d e f h i j k l m:Prop} (n:d) (o:e) (p:f) (q:h) (r:i) (s:j) (u:k) (x:l) (y:m):Hid d/\Hid e/\Hid f/\Hid h/\Hid i/\Hid j/\Hid k/\Hid l/\Hid m:=⟨ab n,ab o,ab p,ab q,ab r,ab s,ab u,ab x,ab y⟩
theorem fp {d e f h i j k l m n:Prop} (o:d) (p:e) (q:f) (r:h) (s:i) (u:j) (x:k) (y:l) (z:m) (A:n):Hid d/\Hid e/\Hid f/\Hid h/\Hid i/\Hid j/\Hid k/\Hid l/\Hid m/\Hid n:=⟨ab o,ab p,ab q,ab r,ab s,ab u,ab x,ab y,ab z,ab A⟩
theorem fa {d e h i j k l m n o f:Prop} (p:d) (q:e) (s:h) (u:i) (x:j) (y:k) (z:l) (A:m) (B:n) (C:o) (r:f):Hid d/\Hid e/\Hid h/\Hid i/\Hid j/\Hid k/\Hid l/\Hid m/\Hid n/\Hid o/\Hid f:=⟨ab p,ab q,ab s,ab u,ab x,ab y,ab z,ab A,ab B,ab C,ab r⟩
theorem gx {d e i j k l m n o p f h:Prop} (q:d) (r:e) (x:i) (y:j) (z:k) (A:l) (B:m) (C:n) (D:o) (E:p) (s:f) (u:h):Hid d/\Hid e/\Hid i/\Hid j/\Hid k/\Hid l/\Hid m/\Hid n/\Hid o/\Hid p/\Hid f/\Hid h:=⟨ab q,ab r,ab x,ab y,ab z,ab A,ab B,ab C,ab D,ab E,ab s,ab u⟩
theorem pZ {d e j k l m n o p q f h i:Prop} (r:d) (s:e) (z:j) (A:k) (B:l) (C:m) (D:n) (E:o) (G:p) (I:q) (u:f) (x:h) (y:i):Hid d/\Hid e/\Hid j/\Hid k/\Hid l/\Hid m/\Hid n/\Hid o/\Hid p/\Hid q/\Hid f/\Hid h/\Hid i:=⟨ab r,ab s,ab z,ab A,ab B,ab C,ab D,ab E,ab G,ab I,ab u,ab x,ab y⟩
theorem dh {d e k l m n o p q r f h i j:Prop} (s:d) (u:e) (B:k) (C:l) (D:m) (E:n) (G:o) (I:p) (J:q) (K:r) (x:f) (y:h) (z:i) (A:j):Hid d/\Hid e/\Hid k/\Hid l/\Hid m/\Hid n/\Hid o/\Hid p/\Hid q/\Hid r/\Hid f/\Hid h/\Hid i/\Hid j:=⟨ab s,ab u,ab B,ab C,ab D,ab E,ab G,ab I,ab J,ab K,ab x,ab y,ab z,ab A⟩
theorem vj {a b:ByteArray} (h:a.data=b.data):a=b:=by cases a;cases b;cases h;rfl
instance:DecidableEq ByteArray:=λa b=>if h:a.data=b.data then isTrue (vj h)else isFalse λe=>h (by rw [e])
def lZ (xs:List ByteArray) (s:ByteArray):Int:=match xs.findIdx? (λx=>decide (x=s))with|some i=>(i:Int)|none=> -1
theorem BV {xs:List ByteArray} {s:ByteArray} (h:s∉xs):lZ xs s= -1:=by
 have:xs.findIdx? (λd=>decide (d=s))=none:=by
  rw [List.findIdx?_eq_none_iff];intro d e;simp;rintro rfl;exact h e
 simp [lZ,this]
theorem zW {xs:List ByteArray} {s:ByteArray} (h:s∈xs): ∃e:Nat,xs[e]? =some s/\(∀f:Nat,f<e->xs[f]? ≠some s)/\lZ xs s=e:=by
 rcases d:xs.findIdx? (λm=>decide (m=s))with _|e
 ·rw [List.findIdx?_eq_none_iff]at d;have:=d s h;simp at this
 ·have i:=d;rw [List.findIdx?_eq_some_iff_getElem]at d;obtain⟨hi,l,j⟩:=d;refine⟨e,by rw [List.getElem?_eq_getElem hi];simpa using l,λf k=> ?_,by simp [lZ,i]⟩;have:=j f k;rw [List.getElem?_eq_getElem (by omega)];simpa using this
theorem BW {xs:List ByteArray} {s:ByteArray}:0<=lZ xs s↔s∈xs:=by
 by_cases h:s∈xs
 ·obtain⟨e,_,_,d⟩:=zW h;simp [h,d]
 ·rw [BV h];simp [h]
instance (s:ByteArray) (xs:List ByteArray):Decidable (s∈xs):=decidable_of_iff (0<=lZ xs s) BW
theorem au {k:IntKind} {a b:Int} (h:a=b):Ending.returned (.int k a)= .returned (.int k b):=by rw [h]
theorem af {a b:Bool} (h:a=b):Ending.returned (.bool a)= .returned (.bool b):=by rw [h]
theorem Dg {a b c d e f:Value} (h:a=d) (i:b=e) (j:c=f):Ending.returned (.tuple #[a,b,c])= .returned (.tuple #[d,e,f]):=by rw [h,i,j]
theorem rO {k:IntKind} {a b:Int} (h:a=b):Value.int k a=Value.int k b:=by rw [h]
theorem zH (s:ByteArray):s.toList.length=s.size:=by rw [ByteArray.toList_eq];rfl
theorem sj (s:ByteArray):s.toList=[]↔s.size=0:=by rw [<-zH];exact List.length_eq_zero_iff.symm
theorem pV (s:ByteArray):s.toList.isEmpty=decide (s.size=0):=by
 rw [Bool.eq_iff_iff,List.isEmpty_iff,sj];simp
theorem bX {P:Program} {id:Nat} {Q:Exit->Act->World->Prop} {a:Act} {w:World} {l:List Oper} (n:Nat) (hm:P.follows .mixedOrders=true) (e:Region.lexTailB .any l.toArray n=true)
  (h:wpStill P l.toArray w.drew (λd=>wpList P l.toArray Q (l.drop n) d w.drew) (l.take n) a):(Code.region id l.toArray true).wp P Q a w:=
 wp_region_still_tail n hm e h
structure aa (S:Nat->Prop) (w w':World):Prop where
 os:w'.os=w.os
 tape:w'.tape=w.tape
 output:w'.output=w.output
 size:w.heap.size<=w'.heap.size
 block: ∀k,k<w.heap.size-> ¬S k->w'.heap[k]? =w.heap[k]?
section
variable {S S' : Nat -> Prop} {w w' a b c : World}
theorem aa.refl (S:Nat->Prop) (w:World):aa S w w:=⟨rfl,rfl,rfl,Zi _,λ_ _ _=>rfl⟩
theorem aa.trans (h:aa S a b) (k:aa S' b c) (f: ∀d,d<a.heap.size->S' d->S d):aa S a c:=
 ⟨k.os.trans h.os,k.tape.trans h.tape,k.output.trans h.output,Zj h.size k.size,
  λd hi e=>(k.block d (Zk hi h.size) (λi=>e (f d hi i))).trans (h.block d hi e)⟩
theorem aa.trans' (h:aa S a b) (k:aa S b c):aa S a c:=h.trans k λ_ _ d=>d
theorem aa.mono (h:aa S a b) (e: ∀d,d<a.heap.size->S d->S' d):aa S' a b:=
 ⟨h.os,h.tape,h.output,h.size,λd hi f=>h.block d hi λi=>f (e d hi i)⟩
theorem aa.drew (h:aa S a b):aa S a b.drew:=⟨h.os,h.tape,h.output,h.size,h.block⟩
theorem aa.drewN (h:aa S a b) (n:Nat):aa S a (b.drewN n):=⟨h.os,h.tape,h.output,h.size,h.block⟩
theorem aa.alloc (h:aa S a b) (o:Obj):aa S a (b.alloc o):=
 h.trans' ⟨rfl,rfl,rfl,by simp,λe d _=>Below.heap_alloc _ _ _ d⟩
theorem aa.setCell (h:aa S a b) {p:Addr} (f:p.block<a.heap.size->S p.block) (u:Value):aa S a (b.setCell p u):=
 ⟨h.os,h.tape,h.output,by simpa [World.setCell]using h.size,λi hi d=>(Below.heap_setCell _ _ _ _ (λe=>d (by rw [e];exact f (e▸hi)))).trans (h.block i hi d)⟩
theorem aa.grown {k:Option Nat} (h:aa S a b) (d:b.grownBy c k) (l: ∀i,k=some i->i<a.heap.size->S i):aa S a c:=
 ⟨d.os.trans h.os,d.tape.trans h.tape,d.output.trans h.output,Zj h.size d.size,
  λf hi j=>(d.block f (Zk hi h.size) (λe=>j (l f e.symm hi))).trans (h.block f hi j)⟩
theorem aa.below {B:Nat} (h:aa S a b) (e: ∀d,d<B->d<a.heap.size-> ¬S d) (f:B<=a.heap.size):Below B a b:=
 ⟨h.os,h.tape,h.output,h.size,λd hi=>h.block d (by omega) (e d hi (by omega))⟩
theorem aa.of_below {B:Nat} (h:Below B a b):aa (λf=>B<=f) a b:=⟨h.os,h.tape,h.output,h.size,λe _ d=>h.block e (by simpa using d)⟩
theorem aa.of_size (h:Below a.heap.size a b) (S:Nat->Prop):aa S a b:=⟨h.os,h.tape,h.output,h.size,λd hi _=>h.block d hi⟩
theorem aa.cell (h:aa S w w') {p:Addr} {u:Value} (d:w.cell? p=some u) (e: ¬S p.block):w'.cell? p=some u:=
 (World.cell?_of_block (h.block _ (World.block_lt_of_cell? w p d) e)).trans d
theorem aa.own {base:Nat} {e:TypeId} {size n:Nat} {v:Value} {xs:List Value} (h:aa S w w') (f:w.ownsRow base e size v n xs) (l: ∀i,v.ownBlock=some i-> ¬S i):w'.ownsRow base e size v n xs:=by
 refine⟨f.1,?_⟩;rcases f.2 with o|⟨g,j,k,rfl,m,d,p⟩
 ·exact .inl o
 ·exact .inr ⟨g,j,k,rfl,m,(h.block g (Array.getElem?_eq_some_iff.1 d).1 (l g rfl)).trans d,p⟩
theorem aa.ownsMap {H:Type} {P:Program} {k:TypeId} {R:Value->Option (DataW H×List MemPlace)} {n m:Nat} {D:DataW H} (h:aa S w w') (d:w.ownsMap P k R m n D) (i: ¬S m):w'.ownsMap P k R m n D:=by
 have l:=d.lt;obtain⟨f,e,j,o⟩:=d;exact⟨f,e,(h.block m l i).trans j,o⟩
end
def New (S:Nat->Prop) (w w':World) (k:Nat):Prop:=S k\/(w.heap.size<=k/\k<w'.heap.size)
theorem aa.toBelow {w w':World} {S:Nat->Prop} {B:Nat} {w0:World} (h:aa S w w') (f: ∀d,S d->B<=d) (i:Below B w0 w) (e:B<=w.heap.size):Below B w0 w':=
 i.trans (h.below (λd k _ j=>by have:=f d j;omega) e)
def Blk (w:World) (g:Nat) (t:TypeId) (cs:Array Value):Prop:=w.heap[g]? =some (.cells cs t (0,0))
section
variable {w w' : World} {g g' : Nat} {t t' : TypeId} {cs cs' : Array Value} {S : Nat -> Prop}
theorem Blk.lt (h:Blk w g t cs):g<w.heap.size:=(Array.getElem?_eq_some_iff.1 h).1
theorem Blk.cell (h:Blk w g t cs) (i:Nat):w.cell? ⟨g,i,none⟩=cs[i]? :=cell_of_row w g i cs t (0,0) h
theorem Blk.frozen (h:Blk w g t cs) (i:Nat):w.frozen? ⟨g,i,none⟩=false:=by
 unfold Blk at h;simp [World.frozen?,h]
theorem Blk.new (w:World) (t:TypeId) (cs:Array Value):Blk (w.alloc (.cells cs t)) w.heap.size t cs:=heap_alloc_new w _
theorem Blk.drew (h:Blk w g t cs):Blk w.drew g t cs:=h
theorem Blk.alloc (h:Blk w g t cs) (o:Obj):Blk (w.alloc o) g t cs:=(Below.heap_alloc w o g h.lt).trans h
theorem Blk.put (h:Blk w g t cs) (i:Nat) (u:Value):Blk (w.setCell ⟨g,i,none⟩ u) g t (cs.setIfInBounds i u):=by
 unfold Blk at h⊢;simp [World.setCell,Array.getElem?_modify,h]
theorem Blk.far (h:Blk w g t cs) {p:Addr} (d:g≠p.block) (u:Value):Blk (w.setCell p u) g t cs:=(Below.heap_setCell w p u g d).trans h
theorem Blk.below {B:Nat} (h:Blk w g t cs) (d:Below B w w') (e:g<B):Blk w' g t cs:=(d.block g e).trans h
theorem Blk.touch (h:Blk w g t cs) (d:aa S w w') (e: ¬S g):Blk w' g t cs:=(d.block g h.lt e).trans h
theorem Blk.grown {d:Option Nat} (h:Blk w g t cs) (e:w.grownBy w' d) (f:some g≠d):Blk w' g t cs:=(e.block g h.lt f).trans h
theorem Blk.ne (h:Blk w g t cs) (d:Blk w g' t' cs') (e:t≠t'):g≠g':=by
 rintro rfl;unfold Blk at h d;rw [h]at d;injection d with d
 injection d with _ f
 exact e f
theorem Blk.ne_map {H:Type} {P:Program} {k:TypeId} {R:Value->Option (DataW H×List MemPlace)} {n m:Nat} {D:DataW H} (d:Blk w g t cs) (f:w.ownsMap P k R m n D):m≠g:=by
 rintro rfl;obtain⟨i,h,e,_⟩:=f;unfold Blk at d;rw [e]at d;cases d
theorem sL {H:Type} {P:Program} {k:TypeId} {R:Value->Option (DataW H×List MemPlace)} {n' m:Nat} {D:DataW H} {base:Nat} {e:TypeId} {size n:Nat} {v:Value} {xs:List Value} (h:w.ownsRow base e size v n xs) (j:w.ownsMap P k R m n' D):v.ownBlock≠some m:=by
 rcases h.2 with⟨rfl,_⟩|⟨g',l,p,rfl,_,d,_⟩
 ·simp [Value.ownBlock]
 ·intro i;have:g'=m:=by simpa [Value.ownBlock]using i
  subst this;obtain⟨q,o,f,_⟩:=j;rw [f]at d;cases d
end
def Rd (w:World) (F:Nat->Prop) (v:Value) (size:Nat) (xs:List Value):Prop:=
 ∃A n c,v= .slice A n c/\n<=c/\c<=maxLen/\xs.length=n * size/\
  (0<n-> ∃b off,A=some ⟨b,off,none⟩/\F b/\ ∀j u,xs[j]? =some u->w.cell? ⟨b,off+j,none⟩=some u)
section
variable {w w' : World} {F F' S : Nat -> Prop} {v : Value} {size : Nat} {xs : List Value}
theorem Rd.touch (h:Rd w F v size xs) (p:aa S w w') (j: ∀e,F e-> ¬S e):Rd w' F v size xs:=by
 obtain⟨f,u,c,r,k,hm,m,o⟩:=h;refine⟨f,u,c,r,k,hm,m,λn=> ?_⟩;obtain⟨b,x,i,d,l⟩:=o n;exact⟨b,x,i,d,λs y q=>p.cell (l s y q) (j b d)⟩
theorem Rd.below {B:Nat} (h:Rd w F v size xs) (r:Below B w w') (l: ∀f,F f->f<B):Rd w' F v size xs:=by
 obtain⟨j,x,c,u,m,hm,o,q⟩:=h;refine⟨j,x,c,u,m,hm,o,λp=> ?_⟩;obtain⟨b,i,k,d,n⟩:=q p;exact⟨b,i,k,d,λe y s=>(r.cell (p:=⟨b,i+e,none⟩) (l b d)).trans (n e y s)⟩
theorem Rd.mono (h:Rd w F v size xs) (i: ∀d,F d->F' d):Rd w F' v size xs:=by
 obtain⟨e,q,c,p,k,hm,m,o⟩:=h;refine⟨e,q,c,p,k,hm,m,λn=> ?_⟩;obtain⟨b,r,f,j,l⟩:=o n;exact⟨b,r,f,i b j,l⟩
theorem Rd.drew (h:Rd w F v size xs):Rd w.drew F v size xs:=h
theorem Rd.drewN (h:Rd w F v size xs) (n:Nat):Rd (w.drewN n) F v size xs:=h
theorem Rd.nil (w:World) (F:Nat->Prop) (size:Nat):Rd w F (.slice none 0 0) size []:=⟨none,0,0,rfl,Zi _,by decide,by simp,λh=>absurd h (by omega)⟩
theorem Rd.of_own {base:Nat} {e:TypeId} {n:Nat} (h:w.ownsRow base e size v n xs):Rd w (λo=>v.ownBlock=some o) v size xs:=by
 rcases h.2 with⟨rfl,rfl⟩|⟨g,p,f,rfl,q,j,k,i,r,l⟩
 ·have:xs=[]:=Zc (by simpa using h.1);subst this;exact Rd.nil _ _ _
 ·refine⟨_,_,_,rfl,k,i,h.1,λ_=>⟨g,0,rfl,rfl,λm s d=> ?_⟩⟩;rw [cell_of_row w g (0+m) f e (0,0) j,Nat.zero_add];rw [<-l,List.getElem?_take]at d
  split at d
  ·simpa using d
  ·cases d
end
theorem kd {w:World} {p:Addr} {u:Value} (h:w.cell? p=some u): ∀(o:Obj),(w.alloc o).cell? p=some u:=
 λo=>(World.cell?_alloc_lt w o p (World.block_lt_of_cell? w p h)).trans h
structure dZ (P:Program) (t e:TypeId) (z:Value) (size bytes:Nat):Prop where
 slice:P.underlying t=some (.slice e)
 info:(P.info? e).map (λi=>(i.zero,i.size,i.bytes))=some (some z,size,bytes)
 zs:z.cells.size=size
 pos:0<size
theorem vH {w:World} {base:Nat} {e:TypeId} {size n:Nat} {v:Value} {xs:List Value} (h:w.ownsRow base e size v n xs) (k:Nat):(w.drewN k).ownsRow base e size v n xs:=h
theorem bH {w:World} {base:Nat} {e:TypeId} {size n:Nat} {v:Value} {xs:List Value} (h:w.ownsRow base e size v n xs): ∃d c,v= .slice d n c/\n<=c/\c<=maxLen:=by
 rcases h.2 with⟨rfl,rfl⟩|⟨g,f,k,rfl,_,_,i,j,_⟩
 ·exact⟨none,0,rfl,Zi _,by decide⟩
 ·exact⟨_,f,rfl,i,j⟩
theorem lP {w:World} {base base':Nat} {e:TypeId} {size n:Nat} {v:Value} {xs:List Value} (h:w.ownsRow base e size v n xs) (j: ∀d,v.ownBlock=some d->base'<=d):w.ownsRow base' e size v n xs:=by
 refine⟨h.1,?_⟩;rcases h.2 with k|⟨g,f,i,rfl,_,l⟩
 ·exact .inl k
 ·exact .inr ⟨g,f,i,rfl,j g rfl,l⟩
theorem fJ (b d j:Nat):(⟨b,d,none⟩:Addr).add j=⟨b,d+j,none⟩:=by
 unfold Addr.add;split<;>simp_all
theorem tK {P:Program} (w:World) {t e:TypeId} {z:Value} {size r:Nat} (E:dZ P t e z size r) (B:TypeId) (base:Nat)
  (v:Value) (n:Nat) (xs:List Value) (o:w.ownsRow base e size v n xs) (F:Nat->Prop) (C:Value) (h:List Value) (m:Nat) (hm:h.length=m * size) (W:Rd w F C size h) (K: ∀k∈h,k.oneCell'=true)
  (N:n+m<=maxLen) (T:(n+m) * r<=140737488355328) (Q:base<=w.heap.size):
  ∃f c w',(Builtin.append_ #[t,t] B #[v,C]).run P w= .ok (.slice f (n+m) c) w'/\w'.ownsRow base e size (.slice f (n+m) c) (n+m) (xs++h)/\w.grownBy w' v.ownBlock/\
   ((Value.slice f (n+m) c).ownBlock=v.ownBlock\/(Value.slice f (n+m) c).ownBlock=some w.heap.size):=by
 obtain⟨ad,hi,Z,Y,R⟩:=info_parts E.info;obtain⟨f,p,c,rfl,an,ap,l,y⟩:=W;obtain rfl:p=m:=Nat.eq_of_mul_eq_mul_right E.pos (by rw [<-l,hm]);have s: ∀i,f=some i-> ∀q k,h[q]? =some k->w.cell? (i.add q)=some k:=by
  intro i O q k A;have U:=(List.getElem?_eq_some_iff.1 A).1;rcases Nat.eq_zero_or_pos p with d|d
  ·subst d;simp at l;subst l;simp at U
  ·obtain⟨b,ai,j,_,s⟩:=y d;rw [O]at j;injection j with j
   subst j;rw [fJ];exact s q k A
 rcases f with _|i
 ·have d:p=0:=by
   rcases Nat.eq_zero_or_pos p with d|d
   ·exact d
   ·obtain⟨b,ai,j,_⟩:=y d;cases j
  subst d;obtain rfl:h=[]:=Zc (by simpa using l);obtain⟨G,J,u,_,_⟩:=bH o;refine⟨G,J,w,?_,by rw [u]at o;simpa using o,World.grownBy.refl w _,.inl (by rw [u];rfl)⟩;rw [Nat.add_zero,<-u];rcases o.2 with⟨rfl,rfl⟩|⟨g,ak,al,rfl,_,_,V,_⟩
  ·simp [Builtin.append_,run_underlying E.slice,sizeOf,typeInfo,hi,Builtin.lenOf,Builtin.firstCells]
  ·simp [Builtin.append_,run_underlying E.slice,sizeOf,typeInfo,hi,Builtin.lenOf,Builtin.firstCells,V,storeCells]
 ·obtain⟨aS,w',X,x,L,_,M⟩:=run_append_own_at (P:=P) w base t B e ad z size r E.slice hi Z Y R E.zs E.pos v n xs o i p c h l (s i rfl) K N T Q;obtain⟨D,I,rfl,_,_⟩:=bH x;exact⟨D,I,w',X,x,L,M⟩
theorem aJ {P:Program} (w:World) {n:Array Oper} {rest:List Oper} {o:Oper} {a:Act} {Q:Exit->Act->World->Prop} (D:o.guard=none) (s x:Operand) (t:TypeId)
  (E:o.op= .call {callee:= .builtin .append,args:= #[s,x],argTypes:= #[t,t]}) {e:TypeId} {N:Value} {size m:Nat} (p:dZ P t e N size m) (k:Nat)
  (v:Value) (f:Nat) (xs:List Value) (K:a.eval s=v) (G:w.ownsRow k e size v f xs) (F:Nat->Prop) (l:Value) (j:List Value) (d:Nat) (L:a.eval x=l) (hm:j.length=d * size) (I:Rd w F l size j) (q: ∀M∈j,M.oneCell'=true)
  (z:f+d<=maxLen) (C:(f+d) * m<=140737488355328) (B:k<=w.heap.size)
  (h: ∀i c w',w'.ownsRow k e size (.slice i (f+d) c) (f+d) (xs++j)->w.grownBy w' v.ownBlock->((Value.slice i (f+d) c).ownBlock=v.ownBlock\/(Value.slice i (f+d) c).ownBlock=some w.heap.size)->wpList P n Q rest (a.put o.dst (.slice i (f+d) c)) w'):
  wpList P n Q (o::rest) a w:=by
 refine wpList_plain D λ_ A=> ?_
 obtain⟨i,c,w',J,r,u,y⟩:=tK (P:=P) w p o.type k v f xs G F l j d hm I q z C B;unfold Oper.wp execOp;simp only [E,resolve,invoke,builtin,Sem.run_bind,Sem.run_pure,Result.andThen_ok,List.map_toArray,Zd,Ze,K,L,J];exact A _ _ (h i c w' r u y)
theorem dv {P:Program} (w:World) {p:Array Oper} {o:Oper} {a:Act} {m:Act->World->Prop} {Q:Exit->Act->World->Prop} {E':Prop} (D:o.guard=none) (s x:Operand) (t:TypeId)
  (E:o.op= .call {callee:= .builtin .append,args:= #[s,x],argTypes:= #[t,t]}) {e:TypeId} {O:Value} {size n:Nat} (q:dZ P t e O size n) (k:Nat)
  (v:Value) (f:Nat) (xs:List Value) (K:a.eval s=v) (G:w.ownsRow k e size v f xs) (F:Nat->Prop) (l:Value) (j:List Value) (d:Nat) (M:a.eval x=l) (hm:j.length=d * size) (I:Rd w F l size j) (r: ∀N∈j,N.oneCell'=true)
  (A:f+d<=maxLen) (C:(f+d) * n<=140737488355328) (B:k<=w.heap.size)
  (h: ∀i c w',w'.ownsRow k e size (.slice i (f+d) c) (f+d) (xs++j)->w.grownBy w' v.ownBlock->((Value.slice i (f+d) c).ownBlock=v.ownBlock\/(Value.slice i (f+d) c).ownBlock=some w.heap.size)->m (a.put o.dst (.slice i (f+d) c)) w'):
  if Region.wanted o (yielded p a.tmps)=true then Oper.wp P o a w m Q else E':=by
 have L:Region.wanted o (yielded p a.tmps)=true:=by simp [Region.wanted,D]
 rw [if_pos L];obtain⟨i,c,w',J,u,y,z⟩:=tK (P:=P) w q o.type k v f xs G F l j d hm I r A C B;unfold Oper.wp execOp;simp only [E,resolve,invoke,builtin,Sem.run_bind,Sem.run_pure,Result.andThen_ok,List.map_toArray,Zd,Ze,K,M,J];exact h i c w' u y z
theorem Rd.one {w:World} {e:TypeId} (us:List Value) (size:Nat) (d:us.length=size):Rd (w.alloc (.cells us.toArray e)) (λ_=>True) (.slice (some ⟨w.heap.size,0,none⟩) 1 1) size us:=
 ⟨_,1,1,rfl,Zi _,by decide,by simpa using d,λ_=>⟨_,0,rfl,trivial,λh i f=>by
  rw [(Blk.new w e us.toArray).cell];simpa using f⟩⟩
end Go.Proofs.YthlbjgabhpdbfaaGreat
namespace Go.Proofs.YthlbjgabhpdbfaaGreat
open Go.Proofs.Tryz
open Int renaming eq_ofNat_of_zero_le->Za,toNat_natCast->Zb
open List renaming eq_nil_of_length_eq_zero->Zc,map_cons->Zd,map_nil->Ze,mem_append->Zf,mem_map->Zg,mem_of_getElem?->Zh
open Nat renaming le_refl->Zi,le_trans->Zj,lt_of_lt_of_le->Zk,mod_eq_of_lt->Zl
open Go.ChangeShapes Go.WideShapes Go.ChangeAt Go.RowKit Go.Deep
def RdL {X:Type} (w:World) (F:Nat->Prop) (k:Nat) (E:List Value->X->Prop) (v:Value) (xs:List X):Prop:=
 ∃A c,v= .slice A xs.length c/\xs.length<=c/\c<=maxLen/\
  (0<xs.length-> ∃b off,A=some ⟨b,off,none⟩/\F b/\ ∀i x,xs[i]? =some x-> ∃cs,cs.length=k/\E cs x/\ ∀j u,cs[j]? =some u->w.cell? ⟨b,off+i * k+j,none⟩=some u)
theorem RdL.touch {X:Type} {w w':World} {F S:Nat->Prop} {k:Nat} {E E':List Value->X->Prop} {v:Value} {xs:List X} (h:RdL w F k E v xs) (x:aa S w w') (m: ∀b,F b-> ¬S b) (l: ∀cs d,d∈xs->E cs d->E' cs d):RdL w' F k E' v xs:=by
 obtain⟨i,c,z,n,hm,u⟩:=h;refine⟨i,c,z,n,hm,λs=> ?_⟩;obtain⟨b,C,j,e,o⟩:=u s;refine⟨b,C,j,e,λA d f=> ?_⟩;obtain⟨cs,r,p,y⟩:=o A d f;exact⟨cs,r,l _ _ (Zh f) p,λB D q=>x.cell (y B D q) (m b e)⟩
theorem RdL.below {X:Type} {w w':World} {F:Nat->Prop} {B k:Nat} {E E':List Value->X->Prop} {v:Value} {xs:List X} (h:RdL w F k E v xs) (A:Below B w w') (p: ∀b,F b->b<B) (o: ∀cs d,d∈xs->E cs d->E' cs d):RdL w' F k E' v xs:=by
 obtain⟨m,c,D,q,hm,z⟩:=h;refine⟨m,c,D,q,hm,λy=> ?_⟩;obtain⟨b,l,n,e,r⟩:=z y;refine⟨b,l,n,e,λi d f=> ?_⟩;obtain⟨cs,x,s,C⟩:=r i d f;exact⟨cs,x,o _ _ (Zh f) s,λj G u=>(A.cell (p:=⟨b,l+i * k+j,none⟩) (p b e)).trans (C j G u)⟩
theorem RdL.rd {X:Type} {w:World} {F:Nat->Prop} {f:X->Value} {v:Value} {xs:List X} (h:RdL w F 1 (λcs d=>cs=[f d]) v xs):Rd w F v 1 (xs.map f):=by
 obtain⟨i,c,q,l,hm,p⟩:=h;refine⟨i,_,c,q,l,hm,by simp,λo=> ?_⟩;obtain⟨b,u,j,k,n⟩:=p o;refine⟨b,u,j,k,λs x e=> ?_⟩;rw [List.getElem?_map]at e;obtain⟨d,r,rfl⟩:=Option.map_eq_some_iff.1 e;obtain⟨cs,_,rfl,m⟩:=n s d r;simpa using m 0 (f d) rfl
theorem RdL.parts {X:Type} {w:World} {F:Nat->Prop} {k:Nat} {E:List Value->X->Prop} {p:X->Prop} {v:Value} {xs:List X} (h:RdL w F k (λcs d=>E cs d/\p d) v xs):RdL w F k E v xs/\ ∀d∈xs,p d:=by
 obtain⟨s,c,y,u,hm,o⟩:=h;refine⟨⟨s,c,y,u,hm,λx=> ?_⟩,λd i=> ?_⟩
 ·obtain⟨b,r,l,m,e⟩:=o x;exact⟨b,r,l,m,λj d i=>by obtain⟨cs,n,f,q⟩:=e j d i;exact⟨cs,n,f.1,q⟩⟩
 ·obtain⟨j,hi,rfl⟩:=List.getElem_of_mem i;obtain⟨b,r,l,m,e⟩:=o (by omega);obtain⟨cs,n,f,q⟩:=e j _ (List.getElem?_eq_getElem hi);exact f.2
section
variable {H : Type} {enc : TypeId × Value -> H} {P : Program} {w : World} {sp : Nat -> Bool}
abbrev Ek (enc:TypeId×Value->H) (P:Program) (w:World) (sp:Nat->Bool) (t:TypeId) {X:Type} (E:List Value->X->Prop):Prop:=
 ∀(n:Nat) (cs:List Value) (y:DataW H×List MemPlace),DataW.trod enc P w 0 sp true n t cs=some y-> ∃x:X,E cs x
theorem pz {t:TypeId} {k:IntKind} (f:P.underlying t=some (.int k)):Ek enc P w sp t (λcs (n:Int)=>cs=[.int k n]/\(Lit.int k n).wf=true):=by
 intro i cs j h;obtain⟨n,d,_,e⟩:=DataW.trod_int f h;exact⟨n,d,e⟩
theorem Bv (k:laidOutB P=true) {t:TypeId} (m:P.readableRec t=true) (n:t<P.types.size) {e f:World} {v:Value} {d:DataW H} {i:List MemPlace}
  (h:DataW.Trod enc P e 0 (λ_=>true) true t v d i) (j:Below e.heap.size e f):DataW.Trod enc P f 0 (λb=>decide (b<e.heap.size)) true t v d i:=
 Below.trod k m n h j (by obtain⟨o,l⟩:=h;exact DataW.trod_lt o _ _ _ l)
end
section
variable {H : Type} {enc : TypeId × Value -> H} {P : Program} {w : World} {sp : Nat -> Bool}
abbrev uz (P:Program) (t:TypeId) (d:DataW H):Prop:= ∀x∈d.weights P t,x<=140737488351232
abbrev dw (enc:TypeId×Value->H) (P:Program) (w:World) (sp:Nat->Bool) (t:TypeId) {X:Type} (E:List Value->X->Prop):Prop:=
 ∀(n:Nat) (cs:List Value) (y:DataW H×List MemPlace),DataW.trod enc P w 0 sp true n t cs=some y->uz P t y.1-> ∃x:X,E cs x
theorem dw.of {X:Type} {t:TypeId} {E:List Value->X->Prop} (h:Ek enc P w sp t E):dw enc P w sp t E:=λe cs f d _=>h e cs f d
theorem nw {e:TypeId} {d:DataW H}: ∀{l:List (DataW H)},d∈l-> ∀f∈d.weights P e,f∈DataW.weightsAll P e l
 |a::r,h,f,hx=>by
  rw [DataW.weightsAll,Zf];rcases List.mem_cons.1 h with rfl|h
  ·exact .inl hx
  ·exact .inr (nw h f hx)
theorem mV {X:Type} {t e:TypeId} {k p:Nat} {E:List Value->X->Prop} (y:P.underlying t=some (.slice e)) (M:P.cellsOf e=k) (N:0<k) (J:P.bytesOf e=p) (G:dw enc P w sp e E):
  dw enc P w sp t (λcs (xs:List X)=> ∃v,cs=[v]/\RdL w (· <w.heap.size) k E v xs/\xs.length * p<=140737488351232):=by
 intro Z cs aS h x;rcases open_slice y h with⟨rfl,rfl⟩|⟨a,i,D,o,an,l,Pl,rfl,_,ak,hm,O,rfl,hi⟩
 ·exact⟨[],_,rfl,⟨none,0,rfl,Zi _,by decide,λh=>absurd h (by simp)⟩,by simp⟩
 ·rw [M]at hi;have al:i<=o:=by rw [O];split<;>omega
  have A:DataW.weights P t (DataW.slice ((List.range i).map l) ((List.range (o - i)).map λf=>l (i+f)))=
    (((List.range i).map l).length+((List.range (o - i)).map λf=>l (i+f)).length) * P.bytesOf e::(DataW.weightsAll P e ((List.range i).map l)++DataW.weightsAll P e ((List.range (o - i)).map λf=>l (i+f))):=by
   rw [DataW.weights,y]
  have R:i * p<=140737488351232:=by
   have:=x _ (by rw [A];exact List.mem_cons_self ..);rw [J]at this;simp only [List.length_map,List.length_range]at this;exact Zj (Nat.mul_le_mul_right _ (by omega)) this
  have u: ∀d,d<i-> ∃j:X,∃cs',cs'.length=k/\E cs' j/\ ∀f,f<k->w.cell? ((a.add (d * k)).add f)=cs'[f]? :=λd m=>by
   obtain⟨cs',K,U⟩:=hi d (by omega);obtain⟨j,n⟩:=G _ _ _ U (λj n=>x j (by
    rw [A]
    refine List.mem_cons_of_mem _ (Zf.2 (.inl (nw (d:=l d) ?_ j n)))
    exact Zg.2 ⟨d,List.mem_range.2 m,rfl⟩))
   obtain⟨_,s,r⟩:=World.cells?_some K;exact⟨j,cs',s,n,r⟩
  obtain⟨xs,B,C⟩: ∃xs:List X,xs.length=i/\ ∀d j,xs[d]? =some j-> ∃cs',cs'.length=k/\E cs' j/\ ∀f,f<k->w.cell? ((a.add (d * k)).add f)=cs'[f]? :=by
   refine⟨List.ofFn λd:Fin i=>(u d.1 d.2).choose,by simp,λd j n=> ?_⟩;obtain⟨m,rfl⟩:=List.getElem?_eq_some_iff.1 n;simp only [List.length_ofFn]at m;rw [List.getElem_ofFn];exact(u d m).choose_spec
  refine⟨xs,_,rfl,⟨some a,D,by rw [B],by omega,hm,λQ=> ?_⟩,by rw [B];exact R⟩;obtain⟨b,V,W⟩:=a;obtain⟨Y,ad,_,I⟩:=C 0 _ (List.getElem?_eq_getElem Q);have q:=I 0 N;rw [List.getElem?_eq_getElem (by omega)]at q;have T:W=none:=by
   have:=World.cell?_spot q;simpa [Addr.add]using this
  subst T;have m:=World.block_lt_of_cell? w _ q;rw [fJ,fJ]at m;refine⟨b,V,rfl,m,λd j n=> ?_⟩;obtain⟨cs',s,L,r⟩:=C d j n;refine⟨cs',s,L,λf ap z=> ?_⟩;have ai:=(List.getElem?_eq_some_iff.1 z).1;have:=r f (by omega);rw [fJ,fJ]at this;rw [this,z]
theorem jx: ∀{f:List TypeId} {e:List (DataW H)} {j:Nat} {t:TypeId} {d:DataW H},f[j]? =some t->e[j]? =some d-> ∀h∈d.weights P t,h∈DataW.weightsEach P f e
 |t'::f,d'::e,0,t,d,ht,hd,h,hx=>by
  simp at ht hd;subst ht hd;rw [DataW.weightsEach,Zf];exact .inl hx
 |t'::f,d'::e,j+1,t,d,ht,hd,h,hx=>by
  rw [DataW.weightsEach,Zf];exact .inr (jx (j:=j) (by simpa using ht) (by simpa using hd) h hx)
theorem iw {X:Type} {t:TypeId} {i:Array Field} {n:Nat} {cs:List Value} {y:DataW H×List MemPlace} (l:P.underlying t=some (.struct i)) (r:oneCellFields P i=true) (h:DataW.trod enc P w 0 sp true n t cs=some y) (s:uz P t y.1)
  (j:Nat) (f:Field) (e:i[j]? =some f) (q:j<cs.length) {E:List Value->X->Prop} (o:dw enc P w sp f.type E): ∃d,E [cs[j]] d:=by
 obtain⟨xs,D,_,z,C,x,p⟩:=DataW.trod_struct l h;obtain⟨B,A⟩:=hone_of r j f e;have g:=p j f e;rw [B,A]at g;have k:j<xs.length:=by rw [x];exact(Array.getElem?_eq_some_iff.1 e).1
 rw [List.getElem?_eq_getElem k]at g;have m:(cs.drop j).take 1=[cs[j]]:=by rw [List.drop_eq_getElem_cons q];rfl
 rw [m]at g;refine o _ _ _ g (λd u=>s d ?_);rw [z];show d∈DataW.weights P t (DataW.agg (xs.map (·.1)));rw [DataW.weights,l];refine jx (j:=j) (t:=f.type) (d:=(xs[j]).1) ?_ ?_ d u
 ·rw [List.getElem?_map];simp [e]
 ·rw [List.getElem?_map,List.getElem?_eq_getElem k];rfl
theorem sk {t:TypeId} {d:Array Field} {n:Nat} {cs:List Value} {y:DataW H×List MemPlace} (f:P.underlying t=some (.struct d)) (h:DataW.trod enc P w 0 sp true n t cs=some y):cs.length=P.cellsOf t:=by
 obtain⟨xs,j,_,i,e,_⟩:=DataW.trod_struct f h;exact e
theorem uB {X l:Type} {t:TypeId} {f0 f:Field} {j:List Value->X->Prop} {k:List Value->l->Prop} (i:P.underlying t=some (.struct #[f0,f])) (m:oneCellFields P #[f0,f]=true) (q:P.cellsOf t=2)
  (o:dw enc P w sp f0.type j) (p:dw enc P w sp f.type k):dw enc P w sp t (λcs (x:X×l)=> ∃d e,cs=[d,e]/\j [d] x.1/\k [e] x.2):=by
 intro z cs A h n;have r:=(sk i h).trans q
 match cs,r with
 |[d,e],_=>
  obtain⟨x,s⟩:=iw i m h n 0 f0 rfl (by simp) o;obtain⟨y,u⟩:=iw i m h n 1 f rfl (by simp) p;exact⟨(x,y),d,e,rfl,by simpa using s,by simpa using u⟩
theorem uA {X u Z s:Type} {t:TypeId} {f0 k f2 l:Field} {o:List Value->X->Prop} {p:List Value->u->Prop} {q:List Value->Z->Prop} {r:List Value->s->Prop} (d:P.underlying t=some (.struct #[f0,k,f2,l])) (m:oneCellFields P #[f0,k,f2,l]=true) (C:P.cellsOf t=4)
  (y:dw enc P w sp f0.type o) (z:dw enc P w sp k.type p) (A:dw enc P w sp f2.type q) (B:dw enc P w sp l.type r):
  dw enc P w sp t (λcs (x:X×u×Z×s)=> ∃e f i j,cs=[e,f,i,j]/\o [e] x.1/\p [f] x.2.1/\q [i] x.2.2.1/\r [j] x.2.2.2):=by
 intro M cs N h n;have D:=(sk d h).trans C
 match cs,D with
 |[e,f,i,j],_=>
  obtain⟨x,I⟩:=iw d m h n 0 f0 rfl (by simp) y;obtain⟨L,J⟩:=iw d m h n 1 k rfl (by simp) z;obtain⟨K,E⟩:=iw d m h n 2 f2 rfl (by simp) A;obtain⟨v,G⟩:=iw d m h n 3 l rfl (by simp) B;exact⟨(x,L,K,v),e,f,i,j,rfl,by simpa using I,by simpa using J,by simpa using E,by simpa using G⟩
theorem zS {f:List TypeId} {e:List (DataW H)} (h:(DataW.weightsEach P f e).all (· <=reachBytes)=true) {j:Nat} {t:TypeId} {d:DataW H} (l:f[j]? =some t) (k:e[j]? =some d):uz P t d:=λi m=>by
 have:=List.all_eq_true.1 h i (jx l k i m);exact of_decide_eq_true this
end
end Go.Proofs.YthlbjgabhpdbfaaGreat
namespace Go.Proofs.YthlbjgabhpdbfaaGreat
open Go.Proofs.Tryz
open Int renaming eq_ofNat_of_zero_le->Za,toNat_natCast->Zb
open List renaming eq_nil_of_length_eq_zero->Zc,map_cons->Zd,map_nil->Ze,mem_append->Zf,mem_map->Zg,mem_of_getElem?->Zh
open Nat renaming le_refl->Zi,le_trans->Zj,lt_of_lt_of_le->Zk,mod_eq_of_lt->Zl
theorem gQ (x:BitVec 64):BitVec.ofInt 64 (x.toNat:Int)=x:=by
 apply BitVec.eq_of_toNat_eq;rw [BitVec.ofInt_natCast,BitVec.toNat_ofNat];exact Zl x.isLt
theorem fZ (x:BitVec 64):IntKind.u64.wrap (x.toNat:Int)=(x.toNat:Int):=by
 have:=x.isLt;simp [IntKind.wrap,IntKind.bits,IntKind.signed];omega
theorem kO (x y:BitVec 64):bits .and .u64 (x.toNat:Int) (y.toNat:Int)=((x&&&y).toNat:Int):=by
 show IntKind.u64.wrap ((BitVec.ofInt 64 (x.toNat:Int)&&&BitVec.ofInt 64 (y.toNat:Int)).toNat:Int)=_;rw [gQ,gQ,fZ]
theorem uG (x y:BitVec 64):bits .or .u64 (x.toNat:Int) (y.toNat:Int)=((x|||y).toNat:Int):=by
 show IntKind.u64.wrap ((BitVec.ofInt 64 (x.toNat:Int)|||BitVec.ofInt 64 (y.toNat:Int)).toNat:Int)=_;rw [gQ,gQ,fZ]
theorem vE (x y:BitVec 64):bits .andNot .u64 (x.toNat:Int) (y.toNat:Int)=((x&&& ~~~y).toNat:Int):=by
 show IntKind.u64.wrap ((BitVec.ofInt 64 (x.toNat:Int)&&& ~~~BitVec.ofInt 64 (y.toNat:Int)).toNat:Int)=_;rw [gQ,gQ,fZ]
theorem uR (a:Nat) (d:a<9223372036854775808):(BitVec.ofInt 64 (a:Int)).toNat=a:=by
 rw [BitVec.ofInt_natCast,BitVec.toNat_ofNat];exact Zl (by omega)
theorem oN (a:Nat) (e:a<=4096):bits .and .i64 (a:Int) 63=((a%64:Nat):Int):=by
 show IntKind.i64.wrap ((BitVec.ofInt 64 (a:Int)&&&BitVec.ofInt 64 (63:Int)).toNat:Int)=_;have d:(BitVec.ofInt 64 (63:Int)).toNat=2^6 - 1:=by decide
 rw [BitVec.toNat_and,uR a (by omega),d,Nat.and_two_pow_sub_one_eq_mod,IntKind.wrap_i64];have:a%2^6<64:=Nat.mod_lt _ (by decide);omega
theorem Cr (a:Nat) (k:a<=4096):bits .or .i64 (a:Int) 63=((a/64 * 64+63:Nat):Int):=by
 show IntKind.i64.wrap ((BitVec.ofInt 64 (a:Int)|||BitVec.ofInt 64 (63:Int)).toNat:Int)=_;have h:(BitVec.ofInt 64 (63:Int)).toNat=63:=by decide
 have i:a|||63=a/64 * 64+63:=by
  apply Nat.eq_of_testBit_eq;intro j;rw [Nat.testBit_or];have e:a/64 * 64+63=2^6 * (a/64)+63:=by omega
  rw [e,Nat.testBit_two_pow_mul_add _ (by decide)];by_cases hi:j<6
  ·rw [if_pos hi];have:(63:Nat)=2^6 - 1:=rfl;rw [this,Nat.testBit_two_pow_sub_one];simp [hi]
  ·rw [if_neg hi];have d:(63:Nat)=2^6 - 1:=rfl;rw [d,Nat.testBit_two_pow_sub_one];have f:a/64=a/2^6:=rfl;rw [f,Nat.testBit_div_two_pow];simp [hi];congr 1;omega
 rw [BitVec.toNat_or,uR a (by omega),h,i,IntKind.wrap_i64];omega
theorem re (x:BitVec 64):((x.toNat:Int)==0)=decide (x=0#64):=by
 rw [Bool.eq_iff_iff];simp only [beq_iff_eq,decide_eq_true_eq];constructor
 ·intro h;apply BitVec.eq_of_toNat_eq;simp;omega
 ·rintro rfl;rfl
def cF (ws:List (BitVec 64)) (j:Nat):Bool:=(ws.getD (j/64) 0#64).getLsbD (j%64)
def one (k:Nat):BitVec 64:=BitVec.twoPow 64 k
theorem ww (k:Nat) (d:k<64):IntKind.u64.wrap (2^k)=((one k).toNat:Int):=by
 have h:((one k).toNat:Int)=2^k:=by
  unfold one;rw [BitVec.toNat_twoPow,Zl (Nat.pow_lt_pow_right (by decide) d)]
  norm_cast
 rw [<-h,fZ]
theorem EW (x:BitVec 64) (k:Nat) (f:k<64):(x&&&one k=0#64)↔x.getLsbD k=false:=by
 unfold one;constructor
 ·intro h;have:=congrArg (λj=>j.getLsbD k) h;simpa [BitVec.getLsbD_and,BitVec.getLsbD_twoPow,f]using this
 ·intro h;apply BitVec.eq_of_getLsbD_eq;intro i hi;by_cases e:i=k
  ·subst e;simp [BitVec.getLsbD_and,h]
  ·simp [BitVec.getLsbD_and,BitVec.getLsbD_twoPow];intro _ _ d;exact absurd d.symm e
theorem pC (x:BitVec 64) (k:Nat) (d:k<64):(((x&&&one k).toNat:Int) !=0)=x.getLsbD k:=by
 unfold bne;rw [re];have:=EW x k d;cases h:x.getLsbD k
 ·simp [this.2 h]
 ·have f: ¬x&&&one k=0#64:=λe=>by rw [this.1 e]at h;cases h
  simp [f]
theorem Ff (x:BitVec 64) (k i:Nat) (f:k<64):(x|||one k).getLsbD i=(x.getLsbD i||decide (i=k)):=by
 unfold one;rw [BitVec.getLsbD_or,BitVec.getLsbD_twoPow];by_cases e:i=k
 ·subst e;simp [f]
 ·simp [e];intro _ d;exact absurd d.symm e
theorem vm (d:List (BitVec 64)) (i:Nat) (y:BitVec 64) (hi:i<d.length) (j:Nat):cF (d.set i y) j=if j/64=i then y.getLsbD (j%64)else cF d j:=by
 unfold cF;by_cases h:j/64=i
 ·subst h;simp [List.getD,hi]
 ·rw [if_neg h];simp [List.getD,List.getElem?_set_ne (Ne.symm h)]
theorem io {d:List (BitVec 64)} {i:Nat} {x:BitVec 64} (h:d[i/64]? =some x):cF d i=x.getLsbD (i%64):=by simp [cF,List.getD,h]
theorem AG {i j:Nat}:(j/64=i/64/\j%64=i%64)↔j=i:=by omega
theorem vp {f:List (BitVec 64)} {i:Nat} {x:BitVec 64} (h:f[i/64]? =some x) (j:Nat):cF (f.set (i/64) (x|||one (i%64))) j=(cF f j||decide (j=i)):=by
 have k:=(List.getElem?_eq_some_iff.1 h).1;rw [vm _ _ _ k];by_cases e:j/64=i/64
 ·rw [if_pos e,Ff _ _ _ (Nat.mod_lt _ (by decide))];have:cF f j=x.getLsbD (j%64):=io (by rw [e];exact h);rw [this];congr 1;exact decide_eq_decide.2 ⟨λd=>AG.1 ⟨e,d⟩,λd=>by rw [d]⟩
 ·rw [if_neg e];have: ¬j=i:=λd=>e (by rw [d])
  simp [this]
def lw (m:Nat):BitVec 64:=BitVec.ofNat 64 (2^m - 1)
theorem Dx (x:BitVec 64) (m i:Nat) (hm:m<64):(x&&&lw m).getLsbD i=(x.getLsbD i&&decide (i<m)):=by
 unfold lw;rw [BitVec.getLsbD_and,BitVec.getLsbD_ofNat,Nat.testBit_two_pow_sub_one];by_cases hi:i<64
 ·simp [hi]
 ·rw [BitVec.getLsbD_of_ge x i (by omega)];simp
theorem Bn (m:Nat) (hm:m<64):IntKind.u64.wrap (((one m).toNat:Int) - 1)=((lw m).toNat:Int):=by
 have d:((one m).toNat:Int)=2^m:=by
  unfold one;rw [BitVec.toNat_twoPow,Zl (Nat.pow_lt_pow_right (by decide) hm)]
  norm_cast
 have f:2^m<2^64:=Nat.pow_lt_pow_right (by decide) hm;have h:0<2^m:=Nat.pow_pos (by decide);have e:((lw m).toNat:Int)=2^m - 1:=by
  unfold lw;rw [BitVec.toNat_ofNat,Zl (by omega)];have:((2^m - 1:Nat):Int)=((2^m:Nat):Int) - 1:=by omega
  rw [this];norm_cast
 rw [d,<-e,fZ]
def eY (ws:List (BitVec 64)) (k:Nat):List (BitVec 64):=
 let l:=ws.take ((k+63)/64)
 if k%64=0 then l else l.set ((k+63)/64 - 1) (ws.getD (k/64) 0#64&&&lw (k%64))
theorem ua (d:List (BitVec 64)) (k:Nat) (e:(k+63)/64<=d.length):(eY d k).length=(k+63)/64:=by
 unfold eY;by_cases h:k%64=0
 ·simp [h];omega
 ·simp [h];omega
theorem CI (d:List (BitVec 64)) (k:Nat) (m:(k+63)/64<=d.length) (j:Nat):cF (eY d k) j=(cF d j&&decide (j<k)):=by
 have i:cF (d.take ((k+63)/64)) j=if j/64<(k+63)/64 then cF d j else false:=by
  unfold cF;by_cases h:j/64<(k+63)/64
  ·simp [List.getD,h]
  ·rw [if_neg h];simp [List.getD,List.getElem?_take,h]
 unfold eY;by_cases h:k%64=0
 ·simp only [h,if_true];rw [i];by_cases e:j<k
  ·rw [if_pos (by omega)];simp [e]
  ·rw [if_neg (by omega)];simp [e]
 ·simp only [h,if_false];rw [vm _ _ _ (by simp;omega)];have l:(k+63)/64 - 1=k/64:=by omega
  rw [l];by_cases e:j/64=k/64
  ·rw [if_pos e,Dx _ _ _ (Nat.mod_lt _ (by decide))];have:cF d j=(d.getD (k/64) 0#64).getLsbD (j%64):=by unfold cF;rw [e]
   rw [this];congr 1;exact decide_eq_decide.2 (by omega)
  ·rw [if_neg e,i];by_cases f:j<k
   ·rw [if_pos (by omega)];simp [f]
   ·rw [if_neg (by omega)];simp [f]
open Go.RowKit
abbrev U64 (x:BitVec 64):Value:= .int .u64 (x.toNat:Int)
structure gX (w:World) (b r:Nat) (n:Nat) (ws:List (BitVec 64)):Prop where
 blk: ∃c,Blk w b 287 #[.int .i64 n,.slice (some ⟨r,0,none⟩) ws.length c]/\ws.length<=c/\c<=maxLen
 words:Blk w r 282 (ws.map U64).toArray
 len:ws.length=(n+63)/64
 room:n<=4096
 high: ∀j,n<=j->cF ws j=false
structure aG (w:World) (b:Nat) (S:Nat->Prop) (n:Nat) (f:Nat->Bool):Prop where
 is: ∃r ws,gX w b r n ws/\S r/\ ∀j,cF ws j=f j
 head:S b
 lt: ∀k,S k->k<w.heap.size
theorem gX.touch {w w':World} {b r n:Nat} {e:List (BitVec 64)} {T:Nat->Prop} (h:gX w b r n e) (d:aa T w w') (o: ¬T b) (p: ¬T r):gX w' b r n e:=by
 obtain⟨⟨c,f,i⟩,j,k,l,m⟩:=h;exact⟨⟨c,f.touch d o,i⟩,j.touch d p,k,l,m⟩
theorem aG.touch {w w':World} {b n:Nat} {f:Nat->Bool} {S T:Nat->Prop} (h:aG w b S n f) (k:aa T w w') (e: ∀d,S d-> ¬T d):aG w' b S n f:=by
 obtain⟨⟨p,q,hi,j,l⟩,i,o⟩:=h;exact⟨⟨p,q,hi.touch k (e _ i) (e _ j),j,l⟩,i,λd m=>Zk (o d m) k.size⟩
theorem aG.drew {w:World} {b n:Nat} {f:Nat->Bool} {S:Nat->Prop} (h:aG w b S n f):aG w.drew b S n f:=h.touch ((aa.refl (λ_=>False) w).drew) (λ_ _ d=>d)
theorem aG.room {w:World} {b n:Nat} {f:Nat->Bool} {S:Nat->Prop} (h:aG w b S n f):n<=4096:=by
 obtain⟨⟨k,l,hi,j,e⟩,d,i⟩:=h;exact hi.room
theorem aG.high {w:World} {b n:Nat} {f:Nat->Bool} {S:Nat->Prop} (h:aG w b S n f): ∀d,n<=d->f d=false:=by
 obtain⟨⟨m,o,hi,l,e⟩,j,k⟩:=h;exact λd i=>(e d).symm.trans (hi.high d i)
theorem xF (w:World):Calls prog 255 #[.pointer none] w λe w'=>e= .returned (.int .i64 0)/\w=w':=by
 go_enter func255,ntmps255
 go_wp2
 go_ret
 exact⟨rfl,rfl⟩
theorem ib {w:World} {b n:Nat} {f:Nat->Bool} {S:Nat->Prop} (h:aG w b S n f):
  Calls prog 255 #[.pointer (some ⟨b,0,none⟩)] w λe w'=>e= .returned (.int .i64 n)/\w=w':=by
 obtain⟨⟨u,x,⟨⟨c,d,j⟩,k,l,m,o⟩,s,p⟩,r,q⟩:=h;have i:=d.cell 0;simp at i;clear d j k l m o p q
 go_enter func255,ntmps255
 go_wp2
 go_ret
 exact⟨rfl,rfl⟩
theorem Bj {w:World} {b n:Nat} {f:Nat->Bool} {S:Nat->Prop} (h:aG w b S n f) (i:Int) (hi:i<0\/n<=i):
  Calls prog 228 #[.pointer (some ⟨b,0,none⟩),.int .i64 i] w λe w'=>e= .returned (.tuple #[.int .i64 0,.int .u64 0,.bool false])/\w=w':=by
 by_cases d:i<0
 ·go_enter func228,ntmps228
  go_wp2_with (go_at_call 255;refine(ib h).mono ?_;rintro e w' ⟨rfl,rfl⟩)
  go_ret3
  exact⟨rfl,rfl⟩
 ·have j:(n:Int)<=i:=by omega
  clear hi
  go_enter func228,ntmps228
  go_wp2_with (go_at_call 255;refine(ib h).mono ?_;rintro e w' ⟨rfl,rfl⟩)
  go_ret3
  exact⟨rfl,rfl⟩
theorem ux {w:World} {b n:Nat} {f:Nat->Bool} {S:Nat->Prop} (h:aG w b S n f) (i:Nat) (hi:i<n):
  Calls prog 228 #[.pointer (some ⟨b,0,none⟩),.int .i64 i] w λe w'=>e= .returned (.tuple #[.int .i64 (i/64:Nat),U64 (one (i%64)),.bool true])/\w=w':=by
 have o:=h.room;have k:=oN i (by omega);obtain⟨d,j⟩: ∃d,d=i%64:=⟨_,rfl⟩;have l:d<64:=by omega
 rw [<-j]at k⊢;have m:=ab j;clear j
 go_enter func228,ntmps228
 go_wp2_with (go_at_call 255;refine(ib h).mono ?_;rintro e w' ⟨rfl,rfl⟩)
 go_ret3
 exact⟨Dg (rO (by omega)) (rO (ww d l)) rfl,rfl⟩
theorem gX.word {w:World} {b r n:Nat} {d:List (BitVec 64)} (h:gX w b r n d) {i:Nat} (hi:i<n): ∃f,d[i/64]? =some f/\w.cell? ⟨r,i/64,none⟩=some (U64 f)/\i/64<d.length:=by
 have j:=h.len;have e:i/64<d.length:=by omega
 refine⟨d[i/64],List.getElem?_eq_getElem e,?_,e⟩;rw [h.words.cell];simp [e]
def aF (n:Nat) (f:Nat->Bool) (i:Int):Bool:=decide (0<=i)&&decide (i<n)&&f i.toNat
theorem rE {n:Nat} {f:Nat->Bool} {i:Nat} (h:i<n):aF n f i=f i:=by
 have:(i:Int)<n:=by omega
 simp [aF,this]
theorem yT {n:Nat} {f:Nat->Bool} {i:Int} (h:i<0\/(n:Int)<=i):aF n f i=false:=by
 unfold aF;rcases h with h|h
 ·rw [decide_eq_false (by omega)];rfl
 ·rw [decide_eq_false (show¬i<n by omega)];simp
theorem yI {w:World} {b n:Nat} {f:Nat->Bool} {S:Nat->Prop} (h:aG w b S n f) (i:Int):
  Calls prog 273 #[.pointer (some ⟨b,0,none⟩),.int .i64 i] w λe w'=>e= .returned (.bool (aF n f i))/\w=w':=by
 by_cases hi:i<0\/(n:Int)<=i
 ·have s:=yT (f:=f) hi;have A:=ab s;clear s
  go_enter func273,ntmps273
  go_wp2_with (go_at_call 228;refine(Bj h i hi).mono ?_;rintro e w' ⟨rfl,rfl⟩)
  go_ret
  exact⟨af A.out.symm,rfl⟩
 ·obtain⟨d,rfl⟩:=Za (show 0<=i by omega);have l:d<n:=by omega
  rw [rE l];obtain⟨⟨O,J,j,N,q⟩,L,E⟩:=id h;obtain⟨o,x,D,G⟩:=j.word l;obtain⟨c,p,_,C⟩:=j.blk;have B:=p.cell 1;simp at B;unfold maxLen at C;have K:=kO o (one (d%64));have r:(((o&&&one (d%64)).toNat:Int) !=0)=f d:=by rw [pC _ _ (Nat.mod_lt _ (by decide)),<-q,io x]
  obtain⟨m,u⟩: ∃m,m=d/64:=⟨_,rfl⟩;have k:=ux h d l;rw [<-u]at D G k;have M:(m:Int)<J.length:=by omega
  have y:=ab k;have z:=ab r;clear k x hi h q E p u r j;generalize one (d%64)=I at *;generalize o&&&I=Q at *
  go_enter func273,ntmps273
  go_wp2_with (go_at_call 228;refine y.out.mono ?_;rintro e w' ⟨rfl,rfl⟩)
  go_ret
  exact⟨af z.out,rfl⟩
def cJ (n:Nat) (f:Nat->Bool) (i:Int) (j:Nat):Bool:=f j||(decide (0<=i)&&decide (i<n)&&decide ((j:Int)=i))
def eK (n:Nat) (f:Nat->Bool) (i:Int):Bool:=decide (0<=i)&&decide (i<n)&& !f i.toNat
theorem gX.stored {w:World} {b r n:Nat} {d:List (BitVec 64)} (h:gX w b r n d) {i:Nat} (y:BitVec 64) (p:b≠r) (o: ∀e,n<=e->cF (d.set (i/64) y) e=false):
  gX (w.setCell ⟨r,i/64,none⟩ (U64 y)) b r n (d.set (i/64) y):=by
 obtain⟨⟨c,f,j⟩,k,l,m,q⟩:=h;refine⟨⟨c,by simpa using f.far (p:=⟨r,i/64,none⟩) p (U64 y),by simpa using j⟩,?_,by simpa using l,m,o⟩;have:=k.put (i/64) (U64 y);simpa [List.map_set]using this
theorem gX.stored' {w:World} {b r n:Nat} {d:List (BitVec 64)} (h:gX w b r n d) {i:Nat} (y:BitVec 64) (p:b≠r) (o: ∀e,n<=e->cF (d.set i y) e=false):
  gX (w.setCell ⟨r,i,none⟩ (U64 y)) b r n (d.set i y):=by
 obtain⟨⟨c,f,j⟩,k,l,m,q⟩:=h;refine⟨⟨c,by simpa using f.far (p:=⟨r,i,none⟩) p (U64 y),by simpa using j⟩,?_,by simpa using l,m,o⟩;have:=k.put i (U64 y);simpa [List.map_set]using this
theorem zN {w:World} {b n:Nat} {f:Nat->Bool} {S:Nat->Prop} (h:aG w b S n f) (i:Int) (hi:eK n f i=false):
  Calls prog 197 #[.pointer (some ⟨b,0,none⟩),.int .i64 i] w λe w'=>e= .returned (.bool false)/\w=w':=by
 by_cases p:i<0\/(n:Int)<=i
 ·clear hi
  go_enter func197,ntmps197
  go_wp2_with (go_at_call 228;refine(Bj h i p).mono ?_;rintro e w' ⟨rfl,rfl⟩)
  go_ret
  exact⟨rfl,rfl⟩
 ·obtain⟨d,rfl⟩:=Za (show 0<=i by omega);have s:d<n:=by omega
  have r:f d=true:=by
   unfold eK at hi;rw [decide_eq_true (show(0:Int)<=d by omega),decide_eq_true (show(d:Int)<n by omega)]at hi;simpa using hi
  obtain⟨⟨N,G,j,M,q⟩,J,C⟩:=id h;obtain⟨m,x,B,D⟩:=j.word s;obtain⟨c,o,_,A⟩:=j.blk;have z:=o.cell 1;simp at z;unfold maxLen at A;have I:=kO m (one (d%64));have K:(((m&&&one (d%64)).toNat:Int) !=0)=true:=by rw [pC _ _ (Nat.mod_lt _ (by decide)),<-r,<-q,io x]
  obtain⟨l,u⟩: ∃l,l=d/64:=⟨_,rfl⟩;have k:=ux h d s;rw [<-u]at B D k;have L:(l:Int)<G.length:=by omega
  have y:=ab k;clear k x hi h q C o u j p r;generalize one (d%64)=E at *;generalize m&&&E=O at *
  go_enter func197,ntmps197
  go_wp2_with (go_at_call 228;refine y.out.mono ?_;rintro e w' ⟨rfl,rfl⟩)
  go_ret
  exact⟨rfl,rfl⟩
theorem xZ {w:World} {b n:Nat} {f:Nat->Bool} {S:Nat->Prop} (h:aG w b S n f) (i:Int) (hi:eK n f i=true):
  Calls prog 197 #[.pointer (some ⟨b,0,none⟩),.int .i64 i] w λe w'=>e= .returned (.bool true)/\aG w' b S n (cJ n f i)/\aa S w w':=by
 unfold eK at hi;simp only [Bool.and_eq_true,decide_eq_true_eq,Bool.not_eq_true']at hi;obtain⟨⟨A,T⟩,q⟩:=hi;obtain⟨d,rfl⟩:=Za A;rw [Zb]at q;have s:d<n:=by omega
 obtain⟨⟨E,G,k,C,p⟩,N,U⟩:=id h;obtain⟨l,m,Q,V⟩:=k.word s;obtain⟨c,o,_,O⟩:=k.blk;have L:=o.cell 1;simp at L;unfold maxLen at O;have X:=kO l (one (d%64));have Z:=uG l (one (d%64));have Y:(((l&&&one (d%64)).toNat:Int) !=0)=false:=by rw [pC _ _ (Nat.mod_lt _ (by decide)),<-q,<-p,io m]
 have W:b≠E:=o.ne k.words (by decide);have R:=k.words.frozen (d/64);have y:=k.stored (i:=d) (l|||one (d%64)) W (λj u=>by rw [vp m,k.high j u];simpa using(by omega: ¬j=d));have x: ∀j,cF (G.set (d/64) (l|||one (d%64))) j=cJ n f d j:=λj=>by
  rw [vp m,p];have M:decide ((j:Int)=(d:Int))=decide (j=d):=decide_eq_decide.2 (by omega);simp [cJ,s,M]
 obtain⟨z,B⟩: ∃z,z=d/64:=⟨_,rfl⟩;have r:=ux h d s;rw [<-B]at Q V r R y x;have ad:(z:Int)<G.length:=by omega
 have J:=ab r;have K:=ab y;have I:=ab x;clear r m A T h p o B k q y x;generalize one (d%64)=D at *;generalize l&&&D=ai at *;generalize l|||D=ak at *
 go_enter func197,ntmps197
 go_wp2_with (go_at_call 228;refine J.out.mono ?_;rintro e w' ⟨rfl,rfl⟩)
 go_ret
 exact⟨rfl,⟨⟨E,_,K.out,C,I.out⟩,N,λj u=>by simpa using U j u⟩,(aa.refl S w).setCell (λ_=>C) _⟩
theorem info64:(prog.info? 282).map (λd=>(d.zero,d.size,d.bytes))=some (some (.int .u64 0),1,8):=by kernel_rfl
theorem elem64:dZ prog 285 282 (.int .u64 0) 1 8:=⟨underlying285,info64,rfl,by decide⟩
theorem mC {P:Program} {t e:TypeId} {z:Value} {f:Nat} (E:dZ P t e z 1 f) (p:z.cells= #[z]) (n:Nat) (r:f * n<=281474976710656) (s:n<=9223372036854775807) (k j:IntKind) (w:World):
  (Instr.makeSlice t (.int k (n:Int)) (.int j (n:Int))).run P w= .ok (.slice (some ⟨w.heap.size,0,none⟩) n n) (w.alloc (.cells (List.replicate n z).toArray e)):=by
 obtain⟨d,hi,q,o,m⟩:=info_parts E.info;have l:(d.bytes:Int) * (n:Int)<=281474976710656:=by
  have h:((d.bytes * n:Nat):Int)<=281474976710656:=by rw [m];omega
  rwa [Int.natCast_mul]at h
 have i:=run_make (P:=P) w t e d z E.slice hi q k j n n (by omega) (by omega) l (by omega);simp only [Zb]at i;rw [i,o,Nat.mul_one,p];congr 3;apply Array.toList_inj.1;rw [toList_madeCells_one]
def aj (_:Nat):Bool:=false
theorem tu (m j:Nat):cF (List.replicate m 0#64) j=false:=by
 unfold cF;by_cases h:j/64<m<;>simp [List.getD,h]
def zu (w:World) (n:Nat) (e:Ending) (w':World):Prop:=e= .returned (.pointer (some ⟨w.heap.size+1,0,none⟩))/\aG w' (w.heap.size+1) (New (λ_=>False) w w') n aj/\Below w.heap.size w w'
theorem oA (w:World) (n k:Nat) (h:k=(n+63)/64) (i:n<=4096):
  zu w n (.returned (.pointer (some ⟨w.heap.size+1,0,none⟩))) ((w.alloc (.cells (List.replicate k (.int .u64 0)).toArray 282)).alloc (.cells #[.int .i64 n,.slice (some ⟨w.heap.size,0,none⟩) k k] 287)):=by
 have e:=Blk.new (w.alloc (.cells (List.replicate k (.int .u64 0)).toArray 282)) 287 #[.int .i64 n,.slice (some ⟨w.heap.size,0,none⟩) k k];have j:=(Blk.new w 282 (List.replicate k (.int .u64 0)).toArray).alloc (.cells #[.int .i64 n,.slice (some ⟨w.heap.size,0,none⟩) k k] 287);simp at e;refine⟨rfl,⟨⟨w.heap.size,List.replicate k 0#64,⟨⟨k,by simpa using e,by simp,by unfold maxLen;omega⟩,by simpa [U64]using j,by simp [h],i,λf _=>tu _ _⟩,.inr ⟨Zi _,by simp;omega⟩,λf=>tu _ _⟩,.inr ⟨by omega,by simp⟩,λf d=>by rcases d with d|d;exact d.elim;exact d.2⟩,((Below.refl _ w).alloc (Zi _) _).alloc (by simp) _⟩
theorem kZ (m:Int) (w:World):
  Calls prog 227 #[.int .i64 m] w (zu w (min (max m 0) 4096).toNat):=by
 by_cases l:m<0
 ·have h: ∀w:World,(Instr.makeSlice 285 (.int .i64 0) (.int .i64 0)).run prog w= .ok (.slice (some ⟨w.heap.size,0,none⟩) 0 0) (w.alloc (.cells (List.replicate 0 (.int .u64 0)).toArray 282)):=mC (P:=prog) elem64 rfl 0 (by omega) (by omega) .i64 .i64;have d:=oA w 0 0 (by decide) (by decide);rw [show(min (max m 0) 4096).toNat=0 by omega];have f:=ab d;clear d
  go_enter func227,ntmps227
  go_wp2
  go_ret
  exact f.out
 ·by_cases n:4096<m
  ·have h: ∀w:World,(Instr.makeSlice 285 (.int .i64 64) (.int .i64 64)).run prog w= .ok (.slice (some ⟨w.heap.size,0,none⟩) 64 64) (w.alloc (.cells (List.replicate 64 (.int .u64 0)).toArray 282)):=mC (P:=prog) elem64 rfl 64 (by omega) (by omega) .i64 .i64;have d:=oA w 4096 64 (by decide) (by decide);rw [show(min (max m 0) 4096).toNat=4096 by omega];obtain⟨k,i⟩: ∃j,j=List.replicate 64 (Value.int .u64 0):=⟨_,rfl⟩;rw [<-i]at h d;have f:=ab d;clear d i
   go_enter func227,ntmps227
   go_wp2
   go_ret
   exact f.out
  ·obtain⟨e,rfl⟩:=Za (show 0<=m by omega);have h:=mC (P:=prog) elem64 rfl ((e+63)/64) (by omega) (by omega) .i64 .i64;rw [show(((e+63)/64:Nat):Int)=((e:Int)+63)/64 by omega]at h;have d:=oA w e _ rfl (by omega);rw [show(min (max (e:Int) 0) 4096).toNat=e by omega];obtain⟨k,i⟩: ∃j,j=List.replicate ((e+63)/64) (Value.int .u64 0):=⟨_,rfl⟩;rw [<-i]at h d;have f:=ab d;clear d i
   go_enter func227,ntmps227
   go_wp2
   go_ret
   exact f.out
theorem CB {w:World} {F:Nat->Prop} {v:Value} {n:Nat} {xs:List Value} (h:Rd w F v 1 xs) (k:xs.length=n * 1) (l: ∀x∈xs,x.oneCell'=true) (s:n<=65536):
  Calls prog 275 #[v] w λe w'=> ∃d c,e= .returned (.slice d n c)/\w'.ownsRow w.heap.size 282 1 (.slice d n c) n xs/\Below w.heap.size w w':=by
 obtain⟨d,f,c,rfl,A,z,hm,j⟩:=id h;obtain rfl:f=n:=by omega
 have B:=Lib.run_eql_slice_nil (P:=prog) w 285 282 d f c 0 0 underlying285;rcases d with _|y
 ·obtain rfl:f=0:=by
   rcases Nat.eq_zero_or_pos f with i|i
   ·exact i
   ·obtain⟨_,_,p,_⟩:=j i;cases p
  obtain rfl:xs=[]:=Zc (by omega);clear s h k j hm l
  go_enter func275,ntmps275
  go_wp2
  go_ret
  exact⟨none,0,rfl,World.ownsRow_nil _ _ _ _,Below.refl _ _⟩
 ·have H:=ab h;have m:=ab k;clear h j hm k
  go_enter func275,ntmps275
  go_wp2_with (at_builtin;refine aJ _ rfl (.tmp 5) (.tmp 6) _ rfl elem64 w.heap.size _ 0 [] rfl (World.ownsRow_made w #[] 0 (Zi _) (by decide) rfl) _ _ xs f rfl m.out (H.out.touch ((aa.refl (λ_=>False) _).alloc _) (λ_ _ q=>q)) l (by unfold maxLen;omega) (by omega) (by simp) ?_)
  intro d o w2 u r _
  go_wp2
  go_ret
  exact⟨d,o,by simp,by simpa using u,(((Below.refl _ w).alloc (Zi _) _).grown r (by simp) (λC e=>by simp [Value.ownBlock]at e;omega))⟩
theorem Bp (k:Int) (w:World):Calls prog 257 #[.pointer none,.int .i64 k] w λe w'=>e= .returned (.slice none 0 0)/\w=w':=by
 go_enter func257,ntmps257
 go_wp2
 go_ret
 exact⟨rfl,rfl⟩
def pL (w:World) (k:Nat) (f:Nat->Bool) (e:Ending) (w':World):Prop:=
 ∃A c vs,e= .returned (.slice A vs.length c)/\w'.ownsRow w.heap.size 282 1 (.slice A vs.length c) vs.length (vs.map U64)/\Below w.heap.size w w'/\vs.length=(k+63)/64/\ ∀j,cF vs j=(f j&&decide (j<k))
theorem BI {w:World} {b n:Nat} {f:Nat->Bool} {S:Nat->Prop} (h:aG w b S n f) (m:Nat) (hm:m<=4096):
  Calls prog 257 #[.pointer (some ⟨b,0,none⟩),.int .i64 m] w (pL w (min m n) f):=by
 obtain⟨⟨W,j,x,bu,N⟩,bg,an⟩:=id h;obtain⟨c,G,bh,a6⟩:=x.blk;have al:=x.len;have bw:=x.room;have a2:=G.cell 0;have a3:=G.cell 1;simp at a2 a3;unfold maxLen at a6;obtain⟨d,Q⟩: ∃d,d=min m n:=⟨_,rfl⟩;have bq:d<=n:=by omega
 have I:(d+63)/64<=j.length:=by omega
 have Z:=oN d (by omega);have hcut:=CI j d I;have L:=ua j d I;have T:Rd w (· =W) (.slice (some ⟨W,0,none⟩) ((d+63)/64) c) 1 ((j.take ((d+63)/64)).map U64):=
  ⟨_,_,c,rfl,by omega,by unfold maxLen;omega,by simp;omega,λ_=>⟨W,0,rfl,rfl,λD a7 z=>by
   rw [x.words.cell]
   rw [List.getElem?_map,List.getElem?_take]at z
   split at z
   ·simpa using z
   ·simp at z⟩⟩
 have M:=CB T (n:=(d+63)/64) (by simp;omega) (λa7 z=>by obtain⟨s,_,rfl⟩:=Zg.1 z;rfl) (by omega);have O: ∀D,cF (eY j d) D=(f D&&decide (D<d)):=λD=>by rw [hcut,N]
 rw [<-Q];have E:=ab M;have X:=ab O;have q:=ab L;have y:(d=m/\(m:Int)<n)\/(d=n/\(n:Int)<m)\/(d=n/\n=m):=by omega
 obtain⟨i,u⟩: ∃i,i=(d+63)/64:=⟨_,rfl⟩;have bb:i<=c:=by omega
 have bd:i<=j.length:=by omega
 have bc:((d:Int)+63)/64=(i:Int):=by omega
 have Y:=ab u;by_cases C:d%64=0
 ·have B:eY j d=j.take i:=by unfold eY;rw [if_pos C,u]
  rw [C]at Z;have K:=ab B;rw [<-u]at E q;clear M O L hcut T h N an G x al B u C I Q;have A: ∀(l:Option Addr) (o:Nat) (w':World),w'.ownsRow w.heap.size 282 1 (.slice l i o) i ((j.take i).map U64)->Below w.heap.size w w'->pL w d f (.returned (.slice l i o)) w':=λl o w' p r=>
   ⟨l,o,eY j d,by rw [q.out],by rw [q.out,K.out];exact p,r,by rw [q.out,Y.out],X.out⟩
  have J:=ab A;clear A;rcases y with⟨rfl,y⟩|⟨rfl,y⟩|⟨rfl,rfl⟩
  all_goals
   go_enter func257,ntmps257
   go_wp2_with (go_at_call 275;refine E.out.mono ?_;rintro e w' ⟨l,o,rfl,p,r⟩)
   go_ret
   exact J.out l o w' p r
 ·obtain⟨s,V⟩: ∃s,j[d/64]? =some s:=⟨_,List.getElem?_eq_getElem (by omega)⟩;have a4:0<i:=by omega
  have ad:i - 1=d/64:=by omega
  obtain⟨k,R⟩: ∃k,k=d%64:=⟨_,rfl⟩;have ap:k<64:=by omega
  have B:eY j d=(j.take i).set (i - 1) (s&&&lw k):=by
   unfold eY;rw [if_neg C,<-u,<-R];simp [List.getD,V]
  rw [<-R]at Z;have br:((k:Int)==0)=false:=by simpa using(by omega: ¬k=0)
  have bs: ¬k=0:=by omega
  have bx:=ww k ap;have bt:=Bn k ap;have be:=kO s (lw k);have ba:(0:Int)<i:=by omega
  have ai:((j.take i).map U64)[i - 1]? =some (U64 s):=by
   rw [List.getElem?_map,List.getElem?_take,if_pos (by omega),ad,V];rfl
  have K:=ab B;have a1:=ab ai;rw [<-u]at E q;clear M O L hcut T h N an G x al B u C I Q V ad ai R;have A: ∀(l:Option Addr) (o:Nat) (w':World),w'.ownsRow w.heap.size 282 1 (.slice l i o) i (((j.take i).map U64).set (i - 1) (U64 (s&&&lw k)))->Below w.heap.size w w'->pL w d f (.returned (.slice l i o)) w':=λl o w' p r=>
   ⟨l,o,eY j d,by rw [q.out],by rw [q.out,K.out,List.map_set];exact p,r,by rw [q.out,Y.out],X.out⟩
  have J:=ab A;clear A;generalize s&&&lw k=a8 at *;generalize lw k=mk at *;generalize one k=bz at *;rcases y with⟨rfl,y⟩|⟨rfl,y⟩|⟨rfl,rfl⟩
  all_goals
   go_enter func257,ntmps257
   go_wp2_with fail
   refine E.out.mono ?_;rintro e w' ⟨l,o,rfl,p,r⟩;obtain⟨g,a9,U,bo,bp⟩:=p.form a4;injection U with U _ a5
   subst U a5;have bi:=(p.cellAt (i - 1) (by omega)).trans a1.out;have bl:=p.frozenAt (i - 1);obtain⟨aS,ak⟩:=p.stored (i - 1) (U64 a8);have a0:=ab aS;have aT:=ab ak;clear aS ak p
   go_wp2_with fail
   go_ret
   exact J.out _ _ _ a0.out (r.grown aT.out r.size (λd e=>by injection e with e;omega))
end Go.Proofs.YthlbjgabhpdbfaaGreat

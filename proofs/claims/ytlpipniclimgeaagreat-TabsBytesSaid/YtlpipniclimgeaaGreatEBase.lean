/- Words and lemmas that are of no program: which blocks a call may turn, a slice that reads as a list of cells, a block that is known whole.
  Conditions: none. -/
import Derived.WalkKit
import Derived.Maps.OwnSet
import Derived.BigQuiet
import Derived.Deep.QuietTactic
import Derived.Deep.Draws
import Derived.Deep.RegionHeld3
import Derived.Deep.DeepFit
import Derived.WalkSpells
import Derived.Deep.LoopGhost
import Derived.Deep.Slices
import Derived.ChangeSame
import Derived.StillTailTactics
import Derived.Maps.AppendAt
import Derived.Deep.AppendLies
import Derived.Laws.CopyOwn
import Derived.ProofKit
import Derived.OpenShut
import Derived.ShutString
import Derived.ChangeOld
import Derived.Carry
import Derived.Deep.Fields
import Derived.SizedLaws
import Derived.Test.YtlpipniclimgeaaGreatProg
import Derived.Laws.MakeOwn
import Derived.Shelf.Abstract
import Derived.OrdersHeld
import Derived.Laws.RangeString
import Derived.WalkSmall
import Derived.WideLaws
import Derived.Lib.AppendZeros
import Derived.Shelf.SlSortCmp.NoneTotal
namespace Go.Proofs.YtlpipniclimgeaaGreat
set_option linter.unusedVariables false
open Go.RowKit
theorem hide {p:Prop} (h:p):Hid p:=h
theorem HqZ2 {p0 p1:Prop} (a0:p0) (a1:p1):Hid p0/\Hid p1:=⟨hide a0,hide a1⟩
theorem HqZ3 {p0 p1 p2:Prop} (a0:p0) (a1:p1) (a2:p2):Hid p0/\Hid p1/\Hid p2:=⟨hide a0,hide a1,hide a2⟩
theorem HqZ4 {p0 p1 p2 p3:Prop} (a0:p0) (a1:p1) (a2:p2) (a3:p3):Hid p0/\Hid p1/\Hid p2/\Hid p3:=⟨hide a0,hide a1,hide a2,hide a3⟩
theorem HqZ5 {p0 p1 p2 p3 p4:Prop} (a0:p0) (a1:p1) (a2:p2) (a3:p3) (a4:p4):Hid p0/\Hid p1/\Hid p2/\Hid p3/\Hid p4:=⟨hide a0,hide a1,hide a2,hide a3,hide a4⟩
theorem HqZ6 {p0 p1 p2 p3 p4 p5:Prop} (a0:p0) (a1:p1) (a2:p2) (a3:p3) (a4:p4) (a5:p5):Hid p0/\Hid p1/\Hid p2/\Hid p3/\Hid p4/\Hid p5:=⟨hide a0,hide a1,hide a2,hide a3,hide a4,hide a5⟩
theorem HqZ7 {p0 p1 p2 p3 p4 p5 p6:Prop} (a0:p0) (a1:p1) (a2:p2) (a3:p3) (a4:p4) (a5:p5) (a6:p6):Hid p0/\Hid p1/\Hid p2/\Hid p3/\Hid p4/\Hid p5/\Hid p6:=⟨hide a0,hide a1,hide a2,hide a3,hide a4,hide a5,hide a6⟩
theorem HqZ8 {p0 p1 p2 p3 p4 p5 p6 p7:Prop} (a0:p0) (a1:p1) (a2:p2) (a3:p3) (a4:p4) (a5:p5) (a6:p6) (a7:p7):Hid p0/\Hid p1/\Hid p2/\Hid p3/\Hid p4/\Hid p5/\Hid p6/\Hid p7:=⟨hide a0,hide a1,hide a2,hide a3,hide a4,hide a5,hide a6,hide a7⟩
theorem HqZ9 {p0 p1 p2 p3 p4 p5 p6 p7 p8:Prop} (a0:p0) (a1:p1) (a2:p2) (a3:p3) (a4:p4) (a5:p5) (a6:p6) (a7:p7) (a8:p8):Hid p0/\Hid p1/\Hid p2/\Hid p3/\Hid p4/\Hid p5/\Hid p6/\Hid p7/\Hid p8:=⟨hide a0,hide a1,hide a2,hide a3,hide a4,hide a5,hide a6,hide a7,hide a8⟩
theorem HqZ10 {p0 p1 p2 p3 p4 p5 p6 p7 p8 p9:Prop} (a0:p0) (a1:p1) (a2:p2) (a3:p3) (a4:p4) (a5:p5) (a6:p6) (a7:p7) (a8:p8) (a9:p9):Hid p0/\Hid p1/\Hid p2/\Hid p3/\Hid p4/\Hid p5/\Hid p6/\Hid p7/\Hid p8/\Hid p9:=⟨hide a0,hide a1,hide a2,hide a3,hide a4,hide a5,hide a6,hide a7,hide a8,hide a9⟩
theorem HqZ11 {p0 p1 p2 p3 p4 p5 p6 p7 p8 p9 p10:Prop} (a0:p0) (a1:p1) (a2:p2) (a3:p3) (a4:p4) (a5:p5) (a6:p6) (a7:p7) (a8:p8) (a9:p9) (a10:p10):Hid p0/\Hid p1/\Hid p2/\Hid p3/\Hid p4/\Hid p5/\Hid p6/\Hid p7/\Hid p8/\Hid p9/\Hid p10:=⟨hide a0,hide a1,hide a2,hide a3,hide a4,hide a5,hide a6,hide a7,hide a8,hide a9,hide a10⟩
theorem HqZ12 {p0 p1 p2 p3 p4 p5 p6 p7 p8 p9 p10 p11:Prop} (a0:p0) (a1:p1) (a2:p2) (a3:p3) (a4:p4) (a5:p5) (a6:p6) (a7:p7) (a8:p8) (a9:p9) (a10:p10) (a11:p11):Hid p0/\Hid p1/\Hid p2/\Hid p3/\Hid p4/\Hid p5/\Hid p6/\Hid p7/\Hid p8/\Hid p9/\Hid p10/\Hid p11:=⟨hide a0,hide a1,hide a2,hide a3,hide a4,hide a5,hide a6,hide a7,hide a8,hide a9,hide a10,hide a11⟩
theorem HqZ13 {p0 p1 p2 p3 p4 p5 p6 p7 p8 p9 p10 p11 p12:Prop} (a0:p0) (a1:p1) (a2:p2) (a3:p3) (a4:p4) (a5:p5) (a6:p6) (a7:p7) (a8:p8) (a9:p9) (a10:p10) (a11:p11) (a12:p12):Hid p0/\Hid p1/\Hid p2/\Hid p3/\Hid p4/\Hid p5/\Hid p6/\Hid p7/\Hid p8/\Hid p9/\Hid p10/\Hid p11/\Hid p12:=⟨hide a0,hide a1,hide a2,hide a3,hide a4,hide a5,hide a6,hide a7,hide a8,hide a9,hide a10,hide a11,hide a12⟩
theorem HqZ14 {p0 p1 p2 p3 p4 p5 p6 p7 p8 p9 p10 p11 p12 p13:Prop} (a0:p0) (a1:p1) (a2:p2) (a3:p3) (a4:p4) (a5:p5) (a6:p6) (a7:p7) (a8:p8) (a9:p9) (a10:p10) (a11:p11) (a12:p12) (a13:p13):Hid p0/\Hid p1/\Hid p2/\Hid p3/\Hid p4/\Hid p5/\Hid p6/\Hid p7/\Hid p8/\Hid p9/\Hid p10/\Hid p11/\Hid p12/\Hid p13:=⟨hide a0,hide a1,hide a2,hide a3,hide a4,hide a5,hide a6,hide a7,hide a8,hide a9,hide a10,hide a11,hide a12,hide a13⟩
theorem bytes_ext {a b:ByteArray} (h:a.data=b.data):a=b:=by cases a;cases b;cases h;rfl
instance:DecidableEq ByteArray:=fun a b=>if h:a.data=b.data then isTrue (bytes_ext h)else isFalse fun e=>h (by rw [e])
def place (xs:List ByteArray) (s:ByteArray):Int:=match xs.findIdx? (fun x=>decide (x=s))with|some i=>(i:Int)|none=> -1
theorem place_not {xs:List ByteArray} {s:ByteArray} (h:s∉xs):place xs s= -1:=by
 have:xs.findIdx? (fun x=>decide (x=s))=none:=by
  rw [List.findIdx?_eq_none_iff];intro x hx;simp;rintro rfl;exact h hx
 simp [place,this]
theorem place_some {xs:List ByteArray} {s:ByteArray} (h:s∈xs): ∃i:Nat,xs[i]? =some s/\(∀j:Nat,j<i->xs[j]? ≠some s)/\place xs s=i:=by
 rcases hf:xs.findIdx? (fun x=>decide (x=s))with _|i
 ·rw [List.findIdx?_eq_none_iff]at hf
  have:=hf s h
  simp at this
 ·have hf':=hf
  rw [List.findIdx?_eq_some_iff_getElem]at hf
  obtain⟨hi,hx,hj⟩:=hf
  refine⟨i,by rw [List.getElem?_eq_getElem hi];simpa using hx,fun j hj'=> ?_,by simp [place,hf']⟩
  have:=hj j hj'
  rw [List.getElem?_eq_getElem (by omega)]
  simpa using this
theorem place_mem {xs:List ByteArray} {s:ByteArray}:0<=place xs s↔s∈xs:=by
 by_cases h:s∈xs
 ·obtain⟨i,_,_,hp⟩:=place_some h
  simp [h,hp]
 ·rw [place_not h];simp [h]
instance (s:ByteArray) (xs:List ByteArray):Decidable (s∈xs):=decidable_of_iff (0<=place xs s) place_mem
theorem ret_int {k:IntKind} {a b:Int} (h:a=b):Ending.returned (.int k a)= .returned (.int k b):=by rw [h]
theorem ret_bool {a b:Bool} (h:a=b):Ending.returned (.bool a)= .returned (.bool b):=by rw [h]
theorem region_tail {P:Program} {id:Nat} {Q:Exit->Act->World->Prop} {a:Act} {w:World} {l:List Oper} (n:Nat) (hm:P.follows .mixedOrders=true) (hB:Region.lexTailB .any l.toArray n=true)
  (h:wpStill P l.toArray w.drew (fun a'=>wpList P l.toArray Q (l.drop n) a' w.drew) (l.take n) a):(Code.region id l.toArray true).wp P Q a w:=
 wp_region_still_tail n hm hB h
structure Touch (S:Nat->Prop) (w w':World):Prop where
 os:w'.os=w.os
 tape:w'.tape=w.tape
 output:w'.output=w.output
 size:w.heap.size<=w'.heap.size
 block: ∀k,k<w.heap.size-> ¬S k->w'.heap[k]? =w.heap[k]?
section
variable {S S' : Nat -> Prop} {w w' a b c : World}
theorem Touch.refl (S:Nat->Prop) (w:World):Touch S w w:=⟨rfl,rfl,rfl,Nat.le_refl _,fun _ _ _=>rfl⟩
theorem Touch.trans (h:Touch S a b) (k:Touch S' b c) (hS: ∀i,i<a.heap.size->S' i->S i):Touch S a c:=
 ⟨k.os.trans h.os,k.tape.trans h.tape,k.output.trans h.output,Nat.le_trans h.size k.size,
  fun i hi hn=>(k.block i (Nat.lt_of_lt_of_le hi h.size) (fun hs=>hn (hS i hi hs))).trans (h.block i hi hn)⟩
theorem Touch.trans' (h:Touch S a b) (k:Touch S b c):Touch S a c:=h.trans k fun _ _ hs=>hs
theorem Touch.mono (h:Touch S a b) (hS: ∀i,i<a.heap.size->S i->S' i):Touch S' a b:=
 ⟨h.os,h.tape,h.output,h.size,fun i hi hn=>h.block i hi fun hs=>hn (hS i hi hs)⟩
theorem Touch.drew (h:Touch S a b):Touch S a b.drew:=⟨h.os,h.tape,h.output,h.size,h.block⟩
theorem Touch.setCell (h:Touch S a b) {p:Addr} (hp:p.block<a.heap.size->S p.block) (u:Value):Touch S a (b.setCell p u):=
 ⟨h.os,h.tape,h.output,by simpa [World.setCell]using h.size,fun i hi hn=>(Below.heap_setCell _ _ _ _ (fun e=>hn (by rw [e];exact hp (e▸hi)))).trans (h.block i hi hn)⟩
theorem Touch.grown {row:Option Nat} (h:Touch S a b) (hg:b.grownBy c row) (hr: ∀k,row=some k->k<a.heap.size->S k):Touch S a c:=
 ⟨hg.os.trans h.os,hg.tape.trans h.tape,hg.output.trans h.output,Nat.le_trans h.size hg.size,
  fun i hi hn=>(hg.block i (Nat.lt_of_lt_of_le hi h.size) (fun e=>hn (hr i e.symm hi))).trans (h.block i hi hn)⟩
theorem Touch.below {B:Nat} (h:Touch S a b) (hS: ∀i,i<B->i<a.heap.size-> ¬S i) (hB:B<=a.heap.size):Below B a b:=
 ⟨h.os,h.tape,h.output,h.size,fun i hi=>h.block i (by omega) (hS i hi (by omega))⟩
theorem Touch.of_below {B:Nat} (h:Below B a b):Touch (fun k=>B<=k) a b:=⟨h.os,h.tape,h.output,h.size,fun i _ hn=>h.block i (by simpa using hn)⟩
theorem Touch.of_size (h:Below a.heap.size a b) (S:Nat->Prop):Touch S a b:=⟨h.os,h.tape,h.output,h.size,fun i hi _=>h.block i hi⟩
theorem Touch.cell (h:Touch S w w') {p:Addr} {u:Value} (hc:w.cell? p=some u) (hp: ¬S p.block):w'.cell? p=some u:=
 (World.cell?_of_block (h.block _ (World.block_lt_of_cell? w p hc) hp)).trans hc
theorem Touch.own {base:Nat} {e:TypeId} {size n:Nat} {v:Value} {xs:List Value} (h:Touch S w w') (ho:w.ownsRow base e size v n xs) (hS: ∀k,v.ownBlock=some k-> ¬S k):w'.ownsRow base e size v n xs:=by
 refine⟨ho.1,?_⟩
 rcases ho.2 with hn|⟨g,cap,cur,rfl,hb,hgg,rest⟩
 ·exact .inl hn
 ·exact .inr ⟨g,cap,cur,rfl,hb,(h.block g (Array.getElem?_eq_some_iff.1 hgg).1 (hS g rfl)).trans hgg,rest⟩
theorem Touch.ownsMap {H:Type} {P:Program} {k:TypeId} {R:Value->Option (DataW H×List MemPlace)} {n m:Nat} {D:DataW H} (h:Touch S w w') (ho:w.ownsMap P k R m n D) (hS: ¬S m):w'.ownsMap P k R m n D:=by
 have hlt:=ho.lt
 obtain⟨es,clock,hb,r⟩:=ho
 exact⟨es,clock,(h.block m hlt hS).trans hb,r⟩
end
def New (S:Nat->Prop) (w w':World) (k:Nat):Prop:=S k\/(w.heap.size<=k/\k<w'.heap.size)
theorem Touch.toBelow {w w':World} {S:Nat->Prop} {B:Nat} {w0:World} (h:Touch S w w') (hS: ∀k,S k->B<=k) (hb:Below B w0 w) (hB:B<=w.heap.size):Below B w0 w':=
 hb.trans (h.below (fun k hk _ hs=>by have:=hS k hs;omega) hB)
def Blk (w:World) (g:Nat) (t:TypeId) (cs:Array Value):Prop:=w.heap[g]? =some (.cells cs t (0,0))
section
variable {w w' : World} {g g' : Nat} {t t' : TypeId} {cs cs' : Array Value} {S : Nat -> Prop}
theorem Blk.lt (h:Blk w g t cs):g<w.heap.size:=(Array.getElem?_eq_some_iff.1 h).1
theorem Blk.cell (h:Blk w g t cs) (i:Nat):w.cell? ⟨g,i,none⟩=cs[i]? :=cell_of_row w g i cs t (0,0) h
theorem Blk.frozen (h:Blk w g t cs) (i:Nat):w.frozen? ⟨g,i,none⟩=false:=by
 unfold Blk at h
 simp [World.frozen?,h]
theorem Blk.new (w:World) (t:TypeId) (cs:Array Value):Blk (w.alloc (.cells cs t)) w.heap.size t cs:=heap_alloc_new w _
theorem Blk.drew (h:Blk w g t cs):Blk w.drew g t cs:=h
theorem Blk.alloc (h:Blk w g t cs) (o:Obj):Blk (w.alloc o) g t cs:=(Below.heap_alloc w o g h.lt).trans h
theorem Blk.put (h:Blk w g t cs) (i:Nat) (u:Value):Blk (w.setCell ⟨g,i,none⟩ u) g t (cs.setIfInBounds i u):=by
 unfold Blk at h⊢
 simp [World.setCell,Array.getElem?_modify,h]
theorem Blk.below {B:Nat} (h:Blk w g t cs) (hb:Below B w w') (hg:g<B):Blk w' g t cs:=(hb.block g hg).trans h
theorem Blk.touch (h:Blk w g t cs) (hb:Touch S w w') (hg: ¬S g):Blk w' g t cs:=(hb.block g h.lt hg).trans h
end
def Rd (w:World) (F:Nat->Prop) (v:Value) (size:Nat) (xs:List Value):Prop:=
 ∃A n c,v= .slice A n c/\n<=c/\c<=maxLen/\xs.length=n * size/\
  (0<n-> ∃b off,A=some ⟨b,off,none⟩/\F b/\ ∀j u,xs[j]? =some u->w.cell? ⟨b,off+j,none⟩=some u)
section
variable {w w' : World} {F F' S : Nat -> Prop} {v : Value} {size : Nat} {xs : List Value}
theorem Rd.touch (h:Rd w F v size xs) (ht:Touch S w w') (hF: ∀k,F k-> ¬S k):Rd w' F v size xs:=by
 obtain⟨A,n,c,hv,hc,hm,hl,hr⟩:=h
 refine⟨A,n,c,hv,hc,hm,hl,fun hn=> ?_⟩
 obtain⟨b,off,hA,hb,hcell⟩:=hr hn
 exact⟨b,off,hA,hb,fun j u hu=>ht.cell (hcell j u hu) (hF b hb)⟩
theorem Rd.below {B:Nat} (h:Rd w F v size xs) (ht:Below B w w') (hF: ∀k,F k->k<B):Rd w' F v size xs:=by
 obtain⟨A,n,c,hv,hc,hm,hl,hr⟩:=h
 refine⟨A,n,c,hv,hc,hm,hl,fun hn=> ?_⟩
 obtain⟨b,off,hA,hb,hcell⟩:=hr hn
 exact⟨b,off,hA,hb,fun j u hu=>(ht.cell (p:=⟨b,off+j,none⟩) (hF b hb)).trans (hcell j u hu)⟩
theorem Rd.mono (h:Rd w F v size xs) (hF: ∀k,F k->F' k):Rd w F' v size xs:=by
 obtain⟨A,n,c,hv,hc,hm,hl,hr⟩:=h
 refine⟨A,n,c,hv,hc,hm,hl,fun hn=> ?_⟩
 obtain⟨b,off,hA,hb,hcell⟩:=hr hn
 exact⟨b,off,hA,hF b hb,hcell⟩
theorem Rd.drewN (h:Rd w F v size xs) (n:Nat):Rd (w.drewN n) F v size xs:=h
theorem Rd.nil (w:World) (F:Nat->Prop) (size:Nat):Rd w F (.slice none 0 0) size []:=⟨none,0,0,rfl,Nat.le_refl _,by decide,by simp,fun h=>absurd h (by omega)⟩
theorem Rd.of_own {base:Nat} {e:TypeId} {n:Nat} (h:w.ownsRow base e size v n xs):Rd w (fun k=>v.ownBlock=some k) v size xs:=by
 rcases h.2 with⟨rfl,rfl⟩|⟨g,cap,cur,rfl,hb,hh,hn,hc,hz,ht⟩
 ·have:xs=[]:=List.eq_nil_of_length_eq_zero (by simpa using h.1)
  subst this
  exact Rd.nil _ _ _
 ·refine⟨_,_,_,rfl,hn,hc,h.1,fun _=>⟨g,0,rfl,rfl,fun j u hu=> ?_⟩⟩
  rw [cell_of_row w g (0+j) cur e (0,0) hh,Nat.zero_add]
  rw [<-ht,List.getElem?_take]at hu
  split at hu
  ·simpa using hu
  ·cases hu
end
structure Elem (P:Program) (t e:TypeId) (z:Value) (size bytes:Nat):Prop where
 slice:P.underlying t=some (.slice e)
 info:(P.info? e).map (fun i=>(i.zero,i.size,i.bytes))=some (some z,size,bytes)
 zs:z.cells.size=size
 pos:0<size
theorem ownsRow_drewN {w:World} {base:Nat} {e:TypeId} {size n:Nat} {v:Value} {xs:List Value} (h:w.ownsRow base e size v n xs) (k:Nat):(w.drewN k).ownsRow base e size v n xs:=h
theorem ownsRow_shape {w:World} {base:Nat} {e:TypeId} {size n:Nat} {v:Value} {xs:List Value} (h:w.ownsRow base e size v n xs): ∃A c,v= .slice A n c/\n<=c/\c<=maxLen:=by
 rcases h.2 with⟨rfl,rfl⟩|⟨g,cap,cur,rfl,_,_,h1,h2,_⟩
 ·exact⟨none,0,rfl,Nat.le_refl _,by decide⟩
 ·exact⟨_,cap,rfl,h1,h2⟩
theorem add_none (b off j:Nat):(⟨b,off,none⟩:Addr).add j=⟨b,off+j,none⟩:=by
 unfold Addr.add;split<;>simp_all
theorem append_run {P:Program} (w:World) {t e:TypeId} {z:Value} {size bytes:Nat} (E:Elem P t e z size bytes) (ty:TypeId) (base:Nat)
  (v:Value) (n:Nat) (xs:List Value) (hown:w.ownsRow base e size v n xs) (F:Nat->Prop) (vx:Value) (news:List Value) (m:Nat) (hm:news.length=m * size) (hr:Rd w F vx size news) (h1: ∀u∈news,u.oneCell'=true)
  (h63:n+m<=maxLen) (hbytes:(n+m) * bytes<=140737488355328) (hbase:base<=w.heap.size):
  ∃A c w',(Builtin.append_ #[t,t] ty #[v,vx]).run P w= .ok (.slice A (n+m) c) w'/\w'.ownsRow base e size (.slice A (n+m) c) (n+m) (xs++news)/\w.grownBy w' v.ownBlock/\
   ((Value.slice A (n+m) c).ownBlock=v.ownBlock\/(Value.slice A (n+m) c).ownBlock=some w.heap.size):=by
 obtain⟨i,hi,hz,hsize,hby⟩:=info_parts E.info
 obtain⟨A,m',c,rfl,hc,hcm,hl,hcell⟩:=hr
 obtain rfl:m'=m:=Nat.eq_of_mul_eq_mul_right E.pos (by rw [<-hl,hm])
 have hcs: ∀ad,A=some ad-> ∀j u,news[j]? =some u->w.cell? (ad.add j)=some u:=by
  intro ad hA j u hu
  have hlt:=(List.getElem?_eq_some_iff.1 hu).1
  rcases Nat.eq_zero_or_pos m' with h0|h0
  ·subst h0;simp at hl;subst hl;simp at hlt
  ·obtain⟨b,off,hA',_,hcs⟩:=hcell h0
   rw [hA]at hA'
   injection hA' with hA'
   subst hA'
   rw [add_none]
   exact hcs j u hu
 rcases A with _|ad
 ·have h0:m'=0:=by
   rcases Nat.eq_zero_or_pos m' with h0|h0
   ·exact h0
   ·obtain⟨b,off,hA',_⟩:=hcell h0;cases hA'
  subst h0
  obtain rfl:news=[]:=List.eq_nil_of_length_eq_zero (by simpa using hl)
  obtain⟨Av,cv,hv,_,_⟩:=ownsRow_shape hown
  refine⟨Av,cv,w,?_,by rw [hv]at hown;simpa using hown,World.grownBy.refl w _,.inl (by rw [hv];rfl)⟩
  rw [Nat.add_zero,<-hv]
  rcases hown.2 with⟨rfl,rfl⟩|⟨g,cap,cur,rfl,_,_,hnc,_⟩
  ·simp [Builtin.append_,run_underlying E.slice,sizeOf,typeInfo,hi,Builtin.lenOf,Builtin.firstCells]
  ·simp [Builtin.append_,run_underlying E.slice,sizeOf,typeInfo,hi,Builtin.lenOf,Builtin.firstCells,hnc,storeCells]
 ·obtain⟨v',w',hrun,h2,h3,_,h5⟩:=run_append_own_at (P:=P) w base t ty e i z size bytes E.slice hi hz hsize hby E.zs E.pos v n xs hown ad m' c news hl (hcs ad rfl) h1 h63 hbytes hbase
  obtain⟨A',c',rfl,_,_⟩:=ownsRow_shape h2
  exact⟨A',c',w',hrun,h2,h3,h5⟩
theorem wp_append {P:Program} (w:World) {ops:Array Oper} {rest:List Oper} {o:Oper} {a:Act} {Q:Exit->Act->World->Prop} (hgd:o.guard=none) (s x:Operand) (t:TypeId)
  (ho:o.op= .call {callee:= .builtin .append,args:= #[s,x],argTypes:= #[t,t]}) {e:TypeId} {z:Value} {size bytes:Nat} (E:Elem P t e z size bytes) (base:Nat)
  (v:Value) (n:Nat) (xs:List Value) (hs:a.eval s=v) (hown:w.ownsRow base e size v n xs) (F:Nat->Prop) (vx:Value) (news:List Value) (m:Nat) (hx:a.eval x=vx) (hm:news.length=m * size) (hr:Rd w F vx size news) (h1: ∀u∈news,u.oneCell'=true)
  (h63:n+m<=maxLen) (hbytes:(n+m) * bytes<=140737488355328) (hbase:base<=w.heap.size)
  (h: ∀A c w',w'.ownsRow base e size (.slice A (n+m) c) (n+m) (xs++news)->w.grownBy w' v.ownBlock->((Value.slice A (n+m) c).ownBlock=v.ownBlock\/(Value.slice A (n+m) c).ownBlock=some w.heap.size)->wpList P ops Q rest (a.put o.dst (.slice A (n+m) c)) w'):
  wpList P ops Q (o::rest) a w:=by
 refine wpList_plain hgd fun _ hK=> ?_
 obtain⟨A,c,w',hrun,h2,h3,h4⟩:=append_run (P:=P) w E o.type base v n xs hown F vx news m hm hr h1 h63 hbytes hbase
 unfold Oper.wp execOp
 simp only [ho,resolve,invoke,builtin,Sem.run_bind,Sem.run_pure,Result.andThen_ok,List.map_toArray,List.map_cons,List.map_nil,hs,hx,hrun]
 exact hK _ _ (h A c w' h2 h3 h4)
theorem step_append {P:Program} (w:World) {ops:Array Oper} {o:Oper} {a:Act} {K:Act->World->Prop} {Q:Exit->Act->World->Prop} {E':Prop} (hgd:o.guard=none) (s x:Operand) (t:TypeId)
  (ho:o.op= .call {callee:= .builtin .append,args:= #[s,x],argTypes:= #[t,t]}) {e:TypeId} {z:Value} {size bytes:Nat} (E:Elem P t e z size bytes) (base:Nat)
  (v:Value) (n:Nat) (xs:List Value) (hs:a.eval s=v) (hown:w.ownsRow base e size v n xs) (F:Nat->Prop) (vx:Value) (news:List Value) (m:Nat) (hx:a.eval x=vx) (hm:news.length=m * size) (hr:Rd w F vx size news) (h1: ∀u∈news,u.oneCell'=true)
  (h63:n+m<=maxLen) (hbytes:(n+m) * bytes<=140737488355328) (hbase:base<=w.heap.size)
  (h: ∀A c w',w'.ownsRow base e size (.slice A (n+m) c) (n+m) (xs++news)->w.grownBy w' v.ownBlock->((Value.slice A (n+m) c).ownBlock=v.ownBlock\/(Value.slice A (n+m) c).ownBlock=some w.heap.size)->K (a.put o.dst (.slice A (n+m) c)) w'):
  if Region.wanted o (yielded ops a.tmps)=true then Oper.wp P o a w K Q else E':=by
 have hw:Region.wanted o (yielded ops a.tmps)=true:=by simp [Region.wanted,hgd]
 rw [if_pos hw]
 obtain⟨A,c,w',hrun,h2,h3,h4⟩:=append_run (P:=P) w E o.type base v n xs hown F vx news m hm hr h1 h63 hbytes hbase
 unfold Oper.wp execOp
 simp only [ho,resolve,invoke,builtin,Sem.run_bind,Sem.run_pure,Result.andThen_ok,List.map_toArray,List.map_cons,List.map_nil,hs,hx,hrun]
 exact h A c w' h2 h3 h4
theorem Rd.one {w:World} {e:TypeId} (us:List Value) (size:Nat) (hl:us.length=size):Rd (w.alloc (.cells us.toArray e)) (fun _=>True) (.slice (some ⟨w.heap.size,0,none⟩) 1 1) size us:=
 ⟨_,1,1,rfl,Nat.le_refl _,by decide,by simpa using hl,fun _=>⟨_,0,rfl,trivial,fun j u hu=>by
  rw [(Blk.new w e us.toArray).cell];simpa using hu⟩⟩
end Go.Proofs.YtlpipniclimgeaaGreat
namespace Go.Proofs.YtlpipniclimgeaaGreat
open Go.ChangeShapes Go.WideShapes Go.ChangeAt Go.RowKit Go.Deep
def RdL {X:Type} (w:World) (F:Nat->Prop) (k:Nat) (E:List Value->X->Prop) (v:Value) (xs:List X):Prop:=
 ∃A c,v= .slice A xs.length c/\xs.length<=c/\c<=maxLen/\
  (0<xs.length-> ∃b off,A=some ⟨b,off,none⟩/\F b/\ ∀i x,xs[i]? =some x-> ∃cs,cs.length=k/\E cs x/\ ∀j u,cs[j]? =some u->w.cell? ⟨b,off+i * k+j,none⟩=some u)
theorem RdL.touch {X:Type} {w w':World} {F S:Nat->Prop} {k:Nat} {E E':List Value->X->Prop} {v:Value} {xs:List X} (h:RdL w F k E v xs) (ht:Touch S w w') (hF: ∀b,F b-> ¬S b) (hE: ∀cs x,x∈xs->E cs x->E' cs x):RdL w' F k E' v xs:=by
 obtain⟨A,c,hv,hc,hm,hr⟩:=h
 refine⟨A,c,hv,hc,hm,fun hn=> ?_⟩
 obtain⟨b,off,hA,hb,hcell⟩:=hr hn
 refine⟨b,off,hA,hb,fun i x hx=> ?_⟩
 obtain⟨cs,hl,he,hu⟩:=hcell i x hx
 exact⟨cs,hl,hE _ _ (List.mem_of_getElem? hx) he,fun j u hj=>ht.cell (hu j u hj) (hF b hb)⟩
theorem RdL.below {X:Type} {w w':World} {F:Nat->Prop} {B k:Nat} {E E':List Value->X->Prop} {v:Value} {xs:List X} (h:RdL w F k E v xs) (ht:Below B w w') (hF: ∀b,F b->b<B) (hE: ∀cs x,x∈xs->E cs x->E' cs x):RdL w' F k E' v xs:=by
 obtain⟨A,c,hv,hc,hm,hr⟩:=h
 refine⟨A,c,hv,hc,hm,fun hn=> ?_⟩
 obtain⟨b,off,hA,hb,hcell⟩:=hr hn
 refine⟨b,off,hA,hb,fun i x hx=> ?_⟩
 obtain⟨cs,hl,he,hu⟩:=hcell i x hx
 exact⟨cs,hl,hE _ _ (List.mem_of_getElem? hx) he,fun j u hj=>(ht.cell (p:=⟨b,off+i * k+j,none⟩) (hF b hb)).trans (hu j u hj)⟩
theorem RdL.rd {X:Type} {w:World} {F:Nat->Prop} {f:X->Value} {v:Value} {xs:List X} (h:RdL w F 1 (fun cs x=>cs=[f x]) v xs):Rd w F v 1 (xs.map f):=by
 obtain⟨A,c,hv,hc,hm,hr⟩:=h
 refine⟨A,_,c,hv,hc,hm,by simp,fun hn=> ?_⟩
 obtain⟨b,off,hA,hb,hcell⟩:=hr hn
 refine⟨b,off,hA,hb,fun j u hu=> ?_⟩
 rw [List.getElem?_map]at hu
 obtain⟨x,hx,rfl⟩:=Option.map_eq_some_iff.1 hu
 obtain⟨cs,_,rfl,hc'⟩:=hcell j x hx
 simpa using hc' 0 (f x) rfl
theorem RdL.parts {X:Type} {w:World} {F:Nat->Prop} {k:Nat} {E:List Value->X->Prop} {p:X->Prop} {v:Value} {xs:List X} (h:RdL w F k (fun cs x=>E cs x/\p x) v xs):RdL w F k E v xs/\ ∀x∈xs,p x:=by
 obtain⟨A,c,hv,hc,hm,hr⟩:=h
 refine⟨⟨A,c,hv,hc,hm,fun hn=> ?_⟩,fun x hx=> ?_⟩
 ·obtain⟨b,off,hA,hb,hcell⟩:=hr hn
  exact⟨b,off,hA,hb,fun i x hx=>by obtain⟨cs,hl,he,hu⟩:=hcell i x hx;exact⟨cs,hl,he.1,hu⟩⟩
 ·obtain⟨i,hi,rfl⟩:=List.getElem_of_mem hx
  obtain⟨b,off,hA,hb,hcell⟩:=hr (by omega)
  obtain⟨cs,hl,he,hu⟩:=hcell i _ (List.getElem?_eq_getElem hi)
  exact he.2
section
variable {H : Type} {enc : TypeId × Value -> H} {P : Program} {w : World} {sp : Nat -> Bool}
abbrev Opens (enc:TypeId×Value->H) (P:Program) (w:World) (sp:Nat->Bool) (t:TypeId) {X:Type} (E:List Value->X->Prop):Prop:=
 ∀(n:Nat) (cs:List Value) (y:DataW H×List MemPlace),DataW.trod enc P w 0 sp true n t cs=some y-> ∃x:X,E cs x
theorem opens_int {t:TypeId} {k:IntKind} (ht:P.underlying t=some (.int k)):Opens enc P w sp t (fun cs (n:Int)=>cs=[.int k n]/\(Lit.int k n).wf=true):=by
 intro fuel cs y h
 obtain⟨n,h1,_,h2⟩:=DataW.trod_int ht h
 exact⟨n,h1,h2⟩
theorem trod_back (hl:laidOutB P=true) {t:TypeId} (hr:P.readableRec t=true) (hrow:t<P.types.size) {W W':World} {v:Value} {d:DataW H} {ps:List MemPlace}
  (h:DataW.Trod enc P W 0 (fun _=>true) true t v d ps) (hb:Below W.heap.size W W'):DataW.Trod enc P W' 0 (fun b=>decide (b<W.heap.size)) true t v d ps:=
 Below.trod hl hr hrow h hb (by obtain⟨n,hn⟩:=h;exact DataW.trod_lt n _ _ _ hn)
end
set_option linter.unusedVariables false
section
variable {H : Type} {enc : TypeId × Value -> H} {P : Program} {w : World} {sp : Nat -> Bool}
abbrev Reached (P:Program) (t:TypeId) (d:DataW H):Prop:= ∀x∈d.weights P t,x<=140737488351232
abbrev OpensZ (enc:TypeId×Value->H) (P:Program) (w:World) (sp:Nat->Bool) (t:TypeId) {X:Type} (E:List Value->X->Prop):Prop:=
 ∀(n:Nat) (cs:List Value) (y:DataW H×List MemPlace),DataW.trod enc P w 0 sp true n t cs=some y->Reached P t y.1-> ∃x:X,E cs x
theorem OpensZ.of {X:Type} {t:TypeId} {E:List Value->X->Prop} (h:Opens enc P w sp t E):OpensZ enc P w sp t E:=fun n cs y hy _=>h n cs y hy
theorem weightsAll_mem {e:TypeId} {d:DataW H}: ∀{l:List (DataW H)},d∈l-> ∀x∈d.weights P e,x∈DataW.weightsAll P e l
 |a::r,h,x,hx=>by
  rw [DataW.weightsAll,List.mem_append]
  rcases List.mem_cons.1 h with rfl|h
  ·exact .inl hx
  ·exact .inr (weightsAll_mem h x hx)
theorem opens_listZ {X:Type} {t e:TypeId} {k bytes:Nat} {E:List Value->X->Prop} (ht:P.underlying t=some (.slice e)) (hk:P.cellsOf e=k) (hk0:0<k) (hb:P.bytesOf e=bytes) (hE:OpensZ enc P w sp e E):
  OpensZ enc P w sp t (fun cs (xs:List X)=> ∃v,cs=[v]/\RdL w (· <w.heap.size) k E v xs/\xs.length * bytes<=140737488351232):=by
 intro fuel cs y h hreach
 rcases open_slice ht h with⟨rfl,rfl⟩|⟨a,len,cap,m,n,D,Pl,rfl,_,hl,hm,hmm,rfl,hi⟩
 ·exact⟨[],_,rfl,⟨none,0,rfl,Nat.le_refl _,by decide,fun h=>absurd h (by simp)⟩,by simp⟩
 ·rw [hk]at hi
  have hlm:len<=m:=by rw [hmm];split<;>omega
  have hw:DataW.weights P t (DataW.slice ((List.range len).map D) ((List.range (m - len)).map fun j=>D (len+j)))=
    (((List.range len).map D).length+((List.range (m - len)).map fun j=>D (len+j)).length) * P.bytesOf e::(DataW.weightsAll P e ((List.range len).map D)++DataW.weightsAll P e ((List.range (m - len)).map fun j=>D (len+j))):=by
   rw [DataW.weights,ht]
  have hsize:len * bytes<=140737488351232:=by
   have:=hreach _ (by rw [hw];exact List.mem_cons_self ..)
   rw [hb]at this
   simp only [List.length_map,List.length_range]at this
   exact Nat.le_trans (Nat.mul_le_mul_right _ (by omega)) this
  have each: ∀i,i<len-> ∃x:X,∃cs',cs'.length=k/\E cs' x/\ ∀j,j<k->w.cell? ((a.add (i * k)).add j)=cs'[j]? :=fun i hlt=>by
   obtain⟨cs',hc,ht'⟩:=hi i (by omega)
   obtain⟨x,hx⟩:=hE _ _ _ ht' (fun x hx=>hreach x (by
    rw [hw]
    refine List.mem_cons_of_mem _ (List.mem_append.2 (.inl (weightsAll_mem (d:=D i) ?_ x hx)))
    exact List.mem_map.2 ⟨i,List.mem_range.2 hlt,rfl⟩))
   obtain⟨_,hcl,hat⟩:=World.cells?_some hc
   exact⟨x,cs',hcl,hx,hat⟩
  obtain⟨xs,hxl,hxs⟩: ∃xs:List X,xs.length=len/\ ∀i x,xs[i]? =some x-> ∃cs',cs'.length=k/\E cs' x/\ ∀j,j<k->w.cell? ((a.add (i * k)).add j)=cs'[j]? :=by
   refine⟨List.ofFn fun i:Fin len=>(each i.1 i.2).choose,by simp,fun i x hx=> ?_⟩
   obtain⟨hlt,rfl⟩:=List.getElem?_eq_some_iff.1 hx
   simp only [List.length_ofFn]at hlt
   rw [List.getElem_ofFn]
   exact(each i hlt).choose_spec
  refine⟨xs,_,rfl,⟨some a,cap,by rw [hxl],by omega,hm,fun hn=> ?_⟩,by rw [hxl];exact hsize⟩
  obtain⟨b,off,spot⟩:=a
  obtain⟨cs0,hc0,_,hat0⟩:=hxs 0 _ (List.getElem?_eq_getElem hn)
  have h00:=hat0 0 hk0
  rw [List.getElem?_eq_getElem (by omega)]at h00
  have hspot:spot=none:=by
   have:=World.cell?_spot h00
   simpa [Addr.add]using this
  subst hspot
  have hlt:=World.block_lt_of_cell? w _ h00
  rw [add_none,add_none]at hlt
  refine⟨b,off,rfl,hlt,fun i x hx=> ?_⟩
  obtain⟨cs',hcl,hex,hat⟩:=hxs i x hx
  refine⟨cs',hcl,hex,fun j u hu=> ?_⟩
  have hj:=(List.getElem?_eq_some_iff.1 hu).1
  have:=hat j (by omega)
  rw [add_none,add_none]at this
  rw [this,hu]
theorem weightsEach_get: ∀{ts:List TypeId} {ds:List (DataW H)} {j:Nat} {t:TypeId} {d:DataW H},ts[j]? =some t->ds[j]? =some d-> ∀x∈d.weights P t,x∈DataW.weightsEach P ts ds
 |t'::ts,d'::ds,0,t,d,ht,hd,x,hx=>by
  simp at ht hd
  subst ht hd
  rw [DataW.weightsEach,List.mem_append]
  exact .inl hx
 |t'::ts,d'::ds,j+1,t,d,ht,hd,x,hx=>by
  rw [DataW.weightsEach,List.mem_append]
  exact .inr (weightsEach_get (j:=j) (by simpa using ht) (by simpa using hd) x hx)
theorem field_open {X:Type} {t:TypeId} {fs:Array Field} {n:Nat} {cs:List Value} {y:DataW H×List MemPlace} (ht:P.underlying t=some (.struct fs)) (hone:oneCellFields P fs=true) (h:DataW.trod enc P w 0 sp true n t cs=some y) (hr:Reached P t y.1)
  (j:Nat) (f:Field) (hf:fs[j]? =some f) (hj:j<cs.length) {E:List Value->X->Prop} (hE:OpensZ enc P w sp f.type E): ∃x,E [cs[j]] x:=by
 obtain⟨xs,n',_,hy,hlen,hxl,hg⟩:=DataW.trod_struct ht h
 obtain⟨o,k⟩:=hone_of hone j f hf
 have g:=hg j f hf
 rw [o,k]at g
 have hjl:j<xs.length:=by rw [hxl];exact(Array.getElem?_eq_some_iff.1 hf).1
 rw [List.getElem?_eq_getElem hjl]at g
 have h1:(cs.drop j).take 1=[cs[j]]:=by rw [List.drop_eq_getElem_cons hj];rfl
 rw [h1]at g
 refine hE _ _ _ g (fun x hx=>hr x ?_)
 rw [hy]
 show x∈DataW.weights P t (DataW.agg (xs.map (·.1)))
 rw [DataW.weights,ht]
 refine weightsEach_get (j:=j) (t:=f.type) (d:=(xs[j]).1) ?_ ?_ x hx
 ·rw [List.getElem?_map];simp [hf]
 ·rw [List.getElem?_map,List.getElem?_eq_getElem hjl];rfl
theorem struct_len {t:TypeId} {fs:Array Field} {n:Nat} {cs:List Value} {y:DataW H×List MemPlace} (ht:P.underlying t=some (.struct fs)) (h:DataW.trod enc P w 0 sp true n t cs=some y):cs.length=P.cellsOf t:=by
 obtain⟨xs,n',_,hy,hlen,_⟩:=DataW.trod_struct ht h
 exact hlen
theorem opens_struct2Z {X Y:Type} {t:TypeId} {f0 f1:Field} {E0:List Value->X->Prop} {E1:List Value->Y->Prop} (ht:P.underlying t=some (.struct #[f0,f1])) (hone:oneCellFields P #[f0,f1]=true) (hC:P.cellsOf t=2)
  (h0:OpensZ enc P w sp f0.type E0) (h1:OpensZ enc P w sp f1.type E1):OpensZ enc P w sp t (fun cs (x:X×Y)=> ∃c0 c1,cs=[c0,c1]/\E0 [c0] x.1/\E1 [c1] x.2):=by
 intro n cs y h hr
 have hl:=(struct_len ht h).trans hC
 match cs,hl with
 |[c0,c1],_=>
  obtain⟨x,hx⟩:=field_open ht hone h hr 0 f0 rfl (by simp) h0
  obtain⟨z,hz⟩:=field_open ht hone h hr 1 f1 rfl (by simp) h1
  exact⟨(x,z),c0,c1,rfl,by simpa using hx,by simpa using hz⟩
theorem reached_of {ts:List TypeId} {ds:List (DataW H)} (h:(DataW.weightsEach P ts ds).all (· <=reachBytes)=true) {j:Nat} {t:TypeId} {d:DataW H} (ht:ts[j]? =some t) (hd:ds[j]? =some d):Reached P t d:=fun x hx=>by
 have:=List.all_eq_true.1 h x (weightsEach_get ht hd x hx)
 exact of_decide_eq_true this
end
end Go.Proofs.YtlpipniclimgeaaGreat
namespace Go.Proofs.YtlpipniclimgeaaGreat
set_option linter.unusedVariables false
def one (k:Nat):BitVec 64:=BitVec.twoPow 64 k
open Go.RowKit
def hasI (n:Nat) (f:Nat->Bool) (i:Int):Bool:=decide (0<=i)&&decide (i<n)&&f i.toNat
def noBits (_:Nat):Bool:=false
end Go.Proofs.YtlpipniclimgeaaGreat
namespace Go.Proofs.YtlpipniclimgeaaGreat
set_option linter.unusedVariables false
section
section
open Go.RowKit
structure GramD where
 terms:List ByteArray
 nons:List ByteArray
 rules:List (Int×List Int)
 start:Int
abbrev RdI (w:World) (F:Nat->Prop) (v:Value) (xs:List Int):Prop:=Rd w F v 1 (xs.map (Value.int .i64))
def ERule (w:World) (F:Nat->Prop) (cs:List Value) (r:Int×List Int):Prop:= ∃v,cs=[.int .i64 r.1,v]/\RdI w F v r.2
theorem ERule.below {w w':World} {F:Nat->Prop} {B:Nat} {cs:List Value} {r:Int×List Int} (h:ERule w F cs r) (hb:Below B w w') (hF: ∀b,F b->b<B):ERule w' F cs r:=by
 obtain⟨v,e,hv⟩:=h
 exact⟨v,e,hv.below hb hF⟩
def topOf (G:GramD):Nat:=G.terms.length+G.nons.length
def isNon (G:GramD) (s:Int):Bool:=decide (G.terms.length<s)&&decide (s<=topOf G)
def Quiet (w:World) (r:Value) (e:Ending) (w':World):Prop:=e= .returned r/\Below w.heap.size w w'
end
section
open Go.RowKit
theorem Tryz.infoInt:(Tryz.prog.info? 3).map (fun i=>(i.zero,i.size,i.bytes))=some (some (.int .i64 0),1,8):=by kernel_rfl
theorem Tryz.elemInt:Elem Tryz.prog 23 3 (.int .i64 0) 1 8:=⟨Tryz.underlying23,Tryz.infoInt,rfl,by decide⟩
theorem RdI.at_ {w:World} {F:Nat->Prop} {A:Option Addr} {n c:Nat} {xs:List Int} (h:RdI w F (.slice A n c) xs):n=xs.length/\n<=c/\c<=maxLen/\(0<n-> ∃b off,A=some ⟨b,off,none⟩/\F b/\ ∀k x,xs[k]? =some x->w.cell? ⟨b,off+k,none⟩=some (.int .i64 x)):=by
 obtain⟨A',n',c',hv,h1,h2,hl,hr⟩:=h
 injection hv with e1 e2 e3
 subst e1 e2 e3
 refine⟨by simpa using hl.symm,h1,h2,fun hn=> ?_⟩
 obtain⟨b,off,hA,hF,hc⟩:=hr hn
 exact⟨b,off,hA,hF,fun k x hx=>hc k _ (by simp [hx])⟩
theorem ERule.at_ {w:World} {F:Nat->Prop} {A:Option Addr} {n c:Nat} {rs:List (Int×List Int)} (h:RdL w F 2 (ERule w F) (.slice A n c) rs):n=rs.length/\n<=c/\c<=maxLen/\(0<n-> ∃b off,A=some ⟨b,off,none⟩/\F b/\ ∀(k:Nat) (r:Int×List Int),rs[k]? =some r-> ∃v,w.cell? ⟨b,off+k * 2,none⟩=some (.int .i64 r.1)/\w.cell? ⟨b,off+k * 2+1,none⟩=some v/\RdI w F v r.2):=by
 obtain⟨A',c',hv,h1,h2,hr⟩:=h
 injection hv with e1 e2 e3
 subst e1 e2 e3
 refine⟨rfl,h1,h2,fun hn=> ?_⟩
 obtain⟨b,off,hA,hF,hc⟩:=hr hn
 refine⟨b,off,hA,hF,fun k r hk=> ?_⟩
 obtain⟨cs,_,⟨v,rfl,hv⟩,hcell⟩:=hc k r hk
 exact⟨v,hcell 0 _ rfl,hcell 1 _ rfl,hv⟩
end
section
open Go.RowKit
end
section
open Go.RowKit
theorem equal_ints {w:World} {F G:Nat->Prop} {v u:Value} {xs ys:List Int} (h:RdI w F v xs) (g:RdI w G u ys):
  Calls Tryz.prog 63 #[v,u] w (Quiet w (.bool (decide (xs=ys)))):=by
 obtain⟨A,n,c,rfl,_⟩:=id h
 obtain⟨B,m,d,rfl,_⟩:=id g
 obtain⟨hn,hnc,hcm,hcell⟩:=h.at_
 obtain⟨hm,hmd,hdm,hcell'⟩:=g.at_
 unfold maxLen at hcm hdm
 by_cases hnm:n=m
 ·subst hnm
  have HN:=hide hn
  have HM:=hide hm
  clear hn hm
  go_enter Tryz.func63,Tryz.ntmps63
  go_wp2
  go_loopw [13] (fun i wr=> ∃k q:Nat,k<=n/\i= .int .i64 k/\wr=w.drewN q/\ ∀j:Nat,j<k->xs[j]? =ys[j]?) (fun i _=>n - (intOf i).toNat)
  case atStart=>exact⟨0,0,Nat.zero_le _,rfl,rfl,fun j hj=>absurd hj (by omega)⟩
  case round=>
   obtain⟨k,q,hk,rfl,rfl,hbefore⟩:=hrel
   have HB:=hide hbefore
   clear hbefore
   by_cases hlt:k<n
   ·obtain⟨b,off,rfl,_,hc⟩:=hcell (by omega)
    obtain⟨b',off',rfl,_,hc'⟩:=hcell' (by omega)
    obtain⟨x,hx⟩: ∃x,xs[k]? =some x:=⟨_,List.getElem?_eq_getElem (by rw [<-HN.out];omega)⟩
    obtain⟨y,hy⟩: ∃y,ys[k]? =some y:=⟨_,List.getElem?_eq_getElem (by rw [<-HM.out];omega)⟩
    have hcx:=hc k x hx
    have hcy:=hc' k y hy
    have HX:=hide hx
    have HY:=hide hy
    clear hcell hc hx hcell' hc' hy
    by_cases he:x=y
    ·have HE:=hide he
     have he':(x==y)=true:=by subst he;simp
     clear he
     go_wp2_with fail
     go_quiet (fail)
     go_wp2
     go_roundw
     case rel=>
      refine⟨k+1,q+nq,by omega,by go_num,rfl,fun j hj=> ?_⟩
      by_cases hjk:j=k
      ·subst hjk;rw [HX.out,HY.out,HE.out]
      ·exact HB.out j (by omega)
     case measure=>simp [intOf];omega
    ·have HE:=hide he
     have he':(x==y)=false:=by simpa using he
     clear he
     go_wp2_with fail
     go_quiet (fail)
     go_wp2
     go_ret
     refine⟨ret_bool ?_,⟨rfl,rfl,rfl,Nat.le_refl _,fun _ _=>rfl⟩⟩
     symm
     rw [decide_eq_false_iff_not]
     rintro rfl
     rw [HX.out]at HY
     have:=HY.out
     injection this with this
     exact HE.out this
   ·go_wp2
    go_ret
    refine⟨ret_bool ?_,⟨rfl,rfl,rfl,Nat.le_refl _,fun _ _=>rfl⟩⟩
    symm
    rw [decide_eq_true_eq]
    apply List.ext_getElem?
    intro j
    by_cases hj:j<n
    ·exact HB.out j (by omega)
    ·rw [List.getElem?_eq_none (by rw [<-HN.out];omega),List.getElem?_eq_none (by rw [<-HM.out];omega)]
 ·have hne:((n:Int)==(m:Int))=false:=by simpa using(by omega: ¬(n:Int)=(m:Int))
  have HN:=hide hn
  have HM:=hide hm
  clear hn hm
  go_enter Tryz.func63,Tryz.ntmps63
  go_wp2
  go_ret
  refine⟨ret_bool ?_,⟨rfl,rfl,rfl,Nat.le_refl _,fun _ _=>rfl⟩⟩
  symm
  rw [decide_eq_false_iff_not]
  rintro rfl
  exact hnm (by rw [HN.out,HM.out])
theorem ref_ints {w:World} {F G:Nat->Prop} {v u:Value} {xs ys:List Int} (h:RdI w F v xs) (g:RdI w G u ys):
  Calls Tryz.prog 32 #[v,u] w (Quiet w (.bool (decide (xs=ys)))):=by
 obtain⟨A,n,c,rfl,_⟩:=id h
 obtain⟨B,m,d,rfl,_⟩:=id g
 obtain⟨hn,hnc,hcm,hcell⟩:=h.at_
 obtain⟨hm,hmd,hdm,hcell'⟩:=g.at_
 unfold maxLen at hcm hdm
 by_cases hnm:n=m
 ·subst hnm
  have HN:=hide hn
  have HM:=hide hm
  clear hn hm
  go_enter Tryz.func32,Tryz.ntmps32
  go_wp2
  go_loopw [5] (fun i wr=> ∃k q:Nat,k<=n/\i= .int .i64 k/\wr=w.drewN q/\ ∀j:Nat,j<k->xs[j]? =ys[j]?) (fun i _=>n - (intOf i).toNat)
  case atStart=>exact⟨0,0,Nat.zero_le _,rfl,rfl,fun j hj=>absurd hj (by omega)⟩
  case round=>
   obtain⟨k,q,hk,rfl,rfl,hbefore⟩:=hrel
   have HB:=hide hbefore
   clear hbefore
   by_cases hlt:k<n
   ·obtain⟨b,off,rfl,_,hc⟩:=hcell (by omega)
    obtain⟨b',off',rfl,_,hc'⟩:=hcell' (by omega)
    obtain⟨x,hx⟩: ∃x,xs[k]? =some x:=⟨_,List.getElem?_eq_getElem (by rw [<-HN.out];omega)⟩
    obtain⟨y,hy⟩: ∃y,ys[k]? =some y:=⟨_,List.getElem?_eq_getElem (by rw [<-HM.out];omega)⟩
    have hcx:=hc k x hx
    have hcy:=hc' k y hy
    have HX:=hide hx
    have HY:=hide hy
    clear hcell hc hx hcell' hc' hy
    by_cases he:x=y
    ·have HE:=hide he
     have he':(x==y)=true:=by subst he;simp
     clear he
     go_wp2_with fail
     go_quiet (fail)
     go_wp2
     go_roundw
     case rel=>
      refine⟨k+1,q+nq,by omega,by go_num,rfl,fun j hj=> ?_⟩
      by_cases hjk:j=k
      ·subst hjk;rw [HX.out,HY.out,HE.out]
      ·exact HB.out j (by omega)
     case measure=>simp [intOf];omega
    ·have HE:=hide he
     have he':(x==y)=false:=by simpa using he
     clear he
     go_wp2_with fail
     go_quiet (fail)
     go_wp2
     go_ret
     refine⟨ret_bool ?_,⟨rfl,rfl,rfl,Nat.le_refl _,fun _ _=>rfl⟩⟩
     symm
     rw [decide_eq_false_iff_not]
     rintro rfl
     rw [HX.out]at HY
     have:=HY.out
     injection this with this
     exact HE.out this
   ·go_wp2
    go_ret
    refine⟨ret_bool ?_,⟨rfl,rfl,rfl,Nat.le_refl _,fun _ _=>rfl⟩⟩
    symm
    rw [decide_eq_true_eq]
    apply List.ext_getElem?
    intro j
    by_cases hj:j<n
    ·exact HB.out j (by omega)
    ·rw [List.getElem?_eq_none (by rw [<-HN.out];omega),List.getElem?_eq_none (by rw [<-HM.out];omega)]
 ·have hne:((n:Int)==(m:Int))=false:=by simpa using(by omega: ¬(n:Int)=(m:Int))
  have HN:=hide hn
  have HM:=hide hm
  clear hn hm
  go_enter Tryz.func32,Tryz.ntmps32
  go_wp2
  go_ret
  refine⟨ret_bool ?_,⟨rfl,rfl,rfl,Nat.le_refl _,fun _ _=>rfl⟩⟩
  symm
  rw [decide_eq_false_iff_not]
  rintro rfl
  exact hnm (by rw [HN.out,HM.out])
end
section
open Go.RowKit
theorem ref_same_rule {w:World} {F G:Nat->Prop} {l m:Int} {v u:Value} {xs ys:List Int} (h:RdI w F v xs) (g:RdI w G u ys) (hF: ∀b,F b->b<w.heap.size) (hG: ∀b,G b->b<w.heap.size):
  Calls Tryz.prog 33 #[.agg #[.int .i64 l,v],.agg #[.int .i64 m,u]] w (Quiet w (.bool (decide ((l,xs)=(m,ys))))):=by
 have b2:=((Below.refl _ w).alloc (Nat.le_refl _) (.cells #[.int .i64 l,v] 53)).alloc (by simp) (.cells #[.int .i64 m,u] 53)
 have he:=ref_ints (h.below b2 hF) (g.below b2 hG)
 obtain⟨A,n,c,rfl,_⟩:=id h
 obtain⟨B,n',d,rfl,_⟩:=id g
 have B2:=hide b2
 have HE:=hide he
 clear h g he b2
 by_cases hlm:l=m
 ·have hb:(l==m)=true:=by simpa using hlm
  have HL:=hide hlm
  clear hlm
  go_enter Tryz.func33,Tryz.ntmps33
  go_wp2_with fail
  refine HE.out.mono ?_
  rintro e w1 ⟨rfl,b1⟩
  go_wp2_with fail
  go_ret
  exact⟨ret_bool (by have e:=HL.out;subst e;simp),B2.out.trans (b1.mono (by simp;omega))⟩
 ·have hb:(l==m)=false:=by simpa using hlm
  have HL:=hide hlm
  clear hlm
  go_enter Tryz.func33,Tryz.ntmps33
  go_wp2_with fail
  go_ret
  exact⟨ret_bool (by simp;intro e;exact absurd e HL.out),B2.out⟩
end
section
open Go.RowKit
end
section
open Go.RowKit
end
end
section
section
open Go.RowKit
theorem below_drewN {B:Nat} {a b:World} (h:Below B a b) (n:Nat):Below B a (b.drewN n):=⟨h.os,h.tape,h.output,h.size,h.block⟩
end
section
open Go.RowKit
end
section
open Go.RowKit
def ofUpto (rs:List (Int×List Int)) (s:Int) (k:Nat):List Int:=((List.range k).filter (fun(i:Nat)=>decide ((rs[i]?).map (·.1)=some s))).map (fun(i:Nat)=>(i:Int))
def ofOf (G:GramD) (s:Int):List Int:=ofUpto G.rules s G.rules.length
abbrev I64 (x:Int):Value:= .int .i64 x
end
section
open Go.RowKit
end
section
open Go.RowKit
theorem Rd.one' {w:World} {e:TypeId} (us:List Value) (size:Nat) (hl:us.length=size):Rd (w.alloc (.cells us.toArray e)) (fun b=>b=w.heap.size) (.slice (some ⟨w.heap.size,0,none⟩) 1 1) size us:=
 ⟨_,1,1,rfl,Nat.le_refl _,by decide,by simpa using hl,fun _=>⟨_,0,rfl,rfl,fun j u hu=>by
  rw [(Blk.new w e us.toArray).cell];simpa using hu⟩⟩
def ruleOf (G:GramD) (st i:Int):(Int×List Int)×Bool:=if i<0\/(G.rules.length:Int)<i then((0,[]),false)else if i=(G.rules.length:Int)then((0,[st]),true)else((G.rules[i.toNat]?).getD (0,[]),true)
end
end
section
section
open Go.RowKit
end
section
open Go.RowKit
end
section
open Go.RowKit
end
end
section
end
open Go.RowKit
abbrev J64 (n:Nat):Value:= .int .i64 (n:Int)
def below (f:Nat->Bool) (k:Nat):List Nat:=(List.range k).filter f
end Go.Proofs.YtlpipniclimgeaaGreat
namespace Go.Proofs.YtlpipniclimgeaaGreat
set_option linter.unusedVariables false
section
section
variable {P : Program} {ops : Array Oper} {md : Region.Mode}
theorem tk {Q:Exit->Act->World->Prop} {S:World->Prop} {i:Nat} {oi:Oper} {v:Value} {fuel:Nat} {listed:Array Bool} {a:Act} {w:World} (hi:ops[i]? =some oi)
  (hb:(Region.noSelect ops&&(Region.free md ops listed i&&(Region.ready md ops listed).contains i))=true)
  (hQ: ∀c a w,Q (.panic c) (a.put oi.dst v) w->Q (.panic c) a w) (hy:YieldsIf P ops S oi v a) (hS:S w)
  (h:wpAnyH P md ops Q S fuel (listed.setIfInBounds i true) (a.put oi.dst v) w):wpAnyH P md ops Q S (fuel+1) listed a w:=by
 rw [Bool.and_eq_true,Bool.and_eq_true]at hb
 exact wpAnyH_take hi hb.1 hb.2.1 hb.2.2 hQ hy hS h
theorem tZ {P:Program} {ops:Array Oper} {md:Region.Mode} {Q:Exit->Act->World->Prop} {S:World->Prop} (i:Nat) {oi:Oper} {v:Value} {fuel:Nat} {listed:Array Bool} {a:Act} {w:World} (h:wpAnyH P md ops Q S fuel (listed.setIfInBounds i true) (a.put oi.dst v) w) (hi:ops[i]? =some oi:=by ((try simp only [gT,gs,gz]);try rfl)) (hb:(Region.noSelect ops&&(Region.free md ops listed i&&(Region.ready md ops listed).contains i))=true:=by kernel_rfl) (hQ: ∀c a w,Q (.panic c) (a.put oi.dst v) w->Q (.panic c) a w:=by exact fun _ _ _ h=>h) (hy:YieldsIf P ops S oi v a:=by (refine Or.inl ⟨by rfl,?_⟩;intro wS hwS;(try dsimp only at hwS);go_simp;all_goals with_reducible rfl)) (hS:S w:=by assumption):wpAnyH P md ops Q S (fuel+1) listed a w:=tk hi hb hQ hy hS h
theorem gT {α:Type} (l:List α) (i:Nat):l.toArray[i]? =l[i]? :=List.getElem?_toArray
theorem gs {α:Type} (a:α) (l:List α) (i:Nat):(a::l)[i+1]? =l[i]? :=List.getElem?_cons_succ
theorem gz {α:Type} (a:α) (l:List α):(a::l)[0]? =some a:=List.getElem?_cons_zero
theorem sT {α:Type} (l:List α) (i:Nat) (a:α):l.toArray.setIfInBounds i a=(l.set i a).toArray:=List.setIfInBounds_toArray ..
theorem s0 {α:Type} (a b:α) (l:List α):(a::l).set 0 b=b::l:=List.set_cons_zero
theorem s1 {α:Type} (a b:α) (l:List α) (i:Nat):(a::l).set (i+1) b=a::l.set i b:=List.set_cons_succ
def sinkS (md:Region.Mode) (ops:Array Oper) (s n:Nat):Bool:=
 (List.range n).all fun i=>decide (i<s)||(List.range (n+1)).any fun j=>decide (i<j)&&Region.waitsFor md ops j i
def depB (md:Region.Mode) (ops:Array Oper) (n:Nat):Bool:=
 (List.range ops.size).all fun t=>decide (t<=n)||(List.range t).any fun i=>decide (n<=i)&&Region.waitsFor md ops t i
theorem tail_waits' {w:World} {s n:Nat} {listed:Array Bool} (hs:sinkS md ops s n=true) (hc:depB md ops n=true) (hn:n<ops.size) (inv:HeadInv md ops n listed):
  ∀(d i:Nat),n - i=d->s<=i->i<n->listed.getD i true=false-> ∀t,n<=t->t∉Region.ready md ops listed:=by
 intro d
 induction d using Nat.strongRecOn with
 |_ d ih=>
  intro i hd hsi hi hun t ht hr
  obtain⟨_,ot,hot,hall⟩:=mem_ready.1 hr
  have htlt:t<ops.size:=(Array.getElem?_eq_some_iff.1 hot).1
  by_cases htn:t=n
  ·subst htn
   have h1:=List.all_eq_true.1 hs i (List.mem_range.2 hi)
   rw [Bool.or_eq_true]at h1
   rcases h1 with h1|h1
   ·have:=of_decide_eq_true h1;omega
   obtain⟨j,hj,hj2⟩:=List.any_eq_true.1 h1
   simp only [Bool.and_eq_true,decide_eq_true_eq]at hj2
   obtain⟨oj,hoj,e,he,hb,hon⟩:=Region.waitsFor_spec hj2.2
   have hjle:j<=t:=by have:=List.mem_range.1 hj;omega
   by_cases hjt:j=t
   ·subst hjt
    have:oj=ot:=Option.some.inj (hoj.symm.trans hot)
    subst this
    have h2:=hall e he hb
    rw [hon,getD_both hun]at h2
    cases h2
   ·cases hl:listed.getD j false with
    |true=>
     have h2:=inv.closed j oj hoj hl e he hb
     rw [hon,getD_both hun]at h2
     cases h2
    |false=>
     have hjs:j<listed.size:=by rw [inv.size];omega
     exact ih (t - j) (by omega) j rfl (by omega) (by omega) (getD_in hjs hl) t (Nat.le_refl _) hr
  ·have h1:=List.all_eq_true.1 hc t (List.mem_range.2 htlt)
   simp only [Bool.or_eq_true,decide_eq_true_eq]at h1
   rcases h1 with h1|h1
   ·omega
   ·obtain⟨j,hj,hj2⟩:=List.any_eq_true.1 h1
    simp only [Bool.and_eq_true,decide_eq_true_eq]at hj2
    obtain⟨o',ho',e,he,hb,hon⟩:=Region.waitsFor_spec hj2.2
    have:o'=ot:=Option.some.inj (ho'.symm.trans hot)
    subst this
    have h2:=hall e he hb
    have hjt:=List.mem_range.1 hj
    rw [hon,getD_both (inv.tail j (by omega) (by omega))]at h2
    cases h2
def rdB (md:Region.Mode) (ops:Array Oper):Nat->Nat->Array Bool->Bool
 |0,_,_=>true
 |m+1,k,listed=>(Region.ready md ops listed).contains k&&Region.free md ops listed k&&rdB md ops m (k+1) (listed.setIfInBounds k true)
def setN:Nat->Nat->Array Bool->Array Bool
 |0,_,listed=>listed
 |m+1,k,listed=>setN m (k+1) (listed.setIfInBounds k true)
def wpOne (P:Program) (ops:Array Oper) (Q:Exit->Act->World->Prop) (o:Oper) (K:Act->World->Prop) (a:Act) (w:World):Prop:=wpList P ops (Exit.then K Q) [o] a w
def wpPh (P:Program) (ops:Array Oper) (Q:Exit->Act->World->Prop):List Nat->List Oper->Act->World->Prop
 |[],l,a,w=>wpList P ops Q l a w
 |m::ms,l,a,w=>wpStill P ops w (fun a'=>match l.drop m with|[]=>False|o::rest=>wpOne P ops Q o (wpPh P ops Q ms rest) a' w) (l.take m) a
theorem wpOp_of_one {Q:Exit->Act->World->Prop} {i:Nat} {o:Oper} {K K':Act->World->Prop} {a:Act} {w:World} (hi:ops[i]? =some o) (hK: ∀a w,K a w->K' a w) (h:wpOne P ops Q o K a w):wpOp P ops Q i K' a w:=by
 unfold wpOne wpList at h
 unfold wpOp
 simp only [hi]
 split at h
 ·rename_i hw
  rw [if_pos hw]
  rcases h with h|⟨ha,hlet⟩
  ·refine .inl ?_
   unfold Oper.wp at *
   generalize (execOp a.eval o).run P w=r at *
   cases r with
   |ok n w'=>
    cases n<;>simp only [Oper.upon]at h⊢
    case enter f args=>
     refine Calls.mono h fun e w'' he=> ?_
     cases e with
     |returned u=>exact hK _ _ he
     |panicked c=>exact he
     |outgrown=>exact he
    case row row args=>exact Rows.mono h fun u w'' he=>hK _ _ he
    all_goals first|exact hK _ _ h|exact h
   |halt x w'=>cases x<;>simp only [Oper.upon]at h⊢ <;>exact h
  ·exact .inr ⟨ha,hlet⟩
 ·rename_i hw
  rw [if_neg hw]
  exact hK _ _ h
end
end
section
theorem region_reads {P:Program} {id:Nat} {Q:Exit->Act->World->Prop} {a:Act} {w:World} {l:List Oper} (hm:P.follows .mixedOrders=true) (hB:Region.lexB .any l.toArray=true)
  (h:wpStill P l.toArray w.drew (fun a'=>Q .normal a' w.drew) l a):(Code.region id l.toArray true).wp P Q a w:=
 wp_region_still_lit hm hB h
end
section
attribute [local irreducible] wpStill
section
variable {P : Program} {ops : Array Oper} {md : Region.Mode} {S : World -> Prop} {Q : Exit -> Act -> World -> Prop}
def wpHd (P:Program) (md:Region.Mode) (ops:Array Oper) (Q:Exit->Act->World->Prop) (S:World->Prop) (m:Nat) (L:Array Bool->Act->World->Prop):Nat->Array Bool->Act->World->Prop
 |0,listed,a,w=>L listed a w
 |f+1,listed,a,w=>Region.ready md ops listed≠[]/\ ∀j∈Region.ready md ops listed,j<m/\wpOp P ops Q j (fun a' w'=>S w'/\wpHd P md ops Q S m L f (listed.setIfInBounds j true) a' w') a w
theorem wpAny_of_hd {m g:Nat} {L:Array Bool->Act->World->Prop} (hL: ∀listed a w,L listed a w->wpAny P md ops Q g listed a w):
  ∀(f:Nat) (listed:Array Bool) (a:Act) (w:World),wpHd P md ops Q S m L f listed a w->wpAny P md ops Q (f+g) listed a w
 |0,listed,a,w,h=>by rw [Nat.zero_add];exact hL _ _ _ h
 |f+1,listed,a,w,h=>by
  rw [show f+1+g=(f+g)+1 by omega]
  exact⟨fun h0=>absurd h0 h.1,fun i hi=>wpOp_mono (fun a' w' h'=>wpAny_of_hd hL f _ a' w' h'.2) (h.2 i hi).2⟩
theorem wpHd_first {m i:Nat} {oi:Oper} {v:Value} {L:Array Bool->Act->World->Prop} (hi:ops[i]? =some oi) (hsel: ∀(j:Nat) (o:Oper) cs b,ops[j]? =some o->o.op≠ .select cs b)
  (hQ: ∀c a w,Q (.panic c) (a.put oi.dst v) w->Q (.panic c) a w) (hs:sinkS md ops 0 m=true) (hc:depB md ops m=true) (hm:m<ops.size) (him:i<m)
  (hdone: ∀listed a w,L listed a w-> ∀j∈Region.ready md ops listed,m<=j):
  ∀(f:Nat) (listed:Array Bool) (a:Act) (w:World),HeadInv md ops m listed->
   (∀j oj,ops[j]? =some oj->j≠i->listed.getD j true=false->(∀e∈oj.after,Region.binds md e=true->e.on≠i)->oi.apart ops oj=true)->
   i∈Region.ready md ops listed->YieldsIf P ops S oi v a->S w->
   wpHd P md ops Q S m L f (listed.setIfInBounds i true) (a.put oi.dst v) w->wpHd P md ops Q S m L (f+1) listed a w:=by
 intro f
 induction f with
 |zero=>
  intro listed a w inv _ hr hy hS H
  have hun:=(mem_ready.1 hr).1
  refine⟨fun h=>(by rw [h]at hr;cases hr),fun j hj=> ?_⟩
  have hjm:j<m:=by
   rcases Nat.lt_or_ge j m with h|h
   ·exact h
   ·exact absurd hj (tail_waits' (w:=w) hs hc hm inv _ i rfl (Nat.zero_le _) him hun j h)
  refine⟨hjm,?_⟩
  by_cases hji:j=i
  ·subst hji;exact hy.wpOp hi hS ⟨hS,H⟩
  ·have:=hdone _ _ _ H j (ready_mono hj hji)
   omega
 |succ f ih=>
  intro listed a w inv hfree hr hy hS H
  have hun:=(mem_ready.1 hr).1
  refine⟨fun h=>(by rw [h]at hr;cases hr),fun j hj=> ?_⟩
  have hjm:j<m:=by
   rcases Nat.lt_or_ge j m with h|h
   ·exact h
   ·exact absurd hj (tail_waits' (w:=w) hs hc hm inv _ i rfl (Nat.zero_le _) him hun j h)
  refine⟨hjm,?_⟩
  by_cases hji:j=i
  ·subst hji;exact hy.wpOp hi hS ⟨hS,H⟩
  ·have h1:=(H.2 j (ready_mono hj hji)).2
   obtain⟨hjun,oj,hoj,hall⟩:=mem_ready.1 hj
   have hnot: ∀e∈oj.after,Region.binds md e=true->e.on≠i:=fun e he hb heq=>by
    have h1:=hall e he hb
    rw [heq,getD_both hun]at h1
    cases h1
   have h2:=wpOp_putIf hoj (hfree j oj hoj hji hjun hnot) (fun cs b=>hsel i oi cs b hi) (fun cs b=>hsel j oj cs b hoj) hQ hy h1
   have hfree': ∀k ok,ops[k]? =some ok->k≠i->(listed.setIfInBounds j true).getD k true=false->
     (∀e∈ok.after,Region.binds md e=true->e.on≠i)->oi.apart ops ok=true:=fun k ok hk hki hun hno=>by
    refine hfree k ok hk hki ?_ hno
    by_cases hjk:j=k
    ·subst hjk;exact hjun
    ·rw [getD_set_ne true hjk]at hun;exact hun
   refine wpOp_mono (fun a' w' h3=>⟨h3.2.1,ih (listed.setIfInBounds j true) a' w' (inv.set hj hjm) hfree' (ready_mono hr (Ne.symm hji)) h3.1 h3.2.1 ?_⟩) h2
   rw [Array.setIfInBounds_comm _ _ hji]
   exact h3.2.2
def wpHeld (P:Program) (ops:Array Oper) (S:World->Prop) (K:Act->Prop):List Oper->Act->Prop
 |[],a=>K a
 |o::t,a=> ∃v,YieldsIf P ops S o v a/\wpHeld P ops S K t (a.put o.dst v)
def wpMid (P:Program) (ops:Array Oper) (Q:Exit->Act->World->Prop) (S:World->Prop) (rest:List Oper):List Oper->Act->World->Prop
 |[],a,w=>wpList P ops Q rest a w
 |o::t,a,w=>wpOne P ops Q o (fun a' w'=>S w'/\wpMid P ops Q S rest t a' w') a w
def aloneB (md:Region.Mode) (ops:Array Oper):Nat->Nat->Array Bool->Bool
 |0,_,_=>true
 |m+1,k,listed=>decide (Region.ready md ops listed=[k])&&aloneB md ops m (k+1) (listed.setIfInBounds k true)
def lateB (ops:Array Oper) (n m:Nat):Bool:=
 Region.noSelect ops&&decide (n<=m)&&decide (m<ops.size)&&sinkS .any ops 0 m&&depB .any ops m&&rdB .any ops n 0 (Array.replicate ops.size false)&&aloneB .any ops (m - n) n (setN n 0 (Array.replicate ops.size false))&&
  decide (Region.ready .any ops (setN (m - n) n (setN n 0 (Array.replicate ops.size false)))=[m])&&Region.seqB .any ops (ops.size - m) m (setN (m - n) n (setN n 0 (Array.replicate ops.size false)))
theorem wpHd_mid {m:Nat} {rest:List Oper} {l2:Array Bool}: ∀(l:List Oper) (k:Nat) (listed:Array Bool) (a:Act) (w:World),(∀j,j<l.length->l[j]? =ops[k+j]?)->k+l.length<=m->setN l.length k listed=l2->aloneB md ops l.length k listed=true->
  wpMid P ops Q S rest l a w->wpHd P md ops Q S m (fun listed' a' w'=>listed'=l2/\wpList P ops Q rest a' w') l.length listed a w
 |[],k,listed,a,w,_,_,he,_,h=>⟨he,h⟩
 |o::l,k,listed,a,w,hl,hk,he,hB,h=>by
  have h0:ops[k]? =some o:=by simpa using(hl 0 (by simp)).symm
  simp only [List.length_cons,aloneB,Bool.and_eq_true,decide_eq_true_eq]at hB
  simp only [List.length_cons]at hk
  refine⟨fun e=>(by rw [hB.1]at e;cases e),fun j hj=> ?_⟩
  rw [hB.1]at hj
  have:j=k:=by simpa using hj
  subst this
  refine⟨by omega,wpOp_of_one h0 (fun a2 w2 h2=>⟨h2.1,?_⟩) h⟩
  exact wpHd_mid l (j+1) _ a2 w2 (fun i hi=>by have:=hl (i+1) (by simp;omega);simpa [Nat.add_assoc,Nat.add_comm 1 i]using this) (by omega) (by simpa [setN]using he) hB.2 h2.2
theorem wpHd_held {m r:Nat} {L:Array Bool->Act->World->Prop} {w:World} (hsel:Region.noSelect ops=true) (hQ: ∀c a a' w,Q (.panic c) a w->Q (.panic c) a' w) (hs:sinkS md ops 0 m=true) (hc:depB md ops m=true) (hm:m<ops.size)
  (hdone: ∀listed a w,L listed a w-> ∀j∈Region.ready md ops listed,m<=j) (hS:S w) {l2:Array Bool}:
  ∀(l:List Oper) (k:Nat) (listed:Array Bool) (a:Act),(∀j,j<l.length->l[j]? =ops[k+j]?)->k+l.length<=m->HeadInv md ops m listed->setN l.length k listed=l2->rdB md ops l.length k listed=true->
   wpHeld P ops S (fun a'=>wpHd P md ops Q S m L r l2 a' w) l a->wpHd P md ops Q S m L (l.length+r) listed a w
 |[],k,listed,a,_,_,_,he,_,h=>by
  have he':listed=l2:=he
  subst he'
  rw [List.length_nil,Nat.zero_add]
  exact h
 |o::l,k,listed,a,hl,hk,inv,he,hB,h=>by
  have h0:ops[k]? =some o:=by simpa using(hl 0 (by simp)).symm
  simp only [List.length_cons,rdB,Bool.and_eq_true]at hB
  simp only [List.length_cons]at hk
  obtain⟨⟨hr,hf⟩,hB'⟩:=hB
  obtain⟨v,hy,hK⟩:=h
  have hr':k∈Region.ready md ops listed:=by simpa using hr
  rw [List.length_cons,show l.length+1+r=(l.length+r)+1 by omega]
  refine wpHd_first h0 (Region.noSelect_spec hsel) (fun c a w h=>hQ c _ _ w h) hs hc hm (by omega) hdone _ listed a w inv (Region.free_spec h0 hf) hr' hy hS ?_
  exact wpHd_held hsel hQ hs hc hm hdone hS l (k+1) _ _ (fun i hi=>by have:=hl (i+1) (by simp;omega);simpa [Nat.add_assoc,Nat.add_comm 1 i]using this) (by omega) (inv.set hr' (by omega)) (by simpa [setN]using he) hB' hK
end
theorem region_late {P:Program} {id:Nat} {Q:Exit->Act->World->Prop} {a:Act} {w:World} {l:List Oper} (S:World->Prop) (n m:Nat) (hm:P.follows .mixedOrders=true) (hB:lateB l.toArray n m=true) (hS:S w.drew)
  (h:wpHeld P l.toArray S (fun a'=>wpMid P l.toArray (NoPanic Q) S (l.drop m) ((l.take m).drop n) a' w.drew) (l.take n) a):(Code.region id l.toArray true).wp P Q a w:=by
 refine wp_region_noPanic ?_
 simp only [lateB,Bool.and_eq_true,decide_eq_true_eq]at hB
 obtain⟨⟨⟨⟨⟨⟨⟨⟨hsel,hnm⟩,hms⟩,hsk⟩,hdp⟩,hrd⟩,hal⟩,hrl⟩,hsq⟩:=hB
 have hms':m<l.length:=by simpa using hms
 have htl:(l.take n).length=n:=by simp;omega
 have hml:((l.take m).drop n).length=m - n:=by simp;omega
 refine wp_region_any hm ?_
 have inv0:HeadInv .any l.toArray m (Array.replicate l.toArray.size false):=
  ⟨by simp,fun j oj _ hl=>(by rw [getD_replicate_false]at hl;cases hl),fun t _ ht=>getD_in (by simpa using ht) (getD_replicate_false _ _)⟩
 have hL: ∀(listed:Array Bool) (a:Act) (w:World),(listed=setN (m - n) n (setN n 0 (Array.replicate l.toArray.size false))/\wpList P l.toArray (NoPanic Q) (l.drop m) a w)->wpAny P .any l.toArray (NoPanic Q) (l.drop m).length listed a w:=fun listed a w h=>by
  obtain⟨rfl,h⟩:=h
  refine wpAny_of_seq (l.drop m) m _ a w (fun j=>by rw [List.getElem?_drop];simp) ?_ h
  rw [show(l.drop m).length=l.toArray.size - m by simp]
  exact hsq
 have H:=wpHd_held (md:= .any) (P:=P) (Q:=NoPanic Q) (S:=S) (w:=w.drew) (m:=m) (r:=m - n) (L:=fun listed a w=>listed=setN (m - n) n (setN n 0 (Array.replicate l.toArray.size false))/\wpList P l.toArray (NoPanic Q) (l.drop m) a w) hsel (fun c a a' w h=>h) hsk hdp hms
  (fun listed a w hl j hj=>by rw [hl.1,hrl]at hj;have:j=m:=(by simpa using hj);omega) hS (l.take n) 0 (Array.replicate l.toArray.size false) a (fun j hj=>by rw [htl]at hj;rw [List.getElem?_take_of_lt hj];simp) (by rw [htl];omega) inv0 rfl (by rw [htl];exact hrd) (by
   rw [htl]
   have mono: ∀(l':List Oper) (a:Act) (K K':Act->Prop),(∀a,K a->K' a)->wpHeld P l.toArray S K l' a->wpHeld P l.toArray S K' l' a:=by
    intro l'
    induction l' with
    |nil=>intro a K K' hk h;exact hk a h
    |cons o t ih=>intro a K K' hk h;obtain⟨v,h1,h2⟩:=h;exact⟨v,h1,ih _ K K' hk h2⟩
   refine mono _ _ _ _ (fun a' h'=> ?_) h
   have:=wpHd_mid (md:= .any) (m:=m) (l2:=setN (m - n) n (setN n 0 (Array.replicate l.toArray.size false))) ((l.take m).drop n) n (setN n 0 (Array.replicate l.toArray.size false)) a' w.drew (fun j hj=>by
    rw [hml]at hj
    rw [List.getElem?_drop,List.getElem?_take_of_lt (by omega)];simp) (by rw [hml];omega) (by rw [hml]) (by rw [hml];exact hal) h'
   rw [hml]at this
   exact this)
 have:=wpAny_of_hd hL _ _ _ _ H
 rw [htl,show n+(m - n)+(l.drop m).length=l.toArray.size by simp;omega]at this
 exact this
theorem wpHeld_nil {P:Program} {ops:Array Oper} {S:World->Prop} {K:Act->Prop} {a:Act} (h:K a):wpHeld P ops S K [] a:=h
theorem wpHeld_cons {P:Program} {ops:Array Oper} {S:World->Prop} {K:Act->Prop} {a:Act} {o:Oper} {t:List Oper} (v:Value) (hw:Region.wanted o (yielded ops a.tmps)=true) (hy: ∀w,S w->(execOp a.eval o).run P w= .ok (.value v) w) (h:wpHeld P ops S K t (a.put o.dst v)):wpHeld P ops S K (o::t) a:=⟨v,.inl ⟨hw,hy⟩,h⟩
theorem wpMid_nil {P:Program} {ops:Array Oper} {Q:Exit->Act->World->Prop} {S:World->Prop} {rest:List Oper} {a:Act} {w:World} (h:wpList P ops Q rest a w):wpMid P ops Q S rest [] a w:=h
theorem wpMid_cons {P:Program} {ops:Array Oper} {Q:Exit->Act->World->Prop} {S:World->Prop} {rest:List Oper} {a:Act} {w:World} {o:Oper} {t:List Oper} (h:wpList P ops (Exit.then (fun a' w'=>S w'/\wpMid P ops Q S rest t a' w') Q) [o] a w):wpMid P ops Q S rest (o::t) a w:=h
end
section
section
open Go.RowKit
end
section
open Go.RowKit
end
section
open Go.RowKit
end
section
open Go.RowKit
end
end
section
section
open Go.RowKit
end
section
open Go.RowKit
end
section
open Go.RowKit
end
section
open Go.RowKit
end
section
open Go.RowKit
end
section
open Go.RowKit
end
end
section
section
open Go.RowKit
section
variable {w w' : World} {F : Nat -> Prop} {B : Nat} {A1 A2 A3 : Option Addr} {c1 c2 c3 T N R : Nat} {st : Int} {G : GramD}
end
end
section
open Go.RowKit
attribute [local irreducible] wpStill wpOne wpPh
end
end
section
section
open Go.RowKit
end
section
open Go.RowKit
end
section
open Go.RowKit
end
section
open Go.RowKit
open Go.Maps (Keyed)
theorem Tryz.zeroInt (w:World):(zeroValue 3).run Tryz.prog w= .ok (.int .i64 0) w:=by kernel_rfl
end
end
section
section
open Go.RowKit
end
section
open Go.RowKit
end
end
section
section
open Go.RowKit
end
section
open Go.ChangeShapes Go.WideShapes Go.ChangeAt Go.RowKit Go.Deep
section
variable {H : Type} {enc : TypeId × Value -> H} {w : World} {sp : Nat -> Bool}
theorem opens_intsZ:OpensZ enc Tryz.prog w sp 23 (fun cs (xs:List Int)=> ∃v,cs=[v]/\RdL w (· <w.heap.size) 1 (fun cs n=>cs=[.int .i64 n]/\(Lit.int .i64 n).wf=true) v xs/\xs.length * 8<=140737488351232):=
 opens_listZ Tryz.underlying23 (by kernel_rfl) (by decide) (by kernel_rfl) (OpensZ.of (opens_int Tryz.underlying3))
theorem opens_ruleZ:OpensZ enc Tryz.prog w sp 53 (fun cs (x:Int×List Int)=> ∃c0 c1,cs=[c0,c1]/\([c0]=[Value.int .i64 x.1]/\(Lit.int .i64 x.1).wf=true)/\ ∃v,[c1]=[v]/\RdL w (· <w.heap.size) 1 (fun cs n=>cs=[.int .i64 n]/\(Lit.int .i64 n).wf=true) v x.2/\x.2.length * 8<=140737488351232):=
 opens_struct2Z Tryz.underlying53 (by kernel_rfl) (by kernel_rfl) (OpensZ.of (opens_int Tryz.underlying3)) opens_intsZ
theorem opens_rulesZ:OpensZ enc Tryz.prog w sp 22 (fun cs (xs:List (Int×List Int))=> ∃v,cs=[v]/\RdL w (· <w.heap.size) 2 (fun cs x=> ∃c0 c1,cs=[c0,c1]/\([c0]=[Value.int .i64 x.1]/\(Lit.int .i64 x.1).wf=true)/\ ∃v,[c1]=[v]/\RdL w (· <w.heap.size) 1 (fun cs n=>cs=[.int .i64 n]/\(Lit.int .i64 n).wf=true) v x.2/\x.2.length * 8<=140737488351232) v xs/\xs.length * 32<=140737488351232):=
 opens_listZ Tryz.underlying22 (by kernel_rfl) (by decide) (by kernel_rfl) opens_ruleZ
theorem wf_i64_iff {n:Int} (h:(Lit.int .i64 n).wf=true): -9223372036854775808<=n/\n<=9223372036854775807:=by
 simp [Lit.wf,IntKind.min,IntKind.max,IntKind.signed,IntKind.bits]at h
 omega
theorem rdl_ints {v:Value} {xs:List Int} (h:RdL w (· <w.heap.size) 1 (fun cs n=>cs=[.int .i64 n]/\(Lit.int .i64 n).wf=true) v xs):RdI w (· <w.heap.size) v xs/\(∀n∈xs,(Lit.int .i64 n).wf=true):=by
 obtain⟨h1,h2⟩:=RdL.parts (E:=fun cs (n:Int)=>cs=[.int .i64 n]) (p:=fun n=>(Lit.int .i64 n).wf=true) h
 exact⟨RdL.rd h1,h2⟩
theorem RdL.also {X:Type} {F:Nat->Prop} {k:Nat} {E E':List Value->X->Prop} {p:X->Prop} {v:Value} {xs:List X} (h:RdL w F k E v xs) (hE: ∀cs x,E cs x->E' cs x/\p x):RdL w F k (fun cs x=>E' cs x/\p x) v xs:=by
 obtain⟨A,c,hv,hc,hm,hr⟩:=h
 refine⟨A,c,hv,hc,hm,fun hn=> ?_⟩
 obtain⟨b,off,hA,hb,hcell⟩:=hr hn
 refine⟨b,off,hA,hb,fun i x hx=> ?_⟩
 obtain⟨cs,hl,he,hu⟩:=hcell i x hx
 exact⟨cs,hl,hE cs x he,hu⟩
end
end
section
open Go.RowKit
end
end
noncomputable def toB (P:Prop):Bool:= @decide P (Classical.propDecidable P)
section
inductive Emp (rs:List (Int×List Int)):Int->Prop
 |mk (r:Int×List Int):r∈rs->(∀x∈r.2,Emp rs x)->Emp rs r.1
inductive Beg (T:Nat) (rs:List (Int×List Int)):Int->Nat->Prop
 |self (t:Nat):t<=T->Beg T rs (t:Int) t
 |step (r:Int×List Int) (x:Int) (t:Nat) (pre post:List Int):r∈rs->r.2=pre++x::post->(∀y∈pre,Emp rs y)->Beg T rs x t->Beg T rs r.1 t
def lineB (e:Int->Bool) (b:Int->Nat->Bool):List Int->Nat->Bool
 |[],_=>false
 |x::r,t=>b x t||(e x&&lineB e b r t)
def famI (n:Nat) (F:Nat->Nat->Bool) (x:Int) (t:Nat):Bool:=decide (0<=x)&&decide (x<n)&&F x.toNat t
abbrev EmpG (G:GramD):Int->Prop:=Emp G.rules
abbrev BegG (G:GramD):Int->Nat->Prop:=Beg G.terms.length G.rules
abbrev topN (G:GramD):Nat:=G.terms.length+G.nons.length+1
noncomputable def empB (G:GramD) (j:Nat):Bool:=toB (EmpG G (j:Int))
noncomputable def begB (G:GramD) (i t:Nat):Bool:=toB (BegG G (i:Int) t)
end
section
section
variable {T p n M : Nat} {e : Int -> Bool} {b : Int -> Nat -> Bool} {bh bh' : Nat -> Nat -> Bool} {l : Int} {xs : List Int} {k : Nat} {m : Bool} {x : Int}
end
end
section
end
section
abbrev It:=Int×Int
def rightI (G:GramD) (st:Int) (x:It):Bool:=(ruleOf G st x.1).2&&(decide (0<=x.2)&&decide (x.2<=(ruleOf G st x.1).1.2.length))
def behindI (G:GramD) (st:Int) (x:It):Int×Bool:=if rightI G st x=true/\x.2<(ruleOf G st x.1).1.2.length then(((ruleOf G st x.1).1.2[x.2.toNat]?).getD 0,true)else(0,false)
end
section
open Go.Sort
end
end Go.Proofs.YtlpipniclimgeaaGreat

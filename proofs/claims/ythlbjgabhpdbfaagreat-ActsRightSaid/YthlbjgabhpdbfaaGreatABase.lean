/- Words and lemmas that are of no program: which blocks a call may turn, a slice that reads as a list of cells, a block that is known whole.
  Conditions: none. -/
import Derived.WalkKit
import Derived.Maps.OwnSet
import Derived.BigQuiet
import Derived.Deep.QuietTactic
import Derived.Deep.Draws
import Derived.Deep.RegionHeld3
import Derived.Deep.DeepFit
import Derived.WalkSpells
import Derived.Deep.LoopGhost
import Derived.Deep.Slices
import Derived.ChangeSame
import Derived.StillTailTactics
import Derived.Maps.AppendAt
import Derived.Deep.AppendLies
import Derived.Laws.CopyOwn
import Derived.ProofKit
import Derived.OpenShut
import Derived.ShutString
import Derived.ChangeOld
import Derived.Carry
import Derived.Deep.Fields
import Derived.SizedLaws
import Derived.Test.YthlbjgabhpdbfaaGreatProg
import Derived.Laws.MakeOwn
namespace Go.Proofs.YthlbjgabhpdbfaaGreat
set_option linter.unusedVariables false
open Go.RowKit
theorem hide {p:Prop} (h:p):Hid p:=h
theorem HqZ2 {p0 p1:Prop} (a0:p0) (a1:p1):Hid p0/\Hid p1:=⟨hide a0,hide a1⟩
theorem HqZ3 {p0 p1 p2:Prop} (a0:p0) (a1:p1) (a2:p2):Hid p0/\Hid p1/\Hid p2:=⟨hide a0,hide a1,hide a2⟩
theorem HqZ4 {p0 p1 p2 p3:Prop} (a0:p0) (a1:p1) (a2:p2) (a3:p3):Hid p0/\Hid p1/\Hid p2/\Hid p3:=⟨hide a0,hide a1,hide a2,hide a3⟩
theorem HqZ5 {p0 p1 p2 p3 p4:Prop} (a0:p0) (a1:p1) (a2:p2) (a3:p3) (a4:p4):Hid p0/\Hid p1/\Hid p2/\Hid p3/\Hid p4:=⟨hide a0,hide a1,hide a2,hide a3,hide a4⟩
theorem HqZ6 {p0 p1 p2 p3 p4 p5:Prop} (a0:p0) (a1:p1) (a2:p2) (a3:p3) (a4:p4) (a5:p5):Hid p0/\Hid p1/\Hid p2/\Hid p3/\Hid p4/\Hid p5:=⟨hide a0,hide a1,hide a2,hide a3,hide a4,hide a5⟩
theorem HqZ7 {p0 p1 p2 p3 p4 p5 p6:Prop} (a0:p0) (a1:p1) (a2:p2) (a3:p3) (a4:p4) (a5:p5) (a6:p6):Hid p0/\Hid p1/\Hid p2/\Hid p3/\Hid p4/\Hid p5/\Hid p6:=⟨hide a0,hide a1,hide a2,hide a3,hide a4,hide a5,hide a6⟩
theorem HqZ8 {p0 p1 p2 p3 p4 p5 p6 p7:Prop} (a0:p0) (a1:p1) (a2:p2) (a3:p3) (a4:p4) (a5:p5) (a6:p6) (a7:p7):Hid p0/\Hid p1/\Hid p2/\Hid p3/\Hid p4/\Hid p5/\Hid p6/\Hid p7:=⟨hide a0,hide a1,hide a2,hide a3,hide a4,hide a5,hide a6,hide a7⟩
theorem HqZ9 {p0 p1 p2 p3 p4 p5 p6 p7 p8:Prop} (a0:p0) (a1:p1) (a2:p2) (a3:p3) (a4:p4) (a5:p5) (a6:p6) (a7:p7) (a8:p8):Hid p0/\Hid p1/\Hid p2/\Hid p3/\Hid p4/\Hid p5/\Hid p6/\Hid p7/\Hid p8:=⟨hide a0,hide a1,hide a2,hide a3,hide a4,hide a5,hide a6,hide a7,hide a8⟩
theorem HqZ10 {p0 p1 p2 p3 p4 p5 p6 p7 p8 p9:Prop} (a0:p0) (a1:p1) (a2:p2) (a3:p3) (a4:p4) (a5:p5) (a6:p6) (a7:p7) (a8:p8) (a9:p9):Hid p0/\Hid p1/\Hid p2/\Hid p3/\Hid p4/\Hid p5/\Hid p6/\Hid p7/\Hid p8/\Hid p9:=⟨hide a0,hide a1,hide a2,hide a3,hide a4,hide a5,hide a6,hide a7,hide a8,hide a9⟩
theorem HqZ11 {p0 p1 p2 p3 p4 p5 p6 p7 p8 p9 p10:Prop} (a0:p0) (a1:p1) (a2:p2) (a3:p3) (a4:p4) (a5:p5) (a6:p6) (a7:p7) (a8:p8) (a9:p9) (a10:p10):Hid p0/\Hid p1/\Hid p2/\Hid p3/\Hid p4/\Hid p5/\Hid p6/\Hid p7/\Hid p8/\Hid p9/\Hid p10:=⟨hide a0,hide a1,hide a2,hide a3,hide a4,hide a5,hide a6,hide a7,hide a8,hide a9,hide a10⟩
theorem HqZ12 {p0 p1 p2 p3 p4 p5 p6 p7 p8 p9 p10 p11:Prop} (a0:p0) (a1:p1) (a2:p2) (a3:p3) (a4:p4) (a5:p5) (a6:p6) (a7:p7) (a8:p8) (a9:p9) (a10:p10) (a11:p11):Hid p0/\Hid p1/\Hid p2/\Hid p3/\Hid p4/\Hid p5/\Hid p6/\Hid p7/\Hid p8/\Hid p9/\Hid p10/\Hid p11:=⟨hide a0,hide a1,hide a2,hide a3,hide a4,hide a5,hide a6,hide a7,hide a8,hide a9,hide a10,hide a11⟩
theorem HqZ13 {p0 p1 p2 p3 p4 p5 p6 p7 p8 p9 p10 p11 p12:Prop} (a0:p0) (a1:p1) (a2:p2) (a3:p3) (a4:p4) (a5:p5) (a6:p6) (a7:p7) (a8:p8) (a9:p9) (a10:p10) (a11:p11) (a12:p12):Hid p0/\Hid p1/\Hid p2/\Hid p3/\Hid p4/\Hid p5/\Hid p6/\Hid p7/\Hid p8/\Hid p9/\Hid p10/\Hid p11/\Hid p12:=⟨hide a0,hide a1,hide a2,hide a3,hide a4,hide a5,hide a6,hide a7,hide a8,hide a9,hide a10,hide a11,hide a12⟩
theorem HqZ14 {p0 p1 p2 p3 p4 p5 p6 p7 p8 p9 p10 p11 p12 p13:Prop} (a0:p0) (a1:p1) (a2:p2) (a3:p3) (a4:p4) (a5:p5) (a6:p6) (a7:p7) (a8:p8) (a9:p9) (a10:p10) (a11:p11) (a12:p12) (a13:p13):Hid p0/\Hid p1/\Hid p2/\Hid p3/\Hid p4/\Hid p5/\Hid p6/\Hid p7/\Hid p8/\Hid p9/\Hid p10/\Hid p11/\Hid p12/\Hid p13:=⟨hide a0,hide a1,hide a2,hide a3,hide a4,hide a5,hide a6,hide a7,hide a8,hide a9,hide a10,hide a11,hide a12,hide a13⟩
theorem bytes_ext {a b:ByteArray} (h:a.data=b.data):a=b:=by cases a;cases b;cases h;rfl
instance:DecidableEq ByteArray:=fun a b=>if h:a.data=b.data then isTrue (bytes_ext h)else isFalse fun e=>h (by rw [e])
def place (xs:List ByteArray) (s:ByteArray):Int:=match xs.findIdx? (fun x=>decide (x=s))with|some i=>(i:Int)|none=> -1
theorem place_not {xs:List ByteArray} {s:ByteArray} (h:s∉xs):place xs s= -1:=by
 have:xs.findIdx? (fun x=>decide (x=s))=none:=by
  rw [List.findIdx?_eq_none_iff];intro x hx;simp;rintro rfl;exact h hx
 simp [place,this]
theorem place_some {xs:List ByteArray} {s:ByteArray} (h:s∈xs): ∃i:Nat,xs[i]? =some s/\(∀j:Nat,j<i->xs[j]? ≠some s)/\place xs s=i:=by
 rcases hf:xs.findIdx? (fun x=>decide (x=s))with _|i
 ·rw [List.findIdx?_eq_none_iff]at hf
  have:=hf s h
  simp at this
 ·have hf':=hf
  rw [List.findIdx?_eq_some_iff_getElem]at hf
  obtain⟨hi,hx,hj⟩:=hf
  refine⟨i,by rw [List.getElem?_eq_getElem hi];simpa using hx,fun j hj'=> ?_,by simp [place,hf']⟩
  have:=hj j hj'
  rw [List.getElem?_eq_getElem (by omega)]
  simpa using this
theorem place_mem {xs:List ByteArray} {s:ByteArray}:0<=place xs s↔s∈xs:=by
 by_cases h:s∈xs
 ·obtain⟨i,_,_,hp⟩:=place_some h
  simp [h,hp]
 ·rw [place_not h];simp [h]
instance (s:ByteArray) (xs:List ByteArray):Decidable (s∈xs):=decidable_of_iff (0<=place xs s) place_mem
theorem ret_int {k:IntKind} {a b:Int} (h:a=b):Ending.returned (.int k a)= .returned (.int k b):=by rw [h]
theorem ret_bool {a b:Bool} (h:a=b):Ending.returned (.bool a)= .returned (.bool b):=by rw [h]
theorem ret_tup3 {a b c a' b' c':Value} (h1:a=a') (h2:b=b') (h3:c=c'):Ending.returned (.tuple #[a,b,c])= .returned (.tuple #[a',b',c']):=by rw [h1,h2,h3]
theorem int_eq {k:IntKind} {a b:Int} (h:a=b):Value.int k a=Value.int k b:=by rw [h]
theorem toList_len (s:ByteArray):s.toList.length=s.size:=by rw [ByteArray.toList_eq];rfl
theorem toList_nil (s:ByteArray):s.toList=[]↔s.size=0:=by rw [<-toList_len];exact List.length_eq_zero_iff.symm
theorem isEmpty_size (s:ByteArray):s.toList.isEmpty=decide (s.size=0):=by
 rw [Bool.eq_iff_iff,List.isEmpty_iff,toList_nil];simp
theorem region_tail {P:Program} {id:Nat} {Q:Exit->Act->World->Prop} {a:Act} {w:World} {l:List Oper} (n:Nat) (hm:P.follows .mixedOrders=true) (hB:Region.lexTailB .any l.toArray n=true)
  (h:wpStill P l.toArray w.drew (fun a'=>wpList P l.toArray Q (l.drop n) a' w.drew) (l.take n) a):(Code.region id l.toArray true).wp P Q a w:=
 wp_region_still_tail n hm hB h
structure Touch (S:Nat->Prop) (w w':World):Prop where
 os:w'.os=w.os
 tape:w'.tape=w.tape
 output:w'.output=w.output
 size:w.heap.size<=w'.heap.size
 block: ∀k,k<w.heap.size-> ¬S k->w'.heap[k]? =w.heap[k]?
section
variable {S S' : Nat -> Prop} {w w' a b c : World}
theorem Touch.refl (S:Nat->Prop) (w:World):Touch S w w:=⟨rfl,rfl,rfl,Nat.le_refl _,fun _ _ _=>rfl⟩
theorem Touch.trans (h:Touch S a b) (k:Touch S' b c) (hS: ∀i,i<a.heap.size->S' i->S i):Touch S a c:=
 ⟨k.os.trans h.os,k.tape.trans h.tape,k.output.trans h.output,Nat.le_trans h.size k.size,
  fun i hi hn=>(k.block i (Nat.lt_of_lt_of_le hi h.size) (fun hs=>hn (hS i hi hs))).trans (h.block i hi hn)⟩
theorem Touch.trans' (h:Touch S a b) (k:Touch S b c):Touch S a c:=h.trans k fun _ _ hs=>hs
theorem Touch.mono (h:Touch S a b) (hS: ∀i,i<a.heap.size->S i->S' i):Touch S' a b:=
 ⟨h.os,h.tape,h.output,h.size,fun i hi hn=>h.block i hi fun hs=>hn (hS i hi hs)⟩
theorem Touch.drew (h:Touch S a b):Touch S a b.drew:=⟨h.os,h.tape,h.output,h.size,h.block⟩
theorem Touch.drewN (h:Touch S a b) (n:Nat):Touch S a (b.drewN n):=⟨h.os,h.tape,h.output,h.size,h.block⟩
theorem Touch.alloc (h:Touch S a b) (o:Obj):Touch S a (b.alloc o):=
 h.trans' ⟨rfl,rfl,rfl,by simp,fun k hk _=>Below.heap_alloc _ _ _ hk⟩
theorem Touch.setCell (h:Touch S a b) {p:Addr} (hp:p.block<a.heap.size->S p.block) (u:Value):Touch S a (b.setCell p u):=
 ⟨h.os,h.tape,h.output,by simpa [World.setCell]using h.size,fun i hi hn=>(Below.heap_setCell _ _ _ _ (fun e=>hn (by rw [e];exact hp (e▸hi)))).trans (h.block i hi hn)⟩
theorem Touch.grown {row:Option Nat} (h:Touch S a b) (hg:b.grownBy c row) (hr: ∀k,row=some k->k<a.heap.size->S k):Touch S a c:=
 ⟨hg.os.trans h.os,hg.tape.trans h.tape,hg.output.trans h.output,Nat.le_trans h.size hg.size,
  fun i hi hn=>(hg.block i (Nat.lt_of_lt_of_le hi h.size) (fun e=>hn (hr i e.symm hi))).trans (h.block i hi hn)⟩
theorem Touch.below {B:Nat} (h:Touch S a b) (hS: ∀i,i<B->i<a.heap.size-> ¬S i) (hB:B<=a.heap.size):Below B a b:=
 ⟨h.os,h.tape,h.output,h.size,fun i hi=>h.block i (by omega) (hS i hi (by omega))⟩
theorem Touch.of_below {B:Nat} (h:Below B a b):Touch (fun k=>B<=k) a b:=⟨h.os,h.tape,h.output,h.size,fun i _ hn=>h.block i (by simpa using hn)⟩
theorem Touch.of_size (h:Below a.heap.size a b) (S:Nat->Prop):Touch S a b:=⟨h.os,h.tape,h.output,h.size,fun i hi _=>h.block i hi⟩
theorem Touch.cell (h:Touch S w w') {p:Addr} {u:Value} (hc:w.cell? p=some u) (hp: ¬S p.block):w'.cell? p=some u:=
 (World.cell?_of_block (h.block _ (World.block_lt_of_cell? w p hc) hp)).trans hc
theorem Touch.own {base:Nat} {e:TypeId} {size n:Nat} {v:Value} {xs:List Value} (h:Touch S w w') (ho:w.ownsRow base e size v n xs) (hS: ∀k,v.ownBlock=some k-> ¬S k):w'.ownsRow base e size v n xs:=by
 refine⟨ho.1,?_⟩
 rcases ho.2 with hn|⟨g,cap,cur,rfl,hb,hgg,rest⟩
 ·exact .inl hn
 ·exact .inr ⟨g,cap,cur,rfl,hb,(h.block g (Array.getElem?_eq_some_iff.1 hgg).1 (hS g rfl)).trans hgg,rest⟩
theorem Touch.ownsMap {H:Type} {P:Program} {k:TypeId} {R:Value->Option (DataW H×List MemPlace)} {n m:Nat} {D:DataW H} (h:Touch S w w') (ho:w.ownsMap P k R m n D) (hS: ¬S m):w'.ownsMap P k R m n D:=by
 have hlt:=ho.lt
 obtain⟨es,clock,hb,r⟩:=ho
 exact⟨es,clock,(h.block m hlt hS).trans hb,r⟩
end
def New (S:Nat->Prop) (w w':World) (k:Nat):Prop:=S k\/(w.heap.size<=k/\k<w'.heap.size)
theorem Touch.toBelow {w w':World} {S:Nat->Prop} {B:Nat} {w0:World} (h:Touch S w w') (hS: ∀k,S k->B<=k) (hb:Below B w0 w) (hB:B<=w.heap.size):Below B w0 w':=
 hb.trans (h.below (fun k hk _ hs=>by have:=hS k hs;omega) hB)
def Blk (w:World) (g:Nat) (t:TypeId) (cs:Array Value):Prop:=w.heap[g]? =some (.cells cs t (0,0))
section
variable {w w' : World} {g g' : Nat} {t t' : TypeId} {cs cs' : Array Value} {S : Nat -> Prop}
theorem Blk.lt (h:Blk w g t cs):g<w.heap.size:=(Array.getElem?_eq_some_iff.1 h).1
theorem Blk.cell (h:Blk w g t cs) (i:Nat):w.cell? ⟨g,i,none⟩=cs[i]? :=cell_of_row w g i cs t (0,0) h
theorem Blk.frozen (h:Blk w g t cs) (i:Nat):w.frozen? ⟨g,i,none⟩=false:=by
 unfold Blk at h
 simp [World.frozen?,h]
theorem Blk.new (w:World) (t:TypeId) (cs:Array Value):Blk (w.alloc (.cells cs t)) w.heap.size t cs:=heap_alloc_new w _
theorem Blk.drew (h:Blk w g t cs):Blk w.drew g t cs:=h
theorem Blk.alloc (h:Blk w g t cs) (o:Obj):Blk (w.alloc o) g t cs:=(Below.heap_alloc w o g h.lt).trans h
theorem Blk.put (h:Blk w g t cs) (i:Nat) (u:Value):Blk (w.setCell ⟨g,i,none⟩ u) g t (cs.setIfInBounds i u):=by
 unfold Blk at h⊢
 simp [World.setCell,Array.getElem?_modify,h]
theorem Blk.far (h:Blk w g t cs) {p:Addr} (hp:g≠p.block) (u:Value):Blk (w.setCell p u) g t cs:=(Below.heap_setCell w p u g hp).trans h
theorem Blk.below {B:Nat} (h:Blk w g t cs) (hb:Below B w w') (hg:g<B):Blk w' g t cs:=(hb.block g hg).trans h
theorem Blk.touch (h:Blk w g t cs) (hb:Touch S w w') (hg: ¬S g):Blk w' g t cs:=(hb.block g h.lt hg).trans h
theorem Blk.grown {row:Option Nat} (h:Blk w g t cs) (hb:w.grownBy w' row) (hg:some g≠row):Blk w' g t cs:=(hb.block g h.lt hg).trans h
theorem Blk.ne (h:Blk w g t cs) (h':Blk w g' t' cs') (hne:t≠t'):g≠g':=by
 rintro rfl
 unfold Blk at h h'
 rw [h]at h'
 injection h' with h'
 injection h' with _ ht
 exact hne ht
theorem Blk.ne_map {H:Type} {P:Program} {k:TypeId} {R:Value->Option (DataW H×List MemPlace)} {n m:Nat} {D:DataW H} (hg:Blk w g t cs) (ho:w.ownsMap P k R m n D):m≠g:=by
 rintro rfl
 obtain⟨es,clock,hb,_⟩:=ho
 unfold Blk at hg
 rw [hb]at hg
 cases hg
theorem own_ne_map {H:Type} {P:Program} {k:TypeId} {R:Value->Option (DataW H×List MemPlace)} {n' m:Nat} {D:DataW H} {base:Nat} {e:TypeId} {size n:Nat} {v:Value} {xs:List Value} (h:w.ownsRow base e size v n xs) (ho:w.ownsMap P k R m n' D):v.ownBlock≠some m:=by
 rcases h.2 with⟨rfl,_⟩|⟨g',cap,cur,rfl,_,hh,_⟩
 ·simp [Value.ownBlock]
 ·intro he
  have:g'=m:=by simpa [Value.ownBlock]using he
  subst this
  obtain⟨es,clock,hb,_⟩:=ho
  rw [hb]at hh
  cases hh
end
def Rd (w:World) (F:Nat->Prop) (v:Value) (size:Nat) (xs:List Value):Prop:=
 ∃A n c,v= .slice A n c/\n<=c/\c<=maxLen/\xs.length=n * size/\
  (0<n-> ∃b off,A=some ⟨b,off,none⟩/\F b/\ ∀j u,xs[j]? =some u->w.cell? ⟨b,off+j,none⟩=some u)
section
variable {w w' : World} {F F' S : Nat -> Prop} {v : Value} {size : Nat} {xs : List Value}
theorem Rd.touch (h:Rd w F v size xs) (ht:Touch S w w') (hF: ∀k,F k-> ¬S k):Rd w' F v size xs:=by
 obtain⟨A,n,c,hv,hc,hm,hl,hr⟩:=h
 refine⟨A,n,c,hv,hc,hm,hl,fun hn=> ?_⟩
 obtain⟨b,off,hA,hb,hcell⟩:=hr hn
 exact⟨b,off,hA,hb,fun j u hu=>ht.cell (hcell j u hu) (hF b hb)⟩
theorem Rd.below {B:Nat} (h:Rd w F v size xs) (ht:Below B w w') (hF: ∀k,F k->k<B):Rd w' F v size xs:=by
 obtain⟨A,n,c,hv,hc,hm,hl,hr⟩:=h
 refine⟨A,n,c,hv,hc,hm,hl,fun hn=> ?_⟩
 obtain⟨b,off,hA,hb,hcell⟩:=hr hn
 exact⟨b,off,hA,hb,fun j u hu=>(ht.cell (p:=⟨b,off+j,none⟩) (hF b hb)).trans (hcell j u hu)⟩
theorem Rd.mono (h:Rd w F v size xs) (hF: ∀k,F k->F' k):Rd w F' v size xs:=by
 obtain⟨A,n,c,hv,hc,hm,hl,hr⟩:=h
 refine⟨A,n,c,hv,hc,hm,hl,fun hn=> ?_⟩
 obtain⟨b,off,hA,hb,hcell⟩:=hr hn
 exact⟨b,off,hA,hF b hb,hcell⟩
theorem Rd.drew (h:Rd w F v size xs):Rd w.drew F v size xs:=h
theorem Rd.drewN (h:Rd w F v size xs) (n:Nat):Rd (w.drewN n) F v size xs:=h
theorem Rd.nil (w:World) (F:Nat->Prop) (size:Nat):Rd w F (.slice none 0 0) size []:=⟨none,0,0,rfl,Nat.le_refl _,by decide,by simp,fun h=>absurd h (by omega)⟩
theorem Rd.of_own {base:Nat} {e:TypeId} {n:Nat} (h:w.ownsRow base e size v n xs):Rd w (fun k=>v.ownBlock=some k) v size xs:=by
 rcases h.2 with⟨rfl,rfl⟩|⟨g,cap,cur,rfl,hb,hh,hn,hc,hz,ht⟩
 ·have:xs=[]:=List.eq_nil_of_length_eq_zero (by simpa using h.1)
  subst this
  exact Rd.nil _ _ _
 ·refine⟨_,_,_,rfl,hn,hc,h.1,fun _=>⟨g,0,rfl,rfl,fun j u hu=> ?_⟩⟩
  rw [cell_of_row w g (0+j) cur e (0,0) hh,Nat.zero_add]
  rw [<-ht,List.getElem?_take]at hu
  split at hu
  ·simpa using hu
  ·cases hu
end
theorem cell_a {w:World} {p:Addr} {u:Value} (h:w.cell? p=some u): ∀(o:Obj),(w.alloc o).cell? p=some u:=
 fun o=>(World.cell?_alloc_lt w o p (World.block_lt_of_cell? w p h)).trans h
structure Elem (P:Program) (t e:TypeId) (z:Value) (size bytes:Nat):Prop where
 slice:P.underlying t=some (.slice e)
 info:(P.info? e).map (fun i=>(i.zero,i.size,i.bytes))=some (some z,size,bytes)
 zs:z.cells.size=size
 pos:0<size
theorem ownsRow_shape {w:World} {base:Nat} {e:TypeId} {size n:Nat} {v:Value} {xs:List Value} (h:w.ownsRow base e size v n xs): ∃A c,v= .slice A n c/\n<=c/\c<=maxLen:=by
 rcases h.2 with⟨rfl,rfl⟩|⟨g,cap,cur,rfl,_,_,h1,h2,_⟩
 ·exact⟨none,0,rfl,Nat.le_refl _,by decide⟩
 ·exact⟨_,cap,rfl,h1,h2⟩
theorem ownsRow_base {w:World} {base base':Nat} {e:TypeId} {size n:Nat} {v:Value} {xs:List Value} (h:w.ownsRow base e size v n xs) (hb: ∀k,v.ownBlock=some k->base'<=k):w.ownsRow base' e size v n xs:=by
 refine⟨h.1,?_⟩
 rcases h.2 with hn|⟨g,cap,cur,rfl,_,r⟩
 ·exact .inl hn
 ·exact .inr ⟨g,cap,cur,rfl,hb g rfl,r⟩
theorem add_none (b off j:Nat):(⟨b,off,none⟩:Addr).add j=⟨b,off+j,none⟩:=by
 unfold Addr.add;split<;>simp_all
theorem append_run {P:Program} (w:World) {t e:TypeId} {z:Value} {size bytes:Nat} (E:Elem P t e z size bytes) (ty:TypeId) (base:Nat)
  (v:Value) (n:Nat) (xs:List Value) (hown:w.ownsRow base e size v n xs) (F:Nat->Prop) (vx:Value) (news:List Value) (m:Nat) (hm:news.length=m * size) (hr:Rd w F vx size news) (h1: ∀u∈news,u.oneCell'=true)
  (h63:n+m<=maxLen) (hbytes:(n+m) * bytes<=140737488355328) (hbase:base<=w.heap.size):
  ∃A c w',(Builtin.append_ #[t,t] ty #[v,vx]).run P w= .ok (.slice A (n+m) c) w'/\w'.ownsRow base e size (.slice A (n+m) c) (n+m) (xs++news)/\w.grownBy w' v.ownBlock/\
   ((Value.slice A (n+m) c).ownBlock=v.ownBlock\/(Value.slice A (n+m) c).ownBlock=some w.heap.size):=by
 obtain⟨i,hi,hz,hsize,hby⟩:=info_parts E.info
 obtain⟨A,m',c,rfl,hc,hcm,hl,hcell⟩:=hr
 obtain rfl:m'=m:=Nat.eq_of_mul_eq_mul_right E.pos (by rw [<-hl,hm])
 have hcs: ∀ad,A=some ad-> ∀j u,news[j]? =some u->w.cell? (ad.add j)=some u:=by
  intro ad hA j u hu
  have hlt:=(List.getElem?_eq_some_iff.1 hu).1
  rcases Nat.eq_zero_or_pos m' with h0|h0
  ·subst h0;simp at hl;subst hl;simp at hlt
  ·obtain⟨b,off,hA',_,hcs⟩:=hcell h0
   rw [hA]at hA'
   injection hA' with hA'
   subst hA'
   rw [add_none]
   exact hcs j u hu
 rcases A with _|ad
 ·have h0:m'=0:=by
   rcases Nat.eq_zero_or_pos m' with h0|h0
   ·exact h0
   ·obtain⟨b,off,hA',_⟩:=hcell h0;cases hA'
  subst h0
  obtain rfl:news=[]:=List.eq_nil_of_length_eq_zero (by simpa using hl)
  obtain⟨Av,cv,hv,_,_⟩:=ownsRow_shape hown
  refine⟨Av,cv,w,?_,by rw [hv]at hown;simpa using hown,World.grownBy.refl w _,.inl (by rw [hv];rfl)⟩
  rw [Nat.add_zero,<-hv]
  rcases hown.2 with⟨rfl,rfl⟩|⟨g,cap,cur,rfl,_,_,hnc,_⟩
  ·simp [Builtin.append_,run_underlying E.slice,sizeOf,typeInfo,hi,Builtin.lenOf,Builtin.firstCells]
  ·simp [Builtin.append_,run_underlying E.slice,sizeOf,typeInfo,hi,Builtin.lenOf,Builtin.firstCells,hnc,storeCells]
 ·obtain⟨v',w',hrun,h2,h3,_,h5⟩:=run_append_own_at (P:=P) w base t ty e i z size bytes E.slice hi hz hsize hby E.zs E.pos v n xs hown ad m' c news hl (hcs ad rfl) h1 h63 hbytes hbase
  obtain⟨A',c',rfl,_,_⟩:=ownsRow_shape h2
  exact⟨A',c',w',hrun,h2,h3,h5⟩
theorem wp_append {P:Program} (w:World) {ops:Array Oper} {rest:List Oper} {o:Oper} {a:Act} {Q:Exit->Act->World->Prop} (hgd:o.guard=none) (s x:Operand) (t:TypeId)
  (ho:o.op= .call {callee:= .builtin .append,args:= #[s,x],argTypes:= #[t,t]}) {e:TypeId} {z:Value} {size bytes:Nat} (E:Elem P t e z size bytes) (base:Nat)
  (v:Value) (n:Nat) (xs:List Value) (hs:a.eval s=v) (hown:w.ownsRow base e size v n xs) (F:Nat->Prop) (vx:Value) (news:List Value) (m:Nat) (hx:a.eval x=vx) (hm:news.length=m * size) (hr:Rd w F vx size news) (h1: ∀u∈news,u.oneCell'=true)
  (h63:n+m<=maxLen) (hbytes:(n+m) * bytes<=140737488355328) (hbase:base<=w.heap.size)
  (h: ∀A c w',w'.ownsRow base e size (.slice A (n+m) c) (n+m) (xs++news)->w.grownBy w' v.ownBlock->((Value.slice A (n+m) c).ownBlock=v.ownBlock\/(Value.slice A (n+m) c).ownBlock=some w.heap.size)->wpList P ops Q rest (a.put o.dst (.slice A (n+m) c)) w'):
  wpList P ops Q (o::rest) a w:=by
 refine wpList_plain hgd fun _ hK=> ?_
 obtain⟨A,c,w',hrun,h2,h3,h4⟩:=append_run (P:=P) w E o.type base v n xs hown F vx news m hm hr h1 h63 hbytes hbase
 unfold Oper.wp execOp
 simp only [ho,resolve,invoke,builtin,Sem.run_bind,Sem.run_pure,Result.andThen_ok,List.map_toArray,List.map_cons,List.map_nil,hs,hx,hrun]
 exact hK _ _ (h A c w' h2 h3 h4)
theorem step_append {P:Program} (w:World) {ops:Array Oper} {o:Oper} {a:Act} {K:Act->World->Prop} {Q:Exit->Act->World->Prop} {E':Prop} (hgd:o.guard=none) (s x:Operand) (t:TypeId)
  (ho:o.op= .call {callee:= .builtin .append,args:= #[s,x],argTypes:= #[t,t]}) {e:TypeId} {z:Value} {size bytes:Nat} (E:Elem P t e z size bytes) (base:Nat)
  (v:Value) (n:Nat) (xs:List Value) (hs:a.eval s=v) (hown:w.ownsRow base e size v n xs) (F:Nat->Prop) (vx:Value) (news:List Value) (m:Nat) (hx:a.eval x=vx) (hm:news.length=m * size) (hr:Rd w F vx size news) (h1: ∀u∈news,u.oneCell'=true)
  (h63:n+m<=maxLen) (hbytes:(n+m) * bytes<=140737488355328) (hbase:base<=w.heap.size)
  (h: ∀A c w',w'.ownsRow base e size (.slice A (n+m) c) (n+m) (xs++news)->w.grownBy w' v.ownBlock->((Value.slice A (n+m) c).ownBlock=v.ownBlock\/(Value.slice A (n+m) c).ownBlock=some w.heap.size)->K (a.put o.dst (.slice A (n+m) c)) w'):
  if Region.wanted o (yielded ops a.tmps)=true then Oper.wp P o a w K Q else E':=by
 have hw:Region.wanted o (yielded ops a.tmps)=true:=by simp [Region.wanted,hgd]
 rw [if_pos hw]
 obtain⟨A,c,w',hrun,h2,h3,h4⟩:=append_run (P:=P) w E o.type base v n xs hown F vx news m hm hr h1 h63 hbytes hbase
 unfold Oper.wp execOp
 simp only [ho,resolve,invoke,builtin,Sem.run_bind,Sem.run_pure,Result.andThen_ok,List.map_toArray,List.map_cons,List.map_nil,hs,hx,hrun]
 exact h A c w' h2 h3 h4
theorem Rd.one {w:World} {e:TypeId} (us:List Value) (size:Nat) (hl:us.length=size):Rd (w.alloc (.cells us.toArray e)) (fun _=>True) (.slice (some ⟨w.heap.size,0,none⟩) 1 1) size us:=
 ⟨_,1,1,rfl,Nat.le_refl _,by decide,by simpa using hl,fun _=>⟨_,0,rfl,trivial,fun j u hu=>by
  rw [(Blk.new w e us.toArray).cell];simpa using hu⟩⟩
end Go.Proofs.YthlbjgabhpdbfaaGreat
namespace Go.Proofs.YthlbjgabhpdbfaaGreat
open Go.ChangeShapes Go.WideShapes Go.ChangeAt Go.RowKit Go.Deep
def RdL {X:Type} (w:World) (F:Nat->Prop) (k:Nat) (E:List Value->X->Prop) (v:Value) (xs:List X):Prop:=
 ∃A c,v= .slice A xs.length c/\xs.length<=c/\c<=maxLen/\
  (0<xs.length-> ∃b off,A=some ⟨b,off,none⟩/\F b/\ ∀i x,xs[i]? =some x-> ∃cs,cs.length=k/\E cs x/\ ∀j u,cs[j]? =some u->w.cell? ⟨b,off+i * k+j,none⟩=some u)
theorem RdL.touch {X:Type} {w w':World} {F S:Nat->Prop} {k:Nat} {E E':List Value->X->Prop} {v:Value} {xs:List X} (h:RdL w F k E v xs) (ht:Touch S w w') (hF: ∀b,F b-> ¬S b) (hE: ∀cs x,x∈xs->E cs x->E' cs x):RdL w' F k E' v xs:=by
 obtain⟨A,c,hv,hc,hm,hr⟩:=h
 refine⟨A,c,hv,hc,hm,fun hn=> ?_⟩
 obtain⟨b,off,hA,hb,hcell⟩:=hr hn
 refine⟨b,off,hA,hb,fun i x hx=> ?_⟩
 obtain⟨cs,hl,he,hu⟩:=hcell i x hx
 exact⟨cs,hl,hE _ _ (List.mem_of_getElem? hx) he,fun j u hj=>ht.cell (hu j u hj) (hF b hb)⟩
theorem RdL.below {X:Type} {w w':World} {F:Nat->Prop} {B k:Nat} {E E':List Value->X->Prop} {v:Value} {xs:List X} (h:RdL w F k E v xs) (ht:Below B w w') (hF: ∀b,F b->b<B) (hE: ∀cs x,x∈xs->E cs x->E' cs x):RdL w' F k E' v xs:=by
 obtain⟨A,c,hv,hc,hm,hr⟩:=h
 refine⟨A,c,hv,hc,hm,fun hn=> ?_⟩
 obtain⟨b,off,hA,hb,hcell⟩:=hr hn
 refine⟨b,off,hA,hb,fun i x hx=> ?_⟩
 obtain⟨cs,hl,he,hu⟩:=hcell i x hx
 exact⟨cs,hl,hE _ _ (List.mem_of_getElem? hx) he,fun j u hj=>(ht.cell (p:=⟨b,off+i * k+j,none⟩) (hF b hb)).trans (hu j u hj)⟩
theorem RdL.rd {X:Type} {w:World} {F:Nat->Prop} {f:X->Value} {v:Value} {xs:List X} (h:RdL w F 1 (fun cs x=>cs=[f x]) v xs):Rd w F v 1 (xs.map f):=by
 obtain⟨A,c,hv,hc,hm,hr⟩:=h
 refine⟨A,_,c,hv,hc,hm,by simp,fun hn=> ?_⟩
 obtain⟨b,off,hA,hb,hcell⟩:=hr hn
 refine⟨b,off,hA,hb,fun j u hu=> ?_⟩
 rw [List.getElem?_map]at hu
 obtain⟨x,hx,rfl⟩:=Option.map_eq_some_iff.1 hu
 obtain⟨cs,_,rfl,hc'⟩:=hcell j x hx
 simpa using hc' 0 (f x) rfl
theorem RdL.parts {X:Type} {w:World} {F:Nat->Prop} {k:Nat} {E:List Value->X->Prop} {p:X->Prop} {v:Value} {xs:List X} (h:RdL w F k (fun cs x=>E cs x/\p x) v xs):RdL w F k E v xs/\ ∀x∈xs,p x:=by
 obtain⟨A,c,hv,hc,hm,hr⟩:=h
 refine⟨⟨A,c,hv,hc,hm,fun hn=> ?_⟩,fun x hx=> ?_⟩
 ·obtain⟨b,off,hA,hb,hcell⟩:=hr hn
  exact⟨b,off,hA,hb,fun i x hx=>by obtain⟨cs,hl,he,hu⟩:=hcell i x hx;exact⟨cs,hl,he.1,hu⟩⟩
 ·obtain⟨i,hi,rfl⟩:=List.getElem_of_mem hx
  obtain⟨b,off,hA,hb,hcell⟩:=hr (by omega)
  obtain⟨cs,hl,he,hu⟩:=hcell i _ (List.getElem?_eq_getElem hi)
  exact he.2
section
variable {H : Type} {enc : TypeId × Value -> H} {P : Program} {w : World} {sp : Nat -> Bool}
abbrev Opens (enc:TypeId×Value->H) (P:Program) (w:World) (sp:Nat->Bool) (t:TypeId) {X:Type} (E:List Value->X->Prop):Prop:=
 ∀(n:Nat) (cs:List Value) (y:DataW H×List MemPlace),DataW.trod enc P w 0 sp true n t cs=some y-> ∃x:X,E cs x
theorem opens_int {t:TypeId} {k:IntKind} (ht:P.underlying t=some (.int k)):Opens enc P w sp t (fun cs (n:Int)=>cs=[.int k n]/\(Lit.int k n).wf=true):=by
 intro fuel cs y h
 obtain⟨n,h1,_,h2⟩:=DataW.trod_int ht h
 exact⟨n,h1,h2⟩
theorem trod_back (hl:laidOutB P=true) {t:TypeId} (hr:P.readableRec t=true) (hrow:t<P.types.size) {W W':World} {v:Value} {d:DataW H} {ps:List MemPlace}
  (h:DataW.Trod enc P W 0 (fun _=>true) true t v d ps) (hb:Below W.heap.size W W'):DataW.Trod enc P W' 0 (fun b=>decide (b<W.heap.size)) true t v d ps:=
 Below.trod hl hr hrow h hb (by obtain⟨n,hn⟩:=h;exact DataW.trod_lt n _ _ _ hn)
end
set_option linter.unusedVariables false
section
variable {H : Type} {enc : TypeId × Value -> H} {P : Program} {w : World} {sp : Nat -> Bool}
abbrev Reached (P:Program) (t:TypeId) (d:DataW H):Prop:= ∀x∈d.weights P t,x<=140737488351232
abbrev OpensZ (enc:TypeId×Value->H) (P:Program) (w:World) (sp:Nat->Bool) (t:TypeId) {X:Type} (E:List Value->X->Prop):Prop:=
 ∀(n:Nat) (cs:List Value) (y:DataW H×List MemPlace),DataW.trod enc P w 0 sp true n t cs=some y->Reached P t y.1-> ∃x:X,E cs x
theorem OpensZ.of {X:Type} {t:TypeId} {E:List Value->X->Prop} (h:Opens enc P w sp t E):OpensZ enc P w sp t E:=fun n cs y hy _=>h n cs y hy
theorem weightsAll_mem {e:TypeId} {d:DataW H}: ∀{l:List (DataW H)},d∈l-> ∀x∈d.weights P e,x∈DataW.weightsAll P e l
 |a::r,h,x,hx=>by
  rw [DataW.weightsAll,List.mem_append]
  rcases List.mem_cons.1 h with rfl|h
  ·exact .inl hx
  ·exact .inr (weightsAll_mem h x hx)
theorem opens_listZ {X:Type} {t e:TypeId} {k bytes:Nat} {E:List Value->X->Prop} (ht:P.underlying t=some (.slice e)) (hk:P.cellsOf e=k) (hk0:0<k) (hb:P.bytesOf e=bytes) (hE:OpensZ enc P w sp e E):
  OpensZ enc P w sp t (fun cs (xs:List X)=> ∃v,cs=[v]/\RdL w (· <w.heap.size) k E v xs/\xs.length * bytes<=140737488351232):=by
 intro fuel cs y h hreach
 rcases open_slice ht h with⟨rfl,rfl⟩|⟨a,len,cap,m,n,D,Pl,rfl,_,hl,hm,hmm,rfl,hi⟩
 ·exact⟨[],_,rfl,⟨none,0,rfl,Nat.le_refl _,by decide,fun h=>absurd h (by simp)⟩,by simp⟩
 ·rw [hk]at hi
  have hlm:len<=m:=by rw [hmm];split<;>omega
  have hw:DataW.weights P t (DataW.slice ((List.range len).map D) ((List.range (m - len)).map fun j=>D (len+j)))=
    (((List.range len).map D).length+((List.range (m - len)).map fun j=>D (len+j)).length) * P.bytesOf e::(DataW.weightsAll P e ((List.range len).map D)++DataW.weightsAll P e ((List.range (m - len)).map fun j=>D (len+j))):=by
   rw [DataW.weights,ht]
  have hsize:len * bytes<=140737488351232:=by
   have:=hreach _ (by rw [hw];exact List.mem_cons_self ..)
   rw [hb]at this
   simp only [List.length_map,List.length_range]at this
   exact Nat.le_trans (Nat.mul_le_mul_right _ (by omega)) this
  have each: ∀i,i<len-> ∃x:X,∃cs',cs'.length=k/\E cs' x/\ ∀j,j<k->w.cell? ((a.add (i * k)).add j)=cs'[j]? :=fun i hlt=>by
   obtain⟨cs',hc,ht'⟩:=hi i (by omega)
   obtain⟨x,hx⟩:=hE _ _ _ ht' (fun x hx=>hreach x (by
    rw [hw]
    refine List.mem_cons_of_mem _ (List.mem_append.2 (.inl (weightsAll_mem (d:=D i) ?_ x hx)))
    exact List.mem_map.2 ⟨i,List.mem_range.2 hlt,rfl⟩))
   obtain⟨_,hcl,hat⟩:=World.cells?_some hc
   exact⟨x,cs',hcl,hx,hat⟩
  obtain⟨xs,hxl,hxs⟩: ∃xs:List X,xs.length=len/\ ∀i x,xs[i]? =some x-> ∃cs',cs'.length=k/\E cs' x/\ ∀j,j<k->w.cell? ((a.add (i * k)).add j)=cs'[j]? :=by
   refine⟨List.ofFn fun i:Fin len=>(each i.1 i.2).choose,by simp,fun i x hx=> ?_⟩
   obtain⟨hlt,rfl⟩:=List.getElem?_eq_some_iff.1 hx
   simp only [List.length_ofFn]at hlt
   rw [List.getElem_ofFn]
   exact(each i hlt).choose_spec
  refine⟨xs,_,rfl,⟨some a,cap,by rw [hxl],by omega,hm,fun hn=> ?_⟩,by rw [hxl];exact hsize⟩
  obtain⟨b,off,spot⟩:=a
  obtain⟨cs0,hc0,_,hat0⟩:=hxs 0 _ (List.getElem?_eq_getElem hn)
  have h00:=hat0 0 hk0
  rw [List.getElem?_eq_getElem (by omega)]at h00
  have hspot:spot=none:=by
   have:=World.cell?_spot h00
   simpa [Addr.add]using this
  subst hspot
  have hlt:=World.block_lt_of_cell? w _ h00
  rw [add_none,add_none]at hlt
  refine⟨b,off,rfl,hlt,fun i x hx=> ?_⟩
  obtain⟨cs',hcl,hex,hat⟩:=hxs i x hx
  refine⟨cs',hcl,hex,fun j u hu=> ?_⟩
  have hj:=(List.getElem?_eq_some_iff.1 hu).1
  have:=hat j (by omega)
  rw [add_none,add_none]at this
  rw [this,hu]
theorem weightsEach_get: ∀{ts:List TypeId} {ds:List (DataW H)} {j:Nat} {t:TypeId} {d:DataW H},ts[j]? =some t->ds[j]? =some d-> ∀x∈d.weights P t,x∈DataW.weightsEach P ts ds
 |t'::ts,d'::ds,0,t,d,ht,hd,x,hx=>by
  simp at ht hd
  subst ht hd
  rw [DataW.weightsEach,List.mem_append]
  exact .inl hx
 |t'::ts,d'::ds,j+1,t,d,ht,hd,x,hx=>by
  rw [DataW.weightsEach,List.mem_append]
  exact .inr (weightsEach_get (j:=j) (by simpa using ht) (by simpa using hd) x hx)
theorem field_open {X:Type} {t:TypeId} {fs:Array Field} {n:Nat} {cs:List Value} {y:DataW H×List MemPlace} (ht:P.underlying t=some (.struct fs)) (hone:oneCellFields P fs=true) (h:DataW.trod enc P w 0 sp true n t cs=some y) (hr:Reached P t y.1)
  (j:Nat) (f:Field) (hf:fs[j]? =some f) (hj:j<cs.length) {E:List Value->X->Prop} (hE:OpensZ enc P w sp f.type E): ∃x,E [cs[j]] x:=by
 obtain⟨xs,n',_,hy,hlen,hxl,hg⟩:=DataW.trod_struct ht h
 obtain⟨o,k⟩:=hone_of hone j f hf
 have g:=hg j f hf
 rw [o,k]at g
 have hjl:j<xs.length:=by rw [hxl];exact(Array.getElem?_eq_some_iff.1 hf).1
 rw [List.getElem?_eq_getElem hjl]at g
 have h1:(cs.drop j).take 1=[cs[j]]:=by rw [List.drop_eq_getElem_cons hj];rfl
 rw [h1]at g
 refine hE _ _ _ g (fun x hx=>hr x ?_)
 rw [hy]
 show x∈DataW.weights P t (DataW.agg (xs.map (·.1)))
 rw [DataW.weights,ht]
 refine weightsEach_get (j:=j) (t:=f.type) (d:=(xs[j]).1) ?_ ?_ x hx
 ·rw [List.getElem?_map];simp [hf]
 ·rw [List.getElem?_map,List.getElem?_eq_getElem hjl];rfl
theorem struct_len {t:TypeId} {fs:Array Field} {n:Nat} {cs:List Value} {y:DataW H×List MemPlace} (ht:P.underlying t=some (.struct fs)) (h:DataW.trod enc P w 0 sp true n t cs=some y):cs.length=P.cellsOf t:=by
 obtain⟨xs,n',_,hy,hlen,_⟩:=DataW.trod_struct ht h
 exact hlen
theorem opens_struct2Z {X Y:Type} {t:TypeId} {f0 f1:Field} {E0:List Value->X->Prop} {E1:List Value->Y->Prop} (ht:P.underlying t=some (.struct #[f0,f1])) (hone:oneCellFields P #[f0,f1]=true) (hC:P.cellsOf t=2)
  (h0:OpensZ enc P w sp f0.type E0) (h1:OpensZ enc P w sp f1.type E1):OpensZ enc P w sp t (fun cs (x:X×Y)=> ∃c0 c1,cs=[c0,c1]/\E0 [c0] x.1/\E1 [c1] x.2):=by
 intro n cs y h hr
 have hl:=(struct_len ht h).trans hC
 match cs,hl with
 |[c0,c1],_=>
  obtain⟨x,hx⟩:=field_open ht hone h hr 0 f0 rfl (by simp) h0
  obtain⟨z,hz⟩:=field_open ht hone h hr 1 f1 rfl (by simp) h1
  exact⟨(x,z),c0,c1,rfl,by simpa using hx,by simpa using hz⟩
theorem opens_struct4Z {X Y Z U:Type} {t:TypeId} {f0 f1 f2 f3:Field} {E0:List Value->X->Prop} {E1:List Value->Y->Prop} {E2:List Value->Z->Prop} {E3:List Value->U->Prop} (ht:P.underlying t=some (.struct #[f0,f1,f2,f3])) (hone:oneCellFields P #[f0,f1,f2,f3]=true) (hC:P.cellsOf t=4)
  (h0:OpensZ enc P w sp f0.type E0) (h1:OpensZ enc P w sp f1.type E1) (h2:OpensZ enc P w sp f2.type E2) (h3:OpensZ enc P w sp f3.type E3):
  OpensZ enc P w sp t (fun cs (x:X×Y×Z×U)=> ∃c0 c1 c2 c3,cs=[c0,c1,c2,c3]/\E0 [c0] x.1/\E1 [c1] x.2.1/\E2 [c2] x.2.2.1/\E3 [c3] x.2.2.2):=by
 intro n cs y h hr
 have hl:=(struct_len ht h).trans hC
 match cs,hl with
 |[c0,c1,c2,c3],_=>
  obtain⟨x,hx⟩:=field_open ht hone h hr 0 f0 rfl (by simp) h0
  obtain⟨z,hz⟩:=field_open ht hone h hr 1 f1 rfl (by simp) h1
  obtain⟨u,hu⟩:=field_open ht hone h hr 2 f2 rfl (by simp) h2
  obtain⟨v,hv⟩:=field_open ht hone h hr 3 f3 rfl (by simp) h3
  exact⟨(x,z,u,v),c0,c1,c2,c3,rfl,by simpa using hx,by simpa using hz,by simpa using hu,by simpa using hv⟩
theorem reached_of {ts:List TypeId} {ds:List (DataW H)} (h:(DataW.weightsEach P ts ds).all (· <=reachBytes)=true) {j:Nat} {t:TypeId} {d:DataW H} (ht:ts[j]? =some t) (hd:ds[j]? =some d):Reached P t d:=fun x hx=>by
 have:=List.all_eq_true.1 h x (weightsEach_get ht hd x hx)
 exact of_decide_eq_true this
end
end Go.Proofs.YthlbjgabhpdbfaaGreat
namespace Go.Proofs.YthlbjgabhpdbfaaGreat
set_option linter.unusedVariables false
theorem ofInt_toNat (x:BitVec 64):BitVec.ofInt 64 (x.toNat:Int)=x:=by
 apply BitVec.eq_of_toNat_eq
 rw [BitVec.ofInt_natCast,BitVec.toNat_ofNat]
 exact Nat.mod_eq_of_lt x.isLt
theorem wrap_u64_toNat (x:BitVec 64):IntKind.u64.wrap (x.toNat:Int)=(x.toNat:Int):=by
 have:=x.isLt
 simp [IntKind.wrap,IntKind.bits,IntKind.signed]
 omega
theorem u64_and_bv (x y:BitVec 64):bits .and .u64 (x.toNat:Int) (y.toNat:Int)=((x&&&y).toNat:Int):=by
 show IntKind.u64.wrap ((BitVec.ofInt 64 (x.toNat:Int)&&&BitVec.ofInt 64 (y.toNat:Int)).toNat:Int)=_
 rw [ofInt_toNat,ofInt_toNat,wrap_u64_toNat]
theorem u64_or_bv (x y:BitVec 64):bits .or .u64 (x.toNat:Int) (y.toNat:Int)=((x|||y).toNat:Int):=by
 show IntKind.u64.wrap ((BitVec.ofInt 64 (x.toNat:Int)|||BitVec.ofInt 64 (y.toNat:Int)).toNat:Int)=_
 rw [ofInt_toNat,ofInt_toNat,wrap_u64_toNat]
theorem u64_andNot_bv (x y:BitVec 64):bits .andNot .u64 (x.toNat:Int) (y.toNat:Int)=((x&&& ~~~y).toNat:Int):=by
 show IntKind.u64.wrap ((BitVec.ofInt 64 (x.toNat:Int)&&& ~~~BitVec.ofInt 64 (y.toNat:Int)).toNat:Int)=_
 rw [ofInt_toNat,ofInt_toNat,wrap_u64_toNat]
theorem ofInt_i64 (a:Nat) (ha:a<9223372036854775808):(BitVec.ofInt 64 (a:Int)).toNat=a:=by
 rw [BitVec.ofInt_natCast,BitVec.toNat_ofNat];exact Nat.mod_eq_of_lt (by omega)
theorem i64_and_63 (a:Nat) (ha:a<=4096):bits .and .i64 (a:Int) 63=((a%64:Nat):Int):=by
 show IntKind.i64.wrap ((BitVec.ofInt 64 (a:Int)&&&BitVec.ofInt 64 (63:Int)).toNat:Int)=_
 have h63:(BitVec.ofInt 64 (63:Int)).toNat=2^6 - 1:=by decide
 rw [BitVec.toNat_and,ofInt_i64 a (by omega),h63,Nat.and_two_pow_sub_one_eq_mod,IntKind.wrap_i64]
 have:a%2^6<64:=Nat.mod_lt _ (by decide)
 omega
theorem i64_or_63 (a:Nat) (ha:a<=4096):bits .or .i64 (a:Int) 63=((a/64 * 64+63:Nat):Int):=by
 show IntKind.i64.wrap ((BitVec.ofInt 64 (a:Int)|||BitVec.ofInt 64 (63:Int)).toNat:Int)=_
 have h63:(BitVec.ofInt 64 (63:Int)).toNat=63:=by decide
 have hor:a|||63=a/64 * 64+63:=by
  apply Nat.eq_of_testBit_eq
  intro i
  rw [Nat.testBit_or]
  have e:a/64 * 64+63=2^6 * (a/64)+63:=by omega
  rw [e,Nat.testBit_two_pow_mul_add _ (by decide)]
  by_cases hi:i<6
  ·rw [if_pos hi]
   have:(63:Nat)=2^6 - 1:=rfl
   rw [this,Nat.testBit_two_pow_sub_one]
   simp [hi]
  ·rw [if_neg hi]
   have h1:(63:Nat)=2^6 - 1:=rfl
   rw [h1,Nat.testBit_two_pow_sub_one]
   have h2:a/64=a/2^6:=rfl
   rw [h2,Nat.testBit_div_two_pow]
   simp [hi]
   congr 1
   omega
 rw [BitVec.toNat_or,ofInt_i64 a (by omega),h63,hor,IntKind.wrap_i64]
 omega
theorem zero_iff (x:BitVec 64):((x.toNat:Int)==0)=decide (x=0#64):=by
 rw [Bool.eq_iff_iff]
 simp only [beq_iff_eq,decide_eq_true_eq]
 constructor
 ·intro h;apply BitVec.eq_of_toNat_eq;simp;omega
 ·rintro rfl;rfl
def bitOf (ws:List (BitVec 64)) (j:Nat):Bool:=(ws.getD (j/64) 0#64).getLsbD (j%64)
def one (k:Nat):BitVec 64:=BitVec.twoPow 64 k
theorem wrap_pow (k:Nat) (hk:k<64):IntKind.u64.wrap (2^k)=((one k).toNat:Int):=by
 have h:((one k).toNat:Int)=2^k:=by
  unfold one
  rw [BitVec.toNat_twoPow,Nat.mod_eq_of_lt (Nat.pow_lt_pow_right (by decide) hk)]
  norm_cast
 rw [<-h,wrap_u64_toNat]
theorem and_one (x:BitVec 64) (k:Nat) (hk:k<64):(x&&&one k=0#64)↔x.getLsbD k=false:=by
 unfold one
 constructor
 ·intro h
  have:=congrArg (fun y=>y.getLsbD k) h
  simpa [BitVec.getLsbD_and,BitVec.getLsbD_twoPow,hk]using this
 ·intro h
  apply BitVec.eq_of_getLsbD_eq
  intro i hi
  by_cases e:i=k
  ·subst e;simp [BitVec.getLsbD_and,h]
  ·simp [BitVec.getLsbD_and,BitVec.getLsbD_twoPow];intro _ _ e';exact absurd e'.symm e
theorem mask_test (x:BitVec 64) (k:Nat) (hk:k<64):(((x&&&one k).toNat:Int) !=0)=x.getLsbD k:=by
 unfold bne
 rw [zero_iff]
 have:=and_one x k hk
 cases h:x.getLsbD k
 ·simp [this.2 h]
 ·have hne: ¬x&&&one k=0#64:=fun e=>by rw [this.1 e]at h;cases h
  simp [hne]
theorem or_one (x:BitVec 64) (k i:Nat) (hk:k<64):(x|||one k).getLsbD i=(x.getLsbD i||decide (i=k)):=by
 unfold one
 rw [BitVec.getLsbD_or,BitVec.getLsbD_twoPow]
 by_cases e:i=k
 ·subst e;simp [hk]
 ·simp [e];intro _ e';exact absurd e'.symm e
theorem bitOf_set (ws:List (BitVec 64)) (i:Nat) (y:BitVec 64) (hi:i<ws.length) (j:Nat):bitOf (ws.set i y) j=if j/64=i then y.getLsbD (j%64)else bitOf ws j:=by
 unfold bitOf
 by_cases h:j/64=i
 ·subst h;simp [List.getD,hi]
 ·rw [if_neg h];simp [List.getD,List.getElem?_set_ne (Ne.symm h)]
theorem bitOf_get {ws:List (BitVec 64)} {i:Nat} {x:BitVec 64} (h:ws[i/64]? =some x):bitOf ws i=x.getLsbD (i%64):=by simp [bitOf,List.getD,h]
theorem div_mod_eq {i j:Nat}:(j/64=i/64/\j%64=i%64)↔j=i:=by omega
theorem bitOf_put {ws:List (BitVec 64)} {i:Nat} {x:BitVec 64} (h:ws[i/64]? =some x) (j:Nat):bitOf (ws.set (i/64) (x|||one (i%64))) j=(bitOf ws j||decide (j=i)):=by
 have hl:=(List.getElem?_eq_some_iff.1 h).1
 rw [bitOf_set _ _ _ hl]
 by_cases e:j/64=i/64
 ·rw [if_pos e,or_one _ _ _ (Nat.mod_lt _ (by decide))]
  have:bitOf ws j=x.getLsbD (j%64):=bitOf_get (by rw [e];exact h)
  rw [this]
  congr 1
  exact decide_eq_decide.2 ⟨fun h'=>div_mod_eq.1 ⟨e,h'⟩,fun h'=>by rw [h']⟩
 ·rw [if_neg e]
  have: ¬j=i:=fun h'=>e (by rw [h'])
  simp [this]
def mask (m:Nat):BitVec 64:=BitVec.ofNat 64 (2^m - 1)
theorem mask_bit (x:BitVec 64) (m i:Nat) (hm:m<64):(x&&&mask m).getLsbD i=(x.getLsbD i&&decide (i<m)):=by
 unfold mask
 rw [BitVec.getLsbD_and,BitVec.getLsbD_ofNat,Nat.testBit_two_pow_sub_one]
 by_cases hi:i<64
 ·simp [hi]
 ·rw [BitVec.getLsbD_of_ge x i (by omega)];simp
theorem wrap_mask (m:Nat) (hm:m<64):IntKind.u64.wrap (((one m).toNat:Int) - 1)=((mask m).toNat:Int):=by
 have h1:((one m).toNat:Int)=2^m:=by
  unfold one
  rw [BitVec.toNat_twoPow,Nat.mod_eq_of_lt (Nat.pow_lt_pow_right (by decide) hm)]
  norm_cast
 have hp:2^m<2^64:=Nat.pow_lt_pow_right (by decide) hm
 have hp0:0<2^m:=Nat.pow_pos (by decide)
 have h2:((mask m).toNat:Int)=2^m - 1:=by
  unfold mask
  rw [BitVec.toNat_ofNat,Nat.mod_eq_of_lt (by omega)]
  have:((2^m - 1:Nat):Int)=((2^m:Nat):Int) - 1:=by omega
  rw [this];norm_cast
 rw [h1,<-h2,wrap_u64_toNat]
def cutWords (ws:List (BitVec 64)) (k:Nat):List (BitVec 64):=
 let l:=ws.take ((k+63)/64)
 if k%64=0 then l else l.set ((k+63)/64 - 1) (ws.getD (k/64) 0#64&&&mask (k%64))
theorem cutWords_length (ws:List (BitVec 64)) (k:Nat) (hk:(k+63)/64<=ws.length):(cutWords ws k).length=(k+63)/64:=by
 unfold cutWords
 by_cases h:k%64=0
 ·simp [h];omega
 ·simp [h];omega
theorem bitOf_cut (ws:List (BitVec 64)) (k:Nat) (hk:(k+63)/64<=ws.length) (j:Nat):bitOf (cutWords ws k) j=(bitOf ws j&&decide (j<k)):=by
 have htake:bitOf (ws.take ((k+63)/64)) j=if j/64<(k+63)/64 then bitOf ws j else false:=by
  unfold bitOf
  by_cases h:j/64<(k+63)/64
  ·simp [List.getD,h]
  ·rw [if_neg h];simp [List.getD,List.getElem?_take,h]
 unfold cutWords
 by_cases h:k%64=0
 ·simp only [h,if_true]
  rw [htake]
  by_cases hj:j<k
  ·rw [if_pos (by omega)];simp [hj]
  ·rw [if_neg (by omega)];simp [hj]
 ·simp only [h,if_false]
  rw [bitOf_set _ _ _ (by simp;omega)]
  have e1:(k+63)/64 - 1=k/64:=by omega
  rw [e1]
  by_cases hj:j/64=k/64
  ·rw [if_pos hj,mask_bit _ _ _ (Nat.mod_lt _ (by decide))]
   have:bitOf ws j=(ws.getD (k/64) 0#64).getLsbD (j%64):=by unfold bitOf;rw [hj]
   rw [this]
   congr 1
   exact decide_eq_decide.2 (by omega)
  ·rw [if_neg hj,htake]
   by_cases hjk:j<k
   ·rw [if_pos (by omega)];simp [hjk]
   ·rw [if_neg (by omega)];simp [hjk]
open Go.RowKit
abbrev U64 (x:BitVec 64):Value:= .int .u64 (x.toNat:Int)
structure SetAt (w:World) (b r:Nat) (n:Nat) (ws:List (BitVec 64)):Prop where
 blk: ∃c,Blk w b 287 #[.int .i64 n,.slice (some ⟨r,0,none⟩) ws.length c]/\ws.length<=c/\c<=maxLen
 words:Blk w r 282 (ws.map U64).toArray
 len:ws.length=(n+63)/64
 room:n<=4096
 high: ∀j,n<=j->bitOf ws j=false
structure IsSet (w:World) (b:Nat) (S:Nat->Prop) (n:Nat) (f:Nat->Bool):Prop where
 is: ∃r ws,SetAt w b r n ws/\S r/\ ∀j,bitOf ws j=f j
 head:S b
 lt: ∀k,S k->k<w.heap.size
theorem SetAt.touch {w w':World} {b r n:Nat} {ws:List (BitVec 64)} {T:Nat->Prop} (h:SetAt w b r n ws) (ht:Touch T w w') (hb: ¬T b) (hr: ¬T r):SetAt w' b r n ws:=by
 obtain⟨⟨c,h1,h2⟩,h3,h4,h5,h6⟩:=h
 exact⟨⟨c,h1.touch ht hb,h2⟩,h3.touch ht hr,h4,h5,h6⟩
theorem IsSet.touch {w w':World} {b n:Nat} {f:Nat->Bool} {S T:Nat->Prop} (h:IsSet w b S n f) (ht:Touch T w w') (hS: ∀k,S k-> ¬T k):IsSet w' b S n f:=by
 obtain⟨⟨r,ws,hi,hr,hf⟩,hb,hlt⟩:=h
 exact⟨⟨r,ws,hi.touch ht (hS _ hb) (hS _ hr),hr,hf⟩,hb,fun k hk=>Nat.lt_of_lt_of_le (hlt k hk) ht.size⟩
theorem IsSet.drew {w:World} {b n:Nat} {f:Nat->Bool} {S:Nat->Prop} (h:IsSet w b S n f):IsSet w.drew b S n f:=h.touch ((Touch.refl (fun _=>False) w).drew) (fun _ _ hf=>hf)
theorem IsSet.room {w:World} {b n:Nat} {f:Nat->Bool} {S:Nat->Prop} (h:IsSet w b S n f):n<=4096:=by
 obtain⟨⟨r,ws,hi,hr,hf⟩,hb,hlt⟩:=h
 exact hi.room
theorem IsSet.high {w:World} {b n:Nat} {f:Nat->Bool} {S:Nat->Prop} (h:IsSet w b S n f): ∀j,n<=j->f j=false:=by
 obtain⟨⟨r,ws,hi,hr,hf⟩,hb,hlt⟩:=h
 exact fun j hj=>(hf j).symm.trans (hi.high j hj)
theorem set_room_nil (w:World):Calls Tryz.prog 255 #[.pointer none] w fun e w'=>e= .returned (.int .i64 0)/\w=w':=by
 go_enter Tryz.func255,Tryz.ntmps255
 go_wp2
 go_ret
 exact⟨rfl,rfl⟩
theorem set_room {w:World} {b n:Nat} {f:Nat->Bool} {S:Nat->Prop} (h:IsSet w b S n f):
  Calls Tryz.prog 255 #[.pointer (some ⟨b,0,none⟩)] w fun e w'=>e= .returned (.int .i64 n)/\w=w':=by
 obtain⟨⟨r,ws,⟨⟨c,h1,h2⟩,h3,h4,h5,h6⟩,hr,hf⟩,hb,hlt⟩:=h
 have c0:=h1.cell 0
 simp at c0
 clear h1 h2 h3 h4 h5 h6 hf hlt
 go_enter Tryz.func255,Tryz.ntmps255
 go_wp2
 go_ret
 exact⟨rfl,rfl⟩
theorem bit_no {w:World} {b n:Nat} {f:Nat->Bool} {S:Nat->Prop} (h:IsSet w b S n f) (i:Int) (hi:i<0\/n<=i):
  Calls Tryz.prog 228 #[.pointer (some ⟨b,0,none⟩),.int .i64 i] w fun e w'=>e= .returned (.tuple #[.int .i64 0,.int .u64 0,.bool false])/\w=w':=by
 by_cases h0:i<0
 ·go_enter Tryz.func228,Tryz.ntmps228
  go_wp2_with (go_at_call 255;refine(set_room h).mono ?_;rintro e w' ⟨rfl,rfl⟩)
  go_ret3
  exact⟨rfl,rfl⟩
 ·have h1:(n:Int)<=i:=by omega
  clear hi
  go_enter Tryz.func228,Tryz.ntmps228
  go_wp2_with (go_at_call 255;refine(set_room h).mono ?_;rintro e w' ⟨rfl,rfl⟩)
  go_ret3
  exact⟨rfl,rfl⟩
theorem bit_yes {w:World} {b n:Nat} {f:Nat->Bool} {S:Nat->Prop} (h:IsSet w b S n f) (i:Nat) (hi:i<n):
  Calls Tryz.prog 228 #[.pointer (some ⟨b,0,none⟩),.int .i64 i] w fun e w'=>e= .returned (.tuple #[.int .i64 (i/64:Nat),U64 (one (i%64)),.bool true])/\w=w':=by
 have hn:=h.room
 have h63:=i64_and_63 i (by omega)
 obtain⟨k,hk⟩: ∃k,k=i%64:=⟨_,rfl⟩
 have hk64:k<64:=by omega
 rw [<-hk]at h63⊢
 have HK:=hide hk
 clear hk
 go_enter Tryz.func228,Tryz.ntmps228
 go_wp2_with (go_at_call 255;refine(set_room h).mono ?_;rintro e w' ⟨rfl,rfl⟩)
 go_ret3
 exact⟨ret_tup3 (int_eq (by omega)) (int_eq (wrap_pow k hk64)) rfl,rfl⟩
theorem SetAt.word {w:World} {b r n:Nat} {ws:List (BitVec 64)} (h:SetAt w b r n ws) {i:Nat} (hi:i<n): ∃x,ws[i/64]? =some x/\w.cell? ⟨r,i/64,none⟩=some (U64 x)/\i/64<ws.length:=by
 have hl:=h.len
 have hlt:i/64<ws.length:=by omega
 refine⟨ws[i/64],List.getElem?_eq_getElem hlt,?_,hlt⟩
 rw [h.words.cell];simp [hlt]
def hasI (n:Nat) (f:Nat->Bool) (i:Int):Bool:=decide (0<=i)&&decide (i<n)&&f i.toNat
theorem hasI_nat {n:Nat} {f:Nat->Bool} {i:Nat} (h:i<n):hasI n f i=f i:=by
 have:(i:Int)<n:=by omega
 simp [hasI,this]
theorem hasI_no {n:Nat} {f:Nat->Bool} {i:Int} (h:i<0\/(n:Int)<=i):hasI n f i=false:=by
 unfold hasI
 rcases h with h|h
 ·rw [decide_eq_false (by omega)];rfl
 ·rw [decide_eq_false (show¬i<n by omega)];simp
theorem set_has {w:World} {b n:Nat} {f:Nat->Bool} {S:Nat->Prop} (h:IsSet w b S n f) (i:Int):
  Calls Tryz.prog 273 #[.pointer (some ⟨b,0,none⟩),.int .i64 i] w fun e w'=>e= .returned (.bool (hasI n f i))/\w=w':=by
 by_cases hi:i<0\/(n:Int)<=i
 ·have hno:=hasI_no (f:=f) hi
  have HN:=hide hno
  clear hno
  go_enter Tryz.func273,Tryz.ntmps273
  go_wp2_with (go_at_call 228;refine(bit_no h i hi).mono ?_;rintro e w' ⟨rfl,rfl⟩)
  go_ret
  exact⟨ret_bool HN.out.symm,rfl⟩
 ·obtain⟨j,rfl⟩:=Int.eq_ofNat_of_zero_le (show 0<=i by omega)
  have hj:j<n:=by omega
  rw [hasI_nat hj]
  obtain⟨⟨r,ws,hi',hr,hf⟩,hb,hlt⟩:=id h
  obtain⟨x,hx,hcx,hlx⟩:=hi'.word hj
  obtain⟨c,h1,_,hcm⟩:=hi'.blk
  have c1:=h1.cell 1
  simp at c1
  unfold maxLen at hcm
  have hand:=u64_and_bv x (one (j%64))
  have hmt:(((x&&&one (j%64)).toNat:Int) !=0)=f j:=by rw [mask_test _ _ (Nat.mod_lt _ (by decide)),<-hf,bitOf_get hx]
  obtain⟨q,hq⟩: ∃q,q=j/64:=⟨_,rfl⟩
  have hit:=bit_yes h j hj
  rw [<-hq]at hcx hlx hit
  have hqi:(q:Int)<ws.length:=by omega
  have HIT:=hide hit
  have HM:=hide hmt
  clear hit hx hi h hf hlt h1 hq hmt hi'
  generalize one (j%64)=p at *
  generalize x&&&p=y at *
  go_enter Tryz.func273,Tryz.ntmps273
  go_wp2_with (go_at_call 228;refine HIT.out.mono ?_;rintro e w' ⟨rfl,rfl⟩)
  go_ret
  exact⟨ret_bool HM.out,rfl⟩
def putSet (n:Nat) (f:Nat->Bool) (i:Int) (j:Nat):Bool:=f j||(decide (0<=i)&&decide (i<n)&&decide ((j:Int)=i))
def putAns (n:Nat) (f:Nat->Bool) (i:Int):Bool:=decide (0<=i)&&decide (i<n)&& !f i.toNat
theorem SetAt.stored {w:World} {b r n:Nat} {ws:List (BitVec 64)} (h:SetAt w b r n ws) {i:Nat} (y:BitVec 64) (hne:b≠r) (hh: ∀j,n<=j->bitOf (ws.set (i/64) y) j=false):
  SetAt (w.setCell ⟨r,i/64,none⟩ (U64 y)) b r n (ws.set (i/64) y):=by
 obtain⟨⟨c,h1,h2⟩,h3,h4,h5,h6⟩:=h
 refine⟨⟨c,by simpa using h1.far (p:=⟨r,i/64,none⟩) hne (U64 y),by simpa using h2⟩,?_,by simpa using h4,h5,hh⟩
 have:=h3.put (i/64) (U64 y)
 simpa [List.map_set]using this
theorem SetAt.stored' {w:World} {b r n:Nat} {ws:List (BitVec 64)} (h:SetAt w b r n ws) {i:Nat} (y:BitVec 64) (hne:b≠r) (hh: ∀j,n<=j->bitOf (ws.set i y) j=false):
  SetAt (w.setCell ⟨r,i,none⟩ (U64 y)) b r n (ws.set i y):=by
 obtain⟨⟨c,h1,h2⟩,h3,h4,h5,h6⟩:=h
 refine⟨⟨c,by simpa using h1.far (p:=⟨r,i,none⟩) hne (U64 y),by simpa using h2⟩,?_,by simpa using h4,h5,hh⟩
 have:=h3.put i (U64 y)
 simpa [List.map_set]using this
theorem set_put_no {w:World} {b n:Nat} {f:Nat->Bool} {S:Nat->Prop} (h:IsSet w b S n f) (i:Int) (hi:putAns n f i=false):
  Calls Tryz.prog 197 #[.pointer (some ⟨b,0,none⟩),.int .i64 i] w fun e w'=>e= .returned (.bool false)/\w=w':=by
 by_cases hb:i<0\/(n:Int)<=i
 ·clear hi
  go_enter Tryz.func197,Tryz.ntmps197
  go_wp2_with (go_at_call 228;refine(bit_no h i hb).mono ?_;rintro e w' ⟨rfl,rfl⟩)
  go_ret
  exact⟨rfl,rfl⟩
 ·obtain⟨j,rfl⟩:=Int.eq_ofNat_of_zero_le (show 0<=i by omega)
  have hj:j<n:=by omega
  have hfj:f j=true:=by
   unfold putAns at hi
   rw [decide_eq_true (show(0:Int)<=j by omega),decide_eq_true (show(j:Int)<n by omega)]at hi
   simpa using hi
  obtain⟨⟨r,ws,hi',hr,hf⟩,hb',hlt⟩:=id h
  obtain⟨x,hx,hcx,hlx⟩:=hi'.word hj
  obtain⟨c,h1,_,hcm⟩:=hi'.blk
  have c1:=h1.cell 1
  simp at c1
  unfold maxLen at hcm
  have hand:=u64_and_bv x (one (j%64))
  have hmt:(((x&&&one (j%64)).toNat:Int) !=0)=true:=by rw [mask_test _ _ (Nat.mod_lt _ (by decide)),<-hfj,<-hf,bitOf_get hx]
  obtain⟨q,hq⟩: ∃q,q=j/64:=⟨_,rfl⟩
  have hit:=bit_yes h j hj
  rw [<-hq]at hcx hlx hit
  have hqi:(q:Int)<ws.length:=by omega
  have HIT:=hide hit
  clear hit hx hi h hf hlt h1 hq hi' hb hfj
  generalize one (j%64)=p at *
  generalize x&&&p=y at *
  go_enter Tryz.func197,Tryz.ntmps197
  go_wp2_with (go_at_call 228;refine HIT.out.mono ?_;rintro e w' ⟨rfl,rfl⟩)
  go_ret
  exact⟨rfl,rfl⟩
theorem set_put_yes {w:World} {b n:Nat} {f:Nat->Bool} {S:Nat->Prop} (h:IsSet w b S n f) (i:Int) (hi:putAns n f i=true):
  Calls Tryz.prog 197 #[.pointer (some ⟨b,0,none⟩),.int .i64 i] w fun e w'=>e= .returned (.bool true)/\IsSet w' b S n (putSet n f i)/\Touch S w w':=by
 unfold putAns at hi
 simp only [Bool.and_eq_true,decide_eq_true_eq,Bool.not_eq_true']at hi
 obtain⟨⟨hi0,hin⟩,hfi⟩:=hi
 obtain⟨j,rfl⟩:=Int.eq_ofNat_of_zero_le hi0
 rw [Int.toNat_natCast]at hfi
 have hj:j<n:=by omega
 obtain⟨⟨r,ws,hi',hr,hf⟩,hb',hlt⟩:=id h
 obtain⟨x,hx,hcx,hlx⟩:=hi'.word hj
 obtain⟨c,h1,_,hcm⟩:=hi'.blk
 have c1:=h1.cell 1
 simp at c1
 unfold maxLen at hcm
 have hand:=u64_and_bv x (one (j%64))
 have hor:=u64_or_bv x (one (j%64))
 have hmt:(((x&&&one (j%64)).toNat:Int) !=0)=false:=by rw [mask_test _ _ (Nat.mod_lt _ (by decide)),<-hfi,<-hf,bitOf_get hx]
 have hne:b≠r:=h1.ne hi'.words (by decide)
 have hfr:=hi'.words.frozen (j/64)
 have hstored:=hi'.stored (i:=j) (x|||one (j%64)) hne (fun k hk=>by rw [bitOf_put hx,hi'.high k hk];simpa using(by omega: ¬k=j))
 have hset: ∀k,bitOf (ws.set (j/64) (x|||one (j%64))) k=putSet n f j k:=fun k=>by
  rw [bitOf_put hx,hf]
  have e3:decide ((k:Int)=(j:Int))=decide (k=j):=decide_eq_decide.2 (by omega)
  simp [putSet,hj,e3]
 obtain⟨q,hq⟩: ∃q,q=j/64:=⟨_,rfl⟩
 have hit:=bit_yes h j hj
 rw [<-hq]at hcx hlx hit hfr hstored hset
 have hqi:(q:Int)<ws.length:=by omega
 have HIT:=hide hit
 have HS:=hide hstored
 have HE:=hide hset
 clear hit hx hi0 hin h hf h1 hq hi' hfi hstored hset
 generalize one (j%64)=p at *
 generalize x&&&p=y at *
 generalize x|||p=z at *
 go_enter Tryz.func197,Tryz.ntmps197
 go_wp2_with (go_at_call 228;refine HIT.out.mono ?_;rintro e w' ⟨rfl,rfl⟩)
 go_ret
 exact⟨rfl,⟨⟨r,_,HS.out,hr,HE.out⟩,hb',fun k hk=>by simpa using hlt k hk⟩,(Touch.refl S w).setCell (fun _=>hr) _⟩
theorem Tryz.info64:(Tryz.prog.info? 282).map (fun i=>(i.zero,i.size,i.bytes))=some (some (.int .u64 0),1,8):=by kernel_rfl
theorem Tryz.elem64:Elem Tryz.prog 285 282 (.int .u64 0) 1 8:=⟨Tryz.underlying285,Tryz.info64,rfl,by decide⟩
theorem make_rows {P:Program} {t e:TypeId} {z:Value} {bytes:Nat} (E:Elem P t e z 1 bytes) (hz:z.cells= #[z]) (n:Nat) (hb:bytes * n<=281474976710656) (hn:n<=9223372036854775807) (kl kc:IntKind) (w:World):
  (Instr.makeSlice t (.int kl (n:Int)) (.int kc (n:Int))).run P w= .ok (.slice (some ⟨w.heap.size,0,none⟩) n n) (w.alloc (.cells (List.replicate n z).toArray e)):=by
 obtain⟨i,hi,hz',hsize,hby⟩:=info_parts E.info
 have hbb:(i.bytes:Int) * (n:Int)<=281474976710656:=by
  have h:((i.bytes * n:Nat):Int)<=281474976710656:=by rw [hby];omega
  rwa [Int.natCast_mul]at h
 have hr:=run_make (P:=P) w t e i z E.slice hi hz' kl kc n n (by omega) (by omega) hbb (by omega)
 simp only [Int.toNat_natCast]at hr
 rw [hr,hsize,Nat.mul_one,hz]
 congr 3
 apply Array.toList_inj.1
 rw [toList_madeCells_one]
def noBits (_:Nat):Bool:=false
theorem bitOf_zero (m j:Nat):bitOf (List.replicate m 0#64) j=false:=by
 unfold bitOf
 by_cases h:j/64<m<;>simp [List.getD,h]
def NewPost (w:World) (n:Nat) (e:Ending) (w':World):Prop:=e= .returned (.pointer (some ⟨w.heap.size+1,0,none⟩))/\IsSet w' (w.heap.size+1) (New (fun _=>False) w w') n noBits/\Below w.heap.size w w'
theorem set_new_at (w:World) (n k:Nat) (hk:k=(n+63)/64) (hn:n<=4096):
  NewPost w n (.returned (.pointer (some ⟨w.heap.size+1,0,none⟩))) ((w.alloc (.cells (List.replicate k (.int .u64 0)).toArray 282)).alloc (.cells #[.int .i64 n,.slice (some ⟨w.heap.size,0,none⟩) k k] 287)):=by
 have hb:=Blk.new (w.alloc (.cells (List.replicate k (.int .u64 0)).toArray 282)) 287 #[.int .i64 n,.slice (some ⟨w.heap.size,0,none⟩) k k]
 have hr:=(Blk.new w 282 (List.replicate k (.int .u64 0)).toArray).alloc (.cells #[.int .i64 n,.slice (some ⟨w.heap.size,0,none⟩) k k] 287)
 simp at hb
 refine⟨rfl,⟨⟨w.heap.size,List.replicate k 0#64,⟨⟨k,by simpa using hb,by simp,by unfold maxLen;omega⟩,by simpa [U64]using hr,by simp [hk],hn,fun j _=>bitOf_zero _ _⟩,.inr ⟨Nat.le_refl _,by simp;omega⟩,fun j=>bitOf_zero _ _⟩,.inr ⟨by omega,by simp⟩,fun j hj=>by rcases hj with hj|hj;exact hj.elim;exact hj.2⟩,((Below.refl _ w).alloc (Nat.le_refl _) _).alloc (by simp) _⟩
theorem set_new (m:Int) (w:World):
  Calls Tryz.prog 227 #[.int .i64 m] w (NewPost w (min (max m 0) 4096).toNat):=by
 by_cases h0:m<0
 ·have hmk: ∀w:World,(Instr.makeSlice 285 (.int .i64 0) (.int .i64 0)).run Tryz.prog w= .ok (.slice (some ⟨w.heap.size,0,none⟩) 0 0) (w.alloc (.cells (List.replicate 0 (.int .u64 0)).toArray 282)):=make_rows (P:=Tryz.prog) Tryz.elem64 rfl 0 (by omega) (by omega) .i64 .i64
  have hp:=set_new_at w 0 0 (by decide) (by decide)
  rw [show(min (max m 0) 4096).toNat=0 by omega]
  have HP:=hide hp
  clear hp
  go_enter Tryz.func227,Tryz.ntmps227
  go_wp2
  go_ret
  exact HP.out
 ·by_cases h1:4096<m
  ·have hmk: ∀w:World,(Instr.makeSlice 285 (.int .i64 64) (.int .i64 64)).run Tryz.prog w= .ok (.slice (some ⟨w.heap.size,0,none⟩) 64 64) (w.alloc (.cells (List.replicate 64 (.int .u64 0)).toArray 282)):=make_rows (P:=Tryz.prog) Tryz.elem64 rfl 64 (by omega) (by omega) .i64 .i64
   have hp:=set_new_at w 4096 64 (by decide) (by decide)
   rw [show(min (max m 0) 4096).toNat=4096 by omega]
   obtain⟨rep,hrep⟩: ∃r,r=List.replicate 64 (Value.int .u64 0):=⟨_,rfl⟩
   rw [<-hrep]at hmk hp
   have HP:=hide hp
   clear hp hrep
   go_enter Tryz.func227,Tryz.ntmps227
   go_wp2
   go_ret
   exact HP.out
  ·obtain⟨k,rfl⟩:=Int.eq_ofNat_of_zero_le (show 0<=m by omega)
   have hmk:=make_rows (P:=Tryz.prog) Tryz.elem64 rfl ((k+63)/64) (by omega) (by omega) .i64 .i64
   rw [show(((k+63)/64:Nat):Int)=((k:Int)+63)/64 by omega]at hmk
   have hp:=set_new_at w k _ rfl (by omega)
   rw [show(min (max (k:Int) 0) 4096).toNat=k by omega]
   obtain⟨rep,hrep⟩: ∃r,r=List.replicate ((k+63)/64) (Value.int .u64 0):=⟨_,rfl⟩
   rw [<-hrep]at hmk hp
   have HP:=hide hp
   clear hp hrep
   go_enter Tryz.func227,Tryz.ntmps227
   go_wp2
   go_ret
   exact HP.out
theorem clone_u64 {w:World} {F:Nat->Prop} {v:Value} {n:Nat} {xs:List Value} (h:Rd w F v 1 xs) (hn:xs.length=n * 1) (h1: ∀u∈xs,u.oneCell'=true) (hl:n<=65536):
  Calls Tryz.prog 275 #[v] w fun e w'=> ∃A c,e= .returned (.slice A n c)/\w'.ownsRow w.heap.size 282 1 (.slice A n c) n xs/\Below w.heap.size w w':=by
 obtain⟨A,m,c,rfl,hnc,hcm,hm,hcell⟩:=id h
 obtain rfl:m=n:=by omega
 have hnil:=Lib.run_eql_slice_nil (P:=Tryz.prog) w 285 282 A m c 0 0 Tryz.underlying285
 rcases A with _|ad
 ·obtain rfl:m=0:=by
   rcases Nat.eq_zero_or_pos m with h0|h0
   ·exact h0
   ·obtain⟨_,_,hA,_⟩:=hcell h0;cases hA
  obtain rfl:xs=[]:=List.eq_nil_of_length_eq_zero (by omega)
  clear hl h hn hcell hm h1
  go_enter Tryz.func275,Tryz.ntmps275
  go_wp2
  go_ret
  exact⟨none,0,rfl,World.ownsRow_nil _ _ _ _,Below.refl _ _⟩
 ·have H:=hide h
  have HN:=hide hn
  clear h hcell hm hn
  go_enter Tryz.func275,Tryz.ntmps275
  go_wp2_with (at_builtin;refine wp_append _ rfl (.tmp 5) (.tmp 6) _ rfl Tryz.elem64 w.heap.size _ 0 [] rfl (World.ownsRow_made w #[] 0 (Nat.le_refl _) (by decide) rfl) _ _ xs m rfl HN.out (H.out.touch ((Touch.refl (fun _=>False) _).alloc _) (fun _ _ hf=>hf)) h1 (by unfold maxLen;omega) (by omega) (by simp) ?_)
  intro A c2 w2 hown hg _
  go_wp2
  go_ret
  exact⟨A,c2,by simp,by simpa using hown,(((Below.refl _ w).alloc (Nat.le_refl _) _).grown hg (by simp) (fun k e=>by simp [Value.ownBlock]at e;omega))⟩
theorem words_nil (k:Int) (w:World):Calls Tryz.prog 257 #[.pointer none,.int .i64 k] w fun e w'=>e= .returned (.slice none 0 0)/\w=w':=by
 go_enter Tryz.func257,Tryz.ntmps257
 go_wp2
 go_ret
 exact⟨rfl,rfl⟩
def WordsPost (w:World) (k:Nat) (f:Nat->Bool) (e:Ending) (w':World):Prop:=
 ∃A c vs,e= .returned (.slice A vs.length c)/\w'.ownsRow w.heap.size 282 1 (.slice A vs.length c) vs.length (vs.map U64)/\Below w.heap.size w w'/\vs.length=(k+63)/64/\ ∀j,bitOf vs j=(f j&&decide (j<k))
set_option maxRecDepth 100000 in
set_option maxHeartbeats 1000000 in
theorem set_words {w:World} {b n:Nat} {f:Nat->Bool} {S:Nat->Prop} (h:IsSet w b S n f) (m:Nat) (hm:m<=4096):
  Calls Tryz.prog 257 #[.pointer (some ⟨b,0,none⟩),.int .i64 m] w (WordsPost w (min m n) f):=by
 obtain⟨⟨r,ws,hi',hr,hf⟩,hb',hlt⟩:=id h
 obtain⟨c,h1,hc,hcm⟩:=hi'.blk
 have hlen:=hi'.len
 have hroom:=hi'.room
 have c0:=h1.cell 0
 have c1:=h1.cell 1
 simp at c0 c1
 unfold maxLen at hcm
 obtain⟨k,hk⟩: ∃k,k=min m n:=⟨_,rfl⟩
 have hkn:k<=n:=by omega
 have hkl:(k+63)/64<=ws.length:=by omega
 have h63:=i64_and_63 k (by omega)
 have hcut:=bitOf_cut ws k hkl
 have hcl:=cutWords_length ws k hkl
 have hrd:Rd w (· =r) (.slice (some ⟨r,0,none⟩) ((k+63)/64) c) 1 ((ws.take ((k+63)/64)).map U64):=
  ⟨_,_,c,rfl,by omega,by unfold maxLen;omega,by simp;omega,fun _=>⟨r,0,rfl,rfl,fun j u hu=>by
   rw [hi'.words.cell]
   rw [List.getElem?_map,List.getElem?_take]at hu
   split at hu
   ·simpa using hu
   ·simp at hu⟩⟩
 have hclone:=clone_u64 hrd (n:=(k+63)/64) (by simp;omega) (fun u hu=>by obtain⟨x,_,rfl⟩:=List.mem_map.1 hu;rfl) (by omega)
 have hfin: ∀j,bitOf (cutWords ws k) j=(f j&&decide (j<k)):=fun j=>by rw [hcut,hf]
 rw [<-hk]
 have HC:=hide hclone
 have HF:=hide hfin
 have HL:=hide hcl
 have hmn:(k=m/\(m:Int)<n)\/(k=n/\(n:Int)<m)\/(k=n/\n=m):=by omega
 obtain⟨L,hL⟩: ∃L,L=(k+63)/64:=⟨_,rfl⟩
 have hLc:L<=c:=by omega
 have hLw:L<=ws.length:=by omega
 have hLi:((k:Int)+63)/64=(L:Int):=by omega
 have HLL:=hide hL
 by_cases hz:k%64=0
 ·have hcw:cutWords ws k=ws.take L:=by unfold cutWords;rw [if_pos hz,hL]
  rw [hz]at h63
  have HW:=hide hcw
  rw [<-hL]at HC HL
  clear hclone hfin hcl hcut hrd h hf hlt h1 hi' hlen hcw hL hz hkl hk
  have fin: ∀(A:Option Addr) (c2:Nat) (w':World),w'.ownsRow w.heap.size 282 1 (.slice A L c2) L ((ws.take L).map U64)->Below w.heap.size w w'->WordsPost w k f (.returned (.slice A L c2)) w':=fun A c2 w' hown hbel=>
   ⟨A,c2,cutWords ws k,by rw [HL.out],by rw [HL.out,HW.out];exact hown,hbel,by rw [HL.out,HLL.out],HF.out⟩
  have FIN:=hide fin
  clear fin
  rcases hmn with⟨rfl,hmn⟩|⟨rfl,hmn⟩|⟨rfl,rfl⟩
  all_goals
   go_enter Tryz.func257,Tryz.ntmps257
   go_wp2_with (go_at_call 275;refine HC.out.mono ?_;rintro e w' ⟨A,c2,rfl,hown,hbel⟩)
   go_ret
   exact FIN.out A c2 w' hown hbel
 ·obtain⟨x,hx⟩: ∃x,ws[k/64]? =some x:=⟨_,List.getElem?_eq_getElem (by omega)⟩
  have hL0:0<L:=by omega
  have hLk:L - 1=k/64:=by omega
  obtain⟨m0,hm0⟩: ∃m0,m0=k%64:=⟨_,rfl⟩
  have hm64:m0<64:=by omega
  have hcw:cutWords ws k=(ws.take L).set (L - 1) (x&&&mask m0):=by
   unfold cutWords
   rw [if_neg hz,<-hL,<-hm0]
   simp [List.getD,hx]
  rw [<-hm0]at h63
  have hm0i:((m0:Int)==0)=false:=by simpa using(by omega: ¬m0=0)
  have hm0n: ¬m0=0:=by omega
  have hsh:=wrap_pow m0 hm64
  have hmk:=wrap_mask m0 hm64
  have hand:=u64_and_bv x (mask m0)
  have hL0i:(0:Int)<L:=by omega
  have hcell:((ws.take L).map U64)[L - 1]? =some (U64 x):=by
   rw [List.getElem?_map,List.getElem?_take,if_pos (by omega),hLk,hx];rfl
  have HW:=hide hcw
  have HX:=hide hcell
  rw [<-hL]at HC HL
  clear hclone hfin hcl hcut hrd h hf hlt h1 hi' hlen hcw hL hz hkl hk hx hLk hcell hm0
  have fin: ∀(A:Option Addr) (c2:Nat) (w':World),w'.ownsRow w.heap.size 282 1 (.slice A L c2) L (((ws.take L).map U64).set (L - 1) (U64 (x&&&mask m0)))->Below w.heap.size w w'->WordsPost w k f (.returned (.slice A L c2)) w':=fun A c2 w' hown hbel=>
   ⟨A,c2,cutWords ws k,by rw [HL.out],by rw [HL.out,HW.out,List.map_set];exact hown,hbel,by rw [HL.out,HLL.out],HF.out⟩
  have FIN:=hide fin
  clear fin
  generalize x&&&mask m0=y at *
  generalize mask m0=mk at *
  generalize one m0=o1 at *
  rcases hmn with⟨rfl,hmn⟩|⟨rfl,hmn⟩|⟨rfl,rfl⟩
  all_goals
   go_enter Tryz.func257,Tryz.ntmps257
   go_wp2_with fail
   refine HC.out.mono ?_
   rintro e w' ⟨A,c2,rfl,hown,hbel⟩
   obtain⟨g,cap,hv,hgb,hglt⟩:=hown.form hL0
   injection hv with hv _ hc2
   subst hv hc2
   have hcx:=(hown.cellAt (L - 1) (by omega)).trans HX.out
   have hfr:=hown.frozenAt (L - 1)
   obtain⟨hst,hgr⟩:=hown.stored (L - 1) (U64 y)
   have HST:=hide hst
   have HGR:=hide hgr
   clear hst hgr hown
   go_wp2_with fail
   go_ret
   exact FIN.out _ _ _ HST.out (hbel.grown HGR.out hbel.size (fun k e=>by injection e with e;omega))
end Go.Proofs.YthlbjgabhpdbfaaGreat

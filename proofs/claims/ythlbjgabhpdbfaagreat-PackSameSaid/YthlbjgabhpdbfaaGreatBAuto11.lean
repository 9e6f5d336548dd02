/- The automaton: the maps of the states, and of the ways. -/
import Derived.Test.YthlbjgabhpdbfaaGreatBAuto4
import Derived.Test.YthlbjgabhpdbfaaGreatBItemLay
import Derived.Test.YthlbjgabhpdbfaaGreatBAuto8
import Derived.Test.YthlbjgabhpdbfaaGreatBLookPlain
set_option linter.unusedVariables false
set_option linter.unusedSimpArgs false
set_option maxRecDepth 100000
set_option maxHeartbeats 4000000
namespace Go.Proofs.YthlbjgabhpdbfaaGreat
open Go.Proofs.Tryz
open List renaming ext_getElem?->Za,flatMap_cons->Zb,length_append->Zc,length_cons->Zd,length_nil->Ze,length_set->Zf,mem_append->Zg,mem_singleton->Zh
open Nat renaming add_mul->Zi,le_refl->Zj,le_trans->Zk,lt_of_lt_of_le->Zl,one_mul->Zm,zero_le->Zn
section
open Go.RowKit Go.Maps
theorem strKeyd:Keyed prog 9:=Maps.string_keyed underlying9
def ly (k:List It):Lit:= .string (i1 k)
theorem Cm {k:List It} (h:k.length<=1000000):keyOf prog 9 (.string (qW k))=some (ly k):=by
 have:=Go.WideMaps.keyOf_string_mk (P:=prog) (s:=qW k) underlying9 (by
  have e:(qW k).size=(i1 k).length:=by unfold qW;simp [ByteArray.size]
  rw [e,jH];unfold maxLen;omega)
 rw [this];unfold ly qW;simp
def jr (k:List It):Prop:= ∀x∈k,ByI x
theorem x7 {k a:List It} (h:jr k) (b:jr a) (e:ly k=ly a):k=a:=by
 unfold ly at e;injection e with e
 exact x8 h b e
structure ml (D:DataW Unit) (L:List (List It)):Prop where
 isMap:Maps.IsMap D
 has: ∀k,jr k->(Maps.has D (ly k)=true↔k∈L)
 at_: ∀(i:Nat) k,jr k->L[i]? =some k-> ∀z,D.atKey (ly k) z= .lit (.int .i64 i)
theorem ml.empty:ml (.map []) []:=⟨Maps.isMap_empty,λ_ _=>by simp [Maps.has],λ_ _ _ h=>by simp at h⟩
theorem ml.put {D:DataW Unit} {L:List (List It)} (h:ml D L) {k:List It} (o: ∀l∈L,jr l) (d:jr k) (j:k∉L):ml (D.put (ly k) (.lit (.int .i64 L.length))) (L++[k]):=by
 have g:WideAt.IsKeyLit (ly k):=by unfold ly;simp [WideAt.IsKeyLit]
 refine⟨h.isMap.put _ _,λb a=> ?_,λi b a hi z=> ?_⟩
 ·by_cases e:b=k
  ·subst e;rw [Maps.has_put_same h.isMap g];simp
  ·rw [Maps.has_put_other (λc=>e (x7 a d c)),h.has b a];simp [e]
 ·by_cases e:b=k
  ·subst e;rw [Maps.atKey_put_same h.isMap g];rw [List.getElem?_append]at hi
   split at hi
   ·exact absurd (List.mem_of_getElem? hi) j
   ·rename_i q
    rw [List.getElem?_singleton]at hi
    split at hi
    ·rw [show i=L.length by omega]
    ·cases hi
  ·rw [Maps.atKey_put_other (λc=>e (x7 a d c))];rw [List.getElem?_append]at hi
   split at hi
   ·exact h.at_ i b a hi z
   ·rw [List.getElem?_singleton]at hi
    split at hi
    ·injection hi with hi;exact absurd hi.symm e
    ·cases hi
theorem pairRow:(128:TypeId)<prog.types.size:=of_decide_eq_true (by kernel_rfl)
theorem pairLaw:WideMaps.KeyLaw prog 128:=deep_law_laid laidOut (m:=3) (by omega) pairRow (by kernel_rfl) (by kernel_rfl)
theorem pairKeyed:Keyed prog 128:=Keyed.of_law pairLaw
theorem pairKeyType:prog.keyType 128=true:=by kernel_rfl
theorem pairCells:prog.cellsOf 128=2:=by kernel_rfl
abbrev PaV (i s:Int):Value:= .agg #[.int .i64 i,.int .i64 s]
theorem DE {i s:Int} (g:WfI (i,s)): ∃u,keyOf prog 128 (PaV i s)=some u:=by
 have j:=ii g.1;have k:=ii g.2;have t:0<prog.types.size:=Nat.lt_of_le_of_lt (Zn _) pairRow;obtain⟨h,o⟩:=Nat.exists_eq_succ_of_ne_zero (Nat.ne_of_gt t);have a:=underlying128;have hi:=underlying3;have b:=pairCells;have l:=intCells;have d: ∀n:Int,(Lit.int .i64 n).wf=true->prog.keyLits (h+1) 3 [.int .i64 n]=some [.int .i64 n]:=λn r=>by
  unfold Program.keyLits;simp only [hi];simp [r]
 have q:(PaV i s).formed prog 128=true:=by simp [Value.formed,a,b]
 refine Option.isSome_iff_exists.1 ?_;unfold keyOf;simp only [a];rw [pairKeyType,q,o];unfold Program.keyLits;simp only [a];simp [Value.cells,b,l];rw [show List.range 2=[0,1]from rfl];simp [d _ j,d _ k]
noncomputable def mI (i s:Int):Lit:=(keyOf prog 128 (PaV i s)).getD (.bool false)
theorem kh {i s:Int} (a:WfI (i,s)):keyOf prog 128 (PaV i s)=some (mI i s):=by
 obtain⟨b,h⟩:=DE a;unfold mI;rw [h];rfl
attribute [irreducible] mI
theorem wQ {i s b d:Int} (k:WfI (i,s)) (l:WfI (b,d)) (h:mI i s=mI b d):i=b/\s=d:=by
 have e:=pairKeyed.inj (kh k) (by rw [h];exact kh l);injection e with e
 have g:=congrArg (λa:Array Value=>a[0]?) e;have j:=congrArg (λa:Array Value=>a[1]?) e;simp at g j;exact⟨g,j⟩
structure jm (D:DataW Unit) (T:List (List It)):Prop where
 isMap:Maps.IsMap D
 has: ∀(i:Nat) (s:Int),WfI ((i:Int),s)->(Maps.has D (mI i s)=true↔ ∃t tq9,T[i]? =some t/\((s,tq9):It)∈t)
 at_: ∀(i:Nat) (s tq9:Int) t,WfI ((i:Int),s)->T[i]? =some t->((s,tq9):It)∈t-> ∀z,D.atKey (mI i s) z= .lit (.int .i64 tq9)
theorem jm.empty:jm (.map []) []:=⟨Maps.isMap_empty,λ_ _ _=>by simp [Maps.has],λ_ _ _ _ _ h=>by simp at h⟩
theorem jm.row {D:DataW Unit} {T:List (List It)} (h:jm D T):jm D (T++[[]]):=by
 have l: ∀(i:Nat) (a:List It),(T++[[]])[i]? =some a->a≠[]->T[i]? =some a:=λi a hi o=>by
  rw [List.getElem?_append]at hi
  split at hi
  ·exact hi
  ·rw [List.getElem?_singleton]at hi
   split at hi
   ·injection hi with hi;exact absurd hi.symm o
   ·cases hi
 refine⟨h.isMap,λi k j=>(h.has i k j).trans ⟨λ⟨a,g,d,b⟩=>⟨a,g,?_,b⟩,λ⟨a,g,d,b⟩=>⟨a,g,l i a d (λe=>by rw [e]at b;cases b),b⟩⟩,λi k g a j d b=>h.at_ i k g a j (l i a d (λe=>by rw [e]at b;cases b)) b⟩;rw [List.getElem?_append_left (List.getElem?_eq_some_iff.1 d).1];exact d
theorem jm.put {D:DataW Unit} {T:List (List It)} {t:List It} (h:jm D (T++[t])) {s tq9:Int} (r:WfI ((T.length:Int),s)) (y: ∀C∈t,C.1≠s):jm (D.put (mI T.length s) (.lit (.int .i64 tq9))) (T++[t++[(s,tq9)]]):=by
 have u:=pairKeyed.key (kh r)
 -- the two lists,row by row
 have x: ∀(i:Nat),i≠T.length->(T++[t++[(s,tq9)]])[i]? =(T++[t])[i]? :=λi hi=>by
  rcases Nat.lt_trichotomy i T.length with e|e|e
  ·rw [List.getElem?_append_left e,List.getElem?_append_left e]
  ·exact absurd e hi
  ·rw [List.getElem?_eq_none (by simp;omega),List.getElem?_eq_none (by simp;omega)]
 have j: ∀g:List It,(T++[g])[T.length]? =some g:=λg=>by simp
 refine⟨h.isMap.put _ _,λi l k=> ?_,λi l o g k hi a z=> ?_⟩
 ·by_cases e:i=T.length/\l=s
  ·obtain⟨rfl,rfl⟩:=e;rw [Maps.has_put_same h.isMap u];exact⟨λ_=>⟨_,tq9,j _,by simp⟩,λ_=>rfl⟩
  ·rw [Maps.has_put_other (λc=>e (by have:=wQ k r c;omega)),h.has i l k];by_cases q:i=T.length
   ·subst q;rw [j,j];constructor
    ·rintro⟨g,o,b,d⟩;injection b with b
     subst b;exact⟨_,o,rfl,List.mem_append_left _ d⟩
    ·rintro⟨g,o,b,d⟩;injection b with b
     subst b;rcases Zg.1 d with d|d
     ·exact⟨_,o,rfl,d⟩
     ·have:=Zh.1 d;injection this with this _
      exact absurd ⟨rfl,this⟩ e
   ·rw [x i q]
 ·by_cases e:i=T.length/\l=s
  ·obtain⟨rfl,rfl⟩:=e;rw [Maps.atKey_put_same h.isMap u];rw [j]at hi;injection hi with hi
   subst hi;rcases Zg.1 a with a|a
   ·exact absurd rfl (y _ a)
   ·have:=Zh.1 a;injection this with _ this
    rw [this]
  ·rw [Maps.atKey_put_other (λc=>e (by have:=wQ k r c;omega))];by_cases q:i=T.length
   ·subst q;rw [j]at hi;injection hi with hi
    subst hi;rcases Zg.1 a with a|a
    ·exact h.at_ _ l o t k (j _) a z
    ·have:=Zh.1 a;injection this with this _
     exact absurd ⟨rfl,this⟩ e
   ·rw [x i q]at hi;exact h.at_ i l o g k hi a z
end
section
open Go.RowKit Go.Maps
def stD (L T:List (List It)):List (List It×List It):=L.mapIdx λi k=>(k,(T[i]?).getD [])
theorem fj (L T:List (List It)):(stD L T).length=L.length:=by unfold stD;simp
theorem fX {L T:List (List It)} {i:Nat}:(stD L T)[i]? =(L[i]?).map λa=>(a,(T[i]?).getD []):=by
 unfold stD;rw [List.getElem?_mapIdx]
theorem D9 {L T:List (List It)} (h:T.length<=L.length) (k:List It):stD (L++[k]) T=stD L T++[(k,[])]:=by
 apply Za;intro i;rw [fX];rcases Nat.lt_trichotomy i L.length with e|e|e
 ·rw [List.getElem?_append_left e,List.getElem?_append_left (by rw [fj];exact e),fX]
 ·subst e;rw [List.getElem?_concat_length,<-fj L T,List.getElem?_concat_length,List.getElem?_eq_none (by rw [fj];exact h)];rfl
 ·rw [List.getElem?_eq_none (l:=L++[k]) (by simp;omega),List.getElem?_eq_none (l:=stD L T++[(k,[])]) (by simp [fj];omega)];rfl
theorem Da {L T:List (List It)} {k:List It} (b:L[T.length]? =some k) (t:List It):stD L (T++[t])=(stD L T).set T.length (k,t):=by
 apply Za;intro i;rw [fX];by_cases e:i=T.length
 ·subst e;rw [List.getElem?_set_self (by rw [fj];exact(List.getElem?_eq_some_iff.1 b).1),b];simp
 ·rw [List.getElem?_set_ne (λa=>e a.symm),fX];congr 1
  funext q
  rcases Nat.lt_or_ge i T.length with a|a
  ·rw [List.getElem?_append_left a]
  ·rw [List.getElem?_eq_none (by simp;omega),List.getElem?_eq_none (by omega)]
abbrev di (Z:List (Value×Value)):List Value:=Z.flatMap λp=>[p.1,p.2]
theorem mU: ∀Z:List (Value×Value),(di Z).length=Z.length * 2
 |[]=>rfl
 |p::r=>by
  have:=mU r;simp only [di,Zb,Zc,Zd,Ze]at *;omega
theorem xC (Z:List (Value×Value)) (p:Value×Value):di (Z++[p])=di Z++[p.1,p.2]:=by simp [di]
theorem jT: ∀{Z:List (Value×Value)} {i:Nat} {p:Value×Value},Z[i]? =some p->(di Z)[i * 2]? =some p.1/\(di Z)[i * 2+1]? =some p.2
 |[],i,p,h=>by simp at h
 |q::r,0,p,h=>by simp at h;subst h;exact⟨rfl,rfl⟩
 |q::r,i+1,p,h=>by
  have:=jT (Z:=r) (i:=i) (p:=p) (by simpa using h);rw [show(i+1) * 2=i * 2+1+1 by omega];simpa [di]using this
theorem qE: ∀{Z:List (Value×Value)} {i:Nat} {p:Value×Value} (u:Value),Z[i]? =some p->di (Z.set i (p.1,u))=(di Z).set (i * 2+1) u
 |[],i,p,u,h=>by simp at h
 |q::r,0,p,u,h=>by simp at h;subst h;simp [di]
 |q::r,i+1,p,u,h=>by
  have:=qE (Z:=r) (i:=i) (p:=p) u (by simpa using h);rw [show(i+1) * 2+1=i * 2+1+1+1 by omega];simpa [di]using this
theorem infoState:(prog.info? 112).map (λi=>(i.zero,i.size,i.bytes))=some (some (.agg #[.slice none 0 0,.slice none 0 0]),2,48):=by kernel_rfl
theorem elemState:dZ prog 38 112 (.agg #[.slice none 0 0,.slice none 0 0]) 2 48:=⟨underlying38,infoState,rfl,by decide⟩
def StF (w:World) (lo:Nat) (X:Nat->Prop) (v:Value) (b:Nat):Prop:=lo<=b/\b<w.heap.size/\v.ownBlock≠some b/\ ¬X b
structure fG (w:World) (lo:Nat) (X:Nat->Prop) (v:Value) (Z:List (Value×Value)) (D:List (List It×List It)):Prop where
 own:w.ownsRow lo 112 2 v Z.length (di Z)
 len:Z.length=D.length
 it: ∀(i:Nat) z d,Z[i]? =some z->D[i]? =some d->aH w (StF w lo X v) z.1 d.1/\aH w (StF w lo X v) z.2 d.2
section
variable {w w' : World} {lo : Nat} {X : Nat -> Prop} {v : Value} {Z : List (Value × Value)} {D : List (List It × List It)}
theorem fG.touch {S:Nat->Prop} (h:fG w lo X v Z D) (d:aa S w w') (q: ∀a,lo<=a->a<w.heap.size-> ¬X a-> ¬S a) (s: ∀a,v.ownBlock=some a-> ¬S a):fG w' lo X v Z D:=
 ⟨d.own h.own s,h.len,λi z k t r=>by
  obtain⟨l,o⟩:=h.it i z k t r
  have g: ∀a,StF w lo X v a-> ¬S a:=λa b=>q a b.1 b.2.1 b.2.2.2
  have j: ∀a,StF w lo X v a->StF w' lo X v a:=λa b=>⟨b.1,Zl b.2.1 d.size,b.2.2⟩
  exact⟨(l.touch d g).mono j,(o.touch d g).mono j⟩⟩
theorem fG.below (h:fG w lo X v Z D) (a:Below w.heap.size w w'):fG w' lo X v Z D:=h.touch (aa.of_size a (λ_=>False)) (λ_ _ _ _ e=>e) (λ_ _ e=>e)
theorem fG.nil (w:World) (lo:Nat) (X:Nat->Prop):fG w lo X (.slice none 0 0) [] []:=⟨World.ownsRow_nil _ _ _ _,rfl,λi z b a=>by simp at a⟩
theorem fG.app {s:Value} {k:List It} {A:Option Addr} {c:Nat} (h:fG w lo X v Z D) (u:aH w (StF w lo X v) s k) (own:w'.ownsRow lo 112 2 (.slice A (Z.length+1) c) (Z.length+1) (di Z++[s,.slice none 0 0])) (g:w.grownBy w' v.ownBlock) (d:(Value.slice A (Z.length+1) c).ownBlock=v.ownBlock\/(Value.slice A (Z.length+1) c).ownBlock=some w.heap.size):
  fG w' lo X (.slice A (Z.length+1) c) (Z++[(s,.slice none 0 0)]) (D++[(k,[])]):=by
 have o:aa (λa=>v.ownBlock=some a) w w':=(aa.refl _ _).grown g (λa e _=>e);have q: ∀a,StF w lo X v a-> ¬v.ownBlock=some a:=λa d=>d.2.2.1
 have r: ∀a,StF w lo X v a->StF w' lo X (.slice A (Z.length+1) c) a:=λa l=>⟨l.1,Zl l.2.1 o.size,λe=>by
  rcases d with d|d
  ·exact l.2.2.1 (d▸e)
  ·rw [d]at e;injection e with e;have:=l.2.1;omega,l.2.2.2⟩
 refine⟨by rw [Zc,xC];exact own,by simp [h.len],λi z t b j=> ?_⟩;rcases Nat.lt_trichotomy i Z.length with e|e|e
 ·rw [List.getElem?_append_left e]at b;rw [List.getElem?_append_left (by rw [<-h.len];exact e)]at j;exact⟨((h.it i z t b j).1.touch o q).mono r,((h.it i z t b j).2.touch o q).mono r⟩
 ·subst e;rw [List.getElem?_concat_length]at b;rw [h.len,List.getElem?_concat_length]at j;injection b with b
  injection j with j
  subst b j;exact⟨(u.touch o q).mono r,Rd.nil _ _ _⟩
 ·rw [List.getElem?_eq_none (by simp;omega)]at b;cases b
theorem fG.at_ {A:Option Addr} {n c:Nat} (h:fG w lo X (.slice A n c) Z D) {i:Nat} {d:List It×List It} (r:D[i]? =some d):n=Z.length/\n<=c/\c<=maxLen/\ ∃a z,A=some ⟨a,0,none⟩/\lo<=a/\a<w.heap.size/\Z[i]? =some z/\i<n/\w.cell? ⟨a,i * 2,none⟩=some z.1/\w.cell? ⟨a,i * 2+1,none⟩=some z.2/\w.frozen? ⟨a,i * 2+1,none⟩=false/\aH w (StF w lo X (.slice A n c)) z.1 d.1/\aH w (StF w lo X (.slice A n c)) z.2 d.2:=by
 have hi:i<Z.length:=by rw [h.len];exact(List.getElem?_eq_some_iff.1 r).1
 obtain⟨z,j⟩: ∃z,Z[i]? =some z:=⟨_,List.getElem?_eq_getElem hi⟩;obtain⟨y,C⟩:=h.it i z d j r;obtain⟨Q,S,b,M,H⟩:=bH h.own;injection b with t u x
 subst t u x;refine⟨rfl,M,H,?_⟩;rcases h.own.2 with⟨b,ad⟩|⟨a,U,s,b,E,K,Y,W,ai,O⟩
 ·omega
 ·injection b with b _ _
  subst b;have l:Blk w a 112 s:=K;obtain⟨c1,c2⟩:=jT j;have q: ∀k o,(di Z)[k]? =some o->w.cell? ⟨a,k,none⟩=some o:=λk o g=>by
   rw [l.cell];rw [<-O,List.getElem?_take]at g
   split at g
   ·simpa using g
   ·cases g
  exact⟨a,z,rfl,E,l.lt,j,hi,q _ _ c1,q _ _ c2,l.frozen _,y,C⟩
end
end
section
open Go.RowKit Go.Maps
attribute [local irreducible] wpStill aB aO
def NoX:Nat->Prop:=λ_=>False
structure Bui (w0 w:World) (F:Nat->Prop) (B:Nat) (A1:Option Addr) (c1:Nat) (A2:Option Addr) (c2:Nat) (A3:Option Addr) (c3 T N R:Nat) (st:Int) (G:ac) (vb vs:Value) (m1 m2:Nat) (Z:List (Value×Value)) (L Tm:List (List It)):Prop where
 bd:Bd w F B A1 c1 A2 c2 A3 c3 T N R st G vb vs m1 m2
 t0:aa (λb=>b=B\/b=m1\/b=m2) w0 w
 sr:fG w w0.heap.size NoX vs Z (stD L [])
 at_: ∃D:DataW Unit,w.ownsMap prog 9 (plainElem prog 3) m1 L.length D/\ml D L
 to_: ∃(D:DataW Unit) (n:Nat),w.ownsMap prog 128 (plainElem prog 3) m2 n D/\jm D Tm/\n<=(Tm.map List.length).sum
 lB:B<w0.heap.size
 l1:m1<w0.heap.size
 l2:m2<w0.heap.size
 n12:m1≠m2
 hF: ∀b,F b->b≠B/\b≠m1/\b≠m2/\b<w0.heap.size
 nil: ∀z∈Z,z.2= .slice none 0 0
section
variable {w0 w w' : World} {F : Nat -> Prop} {B : Nat} {A1 : Option Addr} {c1 : Nat} {A2 : Option Addr} {c2 : Nat} {A3 : Option Addr} {c3 T N R : Nat} {st : Int} {G : ac} {vb vs : Value} {m1 m2 : Nat} {Z : List (Value × Value)} {L Tm : List (List It)}
theorem Bui.nB (h:Bui w0 w F B A1 c1 A2 c2 A3 c3 T N R st G vb vs m1 m2 Z L Tm):B≠m1/\B≠m2:=by
 obtain⟨d,a,-⟩:=h.at_;obtain⟨g,n,b,-⟩:=h.to_;exact⟨λe=>h.bd.blk.ne_map a e.symm,λe=>h.bd.blk.ne_map b e.symm⟩
theorem Bui.below (h:Bui w0 w F B A1 c1 A2 c2 A3 c3 T N R st G vb vs m1 m2 Z L Tm) (a:Below w.heap.size w w'):Bui w0 w' F B A1 c1 A2 c2 A3 c3 T N R st G vb vs m1 m2 Z L Tm:=by
 obtain⟨d,j,k⟩:=h.at_;obtain⟨g,n,l,o,q⟩:=h.to_;have b:aa (λ_=>False) w w':=aa.of_size a _;exact⟨h.bd.below a,h.t0.trans b (λ_ _ e=>e.elim),h.sr.below a,⟨d,b.ownsMap j (λe=>e),k⟩,⟨g,n,b.ownsMap l (λe=>e),o,q⟩,h.lB,h.l1,h.l2,h.n12,h.hF,h.nil⟩
theorem Bui.drew (h:Bui w0 w F B A1 c1 A2 c2 A3 c3 T N R st G vb vs m1 m2 Z L Tm):Bui w0 w.drew F B A1 c1 A2 c2 A3 c3 T N R st G vb vs m1 m2 Z L Tm:=h.below ((Below.refl _ w).drew)
theorem Bui.add {w1 w2 w3:World} {D:DataW Unit} {A:Option Addr} {c:Nat} {q:Value} {k:List It} {X:Obj} (h:Bui w0 w F B A1 c1 A2 c2 A3 c3 T N R st G vb vs m1 m2 Z L Tm) (hm:w1.ownsMap prog 9 (plainElem prog 3) m1 (L.length+1) D) (ai:ml D (L++[k])) (Y:w.grownBy w1 (some m1)) (j:w2=w1.alloc X)
  (ak:aH w2 (StF w2 w0.heap.size NoX vs) q k) (own:w3.ownsRow w0.heap.size 112 2 (.slice A (Z.length+1) c) (Z.length+1) (di Z++[q,.slice none 0 0])) (g:w2.grownBy w3 vs.ownBlock) (d:(Value.slice A (Z.length+1) c).ownBlock=vs.ownBlock\/(Value.slice A (Z.length+1) c).ownBlock=some w2.heap.size):
  Bui w0 (w3.setCell ⟨B,5,none⟩ (.slice A (Z.length+1) c)) F B A1 c1 A2 c2 A3 c3 T N R st G vb (.slice A (Z.length+1) c) m1 m2 (Z++[(q,.slice none 0 0)]) (L++[k]) Tm/\aa (λa=>a=B\/a=m1\/vs.ownBlock=some a) w (w3.setCell ⟨B,5,none⟩ (.slice A (Z.length+1) c))/\(∀a,(Value.slice A (Z.length+1) c).ownBlock=some a->vs.ownBlock=some a\/w.heap.size<=a):=by
 obtain⟨x,a0⟩:=h.nB;obtain⟨E,n,H,K,M⟩:=h.to_;have b: ∀a,vs.ownBlock=some a->w0.heap.size<=a/\a<w.heap.size:=λa e=>h.sr.own.lt a e
 have aT:=h.lB;have ap:=h.l1;have aS:=h.l2;have lo:=h.t0.size;have a4:aa (λa=>a=m1) w w1:=(aa.refl _ _).grown Y (λa e _=>by injection e with e;exact e.symm);have r:aa (λa=>a=m1) w w2:=by rw [j];exact a4.alloc X
 have y:aa (λa=>vs.ownBlock=some a) w2 w3:=(aa.refl _ _).grown g (λa e _=>e);have C:aa (λa=>a=m1\/vs.ownBlock=some a) w w3:=(r.mono (S':=λa=>a=m1\/vs.ownBlock=some a) (λ_ _ e=> .inl e)).trans y (λ_ _ e=> .inr e);have s:aa (λa=>a=B) w3 (w3.setCell ⟨B,5,none⟩ (.slice A (Z.length+1) c)):=(aa.refl (λa=>a=B) w3).setCell (p:=⟨B,5,none⟩) (λ_=>rfl) _;have l:aa (λa=>a=B\/a=m1\/vs.ownBlock=some a) w (w3.setCell ⟨B,5,none⟩ (.slice A (Z.length+1) c)):=(C.mono (S':=λa=>a=B\/a=m1\/vs.ownBlock=some a) (λ_ _ e=> .inr e)).trans s (λ_ _ e=> .inl e);have u: ∀a,(Value.slice A (Z.length+1) c).ownBlock=some a->vs.ownBlock=some a\/w.heap.size<=a:=λa e=>by
  rcases d with d|d
  ·exact .inl (d▸e)
  ·rw [d]at e;injection e with e;have:=r.size;right;omega
 have an: ∀a,(Value.slice A (Z.length+1) c).ownBlock=some a->w0.heap.size<=a:=λa e=>(u a e).elim (λe=>(b a e).1) (λe=>by omega)
 have O:Blk w3 B 124 _:=h.bd.blk.touch C (λe=>e.elim x (λe=>by have:=b B e;omega));have Q:=O.put 5 (.slice A (Z.length+1) c);have a1:=h.sr.touch r (λa ad j _ e=>by omega) (λa e S=>by have:=b a e;omega);have a2:=a1.app ak own g d;have a3:=a2.touch s (λa ad j _ e=>by omega) (λa e S=>by have:=an a e;omega);have al:w2.ownsMap prog 9 (plainElem prog 3) m1 (L.length+1) D:=by
  rw [j];exact((aa.refl (λ_=>False) w1).alloc X).ownsMap hm (λe=>e)
 have a5:aa (λa=>vs.ownBlock=some a\/a=B) w2 (w3.setCell ⟨B,5,none⟩ (.slice A (Z.length+1) c)):=(y.mono (S':=λa=>vs.ownBlock=some a\/a=B) (λ_ _ e=> .inl e)).trans s (λ_ _ e=> .inr e);refine⟨⟨⟨h.bd.gram.touch l (λa t e=> ?_),Q⟩,?_,?_,⟨D,?_,ai⟩,⟨E,n,?_,K,M⟩,aT,ap,aS,h.n12,h.hF,λz o=>(Zg.1 o).elim (h.nil z) (λo=>by rw [Zh.1 o])⟩,l,u⟩
 ·obtain⟨U,W,a6,a7⟩:=h.hF a t;rcases e with e|e|e
  ·exact U e
  ·exact W e
  ·have:=b a e;omega
 ·refine h.t0.trans l (λa t e=> ?_);rcases e with e|e|e
  ·exact .inl e
  ·exact .inr (.inl e)
  ·have:=b a e;omega
 ·rw [D9 (by simp)];exact a3
 ·rw [Zc];exact a5.ownsMap al (λe=>e.elim (λe=>by have:=b _ e;omega) (λe=>x e.symm))
 ·exact l.ownsMap H (λe=>by
   rcases e with e|e|e
   ·exact a0 e.symm
   ·exact h.n12 e.symm
   ·have:=b _ e;omega)
end
def CU (w0 w:World) (F:Nat->Prop) (B:Nat) (A1:Option Addr) (c1:Nat) (A2:Option Addr) (c2:Nat) (A3:Option Addr) (c3 T N R:Nat) (st:Int) (G:ac) (vb vs:Value) (m1 m2:Nat) (p:List (List It)×Int) (Tm:List (List It)) (e:Ending) (w':World):Prop:=
 e= .returned (.int .i64 p.2)/\ ∃vs' Z',Bui w0 w' F B A1 c1 A2 c2 A3 c3 T N R st G vb vs' m1 m2 Z' p.1 Tm/\aa (λb=>b=B\/b=m1\/vs.ownBlock=some b) w w'/\(∀b,vs'.ownBlock=some b->vs.ownBlock=some b\/w.heap.size<=b)
theorem tI {w0 w:World} {F:Nat->Prop} {B:Nat} {A1:Option Addr} {c1:Nat} {A2:Option Addr} {c2:Nat} {A3:Option Addr} {c3 T N R:Nat} {st:Int} {G:ac} {vb vs:Value} {m1 m2:Nat} {Z:List (Value×Value)} {L Tm:List (List It)}
  (h:Bui w0 w F B A1 c1 A2 c2 A3 c3 T N R st G vb vs m1 m2 Z L Tm) {v:Value} {k:List It} (al:aH w (StF w w0.heap.size NoX vs) v k) (a8:jr k) (bB: ∀u∈L,jr u) (cj:L.length<=100000) (aS:k.length<=1000000):
  Calls prog 77 #[PtB B,v] w (CU w0 w F B A1 c1 A2 c2 A3 c3 T N R st G vb vs m1 m2 (jz L k) Tm):=by
 obtain⟨A,n,c,rfl,-⟩:=id al;have a3:=E5 al (λa d=>d.2.1) aS a8;obtain⟨j,b,g,rfl,be,cx,cl⟩: ∃j b g,vs= .slice j b g/\b=Z.length/\b<=g/\g<=maxLen:=by
  obtain⟨j,g,e,o,O⟩:=bH h.sr.own;exact⟨j,_,g,e,rfl,o,O⟩
 have a5:b=L.length:=by rw [be,h.sr.len,fj]
 unfold maxLen at cl;have ap:=Cm aS;obtain⟨b2,bc⟩: ∃u,u=jz L k:=⟨_,rfl⟩;rw [<-bc];obtain⟨cz,a9⟩: ∃u,u=qW k:=⟨_,rfl⟩;rw [<-a9]at a3 ap;obtain⟨bp,bq,a2,b8,bl,cs,cr,U,bt⟩:=dQ h al a8 bB a3 aS a9 be bc;clear h al a8 bB a3 aS a9 be bc;rw [<-a5]at cj;have a1:=ab a5;clear a5
 go_enter func77,ntmps77
 go_wp2_with fail
 refine bl.out.mono ?_;rintro e w1 ⟨rfl,r⟩;have o:=bp.out.below r;have an:aH w1 (StF w1 w0.heap.size NoX (.slice j b g)) (.slice A n c) k:=(bq.out.below r (λa d=>d.2.1)).mono (λa d=>⟨d.1,Zl d.2.1 r.size,d.2.2⟩);obtain⟨D,W,y⟩:=o.at_;have cm:=(o.bd.blk.cell 6).trans rfl;have ak:=y.has k a2.out;clear bl bp bq;by_cases E:k∈L
 ·have cy:=ak.2 E;obtain⟨i,hi⟩: ∃i,i=L.idxOf k:=⟨_,rfl⟩;have l:=y.at_ i k a2.out (by rw [hi];exact yS E);have s:=wO E;rw [<-hi,<-bt.out]at s;clear ak;obtain⟨a0,cp,cn,ca,K,S,co⟩:=de o an y l s r hi;clear o an y l s r hi
  go_wp2_with (at_lookup;refine wpList_lookup_own_ok_int _ rfl _ _ 120 rfl 9 3 .i64 strKeyd underlying120 underlying3 (zeroInt _) _ _ D rfl W _ _ rfl ap ?_;intro c l bR)
  have ci:c=(i:Int):=by
   rw [ca.out]at l;injection l with l
   injection l with _ l
   exact l.symm
  subst ci;clear l
  go_wp2_with fail
  go_ret
  refine⟨au (by rw [K.out]),.slice j b g,Z,by rw [K.out];exact a0.out,aa.of_size S.out _,λa e=> .inl e⟩
 ·have ck:Maps.has D (ly k)=false:=by rw [Bool.eq_false_iff];exact λe=>E (ak.1 e)
  have s:=un E;rw [<-bt.out]at s;have O:=o.drew;have b3:=(o.bd.blk.cell 5).trans rfl;have bx:w1.drew.ownsMap prog 9 (plainElem prog 3) m1 L.length D:=W;have bS:(Lit.int .i64 (b:Int)).wf=true:=ii (by omega);have ch:L.length<maxLen:=by rw [<-a1.out];unfold maxLen;omega
  have bd:=y.put b8.out a2.out E;rw [<-a1.out]at bd;have bG:aH w1.drew (StF w1.drew w0.heap.size NoX (.slice j b g)) (.slice A n c) k:=an.drew;clear ak y an;obtain⟨a0,cb,cd,K,S,q⟩:=aM o bG bd s r O;clear o bG bd s r O
  go_wp2_with (at_lookup;refine wpList_lookup_own_ok_int _ rfl _ _ 120 rfl 9 3 .i64 strKeyd underlying120 underlying3 (zeroInt _) _ _ D rfl W _ _ rfl ap ?_;intro cv l bR)
  clear l bR W ck;refine bX 10 (by kernel_rfl) (by kernel_rfl) ?_;simp only [List.take_succ_cons,List.take_zero,List.drop_succ_cons,List.drop_zero]
  repeat still_step
  refine wpStill_nil ?_
  go_wp2_with (at_mapUpdate;refine wpList_mapUpdate_own _ rfl _ _ _ 120 rfl 9 3 strKeyd underlying120 _ m1 L.length D rfl bx ch _ _ _ rfl rfl ap _ [] (plainElem_int underlying3 bS) ?_)
  intro w2 bY a4;obtain⟨bh,b0⟩:=q.out.nB;have H:aa (λa=>a=m1) w1.drew w2:=(aa.refl _ _).grown a4 (λa e _=>by injection e with e;exact e.symm);have cA:=q.out.l1;have bP: ∀a,(Value.slice j b g).ownBlock=some a->w0.heap.size<=a/\a<w1.drew.heap.size:=λa e=>q.out.sr.own.lt a e
  have M:=q.out.bd.blk.touch H bh;have b4:=q.out.sr.touch H (λa o O _ e=>by omega) (λa e cw=>by have:=bP a e;omega);have bC:=(cb.out.touch H (λa d e=>by have:=d.1;omega)).mono (F':=StF w2 w0.heap.size NoX (.slice j b g)) (λa d=>⟨d.1,Zl d.2.1 H.size,d.2.2⟩);have b3:=(M.cell 5).trans rfl;have bW:w0.heap.size<=w2.heap.size:=Zk q.out.t0.size H.size;obtain⟨w7,t⟩: ∃u,u=w2.alloc (.cells #[.slice A n c,.slice none 0 0] 112):=⟨_,rfl⟩;have C:Below w2.heap.size w2 w7:=by rw [t];exact(Below.refl _ _).alloc (Zj _) _
  have b5:=b4.below C;have aT:=b5.own;rw [<-U.out]at aT;have bE:=(bC.below C (λa d=>d.2.1)).mono (F':=StF w7 w0.heap.size NoX (.slice j b g)) (λa d=>⟨d.1,Zl d.2.1 C.size,d.2.2⟩);have bz:=M.below C M.lt;have bb:Rd w7 (λa=>a=w2.heap.size) (.slice (some ⟨w2.heap.size,0,none⟩) 1 1) 2 [.slice A n c,.slice none 0 0]:=by rw [t];exact Rd.one' (w:=w2) (e:=112) [.slice A n c,.slice none 0 0] 2 rfl
  have bg:w0.heap.size<=w7.heap.size:=Zk bW C.size;rw [t]at aT bb bg;clear cm H bP b4 bC bW C b5 bx bS;obtain⟨bu,bo,b7,bw,br,bi,bs,ct,cu⟩:=dQ bY a4 M aT bE bz bb bh b0;clear bY a4 M aT bE bz bb bh b0
  go_wp2_with (at_builtin;refine aJ _ rfl (.tmp 35) (.tmp 38) _ rfl elemState w0.heap.size _ b (di Z) rfl bw.out _ _ [.slice A n c,.slice none 0 0] 1 rfl rfl bs.out (by simp [Value.oneCell']) (by unfold maxLen;omega) (by omega) bg ?_)
  intro Q ad w8 b1 ai a7;rw [<-t]at ai;rw [show w2.heap.size+1=w7.heap.size by rw [t];simp]at a7;obtain⟨a6,x,ba⟩:=q.out.add (X:= .cells #[.slice A n c,.slice none 0 0] 112) (w1:=w2) (w2:=w7) (w3:=w8) (A:=Q) (c:=ad) (k:=k) bu.out cd.out bo.out t br.out (by rw [<-U.out];exact b1) ai (by rw [<-U.out];exact a7);rw [<-U.out]at a6 x ba;have bA:(Value.slice j b g).ownBlock≠some B:=λe=>by
   have:=(q.out.sr.own.lt _ e).1;have:=q.out.lB;omega
  have Y:=bi.out.touch ((aa.refl (λa=>(Value.slice j b g).ownBlock=some a) w7).grown ai (λa e _=>e)) bA;have b3:=(Y.cell 5).trans rfl;have cC:=Y.frozen 5;have cB:=((Y.put 5 (.slice Q (b+1) ad)).cell 5).trans rfl;have b6:=(aa.of_size S.out (λa=>a=B\/a=m1\/(Value.slice j b g).ownBlock=some a)).trans' (b:=w1) (c:=w8.setCell ⟨B,5,none⟩ (.slice Q (b+1) ad)) ⟨x.os,x.tape,x.output,x.size,x.block⟩;have bO: ∀a,(Value.slice Q (b+1) ad).ownBlock=some a->(Value.slice j b g).ownBlock=some a\/w.heap.size<=a:=λa e=>(ba a e).imp id (λe=>Zk S.out.size e)
  clear b1 ai a7 x ba Y bA a0 q b7 bi bw br bs bu bo t bg;obtain⟨b9,cg,cc⟩:=aK a6 b6 bO;clear a6 b6 bO;have ce:=ab (show b2.2=(b:Int) by rw [K.out,a1.out]);have cf:=ab (show b2.1=L++[k] by rw [K.out])
  go_wp2_with fail
  go_ret
  refine⟨au ce.out.symm,_,_,by rw [cf.out];exact b9.out,cg.out,cc.out⟩
end
section
open Go.RowKit Go.Maps
def dG (w:World) (F:Nat->Prop) (v:Value) (D:List (List It×List It)):Prop:=
 ∃Z:List (Value×Value),Rd w F v 2 (di Z)/\Z.length=D.length/\ ∀(i:Nat) z d,Z[i]? =some z->D[i]? =some d->aH w F z.1 d.1/\aH w F z.2 d.2
section
variable {w w' : World} {F F' : Nat -> Prop} {v : Value} {D : List (List It × List It)}
theorem dG.touch {S:Nat->Prop} (h:dG w F v D) (b:aa S w w') (a: ∀d,F d-> ¬S d):dG w' F v D:=by
 obtain⟨Z,o,q,j⟩:=h;exact⟨Z,o.touch b a,q,λi z g l k=>⟨(j i z g l k).1.touch b a,(j i z g l k).2.touch b a⟩⟩
theorem dG.mono (h:dG w F v D) (a: ∀b,F b->F' b):dG w F' v D:=by
 obtain⟨Z,l,o,g⟩:=h;exact⟨Z,l.mono a,o,λi z d k j=>⟨(g i z d k j).1.mono a,(g i z d k j).2.mono a⟩⟩
theorem dG.below (h:dG w F v D) (b:Below w.heap.size w w') (a: ∀d,F d->d<w.heap.size):dG w' F v D:=by
 obtain⟨Z,o,q,j⟩:=h;exact⟨Z,o.below b a,q,λi z g l k=>⟨(j i z g l k).1.below b a,(j i z g l k).2.below b a⟩⟩
theorem dG.nil (w:World) (F:Nat->Prop):dG w F (.slice none 0 0) []:=⟨[],Rd.nil _ _ _,rfl,λi z a h=>by simp at h⟩
theorem dG.at_ {A:Option Addr} {n c:Nat} (h:dG w F (.slice A n c) D):n=D.length/\n<=c/\c<=maxLen/\(0<n-> ∃a d,A=some ⟨a,d,none⟩/\F a/\ ∀(i:Nat) b,D[i]? =some b-> ∃o q,w.cell? ⟨a,d+i * 2,none⟩=some o/\w.cell? ⟨a,d+i * 2+1,none⟩=some q/\aH w F o b.1/\aH w F q b.2):=by
 obtain⟨Z,⟨U,Y,W,O,u,x,H,M⟩,y,k⟩:=h;injection O with r s t
 subst r s t;rw [mU]at H;refine⟨by omega,u,x,λK=> ?_⟩;obtain⟨a,d,C,E,l⟩:=M K;refine⟨a,d,C,E,λi b g=> ?_⟩;have hi:i<Z.length:=by rw [y];exact(List.getElem?_eq_some_iff.1 g).1
 obtain⟨z,j⟩: ∃z,Z[i]? =some z:=⟨_,List.getElem?_eq_getElem hi⟩;obtain⟨Q,S⟩:=jT j;exact⟨z.1,z.2,l _ _ Q,by rw [Nat.add_assoc];exact l _ _ S,(k i z b j g).1,(k i z b j g).2⟩
theorem fG.rd {lo:Nat} {X:Nat->Prop} {Z:List (Value×Value)} (h:fG w lo X v Z D):dG w (λb=>lo<=b/\b<w.heap.size) v D:=
 ⟨Z,(Rd.of_own h.own).mono (λb a=>h.own.lt b a),h.len,λi z d j g=>⟨(h.it i z d j g).1.mono (λb a=>⟨a.1,a.2.1⟩),(h.it i z d j g).2.mono (λb a=>⟨a.1,a.2.1⟩)⟩⟩
end
theorem bj.touch' {w w':World} {F:Nat->Prop} {B:Nat} {A1 A2 A3:Option Addr} {c1 c2 c3 T N R:Nat} {st:Int} {G:ac} {S:Nat->Prop} (h:bj w F B A1 c1 A2 c2 A3 c3 T N R st G) (b:aa S w w') (g: ∀a,F a-> ¬S a) (d: ¬S B):bj w' F B A1 c1 A2 c2 A3 c3 T N R st G:=
 ⟨h.gram.touch b g,h.blk.touch b d,h.t,h.n,h.r,h.tc,h.nc,h.rc,h.c1m,h.c2m,h.c3m,h.ts,h.ns,h.rs⟩
section
variable {w0 w w' : World} {F : Nat -> Prop} {B : Nat} {A1 : Option Addr} {c1 : Nat} {A2 : Option Addr} {c2 : Nat} {A3 : Option Addr} {c3 T N R : Nat} {st : Int} {G : ac} {vb vs : Value} {m1 m2 : Nat} {Z : List (Value × Value)} {L Tm Tm' : List (List It)}
theorem Bui.way {D:DataW Unit} {n:Nat} (h:Bui w0 w F B A1 c1 A2 c2 A3 c3 T N R st G vb vs m1 m2 Z L Tm) (hm:w'.ownsMap prog 128 (plainElem prog 3) m2 (n+1) D) (l:jm D Tm') (g:w.grownBy w' (some m2)) (q:n+1<=(Tm'.map List.length).sum):
  Bui w0 w' F B A1 c1 A2 c2 A3 c3 T N R st G vb vs m1 m2 Z L Tm'/\aa (λa=>a=m2) w w':=by
 obtain⟨y,s⟩:=h.nB;obtain⟨d,j,k⟩:=h.at_;have r: ∀a,vs.ownBlock=some a->w0.heap.size<=a/\a<w.heap.size:=λa e=>h.sr.own.lt a e
 have x:=h.l2;have b:aa (λa=>a=m2) w w':=(aa.refl _ _).grown g (λa e _=>by injection e with e;exact e.symm);refine⟨⟨h.bd.touch b (λa o e=>(h.hF a o).2.2.1 e) s,h.t0.trans b (λa _ e=> .inr (.inr e)),h.sr.touch b (λa u _ _ e=>by omega) (λa e t=>by have:=r a e;omega),⟨d,b.ownsMap j h.n12,k⟩,⟨D,n+1,hm,l,q⟩,h.lB,h.l1,h.l2,h.n12,h.hF,h.nil⟩,b⟩
theorem Bui.row (h:Bui w0 w F B A1 c1 A2 c2 A3 c3 T N R st G vb vs m1 m2 Z L Tm):Bui w0 w F B A1 c1 A2 c2 A3 c3 T N R st G vb vs m1 m2 Z L (Tm++[[]]):=by
 obtain⟨D,n,a,b,d⟩:=h.to_;exact⟨h.bd,h.t0,h.sr,h.at_,⟨D,n,a,b.row,by simpa using d⟩,h.lB,h.l1,h.l2,h.n12,h.hF,h.nil⟩
end
theorem l9 {α:Type} {l:List α} {i:Nat} {x:α} (h:l[i]? =some x):l.set i x=l:=by
 apply Za;intro b;by_cases e:b=i
 ·subst e;rw [List.getElem?_set_self (List.getElem?_eq_some_iff.1 h).1,h]
 ·rw [List.getElem?_set_ne (λa=>e a.symm)]
theorem ic {w:World} {base:Nat} {e:TypeId} {size n g c:Nat} {xs:List Value} (h:w.ownsRow base e size (.slice (some ⟨g,0,none⟩) n c) n xs) {j:Nat} {u:Value} (b:xs[j]? =some u):w.cell? ⟨g,j,none⟩=some u/\w.frozen? ⟨g,j,none⟩=false:=by
 rcases h.2 with⟨a,-⟩|⟨r,q,k,a,s,l,y,t,C,o⟩
 ·cases a
 ·injection a with a _ x
  injection a with a
  injection a with a
  subst a;have d:Blk w g e k:=l;refine⟨?_,d.frozen j⟩;rw [d.cell];rw [<-o,List.getElem?_take]at b
  split at b
  ·simpa using b
  ·cases b
theorem nf {w:World} {base:Nat} {e:TypeId} {size n g c:Nat} {xs:List Value} (h:w.ownsRow base e size (.slice (some ⟨g,0,none⟩) n c) n xs) {j:Nat} (E:j<xs.length) (u:Value):(w.setCell ⟨g,j,none⟩ u).ownsRow base e size (.slice (some ⟨g,0,none⟩) n c) n (xs.set j u):=by
 refine⟨by rw [Zf];exact h.1,?_⟩;rcases h.2 with⟨a,-⟩|⟨C,y,b,a,d,o,q,k,t,s⟩
 ·cases a
 ·right;injection a with a _ l
  injection a with a
  injection a with a
  subst a l;have x:Blk w g e b:=o;refine⟨g,c,b.setIfInBounds j u,rfl,d,x.put j u,q,k,by simpa using t,?_⟩;have r:(b.setIfInBounds j u).toList=b.toList.set j u:=by simp
  rw [r,List.take_set,s]
theorem fG.setT {w w':World} {lo:Nat} {v:Value} {Z:List (Value×Value)} {D:List (List It×List It)} (h:fG w lo NoX v Z D) {i:Nat} {z:Value×Value} {d:List It×List It} {u:Value} {t:List It} (x:Z[i]? =some z) (s:D[i]? =some d)
  (own:w'.ownsRow lo 112 2 v Z.length (di (Z.set i (z.1,u)))) (k:aa (λa=>v.ownBlock=some a) w w') (H:aH w' (StF w' lo NoX v) u t):fG w' lo NoX v (Z.set i (z.1,u)) (D.set i (d.1,t)):=by
 have hi:=(List.getElem?_eq_some_iff.1 x).1;have E:=(List.getElem?_eq_some_iff.1 s).1;have o: ∀a,StF w lo NoX v a-> ¬v.ownBlock=some a:=λa j=>j.2.2.1
 have q: ∀a,StF w lo NoX v a->StF w' lo NoX v a:=λa j=>⟨j.1,Zl j.2.1 k.size,j.2.2⟩
 refine⟨by rw [Zf];exact own,by simp [h.len],λl y r g b=> ?_⟩;by_cases e:l=i
 ·subst e;rw [List.getElem?_set_self hi]at g;rw [List.getElem?_set_self E]at b;injection g with g
  injection b with b
  subst g b;exact⟨((h.it l z d x s).1.touch k o).mono q,H⟩
 ·rw [List.getElem?_set_ne (λC=>e C.symm)]at g b;exact⟨((h.it l y r g b).1.touch k o).mono q,((h.it l y r g b).2.touch k o).mono q⟩
theorem infoTrans:(prog.info? 131).map (λi=>(i.zero,i.size,i.bytes))=some (some (.agg #[.int .i64 0,.int .i64 0]),2,16):=by kernel_rfl
theorem elemTrans:dZ prog 110 131 (.agg #[.int .i64 0,.int .i64 0]) 2 16:=⟨underlying110,infoTrans,rfl,by decide⟩
def rI (w:World) (G:ac) (st ck:Int) (e:Ending) (w':World):Prop:=
 Below w.heap.size w w'/\((ck≠0/\e= .returned (.tuple #[.slice none 0 0,.int .i64 ck]))\/
  (ck=0/\iR G st none/\e= .returned (.tuple #[.slice none 0 0,.int .i64 7]))\/
  (ck=0/\ ∃L T A n c,iR G st (some (L,T))/\e= .returned (.tuple #[.slice A n c,.int .i64 0])/\dG w' (λb=>w.heap.size<=b/\b<w'.heap.size) (.slice A n c) (stD L T)))
def dl (t:List It) (m:Nat):List It:=t.filter λx=>decide (x.1<=(m:Int))
theorem D6 (t:List It) (m:Nat):(dl t m).length<=t.length:=List.length_filter_le _ _
theorem D7 {t:List It} {p:Nat} (h: ∀a∈t,a.1<=(p:Int)):dl t p=t:=by
 unfold dl;rw [List.filter_eq_self];intro a b;exact decide_eq_true (h a b)
theorem Bq {t:List It} (h: ∀a∈t,1<=a.1):dl t 0=[]:=by
 unfold dl;rw [List.filter_eq_nil_iff];intro a b;have:=h a b;simp;omega
theorem Ep {t:List It} {m:Nat} (h: ∀g,(((m+1:Nat):Int),g)∉t):dl t (m+1)=dl t m:=by
 unfold dl;apply List.filter_congr;intro a d;rw [Bool.eq_iff_iff,decide_eq_true_eq,decide_eq_true_eq];constructor
 ·intro b;have:a.1≠((m+1:Nat):Int):=λe=>h a.2 (by rw [<-e];exact d)
  omega
 ·intro b;omega
theorem wC: ∀{t:List It} {m:Nat} {tq9:Int},t.Pairwise (λg j=>g.1<j.1)->(((m+1:Nat):Int),tq9)∈t->dl t (m+1)=dl t m++[(((m+1:Nat):Int),tq9)]
 |[],m,tq9,_,h=>by cases h
 |x::r,m,tq9,hp,h=>by
  obtain⟨b,l⟩:=List.pairwise_cons.1 hp;by_cases e:x=(((m+1:Nat):Int),tq9)
  ·have a: ∀n:Nat,n<=m+1->dl r n=[]:=λn u=>by
    unfold dl;rw [List.filter_eq_nil_iff];intro s q;have:=b s q;rw [e]at this;simp only at this;simp only [decide_eq_true_eq];omega
   unfold dl at a⊢;rw [List.filter_cons_of_pos (by rw [e];simp),List.filter_cons_of_neg (by rw [e];simp;omega),a _ (Zj _),a m (by omega),e];rfl
  ·have hm:=(List.mem_cons.1 h).resolve_left (λk=>e k.symm);have o:=b _ hm;simp only at o;have d:=wC l hm;unfold dl at d⊢;rw [List.filter_cons_of_pos (by simp;omega),List.filter_cons_of_pos (by simp;omega),d];rfl
theorem Bld.by_ {G:ac} {st:Int} {i:Nat} {L T:List (List It)} (h:Bld G st i L T) (j:KnA G st): ∀a∈L,(∀b∈a,aQ G st b=true)/\jr a/\a.length<=1000000:=by
 intro a l;have g: ∀b∈a,aQ G st b=true:=by
  rcases h.f.kind a l with e|⟨o,r,e,-⟩
  ·intro b d;rw [e]at d;obtain rfl:=Zh.1 d;have u:aD G st (G.rules.length:Int)=((0,[st]),true):=by unfold aD;rw [if_neg (by omega),if_pos rfl]
   unfold aQ;simp only;rw [u];simp
  ·intro b d;rw [e]at d;exact rp d
 refine⟨g,λb d=> ?_,?_⟩
 ·obtain⟨⟨t,H⟩,c,K⟩:=j.right (g b d);exact⟨⟨t,by omega⟩,c,by omega⟩
 ·have C:dY a:=by
   rcases h.f.kind a l with e|⟨o,r,e,-⟩
   ·rw [e];exact List.pairwise_singleton _ _
   ·rw [e];exact(jg G st o r).1
  have M:mh G st a+a.length<=(kI G st).length:=by
   have: ∀(a:List It),a.Nodup->(∀b∈a,aQ G st b=true)->mh G st a+a.length<=(kI G st).length:=by
    intro a
    induction a with
    |nil=>intro _ _;unfold mh;rw [Ze,Nat.add_zero];exact List.length_filter_le _ _
    |cons b q E=>
     intro x g;obtain⟨d,y⟩:=List.nodup_cons.1 x;have:=E y (λs k=>g s (by simp [k]));have O:mh G st (b::q)<mh G st q:=EE (λs k=>by simp [k]) (g b (by simp)) d (by simp);simp only [Zd];omega
   exact this a C.nodup g
  have:=zl j.short j.r;omega
theorem B8 {G:ac} {st:Int} (a:KnA G st) (k:List It) (s:Int):(∀d∈nxI G st k s,aQ G st d=true)/\jr (nxI G st k s)/\(nxI G st k s).length<=1000000:=by
 refine⟨λd b=>rp b,λd b=> ?_,?_⟩
 ·obtain⟨⟨g,h⟩,c,j⟩:=a.right (rp b);exact⟨⟨g,by omega⟩,c,by omega⟩
 ·have:=zl a.short a.r;unfold nxI;exact Zk (vi _) (Zk (List.length_filter_le _ _) (by omega))
theorem B6: ∀(T:List (List It)) (m:Nat),(∀t∈T,t.length<=m)->(T.map List.length).sum<=T.length * m
 |[],m,_=>by simp
 |t::r,m,h=>by
  have:=B6 r m (λb a=>h b (by simp [a]));have:=h t (by simp);rw [List.map_cons,List.sum_cons,Zd,Zi,Zm];omega
end
section
open Go.RowKit
attribute [local irreducible] wpStill aB aO
structure StL (J:Nat->Prop) (V:World) (ow:Nat->Nat) (V':World) (ow':Nat->Nat):Prop where
 t:aa (λb=>J (ow b)) V V'
 eq: ∀b,b<V.heap.size->ow' b=ow b
def ext (V:World) (ow:Nat->Nat) (i:Nat):Nat->Nat:=λb=>if b<V.heap.size then ow b else i
theorem bV {V:World} {ow:Nat->Nat} {i b:Nat} (h:b<V.heap.size):ext V ow i b=ow b:=if_pos h
theorem dz {V:World} {ow:Nat->Nat} {i b:Nat} (h:V.heap.size<=b):ext V ow i b=i:=if_neg (by omega)
section
variable {J J' : Nat -> Prop} {V V' V'' : World} {ow ow' ow'' : Nat -> Nat} {i : Nat}
theorem StL.refl (J:Nat->Prop) (V:World) (ow:Nat->Nat):StL J V ow V ow:=⟨aa.refl _ _,λ_ _=>rfl⟩
theorem StL.trans (h:StL J V ow V' ow') (g:StL J V' ow' V'' ow''):StL J V ow V'' ow'':=
 ⟨h.t.trans g.t (λa b d=>by rw [h.eq a b]at d;exact d),λa b=>(g.eq a (Zl b h.t.size)).trans (h.eq a b)⟩
theorem StL.mono (h:StL J V ow V' ow') (a: ∀i,J i->J' i):StL J' V ow V' ow':=⟨h.t.mono λd _ b=>a _ b,h.eq⟩
theorem StL.new (J:Nat->Prop) (b:Below V.heap.size V V') (ow:Nat->Nat) (i:Nat):StL J V ow V' (ext V ow i):=⟨aa.of_size b _,λb a=>bV a⟩
theorem StL.ext (t:aa (λa=>J (ow a)) V V') (i:Nat):StL J V ow V' (ext V ow i):=⟨t,λa b=>bV b⟩
theorem StL.size (h:StL J V ow V' ow'):V.heap.size<=V'.heap.size:=h.t.size
def TF (V:World) (ow:Nat->Nat) (I:Nat->Prop) (b:Nat):Prop:=b<V.heap.size/\I (ow b)
theorem TF.step {I:Nat->Prop} (s:StL J V ow V' ow') {b:Nat} (h:TF V ow I b):TF V' ow' I b:=⟨Zl h.1 s.size,by rw [s.eq b h.1];exact h.2⟩
theorem TF.out {I:Nat->Prop} (a: ∀i,I i-> ¬J i) {b:Nat} (h:TF V ow I b): ¬J (ow b):=a _ h.2
theorem Rd.step {I:Nat->Prop} {v:Value} {size:Nat} {xs:List Value} (h:Rd V (TF V ow I) v size xs) (s:StL J V ow V' ow') (d: ∀i,I i-> ¬J i):Rd V' (TF V' ow' I) v size xs:=
 (h.touch s.t (λb a=>a.out d)).mono (λb a=>a.step s)
theorem dG.step {I:Nat->Prop} {v:Value} {D:List (List It×List It)} (h:dG V (TF V ow I) v D) (s:StL J V ow V' ow') (a: ∀i,I i-> ¬J i):dG V' (TF V' ow' I) v D:=by
 obtain⟨Z,k,l,d⟩:=h;exact⟨Z,k.step s a,l,λi z b j g=>⟨(d i z b j g).1.step s a,(d i z b j g).2.step s a⟩⟩
end
structure Row (V:World) (ow:Nat->Nat) (i:Nat) (e:TypeId) (size:Nat) (A:Option Addr) (n c:Nat) (xs:List Value):Prop where
 own:V.ownsRow 0 e size (.slice A n c) n xs
 tag: ∀g,(Value.slice A n c).ownBlock=some g->ow g=i
section
variable {J : Nat -> Prop} {V V' : World} {ow ow' : Nat -> Nat} {i : Nat} {e : TypeId} {size : Nat} {A : Option Addr} {n c : Nat} {xs : List Value}
theorem Row.nil (V:World) (ow:Nat->Nat) (i:Nat) (e:TypeId) (size:Nat):Row V ow i e size none 0 0 []:=⟨World.ownsRow_nil _ _ _ _,λa h=>by simp [Value.ownBlock]at h⟩
theorem Row.step (h:Row V ow i e size A n c xs) (s:StL J V ow V' ow') (hi: ¬J i):Row V' ow' i e size A n c xs:=
 ⟨s.t.own h.own (λa b=>by rw [h.tag a b];exact hi),λa b=>(s.eq a (h.own.lt a b).2).trans (h.tag a b)⟩
theorem Row.rd (h:Row V ow i e size A n c xs):Rd V (TF V ow (λd=>d=i)) (.slice A n c) size xs:=(Rd.of_own h.own).mono λa b=>⟨(h.own.lt a b).2,h.tag a b⟩
theorem Row.app {m j:Nat} {d:Option Addr} {l:List Value} (h:Row V ow i e size A n c xs) (own:V'.ownsRow 0 e size (.slice d (n+m) j) (n+m) (xs++l)) (g:V.grownBy V' (Value.slice A n c).ownBlock) (b:(Value.slice d (n+m) j).ownBlock=(Value.slice A n c).ownBlock\/(Value.slice d (n+m) j).ownBlock=some V.heap.size):
  Row V' (ext V ow i) i e size d (n+m) j (xs++l)/\StL (λo=>o=i) V ow V' (ext V ow i):=by
 refine⟨⟨own,λk a=> ?_⟩,StL.ext ((aa.refl _ _).grown g (λk a _=>h.tag k a)) i⟩;rcases b with b|b
 ·rw [b]at a;rw [bV (h.own.lt k a).2];exact h.tag k a
 ·rw [b]at a;injection a with a
  exact dz (Nat.le_of_eq a)
end
structure Rows (V:World) (ow:Nat->Nat) (i:Nat) (e:TypeId) (size P n:Nat) (vs:Nat->Value) (xs:Nat->List Value):Prop where
 cell: ∀k,k<n->V.cell? ⟨P,k,none⟩=some (vs k)
 frz: ∀k,k<n->V.frozen? ⟨P,k,none⟩=false
 own: ∀k,k<n-> ∃m,V.ownsRow 0 e size (vs k) m (xs k)
 apart: ∀k l b,k<n->l<n->(vs k).ownBlock=some b->(vs l).ownBlock=some b->k=l
 tag: ∀k b,k<n->(vs k).ownBlock=some b->ow b=i/\b≠P
 hP:P<V.heap.size/\ow P=i
section
variable {J : Nat -> Prop} {V V' : World} {ow ow' : Nat -> Nat} {i : Nat} {e : TypeId} {size P n : Nat} {vs : Nat -> Value} {xs : Nat -> List Value}
theorem Rows.step (h:Rows V ow i e size P n vs xs) (s:StL J V ow V' ow') (hi: ¬J i):Rows V' ow' i e size P n vs xs where
 cell:=λk a=>s.t.cell (h.cell k a) (by rw [h.hP.2];exact hi)
 frz:=λk a=>(World.frozen?_of_block (a:=⟨P,k,none⟩) (s.t.block P h.hP.1 (by rw [h.hP.2];exact hi))).trans (h.frz k a)
 own:=λk a=>by
  obtain⟨m,hm⟩:=h.own k a;exact⟨m,s.t.own hm (λg j=>by rw [(h.tag k g a j).1];exact hi)⟩
 apart:=h.apart
 tag:=λk b a d=>by
  obtain⟨m,hm⟩:=h.own k a;exact⟨(s.eq b (hm.lt b d).2).trans (h.tag k b a d).1,(h.tag k b a d).2⟩
 hP:=⟨Zl h.hP.1 s.size,(s.eq P h.hP.1).trans h.hP.2⟩
theorem Rows.at_ (h:Rows V ow i e size P n vs xs) {k:Nat} (b:k<n) (j:0<size): ∃A m c,vs k= .slice A m c/\V.cell? ⟨P,k,none⟩=some (.slice A m c)/\Row V ow i e size A m c (xs k)/\(xs k).length=m * size:=by
 obtain⟨m,hm⟩:=h.own k b;obtain⟨A,c,a,-,-⟩:=bH hm;exact⟨A,m,c,a,by rw [h.cell k b,a],⟨a▸hm,λd g=>(h.tag k d b (a▸g)).1⟩,hm.1⟩
theorem Rows.app {k:Nat} {A q:Option Addr} {m d c r:Nat} {W:List Value} (h:Rows V ow i e size P n vs xs) (t:k<n) (ak:vs k= .slice A m c) (own:V'.ownsRow 0 e size (.slice q (m+d) r) (m+d) (xs k++W)) (g:V.grownBy V' (Value.slice A m c).ownBlock) (s:(Value.slice q (m+d) r).ownBlock=(Value.slice A m c).ownBlock\/(Value.slice q (m+d) r).ownBlock=some V.heap.size):
  Rows (V'.setCell ⟨P,k,none⟩ (.slice q (m+d) r)) (ext V ow i) i e size P n (upd vs k (.slice q (m+d) r)) (upd xs k (xs k++W))/\StL (λb=>b=i) V ow (V'.setCell ⟨P,k,none⟩ (.slice q (m+d) r)) (ext V ow i):=by
 rw [<-ak]at g s;have K: ∀b,b<n-> ∀a,(vs b).ownBlock=some a->a<V.heap.size:=λb j a s=>by
  obtain⟨m,hm⟩:=h.own b j;exact(hm.lt a s).2
 have E:aa (λa=>(vs k).ownBlock=some a) V V':=(aa.refl _ _).grown g (λk e _=>e);have Q: ¬(vs k).ownBlock=some P:=λe=>(h.tag k P t e).2 rfl
 have Y:aa (λa=>ow a=i) V (V'.setCell ⟨P,k,none⟩ (.slice q (m+d) r)):=(E.mono (S':=λa=>ow a=i) (λa _ e=>(h.tag k a t e).1)).setCell (p:=⟨P,k,none⟩) (λ_=>h.hP.2) _;have ad:aa (λa=>a=P) V' (V'.setCell ⟨P,k,none⟩ (.slice q (m+d) r)):=(aa.refl (λa=>a=P) V').setCell (p:=⟨P,k,none⟩) (λ_=>rfl) _;have H: ∀a,(Value.slice q (m+d) r).ownBlock=some a->((vs k).ownBlock=some a)\/a=V.heap.size:=λa o=>by
  rcases s with s|s
  ·exact .inl (s▸o)
  ·rw [s]at o;injection o with o;exact .inr o.symm
 have U: ∀a,(Value.slice q (m+d) r).ownBlock=some a->a≠P:=λa o=>by
  rcases H a o with e|e
  ·exact(h.tag k a t e).2
  ·have:=h.hP.1;omega
 refine⟨⟨λb j=> ?_,λb j=>(World.frozen?_setCell ..).trans ((World.frozen?_of_block (a:=⟨P,b,none⟩) (E.block P h.hP.1 Q)).trans (h.frz b j)),λb j=> ?_,λb C a j S l u=> ?_,λb a j l=> ?_,⟨Zl h.hP.1 Y.size,(bV h.hP.1).trans h.hP.2⟩⟩,StL.ext Y i⟩
 ·by_cases e:b=k
  ·subst e;rw [aC];exact World.cell?_setCell_same' _ _ _ (by rw [E.cell (h.cell b j) Q];rfl)
  ·rw [aN e,World.cell?_setCell_other _ _ _ _ (λO=>by injection O with _ O;exact e O.symm)];exact E.cell (h.cell b j) Q
 ·by_cases e:b=k
  ·subst e;rw [aC,aC];exact⟨m+d,ad.own own (λa o e=>U a o e)⟩
  ·rw [aN e,aN e];obtain⟨al,ai⟩:=h.own b j;exact⟨al,ad.own (E.own ai (λa o M=>e (h.apart b k a j t o M))) (λa o M=>(h.tag b a j o).2 M)⟩
 ·by_cases x:b=k
  ·by_cases y:C=k
   ·rw [x,y]
   ·exfalso;rw [x,aC]at l;rw [aN y]at u;rcases H a l with e|e
    ·exact y (h.apart k C a t S e u).symm
    ·have:=K C S a u;omega
  ·rw [aN x]at l;by_cases y:C=k
   ·exfalso;rw [y,aC]at u;rcases H a u with e|e
    ·exact x (h.apart b k a j t l e)
    ·have:=K b j a l;omega
   ·rw [aN y]at u;exact h.apart b C a j S l u
 ·by_cases x:b=k
  ·rw [x,aC]at l;refine⟨?_,U a l⟩;rcases H a l with e|e
   ·rw [bV (K k t a e)];exact(h.tag k a t e).1
   ·exact dz (by omega)
  ·rw [aN x]at l;exact⟨(bV (K b j a l)).trans (h.tag b a j l).1,(h.tag b a j l).2⟩
theorem Rows.made {b:World} {ow:Nat->Nat} {i n P:Nat} {e t:TypeId} {size:Nat} (k:Blk b P t (madeCells #[.slice none 0 0] n)) (h:ow P=i):Rows b ow i e size P n (λ_=> .slice none 0 0) (λ_=>[]):=
 ⟨λa g=>(k.cell a).trans (mD _ _ _ g),λa _=>k.frozen a,λa _=>⟨0,World.ownsRow_nil _ _ _ _⟩,λ_ _ d _ _ e=>by simp [Value.ownBlock]at e,λ_ d _ e=>by simp [Value.ownBlock]at e,k.lt,h⟩
end
def dx (V:World) (F:Nat->Prop) (m:Nat) (p:Value) (f:Nat->Bool):Prop:=(p= .pointer none/\f=aj)\/ ∃b S,p=aq b/\aG V b S m f/\ ∀k,S k->F k
section
variable {J : Nat -> Prop} {V V' : World} {ow ow' : Nat -> Nat} {F F' : Nat -> Prop} {m : Nat} {p : Value} {f : Nat -> Bool}
theorem dx.mono (h:dx V F m p f) (l: ∀a,F a->F' a):dx V F' m p f:=h.imp id λ⟨d,b,g,j,k⟩=>⟨d,b,g,j,λa o=>l a (k a o)⟩
theorem dx.touch {S':Nat->Prop} (h:dx V F m p f) (t:aa S' V V') (l: ∀a,F a-> ¬S' a):dx V' F m p f:=h.imp id λ⟨g,d,j,k,b⟩=>⟨g,d,j,k.touch t (λa o=>l a (b a o)),b⟩
theorem dx.step {I:Nat->Prop} (h:dx V (TF V ow I) m p f) (s:StL J V ow V' ow') (d: ∀i,I i-> ¬J i):dx V' (TF V' ow' I) m p f:=(h.touch s.t (λb a=>a.out d)).mono (λb a=>a.step s)
theorem dx.high (h:dx V F m p f): ∀a,m<=a->f a=false:=by
 rcases h with⟨-,rfl⟩|⟨d,b,-,h,-⟩
 ·exact λ_ _=>rfl
 ·exact h.high
theorem uS {f:Nat->Bool} {n:Nat}:(eL f n 0<0)↔ ∀a,a<n->f a=false:=by
 rcases lQ f n 0 with⟨l,b,d,j,g,-⟩|⟨b,d⟩
 ·rw [b];constructor
  ·intro h;omega
  ·intro h;rw [h l j]at g;cases g
 ·rw [b];exact⟨λ_ a k=>d a (Zn _) k,λ_=>by omega⟩
theorem uK (h:dx V F m p f):Calls prog 230 #[p,.int .i64 0] V λe w'=>e= .returned (.int .i64 (eL f m 0))/\V=w':=by
 rcases h with⟨rfl,rfl⟩|⟨b,a,rfl,h,-⟩
 ·have:eL aj m 0= -1:=qK (λ_ _ _=>rfl);rw [this];exact xG 0 V
 ·exact nY h 0 (by decide)
theorem kY {b:Nat} {S:Nat->Prop} {g:Nat->Bool} (d:aG V b S m g) (h:dx V F m p f):Calls prog 232 #[aq b,p] V (pq V b S m (λa=>g a||f a) (aE m g (λa=>g a||f a))):=by
 rcases h with⟨rfl,rfl⟩|⟨q,o,rfl,h,-⟩
 ·have k:(λa=>g a||aj a)=g:=by funext a;simp [aj]
  rw [k,oH];exact(xK d).mono λe w' ⟨l,j⟩=>⟨l,j▸d,j▸aa.refl _ _⟩
 ·exact nd d h
end
structure Tl where
 f:Nat->Bool
 em:Bool
def iZ (ps:List Value) (l:List Tl):List Value:=(List.zip ps l).flatMap λx=>[x.1,.bool x.2.em]
def ja (V:World) (F:Nat->Prop) (m:Nat) (z:Value) (l:List Tl):Prop:= ∃ps:List Value,ps.length=l.length/\Rd V F z 2 (iZ ps l)/\ ∀(j:Nat) p x,ps[j]? =some p->l[j]? =some x->dx V F m p x.f
def eo (ps:List Value) (l:List Co):List Value:=(List.zip ps l).flatMap λx=>[.int .i64 x.2.s,x.1,.bool x.2.self]
def ph (V:World) (F:Nat->Prop) (m:Nat) (p:Value) (f:Nat->Bool):Prop:= ∃b S,p=aq b/\aG V b S m f/\ ∀k,S k->F k
theorem ph.mono {V:World} {F F':Nat->Prop} {m:Nat} {p:Value} {f:Nat->Bool} (h:ph V F m p f) (l: ∀a,F a->F' a):ph V F' m p f:=by
 obtain⟨d,b,g,j,k⟩:=h;exact⟨d,b,g,j,λa o=>l a (k a o)⟩
theorem ph.step {V V':World} {ow ow':Nat->Nat} {J I:Nat->Prop} {m:Nat} {p:Value} {f:Nat->Bool} (h:ph V (TF V ow I) m p f) (s:StL J V ow V' ow') (o: ∀i,I i-> ¬J i):ph V' (TF V' ow' I) m p f:=by
 obtain⟨j,g,k,l,d⟩:=h;exact⟨j,g,k,l.touch s.t (λb a=>(d b a).out o),λb a=>(d b a).step s⟩
def jA (V:World) (F:Nat->Prop) (m:Nat) (z:Value) (l:List Co):Prop:= ∃ps:List Value,ps.length=l.length/\Rd V F z 3 (eo ps l)/\ ∀(j:Nat) p x,ps[j]? =some p->l[j]? =some x->ph V F m p x.f
structure Ed where
 tq9:Int
 at_:Nat
 f:Nat->Bool
 self:Bool
def lf (ps:List Value) (l:List Ed):List Value:=(List.zip ps l).flatMap λx=>[.int .i64 x.2.tq9,.int .i64 x.2.at_,x.1,.bool x.2.self]
section
variable {J I : Nat -> Prop} {V V' : World} {ow ow' : Nat -> Nat} {m : Nat} {z : Value}
theorem ja.step {l:List Tl} (h:ja V (TF V ow I) m z l) (s:StL J V ow V' ow') (a: ∀i,I i-> ¬J i):ja V' (TF V' ow' I) m z l:=by
 obtain⟨q,b,d,g⟩:=h;exact⟨q,b,d.step s a,λo p r j k=>(g o p r j k).step s a⟩
theorem jA.step {l:List Co} (h:jA V (TF V ow I) m z l) (s:StL J V ow V' ow') (a: ∀i,I i-> ¬J i):jA V' (TF V' ow' I) m z l:=by
 obtain⟨q,b,d,g⟩:=h;exact⟨q,b,d.step s a,λo p r j k=>(g o p r j k).step s a⟩
end
theorem jJ {X:Type} {k:Nat} {f:X->List Value} (b: ∀g,(f g).length=k): ∀d:List X,(d.flatMap f).length=d.length * k
 |[]=>by simp
 |a::r=>by rw [Zb,Zc,b,jJ b r,Zd,Zi,Zm,Nat.add_comm]
theorem ez {X:Type} {k:Nat} {f:X->List Value} (b: ∀x,(f x).length=k): ∀{l:List X} {i j:Nat} {x:X},l[i]? =some x->j<k->(l.flatMap f)[i * k+j]? =(f x)[j]?
 |[],i,j,x,h,_=>by simp at h
 |a::r,0,j,x,h,hj=>by
  have:a=x:=by simpa using h
  subst this;rw [Zb,Nat.zero_mul,Nat.zero_add,List.getElem?_append_left (by rw [b];exact hj)]
 |a::r,i+1,j,x,h,hj=>by
  rw [Zb,List.getElem?_append_right (by rw [b,Zi];omega),b,show(i+1) * k+j - k=i * k+j by rw [Zi];omega];exact ez b (by simpa using h) hj
theorem qh {X d:Type} {a:List X} {b:List d} (h:a.length=b.length) {i:Nat} {y:d} (g:b[i]? =some y): ∃j,a[i]? =some j/\(List.zip a b)[i]? =some (j,y):=by
 have hi:=(List.getElem?_eq_some_iff.1 g).1;exact⟨a[i],List.getElem?_eq_getElem (by omega),by rw [List.getElem?_zip_eq_some];exact⟨List.getElem?_eq_getElem (by omega),g⟩⟩
theorem qg {X d:Type} {a:List X} {b:List d} (h:a.length=b.length):(List.zip a b).length=b.length:=by rw [List.length_zip];omega
theorem ja.at_ {V:World} {F:Nat->Prop} {m:Nat} {A:Option Addr} {n c:Nat} {l:List Tl} (h:ja V F m (.slice A n c) l):n=l.length/\n<=c/\c<=maxLen/\(0<n-> ∃b d,A=some ⟨b,d,none⟩/\F b/\ ∀(i:Nat) a,l[i]? =some a-> ∃p,V.cell? ⟨b,d+i * 2,none⟩=some p/\V.cell? ⟨b,d+i * 2+1,none⟩=some (.bool a.em)/\dx V F m p a.f):=by
 obtain⟨ad,g,⟨U,Y,W,S,y,C,j,E⟩,H⟩:=h;injection S with r s t
 subst r s t;unfold iZ at j;rw [jJ (k:=2) (λ_=>rfl),qg g]at j;refine⟨by omega,y,C,λO=> ?_⟩;obtain⟨b,d,K,M,k⟩:=E O;refine⟨b,d,K,M,λi a o=> ?_⟩;obtain⟨p,Q,q⟩:=qh g o;have u:=ez (k:=2) (f:=λa:Value×Tl=>[a.1,.bool a.2.em]) (λ_=>rfl) q (j:=0) (by omega);have x:=ez (k:=2) (f:=λa:Value×Tl=>[a.1,.bool a.2.em]) (λ_=>rfl) q (j:=1) (by omega);exact⟨p,k _ _ u,by have:=k _ _ x;rw [<-Nat.add_assoc]at this;exact this,H i p a Q o⟩
theorem jA.at_ {V:World} {F:Nat->Prop} {m:Nat} {A:Option Addr} {n c:Nat} {l:List Co} (h:jA V F m (.slice A n c) l):n=l.length/\n<=c/\c<=maxLen/\(0<n-> ∃b d,A=some ⟨b,d,none⟩/\F b/\ ∀(i:Nat) a,l[i]? =some a-> ∃p,V.cell? ⟨b,d+i * 3,none⟩=some (.int .i64 a.s)/\V.cell? ⟨b,d+i * 3+1,none⟩=some p/\V.cell? ⟨b,d+i * 3+2,none⟩=some (.bool a.self)/\ph V F m p a.f):=by
 obtain⟨ai,k,⟨W,ad,Y,U,C,E,o,H⟩,K⟩:=h;injection U with r s t
 subst r s t;unfold eo at o;rw [jJ (k:=3) (λ_=>rfl),qg k]at o;refine⟨by omega,C,E,λQ=> ?_⟩;obtain⟨b,d,M,O,g⟩:=H Q;refine⟨b,d,M,O,λi a q=> ?_⟩;obtain⟨p,S,j⟩:=qh k q;have u:=ez (k:=3) (f:=λa:Value×Co=>[.int .i64 a.2.s,a.1,.bool a.2.self]) (λ_=>rfl) j (j:=0) (by omega);have x:=ez (k:=3) (f:=λa:Value×Co=>[.int .i64 a.2.s,a.1,.bool a.2.self]) (λ_=>rfl) j (j:=1) (by omega);have y:=ez (k:=3) (f:=λa:Value×Co=>[.int .i64 a.2.s,a.1,.bool a.2.self]) (λ_=>rfl) j (j:=2) (by omega);exact⟨p,g _ _ u,by have:=g _ _ x;rw [<-Nat.add_assoc]at this;exact this,by have:=g _ _ y;rw [<-Nat.add_assoc]at this;exact this,K i p a S q⟩
end
end Go.Proofs.YthlbjgabhpdbfaaGreat

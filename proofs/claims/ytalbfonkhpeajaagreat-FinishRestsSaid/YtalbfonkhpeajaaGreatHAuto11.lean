/- The automaton: the maps of the states, and of the ways. -/
import Derived.Test.YtalbfonkhpeajaaGreatHItem8
import Derived.Test.YtalbfonkhpeajaaGreatHAutoPlain
import Derived.Test.YtalbfonkhpeajaaGreatHAuto8
namespace Go.Proofs.YtalbfonkhpeajaaGreat
set_option linter.unusedVariables false
section
set_option linter.unusedSimpArgs false
open Go.RowKit Go.Maps
theorem Tryz.strKeyd:Keyed Tryz.prog 9:=Maps.string_keyed Tryz.underlying9
def kkey (k:List It):Lit:= .string (keyL k)
theorem kkey_some {k:List It} (h:k.length≤1000000):keyOf Tryz.prog 9 (.string (keyB k))=some (kkey k):=by
 have:=Go.WideMaps.keyOf_string_mk (P:=Tryz.prog) (s:=keyB k) Tryz.underlying9 (by
  have e:(keyB k).size=(keyL k).length:=by unfold keyB;simp [ByteArray.size]
  rw [e,keyL_len];unfold maxLen;omega)
 rw [this]
 unfold kkey keyB
 simp
def AllBy (k:List It):Prop:= ∀x∈k,ByI x
theorem kkey_inj {k k':List It} (h:AllBy k) (h':AllBy k') (e:kkey k=kkey k'):k=k':=by
 unfold kkey at e
 injection e with e
 exact keyL_inj h h' e
structure AtMap (D:DataW Unit) (L:List (List It)):Prop where
 isMap:Maps.IsMap D
 has: ∀k,AllBy k→(Maps.has D (kkey k)=true↔k∈L)
 at_: ∀(i:Nat) k,AllBy k→L[i]? =some k→ ∀z,D.atKey (kkey k) z= .lit (.int .i64 i)
theorem AtMap.empty:AtMap (.map []) []:=⟨Maps.isMap_empty,fun _ _=>by simp [Maps.has],fun _ _ _ h=>by simp at h⟩
theorem AtMap.put {D:DataW Unit} {L:List (List It)} (h:AtMap D L) {k:List It} (hL: ∀q∈L,AllBy q) (hk:AllBy k) (hn:k∉L):AtMap (D.put (kkey k) (.lit (.int .i64 L.length))) (L++[k]):=by
 have hkl:WideAt.IsKeyLit (kkey k):=by unfold kkey;simp [WideAt.IsKeyLit]
 refine⟨h.isMap.put _ _,fun t ht=> ?_,fun i t ht hi z=> ?_⟩
 ·by_cases e:t=k
  ·subst e
   rw [Maps.has_put_same h.isMap hkl];simp
  ·rw [Maps.has_put_other (fun c=>e (kkey_inj ht hk c)),h.has t ht];simp [e]
 ·by_cases e:t=k
  ·subst e
   rw [Maps.atKey_put_same h.isMap hkl]
   rw [List.getElem?_append]at hi
   split at hi
   ·exact absurd (List.mem_of_getElem? hi) hn
   ·rename_i hlt
    rw [List.getElem?_singleton]at hi
    split at hi
    ·rw [show i=L.length by omega]
    ·cases hi
  ·rw [Maps.atKey_put_other (fun c=>e (kkey_inj ht hk c))]
   rw [List.getElem?_append]at hi
   split at hi
   ·exact h.at_ i t ht hi z
   ·rw [List.getElem?_singleton]at hi
    split at hi
    ·injection hi with hi;exact absurd hi.symm e
    ·cases hi
theorem Tryz.pairRow:(104:TypeId)<Tryz.prog.types.size:=of_decide_eq_true (by kernel_rfl)
theorem Tryz.pairLaw:WideMaps.KeyLaw Tryz.prog 104:=deep_law_laid Tryz.laidOut (m:=3) (by omega) Tryz.pairRow (by kernel_rfl) (by kernel_rfl)
theorem Tryz.pairKeyed:Keyed Tryz.prog 104:=Keyed.of_law Tryz.pairLaw
theorem Tryz.pairKeyType:Tryz.prog.keyType 104=true:=by kernel_rfl
theorem Tryz.pairCells:Tryz.prog.cellsOf 104=2:=by kernel_rfl
abbrev PaV (i s:Int):Value:= .agg #[.int .i64 i,.int .i64 s]
theorem key_pair {i s:Int} (hx:WfI (i,s)): ∃kl,keyOf Tryz.prog 104 (PaV i s)=some kl:=by
 have h1:=wf_i64_mk hx.1
 have h2:=wf_i64_mk hx.2
 have hpos:0<Tryz.prog.types.size:=Nat.lt_of_le_of_lt (Nat.zero_le _) Tryz.pairRow
 obtain⟨d,hd⟩:=Nat.exists_eq_succ_of_ne_zero (Nat.ne_of_gt hpos)
 have hu:=Tryz.underlying104
 have hi:=Tryz.underlying3
 have hc:=Tryz.pairCells
 have hci:=Tryz.intCells
 have hk: ∀n:Int,(Lit.int .i64 n).wf=true→Tryz.prog.keyLits (d+1) 3 [.int .i64 n]=some [.int .i64 n]:=fun n hn=>by
  unfold Program.keyLits
  simp only [hi]
  simp [hn]
 have hf:(PaV i s).formed Tryz.prog 104=true:=by simp [Value.formed,hu,hc]
 refine Option.isSome_iff_exists.1 ?_
 unfold keyOf
 simp only [hu]
 rw [Tryz.pairKeyType,hf,hd]
 unfold Program.keyLits
 simp only [hu]
 simp [Value.cells,hc,hci]
 rw [show List.range 2=[0,1]from rfl]
 simp [hk _ h1,hk _ h2]
noncomputable def pkey (i s:Int):Lit:=(keyOf Tryz.prog 104 (PaV i s)).getD (.bool false)
theorem pkey_some {i s:Int} (hx:WfI (i,s)):keyOf Tryz.prog 104 (PaV i s)=some (pkey i s):=by
 obtain⟨kl,h⟩:=key_pair hx
 unfold pkey
 rw [h];rfl
attribute [irreducible] pkey
theorem pkey_inj {i s i' s':Int} (hx:WfI (i,s)) (hy:WfI (i',s')) (h:pkey i s=pkey i' s'):i=i'∧s=s':=by
 have e:=Tryz.pairKeyed.inj (pkey_some hx) (by rw [h];exact pkey_some hy)
 injection e with e
 have e1:=congrArg (fun a:Array Value=>a[0]?) e
 have e2:=congrArg (fun a:Array Value=>a[1]?) e
 simp at e1 e2
 exact⟨e1,e2⟩
structure ToMap (D:DataW Unit) (T:List (List It)):Prop where
 isMap:Maps.IsMap D
 has: ∀(i:Nat) (s:Int),WfI ((i:Int),s)→(Maps.has D (pkey i s)=true↔ ∃t to,T[i]? =some t∧((s,to):It)∈t)
 at_: ∀(i:Nat) (s to:Int) t,WfI ((i:Int),s)→T[i]? =some t→((s,to):It)∈t→ ∀z,D.atKey (pkey i s) z= .lit (.int .i64 to)
theorem ToMap.empty:ToMap (.map []) []:=⟨Maps.isMap_empty,fun _ _ _=>by simp [Maps.has],fun _ _ _ _ _ h=>by simp at h⟩
theorem ToMap.row {D:DataW Unit} {T:List (List It)} (h:ToMap D T):ToMap D (T++[[]]):=by
 have key: ∀(i:Nat) (t:List It),(T++[[]])[i]? =some t→t≠[]→T[i]? =some t:=fun i t hi hn=>by
  rw [List.getElem?_append]at hi
  split at hi
  ·exact hi
  ·rw [List.getElem?_singleton]at hi
   split at hi
   ·injection hi with hi;exact absurd hi.symm hn
   ·cases hi
 refine⟨h.isMap,fun i s hw=>(h.has i s hw).trans ⟨fun⟨t,to,h1,h2⟩=>⟨t,to,?_,h2⟩,fun⟨t,to,h1,h2⟩=>⟨t,to,key i t h1 (fun e=>by rw [e]at h2;cases h2),h2⟩⟩,fun i s to t hw h1 h2=>h.at_ i s to t hw (key i t h1 (fun e=>by rw [e]at h2;cases h2)) h2⟩
 rw [List.getElem?_append_left (List.getElem?_eq_some_iff.1 h1).1];exact h1
theorem ToMap.put {D:DataW Unit} {T:List (List It)} {t:List It} (h:ToMap D (T++[t])) {s to:Int} (hw:WfI ((T.length:Int),s)) (hn: ∀x∈t,x.1≠s):ToMap (D.put (pkey T.length s) (.lit (.int .i64 to))) (T++[t++[(s,to)]]):=by
 have hkl:=Tryz.pairKeyed.key (pkey_some hw)
 -- the two lists,row by row
 have hrow: ∀(i:Nat),i≠T.length→(T++[t++[(s,to)]])[i]? =(T++[t])[i]? :=fun i hi=>by
  rcases Nat.lt_trichotomy i T.length with e|e|e
  ·rw [List.getElem?_append_left e,List.getElem?_append_left e]
  ·exact absurd e hi
  ·rw [List.getElem?_eq_none (by simp;omega),List.getElem?_eq_none (by simp;omega)]
 have hlast: ∀u:List It,(T++[u])[T.length]? =some u:=fun u=>by simp
 refine⟨h.isMap.put _ _,fun i q hq=> ?_,fun i q to' u hq hi hu z=> ?_⟩
 ·by_cases e:i=T.length∧q=s
  ·obtain⟨rfl,rfl⟩:=e
   rw [Maps.has_put_same h.isMap hkl]
   exact⟨fun _=>⟨_,to,hlast _,by simp⟩,fun _=>rfl⟩
  ·rw [Maps.has_put_other (fun c=>e (by have:=pkey_inj hq hw c;omega)),h.has i q hq]
   by_cases ei:i=T.length
   ·subst ei
    rw [hlast,hlast]
    constructor
    ·rintro⟨u,to',h1,h2⟩
     injection h1 with h1
     subst h1
     exact⟨_,to',rfl,List.mem_append_left _ h2⟩
    ·rintro⟨u,to',h1,h2⟩
     injection h1 with h1
     subst h1
     rcases List.mem_append.1 h2 with h2|h2
     ·exact⟨_,to',rfl,h2⟩
     ·have:=List.mem_singleton.1 h2
      injection this with this _
      exact absurd ⟨rfl,this⟩ e
   ·rw [hrow i ei]
 ·by_cases e:i=T.length∧q=s
  ·obtain⟨rfl,rfl⟩:=e
   rw [Maps.atKey_put_same h.isMap hkl]
   rw [hlast]at hi
   injection hi with hi
   subst hi
   rcases List.mem_append.1 hu with hu|hu
   ·exact absurd rfl (hn _ hu)
   ·have:=List.mem_singleton.1 hu
    injection this with _ this
    rw [this]
  ·rw [Maps.atKey_put_other (fun c=>e (by have:=pkey_inj hq hw c;omega))]
   by_cases ei:i=T.length
   ·subst ei
    rw [hlast]at hi
    injection hi with hi
    subst hi
    rcases List.mem_append.1 hu with hu|hu
    ·exact h.at_ _ q to' t hq (hlast _) hu z
    ·have:=List.mem_singleton.1 hu
     injection this with this _
     exact absurd ⟨rfl,this⟩ e
   ·rw [hrow i ei]at hi
    exact h.at_ i q to' u hq hi hu z
end
section
set_option linter.unusedSimpArgs false
open Go.RowKit Go.Maps
def stD (L T:List (List It)):List (List It×List It):=L.mapIdx fun i k=>(k,(T[i]?).getD [])
theorem stD_len (L T:List (List It)):(stD L T).length=L.length:=by unfold stD;simp
theorem stD_get {L T:List (List It)} {i:Nat}:(stD L T)[i]? =(L[i]?).map fun k=>(k,(T[i]?).getD []):=by
 unfold stD
 rw [List.getElem?_mapIdx]
theorem stD_snoc {L T:List (List It)} (h:T.length≤L.length) (k:List It):stD (L++[k]) T=stD L T++[(k,[])]:=by
 apply List.ext_getElem?
 intro i
 rw [stD_get]
 rcases Nat.lt_trichotomy i L.length with e|e|e
 ·rw [List.getElem?_append_left e,List.getElem?_append_left (by rw [stD_len];exact e),stD_get]
 ·subst e
  rw [List.getElem?_concat_length,←stD_len L T,List.getElem?_concat_length,List.getElem?_eq_none (by rw [stD_len];exact h)]
  rfl
 ·rw [List.getElem?_eq_none (l:=L++[k]) (by simp;omega),List.getElem?_eq_none (l:=stD L T++[(k,[])]) (by simp [stD_len];omega)];rfl
theorem stD_next {L T:List (List It)} {k:List It} (hk:L[T.length]? =some k) (t:List It):stD L (T++[t])=(stD L T).set T.length (k,t):=by
 apply List.ext_getElem?
 intro i
 rw [stD_get]
 by_cases e:i=T.length
 ·subst e
  rw [List.getElem?_set_self (by rw [stD_len];exact(List.getElem?_eq_some_iff.1 hk).1),hk]
  simp
 ·rw [List.getElem?_set_ne (fun e'=>e e'.symm),stD_get]
  congr 1
  funext q
  rcases Nat.lt_or_ge i T.length with e'|e'
  ·rw [List.getElem?_append_left e']
  ·rw [List.getElem?_eq_none (by simp;omega),List.getElem?_eq_none (by omega)]
abbrev stCells (Z:List (Value×Value)):List Value:=Z.flatMap fun p=>[p.1,p.2]
theorem stCells_len: ∀Z:List (Value×Value),(stCells Z).length=Z.length * 2
 |[]=>rfl
 |p::r=>by
  have:=stCells_len r
  simp only [stCells,List.flatMap_cons,List.length_append,List.length_cons,List.length_nil]at *
  omega
theorem stCells_snoc (Z:List (Value×Value)) (p:Value×Value):stCells (Z++[p])=stCells Z++[p.1,p.2]:=by simp [stCells]
theorem stCells_get: ∀{Z:List (Value×Value)} {i:Nat} {p:Value×Value},Z[i]? =some p→(stCells Z)[i * 2]? =some p.1∧(stCells Z)[i * 2+1]? =some p.2
 |[],i,p,h=>by simp at h
 |q::r,0,p,h=>by simp at h;subst h;exact⟨rfl,rfl⟩
 |q::r,i+1,p,h=>by
  have:=stCells_get (Z:=r) (i:=i) (p:=p) (by simpa using h)
  rw [show(i+1) * 2=i * 2+1+1 by omega]
  simpa [stCells]using this
theorem stCells_set: ∀{Z:List (Value×Value)} {i:Nat} {p:Value×Value} (u:Value),Z[i]? =some p→stCells (Z.set i (p.1,u))=(stCells Z).set (i * 2+1) u
 |[],i,p,u,h=>by simp at h
 |q::r,0,p,u,h=>by simp at h;subst h;simp [stCells]
 |q::r,i+1,p,u,h=>by
  have:=stCells_set (Z:=r) (i:=i) (p:=p) u (by simpa using h)
  rw [show(i+1) * 2+1=i * 2+1+1+1 by omega]
  simpa [stCells]using this
theorem Tryz.infoState:(Tryz.prog.info? 48).map (fun i=>(i.zero,i.size,i.bytes))=some (some (.agg #[.slice none 0 0,.slice none 0 0]),2,48):=by kernel_rfl
theorem Tryz.elemState:Elem Tryz.prog 29 48 (.agg #[.slice none 0 0,.slice none 0 0]) 2 48:=⟨Tryz.underlying29,Tryz.infoState,rfl,by decide⟩
def StF (w:World) (lo:Nat) (X:Nat→Prop) (v:Value) (b:Nat):Prop:=lo≤b∧b<w.heap.size∧v.ownBlock≠some b∧ ¬X b
structure SRow (w:World) (lo:Nat) (X:Nat→Prop) (v:Value) (Z:List (Value×Value)) (D:List (List It×List It)):Prop where
 own:w.ownsRow lo 48 2 v Z.length (stCells Z)
 len:Z.length=D.length
 it: ∀(i:Nat) z d,Z[i]? =some z→D[i]? =some d→RdIt w (StF w lo X v) z.1 d.1∧RdIt w (StF w lo X v) z.2 d.2
section
variable {w w' : World} {lo : Nat} {X : Nat → Prop} {v : Value} {Z : List (Value × Value)} {D : List (List It × List It)}
theorem SRow.touch {S:Nat→Prop} (h:SRow w lo X v Z D) (ht:Touch S w w') (hS: ∀b,lo≤b→b<w.heap.size→ ¬X b→ ¬S b) (hv: ∀b,v.ownBlock=some b→ ¬S b):SRow w' lo X v Z D:=
 ⟨ht.own h.own hv,h.len,fun i z d hz hd=>by
  obtain⟨h1,h2⟩:=h.it i z d hz hd
  have f1: ∀b,StF w lo X v b→ ¬S b:=fun b hb=>hS b hb.1 hb.2.1 hb.2.2.2
  have f2: ∀b,StF w lo X v b→StF w' lo X v b:=fun b hb=>⟨hb.1,Nat.lt_of_lt_of_le hb.2.1 ht.size,hb.2.2⟩
  exact⟨(h1.touch ht f1).mono f2,(h2.touch ht f1).mono f2⟩⟩
theorem SRow.below (h:SRow w lo X v Z D) (hb:Below w.heap.size w w'):SRow w' lo X v Z D:=h.touch (Touch.of_size hb (fun _=>False)) (fun _ _ _ _ e=>e) (fun _ _ e=>e)
theorem SRow.drew (h:SRow w lo X v Z D):SRow w.drew lo X v Z D:=h.below ((Below.refl _ w).drew)
theorem SRow.mono {X':Nat→Prop} (h:SRow w lo X v Z D) (hX: ∀b,X' b→X b∨ ¬(lo≤b∧b<w.heap.size)):SRow w lo X' v Z D:=
 ⟨h.own,h.len,fun i z d hz hd=>by
  have f: ∀b,StF w lo X v b→StF w lo X' v b:=fun b hb=>⟨hb.1,hb.2.1,hb.2.2.1,fun e=>by
   rcases hX b e with e|e
   ·exact hb.2.2.2 e
   ·exact e ⟨hb.1,hb.2.1⟩⟩
  exact⟨(h.it i z d hz hd).1.mono f,(h.it i z d hz hd).2.mono f⟩⟩
theorem SRow.nil (w:World) (lo:Nat) (X:Nat→Prop):SRow w lo X (.slice none 0 0) [] []:=⟨World.ownsRow_nil _ _ _ _,rfl,fun i z d hz=>by simp at hz⟩
theorem SRow.app {kv:Value} {k:List It} {A:Option Addr} {c:Nat} (h:SRow w lo X v Z D) (hk:RdIt w (StF w lo X v) kv k) (own:w'.ownsRow lo 48 2 (.slice A (Z.length+1) c) (Z.length+1) (stCells Z++[kv,.slice none 0 0])) (g:w.grownBy w' v.ownBlock) (hb:(Value.slice A (Z.length+1) c).ownBlock=v.ownBlock∨(Value.slice A (Z.length+1) c).ownBlock=some w.heap.size):
  SRow w' lo X (.slice A (Z.length+1) c) (Z++[(kv,.slice none 0 0)]) (D++[(k,[])]):=by
 have t:Touch (fun b=>v.ownBlock=some b) w w':=(Touch.refl _ _).grown g (fun b e _=>e)
 have f1: ∀b,StF w lo X v b→ ¬v.ownBlock=some b:=fun b hb=>hb.2.2.1
 have f2: ∀b,StF w lo X v b→StF w' lo X (.slice A (Z.length+1) c) b:=fun b hb'=>⟨hb'.1,Nat.lt_of_lt_of_le hb'.2.1 t.size,fun e=>by
  rcases hb with hb|hb
  ·exact hb'.2.2.1 (hb▸e)
  ·rw [hb]at e;injection e with e;have:=hb'.2.1;omega,hb'.2.2.2⟩
 refine⟨by rw [List.length_append,stCells_snoc];exact own,by simp [h.len],fun i z d hz hd=> ?_⟩
 rcases Nat.lt_trichotomy i Z.length with e|e|e
 ·rw [List.getElem?_append_left e]at hz
  rw [List.getElem?_append_left (by rw [←h.len];exact e)]at hd
  exact⟨((h.it i z d hz hd).1.touch t f1).mono f2,((h.it i z d hz hd).2.touch t f1).mono f2⟩
 ·subst e
  rw [List.getElem?_concat_length]at hz
  rw [h.len,List.getElem?_concat_length]at hd
  injection hz with hz
  injection hd with hd
  subst hz hd
  exact⟨(hk.touch t f1).mono f2,Rd.nil _ _ _⟩
 ·rw [List.getElem?_eq_none (by simp;omega)]at hz;cases hz
theorem SRow.at_ {A:Option Addr} {n c:Nat} (h:SRow w lo X (.slice A n c) Z D) {i:Nat} {d:List It×List It} (hd:D[i]? =some d):n=Z.length∧n≤c∧c≤maxLen∧ ∃g z,A=some ⟨g,0,none⟩∧lo≤g∧g<w.heap.size∧Z[i]? =some z∧i<n∧w.cell? ⟨g,i * 2,none⟩=some z.1∧w.cell? ⟨g,i * 2+1,none⟩=some z.2∧w.frozen? ⟨g,i * 2+1,none⟩=false∧RdIt w (StF w lo X (.slice A n c)) z.1 d.1∧RdIt w (StF w lo X (.slice A n c)) z.2 d.2:=by
 have hi:i<Z.length:=by rw [h.len];exact(List.getElem?_eq_some_iff.1 hd).1
 obtain⟨z,hz⟩: ∃z,Z[i]? =some z:=⟨_,List.getElem?_eq_getElem hi⟩
 obtain⟨h1,h2⟩:=h.it i z d hz hd
 obtain⟨A',c',hv,hnc,hcm⟩:=ownsRow_shape h.own
 injection hv with e1 e2 e3
 subst e1 e2 e3
 refine⟨rfl,hnc,hcm,?_⟩
 rcases h.own.2 with⟨hv,hn0⟩|⟨g,cap,cur,hv,hb,hh,hn,hc,hz',ht⟩
 ·omega
 ·injection hv with hv _ _
  subst hv
  have kb:Blk w g 48 cur:=hh
  obtain⟨c1,c2⟩:=stCells_get hz
  have get: ∀j u,(stCells Z)[j]? =some u→w.cell? ⟨g,j,none⟩=some u:=fun j u hu=>by
   rw [kb.cell]
   rw [←ht,List.getElem?_take]at hu
   split at hu
   ·simpa using hu
   ·cases hu
  exact⟨g,z,rfl,hb,kb.lt,hz,hi,get _ _ c1,get _ _ c2,kb.frozen _,h1,h2⟩
end
end
section
set_option linter.unusedSimpArgs false
open Go.RowKit Go.Maps
attribute [local irreducible] wpStill wpOne wpPh
def NoX:Nat→Prop:=fun _=>False
structure Bui (w0 w:World) (F:Nat→Prop) (B:Nat) (A1:Option Addr) (c1:Nat) (A2:Option Addr) (c2:Nat) (A3:Option Addr) (c3 T N R:Nat) (st:Int) (G:GramD) (vb vs:Value) (m1 m2:Nat) (Z:List (Value×Value)) (L Tm:List (List It)):Prop where
 bd:Bd w F B A1 c1 A2 c2 A3 c3 T N R st G vb vs m1 m2
 t0:Touch (fun b=>b=B∨b=m1∨b=m2) w0 w
 sr:SRow w w0.heap.size NoX vs Z (stD L [])
 at_: ∃D:DataW Unit,w.ownsMap Tryz.prog 9 (plainElem Tryz.prog 3) m1 L.length D∧AtMap D L
 to_: ∃(D:DataW Unit) (n:Nat),w.ownsMap Tryz.prog 104 (plainElem Tryz.prog 3) m2 n D∧ToMap D Tm∧n≤(Tm.map List.length).sum
 lB:B<w0.heap.size
 l1:m1<w0.heap.size
 l2:m2<w0.heap.size
 n12:m1≠m2
 hF: ∀b,F b→b≠B∧b≠m1∧b≠m2∧b<w0.heap.size
 nil: ∀z∈Z,z.2= .slice none 0 0
section
variable {w0 w w' : World} {F : Nat → Prop} {B : Nat} {A1 : Option Addr} {c1 : Nat} {A2 : Option Addr} {c2 : Nat} {A3 : Option Addr} {c3 T N R : Nat} {st : Int} {G : GramD} {vb vs : Value} {m1 m2 : Nat} {Z : List (Value × Value)} {L Tm : List (List It)}
theorem Bui.nB (h:Bui w0 w F B A1 c1 A2 c2 A3 c3 T N R st G vb vs m1 m2 Z L Tm):B≠m1∧B≠m2:=by
 obtain⟨D1,a1,-⟩:=h.at_
 obtain⟨D2,n,a2,-⟩:=h.to_
 exact⟨fun e=>h.bd.blk.ne_map a1 e.symm,fun e=>h.bd.blk.ne_map a2 e.symm⟩
theorem Bui.below (h:Bui w0 w F B A1 c1 A2 c2 A3 c3 T N R st G vb vs m1 m2 Z L Tm) (hb:Below w.heap.size w w'):Bui w0 w' F B A1 c1 A2 c2 A3 c3 T N R st G vb vs m1 m2 Z L Tm:=by
 obtain⟨D1,a1,a2⟩:=h.at_
 obtain⟨D2,n,b1,b2,b3⟩:=h.to_
 have t:Touch (fun _=>False) w w':=Touch.of_size hb _
 exact⟨h.bd.below hb,h.t0.trans t (fun _ _ e=>e.elim),h.sr.below hb,⟨D1,t.ownsMap a1 (fun e=>e),a2⟩,⟨D2,n,t.ownsMap b1 (fun e=>e),b2,b3⟩,h.lB,h.l1,h.l2,h.n12,h.hF,h.nil⟩
theorem Bui.drew (h:Bui w0 w F B A1 c1 A2 c2 A3 c3 T N R st G vb vs m1 m2 Z L Tm):Bui w0 w.drew F B A1 c1 A2 c2 A3 c3 T N R st G vb vs m1 m2 Z L Tm:=h.below ((Below.refl _ w).drew)
theorem Bui.add {w1 w2 w3:World} {D:DataW Unit} {A:Option Addr} {c:Nat} {kv:Value} {k:List It} {X:Obj} (h:Bui w0 w F B A1 c1 A2 c2 A3 c3 T N R st G vb vs m1 m2 Z L Tm) (hm:w1.ownsMap Tryz.prog 9 (plainElem Tryz.prog 3) m1 (L.length+1) D) (hD:AtMap D (L++[k])) (g1:w.grownBy w1 (some m1)) (h2:w2=w1.alloc X)
  (hk:RdIt w2 (StF w2 w0.heap.size NoX vs) kv k) (own:w3.ownsRow w0.heap.size 48 2 (.slice A (Z.length+1) c) (Z.length+1) (stCells Z++[kv,.slice none 0 0])) (g:w2.grownBy w3 vs.ownBlock) (hb:(Value.slice A (Z.length+1) c).ownBlock=vs.ownBlock∨(Value.slice A (Z.length+1) c).ownBlock=some w2.heap.size):
  Bui w0 (w3.setCell ⟨B,5,none⟩ (.slice A (Z.length+1) c)) F B A1 c1 A2 c2 A3 c3 T N R st G vb (.slice A (Z.length+1) c) m1 m2 (Z++[(kv,.slice none 0 0)]) (L++[k]) Tm∧Touch (fun b=>b=B∨b=m1∨vs.ownBlock=some b) w (w3.setCell ⟨B,5,none⟩ (.slice A (Z.length+1) c))∧(∀b,(Value.slice A (Z.length+1) c).ownBlock=some b→vs.ownBlock=some b∨w.heap.size≤b):=by
 obtain⟨nB1,nB2⟩:=h.nB
 obtain⟨D2,n,b1,b2,b3⟩:=h.to_
 have hvl: ∀b,vs.ownBlock=some b→w0.heap.size≤b∧b<w.heap.size:=fun b e=>h.sr.own.lt b e
 have lB:=h.lB
 have l1:=h.l1
 have l2:=h.l2
 have lo:=h.t0.size
 have t1:Touch (fun b=>b=m1) w w1:=(Touch.refl _ _).grown g1 (fun b e _=>by injection e with e;exact e.symm)
 have t2:Touch (fun b=>b=m1) w w2:=by rw [h2];exact t1.alloc X
 have t23:Touch (fun b=>vs.ownBlock=some b) w2 w3:=(Touch.refl _ _).grown g (fun b e _=>e)
 have t3:Touch (fun b=>b=m1∨vs.ownBlock=some b) w w3:=(t2.mono (S':=fun b=>b=m1∨vs.ownBlock=some b) (fun _ _ e=> .inl e)).trans t23 (fun _ _ e=> .inr e)
 have t34:Touch (fun b=>b=B) w3 (w3.setCell ⟨B,5,none⟩ (.slice A (Z.length+1) c)):=(Touch.refl (fun b=>b=B) w3).setCell (p:=⟨B,5,none⟩) (fun _=>rfl) _
 have t4:Touch (fun b=>b=B∨b=m1∨vs.ownBlock=some b) w (w3.setCell ⟨B,5,none⟩ (.slice A (Z.length+1) c)):=(t3.mono (S':=fun b=>b=B∨b=m1∨vs.ownBlock=some b) (fun _ _ e=> .inr e)).trans t34 (fun _ _ e=> .inl e)
 have hnew: ∀b,(Value.slice A (Z.length+1) c).ownBlock=some b→vs.ownBlock=some b∨w.heap.size≤b:=fun b e=>by
  rcases hb with hb|hb
  ·exact .inl (hb▸e)
  ·rw [hb]at e;injection e with e;have:=t2.size;right;omega
 have hvb: ∀b,(Value.slice A (Z.length+1) c).ownBlock=some b→w0.heap.size≤b:=fun b e=>(hnew b e).elim (fun e=>(hvl b e).1) (fun e=>by omega)
 have bk3:Blk w3 B 101 _:=h.bd.blk.touch t3 (fun e=>e.elim nB1 (fun e=>by have:=hvl B e;omega))
 have bk4:=bk3.put 5 (.slice A (Z.length+1) c)
 have sr2:=h.sr.touch t2 (fun b h1 h2 _ e=>by omega) (fun b e e'=>by have:=hvl b e;omega)
 have sr3:=sr2.app hk own g hb
 have sr4:=sr3.touch t34 (fun b h1 h2 _ e=>by omega) (fun b e e'=>by have:=hvb b e;omega)
 have hm2:w2.ownsMap Tryz.prog 9 (plainElem Tryz.prog 3) m1 (L.length+1) D:=by
  rw [h2];exact((Touch.refl (fun _=>False) w1).alloc X).ownsMap hm (fun e=>e)
 have t24:Touch (fun b=>vs.ownBlock=some b∨b=B) w2 (w3.setCell ⟨B,5,none⟩ (.slice A (Z.length+1) c)):=(t23.mono (S':=fun b=>vs.ownBlock=some b∨b=B) (fun _ _ e=> .inl e)).trans t34 (fun _ _ e=> .inr e)
 refine⟨⟨⟨h.bd.gram.touch t4 (fun b hb' e=> ?_),bk4⟩,?_,?_,⟨D,?_,hD⟩,⟨D2,n,?_,b2,b3⟩,lB,l1,l2,h.n12,h.hF,fun z hz=>(List.mem_append.1 hz).elim (h.nil z) (fun hz=>by rw [List.mem_singleton.1 hz])⟩,t4,hnew⟩
 ·obtain⟨f1,f2,f3,f4⟩:=h.hF b hb'
  rcases e with e|e|e
  ·exact f1 e
  ·exact f2 e
  ·have:=hvl b e;omega
 ·refine h.t0.trans t4 (fun b hb' e=> ?_)
  rcases e with e|e|e
  ·exact .inl e
  ·exact .inr (.inl e)
  ·have:=hvl b e;omega
 ·rw [stD_snoc (by simp)]
  exact sr4
 ·rw [List.length_append]
  exact t24.ownsMap hm2 (fun e=>e.elim (fun e=>by have:=hvl _ e;omega) (fun e=>nB1 e.symm))
 ·exact t4.ownsMap b1 (fun e=>by
   rcases e with e|e|e
   ·exact nB2 e.symm
   ·exact h.n12 e.symm
   ·have:=hvl _ e;omega)
end
def StatePost (w0 w:World) (F:Nat→Prop) (B:Nat) (A1:Option Addr) (c1:Nat) (A2:Option Addr) (c2:Nat) (A3:Option Addr) (c3 T N R:Nat) (st:Int) (G:GramD) (vb vs:Value) (m1 m2:Nat) (p:List (List It)×Int) (Tm:List (List It)) (e:Ending) (w':World):Prop:=
 e= .returned (.int .i64 p.2)∧ ∃vs' Z',Bui w0 w' F B A1 c1 A2 c2 A3 c3 T N R st G vb vs' m1 m2 Z' p.1 Tm∧Touch (fun b=>b=B∨b=m1∨vs.ownBlock=some b) w w'∧(∀b,vs'.ownBlock=some b→vs.ownBlock=some b∨w.heap.size≤b)
set_option maxRecDepth 100000 in
set_option maxHeartbeats 4000000 in
theorem auto_state {w0 w:World} {F:Nat→Prop} {B:Nat} {A1:Option Addr} {c1:Nat} {A2:Option Addr} {c2:Nat} {A3:Option Addr} {c3 T N R:Nat} {st:Int} {G:GramD} {vb vs:Value} {m1 m2:Nat} {Z:List (Value×Value)} {L Tm:List (List It)}
  (h:Bui w0 w F B A1 c1 A2 c2 A3 c3 T N R st G vb vs m1 m2 Z L Tm) {v:Value} {k:List It} (hk:RdIt w (StF w w0.heap.size NoX vs) v k) (hby:AllBy k) (hL: ∀q∈L,AllBy q) (hll:L.length≤100000) (hkl:k.length≤1000000):
  Calls Tryz.prog 42 #[PtB B,v] w (StatePost w0 w F B A1 c1 A2 c2 A3 c3 T N R st G vb vs m1 m2 (putK L k) Tm):=by
 obtain⟨A,n,c,rfl,-⟩:=id hk
 have ck:=auto_key hk (fun b hb=>hb.2.1) hkl hby
 obtain⟨As,ns,cs,rfl,hsn,hsc,hsm⟩: ∃As ns cs,vs= .slice As ns cs∧ns=Z.length∧ns≤cs∧cs≤maxLen:=by
  obtain⟨As,cs,e,h1,h2⟩:=ownsRow_shape h.sr.own
  exact⟨As,_,cs,e,rfl,h1,h2⟩
 have hZL:ns=L.length:=by rw [hsn,h.sr.len,stD_len]
 unfold maxLen at hsm
 have hkey:=kkey_some hkl
 obtain⟨pk,hpk⟩: ∃q,q=putK L k:=⟨_,rfl⟩
 rw [←hpk]
 obtain⟨kb,hkb⟩: ∃q,q=keyB k:=⟨_,rfl⟩
 rw [←hkb]at ck hkey
 have Xh:=hide h;have Xhk:=hide hk;have Xhby:=hide hby;have XhL:=hide hL;have Xck:=hide ck;have Xhkl:=hide hkl;have Xhkb:=hide hkb;have Xhsn:=hide hsn;have Xhpk:=hide hpk;clear h hk hby hL ck hkl hkb hsn hpk
 rw [←hZL]at hll
 have XhZL:=hide hZL;clear hZL
 go_enter Tryz.func42,Tryz.ntmps42
 go_wp2_with fail
 refine Xck.out.mono ?_
 rintro e w1 ⟨rfl,b1⟩
 have h1:=Xh.out.below b1
 have hk1:RdIt w1 (StF w1 w0.heap.size NoX (.slice As ns cs)) (.slice A n c) k:=(Xhk.out.below b1 (fun b hb=>hb.2.1)).mono (fun b hb=>⟨hb.1,Nat.lt_of_lt_of_le hb.2.1 b1.size,hb.2.2⟩)
 obtain⟨D,a1,a2⟩:=h1.at_
 have q6:=(h1.bd.blk.cell 6).trans rfl
 have hh:=a2.has k Xhby.out
 clear Xck Xh Xhk
 by_cases hin:k∈L
 ·have hyes:=hh.2 hin
  obtain⟨i,hi⟩: ∃i,i=L.idxOf k:=⟨_,rfl⟩
  have hat:=a2.at_ i k Xhby.out (by rw [hi];exact idx_get hin)
  have hp:=putK_yes hin
  rw [←hi,←Xhpk.out]at hp
  clear hh
  have Xh1:=hide h1;have Xhk1:=hide hk1;have Xa2:=hide a2;have Xhat:=hide hat;have Xhp:=hide hp;have Xb1:=hide b1;have Xhi:=hide hi;clear h1 hk1 a2 hat hp b1 hi
  go_wp2_with (at_lookup;refine wpList_lookup_own_ok_int _ rfl _ _ 97 rfl 9 3 .i64 Tryz.strKeyd Tryz.underlying97 Tryz.underlying3 (Tryz.zeroInt _) _ _ D rfl a1 _ _ rfl hkey ?_;intro c hat hwc)
  have hcv:c=(i:Int):=by
   rw [Xhat.out]at hat
   injection hat with hat
   injection hat with _ hat
   exact hat.symm
  subst hcv
  clear hat
  go_wp2_with fail
  go_ret
  refine⟨ret_int (by rw [Xhp.out]),.slice As ns cs,Z,by rw [Xhp.out];exact Xh1.out,Touch.of_size Xb1.out _,fun b e=> .inl e⟩
 ·have hno:Maps.has D (kkey k)=false:=by rw [Bool.eq_false_iff];exact fun e=>hin (hh.1 e)
  have hp:=putK_no hin
  rw [←Xhpk.out]at hp
  have h2:=h1.drew
  have q5:=(h1.bd.blk.cell 5).trans rfl
  have a1d:w1.drew.ownsMap Tryz.prog 9 (plainElem Tryz.prog 3) m1 L.length D:=a1
  have hwfn:(Lit.int .i64 (ns:Int)).wf=true:=wf_i64_mk (by omega)
  have hLl:L.length<maxLen:=by rw [←XhZL.out];unfold maxLen;omega
  have hput:=a2.put XhL.out Xhby.out hin
  rw [←XhZL.out]at hput
  have hkd:RdIt w1.drew (StF w1.drew w0.heap.size NoX (.slice As ns cs)) (.slice A n c) k:=hk1.drew
  clear hh a2 hk1
  have Xh1:=hide h1;have Xhkd:=hide hkd;have Xhput:=hide hput;have Xhp:=hide hp;have Xb1:=hide b1;have Xh2:=hide h2;clear h1 hkd hput hp b1 h2
  go_wp2_with (at_lookup;refine wpList_lookup_own_ok_int _ rfl _ _ 97 rfl 9 3 .i64 Tryz.strKeyd Tryz.underlying97 Tryz.underlying3 (Tryz.zeroInt _) _ _ D rfl a1 _ _ rfl hkey ?_;intro cc hat hwc)
  clear hat hwc a1 hno
  refine region_tail 10 (by kernel_rfl) (by kernel_rfl) ?_
  simp only [List.take_succ_cons,List.take_zero,List.drop_succ_cons,List.drop_zero]
  repeat still_step
  refine wpStill_nil ?_
  go_wp2_with (at_mapUpdate;refine wpList_mapUpdate_own _ rfl _ _ _ 97 rfl 9 3 Tryz.strKeyd Tryz.underlying97 _ m1 L.length D rfl a1d hLl _ _ _ rfl rfl hkey _ [] (plainElem_int Tryz.underlying3 hwfn) ?_)
  intro w2 m2' g2
  obtain⟨nB1,nB2⟩:=Xh2.out.nB
  have t2:Touch (fun b=>b=m1) w1.drew w2:=(Touch.refl _ _).grown g2 (fun b e _=>by injection e with e;exact e.symm)
  have l1:=Xh2.out.l1
  have hvl: ∀b,(Value.slice As ns cs).ownBlock=some b→w0.heap.size≤b∧b<w1.drew.heap.size:=fun b e=>Xh2.out.sr.own.lt b e
  have bk2:=Xh2.out.bd.blk.touch t2 nB1
  have sr2:=Xh2.out.sr.touch t2 (fun b h1 h2 _ e=>by omega) (fun b e e'=>by have:=hvl b e;omega)
  have hk2:=(Xhkd.out.touch t2 (fun b hb e=>by have:=hb.1;omega)).mono (F':=StF w2 w0.heap.size NoX (.slice As ns cs)) (fun b hb=>⟨hb.1,Nat.lt_of_lt_of_le hb.2.1 t2.size,hb.2.2⟩)
  have q5:=(bk2.cell 5).trans rfl
  have hz2:w0.heap.size≤w2.heap.size:=Nat.le_trans Xh2.out.t0.size t2.size
  obtain⟨w7,hw7⟩: ∃q,q=w2.alloc (.cells #[.slice A n c,.slice none 0 0] 48):=⟨_,rfl⟩
  have b7:Below w2.heap.size w2 w7:=by rw [hw7];exact(Below.refl _ _).alloc (Nat.le_refl _) _
  have sr7:=sr2.below b7
  have own7:=sr7.own
  rw [←Xhsn.out]at own7
  have hk7:=(hk2.below b7 (fun b hb=>hb.2.1)).mono (F':=StF w7 w0.heap.size NoX (.slice As ns cs)) (fun b hb=>⟨hb.1,Nat.lt_of_lt_of_le hb.2.1 b7.size,hb.2.2⟩)
  have bk7:=bk2.below b7 bk2.lt
  have hone:Rd w7 (fun b=>b=w2.heap.size) (.slice (some ⟨w2.heap.size,0,none⟩) 1 1) 2 [.slice A n c,.slice none 0 0]:=by rw [hw7];exact Rd.one' (w:=w2) (e:=48) [.slice A n c,.slice none 0 0] 2 rfl
  have hz7:w0.heap.size≤w7.heap.size:=Nat.le_trans hz2 b7.size
  rw [hw7]at own7 hone hz7
  clear q6 t2 hvl sr2 hk2 hz2 b7 sr7 a1d hwfn
  have Xm2':=hide m2';have Xg2:=hide g2;have Xbk2:=hide bk2;have Xown7:=hide own7;have Xhk7:=hide hk7;have Xbk7:=hide bk7;have Xhone:=hide hone;have XnB1:=hide nB1;have XnB2:=hide nB2;clear m2' g2 bk2 own7 hk7 bk7 hone nB1 nB2
  go_wp2_with (at_builtin;refine wp_append _ rfl (.tmp 35) (.tmp 38) _ rfl Tryz.elemState w0.heap.size _ ns (stCells Z) rfl Xown7.out _ _ [.slice A n c,.slice none 0 0] 1 rfl rfl Xhone.out (by simp [Value.oneCell']) (by unfold maxLen;omega) (by omega) hz7 ?_)
  intro A8 c8 w8 own8 g8 hb8
  rw [←hw7]at g8
  rw [show w2.heap.size+1=w7.heap.size by rw [hw7];simp]at hb8
  obtain⟨had,tad,hnad⟩:=Xh2.out.add (X:= .cells #[.slice A n c,.slice none 0 0] 48) (w1:=w2) (w2:=w7) (w3:=w8) (A:=A8) (c:=c8) (k:=k) Xm2'.out Xhput.out Xg2.out hw7 Xhk7.out (by rw [←Xhsn.out];exact own8) g8 (by rw [←Xhsn.out];exact hb8)
  rw [←Xhsn.out]at had tad hnad
  have hB8:(Value.slice As ns cs).ownBlock≠some B:=fun e=>by
   have:=(Xh2.out.sr.own.lt _ e).1
   have:=Xh2.out.lB
   omega
  have bk8:=Xbk7.out.touch ((Touch.refl (fun b=>(Value.slice As ns cs).ownBlock=some b) w7).grown g8 (fun b e _=>e)) hB8
  have q5:=(bk8.cell 5).trans rfl
  have z5:=bk8.frozen 5
  have q9:=((bk8.put 5 (.slice A8 (ns+1) c8)).cell 5).trans rfl
  have tfin:=(Touch.of_size Xb1.out (fun b=>b=B∨b=m1∨(Value.slice As ns cs).ownBlock=some b)).trans' (b:=w1) (c:=w8.setCell ⟨B,5,none⟩ (.slice A8 (ns+1) c8)) ⟨tad.os,tad.tape,tad.output,tad.size,tad.block⟩
  have hnfin: ∀b,(Value.slice A8 (ns+1) c8).ownBlock=some b→(Value.slice As ns cs).ownBlock=some b∨w.heap.size≤b:=fun b e=>(hnad b e).imp id (fun e=>Nat.le_trans Xb1.out.size e)
  clear own8 g8 hb8 tad hnad bk8 hB8 Xh1 Xh2 Xbk2 Xbk7 Xown7 Xhk7 Xhone Xm2' Xg2 hw7 hz7
  have Xhad:=hide had;have Xtfin:=hide tfin;have Xhnfin:=hide hnfin;clear had tfin hnfin
  have Xhv:=hide (show pk.2=(ns:Int) by rw [Xhp.out,XhZL.out])
  have Xhv1:=hide (show pk.1=L++[k] by rw [Xhp.out])
  go_wp2_with fail
  go_ret
  refine⟨ret_int Xhv.out.symm,_,_,by rw [Xhv1.out];exact Xhad.out,Xtfin.out,Xhnfin.out⟩
end
section
set_option linter.unusedSimpArgs false
open Go.RowKit Go.Maps
def RdSt (w:World) (F:Nat→Prop) (v:Value) (D:List (List It×List It)):Prop:=
 ∃Z:List (Value×Value),Rd w F v 2 (stCells Z)∧Z.length=D.length∧ ∀(i:Nat) z d,Z[i]? =some z→D[i]? =some d→RdIt w F z.1 d.1∧RdIt w F z.2 d.2
section
variable {w w' : World} {F F' : Nat → Prop} {v : Value} {D : List (List It × List It)}
theorem RdSt.touch {S:Nat→Prop} (h:RdSt w F v D) (ht:Touch S w w') (hF: ∀b,F b→ ¬S b):RdSt w' F v D:=by
 obtain⟨Z,h1,h2,h3⟩:=h
 exact⟨Z,h1.touch ht hF,h2,fun i z d hz hd=>⟨(h3 i z d hz hd).1.touch ht hF,(h3 i z d hz hd).2.touch ht hF⟩⟩
theorem RdSt.mono (h:RdSt w F v D) (hF: ∀b,F b→F' b):RdSt w F' v D:=by
 obtain⟨Z,h1,h2,h3⟩:=h
 exact⟨Z,h1.mono hF,h2,fun i z d hz hd=>⟨(h3 i z d hz hd).1.mono hF,(h3 i z d hz hd).2.mono hF⟩⟩
theorem RdSt.below (h:RdSt w F v D) (hb:Below w.heap.size w w') (hF: ∀b,F b→b<w.heap.size):RdSt w' F v D:=by
 obtain⟨Z,h1,h2,h3⟩:=h
 exact⟨Z,h1.below hb hF,h2,fun i z d hz hd=>⟨(h3 i z d hz hd).1.below hb hF,(h3 i z d hz hd).2.below hb hF⟩⟩
theorem RdSt.nil (w:World) (F:Nat→Prop):RdSt w F (.slice none 0 0) []:=⟨[],Rd.nil _ _ _,rfl,fun i z d h=>by simp at h⟩
theorem RdSt.at_ {A:Option Addr} {n c:Nat} (h:RdSt w F (.slice A n c) D):n=D.length∧n≤c∧c≤maxLen∧(0<n→ ∃b off,A=some ⟨b,off,none⟩∧F b∧ ∀(i:Nat) d,D[i]? =some d→ ∃z1 z2,w.cell? ⟨b,off+i * 2,none⟩=some z1∧w.cell? ⟨b,off+i * 2+1,none⟩=some z2∧RdIt w F z1 d.1∧RdIt w F z2 d.2):=by
 obtain⟨Z,⟨A',n',c',hv,h1,h2,hl,hr⟩,h4,h3⟩:=h
 injection hv with e1 e2 e3
 subst e1 e2 e3
 rw [stCells_len]at hl
 refine⟨by omega,h1,h2,fun hn=> ?_⟩
 obtain⟨b,off,hA,hb,hc⟩:=hr hn
 refine⟨b,off,hA,hb,fun i d hd=> ?_⟩
 have hi:i<Z.length:=by rw [h4];exact(List.getElem?_eq_some_iff.1 hd).1
 obtain⟨z,hz⟩: ∃z,Z[i]? =some z:=⟨_,List.getElem?_eq_getElem hi⟩
 obtain⟨k1,k2⟩:=stCells_get hz
 exact⟨z.1,z.2,hc _ _ k1,by rw [Nat.add_assoc];exact hc _ _ k2,(h3 i z d hz hd).1,(h3 i z d hz hd).2⟩
theorem SRow.rd {lo:Nat} {X:Nat→Prop} {Z:List (Value×Value)} (h:SRow w lo X v Z D):RdSt w (fun b=>lo≤b∧b<w.heap.size) v D:=
 ⟨Z,(Rd.of_own h.own).mono (fun b hb=>h.own.lt b hb),h.len,fun i z d hz hd=>⟨(h.it i z d hz hd).1.mono (fun b hb=>⟨hb.1,hb.2.1⟩),(h.it i z d hz hd).2.mono (fun b hb=>⟨hb.1,hb.2.1⟩)⟩⟩
end
theorem GBox.touch' {w w':World} {F:Nat→Prop} {B:Nat} {A1 A2 A3:Option Addr} {c1 c2 c3 T N R:Nat} {st:Int} {G:GramD} {S:Nat→Prop} (h:GBox w F B A1 c1 A2 c2 A3 c3 T N R st G) (ht:Touch S w w') (hF: ∀b,F b→ ¬S b) (hB: ¬S B):GBox w' F B A1 c1 A2 c2 A3 c3 T N R st G:=
 ⟨h.gram.touch ht hF,h.blk.touch ht hB,h.t,h.n,h.r,h.tc,h.nc,h.rc,h.c1m,h.c2m,h.c3m,h.ts,h.ns,h.rs⟩
section
variable {w0 w w' : World} {F : Nat → Prop} {B : Nat} {A1 : Option Addr} {c1 : Nat} {A2 : Option Addr} {c2 : Nat} {A3 : Option Addr} {c3 T N R : Nat} {st : Int} {G : GramD} {vb vs : Value} {m1 m2 : Nat} {Z : List (Value × Value)} {L Tm Tm' : List (List It)}
theorem Bui.way {D:DataW Unit} {n:Nat} (h:Bui w0 w F B A1 c1 A2 c2 A3 c3 T N R st G vb vs m1 m2 Z L Tm) (hm:w'.ownsMap Tryz.prog 104 (plainElem Tryz.prog 3) m2 (n+1) D) (hD:ToMap D Tm') (g:w.grownBy w' (some m2)) (hn:n+1≤(Tm'.map List.length).sum):
  Bui w0 w' F B A1 c1 A2 c2 A3 c3 T N R st G vb vs m1 m2 Z L Tm'∧Touch (fun b=>b=m2) w w':=by
 obtain⟨nB1,nB2⟩:=h.nB
 obtain⟨D1,a1,a2⟩:=h.at_
 have hvl: ∀b,vs.ownBlock=some b→w0.heap.size≤b∧b<w.heap.size:=fun b e=>h.sr.own.lt b e
 have l2:=h.l2
 have t:Touch (fun b=>b=m2) w w':=(Touch.refl _ _).grown g (fun b e _=>by injection e with e;exact e.symm)
 refine⟨⟨h.bd.touch t (fun b hb e=>(h.hF b hb).2.2.1 e) nB2,h.t0.trans t (fun b _ e=> .inr (.inr e)),h.sr.touch t (fun b h1 _ _ e=>by omega) (fun b e e'=>by have:=hvl b e;omega),⟨D1,t.ownsMap a1 h.n12,a2⟩,⟨D,n+1,hm,hD,hn⟩,h.lB,h.l1,h.l2,h.n12,h.hF,h.nil⟩,t⟩
theorem Bui.row (h:Bui w0 w F B A1 c1 A2 c2 A3 c3 T N R st G vb vs m1 m2 Z L Tm):Bui w0 w F B A1 c1 A2 c2 A3 c3 T N R st G vb vs m1 m2 Z L (Tm++[[]]):=by
 obtain⟨D,n,b1,b2,b3⟩:=h.to_
 exact⟨h.bd,h.t0,h.sr,h.at_,⟨D,n,b1,b2.row,by simpa using b3⟩,h.lB,h.l1,h.l2,h.n12,h.hF,h.nil⟩
end
theorem set_get {α:Type} {l:List α} {i:Nat} {x:α} (h:l[i]? =some x):l.set i x=l:=by
 apply List.ext_getElem?
 intro j
 by_cases e:j=i
 ·subst e;rw [List.getElem?_set_self (List.getElem?_eq_some_iff.1 h).1,h]
 ·rw [List.getElem?_set_ne (fun e'=>e e'.symm)]
theorem own_cell {w:World} {base:Nat} {e:TypeId} {size n g c:Nat} {xs:List Value} (h:w.ownsRow base e size (.slice (some ⟨g,0,none⟩) n c) n xs) {j:Nat} {u:Value} (hu:xs[j]? =some u):w.cell? ⟨g,j,none⟩=some u∧w.frozen? ⟨g,j,none⟩=false:=by
 rcases h.2 with⟨hv,-⟩|⟨g',cap,cur,hv,hb,hh,hn,hc,hz,ht⟩
 ·cases hv
 ·injection hv with hv _ hcap
  injection hv with hv
  injection hv with hv
  subst hv
  have k:Blk w g e cur:=hh
  refine⟨?_,k.frozen j⟩
  rw [k.cell]
  rw [←ht,List.getElem?_take]at hu
  split at hu
  ·simpa using hu
  ·cases hu
theorem own_put {w:World} {base:Nat} {e:TypeId} {size n g c:Nat} {xs:List Value} (h:w.ownsRow base e size (.slice (some ⟨g,0,none⟩) n c) n xs) {j:Nat} (hj:j<xs.length) (u:Value):(w.setCell ⟨g,j,none⟩ u).ownsRow base e size (.slice (some ⟨g,0,none⟩) n c) n (xs.set j u):=by
 refine⟨by rw [List.length_set];exact h.1,?_⟩
 rcases h.2 with⟨hv,-⟩|⟨g',cap,cur,hv,hb,hh,hn,hc,hz,ht⟩
 ·cases hv
 ·right
  injection hv with hv _ hcap
  injection hv with hv
  injection hv with hv
  subst hv hcap
  have k:Blk w g e cur:=hh
  refine⟨g,c,cur.setIfInBounds j u,rfl,hb,k.put j u,hn,hc,by simpa using hz,?_⟩
  have hset:(cur.setIfInBounds j u).toList=cur.toList.set j u:=by simp
  rw [hset,List.take_set,ht]
theorem SRow.setT {w w':World} {lo:Nat} {v:Value} {Z:List (Value×Value)} {D:List (List It×List It)} (h:SRow w lo NoX v Z D) {i:Nat} {z:Value×Value} {d:List It×List It} {u:Value} {t:List It} (hz:Z[i]? =some z) (hd:D[i]? =some d)
  (own:w'.ownsRow lo 48 2 v Z.length (stCells (Z.set i (z.1,u)))) (ht:Touch (fun b=>v.ownBlock=some b) w w') (hu:RdIt w' (StF w' lo NoX v) u t):SRow w' lo NoX v (Z.set i (z.1,u)) (D.set i (d.1,t)):=by
 have hi:=(List.getElem?_eq_some_iff.1 hz).1
 have hi':=(List.getElem?_eq_some_iff.1 hd).1
 have f1: ∀b,StF w lo NoX v b→ ¬v.ownBlock=some b:=fun b hb=>hb.2.2.1
 have f2: ∀b,StF w lo NoX v b→StF w' lo NoX v b:=fun b hb=>⟨hb.1,Nat.lt_of_lt_of_le hb.2.1 ht.size,hb.2.2⟩
 refine⟨by rw [List.length_set];exact own,by simp [h.len],fun j z' d' hz' hd'=> ?_⟩
 by_cases e:j=i
 ·subst e
  rw [List.getElem?_set_self hi]at hz'
  rw [List.getElem?_set_self hi']at hd'
  injection hz' with hz'
  injection hd' with hd'
  subst hz' hd'
  exact⟨((h.it j z d hz hd).1.touch ht f1).mono f2,hu⟩
 ·rw [List.getElem?_set_ne (fun e'=>e e'.symm)]at hz' hd'
  exact⟨((h.it j z' d' hz' hd').1.touch ht f1).mono f2,((h.it j z' d' hz' hd').2.touch ht f1).mono f2⟩
theorem Tryz.infoTrans:(Tryz.prog.info? 53).map (fun i=>(i.zero,i.size,i.bytes))=some (some (.agg #[.int .i64 0,.int .i64 0]),2,16):=by kernel_rfl
theorem Tryz.elemTrans:Elem Tryz.prog 46 53 (.agg #[.int .i64 0,.int .i64 0]) 2 16:=⟨Tryz.underlying46,Tryz.infoTrans,rfl,by decide⟩
def AutoPost (w:World) (G:GramD) (st ck:Int) (e:Ending) (w':World):Prop:=
 Below w.heap.size w w'∧((ck≠0∧e= .returned (.tuple #[.slice none 0 0,.int .i64 ck]))∨
  (ck=0∧Auto G st none∧e= .returned (.tuple #[.slice none 0 0,.int .i64 7]))∨
  (ck=0∧ ∃L T A n c,Auto G st (some (L,T))∧e= .returned (.tuple #[.slice A n c,.int .i64 0])∧RdSt w' (fun b=>w.heap.size≤b∧b<w'.heap.size) (.slice A n c) (stD L T)))
def uptoI (t:List It) (m:Nat):List It:=t.filter fun x=>decide (x.1≤(m:Int))
theorem upto_len (t:List It) (m:Nat):(uptoI t m).length≤t.length:=List.length_filter_le _ _
theorem upto_all {t:List It} {p:Nat} (h: ∀x∈t,x.1≤(p:Int)):uptoI t p=t:=by
 unfold uptoI
 rw [List.filter_eq_self]
 intro x hx
 exact decide_eq_true (h x hx)
theorem upto_zero {t:List It} (h: ∀x∈t,1≤x.1):uptoI t 0=[]:=by
 unfold uptoI
 rw [List.filter_eq_nil_iff]
 intro x hx
 have:=h x hx
 simp;omega
theorem upto_no {t:List It} {m:Nat} (h: ∀to,(((m+1:Nat):Int),to)∉t):uptoI t (m+1)=uptoI t m:=by
 unfold uptoI
 apply List.filter_congr
 intro x hx
 rw [Bool.eq_iff_iff,decide_eq_true_eq,decide_eq_true_eq]
 constructor
 ·intro h1
  have:x.1≠((m+1:Nat):Int):=fun e=>h x.2 (by rw [←e];exact hx)
  omega
 ·intro h1;omega
theorem upto_yes: ∀{t:List It} {m:Nat} {to:Int},t.Pairwise (fun a b=>a.1<b.1)→(((m+1:Nat):Int),to)∈t→uptoI t (m+1)=uptoI t m++[(((m+1:Nat):Int),to)]
 |[],m,to,_,h=>by cases h
 |x::r,m,to,hp,h=>by
  obtain⟨h1,h2⟩:=List.pairwise_cons.1 hp
  by_cases e:x=(((m+1:Nat):Int),to)
  ·have hr: ∀n:Nat,n≤m+1→uptoI r n=[]:=fun n hn=>by
    unfold uptoI
    rw [List.filter_eq_nil_iff]
    intro y hy
    have:=h1 y hy
    rw [e]at this
    simp only at this
    simp only [decide_eq_true_eq]
    omega
   unfold uptoI at hr⊢
   rw [List.filter_cons_of_pos (by rw [e];simp),List.filter_cons_of_neg (by rw [e];simp;omega),hr _ (Nat.le_refl _),hr m (by omega),e]
   rfl
  ·have hm:=(List.mem_cons.1 h).resolve_left (fun e'=>e e'.symm)
   have hlt:=h1 _ hm
   simp only at hlt
   have ih:=upto_yes h2 hm
   unfold uptoI at ih⊢
   rw [List.filter_cons_of_pos (by simp;omega),List.filter_cons_of_pos (by simp;omega),ih]
   rfl
theorem Bld.by_ {G:GramD} {st:Int} {i:Nat} {L T:List (List It)} (h:Bld G st i L T) (hK:KnA G st): ∀k∈L,(∀x∈k,rightI G st x=true)∧AllBy k∧k.length≤1000000:=by
 intro k hk
 have hr: ∀x∈k,rightI G st x=true:=by
  rcases h.f.kind k hk with e|⟨q,s,e,-⟩
  ·intro x hx
   rw [e]at hx
   obtain rfl:=List.mem_singleton.1 hx
   have e1:ruleOf G st (G.rules.length:Int)=((0,[st]),true):=by unfold ruleOf;rw [if_neg (by omega),if_pos rfl]
   unfold rightI
   simp only
   rw [e1]
   simp
  ·intro x hx
   rw [e]at hx
   exact nx_right hx
 refine⟨hr,fun x hx=> ?_,?_⟩
 ·obtain⟨⟨a,b⟩,c,d⟩:=hK.right (hr x hx)
  exact⟨⟨a,by omega⟩,c,by omega⟩
 ·have hst:StrictI k:=by
   rcases h.f.kind k hk with e|⟨q,s,e,-⟩
   ·rw [e];exact List.pairwise_singleton _ _
   ·rw [e];exact(nx_is G st q s).1
  have h1:missI G st k+k.length≤(allIt G st).length:=by
   have: ∀(k:List It),k.Nodup→(∀x∈k,rightI G st x=true)→missI G st k+k.length≤(allIt G st).length:=by
    intro k
    induction k with
    |nil=>intro _ _;unfold missI;rw [List.length_nil,Nat.add_zero];exact List.length_filter_le _ _
    |cons x r ih=>
     intro hn hr
     obtain⟨hx,hn'⟩:=List.nodup_cons.1 hn
     have:=ih hn' (fun y hy=>hr y (by simp [hy]))
     have h3:missI G st (x::r)<missI G st r:=miss_lt (fun y hy=>by simp [hy]) (hr x (by simp)) hx (by simp)
     simp only [List.length_cons]
     omega
   exact this k hst.nodup hr
  have:=all_len hK.short hK.r
  omega
theorem out_by {G:GramD} {st:Int} (hK:KnA G st) (k:List It) (s:Int):(∀x∈nxI G st k s,rightI G st x=true)∧AllBy (nxI G st k s)∧(nxI G st k s).length≤1000000:=by
 refine⟨fun x hx=>nx_right hx,fun x hx=> ?_,?_⟩
 ·obtain⟨⟨a,b⟩,c,d⟩:=hK.right (nx_right hx)
  exact⟨⟨a,by omega⟩,c,by omega⟩
 ·have:=all_len hK.short hK.r
  unfold nxI
  exact Nat.le_trans (canon_len _) (Nat.le_trans (List.length_filter_le _ _) (by omega))
theorem sum_le: ∀(T:List (List It)) (m:Nat),(∀t∈T,t.length≤m)→(T.map List.length).sum≤T.length * m
 |[],m,_=>by simp
 |t::r,m,h=>by
  have:=sum_le r m (fun x hx=>h x (by simp [hx]))
  have:=h t (by simp)
  rw [List.map_cons,List.sum_cons,List.length_cons,Nat.add_mul,Nat.one_mul]
  omega
end
end Go.Proofs.YtalbfonkhpeajaaGreat

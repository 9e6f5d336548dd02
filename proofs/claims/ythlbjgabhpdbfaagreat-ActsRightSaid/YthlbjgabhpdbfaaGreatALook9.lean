/- Lookaheads: rights, tails, rules: rows that are built. -/
import Derived.Test.YthlbjgabhpdbfaaGreatALook8
import Derived.Test.YthlbjgabhpdbfaaGreatAFirst4
import Derived.Test.YthlbjgabhpdbfaaGreatABitsL
namespace Go.Proofs.YthlbjgabhpdbfaaGreat
set_option linter.unusedVariables false
set_option linter.unusedSimpArgs false
open Go.RowKit
attribute [local irreducible] wpStill wpOne wpPh
noncomputable def tlOf (G:GramD) (st k:Int):List Tl:=(List.range (rgt G st k).length).map fun j=>⟨lnB G ((rgt G st k).drop (j+1)),emB G ((rgt G st k).drop (j+1))⟩
def rsK (G:GramD) (st:Int) (k:Nat):List (List Int):=(List.range k).map fun i:Nat=>rgt G st i
noncomputable def tlK (G:GramD) (st:Int) (k:Nat):List (List Tl):=(List.range k).map fun i:Nat=>tlOf G st i
theorem rsK_next (G:GramD) (st:Int) (k:Nat):rsK G st (k+1)=rsK G st k++[rgt G st k]:=by unfold rsK;rw [List.range_succ,List.map_append];rfl
theorem tlK_next (G:GramD) (st:Int) (k:Nat):tlK G st (k+1)=tlK G st k++[tlOf G st k]:=by unfold tlK;rw [List.range_succ,List.map_append];rfl
theorem rsK_len (G:GramD) (st:Int) (k:Nat):(rsK G st k).length=k:=by simp [rsK]
theorem tlK_len (G:GramD) (st:Int) (k:Nat):(tlK G st k).length=k:=by simp [tlK]
theorem rsK_get {G:GramD} {st:Int} {k i:Nat} (h:i<k):(rsK G st k)[i]? =some (rgt G st i):=by unfold rsK;rw [List.getElem?_map,List.getElem?_range h];rfl
theorem tlK_get {G:GramD} {st:Int} {k i:Nat} (h:i<k):(tlK G st k)[i]? =some (tlOf G st i):=by unfold tlK;rw [List.getElem?_map,List.getElem?_range h];rfl
theorem tlOf_len (G:GramD) (st k:Int):(tlOf G st k).length=(rgt G st k).length:=by simp [tlOf]
theorem tlOf_get {G:GramD} {st k:Int} {j:Nat} (h:j<(rgt G st k).length):(tlOf G st k)[j]? =some ⟨lnB G ((rgt G st k).drop (j+1)),emB G ((rgt G st k).drop (j+1))⟩:=by unfold tlOf;rw [List.getElem?_map,List.getElem?_range h];rfl
noncomputable def dK (d:LD) (k:Nat):LD:={d with rs:=rsK d.G d.st k,tl:=tlK d.G d.st k,nu:=topOf d.G+1,ru:=fun s=>ofUpto d.G.rules s (min k d.G.rules.length)}
noncomputable def prepD (d:LD) (cm:Nat->List Co):LD:={d with rs:=rsK d.G d.st (d.G.rules.length+1),tl:=tlK d.G d.st (d.G.rules.length+1),nu:=topOf d.G+1,ru:=fun s=>ofOf d.G s,nc:=topOf d.G+1,cm:=cm}
theorem prepD_is (d:LD) (cm:Nat->List Co):PrepD (prepD d cm) where
 rl:=rsK_len _ _ _
 rs:=fun k hk=>rsK_get (Nat.lt_succ_of_le hk)
 tll:=tlK_len _ _ _
 tl:=fun k hk=>⟨_,tlK_get (Nat.lt_succ_of_le hk),tlOf_len _ _ _,fun j hj=>tlOf_get hj⟩
 nu:=rfl
 ru:=fun s _=>rfl
section
variable {V V' : World} {ow : Nat -> Nat} {A A' : Option Addr} {c c' m : Nat}
theorem RgtV.push {rs:List (List Int)} {Z:List Value} {z:Value} {r:List Int} {n:Nat} (hn:n=rs.length) (h1:Z.length=rs.length) (h2:Row V ow 3 49 1 A n c Z) (h3: ∀(i:Nat) z r,Z[i]? =some z->rs[i]? =some r->RdI V (TF V ow (fun t=>t=1\/t=2)) z r) (hz:RdI V (TF V ow (fun t=>t=1\/t=2)) z r)
  (own:V'.ownsRow 0 49 1 (.slice A' (n+1) c') (n+1) (Z++[z])) (g:V.grownBy V' (Value.slice A n c).ownBlock) (hb:(Value.slice A' (n+1) c').ownBlock=(Value.slice A n c).ownBlock\/(Value.slice A' (n+1) c').ownBlock=some V.heap.size):
  RgtV V' (ext V ow 3) A' c' (rs++[r])/\StL (fun j=>j=3) V ow V' (ext V ow 3):=by
 subst hn
 obtain⟨row,s⟩:=h2.app own g hb
 refine⟨⟨Z++[z],by simp [h1],by rw [List.length_append];exact row,fun j u x hu hx=> ?_⟩,s⟩
 by_cases hj:j<Z.length
 ·rw [List.getElem?_append_left hj]at hu
  rw [List.getElem?_append_left (by omega)]at hx
  exact(h3 j u x hu hx).step s (fun t ht=>by omega)
 ·have hj':j=Z.length:=by have:=(List.getElem?_eq_some_iff.1 hu).1;simp at this;omega
  subst hj'
  rw [List.getElem?_append_right (Nat.le_refl _),Nat.sub_self]at hu
  rw [List.getElem?_append_right (by omega),h1,Nat.sub_self]at hx
  injection hu with hu
  injection hx with hx
  subst hu hx
  exact hz.step s (fun t ht=>by omega)
theorem TlV.push {tl:List (List Tl)} {Z:List Value} {z:Value} {l:List Tl} {n:Nat} (hn:n=tl.length) (h1:Z.length=tl.length) (h2:Row V ow 4 273 1 A n c Z) (h3: ∀(i:Nat) z l,Z[i]? =some z->tl[i]? =some l->RdTl V (TF V ow (fun t=>t=2)) m z l) (hz:RdTl V (TF V ow (fun t=>t=2)) m z l)
  (own:V'.ownsRow 0 273 1 (.slice A' (n+1) c') (n+1) (Z++[z])) (g:V.grownBy V' (Value.slice A n c).ownBlock) (hb:(Value.slice A' (n+1) c').ownBlock=(Value.slice A n c).ownBlock\/(Value.slice A' (n+1) c').ownBlock=some V.heap.size):
  TlV V' (ext V ow 4) A' c' m (tl++[l])/\StL (fun j=>j=4) V ow V' (ext V ow 4):=by
 subst hn
 obtain⟨row,s⟩:=h2.app own g hb
 refine⟨⟨Z++[z],by simp [h1],by rw [List.length_append];exact row,fun j u x hu hx=> ?_⟩,s⟩
 by_cases hj:j<Z.length
 ·rw [List.getElem?_append_left hj]at hu
  rw [List.getElem?_append_left (by omega)]at hx
  exact(h3 j u x hu hx).step s (fun t ht=>by omega)
 ·have hj':j=Z.length:=by have:=(List.getElem?_eq_some_iff.1 hu).1;simp at this;omega
  subst hj'
  rw [List.getElem?_append_right (Nat.le_refl _),Nat.sub_self]at hu
  rw [List.getElem?_append_right (by omega),h1,Nat.sub_self]at hx
  injection hu with hu
  injection hx with hx
  subst hu hx
  exact hz.step s (fun t ht=>by omega)
structure TlM (base:Nat) (w:World) (m:Nat) (A:Option Addr) (n c:Nat) (l:List Tl):Prop where
 ex: ∃Ps:List Value,Ps.length=l.length/\w.ownsRow base 278 2 (.slice A n c) n (tlCells Ps l)/\ ∀(j:Nat) p x,Ps[j]? =some p->l[j]? =some x->SetP w (fun b=>base<=b/\b<w.heap.size/\(Value.slice A n c).ownBlock≠some b) m p x.f
 hn:n=l.length
theorem TlM.nil (base:Nat) (w:World) (m:Nat):TlM base w m none 0 0 []:=⟨⟨[],rfl,World.ownsRow_nil _ _ _ _,fun j p x h=>by simp at h⟩,rfl⟩
theorem TlM.below {base n:Nat} {w w':World} {l:List Tl} (h:TlM base w m A n c l) (b:Below w.heap.size w w'):TlM base w' m A n c l:=by
 obtain⟨Ps,h1,h2,h3⟩:=h.ex
 exact⟨⟨Ps,h1,own_below' h2 b,fun j p x hp hx=>((h3 j p x hp hx).touch (Touch.of_size b (fun _=>False)) (fun _ _ e=>e)).mono fun k hk=>⟨hk.1,Nat.lt_of_lt_of_le hk.2.1 b.size,hk.2.2⟩⟩,h.hn⟩
theorem TlM.push {base n b:Nat} {w w1 w2 w3:World} {l:List Tl} {Ps:List Value} {f:Nat->Bool} {em:Bool} {S:Nat->Prop} (hn:n=l.length) (h1:Ps.length=l.length) (h2:w.ownsRow base 278 2 (.slice A n c) n (tlCells Ps l)) (h3: ∀(j:Nat) p x,Ps[j]? =some p->l[j]? =some x->SetP w (fun b=>base<=b/\b<w.heap.size/\(Value.slice A n c).ownBlock≠some b) m p x.f) (hbase:base<=w.heap.size)
  (hs:IsSet w1 b S m f) (hS: ∀k,S k->w.heap.size<=k) (b1:Below w.heap.size w w1) (b2:Below w1.heap.size w1 w2)
  (own:w3.ownsRow base 278 2 (.slice A' (n+1) c') (n+1) (tlCells Ps l++[PtrV b,.bool em])) (g:w2.grownBy w3 (Value.slice A n c).ownBlock) (ho:(Value.slice A' (n+1) c').ownBlock=(Value.slice A n c).ownBlock\/(Value.slice A' (n+1) c').ownBlock=some w2.heap.size):
  TlM base w3 m A' (n+1) c' (l++[⟨f,em⟩])/\Below base w w3:=by
 have t:Touch (fun k=>(Value.slice A n c).ownBlock=some k) w2 w3:=(Touch.refl _ _).grown g (fun k e _=>e)
 have b12:=b1.trans (b2.mono b1.size)
 have hvl: ∀k,(Value.slice A n c).ownBlock=some k->base<=k/\k<w.heap.size:=fun k e=>h2.lt k e
 have hnew: ∀k,(Value.slice A' (n+1) c').ownBlock=some k->(Value.slice A n c).ownBlock=some k\/k=w2.heap.size:=fun k hk=>by
  rcases ho with ho|ho
  ·exact .inl (ho▸hk)
  ·rw [ho]at hk;injection hk with hk;exact .inr hk.symm
 have s1:=b1.size
 have s2:=b2.size
 have s3:=t.size
 refine⟨⟨⟨Ps++[PtrV b],by simp [h1],?_,fun j p x hp hx=> ?_⟩,by rw [List.length_append,<-hn];rfl⟩,t.toBelow (fun k e=>(hvl k e).1) (b12.mono hbase) (Nat.le_trans hbase b12.size)⟩
 ·have e1:tlCells (Ps++[PtrV b]) (l++[⟨f,em⟩])=tlCells Ps l++[PtrV b,.bool em]:=by
   unfold tlCells
   rw [List.zip_append h1,List.flatMap_append];rfl
  rw [e1]
  exact own
 ·by_cases hj:j<Ps.length
  ·rw [List.getElem?_append_left hj]at hp
   rw [List.getElem?_append_left (by omega)]at hx
   refine(((h3 j p x hp hx).touch (Touch.of_size b12 (fun _=>False)) (fun _ _ e=>e)).touch t (fun k hk=>hk.2.2)).mono fun k hk=>⟨hk.1,by omega,fun e=> ?_⟩
   rcases hnew k e with e|e
   ·exact hk.2.2 e
   ·omega
  ·have hj':j=Ps.length:=by have:=(List.getElem?_eq_some_iff.1 hp).1;simp at this;omega
   subst hj'
   rw [List.getElem?_append_right (Nat.le_refl _),Nat.sub_self]at hp
   rw [List.getElem?_append_right (by omega),h1,Nat.sub_self]at hx
   injection hp with hp
   injection hx with hx
   subst hp hx
   refine .inr ⟨b,S,rfl,(hs.touch (Touch.of_size b2 (fun _=>False)) (fun _ _ e=>e)).touch t (fun k hk e=>by have:=hS k hk;have:=hvl k e;omega),fun k hk=> ?_⟩
   have h4:=hS k hk
   have h5:=hs.lt k hk
   refine⟨by omega,by omega,fun e=> ?_⟩
   rcases hnew k e with e|e
   ·have:=hvl k e;omega
   ·omega
theorem TlM.rd {base n:Nat} {w:World} {l:List Tl} (h:TlM base w m A n c l):RdTl w (fun b=>base<=b/\b<w.heap.size) m (.slice A n c) l:=by
 obtain⟨Ps,h1,h2,h3⟩:=h.ex
 exact⟨Ps,h1,(Rd.of_own h2).mono (fun k hk=>h2.lt k hk),fun j p x hp hx=>(h3 j p x hp hx).mono fun k hk=>⟨hk.1,hk.2.1⟩⟩
end
section
variable {V V' w1 : World} {q : LQ} {d : LD} {y : Dy} {J : Nat -> Prop}
theorem MK.gc {G:GramD} {st:Int} {T N R M:Nat} (h:MK V q d y) (hG:d.G=G) (hst:d.st=st) (hT:T=G.terms.length) (hN:N=G.nons.length) (hR:R=G.rules.length) (hM:q.M=M): ∃A1 c1 A2 c2 A3 c3,V.cell? ⟨M,0,none⟩=some (.slice A1 T c1)/\V.cell? ⟨M,1,none⟩=some (.slice A2 N c2)/\V.cell? ⟨M,2,none⟩=some (.slice A3 R c3)/\V.cell? ⟨M,3,none⟩=some (.int .i64 st)/\IsGram V q.Fg (.slice A1 T c1) (.slice A2 N c2) (.slice A3 R c3) G:=by
 subst hG hst hT hN hR hM
 exact⟨q.A1,q.c1,q.A2,q.c2,q.A3,q.c3,h.cells.1,h.cells.2.1,h.cells.2.2.1,h.cells.2.2.2.1,h.g⟩
theorem FSets.stepL {fd:FD} {e:Nat->Bool} {bg bh:Nat->Nat->Bool} {ow:Nat->Nat} {ow':Nat->Nat} (h:FSets w1 fd e bg bh) (h0:V.heap.size<=fd.z0) (s:StL J w1 (ext V ow 2) V' ow') (h2: ¬J 2):FSets V' fd e bg bh:=
 h.touch s.t fun k hk=>by
  by_cases hV:k<V.heap.size
  ·left;omega
  ·exfalso
   rw [ext_new (by omega)]at hk
   exact h2 hk
theorem ruK_next {G:GramD} {k:Nat} {l:Nat} {x:List Int} (h:G.rules[k]? =some ((l:Int),x)):(fun s:Nat=>ofUpto G.rules s (k+1))=upd (fun s:Nat=>ofUpto G.rules s k) l (ofUpto G.rules l k++[(k:Int)]):=by
 funext s
 by_cases e:s=l
 ·subst e
  rw [upd_same]
  exact ofUpto_yes h
 ·rw [upd_ne e]
  exact ofUpto_no h (fun e'=>e (by omega))
end
theorem Tryz.infoIntsE:(Tryz.prog.info? 49).map (fun i=>(i.zero,i.size,i.bytes))=some (some (.slice none 0 0),1,24):=by kernel_rfl
theorem Tryz.elemIntsE:Elem Tryz.prog 33 49 (.slice none 0 0) 1 24:=⟨Tryz.underlying33,Tryz.infoIntsE,rfl,by decide⟩
theorem Tryz.infoTails:(Tryz.prog.info? 273).map (fun i=>(i.zero,i.size,i.bytes))=some (some (.slice none 0 0),1,24):=by kernel_rfl
theorem Tryz.elemTails:Elem Tryz.prog 251 273 (.slice none 0 0) 1 24:=⟨Tryz.underlying251,Tryz.infoTails,rfl,by decide⟩
theorem Tryz.infoTail:(Tryz.prog.info? 278).map (fun i=>(i.zero,i.size,i.bytes))=some (some (.agg #[.pointer none,.bool false]),2,16):=by kernel_rfl
theorem Tryz.elemTail:Elem Tryz.prog 273 278 (.agg #[.pointer none,.bool false]) 2 16:=⟨Tryz.underlying273,Tryz.infoTail,rfl,by decide⟩
theorem Tryz.infoComes:(Tryz.prog.info? 279).map (fun i=>(i.zero,i.size,i.bytes))=some (some (.slice none 0 0),1,24):=by kernel_rfl
theorem make_ints (n:Nat) (hn:n<=65536) (w:World):(Instr.makeSlice 33 (.int .i64 (n:Int)) (.int .i64 (n:Int))).run Tryz.prog w= .ok (.slice (some ⟨w.heap.size,0,none⟩) n n) (w.alloc (.cells (madeCells #[.slice none 0 0] n) 49)):=
 run_make_row' _ _ _ 24 Tryz.underlying33 Tryz.infoIntsE rfl .i64 .i64 n (by omega) (by omega) w
theorem make_comes (n:Nat) (hn:n<=65536) (w:World):(Instr.makeSlice 252 (.int .i64 (n:Int)) (.int .i64 (n:Int))).run Tryz.prog w= .ok (.slice (some ⟨w.heap.size,0,none⟩) n n) (w.alloc (.cells (madeCells #[.slice none 0 0] n) 279)):=
 run_make_row' _ _ _ 24 Tryz.underlying252 Tryz.infoComes rfl .i64 .i64 n (by omega) (by omega) w
end Go.Proofs.YthlbjgabhpdbfaaGreat
namespace Go.Proofs.YthlbjgabhpdbfaaGreat
set_option linter.unusedVariables false
set_option linter.unusedSimpArgs false
abbrev Sts0:=List (List It×List It)
structure IsAuto (G:GramD) (st:Int) (D:Sts0):Prop where
 n:D.length<=2000
 first: ∃t,D[0]? =some ([((G.rules.length:Int),0)],t)
 tq9: ∀(i j:Nat) e s,D[i]? =some e->gotoD D i s=(j:Int)-> ∃e',D[j]? =some e'/\e'.1=nxI G st e.1 s
 has: ∀(i:Nat) e x s,D[i]? =some e->Cl G st e.1 x->behindI G st x=(s,true)-> ∃j:Nat,gotoD D i s=(j:Int)
 kern: ∀(i:Nat) e x,D[i]? =some e->x∈e.1->rightI G st x=true/\(x=((G.rules.length:Int),0)\/0<x.2)
 strict: ∀(i:Nat) e,D[i]? =some e->StrictI e.1
theorem way_mem {t:List It} (hs:t.Pairwise (fun a b:It=>a.1<b.1)) {s tq9:Int} (h:((s,tq9):It)∈t):wayTo t s=tq9:=by
 obtain⟨i,hi,e⟩:=List.getElem_of_mem h
 have hg:t[i]? =some (s,tq9):=by rw [List.getElem?_eq_getElem hi,e]
 refine wayTo_yes hg rfl fun j y hj hy hy1=> ?_
 obtain⟨hj',ey⟩:=List.getElem?_eq_some_iff.1 hy
 have h1:=(List.pairwise_iff_getElem.1 hs) j i hj' hi hj
 rw [ey,e]at h1
 simp only at h1
 omega
theorem way_cases {t:List It} (hs:t.Pairwise (fun a b:It=>a.1<b.1)) (s:Int):(∃tq9,((s,tq9):It)∈t/\wayTo t s=tq9)\/((∀tq9,((s,tq9):It)∉t)/\wayTo t s= -1):=by
 by_cases h: ∃tq9,((s,tq9):It)∈t
 ·obtain⟨tq9,h⟩:=h
  exact .inl ⟨tq9,h,way_mem hs h⟩
 ·refine .inr ⟨fun tq9 ht=>h ⟨tq9,ht⟩,wayTo_no fun j y hy e=>h ⟨y.2,?_⟩⟩
  have:=List.mem_of_getElem? hy
  rw [<-e]
  exact this
theorem IsAuto.of_bld {G:GramD} {st:Int} {L T:List (List It)} (h:Bld G st L.length L T) (hK:KnA G st):IsAuto G st (stD L T):=by
 have f:=h.f
 have get: ∀{i:Nat} {e:List It×List It},(stD L T)[i]? =some e-> ∃t,T[i]? =some t/\L[i]? =some e.1/\e.2=t:=fun{i e} he=>by
  rw [stD_get]at he
  obtain⟨k,hk,rfl⟩:=Option.map_eq_some_iff.1 he
  have hi:=(List.getElem?_eq_some_iff.1 hk).1
  obtain⟨t,ht⟩: ∃t,T[i]? =some t:=⟨_,List.getElem?_eq_getElem (by rw [f.len];exact hi)⟩
  exact⟨t,ht,hk,by rw [ht];rfl⟩
 have mk: ∀{i:Nat} {k:List It},L[i]? =some k-> ∃e,(stD L T)[i]? =some e/\e.1=k:=fun{i k} hk=>⟨_,by rw [stD_get,hk];rfl,rfl⟩
 refine⟨by rw [stD_len];exact f.small,?_,fun i j e s he hg=> ?_,fun i e x s he hc hb=> ?_,fun i e x he hx=> ?_,fun i e he=> ?_⟩
 ·exact⟨_,by rw [stD_get,f.first];rfl⟩
 ·obtain⟨t,ht,hk,e2⟩:=get he
  rw [gotoD_in he,e2]at hg
  rcases way_cases (f.sort t (List.mem_of_getElem? ht)) s with⟨tq9,hm,hw⟩|⟨-,hw⟩
  ·rw [hw]at hg
   subst hg
   obtain⟨-,-,-,-,h5⟩:=f.mem i t e.1 ht hk s _ hm
   rw [Int.toNat_natCast]at h5
   exact mk h5
  ·omega
 ·obtain⟨t,ht,hk,e2⟩:=get he
  have hs:=hK.sym x.1 x.2.toNat s (behind_right hb).2.2
  have hne:nxI G st e.1 s≠[]:=fun e0=>by
   have:=((nx_is G st e.1 s).2 (x.1,x.2+1)).2 ⟨x,hc,hb,rfl⟩
   rw [e0]at this
   cases this
  obtain⟨tq9,hm⟩:=f.has i t e.1 ht hk s hs.1 hs.2 hne
  obtain⟨-,-,-,h4,-⟩:=f.mem i t e.1 ht hk s _ hm
  exact⟨tq9.toNat,by rw [gotoD_in he,e2,way_mem (f.sort t (List.mem_of_getElem? ht)) hm];omega⟩
 ·obtain⟨t,ht,hk,e2⟩:=get he
  rcases f.kind e.1 (List.mem_of_getElem? hk)with h1|⟨q,s,h1,-⟩
  ·rw [h1]at hx
   rw [List.mem_singleton]at hx
   subst hx
   refine⟨?_,.inl rfl⟩
   unfold rightI ruleOf
   rw [if_neg (by omega),if_pos rfl]
   simp
  ·rw [h1]at hx
   obtain⟨x',h2,h3,rfl⟩:=((nx_is G st q s).2 x).1 hx
   exact⟨(step_right h3).1,.inr (step_right h3).2⟩
 ·obtain⟨t,ht,hk,e2⟩:=get he
  rcases f.kind e.1 (List.mem_of_getElem? hk)with h1|⟨q,s,h1,-⟩
  ·rw [h1];exact List.pairwise_singleton _ _
  ·rw [h1];exact(nx_is G st q s).1
def restI (G:GramD) (st:Int) (x:It):List Int:=(rgt G st x.1).drop (x.2.toNat+1)
inductive LA (G:GramD) (st:Int) (D:Sts0):Nat->It->Nat->Prop
 |start:LA G st D 0 ((G.rules.length:Int),0) 0
 |step (i j:Nat) (x:It) (s:Int) (t:Nat):LA G st D i x t->behindI G st x=(s,true)->gotoD D i s=(j:Int)->LA G st D j (x.1,x.2+1) t
 |close (i:Nat) (x:It) (s k:Int) (t u:Nat):LA G st D i x t->behindI G st x=(s,true)->isNon G s=true->k∈ofOf G s->lnB G (restI G st x) u=true->LA G st D i (k,0) u
 |pass (i:Nat) (x:It) (s k:Int) (t:Nat):LA G st D i x t->behindI G st x=(s,true)->isNon G s=true->k∈ofOf G s->emB G (restI G st x)=true->LA G st D i (k,0) t
theorem rest_new {G:GramD} {st k y:Int} {r:List Int} (h:rgt G st k=y::r):restI G st (k,0)=r:=by
 unfold restI
 rw [h];rfl
section
variable {G : GramD} {st : Int} {D : Sts0} {i : Nat} {x : It} {s : Int} {u0 : Nat}
theorem LA.self {y:Int} (hx:LA G st D i x u0) (hb:behindI G st x=(s,true)) (hn:isNon G s=true) (hy:CSelf G st s y):isNon G y=true/\ ∀k∈ofOf G y,(∀t,lnB G (restI G st x) t=true->LA G st D i (k,0) t)/\(emB G (restI G st x)=true-> ∀t,LA G st D i x t->LA G st D i (k,0) t):=by
 induction hy with
 |base=>exact⟨hn,fun k hk=>⟨fun t ht=> .close i x s k u0 t hx hb hn hk ht,fun he t ht=> .pass i x s k t ht hb hn hk he⟩⟩
 |next x' k' y' r _ hk' hr hy' he' ih=>
  refine⟨hy',fun k hk=>⟨fun t ht=> ?_,fun he t ht=> ?_⟩⟩
  ·exact .pass i (k',0) y' k t ((ih.2 k' hk').1 t ht) (rgt_of hk' hr) hy' hk (by rw [rest_new hr];exact he')
  ·exact .pass i (k',0) y' k t ((ih.2 k' hk').2 he t ht) (rgt_of hk' hr) hy' hk (by rw [rest_new hr];exact he')
theorem LA.set {y:Int} {t:Nat} (hx:LA G st D i x u0) (hb:behindI G st x=(s,true)) (hn:isNon G s=true) (hl:(∃u,lnB G (restI G st x) u=true)\/emB G (restI G st x)=true) (hy:CSet G st s y t):isNon G y=true/\ ∀k∈ofOf G y,LA G st D i (k,0) t:=by
 have live: ∀x' k',CSelf G st s x'->k'∈ofOf G x'-> ∃u,LA G st D i (k',0) u:=fun x' k' h1 h2=>by
  have h3:=(LA.self hx hb hn h1).2 k' h2
  rcases hl with⟨u,hu⟩|he
  ·exact⟨u,h3.1 u hu⟩
  ·exact⟨u0,h3.2 he u0 hx⟩
 induction hy with
 |self x' k' y' r t hx' hk' hr hy' hl'=>
  obtain⟨u,hu⟩:=live x' k' hx' hk'
  exact⟨hy',fun k hk=> .close i (k',0) y' k u t hu (rgt_of hk' hr) hy' hk (by rw [rest_new hr];exact hl')⟩
 |line x' k' y' r t u _ hk' hr hy' hl' ih=>exact⟨hy',fun k hk=> .close i (k',0) y' k u t (ih.2 k' hk') (rgt_of hk' hr) hy' hk (by rw [rest_new hr];exact hl')⟩
 |pass x' k' y' r t _ hk' hr hy' he' ih=>exact⟨hy',fun k hk=> .pass i (k',0) y' k t (ih.2 k' hk') (rgt_of hk' hr) hy' hk (by rw [rest_new hr];exact he')⟩
end
theorem beg_le {T:Nat} {rs:List (Int×List Int)} {s:Int} {t:Nat} (h:Beg T rs s t):t<=T:=by
 induction h with
 |self t ht=>exact ht
 |step _ _ _ _ _ _ _ _ _ ih=>exact ih
theorem lnB_lt {G:GramD} {l:List Int} {t:Nat} (h:lnB G l t=true):t<G.terms.length+1:=by
 unfold lnB at h
 obtain⟨pre,x,post,-,-,e3⟩:=lineB_iff.1 h
 have:=(famI_in e3).2.2
 unfold begB at this
 have:=beg_le (toB_iff.1 this)
 omega
theorem LA.lt {G:GramD} {st:Int} {D:Sts0} {i:Nat} {x:It} {t:Nat} (h:LA G st D i x t):t<G.terms.length+1:=by
 induction h with
 |start=>omega
 |step _ _ _ _ _ _ _ _ ih=>exact ih
 |close _ _ _ _ _ _ _ _ _ _ h _=>exact lnB_lt h
 |pass _ _ _ _ _ _ _ _ _ _ ih=>exact ih
def preD (D:Sts0) (i:Nat):Nat:=((D.take i).map fun e=>e.1.length).sum
theorem preD_next {D:Sts0} {i:Nat} {e:List It×List It} (h:D[i]? =some e):preD D (i+1)=preD D i+e.1.length:=by
 unfold preD
 rw [List.take_add_one,h,List.map_append,List.sum_append]
 simp
theorem preD_le (D:Sts0) (i d:Nat):preD D i<=preD D (i+d):=by
 induction d with
 |zero=>exact Nat.le_refl _
 |succ d ih=>
  refine Nat.le_trans ih ?_
  cases h:D[i+d]? with
  |none=>
   have:=List.getElem?_eq_none_iff.1 h
   unfold preD
   rw [List.take_of_length_le this,List.take_of_length_le (by omega)]
   exact Nat.le_refl _
  |some e=>rw [<-Nat.add_assoc,preD_next h];omega
def KP (D:Sts0) (p i:Nat) (x:It):Prop:= ∃(e:List It×List It) (m:Nat),D[i]? =some e/\e.1[m]? =some x/\p=preD D i+m
theorem KP.inj {D:Sts0} {p i i':Nat} {x x':It} (h:KP D p i x) (h':KP D p i' x'):i=i'/\x=x':=by
 obtain⟨e,m,h1,h2,h3⟩:=h
 obtain⟨e',m',g1,g2,g3⟩:=h'
 have hm:=(List.getElem?_eq_some_iff.1 h2).1
 have hm':=(List.getElem?_eq_some_iff.1 g2).1
 have key: ∀{a b:Nat} {ea:List It×List It} {ma mb:Nat},D[a]? =some ea->ma<ea.1.length->a<b->preD D a+ma≠preD D b+mb:=fun{a b ea ma mb} ha hma hab=>by
  have h1:=preD_next ha
  have h2:=preD_le D (a+1) (b - (a+1))
  rw [show a+1+(b - (a+1))=b by omega]at h2
  omega
 rcases Nat.lt_trichotomy i i' with h|h|h
 ·exact absurd (h3.symm.trans g3) (key h1 hm h)
 ·subst h
  rw [h1]at g1
  injection g1 with g1
  subst g1
  have:m=m':=by omega
  subst this
  rw [h2]at g2
  injection g2 with g2
  exact⟨rfl,g2⟩
 ·exact absurd (g3.symm.trans h3) (key g1 hm' h)
theorem KP.lt {D:Sts0} {p i:Nat} {x:It} (h:KP D p i x):p<preD D D.length:=by
 obtain⟨e,m,h1,h2,h3⟩:=h
 have hm:=(List.getElem?_eq_some_iff.1 h2).1
 have hi:=(List.getElem?_eq_some_iff.1 h1).1
 have h4:=preD_next h1
 have h5:=preD_le D (i+1) (D.length - (i+1))
 rw [show i+1+(D.length - (i+1))=D.length by omega]at h5
 omega
theorem KP.fn {D:Sts0} {p p' i:Nat} {x:It} (h:KP D p i x) (h':KP D p' i x) (hn: ∀(i:Nat) e,D[i]? =some e->e.1.Nodup):p=p':=by
 obtain⟨e,m,h1,h2,h3⟩:=h
 obtain⟨e',m',g1,g2,g3⟩:=h'
 rw [h1]at g1
 injection g1 with g1
 subst g1
 have:=nodup_get (hn i e h1) h2 g2
 omega
theorem KP.of_mem {D:Sts0} {i:Nat} {e:List It×List It} {x:It} (h:D[i]? =some e) (hx:x∈e.1): ∃p,KP D p i x:=by
 obtain⟨m,hm,ex⟩:=List.getElem_of_mem hx
 exact⟨_,e,m,h,by rw [List.getElem?_eq_getElem hm,ex],rfl⟩
theorem KP.mem {D:Sts0} {p i:Nat} {x:It} (h:KP D p i x): ∃e,D[i]? =some e/\x∈e.1:=by
 obtain⟨e,m,h1,h2,-⟩:=h
 exact⟨e,h1,List.mem_of_getElem? h2⟩
abbrev Fin0:=Nat->List (Int×Nat)
def Pl (D:Sts0) (fi:Fin0) (p i:Nat) (x:It):Prop:=KP D p i x\/ ∃k,x=(k,0)/\(k,p)∈fi i
structure FiOk (G:GramD) (st:Int) (D:Sts0) (fi:Fin0) (na:Nat):Prop where
 le:preD D D.length<=na
 key: ∀i k p,(k,p)∈fi i->(0<=k/\k<(G.rules.length:Int))/\rgt G st k=[]/\preD D D.length<=p/\p<na
 nodup: ∀i,((fi i).map (·.1)).Nodup
 inj: ∀i i' k k' p,(k,p)∈fi i->(k',p)∈fi i'->i=i'/\k=k'
 out: ∀i,D.length<=i->fi i=[]
section
variable {G : GramD} {st : Int} {D : Sts0} {fi fi' : Fin0} {na : Nat} {ed ed' : List Ed} {cm : Nat -> List Co}
theorem Pl.inj (hf:FiOk G st D fi na) {p i i':Nat} {x x':It} (h:Pl D fi p i x) (h':Pl D fi p i' x'):i=i'/\x=x':=by
 rcases h with h|⟨k,rfl,h⟩
 ·rcases h' with h'|⟨k',rfl,h'⟩
  ·exact h.inj h'
  ·have:=h.lt;have:=(hf.key _ _ _ h').2.2.1;omega
 ·rcases h' with h'|⟨k',rfl,h'⟩
  ·have:=h'.lt;have:=(hf.key _ _ _ h).2.2.1;omega
  ·obtain⟨e1,e2⟩:=hf.inj _ _ _ _ _ h h'
   exact⟨e1,by rw [e2]⟩
noncomputable def tlI (G:GramD) (st:Int) (x:It):Tl:=⟨lnB G (restI G st x),emB G (restI G st x)⟩
def noneT (m:Nat) (t:Tl):Bool:= !t.em&& !anyB m t.f
def setOf (c:Co) (t:Tl):Nat->Bool:=if c.self=true then fun u=>c.f u||t.f u else c.f
def EA (D:Sts0) (e:Ed) (i:Nat) (x:It) (s:Int):Prop:=e.f=noBits/\e.self=true/\ ∃j p:Nat,gotoD D i s=(j:Int)/\e.tq9=(p:Int)/\KP D p j (x.1,x.2+1)
def EB (G:GramD) (st:Int) (D:Sts0) (fi:Fin0) (e:Ed) (i:Nat) (x:It) (c:Co) (k:Int):Prop:=e.f=setOf c (tlI G st x)/\e.self=(c.self&&(tlI G st x).em)/\ ∃p:Nat,e.tq9=(p:Int)/\((rgt G st k=[]/\(k,p)∈fi i)\/ ∃y0 r j,rgt G st k=y0::r/\gotoD D i y0=((j:Nat):Int)/\KP D p j (k,1))
theorem EB.mono {e:Ed} {i:Nat} {x:It} {c:Co} {k:Int} (h:EB G st D fi e i x c k) (hf: ∀i z,z∈fi i->z∈fi' i):EB G st D fi' e i x c k:=by
 obtain⟨h1,h2,p,h3,h4⟩:=h
 exact⟨h1,h2,p,h3,h4.imp (fun h=>⟨h.1,hf _ _ h.2⟩) id⟩
def EdOk (G:GramD) (st:Int) (D:Sts0) (cm:Nat->List Co) (fi:Fin0) (e:Ed):Prop:= ∃i x s,KP D e.at_ i x/\behindI G st x=(s,true)/\(EA D e i x s\/(isNon G s=true/\ ∃c∈cm s.toNat,∃k∈ofOf G c.s,noneT (G.terms.length+1) (tlI G st x)=false/\EB G st D fi e i x c k))
theorem EdOk.mono {e:Ed} (h:EdOk G st D cm fi e) (hf: ∀i z,z∈fi i->z∈fi' i):EdOk G st D cm fi' e:=by
 obtain⟨i,x,s,h1,h2,h3⟩:=h
 exact⟨i,x,s,h1,h2,h3.imp id fun⟨a,c,b,k,d,f,g⟩=>⟨a,c,b,k,d,f,g.mono hf⟩⟩
def FiSrc (G:GramD) (st:Int) (D:Sts0) (cm:Nat->List Co) (i:Nat) (k:Int):Prop:= ∃e x s,D[i]? =some e/\x∈e.1/\behindI G st x=(s,true)/\isNon G s=true/\ ∃c∈cm s.toNat,k∈ofOf G c.s
def Full (G:GramD) (st:Int) (D:Sts0) (cm:Nat->List Co) (ed:List Ed) (fi:Fin0) (p i:Nat) (x:It):Prop:= ∀s,behindI G st x=(s,true)->(∃e∈ed,e.at_=p/\EA D e i x s)/\(isNon G s=true-> ∀c∈cm s.toNat,∀k∈ofOf G c.s,(rgt G st k=[]-> ∃p',(k,p')∈fi i)/\(noneT (G.terms.length+1) (tlI G st x)=false-> ∃e∈ed,e.at_=p/\EB G st D fi e i x c k))
theorem Full.mono {p i:Nat} {x:It} (h:Full G st D cm ed fi p i x) (he: ∀e∈ed,e∈ed') (hf: ∀i z,z∈fi i->z∈fi' i):Full G st D cm ed' fi' p i x:=fun s hs=>by
 obtain⟨⟨e,e1,e2,e3⟩,h2⟩:=h s hs
 refine⟨⟨e,he e e1,e2,e3⟩,fun hn c hc k hk=> ?_⟩
 obtain⟨g1,g2⟩:=h2 hn c hc k hk
 refine⟨fun hr=> ?_,fun hl=> ?_⟩
 ·obtain⟨p',hp'⟩:=g1 hr
  exact⟨p',hf _ _ hp'⟩
 ·obtain⟨e,a1,a2,a3⟩:=g2 hl
  exact⟨e,he e a1,a2,a3.mono hf⟩
theorem noneT_live {x:It} (h:noneT (G.terms.length+1) (tlI G st x)=false):(∃u,lnB G (restI G st x) u=true)\/emB G (restI G st x)=true:=by
 unfold noneT at h
 simp only [Bool.and_eq_false_iff,Bool.not_eq_false']at h
 rcases h with h|h
 ·exact .inr h
 ·obtain⟨t,-,ht⟩:=anyB_iff.1 h
  exact .inl ⟨t,ht⟩
theorem noneT_of {x:It} (h:(∃u,lnB G (restI G st x) u=true)\/emB G (restI G st x)=true):noneT (G.terms.length+1) (tlI G st x)=false:=by
 unfold noneT
 simp only [Bool.and_eq_false_iff,Bool.not_eq_false']
 rcases h with⟨u,hu⟩|h
 ·exact .inr (anyB_iff.2 ⟨u,lnB_lt hu,hu⟩)
 ·exact .inl h
def F00 (p t:Nat):Bool:=decide (p=0)&&decide (t=0)
theorem la_snd (hA:IsAuto G st D) (hf:FiOk G st D fi na) (hc: ∀s,isNon G s=true->ComesOf G st s (cm s.toNat)) (hE: ∀e∈ed,EdOk G st D cm fi e) {p t:Nat} (h:LE F00 ed p t): ∀i x,Pl D fi p i x->LA G st D i x t:=by
 have kEB: ∀{e:Ed} {i:Nat} {x:It} {s:Int} {c:Co} {k:Int} {t:Nat} {i':Nat} {x':It},behindI G st x=(s,true)->isNon G s=true->c∈cm s.toNat->k∈ofOf G c.s->EB G st D fi e i x c k->LA G st D i (k,0) t->Pl D fi e.tq9.toNat i' x'->LA G st D i' x' t:=by
  rintro e i x s c k t i' x' hb hn hcm hk ⟨-,-,p,e3,e4⟩ hla hpl
  rw [e3,Int.toNat_natCast]at hpl
  rcases e4 with⟨-,hm⟩|⟨y0,r,j,hr,hg,hkp⟩
  ·obtain⟨rfl,rfl⟩:=Pl.inj hf hpl (.inr ⟨k,rfl,hm⟩)
   exact hla
  ·obtain⟨rfl,rfl⟩:=Pl.inj hf hpl (.inl hkp)
   exact .step i i' (k,0) y0 t hla (rgt_of hk hr) hg
 induction h with
 |base p t h=>
  intro i x hp
  unfold F00 at h
  simp only [Bool.and_eq_true,decide_eq_true_eq]at h
  obtain⟨rfl,rfl⟩:=h
  obtain⟨t0,h0⟩:=hA.first
  have hk:KP D 0 0 ((G.rules.length:Int),0):=⟨_,0,h0,rfl,by simp [preD]⟩
  obtain⟨rfl,rfl⟩:=Pl.inj hf hp (.inl hk)
  exact .start
 |set e t u he _ ht ih=>
  intro i' x' hp
  obtain⟨i,x,s,h1,h2,h3⟩:=hE e he
  have hx:=ih i x (.inl h1)
  rcases h3 with⟨h3,-⟩|⟨hn,c,hcm,k,hk,hl,hB⟩
  ·rw [h3]at ht;cases ht
  ·refine kEB h2 hn hcm hk hB ?_ hp
   have hC:=hc s hn
   rw [hB.1]at ht
   unfold setOf at ht
   split at ht
   ·rename_i hs
    rw [Bool.or_eq_true]at ht
    rcases ht with ht|ht
    ·exact(LA.set hx h2 hn (noneT_live hl) ((hC.set c hcm t).1 ht)).2 k hk
    ·exact((LA.self hx h2 hn ((hC.self c hcm).1 hs)).2 k hk).1 t ht
   ·exact(LA.set hx h2 hn (noneT_live hl) ((hC.set c hcm t).1 ht)).2 k hk
 |self e t he hs _ ih=>
  intro i' x' hp
  obtain⟨i,x,s,h1,h2,h3⟩:=hE e he
  have hx:=ih i x (.inl h1)
  rcases h3 with⟨-,-,j,p,hg,e3,e4⟩|⟨hn,c,hcm,k,hk,hl,hB⟩
  ·rw [e3,Int.toNat_natCast]at hp
   obtain⟨rfl,rfl⟩:=Pl.inj hf hp (.inl e4)
   exact .step i i' x s t hx h2 hg
  ·refine kEB h2 hn hcm hk hB ?_ hp
   rw [hB.2.1,Bool.and_eq_true]at hs
   exact((LA.self hx h2 hn (((hc s hn).self c hcm).1 hs.1)).2 k hk).2 hs.2 t hx
def KnL (G:GramD) (st:Int) (D:Sts0) (F:Nat->Nat->Bool) (i:Nat) (z:It) (t:Nat):Prop:=(∃p,KP D p i z/\F p t=true)\/
 ∃p x s y k u,KP D p i x/\behindI G st x=(s,true)/\isNon G s=true/\(u<G.terms.length+1/\F p u=true)/\z=(k,0)/\k∈ofOf G y/\Bg G st s y/\noneT (G.terms.length+1) (tlI G st x)=false/\
  ((CSelf G st s y/\lnB G (restI G st x) t=true)\/(CSelf G st s y/\emB G (restI G st x)=true/\F p t=true)\/CSet G st s y t)
theorem la_cpl (hA:IsAuto G st D) (hc: ∀s,isNon G s=true->ComesOf G st s (cm s.toNat)) (hE: ∀p i x,KP D p i x->Full G st D cm ed fi p i x) {F:Nat->Nat->Bool} {n:Nat} (hF:Spread (G.terms.length+1) n F00 ed F):
  (∀i z t,LA G st D i z t->KnL G st D F i z t)/\ ∀i y k p x s u t,KP D p i x->behindI G st x=(s,true)->isNon G s=true->(u<G.terms.length+1/\F p u=true)->k∈ofOf G y->Bg G st s y->noneT (G.terms.length+1) (tlI G st x)=false->t<G.terms.length+1->
   ((CSelf G st s y/\lnB G (restI G st x) t=true)\/(CSelf G st s y/\emB G (restI G st x)=true/\F p t=true)\/CSet G st s y t)-> ∃p':Nat,F p' t=true/\((rgt G st k=[]/\(k,p')∈fi i)\/ ∃y0 r j,rgt G st k=y0::r/\gotoD D i y0=((j:Nat):Int)/\KP D p' j (k,1)):=by
 have kB: ∀i y k p x s u t,KP D p i x->behindI G st x=(s,true)->isNon G s=true->(u<G.terms.length+1/\F p u=true)->k∈ofOf G y->Bg G st s y->noneT (G.terms.length+1) (tlI G st x)=false->t<G.terms.length+1->
   ((CSelf G st s y/\lnB G (restI G st x) t=true)\/(CSelf G st s y/\emB G (restI G st x)=true/\F p t=true)\/CSet G st s y t)-> ∃p':Nat,F p' t=true/\((rgt G st k=[]/\(k,p')∈fi i)\/ ∃y0 r j,rgt G st k=y0::r/\gotoD D i y0=((j:Nat):Int)/\KP D p' j (k,1)):=by
  intro i y k p x s u t hp hb hn hu hk hy hl ht h
  have hC:=hc s hn
  obtain⟨c,hcm,rfl⟩:=(hC.mem y).2 hy
  obtain⟨-,h2⟩:=hE p i x hp s hb
  obtain⟨-,g2⟩:=h2 hn c hcm k hk
  obtain⟨e,he,rfl,hB⟩:=g2 hl
  have hcl:=hF.closed e he ⟨u,hu.1,hu.2⟩
  obtain⟨b1,b2,p',b3,b4⟩:=hB
  rw [b3,Int.toNat_natCast]at hcl
  refine⟨p',?_,b4⟩
  rcases h with⟨h1,h2⟩|⟨h1,h2,h3⟩|h1
  ·refine hcl.1 t ht ?_
   rw [b1]
   unfold setOf
   rw [if_pos ((hC.self c hcm).2 h1)]
   show(c.f t||lnB G (restI G st x) t)=true
   rw [h2,Bool.or_true]
  ·refine hcl.2 ?_ t ht h3
   rw [b2,(hC.self c hcm).2 h1]
   exact h2
  ·refine hcl.1 t ht ?_
   rw [b1]
   unfold setOf
   have:=(hC.set c hcm t).2 h1
   split
   ·show(c.f t||_)=true
    rw [this,Bool.true_or]
   ·exact this
 refine⟨fun i z t h=> ?_,kB⟩
 induction h with
 |start=>
  obtain⟨t0,h0⟩:=hA.first
  exact .inl ⟨0,⟨_,0,h0,rfl,by simp [preD]⟩,hF.le 0 0 rfl⟩
 |step i j x s t hx hb hg ih=>
  rcases ih with⟨p,hp,hF'⟩|⟨p,x0,s0,y,k,u,hp,hb0,hn0,hu,rfl,hk,hy,hl,h⟩
  ·obtain⟨⟨e,he,rfl,-,e2,j',p',e3,e4,e5⟩,-⟩:=hE p i x hp s hb
   have hcl:=(hF.closed e he ⟨t,hx.lt,hF'⟩).2 e2 t hx.lt hF'
   rw [e4,Int.toNat_natCast]at hcl
   have:j=j':=by omega
   subst this
   exact .inl ⟨p',e5,hcl⟩
  ·obtain⟨p',h1,h2⟩:=kB i y k p x0 s0 u t hp hb0 hn0 hu hk hy hl hx.lt h
   obtain⟨r,hr⟩:=rgt_at hb
   rcases h2 with⟨e,-⟩|⟨y0,r',j',hr',hg',hkp⟩
   ·rw [hr]at e;cases e
   ·rw [hr]at hr'
    injection hr' with e1 e2
    subst e1
    have:j=j':=by omega
    subst this
    exact .inl ⟨p',hkp,h1⟩
 |close i x s k t u hx hb hn hk hl ih=>
  rcases ih with⟨p,hp,hF'⟩|⟨p,x0,s0,y,k0,u0,hp,hb0,hn0,hu,rfl,hk0,hy,hl0,h⟩
  ·exact .inr ⟨p,x,s,s,k,t,hp,hb,hn,⟨hx.lt,hF'⟩,rfl,hk,.base,noneT_of (.inl ⟨u,hl⟩),.inl ⟨.base,hl⟩⟩
  ·obtain⟨r,hr⟩:=rgt_at hb
   rw [rest_new hr]at hl
   refine .inr ⟨p,x0,s0,s,k,u0,hp,hb0,hn0,hu,rfl,hk,.next y k0 s hy hk0 hb hn,hl0,.inr (.inr ?_)⟩
   rcases h with⟨h1,-⟩|⟨h1,-⟩|h1
   ·exact .self y k0 s r u h1 hk0 hr hn hl
   ·exact .self y k0 s r u h1 hk0 hr hn hl
   ·exact .line y k0 s r u t h1 hk0 hr hn hl
 |pass i x s k t hx hb hn hk hl ih=>
  rcases ih with⟨p,hp,hF'⟩|⟨p,x0,s0,y,k0,u0,hp,hb0,hn0,hu,rfl,hk0,hy,hl0,h⟩
  ·exact .inr ⟨p,x,s,s,k,t,hp,hb,hn,⟨hx.lt,hF'⟩,rfl,hk,.base,noneT_of (.inr hl),.inr (.inl ⟨.base,hl,hF'⟩)⟩
  ·obtain⟨r,hr⟩:=rgt_at hb
   rw [rest_new hr]at hl
   refine .inr ⟨p,x0,s0,s,k,u0,hp,hb0,hn0,hu,rfl,hk,.next y k0 s hy hk0 hb hn,hl0,?_⟩
   rcases h with⟨h1,h2⟩|⟨h1,h2⟩|h1
   ·exact .inl ⟨.next y k0 s r h1 hk0 hr hn hl,h2⟩
   ·exact .inr (.inl ⟨.next y k0 s r h1 hk0 hr hn hl,h2⟩)
   ·exact .inr (.inr (.pass y k0 s r t h1 hk0 hr hn hl))
theorem la_iff (hA:IsAuto G st D) (hf:FiOk G st D fi na) (hc: ∀s,isNon G s=true->ComesOf G st s (cm s.toNat)) (hO: ∀e∈ed,EdOk G st D cm fi e) (hE: ∀p i x,KP D p i x->Full G st D cm ed fi p i x) {F:Nat->Nat->Bool} {n:Nat} (hF:Spread (G.terms.length+1) n F00 ed F) {p i t:Nat} {x:It} (hp:Pl D fi p i x):F p t=true↔LA G st D i x t:=by
 have hnd: ∀(i:Nat) e,D[i]? =some e->e.1.Nodup:=fun i e he=>(hA.strict i e he).nodup
 have nokern: ∀{p i:Nat} {k y:Int},KP D p i (k,0)->k∈ofOf G y->False:=fun{p i k y} h hk=>by
  obtain⟨e,he,hx⟩:=h.mem
  have h1:=new_low hk
  rcases(hA.kern i e _ he hx).2 with h2|h2
  ·injection h2 with h2;omega
  ·simp at h2
 refine⟨fun h=>la_snd hA hf hc hO (hF.snd p t h) i x hp,fun h=> ?_⟩
 obtain⟨c1,c2⟩:=la_cpl hA hc hE hF
 rcases c1 i x t h with⟨p',hp',hF'⟩|⟨p0,x0,s,y,k,u,hp0,hb,hn,hu,rfl,hk,hy,hl,hh⟩
 ·rcases hp with hp|⟨k,rfl,hk⟩
  ·rw [hp.fn hp' hnd];exact hF'
  ·exfalso
   obtain⟨e,he,hx⟩:=hp'.mem
   have h1:=(hf.key _ _ _ hk).1
   rcases(hA.kern i e _ he hx).2 with h2|h2
   ·injection h2 with h2;omega
   ·simp at h2
 ·rcases hp with hp|⟨k',e,hk'⟩
  ·exact(nokern hp hk).elim
  ·injection e with e
   subst e
   obtain⟨p',h1,h2⟩:=c2 i y k p0 x0 s u t hp0 hb hn hu hk hy hl h.lt hh
   have hr:=(hf.key _ _ _ hk').2.1
   rcases h2 with⟨-,h2⟩|⟨y0,r,j,h2,-⟩
   ·have:p=p':=by
     have a1: ∃m:Nat,(fi i)[m]? =some (k,p):=by
      obtain⟨m,hm,e⟩:=List.getElem_of_mem hk'
      exact⟨m,by rw [List.getElem?_eq_getElem hm,e]⟩
     have a2: ∃m:Nat,(fi i)[m]? =some (k,p'):=by
      obtain⟨m,hm,e⟩:=List.getElem_of_mem h2
      exact⟨m,by rw [List.getElem?_eq_getElem hm,e]⟩
     obtain⟨m,hm⟩:=a1
     obtain⟨m',hm'⟩:=a2
     have:=nodup_get (hf.nodup i) (i:=m) (j:=m') (x:=k) (by rw [List.getElem?_map,hm];rfl) (by rw [List.getElem?_map,hm'];rfl)
     subst this
     rw [hm]at hm'
     injection hm' with hm'
     injection hm'
    rw [this];exact h1
   ·rw [hr]at h2;cases h2
end
theorem la_follow {G:GramD} {st:Int} (hK:KnA G st) {D:Sts0} {i:Nat} {x:It} {t:Nat} (h:LA G st D i x t):rightI G st x=true/\(x.1=(G.rules.length:Int)->t=0)/\ ∀(k:Nat) r,x.1=(k:Int)->G.rules[k]? =some r->BehG G st r.1 t:=by
 have own: ∀{y:It} {s:Int},y.1=(G.rules.length:Int)->behindI G st y=(s,true)->s=st/\restI G st y=[]:=fun{y s} e hb=>by
  obtain⟨h1,h2,h3⟩:=behind_right hb
  have er:(ruleOf G st y.1).1.2=[st]:=by
   rw [e]
   unfold ruleOf
   rw [if_neg (by omega),if_pos rfl]
  have h0:0<=y.2:=by
   unfold rightI at h1
   simp only [Bool.and_eq_true,decide_eq_true_eq]at h1
   exact h1.2.1
  rw [er]at h2 h3
  simp at h2
  have:y.2=0:=by omega
  rw [this]at h3
  unfold restI rgt
  rw [er,this]
  exact⟨by simpa using h3.symm,rfl⟩
 have spl: ∀{y:It} {s:Int} {k:Nat} {r:Int×List Int},y.1=(k:Int)->G.rules[k]? =some r->behindI G st y=(s,true)-> ∃pre,r.2=pre++s::restI G st y:=fun{y s k r} e hr hb=>by
  obtain⟨h1,h2,h3⟩:=behind_right hb
  have er:(ruleOf G st y.1).1.2=r.2:=by rw [e,ruleOf_nat hr]
  unfold restI rgt
  rw [er]at h3⊢
  obtain⟨hl,e3⟩:=List.getElem?_eq_some_iff.1 h3
  exact⟨r.2.take y.2.toNat,by rw [<-e3,List.getElem_cons_drop,List.take_append_drop]⟩
 have low: ∀{y:It},rightI G st y=true->y.1≠(G.rules.length:Int)-> ∃(k:Nat) (r:Int×List Int),y.1=(k:Int)/\G.rules[k]? =some r:=fun{y} hr hne=>by
  have:=(hK.right hr).1.1
  unfold rightI ruleOf at hr
  split at hr
  ·simp at hr
  ·rename_i hn
   refine⟨y.1.toNat,_,by omega,List.getElem?_eq_getElem (by omega)⟩
 have sub: ∀{s:Int},isNon G s=true->(G.terms.length:Int)<s/\s<=G.terms.length+G.nons.length:=fun{s} h=>by
  unfold isNon topOf at h
  simp only [Bool.and_eq_true,decide_eq_true_eq]at h
  omega
 have bl: ∀{l:List Int} {u:Nat},lnB G l u=true->BegLG G l u:=fun{l u} h=>by
  unfold lnB at h
  obtain⟨pre,x,post,e1,e2,e3⟩:=lineB_iff.1 h
  refine⟨pre,x,post,e1,fun y hy=> ?_,?_⟩
  ·have:=e2 y hy
   unfold hasI at this
   simp only [Bool.and_eq_true,decide_eq_true_eq]at this
   have h2:=this.2
   unfold empB at h2
   have h3:=toB_iff.1 h2
   rwa [show((y.toNat:Nat):Int)=y by omega]at h3
  ·obtain⟨f1,f2,f3⟩:=famI_in e3
   unfold begB at f3
   have h3:=toB_iff.1 f3
   rwa [show((x.toNat:Nat):Int)=x by omega]at h3
 have em: ∀{l:List Int},emB G l=true-> ∀y∈l,EmpG G y:=fun{l} h y hy=>by
  have:=List.all_eq_true.1 h y hy
  unfold hasI at this
  simp only [Bool.and_eq_true,decide_eq_true_eq]at this
  have h2:=this.2
  unfold empB at h2
  have h3:=toB_iff.1 h2
  rwa [show((y.toNat:Nat):Int)=y by omega]at h3
 have new: ∀{s k:Int},k∈ofOf G s-> ∀(k':Nat) r,k=(k':Int)->G.rules[k']? =some r->r.1=s:=fun{s k} hk k' r e hr=>by
  obtain⟨n,x,e2,hx⟩:=of_mem.1 hk
  have:n=k':=by omega
  subst this
  rw [hr]at hx
  injection hx with hx
  rw [hx]
 induction h with
 |start=>
  refine⟨?_,fun _=>rfl,fun k r e hr=> ?_⟩
  ·unfold rightI ruleOf
   rw [if_neg (by omega),if_pos rfl]
   simp
  ·have:=(List.getElem?_eq_some_iff.1 hr).1
   simp only at e
   omega
 |step i j x s t _ hb _ ih=>exact⟨(step_right hb).1,ih.2.1,ih.2.2⟩
 |close i x s k t u hx hb hn hk hl ih=>
  refine⟨right_new hk,fun e=> ?_,fun k' r e hr=> ?_⟩
  ·have:=new_low hk;simp only at e;omega
  ·rw [new hk k' r e hr]
   by_cases ho:x.1=(G.rules.length:Int)
   ·rw [(own ho hb).2]at hl
    cases hl
   ·obtain⟨k0,r0,e0,hr0⟩:=low ih.1 ho
    obtain⟨pre,ep⟩:=spl e0 hr0 hb
    exact .next r0 s u pre _ (List.mem_of_getElem? hr0) ep (sub hn) (bl hl)
 |pass i x s k t hx hb hn hk hl ih=>
  refine⟨right_new hk,fun e=> ?_,fun k' r e hr=> ?_⟩
  ·have:=new_low hk;simp only at e;omega
  ·rw [new hk k' r e hr]
   by_cases ho:x.1=(G.rules.length:Int)
   ·rw [(own ho hb).1,ih.2.1 ho]
    exact .start
   ·obtain⟨k0,r0,e0,hr0⟩:=low ih.1 ho
    obtain⟨pre,ep⟩:=spl e0 hr0 hb
    exact .last r0 s t pre _ (List.mem_of_getElem? hr0) ep (sub hn) (em hl) (ih.2.2 k0 r0 e0 hr0)
section
open Go.RowKit
def NewPost' (w:World) (n:Nat) (f:Nat->Bool) (e:Ending) (w':World):Prop:= ∃b,e= .returned (.pointer (some ⟨b,0,none⟩))/\IsSet w' b (New (fun _=>False) w w') n f/\Below w.heap.size w w'
set_option maxRecDepth 100000 in
theorem set_twin {w:World} {b n:Nat} {f:Nat->Bool} {S:Nat->Prop} (h:IsSet w b S n f):
  Calls Tryz.prog 231 #[.pointer (some ⟨b,0,none⟩)] w (NewPost' w n f):=by
 obtain⟨⟨r,ws,hi,hr,hf⟩,hb,hlt⟩:=h
 obtain⟨c,h1,hc,hcm⟩:=hi.blk
 have c0:=h1.cell 0
 have c1:=h1.cell 1
 simp at c0 c1
 unfold maxLen at hcm
 have hroom:=hi.room
 have hlen:=hi.len
 have hmk:=make_rows (P:=Tryz.prog) Tryz.elem64 rfl ws.length (by omega) (by omega) .i64 .i64
 have hwlt:=hi.words.lt
 have hblt:=h1.lt
 obtain⟨rep,hrep⟩: ∃r,r=List.replicate ws.length (Value.int .u64 0):=⟨_,rfl⟩
 rw [<-hrep]at hmk
 have hrl:rep.length=ws.length:=by rw [hrep];simp
 have hd0:=cell_a c0
 have hd1:=cell_a c1
 have HR:=hide hrl
 have HI:=hide hi
 have HF:=hide hf
 have H1:=hide h1
 clear hrl hrep hi hf h1 hlen
 go_enter Tryz.func231,Tryz.ntmps231
 go_wp2_with (refine wpList_copy_splice rfl (.tmp 12) (.tmp 16) 285 285 rfl 282 Tryz.underlying285 (by kernel_rfl) (some ⟨w.heap.size,0,none⟩) (some ⟨r,0,none⟩) ws.length ws.length ws.length c rfl rfl w.heap.size 0 rep 282 (Blk.new w 282 rep.toArray) (ws.map U64) ?len (fun _=>⟨rfl,_,rfl,?cells⟩) ?fit ?ones w.heap.size w ((Below.refl _ _).alloc (Nat.le_refl _) _) (Nat.le_refl _) ?_)
 case len=>simp
 case fit=>rw [HR.out];simp
 case ones=>intro u hu;obtain⟨x,_,rfl⟩:=List.mem_map.1 hu;rfl
 case cells=>
  intro j v hj
  rw [add_none,Nat.zero_add]
  have:=(HI.out.words.alloc (.cells rep.toArray 282)).cell j
  rw [this];simpa using hj
 intro w2 hg2 hb2
 have e0:=(hb2.cell (p:=⟨b,0,none⟩) hblt).trans c0
 have e1:=(hb2.cell (p:=⟨b,1,none⟩) hblt).trans c1
 clear hd0 hd1 hmk
 go_wp2_with fail
 go_ret
 have hsp:splice rep 0 (ws.map U64)=ws.map U64:=by
  unfold splice
  have:rep.drop (0+(ws.map U64).length)=[]:=List.drop_eq_nil_of_le (by rw [HR.out];simp)
  rw [this];simp
 have hw:Blk w2 w.heap.size 282 (ws.map U64).toArray:=by have:=hg2.out;rw [hsp]at this;exact this
 have hsz:=hw.lt
 have hw':=hw.alloc (.cells #[.int .i64 n,.slice (some ⟨w.heap.size,0,none⟩) ws.length ws.length] 287)
 have hs':=Blk.new w2 287 #[.int .i64 n,.slice (some ⟨w.heap.size,0,none⟩) ws.length ws.length]
 refine⟨w2.heap.size,rfl,⟨⟨w.heap.size,ws,⟨⟨ws.length,hs',Nat.le_refl _,by unfold maxLen;omega⟩,hw',HI.out.len,hroom,HI.out.high⟩,.inr ⟨Nat.le_refl _,by simp;omega⟩,HF.out⟩,.inr ⟨by omega,by simp⟩,fun k hk=>by rcases hk with hk|hk;exact hk.elim;exact hk.2⟩,hb2.alloc (by omega) _⟩
end
theorem strict_len9 {G:GramD} {st:Int} {k:List It} (hK:KnA G st) (hs:StrictI k) (hr: ∀x∈k,rightI G st x=true):k.length<=2709:=by
 have h:=nodup_len 2709 (-1) (l:=k.map fun x=>9 * x.1+x.2) ?_ ?_
 ·simpa using h
 ·rw [List.Nodup,List.pairwise_map]
  refine List.Pairwise.imp_of_mem (fun{a b} ha hb h=> ?_) hs
  obtain⟨⟨a1,a2⟩,a3,a4⟩:=hK.right (hr a ha)
  obtain⟨⟨b1,b2⟩,b3,b4⟩:=hK.right (hr b hb)
  unfold itLt at h
  simp only [Bool.or_eq_true,Bool.and_eq_true,decide_eq_true_eq]at h
  omega
 ·intro z hz
  obtain⟨x,hx,rfl⟩:=List.mem_map.1 hz
  obtain⟨⟨a1,a2⟩,a3,a4⟩:=hK.right (hr x hx)
  omega
theorem preD_bound {D:Sts0} {B:Nat} (h: ∀e∈D,e.1.length<=B): ∀i:Nat,preD D i<=i * B
 |0=>by simp [preD]
 |i+1=>by
  have ih:=preD_bound h i
  rw [Nat.add_mul,Nat.one_mul]
  cases hi:D[i]? with
  |none=>
   have:=List.getElem?_eq_none_iff.1 hi
   have e:preD D (i+1)=preD D i:=by
    unfold preD
    rw [List.take_of_length_le this,List.take_of_length_le (by omega)]
   omega
  |some e=>
   have:=preD_next hi
   have:=h e (List.mem_of_getElem? hi)
   omega
def sumFi (n:Nat) (fi:Fin0):Nat:=((List.range n).map fun i=>(fi i).length).sum
theorem sumFi_succ (n:Nat) (fi:Fin0):sumFi (n+1) fi=sumFi n fi+(fi n).length:=by
 unfold sumFi
 rw [List.range_succ,List.map_append,List.sum_append]
 simp
theorem sumFi_upd {fi:Fin0} {i:Nat} {z:Int×Nat}: ∀{n:Nat},sumFi n (upd fi i (fi i++[z]))=sumFi n fi+if i<n then 1 else 0
 |0=>by simp [sumFi]
 |n+1=>by
  rw [sumFi_succ,sumFi_succ,sumFi_upd (n:=n)]
  by_cases e:n=i
  ·subst e
   rw [upd_same,List.length_append,List.length_singleton,if_neg (by omega),if_pos (by omega)]
   omega
  ·rw [upd_ne e]
   by_cases h:i<n
   ·rw [if_pos h,if_pos (by omega)];omega
   ·rw [if_neg h,if_neg (by omega)];omega
theorem sumFi_le {fi:Fin0} {B:Nat} (h: ∀i,(fi i).length<=B): ∀n:Nat,sumFi n fi<=n * B
 |0=>by simp [sumFi]
 |n+1=>by
  rw [sumFi_succ,Nat.add_mul,Nat.one_mul]
  have:=sumFi_le h n
  have:=h n
  omega
theorem FiOk.len {G:GramD} {st:Int} {D:Sts0} {fi:Fin0} {na:Nat} (h:FiOk G st D fi na) (i:Nat):(fi i).length<=G.rules.length:=by
 have:=nodup_len G.rules.length (-1) (h.nodup i) (fun x hx=>by
  obtain⟨⟨k,p⟩,hz,rfl⟩:=List.mem_map.1 hx
  have:=(h.key i k p hz).1
  omega)
 simpa using this
structure ItI (d:LD) (cm:Nat->List Co) (y:Dy):Prop where
 fi:FiOk d.G d.st d.D y.fi y.na
 ed: ∀e∈y.ed,EdOk d.G d.st d.D cm y.fi e
 cnt:y.na=preD d.D d.D.length+sumFi d.D.length y.fi
 F:y.F=F00
 pos:1<=y.na
 src: ∀i k p,(k,p)∈y.fi i->FiSrc d.G d.st d.D cm i k
structure GrI (y y':Dy):Prop where
 ed: ∀e∈y.ed,e∈y'.ed
 fi: ∀i z,z∈y.fi i->z∈y'.fi i
theorem GrI.refl (y:Dy):GrI y y:=⟨fun _ h=>h,fun _ _ h=>h⟩
theorem GrI.trans {a b c:Dy} (h:GrI a b) (g:GrI b c):GrI a c:=⟨fun e he=>g.ed e (h.ed e he),fun i z hz=>g.fi i z (h.fi i z hz)⟩
section
variable {d : LD} {cm : Nat -> List Co} {y : Dy}
theorem ItI.na_le (h:ItI d cm y) (hA:IsAuto d.G d.st d.D) (hK:KnA d.G d.st):y.na<=10000000:=by
 have h1:=preD_bound (D:=d.D) (B:=2709) (fun e he=>by
  obtain⟨i,hi,rfl⟩:=List.getElem_of_mem he
  exact strict_len9 hK (hA.strict i _ (List.getElem?_eq_getElem hi)) (fun x hx=>(hA.kern i _ x (List.getElem?_eq_getElem hi) hx).1)) d.D.length
 have h2:=sumFi_le (fi:=y.fi) (B:=300) (fun i=>Nat.le_trans (h.fi.len i) hK.r) d.D.length
 have h3:=hA.n
 have h4:d.D.length * 2709<=2000 * 2709:=Nat.mul_le_mul_right _ h3
 have h5:d.D.length * 300<=2000 * 300:=Nat.mul_le_mul_right _ h3
 have:=h.cnt
 omega
theorem ItI.fi_le (h:ItI d cm y) (hK:KnA d.G d.st) (i:Nat):(y.fi i).length<=300:=Nat.le_trans (h.fi.len i) hK.r
theorem endD_ed (y:Dy) (i:Nat) (k:Int):(endD y i k).1.ed=y.ed:=by unfold endD;split<;>rfl
theorem ItI.end_ {i:Nat} {k:Int} (h:ItI d cm y) (hi:i<d.D.length) (hk:0<=k/\k<(d.G.rules.length:Int)) (hr:rgt d.G d.st k=[]) (hs:FiSrc d.G d.st d.D cm i k):
  ItI d cm (endD y i k).1/\(k,(endD y i k).2)∈(endD y i k).1.fi i/\GrI y (endD y i k).1:=by
 cases hf:(y.fi i).find? (fun x=>decide (x.1=k))with
 |some x=>
  have e:endD y i k=(y,x.2):=by unfold endD;rw [hf]
  have h1:=List.mem_of_find?_eq_some hf
  have h2:=List.find?_some hf
  rw [decide_eq_true_eq]at h2
  rw [e]
  exact⟨h,by obtain⟨a,b⟩:=x;simp only at h2;subst h2;exact h1,GrI.refl y⟩
 |none=>
  have e:endD y i k=({freshD y with fi:=upd y.fi i (y.fi i++[(k,y.na)])},y.na):=by unfold endD;rw [hf]
  have hno: ∀p,(k,p)∉y.fi i:=fun p hp=>by
   have:=List.find?_eq_none.1 hf _ hp
   simp at this
  rw [e]
  have hle: ∀j z,z∈y.fi j->z∈upd y.fi i (y.fi i++[(k,y.na)]) j:=fun j z hz=>by
   by_cases ej:j=i
   ·subst ej;rw [upd_same];exact List.mem_append_left _ hz
   ·rw [upd_ne ej];exact hz
  have hin: ∀j z,z∈upd y.fi i (y.fi i++[(k,y.na)]) j->z∈y.fi j\/(j=i/\z=(k,y.na)):=fun j z hz=>by
   by_cases ej:j=i
   ·subst ej
    rw [upd_same]at hz
    rcases List.mem_append.1 hz with hz|hz
    ·exact .inl hz
    ·exact .inr ⟨rfl,List.mem_singleton.1 hz⟩
   ·rw [upd_ne ej]at hz;exact .inl hz
  refine⟨⟨⟨?_,fun j k' p hz=> ?_,fun j=> ?_,fun j j' k1 k2 p hz hz'=> ?_,fun j hj=> ?_⟩,fun e he=>(h.ed e he).mono hle,?_,?_,?_,fun j k' p hz=> ?_⟩,?_,⟨fun e he=>he,hle⟩⟩
  ·exact Nat.le_succ_of_le h.fi.le
  ·rcases hin j _ hz with hz|⟨-,hz⟩
   ·obtain⟨a,b,c,e⟩:=h.fi.key j k' p hz
    exact⟨a,b,c,Nat.lt_succ_of_lt e⟩
   ·injection hz with h1 h2
    subst h1 h2
    exact⟨hk,hr,h.fi.le,Nat.lt_succ_self _⟩
  ·by_cases ej:j=i
   ·subst ej
    show((upd y.fi j (y.fi j++[(k,y.na)]) j).map (·.1)).Nodup
    rw [upd_same,List.map_append,List.nodup_append]
    refine⟨h.fi.nodup j,by simp,fun a ha b hb e=> ?_⟩
    obtain⟨⟨a1,a2⟩,ha2,rfl⟩:=List.mem_map.1 ha
    simp only [List.map_cons,List.map_nil,List.mem_singleton]at hb
    simp only at e
    rw [hb]at e
    subst e
    exact hno a2 ha2
   ·show((upd y.fi i (y.fi i++[(k,y.na)]) j).map (·.1)).Nodup
    rw [upd_ne ej];exact h.fi.nodup j
  ·have lt: ∀{j k1},(k1,p)∈y.fi j->p<y.na:=fun hz=>(h.fi.key _ _ _ hz).2.2.2
   rcases hin j _ hz with hz|⟨h1,hz⟩
   ·rcases hin j' _ hz' with hz'|⟨h1',hz'⟩
    ·exact h.fi.inj _ _ _ _ _ hz hz'
    ·injection hz' with _ e;have:=lt hz;omega
   ·rcases hin j' _ hz' with hz'|⟨h1',hz'⟩
    ·injection hz with _ e;have:=lt hz';omega
    ·injection hz with e1 _
     injection hz' with e2 _
     exact⟨h1.trans h1'.symm,e1.trans e2.symm⟩
  ·show upd y.fi i (y.fi i++[(k,y.na)]) j=[]
   rw [upd_ne (by omega)];exact h.fi.out j hj
  ·show y.na+1=preD d.D d.D.length+sumFi d.D.length (upd y.fi i (y.fi i++[(k,y.na)]))
   rw [sumFi_upd,if_pos hi]
   have:=h.cnt
   omega
  ·show upd y.F y.na noBits=F00
   rw [h.F]
   funext p t
   by_cases ep:p=y.na
   ·subst ep
    rw [upd_same]
    have:=h.pos
    unfold F00 noBits
    rw [show decide (y.na=0)=false from decide_eq_false (by omega)]
    rfl
   ·rw [upd_ne ep]
  ·exact Nat.le_add_left 1 y.na
  ·rcases hin j _ hz with hz|⟨e1,hz⟩
   ·exact h.src j k' p hz
   ·injection hz with e2 _
    rw [e1,e2];exact hs
  ·show(k,y.na)∈upd y.fi i (y.fi i++[(k,y.na)]) i
   rw [upd_same]
   exact List.mem_append_right _ (List.mem_singleton.2 rfl)
theorem ItI.edge {e:Ed} (h:ItI d cm y) (he:EdOk d.G d.st d.D cm y.fi e):ItI d cm {y with ed:=y.ed++[e]}/\GrI y {y with ed:=y.ed++[e]}:=
 ⟨⟨h.fi,fun x hx=>by
  rcases List.mem_append.1 hx with hx|hx
  ·exact h.ed x hx
  ·rw [List.mem_singleton.1 hx];exact he,h.cnt,h.F,h.pos,h.src⟩,⟨fun x hx=>List.mem_append_left _ hx,fun _ _ hz=>hz⟩⟩
theorem ItI.edv (h:ItI d cm y): ∀e∈y.ed,(0<=e.tq9/\e.tq9<(y.na:Int))/\e.at_<y.na:=fun e he=>by
 obtain⟨i,x,s,h1,h2,h3⟩:=h.ed e he
 have hl:=h.fi.le
 refine⟨?_,by have:=h1.lt;omega⟩
 rcases h3 with⟨-,-,j,p,-,e1,e2⟩|⟨-,c,-,k,-,-,-,-,p,e1,e2⟩
 ·have:=e2.lt;omega
 ·rcases e2 with⟨-,e2⟩|⟨y0,r,j,-,-,e2⟩
  ·have:=(h.fi.key _ _ _ e2).2.2.2;omega
  ·have:=e2.lt;omega
end
theorem place_kp {D:Sts0} {ba:List Int} {j:Nat} {e:List It×List It} {x:It} (hba:ba[j]? =some ((preD D j:Nat):Int)) (he:D[j]? =some e) (hx:x∈e.1): ∃p:Nat,placeD D ba j x=(p:Int)/\KP D p j x:=by
 obtain⟨m,hm⟩: ∃m,m=e.1.idxOf x:=⟨_,rfl⟩
 have hlt:m<e.1.length:=by rw [hm];exact List.idxOf_lt_length_of_mem hx
 have hg:e.1[m]? =some x:=by
  rw [List.getElem?_eq_getElem hlt]
  congr 1
  subst hm
  exact List.getElem_idxOf hlt
 refine⟨preD D j+m,?_,e,m,he,hg,rfl⟩
 unfold placeD
 rw [he,hba]
 show(if x∈e.1 then _ else _)=_
 rw [if_pos hx]
 show((preD D j:Nat):Int)+((e.1.idxOf x:Nat):Int)=_
 rw [<-hm]
 rfl
def BaOk (d:LD):Prop:= ∀j:Nat,j<d.D.length->d.ba[j]? =some ((preD d.D j:Nat):Int)
theorem ea_of {d:LD} (hA:IsAuto d.G d.st d.D) (hb:BaOk d) {p i:Nat} {x:It} {s:Int} (hp:KP d.D p i x) (hbe:behindI d.G d.st x=(s,true)): ∃j:Nat,gotoD d.D i s=(j:Int)/\j<d.D.length/\EA d.D ⟨toD d i x s,p,noBits,true⟩ i x s:=by
 obtain⟨e,he,hx⟩:=hp.mem
 have hc:Cl d.G d.st e.1 x:= .base x hx (hA.kern i e x he hx).1
 obtain⟨j,hj⟩:=hA.has i e x s he hc hbe
 obtain⟨e',he',hn⟩:=hA.tq9 i j e s he hj
 have hjl:=(List.getElem?_eq_some_iff.1 he').1
 have hm:((x.1,x.2+1):It)∈e'.1:=by rw [hn];exact((nx_is d.G d.st e.1 s).2 _).2 ⟨x,hc,hbe,rfl⟩
 obtain⟨p',h1,h2⟩:=place_kp (hb j hjl) he' hm
 refine⟨j,hj,hjl,rfl,rfl,j,p',hj,?_,h2⟩
 show placeD d.D d.ba (gotoD d.D i s).toNat (x.1,x.2+1)=_
 rw [hj,Int.toNat_natCast]
 exact h1
theorem cl_bg {G:GramD} {st:Int} {l:List It} {x:It} {s y k:Int} (hx:Cl G st l x) (hb:behindI G st x=(s,true)) (hy:Bg G st s y) (hk:k∈ofOf G y):Cl G st l (k,0):=by
 induction hy generalizing k with
 |base=>exact .next x s k hx hb hk
 |next n k' m _ hk' hb' _ ih=>exact .next (k',0) m k (ih hk') hb' hk
theorem eb_of {d:LD} (hA:IsAuto d.G d.st d.D) (hb:BaOk d) {p i:Nat} {x:It} {s y k y0:Int} {r:List Int} (hp:KP d.D p i x) (hbe:behindI d.G d.st x=(s,true)) (hy:Bg d.G d.st s y) (hk:k∈ofOf d.G y) (hr:rgt d.G d.st k=y0::r):
  ∃j p':Nat,gotoD d.D i y0=(j:Int)/\j<d.D.length/\toD d i (k,0) y0=(p':Int)/\KP d.D p' j (k,1):=by
 obtain⟨e,he,hx⟩:=hp.mem
 have hc:=cl_bg (.base x hx (hA.kern i e x he hx).1) hbe hy hk
 have hbk:=rgt_of hk hr
 obtain⟨j,hj⟩:=hA.has i e (k,0) y0 he hc hbk
 obtain⟨e',he',hn⟩:=hA.tq9 i j e y0 he hj
 have hjl:=(List.getElem?_eq_some_iff.1 he').1
 have hm:((k,0+1):It)∈e'.1:=by rw [hn];exact((nx_is d.G d.st e.1 y0).2 _).2 ⟨(k,0),hc,hbk,rfl⟩
 obtain⟨p',h1,h2⟩:=place_kp (hb j hjl) he' hm
 refine⟨j,p',hj,hjl,?_,h2⟩
 show placeD d.D d.ba (gotoD d.D i y0).toNat (k,0+1)=_
 rw [hj,Int.toNat_natCast]
 exact h1
def DoneK (d:LD) (p i:Nat) (x:It) (c:Co) (k:Int) (y:Dy):Prop:=(rgt d.G d.st k=[]-> ∃p',(k,p')∈y.fi i)/\(noneT (d.G.terms.length+1) (tlI d.G d.st x)=false-> ∃e∈y.ed,e.at_=p/\EB d.G d.st d.D y.fi e i x c k)
theorem DoneK.mono {d:LD} {p i:Nat} {x:It} {c:Co} {k:Int} {y y':Dy} (h:DoneK d p i x c k y) (g:GrI y y'):DoneK d p i x c k y':=
 ⟨fun hr=>(h.1 hr).imp fun p' hp=>g.fi _ _ hp,fun hn=>by
  obtain⟨e,he,h1,h2⟩:=h.2 hn
  exact⟨e,g.ed e he,h1,h2.mono g.fi⟩⟩
end Go.Proofs.YthlbjgabhpdbfaaGreat
namespace Go.Proofs.YthlbjgabhpdbfaaGreat
set_option linter.unusedVariables false
attribute [local irreducible] wpStill
section
variable {P : Program} {ops : Array Oper} {md : Region.Mode} {S : World -> Prop} {Q : Exit -> Act -> World -> Prop}
def pickO (l:List Oper):List Nat->List Oper
 |[]=>[]
 |i::t=>match l[i]? with|some o=>o::pickO l t|none=>pickO l t
def setL:List Nat->Array Bool->Array Bool
 |[],listed=>listed
 |k::t,listed=>setL t (listed.setIfInBounds k true)
def rdLB (md:Region.Mode) (ops:Array Oper):List Nat->Array Bool->Bool
 |[],_=>true
 |k::t,listed=>(Region.ready md ops listed).contains k&&Region.free md ops listed k&&rdLB md ops t (listed.setIfInBounds k true)
def alLB (md:Region.Mode) (ops:Array Oper):List Nat->Array Bool->Bool
 |[],_=>true
 |k::t,listed=>decide (Region.ready md ops listed=[k])&&alLB md ops t (listed.setIfInBounds k true)
def late2B (ops:Array Oper) (rs ms:List Nat) (m:Nat):Bool:=
 Region.noSelect ops&&decide (m<ops.size)&&decide (rs.length+ms.length=m)&&rs.all (fun i=>decide (i<m))&&ms.all (fun i=>decide (i<m))&&sinkS .any ops 0 m&&depB .any ops m&&rdLB .any ops rs (Array.replicate ops.size false)&&alLB .any ops ms (setL rs (Array.replicate ops.size false))&&
  decide (Region.ready .any ops (setL ms (setL rs (Array.replicate ops.size false)))=[m])&&Region.seqB .any ops (ops.size - m) m (setL ms (setL rs (Array.replicate ops.size false)))
theorem wpHd_midL {m:Nat} {rest l0:List Oper} {l2:Array Bool} (hm:m<=l0.length): ∀(ms:List Nat) (listed:Array Bool) (a:Act) (w:World),ms.all (fun i=>decide (i<m))=true->setL ms listed=l2->alLB md l0.toArray ms listed=true->
  wpMid P l0.toArray Q S rest (pickO l0 ms) a w->wpHd P md l0.toArray Q S m (fun listed' a' w'=>listed'=l2/\wpList P l0.toArray Q rest a' w') ms.length listed a w
 |[],listed,a,w,_,he,_,h=>⟨he,h⟩
 |k::t,listed,a,w,hk,he,hB,h=>by
  simp only [List.all_cons,Bool.and_eq_true,decide_eq_true_eq]at hk
  simp only [alLB,Bool.and_eq_true,decide_eq_true_eq]at hB
  have h0:l0[k]? =some l0[k]:=List.getElem?_eq_getElem (by omega)
  have hp:pickO l0 (k::t)=l0[k]::pickO l0 t:=by
   show(match l0[k]? with|some o=>o::pickO l0 t|none=>pickO l0 t)=_
   rw [h0]
  rw [hp]at h
  refine⟨fun e=>(by rw [hB.1]at e;cases e),fun j hj=> ?_⟩
  rw [hB.1]at hj
  have:j=k:=by simpa using hj
  subst this
  refine⟨hk.1,wpOp_of_one (by simp) (fun a2 w2 h2=>⟨h2.1,?_⟩) h⟩
  exact wpHd_midL hm t _ a2 w2 hk.2 he hB.2 h2.2
theorem wpHd_heldL {m r:Nat} {l0:List Oper} {L:Array Bool->Act->World->Prop} {w:World} (hsel:Region.noSelect l0.toArray=true) (hQ: ∀c a a' w,Q (.panic c) a w->Q (.panic c) a' w) (hs:sinkS md l0.toArray 0 m=true) (hc:depB md l0.toArray m=true) (hm:m<l0.toArray.size)
  (hdone: ∀listed a w,L listed a w-> ∀j∈Region.ready md l0.toArray listed,m<=j) (hS:S w) {l2:Array Bool}:
  ∀(rs:List Nat) (listed:Array Bool) (a:Act),rs.all (fun i=>decide (i<m))=true->HeadInv md l0.toArray m listed->setL rs listed=l2->rdLB md l0.toArray rs listed=true->
   wpHeld P l0.toArray S (fun a'=>wpHd P md l0.toArray Q S m L r l2 a' w) (pickO l0 rs) a->wpHd P md l0.toArray Q S m L (rs.length+r) listed a w
 |[],listed,a,_,_,he,_,h=>by
  have he':listed=l2:=he
  subst he'
  rw [List.length_nil,Nat.zero_add]
  exact h
 |k::t,listed,a,hk,inv,he,hB,h=>by
  simp only [List.all_cons,Bool.and_eq_true,decide_eq_true_eq]at hk
  simp only [rdLB,Bool.and_eq_true]at hB
  have hkl:k<l0.length:=by have:m<l0.length:=(by simpa using hm);omega
  have h0:l0[k]? =some l0[k]:=List.getElem?_eq_getElem hkl
  have hp:pickO l0 (k::t)=l0[k]::pickO l0 t:=by
   show(match l0[k]? with|some o=>o::pickO l0 t|none=>pickO l0 t)=_
   rw [h0]
  rw [hp]at h
  obtain⟨⟨hr,hf⟩,hB'⟩:=hB
  obtain⟨v,hy,hK⟩:=h
  have h0':l0.toArray[k]? =some l0[k]:=by simp
  have hr':k∈Region.ready md l0.toArray listed:=by simpa using hr
  rw [List.length_cons,show t.length+1+r=(t.length+r)+1 by omega]
  refine wpHd_first h0' (Region.noSelect_spec hsel) (fun c a w h=>hQ c _ _ w h) hs hc hm hk.1 hdone _ listed a w inv (Region.free_spec h0' hf) hr' hy hS ?_
  exact wpHd_heldL hsel hQ hs hc hm hdone hS t _ _ hk.2 (inv.set hr' hk.1) he hB' hK
end
theorem wpHeld_off {P:Program} {ops:Array Oper} {S:World->Prop} {K:Act->Prop} {a:Act} {o:Oper} {t:List Oper} (hw:Region.wanted o (yielded ops a.tmps)=false) (h:wpHeld P ops S K t (a.put o.dst undef)):wpHeld P ops S K (o::t) a:=⟨undef,.inr ⟨hw,rfl⟩,h⟩
theorem region_late2 {P:Program} {id:Nat} {Q:Exit->Act->World->Prop} {a:Act} {w:World} {l:List Oper} (S:World->Prop) (rs ms:List Nat) (m:Nat) (hm:P.follows .mixedOrders=true) (hB:late2B l.toArray rs ms m=true) (hS:S w.drew)
  (h:wpHeld P l.toArray S (fun a'=>wpMid P l.toArray (NoPanic Q) S (l.drop m) (pickO l ms) a' w.drew) (pickO l rs) a):(Code.region id l.toArray true).wp P Q a w:=by
 refine wp_region_noPanic ?_
 simp only [late2B,Bool.and_eq_true,decide_eq_true_eq]at hB
 obtain⟨⟨⟨⟨⟨⟨⟨⟨⟨⟨hsel,hms⟩,hlen⟩,hr1⟩,hm1⟩,hsk⟩,hdp⟩,hrd⟩,hal⟩,hrl⟩,hsq⟩:=hB
 have hms':m<l.length:=by simpa using hms
 refine wp_region_any hm ?_
 have inv0:HeadInv .any l.toArray m (Array.replicate l.toArray.size false):=
  ⟨by simp,fun j oj _ hl=>(by rw [getD_replicate_false]at hl;cases hl),fun t _ ht=>getD_in (by simpa using ht) (getD_replicate_false _ _)⟩
 have hL: ∀(listed:Array Bool) (a:Act) (w:World),(listed=setL ms (setL rs (Array.replicate l.toArray.size false))/\wpList P l.toArray (NoPanic Q) (l.drop m) a w)->wpAny P .any l.toArray (NoPanic Q) (l.drop m).length listed a w:=fun listed a w h=>by
  obtain⟨rfl,h⟩:=h
  refine wpAny_of_seq (l.drop m) m _ a w (fun j=>by rw [List.getElem?_drop];simp) ?_ h
  rw [show(l.drop m).length=l.toArray.size - m by simp]
  exact hsq
 have H:=wpHd_heldL (md:= .any) (P:=P) (Q:=NoPanic Q) (S:=S) (w:=w.drew) (m:=m) (r:=ms.length) (L:=fun listed a w=>listed=setL ms (setL rs (Array.replicate l.toArray.size false))/\wpList P l.toArray (NoPanic Q) (l.drop m) a w) hsel (fun c a a' w h=>h) hsk hdp hms
  (fun listed a w hl j hj=>by rw [hl.1,hrl]at hj;have:j=m:=(by simpa using hj);omega) hS rs (Array.replicate l.toArray.size false) a hr1 inv0 rfl hrd (by
   have mono: ∀(l':List Oper) (a:Act) (K K':Act->Prop),(∀a,K a->K' a)->wpHeld P l.toArray S K l' a->wpHeld P l.toArray S K' l' a:=by
    intro l'
    induction l' with
    |nil=>intro a K K' hk h;exact hk a h
    |cons o t ih=>intro a K K' hk h;obtain⟨v,h1,h2⟩:=h;exact⟨v,h1,ih _ K K' hk h2⟩
   refine mono _ _ _ _ (fun a' h'=> ?_) h
   exact wpHd_midL (md:= .any) (l2:=setL ms (setL rs (Array.replicate l.toArray.size false))) (by omega) ms (setL rs (Array.replicate l.toArray.size false)) a' w.drew hm1 rfl hal h')
 have:=wpAny_of_hd hL _ _ _ _ H
 rw [hlen,show m+(l.drop m).length=l.toArray.size by simp;omega]at this
 exact this
end Go.Proofs.YthlbjgabhpdbfaaGreat

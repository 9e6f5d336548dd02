/- The least end, the document's: words compared; the nodes in memory; find, put. -/
import Derived.Test.YtalbfonkhpeajaaGreatHAuto15
import Derived.Test.YtalbfonkhpeajaaGreatHLeast6
import Derived.Test.YtalbfonkhpeajaaGreatHRoute1
import Derived.Test.YtalbfonkhpeajaaGreatHBase
import Derived.Test.YtalbfonkhpeajaaGreatHFin11
namespace Go.Proofs.YtalbfonkhpeajaaGreat
set_option linter.unusedVariables false
set_option linter.unusedSimpArgs false
open Go.RowKit
attribute [local irreducible] wpStill wpOne wpPh
set_option maxRecDepth 100000 in
set_option maxHeartbeats 2000000 in
theorem ref22_less {w:World} {F G:Nat→Prop} {v u:Value} {xs ys:List Int} (h:RdI w F v xs) (g:RdI w G u ys):
  Calls Tryz.prog 95 #[v,u] w fun e w'=>e= .returned (.bool (lessB xs ys))∧ ∃q,w'=w.drewN q:=by
 have hl:lessB xs ys=if xs.length=ys.length then lexB xs ys else decide (xs.length<ys.length):=rfl
 obtain⟨A,n,c,rfl,-⟩:=id h
 obtain⟨B,m,d,rfl,-⟩:=id g
 obtain⟨hn,hnc,hcm,hcell⟩:=h.at_
 obtain⟨hm,hmd,hdm,hcell'⟩:=g.at_
 unfold maxLen at hcm hdm
 rw [←hn,←hm]at hl
 clear h g
 by_cases e:n=m
 ·subst e
  rw [if_pos rfl]at hl
  have hat: ∀(k:Nat) (a b:Int),(∀j:Nat,j<k→xs[j]? =ys[j]?)→xs[k]? =some a→ys[k]? =some b→a≠b→lexB xs ys=decide (a<b):=fun k a b=>lexB_at
  have hall:(∀j:Nat,j<n→xs[j]? =ys[j]?)→lexB xs ys=false:=fun hh=>by
   have:xs=ys:=List.ext_getElem? fun j=>by
    by_cases hj:j<n
    ·exact hh j hj
    ·rw [List.getElem?_eq_none (by omega),List.getElem?_eq_none (by omega)]
   rw [this];exact lexB_same ys
  have Xhl:=hide hl;have Xhn:=hide hn;have Xhm:=hide hm;have Xhat:=hide hat;have Xhall:=hide hall;clear hl hn hm hat hall
  go_enter Tryz.func95,Tryz.ntmps95
  go_wp2_with fail
  go_loopw [5] (fun i wr=> ∃k q:Nat,k≤n∧i= .int .i64 k∧(∀j:Nat,j<k→xs[j]? =ys[j]?)∧wr=w.drewN q) (fun i _=>n - (intOf i).toNat)
  case atStart=>exact⟨0,0,Nat.zero_le _,rfl,fun j hj=>absurd hj (by omega),rfl⟩
  case round=>
   obtain⟨k,q,hk,rfl,hb,rfl⟩:=hrel
   have Xhb:=hide hb;clear hb
   by_cases hlt:k<n
   ·obtain⟨b,off,rfl,-,hc1⟩:=hcell (by omega)
    obtain⟨b',off',rfl,-,hc2⟩:=hcell' (by omega)
    obtain⟨x,hx⟩: ∃x,xs[k]? =some x:=⟨_,List.getElem?_eq_getElem (by rw [←Xhn.out];exact hlt)⟩
    obtain⟨y,hy⟩: ∃x,ys[k]? =some x:=⟨_,List.getElem?_eq_getElem (by rw [←Xhm.out];exact hlt)⟩
    have q1:=hc1 k x hx
    have q2:=hc2 k y hy
    have hlt':(k:Int)<(n:Int):=by omega
    have hk0:(0:Int)≤(k:Int):=by omega
    by_cases he:x=y
    ·have hne:(x !=y)=false:=by simp [he]
     have Xhx:=hide hx;have Xhy:=hide hy;have Xhe:=hide he;clear hx hy he;clear hcell hcell' hc1 hc2
     go_wp2_with fail
     refine region_reads (by kernel_rfl) (by kernel_rfl) ?_
     repeat still_step
     refine wpStill_nil ?_
     go_wp2_with fail
     go_roundw
     case rel=>exact⟨k+1,q+1,by omega,by go_num,fun j hj=>by
      by_cases e:j=k
      ·subst e;rw [Xhx.out,Xhy.out,Xhe.out]
      ·exact Xhb.out j (by omega),rfl⟩
     case measure=>simp [intOf];omega
    ·have hne:(x !=y)=true:=by simpa using he
     have hfin:=Xhat.out k x y Xhb.out hx hy he
     have Xhx:=hide hx;have Xhy:=hide hy;have Xhe:=hide he;have Xhfin:=hide hfin;clear hx hy he hfin;clear hcell hcell' hc1 hc2
     iterate 2
      go_wp2_with fail
      refine region_reads (by kernel_rfl) (by kernel_rfl) ?_
      repeat still_step
      refine wpStill_nil ?_
     go_wp2_with fail
     go_ret
     exact⟨ret_bool (by rw [Xhl.out,Xhfin.out]),q+2,rfl⟩
   ·clear hcell hcell'
    go_wp2_with fail
    go_ret
    exact⟨ret_bool (by rw [Xhl.out,Xhall.out fun j hj=>Xhb.out j (by omega)]),q,rfl⟩
 ·have hne:((n:Int) !=(m:Int))=true:=by simpa using(by omega: ¬(n:Int)=(m:Int))
  rw [if_neg e]at hl
  have Xhl:=hide hl;have Xhn:=hide hn;have Xhm:=hide hm;clear hl hn hm;clear hcell hcell'
  go_enter Tryz.func95,Tryz.ntmps95
  go_wp2_with fail
  go_ret
  exact⟨ret_bool (by rw [Xhl.out]),0,rfl⟩
abbrev NdV:=(Pl×Option Wd)×Value
def ndC (z:NdV):List Value:=[.int .i64 z.1.1.1,.int .i64 z.1.1.2,.bool z.1.2.isSome,z.2]
def ndCells (Z:List NdV):List Value:=Z.flatMap ndC
theorem ndCells_len: ∀Z:List NdV,(ndCells Z).length=Z.length * 4
 |[]=>rfl
 |z::Z=>by
  have:=ndCells_len Z
  unfold ndCells at this⊢
  rw [List.flatMap_cons,List.length_append,this,List.length_cons]
  simp [ndC];omega
theorem ndCells_app (Z Z':List NdV):ndCells (Z++Z')=ndCells Z++ndCells Z':=by simp [ndCells]
theorem ndCells_get: ∀{Z:List NdV} {i:Nat} {p:NdV},Z[i]? =some p→ ∀j,j<4→(ndCells Z)[i * 4+j]? =(ndC p)[j]?
 |[],i,p,h,j,hj=>by simp at h
 |z::Z,0,p,h,j,hj=>by
  simp at h;subst h
  show(List.flatMap ndC (z::Z))[0 * 4+j]? =_
  rw [List.flatMap_cons,List.getElem?_append_left (by simp [ndC];omega),Nat.zero_mul,Nat.zero_add]
 |z::Z,i+1,p,h,j,hj=>by
  have ih:=ndCells_get (Z:=Z) (i:=i) (p:=p) (by simpa using h) j hj
  show(List.flatMap ndC (z::Z))[(i+1) * 4+j]? =_
  rw [List.flatMap_cons,List.getElem?_append_right (by simp [ndC];omega)]
  rw [show(i+1) * 4+j - (ndC z).length=i * 4+j by simp [ndC];omega]
  exact ih
theorem ndCells_set: ∀{Z:List NdV} {i:Nat} {z:NdV} (v:Wd) (u:Value),Z[i]? =some z→((ndCells Z).set (i * 4+2) (.bool true)).set (i * 4+3) u=ndCells (Z.set i ((z.1.1,some v),u))
 |[],i,z,v,u,h=>by simp at h
 |y::Z,0,z,v,u,h=>by simp at h;subst h;rfl
 |y::Z,i+1,z,v,u,h=>by
  have ih:=ndCells_set (Z:=Z) (i:=i) (z:=z) v u (by simpa using h)
  have e2:(i+1) * 4+2=i * 4+2+1+1+1+1:=by omega
  have e3:(i+1) * 4+3=i * 4+3+1+1+1+1:=by omega
  show(((List.flatMap ndC (y::Z)).set ((i+1) * 4+2) (.bool true)).set ((i+1) * 4+3) u)=_
  rw [List.flatMap_cons,e2,e3]
  show ndC y++(((ndCells Z).set (i * 4+2) (.bool true)).set (i * 4+3) u)=_
  rw [ih]
  rfl
def NdF (w:World) (E:Nat) (vN:Value) (b:Nat):Prop:=b<w.heap.size∧b≠E∧vN.ownBlock≠some b
theorem Tryz.infoNode:(Tryz.prog.info? 83).map (fun i=>(i.zero,i.size,i.bytes))=some (some (.agg #[.int .i64 0,.int .i64 0,.bool false,.slice none 0 0]),4,48):=by kernel_rfl
theorem Tryz.elemNode:Elem Tryz.prog 78 83 (.agg #[.int .i64 0,.int .i64 0,.bool false,.slice none 0 0]) 4 48:=⟨Tryz.underlying78,Tryz.infoNode,rfl,by decide⟩
structure NdM (wr:World) (E:Nat) (A1:Option Addr) (c1:Nat) (A2:Option Addr) (c2:Nat) (A3:Option Addr) (c3 T N R:Nat) (st:Int) (G:GramD) (Aa:Option Addr) (n ca:Nat) (D:List (List It×List It)) (pb:Nat) (S:List FoundD) (As:Option Addr) (ms cs:Nat) (s:List Nat) (vN:Value) (Z:List NdV):Prop where
 blk:Blk wr E 80 #[.slice A1 T c1,.slice A2 N c2,.slice A3 R c3,.int .i64 st,.slice Aa n ca,.pointer (some ⟨pb,0,none⟩),.slice As ms cs,vN]
 g:IsGram wr (· <E) (.slice A1 T c1) (.slice A2 N c2) (.slice A3 R c3) G
 r:R=G.rules.length
 a:RdSt wr (· <E) (.slice Aa n ca) D
 ws:RWordsIn wr (· <E) (.pointer (some ⟨pb,0,none⟩)) S
 s:RdI wr (· <E) (.slice As ms cs) (NatL s)
 own:wr.ownsRow (E+1) 83 4 vN Z.length (ndCells Z)
 ok: ∀z∈Z,RdI wr (NdF wr E vN) z.2 (z.1.2.getD [])
section
variable {w wr wq : World} {E : Nat} {A1 : Option Addr} {c1 : Nat} {A2 : Option Addr} {c2 : Nat} {A3 : Option Addr} {c3 T N R : Nat} {st : Int} {G : GramD} {Aa : Option Addr} {n ca : Nat} {D : List (List It × List It)} {pb : Nat} {S : List FoundD} {As : Option Addr} {ms cs : Nat} {s : List Nat} {vN vN' : Value} {Z Z' : List NdV}
theorem NdM.below (h:NdM wr E A1 c1 A2 c2 A3 c3 T N R st G Aa n ca D pb S As ms cs s vN Z) (b:Below wr.heap.size wr wq):NdM wq E A1 c1 A2 c2 A3 c3 T N R st G Aa n ca D pb S As ms cs s vN Z:=by
 have t:=Touch.of_size b (fun _=>False)
 refine⟨h.blk.below b h.blk.lt,h.g.below b,h.r,h.a.touch t (fun _ _ e=>e),h.ws.touch t (fun _ _ e=>e),Rd.touch h.s t (fun _ _ e=>e),t.own h.own (fun _ _ e=>e),fun z hz=> ?_⟩
 exact Rd.mono (Rd.touch (h.ok z hz) t (fun _ _ e=>e)) fun q hq=>⟨Nat.lt_of_lt_of_le hq.1 b.size,hq.2⟩
theorem NdM.cell (h:NdM wr E A1 c1 A2 c2 A3 c3 T N R st G Aa n ca D pb S As ms cs s vN Z) {i:Nat} {z:NdV} (hz:Z[i]? =some z): ∃g cap,vN= .slice (some ⟨g,0,none⟩) Z.length cap∧Z.length≤cap∧cap≤maxLen∧E<g∧g<wr.heap.size∧
  wr.cell? ⟨g,i * 4,none⟩=some (.int .i64 z.1.1.1)∧wr.cell? ⟨g,i * 4+1,none⟩=some (.int .i64 z.1.1.2)∧wr.cell? ⟨g,i * 4+2,none⟩=some (.bool z.1.2.isSome)∧wr.cell? ⟨g,i * 4+3,none⟩=some z.2∧wr.frozen? ⟨g,i * 4+2,none⟩=false∧wr.frozen? ⟨g,i * 4+3,none⟩=false:=by
 have hi:=(List.getElem?_eq_some_iff.1 hz).1
 rcases h.own.2 with⟨-,hn⟩|⟨g,cap,cur,rfl,hb,hh,hn,hc,hzz,ht⟩
 ·omega
 ·have key: ∀j,j<4→ ∀u,(ndC z)[j]? =some u→wr.cell? ⟨g,i * 4+j,none⟩=some u:=fun j hj u hu=>by
   rw [cell_of_row wr g (i * 4+j) cur 83 (0,0) hh]
   have:=(ndCells_get hz j hj).trans hu
   rw [←ht,List.getElem?_take]at this
   split at this
   ·simpa using this
   ·cases this
  have fz: ∀j,wr.frozen? ⟨g,j,none⟩=false:=fun j=>by simp [World.frozen?,hh]
  exact⟨g,cap,rfl,hn,hc,hb,(Array.getElem?_eq_some_iff.1 hh).1,key 0 (by decide) _ rfl,key 1 (by decide) _ rfl,key 2 (by decide) _ rfl,key 3 (by decide) _ rfl,fz _,fz _⟩
end
section
variable {w wr wa wq : World} {E : Nat} {A1 : Option Addr} {c1 : Nat} {A2 : Option Addr} {c2 : Nat} {A3 : Option Addr} {c3 T N R : Nat} {st : Int} {G : GramD} {Aa : Option Addr} {n ca : Nat} {D : List (List It × List It)} {pb : Nat} {S : List FoundD} {As : Option Addr} {ms cs : Nat} {s : List Nat} {vN : Value} {Z : List NdV}
theorem NdM.push {p:Pl} {L:Nat} {A:Option Addr} {c:Nat} (h:NdM wa E A1 c1 A2 c2 A3 c3 T N R st G Aa n ca D pb S As ms cs s vN Z) (hL:L=Z.length)
  (own:wq.ownsRow (E+1) 83 4 (.slice A (L+1) c) (L+1) (ndCells Z++[.int .i64 (p.1:Int),.int .i64 (p.2:Int),.bool false,.slice none 0 0])) (gr:wa.grownBy wq vN.ownBlock) (hb:(Value.slice A (L+1) c).ownBlock=vN.ownBlock∨(Value.slice A (L+1) c).ownBlock=some wa.heap.size):
  (wq.cell? ⟨E,7,none⟩=some vN∧wq.frozen? ⟨E,7,none⟩=false)∧NdM (wq.setCell ⟨E,7,none⟩ (.slice A (L+1) c)) E A1 c1 A2 c2 A3 c3 T N R st G Aa n ca D pb S As ms cs s (.slice A (L+1) c) (Z++[((p,none),.slice none 0 0)])∧Touch (fun b=>b=E∨vN.ownBlock=some b) wa (wq.setCell ⟨E,7,none⟩ (.slice A (L+1) c)):=by
 subst hL
 have t1:Touch (fun b=>vN.ownBlock=some b) wa wq:=(Touch.refl _ _).grown gr (fun k e _=>e)
 have t2:Touch (fun b=>b=E) wq (wq.setCell ⟨E,7,none⟩ (.slice A (Z.length+1) c)):=(Touch.refl (fun b=>b=E) _).setCell (p:=⟨E,7,none⟩) (fun _=>rfl) _
 have tt:Touch (fun b=>b=E∨vN.ownBlock=some b) wa (wq.setCell ⟨E,7,none⟩ (.slice A (Z.length+1) c)):=(t1.mono fun b _ e=> .inr e).trans' (t2.mono fun b _ e=> .inl e)
 have hlo: ∀b,vN.ownBlock=some b→E<b:=fun b e=>(h.own.lt b e).1
 have far: ∀b,b<E→ ¬(b=E∨vN.ownBlock=some b):=fun b hb e=>by
  rcases e with e|e
  ·omega
  ·have:=hlo b e;omega
 have kq:Blk wq E 80 _:=h.blk.touch t1 (fun e=>by have:=hlo E e;omega)
 have hE: ∀b,(Value.slice A (Z.length+1) c).ownBlock=some b→ ¬b=E:=fun b e c=>by
  have:=(own.lt b e).1
  omega
 refine⟨⟨(kq.cell 7).trans rfl,kq.frozen 7⟩,⟨kq.put 7 _,h.g.touch tt far,h.r,h.a.touch tt far,h.ws.touch tt far,Rd.touch h.s tt far,?_,fun z hz=> ?_⟩,tt⟩
 ·have o2:=t2.own own (fun b e=>hE b e)
  rw [List.length_append,ndCells_app]
  exact o2
 ·rcases List.mem_append.1 hz with hz|hz
  ·refine Rd.mono (Rd.touch (h.ok z hz) tt (fun b hb e=> ?_)) fun b hq=>⟨Nat.lt_of_lt_of_le hq.1 tt.size,hq.2.1,fun e=> ?_⟩
   ·rcases e with e|e
    ·exact hb.2.1 e
    ·exact hb.2.2 e
   ·rcases hb with hb|hb
    ·exact hq.2.2 (hb▸e)
    ·rw [hb]at e
     injection e with e
     have:=hq.1
     omega
  ·rw [List.mem_singleton.1 hz]
   exact Rd.nil _ _ _
theorem NdM.put {i:Nat} {z:NdV} {v:Wd} {A:Option Addr} {m c g ln cap:Nat} (h:NdM wa E A1 c1 A2 c2 A3 c3 T N R st G Aa n ca D pb S As ms cs s (.slice (some ⟨g,0,none⟩) ln cap) Z) (hz:Z[i]? =some z) (hr:RdI wa (NdF wa E (.slice (some ⟨g,0,none⟩) ln cap)) (.slice A m c) v):
  NdM ((wa.setCell ⟨g,i * 4+2,none⟩ (.bool true)).setCell ⟨g,i * 4+3,none⟩ (.slice A m c)) E A1 c1 A2 c2 A3 c3 T N R st G Aa n ca D pb S As ms cs s (.slice (some ⟨g,0,none⟩) ln cap) (Z.set i ((z.1.1,some v),.slice A m c))∧Touch (fun b=>b=g) wa ((wa.setCell ⟨g,i * 4+2,none⟩ (.bool true)).setCell ⟨g,i * 4+3,none⟩ (.slice A m c)):=by
 have t1:Touch (fun b=>b=g) wa (wa.setCell ⟨g,i * 4+2,none⟩ (.bool true)):=(Touch.refl (fun b=>b=g) _).setCell (p:=⟨g,i * 4+2,none⟩) (fun _=>rfl) _
 have tt:Touch (fun b=>b=g) wa ((wa.setCell ⟨g,i * 4+2,none⟩ (.bool true)).setCell ⟨g,i * 4+3,none⟩ (.slice A m c)):=t1.setCell (p:=⟨g,i * 4+3,none⟩) (fun _=>rfl) _
 have hlo:=h.own.lt g rfl
 have hi:=(List.getElem?_eq_some_iff.1 hz).1
 have far: ∀b,b<E→ ¬b=g:=fun b hb e=>by omega
 have hln:ln=Z.length:=by
  obtain⟨A',c',e,-⟩:=ownsRow_shape h.own
  injection e
 subst hln
 have hl:=ndCells_len Z
 have o1:=own_put h.own (j:=i * 4+2) (by omega) (.bool true)
 have o2:=own_put o1 (j:=i * 4+3) (by rw [List.length_set];omega) (.slice A m c)
 rw [ndCells_set v (.slice A m c) hz]at o2
 refine⟨⟨h.blk.touch tt (by omega),h.g.touch tt far,h.r,h.a.touch tt far,h.ws.touch tt far,Rd.touch h.s tt far,by rw [List.length_set];exact o2,fun y hy=> ?_⟩,tt⟩
 have key: ∀{u:Value} {xs:List Int},RdI wa (NdF wa E (.slice (some ⟨g,0,none⟩) Z.length cap)) u xs→RdI ((wa.setCell ⟨g,i * 4+2,none⟩ (.bool true)).setCell ⟨g,i * 4+3,none⟩ (.slice A m c)) (NdF ((wa.setCell ⟨g,i * 4+2,none⟩ (.bool true)).setCell ⟨g,i * 4+3,none⟩ (.slice A m c)) E (.slice (some ⟨g,0,none⟩) Z.length cap)) u xs:=fun r=>
  Rd.mono (Rd.touch r tt (fun b hb e=>hb.2.2 (by rw [e];rfl))) fun b hq=>⟨Nat.lt_of_lt_of_le hq.1 tt.size,hq.2⟩
 rcases List.mem_or_eq_of_mem_set hy with hy|rfl
 ·exact key (h.ok y hy)
 ·exact key hr
end
set_option maxRecDepth 100000 in
set_option maxHeartbeats 4000000 in
theorem ref_find22 {wr:World} {E:Nat} {A1:Option Addr} {c1:Nat} {A2:Option Addr} {c2:Nat} {A3:Option Addr} {c3 T N R:Nat} {st:Int} {G:GramD} {Aa:Option Addr} {n ca:Nat} {D:List (List It×List It)} {pb:Nat} {S:List FoundD} {As:Option Addr} {ms cs:Nat} {s:List Nat} {vN:Value} {Z:List NdV}
  (h:NdM wr E A1 c1 A2 c2 A3 c3 T N R st G Aa n ca D pb S As ms cs s vN Z) (p:Pl) (hZ:Z.length≤1000000):
  Calls Tryz.prog 27 #[.pointer (some ⟨E,0,none⟩),.int .i64 (p.1:Int),.int .i64 (p.2:Int)] wr fun e w'=> ∃(i:Nat) (vN':Value) (Z':List NdV),e= .returned (.int .i64 (i:Int))∧NdM w' E A1 c1 A2 c2 A3 c3 T N R st G Aa n ca D pb S As ms cs s vN' Z'∧Touch (fun b=>b=E∨vN.ownBlock=some b) wr w'∧(vN'.ownBlock=vN.ownBlock∨ ∃b,vN'.ownBlock=some b∧wr.heap.size≤b)∧(∃z,Z'[i]? =some z∧z.1.1=p)∧((p∈Z.map (fun z=>z.1.1)∧Z'=Z)∨(p∉Z.map (fun z=>z.1.1)∧Z'=Z++[((p,none),.slice none 0 0)])):=by
 obtain⟨A9,c9,rfl,hl9,hm9⟩:=ownsRow_shape h.own
 unfold maxLen at hm9
 obtain⟨L,hL⟩: ∃q,q=Z.length:=⟨_,rfl⟩
 rw [←hL]at h hl9 hZ
 have q7:=(h.blk.cell 7).trans rfl
 rw [←hL]
 have Xh:=hide h;have XhL:=hide hL;clear h hL
 go_enter Tryz.func27,Tryz.ntmps27
 go_wp2_with fail
 go_loopw [7] (fun i w2=> ∃k:Nat,k≤L∧i= .int .i64 k∧wr=w2∧ ∀j z,j<k→Z[j]? =some z→z.1.1≠p) (fun i _=>L - (intOf i).toNat)
 case atStart=>exact⟨0,Nat.zero_le _,rfl,by first|rfl|trivial,fun j z hj=>by omega⟩
 case round=>
  obtain⟨k,hk,rfl,rfl,hne⟩:=hrel
  by_cases hlt:k<L
  ·have hlt':(k:Int)<(L:Int):=by omega
   obtain⟨z,hz⟩: ∃z,Z[k]? =some z:=⟨_,List.getElem?_eq_getElem (by rw [←XhL.out];exact hlt)⟩
   obtain⟨g,cap,e9,-,-,-,-,p0,p1,-⟩:=Xh.out.cell hz
   injection e9 with e9 e8 e7
   subst e9
   have hk0:(0:Int)≤(k:Int):=by omega
   by_cases hH:z.1.1.1=p.1
   ·have hb1:((z.1.1.1:Int)==(p.1:Int))=true:=by rw [hH];simp
    by_cases hQ:z.1.1.2=p.2
    ·have hb2:((z.1.1.2:Int)==(p.2:Int))=true:=by rw [hQ];simp
     have hzp:z.1.1=p:=Prod.ext hH hQ
     rw [hH]at p0 hb1
     rw [hQ]at p1 hb2
     clear e8 e7
     have Xhz:=hide hz;have Xhzp:=hide hzp;have Xhne:=hide hne;have XhH:=hide hH;have XhQ:=hide hQ;clear hz hzp hne hH hQ
     go_wp2_with fail
     go_ret
     exact⟨k,_,Z,rfl,Xh.out,Touch.refl _ _,.inl rfl,⟨z,Xhz.out,Xhzp.out⟩,.inl ⟨List.mem_map.2 ⟨z,List.mem_of_getElem? Xhz.out,Xhzp.out⟩,rfl⟩⟩
    ·have hb2:((z.1.1.2:Int)==(p.2:Int))=false:=by simp;omega
     rw [hH]at p0 hb1
     have hne2: ∀j z,j<k+1→Z[j]? =some z→z.1.1≠p:=fun j y hj hy e=>by
      by_cases ej:j=k
      ·subst ej;rw [hz]at hy;injection hy with hy;exact hQ (by rw [hy,e])
      ·exact hne j y (by omega) hy e
     clear e8 e7
     have Xhz:=hide hz;have Xhne2:=hide hne2;have XhH:=hide hH;have XhQ:=hide hQ;clear hz hne2 hH hQ
     go_wp2_with fail
     go_roundw
     case rel=>exact⟨k+1,by omega,by go_num,by first|rfl|trivial,Xhne2.out⟩
     case measure=>simp [intOf];omega
   ·have hb1:((z.1.1.1:Int)==(p.1:Int))=false:=by simp;omega
    have hne2: ∀j z,j<k+1→Z[j]? =some z→z.1.1≠p:=fun j y hj hy e=>by
     by_cases ej:j=k
     ·subst ej;rw [hz]at hy;injection hy with hy;exact hH (by rw [hy,e])
     ·exact hne j y (by omega) hy e
    clear e8 e7
    have Xhz:=hide hz;have Xhne2:=hide hne2;have XhH:=hide hH;clear hz hne2 hH
    go_wp2_with fail
    go_roundw
    case rel=>exact⟨k+1,by omega,by go_num,by first|rfl|trivial,Xhne2.out⟩
    case measure=>simp [intOf];omega
  ·have hlt': ¬(k:Int)<(L:Int):=by omega
   have hnot:p∉Z.map (fun z=>z.1.1):=fun hm=>by
    obtain⟨z,hz,e⟩:=List.mem_map.1 hm
    obtain⟨j,hj,e2⟩:=List.getElem_of_mem hz
    exact hne j z (by have:=XhL.out;omega) (by rw [List.getElem?_eq_getElem hj,e2]) e
   obtain⟨wa,hwa⟩: ∃z,z=wr.alloc (.cells #[.int .i64 (p.1:Int),.int .i64 (p.2:Int),.bool false,.slice none 0 0] 83):=⟨_,rfl⟩
   have ba:Below wr.heap.size wr wa:=by rw [hwa];exact(Below.refl _ _).alloc (Nat.le_refl _) _
   have hza:wa.heap.size=wr.heap.size+1:=by rw [hwa];simp
   have ha:=Xh.out.below ba
   have rone:Rd wa (fun _=>True) (.slice (some ⟨wr.heap.size,0,none⟩) 1 1) 4 [.int .i64 (p.1:Int),.int .i64 (p.2:Int),.bool false,.slice none 0 0]:=by
    rw [hwa]
    exact Rd.one (w:=wr) (e:=83) [.int .i64 (p.1:Int),.int .i64 (p.2:Int),.bool false,.slice none 0 0] 4 rfl
   have own:=ha.own
   rw [←XhL.out]at own
   have hE:E+1≤wa.heap.size:=by have:=ha.blk.lt;omega
   rw [hwa]at own rone hE
   clear hne
   have Xba:=hide ba;have Xha:=hide ha;have Xown:=hide own;have Xrone:=hide rone;have Xhnot:=hide hnot;have Xhza:=hide hza;clear ba ha own rone hnot hza
   go_wp2_with (at_builtin;refine wp_append _ rfl (.tmp 44) (.tmp 48) _ rfl Tryz.elemNode (E+1) _ L (ndCells Z) rfl Xown.out _ _ _ 1 rfl rfl Xrone.out (by simp [Value.oneCell']) (by unfold maxLen;omega) (by omega) hE ?_)
   intro A8 c8 w8 own8 g8 hb8
   rw [←hwa]at g8
   rw [←Xhza.out]at hb8
   obtain⟨⟨d7,f7⟩,h9,t9⟩:=Xha.out.push XhL.out own8 g8 hb8
   have k9:=(h9.blk.cell 7).trans rfl
   have tt9:=(Touch.of_size Xba.out _).trans' t9
   have hbz:=Xba.out.size
   have hown9:(Value.slice A8 (L+1) c8).ownBlock=(Value.slice A9 L c9).ownBlock∨ ∃b,(Value.slice A8 (L+1) c8).ownBlock=some b∧wr.heap.size≤b:=by
    rcases hb8 with e|e
    ·exact .inl e
    ·exact .inr ⟨_,e,hbz⟩
   have hlast: ∃z,(Z++[((p,none),Value.slice none 0 0)])[L]? =some z∧z.1.1=p:=⟨_,by rw [XhL.out,List.getElem?_concat_length],rfl⟩
   clear own8 g8 hb8 t9 Xown Xrone Xha hwa
   have hw1:IntKind.i64.wrap ((L:Int)+1 - 1)=(L:Int):=by rw [IntKind.wrap_i64];omega
   have hw2:IntKind.i64.wrap (L:Int)=(L:Int):=by rw [IntKind.wrap_i64];omega
   have Xh9:=hide h9;have Xtt9:=hide tt9;have Xhown9:=hide hown9;have Xhlast:=hide hlast;clear h9 tt9 hown9 hlast
   go_wp2_with fail
   go_ret
   exact⟨L,_,_,rfl,Xh9.out,Xtt9.out,Xhown9.out,Xhlast.out,.inr ⟨Xhnot.out,rfl⟩⟩
end Go.Proofs.YtalbfonkhpeajaaGreat
namespace Go.Proofs.YtalbfonkhpeajaaGreat
set_option linter.unusedVariables false
set_option linter.unusedSimpArgs false
open Go.RowKit
attribute [local irreducible] wpStill wpOne wpPh
def putB (o:Option Wd) (v:Wd):Bool:=decide (v.length≤4096)&&(match o with|none=>true|some u=>lessB v u)
set_option maxRecDepth 100000 in
set_option maxHeartbeats 4000000 in
theorem ref_put22 {wr:World} {E:Nat} {A1:Option Addr} {c1:Nat} {A2:Option Addr} {c2:Nat} {A3:Option Addr} {c3 T N R:Nat} {st:Int} {G:GramD} {Aa:Option Addr} {n ca:Nat} {D:List (List It×List It)} {pb:Nat} {S:List FoundD} {As:Option Addr} {ms cs:Nat} {s:List Nat} {Z:List NdV} {g L cap i:Nat} {z:NdV} {A:Option Addr} {m c:Nat} {v:Wd}
  (h:NdM wr E A1 c1 A2 c2 A3 c3 T N R st G Aa n ca D pb S As ms cs s (.slice (some ⟨g,0,none⟩) L cap) Z) (hz:Z[i]? =some z) (hv:RdI wr (NdF wr E (.slice (some ⟨g,0,none⟩) L cap)) (.slice A m c) v):
  Calls Tryz.prog 59 #[.pointer (some ⟨E,0,none⟩),.int .i64 (i:Int),.slice A m c] wr fun e w'=>e= .returned (.bool (putB z.1.2 v))∧NdM w' E A1 c1 A2 c2 A3 c3 T N R st G Aa n ca D pb S As ms cs s (.slice (some ⟨g,0,none⟩) L cap) (if putB z.1.2 v=true then Z.set i ((z.1.1,some v),.slice A m c)else Z)∧Touch (fun b=>b=g) wr w':=by
 have q7:=(h.blk.cell 7).trans rfl
 obtain⟨g',cap',e9,hl1,hl2,hEg,hgl,p0,p1,p2,p3,f2,f3⟩:=h.cell hz
 injection e9 with e9 e8 e7
 injection e9 with e9
 injection e9 with e9 _ _
 subst e9 e7 e8
 unfold maxLen at hl2
 have hi:=(List.getElem?_eq_some_iff.1 hz).1
 have hi':(i:Int)<(Z.length:Int):=by omega
 have hi0:(0:Int)≤(i:Int):=by omega
 obtain⟨hm,-,-,-⟩:=RdI.at_ hv
 have hzv:=h.ok z (List.mem_of_getElem? hz)
 obtain⟨Av,mv,cv,hvv,-⟩:=id hzv
 rw [hvv]at p3
 have cl:=fun u (hu:z.1.2=some u)=>ref22_less hv (by rw [hu,hvv]at hzv;exact hzv:RdI wr (NdF wr E (.slice (some ⟨g,0,none⟩) Z.length cap)) (.slice Av mv cv) u)
 obtain⟨L,hL⟩: ∃q,q=Z.length:=⟨_,rfl⟩
 rw [←hL]at h hl1 hi' q7 hv
 rw [←hL]
 by_cases h4:m≤4096
 ·have h4': ¬(m:Int)>4096:=by omega
  have h4d:decide ((m:Int)>4096)=false:=decide_eq_false h4'
  have h4e:decide (4096<m)=false:=decide_eq_false (by omega)
  cases ho:z.1.2 with
  |none=>
   have hb:putB none v=true:=by unfold putB;rw [decide_eq_true (by omega)];rfl
   rw [ho]at p2
   simp only [Option.isSome_none]at p2
   rw [hb,if_pos rfl]
   obtain⟨p3v,hp3v⟩: ∃x,x=Value.slice Av mv cv:=⟨_,rfl⟩
   obtain⟨p2v,hp2v⟩: ∃x,x=Value.bool false:=⟨_,rfl⟩
   clear cl hzv
   rw [←hp3v]at p3
   rw [←hp2v]at p2
   have Xhp3v:=hide hp3v;have Xh:=hide h;have Xhz:=hide hz;have Xhv:=hide hv;have Xhm:=hide hm;have XhL:=hide hL;have Xhi:=hide hi;have Xho:=hide ho;have Xhb:=hide hb;clear hp3v h hz hv hm hL hi ho hb
   go_enter Tryz.func59,Tryz.ntmps59
   go_wp2_with fail
   refine wp_region_held_drew (S:=(fun W=>W.cell? ⟨E,7,none⟩=some (.slice (some ⟨g,0,none⟩) L cap))) (by kernel_rfl) ?_ (fun hHeld=> ?_)
   ·exact q7
   have s1': ∀u,(wr.setCell ⟨g,i * 4+2,none⟩ u).cell? ⟨E,7,none⟩=some (.slice (some ⟨g,0,none⟩) L cap):=fun u=>(World.cell?_setCell_other _ _ _ _ (fun e=>by injection e with e _;omega)).trans q7
   have s3': ∀u u',((wr.setCell ⟨g,i * 4+2,none⟩ u).setCell ⟨g,i * 4+3,none⟩ u').cell? ⟨E,7,none⟩=some (.slice (some ⟨g,0,none⟩) L cap):=fun u u'=>(World.cell?_setCell_other _ _ _ _ (fun e=>by injection e with e _;omega)).trans (s1' u)
   have r3: ∀u,(wr.setCell ⟨g,i * 4+2,none⟩ u).cell? ⟨g,i * 4+3,none⟩=some p3v∧(wr.setCell ⟨g,i * 4+2,none⟩ u).frozen? ⟨g,i * 4+3,none⟩=false:=fun u=>⟨(World.cell?_setCell_other _ _ _ _ (fun e=>by injection e with _ e;omega)).trans p3,by rw [World.frozen?_setCell];exact f3⟩
   have Xs1':=hide s1';have Xs3':=hide s3';clear s1' s3'
   refine tk (i:=0) (oi:= ?_) (v:= ?_) ?_ (by kernel_rfl) ?_ (Or.inl ⟨?_,?_⟩) (by assumption) ?_;rotate_left 2;(focus((try simp only [gT,gs,gz]);try rfl));exact fun _ _ _ h=>h;rfl;(focus(intro wS hwS;(try dsimp only at hwS);go_simp;all_goals with_reducible rfl));try simp only [Act.put,sT,s0,s1]
   refine tk (i:=1) (oi:= ?_) (v:= ?_) ?_ (by kernel_rfl) ?_ (Or.inl ⟨?_,?_⟩) (by assumption) ?_;rotate_left 2;(focus((try simp only [gT,gs,gz]);try rfl));exact fun _ _ _ h=>h;rfl;(focus(intro wS hwS;(try dsimp only at hwS);go_simp;all_goals with_reducible rfl));try simp only [Act.put,sT,s0,s1]
   refine tk (i:=2) (oi:= ?_) (v:= ?_) ?_ (by kernel_rfl) ?_ (Or.inl ⟨?_,?_⟩) (by assumption) ?_;rotate_left 2;(focus((try simp only [gT,gs,gz]);try rfl));exact fun _ _ _ h=>h;rfl;(focus(intro wS hwS;(try dsimp only at hwS);go_simp;all_goals with_reducible rfl));try simp only [Act.put,sT,s0,s1]
   refine tk (i:=3) (oi:= ?_) (v:= ?_) ?_ (by kernel_rfl) ?_ (Or.inl ⟨?_,?_⟩) (by assumption) ?_;rotate_left 2;(focus((try simp only [gT,gs,gz]);try rfl));exact fun _ _ _ h=>h;rfl;(focus(intro wS hwS;(try dsimp only at hwS);go_simp;all_goals with_reducible rfl));try simp only [Act.put,sT,s0,s1]
   refine tk (i:=4) (oi:= ?_) (v:= ?_) ?_ (by kernel_rfl) ?_ (Or.inl ⟨?_,?_⟩) (by assumption) ?_;rotate_left 2;(focus((try simp only [gT,gs,gz]);try rfl));exact fun _ _ _ h=>h;rfl;(focus(intro wS hwS;(try dsimp only at hwS);go_simp;all_goals with_reducible rfl));try simp only [Act.put,sT,s0,s1]
   refine tk (i:=5) (oi:= ?_) (v:= ?_) ?_ (by kernel_rfl) ?_ (Or.inl ⟨?_,?_⟩) (by assumption) ?_;rotate_left 2;(focus((try simp only [gT,gs,gz]);try rfl));exact fun _ _ _ h=>h;rfl;(focus(intro wS hwS;(try dsimp only at hwS);go_simp;all_goals with_reducible rfl));try simp only [Act.put,sT,s0,s1]
   refine tk (i:=6) (oi:= ?_) (v:= ?_) ?_ (by kernel_rfl) ?_ (Or.inl ⟨?_,?_⟩) (by assumption) ?_;rotate_left 2;(focus((try simp only [gT,gs,gz]);try rfl));exact fun _ _ _ h=>h;rfl;(focus(intro wS hwS;(try dsimp only at hwS);go_simp;all_goals with_reducible rfl));try simp only [Act.put,sT,s0,s1]
   refine tk (i:=7) (oi:= ?_) (v:= ?_) ?_ (by kernel_rfl) ?_ (Or.inl ⟨?_,?_⟩) (by assumption) ?_;rotate_left 2;(focus((try simp only [gT,gs,gz]);try rfl));exact fun _ _ _ h=>h;rfl;(focus(intro wS hwS;(try dsimp only at hwS);go_simp;all_goals with_reducible rfl));try simp only [Act.put,sT,s0,s1]
   refine tk (i:=8) (oi:= ?_) (v:= ?_) ?_ (by kernel_rfl) ?_ (Or.inl ⟨?_,?_⟩) (by assumption) ?_;rotate_left 2;(focus((try simp only [gT,gs,gz]);try rfl));exact fun _ _ _ h=>h;rfl;(focus(intro wS hwS;(try dsimp only at hwS);go_simp;all_goals with_reducible rfl));try simp only [Act.put,sT,s0,s1]
   refine tk (i:=9) (oi:= ?_) (v:= ?_) ?_ (by kernel_rfl) ?_ (Or.inl ⟨?_,?_⟩) (by assumption) ?_;rotate_left 2;(focus((try simp only [gT,gs,gz]);try rfl));exact fun _ _ _ h=>h;rfl;(focus(intro wS hwS;(try dsimp only at hwS);go_simp;all_goals with_reducible rfl));try simp only [Act.put,sT,s0,s1]
   refine tk (i:=10) (oi:= ?_) (v:= ?_) ?_ (by kernel_rfl) ?_ (Or.inl ⟨?_,?_⟩) (by assumption) ?_;rotate_left 2;(focus((try simp only [gT,gs,gz]);try rfl));exact fun _ _ _ h=>h;rfl;(focus(intro wS hwS;(try dsimp only at hwS);go_simp;all_goals with_reducible rfl));try simp only [Act.put,sT,s0,s1]
   refine tk (i:=11) (oi:= ?_) (v:= ?_) ?_ (by kernel_rfl) ?_ (Or.inl ⟨?_,?_⟩) (by assumption) ?_;rotate_left 2;(focus((try simp only [gT,gs,gz]);try rfl));exact fun _ _ _ h=>h;rfl;(focus(intro wS hwS;(try dsimp only at hwS);go_simp;all_goals with_reducible rfl));try simp only [Act.put,sT,s0,s1]
   refine tk (i:=12) (oi:= ?_) (v:= ?_) ?_ (by kernel_rfl) ?_ (Or.inl ⟨?_,?_⟩) (by assumption) ?_;rotate_left 2;(focus((try simp only [gT,gs,gz]);try rfl));exact fun _ _ _ h=>h;rfl;(focus(intro wS hwS;(try dsimp only at hwS);go_simp;all_goals with_reducible rfl));try simp only [Act.put,sT,s0,s1]
   refine wpAnyH_ready (rs:=[13]) (by kernel_rfl) (by simp) ?_
   refine AllReadyH.cons (o:= ?_) ?_ (fun K hK=> ?_) AllReadyH.nil;rotate_left 1;(focus((try simp only [gT,gs,gz]);try rfl))
   go_simp
   obtain⟨y3,z3⟩:=r3 (.bool true)
   clear p3 f3 p2 f2 r3
   refine hK.out _ _ ?_ (fun hHeld=> ?_)
   ·exact Xs1'.out _
   clear hK K
   try simp only [Act.put,sT,s0,s1]
   refine tk (i:=14) (oi:= ?_) (v:= ?_) ?_ (by kernel_rfl) ?_ (Or.inl ⟨?_,?_⟩) (by assumption) ?_;rotate_left 2;(focus((try simp only [gT,gs,gz]);try rfl));exact fun _ _ _ h=>h;rfl;(focus(intro wS hwS;(try dsimp only at hwS);go_simp;all_goals with_reducible rfl));try simp only [Act.put,sT,s0,s1]
   refine tk (i:=15) (oi:= ?_) (v:= ?_) ?_ (by kernel_rfl) ?_ (Or.inl ⟨?_,?_⟩) (by assumption) ?_;rotate_left 2;(focus((try simp only [gT,gs,gz]);try rfl));exact fun _ _ _ h=>h;rfl;(focus(intro wS hwS;(try dsimp only at hwS);go_simp;all_goals with_reducible rfl));try simp only [Act.put,sT,s0,s1]
   refine wpAnyH_ready (rs:=[16]) (by kernel_rfl) (by simp) ?_
   refine AllReadyH.cons (o:= ?_) ?_ (fun K hK=> ?_) AllReadyH.nil;rotate_left 1;(focus((try simp only [gT,gs,gz]);try rfl))
   go_simp
   refine hK.out _ _ ?_ (fun hHeld=> ?_)
   ·exact Xs3'.out _ _
   clear hK K
   try simp only [Act.put,sT,s0,s1]
   refine wpAnyH_done (by kernel_rfl) ?_ _
   have hp:=(Xh.out.put Xhz.out Xhv.out).1.below ((Below.refl _ _).drew)
   have tp:=(Touch.refl _ wr).trans' (Xh.out.put Xhz.out Xhv.out).2.drew
   have Xhp:=hide hp;have Xtp:=hide tp;clear hp tp
   go_wp2_with fail
   go_ret
   exact⟨rfl,Xhp.out,Xtp.out⟩
  |some u=>
   have cl:=cl u ho
   have hb:putB (some u) v=lessB v u:=by unfold putB;rw [decide_eq_true (by omega)];rfl
   rw [ho]at p2
   simp only [Option.isSome_some]at p2
   rw [hb]
   obtain⟨lt,hlt⟩: ∃x,x=lessB v u:=⟨_,rfl⟩
   rw [←hlt]at cl hb⊢
   clear hzv
   have Xh:=hide h;have Xhz:=hide hz;have Xhv:=hide hv;have Xhm:=hide hm;have XhL:=hide hL;have Xhi:=hide hi;have Xho:=hide ho;have Xhb:=hide hb;have Xcl:=hide cl;clear h hz hv hm hL hi ho hb cl
   go_enter Tryz.func59,Tryz.ntmps59
   go_wp2_with fail
   refine Xcl.out.mono ?_
   rintro e w' ⟨rfl,q,rfl⟩
   obtain⟨w5,hw5⟩: ∃x,x=wr.drewN q:=⟨_,rfl⟩
   have b5:Below wr.heap.size wr w5:=by rw [hw5];exact⟨rfl,rfl,rfl,Nat.le_refl _,fun _ _=>rfl⟩
   have z5:w5.heap.size=wr.heap.size:=by rw [hw5];rfl
   have h5:=Xh.out.below b5
   have hv5:RdI w5 (NdF w5 E (.slice (some ⟨g,0,none⟩) L cap)) (.slice A m c) v:=Rd.mono (Rd.touch Xhv.out (Touch.of_size b5 (fun _=>False)) (fun _ _ e=>e)) fun b hb=>⟨by rw [z5];exact hb.1,hb.2⟩
   have t5:Touch (fun b=>b=g) wr w5:=Touch.of_size b5 _
   have q75:=(h5.blk.cell 7).trans rfl
   have p25:w5.cell? ⟨g,i * 4+2,none⟩=some (.bool true):=by rw [hw5];exact p2
   have p35:w5.cell? ⟨g,i * 4+3,none⟩=some (.slice Av mv cv):=by rw [hw5];exact p3
   have f25:w5.frozen? ⟨g,i * 4+2,none⟩=false:=by rw [hw5];exact f2
   have f35:w5.frozen? ⟨g,i * 4+3,none⟩=false:=by rw [hw5];exact f3
   rw [←hw5]
   clear p0 p1 p2 p3 f2 f3 q7 Xcl b5 z5 hw5
   have p2:=p25
   have p3:=p35
   have f2:=f25
   have f3:=f35
   clear p25 p35 f25 f35
   cases lt with
   |true=>
    obtain⟨p3v,hp3v⟩: ∃x,x=Value.slice Av mv cv:=⟨_,rfl⟩
    obtain⟨p2v,hp2v⟩: ∃x,x=Value.bool true:=⟨_,rfl⟩
    rw [←hp3v]at p3
    rw [←hp2v]at p2
    have Xh5:=hide h5;have Xhv5:=hide hv5;have Xt5:=hide t5;have Xhp3v:=hide hp3v;have Xhp2v:=hide hp2v;have Xhlt:=hide hlt;clear h5 hv5 t5 hp3v hp2v hlt
    go_wp2_with fail
    refine wp_region_held_drew (S:=(fun W=>W.cell? ⟨E,7,none⟩=some (.slice (some ⟨g,0,none⟩) L cap))) (by kernel_rfl) ?_ (fun hHeld=> ?_)
    ·exact q75
    have s1': ∀u,(w5.setCell ⟨g,i * 4+2,none⟩ u).cell? ⟨E,7,none⟩=some (.slice (some ⟨g,0,none⟩) L cap):=fun u=>(World.cell?_setCell_other _ _ _ _ (fun e=>by injection e with e _;omega)).trans q75
    have s3': ∀u u',((w5.setCell ⟨g,i * 4+2,none⟩ u).setCell ⟨g,i * 4+3,none⟩ u').cell? ⟨E,7,none⟩=some (.slice (some ⟨g,0,none⟩) L cap):=fun u u'=>(World.cell?_setCell_other _ _ _ _ (fun e=>by injection e with e _;omega)).trans (s1' u)
    have r3: ∀u,(w5.setCell ⟨g,i * 4+2,none⟩ u).cell? ⟨g,i * 4+3,none⟩=some p3v∧(w5.setCell ⟨g,i * 4+2,none⟩ u).frozen? ⟨g,i * 4+3,none⟩=false:=fun u=>⟨(World.cell?_setCell_other _ _ _ _ (fun e=>by injection e with _ e;omega)).trans p3,by rw [World.frozen?_setCell];exact f3⟩
    have Xs1':=hide s1';have Xs3':=hide s3';clear s1' s3'
    refine tk (i:=0) (oi:= ?_) (v:= ?_) ?_ (by kernel_rfl) ?_ (Or.inl ⟨?_,?_⟩) (by assumption) ?_;rotate_left 2;(focus((try simp only [gT,gs,gz]);try rfl));exact fun _ _ _ h=>h;rfl;(focus(intro wS hwS;(try dsimp only at hwS);go_simp;all_goals with_reducible rfl));try simp only [Act.put,sT,s0,s1]
    refine tk (i:=1) (oi:= ?_) (v:= ?_) ?_ (by kernel_rfl) ?_ (Or.inl ⟨?_,?_⟩) (by assumption) ?_;rotate_left 2;(focus((try simp only [gT,gs,gz]);try rfl));exact fun _ _ _ h=>h;rfl;(focus(intro wS hwS;(try dsimp only at hwS);go_simp;all_goals with_reducible rfl));try simp only [Act.put,sT,s0,s1]
    refine tk (i:=2) (oi:= ?_) (v:= ?_) ?_ (by kernel_rfl) ?_ (Or.inl ⟨?_,?_⟩) (by assumption) ?_;rotate_left 2;(focus((try simp only [gT,gs,gz]);try rfl));exact fun _ _ _ h=>h;rfl;(focus(intro wS hwS;(try dsimp only at hwS);go_simp;all_goals with_reducible rfl));try simp only [Act.put,sT,s0,s1]
    refine tk (i:=3) (oi:= ?_) (v:= ?_) ?_ (by kernel_rfl) ?_ (Or.inl ⟨?_,?_⟩) (by assumption) ?_;rotate_left 2;(focus((try simp only [gT,gs,gz]);try rfl));exact fun _ _ _ h=>h;rfl;(focus(intro wS hwS;(try dsimp only at hwS);go_simp;all_goals with_reducible rfl));try simp only [Act.put,sT,s0,s1]
    refine tk (i:=4) (oi:= ?_) (v:= ?_) ?_ (by kernel_rfl) ?_ (Or.inl ⟨?_,?_⟩) (by assumption) ?_;rotate_left 2;(focus((try simp only [gT,gs,gz]);try rfl));exact fun _ _ _ h=>h;rfl;(focus(intro wS hwS;(try dsimp only at hwS);go_simp;all_goals with_reducible rfl));try simp only [Act.put,sT,s0,s1]
    refine tk (i:=5) (oi:= ?_) (v:= ?_) ?_ (by kernel_rfl) ?_ (Or.inl ⟨?_,?_⟩) (by assumption) ?_;rotate_left 2;(focus((try simp only [gT,gs,gz]);try rfl));exact fun _ _ _ h=>h;rfl;(focus(intro wS hwS;(try dsimp only at hwS);go_simp;all_goals with_reducible rfl));try simp only [Act.put,sT,s0,s1]
    refine tk (i:=6) (oi:= ?_) (v:= ?_) ?_ (by kernel_rfl) ?_ (Or.inl ⟨?_,?_⟩) (by assumption) ?_;rotate_left 2;(focus((try simp only [gT,gs,gz]);try rfl));exact fun _ _ _ h=>h;rfl;(focus(intro wS hwS;(try dsimp only at hwS);go_simp;all_goals with_reducible rfl));try simp only [Act.put,sT,s0,s1]
    refine tk (i:=7) (oi:= ?_) (v:= ?_) ?_ (by kernel_rfl) ?_ (Or.inl ⟨?_,?_⟩) (by assumption) ?_;rotate_left 2;(focus((try simp only [gT,gs,gz]);try rfl));exact fun _ _ _ h=>h;rfl;(focus(intro wS hwS;(try dsimp only at hwS);go_simp;all_goals with_reducible rfl));try simp only [Act.put,sT,s0,s1]
    refine tk (i:=8) (oi:= ?_) (v:= ?_) ?_ (by kernel_rfl) ?_ (Or.inl ⟨?_,?_⟩) (by assumption) ?_;rotate_left 2;(focus((try simp only [gT,gs,gz]);try rfl));exact fun _ _ _ h=>h;rfl;(focus(intro wS hwS;(try dsimp only at hwS);go_simp;all_goals with_reducible rfl));try simp only [Act.put,sT,s0,s1]
    refine tk (i:=9) (oi:= ?_) (v:= ?_) ?_ (by kernel_rfl) ?_ (Or.inl ⟨?_,?_⟩) (by assumption) ?_;rotate_left 2;(focus((try simp only [gT,gs,gz]);try rfl));exact fun _ _ _ h=>h;rfl;(focus(intro wS hwS;(try dsimp only at hwS);go_simp;all_goals with_reducible rfl));try simp only [Act.put,sT,s0,s1]
    refine tk (i:=10) (oi:= ?_) (v:= ?_) ?_ (by kernel_rfl) ?_ (Or.inl ⟨?_,?_⟩) (by assumption) ?_;rotate_left 2;(focus((try simp only [gT,gs,gz]);try rfl));exact fun _ _ _ h=>h;rfl;(focus(intro wS hwS;(try dsimp only at hwS);go_simp;all_goals with_reducible rfl));try simp only [Act.put,sT,s0,s1]
    refine tk (i:=11) (oi:= ?_) (v:= ?_) ?_ (by kernel_rfl) ?_ (Or.inl ⟨?_,?_⟩) (by assumption) ?_;rotate_left 2;(focus((try simp only [gT,gs,gz]);try rfl));exact fun _ _ _ h=>h;rfl;(focus(intro wS hwS;(try dsimp only at hwS);go_simp;all_goals with_reducible rfl));try simp only [Act.put,sT,s0,s1]
    refine tk (i:=12) (oi:= ?_) (v:= ?_) ?_ (by kernel_rfl) ?_ (Or.inl ⟨?_,?_⟩) (by assumption) ?_;rotate_left 2;(focus((try simp only [gT,gs,gz]);try rfl));exact fun _ _ _ h=>h;rfl;(focus(intro wS hwS;(try dsimp only at hwS);go_simp;all_goals with_reducible rfl));try simp only [Act.put,sT,s0,s1]
    refine wpAnyH_ready (rs:=[13]) (by kernel_rfl) (by simp) ?_
    refine AllReadyH.cons (o:= ?_) ?_ (fun K hK=> ?_) AllReadyH.nil;rotate_left 1;(focus((try simp only [gT,gs,gz]);try rfl))
    go_simp
    obtain⟨y3,z3⟩:=r3 (.bool true)
    clear p3 f3 p2 f2 r3
    refine hK.out _ _ ?_ (fun hHeld=> ?_)
    ·exact Xs1'.out _
    clear hK K
    try simp only [Act.put,sT,s0,s1]
    refine tk (i:=14) (oi:= ?_) (v:= ?_) ?_ (by kernel_rfl) ?_ (Or.inl ⟨?_,?_⟩) (by assumption) ?_;rotate_left 2;(focus((try simp only [gT,gs,gz]);try rfl));exact fun _ _ _ h=>h;rfl;(focus(intro wS hwS;(try dsimp only at hwS);go_simp;all_goals with_reducible rfl));try simp only [Act.put,sT,s0,s1]
    refine tk (i:=15) (oi:= ?_) (v:= ?_) ?_ (by kernel_rfl) ?_ (Or.inl ⟨?_,?_⟩) (by assumption) ?_;rotate_left 2;(focus((try simp only [gT,gs,gz]);try rfl));exact fun _ _ _ h=>h;rfl;(focus(intro wS hwS;(try dsimp only at hwS);go_simp;all_goals with_reducible rfl));try simp only [Act.put,sT,s0,s1]
    refine wpAnyH_ready (rs:=[16]) (by kernel_rfl) (by simp) ?_
    refine AllReadyH.cons (o:= ?_) ?_ (fun K hK=> ?_) AllReadyH.nil;rotate_left 1;(focus((try simp only [gT,gs,gz]);try rfl))
    go_simp
    refine hK.out _ _ ?_ (fun hHeld=> ?_)
    ·exact Xs3'.out _ _
    clear hK K
    try simp only [Act.put,sT,s0,s1]
    refine wpAnyH_done (by kernel_rfl) ?_ _
    have hp:=(Xh5.out.put Xhz.out Xhv5.out).1.below ((Below.refl _ _).drew)
    have tp:=Xt5.out.trans' (Xh5.out.put Xhz.out Xhv5.out).2.drew
    have Xhp:=hide hp;have Xtp:=hide tp;clear hp tp
    go_wp2_with fail
    go_ret
    exact⟨rfl,Xhp.out,Xtp.out⟩
   |false=>
    clear p2 p3 f2 f3
    have Xh5:=hide h5;have Xt5:=hide t5;have Xhlt:=hide hlt;clear h5 t5 hlt
    go_wp2_with fail
    go_ret
    exact⟨rfl,Xh5.out,Xt5.out⟩
 ·have h4':(m:Int)>4096:=by omega
  have hb:putB z.1.2 v=false:=by unfold putB;rw [decide_eq_false (by omega)];rfl
  rw [hb,if_neg (by decide)]
  clear cl hzv p0 p1 p2 p3 f2 f3
  have Xh:=hide h;have Xhz:=hide hz;have Xhv:=hide hv;have Xhm:=hide hm;have XhL:=hide hL;have Xhi:=hide hi;have Xhb:=hide hb;clear h hz hv hm hL hi hb
  go_enter Tryz.func59,Tryz.ntmps59
  go_wp2_with fail
  go_ret
  exact⟨rfl,Xh.out,Touch.refl _ _⟩
end Go.Proofs.YtalbfonkhpeajaaGreat
namespace Go.Proofs.YtalbfonkhpeajaaGreat
set_option linter.unusedVariables false
set_option linter.unusedSimpArgs false
def sayF (F:Pl→Option Wd) (p:Pl) (o:Option StpF):Bool:=match o with|none=>false|some y=>(betF F p y).isSome
def nodO (N:List Pl) (o:Option StpF):List Pl:=match o with|none=>N|some y=>nodeR N y
def besO (F:Pl→Option Wd) (p:Pl) (o:Option StpF):Pl→Option Wd:=match o with|none=>F|some y=>bestR F p y
def nmZ (Z:List NdV):List Pl:=Z.map fun z=>z.1.1
def RelF (F:Pl→Option Wd) (Z:List NdV):Prop:= ∀z∈Z,F z.1.1=z.1.2
theorem put_says {F:Pl→Option Wd} {p:Pl} {y:StpF} {v:Wd} {o:Option Wd} (hc:candF F y=if v.length≤4096 then some v else none) (hp:F p=o):(betF F p y).isSome=putB o v∧bestR F p y=if putB o v=true then putF F p v else F:=by
 unfold bestR betF putB
 rw [hc,hp]
 by_cases h:v.length≤4096
 ·rw [if_pos h,decide_eq_true h]
  cases o with
  |none=>simp
  |some u=>cases e:lessB v u<;>simp [e]
 ·rw [if_neg h,decide_eq_false h];simp
theorem none_says {F:Pl→Option Wd} {p:Pl} {y:StpF} (hc:candF F y=none):(betF F p y).isSome=false∧bestR F p y=F:=by
 unfold bestR betF
 rw [hc];simp
theorem nmZ_set {Z:List NdV} {i:Nat} {z:NdV} (hz:Z[i]? =some z) (v:Wd) (u:Value):nmZ (Z.set i ((z.1.1,some v),u))=nmZ Z:=by
 refine List.ext_getElem? fun j=> ?_
 unfold nmZ
 rw [List.getElem?_map,List.getElem?_map,List.getElem?_set]
 by_cases e:i=j
 ·subst e;rw [if_pos rfl,if_pos (List.getElem?_eq_some_iff.1 hz).1,hz];rfl
 ·rw [if_neg e]
theorem RelF.set {F:Pl→Option Wd} {Z:List NdV} {i:Nat} {z:NdV} (hr:RelF F Z) (hn:(nmZ Z).Nodup) (hz:Z[i]? =some z) (v:Wd) (u:Value):RelF (putF F z.1.1 v) (Z.set i ((z.1.1,some v),u)):=fun y hy=>by
 obtain⟨j,hj,e⟩:=List.getElem_of_mem hy
 have hj':(Z.set i ((z.1.1,some v),u))[j]? =some y:=by rw [List.getElem?_eq_getElem hj,e]
 rw [List.getElem?_set]at hj'
 by_cases ej:i=j
 ·subst ej
  rw [if_pos rfl,if_pos (List.getElem?_eq_some_iff.1 hz).1]at hj'
  injection hj' with hj'
  rw [←hj']
  unfold putF
  simp
 ·rw [if_neg ej]at hj'
  have h1:=(List.getElem?_eq_some_iff.1 hz).1
  have h2:=(List.getElem?_eq_some_iff.1 hj').1
  have hne: ¬y.1.1=z.1.1:=fun h=>by
   have a1:(nmZ Z)[i]? =some z.1.1:=by unfold nmZ;rw [List.getElem?_map,hz];rfl
   have a2:(nmZ Z)[j]? =some y.1.1:=by unfold nmZ;rw [List.getElem?_map,hj'];rfl
   rw [h,←a1]at a2
   exact ej ((List.getElem?_inj (by unfold nmZ;rw [List.length_map];exact h1) hn).1 a2.symm)
  unfold putF
  rw [if_neg hne]
  exact hr y (List.mem_of_getElem? hj')
def ItemR (w:World) (E:Nat) (A1:Option Addr) (c1:Nat) (A2:Option Addr) (c2:Nat) (A3:Option Addr) (c3 T N R:Nat) (st:Int) (G:GramD) (Aa:Option Addr) (n ca:Nat) (D:List (List It×List It)) (pb:Nat) (S:List FoundD) (As:Option Addr) (ms cs:Nat) (s:List Nat) (L:List Pl) (F:Pl→Option Wd) (p:Pl) (o:Option StpF) (e:Ending) (w':World):Prop:= ∃vN' Z',e= .returned (.bool (sayF F p o))∧NdM w' E A1 c1 A2 c2 A3 c3 T N R st G Aa n ca D pb S As ms cs s vN' Z'∧Touch (fun b=>E≤b) w w'∧nmZ Z'=nodO L o∧RelF (besO F p o) Z'
section
variable {w w' : World} {E : Nat} {A1 : Option Addr} {c1 : Nat} {A2 : Option Addr} {c2 : Nat} {A3 : Option Addr} {c3 T N R : Nat} {st : Int} {G : GramD} {Aa : Option Addr} {n ca : Nat} {D : List (List It × List It)} {pb : Nat} {S : List FoundD} {As : Option Addr} {ms cs : Nat} {s : List Nat} {vN : Value} {Z : List NdV} {L : List Pl} {F : Pl → Option Wd} {p : Pl} {o : Option StpF} {e : Ending}
theorem ItemR.of_put {y:StpF} {v:Wd} {i:Nat} {z:NdV} {u:Value} (ho:o=some y) (hc:candF F y=if v.length≤4096 then some v else none) (hnm:nmZ Z=nodeR L y) (hrel:RelF F Z) (hnd:(nmZ Z).Nodup) (hz:Z[i]? =some z) (hp:z.1.1=p)
  (he:e= .returned (.bool (putB z.1.2 v))) (hM:NdM w' E A1 c1 A2 c2 A3 c3 T N R st G Aa n ca D pb S As ms cs s vN (if putB z.1.2 v=true then Z.set i ((z.1.1,some v),u)else Z)) (ht:Touch (fun b=>E≤b) w w'):ItemR w E A1 c1 A2 c2 A3 c3 T N R st G Aa n ca D pb S As ms cs s L F p o e w':=by
 subst hp ho
 have hF:F z.1.1=z.1.2:=hrel z (List.mem_of_getElem? hz)
 obtain⟨h1,h2⟩:=put_says hc hF
 refine⟨vN,_,by rw [he];show _=Ending.returned (.bool (betF F _ y).isSome);rw [h1],hM,ht,?_,?_⟩
 ·unfold nodO
  split
  ·rw [nmZ_set hz,hnm]
  ·exact hnm
 ·unfold besO
  simp only
  rw [h2]
  split
  ·exact hrel.set hnd hz v u
  ·exact hrel
theorem ItemR.of_none {y:StpF} (ho:o=some y) (hc:candF F y=none) (hnm:nmZ Z=nodeR L y) (hrel:RelF F Z) (he:e= .returned (.bool false)) (hM:NdM w' E A1 c1 A2 c2 A3 c3 T N R st G Aa n ca D pb S As ms cs s vN Z) (ht:Touch (fun b=>E≤b) w w'):ItemR w E A1 c1 A2 c2 A3 c3 T N R st G Aa n ca D pb S As ms cs s L F p o e w':=by
 subst ho
 obtain⟨h1,h2⟩:=none_says (p:=p) hc
 refine⟨vN,Z,by rw [he];show _=Ending.returned (.bool (betF F _ y).isSome);rw [h1],hM,ht,hnm,?_⟩
 unfold besO
 simp only
 rw [h2]
 exact hrel
theorem ItemR.of_no (ho:o=none) (hnm:nmZ Z=L) (hrel:RelF F Z) (he:e= .returned (.bool false)) (hM:NdM w' E A1 c1 A2 c2 A3 c3 T N R st G Aa n ca D pb S As ms cs s vN Z) (ht:Touch (fun b=>E≤b) w w'):ItemR w E A1 c1 A2 c2 A3 c3 T N R st G Aa n ca D pb S As ms cs s L F p o e w':=by
 subst ho
 exact⟨vN,Z,he,hM,ht,hnm,hrel⟩
end
theorem cand_over (F:Pl→Option Wd) (v:Wd):candF F (v,none)=if v.length≤4096 then some v else none:=rfl
theorem cand_way {F:Pl→Option Wd} {r:Pl} {u:Wd} (h:F r=some u) (v:Wd):candF F (v,some r)=if(v++u).length≤4096 then some (v++u)else none:=by
 unfold candF;simp only [h]
theorem cand_no {F:Pl→Option Wd} {r:Pl} (h:F r=none) (v:Wd):candF F (v,some r)=none:=by
 unfold candF;simp only [h]
theorem node_over (L:List Pl) (v:Wd):nodeR L (v,none)=L:=rfl
theorem find_says {F:Pl→Option Wd} {Z Z':List NdV} {r:Pl} {jl:Wd} (hrel:RelF F Z) (hnd:(nmZ Z).Nodup) (hout: ∀p,p∉nmZ Z→F p=none) (hlen: ∀y∈Z,(y.1.2.getD []).length≤4096)
  (h:(r∈Z.map (fun z=>z.1.1)∧Z'=Z)∨(r∉Z.map (fun z=>z.1.1)∧Z'=Z++[((r,none),.slice none 0 0)])):nmZ Z'=nodeR (nmZ Z) (jl,some r)∧RelF F Z'∧(nmZ Z').Nodup∧(∀y∈Z',(y.1.2.getD []).length≤4096)∧ ∀(i:Nat) (z:NdV),Z[i]? =some z→Z'[i]? =some z:=by
 rcases h with⟨h1,rfl⟩|⟨h1,rfl⟩
 ·refine⟨?_,hrel,hnd,hlen,fun i z hz=>hz⟩
  unfold nodeR
  exact(if_pos h1).symm
 ·have e:nmZ (Z++[((r,none),Value.slice none 0 0)])=nmZ Z++[r]:=by unfold nmZ;simp
  refine⟨?_,fun z hz=> ?_,?_,fun y hy=> ?_,fun i z hz=> ?_⟩
  ·rw [e]
   unfold nodeR
   exact(if_neg h1).symm
  ·rcases List.mem_append.1 hz with hz|hz
   ·exact hrel z hz
   ·rw [List.mem_singleton.1 hz];exact hout r h1
  ·rw [e,List.nodup_append]
   refine⟨hnd,by simp,fun a ha b hb e=> ?_⟩
   rw [List.mem_singleton.1 hb]at e
   exact h1 (e▸ha)
  ·rcases List.mem_append.1 hy with hy|hy
   ·exact hlen y hy
   ·rw [List.mem_singleton.1 hy];exact Nat.zero_le _
  ·rw [List.getElem?_append_left (List.getElem?_eq_some_iff.1 hz).1];exact hz
end Go.Proofs.YtalbfonkhpeajaaGreat
namespace Go.Proofs.YtalbfonkhpeajaaGreat
set_option linter.unusedVariables false
set_option linter.unusedSimpArgs false
theorem nodO_at (N:List Pl) (o:Option StpF) {j:Nat} {p:Pl} (h:N[j]? =some p):(nodO N o)[j]? =some p:=by
 unfold nodO
 split
 ·exact h
 ·unfold nodeR
  split
  ·exact h
  ·split
   ·exact h
   ·rw [List.getElem?_append_left (List.getElem?_eq_some_iff.1 h).1];exact h
theorem nodO_back (N:List Pl) (o:Option StpF) {j:Nat} {p:Pl} (hj:j<N.length) (h:(nodO N o)[j]? =some p):N[j]? =some p:=by
 rw [nodO_at N o (List.getElem?_eq_getElem hj)]at h
 rw [List.getElem?_eq_getElem hj]
 exact h
def PassI (T:Nat) (S:Pl→List StpF) (A:Pl→Prop) (g:List Pl) (f:Pl) (N0:List Pl) (F0:Pl→Option Wd) (K:Pl→List It) (o:Pl→It→Option StpF) (i k:Nat) (N:List Pl) (F:Pl→Option Wd) (more:Bool):Prop:=
 ∃done,RefSt T S A g f N0 F0 done N F more∧(∀j p,j<i→N[j]? =some p→ ∀x∈K p,∀y,o p x=some y→(p,y)∈done)∧(∀p,N[i]? =some p→ ∀j x,j<k→(K p)[j]? =some x→ ∀y,o p x=some y→(p,y)∈done)
def mesF (T:Nat) (g N:List Pl) (F:Pl→Option Wd):Nat:=(g.length - N.length)+totF T F g
section
variable {T : Nat} {S : Pl → List StpF} {A : Pl → Prop} {g : List Pl} {f : Pl} {N0 N : List Pl} {F0 F : Pl → Option Wd} {K : Pl → List It} {o : Pl → It → Option StpF} {i k : Nat} {more : Bool} {p : Pl} {x : It}
theorem PassI.start (h:RefSt T S A g f N F [] N F false):PassI T S A g f N F K o 0 0 N F false:=⟨[],h,fun j p hj=>by omega,fun p _ j x hj=>by omega⟩
theorem PassI.st (h:PassI T S A g f N0 F0 K o i k N F more):RefSt T S A g f N F [] N F false:=by
 obtain⟨done,h,-⟩:=h
 exact h.again
theorem PassI.yes (h:PassI T S A g f N0 F0 K o i k N F true):mesF T g N F<mesF T g N0 F0:=by
 obtain⟨done,h,-⟩:=h
 exact h.yes rfl
theorem RefSt.len {done:List (Pl×StpF)} (hg: ∀p,A p→p∈g) (h:RefSt T S A g f N0 F0 done N F more):N.length≤g.length:=sub_len h.nodup fun q hq=>hg q (h.ok q hq)
theorem PassI.step (hS:OkS T S) (hg: ∀p,A p→p∈g) (hA:StaysF S A) (hK: ∀p x y,x∈K p→o p x=some y→y∈S p) (h:PassI T S A g f N0 F0 K o i k N F more) (hp:N[i]? =some p) (hx:(K p)[k]? =some x):
  PassI T S A g f N0 F0 K o i (k+1) (nodO N (o p x)) (besO F p (o p x)) (more||(sayF F p (o p x)||decide ((nodO N (o p x)).length≠N.length))):=by
 obtain⟨done,hr,h1,h2⟩:=h
 have hi:=(List.getElem?_eq_some_iff.1 hp).1
 cases ho:o p x with
 |none=>
  have e:(more||(sayF F p none||decide ((nodO N none).length≠N.length)))=more:=by simp [sayF,nodO]
  rw [e]
  refine⟨done,hr,h1,fun q hq j y hj hy z hz=> ?_⟩
  rw [show nodO N none=N from rfl,hp]at hq
  injection hq with hq
  subst hq
  by_cases ej:j=k
  ·subst ej
   rw [hx]at hy
   injection hy with hy
   subst hy
   rw [ho]at hz
   cases hz
  ·exact h2 p hp j y (by omega) hy z hz
 |some z=>
  have hz:=hK p x z (List.mem_of_getElem? hx) ho
  refine⟨done++[(p,z)],hr.next hS hg hA (List.mem_of_getElem? hp) hz,fun j q hj hq y hy u hu=> ?_,fun q hq j y hj hy u hu=> ?_⟩
  ·exact List.mem_append_left _ (h1 j q hj (nodO_back N (some z) (by omega) hq) y hy u hu)
  ·have hq:=nodO_back N (some z) hi hq
   rw [hp]at hq
   injection hq with hq
   subst hq
   by_cases ej:j=k
   ·subst ej
    rw [hx]at hy
    injection hy with hy
    subst hy
    rw [ho]at hu
    injection hu with hu
    subst hu
    exact List.mem_append_right _ (List.mem_singleton.2 rfl)
   ·exact List.mem_append_left _ (h2 p hp j y (by omega) hy u hu)
theorem PassI.row (h:PassI T S A g f N0 F0 K o i k N F more) (hp:N[i]? =some p) (hk:(K p).length≤k):PassI T S A g f N0 F0 K o (i+1) 0 N F more:=by
 obtain⟨done,hr,h1,h2⟩:=h
 refine⟨done,hr,fun j q hj hq y hy u hu=> ?_,fun q _ j y hj=>by omega⟩
 by_cases ej:j=i
 ·subst ej
  rw [hp]at hq
  injection hq with hq
  subst hq
  obtain⟨n,hn,e⟩:=List.getElem_of_mem hy
  exact h2 p hp n y (by omega) (by rw [List.getElem?_eq_getElem hn,e]) u hu
 ·exact h1 j q (by omega) hq y hy u hu
theorem PassI.end_ (hKS: ∀p y,y∈S p→ ∃x∈K p,o p x=some y) (h:PassI T S A g f N0 F0 K o i 0 N F false) (hi:N.length≤i):StaysF S (fun p=>p∈N)∧ClosedF S (fun p=>p∈N) F:=by
 obtain⟨done,hr,h1,-⟩:=h
 have e:=(hr.no rfl).1
 refine hr.end_ fun p hp y hy=> ?_
 rw [←e]at hp
 obtain⟨j,hj,e2⟩:=List.getElem_of_mem hp
 obtain⟨x,hx,ho⟩:=hKS p y hy
 exact h1 j p (by omega) (by rw [List.getElem?_eq_getElem hj,e2]) x hx y ho
theorem dv_len {p:Pl} {w:Wd} (h:Dv S p w):w.length≤4096:=by
 cases h with
 |over _ _ _ h=>exact h
 |step _ _ _ _ _ _ h=>exact h
theorem PassI.lens (h:PassI T S A g f N0 F0 K o i k N F more) {Z:List NdV} (hr:RelF F Z): ∀y∈Z,(y.1.2.getD []).length≤4096:=fun y hy=>by
 obtain⟨done,hs,-⟩:=h
 have:=hr y hy
 cases e:y.1.2 with
 |none=>exact Nat.zero_le _
 |some u=>
  rw [e]at this
  exact dv_len (hs.sound _ _ this)
end
def itemsF (D:List (List It×List It)) (p:Pl):List It:=((D[p.2]?).getD ([],[])).1
theorem steps_in {G:GramD} {st:Int} {D:List (List It×List It)} {S:List FoundD} {s:List Nat} (p:Pl) (x:It) (y:StpF) (hx:x∈itemsF D p) (ho:stepF G st D S s p x=some y):y∈stepsF G st D S s p:=List.mem_filterMap.2 ⟨x,hx,ho⟩
theorem steps_of {G:GramD} {st:Int} {D:List (List It×List It)} {S:List FoundD} {s:List Nat} (p:Pl) (y:StpF) (h:y∈stepsF G st D S s p): ∃x∈itemsF D p,stepF G st D S s p x=some y:=List.mem_filterMap.1 h
end Go.Proofs.YtalbfonkhpeajaaGreat
namespace Go.Proofs.YtalbfonkhpeajaaGreat
set_option linter.unusedVariables false
theorem AutoIs.bldB {G:GramD} {st ck:Int} {D:List (List It×List It)} (h:AutoIs G st ck 0 D):ck=0∧ ∃L T,Bld G st L.length L T∧D=stD L T:=by
 rcases h with⟨h1,h2,-⟩|⟨-,-,h2,-⟩|⟨h0,L,T,h1,-,h2⟩
 ·exact absurd h2.symm h1
 ·exact absurd h2 (by decide)
 ·cases h1 with
  |ok _ _ hb=>exact⟨h0,L,T,hb,h2⟩
theorem item_dot {G:GramD} {st:Int} {L T:List (List It)} {s:List Nat} (hK:KnA G st) (hb:Bld G st L.length L T) (hr:RightF L T s) {p:Pl} (hp:OkPl L T s p) {d:List It×List It} (hd:(stD L T)[p.2]? =some d):
  d.1.length≤1000000∧ ∀x∈d.1,0≤x.2∧x.2.toNat≤(ruleOf G st x.1).1.2.length∧0<(ruleOf G st x.1).1.2.length∧(x.1≠(G.rules.length:Int)→0<x.2∧x.2.toNat≤p.1∧ ∃i q:Nat,s[p.1 - x.2.toNat]? =some i∧gotoD (stD L T) i (ruleOf G st x.1).1.1=(q:Int)):=by
 rw [stD_get]at hd
 obtain⟨k,hk⟩: ∃k,L[p.2]? =some k:=⟨_,List.getElem?_eq_getElem hp.q⟩
 rw [hk]at hd
 injection hd with hd
 subst hd
 obtain⟨h1,-,h3⟩:=hb.by_ hK k (List.mem_of_getElem? hk)
 refine⟨h3,fun x hx=> ?_⟩
 have hR:=h1 x hx
 unfold rightI at hR
 simp only [Bool.and_eq_true,decide_eq_true_eq]at hR
 obtain⟨-,hR1,hR2⟩:=hR
 by_cases e:x.1=(G.rules.length:Int)
 ·have e1:ruleOf G st (G.rules.length:Int)=((0,[st]),true):=by unfold ruleOf;rw [if_neg (by omega),if_pos rfl]
  exact⟨hR1,by omega,by rw [e,e1];exact Nat.one_pos,fun c=>absurd e c⟩
 ·obtain⟨g1,g2,i,q,g3,g4,-⟩:=item_to hK hb hr hp hk hx e
  exact⟨hR1,by omega,by omega,fun _=>⟨g1,g2,i,q,g3,g4⟩⟩
theorem RightF.top {L T:List (List It)} {s:List Nat} (hr:RightF L T s): ∃m q,s.length=m+1∧s[m]? =some q∧OkPl L T s (m,q):=by
 have h0:=(List.getElem?_eq_some_iff.1 hr.first).1
 obtain⟨m,hm⟩: ∃m,s.length=m+1:=⟨s.length - 1,by omega⟩
 have hq:s[m]? =some s[m]:=List.getElem?_eq_getElem (by omega)
 exact⟨m,s[m],hm,hq,hr.ok hq⟩
end Go.Proofs.YtalbfonkhpeajaaGreat
namespace Go.Proofs.YtalbfonkhpeajaaGreat
set_option linter.unusedVariables false
section
set_option linter.unusedSimpArgs false
open Go.RowKit
attribute [local irreducible] wpStill wpOne wpPh
section
variable {V V' : World} {a : Option Addr} {S : List FoundD} {L : List (List Int)}
end
end
section
set_option linter.unusedSimpArgs false
open Go.RowKit
attribute [local irreducible] wpStill wpOne wpPh
section
variable {V V' : World} {a : Option Addr} {S : List FoundD} {L : List (List Int)}
end
def aw16S:List FoundD:=[⟨true,false,[]⟩,⟨true,false,[1]⟩,⟨true,false,[2]⟩,⟨true,false,[2]⟩]
theorem aw16_words {S:List FoundD} (h:WordsOf aw13 S):S=aw16S:=fixed_unique h.1 (⟨⟨1,by rfl⟩,by rfl⟩:Fixed aw13.rules (startW aw13.terms.length aw13.nons.length) aw16S)
end
section
set_option linter.unusedSimpArgs false
open Go.RowKit
attribute [local irreducible] wpStill wpOne wpPh
end
section
open Go.ChangeShapes Go.WideShapes Go.ChangeAt Go.RowKit Go.Deep
section
variable {H : Type} {enc : TypeId × Value → H} {P : Program} {w : World} {sp : Nat → Bool}
end
section
variable {H : Type} {enc : TypeId × Value → H} {w : World} {sp : Nat → Bool}
end
end
end Go.Proofs.YtalbfonkhpeajaaGreat
namespace Go.Proofs.YtalbfonkhpeajaaGreat
set_option linter.unusedVariables false
set_option linter.unusedSimpArgs false
open Go.RowKit
attribute [local irreducible] wpStill wpOne wpPh
def FRest (w:World) (G:GramD) (st:Int) (D:List (List It×List It)) (S:List FoundD) (s:List Nat) (e:Ending) (w':World):Prop:=(rightB D s=false∧e= .returned (.tuple #[.slice none 0 0,.bool false])∧Below w.heap.size w w')∨
 (rightB D s=true∧ ∃m q,s.length=m+1∧s[m]? =some q∧RestO w G.terms.length (stepsF G st D S s) (m,q) e w')
theorem join_len {T:Nat} {S:List FoundD} (h:GoodS T S) (l:List Int):(joinOf S l).l.length≤4096:=by
 unfold joinOf
 split
 ·dsimp only
  split
  ·exact Nat.zero_le _
  ·exact(jTo_good h _).1
 ·exact Nat.zero_le _
theorem steps_need {G:GramD} {st:Int} {D:List (List It×List It)} {S:List FoundD} {s:List Nat} {T:Nat} (h:GoodS T S) (p:Pl) (x:StpF) (hx:x∈stepsF G st D S s p):x.1.length≤4096:=by
 obtain⟨y,-,he⟩:=steps_of p x hx
 unfold stepF at he
 split at he
 ·cases he
 ·rename_i w hw
  have ok:w.length≤4096:=by
   unfold lineF at hw
   split at hw
   ·injection hw with hw;rw [←hw];exact join_len h _
   ·cases hw
  split at he<;>injection he with he<;>rw [←he]<;>exact ok
theorem fin_Rest_of {w:World} {E:Nat} {st:Int} {G:GramD} {D:List (List It×List It)} {S:List FoundD} (h:EndsIn w E st G D S) (hai:AutoIs G st (checkOf G st) 0 D) (hws:WordsOf G S) {Fs:Nat→Prop} {As:Option Addr} {ms cs:Nat} {s:List Nat} (hs:RdI w Fs (.slice As ms cs) (NatL s)) (hFs: ∀b,Fs b→b<w.heap.size) (hlow: ∀(i q:Nat),s[i]? =some q→q<D.length) (hs20:s.length≤50):
  Calls Tryz.prog 8 #[.pointer (some ⟨E,0,none⟩),.slice As ms cs] w (FRest w G st D S s):=by
 obtain⟨A1,c1,A2,c2,A3,c3,T,N,R,Aa,n,ca,pb,ec⟩:=h
 have cr:=fin_right ec hs hFs hlow
 cases hrb:rightB D s with
 |false=>
  rw [hrb]at cr
  exact(fin_Rest_no cr).mono fun e w' h=> .inl ⟨hrb,h.1,h.2⟩
 |true=>
  rw [hrb]at cr
  obtain⟨hck,L,Tt,hB,hDe⟩:=hai.bldB
  have hK:KnA G st:=KnA.of_check hck
  have hDl:D.length=L.length:=by rw [hDe];unfold stD;simp
  have hrF:RightF L Tt s:=(right_iff hB.f.len (fun h q e=>by rw [←hDl];exact hlow h q e)).1 (by rw [←hDe];exact hrb)
  obtain⟨m,q,hm,hq,hok⟩:=hrF.top
  obtain rfl:ms=m+1:=by
   have:=(RdI.at_ hs).1
   rw [List.length_map]at this
   omega
  have hG:=hws.2.1
  have hwf: ∀p∈gridF s.length L.length,WfP p:=fun p hp=>by
   have:=mem_grid.1 hp
   have:=hB.f.small
   exact⟨by omega,by omega⟩
  have hgl:(gridF s.length L.length).length≤100000:=by
   rw [grid_size]
   exact Nat.le_trans (Nat.mul_le_mul hs20 hB.f.small) (by decide)
  have hd: ∀p,OkPl L Tt s p→ ∃d,D[p.2]? =some d:=fun p hp=>⟨_,List.getElem?_eq_getElem (by rw [hDl];exact hp.q)⟩
  have hdot: ∀p,OkPl L Tt s p→ ∀d,D[p.2]? =some d→_:=fun p hp d hd=>item_dot hK hB hrF hp (d:=d) (by rw [←hDe];exact hd)
  have call: ∀wr,Below w.heap.size w wr→Calls Tryz.prog 20 #[.pointer (some ⟨E,0,none⟩),.slice As (m+1) cs,PlV (m,q)] wr (AllP wr (stepsF G st D S s) (OkPl L Tt s) (m,q)):=fun wr hb=>
   fin_all ⟨_,rfl⟩ ⟨_,_,_,rfl⟩ (fun p hp wq hq=>by
    obtain⟨d,hd⟩:=hd p hp
    have hdp:=hdot p hp d hd
    rw [←hDe]at hdp
    have bb:=hb.trans (hq.mono hb.size)
    exact fin_steps (ec.below bb) (Rd.below hs bb hFs) (fun b hb=>Nat.lt_of_lt_of_le (hFs b hb) bb.size) hd (by have:=hp.h;omega) hdp.1 hG hdp.2) (by rw [hDe];exact stays_ok hK hB hrF S) (fun p hp=>ok_grid hp) hgl hwf (fun p hp=>by
    obtain⟨d,hd⟩:=hd p hp
    have hdp:=(hdot p hp d hd).1
    unfold stepsF
    rw [hd]
    exact Nat.le_trans (List.length_filterMap_le _ _) hdp) hok
  exact(fin_Rest (Ap:=OkPl L Tt s) (gr:=gridF s.length L.length) cr hs hFs hq (by omega) call (steps_ok (fixed_ok hws.1)) (steps_need hG) (fun p hp=>ok_grid hp) hgl hwf).mono fun e w' h=> .inr ⟨hrb,m,q,hm,hq,h⟩
def aw22S:Pl→List StpF:=stepsF aw13 3 (stD aw13L aw13T) aw16S [0,1,1]
def aw22F (p:Pl):Option Wd:=if p=(2,1)then some [2]else if p=(2,4)then some []else if p=(1,3)then some []else none
theorem aw22_1:aw22S (2,1)=[([2],some (2,4))]:=by decide+kernel
theorem aw22_2:aw22S (2,4)=[([],some (1,3))]:=by decide+kernel
theorem aw22_3:aw22S (1,3)=[([],none)]:=by decide+kernel
def aw22A (p:Pl):Prop:=p=(2,1)∨p=(2,4)∨p=(1,3)
theorem aw22_words:WordsOf aw13 aw16S→OkS 2 aw22S:=fun h=>steps_ok (fixed_ok h.1)
theorem aw22_least (h:WordsOf aw13 aw16S):LeastF 2 aw22S (2,1) (some [2]):=by
 have hS:=aw22_words h
 have d3:Dv aw22S (1,3) []:=Dv.over _ _ (by rw [aw22_3];exact List.mem_singleton.2 rfl) (by decide)
 have d2:Dv aw22S (2,4) []:=Dv.step (2,4) (1,3) [] [] (by rw [aw22_2];exact List.mem_singleton.2 rfl) d3 (by decide)
 have d1:Dv aw22S (2,1) [2]:=Dv.step (2,1) (2,4) [2] [] (by rw [aw22_1];exact List.mem_singleton.2 rfl) d2 (by decide)
 have hs:SoundF aw22S aw22F:=fun p w e=>by
  unfold aw22F at e
  split at e
  ·rename_i hp;injection e with e;rw [hp,←e];exact d1
  ·split at e
   ·rename_i hp;injection e with e;rw [hp,←e];exact d2
   ·split at e
    ·rename_i hp;injection e with e;rw [hp,←e];exact d3
    ·cases e
 have hA:StaysF aw22S aw22A:=fun p hp w q hm=>by
  rcases hp with rfl|rfl|rfl
  ·rw [aw22_1]at hm;cases List.mem_singleton.1 hm;exact .inr (.inl rfl)
  ·rw [aw22_2]at hm;cases List.mem_singleton.1 hm;exact .inr (.inr rfl)
  ·rw [aw22_3]at hm;cases List.mem_singleton.1 hm
 have hc:ClosedF aw22S aw22A aw22F:=closed_of fun p hp x hx=>by
  rcases hp with rfl|rfl|rfl
  ·rw [aw22_1]at hx;rw [List.mem_singleton.1 hx];decide
  ·rw [aw22_2]at hx;rw [List.mem_singleton.1 hx];decide
  ·rw [aw22_3]at hx;rw [List.mem_singleton.1 hx];decide
 exact closed_least hS hA hs hc (p:=(2,1)) (.inl rfl)
end Go.Proofs.YtalbfonkhpeajaaGreat

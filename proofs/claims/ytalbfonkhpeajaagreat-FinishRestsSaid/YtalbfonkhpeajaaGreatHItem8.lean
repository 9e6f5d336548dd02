/- Items: how two are compared; the library's sort of them. -/
import Derived.Test.YtalbfonkhpeajaaGreatHItemPlain
import Derived.Test.YtalbfonkhpeajaaGreatHItem5
import Derived.Test.YtalbfonkhpeajaaGreatHG7
import Derived.DeepKeys4
import Derived.Maps.OwnOps
namespace Go.Proofs.YtalbfonkhpeajaaGreat
set_option linter.unusedVariables false
section
set_option linter.unusedSimpArgs false
open Go.RowKit Go.Shelf Go.Lib Go.Sort
attribute [local irreducible] wpStill wpOne wpPh
def encIt (x:It):List Value:=[.int .i64 x.1,.int .i64 x.2]
theorem sort_items_none (p:Option Addr) (cap:Nat) (fv:Value) (w:World):Calls Tryz.prog 112 #[.slice p 0 cap,fv] w fun e w'=>e= .returned (.tuple #[])∧w'=w:=
 AnyF.slices_SortFunc_none Tryz.sortIt p cap fv w
end
section
set_option linter.unusedSimpArgs false
open Go.RowKit Go.Shelf Go.Lib Go.Sort
attribute [local irreducible] wpStill wpOne wpPh
def HI (w:World) (g:Nat) (l:List It):Prop:= ∀(k:Nat) (x:It),l[k]? =some x→(w.cell? ⟨g,k * 2,none⟩=some (.int .i64 x.1)∧w.frozen? ⟨g,k * 2,none⟩=false)∧(w.cell? ⟨g,k * 2+1,none⟩=some (.int .i64 x.2)∧w.frozen? ⟨g,k * 2+1,none⟩=false)
theorem HI.drewN {w:World} {g:Nat} {l:List It} (h:HI w g l) (q:Nat):HI (w.drewN q) g l:=h
theorem HI.set {w:World} {g:Nat} {l:List It} (h:HI w g l) {k:Nat} (hk:k<l.length) (x:It):HI ((w.setCell ⟨g,k * 2,none⟩ (.int .i64 x.1)).setCell ⟨g,k * 2+1,none⟩ (.int .i64 x.2)) g (l.set k x):=by
 intro j y hy
 have hj:j<l.length:=by have:=(List.getElem?_eq_some_iff.1 hy).1;simpa using this
 obtain⟨⟨a1,a2⟩,a3,a4⟩:=h j l[j] (List.getElem?_eq_getElem hj)
 rw [World.frozen?_setCell,World.frozen?_setCell,World.frozen?_setCell,World.frozen?_setCell]
 refine⟨⟨?_,a2⟩,?_,a4⟩
 ·by_cases e:j=k
  ·subst e
   rw [List.getElem?_set_self hj]at hy
   injection hy with hy
   subst hy
   rw [World.cell?_setCell_other _ _ _ _ (fun ea=>by injection ea with _ ea;omega),World.cell?_setCell_same' _ _ _ (by rw [a1];rfl)]
  ·rw [List.getElem?_set_ne (fun e'=>e e'.symm),List.getElem?_eq_getElem hj]at hy
   injection hy with hy
   subst hy
   rw [World.cell?_setCell_other _ _ _ _ (fun ea=>by injection ea with _ ea;omega),World.cell?_setCell_other _ _ _ _ (fun ea=>by injection ea with _ ea;omega)]
   exact a1
 ·by_cases e:j=k
  ·subst e
   rw [List.getElem?_set_self hj]at hy
   injection hy with hy
   subst hy
   refine World.cell?_setCell_same' _ _ _ ?_
   rw [World.cell?_setCell_other _ _ _ _ (fun ea=>by injection ea with _ ea;omega),a3];rfl
  ·rw [List.getElem?_set_ne (fun e'=>e e'.symm),List.getElem?_eq_getElem hj]at hy
   injection hy with hy
   subst hy
   rw [World.cell?_setCell_other _ _ _ _ (fun ea=>by injection ea with _ ea;omega),World.cell?_setCell_other _ _ _ _ (fun ea=>by injection ea with _ ea;omega)]
   exact a3
theorem HI.holds {w:World} {g:Nat} {l:List It} (h:HI w g l):HoldsK encIt 2 w g 0 l.toArray:=by
 intro t ht
 rw [size_flatK]at ht
 rw [get_flatK _ _ _ _ ht,Nat.zero_add]
 have hk:t/2<l.length:=by simp at ht;omega
 obtain⟨⟨a1,a2⟩,a3,a4⟩:=h (t/2) l[t/2] (List.getElem?_eq_getElem hk)
 have e:l.toArray[t/2]! =l[t/2]:=by simp [hk]
 rw [e]
 rcases Nat.mod_two_eq_zero_or_one t with h0|h1
 ·rw [h0]
  have ht2:t=t/2 * 2:=by omega
  have e1:(⟨g,t,none⟩:Addr)=⟨g,t/2 * 2,none⟩:=by rw [←ht2]
  rw [e1];exact⟨a1,a2⟩
 ·rw [h1]
  have ht2:t=t/2 * 2+1:=by omega
  have e1:(⟨g,t,none⟩:Addr)=⟨g,t/2 * 2+1,none⟩:=by rw [←ht2]
  rw [e1];exact⟨a3,a4⟩
theorem HI.of_holds {w:World} {g:Nat} {l:List It} (h:HoldsK encIt 2 w g 0 l.toArray):HI w g l:=by
 intro k x hx
 have hk:=(List.getElem?_eq_some_iff.1 hx).1
 have e:l.toArray[k]! =x:=by
  rw [List.getElem?_eq_getElem hk]at hx;injection hx with hx;simp [hk,hx]
 have h0:=HoldsK.cell h (i:=k) (c:=0) (by simpa using hk) (by omega)
 have h1:=HoldsK.cell h (i:=k) (c:=1) (by simpa using hk) (by omega)
 rw [e,Nat.zero_add]at h0 h1
 exact⟨h0,h1⟩
theorem HI.of_own {w:World} {base:Nat} {e:TypeId} {n g c:Nat} {l:List It} (h:w.ownsRow base e 2 (.slice (some ⟨g,0,none⟩) n c) n (itCells l)) (hl:0<l.length):HI w g l:=by
 have hlen:=h.1
 rw [itCells_length]at hlen
 rcases h.2 with⟨h1,-⟩|⟨g',cap,cur,h1,hb,hh,hn,hc,hz,ht⟩
 ·cases h1
 ·injection h1 with h1 _ _
  injection h1 with h1
  injection h1 with h1 _ _
  subst h1
  have key: ∀j u,(itCells l)[j]? =some u→w.cell? ⟨g,j,none⟩=some u∧w.frozen? ⟨g,j,none⟩=false:=fun j u hu=>by
   constructor
   ·rw [cell_of_row w g j cur e (0,0) hh]
    rw [←ht,List.getElem?_take]at hu
    split at hu
    ·simpa using hu
    ·cases hu
   ·unfold World.frozen?
    rw [hh]
    simp
  intro k x hx
  obtain⟨k1,k2⟩:=itCells_get hx
  exact⟨key _ _ k1,key _ _ k2⟩
theorem HI.rd {w:World} {g n c:Nat} {l:List It} (h:HI w g l) (hn:n=l.length) (hc:n≤c) (hm:c≤maxLen):RdIt w (fun b=>b=g) (.slice (some ⟨g,0,none⟩) n c) l:=
 RdIt.mk hn hc hm rfl fun k x hx=>by obtain⟨⟨a1,-⟩,a3,-⟩:=h k x hx;rw [Nat.zero_add];exact⟨a1,a3⟩
theorem HI.take {w:World} {g m:Nat} {l:List It} (h:HI w g l):HI w g (l.take m):=fun k x hx=>by
 rw [List.getElem?_take]at hx
 split at hx
 ·exact h k x hx
 ·cases hx
theorem sort_touch (w:World) (g n:Nat) (d:Array It) (os:Array Obj):Touch (fun b=>b=g) w (sortWorldK encIt 2 w g 0 n d os):=by
 refine⟨rfl,rfl,rfl,?_,fun i hi hn=> ?_⟩
 ·unfold sortWorldK grow putRowK putRow mapBlock Sort.ahead
  simp
 ·unfold sortWorldK grow putRowK putRow mapBlock Sort.ahead
  simp only
  rw [Array.getElem?_append_left (by simpa using hi),Array.getElem?_modify,if_neg (fun e=>hn e.symm)]
theorem clear_items {w:World} {g:Nat} {l:List It} (h:HI w g l) {k:Nat} (hk:k<l.length) (c:Nat) (ty:TypeId):(Builtin.clear_ #[44] ty #[.slice (some ⟨g,k * 2,none⟩) (l.length - k) c]).run Tryz.prog w= .ok (.tuple #[]) (w.setCells g (k * 2) (List.replicate ((l.length - k) * 2) (.int .i64 0))):=by
 obtain⟨m,hm⟩: ∃m,l.length - k=m+1:=⟨l.length - k - 1,by omega⟩
 have hz:(Builtin.zeroCells (Value.cells (.agg #[.int .i64 0,.int .i64 0])) (m+1)).toList=List.replicate ((m+1) * 2) (.int .i64 0):=by
  simp [Builtin.zeroCells,Value.cells]
  apply List.ext_getElem
  ·simp
  ·intro i h1 h2
   simp
   rcases Nat.mod_two_eq_zero_or_one i with e|e<;>simp [e]
 have hat: ∀j,j<(m+1) * 2→(w.cell? ⟨g,k * 2+j,none⟩).isSome=true∧w.frozen? ⟨g,k * 2+j,none⟩=false:=fun j hj=>by
  obtain⟨⟨a1,a2⟩,a3,a4⟩:=h (k+j/2) l[k+j/2] (List.getElem?_eq_getElem (by omega))
  rcases Nat.mod_two_eq_zero_or_one j with e|e
  ·rw [show k * 2+j=(k+j/2) * 2 by omega,a1];exact⟨rfl,a2⟩
  ·rw [show k * 2+j=(k+j/2) * 2+1 by omega,a3];exact⟨rfl,a4⟩
 have hst:=run_storeCells_cells (P:=Tryz.prog) g (k * 2) (List.replicate ((m+1) * 2) (.int .i64 0)) 0 w (fun j hj=>by rw [Nat.add_zero];exact(hat j (by simpa using hj)).1) (fun j hj=>by rw [Nat.add_zero];exact(hat j (by simpa using hj)).2) (by intro v hv';rw [List.eq_of_mem_replicate hv'];rfl)
 simp only [Nat.add_zero]at hst
 rw [hm]
 simp [Builtin.clear_,run_underlying Tryz.underlying44,Tryz.zeroValue86,hz,hst]
end
section
set_option linter.unusedSimpArgs false
open Go.RowKit Go.Shelf Go.Lib Go.Sort
attribute [local irreducible] wpStill wpOne wpPh
theorem Touch.setCells {S:Nat→Prop} {a:World} {g:Nat} (hg:S g): ∀(vs:List Value) (o:Nat) {b:World},Touch S a b→Touch S a (b.setCells g o vs)
 |[],_,_,h=>h
 |v::vs,o,b,h=>Touch.setCells hg vs (o+1) (h.setCell (p:=⟨g,o,none⟩) (fun _=>hg) v)
theorem HI.cleared {w:World} {g k m:Nat} {l:List It} (h:HI w g l) (hk:l.length≤k) (vs:List Value):HI (w.setCells g (k * 2) vs) g l:=by
 intro j x hx
 have hj:=(List.getElem?_eq_some_iff.1 hx).1
 obtain⟨⟨a1,a2⟩,a3,a4⟩:=h j x hx
 rw [World.frozen?_setCells,World.frozen?_setCells,World.cell?_setCells_out _ _ _ _ _ (fun _ _=> .inl (by simp;omega)),World.cell?_setCells_out _ _ _ _ _ (fun _ _=> .inl (by simp;omega))]
 exact⟨⟨a1,a2⟩,a3,a4⟩
def CompPost (w:World) (g cap:Nat) (l:List It) (e:Ending) (w':World):Prop:=e= .returned (.slice (some ⟨g,0,none⟩) l.length cap)∧HI w' g l∧Touch (fun b=>b=g) w w'
set_option maxRecDepth 100000 in
set_option maxHeartbeats 4000000 in
theorem compact_items {w:World} {g cap n:Nat} {l:List It} (h:HI w g l) (hn:n=l.length) (hc:n≤cap) (hm:cap≤9223372036854775807):
  Calls Tryz.prog 114 #[.slice (some ⟨g,0,none⟩) n cap] w (CompPost w g cap (compI l)):=by
 by_cases h2:n<2
 ·have h2':(n:Int)<2:=by omega
  have hcs:=comp_short (l:=l) (by omega)
  have Xh:=hide h;have Xhn:=hide hn;have Xhcs:=hide hcs;clear h hn hcs
  go_enter Tryz.func114,Tryz.ntmps114
  go_wp2_with fail
  go_ret
  rw [Xhcs.out]
  exact⟨by rw [Xhn.out];rfl,Xh.out,Touch.refl _ _⟩
 ·have h2': ¬(n:Int)<2:=by omega
  have hfirst:=comp_first (l:=l)
  have Xh:=hide h;have Xhn:=hide hn;have Xhfirst:=hide hfirst;clear h hn hfirst
  go_enter Tryz.func114,Tryz.ntmps114
  go_wp2_with fail
  go_loopw [3] (fun i wr=> ∃k q:Nat,1≤k∧k≤n∧i= .int .i64 k∧wr=w.drewN q∧compI (l.take k)=l.take k) (fun i _=>n - (intOf i).toNat)
  case atStart=>exact⟨1,0,Nat.le_refl _,by omega,rfl,rfl,Xhfirst.out⟩
  case round=>
   clear Xhfirst
   obtain⟨k,q,hk1,hk,rfl,rfl,hcp⟩:=hrel
   by_cases hlt:k<n
   ·have hlt':(k:Int)<(n:Int):=by omega
    obtain⟨r,hr⟩: ∃r,k=r+1:=⟨k - 1,by omega⟩
    have hw63:IntKind.i64.wrap ((k:Int) - 1)=(r:Int):=by rw [IntKind.wrap_i64];omega
    have hrn:(r:Int)<(n:Int):=by omega
    obtain⟨⟨x0,x1⟩,hx⟩: ∃x,l[k]? =some x:=⟨_,List.getElem?_eq_getElem (by rw [←Xhn.out];exact hlt)⟩
    obtain⟨⟨y0,y1⟩,hy⟩: ∃x,l[r]? =some x:=⟨_,List.getElem?_eq_getElem (by rw [←Xhn.out];omega)⟩
    obtain⟨⟨p0,-⟩,p1,-⟩:=Xh.out k _ hx
    obtain⟨⟨r0,-⟩,r1,-⟩:=Xh.out r _ hy
    simp only at p0 p1 r0 r1
    have heq:=eql_item x0 x1 y0 y1
    have hgd:=fun op p q=>guard_item op p q (x0,x1) (y0,y1)
    have hnext:=comp_next (l:=l) (r:=r) hy (by rw [←hr];exact hx)
    rw [show r+2=k+1 by omega,←hr,hcp]at hnext
    by_cases he:((x0,x1):It)=(y0,y1)
    ·rw [decide_eq_true he]at heq
     rw [if_pos he.symm]at hnext
     have hck: ¬cap=k:=by omega
     have hkc:(k:Int)≤(cap:Int):=by omega
     have hk0:(0:Int)≤(k:Int):=by omega
     have hlk:k=(compI (l.take (k+1))).length:=by rw [hnext,List.length_take];have:=Xhn.out;omega
     have Xhr:=hide hr;have Xhx:=hide hx;have Xhy:=hide hy;have Xhe:=hide he;have Xhcp:=hide hcp;have Xhnext:=hide hnext;have Xhlk:=hide hlk;clear hr hx hy he hcp hnext hlk
     go_wp2_with fail
     refine region_reads (by kernel_rfl) (by kernel_rfl) ?_
     repeat still_step
     refine wpStill_nil ?_
     go_wp2_with fail
     go_loopw [3,5] (fun i m wr=> ∃(kk s:Nat) (L:List It),i= .int .i64 kk∧m= .int .i64 s∧1≤s∧k+s≤n∧kk+1≤k+s∧L.length=n∧kk=(compI (l.take (k+s))).length∧L.take kk=compI (l.take (k+s))∧(∀j,k+s≤j+1→L[j]? =l[j]?)∧HI wr g L∧Touch (fun b=>b=g) w wr) (fun _ m _=>n - (intOf m).toNat)
     case atStart=>exact⟨k,1,l,rfl,rfl,Nat.le_refl _,by omega,Nat.le_refl _,Xhn.out.symm,Xhlk.out,Xhnext.out.symm,fun _ _=>rfl,Xh.out.drewN _,(Touch.refl _ _).drewN _⟩
     case round=>
      clear p0 p1 r0 r1 heq hgd hw63 hrn
      obtain⟨kk,s,L,rfl,rfl,hs1,hsn,hks,hL,hkk,hLt,hLe,hH,tt⟩:=hrel
      have hkn:(kk:Int)<(n:Int):=by omega
      by_cases hlt2:k+s<n
      ·have hlt2':(s:Int)<((n - k:Nat):Int):=by omega
       obtain⟨u,hu⟩: ∃u,s=u+1:=⟨s - 1,by omega⟩
       have hw64:IntKind.i64.wrap ((s:Int) - 1)=(u:Int):=by rw [IntKind.wrap_i64];omega
       have hun:(u:Int)<((n - k:Nat):Int):=by omega
       obtain⟨⟨x0,x1⟩,hx⟩: ∃x,l[k+s]? =some x:=⟨_,List.getElem?_eq_getElem (by rw [←Xhn.out];exact hlt2)⟩
       obtain⟨⟨y0,y1⟩,hy⟩: ∃x,l[k+u]? =some x:=⟨_,List.getElem?_eq_getElem (by rw [←Xhn.out];omega)⟩
       obtain⟨⟨p0,-⟩,p1,-⟩:=hH (k+s) _ ((hLe _ (by omega)).trans hx)
       obtain⟨⟨r0,-⟩,r1,-⟩:=hH (k+u) _ ((hLe _ (by omega)).trans hy)
       rw [Nat.add_mul]at p0 p1 r0 r1
       obtain⟨⟨z0,z1⟩,hz⟩: ∃x,L[kk]? =some x:=⟨_,List.getElem?_eq_getElem (by omega)⟩
       obtain⟨⟨f0,f1⟩,f2,f3⟩:=hH kk _ hz
       simp only at p0 p1 r0 r1 f0 f2
       have hne:=neq_item x0 x1 y0 y1
       have hgd:=fun op p q=>guard_item op p q (x0,x1) (y0,y1)
       have hnext2:=comp_next (l:=l) (r:=k+u) hy (by rw [Nat.add_assoc,←hu];exact hx)
       rw [show k+u+2=k+(s+1) by omega,show k+u+1=k+s by omega]at hnext2
       by_cases he2:((x0,x1):It)=(y0,y1)
       ·rw [decide_eq_true he2]at hne
        rw [if_pos he2.symm]at hnext2
        have Xhu:=hide hu;have Xhx:=hide hx;have Xhy:=hide hy;have Xhe2:=hide he2;have Xhz:=hide hz;have Xhnext2:=hide hnext2;have XhL:=hide hL;have Xhkk:=hide hkk;have XhLt:=hide hLt;have XhLe:=hide hLe;have XhH:=hide hH;have Xtt:=hide tt;clear hu hx hy he2 hz hnext2 hL hkk hLt hLe hH tt;clear f0 f1 f2 f3
        go_wp2_with fail
        refine region_reads (by kernel_rfl) (by kernel_rfl) ?_
        repeat still_step
        refine wpStill_nil ?_
        go_wp2_with fail
        go_roundw
        case rel=>exact⟨kk,s+1,L,rfl,by go_num,by omega,by omega,by omega,XhL.out,by rw [Xhnext2.out];exact Xhkk.out,by rw [Xhnext2.out];exact XhLt.out,fun j hj=>XhLe.out j (by omega),XhH.out.drewN _,Xtt.out.drewN _⟩
        case measure=>simp [intOf];omega
       ·rw [decide_eq_false he2]at hne
        rw [if_neg (fun e=>he2 e.symm)]at hnext2
        have hkk2:kk+1=(compI (l.take (k+(s+1)))).length:=by rw [hnext2,List.length_append,←hkk];rfl
        have hLt2:(L.set kk (x0,x1)).take (kk+1)=compI (l.take (k+(s+1))):=by
         rw [hnext2,List.take_add_one,List.getElem?_set_self (by omega),List.take_set_of_le (Nat.le_refl _),hLt];rfl
        have hLe2: ∀j,k+(s+1)≤j+1→(L.set kk (x0,x1))[j]? =l[j]? :=fun j hj=>by
         rw [List.getElem?_set_ne (by omega)];exact hLe j (by omega)
        have hH2:=fun q=>HI.set (hH.drewN q) (k:=kk) (by omega) (x0,x1)
        have tt2:=fun q v0 v1=>((tt.drewN q).setCell (p:=⟨g,kk * 2,none⟩) (fun _=>rfl) v0).setCell (p:=⟨g,kk * 2+1,none⟩) (fun _=>rfl) v1
        have hL2:(L.set kk (x0,x1)).length=n:=by rw [List.length_set];exact hL
        simp only at hH2
        have Xhu:=hide hu;have Xhx:=hide hx;have Xhy:=hide hy;have Xhe2:=hide he2;have Xhz:=hide hz;have Xhnext2:=hide hnext2;have XhL:=hide hL;have Xhkk:=hide hkk;have XhLt:=hide hLt;have XhLe:=hide hLe;have XhH:=hide hH;have Xtt:=hide tt;have Xhkk2:=hide hkk2;have XhLt2:=hide hLt2;have XhLe2:=hide hLe2;have XhH2:=hide hH2;have Xtt2:=hide tt2;have XhL2:=hide hL2;clear hu hx hy he2 hz hnext2 hL hkk hLt hLe hH tt hkk2 hLt2 hLe2 hH2 tt2 hL2
        go_wp2_with fail
        refine region_reads (by kernel_rfl) (by kernel_rfl) ?_
        repeat still_step
        refine wpStill_nil ?_
        go_wp2_with fail
        go_roundw
        case rel=>exact⟨kk+1,s+1,L.set kk (x0,x1),by go_num,by go_num,by omega,by omega,by omega,XhL2.out,Xhkk2.out,XhLt2.out,XhLe2.out,XhH2.out 1,Xtt2.out 1 _ _⟩
        case measure=>simp [intOf];omega
      ·have hlt2': ¬(s:Int)<((n - k:Nat):Int):=by omega
       have hend:k+s=n:=by omega
       have hfin:compI (l.take (k+s))=compI l:=by rw [List.take_of_length_le (by have:=Xhn.out;omega)]
       rw [hfin]at hkk hLt
       have hck2: ¬cap=kk:=by omega
       have hkc2:(kk:Int)≤(cap:Int):=by omega
       have hkn2:(kk:Int)≤(n:Int):=by omega
       have hkk0:(0:Int)≤(kk:Int):=by omega
       have hcl:=fun ty=>clear_items hH (k:=kk) (by omega) (cap - kk) ty
       rw [hL]at hcl
       have hH3:=fun vs=>HI.cleared (k:=kk) (m:=0) (hLt▸HI.take (m:=kk) hH) (by omega) vs
       have tt3:=fun vs=>Touch.setCells (g:=g) (S:=fun b=>b=g) rfl vs (kk * 2) tt
       have XhL:=hide hL;have Xhkk:=hide hkk;have XhLt:=hide hLt;have XhLe:=hide hLe;have XhH:=hide hH;have Xtt:=hide tt;have Xhfin:=hide hfin;have XhH3:=hide hH3;have Xtt3:=hide tt3;have Xhend:=hide hend;clear hL hkk hLt hLe hH tt hfin hH3 tt3 hend
       go_wp2_with fail
       go_ret
       exact⟨by rw [Xhkk.out];rfl,XhH3.out _,Xtt3.out _⟩
    ·rw [decide_eq_false he]at heq
     rw [if_neg (fun e=>he e.symm)]at hnext
     have hcp2:compI (l.take (k+1))=l.take (k+1):=by rw [hnext,List.take_add_one,hx];rfl
     clear hnext
     have Xhr:=hide hr;have Xhx:=hide hx;have Xhy:=hide hy;have Xhe:=hide he;have Xhcp:=hide hcp;have Xhcp2:=hide hcp2;clear hr hx hy he hcp hcp2
     go_wp2_with fail
     refine region_reads (by kernel_rfl) (by kernel_rfl) ?_
     repeat still_step
     refine wpStill_nil ?_
     go_wp2_with fail
     go_roundw
     case rel=>exact⟨k+1,q+1,by omega,by omega,by go_num,rfl,Xhcp2.out⟩
     case measure=>simp [intOf];omega
   ·have hlt': ¬(k:Int)<(n:Int):=by omega
    have hall:compI l=l:=by rw [List.take_of_length_le (by have:=Xhn.out;omega)]at hcp;exact hcp
    have Xhcp:=hide hcp;have Xhall:=hide hall;clear hcp hall
    go_wp2_with fail
    go_ret
    rw [Xhall.out]
    exact⟨by rw [Xhn.out];rfl,Xh.out.drewN q,(Touch.refl _ _).drewN q⟩
theorem compact_none (p:Option Addr) (cap:Nat) (w:World):Calls Tryz.prog 114 #[.slice p 0 cap] w fun e w'=>e= .returned (.slice p 0 cap)∧w'=w:=by
 go_enter Tryz.func114,Tryz.ntmps114
 go_wp2_with fail
 go_ret
 exact⟨rfl,by first|rfl|trivial⟩
end
end Go.Proofs.YtalbfonkhpeajaaGreat
namespace Go.Proofs.YtalbfonkhpeajaaGreat
set_option linter.unusedVariables false
section
set_option linter.unusedSimpArgs false
open Go.RowKit
attribute [local irreducible] wpStill wpOne wpPh
section
variable {w wr wr' : World} {F : Nat → Prop} {A1 : Option Addr} {c1 : Nat} {A2 : Option Addr} {c2 : Nat} {A3 : Option Addr} {c3 T N R : Nat} {st : Int} {G : GramD} {vl : Value} {l : List It} {vo : Value} {o : List It}
end
end
section
set_option linter.unusedSimpArgs false
open Go.RowKit Go.Maps
theorem Tryz.laidOut:laidOutB Tryz.prog=true:=by kernel_rfl
theorem Tryz.intCells:Tryz.prog.cellsOf 3=1:=by kernel_rfl
theorem wf_i64_mk {n:Int} (h: -9223372036854775808≤n∧n≤9223372036854775807):(Lit.int .i64 n).wf=true:=by
 simp [Lit.wf,IntKind.min,IntKind.max,IntKind.signed,IntKind.bits]
 omega
noncomputable def ikey (x:It):Lit:=(keyOf Tryz.prog 86 (ItV x)).getD (.bool false)
attribute [irreducible] ikey
end
section
set_option linter.unusedSimpArgs false
open Go.RowKit Go.Maps
attribute [local irreducible] wpStill wpOne wpPh
section
variable {w wr wr' : World} {F : Nat → Prop} {A1 : Option Addr} {c1 : Nat} {A2 : Option Addr} {c2 : Nat} {A3 : Option Addr} {c3 T N R : Nat} {st : Int} {G : GramD} {vl : Value} {l : List It} {s : Nat} {vo : Value} {o : List It}
end
end
section
set_option linter.unusedSimpArgs false
open Go.RowKit Go.Maps
attribute [local irreducible] wpStill wpOne wpPh
structure KnI (G:GramD) (st:Int):Prop where
 r:G.rules.length≤300
 non: ∀s k,k∈ofOf G s→isNon G s=true
 short:ShortG G st
theorem KnI.of_check {G:GramD} {st:Int} (h:checkOf G st=0):KnI G st:=by
 obtain⟨hm,-,-,hk,-,-⟩:=checkOf_zero h
 obtain⟨-,-,h3,hsh⟩:=manyOf_no hm
 refine⟨h3,fun s k hs=> ?_,fun i=> ?_⟩
 ·obtain⟨n,x,-,hx⟩:=of_mem.1 hs
  unfold allKnown at hk
  rw [Bool.and_eq_true,List.all_eq_true]at hk
  have:=hk.2 _ (List.mem_of_getElem? hx)
  unfold knownOf at this
  rw [Bool.and_eq_true]at this
  exact this.1
 ·unfold shortOf at hsh
  rw [List.all_eq_true]at hsh
  unfold ruleOf
  split
  ·simp
  ·split
   ·simp
   ·cases e:G.rules[i.toNat]? with
    |none=>simp
    |some r=>have:=hsh r (List.mem_of_getElem? e);simp at this⊢;omega
section
variable {w : World} {F : Nat → Prop} {A1 : Option Addr} {c1 : Nat} {A2 : Option Addr} {c2 : Nat} {A3 : Option Addr} {c3 T N R : Nat} {st : Int} {G : GramD} {vl : Value} {l : List It}
end
end
end Go.Proofs.YtalbfonkhpeajaaGreat
namespace Go.Proofs.YtalbfonkhpeajaaGreat
set_option linter.unusedVariables false
section
set_option linter.unusedSimpArgs false
open Go.RowKit Go.Sort
attribute [local irreducible] wpStill wpOne wpPh
def SmI (x:It):Prop:=(0≤x.1∧x.1≤1000000)∧0≤x.2∧x.2≤1000000
abbrev ItS:={x:It//SmI x}
instance:Inhabited ItS:=⟨⟨(0,0),⟨by simp,by simp⟩,by simp,by simp⟩⟩
def cfS (x y:ItS):Int:=if x.1.1=y.1.1 then x.1.2 - y.1.2 else x.1.1 - y.1.1
theorem lt_cfS (x y:ItS):ltOf cfS x y=itLt x.1 y.1:=by
 unfold ltOf cfS
 rw [Bool.eq_iff_iff,decide_eq_true_eq,itLt_iff]
 split<;>omega
theorem swoS:SWO (ltOf cfS) where
 irrefl x:=by rw [lt_cfS];exact itLt_irr x.1
 trans x y z h1 h2:=by rw [lt_cfS]at *;exact itLt_trans h1 h2
 ntrans x y z h1 h2:=by rw [lt_cfS,itLt_not]at *;omega
theorem partS (x y:ItS) (h1:ltOf cfS x y=false) (h2:ltOf cfS y x=false):x=y:=by
 rw [lt_cfS]at *;exact Subtype.ext (itLt_tri h1 h2)
def encS (x:ItS):List Value:=encIt x.1
theorem flatS (ds:List ItS):flatK encS 2 ds.toArray=flatK encIt 2 (ds.map Subtype.val).toArray:=by
 apply Array.ext
 ·rw [size_flatK,size_flatK];simp
 ·intro t h1 h2
  rw [size_flatK]at h1 h2
  have hk:t/2<ds.length:=by simp at h1;omega
  have e1:=get_flatK encS 2 ds.toArray t h1
  have e2:=get_flatK encIt 2 (ds.map Subtype.val).toArray t h2
  have e3:ds.toArray[t/2]! =ds[t/2]:=by simp [hk]
  have e4:(ds.map Subtype.val).toArray[t/2]! =(ds[t/2]).1:=by simp [hk]
  rw [e3]at e1
  rw [e4]at e2
  have e5:=e1.trans e2.symm
  rw [getElem!_pos _ _ (by rw [size_flatK];exact h1),getElem!_pos _ _ (by rw [size_flatK];exact h2)]at e5
  exact e5
def smL (l:List It) (h: ∀x∈l,SmI x):List ItS:=l.attach.map fun x=>⟨x.1,h x.1 x.2⟩
theorem smL_val (l:List It) (h: ∀x∈l,SmI x):(smL l h).map Subtype.val=l:=by
 unfold smL
 rw [List.map_map]
 exact List.attach_map_subtype_val l
theorem smL_len (l:List It) (h: ∀x∈l,SmI x):(smL l h).length=l.length:=by unfold smL;simp
def sortS (l:List It) (h: ∀x∈l,SmI x):List It:=((smL l h).mergeSort fun x y=> !(ltOf cfS) y x).map Subtype.val
theorem sortS_mem {l:List It} {h: ∀x∈l,SmI x} {z:It}:z∈sortS l h↔z∈l:=by
 unfold sortS
 rw [List.mem_map]
 constructor
 ·rintro⟨x,hx,rfl⟩
  have:=(List.mergeSort_perm (smL l h) _).mem_iff.1 hx
  rw [←smL_val l h]
  exact List.mem_map.2 ⟨x,this,rfl⟩
 ·intro hz
  rw [←smL_val l h]at hz
  obtain⟨x,hx,rfl⟩:=List.mem_map.1 hz
  exact⟨x,(List.mergeSort_perm (smL l h) _).mem_iff.2 hx,rfl⟩
theorem sortS_length (l:List It) (h: ∀x∈l,SmI x):(sortS l h).length=l.length:=by
 unfold sortS
 rw [List.length_map,(List.mergeSort_perm (smL l h) _).length_eq,smL_len]
theorem sortS_weak (l:List It) (h: ∀x∈l,SmI x):WeakI (sortS l h):=by
 have:=List.pairwise_mergeSort (le:=fun x y:ItS=> !(ltOf cfS) y x) (fun a b c h1 h2=>by
  rw [Bool.not_eq_true',lt_cfS,itLt_not]at *;omega) (fun a b=>by
  rw [Bool.or_eq_true,Bool.not_eq_true',Bool.not_eq_true',lt_cfS,lt_cfS,itLt_not,itLt_not];omega) (smL l h)
 unfold sortS WeakI
 rw [List.pairwise_map]
 refine List.Pairwise.imp (fun{a b} h=> ?_) this
 rw [Bool.not_eq_true',lt_cfS]at h
 exact h
theorem sortS_canon (l:List It) (h: ∀x∈l,SmI x):compI (sortS l h)=canonI l:=comp_canon (sortS_weak l h) fun z=>sortS_mem
theorem neq_yes {a c:Int} (h:a=c):(a !=c)=false:=by subst h;simp
theorem neq_no {a c:Int} (h: ¬a=c):(a !=c)=true:=by simpa using h
set_option maxRecDepth 100000 in
set_option maxHeartbeats 2000000 in
theorem order_clo (x y:ItS) (W:World):Calls Tryz.prog 113 #[.agg (encS x).toArray,.agg (encS y).toArray] W fun e w'=>e= .returned (.int .i64 (cfS x y))∧ ∃q os',w'=grow (W.drewN q) os':=by
 obtain⟨⟨a,b⟩,hx1,hx2⟩:=x
 obtain⟨⟨c,d⟩,hy1,hy2⟩:=y
 obtain⟨r,hr⟩: ∃r,r=(if a=c then b - d else a - c):=⟨_,rfl⟩
 have hv:cfS ⟨(a,b),hx1,hx2⟩ ⟨(c,d),hy1,hy2⟩=r:=hr.symm
 rw [hv]
 obtain⟨w2,hw2,k1,k2,-⟩:=boxes_it (w:=W) a b c d
 have d0:=(k1.cell 0).trans rfl
 have d1:=(k1.cell 1).trans rfl
 have e0:=(k2.cell 0).trans rfl
 have e1:=(k2.cell 1).trans rfl
 simp only at hx1 hx2 hy1 hy2
 obtain⟨a1,a2⟩:=hx1
 obtain⟨b1,b2⟩:=hx2
 obtain⟨c1,c2⟩:=hy1
 obtain⟨d1',d2⟩:=hy2
 have hw: ∃q os',w2=grow (W.drewN q) os':=⟨0, #[.cells #[.int .i64 a,.int .i64 b] 86,.cells #[.int .i64 c,.int .i64 d] 86],by rw [hw2];rfl⟩
 have s1:IntKind.i64.wrap (a - c)=a - c:=by rw [IntKind.wrap_i64];omega
 have s2:IntKind.i64.wrap (b - d)=b - d:=by rw [IntKind.wrap_i64];omega
 rw [hw2]at d0 d1 e0 e1
 by_cases hac:a=c
 ·have hr':r=b - d:=by rw [hr,if_pos hac]
  have hne:=neq_yes hac
  clear hr hv k1 k2
  have Xhr':=hide hr';have Xhw:=hide hw;have Xhac:=hide hac;clear hr' hw hac
  show Calls Tryz.prog 113 #[.agg #[.int .i64 a,.int .i64 b],.agg #[.int .i64 c,.int .i64 d]] W _
  go_enter Tryz.func113,Tryz.ntmps113
  go_wp2_with fail
  go_ret
  rw [←hw2]
  exact⟨ret_int Xhr'.out.symm,Xhw.out⟩
 ·have hr':r=a - c:=by rw [hr,if_neg hac]
  have hne:=neq_no hac
  clear hr hv k1 k2
  have Xhr':=hide hr';have Xhw:=hide hw;have Xhac:=hide hac;clear hr' hw hac
  show Calls Tryz.prog 113 #[.agg #[.int .i64 a,.int .i64 b],.agg #[.int .i64 c,.int .i64 d]] W _
  go_enter Tryz.func113,Tryz.ntmps113
  go_wp2_with fail
  go_ret
  rw [←hw2]
  exact⟨ret_int Xhr'.out.symm,Xhw.out⟩
theorem sort_order (blk cap n:Nat) (l:List It) (h: ∀x∈l,SmI x) (w:World) (hH:HI w blk l) (hn:n=l.length) (hblk:blk<w.heap.size) (hsz:n<4611686018427387904):
  Calls Tryz.prog 112 #[.slice (some ⟨blk,0,none⟩) n cap,.func (.func 113) #[] #[]] w fun e w'=>e= .returned (.tuple #[])∧ ∃m os,w'=sortWorldK encIt 2 w blk 0 m (sortS l h).toArray os:=by
 have eg: ∀args w,(callFunc 113 args).run Tryz.prog w= .ok (.enter 113 args) w:=enters_of Tryz.func113 (by kernel_rfl) rfl
 have hS:HoldsK encS 2 w blk 0 (smL l h).toArray:=by
  unfold HoldsK
  rw [flatS,smL_val]
  exact hH.holds
 have hlen:(smL l h).toArray.size=n:=by rw [hn];simp [smL_len]
 have:=AnyQ.slices_SortFunc_total Tryz.sortIt 2 Tryz.isAgg86 Tryz.sizeOf86 encS (fun _=>rfl) (fun x v hv=>by simp [encS,encIt]at hv;rcases hv with rfl|rfl<;>rfl) cfS swoS 113 #[] blk 0 cap (smL l h).toArray w eg (fun _ _ _ _ x y=>order_clo x y _) hS hblk (by rw [hlen];exact hsz) partS
 rw [hlen]at this
 refine this.mono ?_
 rintro e w' ⟨he,m,os,hw⟩
 refine⟨he,m,os,hw.trans ?_⟩
 unfold sortWorldK putRowK
 rw [flatS]
 rfl
def OrderPost (w:World) (v:Value) (l:List It) (e:Ending) (w':World):Prop:= ∃A n c,e= .returned (.slice A n c)∧RdIt w' (fun b=>v.ownBlock=some b) (.slice A n c) (canonI l)∧Touch (fun b=>v.ownBlock=some b) w w'
set_option maxRecDepth 100000 in
set_option maxHeartbeats 2000000 in
theorem auto_order {w:World} {base:Nat} {v:Value} {n:Nat} {l:List It} (h:w.ownsRow base 86 2 v n (itCells l)) (hsm: ∀x∈l,SmI x) (hn:n=l.length) (hsz:n≤100000000):
  Calls Tryz.prog 87 #[v] w (OrderPost w v l):=by
 obtain⟨A,c,rfl,hnc,hcm⟩:=ownsRow_shape h
 unfold maxLen at hcm
 by_cases h0:n=0
 ·subst h0
  have hl:l=[]:=List.eq_nil_of_length_eq_zero hn.symm
  have cs:=sort_items_none A c (.func (.func 113) #[] #[]) w
  have cc:=compact_none A c w
  subst hl
  clear hn
  have Xcs:=hide cs;have Xcc:=hide cc;have Xh:=hide h;have Xhsm:=hide hsm;clear cs cc h hsm
  go_enter Tryz.func87,Tryz.ntmps87
  go_wp2_with fail
  refine Xcs.out.mono ?_
  rintro e w' ⟨rfl,rfl⟩
  go_wp2_with fail
  refine Xcc.out.mono ?_
  rintro e w' ⟨rfl,rfl⟩
  go_wp2_with fail
  go_ret
  exact⟨A,0,c,rfl,⟨A,0,c,rfl,Nat.zero_le _,by unfold maxLen;omega,rfl,fun h=>absurd h (by omega)⟩,Touch.refl _ _⟩
 ·have hg: ∃g,A=some ⟨g,0,none⟩:=by
   rcases h.2 with⟨h1,-⟩|⟨g',cap,cur,h1,-⟩
   ·injection h1 with _ h1 _;exact absurd h1 h0
   ·injection h1 with h1 _ _;exact⟨g',h1⟩
  obtain⟨g,rfl⟩:=hg
  have hgb:base≤g∧g<w.heap.size:=h.lt g rfl
  have hH:=HI.of_own h (by omega)
  have hs:=sortS_length l hsm
  have cs:=sort_order g c n l hsm w hH hn hgb.2 (by omega)
  have cc: ∀m os,Calls Tryz.prog 114 #[.slice (some ⟨g,0,none⟩) n c] (sortWorldK encIt 2 w g 0 m (sortS l hsm).toArray os) (CompPost (sortWorldK encIt 2 w g 0 m (sortS l hsm).toArray os) g c (canonI l)):=fun m os=>by
   have:=compact_items (n:=n) (HI.of_holds (holdsK_sortWorldK_c encIt 2 w g 0 l.toArray (sortS l hsm).toArray m os hH.holds hgb.2 (by simp [hs]))) (by rw [hs];exact hn) hnc hcm
   rw [sortS_canon]at this
   exact this
  have tt:=fun m os=>sort_touch w g m (sortS l hsm).toArray os
  have hnn:n=l.length:=hn
  generalize sortS l hsm=sl at *
  clear hn
  have Xcs:=hide cs;have Xcc:=hide cc;have Xtt:=hide tt;have Xh:=hide h;have XhH:=hide hH;have Xhs:=hide hs;have Xhnn:=hide hnn;have Xhsm:=hide hsm;clear cs cc tt h hH hs hnn hsm
  go_enter Tryz.func87,Tryz.ntmps87
  go_wp2_with fail
  refine Xcs.out.mono ?_
  rintro e w2 ⟨rfl,m,os,hw2⟩
  have cc2:=Xcc.out m os
  have tt2:=Xtt.out m os
  rw [←hw2]at cc2 tt2
  clear hw2
  have Xcc2:=hide cc2;have Xtt2:=hide tt2;clear cc2 tt2
  go_wp2_with fail
  refine Xcc2.out.mono ?_
  rintro e w3 ⟨rfl,h3,t3⟩
  have t4:=Xtt2.out.trans' t3
  have hlen:=canon_len l
  rw [←Xhnn.out]at hlen
  have Xh3:=hide h3;have Xt4:=hide t4;have Xt3:=hide t3;clear h3 t4 t3
  go_wp2_with fail
  go_ret
  exact⟨_,_,c,rfl,(HI.rd Xh3.out rfl (by omega) (by unfold maxLen;omega)).mono (fun b e=>by rw [e];rfl),Xt4.out.mono (fun b _ e=>by rw [e];rfl)⟩
end
section
set_option linter.unusedSimpArgs false
open Go.RowKit
attribute [local irreducible] wpStill wpOne wpPh
theorem Tryz.sizeBuilder:(Tryz.prog.info? 164).map (·.size)=some 2:=by kernel_rfl
theorem Tryz.liesBuilder:liesAt Tryz.prog Tryz.prog.depth 164 (2/Tryz.prog.cellsOf 164) 0 164 1=true:=by kernel_rfl
set_option maxHeartbeats 1000000 in
set_option maxRecDepth 100000 in
theorem check_used (b:Nat) (w:World) (h0:w.cell? ⟨b,0,none⟩=some (.pointer (some ⟨b,0,none⟩))):
  Calls Tryz.prog 130 #[.pointer (some ⟨b,0,none⟩)] w fun e w'=>e= .returned (.tuple #[])∧w'=w:=by
 obtain⟨j,hj,_⟩:=Option.map_eq_some_iff.1 Tryz.sizeBuilder
 have X:=hide hj
 clear hj
 go_enter Tryz.func130,Tryz.ntmps130
 go_wp2
 rw [Lib.run_neq_ptr_same w _ Tryz.underlying161 X.out]
 go_wp2
 go_end0
 exact⟨rfl,rfl⟩
set_option maxHeartbeats 1000000 in
set_option maxRecDepth 100000 in
theorem check_fresh (b:Nat) (w:World) (h0:w.cell? ⟨b,0,none⟩=some (.pointer none)) (hsh:w.shape? b=some (164,2)) (hfz:w.frozen? ⟨b,0,none⟩=false):
  Calls Tryz.prog 130 #[.pointer (some ⟨b,0,none⟩)] w fun e w'=>e= .returned (.tuple #[])∧w'=w.setCell ⟨b,0,none⟩ (.pointer (some ⟨b,0,none⟩)):=by
 obtain⟨j,hj,hjs⟩:=Option.map_eq_some_iff.1 Tryz.sizeBuilder
 have X:=hide hj
 have Y:=hide hjs
 have S:=hide hsh
 clear hj hjs hsh
 go_enter Tryz.func130,Tryz.ntmps130
 go_wp2
 rw [Lib.run_to_unsafe w ⟨b,0,none⟩ Tryz.underlying161 Tryz.underlying187 X.out (by rw [Y.out];decide) S.out (Nat.zero_lt_succ 1)]
 simp only [Result.andThen]
 rw [Oper.upon_value]
 go_wp2
 rw [run_callFunc_extern Tryz.func135 (by kernel_rfl) (by kernel_rfl) (by kernel_rfl) (e:=Extern.AbiNoEscape.same) (by kernel_rfl)]
 rw [Lib.run_noEscape]
 simp only [Result.andThen]
 rw [Oper.upon_value]
 go_wp2
 rw [Lib.run_from_unsafe w ⟨b,0,none⟩ Tryz.underlying187 Tryz.underlying161 X.out S.out Tryz.liesBuilder]
 simp only [Result.andThen]
 rw [Oper.upon_value]
 go_wp2
 go_end0
 exact⟨rfl,rfl⟩
theorem Tryz.infoByte:(Tryz.prog.info? 5).map (fun i=>(i.zero,i.size,i.bytes))=some (some (.int .u8 0),1,1):=by kernel_rfl
theorem Tryz.elemByte:Elem Tryz.prog 162 5 (.int .u8 0) 1 1:=⟨Tryz.underlying162,Tryz.infoByte,rfl,by decide⟩
set_option maxRecDepth 100000 in
theorem Tryz.extra:Builder.Extra Tryz.prog Tryz.bString_ren where
 sizeBuilder:=by kernel_rfl
 liesBuilder:=by kernel_rfl
 t5:=Tryz.underlying5
 a5:=Tryz.isAgg5
 z5:=Tryz.sizeOf5
 v5:=Tryz.zeroValue5
 infoByte:=Tryz.infoByte
 cellsByte:=by kernel_rfl
 sizeByte:=by kernel_rfl
 neB5:=by decide
theorem builder_string (B b:Nat) (l:List UInt8) (w:World) (h:Lib.IsBuilder 164 5 B b (Lib.byteCells l) w) (hB:B≤w.heap.size):
  Calls Tryz.prog 111 #[.pointer (some ⟨b,0,none⟩)] w fun e w'=>e= .returned (.string ⟨l.toArray⟩)∧Below B w w':=Any.Builder_String_any Tryz.bString Tryz.extra B b l w h hB
theorem check_any {B b:Nat} {bs:List Value} {w:World} (h:Lib.IsBuilder 164 5 B b bs w):
  Calls Tryz.prog 130 #[.pointer (some ⟨b,0,none⟩)] w fun e w'=>e= .returned (.tuple #[])∧Lib.BuilderAt 164 5 B b (.pointer (some ⟨b,0,none⟩)) bs w'∧Touch (fun k=>k=b) w w':=by
 rcases h with h|h
 ·refine(check_fresh b w h.cell0 h.shape h.frozen0).mono ?_
  rintro e w' ⟨rfl,rfl⟩
  exact⟨rfl,h.used _,(Touch.refl (fun k=>k=b) w).setCell (p:=⟨b,0,none⟩) (fun _=>rfl) _⟩
 ·refine(check_used b w h.cell0).mono ?_
  rintro e w' ⟨rfl,rfl⟩
  exact⟨rfl,h,Touch.refl _ _⟩
set_option maxHeartbeats 2000000 in
set_option maxRecDepth 100000 in
theorem builder_write {B b:Nat} {bs:List Value} {w:World} (h:Lib.IsBuilder 164 5 B b bs w) {F:Nat→Prop} {A:Option Addr} {m c:Nat} {news:List Value} (hr:Rd w F (.slice A m c) 1 news) (hF: ∀k,F k→k≠b) (h1: ∀u∈news,u.oneCell'=true)
  (hlen:bs.length≤100000000) (hm:m≤1000) (hB:B≤w.heap.size):
  Calls Tryz.prog 110 #[.pointer (some ⟨b,0,none⟩),.slice A m c] w fun e w'=>e= .returned (.tuple #[.int .i64 m,.nilIface])∧Lib.BuilderAt 164 5 B b (.pointer (some ⟨b,0,none⟩)) (bs++news) w'∧Below B w w':=by
 have cc:=check_any h
 have hbB:B≤b:=by rcases h with h|h<;>exact h.1
 have Xcc:=hide cc;have Xhr:=hide hr;have XhF:=hide hF;have Xh1:=hide h1;clear cc hr hF h1;clear h
 go_enter Tryz.func110,Tryz.ntmps110
 go_wp2_with fail
 refine Xcc.out.mono ?_
 rintro e w2 ⟨rfl,hbd,t2⟩
 obtain⟨-,v,hblk,hown,hne⟩:=hbd
 have k2:Blk w2 b 164 #[.pointer (some ⟨b,0,none⟩),v]:=hblk
 have hr2:=Xhr.out.touch t2 (fun k hk e=>XhF.out k hk e)
 have d1:=(k2.cell 1).trans rfl
 have hmn:news.length=m * 1:=by
  obtain⟨A',n',c',hv,-,-,hl,-⟩:=hr2
  injection hv with _ e2 _
  rw [hl,e2]
 have hB2:B≤w2.heap.size:=Nat.le_trans hB t2.size
 clear hblk Xcc
 have Xk2:=hide k2;have Xhr2:=hide hr2;have Xhown:=hide hown;have Xhne:=hide hne;have Xt2:=hide t2;have Xhmn:=hide hmn;clear k2 hr2 hown hne t2 hmn
 go_wp2_with (at_builtin;refine wp_append _ rfl (.tmp 12) (.tmp 13) _ rfl Tryz.elemByte B _ bs.length bs rfl Xhown.out _ _ news m rfl Xhmn.out Xhr2.out Xh1.out (by unfold maxLen;omega) (by omega) hB2 ?_)
 intro A8 c8 w8 own8 g8 hb8
 have k8:=Xk2.out.grown g8 (fun e=>Xhne.out e.symm)
 have b8:Below B w w8:=(Xt2.out.below (fun i hi _ e=>by omega) hB).trans ((Touch.refl (fun k=>v.ownBlock=some k) w2).grown g8 (fun k e _=>e)|>.below (fun i hi _ e=>by have:=(Xhown.out.lt i e).1;omega) hB2)
 have hne8:(Value.slice A8 (bs.length+m) c8).ownBlock≠some b:=fun e=>by
  rcases hb8 with e8|e8
  ·exact Xhne.out (e8▸e)
  ·rw [e8]at e
   injection e with e
   have:=Xk2.out.lt
   omega
 have d1:=(k8.cell 1).trans rfl
 have z1:=k8.frozen 1
 have k9:=k8.put 1 (.slice A8 (bs.length+m) c8)
 have own9:=own_far own8 (p:=⟨b,1,none⟩) hne8 (.slice A8 (bs.length+m) c8)
 have b9:=b8.setCell (p:=⟨b,1,none⟩) hbB (.slice A8 (bs.length+m) c8)
 have hlb:bs.length+m=(bs++news).length:=by have:=Xhmn.out;rw [List.length_append];omega
 clear own8 g8 hb8 b8 Xhown Xhr2 Xk2
 have Xk8:=hide k8;have Xk9:=hide k9;have Xown9:=hide own9;have Xb9:=hide b9;have Xhlb:=hide hlb;have Xhne8:=hide hne8;clear k8 k9 own9 b9 hlb hne8
 go_wp2_with fail
 go_ret2
 refine⟨rfl,⟨hbB,_,Xk9.out,?_,?_⟩,Xb9.out⟩
 ·rw [←Xhlb.out];exact Xown9.out
 ·exact Xhne8.out
def byteI (n:Int):UInt8:=UInt8.ofNat (n%256).toNat
def keyL (l:List It):List UInt8:=l.flatMap fun x=>[byteI (x.1/256),byteI x.1,byteI x.2]
theorem keyL_snoc (l:List It) (x:It):keyL (l++[x])=keyL l++[byteI (x.1/256),byteI x.1,byteI x.2]:=by unfold keyL;simp
theorem keyL_len (l:List It):(keyL l).length=l.length * 3:=by
 unfold keyL
 induction l with
 |nil=>rfl
 |cons x r ih=>rw [List.flatMap_cons,List.length_append,ih];simp;omega
def ByI (x:It):Prop:=(0≤x.1∧x.1≤60000)∧0≤x.2∧x.2≤255
theorem byteI_inj {a b:Int} (ha:0≤a∧a≤255) (hb:0≤b∧b≤255) (h:byteI a=byteI b):a=b:=by
 unfold byteI at h
 have:=congrArg UInt8.toNat h
 simp at this
 omega
theorem byteI_two {a b:Int} (ha:0≤a∧a≤60000) (hb:0≤b∧b≤60000) (h1:byteI (a/256)=byteI (b/256)) (h2:byteI a=byteI b):a=b:=by
 have e1:=byteI_inj (by omega) (by omega) h1
 unfold byteI at h2
 have:=congrArg UInt8.toNat h2
 simp at this
 omega
theorem keyL_inj: ∀{l l':List It},(∀x∈l,ByI x)→(∀x∈l',ByI x)→keyL l=keyL l'→l=l'
 |[],[],_,_,_=>rfl
 |[],y::r,_,_,h=>by have:=congrArg List.length h;rw [keyL_len,keyL_len]at this;simp at this
 |x::r,[],_,_,h=>by have:=congrArg List.length h;rw [keyL_len,keyL_len]at this;simp at this
 |x::r,y::t,hx,hy,h=>by
  have e:keyL (x::r)=byteI (x.1/256)::byteI x.1::byteI x.2::keyL r:=rfl
  have e':keyL (y::t)=byteI (y.1/256)::byteI y.1::byteI y.2::keyL t:=rfl
  rw [e,e']at h
  injection h with h1 h
  injection h with h2 h
  injection h with h3 h
  obtain⟨x1,x2⟩:=hx x (by simp)
  obtain⟨y1,y2⟩:=hy y (by simp)
  rw [keyL_inj (fun z hz=>hx z (by simp [hz])) (fun z hz=>hy z (by simp [hz])) h]
  congr 1
  exact Prod.ext (byteI_two x1 y1 h1 h2) (byteI_inj x2 y2 h3)
def keyB (l:List It):ByteArray:=⟨(keyL l).toArray⟩
theorem byteI_val (a:Int):((byteI a).toNat:Int)=a%256:=by
 unfold byteI
 simp
 omega
theorem builder_below {T e:TypeId} {B b:Nat} {bs:List Value} {w w':World} (h:Lib.IsBuilder T e B b bs w) (hb:Below w.heap.size w w'):Lib.IsBuilder T e B b bs w':=by
 have key: ∀p,Lib.BuilderAt T e B b p bs w→Lib.BuilderAt T e B b p bs w':=fun p ⟨h1,v,h2,h3,h4⟩=>⟨h1,v,(hb.block b (Array.getElem?_eq_some_iff.1 h2).1).trans h2,own_below' h3 hb,h4⟩
 exact h.imp (key _) (key _)
set_option maxRecDepth 100000 in
set_option maxHeartbeats 2000000 in
theorem auto_key {w:World} {F:Nat→Prop} {v:Value} {l:List It} (h:RdIt w F v l) (hF: ∀b,F b→b<w.heap.size) (hl:l.length≤1000000) (hby: ∀x∈l,ByI x):
  Calls Tryz.prog 84 #[v] w (Quiet w (.string (keyB l))):=by
 obtain⟨A,n,c,rfl,-⟩:=id h
 obtain⟨hn,hnc,hcm,-⟩:=RdIt.at_ h
 unfold maxLen at hcm
 have hfr:=Lib.fresh_isBuilder 164 5 w
 have b1:Below w.heap.size w (w.alloc (.cells #[.pointer none,.slice none 0 0] 164)):=(Below.refl _ _).alloc (Nat.le_refl _) _
 rw [←hn]at hl
 have Xh:=hide h;have XhF:=hide hF;have Xhby:=hide hby;have Xhn:=hide hn;have Xhfr:=hide hfr;have Xb1:=hide b1;clear h hF hby hn hfr b1
 go_enter Tryz.func84,Tryz.ntmps84
 go_wp2_with fail
 go_loopw [8] (fun i wr=> ∃(k:Nat),k≤n∧i= .int .i64 k∧Lib.IsBuilder 164 5 w.heap.size w.heap.size (Lib.byteCells (keyL (l.take k))) wr∧Below w.heap.size w wr) (fun i _=>n - (intOf i).toNat)
 case atStart=>exact⟨0,Nat.zero_le _,rfl,Xhfr.out,Xb1.out⟩
 case round=>
  clear Xhfr Xb1
  obtain⟨k,hk,rfl,bd,le⟩:=hrel
  by_cases hlt:k<n
  ·have hlt':(k:Int)<(n:Int):=by omega
   obtain⟨-,-,-,hcell⟩:=RdIt.at_ (Xh.out.below le XhF.out)
   obtain⟨b,off,rfl,hb,hcc⟩:=hcell (by omega)
   obtain⟨x,hx⟩: ∃x,l[k]? =some x:=⟨_,List.getElem?_eq_getElem (by rw [←Xhn.out];exact hlt)⟩
   obtain⟨p0,p1⟩:=hcc k x hx
   obtain⟨⟨x1,x2⟩,x3,x4⟩:=Xhby.out x (List.mem_of_getElem? hx)
   obtain⟨x0,y0⟩:=x
   simp only at p0 p1 x1 x2 x3 x4
   clear hcell hcc
   have Xbd:=hide bd;have Xle:=hide le;have Xhx:=hide hx;have Xhb:=hide hb;clear bd le hx hb
   go_wp2_with fail
   obtain⟨wb,hwb⟩: ∃q,q=wr.alloc (.cells #[.int .i64 x0,.int .i64 y0] 86):=⟨_,rfl⟩
   obtain⟨wc,hwc⟩: ∃q,q=wb.alloc (.cells #[.int .u8 (x0/256),.int .u8 (x0%256),.int .u8 y0] 5):=⟨_,rfl⟩
   have bb:Below wr.heap.size wr wb:=by rw [hwb];exact(Below.refl _ _).alloc (Nat.le_refl _) _
   have bc:Below wb.heap.size wb wc:=by rw [hwc];exact(Below.refl _ _).alloc (Nat.le_refl _) _
   have bbc:=bb.trans (bc.mono bb.size)
   have hsz:wb.heap.size=wr.heap.size+1:=by rw [hwb];simp
   have hcl:([.int .u8 (x0/256),.int .u8 (x0%256),.int .u8 y0]:List Value)=Lib.byteCells [byteI (x0/256),byteI x0,byteI y0]:=by
    unfold Lib.byteCells
    simp only [List.map_cons,List.map_nil,byteI_val]
    rw [show x0/256%256=x0/256 by omega,show y0%256=y0 by omega]
   have hrd:Rd wc (fun q=>q=wr.heap.size+1) (.slice (some ⟨wr.heap.size+1,0,none⟩) 3 3) 1 (Lib.byteCells [byteI (x0/256),byteI x0,byteI y0]):=by
    rw [←hcl,hwc,←hsz]
    exact⟨_,3,3,rfl,Nat.le_refl _,by decide,rfl,fun _=>⟨_,0,rfl,rfl,fun j u hu=>by rw [(Blk.new wb 5 #[.int .u8 (x0/256),.int .u8 (x0%256),.int .u8 y0]).cell];simpa using hu⟩⟩
   have bdc:=builder_below Xbd.out bbc
   have hwl:w.heap.size<wr.heap.size:=by rcases Xbd.out with h|h<;>exact h.lt
   have lec:=Xle.out.trans (bbc.mono Xle.out.size)
   have cw:=builder_write (m:=3) bdc hrd (fun q e=>by omega) (fun u hu=>by
    rw [←hcl]at hu
    simp only [List.mem_cons,List.not_mem_nil,or_false]at hu
    rcases hu with rfl|rfl|rfl<;>rfl) (by rw [Lib.byteCells_length,keyL_len,List.length_take];omega) (by omega) lec.size
   have hnx:Lib.byteCells (keyL (l.take k))++Lib.byteCells [byteI (x0/256),byteI x0,byteI y0]=Lib.byteCells (keyL (l.take (k+1))):=by
    rw [take_snoc Xhx.out,keyL_snoc]
    unfold Lib.byteCells
    rw [List.map_append]
   rw [hnx]at cw
   rw [←hwb,←hwc]
   clear hnx hcl hrd bdc bb bc bbc hsz hwb hwc p0 p1 Xle Xbd
   have Xcw:=hide cw;have Xlec:=hide lec;clear cw lec
   refine Xcw.out.mono ?_
   rintro e w8 ⟨rfl,b8,l8⟩
   have le8:=Xlec.out.trans l8
   clear Xcw l8
   have Xb8:=hide b8;have Xle8:=hide le8;clear b8 le8
   go_wp2_with fail
   go_roundw
   case rel=>exact⟨k+1,by omega,by go_num,.inr Xb8.out,Xle8.out⟩
   case measure=>simp [intOf];omega
  ·have hlt': ¬(k:Int)<(n:Int):=by omega
   have hkl:l.take k=l:=List.take_of_length_le (by have:=Xhn.out;omega)
   rw [hkl]at bd
   have cs:=builder_string _ _ _ _ bd le.size
   clear hkl
   have Xbd:=hide bd;have Xle:=hide le;have Xcs:=hide cs;clear bd le cs
   go_wp2_with fail
   refine Xcs.out.mono ?_
   rintro e w8 ⟨rfl,l8⟩
   have le8:=Xle.out.trans l8
   clear Xcs l8
   have Xle8:=hide le8;clear le8
   go_wp2_with fail
   go_ret
   exact⟨rfl,Xle8.out⟩
end
end Go.Proofs.YtalbfonkhpeajaaGreat

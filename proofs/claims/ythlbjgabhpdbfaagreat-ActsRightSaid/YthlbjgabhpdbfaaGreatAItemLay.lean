/- The shelf's layings of slices.SortFunc at items and of cmp.Compare at int, in plain words. -/
import Derived.Shelf.SlSortCmp.NoneTotal
import Derived.Shelf.SlicesG.Cmp
import Derived.Test.YthlbjgabhpdbfaaGreatProg
import Derived.Shelf.Strings.Builder1
import Derived.Test.YthlbjgabhpdbfaaGreatAG7
import Derived.Test.YthlbjgabhpdbfaaGreatAFirstPlain
import Derived.Deep.Cut
import Derived.DeepKeys4
import Derived.Maps.OwnOps
namespace Go.Proofs.YthlbjgabhpdbfaaGreat
set_option linter.unusedVariables false
section
open Go.Shelf
def Tryz.sortIt_ren:Go.Shelf.Ren:=⟨fun|6=>213|15=>248|14=>247|28=>268|29=>269|20=>260|21=>261|22=>262|23=>263|24=>264|25=>265|26=>266|27=>267|46=>276|47=>277|48=>278|49=>279|50=>280|57=>281|n=>n,fun|22=>109|24=>226|25=>266|3=>3|39=>231|0=>0|53=>338|55=>282|4=>4|46=>332|45=>331|50=>129|5=>5|9=>9|66=>341|70=>345|76=>347|77=>348|n=>n,fun|n=>n⟩
theorem Tryz.sortIt:Go.Proofs.SlLaysF0.n6 Tryz.prog Tryz.sortIt_ren:={
 mixed:=by kernel_rfl
 f6:=⟨Tryz.f213.name,by decide,Tryz.func213.trans (congrArg some (by kernel_rfl))⟩
 f14:=⟨Tryz.f247.name,by decide,Tryz.func247.trans (congrArg some (by kernel_rfl))⟩
 f15:=Tryz.func248.trans (congrArg some (by kernel_rfl))
 f20:=⟨Tryz.f260.name,by decide,Tryz.func260.trans (congrArg some (by kernel_rfl))⟩
 f21:=⟨Tryz.f261.name,by decide,Tryz.func261.trans (congrArg some (by kernel_rfl))⟩
 f22:=⟨Tryz.f262.name,by decide,Tryz.func262.trans (congrArg some (by kernel_rfl))⟩
 f23:=⟨Tryz.f263.name,by decide,Tryz.func263.trans (congrArg some (by kernel_rfl))⟩
 f24:=⟨Tryz.f264.name,by decide,Tryz.func264.trans (congrArg some (by kernel_rfl))⟩
 f25:=⟨Tryz.f265.name,by decide,Tryz.func265.trans (congrArg some (by kernel_rfl))⟩
 f26:=⟨Tryz.f266.name,by decide,Tryz.func266.trans (congrArg some (by kernel_rfl))⟩
 f27:=⟨Tryz.f267.name,by decide,Tryz.func267.trans (congrArg some (by kernel_rfl))⟩
 f28:=Tryz.func268.trans (congrArg some (by kernel_rfl))
 f29:=Tryz.func269.trans (congrArg some (by kernel_rfl))
 f46:=⟨Tryz.f276.name,by decide,Tryz.func276.trans (congrArg some (by kernel_rfl))⟩
 f47:=Tryz.func277.trans (congrArg some (by kernel_rfl))
 f48:=Tryz.func278.trans (congrArg some (by kernel_rfl))
 f49:=⟨Tryz.f279.name,by decide,Tryz.func279.trans (congrArg some (by kernel_rfl))⟩
 f50:=⟨Tryz.f280.name,by decide,Tryz.func280.trans (congrArg some (by kernel_rfl))⟩
 f57:=⟨Tryz.f281.name,by decide,Tryz.func281.trans (congrArg some (by kernel_rfl))⟩
 t0:=Tryz.underlying0
 a0:=Tryz.isAgg0
 z0:=Tryz.sizeOf0
 v0:=Tryz.zeroValue0
 t3:=Tryz.underlying3
 a3:=Tryz.isAgg3
 z3:=Tryz.sizeOf3
 v3:=Tryz.zeroValue3
 t4:=Tryz.underlying4
 a4:=Tryz.isAgg4
 z4:=Tryz.sizeOf4
 v4:=Tryz.zeroValue4
 t5:=Tryz.underlying5
 a5:=Tryz.isAgg5
 z5:=Tryz.sizeOf5
 v5:=Tryz.zeroValue5
 t9:=Tryz.underlying9
 a9:=Tryz.isAgg9
 z9:=Tryz.sizeOf9
 v9:=Tryz.zeroValue9
 t22:=Tryz.underlying109
 a22:=Tryz.isAgg109
 z22:=Tryz.sizeOf109
 v22:=Tryz.zeroValue109
 t25:=Tryz.underlying266
 a25:=Tryz.isAgg266
 z25:=Tryz.sizeOf266
 v25:=Tryz.zeroValue266
 t39:=Tryz.underlying231
 a39:=Tryz.isAgg231
 z39:=Tryz.sizeOf231
 v39:=Tryz.zeroValue231
 t45:=Tryz.underlying331
 a45:=Tryz.isAgg331
 z45:=Tryz.sizeOf331
 v45:=Tryz.zeroValue331
 t46:=Tryz.underlying332
 a46:=Tryz.isAgg332
 z46:=Tryz.sizeOf332
 v46:=Tryz.zeroValue332
 t50:=Tryz.underlying129
 a50:=Tryz.isAgg129
 z50:=Tryz.sizeOf129
 v50:=Tryz.zeroValue129
 t53:=Tryz.underlying338
 a53:=Tryz.isAgg338
 z53:=Tryz.sizeOf338
 v53:=Tryz.zeroValue338
 t55:=Tryz.underlying282
 a55:=Tryz.isAgg282
 z55:=Tryz.sizeOf282
 v55:=Tryz.zeroValue282
 t66:=Tryz.underlying341
 a66:=Tryz.isAgg341
 z66:=Tryz.sizeOf341
 v66:=Tryz.zeroValue341
 t70:=Tryz.underlying345
 a70:=Tryz.isAgg345
 z70:=Tryz.sizeOf345
 v70:=Tryz.zeroValue345
 t76:=Tryz.underlying347
 a76:=Tryz.isAgg347
 z76:=Tryz.sizeOf347
 v76:=Tryz.zeroValue347
 t77:=Tryz.underlying348
 a77:=Tryz.isAgg348
 z77:=Tryz.sizeOf348
 v77:=Tryz.zeroValue348}
end
section
open Go.Shelf
def Tryz.bString_ren:Go.Shelf.Ren:=⟨fun|169=>123|n=>n,fun|70=>183|9=>9|0=>0|72=>185|37=>74|127=>240|3=>3|5=>5|n=>n,fun|n=>n⟩
theorem Tryz.bString:Go.Proofs.Lays.n169 Tryz.prog Tryz.bString_ren:={
 mixed:=by kernel_rfl
 f169:=Tryz.func123.trans (congrArg some (by kernel_rfl))
 t0:=Tryz.underlying0
 a0:=Tryz.isAgg0
 z0:=Tryz.sizeOf0
 v0:=Tryz.zeroValue0
 t3:=Tryz.underlying3
 a3:=Tryz.isAgg3
 z3:=Tryz.sizeOf3
 v3:=Tryz.zeroValue3
 t9:=Tryz.underlying9
 a9:=Tryz.isAgg9
 z9:=Tryz.sizeOf9
 v9:=Tryz.zeroValue9
 t37:=Tryz.underlying74
 a37:=Tryz.isAgg74
 z37:=Tryz.sizeOf74
 v37:=Tryz.zeroValue74
 t70:=Tryz.underlying183
 a70:=Tryz.isAgg183
 z70:=Tryz.sizeOf183
 v70:=Tryz.zeroValue183
 t72:=Tryz.underlying185
 a72:=Tryz.isAgg185
 z72:=Tryz.sizeOf185
 v72:=Tryz.zeroValue185
 t127:=Tryz.underlying240
 a127:=Tryz.isAgg240
 z127:=Tryz.sizeOf240
 v127:=Tryz.zeroValue240}
end
section
open Go.Shelf
end
section
open Go.RowKit
theorem Rd.of_blk {w:World} {F:Nat->Prop} {g n size:Nat} {t:TypeId} {us:List Value} (hk:Blk w g t us.toArray) (hF:F g) (hl:us.length=n * size) (hm:n<=maxLen):Rd w F (.slice (some ⟨g,0,none⟩) n n) size us:=
 ⟨_,n,n,rfl,Nat.le_refl _,hm,hl,fun _=>⟨g,0,rfl,hF,fun j u hu=>by rw [hk.cell];simpa using hu⟩⟩
theorem flat_two {X:Type} {f:X->Value×Value}: ∀(l:List X) (i:Nat) (p:X),l[i]? =some p->(l.flatMap (fun p=>[(f p).1,(f p).2]))[i * 2]? =some (f p).1/\(l.flatMap (fun p=>[(f p).1,(f p).2]))[i * 2+1]? =some (f p).2
 |a::r,0,p,h=>by
  simp at h
  subst h
  simp
 |a::r,i+1,p,h=>by
  have:=flat_two (f:=f) r i p (by simpa using h)
  simp only [List.flatMap_cons]
  rw [show(i+1) * 2=i * 2+2 by omega]
  exact this
theorem RdR.of_blk {w:World} {F:Nat->Prop} {g:Nat} {t:TypeId} (rvs:List ((Int×List Int)×Value)) (hk:Blk w g t (rvs.flatMap (fun p=>[Value.int .i64 p.1.1,p.2])).toArray) (hF:F g) (h: ∀p∈rvs,RdI w F p.2 p.1.2) (hl:rvs.length<=maxLen):
  RdR w F (.slice (some ⟨g,0,none⟩) rvs.length rvs.length) (rvs.map (·.1)):=by
 refine⟨some ⟨g,0,none⟩,rvs.length,by rw [List.length_map],by rw [List.length_map];exact Nat.le_refl _,hl,fun hn=>⟨g,0,rfl,hF,fun i x hx=> ?_⟩⟩
 rw [List.getElem?_map]at hx
 obtain⟨p,hp,rfl⟩:=Option.map_eq_some_iff.1 hx
 have hc:=flat_two (f:=fun p:(Int×List Int)×Value=>(Value.int .i64 p.1.1,p.2)) rvs i p hp
 refine⟨[Value.int .i64 p.1.1,p.2],rfl,⟨p.2,rfl,h p (List.mem_of_getElem? hp)⟩,fun j u hu=> ?_⟩
 rw [hk.cell]
 have hj:=(List.getElem?_eq_some_iff.1 hu).1
 simp only [List.length_cons,List.length_nil]at hj
 have hj2:j=0\/j=1:=by omega
 rcases hj2 with rfl|rfl
 ·simp at hu;subst hu;simpa using hc.1
 ·simp at hu;subst hu;simpa using hc.2
end
section
open Go.RowKit
theorem Tryz.infoRule:(Tryz.prog.info? 98).map (fun i=>(i.zero,i.size,i.bytes))=some (some (.agg #[.int .i64 0,.slice none 0 0]),2,32):=by kernel_rfl
theorem Tryz.elemRule:Elem Tryz.prog 23 98 (.agg #[.int .i64 0,.slice none 0 0]) 2 32:=⟨Tryz.underlying23,Tryz.infoRule,rfl,by decide⟩
theorem own_below {w w':World} {base:Nat} {e:TypeId} {size n:Nat} {v:Value} {xs:List Value} (h:w.ownsRow base e size v n xs) {z:Nat} (hb:Below z w w') (hz: ∀k,v.ownBlock=some k->k<z):w'.ownsRow base e size v n xs:=
 (Touch.of_below hb).own h fun k hk hz'=>by have:=hz k hk;omega
theorem own_below' {w w':World} {base:Nat} {e:TypeId} {size n:Nat} {v:Value} {xs:List Value} (h:w.ownsRow base e size v n xs) (hb:Below w.heap.size w w'):w'.ownsRow base e size v n xs:=
 own_below h hb fun k hk=>(h.lt k hk).2
theorem own_far {w:World} {base:Nat} {e:TypeId} {size n:Nat} {v:Value} {xs:List Value} (h:w.ownsRow base e size v n xs) {p:Addr} (hp:v.ownBlock≠some p.block) (u:Value):(w.setCell p u).ownsRow base e size v n xs:=
 ((Touch.refl (fun k=>k=p.block) w).setCell (fun _=>rfl) u).own h fun k hk e=>hp (by rw [hk,e])
section
variable {w w' w2 : World} {base B : Nat} {vt vn vr v : Value} {st : Int} {ts ns : List ByteArray} {rvs : List ((Int × List Int) × Value)}
end
end
section
set_option linter.unusedSimpArgs false
open Go.RowKit
attribute [local irreducible] wpStill wpOne wpPh
theorem Tryz.infoItem:(Tryz.prog.info? 226).map (fun i=>(i.zero,i.size,i.bytes))=some (some (.agg #[.int .i64 0,.int .i64 0]),2,16):=by kernel_rfl
theorem Tryz.elemItem:Elem Tryz.prog 109 226 (.agg #[.int .i64 0,.int .i64 0]) 2 16:=⟨Tryz.underlying109,Tryz.infoItem,rfl,by decide⟩
theorem own_alloc {w:World} {base:Nat} {e:TypeId} {size n:Nat} {v:Value} {xs:List Value} (h:w.ownsRow base e size v n xs) (o:Obj):(w.alloc o).ownsRow base e size v n xs:=own_below' h ((Below.refl _ w).alloc (Nat.le_refl _) o)
end
section
set_option linter.unusedSimpArgs false
open Go.RowKit
attribute [local irreducible] wpStill wpOne wpPh
section
variable {w wr wr' : World} {F : Nat -> Prop} {A1 : Option Addr} {c1 : Nat} {A2 : Option Addr} {c2 : Nat} {A3 : Option Addr} {c3 T N R : Nat} {st : Int} {G : GramD} {v : Value} {l : List It} {u : Value} {o : List It}
end
end
section
set_option linter.unusedSimpArgs false
open Go.RowKit
attribute [local irreducible] wpStill wpOne wpPh
end
section
set_option linter.unusedSimpArgs false
open Go.RowKit Go.Shelf Go.Lib Go.Sort
attribute [local irreducible] wpStill wpOne wpPh
def encIt (x:It):List Value:=[.int .i64 x.1,.int .i64 x.2]
theorem sort_items_none (p:Option Addr) (cap:Nat) (fv:Value) (w:World):Calls Tryz.prog 213 #[.slice p 0 cap,fv] w fun e w'=>e= .returned (.tuple #[])/\w'=w:=
 AnyF.slices_SortFunc_none Tryz.sortIt p cap fv w
end
section
set_option linter.unusedSimpArgs false
open Go.RowKit Go.Shelf Go.Lib Go.Sort
attribute [local irreducible] wpStill wpOne wpPh
def HI (w:World) (g:Nat) (l:List It):Prop:= ∀(k:Nat) (x:It),l[k]? =some x->(w.cell? ⟨g,k * 2,none⟩=some (.int .i64 x.1)/\w.frozen? ⟨g,k * 2,none⟩=false)/\(w.cell? ⟨g,k * 2+1,none⟩=some (.int .i64 x.2)/\w.frozen? ⟨g,k * 2+1,none⟩=false)
theorem HI.drewN {w:World} {g:Nat} {l:List It} (h:HI w g l) (q:Nat):HI (w.drewN q) g l:=h
theorem HI.set {w:World} {g:Nat} {l:List It} (h:HI w g l) {k:Nat} (hk:k<l.length) (x:It):HI ((w.setCell ⟨g,k * 2,none⟩ (.int .i64 x.1)).setCell ⟨g,k * 2+1,none⟩ (.int .i64 x.2)) g (l.set k x):=by
 intro j y hy
 have hj:j<l.length:=by have:=(List.getElem?_eq_some_iff.1 hy).1;simpa using this
 obtain⟨⟨a1,a2⟩,a3,a4⟩:=h j l[j] (List.getElem?_eq_getElem hj)
 rw [World.frozen?_setCell,World.frozen?_setCell,World.frozen?_setCell,World.frozen?_setCell]
 refine⟨⟨?_,a2⟩,?_,a4⟩
 ·by_cases e:j=k
  ·subst e
   rw [List.getElem?_set_self hj]at hy
   injection hy with hy
   subst hy
   rw [World.cell?_setCell_other _ _ _ _ (fun ea=>by injection ea with _ ea;omega),World.cell?_setCell_same' _ _ _ (by rw [a1];rfl)]
  ·rw [List.getElem?_set_ne (fun e'=>e e'.symm),List.getElem?_eq_getElem hj]at hy
   injection hy with hy
   subst hy
   rw [World.cell?_setCell_other _ _ _ _ (fun ea=>by injection ea with _ ea;omega),World.cell?_setCell_other _ _ _ _ (fun ea=>by injection ea with _ ea;omega)]
   exact a1
 ·by_cases e:j=k
  ·subst e
   rw [List.getElem?_set_self hj]at hy
   injection hy with hy
   subst hy
   refine World.cell?_setCell_same' _ _ _ ?_
   rw [World.cell?_setCell_other _ _ _ _ (fun ea=>by injection ea with _ ea;omega),a3];rfl
  ·rw [List.getElem?_set_ne (fun e'=>e e'.symm),List.getElem?_eq_getElem hj]at hy
   injection hy with hy
   subst hy
   rw [World.cell?_setCell_other _ _ _ _ (fun ea=>by injection ea with _ ea;omega),World.cell?_setCell_other _ _ _ _ (fun ea=>by injection ea with _ ea;omega)]
   exact a3
theorem HI.holds {w:World} {g:Nat} {l:List It} (h:HI w g l):HoldsK encIt 2 w g 0 l.toArray:=by
 intro t ht
 rw [size_flatK]at ht
 rw [get_flatK _ _ _ _ ht,Nat.zero_add]
 have hk:t/2<l.length:=by simp at ht;omega
 obtain⟨⟨a1,a2⟩,a3,a4⟩:=h (t/2) l[t/2] (List.getElem?_eq_getElem hk)
 have e:l.toArray[t/2]! =l[t/2]:=by simp [hk]
 rw [e]
 rcases Nat.mod_two_eq_zero_or_one t with h0|h1
 ·rw [h0]
  have ht2:t=t/2 * 2:=by omega
  have e1:(⟨g,t,none⟩:Addr)=⟨g,t/2 * 2,none⟩:=by rw [<-ht2]
  rw [e1];exact⟨a1,a2⟩
 ·rw [h1]
  have ht2:t=t/2 * 2+1:=by omega
  have e1:(⟨g,t,none⟩:Addr)=⟨g,t/2 * 2+1,none⟩:=by rw [<-ht2]
  rw [e1];exact⟨a3,a4⟩
theorem HI.of_holds {w:World} {g:Nat} {l:List It} (h:HoldsK encIt 2 w g 0 l.toArray):HI w g l:=by
 intro k x hx
 have hk:=(List.getElem?_eq_some_iff.1 hx).1
 have e:l.toArray[k]! =x:=by
  rw [List.getElem?_eq_getElem hk]at hx;injection hx with hx;simp [hk,hx]
 have h0:=HoldsK.cell h (i:=k) (c:=0) (by simpa using hk) (by omega)
 have h1:=HoldsK.cell h (i:=k) (c:=1) (by simpa using hk) (by omega)
 rw [e,Nat.zero_add]at h0 h1
 exact⟨h0,h1⟩
theorem HI.of_own {w:World} {base:Nat} {e:TypeId} {n g c:Nat} {l:List It} (h:w.ownsRow base e 2 (.slice (some ⟨g,0,none⟩) n c) n (itCells l)) (hl:0<l.length):HI w g l:=by
 have hlen:=h.1
 rw [itCells_length]at hlen
 rcases h.2 with⟨h1,-⟩|⟨g',cap,cur,h1,hb,hh,hn,hc,hz,ht⟩
 ·cases h1
 ·injection h1 with h1 _ _
  injection h1 with h1
  injection h1 with h1 _ _
  subst h1
  have key: ∀j u,(itCells l)[j]? =some u->w.cell? ⟨g,j,none⟩=some u/\w.frozen? ⟨g,j,none⟩=false:=fun j u hu=>by
   constructor
   ·rw [cell_of_row w g j cur e (0,0) hh]
    rw [<-ht,List.getElem?_take]at hu
    split at hu
    ·simpa using hu
    ·cases hu
   ·unfold World.frozen?
    rw [hh]
    simp
  intro k x hx
  obtain⟨k1,k2⟩:=itCells_get hx
  exact⟨key _ _ k1,key _ _ k2⟩
theorem HI.rd {w:World} {g n c:Nat} {l:List It} (h:HI w g l) (hn:n=l.length) (hc:n<=c) (hm:c<=maxLen):RdIt w (fun b=>b=g) (.slice (some ⟨g,0,none⟩) n c) l:=
 RdIt.mk hn hc hm rfl fun k x hx=>by obtain⟨⟨a1,-⟩,a3,-⟩:=h k x hx;rw [Nat.zero_add];exact⟨a1,a3⟩
theorem HI.take {w:World} {g m:Nat} {l:List It} (h:HI w g l):HI w g (l.take m):=fun k x hx=>by
 rw [List.getElem?_take]at hx
 split at hx
 ·exact h k x hx
 ·cases hx
theorem sort_touch (w:World) (g n:Nat) (d:Array It) (os:Array Obj):Touch (fun b=>b=g) w (sortWorldK encIt 2 w g 0 n d os):=by
 refine⟨rfl,rfl,rfl,?_,fun i hi hn=> ?_⟩
 ·unfold sortWorldK grow putRowK putRow mapBlock Sort.ahead
  simp
 ·unfold sortWorldK grow putRowK putRow mapBlock Sort.ahead
  simp only
  rw [Array.getElem?_append_left (by simpa using hi),Array.getElem?_modify,if_neg (fun e=>hn e.symm)]
theorem clear_items {w:World} {g:Nat} {l:List It} (h:HI w g l) {k:Nat} (hk:k<l.length) (c:Nat) (ty:TypeId):(Builtin.clear_ #[109] ty #[.slice (some ⟨g,k * 2,none⟩) (l.length - k) c]).run Tryz.prog w= .ok (.tuple #[]) (w.setCells g (k * 2) (List.replicate ((l.length - k) * 2) (.int .i64 0))):=by
 obtain⟨m,hm⟩: ∃m,l.length - k=m+1:=⟨l.length - k - 1,by omega⟩
 have hz:(Builtin.zeroCells (Value.cells (.agg #[.int .i64 0,.int .i64 0])) (m+1)).toList=List.replicate ((m+1) * 2) (.int .i64 0):=by
  simp [Builtin.zeroCells,Value.cells]
  apply List.ext_getElem
  ·simp
  ·intro i h1 h2
   simp
   rcases Nat.mod_two_eq_zero_or_one i with e|e<;>simp [e]
 have hat: ∀j,j<(m+1) * 2->(w.cell? ⟨g,k * 2+j,none⟩).isSome=true/\w.frozen? ⟨g,k * 2+j,none⟩=false:=fun j hj=>by
  obtain⟨⟨a1,a2⟩,a3,a4⟩:=h (k+j/2) l[k+j/2] (List.getElem?_eq_getElem (by omega))
  rcases Nat.mod_two_eq_zero_or_one j with e|e
  ·rw [show k * 2+j=(k+j/2) * 2 by omega,a1];exact⟨rfl,a2⟩
  ·rw [show k * 2+j=(k+j/2) * 2+1 by omega,a3];exact⟨rfl,a4⟩
 have hst:=run_storeCells_cells (P:=Tryz.prog) g (k * 2) (List.replicate ((m+1) * 2) (.int .i64 0)) 0 w (fun j hj=>by rw [Nat.add_zero];exact(hat j (by simpa using hj)).1) (fun j hj=>by rw [Nat.add_zero];exact(hat j (by simpa using hj)).2) (by intro v hv';rw [List.eq_of_mem_replicate hv'];rfl)
 simp only [Nat.add_zero]at hst
 rw [hm]
 simp [Builtin.clear_,run_underlying Tryz.underlying109,Tryz.zeroValue226,hz,hst]
end
section
set_option linter.unusedSimpArgs false
open Go.RowKit Go.Shelf Go.Lib Go.Sort
attribute [local irreducible] wpStill wpOne wpPh
theorem Touch.setCells {S:Nat->Prop} {a:World} {g:Nat} (hg:S g): ∀(vs:List Value) (o:Nat) {b:World},Touch S a b->Touch S a (b.setCells g o vs)
 |[],_,_,h=>h
 |v::vs,o,b,h=>Touch.setCells hg vs (o+1) (h.setCell (p:=⟨g,o,none⟩) (fun _=>hg) v)
theorem HI.cleared {w:World} {g k m:Nat} {l:List It} (h:HI w g l) (hk:l.length<=k) (vs:List Value):HI (w.setCells g (k * 2) vs) g l:=by
 intro j x hx
 have hj:=(List.getElem?_eq_some_iff.1 hx).1
 obtain⟨⟨a1,a2⟩,a3,a4⟩:=h j x hx
 rw [World.frozen?_setCells,World.frozen?_setCells,World.cell?_setCells_out _ _ _ _ _ (fun _ _=> .inl (by simp;omega)),World.cell?_setCells_out _ _ _ _ _ (fun _ _=> .inl (by simp;omega))]
 exact⟨⟨a1,a2⟩,a3,a4⟩
def CompPost (w:World) (g cap:Nat) (l:List It) (e:Ending) (w':World):Prop:=e= .returned (.slice (some ⟨g,0,none⟩) l.length cap)/\HI w' g l/\Touch (fun b=>b=g) w w'
set_option maxRecDepth 100000 in
set_option maxHeartbeats 4000000 in
theorem compact_items {w:World} {g cap n:Nat} {l:List It} (h:HI w g l) (hn:n=l.length) (hc:n<=cap) (hm:cap<=9223372036854775807):
  Calls Tryz.prog 215 #[.slice (some ⟨g,0,none⟩) n cap] w (CompPost w g cap (compI l)):=by
 by_cases h2:n<2
 ·have h2':(n:Int)<2:=by omega
  have hcs:=comp_short (l:=l) (by omega)
  obtain⟨Xh,Xhn,Xhcs⟩:=HqZ3 h hn hcs;clear h hn hcs
  go_enter Tryz.func215,Tryz.ntmps215
  go_wp2_with fail
  go_ret
  rw [Xhcs.out]
  exact⟨by rw [Xhn.out];rfl,Xh.out,Touch.refl _ _⟩
 ·have h2': ¬(n:Int)<2:=by omega
  have hfirst:=comp_first (l:=l)
  obtain⟨Xh,Xhn,Xhfirst⟩:=HqZ3 h hn hfirst;clear h hn hfirst
  go_enter Tryz.func215,Tryz.ntmps215
  go_wp2_with fail
  go_loopw [3] (fun i wr=> ∃k q:Nat,1<=k/\k<=n/\i= .int .i64 k/\wr=w.drewN q/\compI (l.take k)=l.take k) (fun i _=>n - (intOf i).toNat)
  case atStart=>exact⟨1,0,Nat.le_refl _,by omega,rfl,rfl,Xhfirst.out⟩
  case round=>
   clear Xhfirst
   obtain⟨k,q,hk1,hk,rfl,rfl,hcp⟩:=hrel
   by_cases hlt:k<n
   ·have hlt':(k:Int)<(n:Int):=by omega
    obtain⟨r,hr⟩: ∃r,k=r+1:=⟨k - 1,by omega⟩
    have hw63:IntKind.i64.wrap ((k:Int) - 1)=(r:Int):=by rw [IntKind.wrap_i64];omega
    have hrn:(r:Int)<(n:Int):=by omega
    obtain⟨⟨x0,x1⟩,hx⟩: ∃x,l[k]? =some x:=⟨_,List.getElem?_eq_getElem (by rw [<-Xhn.out];exact hlt)⟩
    obtain⟨⟨y0,y1⟩,hy⟩: ∃x,l[r]? =some x:=⟨_,List.getElem?_eq_getElem (by rw [<-Xhn.out];omega)⟩
    obtain⟨⟨p0,-⟩,p1,-⟩:=Xh.out k _ hx
    obtain⟨⟨r0,-⟩,r1,-⟩:=Xh.out r _ hy
    simp only at p0 p1 r0 r1
    have heq:=eql_item x0 x1 y0 y1
    have hgd:=fun op p q=>guard_item op p q (x0,x1) (y0,y1)
    have hnext:=comp_next (l:=l) (r:=r) hy (by rw [<-hr];exact hx)
    rw [show r+2=k+1 by omega,<-hr,hcp]at hnext
    by_cases he:((x0,x1):It)=(y0,y1)
    ·rw [decide_eq_true he]at heq
     rw [if_pos he.symm]at hnext
     have hck: ¬cap=k:=by omega
     have hkc:(k:Int)<=(cap:Int):=by omega
     have hk0:(0:Int)<=(k:Int):=by omega
     have hlk:k=(compI (l.take (k+1))).length:=by rw [hnext,List.length_take];have:=Xhn.out;omega
     obtain⟨Xhr,Xhx,Xhy,Xhe,Xhcp,Xhnext,Xhlk⟩:=HqZ7 hr hx hy he hcp hnext hlk;clear hr hx hy he hcp hnext hlk
     go_wp2_with fail
     refine region_reads (by kernel_rfl) (by kernel_rfl) ?_
     repeat still_step
     refine wpStill_nil ?_
     go_wp2_with fail
     go_loopw [3,5] (fun i m wr=> ∃(kk s:Nat) (L:List It),i= .int .i64 kk/\m= .int .i64 s/\1<=s/\k+s<=n/\kk+1<=k+s/\L.length=n/\kk=(compI (l.take (k+s))).length/\L.take kk=compI (l.take (k+s))/\(∀j,k+s<=j+1->L[j]? =l[j]?)/\HI wr g L/\Touch (fun b=>b=g) w wr) (fun _ m _=>n - (intOf m).toNat)
     case atStart=>exact⟨k,1,l,rfl,rfl,Nat.le_refl _,by omega,Nat.le_refl _,Xhn.out.symm,Xhlk.out,Xhnext.out.symm,fun _ _=>rfl,Xh.out.drewN _,(Touch.refl _ _).drewN _⟩
     case round=>
      clear p0 p1 r0 r1 heq hgd hw63 hrn
      obtain⟨kk,s,L,rfl,rfl,hs1,hsn,hks,hL,hkk,hLt,hLe,hH,tt⟩:=hrel
      have hkn:(kk:Int)<(n:Int):=by omega
      by_cases hlt2:k+s<n
      ·have hlt2':(s:Int)<((n - k:Nat):Int):=by omega
       obtain⟨u,hu⟩: ∃u,s=u+1:=⟨s - 1,by omega⟩
       have hw64:IntKind.i64.wrap ((s:Int) - 1)=(u:Int):=by rw [IntKind.wrap_i64];omega
       have hun:(u:Int)<((n - k:Nat):Int):=by omega
       obtain⟨⟨x0,x1⟩,hx⟩: ∃x,l[k+s]? =some x:=⟨_,List.getElem?_eq_getElem (by rw [<-Xhn.out];exact hlt2)⟩
       obtain⟨⟨y0,y1⟩,hy⟩: ∃x,l[k+u]? =some x:=⟨_,List.getElem?_eq_getElem (by rw [<-Xhn.out];omega)⟩
       obtain⟨⟨p0,-⟩,p1,-⟩:=hH (k+s) _ ((hLe _ (by omega)).trans hx)
       obtain⟨⟨r0,-⟩,r1,-⟩:=hH (k+u) _ ((hLe _ (by omega)).trans hy)
       rw [Nat.add_mul]at p0 p1 r0 r1
       obtain⟨⟨z0,z1⟩,hz⟩: ∃x,L[kk]? =some x:=⟨_,List.getElem?_eq_getElem (by omega)⟩
       obtain⟨⟨f0,f1⟩,f2,f3⟩:=hH kk _ hz
       simp only at p0 p1 r0 r1 f0 f2
       have hne:=neq_item x0 x1 y0 y1
       have hgd:=fun op p q=>guard_item op p q (x0,x1) (y0,y1)
       have hnext2:=comp_next (l:=l) (r:=k+u) hy (by rw [Nat.add_assoc,<-hu];exact hx)
       rw [show k+u+2=k+(s+1) by omega,show k+u+1=k+s by omega]at hnext2
       by_cases he2:((x0,x1):It)=(y0,y1)
       ·rw [decide_eq_true he2]at hne
        rw [if_pos he2.symm]at hnext2
        obtain⟨Xhu,Xhx,Xhy,Xhe2,Xhz,Xhnext2,XhL,Xhkk,XhLt,XhLe,XhH,Xtt⟩:=HqZ12 hu hx hy he2 hz hnext2 hL hkk hLt hLe hH tt;clear hu hx hy he2 hz hnext2 hL hkk hLt hLe hH tt;clear f0 f1 f2 f3
        go_wp2_with fail
        refine region_reads (by kernel_rfl) (by kernel_rfl) ?_
        repeat still_step
        refine wpStill_nil ?_
        go_wp2_with fail
        go_roundw
        case rel=>exact⟨kk,s+1,L,rfl,by go_num,by omega,by omega,by omega,XhL.out,by rw [Xhnext2.out];exact Xhkk.out,by rw [Xhnext2.out];exact XhLt.out,fun j hj=>XhLe.out j (by omega),XhH.out.drewN _,Xtt.out.drewN _⟩
        case measure=>simp [intOf];omega
       ·rw [decide_eq_false he2]at hne
        rw [if_neg (fun e=>he2 e.symm)]at hnext2
        have hkk2:kk+1=(compI (l.take (k+(s+1)))).length:=by rw [hnext2,List.length_append,<-hkk];rfl
        have hLt2:(L.set kk (x0,x1)).take (kk+1)=compI (l.take (k+(s+1))):=by
         rw [hnext2,List.take_add_one,List.getElem?_set_self (by omega),List.take_set_of_le (Nat.le_refl _),hLt];rfl
        have hLe2: ∀j,k+(s+1)<=j+1->(L.set kk (x0,x1))[j]? =l[j]? :=fun j hj=>by
         rw [List.getElem?_set_ne (by omega)];exact hLe j (by omega)
        have hH2:=fun q=>HI.set (hH.drewN q) (k:=kk) (by omega) (x0,x1)
        have tt2:=fun q v0 v1=>((tt.drewN q).setCell (p:=⟨g,kk * 2,none⟩) (fun _=>rfl) v0).setCell (p:=⟨g,kk * 2+1,none⟩) (fun _=>rfl) v1
        have hL2:(L.set kk (x0,x1)).length=n:=by rw [List.length_set];exact hL
        simp only at hH2
        obtain⟨Xhu,Xhx,Xhy,Xhe2,Xhz,Xhnext2,XhL,Xhkk,XhLt,XhLe,XhH,Xtt,Xhkk2,XhLt2⟩:=HqZ14 hu hx hy he2 hz hnext2 hL hkk hLt hLe hH tt hkk2 hLt2;obtain⟨XhLe2,XhH2,Xtt2,XhL2⟩:=HqZ4 hLe2 hH2 tt2 hL2;clear hu hx hy he2 hz hnext2 hL hkk hLt hLe hH tt hkk2 hLt2 hLe2 hH2 tt2 hL2
        go_wp2_with fail
        refine region_reads (by kernel_rfl) (by kernel_rfl) ?_
        repeat still_step
        refine wpStill_nil ?_
        go_wp2_with fail
        go_roundw
        case rel=>exact⟨kk+1,s+1,L.set kk (x0,x1),by go_num,by go_num,by omega,by omega,by omega,XhL2.out,Xhkk2.out,XhLt2.out,XhLe2.out,XhH2.out 1,Xtt2.out 1 _ _⟩
        case measure=>simp [intOf];omega
      ·have hlt2': ¬(s:Int)<((n - k:Nat):Int):=by omega
       have hend:k+s=n:=by omega
       have hfin:compI (l.take (k+s))=compI l:=by rw [List.take_of_length_le (by have:=Xhn.out;omega)]
       rw [hfin]at hkk hLt
       have hck2: ¬cap=kk:=by omega
       have hkc2:(kk:Int)<=(cap:Int):=by omega
       have hkn2:(kk:Int)<=(n:Int):=by omega
       have hkk0:(0:Int)<=(kk:Int):=by omega
       have hcl:=fun ty=>clear_items hH (k:=kk) (by omega) (cap - kk) ty
       rw [hL]at hcl
       have hH3:=fun vs=>HI.cleared (k:=kk) (m:=0) (hLt▸HI.take (m:=kk) hH) (by omega) vs
       have tt3:=fun vs=>Touch.setCells (g:=g) (S:=fun b=>b=g) rfl vs (kk * 2) tt
       obtain⟨XhL,Xhkk,XhLt,XhLe,XhH,Xtt,Xhfin,XhH3,Xtt3,Xhend⟩:=HqZ10 hL hkk hLt hLe hH tt hfin hH3 tt3 hend;clear hL hkk hLt hLe hH tt hfin hH3 tt3 hend
       go_wp2_with fail
       go_ret
       exact⟨by rw [Xhkk.out];rfl,XhH3.out _,Xtt3.out _⟩
    ·rw [decide_eq_false he]at heq
     rw [if_neg (fun e=>he e.symm)]at hnext
     have hcp2:compI (l.take (k+1))=l.take (k+1):=by rw [hnext,List.take_add_one,hx];rfl
     clear hnext
     obtain⟨Xhr,Xhx,Xhy,Xhe,Xhcp,Xhcp2⟩:=HqZ6 hr hx hy he hcp hcp2;clear hr hx hy he hcp hcp2
     go_wp2_with fail
     refine region_reads (by kernel_rfl) (by kernel_rfl) ?_
     repeat still_step
     refine wpStill_nil ?_
     go_wp2_with fail
     go_roundw
     case rel=>exact⟨k+1,q+1,by omega,by omega,by go_num,rfl,Xhcp2.out⟩
     case measure=>simp [intOf];omega
   ·have hlt': ¬(k:Int)<(n:Int):=by omega
    have hall:compI l=l:=by rw [List.take_of_length_le (by have:=Xhn.out;omega)]at hcp;exact hcp
    obtain⟨Xhcp,Xhall⟩:=HqZ2 hcp hall;clear hcp hall
    go_wp2_with fail
    go_ret
    rw [Xhall.out]
    exact⟨by rw [Xhn.out];rfl,Xh.out.drewN q,(Touch.refl _ _).drewN q⟩
theorem compact_none (p:Option Addr) (cap:Nat) (w:World):Calls Tryz.prog 215 #[.slice p 0 cap] w fun e w'=>e= .returned (.slice p 0 cap)/\w'=w:=by
 go_enter Tryz.func215,Tryz.ntmps215
 go_wp2_with fail
 go_ret
 exact⟨rfl,by first|rfl|trivial⟩
end
section
set_option linter.unusedSimpArgs false
open Go.RowKit
attribute [local irreducible] wpStill wpOne wpPh
section
variable {w wr wr' : World} {F : Nat -> Prop} {A1 : Option Addr} {c1 : Nat} {A2 : Option Addr} {c2 : Nat} {A3 : Option Addr} {c3 T N R : Nat} {st : Int} {G : GramD} {vl : Value} {l : List It} {vo : Value} {o : List It}
end
end
section
set_option linter.unusedSimpArgs false
open Go.RowKit Go.Maps
theorem Tryz.laidOut:laidOutB Tryz.prog=true:=by kernel_rfl
theorem Tryz.intCells:Tryz.prog.cellsOf 3=1:=by kernel_rfl
theorem wf_i64_mk {n:Int} (h: -9223372036854775808<=n/\n<=9223372036854775807):(Lit.int .i64 n).wf=true:=by
 simp [Lit.wf,IntKind.min,IntKind.max,IntKind.signed,IntKind.bits]
 omega
noncomputable def ikey (x:It):Lit:=(keyOf Tryz.prog 226 (ItV x)).getD (.bool false)
attribute [irreducible] ikey
end
section
set_option linter.unusedSimpArgs false
open Go.RowKit Go.Maps
attribute [local irreducible] wpStill wpOne wpPh
section
variable {w wr wr' : World} {F : Nat -> Prop} {A1 : Option Addr} {c1 : Nat} {A2 : Option Addr} {c2 : Nat} {A3 : Option Addr} {c3 T N R : Nat} {st : Int} {G : GramD} {vl : Value} {l : List It} {s : Nat} {vo : Value} {o : List It}
end
end
section
set_option linter.unusedSimpArgs false
open Go.RowKit Go.Maps
attribute [local irreducible] wpStill wpOne wpPh
structure KnI (G:GramD) (st:Int):Prop where
 r:G.rules.length<=300
 non: ∀s k,k∈ofOf G s->isNon G s=true
 short:ShortG G st
theorem KnI.of_check {G:GramD} {st:Int} (h:checkOf G st=0):KnI G st:=by
 obtain⟨hm,-,-,hk,-,-⟩:=checkOf_zero h
 obtain⟨-,-,h3,hsh⟩:=manyOf_no hm
 refine⟨h3,fun s k hs=> ?_,fun i=> ?_⟩
 ·obtain⟨n,x,-,hx⟩:=of_mem.1 hs
  unfold allKnown at hk
  rw [Bool.and_eq_true,List.all_eq_true]at hk
  have:=hk.2 _ (List.mem_of_getElem? hx)
  unfold knownOf at this
  rw [Bool.and_eq_true]at this
  exact this.1
 ·unfold shortOf at hsh
  rw [List.all_eq_true]at hsh
  unfold ruleOf
  split
  ·simp
  ·split
   ·simp
   ·cases e:G.rules[i.toNat]? with
    |none=>simp
    |some r=>have:=hsh r (List.mem_of_getElem? e);simp at this⊢;omega
section
variable {w : World} {F : Nat -> Prop} {A1 : Option Addr} {c1 : Nat} {A2 : Option Addr} {c2 : Nat} {A3 : Option Addr} {c3 T N R : Nat} {st : Int} {G : GramD} {vl : Value} {l : List It}
end
end
section
theorem nodup_len: ∀(N:Nat) (a:Int) {l:List Int},l.Nodup->(∀x∈l,a<x/\x<=a+N)->l.length<=N
 |0,a,l,_,h=>by
  match l,h with
  |[],_=>exact Nat.le_refl _
  |x::r,h=>have:=h x (List.mem_cons_self ..);omega
 |N+1,a,l,hn,h=>by
  by_cases hm:(a+(N+1:Nat):Int)∈l
  ·have h1:=List.length_erase_of_mem hm
   have h2:=nodup_len N a (hn.erase (a+(N+1:Nat):Int)) (fun x hx=>by
    obtain⟨hx1,hx2⟩:=(hn.mem_erase_iff).1 hx
    have:=h x hx2
    omega)
   omega
  ·have:=nodup_len N a hn (fun x hx=>by
    have h1:=h x hx
    have h2:x≠a+(N+1:Nat):=fun e=>hm (e▸hx)
    omega)
   omega
theorem nons_len {G:GramD} {l:List Int} (hn:l.Nodup) (h: ∀x∈l,isNon G x=true):l.length<=G.nons.length:=by
 refine nodup_len G.nons.length G.terms.length hn fun x hx=> ?_
 have:=h x hx
 unfold isNon topOf at this
 simp only [Bool.and_eq_true,decide_eq_true_eq]at this
 omega
theorem of_len {G:GramD} {s:Int}:(ofOf G s).length<=G.rules.length:=by
 unfold ofOf ofUpto
 rw [List.length_map]
 exact Nat.le_trans (List.length_filter_le _ _) (by simp)
inductive Bg (G:GramD) (st:Int) (s:Int):Int->Prop
 |base:Bg G st s s
 |next (n k m:Int):Bg G st s n->k∈ofOf G n->behindI G st (k,0)=(m,true)->isNon G m=true->Bg G st s m
def rulesI (ks:List Int):List It:=ks.map fun k=>(k,0)
theorem rules_next {ks:List Int} {k:Nat} {r:Int} (h:ks[k]? =some r):rulesI (ks.take (k+1))=rulesI (ks.take k)++[(r,0)]:=by
 unfold rulesI
 rw [List.take_add_one,h,List.map_append];rfl
theorem rules_len (ks:List Int):(rulesI ks).length=ks.length:=by unfold rulesI;simp
theorem rules_get {ks:List Int} {k:Nat} {x:It} (h:(rulesI ks)[k]? =some x): ∃r,ks[k]? =some r/\x=(r,0):=by
 unfold rulesI at h
 rw [List.getElem?_map]at h
 obtain⟨r,hr,rfl⟩:=Option.map_eq_some_iff.1 h
 exact⟨r,hr,rfl⟩
theorem mem_rules {ks:List Int} {x:It}:x∈rulesI ks↔ ∃r∈ks,x=(r,0):=by
 unfold rulesI
 rw [List.mem_map]
 exact⟨fun⟨r,h1,h2⟩=>⟨r,h1,h2.symm⟩,fun⟨r,h1,h2⟩=>⟨r,h1,h2.symm⟩⟩
def IsBe (G:GramD) (st:Int) (s:Int) (o:List It):Prop:= ∀z,z∈o↔ ∃n k,Bg G st s n/\k∈ofOf G n/\z=(k,0)
structure BgSt (G:GramD) (st:Int) (s:Int) (done todo:List Int) (all:List It):Prop where
 nodup:(done++todo).Nodup
 sound: ∀n∈done++todo,Bg G st s n/\isNon G n=true
 first:s∈done++todo
 all_:all=done.flatMap fun n=>rulesI (ofOf G n)
 closed: ∀n∈done,∀k∈ofOf G n,∀m,behindI G st (k,0)=(m,true)->isNon G m=true->m∈done++todo
structure BgIn (G:GramD) (st:Int) (s:Int) (done:List Int) (n0:Int) (todo:List Int) (j:Nat):Prop where
 nodup:(done++[n0]++todo).Nodup
 sound: ∀n∈done++[n0]++todo,Bg G st s n/\isNon G n=true
 first:s∈done++[n0]++todo
 closed: ∀n∈done,∀k∈ofOf G n,∀m,behindI G st (k,0)=(m,true)->isNon G m=true->m∈done++[n0]++todo
 here: ∀k∈(ofOf G n0).take j,∀m,behindI G st (k,0)=(m,true)->isNon G m=true->m∈done++[n0]++todo
section
variable {G : GramD} {st s : Int} {done todo : List Int} {all : List It} {n0 : Int} {j : Nat}
theorem BgSt.start (h:isNon G s=true):BgSt G st s [] [s] []:=
 ⟨by simp,fun n hn=>by have:n=s:=(by simpa using hn);subst this;exact⟨.base,h⟩,by simp,rfl,fun n hn=>by cases hn⟩
theorem BgSt.len (h:BgSt G st s done todo all):done.length+todo.length<=G.nons.length:=by
 have:=nons_len h.nodup fun x hx=>(h.sound x hx).2
 rwa [List.length_append]at this
theorem BgIn.len (h:BgIn G st s done n0 todo j):done.length+1+todo.length<=G.nons.length:=by
 have:=nons_len h.nodup fun x hx=>(h.sound x hx).2
 rwa [List.length_append,List.length_append]at this
theorem BgSt.allLen (h:BgSt G st s done todo all) (hr:G.rules.length<=300):all.length<=done.length * 300:=by
 rw [h.all_]
 have: ∀d:List Int,(d.flatMap fun n=>rulesI (ofOf G n)).length<=d.length * 300:=by
  intro d
  induction d with
  |nil=>simp
  |cons x r ih=>
   rw [List.flatMap_cons,List.length_append,rules_len]
   have:=of_len (G:=G) (s:=x)
   simp only [List.length_cons]
   omega
 exact this done
theorem BgSt.take (h:BgSt G st s done (n0::todo) all):BgIn G st s done n0 todo 0:=by
 have e:done++[n0]++todo=done++n0::todo:=by simp
 exact⟨by rw [e];exact h.nodup,by rw [e];exact h.sound,by rw [e];exact h.first,by rw [e];exact h.closed,fun k hk=>by cases hk⟩
theorem BgIn.back (h:BgIn G st s done n0 todo (ofOf G n0).length) (hall:all=done.flatMap fun n=>rulesI (ofOf G n)):BgSt G st s (done++[n0]) todo (all++rulesI (ofOf G n0)):=by
 refine⟨h.nodup,h.sound,h.first,by rw [List.flatMap_append,<-hall];simp,fun n hn k hk m hm hn'=> ?_⟩
 rcases List.mem_append.1 hn with hn|hn
 ·exact h.closed n hn k hk m hm hn'
 ·obtain rfl:=List.mem_singleton.1 hn
  have:=h.here
  rw [List.take_length]at this
  exact this k hk m hm hn'
theorem BgIn.skip {r:Int} (h:BgIn G st s done n0 todo j) (hr:(ofOf G n0)[j]? =some r) (hm: ∀m,behindI G st (r,0)=(m,true)->isNon G m=true->m∈done++[n0]++todo):BgIn G st s done n0 todo (j+1):=by
 refine⟨h.nodup,h.sound,h.first,h.closed,fun k hk m=> ?_⟩
 rw [List.take_add_one,hr]at hk
 rcases List.mem_append.1 hk with hk|hk
 ·exact h.here k hk m
 ·have:k=r:=by simpa using hk
  subst this
  exact hm m
theorem BgIn.put {r m:Int} (h:BgIn G st s done n0 todo j) (hr:(ofOf G n0)[j]? =some r) (hm:behindI G st (r,0)=(m,true)) (hn:isNon G m=true) (hnew:m∉done++[n0]++todo):BgIn G st s done n0 (todo++[m]) (j+1):=by
 have e:done++[n0]++(todo++[m])=(done++[n0]++todo)++[m]:=by simp
 refine⟨?_,?_,?_,?_,?_⟩
 ·rw [e]
  exact List.nodup_append.2 ⟨h.nodup,by simp,fun a ha b hb=>by
   have:b=m:=by simpa using hb
   subst this
   exact fun e'=>hnew (e'▸ha)⟩
 ·rw [e]
  intro n hn'
  rcases List.mem_append.1 hn' with hn'|hn'
  ·exact h.sound n hn'
  ·obtain rfl:=List.mem_singleton.1 hn'
   exact⟨.next n0 r _ (h.sound n0 (by simp)).1 (List.mem_of_getElem? hr) hm hn,hn⟩
 ·rw [e];exact List.mem_append_left _ h.first
 ·rw [e];exact fun n hn' k hk q hq hq'=>List.mem_append_left _ (h.closed n hn' k hk q hq hq')
 ·rw [e]
  intro k hk q hq hq'
  rw [List.take_add_one,hr]at hk
  rcases List.mem_append.1 hk with hk|hk
  ·exact List.mem_append_left _ (h.here k hk q hq hq')
  ·have:k=r:=by simpa using hk
   subst this
   rw [hm]at hq
   injection hq with hq _
   subst hq
   simp
theorem BgSt.is (h:BgSt G st s done [] all):IsBe G st s all:=by
 intro z
 rw [h.all_,List.mem_flatMap]
 constructor
 ·rintro⟨n,hn,hz⟩
  obtain⟨k,hk,rfl⟩:=mem_rules.1 hz
  exact⟨n,k,(h.sound n (by simpa using hn)).1,hk,rfl⟩
 ·rintro⟨n,k,hb,hk,rfl⟩
  refine⟨n,?_,mem_rules.2 ⟨k,hk,rfl⟩⟩
  clear hk
  induction hb with
  |base=>simpa using h.first
  |next n' k' m' _ hk' hb' hn' ih=>simpa using h.closed n' ih k' hk' m' hb' hn'
end
theorem cl_iff {G:GramD} {st:Int} (hk:KnI G st) {l:List It} (hr: ∀x∈l,rightI G st x=true) (z:It):
  Cl G st l z↔z∈l\/ ∃x∈l,∃n m k,behindI G st x=(n,true)/\isNon G n=true/\Bg G st n m/\k∈ofOf G m/\z=(k,0):=by
 constructor
 ·intro h
  induction h with
  |base x hx _=>exact .inl hx
  |next y s k _ hb hs ih=>
   have hnon:=hk.non s k hs
   rcases ih with hy|⟨x,hx,n,m,q,e1,e2,e3,e4,rfl⟩
   ·exact .inr ⟨y,hy,s,s,k,hb,hnon,.base,hs,rfl⟩
   ·exact .inr ⟨x,hx,n,s,k,e1,e2,.next m q s e3 e4 hb hnon,hs,rfl⟩
 ·rintro(h|⟨x,hx,n,m,k,e1,e2,e3,e4,rfl⟩)
  ·exact .base z h (hr z h)
  ·have key: ∀m,Bg G st n m-> ∀k∈ofOf G m,Cl G st l (k,0):=by
    intro m hb
    induction hb with
    |base=>exact fun k hk'=> .next x n k (.base x hx (hr x hx)) e1 hk'
    |next n' k' m' _ hk' hb' _ ih=>exact fun k hk''=> .next (k',0) m' k (ih k' hk') hb' hk''
   exact key m e3 k e4
def Nx (G:GramD) (st:Int) (l:List It) (s:Int) (o:List It):Prop:=StrictI o/\ ∀z,z∈o↔ ∃x,Cl G st l x/\behindI G st x=(s,true)/\z=(x.1,x.2+1)
noncomputable def nxI (G:GramD) (st:Int) (l:List It) (s:Int):List It:=canonI ((allIt G st).filter fun z=> @decide (∃x,Cl G st l x/\behindI G st x=(s,true)/\z=(x.1,x.2+1)) (Classical.propDecidable _))
theorem nx_is (G:GramD) (st:Int) (l:List It) (s:Int):Nx G st l s (nxI G st l s):=by
 refine⟨canon_strict _,fun z=> ?_⟩
 unfold nxI
 rw [mem_canon,List.mem_filter, @decide_eq_true_eq _ (Classical.propDecidable _)]
 refine⟨fun h=>h.2,fun h=>⟨?_,h⟩⟩
 obtain⟨x,h1,h2,rfl⟩:=h
 exact mem_allIt (step_right h2).1
theorem nx_right {G:GramD} {st s:Int} {l:List It} {z:It} (h:z∈nxI G st l s):rightI G st z=true:=by
 obtain⟨x,h1,h2,rfl⟩:=((nx_is G st l s).2 z).1 h
 exact(step_right h2).1
theorem nx_of {G:GramD} {st s:Int} {l c:List It} (h:IsCl G st l c):canonI (stepsI G st c s)=nxI G st l s:=by
 refine strict_unique (canon_strict _) (nx_is G st l s).1 fun z=> ?_
 rw [mem_canon,(nx_is G st l s).2]
 unfold stepsI
 rw [List.mem_map]
 constructor
 ·rintro⟨x,hx,rfl⟩
  obtain⟨h1,h2⟩:=List.mem_filter.1 hx
  exact⟨x,(h.mem x).1 h1,of_decide_eq_true h2,rfl⟩
 ·rintro⟨x,h1,h2,rfl⟩
  exact⟨x,List.mem_filter.2 ⟨(h.mem x).2 h1,decide_eq_true h2⟩,rfl⟩
end
section
def putK (L:List (List It)) (k:List It):List (List It)×Int:=if k∈L then(L,((L.idxOf k:Nat):Int))else(L++[k],((L.length:Nat):Int))
theorem idx_get {L:List (List It)} {k:List It} (h:k∈L):L[L.idxOf k]? =some k:=by
 have h1:=List.idxOf_lt_length_of_mem h
 rw [List.getElem?_eq_getElem h1,List.getElem_idxOf]
theorem putK_yes {L:List (List It)} {k:List It} (h:k∈L):putK L k=(L,((L.idxOf k:Nat):Int)):=if_pos h
theorem putK_no {L:List (List It)} {k:List It} (h:k∉L):putK L k=(L++[k],((L.length:Nat):Int)):=if_neg h
noncomputable def rowA (G:GramD) (st:Int) (kern:List It) (L:List (List It)):Nat->List (List It)×List It
 |0=>(L,[])
 |m+1=>if nxI G st kern ((m+1:Nat):Int)=[]then rowA G st kern L m else((putK (rowA G st kern L m).1 (nxI G st kern ((m+1:Nat):Int))).1,(rowA G st kern L m).2++[(((m+1:Nat):Int),(putK (rowA G st kern L m).1 (nxI G st kern ((m+1:Nat):Int))).2)])
section
variable {G : GramD} {st : Int} {kern : List It} {L : List (List It)} {m : Nat}
theorem rowA_no (h:nxI G st kern ((m+1:Nat):Int)=[]):rowA G st kern L (m+1)=rowA G st kern L m:=by
 show(if _ then _ else _)=_
 rw [if_pos h]
theorem rowA_yes (h:nxI G st kern ((m+1:Nat):Int)≠[]):rowA G st kern L (m+1)=((putK (rowA G st kern L m).1 (nxI G st kern ((m+1:Nat):Int))).1,(rowA G st kern L m).2++[(((m+1:Nat):Int),(putK (rowA G st kern L m).1 (nxI G st kern ((m+1:Nat):Int))).2)]):=by
 show(if _ then _ else _)=_
 rw [if_neg h]
end
structure RowF (G:GramD) (st:Int) (kern:List It) (L:List (List It)) (m:Nat) (L':List (List It)) (t:List It):Prop where
 pre: ∃e,L'=L++e
 nodup:L.Nodup->L'.Nodup
 len:L'.length<=L.length+m
 mem: ∀s tq9:Int,((s,tq9):It)∈t->1<=s/\s<=m/\nxI G st kern s≠[]/\0<=tq9/\L'[tq9.toNat]? =some (nxI G st kern s)
 has: ∀s:Int,1<=s->s<=m->nxI G st kern s≠[]-> ∃tq9:Int,((s,tq9):It)∈t
 sort:t.Pairwise (fun a b=>a.1<b.1)
 new: ∀n,L.length<=n->n<L'.length-> ∃s:Int,((s,(n:Int)):It)∈t
 tlen:t.length<=m
 kind: ∀k∈L',k∈L\/ ∃s,k=nxI G st kern s/\k≠[]
theorem nodup_get {α:Type} {L:List α} (hn:L.Nodup) {i j:Nat} {x:α} (hi:L[i]? =some x) (hj:L[j]? =some x):i=j:=by
 obtain⟨h1,e1⟩:=List.getElem?_eq_some_iff.1 hi
 obtain⟨h2,e2⟩:=List.getElem?_eq_some_iff.1 hj
 rcases Nat.lt_trichotomy i j with h|h|h
 ·exact absurd (e1.trans e2.symm) ((List.pairwise_iff_getElem.1 hn) i j h1 h2 h)
 ·exact h
 ·exact absurd (e2.trans e1.symm) ((List.pairwise_iff_getElem.1 hn) j i h2 h1 h)
theorem rowF (G:GramD) (st:Int) (kern:List It) {L:List (List It)} (hn:L.Nodup): ∀m,RowF G st kern L m (rowA G st kern L m).1 (rowA G st kern L m).2
 |0=>⟨⟨[],by simp [rowA]⟩,id,Nat.le_refl _,fun s tq9 h=>(by cases h),fun s h1 h2=>by omega,List.Pairwise.nil,fun n h1 h2=>absurd h2 (by simp [rowA];omega),Nat.le_refl _,fun k hk=> .inl hk⟩
 |m+1=>by
  have ih:=rowF G st kern hn m
  by_cases h0:nxI G st kern ((m+1:Nat):Int)=[]
  ·rw [rowA_no h0]
   refine⟨ih.pre,ih.nodup,by have:=ih.len;omega,fun s tq9 h=> ?_,fun s h1 h2 h3=>ih.has s h1 ?_ h3,ih.sort,ih.new,by have:=ih.tlen;omega,ih.kind⟩
   ·obtain⟨h1,h2,h3⟩:=ih.mem s tq9 h
    exact⟨h1,by omega,h3⟩
   ·by_cases e:s=((m+1:Nat):Int)
    ·subst e;exact absurd h0 h3
    ·omega
  ·rw [rowA_yes h0]
   obtain⟨k,hk⟩: ∃k,k=nxI G st kern ((m+1:Nat):Int):=⟨_,rfl⟩
   rw [<-hk]at h0⊢
   obtain⟨L1,hL1⟩: ∃L1,L1=(rowA G st kern L m).1:=⟨_,rfl⟩
   obtain⟨t1,ht1⟩: ∃t1,t1=(rowA G st kern L m).2:=⟨_,rfl⟩
   rw [<-hL1,<-ht1]at ih⊢
   have hn1:=ih.nodup hn
   -- the new list and the number
   obtain⟨L2,to2,he,hpre,hget,hn2,hlen,hnew⟩: ∃(L2:List (List It)) (to2:Nat),putK L1 k=(L2,(to2:Int))/\(∃e,L2=L1++e)/\L2[to2]? =some k/\L2.Nodup/\L2.length<=L1.length+1/\(∀n,L1.length<=n->n<L2.length->n=to2)/\(∀q∈L2,q∈L1\/q=k):=by
    by_cases hm:k∈L1
    ·exact⟨L1,L1.idxOf k,putK_yes hm,⟨[],by simp⟩,idx_get hm,hn1,by omega,fun n h1 h2=>by omega,fun q hq=> .inl hq⟩
    ·refine⟨L1++[k],L1.length,putK_no hm,⟨[k],rfl⟩,by simp,?_,by simp,fun n h1 h2=>by simp at h2;omega,fun q hq=> ?_⟩
     ·refine List.nodup_append.2 ⟨hn1,by simp,fun a ha b hb=> ?_⟩
      obtain rfl:=List.mem_singleton.1 hb
      exact fun e=>hm (e▸ha)
     ·rcases List.mem_append.1 hq with hq|hq
      ·exact .inl hq
      ·exact .inr (List.mem_singleton.1 hq)
   obtain⟨hnew,hkd⟩:=hnew
   rw [he]
   obtain⟨e1,hp1⟩:=ih.pre
   obtain⟨e2,hp2⟩:=hpre
   have up: ∀{n:Nat} {q:List It},L1[n]? =some q->L2[n]? =some q:=fun{n q} h=>by
    rw [hp2,List.getElem?_append_left (List.getElem?_eq_some_iff.1 h).1];exact h
   refine⟨⟨e1++e2,by rw [hp2,hp1,List.append_assoc]⟩,fun _=>hn2,by have:=ih.len;show L2.length<=_;omega,fun s tq9 h=> ?_,fun s h1 h2 h3=> ?_,?_,fun n h1 h2=> ?_,by have:=ih.tlen;simp;omega,fun q hq=> ?_⟩
   ·rw [List.mem_append,List.mem_singleton]at h
    rcases h with h|h
    ·obtain⟨h1,h2,h3,h4,h5⟩:=ih.mem s tq9 h
     exact⟨h1,by omega,h3,h4,up h5⟩
    ·injection h with h1 h2
     subst h1 h2
     rw [<-hk]
     exact⟨by omega,Int.le_refl _,h0,by omega,hget⟩
   ·by_cases e:s=((m+1:Nat):Int)
    ·subst e
     exact⟨_,List.mem_append_right _ (List.mem_singleton.2 rfl)⟩
    ·obtain⟨tq9,h⟩:=ih.has s h1 (by omega) h3
     exact⟨tq9,List.mem_append_left _ h⟩
   ·refine List.pairwise_append.2 ⟨ih.sort,List.pairwise_singleton _ _,fun a ha b hb=> ?_⟩
    obtain rfl:=List.mem_singleton.1 hb
    obtain⟨a1,a2⟩:=a
    have:=(ih.mem a1 a2 ha).2.1
    simp only
    omega
   ·by_cases hlt:n<L1.length
    ·obtain⟨s,hs⟩:=ih.new n h1 hlt
     exact⟨s,List.mem_append_left _ hs⟩
    ·have:=hnew n (by omega) h2
     subst this
     exact⟨_,List.mem_append_right _ (List.mem_singleton.2 rfl)⟩
   ·rcases hkd q hq with hq|hq
    ·exact ih.kind q hq
    ·exact .inr ⟨_,hq.trans hk,hq▸h0⟩
inductive Bld (G:GramD) (st:Int):Nat->List (List It)->List (List It)->Prop
 |start:Bld G st 0 [[((G.rules.length:Int),0)]] []
 |next (i:Nat) (L T:List (List It)) (k:List It):Bld G st i L T->L[i]? =some k->(rowA G st k L (topOf G)).1.length<=2000->Bld G st (i+1) (rowA G st k L (topOf G)).1 (T++[(rowA G st k L (topOf G)).2])
theorem Bld.fn {G:GramD} {st:Int}: ∀{i:Nat} {L T L' T':List (List It)},Bld G st i L T->Bld G st i L' T'->L=L'/\T=T'
 |0,_,_,_,_,.start,.start=>⟨rfl,rfl⟩
 |i+1,_,_,_,_,.next _ L T k h hk _,.next _ L' T' k' h' hk' _=>by
  obtain⟨rfl,rfl⟩:=h.fn h'
  rw [hk]at hk'
  injection hk' with hk'
  subst hk'
  exact⟨rfl,rfl⟩
inductive Auto (G:GramD) (st:Int):Option (List (List It)×List (List It))->Prop
 |ok (L T:List (List It)):Bld G st L.length L T->Auto G st (some (L,T))
 |many (i:Nat) (L T:List (List It)) (k:List It):Bld G st i L T->L[i]? =some k->2000<(rowA G st k L (topOf G)).1.length->Auto G st none
structure BldF (G:GramD) (st:Int) (i:Nat) (L T:List (List It)):Prop where
 len:T.length=i
 le:i<=L.length
 small:L.length<=2000
 nodup:L.Nodup
 first:L[0]? =some [((G.rules.length:Int),0)]
 kind: ∀k∈L,k=[((G.rules.length:Int),0)]\/ ∃q s,k=nxI G st q s/\k≠[]
 mem: ∀(j:Nat) t k,T[j]? =some t->L[j]? =some k-> ∀s tq9:Int,((s,tq9):It)∈t->1<=s/\s<=topOf G/\nxI G st k s≠[]/\0<=tq9/\L[tq9.toNat]? =some (nxI G st k s)
 has: ∀(j:Nat) t k,T[j]? =some t->L[j]? =some k-> ∀s:Int,1<=s->s<=topOf G->nxI G st k s≠[]-> ∃tq9:Int,((s,tq9):It)∈t
 sort: ∀t∈T,t.Pairwise (fun a b:It=>a.1<b.1)
 tlen: ∀t∈T,t.length<=topOf G
 early: ∀n,0<n->n<L.length-> ∃(j:Nat) (t:List It) (s:Int),j<n/\j<i/\T[j]? =some t/\((s,(n:Int)):It)∈t
theorem Bld.f {G:GramD} {st:Int} {i:Nat} {L T:List (List It)} (h:Bld G st i L T):BldF G st i L T:=by
 induction h with
 |start=>
  refine⟨rfl,by simp,by simp,by simp,rfl,fun k hk=> .inl (by simpa using hk),fun j t k h=>(by simp at h),fun j t k h=>(by simp at h),fun t h=>(by cases h),fun t h=>(by cases h),fun n h1 h2=>by simp at h2;omega⟩
 |next i L T k hb hk hl ih=>
  have r:=rowF G st k ih.nodup (topOf G)
  generalize rowA G st k L (topOf G)=p at *
  obtain⟨L',t'⟩:=p
  simp only at r hl⊢
  obtain⟨e,hp⟩:=r.pre
  have hi:=(List.getElem?_eq_some_iff.1 hk).1
  have up: ∀{n:Nat} {q:List It},L[n]? =some q->L'[n]? =some q:=fun{n q} h=>by
   rw [hp,List.getElem?_append_left (List.getElem?_eq_some_iff.1 h).1];exact h
  have hLl:L.length<=L'.length:=by rw [hp];simp
  have hn':=r.nodup ih.nodup
  have split: ∀(j:Nat) t q,(T++[t'])[j]? =some t->L'[j]? =some q->(t=t'/\q=k)\/(T[j]? =some t/\L[j]? =some q):=fun j t q hj hq=>by
   have hil:=ih.len
   by_cases e:j=i
   ·subst e
    left
    rw [<-hil,List.getElem?_concat_length]at hj
    rw [up hk]at hq
    exact⟨(Option.some.inj hj).symm,(Option.some.inj hq).symm⟩
   ·right
    have hji:j<T.length:=by
     have:=(List.getElem?_eq_some_iff.1 hj).1
     simp only [List.length_append,List.length_singleton]at this
     omega
    rw [List.getElem?_append_left hji]at hj
    have hjl:j<L.length:=by have:=ih.le;omega
    rw [hp,List.getElem?_append_left hjl]at hq
    exact⟨hj,hq⟩
  refine⟨by simp [ih.len],by omega,hl,hn',up ih.first,fun q hq=> ?_,fun j t q hj hq s tq9 h=> ?_,fun j t q hj hq s h1 h2 h3=> ?_,fun t ht=> ?_,fun t ht=> ?_,fun n h1 h2=> ?_⟩
  ·rcases r.kind q hq with hq|⟨s,h1,h2⟩
   ·exact ih.kind q hq
   ·exact .inr ⟨k,s,h1,h2⟩
  ·rcases split j t q hj hq with⟨rfl,rfl⟩|⟨hj,hq⟩
   ·exact r.mem s tq9 h
   ·obtain⟨a,b,c,d,f⟩:=ih.mem j t q hj hq s tq9 h
    exact⟨a,b,c,d,up f⟩
  ·rcases split j t q hj hq with⟨rfl,rfl⟩|⟨hj,hq⟩
   ·exact r.has s h1 h2 h3
   ·exact ih.has j t q hj hq s h1 h2 h3
  ·rcases List.mem_append.1 ht with ht|ht
   ·exact ih.sort t ht
   ·obtain rfl:=List.mem_singleton.1 ht;exact r.sort
  ·rcases List.mem_append.1 ht with ht|ht
   ·exact ih.tlen t ht
   ·obtain rfl:=List.mem_singleton.1 ht;exact r.tlen
  ·by_cases hlt:n<L.length
   ·obtain⟨j,t,s,a,b,c,d⟩:=ih.early n h1 hlt
    exact⟨j,t,s,a,by omega,by rw [List.getElem?_append_left (by have:=ih.len;omega)];exact c,d⟩
   ·obtain⟨s,hs⟩:=r.new n (by omega) h2
    exact⟨i,t',s,by omega,by omega,by rw [<-ih.len,List.getElem?_concat_length],hs⟩
end
section
theorem Bld.prev {G:GramD} {st:Int} {i':Nat} {L' T':List (List It)} (h:Bld G st i' L' T'): ∀{i:Nat},i<i'-> ∃L T k,Bld G st i L T/\L[i]? =some k/\(rowA G st k L (topOf G)).1.length<=2000:=by
 induction h with
 |start=>intro i hi;omega
 |next j L T k hb hk hl ih=>
  intro i hi
  by_cases e:i=j
  ·subst e;exact⟨L,T,k,hb,hk,hl⟩
  ·exact ih (by omega)
theorem Auto.unique {G:GramD} {st:Int} {r r':Option (List (List It)×List (List It))} (h:Auto G st r) (h':Auto G st r'):r=r':=by
 have ok: ∀{L T L' T':List (List It)} {i:Nat},Bld G st L.length L T->Bld G st i L' T'->i<=L.length:=fun{L T L' T' i} hb hb'=>by
  rcases Nat.lt_or_ge L.length i with e|e
  ·obtain⟨L2,T2,k,h1,h2,-⟩:=hb'.prev e
   obtain⟨rfl,-⟩:=hb.fn h1
   have:=(List.getElem?_eq_some_iff.1 h2).1
   omega
  ·exact e
 have two: ∀{L T:List (List It)} {i:Nat} {k:List It} {L' T':List (List It)} {j:Nat},Bld G st i L T->L[i]? =some k->2000<(rowA G st k L (topOf G)).1.length->Bld G st j L' T'->j<=i:=fun{L T i k L' T' j} hb hk hl hb'=>by
  rcases Nat.lt_or_ge i j with e|e
  ·obtain⟨L2,T2,k2,h1,h2,h3⟩:=hb'.prev e
   obtain⟨rfl,-⟩:=hb.fn h1
   rw [hk]at h2
   injection h2 with h2
   subst h2
   omega
  ·exact e
 cases h with
 |ok L T hb=>
  cases h' with
  |ok L' T' hb'=>
   have e1:=ok hb hb'
   have e2:=ok hb' hb
   have e:L.length=L'.length:=by omega
   rw [<-e]at hb'
   obtain⟨rfl,rfl⟩:=hb.fn hb'
   rfl
  |many i L' T' k hb' hk hl=>
   exfalso
   have e1:=two hb' hk hl hb
   have e2:=ok hb hb'
   have e:i=L.length:=by omega
   subst e
   obtain⟨rfl,-⟩:=hb.fn hb'
   have:=(List.getElem?_eq_some_iff.1 hk).1
   omega
 |many i L T k hb hk hl=>
  cases h' with
  |ok L' T' hb'=>
   exfalso
   have e1:=two hb hk hl hb'
   have e2:=ok hb' hb
   have e:i=L'.length:=by omega
   subst e
   obtain⟨rfl,-⟩:=hb.fn hb'
   have:=(List.getElem?_eq_some_iff.1 hk).1
   omega
  |many _ _ _ _ _ _ _=>rfl
def moreC (G:GramD) (st:Int) (o:List It):List It:=canonI (o++o.flatMap fun x=>if(behindI G st x).2=true then rulesI (ofOf G (behindI G st x).1)else [])
def clC (G:GramD) (st:Int) (l:List It):Nat->List It
 |0=>canonI (l.filter (rightI G st))
 |n+1=>moreC G st (clC G st l n)
theorem clC_sound {G:GramD} {st:Int} {l:List It}: ∀(n:Nat),∀z∈clC G st l n,Cl G st l z
 |0,z,hz=>by
  obtain⟨h1,h2⟩:=List.mem_filter.1 (mem_canon.1 hz)
  exact .base z h1 h2
 |n+1,z,hz=>by
  rcases List.mem_append.1 (mem_canon.1 hz)with h|h
  ·exact clC_sound n z h
  ·obtain⟨x,hx,hz⟩:=List.mem_flatMap.1 h
   split at hz
   ·rename_i hb
    obtain⟨k,hk,rfl⟩:=mem_rules.1 hz
    exact .next x (behindI G st x).1 k (clC_sound n x hx) (by rw [<-hb]) hk
   ·cases hz
theorem clC_base {G:GramD} {st:Int} {l:List It} {z:It} (h1:z∈l) (h2:rightI G st z=true): ∀(n:Nat),z∈clC G st l n
 |0=>mem_canon.2 (List.mem_filter.2 ⟨h1,h2⟩)
 |n+1=>mem_canon.2 (List.mem_append_left _ (clC_base h1 h2 n))
theorem clC_is {G:GramD} {st:Int} {l:List It} {n:Nat} (h:clC G st l (n+1)=clC G st l n):IsCl G st l (clC G st l n):=by
 refine⟨by cases n<;>exact canon_strict _,fun z=>⟨clC_sound n z,fun hz=> ?_⟩⟩
 induction hz with
 |base x hx hr=>exact clC_base hx hr n
 |next y s k _ hb hk ih=>
  rw [<-h]
  refine mem_canon.2 (List.mem_append_right _ (List.mem_flatMap.2 ⟨y,ih,?_⟩))
  rw [hb,if_pos rfl]
  exact mem_rules.2 ⟨k,hk,rfl⟩
def rowC (G:GramD) (st:Int) (c:List It) (L:List (List It)):Nat->List (List It)×List It
 |0=>(L,[])
 |m+1=>if canonI (stepsI G st c ((m+1:Nat):Int))=[]then rowC G st c L m else((putK (rowC G st c L m).1 (canonI (stepsI G st c ((m+1:Nat):Int)))).1,(rowC G st c L m).2++[(((m+1:Nat):Int),(putK (rowC G st c L m).1 (canonI (stepsI G st c ((m+1:Nat):Int)))).2)])
theorem rowC_eq {G:GramD} {st:Int} {k:List It} {L:List (List It)} {c:List It} (h:IsCl G st k c): ∀m,rowA G st k L m=rowC G st c L m
 |0=>rfl
 |m+1=>by
  show(if _ then _ else _)=(if _ then _ else _)
  rw [rowC_eq h m,nx_of h]
end
end Go.Proofs.YthlbjgabhpdbfaaGreat

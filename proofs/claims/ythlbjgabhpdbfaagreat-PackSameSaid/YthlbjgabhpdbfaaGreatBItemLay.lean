/- The shelf's layings of slices.SortFunc at items and of cmp.Compare at int, in plain words. -/
import Derived.Shelf.SlSortCmp.NoneTotal
import Derived.Shelf.SlicesG.Cmp
import Derived.Test.YthlbjgabhpdbfaaGreatProg
import Derived.Shelf.Strings.Builder1
import Derived.Test.YthlbjgabhpdbfaaGreatBG7
import Derived.Test.YthlbjgabhpdbfaaGreatBFirstPlain
import Derived.Deep.Cut
import Derived.DeepKeys4
import Derived.Maps.OwnOps
set_option linter.unusedVariables false
set_option linter.unusedSimpArgs false
set_option maxRecDepth 100000
set_option maxHeartbeats 4000000
namespace Go.Proofs.YthlbjgabhpdbfaaGreat
open Go.Proofs.Tryz
open Bool renaming and_eq_true->Za
open List renaming length_append->Zb,length_cons->Zc,length_map->Zd,mem_append->Ze,mem_append_left->Zf,mem_append_right->Zg,mem_filter->Zh,mem_flatMap->Zi,mem_map->Zj,mem_of_getElem?->Zk,mem_singleton->Zl,pairwise_iff_getElem->Zm,take_add_one->Zn,take_of_length_le->Zo
open Nat renaming le_refl->Zp
section
open Go.Shelf
def sortIt_ren:Go.Shelf.Ren:=⟨λ|6=>213|15=>248|14=>247|28=>268|29=>269|20=>260|21=>261|22=>262|23=>263|24=>264|25=>265|26=>266|27=>267|46=>276|47=>277|48=>278|49=>279|50=>280|57=>281|n=>n,λ|22=>109|24=>226|25=>266|3=>3|39=>231|0=>0|53=>338|55=>282|4=>4|46=>332|45=>331|50=>129|5=>5|9=>9|66=>341|70=>345|76=>347|77=>348|n=>n,λ|n=>n⟩
theorem sortIt:Go.Proofs.SlLaysF0.n6 prog sortIt_ren:={
 mixed:=by kernel_rfl
 f6:=⟨f213.name,by decide,func213.trans (congrArg some (by kernel_rfl))⟩
 f14:=⟨f247.name,by decide,func247.trans (congrArg some (by kernel_rfl))⟩
 f15:=func248.trans (congrArg some (by kernel_rfl))
 f20:=⟨f260.name,by decide,func260.trans (congrArg some (by kernel_rfl))⟩
 f21:=⟨f261.name,by decide,func261.trans (congrArg some (by kernel_rfl))⟩
 f22:=⟨f262.name,by decide,func262.trans (congrArg some (by kernel_rfl))⟩
 f23:=⟨f263.name,by decide,func263.trans (congrArg some (by kernel_rfl))⟩
 f24:=⟨f264.name,by decide,func264.trans (congrArg some (by kernel_rfl))⟩
 f25:=⟨f265.name,by decide,func265.trans (congrArg some (by kernel_rfl))⟩
 f26:=⟨f266.name,by decide,func266.trans (congrArg some (by kernel_rfl))⟩
 f27:=⟨f267.name,by decide,func267.trans (congrArg some (by kernel_rfl))⟩
 f28:=func268.trans (congrArg some (by kernel_rfl))
 f29:=func269.trans (congrArg some (by kernel_rfl))
 f46:=⟨f276.name,by decide,func276.trans (congrArg some (by kernel_rfl))⟩
 f47:=func277.trans (congrArg some (by kernel_rfl))
 f48:=func278.trans (congrArg some (by kernel_rfl))
 f49:=⟨f279.name,by decide,func279.trans (congrArg some (by kernel_rfl))⟩
 f50:=⟨f280.name,by decide,func280.trans (congrArg some (by kernel_rfl))⟩
 f57:=⟨f281.name,by decide,func281.trans (congrArg some (by kernel_rfl))⟩
 t0:=underlying0
 a0:=isAgg0
 z0:=sizeOf0
 v0:=zeroValue0
 t3:=underlying3
 a3:=isAgg3
 z3:=sizeOf3
 v3:=zeroValue3
 t4:=underlying4
 a4:=isAgg4
 z4:=sizeOf4
 v4:=zeroValue4
 t5:=underlying5
 a5:=isAgg5
 z5:=sizeOf5
 v5:=zeroValue5
 t9:=underlying9
 a9:=isAgg9
 z9:=sizeOf9
 v9:=zeroValue9
 t22:=underlying109
 a22:=isAgg109
 z22:=sizeOf109
 v22:=zeroValue109
 t25:=underlying266
 a25:=isAgg266
 z25:=sizeOf266
 v25:=zeroValue266
 t39:=underlying231
 a39:=isAgg231
 z39:=sizeOf231
 v39:=zeroValue231
 t45:=underlying331
 a45:=isAgg331
 z45:=sizeOf331
 v45:=zeroValue331
 t46:=underlying332
 a46:=isAgg332
 z46:=sizeOf332
 v46:=zeroValue332
 t50:=underlying129
 a50:=isAgg129
 z50:=sizeOf129
 v50:=zeroValue129
 t53:=underlying338
 a53:=isAgg338
 z53:=sizeOf338
 v53:=zeroValue338
 t55:=underlying282
 a55:=isAgg282
 z55:=sizeOf282
 v55:=zeroValue282
 t66:=underlying341
 a66:=isAgg341
 z66:=sizeOf341
 v66:=zeroValue341
 t70:=underlying345
 a70:=isAgg345
 z70:=sizeOf345
 v70:=zeroValue345
 t76:=underlying347
 a76:=isAgg347
 z76:=sizeOf347
 v76:=zeroValue347
 t77:=underlying348
 a77:=isAgg348
 z77:=sizeOf348
 v77:=zeroValue348}
end
section
open Go.Shelf
def bString_ren:Go.Shelf.Ren:=⟨λ|169=>123|n=>n,λ|70=>183|9=>9|0=>0|72=>185|37=>74|127=>240|3=>3|5=>5|n=>n,λ|n=>n⟩
theorem bString:Go.Proofs.Lays.n169 prog bString_ren:={
 mixed:=by kernel_rfl
 f169:=func123.trans (congrArg some (by kernel_rfl))
 t0:=underlying0
 a0:=isAgg0
 z0:=sizeOf0
 v0:=zeroValue0
 t3:=underlying3
 a3:=isAgg3
 z3:=sizeOf3
 v3:=zeroValue3
 t9:=underlying9
 a9:=isAgg9
 z9:=sizeOf9
 v9:=zeroValue9
 t37:=underlying74
 a37:=isAgg74
 z37:=sizeOf74
 v37:=zeroValue74
 t70:=underlying183
 a70:=isAgg183
 z70:=sizeOf183
 v70:=zeroValue183
 t72:=underlying185
 a72:=isAgg185
 z72:=sizeOf185
 v72:=zeroValue185
 t127:=underlying240
 a127:=isAgg240
 z127:=sizeOf240
 v127:=zeroValue240}
end
section
open Go.Shelf
end
section
open Go.RowKit
theorem Rd.of_blk {w:World} {F:Nat->Prop} {g n size:Nat} {t:TypeId} {us:List Value} (b:Blk w g t us.toArray) (a:F g) (c:us.length=n * size) (hm:n<=maxLen):Rd w F (.slice (some ⟨g,0,none⟩) n n) size us:=
 ⟨_,n,n,rfl,Zp _,hm,c,λ_=>⟨g,0,rfl,a,λj u d=>by rw [b.cell];simpa using d⟩⟩
theorem xf {X:Type} {f:X->Value×Value}: ∀(l:List X) (i:Nat) (p:X),l[i]? =some p->(l.flatMap (λp=>[(f p).1,(f p).2]))[i * 2]? =some (f p).1/\(l.flatMap (λp=>[(f p).1,(f p).2]))[i * 2+1]? =some (f p).2
 |a::r,0,p,h=>by
  simp at h;subst h;simp
 |a::r,i+1,p,h=>by
  have:=xf (f:=f) r i p (by simpa using h);simp only [List.flatMap_cons];rw [show(i+1) * 2=i * 2+2 by omega];exact this
theorem RdR.of_blk {w:World} {F:Nat->Prop} {g:Nat} {t:TypeId} (rvs:List ((Int×List Int)×Value)) (n:Blk w g t (rvs.flatMap (λa=>[Value.int .i64 a.1.1,a.2])).toArray) (f:F g) (h: ∀a∈rvs,RdI w F a.2 a.1.2) (p:rvs.length<=maxLen):
  RdR w F (.slice (some ⟨g,0,none⟩) rvs.length rvs.length) (rvs.map (·.1)):=by
 refine⟨some ⟨g,0,none⟩,rvs.length,by rw [Zd],by rw [Zd];exact Zp _,p,λr=>⟨g,0,rfl,f,λq x e=> ?_⟩⟩;rw [List.getElem?_map]at e;obtain⟨a,d,rfl⟩:=Option.map_eq_some_iff.1 e;have c:=xf (f:=λa:(Int×List Int)×Value=>(Value.int .i64 a.1.1,a.2)) rvs q a d;refine⟨[Value.int .i64 a.1.1,a.2],rfl,⟨a.2,rfl,h a (Zk d)⟩,λj u b=> ?_⟩;rw [n.cell];have i:=(List.getElem?_eq_some_iff.1 b).1;simp only [Zc,List.length_nil]at i;have k:j=0\/j=1:=by omega
 rcases k with rfl|rfl
 ·simp at b;subst b;simpa using c.1
 ·simp at b;subst b;simpa using c.2
end
section
open Go.RowKit
theorem infoRule:(prog.info? 98).map (λa=>(a.zero,a.size,a.bytes))=some (some (.agg #[.int .i64 0,.slice none 0 0]),2,32):=by kernel_rfl
theorem elemRule:dZ prog 23 98 (.agg #[.int .i64 0,.slice none 0 0]) 2 32:=⟨underlying23,infoRule,rfl,by decide⟩
theorem C6 {w w':World} {base:Nat} {e:TypeId} {size n:Nat} {v:Value} {xs:List Value} (h:w.ownsRow base e size v n xs) {z:Nat} (b:Below z w w') (d: ∀a,v.ownBlock=some a->a<z):w'.ownsRow base e size v n xs:=
 (aa.of_below b).own h λa c f=>by have:=d a c;omega
theorem ah {w w':World} {base:Nat} {e:TypeId} {size n:Nat} {v:Value} {xs:List Value} (h:w.ownsRow base e size v n xs) (a:Below w.heap.size w w'):w'.ownsRow base e size v n xs:=
 C6 h a λc b=>(h.lt c b).2
theorem yQ {w:World} {base:Nat} {e:TypeId} {size n:Nat} {v:Value} {xs:List Value} (h:w.ownsRow base e size v n xs) {p:Addr} (c:v.ownBlock≠some p.block) (u:Value):(w.setCell p u).ownsRow base e size v n xs:=
 ((aa.refl (λa=>a=p.block) w).setCell (λ_=>rfl) u).own h λa b e=>c (by rw [b,e])
section
variable {w w' w2 : World} {base B : Nat} {vt vn vr v : Value} {st : Int} {ts ns : List ByteArray} {rvs : List ((Int × List Int) × Value)}
end
end
section
open Go.RowKit
attribute [local irreducible] wpStill aB aO
theorem infoItem:(prog.info? 226).map (λa=>(a.zero,a.size,a.bytes))=some (some (.agg #[.int .i64 0,.int .i64 0]),2,16):=by kernel_rfl
theorem elemItem:dZ prog 109 226 (.agg #[.int .i64 0,.int .i64 0]) 2 16:=⟨underlying109,infoItem,rfl,by decide⟩
theorem C7 {w:World} {base:Nat} {e:TypeId} {size n:Nat} {v:Value} {xs:List Value} (h:w.ownsRow base e size v n xs) (o:Obj):(w.alloc o).ownsRow base e size v n xs:=ah h ((Below.refl _ w).alloc (Zp _) o)
end
section
open Go.RowKit
attribute [local irreducible] wpStill aB aO
section
variable {w wr wr' : World} {F : Nat -> Prop} {A1 : Option Addr} {c1 : Nat} {A2 : Option Addr} {c2 : Nat} {A3 : Option Addr} {c3 T N R : Nat} {st : Int} {G : ac} {v : Value} {l : List It} {u : Value} {o : List It}
end
end
section
open Go.RowKit
attribute [local irreducible] wpStill aB aO
end
section
open Go.RowKit Go.Shelf Go.Lib Go.Sort
attribute [local irreducible] wpStill aB aO
def jk (x:It):List Value:=[.int .i64 x.1,.int .i64 x.2]
theorem tY (p:Option Addr) (a:Nat) (b:Value) (w:World):Calls prog 213 #[.slice p 0 a,b] w λe w'=>e= .returned (.tuple #[])/\w'=w:=
 AnyF.slices_SortFunc_none sortIt p a b w
end
section
open Go.RowKit Go.Shelf Go.Lib Go.Sort
attribute [local irreducible] wpStill aB aO
def HI (w:World) (g:Nat) (l:List It):Prop:= ∀(k:Nat) (x:It),l[k]? =some x->(w.cell? ⟨g,k * 2,none⟩=some (.int .i64 x.1)/\w.frozen? ⟨g,k * 2,none⟩=false)/\(w.cell? ⟨g,k * 2+1,none⟩=some (.int .i64 x.2)/\w.frozen? ⟨g,k * 2+1,none⟩=false)
theorem HI.drewN {w:World} {g:Nat} {l:List It} (h:HI w g l) (q:Nat):HI (w.drewN q) g l:=h
theorem HI.set {w:World} {g:Nat} {l:List It} (h:HI w g l) {k:Nat} (q:k<l.length) (x:It):HI ((w.setCell ⟨g,k * 2,none⟩ (.int .i64 x.1)).setCell ⟨g,k * 2+1,none⟩ (.int .i64 x.2)) g (l.set k x):=by
 intro j r b;have c:j<l.length:=by have:=(List.getElem?_eq_some_iff.1 b).1;simpa using this
 obtain⟨⟨f,n⟩,i,p⟩:=h j l[j] (List.getElem?_eq_getElem c);rw [World.frozen?_setCell,World.frozen?_setCell,World.frozen?_setCell,World.frozen?_setCell];refine⟨⟨?_,n⟩,?_,p⟩
 ·by_cases e:j=k
  ·subst e;rw [List.getElem?_set_self c]at b;injection b with b
   subst b;rw [World.cell?_setCell_other _ _ _ _ (λa=>by injection a with _ a;omega),World.cell?_setCell_same' _ _ _ (by rw [f];rfl)]
  ·rw [List.getElem?_set_ne (λd=>e d.symm),List.getElem?_eq_getElem c]at b;injection b with b
   subst b;rw [World.cell?_setCell_other _ _ _ _ (λa=>by injection a with _ a;omega),World.cell?_setCell_other _ _ _ _ (λa=>by injection a with _ a;omega)];exact f
 ·by_cases e:j=k
  ·subst e;rw [List.getElem?_set_self c]at b;injection b with b
   subst b;refine World.cell?_setCell_same' _ _ _ ?_;rw [World.cell?_setCell_other _ _ _ _ (λa=>by injection a with _ a;omega),i];rfl
  ·rw [List.getElem?_set_ne (λd=>e d.symm),List.getElem?_eq_getElem c]at b;injection b with b
   subst b;rw [World.cell?_setCell_other _ _ _ _ (λa=>by injection a with _ a;omega),World.cell?_setCell_other _ _ _ _ (λa=>by injection a with _ a;omega)];exact i
theorem HI.holds {w:World} {g:Nat} {l:List It} (h:HI w g l):HoldsK jk 2 w g 0 l.toArray:=by
 intro a c;rw [size_flatK]at c;rw [get_flatK _ _ _ _ c,Nat.zero_add];have f:a/2<l.length:=by simp at c;omega
 obtain⟨⟨i,k⟩,n,p⟩:=h (a/2) l[a/2] (List.getElem?_eq_getElem f);have e:l.toArray[a/2]! =l[a/2]:=by simp [f]
 rw [e];rcases Nat.mod_two_eq_zero_or_one a with q|r
 ·rw [q];have d:a=a/2 * 2:=by omega
  have b:(⟨g,a,none⟩:Addr)=⟨g,a/2 * 2,none⟩:=by rw [<-d]
  rw [b];exact⟨i,k⟩
 ·rw [r];have d:a=a/2 * 2+1:=by omega
  have b:(⟨g,a,none⟩:Addr)=⟨g,a/2 * 2+1,none⟩:=by rw [<-d]
  rw [b];exact⟨n,p⟩
theorem HI.of_holds {w:World} {g:Nat} {l:List It} (h:HoldsK jk 2 w g 0 l.toArray):HI w g l:=by
 intro c i a;have b:=(List.getElem?_eq_some_iff.1 a).1;have e:l.toArray[c]! =i:=by
  rw [List.getElem?_eq_getElem b]at a;injection a with a;simp [b,a]
 have d:=HoldsK.cell h (i:=c) (c:=0) (by simpa using b) (by omega);have f:=HoldsK.cell h (i:=c) (c:=1) (by simpa using b) (by omega);rw [e,Nat.zero_add]at d f;exact⟨d,f⟩
theorem HI.of_own {w:World} {base:Nat} {e:TypeId} {n g c:Nat} {l:List It} (h:w.ownsRow base e 2 (.slice (some ⟨g,0,none⟩) n c) n (ar l)) (C:0<l.length):HI w g l:=by
 have k:=h.1;rw [dL]at k;rcases h.2 with⟨a,-⟩|⟨y,x,i,a,z,d,D,A,E,p⟩
 ·cases a
 ·injection a with a _ _
  injection a with a
  injection a with a _ _
  subst a;have f: ∀j u,(ar l)[j]? =some u->w.cell? ⟨g,j,none⟩=some u/\w.frozen? ⟨g,j,none⟩=false:=λj u b=>by
   constructor
   ·rw [cell_of_row w g j i e (0,0) d];rw [<-p,List.getElem?_take]at b
    split at b
    ·simpa using b
    ·cases b
   ·unfold World.frozen?;rw [d];simp
  intro H I q;obtain⟨r,t⟩:=jW q;exact⟨f _ _ r,f _ _ t⟩
theorem HI.rd {w:World} {g n c:Nat} {l:List It} (h:HI w g l) (f:n=l.length) (e:n<=c) (hm:c<=maxLen):aH w (λd=>d=g) (.slice (some ⟨g,0,none⟩) n c) l:=
 aH.mk f e hm rfl λk p i=>by obtain⟨⟨a,-⟩,b,-⟩:=h k p i;rw [Nat.zero_add];exact⟨a,b⟩
theorem HI.take {w:World} {g m:Nat} {l:List It} (h:HI w g l):HI w g (l.take m):=λb c a=>by
 rw [List.getElem?_take]at a
 split at a
 ·exact h b c a
 ·cases a
theorem zK (w:World) (g n:Nat) (d:Array It) (c:Array Obj):aa (λa=>a=g) w (sortWorldK jk 2 w g 0 n d c):=by
 refine⟨rfl,rfl,rfl,?_,λf hi b=> ?_⟩
 ·unfold sortWorldK grow putRowK putRow mapBlock Sort.ahead;simp
 ·unfold sortWorldK grow putRowK putRow mapBlock Sort.ahead;simp only;rw [Array.getElem?_append_left (by simpa using hi),Array.getElem?_modify,if_neg (λe=>b e.symm)]
theorem yz {w:World} {g:Nat} {l:List It} (h:HI w g l) {k:Nat} (A:k<l.length) (c:Nat) (x:TypeId):(Builtin.clear_ #[109] x #[.slice (some ⟨g,k * 2,none⟩) (l.length - k) c]).run prog w= .ok (.tuple #[]) (w.setCells g (k * 2) (List.replicate ((l.length - k) * 2) (.int .i64 0))):=by
 obtain⟨m,hm⟩: ∃m,l.length - k=m+1:=⟨l.length - k - 1,by omega⟩;have r:(Builtin.zeroCells (Value.cells (.agg #[.int .i64 0,.int .i64 0])) (m+1)).toList=List.replicate ((m+1) * 2) (.int .i64 0):=by
  simp [Builtin.zeroCells,Value.cells];apply List.ext_getElem
  ·simp
  ·intro t y z;simp;rcases Nat.mod_two_eq_zero_or_one t with e|e<;>simp [e]
 have b: ∀j,j<(m+1) * 2->(w.cell? ⟨g,k * 2+j,none⟩).isSome=true/\w.frozen? ⟨g,k * 2+j,none⟩=false:=λj a=>by
  obtain⟨⟨f,i⟩,n,p⟩:=h (k+j/2) l[k+j/2] (List.getElem?_eq_getElem (by omega));rcases Nat.mod_two_eq_zero_or_one j with e|e
  ·rw [show k * 2+j=(k+j/2) * 2 by omega,f];exact⟨rfl,i⟩
  ·rw [show k * 2+j=(k+j/2) * 2+1 by omega,n];exact⟨rfl,p⟩
 have d:=run_storeCells_cells (P:=prog) g (k * 2) (List.replicate ((m+1) * 2) (.int .i64 0)) 0 w (λj a=>by rw [Nat.add_zero];exact(b j (by simpa using a)).1) (λj a=>by rw [Nat.add_zero];exact(b j (by simpa using a)).2) (by intro v q;rw [List.eq_of_mem_replicate q];rfl);simp only [Nat.add_zero]at d;rw [hm];simp [Builtin.clear_,run_underlying underlying109,zeroValue226,r,d]
end
section
open Go.RowKit Go.Shelf Go.Lib Go.Sort
attribute [local irreducible] wpStill aB aO
theorem aa.setCells {S:Nat->Prop} {a:World} {g:Nat} (d:S g): ∀(c:List Value) (o:Nat) {b:World},aa S a b->aa S a (b.setCells g o c)
 |[],_,_,h=>h
 |v::c,o,b,h=>aa.setCells d c (o+1) (h.setCell (p:=⟨g,o,none⟩) (λ_=>d) v)
theorem HI.cleared {w:World} {g k m:Nat} {l:List It} (h:HI w g l) (p:l.length<=k) (f:List Value):HI (w.setCells g (k * 2) f) g l:=by
 intro j i a;have n:=(List.getElem?_eq_some_iff.1 a).1;obtain⟨⟨b,c⟩,d,e⟩:=h j i a;rw [World.frozen?_setCells,World.frozen?_setCells,World.cell?_setCells_out _ _ _ _ _ (λ_ _=> .inl (by simp;omega)),World.cell?_setCells_out _ _ _ _ _ (λ_ _=> .inl (by simp;omega))];exact⟨⟨b,c⟩,d,e⟩
def xB (w:World) (g cap:Nat) (l:List It) (e:Ending) (w':World):Prop:=e= .returned (.slice (some ⟨g,0,none⟩) l.length cap)/\HI w' g l/\aa (λb=>b=g) w w'
theorem vP {w:World} {g r n:Nat} {l:List It} (h:HI w g l) (ad:n=l.length) (cm:n<=r) (hm:r<=9223372036854775807):
  Calls prog 215 #[.slice (some ⟨g,0,none⟩) n r] w (xB w g r (dk l)):=by
 by_cases cl:n<2
 ·have b7:(n:Int)<2:=by omega
  have bl:=AI (l:=l) (by omega);obtain⟨O,q,bO⟩:=aK h ad bl;clear h ad bl
  go_enter func215,ntmps215
  go_wp2_with fail
  go_ret
  rw [bO.out];exact⟨by rw [q.out];rfl,O.out,aa.refl _ _⟩
 ·have b7: ¬(n:Int)<2:=by omega
  have bp:=AJ (l:=l);obtain⟨O,q,a9⟩:=aK h ad bp;clear h ad bp
  go_enter func215,ntmps215
  go_wp2_with fail
  go_loopw [3] (λU wr=> ∃a f:Nat,1<=a/\a<=n/\U= .int .i64 a/\wr=w.drewN f/\dk (l.take a)=l.take a) (λU _=>n - (intOf U).toNat)
  case atStart=>exact⟨1,0,Zp _,by omega,rfl,rfl,a9.out⟩
  case round=>
   clear a9;obtain⟨a,f,cs,cp,rfl,rfl,y⟩:=hrel;by_cases ca:a<n
   ·have cb:(a:Int)<(n:Int):=(by omega);obtain⟨J,P⟩: ∃J,a=J+1:=⟨a - 1,by omega⟩;have cf:IntKind.i64.wrap ((a:Int) - 1)=(J:Int):=(by rw [IntKind.wrap_i64];omega);have ce:(J:Int)<(n:Int):=(by omega);obtain⟨⟨k,p⟩,c⟩: ∃A,l[a]? =some A:=⟨_,List.getElem?_eq_getElem (by rw [<-q.out];exact ca)⟩;obtain⟨⟨y0,M⟩,d⟩: ∃A,l[J]? =some A:=⟨_,List.getElem?_eq_getElem (by rw [<-q.out];omega)⟩;obtain⟨⟨V,-⟩,W,-⟩:=O.out a _ c;obtain⟨⟨X,-⟩,Y,-⟩:=O.out J _ d;simp only at V W X Y;have a3:=rF k p y0 M;have bq:=λa5 a6 f=>sU a5 a6 f (k,p) (y0,M)
    have I:=vf (l:=l) (r:=J) d (by rw [<-P];exact c);rw [show J+2=a+1 by omega,<-P,y]at I;by_cases D:((k,p):It)=(y0,M)
    ·rw [decide_eq_true D]at a3;rw [if_pos D.symm]at I;have cn: ¬r=a:=(by omega);have ct:(a:Int)<=(r:Int):=(by omega);have cr:(0:Int)<=(a:Int):=(by omega);have bs:a=(dk (l.take (a+1))).length:=(by rw [I,List.length_take];have:=q.out;omega);obtain⟨b0,aS,aT,bP,a8,bY,bW⟩:=de P c d D y I bs;clear P c d D y I bs
     go_wp2_with fail
     refine aU (by kernel_rfl) (by kernel_rfl) ?_
     repeat still_step
     refine wpStill_nil ?_
     go_wp2_with fail
     go_loopw [3,5] (λU m wr=> ∃(b s:Nat) (L:List It),U= .int .i64 b/\m= .int .i64 s/\1<=s/\a+s<=n/\b+1<=a+s/\L.length=n/\b=(dk (l.take (a+s))).length/\L.take b=dk (l.take (a+s))/\(∀j,a+s<=j+1->L[j]? =l[j]?)/\HI wr g L/\aa (λa1=>a1=g) w wr) (λ_ m _=>n - (intOf m).toNat)
     case atStart=>exact⟨a,1,l,rfl,rfl,Zp _,by omega,Zp _,q.out.symm,bW.out,bY.out.symm,λ_ _=>rfl,O.out.drewN _,(aa.refl _ _).drewN _⟩
     case round=>
      clear V W X Y a3 bq cf ce;obtain⟨b,s,L,rfl,rfl,cz,cA,cy,C,H,x,t,i,K⟩:=hrel;have cw:(b:Int)<(n:Int):=(by omega);by_cases cc:a+s<n
      ·have cd:(s:Int)<((n - a:Nat):Int):=(by omega);obtain⟨u,Q⟩: ∃u,s=u+1:=⟨s - 1,by omega⟩;have cC:IntKind.i64.wrap ((s:Int) - 1)=(u:Int):=(by rw [IntKind.wrap_i64];omega);have cB:(u:Int)<((n - a:Nat):Int):=(by omega);obtain⟨⟨k,p⟩,c⟩: ∃A,l[a+s]? =some A:=⟨_,List.getElem?_eq_getElem (by rw [<-q.out];exact cc)⟩;obtain⟨⟨y0,M⟩,d⟩: ∃A,l[a+u]? =some A:=⟨_,List.getElem?_eq_getElem (by rw [<-q.out];omega)⟩;obtain⟨⟨V,-⟩,W,-⟩:=i (a+s) _ ((t _ (by omega)).trans c);obtain⟨⟨X,-⟩,Y,-⟩:=i (a+u) _ ((t _ (by omega)).trans d);rw [Nat.add_mul]at V W X Y;obtain⟨⟨cE,cG⟩,S⟩: ∃A,L[b]? =some A:=⟨_,List.getElem?_eq_getElem (by omega)⟩;obtain⟨⟨ba,b5⟩,bb,b6⟩:=i b _ S;simp only at V W X Y ba bb;have bt:=Dv k p y0 M;have bq:=λa5 a6 f=>sU a5 a6 f (k,p) (y0,M)
       have z:=vf (l:=l) (r:=a+u) d (by rw [Nat.add_assoc,<-Q];exact c);rw [show a+u+2=a+(s+1) by omega,show a+u+1=a+s by omega]at z;by_cases E:((k,p):It)=(y0,M)
       ·rw [decide_eq_true E]at bt;rw [if_pos E.symm]at z;obtain⟨b1,aS,aT,bR,b2,ap,ak,Z,an,al,ai,a0⟩:=gx Q c d E S z C H x t i K;clear Q c d E S z C H x t i K;clear ba b5 bb b6
        go_wp2_with fail
        refine aU (by kernel_rfl) (by kernel_rfl) ?_
        repeat still_step
        refine wpStill_nil ?_
        go_wp2_with fail
        go_roundw
        case rel=>exact⟨b,s+1,L,rfl,by go_num,by omega,by omega,by omega,ak.out,by rw [ap.out];exact Z.out,by rw [ap.out];exact an.out,λj b9=>al.out j (by omega),ai.out.drewN _,a0.out.drewN _⟩
        case measure=>simp [intOf];omega
       ·rw [decide_eq_false E]at bt;rw [if_neg (λe=>E e.symm)]at z;have br:b+1=(dk (l.take (a+(s+1)))).length:=(by rw [z,Zb,<-H];rfl);have bg:(L.set b (k,p)).take (b+1)=dk (l.take (a+(s+1))):=by
         rw [z,Zn,List.getElem?_set_self (by omega),List.take_set_of_le (Zp _),x];rfl
        have be: ∀j,a+(s+1)<=j+1->(L.set b (k,p))[j]? =l[j]? :=λj b9=>by
         rw [List.getElem?_set_ne (by omega)];exact t j (by omega)
        have a2:=λf=>HI.set (i.drewN f) (k:=b) (by omega) (k,p)
        have bu:=λf ch ci=>((K.drewN f).setCell (p:=⟨g,b * 2,none⟩) (λ_=>rfl) ch).setCell (p:=⟨g,b * 2+1,none⟩) (λ_=>rfl) ci
        have bd:(L.set b (k,p)).length=n:=(by rw [List.length_set];exact C);simp only at a2;obtain⟨b1,aS,aT,bR,b2,ap,ak,Z,an,al,ai,a0,bS,bC⟩:=dh Q c d E S z C H x t i K br bg;obtain⟨bB,bx,b3,bA⟩:=aA be a2 bu bd;clear Q c d E S z C H x t i K br bg be a2 bu bd
        go_wp2_with fail
        refine aU (by kernel_rfl) (by kernel_rfl) ?_
        repeat still_step
        refine wpStill_nil ?_
        go_wp2_with fail
        go_roundw
        case rel=>exact⟨b+1,s+1,L.set b (k,p),by go_num,by go_num,by omega,by omega,by omega,bA.out,bS.out,bC.out,bB.out,bx.out 1,b3.out 1 _ _⟩
        case measure=>simp [intOf];omega
      ·have cd: ¬(s:Int)<((n - a:Nat):Int):=(by omega);have bo:a+s=n:=(by omega);have a4:dk (l.take (a+s))=dk l:=(by rw [Zo (by have:=q.out;omega)]);rw [a4]at H x;have co: ¬r=b:=(by omega);have cu:(b:Int)<=(r:Int):=(by omega);have cx:(b:Int)<=(n:Int):=(by omega);have cv:(0:Int)<=(b:Int):=(by omega);have b8:=λcg=>yz i (k:=b) (by omega) (r - b) cg
       rw [C]at b8;have bc:=λa7=>HI.cleared (k:=b) (m:=0) (x▸HI.take (m:=b) i) (by omega) a7
       have bw:=λa7=>aa.setCells (g:=g) (S:=λa1=>a1=g) rfl a7 (b * 2) K
       obtain⟨ak,Z,an,al,ai,a0,ck,bz,b4,cj⟩:=fp C H x t i K a4 bc bw bo;clear C H x t i K a4 bc bw bo
       go_wp2_with fail
       go_ret
       exact⟨by rw [Z.out];rfl,bz.out _,b4.out _⟩
    ·rw [decide_eq_false D]at a3;rw [if_neg (λe=>D e.symm)]at I;have bi:dk (l.take (a+1))=l.take (a+1):=(by rw [I,Zn,c];rfl);clear I;obtain⟨b0,aS,aT,bP,a8,bG⟩:=aM P c d D y bi;clear P c d D y bi
     go_wp2_with fail
     refine aU (by kernel_rfl) (by kernel_rfl) ?_
     repeat still_step
     refine wpStill_nil ?_
     go_wp2_with fail
     go_roundw
     case rel=>exact⟨a+1,f+1,by omega,by omega,by go_num,rfl,bG.out⟩
     case measure=>simp [intOf];omega
   ·have cb: ¬(a:Int)<(n:Int):=(by omega);have bh:dk l=l:=(by rw [Zo (by have:=q.out;omega)]at y;exact y);obtain⟨a8,bE⟩:=av y bh;clear y bh
    go_wp2_with fail
    go_ret
    rw [bE.out];exact⟨by rw [q.out];rfl,O.out.drewN f,(aa.refl _ _).drewN f⟩
theorem xN (p:Option Addr) (a:Nat) (w:World):Calls prog 215 #[.slice p 0 a] w λe w'=>e= .returned (.slice p 0 a)/\w'=w:=by
 go_enter func215,ntmps215
 go_wp2_with fail
 go_ret
 exact⟨rfl,by first|rfl|trivial⟩
end
section
open Go.RowKit
attribute [local irreducible] wpStill aB aO
section
variable {w wr wr' : World} {F : Nat -> Prop} {A1 : Option Addr} {c1 : Nat} {A2 : Option Addr} {c2 : Nat} {A3 : Option Addr} {c3 T N R : Nat} {st : Int} {G : ac} {vl : Value} {l : List It} {vo : Value} {o : List It}
end
end
section
open Go.RowKit Go.Maps
theorem laidOut:laidOutB prog=true:=by kernel_rfl
theorem intCells:prog.cellsOf 3=1:=by kernel_rfl
theorem ii {n:Int} (h: -9223372036854775808<=n/\n<=9223372036854775807):(Lit.int .i64 n).wf=true:=by
 simp [Lit.wf,IntKind.min,IntKind.max,IntKind.signed,IntKind.bits];omega
noncomputable def G3 (x:It):Lit:=(keyOf prog 226 (ItV x)).getD (.bool false)
attribute [irreducible] G3
end
section
open Go.RowKit Go.Maps
attribute [local irreducible] wpStill aB aO
section
variable {w wr wr' : World} {F : Nat -> Prop} {A1 : Option Addr} {c1 : Nat} {A2 : Option Addr} {c2 : Nat} {A3 : Option Addr} {c3 T N R : Nat} {st : Int} {G : ac} {vl : Value} {l : List It} {s : Nat} {vo : Value} {o : List It}
end
end
section
open Go.RowKit Go.Maps
attribute [local irreducible] wpStill aB aO
structure KnI (G:ac) (st:Int):Prop where
 r:G.rules.length<=300
 non: ∀s k,k∈az G s->am G s=true
 short:Bk G st
theorem KnI.of_check {G:ac} {st:Int} (h:bf G st=0):KnI G st:=by
 obtain⟨hm,-,-,a,-,-⟩:=lU h;obtain⟨-,-,c,b⟩:=pD hm;refine⟨c,λs k d=> ?_,λg=> ?_⟩
 ·obtain⟨n,p,-,f⟩:=lF.1 d;unfold ie at a;rw [Za,List.all_eq_true]at a;have:=a.2 _ (Zk f);unfold fk at this;rw [Za]at this;exact this.1
 ·unfold jD at b;rw [List.all_eq_true]at b;unfold aD
  split
  ·simp
  ·split
   ·simp
   ·cases e:G.rules[g.toNat]? with
    |none=>simp
    |some i=>have:=b i (Zk e);simp at this⊢;omega
section
variable {w : World} {F : Nat -> Prop} {A1 : Option Addr} {c1 : Nat} {A2 : Option Addr} {c2 : Nat} {A3 : Option Addr} {c3 T N R : Nat} {st : Int} {G : ac} {vl : Value} {l : List It}
end
end
section
theorem ki: ∀(N:Nat) (a:Int) {l:List Int},l.Nodup->(∀x∈l,a<x/\x<=a+N)->l.length<=N
 |0,a,l,_,h=>by
  match l,h with
  |[],_=>exact Zp _
  |x::r,h=>have:=h x (List.mem_cons_self ..);omega
 |N+1,a,l,hn,h=>by
  by_cases hm:(a+(N+1:Nat):Int)∈l
  ·have c:=List.length_erase_of_mem hm;have d:=ki N a (hn.erase (a+(N+1:Nat):Int)) (λx b=>by
    obtain⟨g,f⟩:=(hn.mem_erase_iff).1 b
    have:=h x f
    omega)
   omega
  ·have:=ki N a hn (λx b=>by
    have c:=h x b
    have d:x≠a+(N+1:Nat):=λe=>hm (e▸b)
    omega)
   omega
theorem lJ {G:ac} {l:List Int} (b:l.Nodup) (h: ∀a∈l,am G a=true):l.length<=G.nons.length:=by
 refine ki G.nons.length G.terms.length b λa c=> ?_
 have:=h a c;unfold am ao at this;simp only [Za,decide_eq_true_eq]at this;omega
theorem rN {G:ac} {s:Int}:(az G s).length<=G.rules.length:=by
 unfold az d8;rw [Zd];exact Nat.le_trans (List.length_filter_le _ _) (by simp)
inductive Bg (G:ac) (st:Int) (s:Int):Int->Prop
 |base:Bg G st s s
 |next (n k m:Int):Bg G st s n->k∈az G n->aw G st (k,0)=(m,true)->am G m=true->Bg G st s m
def cW (ks:List Int):List It:=ks.map λk=>(k,0)
theorem zO {a:List Int} {k:Nat} {r:Int} (h:a[k]? =some r):cW (a.take (k+1))=cW (a.take k)++[(r,0)]:=by
 unfold cW;rw [Zn,h,List.map_append];rfl
theorem mq (a:List Int):(cW a).length=a.length:=by unfold cW;simp
theorem BK {b:List Int} {k:Nat} {x:It} (h:(cW b)[k]? =some x): ∃a,b[k]? =some a/\x=(a,0):=by
 unfold cW at h;rw [List.getElem?_map]at h;obtain⟨a,c,rfl⟩:=Option.map_eq_some_iff.1 h;exact⟨a,c,rfl⟩
theorem mB {d:List Int} {x:It}:x∈cW d↔ ∃a∈d,x=(a,0):=by
 unfold cW;rw [Zj];exact⟨λ⟨a,b,c⟩=>⟨a,b,c.symm⟩,λ⟨a,b,c⟩=>⟨a,b,c.symm⟩⟩
def uh (G:ac) (st:Int) (s:Int) (o:List It):Prop:= ∀z,z∈o↔ ∃n k,Bg G st s n/\k∈az G n/\z=(k,0)
structure je (G:ac) (st:Int) (s:Int) (done todo:List Int) (all:List It):Prop where
 nodup:(done++todo).Nodup
 sound: ∀n∈done++todo,Bg G st s n/\am G n=true
 first:s∈done++todo
 all_:all=done.flatMap λn=>cW (az G n)
 closed: ∀n∈done,∀k∈az G n,∀m,aw G st (k,0)=(m,true)->am G m=true->m∈done++todo
structure jC (G:ac) (st:Int) (s:Int) (done:List Int) (n0:Int) (todo:List Int) (j:Nat):Prop where
 nodup:(done++[n0]++todo).Nodup
 sound: ∀n∈done++[n0]++todo,Bg G st s n/\am G n=true
 first:s∈done++[n0]++todo
 closed: ∀n∈done,∀k∈az G n,∀m,aw G st (k,0)=(m,true)->am G m=true->m∈done++[n0]++todo
 here: ∀k∈(az G n0).take j,∀m,aw G st (k,0)=(m,true)->am G m=true->m∈done++[n0]++todo
section
variable {G : ac} {st s : Int} {done todo : List Int} {all : List It} {n0 : Int} {j : Nat}
theorem je.start (h:am G s=true):je G st s [] [s] []:=
 ⟨by simp,λb a=>by have:b=s:=(by simpa using a);subst this;exact⟨.base,h⟩,by simp,rfl,λb a=>by cases a⟩
theorem je.len (h:je G st s done todo all):done.length+todo.length<=G.nons.length:=by
 have:=lJ h.nodup λb a=>(h.sound b a).2
 rwa [Zb]at this
theorem jC.len (h:jC G st s done n0 todo j):done.length+1+todo.length<=G.nons.length:=by
 have:=lJ h.nodup λb a=>(h.sound b a).2
 rwa [Zb,Zb]at this
theorem je.allLen (h:je G st s done todo all) (d:G.rules.length<=300):all.length<=done.length * 300:=by
 rw [h.all_];have: ∀a:List Int,(a.flatMap λb=>cW (az G b)).length<=a.length * 300:=by
  intro a
  induction a with
  |nil=>simp
  |cons c f e=>
   rw [List.flatMap_cons,Zb,mq];have:=rN (G:=G) (s:=c);simp only [Zc];omega
 exact this done
theorem je.take (h:je G st s done (n0::todo) all):jC G st s done n0 todo 0:=by
 have e:done++[n0]++todo=done++n0::todo:=by simp
 exact⟨by rw [e];exact h.nodup,by rw [e];exact h.sound,by rw [e];exact h.first,by rw [e];exact h.closed,λb a=>by cases a⟩
theorem jC.back (h:jC G st s done n0 todo (az G n0).length) (f:all=done.flatMap λb=>cW (az G b)):je G st s (done++[n0]) todo (all++cW (az G n0)):=by
 refine⟨h.nodup,h.sound,h.first,by rw [List.flatMap_append,<-f];simp,λb a e c m hm d=> ?_⟩;rcases Ze.1 a with a|a
 ·exact h.closed b a e c m hm d
 ·obtain rfl:=Zl.1 a;have:=h.here;rw [List.take_length]at this;exact this e c m hm d
theorem jC.skip {r:Int} (h:jC G st s done n0 todo j) (c:(az G n0)[j]? =some r) (hm: ∀m,aw G st (r,0)=(m,true)->am G m=true->m∈done++[n0]++todo):jC G st s done n0 todo (j+1):=by
 refine⟨h.nodup,h.sound,h.first,h.closed,λb a m=> ?_⟩;rw [Zn,c]at a;rcases Ze.1 a with a|a
 ·exact h.here b a m
 ·have:b=r:=by simpa using a
  subst this;exact hm m
theorem jC.put {r m:Int} (h:jC G st s done n0 todo j) (n:(az G n0)[j]? =some r) (hm:aw G st (r,0)=(m,true)) (k:am G m=true) (y:m∉done++[n0]++todo):jC G st s done n0 (todo++[m]) (j+1):=by
 have e:done++[n0]++(todo++[m])=(done++[n0]++todo)++[m]:=by simp
 refine⟨?_,?_,?_,?_,?_⟩
 ·rw [e];exact List.nodup_append.2 ⟨h.nodup,by simp,λz t p x=>by
   have:p=m:=by simpa using x
   subst this
   exact λq=>y (q▸t)⟩
 ·rw [e];intro g b;rcases Ze.1 b with b|b
  ·exact h.sound g b
  ·obtain rfl:=Zl.1 b;exact⟨.next n0 r _ (h.sound n0 (by simp)).1 (Zk n) hm k,k⟩
 ·rw [e];exact Zf _ h.first
 ·rw [e];exact λg b d a i c f=>Zf _ (h.closed g b d a i c f)
 ·rw [e];intro d a i c f;rw [Zn,n]at a;rcases Ze.1 a with a|a
  ·exact Zf _ (h.here d a i c f)
  ·have:d=r:=by simpa using a
   subst this;rw [hm]at c;injection c with c _
   subst c;simp
theorem je.is (h:je G st s done [] all):uh G st s all:=by
 intro t;rw [h.all_,Zi];constructor
 ·rintro⟨b,g,k⟩;obtain⟨c,a,rfl⟩:=mB.1 k;exact⟨b,c,(h.sound b (by simpa using g)).1,a,rfl⟩
 ·rintro⟨b,c,d,a,rfl⟩;refine⟨b,?_,mB.2 ⟨c,a,rfl⟩⟩;clear a
  induction d with
  |base=>simpa using h.first
  |next r p q _ f e i n=>simpa using h.closed r n p f q e i
end
theorem wu {G:ac} {st:Int} (A:KnI G st) {l:List It} (t: ∀b∈l,aQ G st b=true) (z:It):
  Cl G st l z↔z∈l\/ ∃b∈l,∃c m a,aw G st b=(c,true)/\am G c=true/\Bg G st c m/\a∈az G m/\z=(a,0):=by
 constructor
 ·intro h
  induction h with
  |base b d _=>exact .inl d
  |next J s a _ e n p=>
   have r:=A.non s a n;rcases p with D|⟨b,d,c,m,I,f,q,g,i,rfl⟩
   ·exact .inr ⟨J,D,s,s,a,e,r,.base,n,rfl⟩
   ·exact .inr ⟨b,d,c,s,a,f,q,.next m I s g i e r,n,rfl⟩
 ·rintro(h|⟨b,d,c,m,a,f,q,g,i,rfl⟩)
  ·exact .base z h (t z h)
  ·have E: ∀m,Bg G st c m-> ∀a∈az G m,Cl G st l (a,0):=by
    intro m e
    induction e with
    |base=>exact λa k=> .next b c a (.base b d (t b d)) f k
    |next K x H _ k y _ p=>exact λa C=> .next (x,0) H a (p x k) y C
   exact E m g a i
def Nx (G:ac) (st:Int) (l:List It) (s:Int) (o:List It):Prop:=dY o/\ ∀z,z∈o↔ ∃x,Cl G st l x/\aw G st x=(s,true)/\z=(x.1,x.2+1)
noncomputable def nxI (G:ac) (st:Int) (l:List It) (s:Int):List It:=dg ((kI G st).filter λz=> @decide (∃x,Cl G st l x/\aw G st x=(s,true)/\z=(x.1,x.2+1)) (Classical.propDecidable _))
theorem jg (G:ac) (st:Int) (l:List It) (s:Int):Nx G st l s (nxI G st l s):=by
 refine⟨ip _,λd=> ?_⟩;unfold nxI;rw [fB,Zh, @decide_eq_true_eq _ (Classical.propDecidable _)];refine⟨λh=>h.2,λh=>⟨?_,h⟩⟩;obtain⟨c,b,a,rfl⟩:=h;exact pB (iu a).1
theorem rp {G:ac} {st s:Int} {l:List It} {z:It} (h:z∈nxI G st l s):aQ G st z=true:=by
 obtain⟨c,b,a,rfl⟩:=((jg G st l s).2 z).1 h;exact(iu a).1
theorem FL {G:ac} {st s:Int} {l c:List It} (h:CZ G st l c):dg (eH G st c s)=nxI G st l s:=by
 refine iK (ip _) (jg G st l s).1 λf=> ?_
 rw [fB,(jg G st l s).2];unfold eH;rw [Zj];constructor
 ·rintro⟨a,e,rfl⟩;obtain⟨b,d⟩:=Zh.1 e;exact⟨a,(h.mem a).1 b,of_decide_eq_true d,rfl⟩
 ·rintro⟨a,b,d,rfl⟩;exact⟨a,Zh.2 ⟨(h.mem a).2 b,decide_eq_true d⟩,rfl⟩
end
section
def jz (L:List (List It)) (k:List It):List (List It)×Int:=if k∈L then(L,((L.idxOf k:Nat):Int))else(L++[k],((L.length:Nat):Int))
theorem yS {L:List (List It)} {k:List It} (h:k∈L):L[L.idxOf k]? =some k:=by
 have a:=List.idxOf_lt_length_of_mem h;rw [List.getElem?_eq_getElem a,List.getElem_idxOf]
theorem wO {L:List (List It)} {k:List It} (h:k∈L):jz L k=(L,((L.idxOf k:Nat):Int)):=if_pos h
theorem un {L:List (List It)} {k:List It} (h:k∉L):jz L k=(L++[k],((L.length:Nat):Int)):=if_neg h
noncomputable def dp (G:ac) (st:Int) (kern:List It) (L:List (List It)):Nat->List (List It)×List It
 |0=>(L,[])
 |m+1=>if nxI G st kern ((m+1:Nat):Int)=[]then dp G st kern L m else((jz (dp G st kern L m).1 (nxI G st kern ((m+1:Nat):Int))).1,(dp G st kern L m).2++[(((m+1:Nat):Int),(jz (dp G st kern L m).1 (nxI G st kern ((m+1:Nat):Int))).2)])
section
variable {G : ac} {st : Int} {kern : List It} {L : List (List It)} {m : Nat}
theorem yK (h:nxI G st kern ((m+1:Nat):Int)=[]):dp G st kern L (m+1)=dp G st kern L m:=by
 show(if _ then _ else _)=_;rw [if_pos h]
theorem wM (h:nxI G st kern ((m+1:Nat):Int)≠[]):dp G st kern L (m+1)=((jz (dp G st kern L m).1 (nxI G st kern ((m+1:Nat):Int))).1,(dp G st kern L m).2++[(((m+1:Nat):Int),(jz (dp G st kern L m).1 (nxI G st kern ((m+1:Nat):Int))).2)]):=by
 show(if _ then _ else _)=_;rw [if_neg h]
end
structure G4 (G:ac) (st:Int) (kern:List It) (L:List (List It)) (m:Nat) (L':List (List It)) (t:List It):Prop where
 pre: ∃e,L'=L++e
 nodup:L.Nodup->L'.Nodup
 len:L'.length<=L.length+m
 mem: ∀s tq9:Int,((s,tq9):It)∈t->1<=s/\s<=m/\nxI G st kern s≠[]/\0<=tq9/\L'[tq9.toNat]? =some (nxI G st kern s)
 has: ∀s:Int,1<=s->s<=m->nxI G st kern s≠[]-> ∃tq9:Int,((s,tq9):It)∈t
 sort:t.Pairwise (λa b=>a.1<b.1)
 new: ∀n,L.length<=n->n<L'.length-> ∃s:Int,((s,(n:Int)):It)∈t
 tlen:t.length<=m
 kind: ∀k∈L',k∈L\/ ∃s,k=nxI G st kern s/\k≠[]
theorem kj {α:Type} {L:List α} (e:L.Nodup) {i j:Nat} {x:α} (hi:L[i]? =some x) (f:L[j]? =some x):i=j:=by
 obtain⟨c,a⟩:=List.getElem?_eq_some_iff.1 hi;obtain⟨d,b⟩:=List.getElem?_eq_some_iff.1 f;rcases Nat.lt_trichotomy i j with h|h|h
 ·exact absurd (a.trans b.symm) ((Zm.1 e) i j c d h)
 ·exact h
 ·exact absurd (b.trans a.symm) ((Zm.1 e) j i d c h)
theorem CY (G:ac) (st:Int) (kern:List It) {L:List (List It)} (D:L.Nodup): ∀m,G4 G st kern L m (dp G st kern L m).1 (dp G st kern L m).2
 |0=>⟨⟨[],by simp [dp]⟩,id,Zp _,λs r h=>(by cases h),λs b g=>by omega,List.Pairwise.nil,λf b g=>absurd g (by simp [dp];omega),Zp _,λn t=> .inl t⟩
 |m+1=>by
  have a:=CY G st kern D m;by_cases q:nxI G st kern ((m+1:Nat):Int)=[]
  ·rw [yK q];refine⟨a.pre,a.nodup,by have:=a.len;omega,λs r h=> ?_,λs b g p=>a.has s b ?_ p,a.sort,a.new,by have:=a.tlen;omega,a.kind⟩
   ·obtain⟨b,g,p⟩:=a.mem s r h;exact⟨b,by omega,p⟩
   ·by_cases e:s=((m+1:Nat):Int)
    ·subst e;exact absurd q p
    ·omega
  ·rw [wM q];obtain⟨n,t⟩: ∃n,n=nxI G st kern ((m+1:Nat):Int):=⟨_,rfl⟩;rw [<-t]at q⊢;obtain⟨c,U⟩: ∃c,c=(dp G st kern L m).1:=⟨_,rfl⟩;obtain⟨I,al⟩: ∃I,I=(dp G st kern L m).2:=⟨_,rfl⟩;rw [<-U,<-al]at a⊢;have E:=a.nodup D
   -- the new list and the number
   obtain⟨k,x,V,ai,W,Z,ap,A⟩: ∃(k:List (List It)) (x:Nat),jz c n=(k,(x:Int))/\(∃e,k=c++e)/\k[x]? =some n/\k.Nodup/\k.length<=c.length+1/\(∀f,c.length<=f->f<k.length->f=x)/\(∀i∈k,i∈c\/i=n):=by
    by_cases hm:n∈c
    ·exact⟨c,c.idxOf n,wO hm,⟨[],by simp⟩,yS hm,E,by omega,λf b g=>by omega,λi d=> .inl d⟩
    ·refine⟨c++[n],c.length,un hm,⟨[n],rfl⟩,by simp,?_,by simp,λf b g=>by simp at g;omega,λi d=> ?_⟩
     ·refine List.nodup_append.2 ⟨E,by simp,λC y M z=> ?_⟩;obtain rfl:=Zl.1 z;exact λe=>hm (e▸y)
     ·rcases Ze.1 d with d|d
      ·exact .inl d
      ·exact .inr (Zl.1 d)
   obtain⟨A,X⟩:=A;rw [V];obtain⟨O,ad⟩:=a.pre;obtain⟨P,H⟩:=ai;have an: ∀{f:Nat} {i:List It},c[f]? =some i->k[f]? =some i:=fun{f i} h=>by
    rw [H,List.getElem?_append_left (List.getElem?_eq_some_iff.1 h).1];exact h
   refine⟨⟨O++P,by rw [H,ad,List.append_assoc]⟩,λ_=>Z,by have:=a.len;show k.length<=_;omega,λs r h=> ?_,λs b g p=> ?_,?_,λf b g=> ?_,by have:=a.tlen;simp;omega,λi d=> ?_⟩
   ·rw [Ze,Zl]at h;rcases h with h|h
    ·obtain⟨b,g,p,Q,S⟩:=a.mem s r h;exact⟨b,by omega,p,Q,an S⟩
    ·injection h with b g
     subst b g;rw [<-t];exact⟨by omega,Int.le_refl _,q,by omega,W⟩
   ·by_cases e:s=((m+1:Nat):Int)
    ·subst e;exact⟨_,Zg _ (Zl.2 rfl)⟩
    ·obtain⟨r,h⟩:=a.has s b (by omega) p;exact⟨r,Zf _ h⟩
   ·refine List.pairwise_append.2 ⟨a.sort,List.pairwise_singleton _ _,λC y M z=> ?_⟩;obtain rfl:=Zl.1 z;obtain⟨J,K⟩:=C;have:=(a.mem J K y).2.1;simp only;omega
   ·by_cases Y:f<c.length
    ·obtain⟨s,ak⟩:=a.new f b Y;exact⟨s,Zf _ ak⟩
    ·have:=A f (by omega) g;subst this;exact⟨_,Zg _ (Zl.2 rfl)⟩
   ·rcases X i d with d|d
    ·exact a.kind i d
    ·exact .inr ⟨_,d.trans t,d▸q⟩
inductive Bld (G:ac) (st:Int):Nat->List (List It)->List (List It)->Prop
 |start:Bld G st 0 [[((G.rules.length:Int),0)]] []
 |next (i:Nat) (L T:List (List It)) (k:List It):Bld G st i L T->L[i]? =some k->(dp G st k L (ao G)).1.length<=2000->Bld G st (i+1) (dp G st k L (ao G)).1 (T++[(dp G st k L (ao G)).2])
theorem Bld.fn {G:ac} {st:Int}: ∀{i:Nat} {L T b c:List (List It)},Bld G st i L T->Bld G st i b c->L=b/\T=c
 |0,_,_,_,_,.start,.start=>⟨rfl,rfl⟩
 |i+1,_,_,_,_,.next _ L T k h hk _,.next _ b c k' h' a _=>by
  obtain⟨rfl,rfl⟩:=h.fn h';rw [hk]at a;injection a with a
  subst a;exact⟨rfl,rfl⟩
inductive iR (G:ac) (st:Int):Option (List (List It)×List (List It))->Prop
 |ok (L T:List (List It)):Bld G st L.length L T->iR G st (some (L,T))
 |many (i:Nat) (L T:List (List It)) (k:List It):Bld G st i L T->L[i]? =some k->2000<(dp G st k L (ao G)).1.length->iR G st none
structure G7 (G:ac) (st:Int) (i:Nat) (L T:List (List It)):Prop where
 len:T.length=i
 le:i<=L.length
 small:L.length<=2000
 nodup:L.Nodup
 first:L[0]? =some [((G.rules.length:Int),0)]
 kind: ∀k∈L,k=[((G.rules.length:Int),0)]\/ ∃q s,k=nxI G st q s/\k≠[]
 mem: ∀(j:Nat) t k,T[j]? =some t->L[j]? =some k-> ∀s tq9:Int,((s,tq9):It)∈t->1<=s/\s<=ao G/\nxI G st k s≠[]/\0<=tq9/\L[tq9.toNat]? =some (nxI G st k s)
 has: ∀(j:Nat) t k,T[j]? =some t->L[j]? =some k-> ∀s:Int,1<=s->s<=ao G->nxI G st k s≠[]-> ∃tq9:Int,((s,tq9):It)∈t
 sort: ∀t∈T,t.Pairwise (λa b:It=>a.1<b.1)
 tlen: ∀t∈T,t.length<=ao G
 early: ∀n,0<n->n<L.length-> ∃(j:Nat) (t:List It) (s:Int),j<n/\j<i/\T[j]? =some t/\((s,(n:Int)):It)∈t
theorem Bld.f {G:ac} {st:Int} {i:Nat} {L T:List (List It)} (h:Bld G st i L T):G7 G st i L T:=by
 induction h with
 |start=>
  refine⟨rfl,by simp,by simp,by simp,rfl,λr t=> .inl (by simpa using t),λj a r h=>(by simp at h),λj a r h=>(by simp at h),λa h=>(by cases h),λa h=>(by cases h),λp q n=>by simp at n;omega⟩
 |next i L T r Y t J d=>
  have k:=CY G st r d.nodup (ao G);generalize dp G st r L (ao G)=W at *;obtain⟨x,D⟩:=W;simp only at k J⊢;obtain⟨e,C⟩:=k.pre;have hi:=(List.getElem?_eq_some_iff.1 t).1;have E: ∀{p:Nat} {b:List It},L[p]? =some b->x[p]? =some b:=fun{p b} h=>by
   rw [C,List.getElem?_append_left (List.getElem?_eq_some_iff.1 h).1];exact h
  have X:L.length<=x.length:=by rw [C];simp
  have U:=k.nodup d.nodup;have split: ∀(j:Nat) a b,(T++[D])[j]? =some a->x[j]? =some b->(a=D/\b=r)\/(T[j]? =some a/\L[j]? =some b):=λj a b f c=>by
   have O:=d.len;by_cases e:j=i
   ·subst e;left;rw [<-O,List.getElem?_concat_length]at f;rw [E t]at c;exact⟨(Option.some.inj f).symm,(Option.some.inj c).symm⟩
   ·right;have P:j<T.length:=by
     have:=(List.getElem?_eq_some_iff.1 f).1;simp only [Zb,List.length_singleton]at this;omega
    rw [List.getElem?_append_left P]at f;have Q:j<L.length:=(by have:=d.le;omega);rw [C,List.getElem?_append_left Q]at c;exact⟨f,c⟩
  refine⟨by simp [d.len],by omega,J,U,E d.first,λb c=> ?_,λj a b f c s K h=> ?_,λj a b f c s q n I=> ?_,λa g=> ?_,λa g=> ?_,λp q n=> ?_⟩
  ·rcases k.kind b c with c|⟨s,q,n⟩
   ·exact d.kind b c
   ·exact .inr ⟨r,s,q,n⟩
  ·rcases split j a b f c with⟨rfl,rfl⟩|⟨f,c⟩
   ·exact k.mem s K h
   ·obtain⟨y,H,z,A,M⟩:=d.mem j a b f c s K h;exact⟨y,H,z,A,E M⟩
  ·rcases split j a b f c with⟨rfl,rfl⟩|⟨f,c⟩
   ·exact k.has s q n I
   ·exact d.has j a b f c s q n I
  ·rcases Ze.1 g with g|g
   ·exact d.sort a g
   ·obtain rfl:=Zl.1 g;exact k.sort
  ·rcases Ze.1 g with g|g
   ·exact d.tlen a g
   ·obtain rfl:=Zl.1 g;exact k.tlen
  ·by_cases S:p<L.length
   ·obtain⟨j,a,s,y,H,z,A⟩:=d.early p q S;exact⟨j,a,s,y,by omega,by rw [List.getElem?_append_left (by have:=d.len;omega)];exact z,A⟩
   ·obtain⟨s,V⟩:=k.new p (by omega) n;exact⟨i,D,s,by omega,by omega,by rw [<-d.len,List.getElem?_concat_length],V⟩
end
section
theorem Bld.prev {G:ac} {st:Int} {b:Nat} {c d:List (List It)} (h:Bld G st b c d): ∀{i:Nat},i<b-> ∃L T a,Bld G st i L T/\L[i]? =some a/\(dp G st a L (ao G)).1.length<=2000:=by
 induction h with
 |start=>intro i hi;omega
 |next j L T a f g k n=>
  intro i hi;by_cases e:i=j
  ·subst e;exact⟨L,T,a,f,g,k⟩
  ·exact n (by omega)
theorem iR.unique {G:ac} {st:Int} {r y:Option (List (List It)×List (List It))} (h:iR G st r) (x:iR G st y):r=y:=by
 have ok: ∀{L T d f:List (List It)} {c:Nat},Bld G st L.length L T->Bld G st c d f->c<=L.length:=fun{L T d f c} b a=>by
  rcases Nat.lt_or_ge L.length c with e|e
  ·obtain⟨A,C,k,p,i,-⟩:=a.prev e;obtain⟨rfl,-⟩:=b.fn p;have:=(List.getElem?_eq_some_iff.1 i).1;omega
  ·exact e
 have z: ∀{L T:List (List It)} {c:Nat} {k:List It} {d f:List (List It)} {j:Nat},Bld G st c L T->L[c]? =some k->2000<(dp G st k L (ao G)).1.length->Bld G st j d f->j<=c:=fun{L T c k d f j} b g n a=>by
  rcases Nat.lt_or_ge c j with e|e
  ·obtain⟨A,C,E,p,i,D⟩:=a.prev e;obtain⟨rfl,-⟩:=b.fn p;rw [g]at i;injection i with i
   subst i;omega
  ·exact e
 cases h with
 |ok L T b=>
  cases x with
  |ok d f a=>
   have q:=ok b a;have t:=ok a b;have e:L.length=d.length:=by omega
   rw [<-e]at a;obtain⟨rfl,rfl⟩:=b.fn a;rfl
  |many c d f k a g n=>
   exfalso;have q:=z a g n b;have t:=ok b a;have e:c=L.length:=by omega
   subst e;obtain⟨rfl,-⟩:=b.fn a;have:=(List.getElem?_eq_some_iff.1 g).1;omega
 |many c L T k b g n=>
  cases x with
  |ok d f a=>
   exfalso;have q:=z b g n a;have t:=ok a b;have e:c=d.length:=by omega
   subst e;obtain⟨rfl,-⟩:=b.fn a;have:=(List.getElem?_eq_some_iff.1 g).1;omega
  |many _ _ _ _ _ _ _=>rfl
def FN (G:ac) (st:Int) (o:List It):List It:=dg (o++o.flatMap λx=>if(aw G st x).2=true then cW (az G (aw G st x).1)else [])
def clC (G:ac) (st:Int) (l:List It):Nat->List It
 |0=>dg (l.filter (aQ G st))
 |n+1=>FN G st (clC G st l n)
theorem pI {G:ac} {st:Int} {l:List It}: ∀(n:Nat),∀b∈clC G st l n,Cl G st l b
 |0,b,a=>by
  obtain⟨d,e⟩:=Zh.1 (fB.1 a);exact .base b d e
 |n+1,b,a=>by
  rcases Ze.1 (fB.1 a)with h|h
  ·exact pI n b h
  ·obtain⟨c,i,a⟩:=Zi.1 h
   split at a
   ·rename_i f
    obtain⟨k,g,rfl⟩:=mB.1 a;exact .next c (aw G st c).1 k (pI n c i) (by rw [<-f]) g
   ·cases a
theorem xh {G:ac} {st:Int} {l:List It} {z:It} (a:z∈l) (b:aQ G st z=true): ∀(n:Nat),z∈clC G st l n
 |0=>fB.2 (Zh.2 ⟨a,b⟩)
 |n+1=>fB.2 (Zf _ (xh a b n))
theorem Bi {G:ac} {st:Int} {l:List It} {n:Nat} (h:clC G st l (n+1)=clC G st l n):CZ G st l (clC G st l n):=by
 refine⟨by cases n<;>exact ip _,λk=>⟨pI n k,λe=> ?_⟩⟩
 induction e with
 |base p d c=>exact xh d c n
 |next i s g _ a b f=>
  rw [<-h];refine fB.2 (Zg _ (Zi.2 ⟨i,f,?_⟩));rw [a,if_pos rfl];exact mB.2 ⟨g,b,rfl⟩
def qV (G:ac) (st:Int) (c:List It) (L:List (List It)):Nat->List (List It)×List It
 |0=>(L,[])
 |m+1=>if dg (eH G st c ((m+1:Nat):Int))=[]then qV G st c L m else((jz (qV G st c L m).1 (dg (eH G st c ((m+1:Nat):Int)))).1,(qV G st c L m).2++[(((m+1:Nat):Int),(jz (qV G st c L m).1 (dg (eH G st c ((m+1:Nat):Int)))).2)])
theorem yJ {G:ac} {st:Int} {k:List It} {L:List (List It)} {c:List It} (h:CZ G st k c): ∀m,dp G st k L m=qV G st c L m
 |0=>rfl
 |m+1=>by
  show(if _ then _ else _)=(if _ then _ else _);rw [yJ h m,FL h]
end
end Go.Proofs.YthlbjgabhpdbfaaGreat

/- The ways in memory: compared, made longer, sorted. -/
import Derived.Test.YtalbfonkhpeajaaGreatHLeastPlain
import Derived.Test.YtalbfonkhpeajaaGreatHFin1
import Derived.Test.YtalbfonkhpeajaaGreatHItemPlain
import Derived.Test.YtalbfonkhpeajaaGreatHItem8
import Derived.Test.YtalbfonkhpeajaaGreatHAuto4
import Derived.Laws.CopyOwn
import Derived.Test.YtalbfonkhpeajaaGreatHLeast2
import Derived.Test.YtalbfonkhpeajaaGreatHAuto16
namespace Go.Proofs.YtalbfonkhpeajaaGreat
set_option linter.unusedVariables false
section
set_option linter.unusedSimpArgs false
section
open Go.RowKit
attribute [local irreducible] wpStill wpOne wpPh
def cmpL:List Int→List Int→Int
 |x::r,y::t=>if x=y then cmpL r t else cmpI x y
 |_,_=>0
theorem cmpL_at: ∀{xs ys:List Int} {k:Nat} {a b:Int},(∀j:Nat,j<k→xs[j]? =ys[j]?)→xs[k]? =some a→ys[k]? =some b→a≠b→cmpL xs ys=cmpI a b
 |x::r,y::t,0,a,b,_,hx,hy,hne=>by
  simp at hx hy
  subst hx hy
  unfold cmpL
  rw [if_neg hne]
 |x::r,y::t,k+1,a,b,hb,hx,hy,hne=>by
  have h0:=hb 0 (by omega)
  simp at h0
  unfold cmpL
  rw [if_pos h0]
  exact cmpL_at (k:=k) (fun j hj=>by have:=hb (j+1) (by omega);simpa using this) (by simpa using hx) (by simpa using hy) hne
 |[],_,_,_,_,_,hx,_,_=>by simp at hx
 |_::_,[],_,_,_,_,_,hy,_=>by simp at hy
theorem cmpL_same: ∀(xs:List Int),cmpL xs xs=0
 |[]=>rfl
 |x::r=>by unfold cmpL;rw [if_pos rfl];exact cmpL_same r
theorem cmpL_lex: ∀{xs ys:List Int},xs.length=ys.length→cmpL xs ys=if lexB xs ys=true then -1 else if lexB ys xs=true then 1 else 0
 |[],[],_=>by simp [cmpL,lexB]
 |[],_::_,h=>by simp at h
 |_::_,[],h=>by simp at h
 |x::r,y::t,h=>by
  have h':r.length=t.length:=by simpa using h
  have ih:=cmpL_lex h'
  simp only [cmpL,lexB]
  by_cases e:x=y
  ·have e':y=x:=e.symm
   simp only [if_pos e,if_pos e']
   exact ih
  ·have e': ¬y=x:=fun h=>e h.symm
   simp only [if_neg e,if_neg e']
   unfold cmpI
   by_cases h1:x<y
   ·simp [h1]
   ·have h2:y<x:=by omega
    simp [h1,h2]
set_option maxRecDepth 100000 in
set_option maxHeartbeats 2000000 in
theorem compare_ints2 {w:World} {F G:Nat→Prop} {v u:Value} {xs ys:List Int} (h:RdI w F v xs) (g:RdI w G u ys) (hlen:xs.length=ys.length):
  Calls Tryz.prog 53 #[v,u] w fun e w'=>e= .returned (.int .i64 (cmpL xs ys))∧w=w':=by
 obtain⟨A,n,c,rfl,-⟩:=id h
 obtain⟨B,m,d,rfl,-⟩:=id g
 obtain⟨hn,hnc,hcm,hcell⟩:=h.at_
 obtain⟨hm,hmd,hdm,hcell'⟩:=g.at_
 have hnm:m=n:=by omega
 subst hnm
 unfold maxLen at hcm hdm
 have hc: ∀a b,Calls Tryz.prog 93 #[.int .i64 a,.int .i64 b] w fun e w'=>e= .returned (.int .i64 (cmpI a b))∧w=w':=fun a b=>cmp_compare a b w
 have hat: ∀(k:Nat) (a b:Int),(∀j:Nat,j<k→xs[j]? =ys[j]?)→xs[k]? =some a→ys[k]? =some b→a≠b→cmpL xs ys=cmpI a b:=fun k a b=>cmpL_at
 have hall:(∀j:Nat,j<m→xs[j]? =ys[j]?)→cmpL xs ys=0:=fun hh=>by
  have:xs=ys:=List.ext_getElem? fun j=>by
   by_cases hj:j<m
   ·exact hh j hj
   ·rw [List.getElem?_eq_none (by omega),List.getElem?_eq_none (by omega)]
  rw [this];exact cmpL_same ys
 have Xhn:=hide hn;have Xhm:=hide hm;have Xhlen:=hide hlen;have Xhc:=hide hc;have Xhat:=hide hat;have Xhall:=hide hall;clear hn hm hlen hc hat hall;clear h g
 go_enter Tryz.func53,Tryz.ntmps53
 go_wp2_with fail
 go_loopw [11] (fun i wr=> ∃k:Nat,k≤m∧i= .int .i64 k∧(∀j:Nat,j<k→xs[j]? =ys[j]?)∧w=wr) (fun i _=>m - (intOf i).toNat)
 case atStart=>exact⟨0,Nat.zero_le _,rfl,fun j hj=>absurd hj (by omega),rfl⟩
 case round=>
  obtain⟨k,hk,rfl,hb,rfl⟩:=hrel
  have Xhb:=hide hb;clear hb
  by_cases hlt:k<m
  ·obtain⟨b,off,rfl,-,hc1⟩:=hcell (by omega)
   obtain⟨b',off',rfl,-,hc2⟩:=hcell' (by omega)
   obtain⟨x,hx⟩: ∃x,xs[k]? =some x:=⟨_,List.getElem?_eq_getElem (by rw [←Xhn.out];exact hlt)⟩
   obtain⟨y,hy⟩: ∃x,ys[k]? =some x:=⟨_,List.getElem?_eq_getElem (by rw [←Xhm.out];exact hlt)⟩
   have q1:=hc1 k x hx
   have q2:=hc2 k y hy
   have hcc:=Xhc.out x y
   have hlt':(k:Int)<(m:Int):=by omega
   by_cases he:x=y
   ·have hz:cmpI x y=0:=by unfold cmpI;rw [if_neg (by omega),if_neg (by omega)]
    rw [hz]at hcc
    have Xhx:=hide hx;have Xhy:=hide hy;have Xhcc:=hide hcc;have Xhe:=hide he;have Xhz:=hide hz;clear hx hy hcc he hz;clear hcell hcell' hc1 hc2
    go_wp2_with fail
    refine Xhcc.out.mono ?_
    rintro e w' ⟨rfl,rfl⟩
    go_wp2_with fail
    go_roundw
    case rel=>exact⟨k+1,by omega,by go_num,fun j hj=>by
     by_cases e:j=k
     ·subst e;rw [Xhx.out,Xhy.out,Xhe.out]
     ·exact Xhb.out j (by omega),by first|rfl|trivial⟩
    case measure=>simp [intOf];omega
   ·have hz:(cmpI x y !=0)=true:=by
     unfold cmpI
     by_cases h1:x<y
     ·rw [if_pos h1];rfl
     ·rw [if_neg h1,if_pos (by omega)];rfl
    have hfin:=Xhat.out k x y Xhb.out hx hy he
    generalize cmpI x y=cv at *
    have Xhx:=hide hx;have Xhy:=hide hy;have Xhcc:=hide hcc;have Xhe:=hide he;have Xhfin:=hide hfin;clear hx hy hcc he hfin;clear hcell hcell' hc1 hc2
    go_wp2_with fail
    refine Xhcc.out.mono ?_
    rintro e w' ⟨rfl,rfl⟩
    go_wp2_with fail
    go_ret
    exact⟨ret_int Xhfin.out.symm,by first|rfl|trivial⟩
  ·clear hcell hcell'
   go_wp2_with fail
   go_ret
   exact⟨ret_int (Xhall.out fun j hj=>Xhb.out j (by omega)).symm,by first|rfl|trivial⟩
end
end
section
set_option linter.unusedSimpArgs false
section
open Go.RowKit
attribute [local irreducible] wpStill wpOne wpPh
theorem IsWords.touch {w w':World} {F S':Nat→Prop} {b g:Nat} {S:List FoundD} (h:IsWords w F b g S) (t:Touch S' w w') (hF: ∀k,F k→ ¬S' k) (hb: ¬S' b) (hg: ¬S' g):IsWords w' F b g S:=by
 obtain⟨cells,h1,h2,h3⟩:=h.row
 refine⟨h.blk.touch t hb,⟨cells,h1.touch t hg,h2,fun i x hx=> ?_⟩,fun k hk=>Nat.lt_of_lt_of_le (h.lt k hk) t.size,h.far,h.lens,h.size⟩
 obtain⟨a,b,v,c,d⟩:=h3 i x hx
 exact⟨a,b,v,c,d.touch t hF⟩
def WordsIn (V:World) (F:Nat→Prop) (pw:Value) (S:List FoundD):Prop:= ∃b g Fw,pw= .pointer (some ⟨b,0,none⟩)∧IsWords V Fw b g S∧(∀k,Fw k→F k)∧F b∧F g
theorem WordsIn.touch {w w':World} {F S':Nat→Prop} {pw:Value} {S:List FoundD} (h:WordsIn w F pw S) (t:Touch S' w w') (hF: ∀k,F k→ ¬S' k):WordsIn w' F pw S:=by
 obtain⟨b,g,Fw,e,h1,h2,h3,h4⟩:=h
 exact⟨b,g,Fw,e,h1.touch t (fun k hk=>hF k (h2 k hk)) (hF b h3) (hF g h4),h2,h3,h4⟩
theorem WordsIn.mono {w:World} {F F':Nat→Prop} {pw:Value} {S:List FoundD} (h:WordsIn w F pw S) (hF: ∀k,F k→F' k):WordsIn w F' pw S:=by
 obtain⟨b,g,Fw,e,h1,h2,h3,h4⟩:=h
 exact⟨b,g,Fw,e,h1,fun k hk=>hF k (h2 k hk),hF b h3,hF g h4⟩
section
variable {V V' : World} {F S' : Nat → Prop} {B R P n : Nat} {pw : Value} {S : List FoundD} {W : Wos}
end
end
section
open Go.RowKit Go.Shelf Go.Lib Go.Sort
end
end
end Go.Proofs.YtalbfonkhpeajaaGreat
namespace Go.Proofs.YtalbfonkhpeajaaGreat
set_option linter.unusedVariables false
section
set_option linter.unusedSimpArgs false
open Go.RowKit Go.Maps
attribute [local irreducible] wpStill wpOne wpPh
theorem RdI.tailF {w:World} {F:Nat→Prop} {bb off n c:Nat} {xs:List Int} (h:RdI w F (.slice (some ⟨bb,off,none⟩) n c) xs) {k:Nat} (hk:k≤n):RdI w F (.slice (if c=k then some ⟨bb,off,none⟩else some ⟨bb,off+k,none⟩) (n - k) (c - k)) (xs.drop k):=by
 obtain⟨hn,hnc,hcm,hcell⟩:=RdI.at_ h
 refine⟨_,_,_,rfl,by omega,by omega,by simp;omega,fun hn0=> ?_⟩
 obtain⟨b,o,e,hF,hc⟩:=hcell (by omega)
 injection e with e
 injection e with e1 e2 _
 subst e1 e2
 rw [if_neg (by omega)]
 refine⟨_,_,rfl,hF,fun j u hu=> ?_⟩
 rw [List.getElem?_map,List.getElem?_drop]at hu
 obtain⟨x,hx,rfl⟩:=Option.map_eq_some_iff.1 hu
 rw [Nat.add_assoc]
 exact hc _ x hx
abbrev NatL (s:List Nat):List Int:=List.map (fun(x:Nat)=>(x:Int)) s
theorem natL_get {s:List Nat} {i q:Nat} (h:s[i]? =some q):(NatL s)[i]? =some (q:Int):=by rw [List.getElem?_map,h];rfl
theorem cmpL_neg {xs ys:List Int} (h:xs.length=ys.length):decide (cmpL xs ys<0)=lexB xs ys:=by
 rw [cmpL_lex h]
 cases h1:lexB xs ys with
 |true=>simp
 |false=>cases h2:lexB ys xs<;>simp
set_option maxRecDepth 100000 in
theorem fin_shortlex {w:World} {F G:Nat→Prop} {v u:Value} {xs ys:List Int} (h:RdI w F v xs) (g:RdI w G u ys):
  Calls Tryz.prog 21 #[v,u] w fun e w'=>e= .returned (.bool (lessB xs ys))∧w=w':=by
 have hc:=fun hl=>compare_ints2 h g hl
 have hg:=fun hl=>cmpL_neg (xs:=xs) (ys:=ys) hl
 have hl:lessB xs ys=if xs.length=ys.length then lexB xs ys else decide (xs.length<ys.length):=rfl
 obtain⟨A,n,c,rfl,-⟩:=id h
 obtain⟨B,m,d,rfl,-⟩:=id g
 obtain⟨hn,hnc,hcm,-⟩:=h.at_
 obtain⟨hm,hmd,hdm,-⟩:=g.at_
 unfold maxLen at hcm hdm
 rw [←hn,←hm]at hl hc hg
 clear h g
 by_cases e:n=m
 ·subst e
  have hc:=hc rfl
  have hg:=hg rfl
  rw [if_pos rfl]at hl
  generalize cmpL xs ys=cv at *
  have Xhc:=hide hc;have Xhl:=hide hl;have Xhn:=hide hn;have Xhm:=hide hm;have Xhg:=hide hg;clear hc hl hn hm hg
  go_enter Tryz.func21,Tryz.ntmps21
  go_wp2_with fail
  refine Xhc.out.mono ?_
  rintro e w' ⟨rfl,rfl⟩
  go_wp2_with fail
  go_ret
  exact⟨ret_bool Xhl.out.symm,by first|rfl|trivial⟩
 ·have hne:((n:Int) !=(m:Int))=true:=by simpa using(by omega: ¬(n:Int)=(m:Int))
  rw [if_neg e]at hl
  have Xhl:=hide hl;have Xhn:=hide hn;have Xhm:=hide hm;clear hl hn hm;clear hc hg
  go_enter Tryz.func21,Tryz.ntmps21
  go_wp2_with fail
  go_ret
  exact⟨ret_bool (by rw [Xhl.out]),by first|rfl|trivial⟩
theorem Tryz.enters_shortlex:Enters Tryz.prog 21:=enters_of Tryz.func21 (by kernel_rfl) rfl
structure EndsC (w:World) (F:Nat→Prop) (E:Nat) (A1:Option Addr) (c1:Nat) (A2:Option Addr) (c2:Nat) (A3:Option Addr) (c3 T N R:Nat) (st:Int) (G:GramD) (Aa:Option Addr) (n ca:Nat) (D:List (List It×List It)) (pb:Nat) (S:List FoundD):Prop where
 blk:Blk w E 57 #[.slice A1 T c1,.slice A2 N c2,.slice A3 R c3,.int .i64 st,.slice Aa n ca,.pointer (some ⟨pb,0,none⟩)]
 g:IsGram w F (.slice A1 T c1) (.slice A2 N c2) (.slice A3 R c3) G
 r:R=G.rules.length
 a:RdSt w F (.slice Aa n ca) D
 ws:WordsIn w F (.pointer (some ⟨pb,0,none⟩)) S
section
variable {w w' : World} {F : Nat → Prop} {E : Nat} {A1 : Option Addr} {c1 : Nat} {A2 : Option Addr} {c2 : Nat} {A3 : Option Addr} {c3 T N R : Nat} {st : Int} {G : GramD} {Aa : Option Addr} {n ca : Nat} {D : List (List It × List It)} {pb : Nat} {S : List FoundD}
theorem EndsC.below (h:EndsC w F E A1 c1 A2 c2 A3 c3 T N R st G Aa n ca D pb S) (b:Below w.heap.size w w'):EndsC w' F E A1 c1 A2 c2 A3 c3 T N R st G Aa n ca D pb S:=
 ⟨h.blk.below b h.blk.lt,h.g.below b,h.r,h.a.below b h.g.lt,h.ws.touch (Touch.of_size b (fun _=>False)) (fun _ _ e=>e)⟩
end
end
end Go.Proofs.YtalbfonkhpeajaaGreat
namespace Go.Proofs.YtalbfonkhpeajaaGreat
set_option linter.unusedVariables false
section
set_option linter.unusedSimpArgs false
open Go.RowKit Go.Maps
attribute [local irreducible] wpStill wpOne wpPh
set_option maxHeartbeats 2000000 in
theorem idxf_trans {w:World} {F:Nat→Prop} {v:Value} {rs:List It} {g:Nat} {lb:Array Value} {p:It→Bool} (h:RdIt w F v rs) (hF: ∀b,F b→b<w.heap.size) (eg:Enters Tryz.prog g) (hp:PredV w g lb ItV p):
  Calls Tryz.prog 89 #[v,.func (.func g) #[] lb] w (Quiet w (.int .i64 (firstBy p rs))):=by
 obtain⟨A,n,c,rfl,_⟩:=id h
 obtain⟨en,hnc,hcm,hcell⟩:=h.at_
 unfold maxLen at hcm
 have HN:=hide en
 have HC:=hide hcell
 have HF:=hide hF
 have HP:=hide hp
 have eg': ∀args w,(callFunc g args).run Tryz.prog w= .ok (.enter g args) w:=eg
 clear h en hcell hF hp
 go_enter Tryz.func89,Tryz.ntmps89
 go_wp2
 go_loopw [8] (fun i wr=> ∃k:Nat,k≤n∧i= .int .i64 k∧Below w.heap.size w wr∧ ∀(j:Nat) (y:It),j<k→rs[j]? =some y→p y=false) (fun i _=>n - (intOf i).toNat)
 case atStart=>exact⟨0,Nat.zero_le _,rfl,Below.refl _ _,fun j y hj=>absurd hj (by omega)⟩
 case round=>
  obtain⟨k,hk,rfl,hw,hbefore⟩:=hrel
  have HB:=hide hbefore
  have HW:=hide hw
  clear hbefore
  by_cases hlt:k<n
  ·obtain⟨b,off,rfl,hb,hc⟩:=HC.out (by omega)
   obtain⟨⟨x1,x2⟩,hx⟩: ∃x,rs[k]? =some x:=⟨_,List.getElem?_eq_getElem (by rw [←HN.out];omega)⟩
   have hx0:=(hw.cell (p:=⟨b,off+k * 2,none⟩) (HF.out b hb)).trans (hc k _ hx).1
   have hx1:=(hw.cell (p:=⟨b,off+k * 2+1,none⟩) (HF.out b hb)).trans (hc k _ hx).2
   have hs:=HP.out wr (x1,x2) hw
   have hlt':(k:Int)<(n:Int):=by omega
   have HX:=hide hx
   cases hq:p (x1,x2)with
   |true=>
    rw [hq]at hs
    have HS:=hide hs
    have HQ:=hide hq
    clear hs hc hx hw hq
    go_wp2_with (go_at_fn g;refine HS.out.mono ?_;rintro e w1 ⟨rfl,b1⟩)
    go_ret
    exact⟨ret_int (firstBy_hit HX.out HQ.out HB.out).symm,HW.out.trans (b1.mono HW.out.size)⟩
   |false=>
    rw [hq]at hs
    have HS:=hide hs
    have HQ:=hide hq
    clear hs hc hx hw hq
    go_wp2_with (go_at_fn g;refine HS.out.mono ?_;rintro e w1 ⟨rfl,b1⟩)
    go_roundw
    case rel=>
     refine⟨k+1,by omega,by go_num,HW.out.trans (b1.mono HW.out.size),fun j y hj hy=> ?_⟩
     by_cases hjk:j=k
     ·subst hjk;rw [HX.out]at hy;injection hy with hy;rw [←hy];exact HQ.out
     ·exact HB.out j y (by omega) hy
    case measure=>simp [intOf];omega
  ·have hlt': ¬(k:Int)<(n:Int):=by omega
   clear hw
   go_wp2
   go_ret
   exact⟨ret_int (firstBy_miss fun j y hy=>HB.out j y (by have:=(List.getElem?_eq_some_iff.1 hy).1;have:=HN.out;omega) hy).symm,HW.out⟩
theorem contains_trans {w:World} {F:Nat→Prop} {v:Value} {rs:List It} {g:Nat} {lb:Array Value} {p:It→Bool} (h:RdIt w F v rs) (hF: ∀b,F b→b<w.heap.size) (eg:Enters Tryz.prog g) (hp:PredV w g lb ItV p):
  Calls Tryz.prog 50 #[v,.func (.func g) #[] lb] w (Quiet w (.bool (rs.any p))):=by
 have hi:=idxf_trans h hF eg hp
 have ha:=firstBy_any (p:=p) (xs:=rs)
 obtain⟨q,hq⟩: ∃q,q=firstBy p rs:=⟨_,rfl⟩
 rw [←hq]at hi ha
 have HI:=hide hi
 have HA:=hide ha
 obtain⟨A,c,n,rfl⟩: ∃A c n,v= .slice A n c:=by obtain⟨A,n,c,e,_⟩:=id h;exact⟨A,c,n,e⟩
 clear h hi ha hq hp
 go_enter Tryz.func50,Tryz.ntmps50
 go_wp2_with fail
 refine HI.out.mono ?_
 rintro e w1 ⟨rfl,b1⟩
 go_wp2_with fail
 go_ret
 exact⟨ret_bool HA.out,b1⟩
def wayB (D:List (List It×List It)) (s:List Nat) (i:Nat):Bool:=(((D[(s[i]?).getD 0]?).getD ([],[])).2).any fun x=>decide (x.2=(((s[i+1]?).getD 0:Nat):Int))
def rightB (D:List (List It×List It)) (s:List Nat):Bool:=decide (s[0]? =some 0)&&(List.range (s.length - 1)).all fun i=>wayB D s i
theorem rightB_yes {D:List (List It×List It)} {s:List Nat}:rightB D s=true↔s[0]? =some 0∧ ∀i,i+1<s.length→wayB D s i=true:=by
 unfold rightB
 rw [Bool.and_eq_true,decide_eq_true_iff,List.all_eq_true]
 constructor
 ·rintro⟨a,b⟩;exact⟨a,fun i hi=>b i (List.mem_range.2 (by omega))⟩
 ·rintro⟨a,b⟩;exact⟨a,fun i hi=>b i (by have:=List.mem_range.1 hi;omega)⟩
theorem right_iff {L T:List (List It)} {s:List Nat} (hl:T.length=L.length) (hlow: ∀(h q:Nat),s[h]? =some q→q<L.length):rightB (stD L T) s=true↔RightF L T s:=by
 have key: ∀(h i q:Nat),s[h]? =some i→s[h+1]? =some q→(wayB (stD L T) s h=true↔TrF T i q):=fun h i q h1 h2=>by
  have hi:=hlow h i h1
  have e:L[i]? =some L[i]:=List.getElem?_eq_getElem hi
  have e2:T[i]? =some T[i]:=List.getElem?_eq_getElem (by omega)
  unfold wayB TrF
  rw [h1,h2]
  simp only [Option.getD_some]
  rw [stD_get,e,e2]
  simp only [Option.map_some,Option.getD_some,List.any_eq_true,decide_eq_true_iff]
  constructor
  ·rintro⟨⟨a,b⟩,hx,hb⟩;exact⟨_,a,rfl,by rw [←hb];exact hx⟩
  ·rintro⟨t,a,ht,hx⟩;injection ht with ht;subst ht;exact⟨_,hx,rfl⟩
 rw [rightB_yes]
 constructor
 ·rintro⟨a,b⟩
  exact⟨a,hlow,fun h i q h1 h2=>(key h i q h1 h2).1 (b h (List.getElem?_eq_some_iff.1 h2).1)⟩
 ·intro hr
  refine⟨hr.first,fun i hi=> ?_⟩
  have h1:s[i]? =some s[i]:=List.getElem?_eq_getElem (by omega)
  have h2:s[i+1]? =some s[i+1]:=List.getElem?_eq_getElem hi
  exact(key i _ _ h1 h2).2 (hr.tr i _ _ h1 h2)
theorem Tryz.enters_right1:Enters Tryz.prog 51:=enters_of Tryz.func51 (by kernel_rfl) rfl
set_option maxRecDepth 100000 in
set_option maxHeartbeats 2000000 in
theorem right_clo1 {V:World} {G:Nat→Prop} {Bs Bi i q:Nat} {As:Option Addr} {m cs:Nat} {s:List Nat} (kS:Blk V Bs 26 #[.slice As m cs]) (r:RdI V G (.slice As m cs) (NatL s)) (hG: ∀b,G b→b<V.heap.size) (kI:Blk V Bi 3 #[.int .i64 (i:Int)]) (hq:s[i]? =some q) (x0 x1:Int):
  Calls Tryz.prog 51 #[.agg #[.int .i64 x0,.int .i64 x1],.pointer (some ⟨Bs,0,none⟩),.pointer (some ⟨Bi,0,none⟩)] V (Quiet V (.bool (decide (x1=(q:Int))))):=by
 obtain⟨w1,hw1⟩: ∃z,z=V.alloc (.cells #[.int .i64 x0,.int .i64 x1] 53):=⟨_,rfl⟩
 have b1:Below V.heap.size V w1:=by rw [hw1];exact(Below.refl _ _).alloc (Nat.le_refl _) _
 have k1:Blk w1 V.heap.size 53 #[.int .i64 x0,.int .i64 x1]:=by rw [hw1];exact Blk.new _ _ _
 have q1:=((kS.below b1 kS.lt).cell 0).trans rfl
 have q2:=((kI.below b1 kI.lt).cell 0).trans rfl
 have q3:=(k1.cell 0).trans rfl
 have q4:=(k1.cell 1).trans rfl
 obtain⟨hm,hmc,hcm,hcell⟩:=RdI.at_ (Rd.below r b1 hG)
 unfold maxLen at hcm
 have hi:=(List.getElem?_eq_some_iff.1 hq).1
 rw [List.length_map]at hm
 obtain⟨b,off,rfl,-,hcc⟩:=hcell (by omega)
 have q5:=hcc i _ (natL_get hq)
 have hi':(i:Int)<(m:Int):=by omega
 have hi0:(0:Int)≤(i:Int):=by omega
 rw [hw1]at q1 q2 q3 q4 q5
 obtain⟨d,hd⟩: ∃d,d=decide (x1=(q:Int)):=⟨_,rfl⟩
 have hdd:(x1==(q:Int))=d:=by rw [hd];rfl
 rw [←hd]
 clear hcc hcell kS r hG kI hi
 have Xb1:=hide b1;have Xk1:=hide k1;have Xhm:=hide hm;have Xhd:=hide hd;have Xhq:=hide hq;clear b1 k1 hm hd hq
 go_enter Tryz.func51,Tryz.ntmps51
 go_wp2_with fail
 refine region_reads (by kernel_rfl) (by kernel_rfl) ?_
 repeat still_step
 refine wpStill_nil ?_
 go_wp2_with fail
 go_ret
 exact⟨by first|rfl|(rw [hdd]),by rw [←hw1];exact Xb1.out.drew⟩
theorem right_clo {W:World} {G:Nat→Prop} {Bs Bi i q:Nat} {As:Option Addr} {m cs:Nat} {s:List Nat} (kS:Blk W Bs 26 #[.slice As m cs]) (r:RdI W G (.slice As m cs) (NatL s)) (hG: ∀b,G b→b<W.heap.size) (kI:Blk W Bi 3 #[.int .i64 (i:Int)]) (hq:s[i]? =some q):
  PredV W 51 #[.pointer (some ⟨Bs,0,none⟩),.pointer (some ⟨Bi,0,none⟩)] ItV (fun x=>decide (x.2=(q:Int))):=fun V x hV=>
 right_clo1 (kS.below hV kS.lt) (Rd.below r hV hG) (fun b hb=>Nat.lt_of_lt_of_le (hG b hb) hV.size) (kI.below hV kI.lt) hq x.1 x.2
set_option maxRecDepth 100000 in
set_option maxHeartbeats 4000000 in
theorem fin_right {w:World} {F Fs:Nat→Prop} {E:Nat} {A1:Option Addr} {c1:Nat} {A2:Option Addr} {c2:Nat} {A3:Option Addr} {c3 T N R:Nat} {st:Int} {G:GramD} {Aa:Option Addr} {n ca:Nat} {D:List (List It×List It)} {pb:Nat} {S:List FoundD} (h:EndsC w F E A1 c1 A2 c2 A3 c3 T N R st G Aa n ca D pb S)
  {s:List Nat} {vs:Value} (hs:RdI w Fs vs (NatL s)) (hFs: ∀b,Fs b→b<w.heap.size) (hlow: ∀(i q:Nat),s[i]? =some q→q<D.length):
  Calls Tryz.prog 19 #[.pointer (some ⟨E,0,none⟩),vs] w (Quiet w (.bool (rightB D s))):=by
 obtain⟨As,m,cs,rfl,-⟩:=id hs
 obtain⟨hm,hmc,hcm,hcell⟩:=RdI.at_ hs
 unfold maxLen at hcm
 rw [List.length_map]at hm
 obtain⟨r,hr⟩: ∃r,r=rightB D s:=⟨_,rfl⟩
 rw [←hr]
 have f1:s[0]? ≠some 0→r=false:=fun e=>by
  rw [hr,Bool.eq_false_iff];exact fun c=>e (rightB_yes.1 c).1
 have f2: ∀i,i+1<m→wayB D s i=false→r=false:=fun i hi e=>by
  rw [hr,Bool.eq_false_iff];intro c;rw [(rightB_yes.1 c).2 i (by omega)]at e;cases e
 have f3:s[0]? =some 0→(∀i,i+1<m→wayB D s i=true)→r=true:=fun a b=>by
  rw [hr];exact rightB_yes.2 ⟨a,fun i hi=>b i (by omega)⟩
 have hlt:=h.g.lt
 have ecs: ∀wr,Below w.heap.size w wr→EndsC wr F E A1 c1 A2 c2 A3 c3 T N R st G Aa n ca D pb S:=fun wr hb=>h.below hb
 have rss: ∀wr,Below w.heap.size w wr→RdI wr Fs (.slice As m cs) (NatL s):=fun wr hb=>Rd.below hs hb hFs
 obtain⟨w1,hw1⟩: ∃z,z=w.alloc (.cells #[.slice As m cs] 26):=⟨_,rfl⟩
 have b1:Below w.heap.size w w1:=by rw [hw1];exact(Below.refl _ _).alloc (Nat.le_refl _) _
 have k1:Blk w1 w.heap.size 26 #[.slice As m cs]:=by rw [hw1];exact Blk.new _ _ _
 have z1:w1.heap.size=w.heap.size+1:=by rw [hw1];simp
 have e1:=h.below b1
 have s1':=Rd.below hs b1 hFs
 have q1:w1.cell? ⟨w.heap.size,0,none⟩=some (.slice As m cs):=(k1.cell 0).trans rfl
 rw [hw1]at q1
 by_cases h0:m=0
 ·have hv:=f1 (by rw [List.getElem?_eq_none (by omega)];simp)
  subst h0
  clear hcell h hs e1 s1' f1 f2 f3 hr k1
  have Xhm:=hide hm;have Xb1:=hide b1;have Xhv:=hide hv;have XhFs:=hide hFs;have Xhlow:=hide hlow;have Xhlt:=hide hlt;have Xecs:=hide ecs;have Xrss:=hide rss;clear hm b1 hv hFs hlow hlt ecs rss
  go_enter Tryz.func19,Tryz.ntmps19
  go_wp2_with fail
  go_ret
  exact⟨ret_bool Xhv.out.symm,by rw [←hw1];exact Xb1.out⟩
 ·obtain⟨b0,off,rfl,hb0,hcc⟩:=hcell (by omega)
  obtain⟨x,hx⟩: ∃x,s[0]? =some x:=⟨_,List.getElem?_eq_getElem (by omega)⟩
  have hcx:w1.cell? ⟨b0,off,none⟩=some (.int .i64 (x:Int)):=(b1.cell (p:=⟨b0,off,none⟩) (hFs _ hb0)).trans (hcc 0 _ (natL_get hx))
  rw [hw1]at hcx
  have hm0:((m:Int)==0)=false:=by simp;omega
  have hm1:(0:Int)<(m:Int):=by omega
  by_cases hx0:x=0
  ·subst hx0
   have w2e: ∃w2,w2=w1.alloc (.cells #[.int .i64 1] 3):=⟨_,rfl⟩
   obtain⟨w2,hw2⟩:=w2e
   have b2:Below w1.heap.size w1 w2:=by rw [hw2];exact(Below.refl _ _).alloc (Nat.le_refl _) _
   have k2:Blk w2 w1.heap.size 3 #[.int .i64 ((1:Nat):Int)]:=by rw [hw2];exact Blk.new _ _ _
   have bb:=b1.trans (b2.mono b1.size)
   have k1b:=k1.below b2 k1.lt
   have e2:=e1.below b2
   rw [hw1]at hw2
   rw [z1]at k2
   clear hcc h hs k1 b1 b2 e1 s1' hr hcell
   clear e2
   have Xhm:=hide hm;have Xf1:=hide f1;have Xf2:=hide f2;have Xf3:=hide f3;have Xk2:=hide k2;have Xbb:=hide bb;have Xk1b:=hide k1b;have XhFs:=hide hFs;have Xhlow:=hide hlow;have Xhx:=hide hx;have Xz1:=hide z1;have Xhw2:=hide hw2;have Xhb0:=hide hb0;have Xhlt:=hide hlt;have Xecs:=hide ecs;have Xrss:=hide rss;clear hm f1 f2 f3 k2 bb k1b hFs hlow hx z1 hw2 hb0 hlt ecs rss
   go_enter Tryz.func19,Tryz.ntmps19
   go_wp2_with fail
   rw [←Xhw2.out]
   go_loopg [5] m (fun κ v5 wr=> ∃i B:Nat,1≤i∧v5= .pointer (some ⟨B,0,none⟩)∧Blk wr B 3 #[.int .i64 (i:Int)]∧w.heap.size<B∧Below w.heap.size w wr∧Blk wr w.heap.size 26 #[.slice (some ⟨b0,off,none⟩) m cs]∧(∀j,j+1<i→wayB D s j=true)∧i≤m∧m≤κ+i)
   case atStart=>exact⟨1,w.heap.size+1,Nat.le_refl _,rfl,Xk2.out,by omega,Xbb.out,Xk1b.out,fun j hj=>(by omega),by omega,by omega⟩
   case round=>
    clear q1 hcx Xk2 Xbb Xk1b
    obtain⟨i,B,h1,rfl,kB,hB,le,kS,hwy,him,hκ⟩:=hrel
    obtain⟨k,rfl⟩: ∃k,i=k+1:=⟨i - 1,by omega⟩
    have i0:=(kB.cell 0).trans rfl
    have i1:=kB.frozen 0
    have j0:=(kS.cell 0).trans rfl
    by_cases hltk:k+1<m
    ·have hltk':((k+1:Nat):Int)<(m:Int):=by omega
     have hc1:((k+1:Nat):Int)=(k:Int)+1:=by omega
     have hw1':IntKind.i64.wrap (((k+1:Nat):Int) - 1)=(k:Int):=by rw [IntKind.wrap_i64];omega
     have hw4':IntKind.i64.wrap (k:Int)=(k:Int):=by rw [IntKind.wrap_i64];omega
     obtain⟨x,hx⟩: ∃x,s[k]? =some x:=⟨_,List.getElem?_eq_getElem (by have:=Xhm.out;omega)⟩
     obtain⟨y,hy⟩: ∃x,s[k+1]? =some x:=⟨_,List.getElem?_eq_getElem (by have:=Xhm.out;omega)⟩
     have ec:=Xecs.out wr le
     have q4:=(ec.blk.cell 4).trans rfl
     obtain⟨hn,hnc,hncm,hcell⟩:=ec.a.at_
     unfold maxLen at hncm
     have hxl:=Xhlow.out k x hx
     obtain⟨ba,oa,rfl,-,hcc⟩:=hcell (by omega)
     obtain⟨d,hd⟩: ∃d,D[x]? =some d:=⟨_,List.getElem?_eq_getElem hxl⟩
     obtain⟨z1,z2,-,e2,-,r2⟩:=hcc x d hd
     obtain⟨Az,nz,cz,rfl,-⟩:=id r2
     have hxn:(x:Int)<(n:Int):=by omega
     have hx0:(0:Int)≤(x:Int):=by omega
     obtain⟨-,-,-,hcs⟩:=RdI.at_ (Xrss.out wr le)
     obtain⟨b8,o8,e8,-,hcs⟩:=hcs (by omega)
     injection e8 with e8
     injection e8 with e8 e9 _
     subst e8 e9
     have qx:=hcs k _ (natL_get hx)
     have hk0:(0:Int)≤(k:Int):=by omega
     have hkm:(k:Int)<(m:Int):=by omega
     obtain⟨wy,hwy2⟩: ∃q,q=wayB D s k:=⟨_,rfl⟩
     have dr:Below wr.heap.size wr wr.drew:=(Below.refl _ wr).drew
     have cct:Calls Tryz.prog 50 #[.slice Az nz cz,.func (.func 51) #[] #[.pointer (some ⟨w.heap.size,0,none⟩),.pointer (some ⟨B,0,none⟩)]] wr.drew (Quiet wr.drew (.bool wy)):=by
      have:=contains_trans (r2.below dr ec.g.lt) (fun b hb=>Nat.lt_of_lt_of_le (ec.g.lt b hb) dr.size) Tryz.enters_right1 (right_clo (kS.below dr kS.lt) (Rd.below (Xrss.out wr le) dr (fun b hb=>Nat.lt_of_lt_of_le (XhFs.out b hb) le.size)) (fun b hb=>Nat.lt_of_lt_of_le (XhFs.out b hb) (Nat.le_trans le.size dr.size)) (kB.below dr kB.lt) hy)
      have e:wy=d.2.any fun x=>decide (x.2=(y:Int)):=by
       rw [hwy2];unfold wayB;rw [hx,hy];simp only [Option.getD_some];rw [hd];rfl
      rw [←e]at this
      exact this
     have kBd:=kB.below dr kB.lt
     have kSd:=kS.below dr kS.lt
     have lew:=le.trans (dr.mono le.size)
     clear hcs hcell hcc r2 ec kB kS le dr
     have Xcct:=hide cct;have XkBd:=hide kBd;have XkSd:=hide kSd;have Xlew:=hide lew;have Xhwy:=hide hwy;have Xhwy2:=hide hwy2;have Xhx:=hide hx;have Xhy:=hide hy;have Xhd:=hide hd;have Xhn:=hide hn;have XhB:=hide hB;have Xhxl:=hide hxl;clear cct kBd kSd lew hwy hwy2 hx hy hd hn hB hxl
     go_wp2_with fail
     refine wp_region_held_drew (S:=(fun W=>W.cell? ⟨E,4,none⟩=some (.slice (some ⟨ba,oa,none⟩) n ca)∧W.cell? ⟨w.heap.size,0,none⟩=some (.slice (some ⟨b0,off,none⟩) m cs)∧W.cell? ⟨B,0,none⟩=some (.int .i64 ((k+1:Nat):Int))∧W.cell? ⟨b0,off+k,none⟩=some (.int .i64 (x:Int))∧W.cell? ⟨ba,oa+x * 2+1,none⟩=some (.slice Az nz cz))) (by kernel_rfl) ?_ (fun hHeld=> ?_)
     ·exact⟨q4,j0,i0,qx,e2⟩
     have hS: ∀W,Below wr.drew.heap.size wr.drew W→W.cell? ⟨E,4,none⟩=some (.slice (some ⟨ba,oa,none⟩) n ca)∧W.cell? ⟨w.heap.size,0,none⟩=some (.slice (some ⟨b0,off,none⟩) m cs)∧W.cell? ⟨B,0,none⟩=some (.int .i64 ((k+1:Nat):Int))∧W.cell? ⟨b0,off+k,none⟩=some (.int .i64 (x:Int))∧W.cell? ⟨ba,oa+x * 2+1,none⟩=some (.slice Az nz cz):=fun W hb=>
      ⟨(hb.cell (World.block_lt_of_cell? _ _ q4)).trans q4,(hb.cell (World.block_lt_of_cell? _ _ j0)).trans j0,(hb.cell (World.block_lt_of_cell? _ _ i0)).trans i0,(hb.cell (World.block_lt_of_cell? _ _ qx)).trans qx,(hb.cell (World.block_lt_of_cell? _ _ e2)).trans e2⟩
     clear q4 j0 i0 qx e2 i1
     generalize wr.drew=wd at *
     have XhS:=hide hS;clear hS
     refine tk (i:=0) (oi:= ?_) (v:= ?_) ?_ (by kernel_rfl) ?_ (Or.inl ⟨?_,?_⟩) (by assumption) ?_;rotate_left 2;(focus((try simp only [gT,gs,gz]);try rfl));exact fun _ _ _ h=>h;rfl;(focus(intro wS hwS;(try dsimp only at hwS);go_simp;all_goals with_reducible rfl));try simp only [Act.put,sT,s0,s1]
     refine tk (i:=1) (oi:= ?_) (v:= ?_) ?_ (by kernel_rfl) ?_ (Or.inl ⟨?_,?_⟩) (by assumption) ?_;rotate_left 2;(focus((try simp only [gT,gs,gz]);try rfl));exact fun _ _ _ h=>h;rfl;(focus(intro wS hwS;(try dsimp only at hwS);go_simp;all_goals with_reducible rfl));try simp only [Act.put,sT,s0,s1]
     refine tk (i:=2) (oi:= ?_) (v:= ?_) ?_ (by kernel_rfl) ?_ (Or.inl ⟨?_,?_⟩) (by assumption) ?_;rotate_left 2;(focus((try simp only [gT,gs,gz]);try rfl));exact fun _ _ _ h=>h;rfl;(focus(intro wS hwS;(try dsimp only at hwS);go_simp;all_goals with_reducible rfl));try simp only [Act.put,sT,s0,s1]
     refine tk (i:=3) (oi:= ?_) (v:= ?_) ?_ (by kernel_rfl) ?_ (Or.inl ⟨?_,?_⟩) (by assumption) ?_;rotate_left 2;(focus((try simp only [gT,gs,gz]);try rfl));exact fun _ _ _ h=>h;rfl;(focus(intro wS hwS;(try dsimp only at hwS);go_simp;all_goals with_reducible rfl));try simp only [Act.put,sT,s0,s1]
     refine tk (i:=4) (oi:= ?_) (v:= ?_) ?_ (by kernel_rfl) ?_ (Or.inl ⟨?_,?_⟩) (by assumption) ?_;rotate_left 2;(focus((try simp only [gT,gs,gz]);try rfl));exact fun _ _ _ h=>h;rfl;(focus(intro wS hwS;(try dsimp only at hwS);go_simp;all_goals with_reducible rfl));try simp only [Act.put,sT,s0,s1]
     refine tk (i:=5) (oi:= ?_) (v:= ?_) ?_ (by kernel_rfl) ?_ (Or.inl ⟨?_,?_⟩) (by assumption) ?_;rotate_left 2;(focus((try simp only [gT,gs,gz]);try rfl));exact fun _ _ _ h=>h;rfl;(focus(intro wS hwS;(try dsimp only at hwS);go_simp;all_goals with_reducible rfl));try simp only [Act.put,sT,s0,s1]
     refine tk (i:=6) (oi:= ?_) (v:= ?_) ?_ (by kernel_rfl) ?_ (Or.inl ⟨?_,?_⟩) (by assumption) ?_;rotate_left 2;(focus((try simp only [gT,gs,gz]);try rfl));exact fun _ _ _ h=>h;rfl;(focus(intro wS hwS;(try dsimp only at hwS);go_simp;all_goals with_reducible rfl));try simp only [Act.put,sT,s0,s1]
     refine tk (i:=7) (oi:= ?_) (v:= ?_) ?_ (by kernel_rfl) ?_ (Or.inl ⟨?_,?_⟩) (by assumption) ?_;rotate_left 2;(focus((try simp only [gT,gs,gz]);try rfl));exact fun _ _ _ h=>h;rfl;(focus(intro wS hwS;(try dsimp only at hwS);go_simp;all_goals with_reducible rfl));try simp only [Act.put,sT,s0,s1]
     refine tk (i:=8) (oi:= ?_) (v:= ?_) ?_ (by kernel_rfl) ?_ (Or.inl ⟨?_,?_⟩) (by assumption) ?_;rotate_left 2;(focus((try simp only [gT,gs,gz]);try rfl));exact fun _ _ _ h=>h;rfl;(focus(intro wS hwS;(try dsimp only at hwS);go_simp;all_goals with_reducible rfl));try simp only [Act.put,sT,s0,s1]
     refine tk (i:=9) (oi:= ?_) (v:= ?_) ?_ (by kernel_rfl) ?_ (Or.inl ⟨?_,?_⟩) (by assumption) ?_;rotate_left 2;(focus((try simp only [gT,gs,gz]);try rfl));exact fun _ _ _ h=>h;rfl;(focus(intro wS hwS;(try dsimp only at hwS);go_simp;all_goals with_reducible rfl));try simp only [Act.put,sT,s0,s1]
     refine tk (i:=10) (oi:= ?_) (v:= ?_) ?_ (by kernel_rfl) ?_ (Or.inl ⟨?_,?_⟩) (by assumption) ?_;rotate_left 2;(focus((try simp only [gT,gs,gz]);try rfl));exact fun _ _ _ h=>h;rfl;(focus(intro wS hwS;(try dsimp only at hwS);go_simp;all_goals with_reducible rfl));try simp only [Act.put,sT,s0,s1]
     refine tk (i:=11) (oi:= ?_) (v:= ?_) ?_ (by kernel_rfl) ?_ (Or.inl ⟨?_,?_⟩) (by assumption) ?_;rotate_left 2;(focus((try simp only [gT,gs,gz]);try rfl));exact fun _ _ _ h=>h;rfl;(focus(intro wS hwS;(try dsimp only at hwS);go_simp;all_goals with_reducible rfl));try simp only [Act.put,sT,s0,s1]
     refine tk (i:=12) (oi:= ?_) (v:= ?_) ?_ (by kernel_rfl) ?_ (Or.inl ⟨?_,?_⟩) (by assumption) ?_;rotate_left 2;(focus((try simp only [gT,gs,gz]);try rfl));exact fun _ _ _ h=>h;rfl;(focus(intro wS hwS;(try dsimp only at hwS);go_simp;all_goals with_reducible rfl));try simp only [Act.put,sT,s0,s1]
     refine wpAnyH_ready (rs:=[13]) (by kernel_rfl) (by simp) ?_
     refine AllReadyH.cons (o:= ?_) ?_ (fun K hK=> ?_) AllReadyH.nil;rotate_left 1;(focus((try simp only [gT,gs,gz]);try rfl))
     go_simp
     go_at_call 50
     refine Xcct.out.mono ?_
     rintro e w6 ⟨rfl,b6⟩
     refine hK.out _ _ ?_ (fun hHeld=> ?_)
     ·exact XhS.out _ b6
     clear hK K
     try simp only [Act.put,sT,s0,s1]
     have Xb6:=hide b6;clear b6
     refine tk (i:=14) (oi:= ?_) (v:= ?_) ?_ (by kernel_rfl) ?_ (Or.inl ⟨?_,?_⟩) (by assumption) ?_;rotate_left 2;(focus((try simp only [gT,gs,gz]);try rfl));exact fun _ _ _ h=>h;rfl;(focus(intro wS hwS;(try dsimp only at hwS);go_simp;all_goals with_reducible rfl));try simp only [Act.put,sT,s0,s1]
     refine wpAnyH_done (by kernel_rfl) ?_ _
     have k6:=XkBd.out.below Xb6.out XkBd.out.lt
     have s6:=XkSd.out.below Xb6.out XkSd.out.lt
     have le6:=Xlew.out.trans (Xb6.out.mono Xlew.out.size)
     have i6:=(k6.cell 0).trans rfl
     cases wy with
     |false=>
      have hv:=Xf2.out k hltk Xhwy2.out.symm
      clear k6 s6 i6
      have Xhv:=hide hv;have Xle6:=hide le6;clear hv le6
      go_wp2_with fail
      go_ret
      exact⟨ret_bool Xhv.out.symm,Xle6.out⟩
     |true=>
      have hwy': ∀j,j+1<k+1+1→wayB D s j=true:=fun j hj=>by
       by_cases e:j=k
       ·rw [e];exact Xhwy2.out.symm
       ·exact Xhwy.out j (by omega)
      have hw2':IntKind.i64.wrap (((k+1:Nat):Int)+1)=((k+1+1:Nat):Int):=by rw [IntKind.wrap_i64];omega
      clear Xhwy
      have Xk6:=hide k6;have Xs6:=hide s6;have Xle6:=hide le6;have Xhwy':=hide hwy';clear k6 s6 le6 hwy'
      go_wp2_with fail
      have b7:Below w6.heap.size w6 (w6.alloc (.cells #[.int .i64 ((k:Int)+1+1)] 3)):=(Below.refl _ _).alloc (Nat.le_refl _) _
      have k7:Blk (w6.alloc (.cells #[.int .i64 ((k:Int)+1+1)] 3)) w6.heap.size 3 #[.int .i64 ((k+1+1:Nat):Int)]:=Blk.new _ _ _
      have s7:=Xs6.out.below b7 Xs6.out.lt
      have le7:=Xle6.out.trans (b7.mono Xle6.out.size)
      have hz7:=Xs6.out.lt
      go_roundg (gk - 1)
      case rel=>exact⟨k+1+1,w6.heap.size,by omega,rfl,k7,hz7,le7,s7,Xhwy'.out,by omega,by omega⟩
      case measure=>omega
    ·have hm1:k+1=m:=by omega
     have hltk': ¬((k+1:Nat):Int)<(m:Int):=by omega
     have hv:=Xf3.out Xhx.out (fun j hj=>hwy j (by omega))
     clear kB kS
     have Xhv:=hide hv;have Xle:=hide le;have Xhwy:=hide hwy;clear hv le hwy
     go_wp2_with fail
     go_ret
     exact⟨ret_bool Xhv.out.symm,Xle.out⟩
  ·have hv:=f1 (by rw [hx];exact fun e=>hx0 (Option.some.inj e))
   have hne:((x:Int) !=0)=true:=by simpa using(by omega: ¬(x:Int)=0)
   clear hcc h hs e1 s1' f1 f2 f3 hr k1 hcell
   have Xhm:=hide hm;have Xb1:=hide b1;have Xhv:=hide hv;have XhFs:=hide hFs;have Xhlow:=hide hlow;have Xhx:=hide hx;have Xhb0:=hide hb0;have Xhlt:=hide hlt;have Xecs:=hide ecs;have Xrss:=hide rss;clear hm b1 hv hFs hlow hx hb0 hlt ecs rss
   go_enter Tryz.func19,Tryz.ntmps19
   go_wp2_with fail
   go_ret
   exact⟨ret_bool Xhv.out.symm,by rw [←hw1];exact Xb1.out⟩
end
end Go.Proofs.YtalbfonkhpeajaaGreat
namespace Go.Proofs.YtalbfonkhpeajaaGreat
set_option linter.unusedVariables false
section
set_option linter.unusedSimpArgs false
open Go.RowKit Go.Maps
attribute [local irreducible] wpStill wpOne wpPh
def betterP (B:Pl→Option Wd) (p:Pl) (v:Wd):Bool:=match B p with|none=>true|some u=>lessB v u
theorem IntB.drew {w:World} {v:Value} {xs:List Int} (h:RdI w (IntB w) v xs):RdI w.drew (IntB w.drew) v xs:=RdI.intBelow h ((Below.refl _ w).drew)
set_option maxRecDepth 100000 in
set_option maxHeartbeats 2000000 in
theorem fin_put {w:World} {g:List Pl} {bb mb:Nat} {B:Pl→Option Wd} (h:BestIs w g bb mb B) (hg:g.length≤1000000) {p:Pl} (hp:WfP p) (hpg:p∈g) {A:Option Addr} {n c:Nat} {v:Wd} (hv:RdI w (IntB w) (.slice A n c) v):
  Calls Tryz.prog 24 #[.pointer (some ⟨bb,0,none⟩),PlV p,.slice A n c] w fun e w'=>e= .returned (.bool (betterP B p v))∧BestIs w' g bb mb (if betterP B p v=true then putF B p v else B)∧Touch (fun b=>b=mb) w w':=by
 obtain⟨w1,hw1⟩: ∃z,z=w.alloc (.cells #[.int .i64 (p.1:Int),.int .i64 (p.2:Int)] 60):=⟨_,rfl⟩
 have b1:Below w.heap.size w w1:=by rw [hw1];exact(Below.refl _ _).alloc (Nat.le_refl _) _
 have t1:Touch (fun b=>b=mb) w w1:=Touch.of_size b1 _
 have k1:Blk w1 w.heap.size 60 #[.int .i64 (p.1:Int),.int .i64 (p.2:Int)]:=by rw [hw1];exact Blk.new _ _ _
 have q0:=(k1.cell 0).trans rfl
 have q1:=(k1.cell 1).trans rfl
 have h1:=h.below b1
 obtain⟨hl1,hl2,hne⟩:=h.lt
 have hni:=h.nint
 obtain⟨D,m1,m2⟩:=h.map
 have hsm:=h.small m2
 have htd:=m1.tidy Tryz.placeKeyed
 have m1':=(Touch.of_size b1 (fun _=>False)).ownsMap m1 (fun e=>e)
 have hdom:=h.dom
 have hdom2: ∀q,(putF B p v q).isSome=true→q∈g:=fun q hq=>by
  unfold putF at hq
  split at hq
  ·rename_i e;rw [e];exact hpg
  ·exact hdom q hq
 obtain⟨A',n',c',hrun,r'⟩:=(m2.touch t1.drew hni).look m1'.drew hp
 have e0:=(h1.blk.cell 0).trans rfl
 have e1:=(h1.blk.cell 1).trans rfl
 have hkey:=plkey_some hp
 have kb1:=h1.blk
 have hv1:=RdI.intBelow hv b1
 have eg': ∀args w,(callFunc 21 args).run Tryz.prog w= .ok (.enter 21 args) w:=Tryz.enters_shortlex
 have hc:=fun u (hu:B p=some u)=>fin_shortlex (IntB.drew hv1) (by rw [hu]at r';exact r':RdI w1.drew (IntB w1.drew) (.slice A' n' c') u)
 have hun:betterP B p v=match B p with|none=>true|some u=>lessB v u:=rfl
 obtain⟨bt,hbt⟩: ∃q,q=betterP B p v:=⟨_,rfl⟩
 rw [←hbt]at hun⊢
 have bst:=fun(V:World) (t:Touch (fun b=>b=mb) w V) (x: ∀k,k<w.heap.size→V.heap[k]? =w.heap[k]?)=>h.touch (S:=fun b=>w.heap.size≤b) (w':=V) ⟨t.os,t.tape,t.output,t.size,fun k hk _=>x k hk⟩ (fun b hb c=>by have:=hb.lt;omega) (fun c=>by omega) (fun c=>by omega)
 rw [hw1]at q0 q1 e0 e1 hrun hc m1' kb1 t1 b1
 clear r' m1 hbt h1 hv1
 cases hB:B p with
 |none=>
  rw [hB]at hun hrun
  simp only [Option.isSome_none]at hun hrun
  subst hun
  rw [if_pos rfl]
  clear hc h hdom hB hpg bst b1
  have Xt1:=hide t1;have Xk1:=hide k1;have Xhp:=hide hp;have Xhni:=hide hni;have Xm1':=hide m1';have Xm2:=hide m2;have Xhsm:=hide hsm;have Xhtd:=hide htd;have Xkb1:=hide kb1;have Xhkey:=hide hkey;have Xhne:=hide hne;have Xhdom2:=hide hdom2;have Xhg:=hide hg;have Xhv:=hide hv;have Xhl1:=hide hl1;have Xhl2:=hide hl2;clear t1 k1 hp hni m1' m2 hsm htd kb1 hkey hne hdom2 hg hv hl1 hl2
  go_enter Tryz.func24,Tryz.ntmps24
  go_wp2_with fail
  refine region_reads (by kernel_rfl) (by kernel_rfl) ?_
  repeat still_step
  refine wpStill_nil ?_
  go_wp2_with fail
  refine region_tail 6 (by kernel_rfl) (by kernel_rfl) ?_
  simp only [List.take_succ_cons,List.take_zero,List.drop_succ_cons,List.drop_zero]
  repeat still_step
  refine wpStill_nil ?_
  go_wp2_with (at_mapUpdate;refine wpList_mapUpdate_own _ rfl _ _ _ 64 rfl 60 26 Tryz.placeKeyed Tryz.underlying64 heldV mb (Maps.size D) D rfl Xm1'.out.drew.drew (by have h8:=Xhsm.out;have h9:=Xhg.out;unfold maxLen;omega) _ _ _ rfl rfl Xhkey.out _ [] rfl ?_)
  intro w6 m6 g6
  have t6:Touch (fun b=>b=mb) w w6:=Xt1.out.drew.drew.trans' ((Touch.refl (fun b=>b=mb) _).grown g6 (fun k e _=>by injection e with e;exact e.symm))
  have k6:=Xkb1.out.drew.drew.grown g6 (by intro e;injection e with e;exact Xhne.out e)
  have hr6:RdI w6 (IntB w6) (.slice A n c) v:=RdI.intB Xhv.out t6 Xhni.out
  have b6:BestMap w6 (D.put (plkey p) (.held (.slice A n c))) (putF B p v):=(Xm2.out.touch t6 Xhni.out).put Xhtd.out Xhp.out hr6
  have m7:=ownsMap_exact m6
  clear m6 g6
  have Xt6:=hide t6;have Xk6:=hide k6;have Xhr6:=hide hr6;have Xb6:=hide b6;have Xm7:=hide m7;clear t6 k6 hr6 b6 m7
  go_wp2_with fail
  go_ret
  exact⟨rfl,⟨Xk6.out,⟨_,Xm7.out,Xb6.out⟩,Xhdom2.out⟩,Xt6.out⟩
 |some u=>
  rw [hB]at hun hrun
  simp only [Option.isSome_some]at hun hrun
  have hc:=hc u hB
  rw [←hun]at hc
  cases bt with
  |false=>
   rw [if_neg (by decide)]
   have fin:=bst _ t1.drew (fun k hk=>b1.drew.block k hk)
   clear hv hdom hpg m1' m2 kb1 bst b1 h hdom2 hun hni htd hsm hkey hne hl1 hl2 hg
   have Xhc:=hide hc;have Xt1:=hide t1;have Xk1:=hide k1;have Xfin:=hide fin;have XhB:=hide hB;have Xhp:=hide hp;clear hc t1 k1 fin hB hp
   go_enter Tryz.func24,Tryz.ntmps24
   go_wp2_with fail
   refine region_reads (by kernel_rfl) (by kernel_rfl) ?_
   repeat still_step
   refine wpStill_nil ?_
   go_wp2_with (go_at_fn 21;refine Xhc.out.mono ?_;rintro e w' ⟨rfl,rfl⟩)
   go_ret
   exact⟨rfl,Xfin.out,Xt1.out.drew⟩
  |true=>
   rw [if_pos rfl]
   clear h hdom hB hpg bst b1 hun
   have Xhc:=hide hc;have Xt1:=hide t1;have Xk1:=hide k1;have Xhp:=hide hp;have Xhni:=hide hni;have Xm1':=hide m1';have Xm2:=hide m2;have Xhsm:=hide hsm;have Xhtd:=hide htd;have Xkb1:=hide kb1;have Xhkey:=hide hkey;have Xhne:=hide hne;have Xhdom2:=hide hdom2;have Xhg:=hide hg;have Xhv:=hide hv;have Xhl1:=hide hl1;have Xhl2:=hide hl2;clear hc t1 k1 hp hni m1' m2 hsm htd kb1 hkey hne hdom2 hg hv hl1 hl2
   go_enter Tryz.func24,Tryz.ntmps24
   go_wp2_with fail
   refine region_reads (by kernel_rfl) (by kernel_rfl) ?_
   repeat still_step
   refine wpStill_nil ?_
   go_wp2_with (go_at_fn 21;refine Xhc.out.mono ?_;rintro e w' ⟨rfl,rfl⟩)
   refine region_tail 6 (by kernel_rfl) (by kernel_rfl) ?_
   simp only [List.take_succ_cons,List.take_zero,List.drop_succ_cons,List.drop_zero]
   repeat still_step
   refine wpStill_nil ?_
   go_wp2_with (at_mapUpdate;refine wpList_mapUpdate_own _ rfl _ _ _ 64 rfl 60 26 Tryz.placeKeyed Tryz.underlying64 heldV mb (Maps.size D) D rfl Xm1'.out.drew.drew (by have h8:=Xhsm.out;have h9:=Xhg.out;unfold maxLen;omega) _ _ _ rfl rfl Xhkey.out _ [] rfl ?_)
   intro w6 m6 g6
   have t6:Touch (fun b=>b=mb) w w6:=Xt1.out.drew.drew.trans' ((Touch.refl (fun b=>b=mb) _).grown g6 (fun k e _=>by injection e with e;exact e.symm))
   have k6:=Xkb1.out.drew.drew.grown g6 (by intro e;injection e with e;exact Xhne.out e)
   have hr6:RdI w6 (IntB w6) (.slice A n c) v:=RdI.intB Xhv.out t6 Xhni.out
   have b6:BestMap w6 (D.put (plkey p) (.held (.slice A n c))) (putF B p v):=(Xm2.out.touch t6 Xhni.out).put Xhtd.out Xhp.out hr6
   have m7:=ownsMap_exact m6
   clear m6 g6
   have Xt6:=hide t6;have Xk6:=hide k6;have Xhr6:=hide hr6;have Xb6:=hide b6;have Xm7:=hide m7;clear t6 k6 hr6 b6 m7
   go_wp2_with fail
   go_ret
   exact⟨rfl,⟨Xk6.out,⟨_,Xm7.out,Xb6.out⟩,Xhdom2.out⟩,Xt6.out⟩
end
end Go.Proofs.YtalbfonkhpeajaaGreat

/- Grammars in memory: the plainest contracts. -/
import Derived.Test.YtalbfonkhpeajaaGreatProg
import Derived.Test.YtalbfonkhpeajaaGreatHBase
import Derived.Shelf.Abstract
namespace Go.Proofs.YtalbfonkhpeajaaGreat
set_option linter.unusedVariables false
section
section
open Go.RowKit
structure GramD where
 terms:List ByteArray
 nons:List ByteArray
 rules:List (Int×List Int)
 start:Int
abbrev RdS (w:World) (F:Nat→Prop) (v:Value) (xs:List ByteArray):Prop:=Rd w F v 1 (xs.map Value.string)
abbrev RdI (w:World) (F:Nat→Prop) (v:Value) (xs:List Int):Prop:=Rd w F v 1 (xs.map (Value.int .i64))
def ERule (w:World) (F:Nat→Prop) (cs:List Value) (r:Int×List Int):Prop:= ∃v,cs=[.int .i64 r.1,v]∧RdI w F v r.2
theorem ERule.below {w w':World} {F:Nat→Prop} {B:Nat} {cs:List Value} {r:Int×List Int} (h:ERule w F cs r) (hb:Below B w w') (hF: ∀b,F b→b<B):ERule w' F cs r:=by
 obtain⟨v,e,hv⟩:=h
 exact⟨v,e,hv.below hb hF⟩
structure IsGram (w:World) (F:Nat→Prop) (vt vn vr:Value) (G:GramD):Prop where
 terms:RdS w F vt G.terms
 nons:RdS w F vn G.nons
 rules:RdL w F 2 (ERule w F) vr G.rules
 lt: ∀b,F b→b<w.heap.size
 small:G.terms.length≤8796093022207∧G.nons.length≤8796093022207∧G.rules.length≤4398046511103
 sizes:(∀s∈G.terms,s.size≤maxLen)∧(∀s∈G.nons,s.size≤maxLen)
 reach:(∀s∈G.terms,s.size≤140737488351232)∧(∀s∈G.nons,s.size≤140737488351232)
 wfs: ∀r∈G.rules,(-9223372036854775808≤r.1∧r.1≤9223372036854775807)∧r.2.length≤17592186044416∧ ∀x∈r.2,-9223372036854775808≤x∧x≤9223372036854775807
theorem IsGram.below {w w':World} {F:Nat→Prop} {vt vn vr:Value} {G:GramD} (h:IsGram w F vt vn vr G) (hb:Below w.heap.size w w'):IsGram w' F vt vn vr G:=
 ⟨h.terms.below hb h.lt,h.nons.below hb h.lt,h.rules.below hb h.lt fun cs x _ e=>e.below hb h.lt,fun b hF=>Nat.lt_of_lt_of_le (h.lt b hF) hb.size,h.small,h.sizes,h.reach,h.wfs⟩
abbrev GV (vt vn vr:Value) (st:Int):Value:= .agg #[vt,vn,vr,.int .i64 st]
theorem IsGram.slices {w:World} {F:Nat→Prop} {vt vn vr:Value} {G:GramD} (h:IsGram w F vt vn vr G): ∃A1 c1 A2 c2 A3 c3,vt= .slice A1 G.terms.length c1∧vn= .slice A2 G.nons.length c2∧vr= .slice A3 G.rules.length c3∧G.terms.length≤c1∧G.nons.length≤c2∧G.rules.length≤c3∧c1≤9223372036854775807∧c2≤9223372036854775807∧c3≤9223372036854775807:=by
 obtain⟨A1,n1,c1,e1,h1,m1,l1,_⟩:=h.terms
 obtain⟨A2,n2,c2,e2,h2,m2,l2,_⟩:=h.nons
 obtain⟨A3,c3,e3,h3,m3,_⟩:=h.rules
 have l1':n1=G.terms.length:=by simpa using l1.symm
 have l2':n2=G.nons.length:=by simpa using l2.symm
 subst l1' l2'
 unfold maxLen at m1 m2 m3
 exact⟨A1,c1,A2,c2,A3,c3,e1,e2,e3,h1,h2,h3,by omega,by omega,by omega⟩
def topOf (G:GramD):Nat:=G.terms.length+G.nons.length
def isTerm (G:GramD) (s:Int):Bool:=decide (1≤s)&&decide (s≤G.terms.length)
def isNon (G:GramD) (s:Int):Bool:=decide (G.terms.length<s)&&decide (s≤topOf G)
def Quiet (w:World) (r:Value) (e:Ending) (w':World):Prop:=e= .returned r∧Below w.heap.size w w'
theorem gram_top {w:World} {F:Nat→Prop} {vt vn vr:Value} {G:GramD} (h:IsGram w F vt vn vr G) (st:Int):
  Calls Tryz.prog 45 #[GV vt vn vr st] w (Quiet w (.int .i64 (topOf G))):=by
 obtain⟨A1,c1,A2,c2,A3,c3,rfl,rfl,rfl,_⟩:=h.slices
 have hs:=h.small
 obtain⟨T,hT⟩: ∃T,T=G.terms.length:=⟨_,rfl⟩
 obtain⟨N,hN⟩: ∃N,N=G.nons.length:=⟨_,rfl⟩
 rw [←hT,←hN]at hs⊢
 have H1:=hide hT
 have H2:=hide hN
 obtain⟨s1,s2,s3⟩:=hs
 clear hT hN h
 go_enter Tryz.func45,Tryz.ntmps45
 go_wp2
 go_ret
 exact⟨ret_int (by unfold topOf;rw [←H1.out,←H2.out];omega),(Below.refl _ _).alloc (Nat.le_refl _) _⟩
theorem gram_term {w:World} {F:Nat→Prop} {vt vn vr:Value} {G:GramD} (h:IsGram w F vt vn vr G) (st s:Int):
  Calls Tryz.prog 46 #[GV vt vn vr st,.int .i64 s] w (Quiet w (.bool (isTerm G s))):=by
 obtain⟨A1,c1,A2,c2,A3,c3,rfl,rfl,rfl,_⟩:=h.slices
 have hs:=h.small
 have hsp:isTerm G s=(decide (1≤s)&&decide (s≤(G.terms.length:Int))):=rfl
 obtain⟨T,hT⟩: ∃T,T=G.terms.length:=⟨_,rfl⟩
 rw [←hT]at hs hsp⊢
 have HS:=hide hsp
 obtain⟨s1,s2,s3⟩:=hs
 clear hT h hsp
 by_cases h1:1≤s
 ·go_enter Tryz.func46,Tryz.ntmps46
  go_wp2
  go_ret
  exact⟨ret_bool (by rw [HS.out,decide_eq_true h1];rfl),(Below.refl _ _).alloc (Nat.le_refl _) _⟩
 ·go_enter Tryz.func46,Tryz.ntmps46
  go_wp2
  go_ret
  exact⟨ret_bool (by rw [HS.out,decide_eq_false (by omega)];rfl),(Below.refl _ _).alloc (Nat.le_refl _) _⟩
theorem gram_non {w:World} {F:Nat→Prop} {vt vn vr:Value} {G:GramD} (h:IsGram w F vt vn vr G) (st s:Int):
  Calls Tryz.prog 76 #[GV vt vn vr st,.int .i64 s] w (Quiet w (.bool (isNon G s))):=by
 have hs:=h.small
 have hsp:isNon G s=(decide ((G.terms.length:Int)<s)&&decide (s≤(topOf G:Int))):=rfl
 have H:=hide h
 obtain⟨A1,c1,A2,c2,A3,c3,e1,e2,e3,_⟩:=h.slices
 have h4:=h.below ((Below.refl _ w).alloc (Nat.le_refl _) (.cells #[vt,vn,vr,.int .i64 st] 25))
 subst e1 e2 e3
 obtain⟨T,hT⟩: ∃T,T=G.terms.length:=⟨_,rfl⟩
 have H4:=hide h4
 rw [←hT]at hs hsp H4⊢
 have HS:=hide hsp
 obtain⟨s1,s2,s3⟩:=hs
 clear hT h hsp h4 H
 by_cases h1:(T:Int)<s
 ·go_enter Tryz.func76,Tryz.ntmps76
  go_wp2_with fail
  refine(gram_top H4.out _).mono ?_
  rintro e w1 ⟨rfl,b1⟩
  go_wp2_with fail
  go_ret
  exact⟨ret_bool (by rw [HS.out,decide_eq_true h1];rfl),((Below.refl _ _).alloc (Nat.le_refl _) _).trans (b1.mono (by simp))⟩
 ·go_enter Tryz.func76,Tryz.ntmps76
  go_wp2_with fail
  go_ret
  exact⟨ret_bool (by rw [HS.out,decide_eq_false (by omega)];rfl),(Below.refl _ _).alloc (Nat.le_refl _) _⟩
theorem ref_top {w:World} {F:Nat→Prop} {vt vn vr:Value} {G:GramD} (h:IsGram w F vt vn vr G) (st:Int):
  Calls Tryz.prog 14 #[GV vt vn vr st] w (Quiet w (.int .i64 (topOf G))):=by
 obtain⟨A1,c1,A2,c2,A3,c3,rfl,rfl,rfl,_⟩:=h.slices
 have hs:=h.small
 obtain⟨T,hT⟩: ∃T,T=G.terms.length:=⟨_,rfl⟩
 obtain⟨N,hN⟩: ∃N,N=G.nons.length:=⟨_,rfl⟩
 rw [←hT,←hN]at hs⊢
 have H1:=hide hT
 have H2:=hide hN
 obtain⟨s1,s2,s3⟩:=hs
 clear hT hN h
 go_enter Tryz.func14,Tryz.ntmps14
 go_wp2
 go_ret
 exact⟨ret_int (by unfold topOf;rw [←H1.out,←H2.out];omega),(Below.refl _ _).alloc (Nat.le_refl _) _⟩
theorem ref_term {w:World} {F:Nat→Prop} {vt vn vr:Value} {G:GramD} (h:IsGram w F vt vn vr G) (st s:Int):
  Calls Tryz.prog 66 #[GV vt vn vr st,.int .i64 s] w (Quiet w (.bool (isTerm G s))):=by
 obtain⟨A1,c1,A2,c2,A3,c3,rfl,rfl,rfl,_⟩:=h.slices
 have hs:=h.small
 have hsp:isTerm G s=(decide (1≤s)&&decide (s≤(G.terms.length:Int))):=rfl
 obtain⟨T,hT⟩: ∃T,T=G.terms.length:=⟨_,rfl⟩
 rw [←hT]at hs hsp⊢
 have HS:=hide hsp
 obtain⟨s1,s2,s3⟩:=hs
 clear hT h hsp
 by_cases h1:1≤s
 ·go_enter Tryz.func66,Tryz.ntmps66
  go_wp2
  go_ret
  exact⟨ret_bool (by rw [HS.out,decide_eq_true h1];rfl),(Below.refl _ _).alloc (Nat.le_refl _) _⟩
 ·go_enter Tryz.func66,Tryz.ntmps66
  go_wp2
  go_ret
  exact⟨ret_bool (by rw [HS.out,decide_eq_false (by omega)];rfl),(Below.refl _ _).alloc (Nat.le_refl _) _⟩
theorem ref_non {w:World} {F:Nat→Prop} {vt vn vr:Value} {G:GramD} (h:IsGram w F vt vn vr G) (st s:Int):
  Calls Tryz.prog 65 #[GV vt vn vr st,.int .i64 s] w (Quiet w (.bool (isNon G s))):=by
 have hs:=h.small
 have hsp:isNon G s=(decide ((G.terms.length:Int)<s)&&decide (s≤(topOf G:Int))):=rfl
 have H:=hide h
 obtain⟨A1,c1,A2,c2,A3,c3,e1,e2,e3,_⟩:=h.slices
 have h4:=h.below ((Below.refl _ w).alloc (Nat.le_refl _) (.cells #[vt,vn,vr,.int .i64 st] 25))
 subst e1 e2 e3
 obtain⟨T,hT⟩: ∃T,T=G.terms.length:=⟨_,rfl⟩
 have H4:=hide h4
 rw [←hT]at hs hsp H4⊢
 have HS:=hide hsp
 obtain⟨s1,s2,s3⟩:=hs
 clear hT h hsp h4 H
 by_cases h1:(T:Int)<s
 ·go_enter Tryz.func65,Tryz.ntmps65
  go_wp2_with fail
  refine(ref_top H4.out _).mono ?_
  rintro e w1 ⟨rfl,b1⟩
  go_wp2_with fail
  go_ret
  exact⟨ret_bool (by rw [HS.out,decide_eq_true h1];rfl),((Below.refl _ _).alloc (Nat.le_refl _) _).trans (b1.mono (by simp))⟩
 ·go_enter Tryz.func65,Tryz.ntmps65
  go_wp2_with fail
  go_ret
  exact⟨ret_bool (by rw [HS.out,decide_eq_false (by omega)];rfl),(Below.refl _ _).alloc (Nat.le_refl _) _⟩
end
section
open Go.RowKit
theorem Tryz.infoStr:(Tryz.prog.info? 9).map (fun i=>(i.zero,i.size,i.bytes))=some (some (.string ByteArray.empty),1,16):=by kernel_rfl
theorem Tryz.elemStr:Elem Tryz.prog 22 9 (.string ByteArray.empty) 1 16:=⟨Tryz.underlying22,Tryz.infoStr,rfl,by decide⟩
theorem Tryz.infoInt:(Tryz.prog.info? 3).map (fun i=>(i.zero,i.size,i.bytes))=some (some (.int .i64 0),1,8):=by kernel_rfl
theorem Tryz.elemInt:Elem Tryz.prog 26 3 (.int .i64 0) 1 8:=⟨Tryz.underlying26,Tryz.infoInt,rfl,by decide⟩
theorem RdS.at_ {w:World} {F:Nat→Prop} {A:Option Addr} {n c:Nat} {xs:List ByteArray} (h:RdS w F (.slice A n c) xs):n=xs.length∧n≤c∧c≤maxLen∧(0<n→ ∃b off,A=some ⟨b,off,none⟩∧F b∧ ∀k x,xs[k]? =some x→w.cell? ⟨b,off+k,none⟩=some (.string x)):=by
 obtain⟨A',n',c',hv,h1,h2,hl,hr⟩:=h
 injection hv with e1 e2 e3
 subst e1 e2 e3
 refine⟨by simpa using hl.symm,h1,h2,fun hn=> ?_⟩
 obtain⟨b,off,hA,hF,hc⟩:=hr hn
 exact⟨b,off,hA,hF,fun k x hx=>hc k _ (by simp [hx])⟩
theorem RdI.at_ {w:World} {F:Nat→Prop} {A:Option Addr} {n c:Nat} {xs:List Int} (h:RdI w F (.slice A n c) xs):n=xs.length∧n≤c∧c≤maxLen∧(0<n→ ∃b off,A=some ⟨b,off,none⟩∧F b∧ ∀k x,xs[k]? =some x→w.cell? ⟨b,off+k,none⟩=some (.int .i64 x)):=by
 obtain⟨A',n',c',hv,h1,h2,hl,hr⟩:=h
 injection hv with e1 e2 e3
 subst e1 e2 e3
 refine⟨by simpa using hl.symm,h1,h2,fun hn=> ?_⟩
 obtain⟨b,off,hA,hF,hc⟩:=hr hn
 exact⟨b,off,hA,hF,fun k x hx=>hc k _ (by simp [hx])⟩
theorem ERule.at_ {w:World} {F:Nat→Prop} {A:Option Addr} {n c:Nat} {rs:List (Int×List Int)} (h:RdL w F 2 (ERule w F) (.slice A n c) rs):n=rs.length∧n≤c∧c≤maxLen∧(0<n→ ∃b off,A=some ⟨b,off,none⟩∧F b∧ ∀(k:Nat) (r:Int×List Int),rs[k]? =some r→ ∃v,w.cell? ⟨b,off+k * 2,none⟩=some (.int .i64 r.1)∧w.cell? ⟨b,off+k * 2+1,none⟩=some v∧RdI w F v r.2):=by
 obtain⟨A',c',hv,h1,h2,hr⟩:=h
 injection hv with e1 e2 e3
 subst e1 e2 e3
 refine⟨rfl,h1,h2,fun hn=> ?_⟩
 obtain⟨b,off,hA,hF,hc⟩:=hr hn
 refine⟨b,off,hA,hF,fun k r hk=> ?_⟩
 obtain⟨cs,_,⟨v,rfl,hv⟩,hcell⟩:=hc k r hk
 exact⟨v,hcell 0 _ rfl,hcell 1 _ rfl,hv⟩
theorem ref_place {w:World} {F:Nat→Prop} {v:Value} {xs:List ByteArray} (h:RdS w F v xs) (s:ByteArray):
  Calls Tryz.prog 64 #[v,.string s] w fun e w'=>e= .returned (.int .i64 (place xs s))∧w=w':=by
 obtain⟨A,n,c,rfl,_⟩:=id h
 obtain⟨hn,hnc,hcm,hcell⟩:=h.at_
 unfold maxLen at hcm
 go_enter Tryz.func64,Tryz.ntmps64
 go_wp2
 go_loop [5] (fun i=> ∃k:Nat,k≤n∧i= .int .i64 k∧ ∀j:Nat,j<k→xs[j]? ≠some s) (fun i=>n - (intOf i).toNat)
 case atStart=>exact⟨0,Nat.zero_le _,rfl,fun j hj=>absurd hj (by omega)⟩
 case round=>
  obtain⟨k,hk,rfl,hbefore⟩:=hrel
  have HB:=hide hbefore
  clear hbefore
  by_cases hlt:k<n
  ·obtain⟨b,off,rfl,_,hc⟩:=hcell (by omega)
   obtain⟨x,hx⟩: ∃x,xs[k]? =some x:=⟨_,List.getElem?_eq_getElem (by omega)⟩
   have hcx:=hc k x hx
   have HX:=hide hx
   have HN:=hide hn
   clear hcell hc hx hn
   by_cases he:x.toList=s.toList
   ·have HE:=hide he
    have he':(x.toList==s.toList)=true:=by rw [he];simp
    clear he
    go_wp2
    go_ret
    exact⟨ret_int (by rw [place_first (i:=k) (by rw [HX.out,toList_inj HE.out]) HB.out]),rfl⟩
   ·have HE:=hide he
    have he':(x.toList==s.toList)=false:=by simpa using he
    clear he
    go_wp2
    go_round
    case rel=>
     refine⟨k+1,by omega,by go_num,fun j hj=> ?_⟩
     by_cases hjk:j=k
     ·subst hjk;rw [HX.out];intro e;injection e with e;exact HE.out (by rw [e])
     ·exact HB.out j (by omega)
    case measure=>simp [intOf];omega
  ·have HN:=hide hn
   clear hn
   go_wp2
   go_ret
   refine⟨ret_int (by rw [place_not];intro hm;obtain⟨j,hj,e⟩:=List.getElem_of_mem hm;exact HB.out j (by have:=HN.out;omega) (by rw [List.getElem?_eq_getElem hj,e])),rfl⟩
end
section
open Go.RowKit
def OwnPost (w:World) (e:TypeId) (xs:List Value) (n:Nat) (en:Ending) (w':World):Prop:=
 ∃A c,en= .returned (.slice A n c)∧w'.ownsRow w.heap.size e 1 (.slice A n c) n xs∧Below w.heap.size w w'
theorem rds_ones {xs:List ByteArray}: ∀u∈xs.map Value.string,u.oneCell'=true:=by
 intro u hu;obtain⟨x,_,rfl⟩:=List.mem_map.1 hu;rfl
set_option maxHeartbeats 1000000 in
theorem ref_names {w:World} {F:Nat→Prop} {vt vn vr:Value} {G:GramD} (h:IsGram w F vt vn vr G) (st:Int) (hb:G.terms.length+G.nons.length≤65536):
  Calls Tryz.prog 32 #[GV vt vn vr st] w (OwnPost w 9 ((G.terms++G.nons).map Value.string) (topOf G)):=by
 have hs:=h.small
 have hlt:=h.lt
 have ht:=h.terms
 have hn:=h.nons
 obtain⟨A1,c1,A2,c2,A3,c3,rfl,rfl,rfl,_⟩:=h.slices
 obtain⟨s1,s2,s3⟩:=hs
 have H:=hide h
 have HT:=hide ht
 have HN:=hide hn
 have HL:=hide hlt
 obtain⟨T,hT⟩: ∃T,T=G.terms.length:=⟨_,rfl⟩
 obtain⟨N,hN⟩: ∃N,N=G.nons.length:=⟨_,rfl⟩
 clear h ht hn hlt
 rw [←hT]at s1 HT⊢
 rw [←hN]at s2 HN⊢
 rw [←hT,←hN]at hb
 have h1:=hide hT
 have h2:=hide hN
 clear hT hN H
 obtain⟨box,hbox⟩: ∃box:Obj,box= .cells #[.slice A1 T c1,.slice A2 N c2,.slice A3 G.rules.length c3,.int .i64 st] 25:=⟨_,rfl⟩
 have b1:Below w.heap.size w (((w.alloc box).alloc (.cells #[] 9)).drew):=((((Below.refl _ w).alloc (Nat.le_refl _) _)).alloc (by simp) _).drew
 have o1:World.ownsRow (((w.alloc box).alloc (.cells #[] 9)).drew) w.heap.size 9 1 (.slice (some ⟨w.heap.size+1,0,none⟩) 0 0) 0 []:=by
  have:=World.ownsRow_made (base:=w.heap.size) (e:=9) (size:=1) (w.alloc box) #[] 0 (by simp) (by decide) rfl
  have h2:World.ownsRow ((w.alloc box).alloc (.cells #[] 9)) w.heap.size 9 1 (.slice (some ⟨w.heap.size+1,0,none⟩) 0 0) 0 []:=by simpa using this
  exact h2
 have r1:=HT.out.below b1 HL.out
 have ln1:(G.terms.map Value.string).length=T * 1:=by simpa using h1.out.symm
 have ln2:(G.nons.map Value.string).length=N * 1:=by simpa using h2.out.symm
 have m1:0+T≤maxLen:=by unfold maxLen;omega
 have m2:(0+T) * 16≤140737488355328:=by omega
 have m3:T+N≤maxLen:=by unfold maxLen;omega
 have m5:(T+N) * 16≤140737488355328:=by omega
 have m3':(0+T)+N≤maxLen:=by unfold maxLen;omega
 have m5':((0+T)+N) * 16≤140737488355328:=by omega
 have after: ∀(A:Option Addr) (c:Nat) (w4:World),w4.ownsRow w.heap.size 9 1 (.slice A (0+T) c) (0+T) ([]++G.terms.map Value.string)→(((w.alloc box).alloc (.cells #[] 9)).drew).grownBy w4 (some (w.heap.size+1))→
   w4.ownsRow w.heap.size 9 1 (.slice A T c) T (G.terms.map Value.string)∧Below w.heap.size w w4∧Rd w4 F (.slice A2 N c2) 1 (G.nons.map Value.string)∧w4.cell? ⟨w.heap.size,0,none⟩=some (.slice A1 T c1)∧w4.cell? ⟨w.heap.size,1,none⟩=some (.slice A2 N c2)∧Blk w4 w.heap.size 25 #[.slice A1 T c1,.slice A2 N c2,.slice A3 G.rules.length c3,.int .i64 st]:=by
  intro A c w4 ho hg
  have b4:=b1.grown hg (by simp;omega) (fun k hk=>by injection hk with hk;omega)
  have hbl:Blk w4 w.heap.size 25 #[.slice A1 T c1,.slice A2 N c2,.slice A3 G.rules.length c3,.int .i64 st]:=by
   have h0:Blk (((w.alloc box).alloc (.cells #[] 9)).drew) w.heap.size 25 #[.slice A1 T c1,.slice A2 N c2,.slice A3 G.rules.length c3,.int .i64 st]:=by
    rw [hbox];exact((Blk.new w _ _).alloc _).drew
   exact h0.grown hg (by simp)
  exact⟨by simpa using ho,b4,HN.out.below b4 HL.out,by simpa using hbl.cell 0,by simpa using hbl.cell 1,hbl⟩
 have aft2: ∀(w4 w5:World) (v:Value) (n:Nat) (xs:List Value),Blk w4 w.heap.size 25 #[.slice A1 T c1,.slice A2 N c2,.slice A3 G.rules.length c3,.int .i64 st]→w4.ownsRow w.heap.size 9 1 v n xs→w4.grownBy w5 v.ownBlock→w5.cell? ⟨w.heap.size,0,none⟩=some (.slice A1 T c1)∧w5.cell? ⟨w.heap.size,1,none⟩=some (.slice A2 N c2):=by
  intro w4 w5 v n xs hb ho hg
  have h5:=hb.grown hg (fun e=>hb.ne_own ho (by decide) e.symm)
  exact⟨by simpa using h5.cell 0,by simpa using h5.cell 1⟩
 have AF2:=hide aft2
 clear aft2
 have AFT:=hide after
 have O1:=hide o1
 have R1:=hide r1
 have B1:=hide b1
 clear after o1 r1 b1
 rw [hbox]at AFT O1 R1 B1
 clear hbox
 go_enter Tryz.func32,Tryz.ntmps32
 go_wp2_with fail
 go_region_held3 (fun w'=>w'.cell? ⟨w.heap.size,0,none⟩=some (.slice A1 T c1)∧w'.cell? ⟨w.heap.size,1,none⟩=some (.slice A2 N c2))
  (first|go_keep|exact⟨k0,k1⟩|exact⟨k2,k3⟩)
  (first
   |(refine step_append _ rfl (.tmp 3) (.tmp 5) _ rfl Tryz.elemStr w.heap.size _ 0 [] rfl O1.out F _ _ T rfl ln1 R1.out rds_ones m1 m2 B1.out.size ?_;intro A4 c4 w4 hown4 hg4 hb4;obtain⟨o4,b4,r4,k0,k1,bl4⟩:=AFT.out A4 c4 w4 hown4 hg4;have o4':=hown4)
   |(refine step_append _ rfl (.tmp 6) (.tmp 8) _ rfl Tryz.elemStr w.heap.size _ (0+T) _ rfl o4' F _ _ N rfl ln2 r4 rds_ones m3' m5' b4.size ?_;intro A5 c5 w5 hown5 hg5 hb5;obtain⟨k2,k3⟩:=AF2.out _ _ _ _ _ bl4 o4' hg5))
 have fin:OwnPost w 9 ((G.terms++G.nons).map Value.string) (topOf G) (.returned (.slice A5 (T+N) c5)) w5:=by
  have e:topOf G=T+N:=by unfold topOf;rw [←h1.out,←h2.out]
  rw [e]
  refine⟨A5,c5,rfl,?_,b4.grown hg5 b4.size (fun k hk=>(o4'.lt k hk).1)⟩
  rw [List.map_append]
  simpa using hown5
 have FIN:=hide fin
 clear fin hown5 hg5 hb5
 go_wp2_with fail
 go_ret
 exact FIN.out
end
section
open Go.RowKit
theorem equal_ints {w:World} {F G:Nat→Prop} {v u:Value} {xs ys:List Int} (h:RdI w F v xs) (g:RdI w G u ys):
  Calls Tryz.prog 109 #[v,u] w (Quiet w (.bool (decide (xs=ys)))):=by
 obtain⟨A,n,c,rfl,_⟩:=id h
 obtain⟨B,m,d,rfl,_⟩:=id g
 obtain⟨hn,hnc,hcm,hcell⟩:=h.at_
 obtain⟨hm,hmd,hdm,hcell'⟩:=g.at_
 unfold maxLen at hcm hdm
 by_cases hnm:n=m
 ·subst hnm
  have HN:=hide hn
  have HM:=hide hm
  clear hn hm
  go_enter Tryz.func109,Tryz.ntmps109
  go_wp2
  go_loopw [13] (fun i wr=> ∃k q:Nat,k≤n∧i= .int .i64 k∧wr=w.drewN q∧ ∀j:Nat,j<k→xs[j]? =ys[j]?) (fun i _=>n - (intOf i).toNat)
  case atStart=>exact⟨0,0,Nat.zero_le _,rfl,rfl,fun j hj=>absurd hj (by omega)⟩
  case round=>
   obtain⟨k,q,hk,rfl,rfl,hbefore⟩:=hrel
   have HB:=hide hbefore
   clear hbefore
   by_cases hlt:k<n
   ·obtain⟨b,off,rfl,_,hc⟩:=hcell (by omega)
    obtain⟨b',off',rfl,_,hc'⟩:=hcell' (by omega)
    obtain⟨x,hx⟩: ∃x,xs[k]? =some x:=⟨_,List.getElem?_eq_getElem (by rw [←HN.out];omega)⟩
    obtain⟨y,hy⟩: ∃y,ys[k]? =some y:=⟨_,List.getElem?_eq_getElem (by rw [←HM.out];omega)⟩
    have hcx:=hc k x hx
    have hcy:=hc' k y hy
    have HX:=hide hx
    have HY:=hide hy
    clear hcell hc hx hcell' hc' hy
    by_cases he:x=y
    ·have HE:=hide he
     have he':(x==y)=true:=by subst he;simp
     clear he
     go_wp2_with fail
     go_quiet (fail)
     go_wp2
     go_roundw
     case rel=>
      refine⟨k+1,q+nq,by omega,by go_num,rfl,fun j hj=> ?_⟩
      by_cases hjk:j=k
      ·subst hjk;rw [HX.out,HY.out,HE.out]
      ·exact HB.out j (by omega)
     case measure=>simp [intOf];omega
    ·have HE:=hide he
     have he':(x==y)=false:=by simpa using he
     clear he
     go_wp2_with fail
     go_quiet (fail)
     go_wp2
     go_ret
     refine⟨ret_bool ?_,⟨rfl,rfl,rfl,Nat.le_refl _,fun _ _=>rfl⟩⟩
     symm
     rw [decide_eq_false_iff_not]
     rintro rfl
     rw [HX.out]at HY
     have:=HY.out
     injection this with this
     exact HE.out this
   ·go_wp2
    go_ret
    refine⟨ret_bool ?_,⟨rfl,rfl,rfl,Nat.le_refl _,fun _ _=>rfl⟩⟩
    symm
    rw [decide_eq_true_eq]
    apply List.ext_getElem?
    intro j
    by_cases hj:j<n
    ·exact HB.out j (by omega)
    ·rw [List.getElem?_eq_none (by rw [←HN.out];omega),List.getElem?_eq_none (by rw [←HM.out];omega)]
 ·have hne:((n:Int)==(m:Int))=false:=by simpa using(by omega: ¬(n:Int)=(m:Int))
  have HN:=hide hn
  have HM:=hide hm
  clear hn hm
  go_enter Tryz.func109,Tryz.ntmps109
  go_wp2
  go_ret
  refine⟨ret_bool ?_,⟨rfl,rfl,rfl,Nat.le_refl _,fun _ _=>rfl⟩⟩
  symm
  rw [decide_eq_false_iff_not]
  rintro rfl
  exact hnm (by rw [HN.out,HM.out])
theorem ref_ints {w:World} {F G:Nat→Prop} {v u:Value} {xs ys:List Int} (h:RdI w F v xs) (g:RdI w G u ys):
  Calls Tryz.prog 98 #[v,u] w (Quiet w (.bool (decide (xs=ys)))):=by
 obtain⟨A,n,c,rfl,_⟩:=id h
 obtain⟨B,m,d,rfl,_⟩:=id g
 obtain⟨hn,hnc,hcm,hcell⟩:=h.at_
 obtain⟨hm,hmd,hdm,hcell'⟩:=g.at_
 unfold maxLen at hcm hdm
 by_cases hnm:n=m
 ·subst hnm
  have HN:=hide hn
  have HM:=hide hm
  clear hn hm
  go_enter Tryz.func98,Tryz.ntmps98
  go_wp2
  go_loopw [5] (fun i wr=> ∃k q:Nat,k≤n∧i= .int .i64 k∧wr=w.drewN q∧ ∀j:Nat,j<k→xs[j]? =ys[j]?) (fun i _=>n - (intOf i).toNat)
  case atStart=>exact⟨0,0,Nat.zero_le _,rfl,rfl,fun j hj=>absurd hj (by omega)⟩
  case round=>
   obtain⟨k,q,hk,rfl,rfl,hbefore⟩:=hrel
   have HB:=hide hbefore
   clear hbefore
   by_cases hlt:k<n
   ·obtain⟨b,off,rfl,_,hc⟩:=hcell (by omega)
    obtain⟨b',off',rfl,_,hc'⟩:=hcell' (by omega)
    obtain⟨x,hx⟩: ∃x,xs[k]? =some x:=⟨_,List.getElem?_eq_getElem (by rw [←HN.out];omega)⟩
    obtain⟨y,hy⟩: ∃y,ys[k]? =some y:=⟨_,List.getElem?_eq_getElem (by rw [←HM.out];omega)⟩
    have hcx:=hc k x hx
    have hcy:=hc' k y hy
    have HX:=hide hx
    have HY:=hide hy
    clear hcell hc hx hcell' hc' hy
    by_cases he:x=y
    ·have HE:=hide he
     have he':(x==y)=true:=by subst he;simp
     clear he
     go_wp2_with fail
     go_quiet (fail)
     go_wp2
     go_roundw
     case rel=>
      refine⟨k+1,q+nq,by omega,by go_num,rfl,fun j hj=> ?_⟩
      by_cases hjk:j=k
      ·subst hjk;rw [HX.out,HY.out,HE.out]
      ·exact HB.out j (by omega)
     case measure=>simp [intOf];omega
    ·have HE:=hide he
     have he':(x==y)=false:=by simpa using he
     clear he
     go_wp2_with fail
     go_quiet (fail)
     go_wp2
     go_ret
     refine⟨ret_bool ?_,⟨rfl,rfl,rfl,Nat.le_refl _,fun _ _=>rfl⟩⟩
     symm
     rw [decide_eq_false_iff_not]
     rintro rfl
     rw [HX.out]at HY
     have:=HY.out
     injection this with this
     exact HE.out this
   ·go_wp2
    go_ret
    refine⟨ret_bool ?_,⟨rfl,rfl,rfl,Nat.le_refl _,fun _ _=>rfl⟩⟩
    symm
    rw [decide_eq_true_eq]
    apply List.ext_getElem?
    intro j
    by_cases hj:j<n
    ·exact HB.out j (by omega)
    ·rw [List.getElem?_eq_none (by rw [←HN.out];omega),List.getElem?_eq_none (by rw [←HM.out];omega)]
 ·have hne:((n:Int)==(m:Int))=false:=by simpa using(by omega: ¬(n:Int)=(m:Int))
  have HN:=hide hn
  have HM:=hide hm
  clear hn hm
  go_enter Tryz.func98,Tryz.ntmps98
  go_wp2
  go_ret
  refine⟨ret_bool ?_,⟨rfl,rfl,rfl,Nat.le_refl _,fun _ _=>rfl⟩⟩
  symm
  rw [decide_eq_false_iff_not]
  rintro rfl
  exact hnm (by rw [HN.out,HM.out])
end
section
open Go.RowKit
theorem same_rule {w:World} {F G:Nat→Prop} {l m:Int} {v u:Value} {xs ys:List Int} (h:RdI w F v xs) (g:RdI w G u ys) (hF: ∀b,F b→b<w.heap.size) (hG: ∀b,G b→b<w.heap.size):
  Calls Tryz.prog 80 #[.agg #[.int .i64 l,v],.agg #[.int .i64 m,u]] w (Quiet w (.bool (decide ((l,xs)=(m,ys))))):=by
 have b2:=((Below.refl _ w).alloc (Nat.le_refl _) (.cells #[.int .i64 l,v] 42)).alloc (by simp) (.cells #[.int .i64 m,u] 42)
 have he:=equal_ints (h.below b2 hF) (g.below b2 hG)
 obtain⟨A,n,c,rfl,_⟩:=id h
 obtain⟨B,n',d,rfl,_⟩:=id g
 have B2:=hide b2
 have HE:=hide he
 clear h g he b2
 by_cases hlm:l=m
 ·have hb:(l==m)=true:=by simpa using hlm
  have HL:=hide hlm
  clear hlm
  go_enter Tryz.func80,Tryz.ntmps80
  go_wp2_with fail
  refine HE.out.mono ?_
  rintro e w1 ⟨rfl,b1⟩
  go_wp2_with fail
  go_ret
  exact⟨ret_bool (by have e:=HL.out;subst e;simp),B2.out.trans (b1.mono (by simp;omega))⟩
 ·have hb:(l==m)=false:=by simpa using hlm
  have HL:=hide hlm
  clear hlm
  go_enter Tryz.func80,Tryz.ntmps80
  go_wp2_with fail
  go_ret
  exact⟨ret_bool (by simp;intro e;exact absurd e HL.out),B2.out⟩
theorem ref_same_rule {w:World} {F G:Nat→Prop} {l m:Int} {v u:Value} {xs ys:List Int} (h:RdI w F v xs) (g:RdI w G u ys) (hF: ∀b,F b→b<w.heap.size) (hG: ∀b,G b→b<w.heap.size):
  Calls Tryz.prog 67 #[.agg #[.int .i64 l,v],.agg #[.int .i64 m,u]] w (Quiet w (.bool (decide ((l,xs)=(m,ys))))):=by
 have b2:=((Below.refl _ w).alloc (Nat.le_refl _) (.cells #[.int .i64 l,v] 42)).alloc (by simp) (.cells #[.int .i64 m,u] 42)
 have he:=ref_ints (h.below b2 hF) (g.below b2 hG)
 obtain⟨A,n,c,rfl,_⟩:=id h
 obtain⟨B,n',d,rfl,_⟩:=id g
 have B2:=hide b2
 have HE:=hide he
 clear h g he b2
 by_cases hlm:l=m
 ·have hb:(l==m)=true:=by simpa using hlm
  have HL:=hide hlm
  clear hlm
  go_enter Tryz.func67,Tryz.ntmps67
  go_wp2_with fail
  refine HE.out.mono ?_
  rintro e w1 ⟨rfl,b1⟩
  go_wp2_with fail
  go_ret
  exact⟨ret_bool (by have e:=HL.out;subst e;simp),B2.out.trans (b1.mono (by simp;omega))⟩
 ·have hb:(l==m)=false:=by simpa using hlm
  have HL:=hide hlm
  clear hlm
  go_enter Tryz.func67,Tryz.ntmps67
  go_wp2_with fail
  go_ret
  exact⟨ret_bool (by simp;intro e;exact absurd e HL.out),B2.out⟩
end
section
open Go.RowKit
theorem Tryz.enters_same: ∀args w,(callFunc 80 args).run Tryz.prog w= .ok (.enter 80 args) w:=enters_of Tryz.func80 (by kernel_rfl) rfl
abbrev RdR (w:World) (F:Nat→Prop) (v:Value) (rs:List (Int×List Int)):Prop:=RdL w F 2 (ERule w F) v rs
theorem RdR.below {w w':World} {F:Nat→Prop} {v:Value} {rs:List (Int×List Int)} (h:RdR w F v rs) (hb:Below w.heap.size w w') (hF: ∀b,F b→b<w.heap.size):RdR w' F v rs:=
 RdL.below h hb hF fun cs x _ e=>e.below hb hF
theorem RdR.get {w wr:World} {F:Nat→Prop} {b off n:Nat} {rs:List (Int×List Int)} (hF: ∀b,F b→b<w.heap.size) (hb:F b) (hw:Below w.heap.size w wr)
  (hc: ∀(k:Nat) (r:Int×List Int),rs[k]? =some r→ ∃v,w.cell? ⟨b,off+k * 2,none⟩=some (.int .i64 r.1)∧w.cell? ⟨b,off+k * 2+1,none⟩=some v∧RdI w F v r.2) {k:Nat} (hk:k<rs.length):
  ∃l xs v,rs[k]? =some (l,xs)∧wr.cell? ⟨b,off+k * 2,none⟩=some (.int .i64 l)∧wr.cell? ⟨b,off+k * 2+1,none⟩=some v∧RdI wr F v xs:=by
 obtain⟨v,h1,h2,h3⟩:=hc k _ (List.getElem?_eq_getElem hk)
 refine⟨_,_,v,List.getElem?_eq_getElem hk,?_,?_,h3.below hw hF⟩
 ·rw [hw.cell (p:=⟨b,_,none⟩) (hF b hb)];exact h1
 ·rw [hw.cell (p:=⟨b,_,none⟩) (hF b hb)];exact h2
end
section
open Go.RowKit
theorem IsGram.blk {w:World} {F:Nat→Prop} {vt vn vr:Value} {G:GramD} (h:IsGram w F vt vn vr G) (o:Obj):IsGram (w.alloc o) F vt vn vr G:=h.below ((Below.refl _ w).alloc (Nat.le_refl _) o)
end
end
section
section
open Go.RowKit
theorem below_drewN {B:Nat} {a b:World} (h:Below B a b) (n:Nat):Below B a (b.drewN n):=⟨h.os,h.tape,h.output,h.size,h.block⟩
end
section
open Go.RowKit
theorem isNon_iff {G:GramD} {s:Int}:isNon G s=true↔(G.terms.length:Int)<s∧s≤(G.terms.length:Int)+G.nons.length:=by
 unfold isNon
 rw [Bool.and_eq_true,decide_eq_true_eq,decide_eq_true_eq]
 unfold topOf
 omega
theorem isTerm_iff {G:GramD} {s:Int}:isTerm G s=true↔1≤s∧s≤(G.terms.length:Int):=by
 unfold isTerm
 rw [Bool.and_eq_true,decide_eq_true_eq,decide_eq_true_eq]
end
section
open Go.RowKit
def ofUpto (rs:List (Int×List Int)) (s:Int) (k:Nat):List Int:=((List.range k).filter (fun(i:Nat)=>decide ((rs[i]?).map (·.1)=some s))).map (fun(i:Nat)=>(i:Int))
def ofOf (G:GramD) (s:Int):List Int:=ofUpto G.rules s G.rules.length
theorem ofUpto_yes {rs:List (Int×List Int)} {s:Int} {k:Nat} {x:List Int} (h:rs[k]? =some (s,x)):ofUpto rs s (k+1)=ofUpto rs s k++[(k:Int)]:=by
 unfold ofUpto
 rw [List.range_succ,List.filter_append,List.map_append]
 simp [h]
theorem ofUpto_no {rs:List (Int×List Int)} {s l:Int} {k:Nat} {x:List Int} (h:rs[k]? =some (l,x)) (hne:l≠s):ofUpto rs s (k+1)=ofUpto rs s k:=by
 unfold ofUpto
 rw [List.range_succ,List.filter_append,List.map_append]
 simp [h,hne]
theorem ofUpto_len {rs:List (Int×List Int)} {s:Int} {k:Nat}:(ofUpto rs s k).length≤k:=by
 unfold ofUpto
 rw [List.length_map]
 exact Nat.le_trans (List.length_filter_le _ _) (by simp)
abbrev I64 (x:Int):Value:= .int .i64 x
set_option maxRecDepth 100000 in
set_option maxHeartbeats 2000000 in
theorem gram_of {w:World} {F:Nat→Prop} {vt vn vr:Value} {G:GramD} (h:IsGram w F vt vn vr G) (st s:Int):
  Calls Tryz.prog 81 #[GV vt vn vr st,.int .i64 s] w (OwnPost w 3 ((ofOf G s).map I64) (ofOf G s).length):=by
 have h1:=h.blk (.cells #[vt,vn,vr,.int .i64 st] 25)
 have B1:Below w.heap.size w (w.alloc (.cells #[vt,vn,vr,.int .i64 st] 25)):=(Below.refl _ w).alloc (Nat.le_refl _) _
 have hF:=h.lt
 have hsm:=h.small
 obtain⟨A1,c1,A2,c2,A3,c3,rfl,rfl,rfl,l1,l2,l3,m1,m2,m3⟩:=h.slices
 obtain⟨-,-,-,hcell⟩:=ERule.at_ h.rules
 have hend:ofUpto G.rules s G.rules.length=ofOf G s:=rfl
 obtain⟨n,en⟩: ∃n,n=G.rules.length:=⟨_,rfl⟩
 rw [←en]at hsm hcell B1 l3 hend⊢
 obtain⟨s1,s2,s3⟩:=hsm
 have HN:=hide en
 have HC:=hide hcell
 have HF:=hide hF
 have HB:=hide B1
 have HE:=hide hend
 clear en hcell hF B1 h1 h hend
 go_enter Tryz.func81,Tryz.ntmps81
 go_wp2
 go_loopw [5,11] (fun o i wr=> ∃(k:Nat) (A:Option Addr) (c:Nat),k≤n∧i= .int .i64 k∧o= .slice A (ofUpto G.rules s k).length c∧wr.ownsRow w.heap.size 3 1 (.slice A (ofUpto G.rules s k).length c) (ofUpto G.rules s k).length ((ofUpto G.rules s k).map I64)∧Below w.heap.size w wr) (fun _ i _=>n - (intOf i).toNat)
 case atStart=>exact⟨0,none,0,Nat.zero_le _,rfl,rfl,World.ownsRow_nil _ _ _ _,HB.out⟩
 case round=>
  obtain⟨k,A,c,hk,rfl,rfl,hown,hw⟩:=hrel
  have hlk:=ofUpto_len (rs:=G.rules) (s:=s) (k:=k)
  have HW:=hide hw
  have hwz:=hw.size
  by_cases hlt:k<n
  ·obtain⟨b,off,rfl,hb,hc⟩:=HC.out (by omega)
   obtain⟨l0,x,vx,hx,hx0,hx1,hxr⟩:=RdR.get (n:=n) HF.out hb hw hc (k:=k) (by rw [←HN.out];omega)
   obtain⟨A5,n5,c5,rfl,_⟩:=id hxr
   have HX:=hide hx
   clear hc hx hxr hw
   by_cases he:l0=s
   ·subst he
    have hnx:=ofUpto_yes HX.out
    obtain⟨l,hl⟩: ∃l,l=ofUpto G.rules l0 k:=⟨_,rfl⟩
    rw [←hl]at hnx hown hlk⊢
    have HNX:=hide hnx
    have HO:=hide hown
    clear hl hnx
    obtain⟨w1,hw1⟩: ∃w1,w1=wr.alloc (.cells #[.int .i64 l0,.slice A5 n5 c5] 42):=⟨_,rfl⟩
    have ho1:w1.ownsRow w.heap.size 3 1 (.slice A l.length c) l.length (l.map I64):=by rw [hw1];exact hown.alloc _
    have HB1:Below w.heap.size w w1:=by rw [hw1];exact HW.out.alloc hwz _
    have hz1:=HB1.size
    have HH:=hide HB1
    rw [hw1]at ho1 HH hz1
    clear hown HB1 hw1 w1
    have r1:Rd ((wr.alloc (.cells #[.int .i64 l0,.slice A5 n5 c5] 42)).alloc (.cells #[I64 k] 3)) (fun _=>True) (.slice (some ⟨wr.heap.size+1,0,none⟩) 1 1) 1 [I64 k]:=by
     have:=Rd.one (w:=wr.alloc (.cells #[.int .i64 l0,.slice A5 n5 c5] 42)) (e:=3) [I64 k] 1 rfl
     simpa using this
    go_wp2_with (at_builtin;refine wp_append _ rfl (.tmp 20) (.tmp 22) _ rfl Tryz.elemInt w.heap.size _ l.length (l.map I64) rfl (ho1.alloc _) _ _ [I64 k] 1 rfl rfl r1 (by simp [Value.oneCell']) (by unfold maxLen;omega) (by omega) (by simp;omega) ?_)
    intro A' c' w2 hown2 hg2 _
    have ho2:w2.ownsRow w.heap.size 3 1 (.slice A' (l.length+1) c') (l.length+1) (l.map I64++[I64 k]):=hown2
    clear hown2
    go_wp2
    go_roundw
    case rel=>
     refine⟨k+1,A',c',by omega,by go_num,?_,?_,?_⟩
     ·rw [HNX.out];simp
     ·rw [HNX.out];simpa using ho2
     ·exact((HH.out.alloc hz1 _).grown hg2 (by simp;omega) (fun q hq=>(ho1.lt q hq).1))
    case measure=>simp [intOf];omega
   ·have hb':(l0==s)=false:=by simpa using he
    have hnx:=ofUpto_no HX.out he
    have HNX:=hide hnx
    clear he hnx
    go_wp2
    go_roundw
    case rel=>exact⟨k+1,A,c,by omega,by go_num,by rw [HNX.out],by rw [HNX.out];exact hown.alloc _,HW.out.alloc hwz _⟩
    case measure=>simp [intOf];omega
  ·have hkn:k=n:=by omega
   subst hkn
   rw [HE.out]at hown
   have hlen:=HE
   rw [HE.out]
   clear hlk
   go_wp2
   go_ret
   exact⟨A,c,rfl,hown,HW.out⟩
end
section
open Go.RowKit
set_option maxRecDepth 100000 in
set_option maxHeartbeats 2000000 in
theorem ref_of {w:World} {F:Nat→Prop} {vt vn vr:Value} {G:GramD} (h:IsGram w F vt vn vr G) (st s:Int):
  Calls Tryz.prog 35 #[GV vt vn vr st,.int .i64 s] w (OwnPost w 3 ((ofOf G s).map I64) (ofOf G s).length):=by
 have h1:=h.blk (.cells #[vt,vn,vr,.int .i64 st] 25)
 have B1:Below w.heap.size w (w.alloc (.cells #[vt,vn,vr,.int .i64 st] 25)):=(Below.refl _ w).alloc (Nat.le_refl _) _
 have hF:=h.lt
 have k1:Blk (w.alloc (.cells #[vt,vn,vr,.int .i64 st] 25)) w.heap.size 25 #[vt,vn,vr,.int .i64 st]:=Blk.new w _ _
 have hsm:=h.small
 obtain⟨A1,c1,A2,c2,A3,c3,rfl,rfl,rfl,l1,l2,l3,m1,m2,m3⟩:=h.slices
 obtain⟨-,-,-,hcell⟩:=ERule.at_ h.rules
 have hend:ofUpto G.rules s G.rules.length=ofOf G s:=rfl
 obtain⟨n,en⟩: ∃n,n=G.rules.length:=⟨_,rfl⟩
 rw [←en]at hsm hcell B1 l3 hend k1⊢
 obtain⟨s1,s2,s3⟩:=hsm
 have HN:=hide en
 have HC:=hide hcell
 have HF:=hide hF
 have HB:=hide B1
 have K1:=hide k1
 have HE:=hide hend
 clear en hcell hF B1 h1 h hend k1
 go_enter Tryz.func35,Tryz.ntmps35
 go_wp2
 go_loopw [5,6] (fun o i wr=> ∃(k:Nat) (A:Option Addr) (c:Nat),k≤n∧i= .int .i64 k∧o= .slice A (ofUpto G.rules s k).length c∧wr.ownsRow w.heap.size 3 1 (.slice A (ofUpto G.rules s k).length c) (ofUpto G.rules s k).length ((ofUpto G.rules s k).map I64)∧Below w.heap.size w wr∧Blk wr w.heap.size 25 #[.slice A1 G.terms.length c1,.slice A2 G.nons.length c2,.slice A3 n c3,.int .i64 st]) (fun _ i _=>n - (intOf i).toNat)
 case atStart=>exact⟨0,none,0,Nat.zero_le _,rfl,rfl,World.ownsRow_nil _ _ _ _,HB.out,K1.out⟩
 case round=>
  obtain⟨k,A,c,hk,rfl,rfl,hown,hw,hbl⟩:=hrel
  have q2:wr.cell? ⟨w.heap.size,2,none⟩=some (.slice A3 n c3):=(hbl.cell 2).trans rfl
  have hbz:=hbl.lt
  have HBL:=hide hbl
  have hno:=hbl.ne_own hown (by decide)
  have HNO:=hide hno
  clear hbl hno
  have hlk:=ofUpto_len (rs:=G.rules) (s:=s) (k:=k)
  have HW:=hide hw
  have hwz:=hw.size
  by_cases hlt:k<n
  ·obtain⟨b,off,rfl,hb,hc⟩:=HC.out (by omega)
   obtain⟨l0,x,vx,hx,hx0,hx1,hxr⟩:=RdR.get (n:=n) HF.out hb hw hc (k:=k) (by rw [←HN.out];omega)
   obtain⟨A5,n5,c5,rfl,_⟩:=id hxr
   have HX:=hide hx
   clear hc hx hxr hw
   by_cases he:l0=s
   ·subst he
    have hnx:=ofUpto_yes HX.out
    obtain⟨l,hl⟩: ∃l,l=ofUpto G.rules l0 k:=⟨_,rfl⟩
    rw [←hl]at hnx hown hlk HNO⊢
    have HNX:=hide hnx
    have HO:=hide hown
    clear hl hnx
    have r1:=Rd.one (w:=wr) (e:=3) [I64 k] 1 rfl
    clear hown
    go_wp2_with (at_builtin;refine wp_append _ rfl (.tmp 22) (.tmp 24) _ rfl Tryz.elemInt w.heap.size _ l.length (l.map I64) rfl (HO.out.alloc _) _ _ [I64 k] 1 rfl rfl r1 (by simp [Value.oneCell']) (by unfold maxLen;omega) (by omega) (by simp;omega) ?_)
    intro A' c' w2 hown2 hg2 _
    have ho2:w2.ownsRow w.heap.size 3 1 (.slice A' (l.length+1) c') (l.length+1) (l.map I64++[I64 k]):=hown2
    clear hown2
    go_wp2
    go_roundw
    case rel=>
     refine⟨k+1,A',c',by omega,by go_num,?_,?_,?_⟩
     ·rw [HNX.out];simp
     ·rw [HNX.out];simpa using ho2
     ·exact⟨((HW.out.alloc hwz _).grown hg2 (by simp;omega) (fun q hq=>(HO.out.lt q hq).1)),(HBL.out.alloc _).grown hg2 (fun e=>HNO.out e.symm)⟩
    case measure=>simp [intOf];omega
   ·have hb':(l0==s)=false:=by simpa using he
    have hnx:=ofUpto_no HX.out he
    have HNX:=hide hnx
    clear he hnx
    go_wp2
    go_roundw
    case rel=>exact⟨k+1,A,c,by omega,by go_num,by rw [HNX.out],by rw [HNX.out];exact hown,HW.out,HBL.out⟩
    case measure=>simp [intOf];omega
  ·have hkn:k=n:=by omega
   subst hkn
   rw [HE.out]at hown
   have hlen:=HE
   rw [HE.out]
   clear hlk
   go_wp2
   go_ret
   exact⟨A,c,rfl,hown,HW.out⟩
end
section
open Go.RowKit
theorem Rd.one' {w:World} {e:TypeId} (us:List Value) (size:Nat) (hl:us.length=size):Rd (w.alloc (.cells us.toArray e)) (fun b=>b=w.heap.size) (.slice (some ⟨w.heap.size,0,none⟩) 1 1) size us:=
 ⟨_,1,1,rfl,Nat.le_refl _,by decide,by simpa using hl,fun _=>⟨_,0,rfl,rfl,fun j u hu=>by
  rw [(Blk.new w e us.toArray).cell];simpa using hu⟩⟩
def ruleOf (G:GramD) (st i:Int):(Int×List Int)×Bool:=if i<0∨(G.rules.length:Int)<i then((0,[]),false)else if i=(G.rules.length:Int)then((0,[st]),true)else((G.rules[i.toNat]?).getD (0,[]),true)
def RulePost (w:World) (r:(Int×List Int)×Bool) (e:Ending) (w':World):Prop:=
 ∃A n c,e= .returned (.tuple #[.agg #[.int .i64 r.1.1,.slice A n c],.bool r.2])∧RdI w' (fun b=>b<w'.heap.size) (.slice A n c) r.1.2∧Below w.heap.size w w'
theorem RulePost.mk {w w':World} {r:(Int×List Int)×Bool} {l:Int} {A:Option Addr} {n c:Nat} {xs:List Int} {ok:Bool} {e:Ending} (he:e= .returned (.tuple #[.agg #[.int .i64 l,.slice A n c],.bool ok])) (hr:r=((l,xs),ok)) (h:RdI w' (fun b=>b<w'.heap.size) (.slice A n c) xs) (hb:Below w.heap.size w w'):RulePost w r e w':=by
 subst hr he
 exact⟨A,n,c,rfl,h,hb⟩
set_option maxRecDepth 100000 in
set_option maxHeartbeats 2000000 in
theorem ref_rule {w:World} {F:Nat→Prop} {vt vn vr:Value} {G:GramD} (h:IsGram w F vt vn vr G) (st i:Int):
  Calls Tryz.prog 58 #[GV vt vn vr st,.int .i64 i] w (RulePost w (ruleOf G st i)):=by
 have hF:=h.lt
 have hsm:=h.small
 obtain⟨A1,c1,A2,c2,A3,c3,rfl,rfl,rfl,l1,l2,l3,m1,m2,m3⟩:=h.slices
 obtain⟨-,-,-,hcell⟩:=ERule.at_ h.rules
 obtain⟨n,en⟩: ∃n,n=G.rules.length:=⟨_,rfl⟩
 have f1:(i<0∨(n:Int)<i)→ruleOf G st i=((0,[]),false):=fun e=>by unfold ruleOf;rw [←en,if_pos e]
 have f2:i=(n:Int)→ruleOf G st i=((0,[st]),true):=fun e=>by unfold ruleOf;rw [←en,if_neg (by omega),if_pos e]
 have f3: ∀(k:Nat) (l:Int) (x:List Int),i=(k:Int)→k<n→G.rules[k]? =some (l,x)→ruleOf G st i=((l,x),true):=fun k l x e e' hx=>by
  unfold ruleOf;rw [←en,if_neg (by omega),if_neg (by omega),show i.toNat=k by omega,hx];rfl
 rw [←en]at hsm hcell l3⊢
 obtain⟨s1,s2,s3⟩:=hsm
 have HN:=hide en
 have HC:=hide hcell
 have HF:=hide hF
 have F1:=hide f1
 have F2:=hide f2
 have F3:=hide f3
 clear en hcell hF h f1 f2 f3
 by_cases h0:i<0
 ·go_enter Tryz.func58,Tryz.ntmps58
  go_wp2_with fail
  refine bodyPost_ret (v:= .tuple #[.agg #[.int .i64 0,.slice none 0 0],.bool false]) (by simp [results,Tryz.results58,go_sem]) rfl ?_
  exact RulePost.mk rfl (F1.out (.inl h0)) (Rd.nil _ _ _) (((Below.refl _ w).alloc (Nat.le_refl _) _).alloc (by simp) _)
 ·by_cases h1:(n:Int)<i
  ·go_enter Tryz.func58,Tryz.ntmps58
   go_wp2_with fail
   refine bodyPost_ret (v:= .tuple #[.agg #[.int .i64 0,.slice none 0 0],.bool false]) (by simp [results,Tryz.results58,go_sem]) rfl ?_
   exact RulePost.mk rfl (F1.out (.inr h1)) (Rd.nil _ _ _) (((Below.refl _ w).alloc (Nat.le_refl _) _).alloc (by simp) _)
  ·by_cases h2:i=(n:Int)
   ·subst h2
    have r1:Rd (((w.alloc (.cells #[.slice A1 G.terms.length c1,.slice A2 G.nons.length c2,.slice A3 n c3,.int .i64 st] 25)).alloc (.cells #[.int .i64 0,.slice (some ⟨w.heap.size+2,0,none⟩) 1 1] 42)).alloc (.cells #[.int .i64 st] 3)) (fun b=>b=w.heap.size+2) (.slice (some ⟨w.heap.size+2,0,none⟩) 1 1) 1 [.int .i64 st]:=by
     have:=Rd.one' (w:=((w.alloc (.cells #[.slice A1 G.terms.length c1,.slice A2 G.nons.length c2,.slice A3 n c3,.int .i64 st] 25)).alloc (.cells #[.int .i64 0,.slice (some ⟨w.heap.size+2,0,none⟩) 1 1] 42))) (e:=3) [.int .i64 st] 1 rfl
     simpa using this
    go_enter Tryz.func58,Tryz.ntmps58
    go_wp2_with fail
    refine bodyPost_ret (v:= .tuple #[.agg #[.int .i64 0,.slice (some ⟨w.heap.size+2,0,none⟩) 1 1],.bool true]) (by simp [results,Tryz.results58,go_sem]) rfl ?_
    exact RulePost.mk rfl (F2.out (by first|rfl|trivial)) (r1.mono (fun b hb=>by simp;omega)) ((((Below.refl _ w).alloc (Nat.le_refl _) _).alloc (by simp) _).alloc (by simp;omega) _)
   ·obtain⟨k,rfl⟩:=Int.eq_ofNat_of_zero_le (by omega:0≤i)
    have hlt:k<n:=by omega
    obtain⟨b,off,rfl,hb,hc⟩:=HC.out (by omega)
    obtain⟨l0,x,vx,hx,hx0,hx1,hxr⟩:=RdR.get (n:=n) HF.out hb (Below.refl _ w) hc (k:=k) (by rw [←HN.out];omega)
    obtain⟨A5,n5,c5,rfl,_⟩:=id hxr
    have hbw:=HF.out b hb
    have hx0':=fun o=>cell_a hx0 o
    have hx1':=fun o=>cell_a hx1 o
    have hfin:=F3.out k l0 x rfl hlt hx
    have HFIN:=hide hfin
    have HXR:=hide hxr
    have hki:((k:Int)==(n:Int))=false:=by simpa using(by omega: ¬(k:Int)=(n:Int))
    clear hc hx hxr hfin h2
    go_enter Tryz.func58,Tryz.ntmps58
    go_wp2_with fail
    refine bodyPost_ret (v:= .tuple #[.agg #[.int .i64 l0,.slice A5 n5 c5],.bool true]) (by simp [results,Tryz.results58,go_sem]) rfl ?_
    have B2:Below w.heap.size w ((w.alloc (.cells #[.slice A1 G.terms.length c1,.slice A2 G.nons.length c2,.slice (some ⟨b,off,none⟩) n c3,.int .i64 st] 25)).alloc (.cells #[.int .i64 l0,.slice A5 n5 c5] 42)):=((Below.refl _ w).alloc (Nat.le_refl _) _).alloc (by simp) _
    exact RulePost.mk rfl HFIN.out ((HXR.out.below B2 HF.out).mono (fun b hb=>Nat.lt_of_lt_of_le (HF.out b hb) B2.size)) B2
end
end
section
section
open Go.RowKit
def firstBy {X:Type} (p:X→Bool) (xs:List X):Int:=match xs.findIdx? p with|some i=>(i:Int)|none=> -1
theorem firstBy_hit {X:Type} {p:X→Bool} {xs:List X} {i:Nat} {x:X} (h:xs[i]? =some x) (hp:p x=true) (hf: ∀(j:Nat) (y:X),j<i→xs[j]? =some y→p y=false):firstBy p xs=i:=by
 obtain⟨hlt,rfl⟩:=List.getElem?_eq_some_iff.1 h
 have:xs.findIdx? p=some i:=by
  rw [List.findIdx?_eq_some_iff_getElem]
  exact⟨hlt,hp,fun j hj=>by
   have:=hf j _ hj (List.getElem?_eq_getElem (by omega))
   simp [this]⟩
 unfold firstBy
 rw [this]
theorem firstBy_miss {X:Type} {p:X→Bool} {xs:List X} (hf: ∀(j:Nat) (y:X),xs[j]? =some y→p y=false):firstBy p xs= -1:=by
 have:xs.findIdx? p=none:=by
  rw [List.findIdx?_eq_none_iff]
  intro x hx
  obtain⟨j,hj,e⟩:=List.getElem_of_mem hx
  exact hf j x (by rw [List.getElem?_eq_getElem hj,e])
 unfold firstBy
 rw [this]
theorem firstBy_any {X:Type} {p:X→Bool} {xs:List X}:decide (0≤firstBy p xs)=xs.any p:=by
 unfold firstBy
 rcases h:xs.findIdx? p with _|i
 ·rw [List.findIdx?_eq_none_iff]at h
  have:xs.any p=false:=by
   rw [List.any_eq_false]
   intro x hx
   simp [h x hx]
  rw [this];rfl
 ·rw [List.findIdx?_eq_some_iff_getElem]at h
  obtain⟨hi,hp,_⟩:=h
  have:xs.any p=true:=List.any_eq_true.2 ⟨_,List.getElem_mem hi,hp⟩
  rw [this]
  simp
def PredR (w:World) (F:Nat→Prop) (g:Nat) (lb:Array Value) (p:Int×List Int→Bool):Prop:=
 ∀(W:World) (v:Value) (r:Int×List Int),Below w.heap.size w W→RdI W F v r.2→Calls Tryz.prog g (#[.agg #[.int .i64 r.1,v]]++lb) W (Quiet W (.bool (p r)))
set_option maxHeartbeats 2000000 in
theorem index_rules {w:World} {F:Nat→Prop} {v:Value} {rs:List (Int×List Int)} {g:Nat} {lb:Array Value} {p:Int×List Int→Bool} (h:RdR w F v rs) (hF: ∀b,F b→b<w.heap.size) (eg:Enters Tryz.prog g) (hp:PredR w F g lb p):
  Calls Tryz.prog 118 #[v,.func (.func g) #[] lb] w (Quiet w (.int .i64 (firstBy p rs))):=by
 obtain⟨A,c,rfl,_⟩:=id h
 obtain⟨-,hnc,hcm,hcell⟩:=ERule.at_ h
 obtain⟨n,en⟩: ∃n,n=rs.length:=⟨_,rfl⟩
 rw [←en]at hnc hcell⊢
 unfold maxLen at hcm
 have HN:=hide en
 have HC:=hide hcell
 have HF:=hide hF
 have HP:=hide hp
 have eg': ∀args w,(callFunc g args).run Tryz.prog w= .ok (.enter g args) w:=eg
 clear h en hcell hF hp
 go_enter Tryz.func118,Tryz.ntmps118
 go_wp2
 go_loopw [8] (fun i wr=> ∃k:Nat,k≤n∧i= .int .i64 k∧Below w.heap.size w wr∧ ∀(j:Nat) (y:Int×List Int),j<k→rs[j]? =some y→p y=false) (fun i _=>n - (intOf i).toNat)
 case atStart=>exact⟨0,Nat.zero_le _,rfl,Below.refl _ _,fun j y hj=>absurd hj (by omega)⟩
 case round=>
  obtain⟨k,hk,rfl,hw,hbefore⟩:=hrel
  have HB:=hide hbefore
  have HW:=hide hw
  clear hbefore
  by_cases hlt:k<n
  ·obtain⟨b,off,rfl,hb,hc⟩:=HC.out (by omega)
   obtain⟨l,x,vx,hx,hx0,hx1,hxr⟩:=RdR.get (n:=n) HF.out hb hw hc (k:=k) (by rw [←HN.out];omega)
   have hs:=HP.out wr vx (l,x) hw hxr
   have HX:=hide hx
   cases hq:p (l,x)with
   |true=>
    rw [hq]at hs
    have HS:=hide hs
    have HQ:=hide hq
    clear hs hc hx hxr hw hq
    go_wp2_with (go_at_fn g;refine HS.out.mono ?_;rintro e w1 ⟨rfl,b1⟩)
    go_ret
    exact⟨ret_int (firstBy_hit HX.out HQ.out HB.out).symm,HW.out.trans (b1.mono HW.out.size)⟩
   |false=>
    rw [hq]at hs
    have HS:=hide hs
    have HQ:=hide hq
    clear hs hc hx hxr hw hq
    go_wp2_with (go_at_fn g;refine HS.out.mono ?_;rintro e w1 ⟨rfl,b1⟩)
    go_roundw
    case rel=>
     refine⟨k+1,by omega,by go_num,HW.out.trans (b1.mono HW.out.size),fun j y hj hy=> ?_⟩
     by_cases hjk:j=k
     ·subst hjk;rw [HX.out]at hy;injection hy with hy;rw [←hy];exact HQ.out
     ·exact HB.out j y (by omega) hy
    case measure=>simp [intOf];omega
  ·clear hw
   go_wp2
   go_ret
   exact⟨ret_int (firstBy_miss fun j y hy=>HB.out j y (by have:=(List.getElem?_eq_some_iff.1 hy).1;have:=HN.out;omega) hy).symm,HW.out⟩
end
section
open Go.RowKit
def PredV {X:Type} (w:World) (g:Nat) (lb:Array Value) (enc:X→Value) (p:X→Bool):Prop:=
 ∀(W:World) (x:X),Below w.heap.size w W→Calls Tryz.prog g (#[enc x]++lb) W (Quiet W (.bool (p x)))
def PredS (w:World) (g:Nat) (lb:Array Value) (p:ByteArray→Bool):Prop:=
 ∀(W:World) (x:ByteArray),x.size≤maxLen→Below w.heap.size w W→Calls Tryz.prog g (#[.string x]++lb) W (Quiet W (.bool (p x)))
theorem all_any {X:Type} (p:X→Bool) (xs:List X):(!(decide (0≤firstBy (fun x=> !p x) xs)))=xs.all p:=by
 rw [firstBy_any]
 induction xs with
 |nil=>rfl
 |cons a r ih=>simp only [List.any_cons,List.all_cons,←ih];cases p a<;>simp
set_option maxHeartbeats 2000000 in
theorem idxf_strs {w:World} {F:Nat→Prop} {v:Value} {rs:List ByteArray} {g:Nat} {lb:Array Value} {p:ByteArray→Bool} (h:RdS w F v rs) (hF: ∀b,F b→b<w.heap.size) (eg:Enters Tryz.prog g) (hp:PredS w g lb p) (hz: ∀x∈rs,x.size≤maxLen):
  Calls Tryz.prog 119 #[v,.func (.func g) #[] lb] w (Quiet w (.int .i64 (firstBy p rs))):=by
 obtain⟨A,n,c,rfl,_⟩:=id h
 obtain⟨en,hnc,hcm,hcell⟩:=h.at_
 unfold maxLen at hcm
 have HN:=hide en
 have HC:=hide hcell
 have HF:=hide hF
 have HP:=hide hp
 have eg': ∀args w,(callFunc g args).run Tryz.prog w= .ok (.enter g args) w:=eg
 clear h en hcell hF hp
 go_enter Tryz.func119,Tryz.ntmps119
 go_wp2
 go_loopw [8] (fun i wr=> ∃k:Nat,k≤n∧i= .int .i64 k∧Below w.heap.size w wr∧ ∀(j:Nat) (y:ByteArray),j<k→rs[j]? =some y→p y=false) (fun i _=>n - (intOf i).toNat)
 case atStart=>exact⟨0,Nat.zero_le _,rfl,Below.refl _ _,fun j y hj=>absurd hj (by omega)⟩
 case round=>
  obtain⟨k,hk,rfl,hw,hbefore⟩:=hrel
  have HB:=hide hbefore
  have HW:=hide hw
  clear hbefore
  by_cases hlt:k<n
  ·obtain⟨b,off,rfl,hb,hc⟩:=HC.out (by omega)
   obtain⟨x,hx⟩: ∃x,rs[k]? =some x:=⟨_,List.getElem?_eq_getElem (by rw [←HN.out];omega)⟩
   have hx0:=(hw.cell (p:=⟨b,off+k,none⟩) (HF.out b hb)).trans (hc k x hx)
   have hs:=HP.out wr x (hz x (List.mem_of_getElem? hx)) hw
   have HX:=hide hx
   cases hq:p x with
   |true=>
    rw [hq]at hs
    have HS:=hide hs
    have HQ:=hide hq
    clear hs hc hx hw hq
    go_wp2_with (go_at_fn g;refine HS.out.mono ?_;rintro e w1 ⟨rfl,b1⟩)
    go_ret
    exact⟨ret_int (firstBy_hit HX.out HQ.out HB.out).symm,HW.out.trans (b1.mono HW.out.size)⟩
   |false=>
    rw [hq]at hs
    have HS:=hide hs
    have HQ:=hide hq
    clear hs hc hx hw hq
    go_wp2_with (go_at_fn g;refine HS.out.mono ?_;rintro e w1 ⟨rfl,b1⟩)
    go_roundw
    case rel=>
     refine⟨k+1,by omega,by go_num,HW.out.trans (b1.mono HW.out.size),fun j y hj hy=> ?_⟩
     by_cases hjk:j=k
     ·subst hjk;rw [HX.out]at hy;injection hy with hy;rw [←hy];exact HQ.out
     ·exact HB.out j y (by omega) hy
    case measure=>simp [intOf];omega
  ·clear hw
   go_wp2
   go_ret
   exact⟨ret_int (firstBy_miss fun j y hy=>HB.out j y (by have:=(List.getElem?_eq_some_iff.1 hy).1;have:=HN.out;omega) hy).symm,HW.out⟩
theorem contains_strs {w:World} {F:Nat→Prop} {v:Value} {rs:List ByteArray} {g:Nat} {lb:Array Value} {p:ByteArray→Bool} (h:RdS w F v rs) (hF: ∀b,F b→b<w.heap.size) (eg:Enters Tryz.prog g) (hp:PredS w g lb p) (hz: ∀x∈rs,x.size≤maxLen):
  Calls Tryz.prog 101 #[v,.func (.func g) #[] lb] w (Quiet w (.bool (rs.any p))):=by
 have hi:=idxf_strs h hF eg hp hz
 have ha:=firstBy_any (p:=p) (xs:=rs)
 obtain⟨q,hq⟩: ∃q,q=firstBy p rs:=⟨_,rfl⟩
 rw [←hq]at hi ha
 have HI:=hide hi
 have HA:=hide ha
 obtain⟨A,c,n,rfl⟩: ∃A c n,v= .slice A n c:=by obtain⟨A,n,c,e,_⟩:=id h;exact⟨A,c,n,e⟩
 clear h hi ha hq hp
 go_enter Tryz.func101,Tryz.ntmps101
 go_wp2_with fail
 refine HI.out.mono ?_
 rintro e w1 ⟨rfl,b1⟩
 go_wp2_with fail
 go_ret
 exact⟨ret_bool HA.out,b1⟩
theorem Tryz.enters_all_strs:Enters Tryz.prog 102:=enters_of Tryz.func102 (by kernel_rfl) rfl
theorem all_clo_strs {w w1:World} {g:Nat} {lb:Array Value} {p:ByteArray→Bool} {B:Nat} (k1:Blk w1 B 134 #[.func (.func g) #[] lb]) (eg:Enters Tryz.prog g) (b1:Below w.heap.size w w1) (hp:PredS w g lb p):
  PredS w1 102 #[.pointer (some ⟨B,0,none⟩)] (fun x=> !p x):=by
 intro W x hx hW
 have hcell:W.cell? ⟨B,0,none⟩=some (.func (.func g) #[] lb):=((k1.below hW k1.lt).cell 0).trans rfl
 have hs:=hp W x hx (b1.trans (hW.mono b1.size))
 have eg': ∀args w,(callFunc g args).run Tryz.prog w= .ok (.enter g args) w:=eg
 obtain⟨q,hq⟩: ∃q,q=p x:=⟨_,rfl⟩
 rw [←hq]at hs
 have HS:=hide hs
 have HQ:=hide hq
 show Calls Tryz.prog 102 #[.string x,.pointer (some ⟨B,0,none⟩)] W _
 clear hs hq hp k1 hW
 go_enter Tryz.func102,Tryz.ntmps102
 go_wp2_with (go_at_fn g;refine HS.out.mono ?_;rintro e w2 ⟨rfl,b2⟩)
 go_ret
 exact⟨ret_bool (show(!q)= !p x by rw [HQ.out]),b2⟩
theorem all_strs {w:World} {F:Nat→Prop} {v:Value} {rs:List ByteArray} {g:Nat} {lb:Array Value} {p:ByteArray→Bool} (h:RdS w F v rs) (hF: ∀b,F b→b<w.heap.size) (eg:Enters Tryz.prog g) (hp:PredS w g lb p) (hz: ∀x∈rs,x.size≤maxLen):
  Calls Tryz.prog 71 #[v,.func (.func g) #[] lb] w (Quiet w (.bool (rs.all p))):=by
 obtain⟨o,ho⟩: ∃o,o=Obj.cells #[.func (.func g) #[] lb] 134:=⟨_,rfl⟩
 have b1:Below w.heap.size w (w.alloc o):=(Below.refl _ w).alloc (Nat.le_refl _) _
 have h1:=h.below b1 hF
 have k1:Blk (w.alloc o) w.heap.size 134 #[.func (.func g) #[] lb]:=by rw [ho];exact Blk.new w _ _
 have hc:=contains_strs (p:=fun x=> !p x) (lb:= #[.pointer (some ⟨w.heap.size,0,none⟩)]) h1 (fun b e=>Nat.lt_of_lt_of_le (hF b e) b1.size) Tryz.enters_all_strs (all_clo_strs k1 eg b1 hp) hz
 have ha:=all_any p rs
 rw [firstBy_any]at ha
 obtain⟨q,hq⟩: ∃q,q=rs.any (fun x=> !p x):=⟨_,rfl⟩
 rw [←hq]at hc ha
 have HI:=hide hc
 have HA:=hide ha
 have HB:=hide b1
 rw [ho]at HI HB
 obtain⟨A,c,n,rfl⟩: ∃A c n,v= .slice A n c:=by obtain⟨A,n,c,e,_⟩:=id h;exact⟨A,c,n,e⟩
 clear h hc ha hq hp h1 k1 b1 ho
 have hmf: ∀(fn:Fn) (first cap:Array Value) (w:World),(Instr.makeFunc fn first cap).run Tryz.prog w= .ok (.func fn first cap) w:=fun _ _ _ _=>rfl
 go_enter Tryz.func71,Tryz.ntmps71
 go_wp2_with fail
 refine HI.out.mono ?_
 rintro e w1 ⟨rfl,b1⟩
 go_wp2_with fail
 go_ret
 exact⟨ret_bool HA.out,HB.out.trans (b1.mono HB.out.size)⟩
set_option maxHeartbeats 2000000 in
theorem idxf_ints {w:World} {F:Nat→Prop} {v:Value} {rs:List Int} {g:Nat} {lb:Array Value} {p:Int→Bool} (h:RdI w F v rs) (hF: ∀b,F b→b<w.heap.size) (eg:Enters Tryz.prog g) (hp:PredV w g lb (Value.int .i64) p):
  Calls Tryz.prog 134 #[v,.func (.func g) #[] lb] w (Quiet w (.int .i64 (firstBy p rs))):=by
 obtain⟨A,n,c,rfl,_⟩:=id h
 obtain⟨en,hnc,hcm,hcell⟩:=h.at_
 unfold maxLen at hcm
 have HN:=hide en
 have HC:=hide hcell
 have HF:=hide hF
 have HP:=hide hp
 have eg': ∀args w,(callFunc g args).run Tryz.prog w= .ok (.enter g args) w:=eg
 clear h en hcell hF hp
 go_enter Tryz.func134,Tryz.ntmps134
 go_wp2
 go_loopw [8] (fun i wr=> ∃k:Nat,k≤n∧i= .int .i64 k∧Below w.heap.size w wr∧ ∀(j:Nat) (y:Int),j<k→rs[j]? =some y→p y=false) (fun i _=>n - (intOf i).toNat)
 case atStart=>exact⟨0,Nat.zero_le _,rfl,Below.refl _ _,fun j y hj=>absurd hj (by omega)⟩
 case round=>
  obtain⟨k,hk,rfl,hw,hbefore⟩:=hrel
  have HB:=hide hbefore
  have HW:=hide hw
  clear hbefore
  by_cases hlt:k<n
  ·obtain⟨b,off,rfl,hb,hc⟩:=HC.out (by omega)
   obtain⟨x,hx⟩: ∃x,rs[k]? =some x:=⟨_,List.getElem?_eq_getElem (by rw [←HN.out];omega)⟩
   have hx0:=(hw.cell (p:=⟨b,off+k,none⟩) (HF.out b hb)).trans (hc k x hx)
   have hs:=HP.out wr x hw
   have HX:=hide hx
   cases hq:p x with
   |true=>
    rw [hq]at hs
    have HS:=hide hs
    have HQ:=hide hq
    clear hs hc hx hw hq
    go_wp2_with (go_at_fn g;refine HS.out.mono ?_;rintro e w1 ⟨rfl,b1⟩)
    go_ret
    exact⟨ret_int (firstBy_hit HX.out HQ.out HB.out).symm,HW.out.trans (b1.mono HW.out.size)⟩
   |false=>
    rw [hq]at hs
    have HS:=hide hs
    have HQ:=hide hq
    clear hs hc hx hw hq
    go_wp2_with (go_at_fn g;refine HS.out.mono ?_;rintro e w1 ⟨rfl,b1⟩)
    go_roundw
    case rel=>
     refine⟨k+1,by omega,by go_num,HW.out.trans (b1.mono HW.out.size),fun j y hj hy=> ?_⟩
     by_cases hjk:j=k
     ·subst hjk;rw [HX.out]at hy;injection hy with hy;rw [←hy];exact HQ.out
     ·exact HB.out j y (by omega) hy
    case measure=>simp [intOf];omega
  ·clear hw
   go_wp2
   go_ret
   exact⟨ret_int (firstBy_miss fun j y hy=>HB.out j y (by have:=(List.getElem?_eq_some_iff.1 hy).1;have:=HN.out;omega) hy).symm,HW.out⟩
theorem contains_ints {w:World} {F:Nat→Prop} {v:Value} {rs:List Int} {g:Nat} {lb:Array Value} {p:Int→Bool} (h:RdI w F v rs) (hF: ∀b,F b→b<w.heap.size) (eg:Enters Tryz.prog g) (hp:PredV w g lb (Value.int .i64) p):
  Calls Tryz.prog 128 #[v,.func (.func g) #[] lb] w (Quiet w (.bool (rs.any p))):=by
 have hi:=idxf_ints h hF eg hp
 have ha:=firstBy_any (p:=p) (xs:=rs)
 obtain⟨q,hq⟩: ∃q,q=firstBy p rs:=⟨_,rfl⟩
 rw [←hq]at hi ha
 have HI:=hide hi
 have HA:=hide ha
 obtain⟨A,c,n,rfl⟩: ∃A c n,v= .slice A n c:=by obtain⟨A,n,c,e,_⟩:=id h;exact⟨A,c,n,e⟩
 clear h hi ha hq hp
 go_enter Tryz.func128,Tryz.ntmps128
 go_wp2_with fail
 refine HI.out.mono ?_
 rintro e w1 ⟨rfl,b1⟩
 go_wp2_with fail
 go_ret
 exact⟨ret_bool HA.out,b1⟩
theorem Tryz.enters_all_ints:Enters Tryz.prog 129:=enters_of Tryz.func129 (by kernel_rfl) rfl
theorem all_clo_ints {w w1:World} {g:Nat} {lb:Array Value} {p:Int→Bool} {B:Nat} (k1:Blk w1 B 160 #[.func (.func g) #[] lb]) (eg:Enters Tryz.prog g) (b1:Below w.heap.size w w1) (hp:PredV w g lb (Value.int .i64) p):
  PredV w1 129 #[.pointer (some ⟨B,0,none⟩)] (Value.int .i64) (fun x=> !p x):=by
 intro W x hW
 have hcell:W.cell? ⟨B,0,none⟩=some (.func (.func g) #[] lb):=((k1.below hW k1.lt).cell 0).trans rfl
 have hs:=hp W x (b1.trans (hW.mono b1.size))
 have eg': ∀args w,(callFunc g args).run Tryz.prog w= .ok (.enter g args) w:=eg
 obtain⟨q,hq⟩: ∃q,q=p x:=⟨_,rfl⟩
 rw [←hq]at hs
 have HS:=hide hs
 have HQ:=hide hq
 show Calls Tryz.prog 129 #[.int .i64 x,.pointer (some ⟨B,0,none⟩)] W _
 clear hs hq hp k1 hW
 go_enter Tryz.func129,Tryz.ntmps129
 go_wp2_with (go_at_fn g;refine HS.out.mono ?_;rintro e w2 ⟨rfl,b2⟩)
 go_ret
 exact⟨ret_bool (show(!q)= !p x by rw [HQ.out]),b2⟩
theorem all_ints {w:World} {F:Nat→Prop} {v:Value} {rs:List Int} {g:Nat} {lb:Array Value} {p:Int→Bool} (h:RdI w F v rs) (hF: ∀b,F b→b<w.heap.size) (eg:Enters Tryz.prog g) (hp:PredV w g lb (Value.int .i64) p):
  Calls Tryz.prog 106 #[v,.func (.func g) #[] lb] w (Quiet w (.bool (rs.all p))):=by
 obtain⟨o,ho⟩: ∃o,o=Obj.cells #[.func (.func g) #[] lb] 160:=⟨_,rfl⟩
 have b1:Below w.heap.size w (w.alloc o):=(Below.refl _ w).alloc (Nat.le_refl _) _
 have h1:=h.below b1 hF
 have k1:Blk (w.alloc o) w.heap.size 160 #[.func (.func g) #[] lb]:=by rw [ho];exact Blk.new w _ _
 have hc:=contains_ints (p:=fun x=> !p x) (lb:= #[.pointer (some ⟨w.heap.size,0,none⟩)]) h1 (fun b e=>Nat.lt_of_lt_of_le (hF b e) b1.size) Tryz.enters_all_ints (all_clo_ints k1 eg b1 hp)
 have ha:=all_any p rs
 rw [firstBy_any]at ha
 obtain⟨q,hq⟩: ∃q,q=rs.any (fun x=> !p x):=⟨_,rfl⟩
 rw [←hq]at hc ha
 have HI:=hide hc
 have HA:=hide ha
 have HB:=hide b1
 rw [ho]at HI HB
 obtain⟨A,c,n,rfl⟩: ∃A c n,v= .slice A n c:=by obtain⟨A,n,c,e,_⟩:=id h;exact⟨A,c,n,e⟩
 clear h hc ha hq hp h1 k1 b1 ho
 have hmf: ∀(fn:Fn) (first cap:Array Value) (w:World),(Instr.makeFunc fn first cap).run Tryz.prog w= .ok (.func fn first cap) w:=fun _ _ _ _=>rfl
 go_enter Tryz.func106,Tryz.ntmps106
 go_wp2_with fail
 refine HI.out.mono ?_
 rintro e w1 ⟨rfl,b1⟩
 go_wp2_with fail
 go_ret
 exact⟨ret_bool HA.out,HB.out.trans (b1.mono HB.out.size)⟩
theorem contains_rules {w:World} {F:Nat→Prop} {v:Value} {rs:List (Int×List Int)} {g:Nat} {lb:Array Value} {p:(Int×List Int)→Bool} (h:RdR w F v rs) (hF: ∀b,F b→b<w.heap.size) (eg:Enters Tryz.prog g) (hp:PredR w F g lb p):
  Calls Tryz.prog 99 #[v,.func (.func g) #[] lb] w (Quiet w (.bool (rs.any p))):=by
 have hi:=index_rules h hF eg hp
 have ha:=firstBy_any (p:=p) (xs:=rs)
 obtain⟨q,hq⟩: ∃q,q=firstBy p rs:=⟨_,rfl⟩
 rw [←hq]at hi ha
 have HI:=hide hi
 have HA:=hide ha
 obtain⟨A,c,n,rfl⟩: ∃A c n,v= .slice A n c:=by obtain⟨A,c,e,_⟩:=id h;exact⟨A,c,_,e⟩
 clear h hi ha hq hp
 go_enter Tryz.func99,Tryz.ntmps99
 go_wp2_with fail
 refine HI.out.mono ?_
 rintro e w1 ⟨rfl,b1⟩
 go_wp2_with fail
 go_ret
 exact⟨ret_bool HA.out,b1⟩
theorem Tryz.enters_all_rules:Enters Tryz.prog 100:=enters_of Tryz.func100 (by kernel_rfl) rfl
theorem all_clo_rules {w w1:World} {F:Nat→Prop} {g:Nat} {lb:Array Value} {p:Int×List Int→Bool} {B:Nat} (k1:Blk w1 B 138 #[.func (.func g) #[] lb]) (eg:Enters Tryz.prog g) (b1:Below w.heap.size w w1) (hp:PredR w F g lb p) (hF: ∀b,F b→b<w.heap.size):
  PredR w1 F 100 #[.pointer (some ⟨B,0,none⟩)] (fun x=> !p x):=by
 intro W v r hW hr
 have hbw:=b1.trans (hW.mono b1.size)
 have hB:B<W.heap.size:=Nat.lt_of_lt_of_le k1.lt hW.size
 have b2:Below W.heap.size W (W.alloc (.cells #[.int .i64 r.1,v] 42)):=(Below.refl _ W).alloc (Nat.le_refl _) _
 have hcell:W.cell? ⟨B,0,none⟩=some (.func (.func g) #[] lb):=((k1.below hW k1.lt).cell 0).trans rfl
 have hcell':=fun o=>cell_a hcell o
 have hs:=hp (W.alloc (.cells #[.int .i64 r.1,v] 42)) v r (hbw.trans (b2.mono hbw.size)) (hr.below b2 (fun b e=>Nat.lt_of_lt_of_le (hF b e) hbw.size))
 have eg': ∀args w,(callFunc g args).run Tryz.prog w= .ok (.enter g args) w:=eg
 obtain⟨A,n,c,rfl,_⟩:=id hr
 obtain⟨q,hq⟩: ∃q,q=p r:=⟨_,rfl⟩
 rw [←hq]at hs
 have HS:=hide hs
 have HQ:=hide hq
 have HB:=hide b2
 show Calls Tryz.prog 100 #[.agg #[.int .i64 r.1,.slice A n c],.pointer (some ⟨B,0,none⟩)] W _
 clear hs hq hp k1 hW b2 hr
 go_enter Tryz.func100,Tryz.ntmps100
 go_wp2_with (go_at_fn g;refine HS.out.mono ?_;rintro e w2 ⟨rfl,b2⟩)
 go_ret
 exact⟨ret_bool (show(!q)= !p r by rw [HQ.out]),HB.out.trans (b2.mono HB.out.size)⟩
theorem all_rules {w:World} {F:Nat→Prop} {v:Value} {rs:List (Int×List Int)} {g:Nat} {lb:Array Value} {p:(Int×List Int)→Bool} (h:RdR w F v rs) (hF: ∀b,F b→b<w.heap.size) (eg:Enters Tryz.prog g) (hp:PredR w F g lb p):
  Calls Tryz.prog 70 #[v,.func (.func g) #[] lb] w (Quiet w (.bool (rs.all p))):=by
 obtain⟨o,ho⟩: ∃o,o=Obj.cells #[.func (.func g) #[] lb] 138:=⟨_,rfl⟩
 have b1:Below w.heap.size w (w.alloc o):=(Below.refl _ w).alloc (Nat.le_refl _) _
 have h1:=h.below b1 hF
 have k1:Blk (w.alloc o) w.heap.size 138 #[.func (.func g) #[] lb]:=by rw [ho];exact Blk.new w _ _
 have hc:=contains_rules (p:=fun x=> !p x) (lb:= #[.pointer (some ⟨w.heap.size,0,none⟩)]) h1 (fun b e=>Nat.lt_of_lt_of_le (hF b e) b1.size) Tryz.enters_all_rules (all_clo_rules k1 eg b1 hp hF)
 have ha:=all_any p rs
 rw [firstBy_any]at ha
 obtain⟨q,hq⟩: ∃q,q=rs.any (fun x=> !p x):=⟨_,rfl⟩
 rw [←hq]at hc ha
 have HI:=hide hc
 have HA:=hide ha
 have HB:=hide b1
 rw [ho]at HI HB
 obtain⟨A,c,n,rfl⟩: ∃A c n,v= .slice A n c:=by obtain⟨A,c,e,_⟩:=id h;exact⟨A,c,_,e⟩
 clear h hc ha hq hp h1 k1 b1 ho
 have hmf: ∀(fn:Fn) (first cap:Array Value) (w:World),(Instr.makeFunc fn first cap).run Tryz.prog w= .ok (.func fn first cap) w:=fun _ _ _ _=>rfl
 go_enter Tryz.func70,Tryz.ntmps70
 go_wp2_with fail
 refine HI.out.mono ?_
 rintro e w1 ⟨rfl,b1⟩
 go_wp2_with fail
 go_ret
 exact⟨ret_bool HA.out,HB.out.trans (b1.mono HB.out.size)⟩
end
section
open Go.RowKit
end
end
section
theorem of_mem {G:GramD} {s i:Int}:i∈ofOf G s↔ ∃(n:Nat) (x:List Int),i=n∧G.rules[n]? =some (s,x):=by
 unfold ofOf ofUpto
 rw [List.mem_map]
 constructor
 ·rintro⟨n,hn,rfl⟩
  rw [List.mem_filter,decide_eq_true_eq]at hn
  obtain⟨⟨l,x⟩,hx,hl⟩:=Option.map_eq_some_iff.1 hn.2
  simp only at hl
  subst hl
  exact⟨n,x,rfl,hx⟩
 ·rintro⟨n,x,rfl,hx⟩
  refine⟨n,?_,rfl⟩
  rw [List.mem_filter,decide_eq_true_eq,hx]
  exact⟨List.mem_range.2 (List.getElem?_eq_some_iff.1 hx).1,rfl⟩
end
end Go.Proofs.YtalbfonkhpeajaaGreat

/- Ordered. -/
import Derived.Test.YtalbfonkhpeajaaGreatHG1
import Derived.Test.YtalbfonkhpeajaaGreatHRegion
namespace Go.Proofs.YtalbfonkhpeajaaGreat
set_option linter.unusedVariables false
section
section
open Go.RowKit
end
section
open Go.RowKit
end
section
open Go.RowKit
end
section
open Go.RowKit
end
end
section
section
open Go.RowKit
theorem Tryz.enters_short:Enters Tryz.prog 69:=enters_of Tryz.func69 (by kernel_rfl) rfl
theorem short_clo {w:World} {F:Nat→Prop}:PredR w F 69 #[] (fun r=>decide (r.2.length≤8)):=by
 intro W v r hW hr
 obtain⟨A,n,c,rfl,_⟩:=id hr
 obtain⟨hn,hnc,hcm,_⟩:=hr.at_
 unfold maxLen at hcm
 have b2:Below W.heap.size W (W.alloc (.cells #[.int .i64 r.1,.slice A n c] 42)):=(Below.refl _ W).alloc (Nat.le_refl _) _
 have HB:=hide b2
 have HN:=hide hn
 show Calls Tryz.prog 69 #[.agg #[.int .i64 r.1,.slice A n c]] W _
 obtain⟨l,hl⟩: ∃l,l=r.1:=⟨_,rfl⟩
 rw [←hl]at HB⊢
 clear hW b2 hr hl hn
 go_enter Tryz.func69,Tryz.ntmps69
 go_wp2
 go_ret
 exact⟨ret_bool (by rw [←HN.out];by_cases e:n≤8<;>simp [e]<;>omega),HB.out⟩
theorem Tryz.enters_known1:Enters Tryz.prog 107:=enters_of Tryz.func107 (by kernel_rfl) rfl
theorem known_clo {w:World} {F:Nat→Prop} {vt vn vr:Value} {G:GramD} {st:Int} {B:Nat} (h:IsGram w F vt vn vr G) (k1:Blk w B 25 #[vt,vn,vr,.int .i64 st]):
  PredV w 107 #[.pointer (some ⟨B,0,none⟩)] (Value.int .i64) (fun s=>isTerm G s||isNon G s):=by
 intro W s hW
 have h1:=h.below hW
 have ct:=gram_term h1 st s
 have cn: ∀wr,Below W.heap.size W wr→Calls Tryz.prog 76 #[GV vt vn vr st,.int .i64 s] wr (Quiet wr (.bool (isNon G s))):=fun wr hb=>gram_non (h1.below hb) st s
 have k2:=k1.below hW k1.lt
 have hB:=k2.lt
 have cl: ∀wr,Below W.heap.size W wr→ ∀i v,(#[vt,vn,vr,Value.int .i64 st]:Array Value)[i]? =some v→wr.cell? ⟨B,i,none⟩=some v:=fun wr hb i v e=>((k2.below hb hB).cell i).trans e
 have p0:=cl W (Below.refl _ _) 0 _ rfl
 have p1:=cl W (Below.refl _ _) 1 _ rfl
 have p2:=cl W (Below.refl _ _) 2 _ rfl
 have p3:=cl W (Below.refl _ _) 3 _ rfl
 show Calls Tryz.prog 107 #[.int .i64 s,.pointer (some ⟨B,0,none⟩)] W (Quiet W (.bool (isTerm G s||isNon G s)))
 obtain⟨A1,c1,A2,c2,A3,c3,rfl,rfl,rfl,_⟩:=h.slices
 generalize isTerm G s=it at *
 generalize isNon G s=ino at *
 have CT:=hide ct
 have CN:=hide cn
 have CL:=hide cl
 clear ct cn cl k1 k2 h1 h hW
 go_enter Tryz.func107,Tryz.ntmps107
 go_wp2_with fail
 refine CT.out.mono ?_
 rintro e w2 ⟨rfl,b2⟩
 have q0:=CL.out w2 b2 0 _ rfl
 have q1:=CL.out w2 b2 1 _ rfl
 have q2:=CL.out w2 b2 2 _ rfl
 have q3:=CL.out w2 b2 3 _ rfl
 cases it with
 |true=>
  go_wp2_with fail
  go_ret
  exact⟨rfl,b2⟩
 |false=>
  go_wp2_with fail
  refine(CN.out w2 b2).mono ?_
  rintro e w3 ⟨rfl,b3⟩
  go_wp2_with fail
  go_ret
  exact⟨ret_bool (by cases ino<;>rfl),b2.trans (b3.mono b2.size)⟩
end
section
open Go.RowKit
def knownOf (G:GramD) (r:Int×List Int):Bool:=isNon G r.1&&r.2.all (fun s=>isTerm G s||isNon G s)
set_option maxHeartbeats 1000000 in
theorem gram_known {w:World} {F F':Nat→Prop} {vt vn vr v:Value} {G:GramD} {l:Int} {xs:List Int} (h:IsGram w F vt vn vr G) (st:Int) (hr:RdI w F' v xs) (hF: ∀b,F' b→b<w.heap.size):
  Calls Tryz.prog 78 #[GV vt vn vr st,.agg #[.int .i64 l,v]] w (Quiet w (.bool (knownOf G (l,xs)))):=by
 obtain⟨w2,hw2⟩: ∃w2,w2=(w.alloc (.cells #[vt,vn,vr,.int .i64 st] 25)).alloc (.cells #[.int .i64 l,v] 42):=⟨_,rfl⟩
 have B0:Below w.heap.size w w2:=by rw [hw2];exact((Below.refl _ w).alloc (Nat.le_refl _) _).alloc (by simp) _
 have h2:=h.below B0
 have r2:=hr.below B0 hF
 have k1:Blk w2 w.heap.size 25 #[vt,vn,vr,.int .i64 st]:=by rw [hw2];exact(Blk.new w _ _).alloc _
 have k2:Blk w2 (w.heap.size+1) 42 #[.int .i64 l,v]:=by
  rw [hw2]
  have:=Blk.new (w.alloc (.cells #[vt,vn,vr,.int .i64 st] 25)) 42 #[.int .i64 l,v]
  simpa using this
 have cn:=gram_non h2 st l
 have ca: ∀wr,Below w2.heap.size w2 wr→Calls Tryz.prog 106 #[v,.func (.func 107) #[] #[.pointer (some ⟨w.heap.size,0,none⟩)]] wr (Quiet wr (.bool (xs.all (fun s=>isTerm G s||isNon G s)))):=fun wr hb=>
  all_ints (r2.below (hb.mono B0.size) hF) (fun b e=>Nat.lt_of_lt_of_le (hF b e) (Nat.le_trans B0.size hb.size)) Tryz.enters_known1 (known_clo (h2.below hb) (k1.below hb k1.lt))
 have cl2: ∀wr,Below w2.heap.size w2 wr→ ∀i v',(#[Value.int .i64 l,v]:Array Value)[i]? =some v'→wr.cell? ⟨w.heap.size+1,i,none⟩=some v':=fun wr hb i v e=>((k2.below hb k2.lt).cell i).trans e
 have hko:knownOf G (l,xs)=(isNon G l&&xs.all (fun s=>isTerm G s||isNon G s)):=rfl
 obtain⟨A1,c1,A2,c2,A3,c3,rfl,rfl,rfl,_⟩:=h.slices
 obtain⟨A,n,c,rfl,_⟩:=id hr
 generalize isNon G l=q1 at *
 generalize xs.all (fun s=>isTerm G s||isNon G s)=q2 at *
 have HKO:=hide hko
 have CN:=hide cn
 have CA:=hide ca
 have C2:=hide cl2
 have HB:=hide B0
 have hz:=B0.size
 have hmf: ∀(fn:Fn) (first cap:Array Value) (w:World),(Instr.makeFunc fn first cap).run Tryz.prog w= .ok (.func fn first cap) w:=fun _ _ _ _=>rfl
 clear hko cn ca cl2 k1 k2 h2 h r2 hr B0
 rw [hw2]at CN CA C2 HB
 clear hw2 hz
 go_enter Tryz.func78,Tryz.ntmps78
 go_wp2_with fail
 refine CN.out.mono ?_
 rintro e w3 ⟨rfl,b3⟩
 have m1:=C2.out w3 b3 1 _ rfl
 cases q1 with
 |false=>
  go_wp2_with fail
  go_ret
  exact⟨ret_bool (by rw [HKO.out];rfl),HB.out.trans (b3.mono HB.out.size)⟩
 |true=>
  go_wp2_with fail
  refine(CA.out _ b3).mono ?_
  rintro e w4 ⟨rfl,b4⟩
  go_wp2_with fail
  go_ret
  exact⟨ret_bool (by rw [HKO.out];cases q2<;>rfl),HB.out.trans ((b3.trans (b4.mono b3.size)).mono HB.out.size)⟩
theorem Tryz.enters_known3:Enters Tryz.prog 77:=enters_of Tryz.func77 (by kernel_rfl) rfl
theorem known3_clo {w:World} {F F':Nat→Prop} {vt vn vr:Value} {G:GramD} {st:Int} {B:Nat} (h:IsGram w F vt vn vr G) (k1:Blk w B 25 #[vt,vn,vr,.int .i64 st]) (hF: ∀b,F' b→b<w.heap.size):
  PredR w F' 77 #[.pointer (some ⟨B,0,none⟩)] (fun r=>knownOf G r):=by
 intro W v r hW hr
 obtain⟨W2,hW2⟩: ∃W2,W2=W.alloc (.cells #[.int .i64 r.1,v] 42):=⟨_,rfl⟩
 have b2:Below W.heap.size W W2:=by rw [hW2];exact(Below.refl _ W).alloc (Nat.le_refl _) _
 have hFW: ∀b,F' b→b<W.heap.size:=fun b e=>Nat.lt_of_lt_of_le (hF b e) hW.size
 have hk:=gram_known (l:=r.1) (h.below (hW.trans (b2.mono hW.size))) st (hr.below b2 hFW) (fun b e=>Nat.lt_of_lt_of_le (hFW b e) b2.size)
 have k2:=(k1.below hW k1.lt).below b2 (k1.below hW k1.lt).lt
 have k3:=k1.below hW k1.lt
 have hB:=k3.lt
 have cl: ∀i v',(#[vt,vn,vr,Value.int .i64 st]:Array Value)[i]? =some v'→W2.cell? ⟨B,i,none⟩=some v':=fun i v e=>(k2.cell i).trans e
 have p0:=cl 0 _ rfl
 have p1:=cl 1 _ rfl
 have p2:=cl 2 _ rfl
 have p3:=cl 3 _ rfl
 obtain⟨A1,c1,A2,c2,A3,c3,rfl,rfl,rfl,_⟩:=h.slices
 obtain⟨A,n,c,rfl,_⟩:=id hr
 rw [hW2]at hk p0 p1 p2 p3 b2
 show Calls Tryz.prog 77 #[.agg #[.int .i64 r.1,.slice A n c],.pointer (some ⟨B,0,none⟩)] W (Quiet W (.bool (knownOf G (r.1,r.2))))
 obtain⟨l,hl⟩: ∃l,l=r.1:=⟨_,rfl⟩
 rw [←hl]at hk p0 p1 p2 p3 b2⊢
 generalize knownOf G (l,r.2)=q at *
 have HK:=hide hk
 have HB:=hide b2
 clear hW b2 hr hl hk k1 k2 k3 h cl hW2 hF hFW
 go_enter Tryz.func77,Tryz.ntmps77
 go_wp2_with fail
 refine HK.out.mono ?_
 rintro e w3 ⟨rfl,b3⟩
 go_wp2_with fail
 go_ret
 exact⟨rfl,HB.out.trans (b3.mono HB.out.size)⟩
end
section
open Go.RowKit
def shortOf (G:GramD):Bool:=G.rules.all (fun r=>decide (r.2.length≤8))
def manyOf (G:GramD):Bool:= !shortOf G||(decide (120<G.terms.length)||(decide (120<G.nons.length)||decide (300<G.rules.length)))
set_option maxRecDepth 100000 in
set_option maxHeartbeats 2000000 in
theorem ref_many {w:World} {F:Nat→Prop} {vt vn vr:Value} {G:GramD} (h:IsGram w F vt vn vr G) (st:Int):
  Calls Tryz.prog 29 #[GV vt vn vr st] w (Quiet w (.bool (manyOf G))):=by
 have B1:Below w.heap.size w (w.alloc (.cells #[vt,vn,vr,.int .i64 st] 25)):=(Below.refl _ w).alloc (Nat.le_refl _) _
 have hF:=h.lt
 have hsm:=h.small
 obtain⟨A1,c1,A2,c2,A3,c3,rfl,rfl,rfl,l1,l2,l3,m1,m2,m3⟩:=h.slices
 obtain⟨-,-,-,hcell⟩:=ERule.at_ h.rules
 have hyes: ∀(k:Nat) (l:Int) (x:List Int),G.rules[k]? =some (l,x)→8<x.length→manyOf G=true:=fun k l x hx hl=>by
  have:shortOf G=false:=by
   unfold shortOf
   rw [List.all_eq_false]
   exact⟨_,List.mem_of_getElem? hx,by simpa using hl⟩
  unfold manyOf;rw [this];rfl
 have hno:(∀(k:Nat) (l:Int) (x:List Int),k<G.rules.length→G.rules[k]? =some (l,x)→x.length≤8)→manyOf G=(decide (120<G.terms.length)||(decide (120<G.nons.length)||decide (300<G.rules.length))):=fun hh=>by
  have:shortOf G=true:=by
   unfold shortOf
   rw [List.all_eq_true]
   intro r hr
   obtain⟨j,hj,e⟩:=List.getElem_of_mem hr
   have:=hh j r.1 r.2 hj (by rw [List.getElem?_eq_getElem hj,e])
   simpa using this
  unfold manyOf;rw [this];rfl
 obtain⟨T,eT⟩: ∃n,n=G.terms.length:=⟨_,rfl⟩
 obtain⟨N,eN⟩: ∃n,n=G.nons.length:=⟨_,rfl⟩
 obtain⟨n,en⟩: ∃n,n=G.rules.length:=⟨_,rfl⟩
 rw [←eT,←eN,←en]at hno hsm B1⊢
 rw [←en]at hcell l3
 rw [←eT]at l1
 rw [←eN]at l2
 obtain⟨s1,s2,s3⟩:=hsm
 have HN:=hide en
 have HC:=hide hcell
 have HF:=hide hF
 have HB:=hide B1
 have HY:=hide hyes
 have HNO:=hide hno
 clear eT eN en hcell hF B1 h hyes hno
 go_enter Tryz.func29,Tryz.ntmps29
 go_wp2
 go_loop [3] (fun i=> ∃k:Nat,k≤n∧i= .int .i64 k∧ ∀(j:Nat) (l:Int) (x:List Int),j<k→G.rules[j]? =some (l,x)→x.length≤8) (fun i=>n - (intOf i).toNat)
 case atStart=>exact⟨0,Nat.zero_le _,rfl,fun j l x hj=>absurd hj (by omega)⟩
 case round=>
  obtain⟨k,hk,rfl,hbefore⟩:=hrel
  have HBE:=hide hbefore
  clear hbefore
  by_cases hlt:k<n
  ·obtain⟨b,off,rfl,hb,hc⟩:=HC.out (by omega)
   obtain⟨l,x,vx,hx,hx0,hx1,hxr⟩:=RdR.get (n:=n) HF.out hb (Below.refl _ w) hc (k:=k) (by rw [←HN.out];omega)
   obtain⟨A5,n5,c5,rfl,_⟩:=id hxr
   obtain⟨hn5,hnc5,hcm5,-⟩:=RdI.at_ hxr
   unfold maxLen at hcm5
   have hbw:=HF.out b hb
   have hx1':=fun o=>cell_a hx1 o
   have HX:=hide hx
   have HN5:=hide hn5
   clear hc hx hxr hn5 HC
   by_cases h8:8<n5
   ·go_wp2
    go_ret
    exact⟨ret_bool (HY.out k l x HX.out (by rw [←HN5.out];exact h8)).symm,HB.out⟩
   ·go_wp2
    go_round
    case rel=>
     refine⟨k+1,by omega,by go_num,fun j l' x' hj hx'=> ?_⟩
     by_cases hjk:j=k
     ·subst hjk
      rw [HX.out]at hx';injection hx' with hx';injection hx' with _ hx'
      rw [←hx',←HN5.out];omega
     ·exact HBE.out j l' x' (by omega) hx'
    case measure=>simp [intOf];omega
  ·have hkn:k=n:=by omega
   subst hkn
   have hm:=HNO.out HBE.out
   have HM:=hide hm
   clear hm
   by_cases hT:120<T
   ·have hT':(120:Int)<(T:Int):=by omega
    go_wp2
    go_ret
    exact⟨ret_bool (by rw [HM.out];simp [hT]),HB.out⟩
   ·by_cases hN2:120<N
    ·go_wp2
     go_ret
     exact⟨ret_bool (by rw [HM.out];simp [hT,hN2]),HB.out⟩
    ·go_wp2
     go_ret
     exact⟨ret_bool (by rw [HM.out];by_cases e:300<k<;>simp [hT,hN2,e]<;>omega),HB.out⟩
end
section
open Go.RowKit
theorem Tryz.enters_unlike1:Enters Tryz.prog 108:=enters_of Tryz.func108 (by kernel_rfl) rfl
set_option maxRecDepth 100000 in
set_option maxHeartbeats 1000000 in
theorem unlike_clo {w:World} {F F':Nat→Prop} {rs:List (Int×List Int)} {v:Value} {i:Nat} {ri:Int×List Int} {C1 C2 C3:Nat} (k1:Blk w C1 136 #[.func (.func 80) #[] #[]]) (k2:Blk w C2 23 #[v]) (k3:Blk w C3 3 #[.int .i64 i])
  (h:RdR w F' v rs) (hi:rs[i]? =some ri) (hF: ∀b,F b→b<w.heap.size) (hF': ∀b,F' b→b<w.heap.size):
  PredR w F 108 #[.pointer (some ⟨C1,0,none⟩),.pointer (some ⟨C2,0,none⟩),.pointer (some ⟨C3,0,none⟩)] (fun r=>decide (r=ri)):=by
 intro W u r hW hr
 have hil:=(List.getElem?_eq_some_iff.1 hi).1
 obtain⟨W2,hW2⟩: ∃W2,W2=W.alloc (.cells #[.int .i64 r.1,u] 42):=⟨_,rfl⟩
 have b2:Below W.heap.size W W2:=by rw [hW2];exact(Below.refl _ W).alloc (Nat.le_refl _) _
 have hb2:=hW.trans (b2.mono hW.size)
 have p1:W2.cell? ⟨C1,0,none⟩=some (.func (.func 80) #[] #[]):=((k1.below hb2 k1.lt).cell 0).trans rfl
 have p2:W2.cell? ⟨C2,0,none⟩=some v:=((k2.below hb2 k2.lt).cell 0).trans rfl
 have p3:W2.cell? ⟨C3,0,none⟩=some (.int .i64 i):=((k3.below hb2 k3.lt).cell 0).trans rfl
 obtain⟨A3,c3,rfl,_⟩:=id h
 obtain⟨-,hnc,hcm,hcell⟩:=ERule.at_ h
 obtain⟨b,off,rfl,hb,hc⟩:=hcell (by omega)
 obtain⟨l,x,vx,hx,hx0,hx1,hxr⟩:=RdR.get (n:=rs.length) hF' hb hb2 hc (k:=i) hil
 rw [hi]at hx
 injection hx with hx
 obtain⟨A5,n5,c5,rfl,_⟩:=id hxr
 obtain⟨A,n,c,rfl,_⟩:=id hr
 have hzW:w.heap.size≤W2.heap.size:=hb2.size
 have hs: ∀q,Calls Tryz.prog 80 #[.agg #[.int .i64 r.1,.slice A n c],.agg #[.int .i64 l,.slice A5 n5 c5]] (W2.drewN q) (Quiet (W2.drewN q) (.bool (decide ((r.1,r.2)=(l,x))))):=fun q=>
  same_rule ((hr.below b2 (fun b e=>Nat.lt_of_lt_of_le (hF b e) hW.size)).drewN q) (hxr.drewN q) (fun b e=>Nat.lt_of_lt_of_le (hF b e) hzW) (fun b e=>Nat.lt_of_lt_of_le (hF' b e) hzW)
 have hR:decide ((r.1,r.2)=(l,x))=decide (r=ri):=by rw [hx]
 have eg:=Tryz.enters_same
 have hl1:(i:Int)<(rs.length:Int):=by omega
 show Calls Tryz.prog 108 #[.agg #[.int .i64 r.1,.slice A n c],.pointer (some ⟨C1,0,none⟩),.pointer (some ⟨C2,0,none⟩),.pointer (some ⟨C3,0,none⟩)] W (Quiet W (.bool (decide (r=ri))))
 rw [hR]at hs
 generalize decide (r=ri)=q at *
 obtain⟨rl,hrl⟩: ∃rl,rl=r.1:=⟨_,rfl⟩
 rw [←hrl]at hs hW2⊢
 obtain⟨R,hRR⟩: ∃R,R=rs.length:=⟨_,rfl⟩
 rw [←hRR]at p2 hl1 hnc
 have HS:=hide hs
 have HB:=hide b2
 unfold maxLen at hcm
 clear hs hR hx hi hil hr hxr hrl hRR k1 k2 k3 hc hcell h hb hW b2 hF hF' hb2 hzW
 rw [hW2]at HS HB p1 p2 p3 hx0 hx1
 clear hW2
 go_enter Tryz.func108,Tryz.ntmps108
 go_wp2_with fail
 refine region_tail 6 (by kernel_rfl) (by kernel_rfl) ?_
 simp only [List.take_succ_cons,List.take_zero,List.drop_succ_cons,List.drop_zero]
 repeat still_step
 refine wpStill_nil ?_
 go_wp2_with (go_at_call 80;refine(HS.out _).mono ?_;rintro e w5 ⟨rfl,b5⟩)
 go_ret
 exact⟨rfl,(below_drewN HB.out 1).trans (b5.mono HB.out.size)⟩
end
section
open Go.RowKit
theorem RdR.take {w:World} {F:Nat→Prop} {A:Option Addr} {n c k:Nat} {rs:List (Int×List Int)} (h:RdR w F (.slice A n c) rs) (hk:k≤n):RdR w F (.slice A k c) (rs.take k):=by
 obtain⟨A',c',e,h1,h2,hr⟩:=h
 injection e with e1 e2 e3
 subst e1 e2 e3
 refine⟨A,c,by rw [List.length_take,Nat.min_eq_left hk],by rw [List.length_take];omega,h2,fun hn=> ?_⟩
 rw [List.length_take]at hn
 obtain⟨b,off,hA,hF,hc⟩:=hr (by omega)
 refine⟨b,off,hA,hF,fun i x hx=>hc i x ?_⟩
 have hi:=(List.getElem?_eq_some_iff.1 hx).1
 rw [List.length_take]at hi
 rw [List.getElem?_take_of_lt (by omega)]at hx
 exact hx
def unlikeUpto (rs:List (Int×List Int)) (k:Nat):Bool:=(List.range k).all (fun i=> !(rs.take i).any (fun r=>decide (some r=rs[i]?)))
def unlikeOf (rs:List (Int×List Int)):Bool:=unlikeUpto rs rs.length
theorem unlikeUpto_succ {rs:List (Int×List Int)} {k:Nat} {ri:Int×List Int} (h:rs[k]? =some ri):unlikeUpto rs (k+1)=(unlikeUpto rs k&& !(rs.take k).any (fun r=>decide (r=ri))):=by
 unfold unlikeUpto
 rw [List.range_succ,List.all_append]
 simp [h]
end
section
open Go.RowKit
theorem unlikeUpto_mono {rs:List (Int×List Int)} {k n:Nat} (hk:k≤n) (h:unlikeUpto rs k=false):unlikeUpto rs n=false:=by
 unfold unlikeUpto at *
 rw [List.all_eq_false]at *
 obtain⟨i,hi,e⟩:=h
 rw [List.mem_range]at hi
 exact⟨i,List.mem_range.2 (by omega),e⟩
set_option maxRecDepth 100000 in
set_option maxHeartbeats 1000000 in
theorem gram_unlike {w:World} {F:Nat→Prop} {v:Value} {rs:List (Int×List Int)} (h:RdR w F v rs) (hF: ∀b,F b→b<w.heap.size):
  Calls Tryz.prog 79 #[v,.func (.func 80) #[] #[]] w (Quiet w (.bool (unlikeOf rs))):=by
 obtain⟨A,c,rfl,_⟩:=id h
 obtain⟨-,hnc,hcm,-⟩:=ERule.at_ h
 obtain⟨n,en⟩: ∃n,n=rs.length:=⟨_,rfl⟩
 have hend:unlikeUpto rs n=unlikeOf rs:=by rw [en];rfl
 rw [←en]at hnc h⊢
 unfold maxLen at hcm
 obtain⟨w2,hw2⟩: ∃w2,w2=(w.alloc (.cells #[.slice A n c] 23)).alloc (.cells #[.func (.func 80) #[] #[]] 136):=⟨_,rfl⟩
 have B0:Below w.heap.size w w2:=by rw [hw2];exact((Below.refl _ w).alloc (Nat.le_refl _) _).alloc (by simp) _
 have k1:Blk w2 w.heap.size 23 #[.slice A n c]:=by rw [hw2];exact(Blk.new w _ _).alloc _
 have k2:Blk w2 (w.heap.size+1) 136 #[.func (.func 80) #[] #[]]:=by
  rw [hw2]
  have:=Blk.new (w.alloc (.cells #[.slice A n c] 23)) 136 #[.func (.func 80) #[] #[]]
  simpa using this
 have con: ∀(wr:World) (k:Nat) (ri:Int×List Int),k≤n→rs[k]? =some ri→Below w2.heap.size w2 wr→Calls Tryz.prog 99 #[.slice A k c,.func (.func 108) #[] #[.pointer (some ⟨w.heap.size+1,0,none⟩),.pointer (some ⟨w.heap.size,0,none⟩),.pointer (some ⟨wr.heap.size,0,none⟩)]] (wr.alloc (.cells #[.int .i64 k] 3)) (Quiet (wr.alloc (.cells #[.int .i64 k] 3)) (.bool ((rs.take k).any (fun r=>decide (r=ri))))):=fun wr k ri hk hi hb=>by
  have hb':=hb.alloc hb.size (.cells #[.int .i64 k] 3)
  have h3:=h.below (B0.trans (hb'.mono B0.size)) hF
  have hl: ∀b,F b→b<(wr.alloc (.cells #[.int .i64 k] 3)).heap.size:=fun b e=>Nat.lt_of_lt_of_le (hF b e) (Nat.le_trans B0.size hb'.size)
  exact contains_rules (h3.take hk) hl Tryz.enters_unlike1 (unlike_clo (k2.below hb' k2.lt) (k1.below hb' k1.lt) (Blk.new wr _ _) h3 hi hl hl)
 have q1: ∀wr,Below w2.heap.size w2 wr→wr.cell? ⟨w.heap.size,0,none⟩=some (.slice A n c):=fun wr hb=>((k1.below hb k1.lt).cell 0).trans rfl
 have z0:w2.heap.size=w.heap.size+2:=by rw [hw2];simp
 have HN:=hide en
 have HE:=hide hend
 have CON:=hide con
 have Q1:=hide q1
 have HB:=hide B0
 have HW2:=hide hw2
 clear h en hend con q1 k1 k2 B0 hF
 go_enter Tryz.func79,Tryz.ntmps79
 go_wp2_with fail
 rw [←hw2]
 clear hw2
 go_loopw [8] (fun i wr=> ∃k:Nat,k≤n∧i= .int .i64 k∧unlikeUpto rs k=true∧Below w2.heap.size w2 wr) (fun i _=>n - (intOf i).toNat)
 case atStart=>exact⟨0,Nat.zero_le _,rfl,rfl,Below.refl _ _⟩
 case round=>
  obtain⟨k,hk,rfl,hu,hw⟩:=hrel
  have HU:=hide hu
  have HW:=hide hw
  have r1:=Q1.out wr hw
  have hwz:=hw.size
  have r2:=cell_a r1 (.cells #[.int .i64 k] 3)
  clear hu
  by_cases hlt:k<n
  ·obtain⟨ri,hi⟩: ∃x,rs[k]? =some x:=⟨_,List.getElem?_eq_getElem (by rw [←HN.out];omega)⟩
   have hc:=CON.out wr k ri hk hi hw
   have hsu:=unlikeUpto_succ hi
   rw [HU.out]at hsu
   have HI:=hide hi
   generalize (rs.take k).any (fun r=>decide (r=ri))=q at hc hsu
   have HC:=hide hc
   have HS:=hide hsu
   have b1:Below wr.heap.size wr (wr.alloc (.cells #[.int .i64 k] 3)):=(Below.refl _ wr).alloc (Nat.le_refl _) _
   have HB1:=hide b1
   have hmf: ∀(fn:Fn) (first cap:Array Value) (w:World),(Instr.makeFunc fn first cap).run Tryz.prog w= .ok (.func fn first cap) w:=fun _ _ _ _=>rfl
   clear hc hsu hi hw b1
   go_wp2_with fail
   refine HC.out.mono ?_
   rintro e w3 ⟨rfl,b3⟩
   have b4:=HB1.out.trans (b3.mono HB1.out.size)
   cases q with
   |true=>
    go_wp2_with fail
    go_ret
    exact⟨ret_bool (by rw [←HE.out];exact(unlikeUpto_mono (k:=k+1) (by omega) (by rw [HS.out];rfl)).symm),HB.out.trans ((HW.out.trans (b4.mono hwz)).mono HB.out.size)⟩
   |false=>
    go_wp2_with fail
    go_roundw
    case rel=>exact⟨k+1,by omega,by go_num,by rw [HS.out];rfl,HW.out.trans (b4.mono hwz)⟩
    case measure=>simp [intOf];omega
  ·have hkn:k=n:=by omega
   clear hw
   go_wp2_with fail
   go_ret
   exact⟨ret_bool (by rw [←HE.out,←hkn];exact HU.out.symm),HB.out.trans (HW.out.mono HB.out.size)⟩
end
end
section
section
open Go.RowKit
structure GBox (w:World) (F:Nat→Prop) (B:Nat) (A1:Option Addr) (c1:Nat) (A2:Option Addr) (c2:Nat) (A3:Option Addr) (c3 T N R:Nat) (st:Int) (G:GramD):Prop where
 gram:IsGram w F (.slice A1 T c1) (.slice A2 N c2) (.slice A3 R c3) G
 blk:Blk w B 25 #[.slice A1 T c1,.slice A2 N c2,.slice A3 R c3,.int .i64 st]
 t:T=G.terms.length
 n:N=G.nons.length
 r:R=G.rules.length
 tc:T≤c1
 nc:N≤c2
 rc:R≤c3
 c1m:c1≤9223372036854775807
 c2m:c2≤9223372036854775807
 c3m:c3≤9223372036854775807
 ts:T≤8796093022207
 ns:N≤8796093022207
 rs:R≤4398046511103
section
variable {w w' : World} {F : Nat → Prop} {B : Nat} {A1 A2 A3 : Option Addr} {c1 c2 c3 T N R : Nat} {st : Int} {G : GramD}
theorem GBox.below (h:GBox w F B A1 c1 A2 c2 A3 c3 T N R st G) (hb:Below w.heap.size w w'):GBox w' F B A1 c1 A2 c2 A3 c3 T N R st G:=
 ⟨h.gram.below hb,h.blk.below hb h.blk.lt,h.t,h.n,h.r,h.tc,h.nc,h.rc,h.c1m,h.c2m,h.c3m,h.ts,h.ns,h.rs⟩
theorem GBox.drewN (h:GBox w F B A1 c1 A2 c2 A3 c3 T N R st G) (q:Nat):GBox (w.drewN q) F B A1 c1 A2 c2 A3 c3 T N R st G:=
 h.below (below_drewN (Below.refl _ _) q)
theorem GBox.cells (h:GBox w F B A1 c1 A2 c2 A3 c3 T N R st G):w.cell? ⟨B,0,none⟩=some (.slice A1 T c1)∧w.cell? ⟨B,1,none⟩=some (.slice A2 N c2)∧w.cell? ⟨B,2,none⟩=some (.slice A3 R c3)∧w.cell? ⟨B,3,none⟩=some (.int .i64 st):=
 ⟨(h.blk.cell 0).trans rfl,(h.blk.cell 1).trans rfl,(h.blk.cell 2).trans rfl,(h.blk.cell 3).trans rfl⟩
theorem GBox.rule (h:GBox w F B A1 c1 A2 c2 A3 c3 T N R st G) {k:Nat} (hk:k<R): ∃(b off:Nat) (l:Int) (x:List Int) (A:Option Addr) (n c:Nat),A3=some ⟨b,off,none⟩∧b<w.heap.size∧G.rules[k]? =some (l,x)∧w.cell? ⟨b,off+k * 2,none⟩=some (.int .i64 l)∧w.cell? ⟨b,off+k * 2+1,none⟩=some (.slice A n c)∧RdI w F (.slice A n c) x∧n=x.length∧n≤c∧c≤9223372036854775807:=by
 obtain⟨-,-,-,hcell⟩:=ERule.at_ h.gram.rules
 obtain⟨b,off,hA,hb,hc⟩:=hcell (by omega)
 obtain⟨l,x,v,hx,h0,h1,hr⟩:=RdR.get (n:=R) h.gram.lt hb (Below.refl _ w) hc (k:=k) (by rw [←h.r];exact hk)
 obtain⟨A,n,c,rfl,_⟩:=id hr
 obtain⟨hn,hnc,hcm,-⟩:=RdI.at_ hr
 exact⟨b,off,l,x,A,n,c,hA,h.gram.lt b hb,hx,h0,h1,hr,hn,hnc,hcm⟩
theorem GBox.new (h:IsGram w F (.slice A1 T c1) (.slice A2 N c2) (.slice A3 R c3) G) (st:Int):GBox (w.alloc (.cells #[.slice A1 T c1,.slice A2 N c2,.slice A3 R c3,.int .i64 st] 25)) F w.heap.size A1 c1 A2 c2 A3 c3 T N R st G:=by
 have hb:Below w.heap.size w (w.alloc (.cells #[.slice A1 T c1,.slice A2 N c2,.slice A3 R c3,.int .i64 st] 25)):=(Below.refl _ w).alloc (Nat.le_refl _) _
 obtain⟨a1,d1,a2,d2,a3,d3,e1,e2,e3,l1,l2,l3,m1,m2,m3⟩:=h.slices
 injection e1 with e1 f1 g1
 injection e2 with e2 f2 g2
 injection e3 with e3 f3 g3
 obtain⟨s1,s2,s3⟩:=h.small
 exact⟨h.below hb,Blk.new w _ _,f1,f2,f3,by omega,by omega,by omega,by omega,by omega,by omega,by omega,by omega,by omega⟩
end
theorem unlikeOf_false {rs:List (Int×List Int)} {k i:Nat} {r:Int×List Int} (hi:i<k) (hk:rs[k]? =some r) (hir:rs[i]? =some r):unlikeOf rs=false:=by
 have hl:=(List.getElem?_eq_some_iff.1 hk).1
 refine unlikeUpto_mono (k:=k+1) (by omega) ?_
 rw [unlikeUpto_succ hk]
 have:(rs.take k).any (fun x=>decide (x=r))=true:=by
  rw [List.any_eq_true]
  exact⟨r,List.mem_of_getElem? (i:=i) (by rw [List.getElem?_take_of_lt hi];exact hir),by simp⟩
 rw [this];simp
theorem unlikeUpto_next {rs:List (Int×List Int)} {k:Nat} {r:Int×List Int} (h:unlikeUpto rs k=true) (hk:rs[k]? =some r) (hd: ∀j:Nat,j<k→rs[j]? ≠some r):unlikeUpto rs (k+1)=true:=by
 rw [unlikeUpto_succ hk,h]
 have:(rs.take k).any (fun x=>decide (x=r))=false:=by
  rw [List.any_eq_false]
  intro x hx
  obtain⟨j,hj,e⟩:=List.getElem_of_mem hx
  rw [List.length_take]at hj
  rw [List.getElem_take]at e
  have:=hd j (by omega)
  rw [List.getElem?_eq_getElem (by omega),e]at this
  simpa using this
 rw [this];rfl
set_option maxRecDepth 100000 in
set_option maxHeartbeats 4000000 in
theorem ref_unlike {w:World} {F:Nat→Prop} {vt vn vr:Value} {G:GramD} (h:IsGram w F vt vn vr G) (st:Int):
  Calls Tryz.prog 34 #[GV vt vn vr st] w (Quiet w (.bool (unlikeOf G.rules))):=by
 obtain⟨A1,c1,A2,c2,A3,c3,rfl,rfl,rfl,-⟩:=h.slices
 have g:=GBox.new h st
 have hb0:Below w.heap.size w (w.alloc (.cells #[.slice A1 G.terms.length c1,.slice A2 G.nons.length c2,.slice A3 G.rules.length c3,.int .i64 st] 25)):=(Below.refl _ w).alloc (Nat.le_refl _) _
 obtain⟨w1,hw1⟩: ∃w1,w1=w.alloc (.cells #[.slice A1 G.terms.length c1,.slice A2 G.nons.length c2,.slice A3 G.rules.length c3,.int .i64 st] 25):=⟨_,rfl⟩
 rw [←hw1]at g hb0
 generalize G.terms.length=T at *
 generalize G.nons.length=N at *
 generalize hR:G.rules.length=R at *
 have r0:=g.rs
 have r1:=g.rc
 have r2:=g.c3m
 have XhR:=hide hR;clear hR
 go_enter Tryz.func34,Tryz.ntmps34
 go_wp2_with fail
 rw [←hw1]
 clear hw1
 go_loopw [3] (fun i wr=> ∃k:Nat,k≤R∧i= .int .i64 k∧unlikeUpto G.rules k=true∧GBox wr F w.heap.size A1 c1 A2 c2 A3 c3 T N R st G∧Below w.heap.size w wr) (fun i _=>R - (intOf i).toNat)
 case atStart=>exact⟨0,Nat.zero_le _,rfl,rfl,g,hb0⟩
 case round=>
  clear g hb0
  obtain⟨i,hi,rfl,hu,g,hb⟩:=hrel
  obtain⟨q0,q1,q2,q3⟩:=g.cells
  obtain⟨wo,rfl⟩: ∃wo:World,wo=wr:=⟨_,rfl⟩
  have Xhu:=hide hu;clear hu
  by_cases hlt:i<R
  ·go_wp2_with fail
   clear q0 q1 q2 q3
   go_loopw [4] (fun j wr=> ∃k:Nat,k≤i∧j= .int .i64 k∧(∀j:Nat,j<k→G.rules[j]? ≠G.rules[i]?)∧GBox wr F w.heap.size A1 c1 A2 c2 A3 c3 T N R st G∧Below w.heap.size w wr) (fun j _=>i - (intOf j).toNat)
   case atStart=>exact⟨0,Nat.zero_le _,rfl,fun j hj=>absurd hj (by omega),g,hb⟩
   case round=>
    clear g hb
    obtain⟨k,hk,rfl,hd,g,hb⟩:=hrel
    obtain⟨q0,q1,q2,q3⟩:=g.cells
    obtain⟨b,off,l,x,A,n,c,rfl,hbl,hx,h0,h1,hr,-⟩:=g.rule hlt
    have Xhd:=hide hd;clear hd
    by_cases hki:k<i
    ·obtain⟨b',off',l',x',A',n',c',e,-,hx',h0',h1',hr',-⟩:=g.rule (k:=k) (by omega)
     injection e with e
     injection e with e1 e2
     subst e1 e2
     have hs:=fun q=>ref_same_rule (l:=l) (m:=l') (hr.drewN q) (hr'.drewN q) g.gram.lt g.gram.lt
     have hlt':(i:Int)<(R:Int):=by omega
     have hkR:(k:Int)<(R:Int):=by omega
     have hki':(k:Int)<(i:Int):=by omega
     by_cases he:(l,x)=(l',x')
     ·rw [decide_eq_true he]at hs
      have Xhs:=hide hs;have Xhe:=hide he;have Xhx:=hide hx;have Xhx':=hide hx';have Xhr:=hide hr;have Xhr':=hide hr';clear hs he hx hx' hr hr'
      go_wp2_with fail
      refine region_tail 10 (by kernel_rfl) (by kernel_rfl) ?_
      simp only [List.take_succ_cons,List.take_zero,List.drop_succ_cons,List.drop_zero]
      repeat still_step
      refine wpStill_nil ?_
      go_wp2_with fail
      refine(Xhs.out _).mono ?_
      rintro e w5 ⟨rfl,b5⟩
      go_wp2_with fail
      go_ret
      exact⟨ret_bool (unlikeOf_false hki Xhx.out (by rw [Xhe.out];exact Xhx'.out)).symm,(below_drewN hb 1).trans (b5.mono hb.size)⟩
     ·rw [decide_eq_false he]at hs
      have Xhs:=hide hs;have Xhe:=hide he;have Xhx:=hide hx;have Xhx':=hide hx';have Xhr:=hide hr;have Xhr':=hide hr';clear hs he hx hx' hr hr'
      go_wp2_with fail
      refine region_tail 10 (by kernel_rfl) (by kernel_rfl) ?_
      simp only [List.take_succ_cons,List.take_zero,List.drop_succ_cons,List.drop_zero]
      repeat still_step
      refine wpStill_nil ?_
      go_wp2_with fail
      refine(Xhs.out _).mono ?_
      rintro e w5 ⟨rfl,b5⟩
      go_wp2_with fail
      go_roundw
      case rel=>
       refine⟨k+1,by omega,by go_num,fun j hj=> ?_,(g.drewN 1).below b5,(below_drewN hb 1).trans (b5.mono hb.size)⟩
       by_cases hjk:j=k
       ·subst hjk;rw [Xhx.out,Xhx'.out];intro e;injection e with e;exact Xhe.out e.symm
       ·exact Xhd.out j (by omega)
      case measure=>simp [intOf];omega
    ·have hki:k=i:=by omega
     subst hki
     have Xhx:=hide hx;have Xh0:=hide h0;have Xh1:=hide h1;have Xhr:=hide hr;clear hx h0 h1 hr
     go_wp2_with fail
     go_roundw
     case rel=>exact⟨k+1,by omega,by go_num,unlikeUpto_next Xhu.out Xhx.out (fun j hj=>by rw [←Xhx.out];exact Xhd.out j hj),g,hb⟩
     case measure=>simp [intOf];omega
  ·have hik:i=R:=by omega
   go_wp2_with fail
   go_ret
   exact⟨ret_bool (by rw [←Xhu.out,hik,←XhR.out];rfl),hb⟩
end
section
open Go.RowKit
attribute [local irreducible] wpStill wpOne wpPh
def allKnown (G:GramD) (st:Int):Bool:=isNon G st&&G.rules.all (fun r=>knownOf G r)
theorem allKnown_no {G:GramD} {st:Int} {k:Nat} {r:Int×List Int} (hk:G.rules[k]? =some r) (h:knownOf G r=false):allKnown G st=false:=by
 unfold allKnown
 have:G.rules.all (fun r=>knownOf G r)=false:=by
  rw [List.all_eq_false]
  exact⟨r,List.mem_of_getElem? hk,by simp [h]⟩
 rw [this];simp
theorem knownOf_no {G:GramD} {l:Int} {xs:List Int} {j:Nat} {s:Int} (hj:xs[j]? =some s) (ht:isTerm G s=false) (hn:isNon G s=false):knownOf G (l,xs)=false:=by
 unfold knownOf
 have:xs.all (fun s=>isTerm G s||isNon G s)=false:=by
  rw [List.all_eq_false]
  exact⟨s,List.mem_of_getElem? hj,by simp [ht,hn]⟩
 simp only [this];simp
theorem knownOf_yes {G:GramD} {l:Int} {xs:List Int} (hl:isNon G l=true) (h: ∀(j:Nat) (s:Int),xs[j]? =some s→(isTerm G s||isNon G s)=true):knownOf G (l,xs)=true:=by
 unfold knownOf
 rw [Bool.and_eq_true]
 refine⟨hl,?_⟩
 show xs.all (fun s=>isTerm G s||isNon G s)=true
 rw [List.all_eq_true]
 intro s hs
 obtain⟨j,hj,e⟩:=List.getElem_of_mem hs
 exact h j s (by rw [List.getElem?_eq_getElem hj,e])
set_option maxRecDepth 100000 in
set_option maxHeartbeats 4000000 in
theorem ref_known {w:World} {F:Nat→Prop} {vt vn vr:Value} {G:GramD} (h:IsGram w F vt vn vr G) (st:Int):
  Calls Tryz.prog 33 #[GV vt vn vr st] w (Quiet w (.bool (allKnown G st))):=by
 obtain⟨A1,c1,A2,c2,A3,c3,rfl,rfl,rfl,-⟩:=h.slices
 have g:=GBox.new h st
 have hb0:Below w.heap.size w (w.alloc (.cells #[.slice A1 G.terms.length c1,.slice A2 G.nons.length c2,.slice A3 G.rules.length c3,.int .i64 st] 25)):=(Below.refl _ w).alloc (Nat.le_refl _) _
 obtain⟨w1,hw1⟩: ∃w1,w1=w.alloc (.cells #[.slice A1 G.terms.length c1,.slice A2 G.nons.length c2,.slice A3 G.rules.length c3,.int .i64 st] 25):=⟨_,rfl⟩
 rw [←hw1]at g hb0
 generalize hT:G.terms.length=T at *
 generalize hN:G.nons.length=N at *
 generalize hR:G.rules.length=R at *
 have r0:=g.rs
 have r1:=g.rc
 have r2:=g.c3m
 have t0:=g.ts
 have n0:=g.ns
 have n1:=g.nc
 have n2:=g.c2m
 have cn: ∀(s:Int) (wr:World),GBox wr F w.heap.size A1 c1 A2 c2 A3 c3 T N R st G→Calls Tryz.prog 65 #[GV (.slice A1 T c1) (.slice A2 N c2) (.slice A3 R c3) st,.int .i64 s] wr (Quiet wr (.bool (isNon G s))):=fun s wr g=>ref_non g.gram st s
 have ct: ∀(s:Int) (wr:World),GBox wr F w.heap.size A1 c1 A2 c2 A3 c3 T N R st G→Calls Tryz.prog 66 #[GV (.slice A1 T c1) (.slice A2 N c2) (.slice A3 R c3) st,.int .i64 s] wr (Quiet wr (.bool (isTerm G s))):=fun s wr g=>ref_term g.gram st s
 have hN0:N=0→allKnown G st=false:=fun e=>by
  unfold allKnown
  have: ¬isNon G st=true:=by rw [isNon_iff];omega
  rw [Bool.not_eq_true]at this
  rw [this];rfl
 have hst:isNon G st=false→allKnown G st=false:=fun e=>by unfold allKnown;rw [e];rfl
 have hyes:isNon G st=true→(∀(k:Nat) (r:Int×List Int),k<R→G.rules[k]? =some r→knownOf G r=true)→allKnown G st=true:=fun e hh=>by
  unfold allKnown
  rw [e,Bool.true_and,List.all_eq_true]
  intro r hr
  obtain⟨j,hj,e⟩:=List.getElem_of_mem hr
  exact hh j r (by omega) (by rw [List.getElem?_eq_getElem hj,e])
 obtain⟨q0,q1,q2,q3⟩:=g.cells
 have XhR:=hide hR;have XhT:=hide hT;have XhN:=hide hN;have Xcn:=hide cn;have Xct:=hide ct;have XhN0:=hide hN0;have Xhst:=hide hst;have Xhyes:=hide hyes;clear hR hT hN cn ct hN0 hst hyes
 rw [hw1]at q0 q1 q2 q3
 go_enter Tryz.func33,Tryz.ntmps33
 by_cases hn0:N=0
 ·subst hn0
  go_wp2_with fail
  go_ret
  exact⟨ret_bool (XhN0.out (by trivial)).symm,by rw [hw1]at hb0;exact hb0⟩
 ·have hn0':((N:Int)==0)=false:=by simpa using(by omega: ¬(N:Int)=0)
  go_wp2_with fail
  rw [←hw1]at *
  clear hw1 q0 q1 q2 q3
  refine(Xcn.out _ _ g).mono ?_
  rintro e w2 ⟨rfl,b2⟩
  have g2:=g.below b2
  have hb2:=hb0.trans (b2.mono hb0.size)
  clear g hb0 b2
  have h1:=Xhst.out
  have h2:=Xhyes.out
  clear Xhst Xhyes
  generalize isNon G st=q at *
  cases q with
  |false=>
   have h3:=h1 rfl
   have Xh1:=hide h1;have Xh2:=hide h2;have Xh3:=hide h3;clear h1 h2 h3
   go_wp2_with fail
   go_ret
   exact⟨ret_bool Xh3.out.symm,hb2⟩
  |true=>
   have h3:=h2 rfl
   obtain⟨q0,q1,q2,q3⟩:=g2.cells
   have Xh1:=hide h1;have Xh2:=hide h2;have Xh3:=hide h3;clear h1 h2 h3
   go_wp2_with fail
   clear q0 q1 q2 q3
   go_loopw [3] (fun i wr=> ∃k:Nat,k≤R∧i= .int .i64 k∧(∀(j:Nat) (r:Int×List Int),j<k→G.rules[j]? =some r→knownOf G r=true)∧GBox wr F w.heap.size A1 c1 A2 c2 A3 c3 T N R st G∧Below w.heap.size w wr) (fun i _=>R - (intOf i).toNat)
   case atStart=>exact⟨0,Nat.zero_le _,rfl,fun j r hj=>absurd hj (by omega),g2,hb2⟩
   case round=>
    clear g2 hb2
    obtain⟨i,hi,rfl,hu,g,hb⟩:=hrel
    obtain⟨q0,q1,q2,q3⟩:=g.cells
    obtain⟨wo,rfl⟩: ∃wo:World,wo=wr:=⟨_,rfl⟩
    have Xhu:=hide hu;clear hu
    by_cases hlt:i<R
    ·obtain⟨b,off,l,x,A,n,c,rfl,hbl,hx,h0,h1,hr,hnx,hnc,hcm⟩:=g.rule hlt
     have hlt':(i:Int)<(R:Int):=by omega
     have hcn:=Xcn.out l (wo.drewN 1) (g.drewN 1)
     have Xhcn:=hide hcn;have Xhnx:=hide hnx;have Xhr:=hide hr;have Xhx:=hide hx;clear hcn hnx hr hx
     have hqn: ∀q:Bool,isNon G l=q→isNon G l=q:=fun _ e=>e
     cases hq:isNon G l with
     |false=>
      rw [hq]at Xhcn
      have hfin:=allKnown_no (st:=st) Xhx.out (by show(isNon G l&&_)=false;rw [hq];rfl)
      have Xhfin:=hide hfin;have Xhq:=hide hq;have Xhqn:=hide hqn;clear hfin hq hqn
      go_wp2_with fail
      refine region_tail 7 (by kernel_rfl) (by kernel_rfl) ?_
      simp only [List.take_succ_cons,List.take_zero,List.drop_succ_cons,List.drop_zero]
      repeat still_step
      refine wpStill_nil ?_
      go_wp2_with fail
      refine(Xhcn.out).mono ?_
      rintro e w5 ⟨rfl,b5⟩
      go_wp2_with fail
      go_ret
      exact⟨ret_bool Xhfin.out.symm,(below_drewN hb 1).trans (b5.mono hb.size)⟩
     |true=>
      rw [hq]at Xhcn
      have Xhq:=hide hq;have Xhqn:=hide hqn;clear hq hqn
      go_wp2_with fail
      refine region_tail 7 (by kernel_rfl) (by kernel_rfl) ?_
      simp only [List.take_succ_cons,List.take_zero,List.drop_succ_cons,List.drop_zero]
      repeat still_step
      refine wpStill_nil ?_
      go_wp2_with fail
      refine(Xhcn.out).mono ?_
      rintro e w5 ⟨rfl,b5⟩
      have g5:=(g.drewN 1).below b5
      have hb5:=(below_drewN hb 1).trans (b5.mono hb.size)
      have g0:=g
      clear g hb q0 q1 q2 q3 h0
      go_wp2_with fail
      have hr5:=(Xhr.out.drewN 1).below b5 g0.gram.lt
      have h15:=(b5.cell (p:=⟨b,off+i * 2+1,none⟩) hbl).trans h1
      clear g0 h1 b5
      go_loopw [4] (fun j wr=> ∃k:Nat,k≤n∧j= .int .i64 k∧(∀(j:Nat) (s:Int),j<k→x[j]? =some s→(isTerm G s||isNon G s)=true)∧GBox wr F w.heap.size A1 c1 A2 c2 (some ⟨b,off,none⟩) c3 T N R st G∧wr.cell? ⟨b,off+i * 2+1,none⟩=some (.slice A n c)∧RdI wr F (.slice A n c) x∧Below w.heap.size w wr) (fun j _=>n - (intOf j).toNat)
      case atStart=>exact⟨0,Nat.zero_le _,rfl,fun j s hj=>absurd hj (by omega),g5,h15,hr5,hb5⟩
      case round=>
       clear g5 hb5 h15 hr5 Xhr
       obtain⟨k,hk,rfl,hd,g,h1,hr,hb⟩:=hrel
       obtain⟨q0,q1,q2,q3⟩:=g.cells
       have hbl':=World.block_lt_of_cell? wr _ h1
       have Xhd:=hide hd;clear hd
       by_cases hkn:k<n
       ·obtain⟨-,-,-,hcc⟩:=RdI.at_ hr
        obtain⟨bb,oo,rfl,hFb,hcc⟩:=hcc (by omega)
        obtain⟨s,hs⟩: ∃s,x[k]? =some s:=⟨_,List.getElem?_eq_getElem (by rw [←Xhnx.out];exact hkn)⟩
        have h2:=hcc k s hs
        have hkn':(k:Int)<(n:Int):=by omega
        have hct:=Xct.out s
        have hcn:=Xcn.out s
        have hbad:=knownOf_no (G:=G) (l:=l) hs
        have hbad2:=allKnown_no (st:=st) Xhx.out
        have hfin:isTerm G s=false→isNon G s=false→allKnown G st=false:=fun e1 e2=>hbad2 (hbad e1 e2)
        have Xhs:=hide hs;have Xhr:=hide hr;have Xhfin:=hide hfin;have Xhct:=hide hct;have Xhcn:=hide hcn;clear hs hr hfin hct hcn;clear hcc hbad hbad2
        have hct1:=Xhct.out wr.drew (g.drewN 1)
        obtain⟨wq,hwq⟩: ∃wq,wq=wr.drew:=⟨_,rfl⟩
        have gq:GBox wq F w.heap.size A1 c1 A2 c2 (some ⟨b,off,none⟩) c3 T N R st G:=by rw [hwq];exact g.drewN 1
        have h1q:wq.cell? ⟨b,off+i * 2+1,none⟩=some (.slice (some ⟨bb,oo,none⟩) n c):=by rw [hwq];exact h1
        have h2q:wq.cell? ⟨bb,oo+k,none⟩=some (.int .i64 s):=by rw [hwq];exact h2
        have hbq:Below w.heap.size w wq:=by rw [hwq];exact below_drewN hb 1
        have hrq:RdI wq F (.slice (some ⟨bb,oo,none⟩) n c) x:=by rw [hwq];exact Xhr.out
        have hl1:=World.block_lt_of_cell? wq _ h1q
        have hl2:=World.block_lt_of_cell? wq _ h2q
        have keep: ∀w6,Below wq.heap.size wq w6→GBox w6 F w.heap.size A1 c1 A2 c2 (some ⟨b,off,none⟩) c3 T N R st G∧(w6.cell? ⟨w.heap.size,0,none⟩=some (.slice A1 T c1)∧w6.cell? ⟨w.heap.size,1,none⟩=some (.slice A2 N c2)∧w6.cell? ⟨w.heap.size,2,none⟩=some (.slice (some ⟨b,off,none⟩) R c3)∧w6.cell? ⟨w.heap.size,3,none⟩=some (.int .i64 st)∧w6.cell? ⟨b,off+i * 2+1,none⟩=some (.slice (some ⟨bb,oo,none⟩) n c)∧w6.cell? ⟨bb,oo+k,none⟩=some (.int .i64 s))∧RdI w6 F (.slice (some ⟨bb,oo,none⟩) n c) x∧Below w.heap.size w w6:=fun w6 b6=>by
         have g6:=gq.below b6
         obtain⟨p0,p1,p2,p3⟩:=g6.cells
         exact⟨g6,⟨p0,p1,p2,p3,(b6.cell (p:=⟨b,off+i * 2+1,none⟩) hl1).trans h1q,(b6.cell (p:=⟨bb,oo+k,none⟩) hl2).trans h2q⟩,hrq.below b6 gq.gram.lt,hbq.trans (b6.mono hbq.size)⟩
        rw [hwq]at keep
        have Xkeep:=hide keep;clear keep;clear hwq gq h1q h2q hbq hrq hl1 hl2
        cases hqt:isTerm G s with
        |true=>
         rw [hqt]at hct1
         have Xhct1:=hide hct1;have Xhqt:=hide hqt;clear hct1 hqt
         go_wp2_with fail
         refine region_phases [10,12] (by kernel_rfl) (by kernel_rfl) ?_
         refine wpPh_cons _ _ ?_
         simp only [List.take_succ_cons,List.take_zero,List.drop_succ_cons,List.drop_zero]
         iterate 10 still_step
         refine wpStill_nil ?_
         refine wpOne_list ?_
         go_wp2_with fail
         refine Xhct1.out.mono ?_
         rintro e w6 ⟨rfl,b6⟩
         obtain⟨g6,kk,hr6,hb6⟩:=Xkeep.out _ b6
         obtain⟨k0,k1,k2,k3,k4,k5⟩:=kk
         go_wp2_with fail
         refine wpPh_cons _ _ ?_
         simp only [List.take_succ_cons,List.take_zero,List.drop_succ_cons,List.drop_zero]
         iterate 12 still_step
         refine wpStill_nil ?_
         refine wpOne_list ?_
         go_wp2_with fail
         refine wpPh_nil ?_
         go_wp2_with fail
         go_roundw
         case rel=>exact⟨k+1,by omega,by go_num,fun j s' hj hs'=>by
          by_cases e:j=k
          ·subst e;rw [Xhs.out]at hs';injection hs' with hs';rw [←hs',Xhqt.out];rfl
          ·exact Xhd.out j s' (by omega) hs',g6,k4,hr6,hb6⟩
         case measure=>simp [intOf];omega
        |false=>
         rw [hqt]at hct1
         have Xhct1:=hide hct1;have Xhqt:=hide hqt;clear hct1 hqt
         go_wp2_with fail
         refine region_phases [10,12] (by kernel_rfl) (by kernel_rfl) ?_
         refine wpPh_cons _ _ ?_
         simp only [List.take_succ_cons,List.take_zero,List.drop_succ_cons,List.drop_zero]
         iterate 10 still_step
         refine wpStill_nil ?_
         refine wpOne_list ?_
         go_wp2_with fail
         refine Xhct1.out.mono ?_
         rintro e w6 ⟨rfl,b6⟩
         obtain⟨g6,kk,hr6,hb6⟩:=Xkeep.out _ b6
         obtain⟨k0,k1,k2,k3,k4,k5⟩:=kk
         have hcn1:=Xhcn.out w6 g6
         cases hqn:isNon G s with
         |true=>
          rw [hqn]at hcn1
          have Xhcn1:=hide hcn1;have Xhqn:=hide hqn;clear hcn1 hqn
          go_wp2_with fail
          refine wpPh_cons _ _ ?_
          simp only [List.take_succ_cons,List.take_zero,List.drop_succ_cons,List.drop_zero]
          iterate 12 still_step
          refine wpStill_nil ?_
          refine wpOne_list ?_
          go_wp2_with fail
          refine Xhcn1.out.mono ?_
          rintro e w7 ⟨rfl,b7⟩
          have b67:=b6.trans (b7.mono b6.size)
          obtain⟨g7,kk,hr7,hb7⟩:=Xkeep.out _ b67
          obtain⟨k0,k1,k2,k3,k4,k5⟩:=kk
          go_wp2_with fail
          refine wpPh_nil ?_
          go_wp2_with fail
          go_roundw
          case rel=>exact⟨k+1,by omega,by go_num,fun j s' hj hs'=>by
           by_cases e:j=k
           ·subst e;rw [Xhs.out]at hs';injection hs' with hs';rw [←hs',Xhqn.out];simp
           ·exact Xhd.out j s' (by omega) hs',g7,k4,hr7,hb7⟩
          case measure=>simp [intOf];omega
         |false=>
          rw [hqn]at hcn1
          have Xhcn1:=hide hcn1;have Xhqn:=hide hqn;clear hcn1 hqn
          go_wp2_with fail
          refine wpPh_cons _ _ ?_
          simp only [List.take_succ_cons,List.take_zero,List.drop_succ_cons,List.drop_zero]
          iterate 12 still_step
          refine wpStill_nil ?_
          refine wpOne_list ?_
          go_wp2_with fail
          refine Xhcn1.out.mono ?_
          rintro e w7 ⟨rfl,b7⟩
          have b67:=b6.trans (b7.mono b6.size)
          obtain⟨g7,kk,hr7,hb7⟩:=Xkeep.out _ b67
          go_wp2_with fail
          refine wpPh_nil ?_
          go_wp2_with fail
          go_ret
          exact⟨ret_bool (Xhfin.out Xhqt.out Xhqn.out).symm,hb7⟩
       ·have hkn2:k=n:=by omega
        go_wp2_with fail
        go_roundw
        case rel=>
         refine⟨i+1,by omega,by go_num,fun j r hj hj'=> ?_,g,hb⟩
         by_cases e:j=i
         ·subst e
          rw [Xhx.out]at hj'
          injection hj' with hj'
          rw [←hj']
          exact knownOf_yes Xhq.out (fun j s hs=>Xhd.out j s (by have:=(List.getElem?_eq_some_iff.1 hs).1;rw [hkn2,Xhnx.out];exact this) hs)
         ·exact Xhu.out j r (by omega) hj'
        case measure=>simp [intOf];omega
    ·have e:i=R:=by omega
     go_wp2_with fail
     go_ret
     exact⟨ret_bool (Xh3.out (fun j r hj hr=>Xhu.out j r (by omega) hr)).symm,hb⟩
end
end
end Go.Proofs.YtalbfonkhpeajaaGreat

/- Forms, names once. -/
import Derived.Test.YtalbfonkhpeajaaGreatHG4
import Derived.Test.YtalbfonkhpeajaaGreatHC1
import Derived.Test.YtalbfonkhpeajaaGreatHG1
import Derived.Lib.AppendZeros
namespace Go.Proofs.YtalbfonkhpeajaaGreat
set_option linter.unusedVariables false
section
section
open Go.RowKit
theorem Tryz.enters_plain:Enters Tryz.prog 73:=enters_of Tryz.func73 (by kernel_rfl) rfl
theorem plain_clo {w:World}:PredS w 73 #[] plainB:=fun W x hx hW=>gram_plain x hx W
theorem Tryz.enters_form:Enters Tryz.prog 72:=enters_of Tryz.func72 (by kernel_rfl) rfl
theorem form_clo {w:World}:PredS w 72 #[] (fun s=>plainB s||quotedB s):=by
 intro W x hx hW
 have hp:=gram_plain x hx W
 have hq:=fun wr=>gtok_isquoted x hx wr
 show Calls Tryz.prog 72 #[.string x] W (Quiet W (.bool (plainB x||quotedB x)))
 generalize plainB x=p at *
 generalize quotedB x=q at *
 have Xhp:=hide hp;have Xhq:=hide hq;clear hp hq;clear hW hx
 cases p with
 |true=>
  go_enter Tryz.func72,Tryz.ntmps72
  go_wp2_with fail
  refine Xhp.out.mono ?_
  rintro e w2 ⟨rfl,b2⟩
  go_wp2_with fail
  go_ret
  exact⟨rfl,b2⟩
 |false=>
  go_enter Tryz.func72,Tryz.ntmps72
  go_wp2_with fail
  refine Xhp.out.mono ?_
  rintro e w2 ⟨rfl,b2⟩
  go_wp2_with fail
  refine(Xhq.out _).mono ?_
  rintro e w3 ⟨rfl,b3⟩
  go_wp2_with fail
  go_ret
  exact⟨ret_bool (by cases q<;>rfl),b2.trans (b3.mono b2.size)⟩
def formOf (G:GramD):Bool:=G.terms.all (fun s=>plainB s||quotedB s)&&G.nons.all plainB
theorem all_no {X:Type} {p:X→Bool} {l:List X} {k:Nat} {x:X} (hx:l[k]? =some x) (h:p x=false):l.all p=false:=by
 rw [List.all_eq_false]
 exact⟨x,List.mem_of_getElem? hx,by simp [h]⟩
theorem all_yes {X:Type} {p:X→Bool} {l:List X} (h: ∀(j:Nat) (x:X),l[j]? =some x→p x=true):l.all p=true:=by
 rw [List.all_eq_true]
 intro x hx
 obtain⟨j,hj,e⟩:=List.getElem_of_mem hx
 exact h j x (by rw [List.getElem?_eq_getElem hj,e])
theorem GBox.term {w:World} {F:Nat→Prop} {B:Nat} {A1 A2 A3:Option Addr} {c1 c2 c3 T N R:Nat} {st:Int} {G:GramD} (h:GBox w F B A1 c1 A2 c2 A3 c3 T N R st G) {k:Nat} (hk:k<T): ∃(b off:Nat) (x:ByteArray),A1=some ⟨b,off,none⟩∧b<w.heap.size∧G.terms[k]? =some x∧x.size≤maxLen∧w.cell? ⟨b,off+k,none⟩=some (.string x):=by
 obtain⟨-,-,-,hcell⟩:=h.gram.terms.at_
 obtain⟨b,off,hA,hb,hc⟩:=hcell (by omega)
 obtain⟨x,hx⟩: ∃x,G.terms[k]? =some x:=⟨_,List.getElem?_eq_getElem (by rw [←h.t];exact hk)⟩
 exact⟨b,off,x,hA,h.gram.lt b hb,hx,h.gram.sizes.1 x (List.mem_of_getElem? hx),hc k x hx⟩
theorem GBox.non {w:World} {F:Nat→Prop} {B:Nat} {A1 A2 A3:Option Addr} {c1 c2 c3 T N R:Nat} {st:Int} {G:GramD} (h:GBox w F B A1 c1 A2 c2 A3 c3 T N R st G) {k:Nat} (hk:k<N): ∃(b off:Nat) (x:ByteArray),A2=some ⟨b,off,none⟩∧b<w.heap.size∧G.nons[k]? =some x∧x.size≤maxLen∧w.cell? ⟨b,off+k,none⟩=some (.string x):=by
 obtain⟨-,-,-,hcell⟩:=h.gram.nons.at_
 obtain⟨b,off,hA,hb,hc⟩:=hcell (by omega)
 obtain⟨x,hx⟩: ∃x,G.nons[k]? =some x:=⟨_,List.getElem?_eq_getElem (by rw [←h.n];exact hk)⟩
 exact⟨b,off,x,hA,h.gram.lt b hb,hx,h.gram.sizes.2 x (List.mem_of_getElem? hx),hc k x hx⟩
set_option maxRecDepth 100000 in
set_option maxHeartbeats 2000000 in
theorem ref_form {w:World} {F:Nat→Prop} {vt vn vr:Value} {G:GramD} (h:IsGram w F vt vn vr G) (st:Int):
  Calls Tryz.prog 30 #[GV vt vn vr st] w (Quiet w (.bool (formOf G))):=by
 obtain⟨A1,c1,A2,c2,A3,c3,rfl,rfl,rfl,-⟩:=h.slices
 have g:=GBox.new h st
 have hb0:Below w.heap.size w (w.alloc (.cells #[.slice A1 G.terms.length c1,.slice A2 G.nons.length c2,.slice A3 G.rules.length c3,.int .i64 st] 25)):=(Below.refl _ w).alloc (Nat.le_refl _) _
 obtain⟨w1,hw1⟩: ∃w1,w1=w.alloc (.cells #[.slice A1 G.terms.length c1,.slice A2 G.nons.length c2,.slice A3 G.rules.length c3,.int .i64 st] 25):=⟨_,rfl⟩
 rw [←hw1]at g hb0
 have f1: ∀(k:Nat) (x:ByteArray),G.terms[k]? =some x→plainB x=false→quotedB x=false→formOf G=false:=fun k x hx h1 h2=>by
  unfold formOf;rw [all_no hx (by rw [h1,h2];rfl)];rfl
 have f2: ∀(k:Nat) (x:ByteArray),G.nons[k]? =some x→plainB x=false→formOf G=false:=fun k x hx h1=>by
  unfold formOf;rw [all_no hx h1];simp
 have f3:(∀(k:Nat) (x:ByteArray),G.terms[k]? =some x→(plainB x||quotedB x)=true)→(∀(k:Nat) (x:ByteArray),G.nons[k]? =some x→plainB x=true)→formOf G=true:=fun h1 h2=>by
  unfold formOf;rw [all_yes h1,all_yes h2];rfl
 generalize hT:G.terms.length=T at *
 generalize hN:G.nons.length=N at *
 generalize hR:G.rules.length=R at *
 have t0:=g.ts
 have t1:=g.tc
 have t2:=g.c1m
 have n0:=g.ns
 have n1:=g.nc
 have n2:=g.c2m
 have XhR:=hide hR;have XhT:=hide hT;have XhN:=hide hN;have Xf1:=hide f1;have Xf2:=hide f2;have Xf3:=hide f3;clear hR hT hN f1 f2 f3
 go_enter Tryz.func30,Tryz.ntmps30
 go_wp2_with fail
 rw [←hw1]
 clear hw1
 go_loopw [3] (fun i wr=> ∃k:Nat,k≤T∧i= .int .i64 k∧(∀(j:Nat) (x:ByteArray),j<k→G.terms[j]? =some x→(plainB x||quotedB x)=true)∧GBox wr F w.heap.size A1 c1 A2 c2 A3 c3 T N R st G∧Below w.heap.size w wr) (fun i _=>T - (intOf i).toNat)
 case atStart=>exact⟨0,Nat.zero_le _,rfl,fun j r hj=>absurd hj (by omega),g,hb0⟩
 case round=>
  clear g hb0
  obtain⟨k,hk,rfl,hu,g,hb⟩:=hrel
  obtain⟨q0,q1,q2,q3⟩:=g.cells
  have Xhu:=hide hu;clear hu
  by_cases hlt:k<T
  ·obtain⟨b,off,x,rfl,hbl,hx,hxs,hc⟩:=g.term hlt
   have hp:=ref_plain x hxs wr
   have hq:=fun wr=>ref_isquoted x hxs wr
   have hlt':(k:Int)<(T:Int):=by omega
   have hf:=Xf1.out k x hx
   have next: ∀wr',Below wr.heap.size wr wr'→GBox wr' F w.heap.size (some ⟨b,off,none⟩) c1 A2 c2 A3 c3 T N R st G∧Below w.heap.size w wr'∧wr'.cell? ⟨b,off+k,none⟩=some (.string x)∧wr'.cell? ⟨w.heap.size,0,none⟩=some (.slice (some ⟨b,off,none⟩) T c1):=fun wr' h=>⟨g.below h,hb.trans (h.mono hb.size),(h.cell (p:=⟨b,off+k,none⟩) hbl).trans hc,(g.below h).cells.1⟩
   cases hpx:plainB x with
   |true=>
    rw [hpx]at hp
    have Xhp:=hide hp;have Xhq:=hide hq;have Xhf:=hide hf;have Xhx:=hide hx;have Xhpx:=hide hpx;have Xnext:=hide next;clear hp hq hf hx hpx next
    go_wp2_with fail
    refine Xhp.out.mono ?_
    rintro e w2 ⟨rfl,b2⟩
    obtain⟨g2,hb2,-,-⟩:=Xnext.out w2 b2
    go_wp2_with fail
    go_roundw
    case rel=>exact⟨k+1,by omega,by go_num,fun j y hj hy=>by
     by_cases e:j=k
     ·subst e;rw [Xhx.out]at hy;injection hy with hy;rw [←hy,Xhpx.out];rfl
     ·exact Xhu.out j y (by omega) hy,g2,hb2⟩
    case measure=>simp [intOf];omega
   |false=>
    rw [hpx]at hp
    cases hqx:quotedB x with
    |true=>
     rw [hqx]at hq
     have Xhp:=hide hp;have Xhq:=hide hq;have Xhf:=hide hf;have Xhx:=hide hx;have Xhpx:=hide hpx;have Xnext:=hide next;have Xhqx:=hide hqx;clear hp hq hf hx hpx next hqx
     go_wp2_with fail
     refine Xhp.out.mono ?_
     rintro e w2 ⟨rfl,b2⟩
     obtain⟨g2,hb2,m0,m1⟩:=Xnext.out w2 b2
     go_wp2_with fail
     refine(Xhq.out _).mono ?_
     rintro e w3 ⟨rfl,b3⟩
     obtain⟨g3,hb3,-,-⟩:=Xnext.out w3 (b2.trans (b3.mono b2.size))
     go_wp2_with fail
     go_roundw
     case rel=>exact⟨k+1,by omega,by go_num,fun j y hj hy=>by
      by_cases e:j=k
      ·subst e;rw [Xhx.out]at hy;injection hy with hy;rw [←hy,Xhqx.out];simp
      ·exact Xhu.out j y (by omega) hy,g3,hb3⟩
     case measure=>simp [intOf];omega
    |false=>
     rw [hqx]at hq
     have hfin:=hf hpx hqx
     have Xhp:=hide hp;have Xhq:=hide hq;have Xhf:=hide hf;have Xhx:=hide hx;have Xhpx:=hide hpx;have Xnext:=hide next;have Xhqx:=hide hqx;have Xhfin:=hide hfin;clear hp hq hf hx hpx next hqx hfin
     go_wp2_with fail
     refine Xhp.out.mono ?_
     rintro e w2 ⟨rfl,b2⟩
     obtain⟨g2,hb2,m0,m1⟩:=Xnext.out w2 b2
     go_wp2_with fail
     refine(Xhq.out _).mono ?_
     rintro e w3 ⟨rfl,b3⟩
     obtain⟨g3,hb3,-,-⟩:=Xnext.out w3 (b2.trans (b3.mono b2.size))
     go_wp2_with fail
     go_ret
     exact⟨ret_bool Xhfin.out.symm,hb3⟩
  ·have hall: ∀(j:Nat) (x:ByteArray),G.terms[j]? =some x→(plainB x||quotedB x)=true:=fun j x hx=>Xhu.out j x (by have:=(List.getElem?_eq_some_iff.1 hx).1;have:=XhT.out;omega) hx
   have hyes:=Xf3.out hall
   have Xhall:=hide hall;have Xhyes:=hide hyes;clear hall hyes
   go_wp2_with fail
   clear q0 q1 q2 q3
   go_loopw [4] (fun i wr=> ∃k:Nat,k≤N∧i= .int .i64 k∧(∀(j:Nat) (x:ByteArray),j<k→G.nons[j]? =some x→plainB x=true)∧GBox wr F w.heap.size A1 c1 A2 c2 A3 c3 T N R st G∧Below w.heap.size w wr) (fun i _=>N - (intOf i).toNat)
   case atStart=>exact⟨0,Nat.zero_le _,rfl,fun j r hj=>absurd hj (by omega),g,hb⟩
   case round=>
    clear g hb
    obtain⟨k,hk,rfl,hu,g,hb⟩:=hrel
    obtain⟨q0,q1,q2,q3⟩:=g.cells
    have Xhu:=hide hu;clear hu
    by_cases hlt:k<N
    ·obtain⟨b,off,x,rfl,hbl,hx,hxs,hc⟩:=g.non hlt
     have hp:=ref_plain x hxs wr
     have hlt':(k:Int)<(N:Int):=by omega
     have hf:=Xf2.out k x hx
     cases hpx:plainB x with
     |true=>
      rw [hpx]at hp
      have Xhp:=hide hp;have Xhf:=hide hf;have Xhx:=hide hx;have Xhpx:=hide hpx;clear hp hf hx hpx
      go_wp2_with fail
      refine Xhp.out.mono ?_
      rintro e w2 ⟨rfl,b2⟩
      go_wp2_with fail
      go_roundw
      case rel=>exact⟨k+1,by omega,by go_num,fun j y hj hy=>by
       by_cases e:j=k
       ·subst e;rw [Xhx.out]at hy;injection hy with hy;rw [←hy,Xhpx.out]
       ·exact Xhu.out j y (by omega) hy,g.below b2,hb.trans (b2.mono hb.size)⟩
      case measure=>simp [intOf];omega
     |false=>
      rw [hpx]at hp
      have hfin:=hf hpx
      have Xhp:=hide hp;have Xhf:=hide hf;have Xhx:=hide hx;have Xhpx:=hide hpx;have Xhfin:=hide hfin;clear hp hf hx hpx hfin
      go_wp2_with fail
      refine Xhp.out.mono ?_
      rintro e w2 ⟨rfl,b2⟩
      go_wp2_with fail
      go_ret
      exact⟨ret_bool Xhfin.out.symm,hb.trans (b2.mono hb.size)⟩
    ·go_wp2_with fail
     go_ret
     exact⟨ret_bool (Xhyes.out (fun j x hx=>Xhu.out j x (by have:=(List.getElem?_eq_some_iff.1 hx).1;have:=XhN.out;omega) hx)).symm,hb⟩
end
section
open Go.RowKit
theorem RdS.take {w:World} {F:Nat→Prop} {A:Option Addr} {n c k:Nat} {xs:List ByteArray} (h:RdS w F (.slice A n c) xs) (hk:k≤n):RdS w F (.slice A k c) (xs.take k):=by
 obtain⟨hn,h1,h2,hr⟩:=h.at_
 refine⟨A,k,c,rfl,by omega,h2,by simp;omega,fun hp=> ?_⟩
 obtain⟨b,off,hA,hF,hc⟩:=hr (by omega)
 refine⟨b,off,hA,hF,fun j u hu=> ?_⟩
 rw [List.getElem?_map]at hu
 obtain⟨x,hx,rfl⟩:=Option.map_eq_some_iff.1 hu
 have hj:=(List.getElem?_eq_some_iff.1 hx).1
 rw [List.length_take]at hj
 rw [List.getElem?_take_of_lt (by omega)]at hx
 exact hc j x hx
theorem nodup_no {X:Type} {xs:List X} {k:Nat} {x:X} (hk:xs[k]? =some x) (h:x∈xs.take k): ¬xs.Nodup:=by
 intro hn
 obtain⟨j,hj,e⟩:=List.getElem_of_mem h
 rw [List.length_take]at hj
 rw [List.getElem_take]at e
 have hl:=(List.getElem?_eq_some_iff.1 hk)
 obtain⟨hl,e2⟩:=hl
 exact(List.pairwise_iff_getElem.1 hn) j k (by omega) hl (by omega) (by rw [e,e2])
theorem nodup_yes {X:Type} {xs:List X} (h: ∀(k:Nat) (x:X),xs[k]? =some x→x∉xs.take k):xs.Nodup:=by
 rw [List.nodup_iff_pairwise_ne,List.pairwise_iff_getElem]
 intro i j hi hj hij e
 refine h j xs[j] (List.getElem?_eq_getElem hj) ?_
 rw [←e]
 exact List.mem_of_getElem? (i:=i) (by rw [List.getElem?_take_of_lt hij];exact List.getElem?_eq_getElem hi)
set_option maxRecDepth 100000 in
set_option maxHeartbeats 1000000 in
theorem ref_once {w:World} {F:Nat→Prop} {v:Value} {xs:List ByteArray} (h:RdS w F v xs):
  Calls Tryz.prog 31 #[v] w (Quiet w (.bool (decide xs.Nodup))):=by
 obtain⟨A,n,c,rfl,-⟩:=id h
 obtain⟨hn,hnc,hcm,hcell⟩:=h.at_
 unfold maxLen at hcm
 have hpl: ∀(k:Nat) (x:ByteArray) (q:Nat),k≤n→Calls Tryz.prog 64 #[.slice A k c,.string x] (w.drewN q) fun e w'=>e= .returned (.int .i64 (place (xs.take k) x))∧w.drewN q=w':=fun k x q hk=>ref_place ((h.take hk).drewN q) x
 have hb: ∀q,Below w.heap.size w (w.drewN q):=fun q=>below_drewN (Below.refl _ _) q
 have Xhn:=hide hn;have Xhpl:=hide hpl;have Xhb:=hide hb;clear hn hpl hb;clear h
 go_enter Tryz.func31,Tryz.ntmps31
 go_wp2_with fail
 go_loopw [3] (fun i wr=> ∃k q:Nat,k≤n∧i= .int .i64 k∧(∀(j:Nat) (x:ByteArray),j<k→xs[j]? =some x→x∉xs.take j)∧wr=w.drewN q) (fun i _=>n - (intOf i).toNat)
 case atStart=>exact⟨0,0,Nat.zero_le _,rfl,fun j x hj=>absurd hj (by omega),rfl⟩
 case round=>
  obtain⟨k,q,hk,rfl,hu,rfl⟩:=hrel
  have Xhu:=hide hu;clear hu
  by_cases hlt:k<n
  ·obtain⟨b,off,rfl,_,hc⟩:=hcell (by omega)
   obtain⟨x,hx⟩: ∃x,xs[k]? =some x:=⟨_,List.getElem?_eq_getElem (by rw [←Xhn.out];omega)⟩
   have hcx:=hc k x hx
   have hp:=Xhpl.out k x (q+1) hk
   have hlt':(k:Int)<(n:Int):=by omega
   have hkc:k≤c:=by omega
   have hkc':(k:Int)≤(c:Int):=by omega
   have hk0:(0:Int)≤(k:Int):=by omega
   have hm:=place_mem (xs:=xs.take k) (s:=x)
   obtain⟨p,hp0⟩: ∃p,p=place (xs.take k) x:=⟨_,rfl⟩
   rw [←hp0]at hp hm
   by_cases hmem:x∈xs.take k
   ·have hge:0≤p:=hm.2 hmem
    have hfin:=nodup_no hx hmem
    have Xhp:=hide hp;have Xhx:=hide hx;have Xhmem:=hide hmem;have Xhfin:=hide hfin;clear hp hx hmem hfin;clear hcell hc hm hp0
    go_wp2_with fail
    refine region_tail 7 (by kernel_rfl) (by kernel_rfl) ?_
    simp only [List.take_succ_cons,List.take_zero,List.drop_succ_cons,List.drop_zero]
    repeat still_step
    refine wpStill_nil ?_
    go_wp2_with fail
    refine Xhp.out.mono ?_
    rintro e w' ⟨rfl,rfl⟩
    go_wp2_with fail
    go_ret
    exact⟨ret_bool (decide_eq_false Xhfin.out).symm,Xhb.out _⟩
   ·have hge: ¬0≤p:=fun e=>hmem (hm.1 e)
    have Xhp:=hide hp;have Xhx:=hide hx;have Xhmem:=hide hmem;clear hp hx hmem;clear hcell hc hm hp0
    go_wp2_with fail
    refine region_tail 7 (by kernel_rfl) (by kernel_rfl) ?_
    simp only [List.take_succ_cons,List.take_zero,List.drop_succ_cons,List.drop_zero]
    repeat still_step
    refine wpStill_nil ?_
    go_wp2_with fail
    refine Xhp.out.mono ?_
    rintro e w' ⟨rfl,rfl⟩
    go_wp2_with fail
    go_roundw
    case rel=>exact⟨k+1,q+1,by omega,by go_num,fun j y hj hy=>by
     by_cases e:j=k
     ·subst e;rw [Xhx.out]at hy;injection hy with hy;rw [←hy];exact Xhmem.out
     ·exact Xhu.out j y (by omega) hy,rfl⟩
    case measure=>simp [intOf];omega
  ·clear hcell
   go_wp2_with fail
   go_ret
   exact⟨ret_bool (decide_eq_true (nodup_yes fun j x hx=>Xhu.out j x (by have:=(List.getElem?_eq_some_iff.1 hx).1;have:=Xhn.out;omega) hx)).symm,Xhb.out _⟩
end
section
open Go.RowKit
theorem ownsRow_zero {w:World} {base cap:Nat} {e:TypeId} {Z:Array Value} (hb:base≤w.heap.size) (hc:cap≤maxLen) (hZ:Z.size=cap * 1):
  (w.alloc (.cells Z e)).ownsRow base e 1 (.slice (some ⟨w.heap.size,0,none⟩) 0 cap) 0 []:=
 ⟨rfl,.inr ⟨w.heap.size,cap,Z,rfl,hb,heap_alloc_new w _,Nat.zero_le _,hc,hZ,by simp⟩⟩
set_option maxRecDepth 100000 in
set_option maxHeartbeats 1000000 in
theorem grow_nil (n:Nat) (hn:n≤65536) (w:World):Calls Tryz.prog 127 #[.slice none 0 0,.int .i64 n] w (OwnPost w 9 [] 0):=by
 by_cases h0:0<n
 ·obtain⟨i,hi,hz,hsize,hby⟩:=info_parts Tryz.infoStr
  have happ:=Lib.run_append_nil_zeros (P:=Tryz.prog) w 22 3 22 9 i (.string ByteArray.empty) .i64 .i64 Tryz.underlying22 Tryz.underlying3 hi hz n h0 (by omega) (by omega) (by rw [hby];omega)
  have hge:=grownCap_ge w n 0 9
  have hle:=grownCap_le_maxLen w n 0 9 (by unfold maxLen;omega)
  generalize grownCap w n 0 9=cap at happ hge hle
  have hZs:(Builtin.zeroCells (Value.string ByteArray.empty).cells n++Builtin.zeroCells (Value.string ByteArray.empty).cells (cap - n)).size=cap * 1:=by simp [size_zeroCells,Value.cells];omega
  generalize (Builtin.zeroCells (Value.string ByteArray.empty).cells n++Builtin.zeroCells (Value.string ByteArray.empty).cells (cap - n))=Z at happ hZs
  have ho:=ownsRow_zero (w:=w.drew) (base:=w.heap.size) (e:=9) (Nat.le_refl _) hle hZs
  have hb:Below w.heap.size w (w.drew.alloc (.cells Z 9)):=((Below.refl _ w).drew).alloc (Nat.le_refl _) _
  unfold maxLen at hle
  clear hZs hi hz hsize hby
  have Xhapp:=hide happ;have Xho:=hide ho;have Xhb:=hide hb;clear happ ho hb
  go_enter Tryz.func127,Tryz.ntmps127
  go_wp2_with (at_builtin;refine Lib.wpList_append_run _ rfl _ _ _ _ rfl _ _ rfl rfl _ _ Xhapp.out ?_)
  go_ret
  exact⟨some ⟨w.heap.size,0,none⟩,cap,rfl,Xho.out,Xhb.out⟩
 ·obtain rfl:n=0:=by omega
  clear hn h0
  go_enter Tryz.func127,Tryz.ntmps127
  go_wp2_with fail
  go_ret
  exact⟨none,0,rfl,World.ownsRow_nil _ _ _ _,Below.refl _ _⟩
set_option maxRecDepth 100000 in
set_option maxHeartbeats 2000000 in
theorem concat_two {w:World} {F:Nat→Prop} {va vb:Value} {xs ys:List ByteArray} {B:Nat} (ha:RdS w F va xs) (hb:RdS w F vb ys) (hF: ∀b,F b→b<w.heap.size) (hk:Blk w B 22 #[va,vb]) (hl:xs.length+ys.length≤65536):
  Calls Tryz.prog 105 #[.slice (some ⟨B,0,none⟩) 2 2] w (OwnPost w 9 ((xs++ys).map Value.string) (xs.length+ys.length)):=by
 have c0:w.cell? ⟨B,0,none⟩=some va:=(hk.cell 0).trans rfl
 have c1:w.cell? ⟨B,1,none⟩=some vb:=(hk.cell 1).trans rfl
 have hbl:=hk.lt
 obtain⟨A1,n1,d1,rfl,-⟩:=id ha
 obtain⟨A2,n2,d2,rfl,-⟩:=id hb
 obtain⟨e1,l1,m1,-⟩:=ha.at_
 obtain⟨e2,l2,m2,-⟩:=hb.at_
 unfold maxLen at m1 m2
 rw [←e1,←e2]at hl⊢
 have hg:=grow_nil (n1+n2) hl w
 have ln1:(xs.map Value.string).length=n1 * 1:=by simpa using e1.symm
 have ln2:(ys.map Value.string).length=n2 * 1:=by simpa using e2.symm
 have hrd: ∀wr,Below w.heap.size w wr→wr.cell? ⟨B,0,none⟩=some (.slice A1 n1 d1)∧wr.cell? ⟨B,1,none⟩=some (.slice A2 n2 d2)∧RdS wr F (.slice A1 n1 d1) xs∧RdS wr F (.slice A2 n2 d2) ys:=fun wr h=>⟨(h.cell (p:=⟨B,0,none⟩) hbl).trans c0,(h.cell (p:=⟨B,1,none⟩) hbl).trans c1,ha.below h hF,hb.below h hF⟩
 have Xhrd:=hide hrd;have Xhg:=hide hg;have Xln1:=hide ln1;have Xln2:=hide ln2;have Xe1:=hide e1;have Xe2:=hide e2;clear hrd hg ln1 ln2 e1 e2;clear ha hb hF hk
 go_enter Tryz.func105,Tryz.ntmps105
 go_wp2_with fail
 go_loopw [3,11] (fun s i wr=>((i= .int .i64 0∧s= .int .i64 0)∨(i= .int .i64 1∧s= .int .i64 n1)∨(i= .int .i64 2∧s= .int .i64 (n1+n2:Nat)))∧w=wr) (fun _ i _=>2 - (intOf i).toNat)
 case atStart=>exact⟨.inl ⟨rfl,rfl⟩,rfl⟩
 case round=>
  obtain⟨⟨rfl,rfl⟩|⟨rfl,rfl⟩|⟨rfl,rfl⟩,rfl⟩:=hrel
  ·go_wp2_with fail
   go_roundw
   case rel=>exact⟨.inr (.inl ⟨rfl,rfl⟩),by first|rfl|trivial⟩
   case measure=>simp [intOf]
  ·go_wp2_with fail
   go_roundw
   case rel=>exact⟨.inr (.inr ⟨rfl,by go_num⟩),by first|rfl|trivial⟩
   case measure=>simp [intOf]
  ·clear c0 c1
   go_wp2_with fail
   refine Xhg.out.mono ?_
   rintro e w1 ⟨A,c,rfl,hown,hb⟩
   have Xhown:=hide hown;have Xhb:=hide hb;clear hown hb
   go_wp2_with fail
   go_loopw [6,27] (fun s i wr=> ∃(A:Option Addr) (c:Nat),((i= .int .i64 0∧s= .slice A 0 c∧wr.ownsRow w.heap.size 9 1 (.slice A 0 c) 0 [])∨(i= .int .i64 1∧s= .slice A n1 c∧wr.ownsRow w.heap.size 9 1 (.slice A n1 c) n1 (xs.map Value.string))∨(i= .int .i64 2∧s= .slice A (n1+n2) c∧wr.ownsRow w.heap.size 9 1 (.slice A (n1+n2) c) (n1+n2) ((xs++ys).map Value.string)))∧Below w.heap.size w wr) (fun _ i _=>2 - (intOf i).toNat)
   case atStart=>exact⟨A,c,.inl ⟨rfl,rfl,Xhown.out⟩,Xhb.out⟩
   case round=>
    clear Xhown Xhb
    obtain⟨A,c,⟨rfl,rfl,ho⟩|⟨rfl,rfl,ho⟩|⟨rfl,rfl,ho⟩,hb⟩:=hrel
    ·obtain⟨q0,q1,r0,r1⟩:=Xhrd.out wr hb
     have hbz:=hb.size
     have Xho:=hide ho;have Xr0:=hide r0;have Xr1:=hide r1;have Xhb:=hide hb;clear ho r0 r1 hb
     go_wp2_with (at_builtin;refine wp_append _ rfl (.tmp 31) (.tmp 32) _ rfl Tryz.elemStr w.heap.size _ 0 [] rfl Xho.out F _ _ n1 rfl Xln1.out Xr0.out rds_ones (by unfold maxLen;omega) (by omega) hbz ?_)
     intro A' c' w2 hown2 hg2 hx2
     have ho2:w2.ownsRow w.heap.size 9 1 (.slice A' n1 c') n1 (xs.map Value.string):=by simpa using hown2
     have hb2:=Xhb.out.grown hg2 hbz (fun q hq=>(Xho.out.lt q hq).1)
     clear hown2 hx2
     have Xho2:=hide ho2;have Xhb2:=hide hb2;have Xhg2:=hide hg2;clear ho2 hb2 hg2
     go_wp2_with fail
     go_roundw
     case rel=>exact⟨A',c',.inr (.inl ⟨rfl,rfl,Xho2.out⟩),Xhb2.out⟩
     case measure=>simp [intOf]
    ·obtain⟨q0,q1,r0,r1⟩:=Xhrd.out wr hb
     have hbz:=hb.size
     have Xho:=hide ho;have Xr0:=hide r0;have Xr1:=hide r1;have Xhb:=hide hb;clear ho r0 r1 hb
     go_wp2_with (at_builtin;refine wp_append _ rfl (.tmp 31) (.tmp 32) _ rfl Tryz.elemStr w.heap.size _ n1 (xs.map Value.string) rfl Xho.out F _ _ n2 rfl Xln2.out Xr1.out rds_ones (by unfold maxLen;omega) (by omega) hbz ?_)
     intro A' c' w2 hown2 hg2 hx2
     have ho2:w2.ownsRow w.heap.size 9 1 (.slice A' (n1+n2) c') (n1+n2) ((xs++ys).map Value.string):=by rw [List.map_append];exact hown2
     have hb2:=Xhb.out.grown hg2 hbz (fun q hq=>(Xho.out.lt q hq).1)
     clear hown2 hx2
     have Xho2:=hide ho2;have Xhb2:=hide hb2;have Xhg2:=hide hg2;clear ho2 hb2 hg2
     go_wp2_with fail
     go_roundw
     case rel=>exact⟨A',c',.inr (.inr ⟨rfl,rfl,Xho2.out⟩),Xhb2.out⟩
     case measure=>simp [intOf]
    ·have Xho:=hide ho
     have Xhb:=hide hb;clear ho hb
     go_wp2_with fail
     go_ret
     exact⟨A,c,rfl,Xho.out,Xhb.out⟩
end
section
open Go.RowKit
open Go.Maps (Keyed)
theorem Tryz.keyStr:Keyed Tryz.prog 9:=Maps.string_keyed Tryz.underlying9
theorem Tryz.zeroInt (w:World):(zeroValue 3).run Tryz.prog w= .ok (.int .i64 0) w:=by kernel_rfl
def skey (s:ByteArray):Lit:= .string s.data.toList
theorem skey_inj {s t:ByteArray} (h:skey s=skey t):s=t:=by
 unfold skey at h
 injection h with h
 exact bytes_ext (Array.toList_inj.1 h)
theorem skey_lit (s:ByteArray):WideAt.IsKeyLit (skey s):=by unfold skey;simp [WideAt.IsKeyLit]
def dist:List ByteArray→Nat
 |[]=>0
 |s::r=>if s∈r then dist r else dist r+1
theorem dist_le: ∀l,dist l≤l.length
 |[]=>Nat.le_refl _
 |s::r=>by
  have:=dist_le r
  unfold dist
  split<;>simp<;>omega
theorem dist_nodup: ∀l:List ByteArray,dist l=l.length↔l.Nodup
 |[]=>by simp [dist]
 |s::r=>by
  have h1:=dist_le r
  have h2:=dist_nodup r
  unfold dist
  rw [List.nodup_cons,List.length_cons]
  by_cases h:s∈r
  ·rw [if_pos h]
   constructor
   ·intro e;omega
   ·intro e;exact absurd h e.1
  ·rw [if_neg h,←h2]
   constructor
   ·intro e;exact⟨h,by omega⟩
   ·intro e;omega
structure CountMap (D:DataW Unit) (xs:List ByteArray):Prop where
 tidy:Maps.Tidy D
 has: ∀s,Maps.has D (skey s)=true↔s∈xs
 size:Maps.size D=dist xs.reverse
 bound: ∀s c,D.atKey (skey s) (.lit (.int .i64 0))= .lit (.int .i64 c)→0≤c∧c≤xs.length
theorem tidy_isMap {D:DataW Unit} (h:Maps.Tidy D):Maps.IsMap D:=by obtain⟨es,h,_⟩:=h;exact⟨es,h⟩
theorem CountMap.empty:CountMap (.map []) []:=⟨Maps.tidy_empty,fun _=>by simp [Maps.has],rfl,fun s c h=>by
 have:(DataW.map []:DataW Unit).atKey (skey s) (.lit (.int .i64 0))= .lit (.int .i64 0):=rfl
 rw [this]at h
 injection h with h
 injection h with _ h
 simp;omega⟩
theorem CountMap.put {D:DataW Unit} {xs:List ByteArray} (h:CountMap D xs) {s:ByteArray} {c:Int} (hc:D.atKey (skey s) (.lit (.int .i64 0))= .lit (.int .i64 c)):CountMap (D.put (skey s) (.lit (.int .i64 (c+1)))) (xs++[s]):=by
 have hk:=skey_lit s
 have hm:=tidy_isMap h.tidy
 refine⟨h.tidy.put hk _,fun t=> ?_,?_,fun t d hd=> ?_⟩
 ·by_cases e:t=s
  ·subst e
   rw [Maps.has_put_same hm hk];simp
  ·rw [Maps.has_put_other (fun c=>e (skey_inj c)),h.has];simp [e]
 ·rw [Maps.size_put h.tidy,h.size,List.reverse_append]
  show _=(if s∈xs.reverse then dist xs.reverse else dist xs.reverse+1)
  by_cases e:s∈xs
  ·rw [if_pos ((h.has s).2 e),if_pos (by simpa using e)]
  ·rw [if_neg (fun c=>e ((h.has s).1 c)),if_neg (by simpa using e)]
 ·have hb:=h.bound s c hc
  by_cases e:t=s
  ·subst e
   rw [Maps.atKey_put_same hm hk]at hd
   injection hd with hd
   injection hd with _ hd
   simp;omega
  ·rw [Maps.atKey_put_other (fun c=>e (skey_inj c))]at hd
   have:=h.bound t d hd
   simp;omega
theorem ERule.touch {w w':World} {F S:Nat→Prop} {cs:List Value} {r:Int×List Int} (h:ERule w F cs r) (ht:Touch S w w') (hS: ∀b,F b→ ¬S b):ERule w' F cs r:=by
 obtain⟨v,e,hv⟩:=h
 exact⟨v,e,hv.touch ht hS⟩
theorem IsGram.touch {w w':World} {F S:Nat→Prop} {vt vn vr:Value} {G:GramD} (h:IsGram w F vt vn vr G) (ht:Touch S w w') (hS: ∀b,F b→ ¬S b):IsGram w' F vt vn vr G:=
 ⟨h.terms.touch ht hS,h.nons.touch ht hS,RdL.touch h.rules ht hS (fun cs x _ e=>e.touch ht hS),fun b hb=>Nat.lt_of_lt_of_le (h.lt b hb) ht.size,h.small,h.sizes,h.reach,h.wfs⟩
theorem GBox.touch {w w':World} {F S:Nat→Prop} {B:Nat} {A1 A2 A3:Option Addr} {c1 c2 c3 T N R:Nat} {st:Int} {G:GramD} (h:GBox w F B A1 c1 A2 c2 A3 c3 T N R st G) (ht:Touch S w w') (hS: ∀b,F b→ ¬S b) (hB: ¬S B):GBox w' F B A1 c1 A2 c2 A3 c3 T N R st G:=
 ⟨h.gram.touch ht hS,h.blk.touch ht hB,h.t,h.n,h.r,h.tc,h.nc,h.rc,h.c1m,h.c2m,h.c3m,h.ts,h.ns,h.rs⟩
theorem onceOf_eq {G:GramD}:(dist (G.terms++G.nons).reverse=(G.terms++G.nons).length)↔(G.terms++G.nons).Nodup:=by
 have:=dist_nodup (G.terms++G.nons).reverse
 rw [List.length_reverse]at this
 rw [this]
 exact(List.reverse_perm _).nodup_iff
set_option maxRecDepth 100000 in
set_option maxHeartbeats 2000000 in
theorem gram_once {w:World} {F:Nat→Prop} {vt vn vr:Value} {G:GramD} (h:IsGram w F vt vn vr G) (st:Int) (hbd:G.terms.length+G.nons.length≤65536):
  Calls Tryz.prog 75 #[GV vt vn vr st] w (Quiet w (.bool (decide (G.terms++G.nons).Nodup))):=by
 obtain⟨A1,c1,A2,c2,A3,c3,rfl,rfl,rfl,-⟩:=h.slices
 have g:=GBox.new h st
 have hb0:Below w.heap.size w (w.alloc (.cells #[.slice A1 G.terms.length c1,.slice A2 G.nons.length c2,.slice A3 G.rules.length c3,.int .i64 st] 25)):=(Below.refl _ w).alloc (Nat.le_refl _) _
 obtain⟨w1,hw1⟩: ∃w1,w1=w.alloc (.cells #[.slice A1 G.terms.length c1,.slice A2 G.nons.length c2,.slice A3 G.rules.length c3,.int .i64 st] 25):=⟨_,rfl⟩
 have hz1:w1.heap.size=w.heap.size+1:=by rw [hw1];simp
 rw [←hw1]at g hb0
 have hlen:(G.terms++G.nons).length=G.terms.length+G.nons.length:=List.length_append
 have htop:topOf G=G.terms.length+G.nons.length:=rfl
 have hon:= @onceOf_eq G
 have hFw:=h.lt
 have hsz: ∀s∈G.terms++G.nons,s.size≤maxLen:=fun s hs=>by
  rcases List.mem_append.1 hs with e|e
  ·exact h.sizes.1 s e
  ·exact h.sizes.2 s e
 generalize hT:G.terms.length=T at *
 generalize hN:G.nons.length=N at *
 generalize hR:G.rules.length=R at *
 -- the map,and the two lists
 obtain⟨w2,hw2⟩: ∃w2,w2=w1.alloc (.map #[] 0):=⟨_,rfl⟩
 have hm2:w2.ownsMap Tryz.prog 9 (plainElem (H:=Unit) Tryz.prog 3) (w.heap.size+1) 0 (.map []):=by
  rw [hw2,←hz1];exact World.ownsMap_made w1 Tryz.prog 9 (plainElem (H:=Unit) Tryz.prog 3)
 have hb2:Below w1.heap.size w1 w2:=by rw [hw2];exact(Below.refl _ w1).alloc (Nat.le_refl _) _
 have hz2:w2.heap.size=w.heap.size+2:=by rw [hw2];simp;omega
 obtain⟨w3,hw3⟩: ∃w3,w3=w2.alloc (.cells #[.slice A1 T c1,.slice A2 N c2] 22):=⟨_,rfl⟩
 have hb3:Below w2.heap.size w2 w3:=by rw [hw3];exact(Below.refl _ w2).alloc (Nat.le_refl _) _
 have g3:=(g.below hb2).below hb3
 have k3:Blk w3 w2.heap.size 22 #[.slice A1 T c1,.slice A2 N c2]:=by rw [hw3];exact Blk.new w2 _ _
 have m3:w3.ownsMap Tryz.prog 9 (plainElem (H:=Unit) Tryz.prog 3) (w.heap.size+1) 0 (.map []):=(Touch.of_size hb3 (fun _=>False)).ownsMap hm2 (fun e=>e)
 have hcc:=concat_two g3.gram.terms g3.gram.nons g3.gram.lt k3 (by omega)
 rw [hz2,hT,hN]at hcc
 obtain⟨q0,q1,q2,q3⟩:=g.cells
 have hbel3:Below w.heap.size w w3:=hb0.trans ((hb2.trans (hb3.mono hb2.size)).mono hb0.size)
 have hz3:w3.heap.size=w.heap.size+3:=by rw [hw3];simp;omega
 have Xhcc:=hide hcc;have Xg3:=hide g3;have Xm3:=hide m3;have Xhbel3:=hide hbel3;have Xhlen:=hide hlen;have Xhtop:=hide htop;have Xhon:=hide hon;have Xhsz:=hide hsz;have XhT:=hide hT;have XhN:=hide hN;have XhR:=hide hR;have XhFw:=hide hFw;clear hcc g3 m3 hbel3 hlen htop hon hsz hT hN hR hFw;clear k3 hb3 hb2 hm2 g hb0
 rw [hw3,hw2,hw1]at Xhcc
 rw [hw1]at q0 q1 q2 q3
 have hmm:= @run_makeMap Tryz.prog
 go_enter Tryz.func75,Tryz.ntmps75
 go_wp2_with fail
 refine Xhcc.out.mono ?_
 rintro e w4 ⟨A,c,rfl,hown,hb4⟩
 rw [←hw1,←hw2,←hw3]at hown hb4
 have hz4:w3.heap.size≤w4.heap.size:=hb4.size
 have hbk:=hown.lt
 have m4:=(Touch.of_size hb4 (fun _=>False)).ownsMap Xm3.out (fun e=>e)
 have g4:=Xg3.out.below hb4
 have hrd:RdS w4 (fun k=>w.heap.size+2<k) (.slice A (T+N) c) (G.terms++G.nons):=(Rd.of_own hown).mono (fun k hk=>by have:=(hbk k hk).1;omega)
 have hb4':=Xhbel3.out.trans (hb4.mono Xhbel3.out.size)
 have hn1:=hrd.at_.2.1
 have hn2:=hrd.at_.2.2.1
 unfold maxLen at hn2
 clear hown hb4 hbk hw1 hw2 hw3 hmm q0 q1 q2 q3 Xhcc
 have Xhz3:=hide hz3;have Xhz1:=hide hz1;have Xhz2:=hide hz2;clear hz3 hz1 hz2
 go_wp2_with fail
 go_loopw [14] (fun i wr=> ∃k:Nat,k≤T+N∧i= .int .i64 k∧(∃D,wr.ownsMap Tryz.prog 9 (plainElem (H:=Unit) Tryz.prog 3) (w.heap.size+1) k D∧CountMap D ((G.terms++G.nons).take k))∧GBox wr F w.heap.size A1 c1 A2 c2 A3 c3 T N R st G∧RdS wr (fun k=>w.heap.size+2<k) (.slice A (T+N) c) (G.terms++G.nons)∧Below w.heap.size w wr) (fun i _=>T+N - (intOf i).toNat)
 case atStart=>exact⟨0,Nat.zero_le _,rfl,⟨_,m4,by rw [List.take_zero];exact CountMap.empty⟩,g4,hrd,hb4'⟩
 case round=>
  clear m4 g4 hrd hb4'
  obtain⟨k,hk,rfl,⟨D,hown,hD⟩,g,hrd,hb⟩:=hrel
  by_cases hlt:k<T+N
  ·obtain⟨-,-,-,hcell⟩:=hrd.at_
   obtain⟨b,off,rfl,hbF,hc⟩:=hcell (by omega)
   obtain⟨s,hs⟩: ∃s,(G.terms++G.nons)[k]? =some s:=⟨_,List.getElem?_eq_getElem (by rw [Xhlen.out];exact hlt)⟩
   have hcs:=hc k s hs
   have hsz:=Xhsz.out s (List.mem_of_getElem? hs)
   have hkey:keyOf Tryz.prog 9 (.string s)=some (skey s):=Go.WideMaps.keyOf_string_mk Tryz.underlying9 hsz
   have hlt':(k:Int)<((T+N:Nat):Int):=by omega
   have htk:(G.terms++G.nons).take (k+1)=(G.terms++G.nons).take k++[s]:=by rw [List.take_add_one,hs];rfl
   have hlk:((G.terms++G.nons).take k).length≤k:=List.length_take_le _ _
   have Xhs:=hide hs;have XhD:=hide hD;have Xg:=hide g;have Xhrd:=hide hrd;have Xhb:=hide hb;have Xhtk:=hide htk;clear hs hD g hrd hb htk;clear hc hcell hsz
   have hbd2:=XhD.out.bound s
   have Xhbd2:=hide hbd2;clear hbd2
   go_wp2_with (first|(at_lookup;refine wpList_lookup_own_int _ rfl _ _ 97 rfl 9 3 .i64 Tryz.keyStr Tryz.underlying97 Tryz.underlying3 (Tryz.zeroInt _) _ _ D rfl hown _ _ rfl hkey ?_;intro c' hat hwc;obtain⟨u1,u2⟩:=Xhbd2.out c' hat;have Xhat:=hide hat;clear hat)|(at_mapUpdate;refine wpList_mapUpdate_own _ rfl _ _ _ 97 rfl 9 3 Tryz.keyStr Tryz.underlying97 _ (w.heap.size+1) k D rfl hown (by unfold maxLen;omega) _ _ _ rfl rfl hkey _ [] (plainElem_int Tryz.underlying3 (WalkArith.wf_i64 (by omega))) ?_;intro w5 hown5 hg5))
   have hne1: ∀q,w.heap.size+2<q→ ¬(fun k=>k=w.heap.size+1) q:=fun q hq e=>by have:q=w.heap.size+1:=e;omega
   have t5:Touch (fun k=>k=w.heap.size+1) wr w5:=(Touch.refl _ wr).grown hg5 (fun q e _=>by injection e with e;exact e.symm)
   have g5:GBox w5 F w.heap.size A1 c1 A2 c2 A3 c3 T N R st G:=Xg.out.touch t5 (fun b hb e=>by have:=XhFw.out b hb;have:b=w.heap.size+1:=e;omega) (fun e=>by have:w.heap.size=w.heap.size+1:=e;omega)
   have hb5:Below w.heap.size w w5:=Xhb.out.grown hg5 Xhb.out.size (fun q e=>by injection e with e;omega)
   have hrd5:=Xhrd.out.touch t5 hne1
   have hD5:=XhD.out.put Xhat.out
   rw [←Xhtk.out]at hD5
   have Xt5:=hide t5;have Xg5:=hide g5;have Xhrd5:=hide hrd5;have XhD5:=hide hD5;have Xhown5:=hide hown5;have Xhb5:=hide hb5;clear t5 g5 hrd5 hD5 hown5 hb5;clear hg5 hne1
   go_wp2_with fail
   go_roundw
   case rel=>exact⟨k+1,by omega,by go_num,⟨_,Xhown5.out,XhD5.out⟩,Xg5.out,Xhrd5.out,Xhb5.out⟩
   case measure=>simp [intOf];omega
  ·have hkn:k=T+N:=by omega
   subst hkn
   obtain⟨q0,q1,q2,q3⟩:=g.cells
   have hsd:=hD.size
   rw [List.take_of_length_le (by rw [Xhlen.out];omega)]at hsd
   have htp:=gram_top g.gram st
   have hon:=Xhon.out
   rw [←hsd,Xhlen.out]at hon
   rw [Xhtop.out]at htp
   by_cases hnd:(G.terms++G.nons).Nodup
   ·have he:((Maps.size D:Int)==(T:Int)+(N:Int))=true:=by rw [beq_iff_eq];have:=hon.2 hnd;omega
    have XhD:=hide hD;have Xg:=hide g;have Xhrd:=hide hrd;have Xhb:=hide hb;have Xhon:=hide hon;have Xhsd:=hide hsd;have Xhnd:=hide hnd;have Xhtp:=hide htp;clear hD g hrd hb hon hsd hnd htp
    go_wp2_with (at_len;refine wpList_len_own _ rfl _ 97 rfl 9 3 Tryz.underlying97 _ (w.heap.size+1) (T+N) D rfl hown ?_)
    refine Xhtp.out.mono ?_
    rintro e w6 ⟨rfl,b6⟩
    go_wp2_with fail
    go_ret
    exact⟨ret_bool (decide_eq_true Xhnd.out).symm,Xhb.out.trans (b6.mono Xhb.out.size)⟩
   ·have he:((Maps.size D:Int)==(T:Int)+(N:Int))=false:=by rw [beq_eq_false_iff_ne];intro e;exact hnd (hon.1 (by omega))
    have XhD:=hide hD;have Xg:=hide g;have Xhrd:=hide hrd;have Xhb:=hide hb;have Xhon:=hide hon;have Xhsd:=hide hsd;have Xhnd:=hide hnd;have Xhtp:=hide htp;clear hD g hrd hb hon hsd hnd htp
    go_wp2_with (at_len;refine wpList_len_own _ rfl _ 97 rfl 9 3 Tryz.underlying97 _ (w.heap.size+1) (T+N) D rfl hown ?_)
    refine Xhtp.out.mono ?_
    rintro e w6 ⟨rfl,b6⟩
    go_wp2_with fail
    go_ret
    exact⟨ret_bool (decide_eq_false Xhnd.out).symm,Xhb.out.trans (b6.mono Xhb.out.size)⟩
end
end
section
section
open Go.RowKit
def namesOf (G:GramD):List ByteArray:=G.terms++G.nons
def haveUpto (G:GramD) (k:Nat):Bool:=(List.range k).all (fun i=>decide ((ofOf G ((G.terms.length:Int)+1+i)).length≠0))
def checkOf (G:GramD) (st:Int):Int:=if manyOf G=true then 7 else if formOf G=false then 10 else if¬(namesOf G).Nodup then 8 else if allKnown G st=false then 1 else if unlikeOf G.rules=false then 8 else if haveUpto G G.nons.length=false then 9 else 0
theorem haveUpto_succ (G:GramD) (k:Nat):haveUpto G (k+1)=(haveUpto G k&&decide ((ofOf G ((G.terms.length:Int)+1+k)).length≠0)):=by unfold haveUpto;rw [List.range_succ,List.all_append];simp
theorem haveUpto_no {G:GramD} {k n:Nat} (hk:k<n) (h:(ofOf G ((G.terms.length:Int)+1+k)).length=0):haveUpto G n=false:=by
 unfold haveUpto
 rw [List.all_eq_false]
 exact⟨k,List.mem_range.2 hk,by simp [h]⟩
theorem manyOf_no {G:GramD} (h:manyOf G=false):G.terms.length≤120∧G.nons.length≤120∧G.rules.length≤300∧shortOf G=true:=by
 unfold manyOf at h
 rw [Bool.or_eq_false_iff,Bool.or_eq_false_iff,Bool.or_eq_false_iff,decide_eq_false_iff_not,decide_eq_false_iff_not,decide_eq_false_iff_not]at h
 refine⟨by omega,by omega,by omega,by simpa using h.1⟩
set_option maxRecDepth 100000 in
set_option maxHeartbeats 2000000 in
theorem ref_check {w:World} {F:Nat→Prop} {vt vn vr:Value} {G:GramD} (h:IsGram w F vt vn vr G) (st:Int):
  Calls Tryz.prog 11 #[GV vt vn vr st] w (Quiet w (.int .i64 (checkOf G st))):=by
 obtain⟨A1,c1,A2,c2,A3,c3,rfl,rfl,rfl,-⟩:=h.slices
 have g:=GBox.new h st
 have hb0:Below w.heap.size w (w.alloc (.cells #[.slice A1 G.terms.length c1,.slice A2 G.nons.length c2,.slice A3 G.rules.length c3,.int .i64 st] 25)):=(Below.refl _ w).alloc (Nat.le_refl _) _
 obtain⟨w1,hw1⟩: ∃w1,w1=w.alloc (.cells #[.slice A1 G.terms.length c1,.slice A2 G.nons.length c2,.slice A3 G.rules.length c3,.int .i64 st] 25):=⟨_,rfl⟩
 rw [←hw1]at g hb0
 have hck:checkOf G st=if manyOf G=true then 7 else if formOf G=false then 10 else if¬(namesOf G).Nodup then 8 else if allKnown G st=false then 1 else if unlikeOf G.rules=false then 8 else if haveUpto G G.nons.length=false then 9 else 0:=rfl
 have hmn:= @manyOf_no G
 have hhs:=haveUpto_succ G
 have hhn: ∀(k n:Nat),k<n→(ofOf G ((G.terms.length:Int)+1+k)).length=0→haveUpto G n=false:=fun k n=>haveUpto_no
 have htop:topOf G=G.terms.length+G.nons.length:=rfl
 generalize hT:G.terms.length=T at *
 generalize hN:G.nons.length=N at *
 generalize hR:G.rules.length=R at *
 have t0:=g.ts
 have n0:=g.ns
 have n1:=g.nc
 have n2:=g.c2m
 have cM: ∀(wr:World),GBox wr F w.heap.size A1 c1 A2 c2 A3 c3 T N R st G→Calls Tryz.prog 29 #[GV (.slice A1 T c1) (.slice A2 N c2) (.slice A3 R c3) st] wr (Quiet wr (.bool (manyOf G))):=fun wr g=>ref_many g.gram st
 have cF: ∀(wr:World),GBox wr F w.heap.size A1 c1 A2 c2 A3 c3 T N R st G→Calls Tryz.prog 30 #[GV (.slice A1 T c1) (.slice A2 N c2) (.slice A3 R c3) st] wr (Quiet wr (.bool (formOf G))):=fun wr g=>ref_form g.gram st
 have cN: ∀(wr:World),T+N≤65536→GBox wr F w.heap.size A1 c1 A2 c2 A3 c3 T N R st G→Calls Tryz.prog 32 #[GV (.slice A1 T c1) (.slice A2 N c2) (.slice A3 R c3) st] wr (OwnPost wr 9 ((namesOf G).map Value.string) (T+N)):=fun wr hb g=>by
  have:=ref_names g.gram st (by rw [hT,hN];exact hb)
  rw [htop]at this;exact this
 have cK: ∀(wr:World),GBox wr F w.heap.size A1 c1 A2 c2 A3 c3 T N R st G→Calls Tryz.prog 33 #[GV (.slice A1 T c1) (.slice A2 N c2) (.slice A3 R c3) st] wr (Quiet wr (.bool (allKnown G st))):=fun wr g=>ref_known g.gram st
 have cU: ∀(wr:World),GBox wr F w.heap.size A1 c1 A2 c2 A3 c3 T N R st G→Calls Tryz.prog 34 #[GV (.slice A1 T c1) (.slice A2 N c2) (.slice A3 R c3) st] wr (Quiet wr (.bool (unlikeOf G.rules))):=fun wr g=>ref_unlike g.gram st
 have cO: ∀(wr:World) (s:Int),GBox wr F w.heap.size A1 c1 A2 c2 A3 c3 T N R st G→Calls Tryz.prog 35 #[GV (.slice A1 T c1) (.slice A2 N c2) (.slice A3 R c3) st,.int .i64 s] wr (OwnPost wr 3 ((ofOf G s).map I64) (ofOf G s).length):=fun wr s g=>ref_of g.gram st s
 obtain⟨q0,q1,q2,q3⟩:=g.cells
 have hcm:=cM w1 g
 rw [hw1]at hcm q0 q1 q2 q3
 have XhR:=hide hR;have XhT:=hide hT;have XhN:=hide hN;have Xhck:=hide hck;have Xhmn:=hide hmn;have Xhhs:=hide hhs;have Xhhn:=hide hhn;have Xhtop:=hide htop;have XcM:=hide cM;have XcF:=hide cF;have XcN:=hide cN;have XcK:=hide cK;have XcU:=hide cU;have XcO:=hide cO;have Xhcm:=hide hcm;clear hR hT hN hck hmn hhs hhn htop cM cF cN cK cU cO hcm
 go_enter Tryz.func11,Tryz.ntmps11
 go_wp2_with fail
 refine Xhcm.out.mono ?_
 rintro e w2 ⟨rfl,b2⟩
 rw [←hw1]at b2
 clear hw1 Xhcm q0 q1 q2 q3
 have g2:=g.below b2
 have hb2:=hb0.trans (b2.mono hb0.size)
 clear g hb0 b2
 obtain⟨q0,q1,q2,q3⟩:=g2.cells
 have hck:=Xhck.out
 have hmn:=Xhmn.out
 clear Xhck
 generalize manyOf G=q at *
 cases q with
 |true=>
  have Xhck:=hide hck;have Xhmn:=hide hmn;clear hck hmn
  go_wp2_with fail
  go_ret
  exact⟨ret_int (by rw [Xhck.out];rfl),hb2⟩
 |false=>
  obtain⟨hm1,hm2,hm3,-⟩:=hmn rfl
  have Xhck:=hide hck;have Xhmn:=hide hmn;clear hck hmn
  go_wp2_with fail
  refine(XcF.out _ g2).mono ?_
  rintro e w3 ⟨rfl,b3⟩
  have g3:=g2.below b3
  have hb3:=hb2.trans (b3.mono hb2.size)
  clear g2 hb2 b3 q0 q1 q2 q3
  obtain⟨q0,q1,q2,q3⟩:=g3.cells
  have hck:=Xhck.out
  clear Xhck
  generalize formOf G=q at *
  cases q with
  |false=>
   have Xhck:=hide hck;clear hck
   go_wp2_with fail
   go_ret
   exact⟨ret_int (by rw [Xhck.out];rfl),hb3⟩
  |true=>
   have Xhck:=hide hck;clear hck
   go_wp2_with fail
   refine(XcN.out _ (by omega) g3).mono ?_
   rintro e w4 ⟨An,cn,rfl,hown,b4⟩
   have hrd:=ref_once (xs:=namesOf G) (Rd.of_own hown)
   have g4:=g3.below b4
   have hb4:=hb3.trans (b4.mono hb3.size)
   clear g3 hb3 b4 hown q0 q1 q2 q3
   have Xhrd:=hide hrd;clear hrd
   go_wp2_with fail
   refine Xhrd.out.mono ?_
   rintro e w5 ⟨rfl,b5⟩
   have g5:=g4.below b5
   have hb5:=hb4.trans (b5.mono hb4.size)
   clear g4 hb4 b5 Xhrd
   obtain⟨q0,q1,q2,q3⟩:=g5.cells
   by_cases hnd:(namesOf G).Nodup
   ·rw [decide_eq_true hnd]
    have Xhnd:=hide hnd;clear hnd
    go_wp2_with fail
    refine(XcK.out _ g5).mono ?_
    rintro e w6 ⟨rfl,b6⟩
    have g6:=g5.below b6
    have hb6:=hb5.trans (b6.mono hb5.size)
    clear g5 hb5 b6 q0 q1 q2 q3
    obtain⟨q0,q1,q2,q3⟩:=g6.cells
    have hck:=Xhck.out
    clear Xhck
    generalize allKnown G st=q at *
    cases q with
    |false=>
     have Xhck:=hide hck;clear hck
     go_wp2_with fail
     go_ret
     exact⟨ret_int (by rw [Xhck.out,if_neg (by decide),if_neg (by decide),if_neg (fun e=>e Xhnd.out)];rfl),hb6⟩
    |true=>
     have Xhck:=hide hck;clear hck
     go_wp2_with fail
     refine(XcU.out _ g6).mono ?_
     rintro e w7 ⟨rfl,b7⟩
     have g7:=g6.below b7
     have hb7:=hb6.trans (b7.mono hb6.size)
     clear g6 hb6 b7 q0 q1 q2 q3
     obtain⟨q0,q1,q2,q3⟩:=g7.cells
     have hck:=Xhck.out
     clear Xhck
     generalize unlikeOf G.rules=q at *
     cases q with
     |false=>
      have Xhck:=hide hck;clear hck
      go_wp2_with fail
      go_ret
      exact⟨ret_int (by rw [Xhck.out,if_neg (by decide),if_neg (by decide),if_neg (fun e=>e Xhnd.out)];rfl),hb7⟩
     |true=>
      have Xhck:=hide hck;clear hck
      go_wp2_with fail
      clear q0 q1 q2 q3
      go_loopw [3] (fun i wr=> ∃k:Nat,k≤N∧i= .int .i64 k∧haveUpto G k=true∧GBox wr F w.heap.size A1 c1 A2 c2 A3 c3 T N R st G∧Below w.heap.size w wr) (fun i _=>N - (intOf i).toNat)
      case atStart=>exact⟨0,Nat.zero_le _,rfl,rfl,g7,hb7⟩
      case round=>
       clear g7 hb7
       obtain⟨k,hk,rfl,hu,g,hb⟩:=hrel
       obtain⟨q0,q1,q2,q3⟩:=g.cells
       by_cases hlt:k<N
       ·have hlt':(k:Int)<(N:Int):=by omega
        have hof:=XcO.out wr ((T:Int)+1+(k:Int)) g
        have hsk:=Xhhs.out k
        have hsn:=Xhhn.out k N hlt
        generalize ofOf G ((T:Int)+1+(k:Int))=l at *
        rw [hu,Bool.true_and]at hsk
        by_cases hl:l.length=0
        ·have hfin:=hsn hl
         have hl':((l.length:Int)==0)=true:=by rw [beq_iff_eq];omega
         have Xhof:=hide hof;have Xhsk:=hide hsk;have Xhsn:=hide hsn;have Xhl:=hide hl;have Xhfin:=hide hfin;have Xhu:=hide hu;clear hof hsk hsn hl hfin hu
         go_wp2_with fail
         refine Xhof.out.mono ?_
         rintro e w8 ⟨Ao,co,rfl,hown,b8⟩
         have Xhown:=hide hown;clear hown
         go_wp2_with fail
         go_ret
         exact⟨ret_int (by rw [Xhck.out,if_neg (by decide),if_neg (by decide),if_neg (fun e=>e Xhnd.out),Xhfin.out];rfl),hb.trans (b8.mono hb.size)⟩
        ·have hl':((l.length:Int)==0)=false:=by rw [beq_eq_false_iff_ne];omega
         rw [decide_eq_true (show l.length≠0 from hl)]at hsk
         have Xhof:=hide hof;have Xhsk:=hide hsk;have Xhsn:=hide hsn;have Xhl:=hide hl;have Xhu:=hide hu;clear hof hsk hsn hl hu
         go_wp2_with fail
         refine Xhof.out.mono ?_
         rintro e w8 ⟨Ao,co,rfl,hown,b8⟩
         have Xhown:=hide hown;clear hown
         go_wp2_with fail
         go_roundw
         case rel=>exact⟨k+1,by omega,by go_num,Xhsk.out,g.below b8,hb.trans (b8.mono hb.size)⟩
         case measure=>simp [intOf];omega
       ·have hkn:k=N:=by omega
        have Xhu:=hide hu;clear hu
        go_wp2_with fail
        go_ret
        exact⟨ret_int (by rw [Xhck.out,if_neg (by decide),if_neg (by decide),if_neg (fun e=>e Xhnd.out),←hkn,Xhu.out];rfl),hb⟩
   ·rw [decide_eq_false hnd]
    have Xhnd:=hide hnd;clear hnd
    go_wp2_with fail
    go_ret
    exact⟨ret_int (by rw [Xhck.out,if_neg (by decide),if_neg (by decide),if_pos Xhnd.out]),hb5⟩
end
section
open Go.RowKit
set_option maxRecDepth 100000 in
set_option maxHeartbeats 4000000 in
theorem gram_check {w:World} {F:Nat→Prop} {vt vn vr:Value} {G:GramD} (h:IsGram w F vt vn vr G) (st:Int):
  Calls Tryz.prog 40 #[GV vt vn vr st] w (Quiet w (.int .i64 (checkOf G st))):=by
 obtain⟨A1,c1,A2,c2,A3,c3,rfl,rfl,rfl,-⟩:=h.slices
 have g:=GBox.new h st
 have hb0:Below w.heap.size w (w.alloc (.cells #[.slice A1 G.terms.length c1,.slice A2 G.nons.length c2,.slice A3 G.rules.length c3,.int .i64 st] 25)):=(Below.refl _ w).alloc (Nat.le_refl _) _
 obtain⟨w1,hw1⟩: ∃w1,w1=w.alloc (.cells #[.slice A1 G.terms.length c1,.slice A2 G.nons.length c2,.slice A3 G.rules.length c3,.int .i64 st] 25):=⟨_,rfl⟩
 rw [←hw1]at g hb0
 have hck:checkOf G st=if manyOf G=true then 7 else if formOf G=false then 10 else if¬(namesOf G).Nodup then 8 else if allKnown G st=false then 1 else if unlikeOf G.rules=false then 8 else if haveUpto G G.nons.length=false then 9 else 0:=rfl
 have hmn:manyOf G=(!shortOf G||(decide (120<G.terms.length)||(decide (120<G.nons.length)||decide (300<G.rules.length)))):=rfl
 have hfo:formOf G=(G.terms.all (fun s=>plainB s||quotedB s)&&G.nons.all plainB):=rfl
 have hko:allKnown G st=(isNon G st&&G.rules.all (fun r=>knownOf G r)):=rfl
 have hhs:=haveUpto_succ G
 have hhn: ∀(k n:Nat),k<n→(ofOf G ((G.terms.length:Int)+1+k)).length=0→haveUpto G n=false:=fun k n=>haveUpto_no
 have htop:topOf G=G.terms.length+G.nons.length:=rfl
 generalize hT:G.terms.length=T at *
 generalize hN:G.nons.length=N at *
 generalize hR:G.rules.length=R at *
 have t0:=g.ts
 have t1:=g.tc
 have t2:=g.c1m
 have n0:=g.ns
 have n1:=g.nc
 have n2:=g.c2m
 have r0:=g.rs
 have r1:=g.rc
 have r2:=g.c3m
 have cS: ∀(wr:World),GBox wr F w.heap.size A1 c1 A2 c2 A3 c3 T N R st G→Calls Tryz.prog 70 #[.slice A3 R c3,.func (.func 69) #[] #[]] wr (Quiet wr (.bool (shortOf G))):=fun wr g=>all_rules g.gram.rules g.gram.lt Tryz.enters_short short_clo
 have cF1: ∀(wr:World),GBox wr F w.heap.size A1 c1 A2 c2 A3 c3 T N R st G→Calls Tryz.prog 71 #[.slice A1 T c1,.func (.func 72) #[] #[]] wr (Quiet wr (.bool (G.terms.all (fun s=>plainB s||quotedB s)))):=fun wr g=>all_strs g.gram.terms g.gram.lt Tryz.enters_form form_clo g.gram.sizes.1
 have cF2: ∀(wr:World),GBox wr F w.heap.size A1 c1 A2 c2 A3 c3 T N R st G→Calls Tryz.prog 71 #[.slice A2 N c2,.func (.func 73) #[] #[]] wr (Quiet wr (.bool (G.nons.all plainB))):=fun wr g=>all_strs g.gram.nons g.gram.lt Tryz.enters_plain plain_clo g.gram.sizes.2
 have cO1: ∀(wr:World),T+N≤65536→GBox wr F w.heap.size A1 c1 A2 c2 A3 c3 T N R st G→Calls Tryz.prog 75 #[GV (.slice A1 T c1) (.slice A2 N c2) (.slice A3 R c3) st] wr (Quiet wr (.bool (decide (namesOf G).Nodup))):=fun wr hb g=>gram_once g.gram st (by rw [hT,hN];exact hb)
 have cN: ∀(wr:World),GBox wr F w.heap.size A1 c1 A2 c2 A3 c3 T N R st G→Calls Tryz.prog 76 #[GV (.slice A1 T c1) (.slice A2 N c2) (.slice A3 R c3) st,.int .i64 st] wr (Quiet wr (.bool (isNon G st))):=fun wr g=>gram_non g.gram st st
 have cK: ∀(wr:World),GBox wr F w.heap.size A1 c1 A2 c2 A3 c3 T N R st G→Calls Tryz.prog 70 #[.slice A3 R c3,.func (.func 77) #[] #[.pointer (some ⟨w.heap.size,0,none⟩)]] wr (Quiet wr (.bool (G.rules.all (fun r=>knownOf G r)))):=fun wr g=>all_rules g.gram.rules g.gram.lt Tryz.enters_known3 (known3_clo g.gram g.blk g.gram.lt)
 have cU: ∀(wr:World),GBox wr F w.heap.size A1 c1 A2 c2 A3 c3 T N R st G→Calls Tryz.prog 79 #[.slice A3 R c3,.func (.func 80) #[] #[]] wr (Quiet wr (.bool (unlikeOf G.rules))):=fun wr g=>gram_unlike g.gram.rules g.gram.lt
 have cT: ∀(wr:World),GBox wr F w.heap.size A1 c1 A2 c2 A3 c3 T N R st G→Calls Tryz.prog 45 #[GV (.slice A1 T c1) (.slice A2 N c2) (.slice A3 R c3) st] wr (Quiet wr (.int .i64 ((T+N:Nat):Int))):=fun wr g=>by
  have:=gram_top g.gram st
  rw [htop]at this;exact this
 have cO: ∀(wr:World) (s:Int),GBox wr F w.heap.size A1 c1 A2 c2 A3 c3 T N R st G→Calls Tryz.prog 81 #[GV (.slice A1 T c1) (.slice A2 N c2) (.slice A3 R c3) st,.int .i64 s] wr (OwnPost wr 3 ((ofOf G s).map I64) (ofOf G s).length):=fun wr s g=>gram_of g.gram st s
 have hmf: ∀(fn:Fn) (first cap:Array Value) (w:World),(Instr.makeFunc fn first cap).run Tryz.prog w= .ok (.func fn first cap) w:=fun _ _ _ _=>rfl
 obtain⟨q0,q1,q2,q3⟩:=g.cells
 have hcs:=cS w1 g
 have ei: ∀(q1 q2:Bool),(q1&&q2)=false→q1=false∨q2=false:=fun q1 q2 h=>by cases q1<;>simp_all
 clear h
 by_cases hbig:120<T∨120<N∨300<R
 ·have hmany:manyOf G=true:=by
   rw [hmn]
   rcases hbig with e|e|e
   ·rw [decide_eq_true e];simp
   ·rw [decide_eq_true e];simp
   ·rw [decide_eq_true e];simp
  rw [hmany]at hck
  have hfin:checkOf G st=7:=by rw [hck,if_pos rfl]
  rw [hw1]at q0 q1 q2 q3 hb0
  have XhR:=hide hR;have XhT:=hide hT;have XhN:=hide hN;have Xhck:=hide hck;have Xhmn:=hide hmn;have Xhfo:=hide hfo;have Xhko:=hide hko;have Xhhs:=hide hhs;have Xhhn:=hide hhn;have Xhtop:=hide htop;have XcS:=hide cS;have XcF1:=hide cF1;have XcF2:=hide cF2;have XcO1:=hide cO1;have XcN:=hide cN;have XcK:=hide cK;have XcU:=hide cU;have XcT:=hide cT;have XcO:=hide cO;have Xhcs:=hide hcs;have Xhmany:=hide hmany;have Xhfin:=hide hfin;have Xg:=hide g;clear hR hT hN hck hmn hfo hko hhs hhn htop cS cF1 cF2 cO1 cN cK cU cT cO hcs hmany hfin g;clear hw1 ei
  by_cases e1:120<T
  ·have e1':(120:Int)<(T:Int):=by omega
   clear hbig
   go_enter Tryz.func40,Tryz.ntmps40
   go_wp2_with fail
   go_ret
   exact⟨ret_int Xhfin.out.symm,hb0⟩
  ·have e1': ¬(120:Int)<(T:Int):=by omega
   by_cases e2:120<N
   ·have e2':(120:Int)<(N:Int):=by omega
    clear hbig
    go_enter Tryz.func40,Tryz.ntmps40
    go_wp2_with fail
    go_ret
    exact⟨ret_int Xhfin.out.symm,hb0⟩
   ·have e2': ¬(120:Int)<(N:Int):=by omega
    have e3:300<R:=by omega
    have e3':(300:Int)<(R:Int):=by omega
    clear hbig
    go_enter Tryz.func40,Tryz.ntmps40
    go_wp2_with fail
    go_ret
    exact⟨ret_int Xhfin.out.symm,hb0⟩
 ·have hT':T≤120:=by omega
  have hN':N≤120:=by omega
  have hR':R≤300:=by omega
  have e1': ¬(120:Int)<(T:Int):=by omega
  have e2': ¬(120:Int)<(N:Int):=by omega
  have e3': ¬(300:Int)<(R:Int):=by omega
  rw [decide_eq_false (show¬120<T by omega),decide_eq_false (show¬120<N by omega),decide_eq_false (show¬300<R by omega)]at hmn
  rw [hw1]at hcs q0 q1 q2 q3
  generalize shortOf G=qs at *
  cases qs with
  |false=>
   have hfin:checkOf G st=7:=by rw [hck,hmn];rfl
   have XhR:=hide hR;have XhT:=hide hT;have XhN:=hide hN;have Xhck:=hide hck;have Xhmn:=hide hmn;have Xhfo:=hide hfo;have Xhko:=hide hko;have Xhhs:=hide hhs;have Xhhn:=hide hhn;have Xhtop:=hide htop;have XcS:=hide cS;have XcF1:=hide cF1;have XcF2:=hide cF2;have XcO1:=hide cO1;have XcN:=hide cN;have XcK:=hide cK;have XcU:=hide cU;have XcT:=hide cT;have XcO:=hide cO;have Xhcs:=hide hcs;have Xhfin:=hide hfin;have Xg:=hide g;clear hR hT hN hck hmn hfo hko hhs hhn htop cS cF1 cF2 cO1 cN cK cU cT cO hcs hfin g;clear ei hbig
   go_enter Tryz.func40,Tryz.ntmps40
   go_wp2_with fail
   refine Xhcs.out.mono ?_
   rintro e w2 ⟨rfl,b2⟩
   rw [←hw1]at b2
   clear hw1 q0 q1 q2 q3
   go_wp2_with fail
   go_ret
   exact⟨ret_int Xhfin.out.symm,hb0.trans (b2.mono hb0.size)⟩
  |true=>
   have hmany:manyOf G=false:=by rw [hmn];rfl
   rw [hmany,if_neg (by decide)]at hck
   have XhR:=hide hR;have XhT:=hide hT;have XhN:=hide hN;have Xhck:=hide hck;have Xhmn:=hide hmn;have Xhfo:=hide hfo;have Xhko:=hide hko;have Xhhs:=hide hhs;have Xhhn:=hide hhn;have Xhtop:=hide htop;have XcS:=hide cS;have XcF1:=hide cF1;have XcF2:=hide cF2;have XcO1:=hide cO1;have XcN:=hide cN;have XcK:=hide cK;have XcU:=hide cU;have XcT:=hide cT;have XcO:=hide cO;have Xhcs:=hide hcs;have Xhmany:=hide hmany;clear hR hT hN hck hmn hfo hko hhs hhn htop cS cF1 cF2 cO1 cN cK cU cT cO hcs hmany;clear ei hbig
   go_enter Tryz.func40,Tryz.ntmps40
   go_wp2_with fail
   refine Xhcs.out.mono ?_
   rintro e w2 ⟨rfl,b2⟩
   rw [←hw1]at b2
   clear hw1 q0 q1 q2 q3
   have g2:=g.below b2
   have hb2:=hb0.trans (b2.mono hb0.size)
   clear g hb0 b2
   obtain⟨q0,q1,q2,q3⟩:=g2.cells
   go_wp2_with fail
   refine(XcF1.out _ g2).mono ?_
   rintro e w3 ⟨rfl,b3⟩
   have g3:=g2.below b3
   have hb3:=hb2.trans (b3.mono hb2.size)
   clear g2 hb2 b3 q0 q1 q2 q3
   obtain⟨q0,q1,q2,q3⟩:=g3.cells
   have hfo:=Xhfo.out
   clear XcF1 Xhfo
   generalize G.terms.all (fun s=>plainB s||quotedB s)=qa at *
   cases qa with
   |false=>
    have Xhfo:=hide hfo;clear hfo
    go_wp2_with fail
    go_ret
    exact⟨ret_int (by rw [Xhck.out,Xhfo.out];rfl),hb3⟩
   |true=>
    rw [Bool.true_and]at hfo
    have Xhfo:=hide hfo;clear hfo
    go_wp2_with fail
    refine(XcF2.out _ g3).mono ?_
    rintro e w4 ⟨rfl,b4⟩
    have g4:=g3.below b4
    have hb4:=hb3.trans (b4.mono hb3.size)
    clear g3 hb3 b4 q0 q1 q2 q3
    obtain⟨q0,q1,q2,q3⟩:=g4.cells
    have hfo:=Xhfo.out
    clear XcF2 Xhfo
    generalize G.nons.all plainB=qa at *
    cases qa with
    |false=>
     have Xhfo:=hide hfo;clear hfo
     go_wp2_with fail
     go_ret
     exact⟨ret_int (by rw [Xhck.out,Xhfo.out];rfl),hb4⟩
    |true=>
     have Xhfo:=hide hfo;clear hfo
     go_wp2_with fail
     refine(XcO1.out _ (by omega) g4).mono ?_
     rintro e w5 ⟨rfl,b5⟩
     have g5:=g4.below b5
     have hb5:=hb4.trans (b5.mono hb4.size)
     clear g4 hb4 b5 q0 q1 q2 q3
     obtain⟨q0,q1,q2,q3⟩:=g5.cells
     by_cases hnd:(namesOf G).Nodup
     ·rw [decide_eq_true hnd]
      have Xhnd:=hide hnd;clear hnd
      go_wp2_with fail
      refine(XcN.out _ g5).mono ?_
      rintro e w6 ⟨rfl,b6⟩
      have g6:=g5.below b6
      have hb6:=hb5.trans (b6.mono hb5.size)
      clear g5 hb5 b6 q0 q1 q2 q3
      obtain⟨q0,q1,q2,q3⟩:=g6.cells
      have hko:=Xhko.out
      clear XcN Xhko
      generalize isNon G st=qa at *
      cases qa with
      |false=>
       have Xhko:=hide hko;clear hko
       go_wp2_with fail
       go_ret
       exact⟨ret_int (by rw [Xhck.out,Xhfo.out,if_neg (by decide),if_neg (fun e=>e Xhnd.out),Xhko.out];rfl),hb6⟩
      |true=>
       rw [Bool.true_and]at hko
       have Xhko:=hide hko;clear hko
       go_wp2_with fail
       refine(XcK.out _ g6).mono ?_
       rintro e w7 ⟨rfl,b7⟩
       have g7:=g6.below b7
       have hb7:=hb6.trans (b7.mono hb6.size)
       clear g6 hb6 b7 q0 q1 q2 q3
       obtain⟨q0,q1,q2,q3⟩:=g7.cells
       have hko:=Xhko.out
       clear XcK Xhko
       generalize G.rules.all (fun r=>knownOf G r)=qa at *
       cases qa with
       |false=>
        have Xhko:=hide hko;clear hko
        go_wp2_with fail
        go_ret
        exact⟨ret_int (by rw [Xhck.out,Xhfo.out,if_neg (by decide),if_neg (fun e=>e Xhnd.out),Xhko.out];rfl),hb7⟩
       |true=>
        have Xhko:=hide hko;clear hko
        go_wp2_with fail
        refine(XcU.out _ g7).mono ?_
        rintro e w8 ⟨rfl,b8⟩
        have g8:=g7.below b8
        have hb8:=hb7.trans (b8.mono hb7.size)
        clear g7 hb7 b8 q0 q1 q2 q3
        obtain⟨q0,q1,q2,q3⟩:=g8.cells
        have hck:=Xhck.out
        clear XcU Xhck
        rw [Xhfo.out,if_neg (by decide),if_neg (fun e=>e Xhnd.out),Xhko.out,if_neg (by decide)]at hck
        generalize unlikeOf G.rules=qa at *
        cases qa with
        |false=>
         have Xhck:=hide hck;clear hck
         go_wp2_with fail
         go_ret
         exact⟨ret_int (by rw [Xhck.out];rfl),hb8⟩
        |true=>
         rw [if_neg (by decide)]at hck
         have Xhck:=hide hck;clear hck
         go_wp2_with fail
         clear q0 q1 q2 q3
         go_loopw [4] (fun i wr=> ∃k:Nat,k≤N∧i= .int .i64 ((T:Int)+1+k)∧haveUpto G k=true∧GBox wr F w.heap.size A1 c1 A2 c2 A3 c3 T N R st G∧Below w.heap.size w wr) (fun i _=>(T+1+N) - (intOf i).toNat)
         case atStart=>exact⟨0,Nat.zero_le _,by go_num,rfl,g8,hb8⟩
         case round=>
          clear g8 hb8
          obtain⟨k,hk,rfl,hu,g,hb⟩:=hrel
          obtain⟨q0,q1,q2,q3⟩:=g.cells
          by_cases hlt:k<N
          ·have hlt':(T:Int)+1+(k:Int)≤((T+N:Nat):Int):=by omega
           have hof:=fun wr=>XcO.out wr ((T:Int)+1+(k:Int))
           have hsk:=Xhhs.out k
           have hsn:=Xhhn.out k N hlt
           generalize ofOf G ((T:Int)+1+(k:Int))=l at *
           rw [hu,Bool.true_and]at hsk
           by_cases hl:l.length=0
           ·have hfin:=hsn hl
            have hl':((l.length:Int)==0)=true:=by rw [beq_iff_eq];omega
            have Xhof:=hide hof;have Xhsk:=hide hsk;have Xhsn:=hide hsn;have Xhl:=hide hl;have Xhfin:=hide hfin;have Xhu:=hide hu;clear hof hsk hsn hl hfin hu
            go_wp2_with fail
            refine(XcT.out _ g).mono ?_
            rintro e w9 ⟨rfl,b9⟩
            have g9:=g.below b9
            have hb9:=hb.trans (b9.mono hb.size)
            clear q0 q1 q2 q3
            obtain⟨q0,q1,q2,q3⟩:=g9.cells
            go_wp2_with fail
            refine(Xhof.out _ g9).mono ?_
            rintro e w8 ⟨Ao,co,rfl,hown,b8⟩
            have Xhown:=hide hown;clear hown
            go_wp2_with fail
            go_ret
            exact⟨ret_int (by rw [Xhck.out,Xhfin.out];rfl),hb9.trans (b8.mono hb9.size)⟩
           ·have hl':((l.length:Int)==0)=false:=by rw [beq_eq_false_iff_ne];omega
            rw [decide_eq_true (show l.length≠0 from hl)]at hsk
            have Xhof:=hide hof;have Xhsk:=hide hsk;have Xhsn:=hide hsn;have Xhl:=hide hl;have Xhu:=hide hu;clear hof hsk hsn hl hu
            go_wp2_with fail
            refine(XcT.out _ g).mono ?_
            rintro e w9 ⟨rfl,b9⟩
            have g9:=g.below b9
            have hb9:=hb.trans (b9.mono hb.size)
            clear q0 q1 q2 q3
            obtain⟨q0,q1,q2,q3⟩:=g9.cells
            go_wp2_with fail
            refine(Xhof.out _ g9).mono ?_
            rintro e w8 ⟨Ao,co,rfl,hown,b8⟩
            have Xhown:=hide hown;clear hown
            go_wp2_with fail
            go_roundw
            case rel=>exact⟨k+1,by omega,by go_num,Xhsk.out,g9.below b8,hb9.trans (b8.mono hb9.size)⟩
            case measure=>simp [intOf];omega
          ·have hkn:k=N:=by omega
           have hlt': ¬(T:Int)+1+(k:Int)≤((T+N:Nat):Int):=by omega
           have Xhu:=hide hu;clear hu
           go_wp2_with fail
           refine(XcT.out _ g).mono ?_
           rintro e w9 ⟨rfl,b9⟩
           go_wp2_with fail
           go_ret
           exact⟨ret_int (by rw [Xhck.out,←hkn,Xhu.out];rfl),hb.trans (b9.mono hb.size)⟩
     ·rw [decide_eq_false hnd]
      have Xhnd:=hide hnd;clear hnd
      go_wp2_with fail
      go_ret
      exact⟨ret_int (by rw [Xhck.out,Xhfo.out,if_neg (by decide),if_pos Xhnd.out]),hb5⟩
end
end
section
section
open Go.RowKit
def MuchPost (lo:Nat) (w:World) (e:Ending) (w':World):Prop:= ∃r:Int,(lo:Int)≤r∧e= .returned (.int .i64 r)∧Below w.heap.size w w'
set_option maxRecDepth 100000 in
set_option maxHeartbeats 2000000 in
theorem law_much {w:World} {F:Nat→Prop} {vt vn vr:Value} {G:GramD} (h:IsGram w F vt vn vr G) (st:Int):
  Calls Tryz.prog 4 #[GV vt vn vr st] w (MuchPost (G.terms.length+G.nons.length+G.rules.length) w):=by
 obtain⟨A1,c1,A2,c2,A3,c3,rfl,rfl,rfl,-⟩:=h.slices
 have g:=GBox.new h st
 have hb0:Below w.heap.size w (w.alloc (.cells #[.slice A1 G.terms.length c1,.slice A2 G.nons.length c2,.slice A3 G.rules.length c3,.int .i64 st] 25)):=(Below.refl _ w).alloc (Nat.le_refl _) _
 generalize hT:G.terms.length=T at *
 generalize hN:G.nons.length=N at *
 generalize hR:G.rules.length=R at *
 have t0:=g.ts
 have t1:=g.tc
 have t2:=g.c1m
 have n0:=g.ns
 have n1:=g.nc
 have n2:=g.c2m
 have r0:=g.rs
 have r1:=g.rc
 have r2:=g.c3m
 obtain⟨q0,q1,q2,q3⟩:=g.cells
 have hrl:=g.gram.wfs
 have hre:=g.gram.reach
 have hterm:=fun(k:Nat) (hk:k<T)=>g.term hk
 have hnon:=fun(k:Nat) (hk:k<N)=>g.non hk
 have hrule:=fun(k:Nat) (hk:k<R)=>g.rule hk
 clear h
 have XhT:=hide hT;have XhN:=hide hN;have XhR:=hide hR;have Xg:=hide g;have Xhrl:=hide hrl;have Xhre:=hide hre;have Xhterm:=hide hterm;have Xhnon:=hide hnon;have Xhrule:=hide hrule;have Xhb0:=hide hb0;clear hT hN hR g hrl hre hterm hnon hrule hb0
 go_enter Tryz.func4,Tryz.ntmps4
 go_wp2_with fail
 go_loop [3,4] (fun n i=> ∃(k:Nat) (a:Int),k≤T∧k≤200∧i= .int .i64 k∧n= .int .i64 a∧(T:Int)+N+R≤a∧a≤26388279066621+7036874417762 * (k:Int)) (fun _ i=>T - (intOf i).toNat)
 case atStart=>exact⟨0,_,Nat.zero_le _,Nat.zero_le _,rfl,rfl,by omega,by omega⟩
 case round=>
  obtain⟨k,a,hk,hk2,rfl,rfl,ha1,ha2⟩:=hrel
  by_cases hlt:k<T∧k<200
  ·obtain⟨l1,l2⟩:=hlt
   obtain⟨b,off,x,rfl,hbl,hx,hxs,hc⟩:=Xhterm.out k l1
   have hs:=Xhre.out.1 x (List.mem_of_getElem? hx)
   have l1':(k:Int)<(T:Int):=by omega
   have l2':(k:Int)<200:=by omega
   have Xhx:=hide hx;have Xhxs:=hide hxs;clear hx hxs
   go_wp2_with fail
   go_round
   case rel=>exact⟨k+1,_,by omega,by omega,by go_num,rfl,by omega,by omega⟩
   case measure=>simp [intOf];omega
  ·by_cases l1:k<T
   ·have l2: ¬k<200:=fun e=>hlt ⟨l1,e⟩
    have l1':(k:Int)<(T:Int):=by omega
    have l2': ¬(k:Int)<200:=by omega
    clear hlt
    go_wp2_with fail
    go_loop [3,5] (fun n i=> ∃(k:Nat) (a:Int),k≤N∧k≤200∧i= .int .i64 k∧n= .int .i64 a∧(T:Int)+N+R≤a∧a≤1433763330619021+7036874417762 * (k:Int)) (fun _ i=>N - (intOf i).toNat)
    case atStart=>exact⟨0,_,Nat.zero_le _,Nat.zero_le _,rfl,rfl,by omega,by omega⟩
    case round=>
     obtain⟨k,a,hk,hk2,rfl,rfl,ha1,ha2⟩:=hrel
     by_cases l1:k<N
     ·by_cases l2:k<200
      ·obtain⟨b,off,x,rfl,hbl,hx,hxs,hc⟩:=Xhnon.out k l1
       have hs:=Xhre.out.2 x (List.mem_of_getElem? hx)
       have l1':(k:Int)<(N:Int):=by omega
       have l2':(k:Int)<200:=by omega
       have Xhx:=hide hx;have Xhxs:=hide hxs;clear hx hxs
       go_wp2_with fail
       go_round
       case rel=>exact⟨k+1,_,by omega,by omega,by go_num,rfl,by omega,by omega⟩
       case measure=>simp [intOf];omega
      ·have l1':(k:Int)<(N:Int):=by omega
       have l2': ¬(k:Int)<200:=by omega
       go_wp2_with fail
       go_loop [3,6] (fun n i=> ∃(k:Nat) (a:Int),k≤R∧k≤400∧i= .int .i64 k∧n= .int .i64 a∧(T:Int)+N+R≤a∧a≤2841138214171421+1954687338269 * (k:Int)) (fun _ i=>R - (intOf i).toNat)
       case atStart=>exact⟨0,_,Nat.zero_le _,Nat.zero_le _,rfl,rfl,by omega,by omega⟩
       case round=>
        obtain⟨k,a,hk,hk2,rfl,rfl,ha1,ha2⟩:=hrel
        by_cases l1:k<R
        ·by_cases l2:k<400
         ·obtain⟨b,off,l,x,A,n,c,rfl,hbl,hx,h0,h1,hr,hn,hnc,hcm⟩:=Xhrule.out k l1
          have hs:=(Xhrl.out _ (List.mem_of_getElem? hx)).2.1
          have hs2:n≤17592186044416:=by rw [hn];exact hs
          have l1':(k:Int)<(R:Int):=by omega
          have l2':(k:Int)<400:=by omega
          have Xhx:=hide hx;have Xhr:=hide hr;have Xhn:=hide hn;have Xhs:=hide hs;clear hx hr hn hs
          go_wp2_with fail
          go_round
          case rel=>exact⟨k+1,_,by omega,by omega,by go_num,rfl,by omega,by omega⟩
          case measure=>simp [intOf];omega
         ·have l1':(k:Int)<(R:Int):=by omega
          have l2': ¬(k:Int)<400:=by omega
          go_wp2_with fail
          go_ret
          exact⟨a,by omega,rfl,Xhb0.out⟩
        ·have l1': ¬(k:Int)<(R:Int):=by omega
         go_wp2_with fail
         go_ret
         exact⟨a,by omega,rfl,Xhb0.out⟩
     ·have l1': ¬(k:Int)<(N:Int):=by omega
      go_wp2_with fail
      go_loop [3,6] (fun n i=> ∃(k:Nat) (a:Int),k≤R∧k≤400∧i= .int .i64 k∧n= .int .i64 a∧(T:Int)+N+R≤a∧a≤2841138214171421+1954687338269 * (k:Int)) (fun _ i=>R - (intOf i).toNat)
      case atStart=>exact⟨0,_,Nat.zero_le _,Nat.zero_le _,rfl,rfl,by omega,by omega⟩
      case round=>
       obtain⟨k,a,hk,hk2,rfl,rfl,ha1,ha2⟩:=hrel
       by_cases l1:k<R
       ·by_cases l2:k<400
        ·obtain⟨b,off,l,x,A,n,c,rfl,hbl,hx,h0,h1,hr,hn,hnc,hcm⟩:=Xhrule.out k l1
         have hs:=(Xhrl.out _ (List.mem_of_getElem? hx)).2.1
         have hs2:n≤17592186044416:=by rw [hn];exact hs
         have l1':(k:Int)<(R:Int):=by omega
         have l2':(k:Int)<400:=by omega
         have Xhx:=hide hx;have Xhr:=hide hr;have Xhn:=hide hn;have Xhs:=hide hs;clear hx hr hn hs
         go_wp2_with fail
         go_round
         case rel=>exact⟨k+1,_,by omega,by omega,by go_num,rfl,by omega,by omega⟩
         case measure=>simp [intOf];omega
        ·have l1':(k:Int)<(R:Int):=by omega
         have l2': ¬(k:Int)<400:=by omega
         go_wp2_with fail
         go_ret
         exact⟨a,by omega,rfl,Xhb0.out⟩
       ·have l1': ¬(k:Int)<(R:Int):=by omega
        go_wp2_with fail
        go_ret
        exact⟨a,by omega,rfl,Xhb0.out⟩
   ·have l1': ¬(k:Int)<(T:Int):=by omega
    clear hlt
    go_wp2_with fail
    go_loop [3,5] (fun n i=> ∃(k:Nat) (a:Int),k≤N∧k≤200∧i= .int .i64 k∧n= .int .i64 a∧(T:Int)+N+R≤a∧a≤1433763330619021+7036874417762 * (k:Int)) (fun _ i=>N - (intOf i).toNat)
    case atStart=>exact⟨0,_,Nat.zero_le _,Nat.zero_le _,rfl,rfl,by omega,by omega⟩
    case round=>
     obtain⟨k,a,hk,hk2,rfl,rfl,ha1,ha2⟩:=hrel
     by_cases l1:k<N
     ·by_cases l2:k<200
      ·obtain⟨b,off,x,rfl,hbl,hx,hxs,hc⟩:=Xhnon.out k l1
       have hs:=Xhre.out.2 x (List.mem_of_getElem? hx)
       have l1':(k:Int)<(N:Int):=by omega
       have l2':(k:Int)<200:=by omega
       have Xhx:=hide hx;have Xhxs:=hide hxs;clear hx hxs
       go_wp2_with fail
       go_round
       case rel=>exact⟨k+1,_,by omega,by omega,by go_num,rfl,by omega,by omega⟩
       case measure=>simp [intOf];omega
      ·have l1':(k:Int)<(N:Int):=by omega
       have l2': ¬(k:Int)<200:=by omega
       go_wp2_with fail
       go_loop [3,6] (fun n i=> ∃(k:Nat) (a:Int),k≤R∧k≤400∧i= .int .i64 k∧n= .int .i64 a∧(T:Int)+N+R≤a∧a≤2841138214171421+1954687338269 * (k:Int)) (fun _ i=>R - (intOf i).toNat)
       case atStart=>exact⟨0,_,Nat.zero_le _,Nat.zero_le _,rfl,rfl,by omega,by omega⟩
       case round=>
        obtain⟨k,a,hk,hk2,rfl,rfl,ha1,ha2⟩:=hrel
        by_cases l1:k<R
        ·by_cases l2:k<400
         ·obtain⟨b,off,l,x,A,n,c,rfl,hbl,hx,h0,h1,hr,hn,hnc,hcm⟩:=Xhrule.out k l1
          have hs:=(Xhrl.out _ (List.mem_of_getElem? hx)).2.1
          have hs2:n≤17592186044416:=by rw [hn];exact hs
          have l1':(k:Int)<(R:Int):=by omega
          have l2':(k:Int)<400:=by omega
          have Xhx:=hide hx;have Xhr:=hide hr;have Xhn:=hide hn;have Xhs:=hide hs;clear hx hr hn hs
          go_wp2_with fail
          go_round
          case rel=>exact⟨k+1,_,by omega,by omega,by go_num,rfl,by omega,by omega⟩
          case measure=>simp [intOf];omega
         ·have l1':(k:Int)<(R:Int):=by omega
          have l2': ¬(k:Int)<400:=by omega
          go_wp2_with fail
          go_ret
          exact⟨a,by omega,rfl,Xhb0.out⟩
        ·have l1': ¬(k:Int)<(R:Int):=by omega
         go_wp2_with fail
         go_ret
         exact⟨a,by omega,rfl,Xhb0.out⟩
     ·have l1': ¬(k:Int)<(N:Int):=by omega
      go_wp2_with fail
      go_loop [3,6] (fun n i=> ∃(k:Nat) (a:Int),k≤R∧k≤400∧i= .int .i64 k∧n= .int .i64 a∧(T:Int)+N+R≤a∧a≤2841138214171421+1954687338269 * (k:Int)) (fun _ i=>R - (intOf i).toNat)
      case atStart=>exact⟨0,_,Nat.zero_le _,Nat.zero_le _,rfl,rfl,by omega,by omega⟩
      case round=>
       obtain⟨k,a,hk,hk2,rfl,rfl,ha1,ha2⟩:=hrel
       by_cases l1:k<R
       ·by_cases l2:k<400
        ·obtain⟨b,off,l,x,A,n,c,rfl,hbl,hx,h0,h1,hr,hn,hnc,hcm⟩:=Xhrule.out k l1
         have hs:=(Xhrl.out _ (List.mem_of_getElem? hx)).2.1
         have hs2:n≤17592186044416:=by rw [hn];exact hs
         have l1':(k:Int)<(R:Int):=by omega
         have l2':(k:Int)<400:=by omega
         have Xhx:=hide hx;have Xhr:=hide hr;have Xhn:=hide hn;have Xhs:=hide hs;clear hx hr hn hs
         go_wp2_with fail
         go_round
         case rel=>exact⟨k+1,_,by omega,by omega,by go_num,rfl,by omega,by omega⟩
         case measure=>simp [intOf];omega
        ·have l1':(k:Int)<(R:Int):=by omega
         have l2': ¬(k:Int)<400:=by omega
         go_wp2_with fail
         go_ret
         exact⟨a,by omega,rfl,Xhb0.out⟩
       ·have l1': ¬(k:Int)<(R:Int):=by omega
        go_wp2_with fail
        go_ret
        exact⟨a,by omega,rfl,Xhb0.out⟩
end
section
open Go.ChangeShapes Go.WideShapes Go.ChangeAt Go.RowKit Go.Deep
section
variable {H : Type} {enc : TypeId × Value → H} {w : World} {sp : Nat → Bool}
theorem opens_textZ {t:TypeId} (ht:Tryz.prog.underlying t=some .string):OpensZ enc Tryz.prog w sp t (fun cs (s:ByteArray)=>cs=[.string s]∧(s.size≤maxLen∧s.size≤140737488351232)):=by
 intro fuel cs y h hr
 obtain⟨n,h1,h3,h2⟩:=DataW.trod_string ht h
 refine⟨n,h1,h2,?_⟩
 have:=hr n.data.toList.length (by rw [h3];simp [DataW.weights])
 simpa using this
theorem opens_textsZ:OpensZ enc Tryz.prog w sp 22 (fun cs (xs:List ByteArray)=> ∃v,cs=[v]∧RdL w (· <w.heap.size) 1 (fun cs s=>cs=[.string s]∧(s.size≤maxLen∧s.size≤140737488351232)) v xs∧xs.length * 16≤140737488351232):=
 opens_listZ Tryz.underlying22 (by kernel_rfl) (by decide) (by kernel_rfl) (opens_textZ Tryz.underlying9)
theorem opens_intsZ:OpensZ enc Tryz.prog w sp 26 (fun cs (xs:List Int)=> ∃v,cs=[v]∧RdL w (· <w.heap.size) 1 (fun cs n=>cs=[.int .i64 n]∧(Lit.int .i64 n).wf=true) v xs∧xs.length * 8≤140737488351232):=
 opens_listZ Tryz.underlying26 (by kernel_rfl) (by decide) (by kernel_rfl) (OpensZ.of (opens_int Tryz.underlying3))
theorem opens_ruleZ:OpensZ enc Tryz.prog w sp 42 (fun cs (x:Int×List Int)=> ∃c0 c1,cs=[c0,c1]∧([c0]=[Value.int .i64 x.1]∧(Lit.int .i64 x.1).wf=true)∧ ∃v,[c1]=[v]∧RdL w (· <w.heap.size) 1 (fun cs n=>cs=[.int .i64 n]∧(Lit.int .i64 n).wf=true) v x.2∧x.2.length * 8≤140737488351232):=
 opens_struct2Z Tryz.underlying42 (by kernel_rfl) (by kernel_rfl) (OpensZ.of (opens_int Tryz.underlying3)) opens_intsZ
theorem opens_rulesZ:OpensZ enc Tryz.prog w sp 23 (fun cs (xs:List (Int×List Int))=> ∃v,cs=[v]∧RdL w (· <w.heap.size) 2 (fun cs x=> ∃c0 c1,cs=[c0,c1]∧([c0]=[Value.int .i64 x.1]∧(Lit.int .i64 x.1).wf=true)∧ ∃v,[c1]=[v]∧RdL w (· <w.heap.size) 1 (fun cs n=>cs=[.int .i64 n]∧(Lit.int .i64 n).wf=true) v x.2∧x.2.length * 8≤140737488351232) v xs∧xs.length * 32≤140737488351232):=
 opens_listZ Tryz.underlying23 (by kernel_rfl) (by decide) (by kernel_rfl) opens_ruleZ
def GramCells (w:World) (cs:List Value) (G:GramD):Prop:= ∃vt vn vr,cs=[vt,vn,vr,.int .i64 G.start]∧IsGram w (· <w.heap.size) vt vn vr G∧(Lit.int .i64 G.start).wf=true
theorem wf_i64_iff {n:Int} (h:(Lit.int .i64 n).wf=true): -9223372036854775808≤n∧n≤9223372036854775807:=by
 simp [Lit.wf,IntKind.min,IntKind.max,IntKind.signed,IntKind.bits]at h
 omega
theorem rdl_texts {v:Value} {xs:List ByteArray} (h:RdL w (· <w.heap.size) 1 (fun cs s=>cs=[.string s]∧(s.size≤maxLen∧s.size≤140737488351232)) v xs):RdS w (· <w.heap.size) v xs∧(∀s∈xs,s.size≤maxLen∧s.size≤140737488351232):=by
 obtain⟨h1,h2⟩:=RdL.parts (E:=fun cs (s:ByteArray)=>cs=[.string s]) (p:=fun s=>s.size≤maxLen∧s.size≤140737488351232) h
 exact⟨RdL.rd h1,h2⟩
theorem rdl_ints {v:Value} {xs:List Int} (h:RdL w (· <w.heap.size) 1 (fun cs n=>cs=[.int .i64 n]∧(Lit.int .i64 n).wf=true) v xs):RdI w (· <w.heap.size) v xs∧(∀n∈xs,(Lit.int .i64 n).wf=true):=by
 obtain⟨h1,h2⟩:=RdL.parts (E:=fun cs (n:Int)=>cs=[.int .i64 n]) (p:=fun n=>(Lit.int .i64 n).wf=true) h
 exact⟨RdL.rd h1,h2⟩
theorem RdL.also {X:Type} {F:Nat→Prop} {k:Nat} {E E':List Value→X→Prop} {p:X→Prop} {v:Value} {xs:List X} (h:RdL w F k E v xs) (hE: ∀cs x,E cs x→E' cs x∧p x):RdL w F k (fun cs x=>E' cs x∧p x) v xs:=by
 obtain⟨A,c,hv,hc,hm,hr⟩:=h
 refine⟨A,c,hv,hc,hm,fun hn=> ?_⟩
 obtain⟨b,off,hA,hb,hcell⟩:=hr hn
 refine⟨b,off,hA,hb,fun i x hx=> ?_⟩
 obtain⟨cs,hl,he,hu⟩:=hcell i x hx
 exact⟨cs,hl,hE cs x he,hu⟩
theorem opens_gramZ:OpensZ enc Tryz.prog w sp 25 (GramCells w):=by
 intro fuel cs y h hr
 obtain⟨⟨a,b,c,d⟩,c0,c1,c2,c3,rfl,⟨vt,e1,ht,lt⟩,⟨vn,e2,hn,ln⟩,⟨vr,e3,hrl,lr⟩,e4,hwf⟩:=opens_struct4Z Tryz.underlying25 (by kernel_rfl) (by kernel_rfl) opens_textsZ opens_textsZ opens_rulesZ (OpensZ.of (opens_int Tryz.underlying3)) fuel cs y h hr
 injection e1 with e1
 injection e2 with e2
 injection e3 with e3
 injection e4 with e4
 subst e1 e2 e3 e4
 obtain⟨ht,st⟩:=rdl_texts ht
 obtain⟨hn,sn⟩:=rdl_texts hn
 obtain⟨h1,h2⟩:=RdL.parts (RdL.also (E':=ERule w (· <w.heap.size)) (p:=fun r=>((-9223372036854775808≤r.1∧r.1≤9223372036854775807)∧r.2.length≤17592186044416∧ ∀x∈r.2,-9223372036854775808≤x∧x≤9223372036854775807)) hrl (fun cs x he=>by
  obtain⟨a0,a1,rfl,⟨f0,w0⟩,v,f1,hv,hl⟩:=he
  injection f0 with f0
  injection f1 with f1
  subst f0 f1
  obtain⟨hv,hw⟩:=rdl_ints hv
  exact⟨⟨a1,rfl,hv⟩,wf_i64_iff w0,by omega,fun x hx=>wf_i64_iff (hw x hx)⟩))
 exact⟨⟨a,b,c,d⟩,c0,c1,c2,rfl,⟨ht,hn,h1,fun b hb=>hb,⟨by simp only at lt⊢;omega,by simp only at ln⊢;omega,by simp only at lr⊢;omega⟩,⟨fun s hs=>(st s hs).1,fun s hs=>(sn s hs).1⟩,⟨fun s hs=>(st s hs).2,fun s hs=>(sn s hs).2⟩,h2⟩,hwf⟩
end
end
section
open Go.RowKit
theorem checkOf_zero {G:GramD} {st:Int} (h:checkOf G st=0):manyOf G=false∧formOf G=true∧(namesOf G).Nodup∧allKnown G st=true∧unlikeOf G.rules=true∧haveUpto G G.nons.length=true:=by
 unfold checkOf at h
 by_cases h1:manyOf G=true
 ·rw [if_pos h1]at h;omega
 rw [if_neg h1]at h
 by_cases h2:formOf G=false
 ·rw [if_pos h2]at h;omega
 rw [if_neg h2]at h
 by_cases h3: ¬(namesOf G).Nodup
 ·rw [if_pos h3]at h;omega
 rw [if_neg h3]at h
 by_cases h4:allKnown G st=false
 ·rw [if_pos h4]at h;omega
 rw [if_neg h4]at h
 by_cases h5:unlikeOf G.rules=false
 ·rw [if_pos h5]at h;omega
 rw [if_neg h5]at h
 by_cases h6:haveUpto G G.nons.length=false
 ·rw [if_pos h6]at h;omega
 exact⟨by simpa using h1,by simpa using h2,by simpa using h3,by simpa using h4,by simpa using h5,by simpa using h6⟩
theorem ofOf_mem {G:GramD} {s i:Int} (h:i∈ofOf G s): ∃k:Nat,i=k∧k<G.rules.length∧ ∃x,G.rules[k]? =some (s,x):=by
 unfold ofOf ofUpto at h
 obtain⟨k,hk,rfl⟩:=List.mem_map.1 h
 obtain⟨hk,hd⟩:=List.mem_filter.1 hk
 have hk:=List.mem_range.1 hk
 have hd:=of_decide_eq_true hd
 rw [List.getElem?_eq_getElem hk]at hd
 simp at hd
 exact⟨k,rfl,hk,(G.rules[k]).2,by rw [List.getElem?_eq_getElem hk,←hd]⟩
theorem rule_of {G:GramD} {st s i:Int} (h:i∈ofOf G s): ∃x,ruleOf G st i=((s,x),true):=by
 obtain⟨k,rfl,hk,x,hx⟩:=ofOf_mem h
 refine⟨x,?_⟩
 unfold ruleOf
 rw [if_neg (by omega),if_neg (by omega),Int.toNat_natCast,hx]
 rfl
end
end
end Go.Proofs.YtalbfonkhpeajaaGreat

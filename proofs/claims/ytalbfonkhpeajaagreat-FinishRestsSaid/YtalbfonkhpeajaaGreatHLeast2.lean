/- Least words in memory, the program's: join. -/
import Derived.Test.YtalbfonkhpeajaaGreatHFin1
import Derived.Laws.EntriesVeiled
import Derived.Test.YtalbfonkhpeajaaGreatHG7
import Derived.Laws.MakeOwn
import Derived.Deep.Cut
namespace Go.Proofs.YtalbfonkhpeajaaGreat
set_option linter.unusedVariables false
section
open Go.RowKit
attribute [local irreducible] wpStill wpOne wpPh
structure IsWords (w:World) (F:Nat→Prop) (b g:Nat) (S:List FoundD):Prop where
 blk:Blk w b 107 #[.slice (some ⟨g,0,none⟩) S.length S.length]
 row: ∃cells,Blk w g 109 cells∧cells.size=S.length * 3∧ ∀(i:Nat) (x:FoundD),S[i]? =some x→cells[i * 3]? =some (.bool x.is)∧cells[i * 3+1]? =some (.bool x.long)∧ ∃v,cells[i * 3+2]? =some v∧RdI w F v x.l
 lt: ∀k,F k→k<w.heap.size
 far: ∀k,F k→k≠g
 lens: ∀x∈S,x.l.length≤4096
 size:S.length≤65536
section
variable {w w' : World} {F : Nat → Prop} {b g : Nat} {S : List FoundD}
theorem IsWords.below (h:IsWords w F b g S) (hb:Below w.heap.size w w'):IsWords w' F b g S:=by
 obtain⟨cells,hg,hs,hc⟩:=h.row
 exact⟨h.blk.below hb h.blk.lt,⟨cells,hg.below hb hg.lt,hs,fun i x hx=>by
  obtain⟨h1,h2,v,h3,h4⟩:=hc i x hx
  exact⟨h1,h2,v,h3,h4.below hb h.lt⟩⟩,fun k hk=>Nat.lt_of_lt_of_le (h.lt k hk) hb.size,h.far,h.lens,h.size⟩
theorem IsWords.at_ (h:IsWords w F b g S) {k:Nat} (hk:k<S.length): ∃(x:FoundD) (A:Option Addr) (n c:Nat),S[k]? =some x∧w.cell? ⟨g,k * 3,none⟩=some (.bool x.is)∧w.cell? ⟨g,k * 3+1,none⟩=some (.bool x.long)∧w.cell? ⟨g,k * 3+2,none⟩=some (.slice A n c)∧RdI w F (.slice A n c) x.l∧n=x.l.length∧n≤c∧c≤9223372036854775807∧n≤4096:=by
 obtain⟨cells,hg,hs,hc⟩:=h.row
 have hx:S[k]? =some S[k]:=List.getElem?_eq_getElem hk
 obtain⟨h1,h2,v,h3,h4⟩:=hc k _ hx
 obtain⟨A,n,c,rfl,_⟩:=id h4
 obtain⟨hn,hnc,hcm,-⟩:=RdI.at_ h4
 exact⟨_,A,n,c,hx,(hg.cell _).trans h1,(hg.cell _).trans h2,(hg.cell _).trans h3,h4,hn,hnc,hcm,by rw [hn];exact h.lens _ (List.getElem_mem hk)⟩
theorem IsWords.ptr (h:IsWords w F b g S):w.cell? ⟨b,0,none⟩=some (.slice (some ⟨g,0,none⟩) S.length S.length):=(h.blk.cell 0).trans rfl
end
theorem lookW_nat {S:List FoundD} {k:Nat} {x:FoundD} (h:S[k]? =some x):lookW S k=x:=by
 unfold lookW
 rw [if_pos (by omega),Int.toNat_natCast,h];rfl
theorem lookW_neg {S:List FoundD} {s:Int} (h:s<0):lookW S s=noFound:=by unfold lookW;rw [if_neg (by omega)]
theorem lookW_big {S:List FoundD} {s:Int} (h:(S.length:Int)≤s):lookW S s=noFound:=by
 unfold lookW
 rw [if_pos (by omega),List.getElem?_eq_none (by omega)];rfl
def JoinPost (w:World) (x:FoundD) (e:Ending) (w':World):Prop:= ∃A n c,e= .returned (.agg #[.bool x.is,.bool x.long,.slice A n c])∧RdI w' (fun k=>w.heap.size≤k∧k<w'.heap.size) (.slice A n c) x.l∧Below w.heap.size w w'
def JoinOwn (w:World) (x:FoundD) (e:Ending) (w':World):Prop:= ∃A n c,e= .returned (.agg #[.bool x.is,.bool x.long,.slice A n c])∧w'.ownsRow w.heap.size 3 1 (.slice A n c) n (x.l.map I64)∧Below w.heap.size w w'
theorem JoinOwn.post {w w':World} {x:FoundD} {e:Ending} (h:JoinOwn w x e w'):JoinPost w x e w':=by
 obtain⟨A,n,c,h1,h2,h3⟩:=h
 exact⟨A,n,c,h1,(Rd.of_own h2).mono (fun q hq=>h2.lt q hq),h3⟩
theorem JoinOwn.no {w w':World} {S:List FoundD} {l:List Int} {k:Nat} {s:Int} (hs:l[k]? =some s) (h:(lookW S s).is=false) (hb:Below w.heap.size w w'):JoinOwn w (joinOf S l) (.returned (.agg #[.bool false,.bool false,.slice none 0 0])) w':=by
 have:joinOf S l=noFound:=by
  unfold joinOf
  rw [if_neg]
  rw [Bool.not_eq_true,List.all_eq_false]
  exact⟨s,List.mem_of_getElem? hs,by simp [h]⟩
 rw [this]
 exact⟨none,0,0,rfl,World.ownsRow_nil _ _ _ _,hb⟩
theorem joinOf_yes {S:List FoundD} {l:List Int} (h: ∀(j:Nat) (s:Int),l[j]? =some s→(lookW S s).is=true):joinOf S l=⟨true,(jTo S l).1,if(jTo S l).1=true then []else(jTo S l).2⟩:=by
 unfold joinOf
 rw [if_pos]
 rw [List.all_eq_true]
 intro s hs
 obtain⟨j,hj,e⟩:=List.getElem_of_mem hs
 exact h j s (by rw [List.getElem?_eq_getElem hj,e])
theorem jTo_next {S:List FoundD} {l:List Int} {k:Nat} {s:Int} (hs:l[k]? =some s):jTo S (l.take (k+1))=jStep S (jTo S (l.take k)) s:=by
 rw [List.take_add_one,hs]
 exact jTo_snoc S (l.take k) s
set_option maxRecDepth 100000 in
set_option maxHeartbeats 4000000 in
theorem least_join_own {w:World} {F G:Nat→Prop} {b g:Nat} {S:List FoundD} {v:Value} {l:List Int} (h:IsWords w F b g S) (hl:RdI w G v l) (hG: ∀k,G k→k<w.heap.size) (hT: ∀k,(jTo S (l.take k)).2.length≤4096):
  Calls Tryz.prog 48 #[.pointer (some ⟨b,0,none⟩),v] w (JoinOwn w (joinOf S l)):=by
 obtain⟨A,n,c,rfl,-⟩:=id hl
 obtain⟨hn,hnc,hcm,-⟩:=RdI.at_ hl
 unfold maxLen at hcm
 obtain⟨w2,hw2⟩: ∃w2,w2=(w.alloc (.cells #[.bool false,.bool false,.slice none 0 0] 109)).alloc (.cells #[.bool true,.bool false,.slice none 0 0] 109):=⟨_,rfl⟩
 have hb2:Below w.heap.size w w2:=by rw [hw2];exact((Below.refl _ w).alloc (Nat.le_refl _) _).alloc (by simp) _
 have k0:Blk w2 w.heap.size 109 #[.bool false,.bool false,.slice none 0 0]:=by rw [hw2];exact(Blk.new w _ _).alloc _
 have k1:Blk w2 (w.heap.size+1) 109 #[.bool true,.bool false,.slice none 0 0]:=by
  rw [hw2]
  have:=Blk.new (w.alloc (.cells #[.bool false,.bool false,.slice none 0 0] 109)) 109 #[.bool true,.bool false,.slice none 0 0]
  simpa using this
 have z2:w2.heap.size=w.heap.size+2:=by rw [hw2];simp
 have own0:w2.ownsRow w.heap.size 3 1 (.slice none 0 0) 0 []:=World.ownsRow_nil _ _ _ _
 have Xhn:=hide hn;have Xhb2:=hide hb2;have Xk0:=hide k0;have Xk1:=hide k1;have Xown0:=hide own0;have Xh:=hide h;have Xhl:=hide hl;have XhG:=hide hG;have XhT:=hide hT;clear hn hb2 k0 k1 own0 h hl hG hT
 go_enter Tryz.func48,Tryz.ntmps48
 go_wp2_with fail
 rw [←hw2]
 clear hw2
 go_loopw [12] (fun i wr=> ∃(k:Nat) (B:Option Addr) (m d:Nat),k≤n∧i= .int .i64 k∧(∀(j:Nat) (s:Int),j<k→l[j]? =some s→(lookW S s).is=true)∧m=(jTo S (l.take k)).2.length∧Blk wr w.heap.size 109 #[.bool false,.bool false,.slice none 0 0]∧Blk wr (w.heap.size+1) 109 #[.bool true,.bool (jTo S (l.take k)).1,.slice B m d]∧wr.ownsRow w.heap.size 3 1 (.slice B m d) m ((jTo S (l.take k)).2.map I64)∧Below w.heap.size w wr) (fun i _=>n - (intOf i).toNat)
 case atStart=>exact⟨0,none,0,0,Nat.zero_le _,rfl,fun j s hj=>absurd hj (by omega),rfl,Xk0.out,Xk1.out,Xown0.out,Xhb2.out⟩
 case round=>
  clear z2 Xk0 Xk1 Xown0 Xhb2
  obtain⟨k,B,m,d,hk,rfl,hall,hm,k0,k1,own,hb⟩:=hrel
  obtain⟨p,hp⟩: ∃p,p=jTo S (l.take k):=⟨_,rfl⟩
  rw [←hp]at hm k1 own
  have hpl:p.2.length≤4096:=by rw [hp];exact XhT.out k
  have hz:=k1.lt
  have q0:=(k0.cell 0).trans rfl
  have q1:=(k0.cell 1).trans rfl
  have q2:=(k0.cell 2).trans rfl
  have f0:=k0.frozen 0
  have f1:=k0.frozen 1
  have f2:=k0.frozen 2
  have o0:=(k1.cell 0).trans rfl
  have o1:=(k1.cell 1).trans rfl
  have o2:=(k1.cell 2).trans rfl
  have g0:=k1.frozen 0
  have g1:=k1.frozen 1
  have g2:=k1.frozen 2
  have hml:m≤4096:=by omega
  by_cases hlt:k<n
  ·have hw:=Xh.out.below hb
   have hlr:=Xhl.out.below hb XhG.out
   obtain⟨-,-,-,hcell⟩:=RdI.at_ hlr
   obtain⟨bl,off,rfl,hbl,hcc⟩:=hcell (by omega)
   obtain⟨s,hs⟩: ∃s,l[k]? =some s:=⟨_,List.getElem?_eq_getElem (by rw [←Xhn.out];exact hlt)⟩
   have hcs:=hcc k s hs
   have hnext:=jTo_next (S:=S) hs
   rw [←hp]at hnext
   have hptr:=hw.ptr
   have hsz:=hw.size
   have hlt':(k:Int)<(n:Int):=by omega
   by_cases hs0:s<0
   ·have hfin:=fun w'=>JoinOwn.no (w:=w) (w':=w') (S:=S) hs (by rw [lookW_neg hs0];rfl)
    have Xhfin:=hide hfin;have Xhall:=hide hall;have Xhm:=hide hm;have Xhp:=hide hp;have Xk0:=hide k0;have Xk1:=hide k1;have Xown:=hide own;have Xhb:=hide hb;have Xhw:=hide hw;have Xhlr:=hide hlr;have Xhs:=hide hs;have Xhnext:=hide hnext;clear hfin hall hm hp k0 k1 own hb hw hlr hs hnext;clear hcell hcc
    go_wp2_with fail
    refine bodyPost_ret (v:= .agg #[.bool false,.bool false,.slice none 0 0]) (by simp [results,Tryz.results48,go_sem,q0,q1,q2]) rfl ?_
    exact Xhfin.out _ (((Xhb.out.setCell (by simp) _).setCell (by simp) _).setCell (by simp) _)
   ·by_cases hs1:(S.length:Int)≤s
    ·have hfin:=fun w'=>JoinOwn.no (w:=w) (w':=w') (S:=S) hs (by rw [lookW_big hs1];rfl)
     have Xhfin:=hide hfin;have Xhall:=hide hall;have Xhm:=hide hm;have Xhp:=hide hp;have Xk0:=hide k0;have Xk1:=hide k1;have Xown:=hide own;have Xhb:=hide hb;have Xhw:=hide hw;have Xhlr:=hide hlr;have Xhs:=hide hs;have Xhnext:=hide hnext;clear hfin hall hm hp k0 k1 own hb hw hlr hs hnext;clear hcell hcc
     go_wp2_with fail
     refine bodyPost_ret (v:= .agg #[.bool false,.bool false,.slice none 0 0]) (by simp [results,Tryz.results48,go_sem,q0,q1,q2]) rfl ?_
     exact Xhfin.out _ (((Xhb.out.setCell (by simp) _).setCell (by simp) _).setCell (by simp) _)
    ·obtain⟨sn,rfl⟩:=Int.eq_ofNat_of_zero_le (by omega:0≤s)
     have hsn:sn<S.length:=by omega
     have hs1':(sn:Int)<(S.length:Int):=by omega
     obtain⟨x,Ax,nx,cx,hx,e0,e1,e2,hxr,hnx,hnxc,hcx,hnx4⟩:=hw.at_ hsn
     have hlk:=lookW_nat hx
     cases hxi:x.is with
     |false=>
      rw [hxi]at e0
      have hfin:=fun w'=>JoinOwn.no (w:=w) (w':=w') (S:=S) hs (by rw [hlk];exact hxi)
      have Xhfin:=hide hfin;have Xhall:=hide hall;have Xhm:=hide hm;have Xhp:=hide hp;have Xk0:=hide k0;have Xk1:=hide k1;have Xown:=hide own;have Xhb:=hide hb;have Xhw:=hide hw;have Xhlr:=hide hlr;have Xhs:=hide hs;have Xhnext:=hide hnext;have Xhx:=hide hx;have Xhxr:=hide hxr;have Xhnx:=hide hnx;have Xhlk:=hide hlk;have Xhxi:=hide hxi;clear hfin hall hm hp k0 k1 own hb hw hlr hs hnext hx hxr hnx hlk hxi;clear hcell hcc
      go_wp2_with fail
      refine bodyPost_ret (v:= .agg #[.bool false,.bool false,.slice none 0 0]) (by simp [results,Tryz.results48,go_sem,q0,q1,q2]) rfl ?_
      exact Xhfin.out _ (((Xhb.out.setCell (by simp) _).setCell (by simp) _).setCell (by simp) _)
     |true=>
      rw [hxi]at e0
      have hstep:jStep S p (sn:Int)=(p.1||(x.long||decide (4096<m+nx)),if(p.1||(x.long||decide (4096<m+nx)))=true then p.2 else p.2++x.l):=by
       unfold jStep;rw [hlk,hm,hnx]
      rw [hstep]at hnext
      have hall2: ∀(j:Nat) (s:Int),j<k+1→l[j]? =some s→(lookW S s).is=true:=fun j s' hj hs'=>by
       by_cases e:j=k
       ·subst e;rw [hs]at hs';injection hs' with hs';rw [←hs',hlk];exact hxi
       ·exact hall j s' (by omega) hs'
      have hxz: ∀k',F k'→k'<w.heap.size:=Xh.out.lt
      have hne:w.heap.size≠w.heap.size+1:=by omega
      have hbz0:=hb.size
      -- what is there behind the new mark
      have mark: ∀lg:Bool,Blk ((wr.setCell ⟨w.heap.size+1,1,none⟩ (.bool lg)).alloc (.cells #[.bool true,.bool x.long,.slice Ax nx cx] 109)) (w.heap.size+1) 109 #[.bool true,.bool lg,.slice B m d]∧Blk ((wr.setCell ⟨w.heap.size+1,1,none⟩ (.bool lg)).alloc (.cells #[.bool true,.bool x.long,.slice Ax nx cx] 109)) w.heap.size 109 #[.bool false,.bool false,.slice none 0 0]∧((wr.setCell ⟨w.heap.size+1,1,none⟩ (.bool lg)).alloc (.cells #[.bool true,.bool x.long,.slice Ax nx cx] 109)).ownsRow w.heap.size 3 1 (.slice B m d) m (p.2.map I64)∧Below w.heap.size w ((wr.setCell ⟨w.heap.size+1,1,none⟩ (.bool lg)).alloc (.cells #[.bool true,.bool x.long,.slice Ax nx cx] 109))∧RdI ((wr.setCell ⟨w.heap.size+1,1,none⟩ (.bool lg)).alloc (.cells #[.bool true,.bool x.long,.slice Ax nx cx] 109)) F (.slice Ax nx cx) x.l∧((wr.setCell ⟨w.heap.size+1,1,none⟩ (.bool lg)).alloc (.cells #[.bool true,.bool x.long,.slice Ax nx cx] 109)).cell? ⟨wr.heap.size,2,none⟩=some (.slice Ax nx cx):=fun lg=>by
       have t:Touch (fun q=>q=w.heap.size+1) wr (wr.setCell ⟨w.heap.size+1,1,none⟩ (.bool lg)):=(Touch.refl (fun q=>q=w.heap.size+1) wr).setCell (p:=⟨w.heap.size+1,1,none⟩) (fun _=>rfl) _
       have zz:(wr.setCell ⟨w.heap.size+1,1,none⟩ (.bool lg)).heap.size=wr.heap.size:=by simp [World.setCell]
       have t2:=t.alloc (.cells #[.bool true,.bool x.long,.slice Ax nx cx] 109)
       refine⟨(k1.put 1 _).alloc _,k0.touch t2 hne,t2.own own (fun q hq e=>k1.ne_own own (by decide) (by rw [hq,e])),hb.trans (t2.below (fun q hq _ e=>by omega) hbz0),hxr.touch t2 (fun q hq e=>by have:=hxz q hq;omega),?_⟩
       have kn:=Blk.new (wr.setCell ⟨w.heap.size+1,1,none⟩ (.bool lg)) 109 #[.bool true,.bool x.long,.slice Ax nx cx]
       rw [zz]at kn
       exact(kn.cell 2).trans rfl
      have Xhall:=hide hall;have Xhall2:=hide hall2;have Xhp:=hide hp;have Xk0:=hide k0;have Xk1:=hide k1;have Xown:=hide own;have Xhb:=hide hb;have Xhw:=hide hw;have Xhlr:=hide hlr;have Xhs:=hide hs;have Xhnext:=hide hnext;have Xhx:=hide hx;have Xhxr:=hide hxr;have Xhlk:=hide hlk;have Xhxi:=hide hxi;have Xhstep:=hide hstep;have Xhxz:=hide hxz;have Xmark:=hide mark;have Xhm:=hide hm;have Xhnx:=hide hnx;clear hall hall2 hp k0 k1 own hb hw hlr hs hnext hx hxr hlk hxi hstep hxz mark hm hnx;clear hcell hcc
      have marked: ∀W,(jTo S (l.take (k+1))=(true,p.2))→W=(wr.setCell ⟨w.heap.size+1,1,none⟩ (.bool true)).alloc (.cells #[.bool true,.bool x.long,.slice Ax nx cx] 109)→ ∃(k':Nat) (B':Option Addr) (m' d':Nat),k'≤n∧Value.int .i64 ((k:Int)+1)= .int .i64 k'∧(∀(j:Nat) (s:Int),j<k'→l[j]? =some s→(lookW S s).is=true)∧m'=(jTo S (l.take k')).2.length∧Blk W w.heap.size 109 #[.bool false,.bool false,.slice none 0 0]∧Blk W (w.heap.size+1) 109 #[.bool true,.bool (jTo S (l.take k')).1,.slice B' m' d']∧W.ownsRow w.heap.size 3 1 (.slice B' m' d') m' ((jTo S (l.take k')).2.map I64)∧Below w.heap.size w W:=fun W hj hW=>by
       subst hW
       obtain⟨z1,z2,z3,z4,-,-⟩:=Xmark.out true
       exact⟨k+1,B,m,d,by omega,by go_num,Xhall2.out,by rw [hj];exact Xhm.out,z2,by rw [hj];exact z1,by rw [hj];exact z3,z4⟩
      have Xmarked:=hide marked;clear marked
      have lens:(nx:Int)+(m:Int)≤8192:=by omega
      cases hp1:p.1 with
      |true=>
       have hj:jTo S (l.take (k+1))=(true,p.2):=by rw [Xhnext.out,hp1];simp
       have hres:=Xmarked.out _ hj rfl
       rw [hp1]at o1
       have Xhj:=hide hj;have Xhres:=hide hres;have Xhp1:=hide hp1;clear hj hres hp1
       go_wp2_with fail
       go_roundw
       case rel=>exact Xhres.out
       case measure=>simp [intOf];omega
      |false=>
       rw [hp1]at o1
       cases hxl:x.long with
       |true=>
        have hj:jTo S (l.take (k+1))=(true,p.2):=by rw [Xhnext.out,hxl];simp
        have hres:=Xmarked.out _ hj rfl
        rw [hxl]at e1 hres
        have Xhj:=hide hj;have Xhres:=hide hres;have Xhp1:=hide hp1;have Xhxl:=hide hxl;clear hj hres hp1 hxl
        go_wp2_with fail
        go_roundw
        case rel=>exact Xhres.out
        case measure=>simp [intOf];omega
       |false=>
        by_cases hbig:4096<m+nx
        ·have hbig':(4096:Int)<(m:Int)+(nx:Int):=by omega
         have hj:jTo S (l.take (k+1))=(true,p.2):=by rw [Xhnext.out,decide_eq_true hbig];simp
         have hres:=Xmarked.out _ hj rfl
         rw [hxl]at e1 hres
         have Xhj:=hide hj;have Xhres:=hide hres;have Xhp1:=hide hp1;have Xhxl:=hide hxl;clear hj hres hp1 hxl
         go_wp2_with fail
         go_roundw
         case rel=>exact Xhres.out
         case measure=>simp [intOf];omega
        ·have hbig': ¬(4096:Int)<(m:Int)+(nx:Int):=by omega
         have hj:jTo S (l.take (k+1))=(false,p.2++x.l):=by rw [Xhnext.out,hp1,hxl,decide_eq_false hbig];simp
         obtain⟨mk1,mk0,mko,mkb,mkr,mkc⟩:=Xmark.out false
         rw [hxl]at e1 mk1 mk0 mko mkb mkr mkc
         have v2:=(mk1.cell 2).trans rfl
         have n1:=mk1.ne_own mko (by decide)
         have n0:=mk0.ne_own mko (by decide)
         have hxln:(x.l.map I64).length=nx * 1:=by simp;exact Xhnx.out.symm
         have hones: ∀u∈x.l.map I64,u.oneCell'=true:=fun u hu=>by obtain⟨y,_,rfl⟩:=List.mem_map.1 hu;rfl
         have hbz:=mkb.size
         have Xhj:=hide hj;have Xhp1:=hide hp1;have Xhxl:=hide hxl;have Xmk1:=hide mk1;have Xmk0:=hide mk0;have Xmko:=hide mko;have Xmkb:=hide mkb;have Xmkr:=hide mkr;have Xn1:=hide n1;have Xn0:=hide n0;have Xhxln:=hide hxln;have Xhones:=hide hones;clear hj hp1 hxl mk1 mk0 mko mkb mkr n1 n0 hxln hones
         go_wp2_with (at_builtin;refine wp_append _ rfl (.tmp 67) (.tmp 69) _ rfl Tryz.elemInt w.heap.size _ m (p.2.map I64) rfl Xmko.out F _ (x.l.map I64) nx rfl Xhxln.out Xmkr.out Xhones.out (by unfold maxLen;omega) (by omega) hbz ?_)
         intro A' c' w6 hown6 hg6 _
         have kk6:=Xmk1.out.grown hg6 (fun e=>Xn1.out e.symm)
         have k06:=Xmk0.out.grown hg6 (fun e=>Xn0.out e.symm)
         have d2:=(kk6.cell 2).trans rfl
         have f6:=kk6.frozen 2
         have hb6:=Xmkb.out.grown hg6 hbz (fun q hq=>(Xmko.out.lt q hq).1)
         have t6:Touch (fun q=>q=w.heap.size+1) w6 (w6.setCell ⟨w.heap.size+1,2,none⟩ (.slice A' (m+nx) c')):=(Touch.refl (fun q=>q=w.heap.size+1) w6).setCell (p:=⟨w.heap.size+1,2,none⟩) (fun _=>rfl) _
         have n6:=kk6.ne_own hown6 (by decide)
         have own6:(w6.setCell ⟨w.heap.size+1,2,none⟩ (.slice A' (m+nx) c')).ownsRow w.heap.size 3 1 (.slice A' (m+nx) c') (m+nx) ((p.2++x.l).map I64):=by
          have:=t6.own hown6 (fun q hq e=>n6 (by rw [hq,e]))
          rw [List.map_append];exact this
         have fin6:=And.intro (kk6.put 2 (.slice A' (m+nx) c')) (And.intro (k06.touch t6 (by omega)) (And.intro own6 (hb6.setCell (p:=⟨w.heap.size+1,2,none⟩) (by simp) (.slice A' (m+nx) c'))))
         clear hown6 hg6
         have Xfin6:=hide fin6;have Xkk6:=hide kk6;have Xk06:=hide k06;have Xhb6:=hide hb6;have Xt6:=hide t6;have Xn6:=hide n6;have Xown6:=hide own6;clear fin6 kk6 k06 hb6 t6 n6 own6
         go_wp2_with fail
         go_roundw
         case rel=>exact⟨k+1,A',m+nx,c',by omega,by go_num,Xhall2.out,by rw [Xhj.out];simp only [List.length_append];have:=Xhm.out;have:=Xhnx.out;omega,Xfin6.out.2.1,by rw [Xhj.out];exact Xfin6.out.1,by rw [Xhj.out];exact Xfin6.out.2.2.1,Xfin6.out.2.2.2⟩
         case measure=>simp [intOf];omega
  ·have hkn:k=l.length:=by have:=Xhn.out;omega
   have hjo:=joinOf_yes (S:=S) (l:=l) (fun j s hs=>hall j s (by have:=(List.getElem?_eq_some_iff.1 hs).1;omega) hs)
   have hpe:jTo S l=p:=by rw [hp,hkn,List.take_length]
   rw [hpe]at hjo
   have hrd:RdI wr (fun q=>w.heap.size≤q∧q<wr.heap.size) (.slice B m d) p.2:=(Rd.of_own own).mono (fun q hq=>own.lt q hq)
   cases hp1:p.1 with
   |true=>
    rw [hp1]at o1
    have Xhall:=hide hall;have Xhm:=hide hm;have Xhp:=hide hp;have Xk0:=hide k0;have Xk1:=hide k1;have Xown:=hide own;have Xhb:=hide hb;have Xhjo:=hide hjo;have Xhpe:=hide hpe;have Xhrd:=hide hrd;have Xhp1:=hide hp1;have Xhkn:=hide hkn;clear hall hm hp k0 k1 own hb hjo hpe hrd hp1 hkn
    go_wp2_with fail
    refine bodyPost_ret (v:= .agg #[.bool true,.bool true,.slice none 0 0]) (by simp [results,Tryz.results48,go_sem,q0,q1,q2]) rfl ?_
    refine⟨none,0,0,by rw [Xhjo.out,Xhp1.out],by rw [Xhjo.out,Xhp1.out];exact World.ownsRow_nil _ _ _ _,((((Xhb.out.setCell (by simp) _).setCell (by simp) _).setCell (by simp) _).setCell (by simp) _)⟩
   |false=>
    rw [hp1]at o1
    have Xhall:=hide hall;have Xhm:=hide hm;have Xhp:=hide hp;have Xk0:=hide k0;have Xk1:=hide k1;have Xown:=hide own;have Xhb:=hide hb;have Xhjo:=hide hjo;have Xhpe:=hide hpe;have Xhrd:=hide hrd;have Xhp1:=hide hp1;have Xhkn:=hide hkn;clear hall hm hp k0 k1 own hb hjo hpe hrd hp1 hkn
    go_wp2_with fail
    refine bodyPost_ret (v:= .agg #[.bool true,.bool false,.slice B m d]) (by simp [results,Tryz.results48,go_sem,q0,q1,q2]) rfl ?_
    have t3: ∀u1 u2 u3,Touch (fun q=>q=w.heap.size) wr (((wr.setCell ⟨w.heap.size,0,none⟩ u1).setCell ⟨w.heap.size,1,none⟩ u2).setCell ⟨w.heap.size,2,none⟩ u3):=fun u1 u2 u3=>(((Touch.refl (fun q=>q=w.heap.size) wr).setCell (p:=⟨w.heap.size,0,none⟩) (fun _=>rfl) u1).setCell (p:=⟨w.heap.size,1,none⟩) (fun _=>rfl) u2).setCell (p:=⟨w.heap.size,2,none⟩) (fun _=>rfl) u3
    have n3:=Xk0.out.ne_own Xown.out (by decide)
    have hown3:=fun u1 u2 u3=>(t3 u1 u2 u3).own Xown.out (fun q hq e=>n3 (by rw [hq,e]))
    refine⟨B,m,d,by rw [Xhjo.out,Xhp1.out],by rw [Xhjo.out,Xhp1.out];exact hown3 _ _ _,(((Xhb.out.setCell (by simp) _).setCell (by simp) _).setCell (by simp) _)⟩
theorem least_join {w:World} {F G:Nat→Prop} {b g:Nat} {S:List FoundD} {v:Value} {l:List Int} (h:IsWords w F b g S) (hl:RdI w G v l) (hG: ∀k,G k→k<w.heap.size) (hT: ∀k,(jTo S (l.take k)).2.length≤4096):
  Calls Tryz.prog 48 #[.pointer (some ⟨b,0,none⟩),v] w (JoinPost w (joinOf S l)):=(least_join_own h hl hG hT).mono fun e w' h=>h.post
end
section
open Go.RowKit
attribute [local irreducible] wpStill wpOne wpPh
theorem least_shortlex (w:World):Calls Tryz.prog 47 #[] w (Quiet w (.agg #[.func (.func 88) #[] #[]])):=by
 go_enter Tryz.func47,Tryz.ntmps47
 go_wp2_with fail
 refine bodyPost_ret (v:= .agg #[.func (.func 88) #[] #[]]) (by simp [results,Tryz.results47,go_sem]) rfl ?_
 exact⟨rfl,(Below.refl _ w).alloc (Nat.le_refl _) _⟩
theorem least_better {w:World} {F G:Nat→Prop} {v u:Value} (x y:FoundD) (hx:RdI w F v x.l) (hy:RdI w G u y.l) (hF: ∀k,F k→k<w.heap.size) (hG: ∀k,G k→k<w.heap.size):
  Calls Tryz.prog 49 #[.agg #[.func (.func 88) #[] #[]],.agg #[.bool x.is,.bool x.long,v],.agg #[.bool y.is,.bool y.long,u]] w (Quiet w (.bool (betterB x y))):=by
 have hv:betterB x y=(x.is&&(!y.is||(if(x.long||y.long)=true then y.long&& !x.long else lessB x.l y.l))):=rfl
 obtain⟨w3,hw3⟩: ∃w3,w3=((w.alloc (.cells #[.func (.func 88) #[] #[]] 112)).alloc (.cells #[.bool x.is,.bool x.long,v] 109)).alloc (.cells #[.bool y.is,.bool y.long,u] 109):=⟨_,rfl⟩
 have hb:Below w.heap.size w w3:=by rw [hw3];exact(((Below.refl _ w).alloc (Nat.le_refl _) _).alloc (by simp) _).alloc (by simp;omega) _
 have hc:=less_clo (hx.below hb hF) (hy.below hb hG)
 obtain⟨A,n,c,rfl,-⟩:=id hx
 obtain⟨B,m,d,rfl,-⟩:=id hy
 have eg:=Tryz.enters_less
 have eg': ∀args w,(callFunc 88 args).run Tryz.prog w= .ok (.enter 88 args) w:=eg
 rw [hw3]at hb hc
 generalize x.is=xi at *
 generalize y.is=yi at *
 generalize x.long=xl at *
 generalize y.long=yl at *
 generalize lessB x.l y.l=q at *
 clear hx hy hF hG eg hw3
 cases xi with
 |false=>
  have Xhv:=hide hv;have Xhb:=hide hb;have Xhc:=hide hc;clear hv hb hc
  go_enter Tryz.func49,Tryz.ntmps49
  go_wp2_with fail
  go_ret
  exact⟨ret_bool (by rw [Xhv.out];first|rfl|simp),Xhb.out⟩
 |true=>
  cases yi with
  |false=>
   have Xhv:=hide hv;have Xhb:=hide hb;have Xhc:=hide hc;clear hv hb hc
   go_enter Tryz.func49,Tryz.ntmps49
   go_wp2_with fail
   go_ret
   exact⟨ret_bool (by rw [Xhv.out];first|rfl|simp),Xhb.out⟩
  |true=>
   cases xl with
   |true=>
    cases yl with
    |true=>
     have Xhv:=hide hv;have Xhb:=hide hb;have Xhc:=hide hc;clear hv hb hc
     go_enter Tryz.func49,Tryz.ntmps49
     go_wp2_with fail
     go_ret
     exact⟨ret_bool (by rw [Xhv.out];first|rfl|simp),Xhb.out⟩
    |false=>
     have Xhv:=hide hv;have Xhb:=hide hb;have Xhc:=hide hc;clear hv hb hc
     go_enter Tryz.func49,Tryz.ntmps49
     go_wp2_with fail
     go_ret
     exact⟨ret_bool (by rw [Xhv.out];first|rfl|simp),Xhb.out⟩
   |false=>
    cases yl with
    |true=>
     have Xhv:=hide hv;have Xhb:=hide hb;have Xhc:=hide hc;clear hv hb hc
     go_enter Tryz.func49,Tryz.ntmps49
     go_wp2_with fail
     go_ret
     exact⟨ret_bool (by rw [Xhv.out];first|rfl|simp),Xhb.out⟩
    |false=>
     have Xhv:=hide hv;have Xhb:=hide hb;have Xhc:=hide hc;clear hv hb hc
     go_enter Tryz.func49,Tryz.ntmps49
     go_wp2_with (go_at_fn 88;refine Xhc.out.mono ?_;rintro e w' ⟨rfl,rfl⟩)
     go_ret
     exact⟨ret_bool (by rw [Xhv.out];simp),Xhb.out⟩
def LinePost (w:World) (x:FoundD) (e:Ending) (w':World):Prop:= ∃A n c,e= .returned (.tuple #[.slice A n c,.bool (x.is&& !x.long)])∧RdI w' (fun k=>w.heap.size≤k∧k<w'.heap.size) (.slice A n c) x.l∧Below w.heap.size w w'
def LineOwn (w:World) (x:FoundD) (e:Ending) (w':World):Prop:= ∃A n c,e= .returned (.tuple #[.slice A n c,.bool (x.is&& !x.long)])∧w'.ownsRow w.heap.size 3 1 (.slice A n c) n (x.l.map I64)∧Below w.heap.size w w'
set_option maxRecDepth 100000 in
theorem least_line_own {w:World} {F G:Nat→Prop} {b g:Nat} {S:List FoundD} {v:Value} {l:List Int} (h:IsWords w F b g S) (hl:RdI w G v l) (hG: ∀k,G k→k<w.heap.size) (hT: ∀k,(jTo S (l.take k)).2.length≤4096):
  Calls Tryz.prog 91 #[.pointer (some ⟨b,0,none⟩),v] w (LineOwn w (joinOf S l)):=by
 have hj:=least_join_own h hl hG hT
 obtain⟨A,n,c,rfl,-⟩:=id hl
 obtain⟨x,hx⟩: ∃x,x=joinOf S l:=⟨_,rfl⟩
 rw [←hx]at hj⊢
 have Xhj:=hide hj;have Xhx:=hide hx;clear hj hx;clear h hl hG hT
 go_enter Tryz.func91,Tryz.ntmps91
 go_wp2_with fail
 refine Xhj.out.mono ?_
 rintro e w1 ⟨B,m,d,rfl,hr,hb⟩
 have hr2:=fun o=>(hr.alloc o).drew
 have hb2:=fun o=>hb.alloc hb.size o
 cases hxi:x.is with
 |false=>
  have Xhr:=hide hr;have Xhb:=hide hb;have Xhxi:=hide hxi;have Xhr2:=hide hr2;have Xhb2:=hide hb2;clear hr hb hxi hr2 hb2
  go_wp2_with fail
  refine region_reads (by kernel_rfl) (by kernel_rfl) ?_
  repeat still_step
  refine wpStill_nil ?_
  go_wp2_with fail
  go_ret2
  exact⟨B,m,d,by rw [Xhxi.out];rfl,Xhr2.out _,(Xhb2.out _).drew⟩
 |true=>
  have Xhr:=hide hr;have Xhb:=hide hb;have Xhxi:=hide hxi;have Xhr2:=hide hr2;have Xhb2:=hide hb2;clear hr hb hxi hr2 hb2
  go_wp2_with fail
  refine region_reads (by kernel_rfl) (by kernel_rfl) ?_
  repeat still_step
  refine wpStill_nil ?_
  go_wp2_with fail
  go_ret2
  exact⟨B,m,d,by rw [Xhxi.out];simp,Xhr2.out _,(Xhb2.out _).drew⟩
end
end Go.Proofs.YtalbfonkhpeajaaGreat
namespace Go.Proofs.YtalbfonkhpeajaaGreat
set_option linter.unusedVariables false
section
open Go.RowKit
theorem Tryz.infoFound:(Tryz.prog.info? 109).map (fun i=>(i.zero,i.size,i.bytes))=some (some (.agg #[.bool false,.bool false,.slice none 0 0]),3,32):=by kernel_rfl
theorem made_at (z:Array Value) (n i:Nat) (hz:0<z.size) (hi:i<n):(madeCells z n)[i]? =z[i%z.size]? :=by
 unfold madeCells
 rw [Array.getElem?_map,Array.getElem?_range]
 rw [if_pos hi]
 have:i%z.size<z.size:=Nat.mod_lt _ hz
 simp [this]
def Empties (Z:Array Value) (n:Nat):Prop:=Z.size=n * 3∧ ∀i,i<n→Z[i * 3]? =some (.bool false)∧Z[i * 3+1]? =some (.bool false)∧Z[i * 3+2]? =some (.slice none 0 0)
theorem make_found (n:Nat) (hn:n≤65536): ∃Z:Array Value,Empties Z n∧ ∀w:World,(Instr.makeSlice 105 (.int .i64 (n:Int)) (.int .i64 (n:Int))).run Tryz.prog w= .ok (.slice (some ⟨w.heap.size,0,none⟩) n n) (w.alloc (.cells Z 109)):=by
 obtain⟨i,hi,hz,hsize,hby⟩:=info_parts Tryz.infoFound
 refine⟨madeCells #[.bool false,.bool false,.slice none 0 0] (n * 3),⟨size_madeCells _ _,fun k hk=> ?_⟩,fun w=> ?_⟩
 ·refine⟨?_,?_,?_⟩
  ·rw [made_at _ _ _ (by decide) (by omega)]
   have:k * 3%3=0:=by omega
   simp [this]
  ·rw [made_at _ _ _ (by decide) (by omega)]
   have:(k * 3+1)%3=1:=by omega
   simp [this]
  ·rw [made_at _ _ _ (by decide) (by omega)]
   have:(k * 3+2)%3=2:=by omega
   simp [this]
 ·have hr:=run_make (P:=Tryz.prog) w 105 109 i _ Tryz.underlying105 hi hz .i64 .i64 (n:Int) n (by omega) (by omega) (by rw [hby];omega) (by omega)
  simp only [Int.toNat_natCast]at hr
  rw [hr,hsize]
  rfl
theorem IsWords.mono {w:World} {F F':Nat→Prop} {b g:Nat} {S:List FoundD} (h:IsWords w F b g S) (hF: ∀k,F k→F' k) (hl: ∀k,F' k→k<w.heap.size) (hg: ∀k,F' k→k≠g):IsWords w F' b g S:=by
 obtain⟨cells,hk,hs,hc⟩:=h.row
 exact⟨h.blk,⟨cells,hk,hs,fun i x hx=>by
  obtain⟨h1,h2,v,h3,h4⟩:=hc i x hx
  exact⟨h1,h2,v,h3,h4.mono hF⟩⟩,hl,hg,h.lens,h.size⟩
theorem IsWords.made {w:World} {F:Nat→Prop} {b g n:Nat} {Z:Array Value} (hb:Blk w b 107 #[.slice (some ⟨g,0,none⟩) n n]) (hg:Blk w g 109 Z) (hZ:Empties Z n) (hn:n≤65536) (hF: ∀k,F k→k<w.heap.size∧k≠g):IsWords w F b g (List.replicate n noFound):=by
 refine⟨by simpa using hb,⟨Z,hg,by simpa using hZ.1,fun i x hx=> ?_⟩,fun k hk=>(hF k hk).1,fun k hk=>(hF k hk).2,fun x hx=>by rw [(List.mem_replicate.1 hx).2];simp [noFound],by simpa using hn⟩
 have hi:=(List.getElem?_eq_some_iff.1 hx).1
 have hxe:=List.mem_of_getElem? hx
 rw [(List.mem_replicate.1 hxe).2]
 rw [List.length_replicate]at hi
 obtain⟨h1,h2,h3⟩:=hZ.2 i hi
 exact⟨h1,h2,_,h3,Rd.nil _ _ _⟩
theorem set_other (cells:Array Value) (i j:Nat) (v:Value) (h:j≠i):(cells.setIfInBounds j v)[i]? =cells[i]? :=Array.getElem?_setIfInBounds_ne h
theorem set_same (cells:Array Value) (i:Nat) (v:Value) (h:i<cells.size):(cells.setIfInBounds i v)[i]? =some v:=by
 rw [Array.getElem?_setIfInBounds_self_of_lt h]
theorem IsWords.put {w:World} {F:Nat→Prop} {b g:Nat} {S:List FoundD} (h:IsWords w F b g S) {k:Nat} (hk:k<S.length) (x:FoundD) {v:Value} (hv:RdI w F v x.l) (hl:x.l.length≤4096):
  IsWords (((w.setCell ⟨g,k * 3,none⟩ (.bool x.is)).setCell ⟨g,k * 3+1,none⟩ (.bool x.long)).setCell ⟨g,k * 3+2,none⟩ v) F b g (S.set k x)∧
   Touch (fun q=>q=g) w (((w.setCell ⟨g,k * 3,none⟩ (.bool x.is)).setCell ⟨g,k * 3+1,none⟩ (.bool x.long)).setCell ⟨g,k * 3+2,none⟩ v):=by
 have t:Touch (fun q=>q=g) w (((w.setCell ⟨g,k * 3,none⟩ (.bool x.is)).setCell ⟨g,k * 3+1,none⟩ (.bool x.long)).setCell ⟨g,k * 3+2,none⟩ v):=
  (((Touch.refl (fun q=>q=g) w).setCell (p:=⟨g,k * 3,none⟩) (fun _=>rfl) _).setCell (p:=⟨g,k * 3+1,none⟩) (fun _=>rfl) _).setCell (p:=⟨g,k * 3+2,none⟩) (fun _=>rfl) _
 obtain⟨cells,hg,hs,hc⟩:=h.row
 have hbg:b≠g:=h.blk.ne hg (by decide)
 refine⟨⟨by rw [List.length_set];exact h.blk.touch t hbg,⟨_,((hg.put _ _).put _ _).put _ _,by simp [hs],fun i y hy=> ?_⟩,fun q hq=>Nat.lt_of_lt_of_le (h.lt q hq) t.size,h.far,fun y hy=> ?_,by rw [List.length_set];exact h.size⟩,t⟩
 ·have hi:=(List.getElem?_eq_some_iff.1 hy).1
  rw [List.length_set]at hi
  by_cases e:i=k
  ·subst e
   rw [List.getElem?_set_self hk]at hy
   injection hy with hy
   subst hy
   have hb3:i * 3+2<cells.size:=by omega
   refine⟨?_,?_,v,?_,hv.touch t h.far⟩
   ·rw [set_other _ _ _ _ (by omega),set_other _ _ _ _ (by omega),set_same _ _ _ (by omega)]
   ·rw [set_other _ _ _ _ (by omega),set_same _ _ _ (by simp;omega)]
   ·rw [set_same _ _ _ (by simp;omega)]
  ·rw [List.getElem?_set_ne (fun e'=>e e'.symm)]at hy
   obtain⟨h1,h2,u,h3,h4⟩:=hc i y hy
   refine⟨?_,?_,u,?_,h4.touch t h.far⟩
   ·rw [set_other _ _ _ _ (by omega),set_other _ _ _ _ (by omega),set_other _ _ _ _ (by omega),h1]
   ·rw [set_other _ _ _ _ (by omega),set_other _ _ _ _ (by omega),set_other _ _ _ _ (by omega),h2]
   ·rw [set_other _ _ _ _ (by omega),set_other _ _ _ _ (by omega),set_other _ _ _ _ (by omega),h3]
 ·rcases List.mem_or_eq_of_mem_set hy with hy|rfl
  ·exact h.lens y hy
  ·exact hl
theorem IsWords.putIs {w:World} {F:Nat→Prop} {b g:Nat} {S:List FoundD} (h:IsWords w F b g S) {k:Nat} {x:FoundD} (hk:S[k]? =some x) (i:Bool):
  IsWords (w.setCell ⟨g,k * 3,none⟩ (.bool i)) F b g (S.set k ⟨i,x.long,x.l⟩)∧Touch (fun q=>q=g) w (w.setCell ⟨g,k * 3,none⟩ (.bool i)):=by
 have t:Touch (fun q=>q=g) w (w.setCell ⟨g,k * 3,none⟩ (.bool i)):=(Touch.refl (fun q=>q=g) w).setCell (p:=⟨g,k * 3,none⟩) (fun _=>rfl) _
 obtain⟨cells,hg,hs,hc⟩:=h.row
 have hbg:b≠g:=h.blk.ne hg (by decide)
 have hkl:=(List.getElem?_eq_some_iff.1 hk).1
 refine⟨⟨by rw [List.length_set];exact h.blk.touch t hbg,⟨_,hg.put _ _,by simp [hs],fun j y hy=> ?_⟩,fun q hq=>Nat.lt_of_lt_of_le (h.lt q hq) t.size,h.far,fun y hy=> ?_,by rw [List.length_set];exact h.size⟩,t⟩
 ·by_cases e:j=k
  ·subst e
   rw [List.getElem?_set_self hkl]at hy
   injection hy with hy
   subst hy
   obtain⟨h1,h2,u,h3,h4⟩:=hc j x hk
   refine⟨set_same _ _ _ (by omega),?_,u,?_,h4.touch t h.far⟩
   ·rw [set_other _ _ _ _ (by omega),h2]
   ·rw [set_other _ _ _ _ (by omega),h3]
  ·rw [List.getElem?_set_ne (fun e'=>e e'.symm)]at hy
   obtain⟨h1,h2,u,h3,h4⟩:=hc j y hy
   refine⟨?_,?_,u,?_,h4.touch t h.far⟩
   ·rw [set_other _ _ _ _ (by omega),h1]
   ·rw [set_other _ _ _ _ (by omega),h2]
   ·rw [set_other _ _ _ _ (by omega),h3]
 ·rcases List.mem_or_eq_of_mem_set hy with hy|rfl
  ·exact h.lens y hy
  ·exact h.lens x (List.mem_of_getElem? hk)
def startTo (T N k:Nat):List FoundD:=⟨true,false,[]⟩::((List.range k).map (fun(i:Nat)=>(⟨true,false,[(i:Int)+1]⟩:FoundD))++List.replicate (T+N - k) noFound)
theorem startTo_len {T N k:Nat} (h:k≤T):(startTo T N k).length=T+N+1:=by unfold startTo;simp;omega
theorem startTo_end (T N:Nat):startTo T N T=startW T N:=by unfold startTo startW;rw [show T+N - T=N by omega]
theorem startTo_zero (T N:Nat):startTo T N 0=(List.replicate (T+N+1) noFound).set 0 ⟨true,noFound.long,noFound.l⟩:=by
 unfold startTo
 rw [List.replicate_succ]
 rfl
theorem startTo_succ {T N k:Nat} (h:k<T):(startTo T N k).set (k+1) ⟨true,false,[(k:Int)+1]⟩=startTo T N (k+1):=by
 unfold startTo
 rw [List.set_cons_succ]
 congr 1
 rw [List.range_succ,List.map_append,List.append_assoc]
 rw [List.set_append_right _ _ (by simp)]
 congr 1
 rw [show T+N - k=(T+N - (k+1))+1 by omega,List.replicate_succ]
 simp
def passK (rs:List (Int×List Int)) (S:List FoundD) (k:Nat):List FoundD×Bool:=passTo (rs.take k) S
theorem passK_succ {rs:List (Int×List Int)} {S:List FoundD} {k:Nat} {r:Int×List Int} (h:rs[k]? =some r):passK rs S (k+1)=((stepR (passK rs S k).1 r).1,(passK rs S k).2||(stepR (passK rs S k).1 r).2):=by
 unfold passK passTo
 rw [List.take_add_one,h,List.foldl_append]
 rfl
theorem passK_end (rs:List (Int×List Int)) (S:List FoundD):passK rs S rs.length=passTo rs S:=by unfold passK;rw [List.take_length]
theorem passK_good {B T n:Nat} (hB:B=T+1) {rs:List (Int×List Int)} {S:List FoundD} (hS:GoodS T S) (hl:S.length=n) (hr: ∀r∈rs,0≤r.1∧r.1<n): ∀k:Nat,k≤rs.length→GoodS T (passK rs S k).1∧(passK rs S k).1.length=n∧(((passK rs S k).2=false∧(passK rs S k).1=S)∨((passK rs S k).2=true∧totalW B (passK rs S k).1<totalW B S))
 |0,_=>⟨hS,hl,.inl ⟨rfl,rfl⟩⟩
 |k+1,hk=>by
  obtain⟨h1,h2,h3⟩:=passK_good hB hS hl hr k (by omega)
  have hx:rs[k]? =some rs[k]:=List.getElem?_eq_getElem (by omega)
  have hrk:=hr rs[k] (List.getElem_mem _)
  rw [passK_succ hx]
  obtain⟨g1,g2⟩:=stepR_good h1 rs[k]
  refine⟨g1,by rw [g2];exact h2,?_⟩
  rcases stepR_rank hB h1 hrk.1 (by rw [h2];exact hrk.2)with⟨e1,e2⟩|⟨e1,e2⟩
  ·rw [e1,e2,Bool.or_false];exact h3
  ·rw [e1,Bool.or_true]
   rcases h3 with⟨_,h4⟩|⟨_,h4⟩
   ·exact .inr ⟨rfl,by rw [h4]at e2;simpa [h4]using e2⟩
   ·exact .inr ⟨rfl,by show totalW B (stepR (passK rs S k).1 rs[k]).1<totalW B S;omega⟩
end
section
open Go.RowKit
attribute [local irreducible] wpStill wpOne wpPh
def LeastPost (G:GramD) (st:Int) (w:World) (e:Ending) (w':World):Prop:=
 Below w.heap.size w w'∧((checkOf G st≠0∧e= .returned (.pointer none))∨(checkOf G st=0∧ ∃(S:List FoundD) (b g:Nat),e= .returned (.pointer (some ⟨b,0,none⟩))∧Fixed G.rules (startW G.terms.length G.nons.length) S∧
  IsWords w' (fun q=>w.heap.size≤q∧q<w'.heap.size∧q≠g) b g S∧w.heap.size≤b∧w.heap.size≤g∧GoodS G.terms.length S∧S.length=G.terms.length+G.nons.length+1))
theorem put3_alloc (w:World) (o:Obj) (g a b c:Nat) (u v x:Value) (hg:g<w.heap.size):(((w.alloc o).setCell ⟨g,a,none⟩ u).setCell ⟨g,b,none⟩ v).setCell ⟨g,c,none⟩ x=(((w.setCell ⟨g,a,none⟩ u).setCell ⟨g,b,none⟩ v).setCell ⟨g,c,none⟩ x).alloc o:=by
 rw [World.setCell_alloc_past _ _ _ _ hg,World.setCell_alloc_past _ _ _ _ (by simpa [World.setCell]using hg),World.setCell_alloc_past _ _ _ _ (by simpa [World.setCell]using hg)]
theorem IsWords.frozen {w:World} {F:Nat→Prop} {b g:Nat} {S:List FoundD} (h:IsWords w F b g S) (i:Nat):w.frozen? ⟨g,i,none⟩=false:=by
 obtain⟨cells,hg,_⟩:=h.row
 exact hg.frozen i
theorem IsWords.ltg {w:World} {F:Nat→Prop} {b g:Nat} {S:List FoundD} (h:IsWords w F b g S):g<w.heap.size:=by
 obtain⟨cells,hg,_⟩:=h.row
 exact hg.lt
structure LCtx (w wr:World) (F:Nat→Prop) (A1:Option Addr) (c1:Nat) (A2:Option Addr) (c2:Nat) (A3:Option Addr) (c3 T N R:Nat) (st:Int) (G:GramD) (gz zo:Nat) (S:List FoundD):Prop where
 g:GBox wr F w.heap.size A1 c1 A2 c2 A3 c3 T N R st G
 o:zo=0∨Blk wr zo 112 #[.func (.func 88) #[] #[]]
 ws:IsWords wr (fun q=>gz+1<q∧q<wr.heap.size) (gz+1) gz S
 b:Below w.heap.size w wr
 z:w.heap.size<gz
 f: ∀b,F b→b<w.heap.size
section
variable {w wr wr' : World} {F : Nat → Prop} {A1 : Option Addr} {c1 : Nat} {A2 : Option Addr} {c2 : Nat} {A3 : Option Addr} {c3 T N R : Nat} {st : Int} {G : GramD} {gz zo : Nat} {S : List FoundD}
theorem LCtx.below (h:LCtx w wr F A1 c1 A2 c2 A3 c3 T N R st G gz zo S) (b:Below wr.heap.size wr wr'):LCtx w wr' F A1 c1 A2 c2 A3 c3 T N R st G gz zo S:=
 ⟨h.g.below b,h.o.elim .inl fun o=> .inr (o.below b o.lt),(h.ws.below b).mono (fun k hk=>⟨hk.1,Nat.lt_of_lt_of_le hk.2 b.size⟩) (fun k hk=>hk.2) (fun k hk e=>by omega),h.b.trans (b.mono h.b.size),h.z,h.f⟩
theorem LCtx.turn {S':List FoundD} (h:LCtx w wr F A1 c1 A2 c2 A3 c3 T N R st G gz zo S) (t:Touch (fun q=>q=gz) wr wr') (hs:wr'.heap.size=wr.heap.size) (ws:IsWords wr' (fun q=>gz+1<q∧q<wr.heap.size) (gz+1) gz S'):LCtx w wr' F A1 c1 A2 c2 A3 c3 T N R st G gz zo S':=by
 have hzz:=h.z
 obtain⟨cells,hg,_⟩:=h.ws.row
 refine⟨h.g.touch t (fun k hk e=>by have:=h.f k hk;omega) (fun e=>by omega),h.o.elim .inl fun o=> .inr (o.touch t (o.ne hg (by decide))),ws.mono (fun k hk=>⟨hk.1,by omega⟩) (fun k hk=>hk.2) (fun k hk e=>by omega),h.b.trans (t.below (fun k hk _ e=>by omega) h.b.size),hzz,h.f⟩
end
theorem setCell_size (w:World) (p:Addr) (v:Value):(w.setCell p v).heap.size=w.heap.size:=by simp [World.setCell]
set_option maxRecDepth 100000 in
set_option maxHeartbeats 4000000 in
theorem least_of {w:World} {F:Nat→Prop} {vt vn vr:Value} {G:GramD} (h:IsGram w F vt vn vr G) (st:Int):
  Calls Tryz.prog 18 #[GV vt vn vr st] w (LeastPost G st w):=by
 obtain⟨A1,c1,A2,c2,A3,c3,rfl,rfl,rfl,-⟩:=h.slices
 obtain⟨w1,hw1⟩: ∃w1,w1=w.alloc (.cells #[.slice A1 G.terms.length c1,.slice A2 G.nons.length c2,.slice A3 G.rules.length c3,.int .i64 st] 25):=⟨_,rfl⟩
 have g1:=GBox.new h st
 have b1:Below w.heap.size w w1:=by rw [hw1];exact(Below.refl _ w).alloc (Nat.le_refl _) _
 have z1:w1.heap.size=w.heap.size+1:=by rw [hw1];simp
 rw [←hw1]at g1
 have hc:=gram_check g1.gram st
 obtain⟨q0,q1,q2,q3⟩:=g1.cells
 have hFw:=h.lt
 by_cases hz:checkOf G st=0
 ·obtain⟨hmany,-,-,hkn,-,-⟩:=checkOf_zero hz
  obtain⟨hT1,hN1,hR1,-⟩:=manyOf_no hmany
  rw [hz]at hc
  have hcT:=fun wr (g:GBox wr F w.heap.size A1 c1 A2 c2 A3 c3 G.terms.length G.nons.length G.rules.length st G)=>gram_top g.gram st
  have htop:topOf G=G.terms.length+G.nons.length:=rfl
  rw [htop]at hcT
  generalize hT:G.terms.length=T at *
  generalize hN:G.nons.length=N at *
  generalize hR:G.rules.length=R at *
  obtain⟨Z,hZ,hmk0⟩:=make_found (T+N+1) (by omega)
  have hmk: ∀w:World,(Instr.makeSlice 105 (.int .i64 ((T:Int)+(N:Int)+1)) (.int .i64 ((T:Int)+(N:Int)+1))).run Tryz.prog w= .ok (.slice (some ⟨w.heap.size,0,none⟩) (T+N+1) (T+N+1)) (w.alloc (.cells Z 109)):=fun w=>by
   have:=hmk0 w
   rw [show((T+N+1:Nat):Int)=(T:Int)+(N:Int)+1 by omega]at this
   exact this
  rw [hw1]at hc q0 q1 q2 q3
  clear hmk0 h
  have Xhc:=hide hc;have Xhz:=hide hz;have XhFw:=hide hFw;have Xhkn:=hide hkn;have Xhmany:=hide hmany;have XhcT:=hide hcT;have XhT:=hide hT;have XhN:=hide hN;have XhR:=hide hR;have XhZ:=hide hZ;have Xhtop:=hide htop;have Xb1:=hide b1;have Xz1:=hide z1;clear hc hz hFw hkn hmany hcT hT hN hR hZ htop b1 z1
  go_enter Tryz.func18,Tryz.ntmps18
  go_wp2_with fail
  refine Xhc.out.mono ?_
  rintro e w2 ⟨rfl,b2⟩
  rw [←hw1]at b2
  have g2:=g1.below b2
  have hb2:=Xb1.out.trans (b2.mono Xb1.out.size)
  have z2:w.heap.size+1≤w2.heap.size:=by have:=b2.size;have:=Xz1.out;omega
  clear hw1 q0 q1 q2 q3 Xhc g1 b2
  obtain⟨q0,q1,q2,q3⟩:=g2.cells
  go_wp2_with fail
  refine(XhcT.out _ g2).mono ?_
  rintro e w3 ⟨rfl,b3⟩
  have g3:=g2.below b3
  have hb3:=hb2.trans (b3.mono hb2.size)
  have z3:w.heap.size+1≤w3.heap.size:=by have:=b3.size;omega
  clear q0 q1 q2 q3 g2 hb2 b3 z2
  go_upto_region 4 with fail
  obtain⟨w5,hw5⟩: ∃w5,w5=(w3.alloc (.cells Z 109)).alloc (.cells #[.slice (some ⟨w3.heap.size,0,none⟩) (T+N+1) (T+N+1)] 107):=⟨_,rfl⟩
  have b5:Below w3.heap.size w3 w5:=by rw [hw5];exact((Below.refl _ w3).alloc (Nat.le_refl _) _).alloc (by simp) _
  have kz:Blk w5 w3.heap.size 109 Z:=by rw [hw5];exact(Blk.new w3 _ _).alloc _
  have kw:Blk w5 (w3.heap.size+1) 107 #[.slice (some ⟨w3.heap.size,0,none⟩) (T+N+1) (T+N+1)]:=by
   rw [hw5]
   have:=Blk.new (w3.alloc (.cells Z 109)) 107 #[.slice (some ⟨w3.heap.size,0,none⟩) (T+N+1) (T+N+1)]
   simpa using this
  have z5:w5.heap.size=w3.heap.size+2:=by rw [hw5];simp
  rw [←hw5]
  have g5:=g3.below b5
  have hb5:=hb3.trans (b5.mono hb3.size)
  clear hw5 b5 g3 hb3
  generalize hgz:w3.heap.size=gz at *
  have ws5:IsWords w5 (fun q=>gz+1<q∧q<w5.heap.size) (gz+1) gz (List.replicate (T+N+1) noFound):=IsWords.made kw kz XhZ.out (by omega) (fun k hk=>⟨hk.2,by omega⟩)
  have ctx5:LCtx w w5 F A1 c1 A2 c2 A3 c3 T N R st G gz 0 (List.replicate (T+N+1) noFound):=⟨g5,.inl rfl,ws5,hb5,by omega,XhFw.out⟩
  have hp0:=ws5.putIs (k:=0) (x:=noFound) (by rw [List.getElem?_replicate];simp) true
  have ctx6:=ctx5.turn (S':=startTo T N 0) hp0.2 (setCell_size _ _ _) (by rw [startTo_zero];exact hp0.1)
  have e0:w5.cell? ⟨gz,0,none⟩=some (.bool false):=(kz.cell 0).trans (by have:=(XhZ.out.2 0 (by omega)).1;simpa using this)
  have f0:=kz.frozen 0
  have p0:w5.cell? ⟨gz+1,0,none⟩=some (.slice (some ⟨gz,0,none⟩) (T+N+1) (T+N+1)):=(kw.cell 0).trans rfl
  clear kz kw z5 z3 g5 hb5 ws5 ctx5 hp0 hmk
  have Xctx6:=hide ctx6;have Xhgz:=hide hgz;clear ctx6 hgz
  go_wp2_with fail
  go_loopw [4] (fun i wr=> ∃k:Nat,k≤T∧i= .int .i64 ((k:Int)+1)∧LCtx w wr F A1 c1 A2 c2 A3 c3 T N R st G gz 0 (startTo T N k)) (fun i _=>(T+1) - (intOf i).toNat)
  case atStart=>exact⟨0,Nat.zero_le _,rfl,Xctx6.out⟩
  case round=>
   clear Xctx6 e0 f0 p0
   obtain⟨k,hk,rfl,ctx⟩:=hrel
   obtain⟨q0,q1,q2,q3⟩:=ctx.g.cells
   have ct:=gram_term ctx.g.gram st ((k:Int)+1)
   have htm:isTerm G ((k:Int)+1)=decide (k+1≤T):=by
    rw [Bool.eq_iff_iff,isTerm_iff,decide_eq_true_eq,XhT.out];omega
   rw [htm]at ct
   by_cases hlt:k<T
   ·rw [decide_eq_true (by omega)]at ct
    have Xct:=hide ct;have Xhtm:=hide htm;clear ct htm
    go_wp2_with fail
    refine Xct.out.mono ?_
    rintro e w6 ⟨rfl,b6⟩
    have ctx6:=ctx.below b6
    clear ctx b6 q0 q1 q2 q3
    have hlen:=startTo_len (N:=N) hk
    have hptr:=ctx6.ws.ptr
    rw [hlen]at hptr
    obtain⟨x,Ax,nx,cx,hx,e0,e1,e2,-⟩:=ctx6.ws.at_ (k:=k+1) (by rw [hlen];omega)
    have f0:=ctx6.ws.frozen ((k+1) * 3)
    have f1:=ctx6.ws.frozen ((k+1) * 3+1)
    have f2:=ctx6.ws.frozen ((k+1) * 3+2)
    have hgl:=ctx6.ws.ltg
    have k1:(k:Int)+1<(T:Int)+(N:Int)+1:=by omega
    have fin:LCtx w ((((w6.setCell ⟨gz,(k+1) * 3,none⟩ (.bool true)).setCell ⟨gz,(k+1) * 3+1,none⟩ (.bool false)).setCell ⟨gz,(k+1) * 3+2,none⟩ (.slice (some ⟨w6.heap.size,0,none⟩) 1 1)).alloc (.cells #[.int .i64 ((k:Int)+1)] 3)) F A1 c1 A2 c2 A3 c3 T N R st G gz 0 (startTo T N (k+1)):=by
     have ba:Below w6.heap.size w6 (w6.alloc (.cells #[.int .i64 ((k:Int)+1)] 3)):=(Below.refl _ _).alloc (Nat.le_refl _) _
     have c7:=ctx6.below ba
     have hv:RdI (w6.alloc (.cells #[.int .i64 ((k:Int)+1)] 3)) (fun q=>gz+1<q∧q<(w6.alloc (.cells #[.int .i64 ((k:Int)+1)] 3)).heap.size) (.slice (some ⟨w6.heap.size,0,none⟩) 1 1) [(k:Int)+1]:=by
      have hbl:=ctx6.ws.blk.lt
      exact(Rd.one' (w:=w6) (e:=3) [I64 ((k:Int)+1)] 1 rfl).mono (fun q hq=>⟨by omega,by rw [hq];simp⟩)
     have hp:=c7.ws.put (k:=k+1) (by rw [hlen];omega) ⟨true,false,[(k:Int)+1]⟩ hv (by simp)
     rw [startTo_succ hlt]at hp
     have c8:=c7.turn hp.2 (by simp [World.setCell]) hp.1
     rw [put3_alloc _ _ _ _ _ _ _ _ _ hgl]at c8
     exact c8
    clear hlen hx
    have Xfin:=hide fin;have Xctx6:=hide ctx6;clear fin ctx6
    go_wp2_with fail
    go_roundw
    case rel=>exact⟨k+1,by omega,by go_num,Xfin.out⟩
    case measure=>simp [intOf];omega
   ·rw [decide_eq_false (by omega)]at ct
    have Xct:=hide ct;have Xhtm:=hide htm;clear ct htm
    go_wp2_with fail
    refine Xct.out.mono ?_
    rintro e w6 ⟨rfl,b6⟩
    have ctx6:=ctx.below b6
    clear ctx b6 q0 q1 q2 q3
    obtain rfl:k=T:=by omega
    go_wp2_with fail
    refine(least_shortlex _).mono ?_
    rintro e w7 ⟨rfl,b7⟩
    have ctx7:=ctx6.below b7
    clear ctx6 b7
    have ctx8:LCtx w (w7.alloc (.cells #[.func (.func 88) #[] #[]] 112)) F A1 c1 A2 c2 A3 c3 k N R st G gz w7.heap.size (startW k N):=by
     have c:=ctx7.below ((Below.refl _ _).alloc (Nat.le_refl _) (.cells #[.func (.func 88) #[] #[]] 112))
     rw [startTo_end]at c
     exact⟨c.g,.inr (Blk.new w7 _ _),c.ws,c.b,c.z,c.f⟩
    have hz7:0<w7.heap.size:=by have:=ctx7.ws.ltg;omega
    have hrl: ∀r∈G.rules,(k:Int)<r.1∧r.1≤(k:Int)+(N:Int):=fun r hr=>by
     have hk2:=Xhkn.out
     unfold allKnown at hk2
     rw [Bool.and_eq_true,List.all_eq_true]at hk2
     have:=hk2.2 r hr
     unfold knownOf at this
     rw [Bool.and_eq_true,isNon_iff,XhT.out,XhN.out]at this
     exact this.1
    obtain⟨zo,hzo⟩: ∃zo,zo=w7.heap.size:=⟨_,rfl⟩
    rw [←hzo]at ctx8 hz7
    have hRl:G.rules.length=R:=XhR.out
    clear ctx7
    have Xctx8:=hide ctx8;have Xhrl:=hide hrl;have Xhzo:=hide hzo;have XhRl:=hide hRl;clear ctx8 hrl hzo hRl
    go_wp2_with fail
    rw [←Xhzo.out]
    clear Xhzo
    go_loopg [6] (totalW (k+1) (startW k N)+1) (fun κ more wr=> ∃(S:List FoundD) (j:Nat) (m:Bool),more= .bool m∧S=iter (fun S=>(passTo G.rules S).1) j (startW k N)∧GoodS k S∧S.length=k+N+1∧LCtx w wr F A1 c1 A2 c2 A3 c3 k N R st G gz zo S∧(m=false→(passTo G.rules S).2=false)∧(m=true→totalW (k+1) S+1≤κ))
    case atStart=>exact⟨startW k N,0,true,rfl,rfl,(startW_good k N).1,(startW_good k N).2,Xctx8.out,fun h=>(by cases h),fun _=>Nat.le_refl _⟩
    case round=>
     clear Xctx8
     obtain⟨S,j,m,rfl,hS,hgood,hlen,ctx,hm1,hm2⟩:=hrel
     cases m with
     |false=>
      have hfix:=hm1 rfl
      have hfin:LeastPost G st w (.returned (.pointer (some ⟨gz+1,0,none⟩))) wr:=
       ⟨ctx.b,.inr ⟨Xhz.out,S,gz+1,gz,rfl,⟨⟨j,by rw [XhT.out,XhN.out];exact hS⟩,hfix⟩,ctx.ws.mono (fun q hq=>⟨by have:=ctx.z;omega,hq.2,by omega⟩) (fun q hq=>hq.2.1) (fun q hq=>hq.2.2),by have:=ctx.z;omega,by have:=ctx.z;omega,by rw [XhT.out];exact hgood,by rw [XhT.out,XhN.out];exact hlen⟩⟩
      clear hm1 hm2
      have Xhfin:=hide hfin;have Xhfix:=hide hfix;have XhS:=hide hS;have Xhgood:=hide hgood;have Xhlen:=hide hlen;have Xctx:=hide ctx;clear hfin hfix hS hgood hlen ctx
      go_wp2_with fail
      go_ret
      exact Xhfin.out
     |true=>
      have hκ:=hm2 rfl
      clear hm1 hm2
      obtain⟨q0,q1,q2,q3⟩:=ctx.g.cells
      have hpass:=passK_good (B:=k+1) rfl hgood hlen (fun r hr=>⟨by have:=(Xhrl.out r hr).1;omega,by have:=(Xhrl.out r hr).2;omega⟩)
      have r0:=ctx.g.rs
      have r1:=ctx.g.rc
      have r2:=ctx.g.c3m
      have XhS:=hide hS;have Xhgood:=hide hgood;have Xhlen:=hide hlen;have Xhκ:=hide hκ;have Xhpass:=hide hpass;clear hS hgood hlen hκ hpass
      obtain⟨wo,rfl⟩: ∃wo:World,wo=wr:=⟨_,rfl⟩
      go_wp2_with fail
      clear q0 q1 q2 q3
      go_loopw [6,44] (fun more i wr=> ∃q:Nat,q≤R∧i= .int .i64 q∧more= .bool (passK G.rules S q).2∧LCtx w wr F A1 c1 A2 c2 A3 c3 k N R st G gz zo (passK G.rules S q).1) (fun _ i _=>R - (intOf i).toNat)
      case atStart=>exact⟨0,Nat.zero_le _,rfl,rfl,ctx⟩
      case round=>
       clear ctx
       obtain⟨q,hq,rfl,rfl,ctx⟩:=hrel
       obtain⟨hg1,hl1,ho1⟩:=Xhpass.out q (by rw [XhRl.out];exact hq)
       obtain⟨P,hP⟩: ∃P,P=passK G.rules S q:=⟨_,rfl⟩
       rw [←hP]at ctx hg1 hl1 ho1⊢
       by_cases hlt:q<R
       ·obtain⟨b,off,l,x,A,n,c,rfl,hbl,hx,h0,h1,hr,hn,hnc,hcm⟩:=ctx.g.rule hlt
        have hlr:=Xhrl.out _ (List.mem_of_getElem? hx)
        obtain⟨ln,rfl⟩:=Int.eq_ofNat_of_zero_le (by have:=hlr.1;simp only at this;omega:0≤l)
        have hln:ln<P.1.length:=by have:=hlr.2;simp only at this;omega
        have hnext:=passK_succ (S:=S) hx
        rw [←hP]at hnext
        have hq':(q:Int)<(R:Int):=by omega
        have hln':(ln:Int)<(k:Int)+(N:Int)+1:=by omega
        -- the rule's box
        obtain⟨wa,hwa⟩: ∃wa,wa=wr.alloc (.cells #[.int .i64 ln,.slice A n c] 42):=⟨_,rfl⟩
        have ba:Below wr.heap.size wr wa:=by rw [hwa];exact(Below.refl _ _).alloc (Nat.le_refl _) _
        have ka:Blk wa wr.heap.size 42 #[.int .i64 ln,.slice A n c]:=by rw [hwa];exact Blk.new _ _ _
        have ctxa:=ctx.below ba
        have hra:=hr.below ba ctx.g.gram.lt
        have hj:=least_join ctxa.ws hra ctxa.g.gram.lt (fun i=>(jTo_good hg1 _).1)
        have hxg:=joinOf_good hg1 x
        obtain⟨xj,hxj⟩: ∃xj,xj=joinOf P.1 x:=⟨_,rfl⟩
        rw [←hxj]at hj hxg
        obtain⟨y,hy⟩: ∃y,P.1[ln]? =some y:=⟨_,List.getElem?_eq_getElem hln⟩
        have hlk:=lookW_nat hy
        have hstep:stepR P.1 ((ln:Int),x)=if betterB xj y=true then(P.1.set ln xj,true)else(P.1,false):=by
         unfold stepR;simp only [hlk,←hxj,Int.toNat_natCast]
        rw [hstep]at hnext
        rw [hwa]at hj
        have Xhx:=hide hx;have Xhr:=hide hr;have Xhn:=hide hn;have Xhlr:=hide hlr;have Xhnext:=hide hnext;have Xhj:=hide hj;have Xhxg:=hide hxg;have Xhxj:=hide hxj;have Xhy:=hide hy;have Xhlk:=hide hlk;have Xhstep:=hide hstep;have XhP:=hide hP;have Xhg1:=hide hg1;have Xhl1:=hide hl1;have Xho1:=hide ho1;have Xka:=hide ka;have Xctxa:=hide ctxa;have Xhra:=hide hra;have Xctx:=hide ctx;clear hx hr hn hlr hnext hj hxg hxj hy hlk hstep hP hg1 hl1 ho1 ka ctxa hra ctx;clear ba
        go_wp2_with fail
        refine Xhj.out.mono ?_
        rintro e w9 ⟨Aj,nj,cj,rfl,hrj,b9⟩
        rw [←hwa]at b9 hrj
        clear hwa Xhj h0 h1
        have ctx9:=Xctxa.out.below b9
        have ka9:=Xka.out.below b9 Xka.out.lt
        obtain⟨w10,hw10⟩: ∃w10,w10=w9.alloc (.cells #[.bool xj.is,.bool xj.long,.slice Aj nj cj] 109):=⟨_,rfl⟩
        have b10:Below w9.heap.size w9 w10:=by rw [hw10];exact(Below.refl _ _).alloc (Nat.le_refl _) _
        have kx:Blk w10 w9.heap.size 109 #[.bool xj.is,.bool xj.long,.slice Aj nj cj]:=by rw [hw10];exact Blk.new _ _ _
        have ctx10:=ctx9.below b10
        have ka10:=ka9.below b10 ka9.lt
        have hrj10:=hrj.below b10 (fun i hi=>hi.2)
        have hz9:=b10.size
        -- what is there in any later world
        have later: ∀W,Below w10.heap.size w10 W→LCtx w W F A1 c1 A2 c2 (some ⟨b,off,none⟩) c3 k N R st G gz zo P.1∧Blk W w9.heap.size 109 #[.bool xj.is,.bool xj.long,.slice Aj nj cj]∧Blk W wr.heap.size 42 #[.int .i64 ln,.slice A n c]∧RdI W (fun i=>wa.heap.size≤i∧i<w9.heap.size) (.slice Aj nj cj) xj.l:=fun W hW=>
         ⟨ctx10.below hW,kx.below hW kx.lt,ka10.below hW ka10.lt,hrj10.below hW (fun i hi=>by omega)⟩
        have cells: ∀W,Below w10.heap.size w10 W→ ∃(Ay:Option Addr) (ny cy:Nat),W.cell? ⟨zo,0,none⟩=some (.func (.func 88) #[] #[])∧W.cell? ⟨w9.heap.size,0,none⟩=some (.bool xj.is)∧W.cell? ⟨w9.heap.size,1,none⟩=some (.bool xj.long)∧W.cell? ⟨w9.heap.size,2,none⟩=some (.slice Aj nj cj)∧W.cell? ⟨wr.heap.size,0,none⟩=some (.int .i64 ln)∧W.cell? ⟨gz+1,0,none⟩=some (.slice (some ⟨gz,0,none⟩) (k+N+1) (k+N+1))∧W.cell? ⟨gz,ln * 3,none⟩=some (.bool y.is)∧W.cell? ⟨gz,ln * 3+1,none⟩=some (.bool y.long)∧W.cell? ⟨gz,ln * 3+2,none⟩=some (.slice Ay ny cy)∧RdI W (fun i=>gz+1<i∧i<W.heap.size) (.slice Ay ny cy) y.l∧W.frozen? ⟨gz,ln * 3,none⟩=false∧W.frozen? ⟨gz,ln * 3+1,none⟩=false∧W.frozen? ⟨gz,ln * 3+2,none⟩=false:=fun W hW=>by
         obtain⟨cW,kxW,kaW,-⟩:=later W hW
         obtain⟨y',Ay,ny,cy,hy',e0,e1,e2,hyr,-⟩:=cW.ws.at_ hln
         rw [Xhy.out]at hy'
         injection hy' with hy'
         subst hy'
         have hp:=cW.ws.ptr
         rw [Xhl1.out]at hp
         rcases cW.o with e|ko
         ·omega
         exact⟨Ay,ny,cy,(ko.cell 0).trans rfl,(kxW.cell 0).trans rfl,(kxW.cell 1).trans rfl,(kxW.cell 2).trans rfl,(kaW.cell 0).trans rfl,hp,e0,e1,e2,hyr,cW.ws.frozen _,cW.ws.frozen _,cW.ws.frozen _⟩
        have bd:Below w10.heap.size w10 w10.drew:=(Below.refl _ _).drew
        obtain⟨Ay,ny,cy,o0,x0,x1,x2,a0,p0,e0,e1,e2,hyr,-⟩:=cells w10 (Below.refl _ _)
        have hbt:Calls Tryz.prog 49 #[.agg #[.func (.func 88) #[] #[]],.agg #[.bool xj.is,.bool xj.long,.slice Aj nj cj],.agg #[.bool y.is,.bool y.long,.slice Ay ny cy]] w10.drew (Quiet w10.drew (.bool (betterB xj y))):=
         least_better xj y ((later _ bd).2.2.2) (hyr.below bd (fun i hi=>hi.2)) (fun i hi=>by have:w9.heap.size≤w10.heap.size:=hz9;show i<w10.heap.size;omega) (fun i hi=>hi.2)
        rw [hw10]at hbt o0 x0 x1 x2 a0 p0 e0 e1 e2
        clear hrj hrj10 ctx9 ka9 kx ctx10 ka10 hyr
        generalize hbb:betterB xj y=bb at *
        have Xhbt:=hide hbt;have Xb9:=hide b9;have Xb10:=hide b10;have Xlater:=hide later;have Xcells:=hide cells;have Xbd:=hide bd;clear hbt b9 b10 later cells bd
        go_wp2_with fail
        refine region_tail 10 (by kernel_rfl) (by kernel_rfl) ?_
        simp only [List.take_succ_cons,List.take_zero,List.drop_succ_cons,List.drop_zero]
        repeat still_step
        refine wpStill_nil ?_
        go_wp2_with fail
        refine Xhbt.out.mono ?_
        rintro e w11 ⟨rfl,b11⟩
        have b11':Below w10.heap.size w10 w11:=by
         rw [hw10]
         exact(((Below.refl _ _).drew).trans b11)
        clear hw10 o0 x0 x1 x2 a0 p0 e0 e1 e2 Xhbt b11
        obtain⟨ctx11,kx11,ka11,hrj11⟩:=Xlater.out w11 b11'
        cases bb with
        |false=>
         rw [if_neg (by decide),Bool.or_false]at Xhnext
         have Xctx11:=hide ctx11;have Xhbb:=hide hbb;clear ctx11 hbb;clear kx11 ka11 hrj11
         go_wp2_with fail
         go_roundw
         case rel=>exact⟨q+1,by omega,by go_num,by rw [Xhnext.out],by rw [Xhnext.out];exact Xctx11.out⟩
         case measure=>simp [intOf];omega
        |true=>
         rw [if_pos rfl,Bool.or_true]at Xhnext
         obtain⟨Ay2,ny2,cy2,o0,x0,x1,x2,a0,p0,e0,e1,e2,hyr2,f0,f1,f2⟩:=Xcells.out w11 b11'
         have hz11:=b11'.size
         have hza:gz+1<wa.heap.size:=by have:=Xctxa.out.ws.blk.lt;omega
         have hp:=ctx11.ws.put (k:=ln) hln xj (v:= .slice Aj nj cj) (hrj11.mono (fun i hi=>by omega)) Xhxg.out.len
         have fin:=(ctx11.turn hp.2 (by simp [World.setCell]) hp.1).below ((Below.refl _ _).drew)
         clear hp hyr2 kx11 ka11 hrj11 ctx11
         have Xfin:=hide fin;have Xhbb:=hide hbb;clear fin hbb
         go_wp2_with fail
         refine region_tail 8 (by kernel_rfl) (by kernel_rfl) ?_
         simp only [List.take_succ_cons,List.take_zero,List.drop_succ_cons,List.drop_zero]
         repeat still_step
         refine wpStill_nil ?_
         go_wp2_with fail
         go_roundw
         case rel=>exact⟨q+1,by omega,by go_num,by rw [Xhnext.out],by rw [Xhnext.out];exact Xfin.out⟩
         case measure=>simp [intOf];omega
       ·have hqR:q=R:=by omega
        have hPe:P=passTo G.rules S:=by rw [hP,hqR,←XhRl.out];exact passK_end _ _
        have hlt': ¬((q:Int)<(R:Int)):=by omega
        have hnx:P.1=iter (fun S=>(passTo G.rules S).1) (j+1) (startW k N):=by
         show _=(passTo G.rules (iter (fun S=>(passTo G.rules S).1) j (startW k N))).1
         rw [←XhS.out,hPe]
        have hκ:=Xhκ.out
        rcases ho1 with⟨h2,hPS⟩|⟨h2,htot⟩
        ·have hf:(passTo G.rules P.1).2=false:=by rw [hPS,←hPe];exact h2
         rw [h2]
         have XhP:=hide hP;have XhPe:=hide hPe;have Xhnx:=hide hnx;have XhPS:=hide hPS;have Xhf:=hide hf;have Xh2:=hide h2;have Xhg1:=hide hg1;have Xhl1:=hide hl1;have Xctx:=hide ctx;have XhqR:=hide hqR;have Xhκ:=hide hκ;clear hP hPe hnx hPS hf h2 hg1 hl1 ctx hqR hκ
         go_wp2_with fail
         go_roundg 0
         case measure=>have:=Xhκ.out;omega
         case rel=>exact⟨P.1,j+1,false,rfl,Xhnx.out,Xhg1.out,Xhl1.out,Xctx.out,fun _=>Xhf.out,fun h=>(by cases h)⟩
        ·rw [h2]
         have hm:totalW (k+1) P.1+1<gk:=by omega
         have XhP:=hide hP;have XhPe:=hide hPe;have Xhnx:=hide hnx;have Xh2:=hide h2;have Xhtot:=hide htot;have Xhm:=hide hm;have Xhg1:=hide hg1;have Xhl1:=hide hl1;have Xctx:=hide ctx;have XhqR:=hide hqR;have Xhκ:=hide hκ;clear hP hPe hnx h2 htot hm hg1 hl1 ctx hqR hκ
         go_wp2_with fail
         go_roundg (totalW (k+1) P.1+1)
         case measure=>exact Xhm.out
         case rel=>exact⟨P.1,j+1,true,rfl,Xhnx.out,Xhg1.out,Xhl1.out,Xctx.out,fun h=>(by cases h),fun _=>Nat.le_refl _⟩
 ·have hcn:(checkOf G st !=0)=true:=by simpa using hz
  rw [hw1]at hc q0 q1 q2 q3
  have fin: ∀w2,Below w1.heap.size w1 w2→LeastPost G st w (.returned (.pointer none)) w2:=fun w2 b2=>⟨b1.trans (b2.mono b1.size),.inl ⟨hz,rfl⟩⟩
  rw [hw1]at fin
  clear hw1 g1 b1 z1
  have Xhc:=hide hc;have Xfin:=hide fin;have Xhz:=hide hz;have XhFw:=hide hFw;clear hc fin hz hFw
  generalize checkOf G st=ck at *
  clear h
  go_enter Tryz.func18,Tryz.ntmps18
  go_wp2_with fail
  refine Xhc.out.mono ?_
  rintro e w2 ⟨rfl,b2⟩
  have hf:=Xfin.out w2 b2
  clear q0 q1 q2 q3 Xhc Xfin b2
  have Xhf:=hide hf;clear hf
  go_wp2_with fail
  go_ret
  exact Xhf.out
end
end Go.Proofs.YtalbfonkhpeajaaGreat

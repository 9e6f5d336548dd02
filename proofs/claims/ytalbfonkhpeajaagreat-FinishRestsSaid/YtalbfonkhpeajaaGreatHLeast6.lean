/- Least words in memory, the reference's: three rows; join. -/
import Derived.Test.YtalbfonkhpeajaaGreatHLeast2
import Derived.Deep.OwnRows
import Derived.Deep.CutRange
import Derived.BigRegion
import Derived.Test.YtalbfonkhpeajaaGreatHAuto15
import Derived.Test.YtalbfonkhpeajaaGreatHLeastPlain
namespace Go.Proofs.YtalbfonkhpeajaaGreat
set_option linter.unusedVariables false
section
open Go.RowKit
attribute [local irreducible] wpStill wpOne wpPh
structure RefWords (w:World) (F:Nat→Prop) (b gl gi gm:Nat) (S:List FoundD):Prop where
 blk:Blk w b 126 #[.slice (some ⟨gl,0,none⟩) S.length S.length,.slice (some ⟨gi,0,none⟩) S.length S.length,.slice (some ⟨gm,0,none⟩) S.length S.length]
 rowL: ∃cells,Blk w gl 26 cells∧cells.size=S.length∧ ∀(i:Nat) (x:FoundD),S[i]? =some x→ ∃v,cells[i]? =some v∧RdI w F v x.l
 rowI: ∃cells,Blk w gi 4 cells∧cells.size=S.length∧ ∀(i:Nat) (x:FoundD),S[i]? =some x→cells[i]? =some (.bool x.is)
 rowM: ∃cells,Blk w gm 4 cells∧cells.size=S.length∧ ∀(i:Nat) (x:FoundD),S[i]? =some x→cells[i]? =some (.bool x.long)
 apart:gi≠gm
 lt: ∀k,F k→k<w.heap.size
 far: ∀k,F k→k≠gl∧k≠gi∧k≠gm
 lens: ∀x∈S,x.l.length≤4096
 size:S.length≤65536
section
variable {w w' : World} {F : Nat → Prop} {b gl gi gm : Nat} {S : List FoundD}
theorem RefWords.below (h:RefWords w F b gl gi gm S) (hb:Below w.heap.size w w'):RefWords w' F b gl gi gm S:=by
 obtain⟨cL,hL,sL,eL⟩:=h.rowL
 obtain⟨cI,hI,sI,eI⟩:=h.rowI
 obtain⟨cM,hM,sM,eM⟩:=h.rowM
 exact⟨h.blk.below hb h.blk.lt,⟨cL,hL.below hb hL.lt,sL,fun i x hx=>by
  obtain⟨v,h1,h2⟩:=eL i x hx
  exact⟨v,h1,h2.below hb h.lt⟩⟩,⟨cI,hI.below hb hI.lt,sI,eI⟩,⟨cM,hM.below hb hM.lt,sM,eM⟩,h.apart,fun k hk=>Nat.lt_of_lt_of_le (h.lt k hk) hb.size,h.far,h.lens,h.size⟩
theorem RefWords.mono {F':Nat→Prop} (h:RefWords w F b gl gi gm S) (hF: ∀k,F k→F' k) (hl: ∀k,F' k→k<w.heap.size) (hg: ∀k,F' k→k≠gl∧k≠gi∧k≠gm):RefWords w F' b gl gi gm S:=by
 obtain⟨cL,hL,sL,eL⟩:=h.rowL
 exact⟨h.blk,⟨cL,hL,sL,fun i x hx=>by
  obtain⟨v,h1,h2⟩:=eL i x hx
  exact⟨v,h1,h2.mono hF⟩⟩,h.rowI,h.rowM,h.apart,hl,hg,h.lens,h.size⟩
theorem RefWords.at_ (h:RefWords w F b gl gi gm S) {k:Nat} (hk:k<S.length): ∃(x:FoundD) (A:Option Addr) (n c:Nat),S[k]? =some x∧w.cell? ⟨gi,k,none⟩=some (.bool x.is)∧w.cell? ⟨gm,k,none⟩=some (.bool x.long)∧w.cell? ⟨gl,k,none⟩=some (.slice A n c)∧RdI w F (.slice A n c) x.l∧n=x.l.length∧n≤c∧c≤9223372036854775807∧n≤4096:=by
 obtain⟨cL,hL,sL,eL⟩:=h.rowL
 obtain⟨cI,hI,sI,eI⟩:=h.rowI
 obtain⟨cM,hM,sM,eM⟩:=h.rowM
 have hx:S[k]? =some S[k]:=List.getElem?_eq_getElem hk
 obtain⟨v,h3,h4⟩:=eL k _ hx
 obtain⟨A,n,c,rfl,_⟩:=id h4
 obtain⟨hn,hnc,hcm,-⟩:=RdI.at_ h4
 exact⟨_,A,n,c,hx,(hI.cell _).trans (eI k _ hx),(hM.cell _).trans (eM k _ hx),(hL.cell _).trans h3,h4,hn,hnc,hcm,by rw [hn];exact h.lens _ (List.getElem_mem hk)⟩
theorem RefWords.ptr (h:RefWords w F b gl gi gm S):w.cell? ⟨b,0,none⟩=some (.slice (some ⟨gl,0,none⟩) S.length S.length)∧w.cell? ⟨b,1,none⟩=some (.slice (some ⟨gi,0,none⟩) S.length S.length)∧w.cell? ⟨b,2,none⟩=some (.slice (some ⟨gm,0,none⟩) S.length S.length):=⟨(h.blk.cell 0).trans rfl,(h.blk.cell 1).trans rfl,(h.blk.cell 2).trans rfl⟩
end
theorem wrap_in {n:Int} (h0: -9223372036854775808≤n) (h1:n≤9223372036854775807):IntKind.i64.wrap n=n:=by
 rw [IntKind.wrap_i64];omega
def RefJoinPost (w:World) (x:FoundD) (e:Ending) (w':World):Prop:= ∃A n c,e= .returned (.tuple #[.slice A n c,.bool x.is,.bool x.long])∧RdI w' (fun k=>w.heap.size≤k∧k<w'.heap.size) (.slice A n c) x.l∧Below w.heap.size w w'
theorem RefJoinPost.no {w w':World} {S:List FoundD} {l:List Int} {k:Nat} {s:Int} (hs:l[k]? =some s) (h:(lookW S s).is=false) (hb:Below w.heap.size w w'):RefJoinPost w (joinOf S l) (.returned (.tuple #[.slice none 0 0,.bool false,.bool false])) w':=by
 have:joinOf S l=noFound:=by
  unfold joinOf
  rw [if_neg]
  rw [Bool.not_eq_true,List.all_eq_false]
  exact⟨s,List.mem_of_getElem? hs,by simp [h]⟩
 rw [this]
 exact⟨none,0,0,rfl,Rd.nil _ _ _,hb⟩
set_option maxRecDepth 100000 in
set_option maxHeartbeats 4000000 in
theorem ref_join {w:World} {F G:Nat→Prop} {b gl gi gm:Nat} {S:List FoundD} {v:Value} {l:List Int} (h:RefWords w F b gl gi gm S) (hl:RdI w G v l) (hG: ∀k,G k→k<w.heap.size) (hT: ∀k,(jTo S (l.take k)).2.length≤4096):
  Calls Tryz.prog 56 #[.pointer (some ⟨b,0,none⟩),v] w (RefJoinPost w (joinOf S l)):=by
 obtain⟨A,n,c,rfl,-⟩:=id hl
 obtain⟨hn,hnc,hcm,-⟩:=RdI.at_ hl
 unfold maxLen at hcm
 have own0:w.ownsRow w.heap.size 3 1 (.slice none 0 0) 0 []:=World.ownsRow_nil _ _ _ _
 have Xhn:=hide hn;have Xh:=hide h;have Xhl:=hide hl;have XhG:=hide hG;have XhT:=hide hT;have Xown0:=hide own0;clear hn h hl hG hT own0
 go_enter Tryz.func56,Tryz.ntmps56
 go_wp2_with fail
 go_loopw [7,8,9] (fun o lg i wr=> ∃(k:Nat) (B:Option Addr) (m d:Nat),k≤n∧i= .int .i64 k∧o= .slice B m d∧lg= .bool (jTo S (l.take k)).1∧m=(jTo S (l.take k)).2.length∧(∀(j:Nat) (s:Int),j<k→l[j]? =some s→(lookW S s).is=true)∧wr.ownsRow w.heap.size 3 1 (.slice B m d) m ((jTo S (l.take k)).2.map I64)∧Below w.heap.size w wr) (fun _ _ i _=>n - (intOf i).toNat)
 case atStart=>exact⟨0,none,0,0,Nat.zero_le _,rfl,rfl,rfl,rfl,fun j s hj=>absurd hj (by omega),Xown0.out,Below.refl _ _⟩
 case round=>
  clear Xown0
  obtain⟨k,B,m,d,hk,rfl,rfl,rfl,hm,hall,own,hb⟩:=hrel
  obtain⟨p,hp⟩: ∃p,p=jTo S (l.take k):=⟨_,rfl⟩
  rw [←hp]at hm own⊢
  have hpl:p.2.length≤4096:=by rw [hp];exact XhT.out k
  have hml:m≤4096:=by omega
  by_cases hlt:k<n
  ·have hw:=Xh.out.below hb
   have hlr:=Xhl.out.below hb XhG.out
   obtain⟨-,-,-,hcell⟩:=RdI.at_ hlr
   obtain⟨bl,off,rfl,hbl,hcc⟩:=hcell (by omega)
   obtain⟨s,hs⟩: ∃s,l[k]? =some s:=⟨_,List.getElem?_eq_getElem (by rw [←Xhn.out];exact hlt)⟩
   have hcs:=hcc k s hs
   have hnext:=jTo_next (S:=S) hs
   rw [←hp]at hnext
   obtain⟨hp0,hp1,hp2⟩:=hw.ptr
   have hsz:=hw.size
   have hlt':(k:Int)<(n:Int):=by omega
   by_cases hs0:s<0
   ·have hfin:=fun w'=>RefJoinPost.no (w:=w) (w':=w') (S:=S) hs (by rw [lookW_neg hs0];rfl)
    have Xhfin:=hide hfin;have Xhall:=hide hall;have Xhm:=hide hm;have Xhp:=hide hp;have Xown:=hide own;have Xhb:=hide hb;have Xhw:=hide hw;have Xhlr:=hide hlr;have Xhs:=hide hs;have Xhnext:=hide hnext;clear hfin hall hm hp own hb hw hlr hs hnext;clear hcell hcc
    go_wp2_with fail
    refine region_reads (by kernel_rfl) (by kernel_rfl) ?_
    repeat still_step
    refine wpStill_nil ?_
    go_wp2_with fail
    go_ret3
    exact Xhfin.out _ (Xhb.out.drew)
   ·by_cases hs1:(S.length:Int)≤s
    ·have hfin:=fun w'=>RefJoinPost.no (w:=w) (w':=w') (S:=S) hs (by rw [lookW_big hs1];rfl)
     have Xhfin:=hide hfin;have Xhall:=hide hall;have Xhm:=hide hm;have Xhp:=hide hp;have Xown:=hide own;have Xhb:=hide hb;have Xhw:=hide hw;have Xhlr:=hide hlr;have Xhs:=hide hs;have Xhnext:=hide hnext;clear hfin hall hm hp own hb hw hlr hs hnext;clear hcell hcc
     go_wp2_with fail
     refine region_reads (by kernel_rfl) (by kernel_rfl) ?_
     repeat still_step
     refine wpStill_nil ?_
     go_wp2_with fail
     go_ret3
     exact Xhfin.out _ (Xhb.out.drew)
    ·obtain⟨sn,rfl⟩:=Int.eq_ofNat_of_zero_le (by omega:0≤s)
     have hsn:sn<S.length:=by omega
     have hs1':(sn:Int)<(S.length:Int):=by omega
     obtain⟨x,Ax,nx,cx,hx,e0,e1,e2,hxr,hnx,hnxc,hcx,hnx4⟩:=hw.at_ hsn
     have hlk:=lookW_nat hx
     cases hxi:x.is with
     |false=>
      rw [hxi]at e0
      have hfin:=fun w'=>RefJoinPost.no (w:=w) (w':=w') (S:=S) hs (by rw [hlk];exact hxi)
      have Xhfin:=hide hfin;have Xhall:=hide hall;have Xhm:=hide hm;have Xhp:=hide hp;have Xown:=hide own;have Xhb:=hide hb;have Xhw:=hide hw;have Xhlr:=hide hlr;have Xhs:=hide hs;have Xhnext:=hide hnext;have Xhx:=hide hx;have Xhxr:=hide hxr;have Xhnx:=hide hnx;have Xhlk:=hide hlk;have Xhxi:=hide hxi;clear hfin hall hm hp own hb hw hlr hs hnext hx hxr hnx hlk hxi;clear hcell hcc
      go_wp2_with fail
      refine region_reads (by kernel_rfl) (by kernel_rfl) ?_
      repeat still_step
      refine wpStill_nil ?_
      go_wp2_with fail
      go_ret3
      exact Xhfin.out _ (Xhb.out.drew)
     |true=>
      rw [hxi]at e0
      have hstep:jStep S p (sn:Int)=(p.1||(x.long||decide (4096<m+nx)),if(p.1||(x.long||decide (4096<m+nx)))=true then p.2 else p.2++x.l):=by
       unfold jStep;rw [hlk,hm,hnx]
      rw [hstep]at hnext
      have hall2: ∀(j:Nat) (s:Int),j<k+1→l[j]? =some s→(lookW S s).is=true:=fun j s' hj hs'=>by
       by_cases e:j=k
       ·subst e;rw [hs]at hs';injection hs' with hs';rw [←hs',hlk];exact hxi
       ·exact hall j s' (by omega) hs'
      have hwrap:IntKind.i64.wrap ((m:Int)+(nx:Int))=(m:Int)+(nx:Int):=wrap_in (by omega) (by omega)
      cases hxl:x.long with
      |true=>
       have hj:jTo S (l.take (k+1))=(true,p.2):=by rw [hnext,hxl];simp
       rw [hxl]at e1
       have Xhall:=hide hall;have Xhall2:=hide hall2;have Xhm:=hide hm;have Xhp:=hide hp;have Xown:=hide own;have Xhb:=hide hb;have Xhw:=hide hw;have Xhlr:=hide hlr;have Xhs:=hide hs;have Xhnext:=hide hnext;have Xhx:=hide hx;have Xhxr:=hide hxr;have Xhnx:=hide hnx;have Xhlk:=hide hlk;have Xhxi:=hide hxi;have Xhxl:=hide hxl;have Xhj:=hide hj;have Xhstep:=hide hstep;clear hall hall2 hm hp own hb hw hlr hs hnext hx hxr hnx hlk hxi hxl hj hstep;clear hcell hcc
       iterate 2
        go_wp2_with fail
        refine region_reads (by kernel_rfl) (by kernel_rfl) ?_
        repeat still_step
        refine wpStill_nil ?_
       go_wp2_with fail
       go_roundw
       case rel=>exact⟨k+1,B,m,d,by omega,by go_num,rfl,by rw [Xhj.out],by rw [Xhj.out];exact Xhm.out,Xhall2.out,by rw [Xhj.out];exact Xown.out,Xhb.out.drew.drew⟩
       case measure=>simp [intOf];omega
      |false=>
       rw [hxl]at e1
       by_cases hbig:4096<m+nx
       ·have hbig':(4096:Int)<(m:Int)+(nx:Int):=by omega
        have hj:jTo S (l.take (k+1))=(true,p.2):=by rw [hnext,decide_eq_true hbig];simp
        have Xhall:=hide hall;have Xhall2:=hide hall2;have Xhm:=hide hm;have Xhp:=hide hp;have Xown:=hide own;have Xhb:=hide hb;have Xhw:=hide hw;have Xhlr:=hide hlr;have Xhs:=hide hs;have Xhnext:=hide hnext;have Xhx:=hide hx;have Xhxr:=hide hxr;have Xhnx:=hide hnx;have Xhlk:=hide hlk;have Xhxi:=hide hxi;have Xhxl:=hide hxl;have Xhj:=hide hj;have Xhstep:=hide hstep;clear hall hall2 hm hp own hb hw hlr hs hnext hx hxr hnx hlk hxi hxl hj hstep;clear hcell hcc
        iterate 2
         go_wp2_with fail
         refine region_reads (by kernel_rfl) (by kernel_rfl) ?_
         repeat still_step
         refine wpStill_nil ?_
        go_wp2_with fail
        go_roundw
        case rel=>exact⟨k+1,B,m,d,by omega,by go_num,rfl,by rw [Xhj.out],by rw [Xhj.out];exact Xhm.out,Xhall2.out,by rw [Xhj.out];exact Xown.out,Xhb.out.drew.drew⟩
        case measure=>simp [intOf];omega
       ·have hbig': ¬(4096:Int)<(m:Int)+(nx:Int):=by omega
        cases hp1v:p.1 with
        |true=>
         have hj:jTo S (l.take (k+1))=(true,p.2):=by rw [hnext,hp1v];simp
         have Xhall:=hide hall;have Xhall2:=hide hall2;have Xhm:=hide hm;have Xhp:=hide hp;have Xown:=hide own;have Xhb:=hide hb;have Xhw:=hide hw;have Xhlr:=hide hlr;have Xhs:=hide hs;have Xhnext:=hide hnext;have Xhx:=hide hx;have Xhxr:=hide hxr;have Xhnx:=hide hnx;have Xhlk:=hide hlk;have Xhxi:=hide hxi;have Xhxl:=hide hxl;have Xhj:=hide hj;have Xhstep:=hide hstep;have Xhp1v:=hide hp1v;clear hall hall2 hm hp own hb hw hlr hs hnext hx hxr hnx hlk hxi hxl hj hstep hp1v;clear hcell hcc
         iterate 2
          go_wp2_with fail
          refine region_reads (by kernel_rfl) (by kernel_rfl) ?_
          repeat still_step
          refine wpStill_nil ?_
         go_wp2_with fail
         go_roundw
         case rel=>exact⟨k+1,B,m,d,by omega,by go_num,rfl,by rw [Xhj.out],by rw [Xhj.out];exact Xhm.out,Xhall2.out,by rw [Xhj.out];exact Xown.out,Xhb.out.drew.drew⟩
         case measure=>simp [intOf];omega
        |false=>
         have hj:jTo S (l.take (k+1))=(false,p.2++x.l):=by rw [hnext,hp1v,hxl,decide_eq_false hbig];simp
         have hxln:(x.l.map I64).length=nx * 1:=by simp;exact hnx.symm
         have hones: ∀u∈x.l.map I64,u.oneCell'=true:=fun u hu=>by obtain⟨y,_,rfl⟩:=List.mem_map.1 hu;rfl
         have hbz:=hb.size
         have Xhall:=hide hall;have Xhall2:=hide hall2;have Xhm:=hide hm;have Xhp:=hide hp;have Xown:=hide own;have Xhb:=hide hb;have Xhw:=hide hw;have Xhlr:=hide hlr;have Xhs:=hide hs;have Xhnext:=hide hnext;have Xhx:=hide hx;have Xhxr:=hide hxr;have Xhnx:=hide hnx;have Xhlk:=hide hlk;have Xhxi:=hide hxi;have Xhxl:=hide hxl;have Xhj:=hide hj;have Xhstep:=hide hstep;have Xhp1v:=hide hp1v;have Xhxln:=hide hxln;have Xhones:=hide hones;clear hall hall2 hm hp own hb hw hlr hs hnext hx hxr hnx hlk hxi hxl hj hstep hp1v hxln hones;clear hcell hcc
         iterate 2
          go_wp2_with fail
          refine region_reads (by kernel_rfl) (by kernel_rfl) ?_
          repeat still_step
          refine wpStill_nil ?_
         go_wp2_with fail
         refine region_tail 11 (by kernel_rfl) (by kernel_rfl) ?_
         simp only [List.take_succ_cons,List.take_zero,List.drop_succ_cons,List.drop_zero]
         repeat still_step
         refine wpStill_nil ?_
         go_wp2_with (at_builtin;refine wp_append _ rfl (.tmp 75) (.tmp 85) _ rfl Tryz.elemInt w.heap.size _ m (p.2.map I64) rfl Xown.out F _ (x.l.map I64) nx rfl Xhxln.out Xhxr.out Xhones.out (by unfold maxLen;omega) (by omega) hbz ?_)
         intro A' c' w6 hown6 hg6 _
         go_wp2_with fail
         go_roundw
         case rel=>exact⟨k+1,A',m+nx,c',by omega,by go_num,rfl,by rw [Xhj.out],by rw [Xhj.out];simp only [List.length_append];have:=Xhm.out;have:=Xhnx.out;omega,Xhall2.out,by rw [Xhj.out];simp only [List.map_append];exact hown6,(Xhb.out.drew.drew.drew).grown hg6 hbz (fun q hq=>(Xown.out.lt q hq).1)⟩
         case measure=>simp [intOf];omega
  ·have hkn:k=l.length:=by have:=Xhn.out;omega
   have hjo:=joinOf_yes (S:=S) (l:=l) (fun j s hs=>hall j s (by have:=(List.getElem?_eq_some_iff.1 hs).1;omega) hs)
   have hpe:jTo S l=p:=by rw [hp,hkn,List.take_length]
   rw [hpe]at hjo
   have hrd:RdI wr (fun q=>w.heap.size≤q∧q<wr.heap.size) (.slice B m d) p.2:=(Rd.of_own own).mono (fun q hq=>own.lt q hq)
   have hlt': ¬(k:Int)<(n:Int):=by omega
   cases hp1:p.1 with
   |true=>
    have Xhall:=hide hall;have Xhm:=hide hm;have Xhp:=hide hp;have Xown:=hide own;have Xhb:=hide hb;have Xhjo:=hide hjo;have Xhpe:=hide hpe;have Xhrd:=hide hrd;have Xhp1:=hide hp1;have Xhkn:=hide hkn;clear hall hm hp own hb hjo hpe hrd hp1 hkn
    go_wp2_with fail
    go_ret3
    exact⟨none,0,0,by rw [Xhjo.out,Xhp1.out];rfl,by rw [Xhjo.out,Xhp1.out];exact Rd.nil _ _ _,Xhb.out⟩
   |false=>
    have Xhall:=hide hall;have Xhm:=hide hm;have Xhp:=hide hp;have Xown:=hide own;have Xhb:=hide hb;have Xhjo:=hide hjo;have Xhpe:=hide hpe;have Xhrd:=hide hrd;have Xhp1:=hide hp1;have Xhkn:=hide hkn;clear hall hm hp own hb hjo hpe hrd hp1 hkn
    go_wp2_with fail
    go_ret3
    exact⟨B,m,d,by rw [Xhjo.out,Xhp1.out];rfl,by rw [Xhjo.out,Xhp1.out];exact Xhrd.out,Xhb.out⟩
end
section
open Go.RowKit
attribute [local irreducible] wpStill wpOne wpPh
def betterR (x y:FoundD):Bool:=(!y.is||(y.long&& !x.long))||(!x.long&& !y.long&&lessB x.l y.l)
theorem betterR_eq (x y:FoundD) (h:x.is=true):betterB x y=betterR x y:=by
 unfold betterB betterR
 rw [h]
 cases y.is<;>cases x.long<;>cases y.long<;>simp
set_option maxRecDepth 100000 in
set_option maxHeartbeats 2000000 in
theorem ref_better {w:World} {F G:Nat→Prop} {b gl gi gm:Nat} {S:List FoundD} {v:Value} (h:RefWords w F b gl gi gm S) (x:FoundD) {s:Nat} {y:FoundD} (hs:S[s]? =some y) (hx:RdI w G v x.l):
  Calls Tryz.prog 57 #[.pointer (some ⟨b,0,none⟩),.int .i64 s,v,.bool x.long] w fun e w'=>e= .returned (.bool (betterR x y))∧ ∃q,w'=w.drewN q:=by
 have hv:betterR x y=((!y.is||(y.long&& !x.long))||(!x.long&& !y.long&&lessB x.l y.l)):=rfl
 have hsl:=(List.getElem?_eq_some_iff.1 hs).1
 obtain⟨y',Ay,ny,cy,hy',e0,e1,e2,hyr,hny,hnyc,hcy,hny4⟩:=h.at_ hsl
 rw [hs]at hy'
 injection hy' with hy'
 subst hy'
 obtain⟨hp0,hp1,hp2⟩:=h.ptr
 have hsz:=h.size
 have hsl':(s:Int)<(S.length:Int):=by omega
 have hl:=ref_less hx hyr
 obtain⟨A,n,c,rfl,-⟩:=id hx
 generalize lessB x.l y.l=q at *
 cases hyi:y.is with
 |false=>
  rw [hyi]at e0 hv
  cases hxl:x.long with
  |true=>
   rw [hxl]at hv
   have Xhv:=hide hv;have Xh:=hide h;have Xhs:=hide hs;have Xhx:=hide hx;have Xhyr:=hide hyr;have Xhny:=hide hny;have Xhl:=hide hl;have Xhyi:=hide hyi;have Xhxl:=hide hxl;clear hv h hs hx hyr hny hl hyi hxl
   go_enter Tryz.func57,Tryz.ntmps57
   go_wp2_with fail
   go_ret
   exact⟨ret_bool (by rw [Xhv.out];first|rfl|simp),0,rfl⟩
  |false=>
   rw [hxl]at hv
   have Xhv:=hide hv;have Xh:=hide h;have Xhs:=hide hs;have Xhx:=hide hx;have Xhyr:=hide hyr;have Xhny:=hide hny;have Xhl:=hide hl;have Xhyi:=hide hyi;have Xhxl:=hide hxl;clear hv h hs hx hyr hny hl hyi hxl
   go_enter Tryz.func57,Tryz.ntmps57
   go_wp2_with fail
   go_ret
   exact⟨ret_bool (by rw [Xhv.out];first|rfl|simp),0,rfl⟩
 |true=>
  rw [hyi]at e0 hv
  cases hyl:y.long with
  |true=>
   rw [hyl]at e1 hv
   cases hxl:x.long with
   |true=>
    rw [hxl]at hv
    have Xhv:=hide hv;have Xh:=hide h;have Xhs:=hide hs;have Xhx:=hide hx;have Xhyr:=hide hyr;have Xhny:=hide hny;have Xhl:=hide hl;have Xhyi:=hide hyi;have Xhxl:=hide hxl;have Xhyl:=hide hyl;clear hv h hs hx hyr hny hl hyi hxl hyl
    go_enter Tryz.func57,Tryz.ntmps57
    go_wp2_with fail
    go_ret
    exact⟨ret_bool (by rw [Xhv.out];first|rfl|simp),0,rfl⟩
   |false=>
    rw [hxl]at hv
    have Xhv:=hide hv;have Xh:=hide h;have Xhs:=hide hs;have Xhx:=hide hx;have Xhyr:=hide hyr;have Xhny:=hide hny;have Xhl:=hide hl;have Xhyi:=hide hyi;have Xhxl:=hide hxl;have Xhyl:=hide hyl;clear hv h hs hx hyr hny hl hyi hxl hyl
    go_enter Tryz.func57,Tryz.ntmps57
    go_wp2_with fail
    go_ret
    exact⟨ret_bool (by rw [Xhv.out];first|rfl|simp),0,rfl⟩
  |false=>
   rw [hyl]at e1 hv
   cases hxl:x.long with
   |true=>
    rw [hxl]at hv
    have Xhv:=hide hv;have Xh:=hide h;have Xhs:=hide hs;have Xhx:=hide hx;have Xhyr:=hide hyr;have Xhny:=hide hny;have Xhl:=hide hl;have Xhyi:=hide hyi;have Xhxl:=hide hxl;have Xhyl:=hide hyl;clear hv h hs hx hyr hny hl hyi hxl hyl
    go_enter Tryz.func57,Tryz.ntmps57
    go_wp2_with fail
    go_ret
    exact⟨ret_bool (by rw [Xhv.out];first|rfl|simp),0,rfl⟩
   |false=>
    rw [hxl]at hv
    have Xhv:=hide hv;have Xh:=hide h;have Xhs:=hide hs;have Xhx:=hide hx;have Xhyr:=hide hyr;have Xhny:=hide hny;have Xhl:=hide hl;have Xhyi:=hide hyi;have Xhxl:=hide hxl;have Xhyl:=hide hyl;clear hv h hs hx hyr hny hl hyi hxl hyl
    go_enter Tryz.func57,Tryz.ntmps57
    go_wp2_with fail
    refine Xhl.out.mono ?_
    rintro e w1 ⟨rfl,q1,rfl⟩
    go_wp2_with fail
    go_ret
    exact⟨ret_bool (by rw [Xhv.out];first|rfl|simp),q1,rfl⟩
set_option maxRecDepth 100000 in
theorem ref_line {w:World} {F G:Nat→Prop} {b gl gi gm:Nat} {S:List FoundD} {v:Value} {l:List Int} (h:RefWords w F b gl gi gm S) (hl:RdI w G v l) (hG: ∀k,G k→k<w.heap.size) (hT: ∀k,(jTo S (l.take k)).2.length≤4096):
  Calls Tryz.prog 60 #[.pointer (some ⟨b,0,none⟩),v] w (LinePost w (joinOf S l)):=by
 have hj:=ref_join h hl hG hT
 obtain⟨A,n,c,rfl,-⟩:=id hl
 obtain⟨x,hx⟩: ∃x,x=joinOf S l:=⟨_,rfl⟩
 rw [←hx]at hj⊢
 have Xhj:=hide hj;have Xhx:=hide hx;clear hj hx;clear h hl hG hT
 go_enter Tryz.func60,Tryz.ntmps60
 go_wp2_with fail
 refine Xhj.out.mono ?_
 rintro e w1 ⟨B,m,d,rfl,hr,hb⟩
 cases hxi:x.is with
 |false=>
  have Xhr:=hide hr;have Xhb:=hide hb;have Xhxi:=hide hxi;clear hr hb hxi
  go_wp2_with fail
  go_ret2
  exact⟨B,m,d,by rw [Xhxi.out];rfl,Xhr.out,Xhb.out⟩
 |true=>
  have Xhr:=hide hr;have Xhb:=hide hb;have Xhxi:=hide hxi;clear hr hb hxi
  go_wp2_with fail
  go_ret2
  exact⟨B,m,d,by rw [Xhxi.out];simp,Xhr.out,Xhb.out⟩
end
section
open Go.RowKit
attribute [local irreducible] wpStill wpOne wpPh
theorem Tryz.infoInts:(Tryz.prog.info? 26).map (fun i=>(i.zero,i.size,i.bytes))=some (some (.slice none 0 0),1,24):=by kernel_rfl
theorem Tryz.infoBool:(Tryz.prog.info? 4).map (fun i=>(i.zero,i.size,i.bytes))=some (some (.bool false),1,1):=by kernel_rfl
theorem make_ints (n:Nat) (hn:n≤65536) (w:World):(Instr.makeSlice 122 (.int .i64 (n:Int)) (.int .i64 (n:Int))).run Tryz.prog w= .ok (.slice (some ⟨w.heap.size,0,none⟩) n n) (w.alloc (.cells (madeCells #[.slice none 0 0] n) 26)):=
 run_make_row' _ _ _ 24 Tryz.underlying122 Tryz.infoInts rfl .i64 .i64 n (by omega) (by omega) w
theorem make_bools (n:Nat) (hn:n≤65536) (w:World):(Instr.makeSlice 124 (.int .i64 (n:Int)) (.int .i64 (n:Int))).run Tryz.prog w= .ok (.slice (some ⟨w.heap.size,0,none⟩) n n) (w.alloc (.cells (madeCells #[.bool false] n) 4)):=
 run_make_row' _ _ _ 1 Tryz.underlying124 Tryz.infoBool rfl .i64 .i64 n (by omega) (by omega) w
theorem made_one (z:Value) (n i:Nat) (hi:i<n):(madeCells #[z] n)[i]? =some z:=by
 rw [made_at _ _ _ (by simp) hi]
 have:i%(#[z]:Array Value).size=0:=by simp [Nat.mod_one]
 rw [this];rfl
theorem RefWords.made {w:World} {F:Nat→Prop} {b gl gi gm n:Nat} (hb:Blk w b 126 #[.slice (some ⟨gl,0,none⟩) n n,.slice (some ⟨gi,0,none⟩) n n,.slice (some ⟨gm,0,none⟩) n n])
  (hL:Blk w gl 26 (madeCells #[.slice none 0 0] n)) (hI:Blk w gi 4 (madeCells #[.bool false] n)) (hM:Blk w gm 4 (madeCells #[.bool false] n)) (ha:gi≠gm) (hn:n≤65536)
  (hF: ∀k,F k→k<w.heap.size∧k≠gl∧k≠gi∧k≠gm):RefWords w F b gl gi gm (List.replicate n noFound):=by
 have at_: ∀(i:Nat) (x:FoundD),(List.replicate n noFound)[i]? =some x→x=noFound∧i<n:=fun i x hx=>by
  have hi:=(List.getElem?_eq_some_iff.1 hx).1
  rw [List.length_replicate]at hi
  exact⟨(List.mem_replicate.1 (List.mem_of_getElem? hx)).2,hi⟩
 refine⟨by simpa using hb,⟨_,hL,by simp [size_madeCells],fun i x hx=> ?_⟩,⟨_,hI,by simp [size_madeCells],fun i x hx=> ?_⟩,⟨_,hM,by simp [size_madeCells],fun i x hx=> ?_⟩,ha,fun k hk=>(hF k hk).1,fun k hk=>(hF k hk).2,fun x hx=>by rw [(List.mem_replicate.1 hx).2];simp [noFound],by simpa using hn⟩
 all_goals obtain⟨rfl,hi⟩:=at_ i x hx
 ·exact⟨_,made_one _ _ _ hi,Rd.nil _ _ _⟩
 ·exact made_one _ _ _ hi
 ·exact made_one _ _ _ hi
section
variable {w : World} {F : Nat → Prop} {b gl gi gm : Nat} {S : List FoundD} {k : Nat} {x : FoundD}
theorem set_at {S:List FoundD} {k i:Nat} {x y:FoundD} (hk:k<S.length) (h:(S.set k x)[i]? =some y):(i=k∧y=x)∨(i≠k∧S[i]? =some y):=by
 by_cases e:i=k
 ·subst e
  rw [List.getElem?_set_self hk]at h
  injection h with h
  exact .inl ⟨rfl,h.symm⟩
 ·rw [List.getElem?_set_ne (fun e'=>e e'.symm)]at h
  exact .inr ⟨e,h⟩
theorem RefWords.nes (h:RefWords w F b gl gi gm S):b≠gl∧b≠gi∧b≠gm∧gl≠gi∧gl≠gm∧gi≠gm:=by
 obtain⟨cL,hL,sL,eL⟩:=h.rowL
 obtain⟨cI,hI,sI,eI⟩:=h.rowI
 obtain⟨cM,hM,sM,eM⟩:=h.rowM
 exact⟨h.blk.ne hL (by decide),h.blk.ne hI (by decide),h.blk.ne hM (by decide),hL.ne hI (by decide),hL.ne hM (by decide),h.apart⟩
theorem RefWords.putL (h:RefWords w F b gl gi gm S) (hk:S[k]? =some x) {l:List Int} {v:Value} (hv:RdI w F v l) (hl:l.length≤4096):
  RefWords (w.setCell ⟨gl,k,none⟩ v) F b gl gi gm (S.set k ⟨x.is,x.long,l⟩)∧Touch (fun q=>q=gl) w (w.setCell ⟨gl,k,none⟩ v):=by
 have t:Touch (fun q=>q=gl) w (w.setCell ⟨gl,k,none⟩ v):=(Touch.refl (fun q=>q=gl) w).setCell (p:=⟨gl,k,none⟩) (fun _=>rfl) _
 obtain⟨n1,n2,n3,n4,n5,n6⟩:=h.nes
 obtain⟨cL,hL,sL,eL⟩:=h.rowL
 obtain⟨cI,hI,sI,eI⟩:=h.rowI
 obtain⟨cM,hM,sM,eM⟩:=h.rowM
 have hkl:=(List.getElem?_eq_some_iff.1 hk).1
 refine⟨⟨by rw [List.length_set];exact h.blk.touch t n1,⟨_,hL.put _ _,by simp [sL],fun j y hy=> ?_⟩,⟨cI,hI.touch t (fun e=>n4 e.symm),by rw [List.length_set];exact sI,fun j y hy=> ?_⟩,⟨cM,hM.touch t (fun e=>n5 e.symm),by rw [List.length_set];exact sM,fun j y hy=> ?_⟩,n6,fun q hq=>Nat.lt_of_lt_of_le (h.lt q hq) t.size,h.far,fun y hy=> ?_,by rw [List.length_set];exact h.size⟩,t⟩
 ·rcases set_at hkl hy with⟨rfl,rfl⟩|⟨e,hy⟩
  ·exact⟨v,set_same _ _ _ (by omega),hv.touch t (fun q hq=>(h.far q hq).1)⟩
  ·obtain⟨u,h1,h2⟩:=eL j y hy
   exact⟨u,(set_other _ _ _ _ (fun e'=>e e'.symm)).trans h1,h2.touch t (fun q hq=>(h.far q hq).1)⟩
 ·rcases set_at hkl hy with⟨rfl,rfl⟩|⟨e,hy⟩
  ·exact eI j x hk
  ·exact eI j y hy
 ·rcases set_at hkl hy with⟨rfl,rfl⟩|⟨e,hy⟩
  ·exact eM j x hk
  ·exact eM j y hy
 ·rcases List.mem_or_eq_of_mem_set hy with hy|rfl
  ·exact h.lens y hy
  ·exact hl
theorem RefWords.putI (h:RefWords w F b gl gi gm S) (hk:S[k]? =some x) (i:Bool):
  RefWords (w.setCell ⟨gi,k,none⟩ (.bool i)) F b gl gi gm (S.set k ⟨i,x.long,x.l⟩)∧Touch (fun q=>q=gi) w (w.setCell ⟨gi,k,none⟩ (.bool i)):=by
 have t:Touch (fun q=>q=gi) w (w.setCell ⟨gi,k,none⟩ (.bool i)):=(Touch.refl (fun q=>q=gi) w).setCell (p:=⟨gi,k,none⟩) (fun _=>rfl) _
 obtain⟨n1,n2,n3,n4,n5,n6⟩:=h.nes
 obtain⟨cL,hL,sL,eL⟩:=h.rowL
 obtain⟨cI,hI,sI,eI⟩:=h.rowI
 obtain⟨cM,hM,sM,eM⟩:=h.rowM
 have hkl:=(List.getElem?_eq_some_iff.1 hk).1
 refine⟨⟨by rw [List.length_set];exact h.blk.touch t n2,⟨cL,hL.touch t n4,by rw [List.length_set];exact sL,fun j y hy=> ?_⟩,⟨_,hI.put _ _,by simp [sI],fun j y hy=> ?_⟩,⟨cM,hM.touch t (fun e=>n6 e.symm),by rw [List.length_set];exact sM,fun j y hy=> ?_⟩,n6,fun q hq=>Nat.lt_of_lt_of_le (h.lt q hq) t.size,h.far,fun y hy=> ?_,by rw [List.length_set];exact h.size⟩,t⟩
 ·rcases set_at hkl hy with⟨rfl,rfl⟩|⟨e,hy⟩
  ·obtain⟨u,h1,h2⟩:=eL j x hk
   exact⟨u,h1,h2.touch t (fun q hq=>(h.far q hq).2.1)⟩
  ·obtain⟨u,h1,h2⟩:=eL j y hy
   exact⟨u,h1,h2.touch t (fun q hq=>(h.far q hq).2.1)⟩
 ·rcases set_at hkl hy with⟨rfl,rfl⟩|⟨e,hy⟩
  ·exact set_same _ _ _ (by omega)
  ·exact(set_other _ _ _ _ (fun e'=>e e'.symm)).trans (eI j y hy)
 ·rcases set_at hkl hy with⟨rfl,rfl⟩|⟨e,hy⟩
  ·exact eM j x hk
  ·exact eM j y hy
 ·rcases List.mem_or_eq_of_mem_set hy with hy|rfl
  ·exact h.lens y hy
  ·exact h.lens x (List.mem_of_getElem? hk)
theorem RefWords.putM (h:RefWords w F b gl gi gm S) (hk:S[k]? =some x) (i:Bool):
  RefWords (w.setCell ⟨gm,k,none⟩ (.bool i)) F b gl gi gm (S.set k ⟨x.is,i,x.l⟩)∧Touch (fun q=>q=gm) w (w.setCell ⟨gm,k,none⟩ (.bool i)):=by
 have t:Touch (fun q=>q=gm) w (w.setCell ⟨gm,k,none⟩ (.bool i)):=(Touch.refl (fun q=>q=gm) w).setCell (p:=⟨gm,k,none⟩) (fun _=>rfl) _
 obtain⟨n1,n2,n3,n4,n5,n6⟩:=h.nes
 obtain⟨cL,hL,sL,eL⟩:=h.rowL
 obtain⟨cI,hI,sI,eI⟩:=h.rowI
 obtain⟨cM,hM,sM,eM⟩:=h.rowM
 have hkl:=(List.getElem?_eq_some_iff.1 hk).1
 refine⟨⟨by rw [List.length_set];exact h.blk.touch t n3,⟨cL,hL.touch t n5,by rw [List.length_set];exact sL,fun j y hy=> ?_⟩,⟨cI,hI.touch t n6,by rw [List.length_set];exact sI,fun j y hy=> ?_⟩,⟨_,hM.put _ _,by simp [sM],fun j y hy=> ?_⟩,n6,fun q hq=>Nat.lt_of_lt_of_le (h.lt q hq) t.size,h.far,fun y hy=> ?_,by rw [List.length_set];exact h.size⟩,t⟩
 ·rcases set_at hkl hy with⟨rfl,rfl⟩|⟨e,hy⟩
  ·obtain⟨u,h1,h2⟩:=eL j x hk
   exact⟨u,h1,h2.touch t (fun q hq=>(h.far q hq).2.2)⟩
  ·obtain⟨u,h1,h2⟩:=eL j y hy
   exact⟨u,h1,h2.touch t (fun q hq=>(h.far q hq).2.2)⟩
 ·rcases set_at hkl hy with⟨rfl,rfl⟩|⟨e,hy⟩
  ·exact eI j x hk
  ·exact eI j y hy
 ·rcases set_at hkl hy with⟨rfl,rfl⟩|⟨e,hy⟩
  ·exact set_same _ _ _ (by omega)
  ·exact(set_other _ _ _ _ (fun e'=>e e'.symm)).trans (eM j y hy)
 ·rcases List.mem_or_eq_of_mem_set hy with hy|rfl
  ·exact h.lens y hy
  ·exact h.lens x (List.mem_of_getElem? hk)
end
theorem RefWords.put {w:World} {F:Nat→Prop} {b gl gi gm:Nat} {S:List FoundD} {k:Nat} {x:FoundD} (h:RefWords w F b gl gi gm S) (hk:S[k]? =some x) (y:FoundD) {v:Value} (hv:RdI w F v y.l) (hl:y.l.length≤4096):
  RefWords (((w.setCell ⟨gl,k,none⟩ v).setCell ⟨gi,k,none⟩ (.bool y.is)).setCell ⟨gm,k,none⟩ (.bool y.long)) F b gl gi gm (S.set k y)∧Touch (fun q=>q=gl∨q=gi∨q=gm) w (((w.setCell ⟨gl,k,none⟩ v).setCell ⟨gi,k,none⟩ (.bool y.is)).setCell ⟨gm,k,none⟩ (.bool y.long)):=by
 have hkl:=(List.getElem?_eq_some_iff.1 hk).1
 obtain⟨h1,-⟩:=h.putL hk hv hl
 obtain⟨h2,-⟩:=h1.putI (k:=k) (x:=⟨x.is,x.long,y.l⟩) (by rw [List.getElem?_set_self hkl]) y.is
 obtain⟨h3,-⟩:=h2.putM (k:=k) (x:=⟨y.is,x.long,y.l⟩) (by rw [List.getElem?_set_self (by rw [List.length_set];exact hkl)]) y.long
 rw [List.set_set,List.set_set]at h3
 exact⟨h3,(((Touch.refl _ w).setCell (p:=⟨gl,k,none⟩) (fun _=> .inl rfl) _).setCell (p:=⟨gi,k,none⟩) (fun _=> .inr (.inl rfl)) _).setCell (p:=⟨gm,k,none⟩) (fun _=> .inr (.inr rfl)) _⟩
theorem RefWords.put2 {w:World} {F:Nat→Prop} {b gl gi gm:Nat} {S:List FoundD} {k:Nat} {x:FoundD} (h:RefWords w F b gl gi gm S) (hk:S[k]? =some x) {l:List Int} (i:Bool) {v:Value} (hv:RdI w F v l) (hl:l.length≤4096):
  RefWords ((w.setCell ⟨gl,k,none⟩ v).setCell ⟨gi,k,none⟩ (.bool i)) F b gl gi gm (S.set k ⟨i,x.long,l⟩)∧Touch (fun q=>q=gl∨q=gi∨q=gm) w ((w.setCell ⟨gl,k,none⟩ v).setCell ⟨gi,k,none⟩ (.bool i)):=by
 have hkl:=(List.getElem?_eq_some_iff.1 hk).1
 obtain⟨h1,-⟩:=h.putL hk hv hl
 obtain⟨h2,-⟩:=h1.putI (k:=k) (x:=⟨x.is,x.long,l⟩) (by rw [List.getElem?_set_self hkl]) i
 rw [List.set_set]at h2
 exact⟨h2,((Touch.refl _ w).setCell (p:=⟨gl,k,none⟩) (fun _=> .inl rfl) _).setCell (p:=⟨gi,k,none⟩) (fun _=> .inr (.inl rfl)) _⟩
end
end Go.Proofs.YtalbfonkhpeajaaGreat
namespace Go.Proofs.YtalbfonkhpeajaaGreat
set_option linter.unusedVariables false
open Go.RowKit
attribute [local irreducible] wpStill wpOne wpPh
def RefLeastPost (G:GramD) (st:Int) (w:World) (e:Ending) (w':World):Prop:=
 Below w.heap.size w w'∧((checkOf G st≠0∧e= .returned (.pointer none))∨(checkOf G st=0∧ ∃(S:List FoundD) (b gl gi gm:Nat),e= .returned (.pointer (some ⟨b,0,none⟩))∧Fixed G.rules (startW G.terms.length G.nons.length) S∧
  RefWords w' (fun q=>w.heap.size≤q∧q<w'.heap.size∧q≠gl∧q≠gi∧q≠gm) b gl gi gm S∧w.heap.size≤b∧w.heap.size≤gl∧w.heap.size≤gi∧w.heap.size≤gm∧GoodS G.terms.length S∧S.length=G.terms.length+G.nons.length+1))
structure RCtx (w wr:World) (F:Nat→Prop) (A1:Option Addr) (c1:Nat) (A2:Option Addr) (c2:Nat) (A3:Option Addr) (c3 T N R:Nat) (st:Int) (G:GramD) (bz gl gi gm:Nat) (S:List FoundD):Prop where
 g:GBox wr F w.heap.size A1 c1 A2 c2 A3 c3 T N R st G
 ws:RefWords wr (fun q=>bz<q∧q<wr.heap.size) bz gl gi gm S
 b:Below w.heap.size w wr
 z:w.heap.size<gl∧w.heap.size<gi∧w.heap.size<gm∧gl<bz∧gi<bz∧gm<bz
 f: ∀b,F b→b<w.heap.size
section
variable {w wr wr' : World} {F : Nat → Prop} {A1 : Option Addr} {c1 : Nat} {A2 : Option Addr} {c2 : Nat} {A3 : Option Addr} {c3 T N R : Nat} {st : Int} {G : GramD} {bz gl gi gm : Nat} {S : List FoundD}
theorem RCtx.below (h:RCtx w wr F A1 c1 A2 c2 A3 c3 T N R st G bz gl gi gm S) (b:Below wr.heap.size wr wr'):RCtx w wr' F A1 c1 A2 c2 A3 c3 T N R st G bz gl gi gm S:=by
 obtain⟨z1,z2,z3,z4,z5,z6⟩:=h.z
 exact⟨h.g.below b,(h.ws.below b).mono (fun k hk=>⟨hk.1,Nat.lt_of_lt_of_le hk.2 b.size⟩) (fun k hk=>hk.2) (fun k hk=>⟨fun e=>by omega,fun e=>by omega,fun e=>by omega⟩),h.b.trans (b.mono h.b.size),h.z,h.f⟩
theorem RCtx.turn {S':List FoundD} (h:RCtx w wr F A1 c1 A2 c2 A3 c3 T N R st G bz gl gi gm S) (t:Touch (fun q=>q=gl∨q=gi∨q=gm) wr wr') (hs:wr'.heap.size=wr.heap.size) (ws:RefWords wr' (fun q=>bz<q∧q<wr.heap.size) bz gl gi gm S'):RCtx w wr' F A1 c1 A2 c2 A3 c3 T N R st G bz gl gi gm S':=by
 obtain⟨z1,z2,z3,z4,z5,z6⟩:=h.z
 refine⟨h.g.touch t (fun k hk e=>by have:=h.f k hk;rcases e with e|e|e<;>omega) (fun e=>by rcases e with e|e|e<;>omega),ws.mono (fun k hk=>⟨hk.1,by omega⟩) (fun k hk=>hk.2) (fun k hk=>⟨fun e=>by omega,fun e=>by omega,fun e=>by omega⟩),h.b.trans (t.below (fun k hk _ e=>by rcases e with e|e|e<;>omega) h.b.size),⟨z1,z2,z3,z4,z5,z6⟩,h.f⟩
end
theorem four_blocks (w:World) (x0 x1 x2 x3:Array Value) (t0 t1 t2 t3:TypeId) (w':World) (h:w'=((((w.alloc (.cells x0 t0)).alloc (.cells x1 t1)).alloc (.cells x2 t2)).alloc (.cells x3 t3)).drew):
  Blk w' w.heap.size t0 x0∧Blk w' (w.heap.size+1) t1 x1∧Blk w' (w.heap.size+1+1) t2 x2∧Blk w' (w.heap.size+1+1+1) t3 x3∧Below w.heap.size w w'∧w'.heap.size=w.heap.size+1+1+1+1:=by
 have s1:(w.alloc (.cells x0 t0)).heap.size=w.heap.size+1:=by simp
 have s2:((w.alloc (.cells x0 t0)).alloc (.cells x1 t1)).heap.size=w.heap.size+1+1:=by simp
 have s3:(((w.alloc (.cells x0 t0)).alloc (.cells x1 t1)).alloc (.cells x2 t2)).heap.size=w.heap.size+1+1+1:=by simp
 subst h
 refine⟨(((Blk.new w t0 x0).alloc _).alloc _).alloc _,?_,?_,?_,((((Below.refl _ w).alloc (Nat.le_refl _) _).alloc (by rw [s1];omega) _).alloc (by rw [s2];omega) _).alloc (by rw [s3];omega) _|>.drew,by simp [World.drew]⟩
 ·have:=((Blk.new (w.alloc (.cells x0 t0)) t1 x1).alloc (.cells x2 t2)).alloc (.cells x3 t3)
  rw [s1]at this;exact this
 ·have:=(Blk.new ((w.alloc (.cells x0 t0)).alloc (.cells x1 t1)) t2 x2).alloc (.cells x3 t3)
  rw [s2]at this;exact this
 ·have:=Blk.new (((w.alloc (.cells x0 t0)).alloc (.cells x1 t1)).alloc (.cells x2 t2)) t3 x3
  rw [s3]at this;exact this
def Made (z n:Nat) (wr:World) (v:Value) (wx:World):Prop:=v= .pointer (some ⟨z+1+1+1,0,none⟩)∧Below z wr wx∧wx.heap.size=z+1+1+1+1∧ ∃gl gi gm,Blk wx (z+1+1+1) 126 #[.slice (some ⟨gl,0,none⟩) n n,.slice (some ⟨gi,0,none⟩) n n,.slice (some ⟨gm,0,none⟩) n n]∧(z≤gl∧gl<z+3)∧(z≤gi∧gi<z+3)∧(z≤gm∧gm<z+3)∧gi≠gm∧
 Blk wx gl 26 (madeCells #[.slice none 0 0] n)∧Blk wx gi 4 (madeCells #[.bool false] n)∧Blk wx gm 4 (madeCells #[.bool false] n)
theorem startTo_get {T N k:Nat} (h:k<T):(startTo T N k)[k+1]? =some noFound:=by
 unfold startTo
 rw [List.getElem?_cons_succ,List.getElem?_append_right (by simp)]
 simp only [List.length_map,List.length_range,Nat.sub_self]
 rw [List.getElem?_replicate,if_pos (by omega)]
theorem put2_alloc (w:World) (o:Obj) (g g' a b:Nat) (u v:Value) (hg:g<w.heap.size) (hg':g'<w.heap.size):((w.alloc o).setCell ⟨g,a,none⟩ u).setCell ⟨g',b,none⟩ v=((w.setCell ⟨g,a,none⟩ u).setCell ⟨g',b,none⟩ v).alloc o:=by
 rw [World.setCell_alloc_past _ _ _ _ hg,World.setCell_alloc_past _ _ _ _ (by simpa [World.setCell]using hg')]
set_option maxRecDepth 100000 in
set_option maxHeartbeats 4000000 in
theorem ref_least {w:World} {F:Nat→Prop} {vt vn vr:Value} {G:GramD} (h:IsGram w F vt vn vr G) (st:Int):
  Calls Tryz.prog 26 #[GV vt vn vr st] w (RefLeastPost G st w):=by
 obtain⟨A1,c1,A2,c2,A3,c3,rfl,rfl,rfl,-⟩:=h.slices
 obtain⟨w1,hw1⟩: ∃w1,w1=w.alloc (.cells #[.slice A1 G.terms.length c1,.slice A2 G.nons.length c2,.slice A3 G.rules.length c3,.int .i64 st] 25):=⟨_,rfl⟩
 have g1:=GBox.new h st
 have b1:Below w.heap.size w w1:=by rw [hw1];exact(Below.refl _ w).alloc (Nat.le_refl _) _
 have z1:w1.heap.size=w.heap.size+1:=by rw [hw1];simp
 rw [←hw1]at g1
 have hc:=ref_check g1.gram st
 obtain⟨q0,q1,q2,q3⟩:=g1.cells
 have hFw:=h.lt
 by_cases hz:checkOf G st=0
 ·obtain⟨hmany,-,-,hkn,-,-⟩:=checkOf_zero hz
  obtain⟨hT1,hN1,hR1,-⟩:=manyOf_no hmany
  rw [hz]at hc
  have hcT:=fun wr (g:GBox wr F w.heap.size A1 c1 A2 c2 A3 c3 G.terms.length G.nons.length G.rules.length st G)=>ref_top g.gram st
  have htop:topOf G=G.terms.length+G.nons.length:=rfl
  rw [htop]at hcT
  generalize hT:G.terms.length=T at *
  generalize hN:G.nons.length=N at *
  generalize hR:G.rules.length=R at *
  have hmkL: ∀w:World,(Instr.makeSlice 122 (.int .i64 ((T:Int)+(N:Int)+1)) (.int .i64 ((T:Int)+(N:Int)+1))).run Tryz.prog w= .ok (.slice (some ⟨w.heap.size,0,none⟩) (T+N+1) (T+N+1)) (w.alloc (.cells (madeCells #[.slice none 0 0] (T+N+1)) 26)):=fun w=>by
   have:=make_ints (T+N+1) (by omega) w
   rw [show((T+N+1:Nat):Int)=(T:Int)+(N:Int)+1 by omega]at this
   exact this
  have hmkB: ∀w:World,(Instr.makeSlice 124 (.int .i64 ((T:Int)+(N:Int)+1)) (.int .i64 ((T:Int)+(N:Int)+1))).run Tryz.prog w= .ok (.slice (some ⟨w.heap.size,0,none⟩) (T+N+1) (T+N+1)) (w.alloc (.cells (madeCells #[.bool false] (T+N+1)) 4)):=fun w=>by
   have:=make_bools (T+N+1) (by omega) w
   rw [show((T+N+1:Nat):Int)=(T:Int)+(N:Int)+1 by omega]at this
   exact this
  rw [hw1]at hc q0 q1 q2 q3
  clear h
  have Xhc:=hide hc;have Xhz:=hide hz;have XhFw:=hide hFw;have Xhkn:=hide hkn;have Xhmany:=hide hmany;have XhcT:=hide hcT;have XhT:=hide hT;have XhN:=hide hN;have XhR:=hide hR;have Xhtop:=hide htop;have Xb1:=hide b1;have Xz1:=hide z1;clear hc hz hFw hkn hmany hcT hT hN hR htop b1 z1
  go_enter Tryz.func26,Tryz.ntmps26
  go_wp2_with fail
  refine Xhc.out.mono ?_
  rintro e w2 ⟨rfl,b2⟩
  rw [←hw1]at b2
  have g2:=g1.below b2
  have hb2:=Xb1.out.trans (b2.mono Xb1.out.size)
  have z2:w.heap.size+1≤w2.heap.size:=by have:=b2.size;have:=Xz1.out;omega
  clear hw1 q0 q1 q2 q3 Xhc g1 b2
  obtain⟨q0,q1,q2,q3⟩:=g2.cells
  go_wp2_with fail
  refine(XhcT.out _ g2).mono ?_
  rintro e w3 ⟨rfl,b3⟩
  have g3:=g2.below b3
  have hb3:=hb2.trans (b3.mono hb2.size)
  have z3:w.heap.size+1≤w3.heap.size:=by have:=b3.size;omega
  clear q0 q1 q2 q3 g2 hb2 b3 z2
  go_upto_region 4 with fail
  go_cut [4]from 18 to 26 (fun p wx=>Made w3.heap.size (T+N+1) w3 p wx)
  case first=>
   clear Xhz XhFw Xhkn Xhmany XhcT XhT XhN XhR Xhtop Xb1 Xz1 g3 hb3 z3
   go_region
   all_goals(go_wp2_with fail;go_meet;obtain⟨k0,k1,k2,k3,kb,ks⟩:=four_blocks _ _ _ _ _ _ _ _ _ _ rfl;refine⟨rfl,kb,ks,_,_,_,k3,by omega,by omega,by omega,by omega,?_,?_,?_⟩)
   all_goals first|assumption
  case rest=>
   obtain⟨hp,b5,z5,gl,gi,gm,kw,hgl,hgi,hgm,hne,kl,ki,km⟩:=hcut
   subst hp
   clear hmkL hmkB
   have g5:=g3.below b5
   have hb5:=hb3.trans (b5.mono hb3.size)
   clear b5 g3 hb3
   obtain⟨bz,hbz⟩: ∃bz,bz=w3.heap.size+1+1+1:=⟨_,rfl⟩
   rw [←hbz]at kw⊢
   have ws5:RefWords wc (fun q=>bz<q∧q<wc.heap.size) bz gl gi gm (List.replicate (T+N+1) noFound):=RefWords.made kw kl ki km hne (by omega) (fun k hk=>⟨hk.2,by omega,by omega,by omega⟩)
   have ctx5:RCtx w wc F A1 c1 A2 c2 A3 c3 T N R st G bz gl gi gm (List.replicate (T+N+1) noFound):=⟨g5,ws5,hb5,by omega,XhFw.out⟩
   have ht:Touch (fun q=>q=gl∨q=gi∨q=gm) wc (wc.setCell ⟨gi,0,none⟩ (.bool true)):=(Touch.refl _ wc).setCell (p:=⟨gi,0,none⟩) (fun _=> .inr (.inl rfl)) _
   have ctx6:=ctx5.turn (S':=startTo T N 0) ht (setCell_size _ _ _) (by rw [startTo_zero];exact(ws5.putI (k:=0) (x:=noFound) (by rw [List.getElem?_replicate];simp) true).1)
   obtain⟨hp0,hp1,hp2⟩:=ws5.ptr
   rw [List.length_replicate]at hp0 hp1 hp2
   have e0:wc.cell? ⟨gi,0,none⟩=some (.bool false):=(ki.cell 0).trans (made_one _ _ _ (by omega))
   have f0:=ki.frozen 0
   clear kw kl ki km g5 hb5 ws5 ctx5 ht z5 hgl hgi hgm hne z3
   have Xctx6:=hide ctx6;have Xhbz:=hide hbz;clear ctx6 hbz
   go_wp2_with fail
   go_loopw [5] (fun i wr=> ∃k:Nat,k≤T∧i= .int .i64 ((k:Int)+1)∧RCtx w wr F A1 c1 A2 c2 A3 c3 T N R st G bz gl gi gm (startTo T N k)) (fun i _=>(T+1) - (intOf i).toNat)
   case atStart=>exact⟨0,Nat.zero_le _,rfl,Xctx6.out⟩
   case round=>
    clear Xctx6 e0 f0 hp0 hp1 hp2
    obtain⟨k,hk,rfl,ctx⟩:=hrel
    obtain⟨q0,q1,q2,q3⟩:=ctx.g.cells
    have hlen:=startTo_len (N:=N) hk
    by_cases hlt:k<T
    ·have hle:((k:Int)+1)≤(T:Int):=by omega
     obtain⟨hp0,hp1,hp2⟩:=ctx.ws.ptr
     rw [hlen]at hp0 hp1 hp2
     obtain⟨x,Ax,nx,cx,hx,e0,e1,e2,-⟩:=ctx.ws.at_ (k:=k+1) (by rw [hlen];omega)
     have fl:wr.frozen? ⟨gl,k+1,none⟩=false:=by obtain⟨cells,hg,_⟩:=ctx.ws.rowL;exact hg.frozen _
     have fi:wr.frozen? ⟨gi,k+1,none⟩=false:=by obtain⟨cells,hg,_⟩:=ctx.ws.rowI;exact hg.frozen _
     have ll:gl<wr.heap.size:=by obtain⟨cells,hg,_⟩:=ctx.ws.rowL;exact hg.lt
     have li:gi<wr.heap.size:=by obtain⟨cells,hg,_⟩:=ctx.ws.rowI;exact hg.lt
     have k1:(k:Int)+1<(T:Int)+(N:Int)+1:=by omega
     have n4:gl≠gi:=ctx.ws.nes.2.2.2.1
     have n4':gi≠gl:=fun e=>n4 e.symm
     have hp0':=cell_a hp0
     have hp1':=cell_a hp1
     have e0':=cell_a e0
     have e2':=cell_a e2
     have fl': ∀o,(wr.alloc o).frozen? ⟨gl,k+1,none⟩=false:=fun o=>by obtain⟨cells,hg,_⟩:=ctx.ws.rowL;exact(hg.alloc o).frozen _
     have fi': ∀o,(wr.alloc o).frozen? ⟨gi,k+1,none⟩=false:=fun o=>by obtain⟨cells,hg,_⟩:=ctx.ws.rowI;exact(hg.alloc o).frozen _
     have fin:RCtx w ((((wr.setCell ⟨gl,k+1,none⟩ (.slice (some ⟨wr.heap.size,0,none⟩) 1 1)).setCell ⟨gi,k+1,none⟩ (.bool true)).alloc (.cells #[.int .i64 ((k:Int)+1)] 3)).drew) F A1 c1 A2 c2 A3 c3 T N R st G bz gl gi gm (startTo T N (k+1)):=by
      have ba:Below wr.heap.size wr (wr.alloc (.cells #[.int .i64 ((k:Int)+1)] 3)):=(Below.refl _ _).alloc (Nat.le_refl _) _
      have c7:=ctx.below ba
      have hv:RdI (wr.alloc (.cells #[.int .i64 ((k:Int)+1)] 3)) (fun q=>bz<q∧q<(wr.alloc (.cells #[.int .i64 ((k:Int)+1)] 3)).heap.size) (.slice (some ⟨wr.heap.size,0,none⟩) 1 1) [(k:Int)+1]:=by
       have hbl:=ctx.ws.blk.lt
       exact(Rd.one' (w:=wr) (e:=3) [I64 ((k:Int)+1)] 1 rfl).mono (fun q hq=>⟨by omega,by rw [hq];simp⟩)
      have hp:=c7.ws.put2 (k:=k+1) (startTo_get hlt) true hv (by simp)
      have c8:=c7.turn hp.2 (by simp [World.setCell]) hp.1
      have hss:=startTo_succ (N:=N) hlt
      rw [put2_alloc _ _ _ _ _ _ _ _ ll li]at c8
      rw [←hss]
      exact c8.below ((Below.refl _ _).drew)
     have Xctx:=hide ctx;have Xhx:=hide hx;have Xhlen:=hide hlen;have Xfin:=hide fin;clear ctx hx hlen fin;clear q1 q2 q3
     go_upto_region 9 with fail
     clear q0
     go_region
     go_wp2_with fail
     go_roundw
     case rel=>exact⟨k+1,by omega,by go_num,Xfin.out⟩
     case measure=>simp [intOf];omega
    ·have hle: ¬((k:Int)+1)≤(T:Int):=by omega
     obtain rfl:k=T:=by omega
     have ctx8:RCtx w wr F A1 c1 A2 c2 A3 c3 k N R st G bz gl gi gm (startW k N):=by
      have c:=ctx
      rw [startTo_end]at c
      exact c
     have hrl: ∀r∈G.rules,(k:Int)<r.1∧r.1≤(k:Int)+(N:Int):=fun r hr=>by
      have hk2:=Xhkn.out
      unfold allKnown at hk2
      rw [Bool.and_eq_true,List.all_eq_true]at hk2
      have:=hk2.2 r hr
      unfold knownOf at this
      rw [Bool.and_eq_true,isNon_iff,XhT.out,XhN.out]at this
      exact this.1
     have hRl:G.rules.length=R:=XhR.out
     clear ctx q1 q2 q3
     have Xctx8:=hide ctx8;have Xhrl:=hide hrl;have XhRl:=hide hRl;have Xhlen:=hide hlen;clear ctx8 hrl hRl hlen
     go_wp2_with fail
     clear q0
     go_loopg [6] (totalW (k+1) (startW k N)+1) (fun κ more wr=> ∃(S:List FoundD) (j:Nat) (m:Bool),more= .bool m∧S=iter (fun S=>(passTo G.rules S).1) j (startW k N)∧GoodS k S∧S.length=k+N+1∧RCtx w wr F A1 c1 A2 c2 A3 c3 k N R st G bz gl gi gm S∧(m=false→(passTo G.rules S).2=false)∧(m=true→totalW (k+1) S+1≤κ))
     case atStart=>exact⟨startW k N,0,true,rfl,rfl,(startW_good k N).1,(startW_good k N).2,Xctx8.out,fun h=>(by cases h),fun _=>Nat.le_refl _⟩
     case round=>
      clear Xctx8
      obtain⟨S,j,m,rfl,hS,hgood,hlen,ctx,hm1,hm2⟩:=hrel
      cases m with
      |false=>
       have hfix:=hm1 rfl
       have hfin:RefLeastPost G st w (.returned (.pointer (some ⟨bz,0,none⟩))) wr:=
        ⟨ctx.b,.inr ⟨Xhz.out,S,bz,gl,gi,gm,rfl,⟨⟨j,by rw [XhT.out,XhN.out];exact hS⟩,hfix⟩,ctx.ws.mono (fun q hq=>⟨by have:=ctx.z;omega,hq.2,by have:=ctx.z;omega,by have:=ctx.z;omega,by have:=ctx.z;omega⟩) (fun q hq=>hq.2.1) (fun q hq=>hq.2.2),by have:=ctx.z;omega,by have:=ctx.z;omega,by have:=ctx.z;omega,by have:=ctx.z;omega,by rw [XhT.out];exact hgood,by rw [XhT.out,XhN.out];exact hlen⟩⟩
       clear hm1 hm2
       have Xhfin:=hide hfin;have Xhfix:=hide hfix;have XhS:=hide hS;have Xhgood:=hide hgood;have Xhlen:=hide hlen;have Xctx:=hide ctx;clear hfin hfix hS hgood hlen ctx
       go_wp2_with fail
       go_ret
       exact Xhfin.out
      |true=>
       have hκ:=hm2 rfl
       clear hm1 hm2
       obtain⟨q0,q1,q2,q3⟩:=ctx.g.cells
       have hpass:=passK_good (B:=k+1) rfl hgood hlen (fun r hr=>⟨by have:=(Xhrl.out r hr).1;omega,by have:=(Xhrl.out r hr).2;omega⟩)
       have r0:=ctx.g.rs
       have r1:=ctx.g.rc
       have r2:=ctx.g.c3m
       have XhS:=hide hS;have Xhgood:=hide hgood;have Xhlen:=hide hlen;have Xhκ:=hide hκ;have Xhpass:=hide hpass;clear hS hgood hlen hκ hpass
       obtain⟨wo,rfl⟩: ∃wo:World,wo=wr:=⟨_,rfl⟩
       go_wp2_with fail
       clear q0 q1 q2 q3
       go_loopw [6,7] (fun more i wr=> ∃q:Nat,q≤R∧i= .int .i64 q∧more= .bool (passK G.rules S q).2∧RCtx w wr F A1 c1 A2 c2 A3 c3 k N R st G bz gl gi gm (passK G.rules S q).1) (fun _ i _=>R - (intOf i).toNat)
       case atStart=>exact⟨0,Nat.zero_le _,rfl,rfl,ctx⟩
       case round=>
        clear ctx
        obtain⟨q,hq,rfl,rfl,ctx⟩:=hrel
        obtain⟨hg1,hl1,ho1⟩:=Xhpass.out q (by rw [XhRl.out];exact hq)
        obtain⟨P,hP⟩: ∃P,P=passK G.rules S q:=⟨_,rfl⟩
        rw [←hP]at ctx hg1 hl1 ho1⊢
        obtain⟨q0,q1,q2,q3⟩:=ctx.g.cells
        by_cases hlt:q<R
        ·obtain⟨b,off,l,x,A,n,c,rfl,hbl,hx,h0,h1,hr,hn,hnc,hcm⟩:=ctx.g.rule hlt
         have hlr:=Xhrl.out _ (List.mem_of_getElem? hx)
         obtain⟨ln,rfl⟩:=Int.eq_ofNat_of_zero_le (by have:=hlr.1;simp only at this;omega:0≤l)
         have hln:ln<P.1.length:=by have:=hlr.2;simp only at this;omega
         have hnext:=passK_succ (S:=S) hx
         rw [←hP]at hnext
         have hq':(q:Int)<(R:Int):=by omega
         have hln':(ln:Int)<(k:Int)+(N:Int)+1:=by omega
         have hj:=ref_join ctx.ws hr ctx.g.gram.lt (fun i=>(jTo_good hg1 _).1)
         have hxg:=joinOf_good hg1 x
         obtain⟨xj,hxj⟩: ∃xj,xj=joinOf P.1 x:=⟨_,rfl⟩
         rw [←hxj]at hj hxg
         obtain⟨y,hy⟩: ∃y,P.1[ln]? =some y:=⟨_,List.getElem?_eq_getElem hln⟩
         have hlk:=lookW_nat hy
         have hstep:stepR P.1 ((ln:Int),x)=if betterB xj y=true then(P.1.set ln xj,true)else(P.1,false):=by
          unfold stepR;simp only [hlk,←hxj,Int.toNat_natCast]
         rw [hstep]at hnext
         have Xhx:=hide hx;have Xhr:=hide hr;have Xhn:=hide hn;have Xhlr:=hide hlr;have Xhnext:=hide hnext;have Xhj:=hide hj;have Xhxg:=hide hxg;have Xhxj:=hide hxj;have Xhy:=hide hy;have Xhlk:=hide hlk;have Xhstep:=hide hstep;have XhP:=hide hP;have Xhg1:=hide hg1;have Xhl1:=hide hl1;have Xho1:=hide ho1;have Xctx:=hide ctx;clear hx hr hn hlr hnext hj hxg hxj hy hlk hstep hP hg1 hl1 ho1 ctx
         go_wp2_with fail
         refine Xhj.out.mono ?_
         rintro e w9 ⟨Aj,nj,cj,rfl,hrj,b9⟩
         have h0':=(b9.cell (p:=⟨b,off+q * 2,none⟩) hbl).trans h0
         have ctx9:=Xctx.out.below b9
         clear h0 h1 q0 q1 q2 q3 Xhj
         obtain⟨q0,q1,q2,q3⟩:=ctx9.g.cells
         have hbz9:=b9.size
         have wrz:bz<wr.heap.size:=Xctx.out.ws.blk.lt
         cases hxi:xj.is with
         |false=>
          have hbf:betterB xj y=false:=by unfold betterB;rw [hxi];rfl
          rw [hbf,if_neg (by decide),Bool.or_false]at Xhnext
          have Xctx9:=hide ctx9;have Xhrj:=hide hrj;have Xhbf:=hide hbf;have Xhxi:=hide hxi;clear ctx9 hrj hbf hxi
          go_wp2_with fail
          go_roundw
          case rel=>exact⟨q+1,by omega,by go_num,by rw [Xhnext.out],by rw [Xhnext.out];exact Xctx9.out⟩
          case measure=>simp [intOf];omega
         |true=>
          have hbt:=betterR_eq xj y hxi
          have hb:=ref_better ctx9.ws xj (s:=ln) (y:=y) Xhy.out hrj
          rw [←hbt]at hb
          clear hbt
          generalize hbb:betterB xj y=bb at *
          have Xhb:=hide hb;have Xctx9:=hide ctx9;have Xhrj:=hide hrj;have Xhbb:=hide hbb;have Xhxi:=hide hxi;clear hb ctx9 hrj hbb hxi
          go_wp2_with fail
          refine Xhb.out.mono ?_
          rintro e w10 ⟨rfl,qn,hw10⟩
          have b10:Below w9.heap.size w9 w10:=by rw [hw10];exact below_drewN (Below.refl _ _) qn
          have ctx10:=Xctx9.out.below b10
          have hrj10:=Xhrj.out.below b10 (fun i hi=>hi.2)
          have hz10:=b10.size
          clear q0 q1 q2 q3 hw10 Xhb h0'
          cases bb with
          |false=>
           rw [if_neg (by decide),Bool.or_false]at Xhnext
           have Xctx10:=hide ctx10;have Xhrj10:=hide hrj10;clear ctx10 hrj10
           go_wp2_with fail
           go_roundw
           case rel=>exact⟨q+1,by omega,by go_num,by rw [Xhnext.out],by rw [Xhnext.out];exact Xctx10.out⟩
           case measure=>simp [intOf];omega
          |true=>
           rw [if_pos rfl,Bool.or_true]at Xhnext
           obtain⟨q0,q1,q2,q3⟩:=ctx10.g.cells
           obtain⟨hp0,hp1,hp2⟩:=ctx10.ws.ptr
           rw [Xhl1.out]at hp0 hp1 hp2
           obtain⟨y',Ay,ny,cy,hy',e0,e1,e2,-⟩:=ctx10.ws.at_ (k:=ln) (by have:=Xhl1.out;omega)
           obtain⟨n1,n2,n3,n4,n5,n6⟩:=ctx10.ws.nes
           have n4':gi≠gl:=fun e=>n4 e.symm
           have n5':gm≠gl:=fun e=>n5 e.symm
           have n6':gm≠gi:=fun e=>n6 e.symm
           have fl:w10.frozen? ⟨gl,ln,none⟩=false:=by obtain⟨cells,hg,_⟩:=ctx10.ws.rowL;exact hg.frozen _
           have fi:w10.frozen? ⟨gi,ln,none⟩=false:=by obtain⟨cells,hg,_⟩:=ctx10.ws.rowI;exact hg.frozen _
           have fm:w10.frozen? ⟨gm,ln,none⟩=false:=by obtain⟨cells,hg,_⟩:=ctx10.ws.rowM;exact hg.frozen _
           have hp:=ctx10.ws.put (k:=ln) Xhy.out xj (v:= .slice Aj nj cj) (hrj10.mono (fun i hi=>by omega)) Xhxg.out.len
           rw [Xhxi.out]at hp
           have fin:=(ctx10.turn hp.2 (by simp [World.setCell]) hp.1).below ((Below.refl _ _).drew)
           have n1':gl≠bz:=fun e=>n1 e.symm
           have n2':gi≠bz:=fun e=>n2 e.symm
           have n3':gm≠bz:=fun e=>n3 e.symm
           clear hp q0 q1 q2 q3
           have Xfin:=hide fin;have Xctx10:=hide ctx10;have Xhrj10:=hide hrj10;have Xhy':=hide hy';clear fin ctx10 hrj10 hy'
           go_wp2_with fail
           go_region
           go_wp2_with fail
           go_roundw
           case rel=>exact⟨q+1,by omega,by go_num,by rw [Xhnext.out],by rw [Xhnext.out];exact Xfin.out⟩
           case measure=>simp [intOf];omega
        ·have hqR:q=R:=by omega
         have hPe:P=passTo G.rules S:=by rw [hP,hqR,←XhRl.out];exact passK_end _ _
         have hlt': ¬((q:Int)<(R:Int)):=by omega
         have hnx:P.1=iter (fun S=>(passTo G.rules S).1) (j+1) (startW k N):=by
          show _=(passTo G.rules (iter (fun S=>(passTo G.rules S).1) j (startW k N))).1
          rw [←XhS.out,hPe]
         have hκ:=Xhκ.out
         rcases ho1 with⟨h2,hPS⟩|⟨h2,htot⟩
         ·have hf:(passTo G.rules P.1).2=false:=by rw [hPS,←hPe];exact h2
          rw [h2]
          have XhP:=hide hP;have XhPe:=hide hPe;have Xhnx:=hide hnx;have XhPS:=hide hPS;have Xhf:=hide hf;have Xh2:=hide h2;have Xhg1:=hide hg1;have Xhl1:=hide hl1;have Xctx:=hide ctx;have XhqR:=hide hqR;have Xhκ:=hide hκ;clear hP hPe hnx hPS hf h2 hg1 hl1 ctx hqR hκ
          go_wp2_with fail
          go_roundg 0
          case measure=>have:=Xhκ.out;omega
          case rel=>exact⟨P.1,j+1,false,rfl,Xhnx.out,Xhg1.out,Xhl1.out,Xctx.out,fun _=>Xhf.out,fun h=>(by cases h)⟩
         ·rw [h2]
          have hm:totalW (k+1) P.1+1<gk:=by omega
          have XhP:=hide hP;have XhPe:=hide hPe;have Xhnx:=hide hnx;have Xh2:=hide h2;have Xhtot:=hide htot;have Xhm:=hide hm;have Xhg1:=hide hg1;have Xhl1:=hide hl1;have Xctx:=hide ctx;have XhqR:=hide hqR;have Xhκ:=hide hκ;clear hP hPe hnx h2 htot hm hg1 hl1 ctx hqR hκ
          go_wp2_with fail
          go_roundg (totalW (k+1) P.1+1)
          case measure=>exact Xhm.out
          case rel=>exact⟨P.1,j+1,true,rfl,Xhnx.out,Xhg1.out,Xhl1.out,Xctx.out,fun h=>(by cases h),fun _=>Nat.le_refl _⟩
 ·have hcn:(checkOf G st !=0)=true:=by simpa using hz
  rw [hw1]at hc q0 q1 q2 q3
  have fin: ∀w2,Below w1.heap.size w1 w2→RefLeastPost G st w (.returned (.pointer none)) w2:=fun w2 b2=>⟨b1.trans (b2.mono b1.size),.inl ⟨hz,rfl⟩⟩
  rw [hw1]at fin
  clear hw1 g1 b1 z1
  have Xhc:=hide hc;have Xfin:=hide fin;have Xhz:=hide hz;have XhFw:=hide hFw;clear hc fin hz hFw
  generalize checkOf G st=ck at *
  clear h
  go_enter Tryz.func26,Tryz.ntmps26
  go_wp2_with fail
  refine Xhc.out.mono ?_
  rintro e w2 ⟨rfl,b2⟩
  have hf:=Xfin.out w2 b2
  clear q0 q1 q2 q3 Xhc Xfin b2
  have Xhf:=hide hf;clear hf
  go_wp2_with fail
  go_ret
  exact Xhf.out
end Go.Proofs.YtalbfonkhpeajaaGreat
namespace Go.Proofs.YtalbfonkhpeajaaGreat
set_option linter.unusedVariables false
set_option linter.unusedSimpArgs false
open Go.RowKit
attribute [local irreducible] wpStill wpOne wpPh
theorem RefWords.touch {w w':World} {F S':Nat→Prop} {b gl gi gm:Nat} {S:List FoundD} (h:RefWords w F b gl gi gm S) (t:Touch S' w w') (hF: ∀k,F k→ ¬S' k) (hb: ¬S' b) (h1: ¬S' gl) (h2: ¬S' gi) (h3: ¬S' gm):RefWords w' F b gl gi gm S:=by
 obtain⟨cL,hL,sL,eL⟩:=h.rowL
 obtain⟨cI,hI,sI,eI⟩:=h.rowI
 obtain⟨cM,hM,sM,eM⟩:=h.rowM
 exact⟨h.blk.touch t hb,⟨cL,hL.touch t h1,sL,fun i x hx=>by
  obtain⟨v,a,c⟩:=eL i x hx
  exact⟨v,a,c.touch t hF⟩⟩,⟨cI,hI.touch t h2,sI,eI⟩,⟨cM,hM.touch t h3,sM,eM⟩,h.apart,fun k hk=>Nat.lt_of_lt_of_le (h.lt k hk) t.size,h.far,h.lens,h.size⟩
def RWordsIn (V:World) (F:Nat→Prop) (pw:Value) (S:List FoundD):Prop:= ∃b gl gi gm Fw,pw= .pointer (some ⟨b,0,none⟩)∧RefWords V Fw b gl gi gm S∧(∀k,Fw k→F k)∧F b∧F gl∧F gi∧F gm
theorem RWordsIn.touch {w w':World} {F S':Nat→Prop} {pw:Value} {S:List FoundD} (h:RWordsIn w F pw S) (t:Touch S' w w') (hF: ∀k,F k→ ¬S' k):RWordsIn w' F pw S:=by
 obtain⟨b,gl,gi,gm,Fw,e,h1,h2,h3,h4,h5,h6⟩:=h
 exact⟨b,gl,gi,gm,Fw,e,h1.touch t (fun k hk=>hF k (h2 k hk)) (hF b h3) (hF gl h4) (hF gi h5) (hF gm h6),h2,h3,h4,h5,h6⟩
theorem RWordsIn.mono {w:World} {F F':Nat→Prop} {pw:Value} {S:List FoundD} (h:RWordsIn w F pw S) (hF: ∀k,F k→F' k):RWordsIn w F' pw S:=by
 obtain⟨b,gl,gi,gm,Fw,e,h1,h2,h3,h4,h5,h6⟩:=h
 exact⟨b,gl,gi,gm,Fw,e,h1,fun k hk=>hF k (h2 k hk),hF b h3,hF gl h4,hF gi h5,hF gm h6⟩
def RLeastIn (G:GramD) (w:World) (e:Ending) (w':World):Prop:= ∃S pb,e= .returned (.pointer (some ⟨pb,0,none⟩))∧Below w.heap.size w w'∧RWordsIn w' (fun q=>w.heap.size≤q∧q<w'.heap.size) (.pointer (some ⟨pb,0,none⟩)) S∧WordsOf G S
theorem RefLeastPost.in_ {G:GramD} {st:Int} {w w':World} {e:Ending} (h:RefLeastPost G st w e w') (hc:checkOf G st=0):RLeastIn G w e w':=by
 obtain⟨hb,⟨h1,-⟩|⟨-,S,b,gl,gi,gm,rfl,h1,h2,h3,h4,h5,h6,h7,h8⟩⟩:=h
 ·exact absurd hc h1
 ·obtain⟨cL,hL,-⟩:=h2.rowL
  obtain⟨cI,hI,-⟩:=h2.rowI
  obtain⟨cM,hM,-⟩:=h2.rowM
  exact⟨S,_,rfl,hb,⟨b,gl,gi,gm,_,rfl,h2,fun k hk=>⟨hk.1,hk.2.1⟩,⟨h3,h2.blk.lt⟩,⟨h4,hL.lt⟩,⟨h5,hI.lt⟩,⟨h6,hM.lt⟩⟩,h1,h7,h8⟩
section
variable {V V' : World} {F S' : Nat → Prop} {R P Q n : Nat} {pw : Value} {S : List FoundD} {W : Wos}
end
section
variable {T : Nat} {D : Sts} {W0 : Wos} {Z : Nat} {w3 : World} {R P Q n : Nat} {pw : Value} {S : List FoundD} {b : Bool} {W : Wos} {Fr : Nat → Prop} {i k : Nat} {wr wq : World}
end
end Go.Proofs.YtalbfonkhpeajaaGreat

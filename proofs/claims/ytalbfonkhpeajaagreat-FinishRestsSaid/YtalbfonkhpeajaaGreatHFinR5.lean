/- The least end, the document's: are states right. -/
import Derived.Test.YtalbfonkhpeajaaGreatHRoute1
import Derived.Test.YtalbfonkhpeajaaGreatHFinR4
import Derived.Test.YtalbfonkhpeajaaGreatHFinR1
import Derived.Test.YtalbfonkhpeajaaGreatHFin11
import Derived.Deep.Cut
import Derived.Test.YtalbfonkhpeajaaGreatHFin14
namespace Go.Proofs.YtalbfonkhpeajaaGreat
set_option linter.unusedVariables false
set_option linter.unusedSimpArgs false
open Go.RowKit
attribute [local irreducible] wpStill wpOne wpPh
theorem any_snoc {D:List It} {j:Nat} {x:It} {p:It→Bool} (h:D[j]? =some x):(D.take (j+1)).any p=((D.take j).any p||p x):=by
 rw [List.take_add_one,h];simp
set_option maxRecDepth 100000 in
set_option maxHeartbeats 4000000 in
theorem ref_right22 {w:World} {F Fs:Nat→Prop} {v vs:Value} {D:List (List It×List It)} {s:List Nat} (h:RdSt w F v D) (hs:RdI w Fs vs (NatL s)) (hlow: ∀(i q:Nat),s[i]? =some q→q<D.length):
  Calls Tryz.prog 25 #[v,vs] w fun e w'=>e= .returned (.bool (rightB D s))∧ ∃q,w'=w.drewN q:=by
 obtain⟨As,m,cs,rfl,-⟩:=id hs
 obtain⟨hm,hmc,hcm,hcell⟩:=RdI.at_ hs
 unfold maxLen at hcm
 rw [List.length_map]at hm
 obtain⟨Aa,n,ca,rfl⟩:=rdst_shape h
 obtain⟨hn,hnc,hncm,hcella⟩:=h.at_
 unfold maxLen at hncm
 obtain⟨r,hr⟩: ∃r,r=rightB D s:=⟨_,rfl⟩
 rw [←hr]
 have f1:s[0]? ≠some 0→r=false:=fun e=>by
  rw [hr,Bool.eq_false_iff];exact fun c=>e (rightB_yes.1 c).1
 have f2: ∀i,i+1<m→wayB D s i=false→r=false:=fun i hi e=>by
  rw [hr,Bool.eq_false_iff];intro c;rw [(rightB_yes.1 c).2 i (by omega)]at e;cases e
 have f3:s[0]? =some 0→(∀i,i+1<m→wayB D s i=true)→r=true:=fun a b=>by
  rw [hr];exact rightB_yes.2 ⟨a,fun i hi=>b i (by omega)⟩
 by_cases h0:m=0
 ·have hv:=f1 (by rw [List.getElem?_eq_none (by omega)];simp)
  subst h0
  clear hcell h hs f1 f2 f3 hr hcella
  have Xhm:=hide hm;have Xhv:=hide hv;have Xhlow:=hide hlow;have Xhn:=hide hn;clear hm hv hlow hn
  go_enter Tryz.func25,Tryz.ntmps25
  go_wp2_with fail
  go_ret
  exact⟨ret_bool Xhv.out.symm,0,rfl⟩
 ·obtain⟨b0,off,rfl,hb0,hcc⟩:=hcell (by omega)
  obtain⟨x,hx⟩: ∃x,s[0]? =some x:=⟨_,List.getElem?_eq_getElem (by omega)⟩
  have hcx:w.cell? ⟨b0,off,none⟩=some (.int .i64 (x:Int)):=hcc 0 _ (natL_get hx)
  have hm0:((m:Int)==0)=false:=by simp;omega
  have hm1:(0:Int)<(m:Int):=by omega
  by_cases hx0:x=0
  ·subst hx0
   clear h hs hr hcell
   have Xhm:=hide hm;have Xf1:=hide f1;have Xf2:=hide f2;have Xf3:=hide f3;have Xhlow:=hide hlow;have Xhx:=hide hx;have Xhn:=hide hn;have Xhcella:=hide hcella;have Xhcc:=hide hcc;clear hm f1 f2 f3 hlow hx hn hcella hcc
   go_enter Tryz.func25,Tryz.ntmps25
   go_wp2_with fail
   clear hcx
   go_loopw [5] (fun v5 wr=> ∃k q:Nat,k+1≤m∧v5= .int .i64 ((k:Int)+1)∧(∀j,j<k→wayB D s j=true)∧wr=w.drewN q) (fun v5 _=>m - (intOf v5).toNat)
   case atStart=>exact⟨0,0,by omega,rfl,fun j hj=>(by omega),rfl⟩
   case round=>
    obtain⟨k,q,him,rfl,hwy,rfl⟩:=hrel
    by_cases hltk:k+1<m
    ·have hltk':((k:Int)+1)<(m:Int):=by omega
     have hk1:(0:Int)≤((k:Int)+1):=by omega
     have hw1':IntKind.i64.wrap (((k:Int)+1) - 1)=(k:Int):=by rw [IntKind.wrap_i64];omega
     have hk1n:((k:Int)+1).toNat=k+1:=by omega
     have hw4':IntKind.i64.wrap (k:Int)=(k:Int):=by rw [IntKind.wrap_i64];omega
     obtain⟨x,hx⟩: ∃x,s[k]? =some x:=⟨_,List.getElem?_eq_getElem (by have:=Xhm.out;omega)⟩
     obtain⟨y,hy⟩: ∃x,s[k+1]? =some x:=⟨_,List.getElem?_eq_getElem (by have:=Xhm.out;omega)⟩
     have hxl:=Xhlow.out k x hx
     have hnl:=Xhn.out
     obtain⟨ba,oa,rfl,-,hca⟩:=Xhcella.out (by omega)
     obtain⟨d,hd⟩: ∃d,D[x]? =some d:=⟨_,List.getElem?_eq_getElem hxl⟩
     obtain⟨z1,z2,-,e2,-,r2⟩:=hca x d hd
     obtain⟨Az,nz,cz,rfl,-⟩:=id r2
     obtain⟨hnz,hnzc,hczm,hcz⟩:=RdIt.at_ r2
     unfold maxLen at hczm
     have hxn:(x:Int)<(n:Int):=by omega
     have hx0:(0:Int)≤(x:Int):=by omega
     have qx:=Xhcc.out k _ (natL_get hx)
     have qy:=Xhcc.out (k+1) _ (natL_get hy)
     have hk0:(0:Int)≤(k:Int):=by omega
     have hkm:(k:Int)<(m:Int):=by omega
     have hway:wayB D s k=d.2.any fun x=>decide (x.2=(y:Int)):=by
      unfold wayB;rw [hx,hy];simp only [Option.getD_some];rw [hd];rfl
     clear r2 hca hnl
     have Xhx:=hide hx;have Xhy:=hide hy;have Xhd:=hide hd;have Xhxl:=hide hxl;have Xhway:=hide hway;have Xhnz:=hide hnz;have Xhcz:=hide hcz;have Xhwy:=hide hwy;have Xhltk:=hide hltk;have Xhim:=hide him;clear hx hy hd hxl hway hnz hcz hwy hltk him
     go_wp2_with fail
     go_loopw [6,7] (fun v6 v7 w2=> ∃j q2:Nat,j≤nz∧v7= .int .i64 (j:Int)∧v6= .bool ((d.2.take j).any fun x=>decide (x.2=(y:Int)))∧w2=w.drewN q2) (fun _ v7 _=>nz - (intOf v7).toNat)
     case atStart=>exact⟨0,q,Nat.zero_le _,rfl,rfl,rfl⟩
     case round=>
      obtain⟨j,q2,hj,rfl,rfl,rfl⟩:=hrel
      by_cases hlj:j<nz
      ·have hlj':(j:Int)<(nz:Int):=by omega
       have hj0:(0:Int)≤(j:Int):=by omega
       obtain⟨b3,o3,rfl,-,hc3⟩:=Xhcz.out (by omega)
       obtain⟨⟨a0,a1⟩,ha⟩: ∃x,d.2[j]? =some x:=⟨_,List.getElem?_eq_getElem (by rw [←Xhnz.out];exact hlj)⟩
       have qa:=(hc3 j _ ha).2
       have hsn:=any_snoc (p:=fun x=>decide (x.2=(y:Int))) ha
       obtain⟨b,hb⟩: ∃b,b=(d.2.take j).any fun x=>decide (x.2=(y:Int)):=⟨_,rfl⟩
       rw [←hb]at hsn⊢
       clear hc3
       cases b with
       |true=>
        rw [Bool.true_or]at hsn
        clear qa
        have Xha:=hide ha;have Xhsn:=hide hsn;have Xhb:=hide hb;clear ha hsn hb
        go_wp2_with fail
        refine region_reads (by kernel_rfl) (by kernel_rfl) ?_
        repeat still_step
        refine wpStill_nil ?_
        go_wp2_with fail
        go_roundw
        case rel=>exact⟨j+1,q2+1,by omega,by go_num,by rw [Xhsn.out],rfl⟩
        case measure=>simp [intOf];omega
       |false=>
        rw [Bool.false_or]at hsn
        have Xha:=hide ha;have Xhsn:=hide hsn;have Xhb:=hide hb;clear ha hsn hb
        go_wp2_with fail
        refine region_reads (by kernel_rfl) (by kernel_rfl) ?_
        repeat still_step
        refine wpStill_nil ?_
        go_wp2_with fail
        go_roundw
        case rel=>exact⟨j+1,q2+1,by omega,by go_num,by rw [Xhsn.out];rfl,rfl⟩
        case measure=>simp [intOf];omega
      ·have hlj': ¬(j:Int)<(nz:Int):=by omega
       have hall:(d.2.take j).any (fun x=>decide (x.2=(y:Int)))=wayB D s k:=by
        rw [List.take_of_length_le (by have:=Xhnz.out;omega)];exact Xhway.out.symm
       rw [hall]
       obtain⟨wy,hwy2⟩: ∃q,q=wayB D s k:=⟨_,rfl⟩
       rw [←hwy2]
       clear hall
       cases wy with
       |false=>
        have hv:=Xf2.out k Xhltk.out hwy2.symm
        have Xhv:=hide hv;have Xhwy2:=hide hwy2;clear hv hwy2
        go_wp2_with fail
        go_ret
        exact⟨ret_bool Xhv.out.symm,q2,rfl⟩
       |true=>
        have hwy': ∀j,j<k+1→wayB D s j=true:=fun j hj=>by
         by_cases e:j=k
         ·rw [e];exact hwy2.symm
         ·exact Xhwy.out j (by omega)
        have Xhwy':=hide hwy';have Xhwy2:=hide hwy2;clear hwy' hwy2
        go_wp2_with fail
        go_roundw
        case rel=>exact⟨k+1,q2,by have:=Xhltk.out;omega,by go_num,Xhwy'.out,rfl⟩
        case measure=>simp [intOf];have:=Xhltk.out;omega
    ·have hm1:k+1=m:=by omega
     have hltk': ¬((k:Int)+1)<(m:Int):=by omega
     have hv:=Xf3.out Xhx.out (fun j hj=>hwy j (by omega))
     have Xhv:=hide hv;have Xhwy:=hide hwy;clear hv hwy
     go_wp2_with fail
     go_ret
     exact⟨ret_bool Xhv.out.symm,q,rfl⟩
  ·have hv:=f1 (by rw [hx];exact fun e=>hx0 (Option.some.inj e))
   have hne:((x:Int) !=0)=true:=by simpa using(by omega: ¬(x:Int)=0)
   clear hcc h hs f1 f2 f3 hr hcell hcella
   have Xhm:=hide hm;have Xhv:=hide hv;have Xhlow:=hide hlow;have Xhx:=hide hx;have Xhn:=hide hn;clear hm hv hlow hx hn
   go_enter Tryz.func25,Tryz.ntmps25
   go_wp2_with fail
   go_ret
   exact⟨ret_bool Xhv.out.symm,0,rfl⟩
end Go.Proofs.YtalbfonkhpeajaaGreat
namespace Go.Proofs.YtalbfonkhpeajaaGreat
set_option linter.unusedVariables false
set_option linter.unusedSimpArgs false
open Go.RowKit
attribute [local irreducible] wpStill wpOne wpPh
def RRest (w:World) (G:GramD) (st ck:Int) (s:List Nat) (e:Ending) (w':World):Prop:= ∃ev D,AutoIs G st ck ev D∧(((ev≠0∨rightB D s=false)∧e= .returned (.tuple #[.slice none 0 0,.bool false])∧Below w.heap.size w w')∨
 (ev=0∧rightB D s=true∧ ∃S m q,WordsOf G S∧s.length=m+1∧s[m]? =some q∧RestO w G.terms.length (stepsF G st D S s) (m,q) e w'))
theorem r3_touch {w w':World} {E:Nat} {v:Value} {l:List It} (h:RdIt w (fun b=>b<E) v l) (t:Touch (fun b=>E≤b) w w'):RdIt w' (fun b=>b<E) v l:=Rd.touch h t fun b hb=>by omega
set_option maxRecDepth 100000 in
set_option maxHeartbeats 8000000 in
theorem ref_Rest {w:World} {Fg Fs:Nat→Prop} {vt vn vr:Value} {G:GramD} (h:IsGram w Fg vt vn vr G) (st:Int) {As:Option Addr} {ms cs:Nat} {s:List Nat} (hs:RdI w Fs (.slice As ms cs) (NatL s)) (hFs: ∀b,Fs b→b<w.heap.size) (hlow: ∀ev D,AutoIs G st (checkOf G st) ev D→ ∀(i q:Nat),s[i]? =some q→q<D.length) (hs20:s.length≤100):
  Calls Tryz.prog 9 #[GV vt vn vr st,.slice As ms cs] w (RRest w G st (checkOf G st) s):=by
 obtain⟨A1,c1,A2,c2,A3,c3,rfl,rfl,rfl,-⟩:=h.slices
 obtain⟨hms,hmc,hcm,-⟩:=RdI.at_ hs
 unfold maxLen at hcm
 rw [List.length_map]at hms
 obtain⟨w1,hw1⟩: ∃w1,w1=w.alloc (.cells #[.slice A1 G.terms.length c1,.slice A2 G.nons.length c2,.slice A3 G.rules.length c3,.int .i64 st] 25):=⟨_,rfl⟩
 have b1:Below w.heap.size w w1:=by rw [hw1];exact(Below.refl _ w).alloc (Nat.le_refl _) _
 have k1:Blk w1 w.heap.size 25 #[.slice A1 G.terms.length c1,.slice A2 G.nons.length c2,.slice A3 G.rules.length c3,.int .i64 st]:=by rw [hw1];exact Blk.new _ _ _
 have hFg: ∀b,Fg b→b<w.heap.size:=h.lt
 have g1:=h.below b1
 have cb:=ref13_Build g1 g1.lt st
 have cl:=fun wr (g:IsGram wr Fg (.slice A1 G.terms.length c1) (.slice A2 G.nons.length c2) (.slice A3 G.rules.length c3) G)=>ref_least g st
 have rss: ∀wr,Below w.heap.size w wr→RdI wr Fs (.slice As ms cs) (NatL s):=fun wr hb=>Rd.below hs hb hFs
 have hck: ∀D,AutoIs G st (checkOf G st) 0 D→checkOf G st=0:=fun D h=>h.bld.1
 obtain⟨ck,eck⟩: ∃q,q=checkOf G st:=⟨_,rfl⟩
 rw [←eck]at cb hck hlow⊢
 obtain⟨T,hT⟩: ∃q,q=G.terms.length:=⟨_,rfl⟩
 obtain⟨N,hN⟩: ∃q,q=G.nons.length:=⟨_,rfl⟩
 obtain⟨R,hR⟩: ∃q,q=G.rules.length:=⟨_,rfl⟩
 rw [←hT,←hN,←hR]at hw1 k1 g1 cb cl
 rw [←hT,←hN,←hR]
 have q0:=(k1.cell 0).trans rfl
 have q1:=(k1.cell 1).trans rfl
 have q2:=(k1.cell 2).trans rfl
 have q3:=(k1.cell 3).trans rfl
 rw [hw1]at q0 q1 q2 q3
 clear h hs
 have Xcb:=hide cb;have Xcl:=hide cl;have Xg1:=hide g1;have Xb1:=hide b1;have Xk1:=hide k1;have Xhck:=hide hck;have Xeck:=hide eck;have Xrss:=hide rss;have XhFg:=hide hFg;have XhFs:=hide hFs;have Xhlow:=hide hlow;have Xhms:=hide hms;have XhT:=hide hT;have XhN:=hide hN;have XhR:=hide hR;have Xhs20:=hide hs20;clear cb cl g1 b1 k1 hck eck rss hFg hFs hlow hms hT hN hR hs20
 go_enter Tryz.func9,Tryz.ntmps9
 go_wp2_with fail
 rw [←hw1]
 refine Xcb.out.mono ?_
 rintro e w3 hp
 obtain⟨b3,A,n,c,ev,D,rfl,rd3,hai⟩:=hp.flat
 have t:ES w Fg (.slice A1 T c1) (.slice A2 N c2) (.slice A3 R c3) st G (.slice A n c) D w3:=⟨Xg1.out.below b3,Xk1.out.below b3 Xk1.out.lt,rd3.mono (fun b hb=>hb.2),Xb1.out.trans (b3.mono Xb1.out.size)⟩
 clear q0 q1 q2 q3 hw1 hp Xcb Xg1 Xb1 Xk1 b3 rd3
 by_cases hev:ev=0
 ·subst hev
  have hc0:=Xhck.out _ hai
  have hlw:=Xhlow.out _ _ hai
  have cr:=ref_right22 t.rd (Xrss.out _ t.le) hlw
  obtain⟨rb,hrb⟩: ∃r,r=rightB D s:=⟨_,rfl⟩
  rw [←hrb]at cr
  have Xt:=hide t;have Xhai:=hide hai;have Xhc0:=hide hc0;have Xcr:=hide cr;have Xhrb:=hide hrb;have Xhlw:=hide hlw;clear t hai hc0 cr hrb hlw
  go_wp2_with fail
  refine Xcr.out.mono ?_
  rintro e w4 ⟨rfl,q,hw4⟩
  have b4:Below w3.heap.size w3 w4:=by rw [hw4];exact⟨rfl,rfl,rfl,Nat.le_refl _,fun _ _=>rfl⟩
  have t4:=Xt.out.next b4
  clear Xt Xcr hw4 b4
  cases rb with
  |false=>
   have fin:RRest w G st ck s (.returned (.tuple #[.slice none 0 0,.bool false])) w4:=⟨0,D,Xhai.out,.inl ⟨.inr Xhrb.out.symm,rfl,t4.le⟩⟩
   clear t4
   have Xfin:=hide fin;clear fin
   go_wp2_with fail
   go_ret2
   exact Xfin.out
  |true=>
   obtain⟨q0,q1,q2,q3⟩:=t4.cells
   have Xt4:=hide t4;clear t4
   go_wp2_with fail
   refine wp_region_held_drew (S:=(fun W=>W.cell? ⟨w.heap.size,0,none⟩=some (.slice A1 T c1)∧W.cell? ⟨w.heap.size,1,none⟩=some (.slice A2 N c2)∧W.cell? ⟨w.heap.size,2,none⟩=some (.slice A3 R c3)∧W.cell? ⟨w.heap.size,3,none⟩=some (.int .i64 st))) (by kernel_rfl) ?_ (fun hHeld=> ?_)
   ·exact⟨q0,q1,q2,q3⟩
   have dr:=(Below.refl w4.heap.size w4).drew
   have td:=Xt4.out.next dr
   have cld:Calls Tryz.prog 26 #[GV (.slice A1 T c1) (.slice A2 N c2) (.slice A3 R c3) st] w4.drew (RLeastIn G w4.drew):=(Xcl.out _ td.g).mono fun e w' hl=>hl.in_ (by rw [←Xeck.out];exact Xhc0.out)
   clear q0 q1 q2 q3 dr Xcl Xt4
   generalize w4.drew=wd at *
   have Xcld:=hide cld;have Xtd:=hide td;clear cld td
   refine tk (i:=0) (oi:= ?_) (v:= ?_) ?_ (by kernel_rfl) ?_ (Or.inl ⟨?_,?_⟩) (by assumption) ?_;rotate_left 2;(focus((try simp only [gT,gs,gz]);try rfl));exact fun _ _ _ h=>h;rfl;(focus(intro wS hwS;(try dsimp only at hwS);go_simp;all_goals with_reducible rfl));try simp only [Act.put,sT,s0,s1]
   refine tk (i:=1) (oi:= ?_) (v:= ?_) ?_ (by kernel_rfl) ?_ (Or.inl ⟨?_,?_⟩) (by assumption) ?_;rotate_left 2;(focus((try simp only [gT,gs,gz]);try rfl));exact fun _ _ _ h=>h;rfl;(focus(intro wS hwS;(try dsimp only at hwS);go_simp;all_goals with_reducible rfl));try simp only [Act.put,sT,s0,s1]
   refine tk (i:=2) (oi:= ?_) (v:= ?_) ?_ (by kernel_rfl) ?_ (Or.inl ⟨?_,?_⟩) (by assumption) ?_;rotate_left 2;(focus((try simp only [gT,gs,gz]);try rfl));exact fun _ _ _ h=>h;rfl;(focus(intro wS hwS;(try dsimp only at hwS);go_simp;all_goals with_reducible rfl));try simp only [Act.put,sT,s0,s1]
   refine tk (i:=4) (oi:= ?_) (v:= ?_) ?_ (by kernel_rfl) ?_ (Or.inl ⟨?_,?_⟩) (by assumption) ?_;rotate_left 2;(focus((try simp only [gT,gs,gz]);try rfl));exact fun _ _ _ h=>h;rfl;(focus(intro wS hwS;(try dsimp only at hwS);go_simp;all_goals with_reducible rfl));try simp only [Act.put,sT,s0,s1]
   refine wpAnyH_ready (rs:=[3]) (by kernel_rfl) (by simp) ?_
   refine AllReadyH.cons (o:= ?_) ?_ (fun K hK=> ?_) AllReadyH.nil;rotate_left 1;(focus((try simp only [gT,gs,gz]);try rfl))
   go_simp
   go_at_call 26
   refine Xcld.out.mono ?_
   rintro e w5 ⟨S,pb,rfl,b5,ws5,hws⟩
   have t5:=Xtd.out.next b5
   clear Xcld Xtd b5
   have Xt5:=hide t5;have Xws5:=hide ws5;have Xhws:=hide hws;clear t5 ws5 hws
   refine hK.out _ _ ?_ (fun hHeld=> ?_)
   ·exact Xt5.out.cells
   clear hK K
   try simp only [Act.put,sT,s0,s1]
   refine tk (i:=5) (oi:= ?_) (v:= ?_) ?_ (by kernel_rfl) ?_ (Or.inl ⟨?_,?_⟩) (by assumption) ?_;rotate_left 2;(focus((try simp only [gT,gs,gz]);try rfl));exact fun _ _ _ h=>h;rfl;(focus(intro wS hwS;(try dsimp only at hwS);go_simp;all_goals with_reducible rfl));try simp only [Act.put,sT,s0,s1]
   refine wpAnyH_ready (rs:=[6]) (by kernel_rfl) (by simp) ?_
   refine AllReadyH.cons (o:= ?_) ?_ (fun K hK=> ?_) AllReadyH.nil;rotate_left 1;(focus((try simp only [gT,gs,gz]);try rfl))
   go_simp
   obtain⟨w6,hw6⟩: ∃w6,w6=w5.alloc (.cells #[.slice A1 T c1,.slice A2 N c2,.slice A3 R c3,.int .i64 st,.slice A n c,.pointer (some ⟨pb,0,none⟩),.slice As ms cs,.slice none 0 0] 80):=⟨_,rfl⟩
   rw [←hw6]
   have b6:Below w5.heap.size w5 w6:=by rw [hw6];exact(Below.refl _ _).alloc (Nat.le_refl _) _
   have k6:Blk w6 w5.heap.size 80 #[.slice A1 T c1,.slice A2 N c2,.slice A3 R c3,.int .i64 st,.slice A n c,.pointer (some ⟨pb,0,none⟩),.slice As ms cs,.slice none 0 0]:=by rw [hw6];exact Blk.new _ _ _
   have t6:=Xt5.out.next b6
   obtain⟨E,hE⟩: ∃E,E=w5.heap.size:=⟨_,rfl⟩
   rw [←hE]at k6 b6⊢
   have hwE:w.heap.size≤E:=by rw [hE];exact Xt5.out.le.size
   have hE6:=k6.lt
   have nd:NdM w6 E A1 c1 A2 c2 A3 c3 T N R st G A n c D pb S As ms cs s (.slice none 0 0) []:=by
    refine⟨k6,t6.g.monoF (fun b hb=>Nat.lt_of_lt_of_le (XhFg.out b hb) hwE) (fun b hb=>Nat.lt_trans hb hE6),XhR.out,?_,?_,(Rd.below (Xrss.out _ Xt5.out.le) (hE▸b6) (fun b hb=>by rw [←hE];exact Nat.lt_of_lt_of_le (XhFs.out b hb) hwE)).mono (fun b hb=>Nat.lt_of_lt_of_le (XhFs.out b hb) hwE),World.ownsRow_nil _ _ _ _,fun z hz=>(by cases hz)⟩
    ·rw [hE]
     exact Xt5.out.rd.below (hE▸b6) (fun b hb=>hb)
    ·exact(Xws5.out.touch (Touch.of_size (hE▸b6) (fun _=>False)) (fun _ _ e=>e)).mono fun b hb=>by rw [hE];exact hb.2
   have le6:=t6.le
   have c6:=t6.cells
   clear Xt5 Xws5 hE b6 k6 t6 hw6
   have Xnd:=hide nd;have Xle6:=hide le6;clear nd le6
   refine hK.out _ _ ?_ (fun hHeld=> ?_)
   ·exact c6
   clear hK K
   try simp only [Act.put,sT,s0,s1]
   clear c6
   refine tk (i:=7) (oi:= ?_) (v:= ?_) ?_ (by kernel_rfl) ?_ (Or.inl ⟨?_,?_⟩) (by assumption) ?_;rotate_left 2;(focus((try simp only [gT,gs,gz]);try rfl));exact fun _ _ _ h=>h;rfl;(focus(intro wS hwS;(try dsimp only at hwS);go_simp;all_goals with_reducible rfl));try simp only [Act.put,sT,s0,s1]
   refine wpAnyH_done (by kernel_rfl) ?_ _
   obtain⟨L,Tt,hB,hDe⟩:=Xhai.out.bldB.2
   have hK:KnA G st:=KnA.of_check (by rw [←Xeck.out];exact Xhc0.out)
   have hDl:D.length=L.length:=by rw [hDe];unfold stD;simp
   have hrF:RightF L Tt s:=(right_iff hB.f.len (fun h q e=>by rw [←hDl];exact Xhlw.out h q e)).1 (by rw [←hDe];exact Xhrb.out.symm)
   obtain⟨m,q,hm,hq,hfok⟩:=hrF.top
   obtain⟨Sp,hSp⟩: ∃Sp,Sp=stepsF G st D S s:=⟨_,rfl⟩
   obtain⟨Ap,hAp⟩: ∃Ap,Ap=OkPl L Tt s:=⟨_,rfl⟩
   obtain⟨g,hg⟩: ∃g,g=gridF s.length L.length:=⟨_,rfl⟩
   have hOk:OkS T Sp:=by rw [hSp,XhT.out];exact steps_ok (fixed_ok Xhws.out.1)
   have hStay:StaysF Sp Ap:=by rw [hSp,hDe,hAp];exact stays_ok hK hB hrF S
   have hGr: ∀p,Ap p→p∈g:=fun p h=>by rw [hg];rw [hAp]at h;exact ok_grid h
   have hgl:g.length≤200000:=by
    rw [hg,grid_size]
    exact Nat.le_trans (Nat.mul_le_mul Xhs20.out hB.f.small) (by decide)
   have hKin: ∀p x y,x∈itemsF D p→stepF G st D S s p x=some y→y∈Sp p:=fun p x y h1 h2=>by rw [hSp];exact steps_in p x y h1 h2
   have hKof: ∀p y,y∈Sp p→ ∃x∈itemsF D p,stepF G st D S s p x=some y:=fun p y h=>steps_of p y (by rw [←hSp];exact h)
   have hdot: ∀p,Ap p→ ∀d,D[p.2]? =some d→d.1.length≤1000000∧ ∀x∈d.1,0≤x.2∧x.2.toNat≤(ruleOf G st x.1).1.2.length∧0<(ruleOf G st x.1).1.2.length∧(x.1≠(G.rules.length:Int)→0<x.2∧x.2.toNat≤p.1∧ ∃i q:Nat,s[p.1 - x.2.toNat]? =some i∧gotoD D i (ruleOf G st x.1).1.1=(q:Int)):=fun p h d hd=>by
    rw [hAp]at h
    rw [hDe]at hd⊢
    exact item_dot hK hB hrF h hd
   have hpl: ∀p,Ap p→p.1≤100∧p.2<D.length:=fun p h=>by
    rw [hAp]at h
    have:=h.h
    have:=Xhs20.out
    exact⟨by omega,by rw [hDl];exact h.q⟩
   have hfok:Ap (m,q):=by rw [hAp];exact hfok
   have hG:GoodS G.terms.length S:=Xhws.out.2.1
   clear hAp hg hDe hB hrF hDl
   obtain⟨hn,hnc,hncm,hcella⟩:=Xnd.out.a.at_
   unfold maxLen at hncm
   obtain⟨ba,oa,rfl,-,-⟩:=hcella (by have:=(hpl _ hfok).2;omega)
   obtain⟨-,-,-,hcs⟩:=RdI.at_ Xnd.out.s
   have hms9:=Xhms.out
   obtain⟨bs,os,rfl,-,hcs⟩:=hcs (by omega)
   have qs:=hcs m _ (natL_get hq)
   have hwm:IntKind.i64.wrap ((ms:Int) - 1)=(m:Int):=by rw [IntKind.wrap_i64];omega
   have hwm2:IntKind.i64.wrap (m:Int)=(m:Int):=by rw [IntKind.wrap_i64];omega
   have hml:(m:Int)<(ms:Int):=by omega
   have hm0:(0:Int)≤(m:Int):=by omega
   have cf:=ref_find22 Xnd.out (m,q) (Nat.zero_le _)
   clear hcella hcs hms9
   have XhK:=hide hK;have Xhm:=hide hm;have Xhq:=hide hq;have XhSp:=hide hSp;have XhOk:=hide hOk;have XhStay:=hide hStay;have XhGr:=hide hGr;have Xhgl:=hide hgl;have XhKin:=hide hKin;have XhKof:=hide hKof;have Xhdot:=hide hdot;have Xhpl:=hide hpl;have Xhfok:=hide hfok;have XhG:=hide hG;have Xhn:=hide hn;have Xcf:=hide cf;have XhwE:=hide hwE;clear hK hm hq hSp hOk hStay hGr hgl hKin hKof hdot hpl hfok hG hn cf hwE
   go_wp2_with fail
   refine Xcf.out.mono ?_
   rintro e w7 ⟨i7,vN7,Z7,rfl,h7,t7,-,-,hcs7⟩
   have hZ7:Z7=[(((m,q),none),.slice none 0 0)]:=by
    rcases hcs7 with⟨h,-⟩|⟨-,h⟩
    ·cases h
    ·exact h
   subst hZ7
   have le7:=t7.toBelow (B:=w.heap.size) (fun k e=>by
    rcases e with e|e
    ·rw [e];exact XhwE.out
    ·cases e) Xle6.out Xle6.out.size
   have rel7:RelF (fun _=>none) [((((m,q):Pl),(none:Option Wd)),Value.slice none 0 0)]:=fun z hz=>by rw [List.mem_singleton.1 hz]
   have rst7:RefSt T Sp Ap g (m,q) [(m,q)] (fun _=>none) [] [(m,q)] (fun _=>none) false:=RefSt.start Xhfok.out
   clear Xcf Xnd Xle6 qs t7 hcs7 hwm hwm2 hml hm0
   have Xh7:=hide h7;have Xle7:=hide le7;have Xrel7:=hide rel7;have Xrst7:=hide rst7;clear h7 le7 rel7 rst7
   go_wp2_with fail
   go_loopg [9] (mesF T g [(m,q)] (fun _=>none)+1) (fun κ v9 wr=> ∃(more:Bool) (vN:Value) (Z:List NdV) (F:Pl→Option Wd),v9= .bool more∧NdM wr E A1 c1 A2 c2 A3 c3 T N R st G (some ⟨ba,oa,none⟩) n c D pb S (some ⟨bs,os,none⟩) ms cs s vN Z∧RelF F Z∧Below w.heap.size w wr∧RefSt T Sp Ap g (m,q) (nmZ Z) F [] (nmZ Z) F false∧(more=false→StaysF Sp (fun p=>p∈nmZ Z)∧ClosedF Sp (fun p=>p∈nmZ Z) F)∧(more=true→mesF T g (nmZ Z) F+1≤κ))
   case atStart=>exact⟨true,vN7,_,_,rfl,Xh7.out,Xrel7.out,Xle7.out,Xrst7.out,fun e=>(by cases e),fun _=>Nat.le_refl _⟩
   case round=>
    clear Xh7 Xle7 Xrel7 Xrst7
    obtain⟨more,vN,Z,F,rfl,hM,rel,le,rst,hno,hyes⟩:=hrel
    cases more with
    |false=>
     obtain⟨hst,hcl⟩:=hno rfl
     have hfirst:=rst.first
     obtain⟨z0,hz0⟩: ∃z,Z[0]? =some z:=by
      cases e:Z[0]? with
      |some z=>exact⟨z,rfl⟩
      |none=>unfold nmZ at hfirst;rw [List.getElem?_map,e]at hfirst;cases hfirst
     have hz0f:z0.1.1=(m,q):=by
      unfold nmZ at hfirst
      rw [List.getElem?_map,hz0]at hfirst
      injection hfirst
     have hF0:F (m,q)=z0.1.2:=by rw [←hz0f];exact rel z0 (List.mem_of_getElem? hz0)
     have hle:=closed_least XhOk.out hst rst.sound hcl (List.mem_of_getElem? hfirst)
     rw [hF0]at hle
     obtain⟨g9,cap9,rfl,hl1,hl2,hE9,-,-,-,y2,y3,-⟩:=hM.cell hz0
     unfold maxLen at hl2
     replace y2:wr.cell? ⟨g9,2,none⟩=some (.bool z0.1.2.isSome):=y2
     replace y3:wr.cell? ⟨g9,3,none⟩=some z0.2:=y3
     have hrz:=hM.ok z0 (List.mem_of_getElem? hz0)
     obtain⟨Av,mv,cv,hvz,-⟩:=id hrz
     rw [hvz]at y3 hrz
     have q7:=(hM.blk.cell 7).trans rfl
     have hL0:(0:Int)<(Z.length:Int):=by have:=(List.getElem?_eq_some_iff.1 hz0).1;omega
     obtain⟨Lz,hLz⟩: ∃q,q=Z.length:=⟨_,rfl⟩
     rw [←hLz]at q7 hL0 hl1
     have hL1:0<Lz:=by omega
     obtain⟨ob,hob⟩: ∃q,q=z0.1.2:=⟨_,rfl⟩
     rw [←hob]at y2 hle hrz
     have fin:RRest w G st ck s (.returned (.tuple #[.slice Av mv cv,.bool ob.isSome])) wr.drew:=by
      refine⟨0,D,Xhai.out,.inr ⟨rfl,Xhrb.out.symm,S,m,q,Xhws.out,Xhm.out,Xhq.out,ob,Av,mv,cv,rfl,Rd.drew (Rd.mono hrz fun b hb=>hb.1),le.drew,?_⟩⟩
      rw [←XhT.out,←XhSp.out]
      exact hle
     clear hM hrz rel hno hyes rst hst hcl hvz hfirst hz0f hF0 hle le
     have XhLz:=hide hLz;have Xhob:=hide hob;have Xfin:=hide fin;have Xhz0:=hide hz0;clear hLz hob fin hz0
     go_wp2_with fail
     refine region_reads (by kernel_rfl) (by kernel_rfl) ?_
     repeat still_step
     refine wpStill_nil ?_
     go_wp2_with fail
     go_ret2
     exact Xfin.out
    |true=>
     have hyes:=hyes rfl
     clear hno
     have ps0:=PassI.start (K:=itemsF D) (o:=stepF G st D S s) rst
     obtain⟨N0,hN0⟩: ∃q,q=nmZ Z:=⟨_,rfl⟩
     obtain⟨F0,hF0⟩: ∃q,q=F:=⟨_,rfl⟩
     have ps0:PassI T Sp Ap g (m,q) N0 F0 (itemsF D) (stepF G st D S s) 0 0 (nmZ Z) F false:=by rw [hN0,hF0];exact ps0
     rw [←hN0,←hF0]at hyes
     clear rst
     have XhM:=hide hM;have Xrel:=hide rel;have Xle:=hide le;have Xps0:=hide ps0;have Xhyes:=hide hyes;have XhN0:=hide hN0;have XhF0:=hide hF0;clear hM rel le ps0 hyes hN0 hF0
     go_wp2_with fail
     go_loopw [9,10] (fun v9 v10 w2=> ∃(more:Bool) (vN:Value) (Z:List NdV) (F:Pl→Option Wd) (i:Nat),v9= .bool more∧v10= .int .i64 (i:Int)∧i≤Z.length∧NdM w2 E A1 c1 A2 c2 A3 c3 T N R st G (some ⟨ba,oa,none⟩) n c D pb S (some ⟨bs,os,none⟩) ms cs s vN Z∧RelF F Z∧Below w.heap.size w w2∧PassI T Sp Ap g (m,q) N0 F0 (itemsF D) (stepF G st D S s) i 0 (nmZ Z) F more) (fun _ v10 _=>g.length - (intOf v10).toNat)
     case atStart=>exact⟨false,vN,Z,F,0,rfl,rfl,Nat.zero_le _,XhM.out,Xrel.out,Xle.out,Xps0.out⟩
     case round=>
      clear XhM Xrel Xle Xps0
      obtain⟨more,vN2,Z2,F2,i,rfl,rfl,hiZ,h2,rel2,le2,ps2⟩:=hrel
      obtain⟨A9,c9,rfl,hl9,hc9⟩:=ownsRow_shape h2.own
      unfold maxLen at hc9
      have q7:=(h2.blk.cell 7).trans rfl
      have hZg:Z2.length≤g.length:=by
       have:=RefSt.len XhGr.out ps2.st
       unfold nmZ at this
       rwa [List.length_map]at this
      obtain⟨L2,hL2⟩: ∃q,q=Z2.length:=⟨_,rfl⟩
      rw [←hL2]at q7 hl9 hiZ hZg
      by_cases hi:i<L2
      ·have hi':(i:Int)<(L2:Int):=by omega
       have hi0:(0:Int)≤(i:Int):=by omega
       obtain⟨z,hz⟩: ∃z,Z2[i]? =some z:=⟨_,List.getElem?_eq_getElem (by rw [←hL2];exact hi)⟩
       obtain⟨p,hp⟩: ∃p,p=z.1.1:=⟨_,rfl⟩
       have hNi:(nmZ Z2)[i]? =some p:=by unfold nmZ;rw [List.getElem?_map,hz,hp];rfl
       have hAp:=ps2.st.ok p (List.mem_of_getElem? hNi)
       obtain⟨hp1,hp2⟩:=Xhpl.out p hAp
       obtain⟨d,hd⟩: ∃d,D[p.2]? =some d:=⟨_,List.getElem?_eq_getElem hp2⟩
       obtain⟨g9,cap9,e9,-,-,-,-,-,y1,-⟩:=h2.cell hz
       injection e9 with e9 e8 e7
       clear e8 e7
       subst e9
       rw [←hp]at y1
       obtain⟨-,-,-,hca⟩:=h2.a.at_
       obtain⟨b8,o8,e8,-,hca⟩:=hca (by have:=Xhn.out;omega)
       injection e8 with e8
       injection e8 with e8 e9 _
       subst e8 e9
       obtain⟨z1,z2,e1,-,r1,-⟩:=hca p.2 d hd
       obtain⟨Ai,nl,ci,rfl,-⟩:=id r1
       obtain⟨hnl,hnlc,hcl,-⟩:=RdIt.at_ r1
       unfold maxLen at hcl
       have hpn:(p.2:Int)<(n:Int):=by have:=Xhn.out;omega
       have hp0:(0:Int)≤(p.2:Int):=by omega
       obtain⟨hdl,hdt⟩:=Xhdot.out p hAp d hd
       clear hca hp2
       have Xh2:=hide h2;have Xrel2:=hide rel2;have Xle2:=hide le2;have Xps2:=hide ps2;have XhL2:=hide hL2;have Xhz:=hide hz;have Xhp:=hide hp;have XhNi:=hide hNi;have XhAp:=hide hAp;have Xhd:=hide hd;have Xr1:=hide r1;have Xhnl:=hide hnl;have Xhdl:=hide hdl;have Xhdt:=hide hdt;have XhZg:=hide hZg;have Xhp1:=hide hp1;clear h2 rel2 le2 ps2 hL2 hz hp hNi hAp hd r1 hnl hdl hdt hZg hp1
       go_wp2_with fail
       go_loopw [9,12,13] (fun v9 v12 v13 w3=> ∃(more:Bool) (vN:Value) (Z:List NdV) (F:Pl→Option Wd) (k L3:Nat),v9= .bool more∧v12= .int .i64 (L3:Int)∧L3=Z.length∧v13= .int .i64 (k:Int)∧k≤nl∧NdM w3 E A1 c1 A2 c2 A3 c3 T N R st G (some ⟨ba,oa,none⟩) n c D pb S (some ⟨bs,os,none⟩) ms cs s vN Z∧RelF F Z∧Below w.heap.size w w3∧PassI T Sp Ap g (m,q) N0 F0 (itemsF D) (stepF G st D S s) i k (nmZ Z) F more∧(nmZ Z)[i]? =some p∧RdIt w3 (fun b=>b<E) (.slice Ai nl ci) d.1) (fun _ _ v13 _=>nl - (intOf v13).toNat)
       case atStart=>exact⟨more,_,Z2,F2,0,L2,rfl,rfl,XhL2.out,rfl,Nat.zero_le _,Xh2.out,Xrel2.out,Xle2.out,Xps2.out,XhNi.out,Xr1.out⟩
       case round=>
        clear Xh2 Xrel2 Xle2 Xps2 XhNi Xr1 q7 y1 e1
        obtain⟨more,vN3,Z3,F3,k,L3,rfl,rfl,hL3,rfl,hk,h3,rel3,le3,ps3,hNi,r3⟩:=hrel
        by_cases hkl:k<nl
        ·have hkl':(k:Int)<(nl:Int):=by omega
         have hk0:(0:Int)≤(k:Int):=by omega
         obtain⟨-,-,-,hck⟩:=RdIt.at_ r3
         obtain⟨bi,oi,rfl,-,hck⟩:=hck (by omega)
         obtain⟨⟨x0,x1⟩,hx⟩: ∃x,d.1[k]? =some x:=⟨_,List.getElem?_eq_getElem (by rw [←Xhnl.out];exact hkl)⟩
         obtain⟨y0,y1⟩:=hck k _ hx
         obtain⟨hd0,hd1,hd2,hd3⟩:=Xhdt.out _ (List.mem_of_getElem? hx)
         simp only at y0 y1 hd0 hd1 hd2 hd3
         obtain⟨t,rfl⟩:=Int.eq_ofNat_of_zero_le hd0
         rw [Int.toNat_natCast]at hd1 hd3
         obtain⟨l,xs,bk,hr⟩: ∃l xs bk,ruleOf G st x0=((l,xs),bk):=⟨_,_,_,rfl⟩
         rw [hr]at hd1 hd2 hd3
         simp only at hd1 hd2 hd3
         obtain⟨z,hz⟩: ∃z,Z3[i]? =some z:=by
          cases e:Z3[i]? with
          |some z=>exact⟨z,rfl⟩
          |none=>unfold nmZ at hNi;rw [List.getElem?_map,e]at hNi;cases hNi
         have hzp:z.1.1=p:=by
          have:=hNi
          unfold nmZ at this
          rw [List.getElem?_map,hz]at this
          injection this
         have hZg3:Z3.length≤g.length:=by
          have:=RefSt.len XhGr.out ps3.st
          unfold nmZ at this
          rwa [List.length_map]at this
         have ci:=ref_item (x0:=x0) (t:=t) h3 hz rel3 ps3.st.nodup ps3.st.out (by have:=Xhgl.out;omega) XhG.out (ps3.lens rel3) (by rw [hzp];have:=Xhp1.out;omega) hr hd1 hd2 (fun c=>by
          obtain⟨a1,a2,a3⟩:=hd3 c
          rw [hzp]
          exact⟨by omega,a2,a3⟩)
         rw [hzp]at ci
         have hit:(itemsF D p)[k]? =some (x0,(t:Int)):=by unfold itemsF;rw [Xhd.out];exact hx
         have ps8:=ps3.step XhOk.out XhGr.out XhStay.out XhKin.out hNi hit
         have hN8:=nodO_at (nmZ Z3) (stepF G st D S s p (x0,(t:Int))) hNi
         obtain⟨o,ho⟩: ∃o,o=stepF G st D S s p (x0,(t:Int)):=⟨_,rfl⟩
         rw [←ho]at ps8 ci hN8
         have hnm3:(nmZ Z3).length=L3:=by unfold nmZ;rw [List.length_map];exact hL3.symm
         rw [hnm3]at ps8
         obtain⟨sv,hsv⟩: ∃sv,sv=sayF F3 p o:=⟨_,rfl⟩
         rw [←hsv]at ps8
         clear hck hd0 hd1 hd2 hd3 h3 rel3 ps3 hz hNi hit hzp hr
         have Xci:=hide ci;have Xps8:=hide ps8;have XhN8:=hide hN8;have Xho:=hide ho;have Xhnm3:=hide hnm3;have Xhsv:=hide hsv;have Xr3:=hide r3;have Xle3:=hide le3;have XhL3:=hide hL3;have Xhx:=hide hx;have XhZg3:=hide hZg3;clear ci ps8 hN8 ho hnm3 hsv r3 le3 hL3 hx hZg3
         go_wp2_with fail
         refine Xci.out.mono ?_
         rintro e w8 ⟨vN8,Z8,rfl,h8,t8,nm8,rel8⟩
         rw [←Xhsv.out]
         have ps8:=Xps8.out
         have hN8:=XhN8.out
         rw [←nm8]at ps8 hN8
         have hnm8:(nmZ Z8).length=Z8.length:=by unfold nmZ;rw [List.length_map]
         rw [hnm8]at ps8
         obtain⟨L8,hL8⟩: ∃L8,L8=Z8.length:=⟨_,rfl⟩
         rw [←hL8]at ps8
         have r8:=r3_touch Xr3.out t8
         have le8:=t8.toBelow (B:=w.heap.size) (fun k e=>Nat.le_trans XhwE.out e) Xle3.out Xle3.out.size
         obtain⟨A8,c8,rfl,hl8,hc8⟩:=ownsRow_shape h8.own
         unfold maxLen at hc8
         rw [←hL8]at hl8
         have q7:=(h8.blk.cell 7).trans rfl
         rw [←hL8]at q7
         clear t8 nm8 hnm8 Xci Xps8 XhN8 Xr3 Xle3 y0 y1
         cases sv with
         |true=>
          have e9:(more||(true||decide (L8≠L3)))=true:=by simp
          rw [e9]at ps8
          clear e9
          have Xh8:=hide h8;have Xrel8:=hide rel8;have Xps8:=hide ps8;have XhN8:=hide hN8;have Xr8:=hide r8;have Xle8:=hide le8;have XhL8:=hide hL8;have Xhl8:=hide hl8;have Xhc8:=hide hc8;clear h8 rel8 ps8 hN8 r8 le8 hL8 hl8 hc8
          go_wp2_with fail
          go_roundw
          case rel=>exact⟨true,_,Z8,_,k+1,L8,rfl,rfl,XhL8.out,by go_num,by omega,Xh8.out,Xrel8.out,Xle8.out,Xps8.out,XhN8.out,Xr8.out⟩
          case measure=>simp [intOf];omega
         |false=>
          by_cases hLL:L8=L3
          ·have e9:(more||(false||decide (L8≠L3)))=more:=by simp [hLL]
           rw [e9]at ps8
           have hbb:((L8:Int) !=(L3:Int))=false:=by simp [hLL]
           clear e9
           have Xh8:=hide h8;have Xrel8:=hide rel8;have Xps8:=hide ps8;have XhN8:=hide hN8;have Xr8:=hide r8;have Xle8:=hide le8;have XhL8:=hide hL8;have Xhl8:=hide hl8;have Xhc8:=hide hc8;have XhLL:=hide hLL;clear h8 rel8 ps8 hN8 r8 le8 hL8 hl8 hc8 hLL
           go_wp2_with fail
           go_roundw
           case rel=>exact⟨more,_,Z8,_,k+1,L8,rfl,rfl,XhL8.out,by go_num,by omega,Xh8.out,Xrel8.out,Xle8.out,Xps8.out,XhN8.out,Xr8.out⟩
           case measure=>simp [intOf];omega
          ·have e9:(more||(false||decide (L8≠L3)))=true:=by simp [hLL]
           rw [e9]at ps8
           have hbb:((L8:Int) !=(L3:Int))=true:=by simp;omega
           clear e9
           have Xh8:=hide h8;have Xrel8:=hide rel8;have Xps8:=hide ps8;have XhN8:=hide hN8;have Xr8:=hide r8;have Xle8:=hide le8;have XhL8:=hide hL8;have Xhl8:=hide hl8;have Xhc8:=hide hc8;have XhLL:=hide hLL;clear h8 rel8 ps8 hN8 r8 le8 hL8 hl8 hc8 hLL
           go_wp2_with fail
           go_roundw
           case rel=>exact⟨true,_,Z8,_,k+1,L8,rfl,rfl,XhL8.out,by go_num,by omega,Xh8.out,Xrel8.out,Xle8.out,Xps8.out,XhN8.out,Xr8.out⟩
           case measure=>simp [intOf];omega
        ·have hkl': ¬(k:Int)<(nl:Int):=by omega
         have ps9:=ps3.row hNi (by unfold itemsF;rw [Xhd.out];show d.1.length≤k;have:=Xhnl.out;omega)
         have hi9:i+1≤Z3.length:=by
          have:=(List.getElem?_eq_some_iff.1 hNi).1
          unfold nmZ at this
          rw [List.length_map]at this
          exact this
         have hZg3:Z3.length≤g.length:=by
          have:=RefSt.len XhGr.out ps3.st
          unfold nmZ at this
          rwa [List.length_map]at this
         clear ps3 hNi r3
         have Xh3:=hide h3;have Xrel3:=hide rel3;have Xle3:=hide le3;have Xps9:=hide ps9;have Xhi9:=hide hi9;have XhL3:=hide hL3;have XhZg3:=hide hZg3;clear h3 rel3 le3 ps9 hi9 hL3 hZg3
         go_wp2_with fail
         go_roundw
         case rel=>exact⟨more,vN3,Z3,F3,i+1,rfl,by go_num,Xhi9.out,Xh3.out,Xrel3.out,Xle3.out,Xps9.out⟩
         case measure=>simp [intOf];have:=Xhi9.out;have:=XhZg3.out;omega
      ·have hi': ¬(i:Int)<(L2:Int):=by omega
       have hmes:more=true→mesF T g (nmZ Z2) F2+1≤gk - 1:=fun e=>by
        subst e
        have h1:=ps2.yes
        have h2:=Xhyes.out
        omega
       have hend:more=false→StaysF Sp (fun p=>p∈nmZ Z2)∧ClosedF Sp (fun p=>p∈nmZ Z2) F2:=fun e=>by
        subst e
        exact ps2.end_ XhKof.out (by unfold nmZ;rw [List.length_map];omega)
       have rst2:=ps2.st
       have hgk:0<gk:=by have:=Xhyes.out;omega
       clear ps2
       have Xh2:=hide h2;have Xrel2:=hide rel2;have Xle2:=hide le2;have Xrst2:=hide rst2;have Xhmes:=hide hmes;have Xhend:=hide hend;have XhL2:=hide hL2;have XhZg:=hide hZg;have Xhgk:=hide hgk;clear h2 rel2 le2 rst2 hmes hend hL2 hZg hgk
       go_wp2_with fail
       go_roundg (gk - 1)
       case rel=>exact⟨more,_,Z2,F2,rfl,Xh2.out,Xrel2.out,Xle2.out,Xrst2.out,Xhend.out,Xhmes.out⟩
       case measure=>have:=Xhgk.out;omega
 ·have hee:(ev !=0)=true:=by simpa using hev
  have fin:RRest w G st ck s (.returned (.tuple #[.slice none 0 0,.bool false])) w3:=⟨ev,D,hai,.inl ⟨.inl hev,rfl,t.le⟩⟩
  clear t
  have Xhai:=hide hai;have Xhev:=hide hev;have Xfin:=hide fin;clear hai hev fin
  go_wp2_with fail
  go_ret2
  exact Xfin.out
end Go.Proofs.YtalbfonkhpeajaaGreat
namespace Go.Proofs.YtalbfonkhpeajaaGreat
set_option linter.unusedVariables false
set_option linter.unusedSimpArgs false
open Go.RowKit
attribute [local irreducible] wpStill wpOne wpPh
def Ans22 (G:GramD) (st ev:Int) (D:List (List It×List It)) (s:List Nat) (o:Option Wd):Prop:=((ev≠0∨rightB D s=false)∧o=none)∨(ev=0∧rightB D s=true∧ ∃S m q,WordsOf G S∧s.length=m+1∧s[m]? =some q∧LeastF G.terms.length (stepsF G st D S s) (m,q) o)
theorem Ans22.unique {G:GramD} {st ev:Int} {D:List (List It×List It)} {s:List Nat} {o o':Option Wd} (h:Ans22 G st ev D s o) (h':Ans22 G st ev D s o'):o=o':=by
 rcases h with⟨h1,rfl⟩|⟨h1,h2,S,m,q,h3,h4,h5,h6⟩
 ·rcases h' with⟨-,rfl⟩|⟨k1,k2,-⟩
  ·rfl
  ·rcases h1 with h|h
   ·exact absurd k1 h
   ·rw [h]at k2;cases k2
 ·rcases h' with⟨k1,-⟩|⟨k1,k2,S',m',q',k3,k4,k5,k6⟩
  ·rcases k1 with h|h
   ·exact absurd h1 h
   ·rw [h]at h2;cases h2
  ·obtain rfl:=fixed_unique h3.1 k3.1
   obtain rfl:m=m':=by omega
   obtain rfl:q=q':=by rw [h5]at k5;injection k5
   exact h6.unique (steps_ok (fixed_ok h3.1)) k6
def OutR22 (w:World) (o:Option Wd) (e:Ending) (w':World):Prop:= ∃A n c,e= .returned (.tuple #[.slice A n c,.bool o.isSome])∧RdI w' (fun b=>b<w'.heap.size) (.slice A n c) (o.getD [])∧Below w.heap.size w w'
theorem OutR22.none {w w':World} {e:Ending} (he:e= .returned (.tuple #[.slice none 0 0,.bool false])) (hb:Below w.heap.size w w'):OutR22 w none e w':=⟨_,_,_,he,Rd.nil _ _ _,hb⟩
theorem RRest.out {w w':World} {G:GramD} {st ck:Int} {s:List Nat} {e:Ending} {ev:Int} {D:List (List It×List It)} (h:RRest w G st ck s e w') (hai:AutoIs G st ck ev D): ∃o,Ans22 G st ev D s o∧OutR22 w o e w':=by
 obtain⟨ev',D',hai',h⟩:=h
 obtain⟨rfl,rfl⟩:=hai.unique hai'
 rcases h with⟨h1,h2,h3⟩|⟨h1,h2,S,m,q,h3,h4,h5,o,A,n,c,h6,h7,h8,h9⟩
 ·exact⟨_,.inl ⟨h1,rfl⟩,OutR22.none h2 h3⟩
 ·exact⟨o,.inr ⟨h1,h2,S,m,q,h3,h4,h5,h9⟩,A,n,c,h6,h7,h8⟩
theorem EndsPost.flat {w w':World} {G:GramD} {st:Int} {e:Ending} (h:EndsPost G st (checkOf G st) w e w'):Below w.heap.size w w'∧ ∃a ev D,e= .returned (.tuple #[.pointer a,.int .i64 ev])∧AutoIs G st (checkOf G st) ev D∧ ∀wr,Below w'.heap.size w' wr→ ∀(Fs:Nat→Prop) As ms cs s,RdI wr Fs (.slice As ms cs) (NatL s)→(∀b,Fs b→b<wr.heap.size)→(∀(i q:Nat),s[i]? =some q→q<D.length)→s.length≤50→
  Calls Tryz.prog 8 #[.pointer a,.slice As ms cs] wr (fun e w''=> ∃o,Ans22 G st ev D s o∧OutR22 wr o e w''):=by
 obtain⟨hb,ev,D,hai,⟨h1,h2⟩|⟨rfl,E,S,h2,hws,hE⟩⟩:=h
 ·exact⟨hb,none,ev,D,h2,hai,fun wr _ Fs As ms cs s _ _ _ _=>(fin_Rest_nil As ms cs wr).mono fun e w' h=>⟨_,.inl ⟨.inl h1,rfl⟩,OutR22.none h.1 h.2⟩⟩
 ·refine⟨hb,_,0,D,h2,hai,fun wr b Fs As ms cs s hs hFs hlow h50=>(fin_Rest_of (hE.below b) hai hws hs hFs hlow h50).mono fun e w' h=> ?_⟩
  rcases h with⟨h1,h2,h3⟩|⟨h1,m,q,h4,h5,o,A,n,c,h6,h7,h8,h9⟩
  ·exact⟨_,.inl ⟨.inr h1,rfl⟩,OutR22.none h2 h3⟩
  ·exact⟨o,.inr ⟨rfl,h1,S,m,q,hws,h4,h5,h9⟩,A,n,c,h6,h7,h8⟩
theorem natL_of {l:List Int} (h: ∀x∈l,0≤x):NatL (l.map Int.toNat)=l:=by
 unfold NatL
 rw [List.map_map]
 conv=>rhs;rw [←List.map_id l]
 exact List.map_congr_left fun x hx=>by have:=h x hx;simp;omega
set_option maxRecDepth 100000 in
set_option maxHeartbeats 8000000 in
theorem walk_FinishRests (C:Array Value) (G:GramD) (v:Value) (l:List Int) (w:World) (hg:GramCells w C.toList G) (hv:RdL w (· <w.heap.size) 1 (fun cs n=>cs=[.int .i64 n]∧(Lit.int .i64 n).wf=true) v l∧l.length * 8≤140737488351232):
  Calls Tryz.prog 3 #[.agg C,v] w (Quiet w (.bool true)):=by
 obtain⟨vt,vn,vr,hC,hg,-⟩:=hg
 obtain rfl:C= #[vt,vn,vr,.int .i64 G.start]:=Array.toList_inj.1 hC
 clear hC
 obtain⟨hv,-⟩:=rdl_ints hv.1
 obtain⟨Av,nv,cv,rfl,-⟩:=id hv
 obtain⟨hnv,hnc,hcm,-⟩:=RdI.at_ hv
 unfold maxLen at hcm
 generalize G.start=st at *
 obtain⟨A1,c1,A2,c2,A3,c3,rfl,rfl,rfl,-⟩:=hg.slices
 obtain⟨w1,hw1⟩: ∃w1,w1=w.alloc (.cells #[.slice A1 G.terms.length c1,.slice A2 G.nons.length c2,.slice A3 G.rules.length c3,.int .i64 st] 25):=⟨_,rfl⟩
 have g1:=GBox.new hg st
 have b1:Below w.heap.size w w1:=by rw [hw1];exact(Below.refl _ w).alloc (Nat.le_refl _) _
 rw [←hw1]at g1
 have hm:=law_much g1.gram st
 have cB:=fun wr (g:GBox wr (· <w.heap.size) w.heap.size A1 c1 A2 c2 A3 c3 G.terms.length G.nons.length G.rules.length st G)=>ref13_Build g.gram g.gram.lt st
 have cF:=fun wr (g:GBox wr (· <w.heap.size) w.heap.size A1 c1 A2 c2 A3 c3 G.terms.length G.nons.length G.rules.length st G)=>fin_Of g.gram st
 have cR:=fun wr (g:GBox wr (· <w.heap.size) w.heap.size A1 c1 A2 c2 A3 c3 G.terms.length G.nons.length G.rules.length st G) (s:List Nat) (Fs:Nat→Prop)=>fun hs hFs hlow h20=>ref_Rest (Fs:=Fs) (As:=Av) (ms:=nv) (cs:=cv) (s:=s) g.gram st hs hFs hlow h20
 obtain⟨q0,q1,q2,q3⟩:=g1.cells
 generalize hT:G.terms.length=T at *
 generalize hN:G.nons.length=N at *
 generalize hR:G.rules.length=R at *
 generalize hF:(fun b=>b<w.heap.size)=F at *
 have hvl:=hv.below (B:=w.heap.size) b1 (fun k hk=>by rw [←hF]at hk;exact hk)
 have hF1: ∀k,F k→k<w.heap.size:=fun k hk=>by rw [←hF]at hk;exact hk
 rw [hw1]at q0 q1 q2 q3 hm
 obtain⟨ck,eck⟩: ∃q,q=checkOf G st:=⟨_,rfl⟩
 clear hg hT hN hR hv
 have Xhm:=hide hm;have XcB:=hide cB;have XcF:=hide cF;have XcR:=hide cR;have XhF1:=hide hF1;have Xhvl:=hide hvl;have Xhnv:=hide hnv;have Xb1:=hide b1;have Xg1:=hide g1;have XhF:=hide hF;have Xeck:=hide eck;clear hm cB cF cR hF1 hvl hnv b1 g1 hF eck
 go_enter Tryz.func3,Tryz.ntmps3
 go_wp2_with fail
 refine Xhm.out.mono ?_
 rintro e w2 ⟨r,hr,rfl,b2⟩
 rw [←hw1]at b2
 have g2:=Xg1.out.below b2
 have hb2:=Xb1.out.trans (b2.mono Xb1.out.size)
 have hv2:=Xhvl.out.below b2 (fun k hk=>Nat.lt_of_lt_of_le (XhF1.out k hk) Xb1.out.size)
 clear q0 q1 q2 q3 hw1 Xhm Xg1 Xb1 Xhvl b2 hr
 by_cases hbig:40<r
 ·have Xhb2:=hide hb2
  have Xg2:=hide g2;have Xhv2:=hide hv2;clear hb2 g2 hv2
  go_wp2_with fail
  refine(law22_awake _).mono ?_
  rintro e w9 ⟨rfl,b9⟩
  have bb9:=Xhb2.out.trans (b9.mono Xhb2.out.size)
  clear b9
  have Xbb9:=hide bb9;clear bb9
  go_wp2_with fail
  go_ret
  exact⟨rfl,Xbb9.out⟩
 ·by_cases hlong:(20:Int)<(nv:Int)
  ·have Xhb2:=hide hb2
   have Xg2:=hide g2;have Xhv2:=hide hv2;clear hb2 g2 hv2
   go_wp2_with fail
   refine(law22_awake _).mono ?_
   rintro e w9 ⟨rfl,b9⟩
   have bb9:=Xhb2.out.trans (b9.mono Xhb2.out.size)
   clear b9
   have Xbb9:=hide bb9;clear bb9
   go_wp2_with fail
   go_ret
   exact⟨rfl,Xbb9.out⟩
  ·obtain⟨q0,q1,q2,q3⟩:=g2.cells
   have cb:=XcB.out w2 g2
   have Xhb2:=hide hb2;have Xg2:=hide g2;have Xhv2:=hide hv2;have Xcb:=hide cb;clear hb2 g2 hv2 cb
   go_wp2_with fail
   refine Xcb.out.mono ?_
   rintro e w3 hp
   obtain⟨b3,A,n,c,ev,D,rfl,rd3,hai⟩:=hp.flat
   have g3:=Xg2.out.below b3
   have hb3:=Xhb2.out.trans (b3.mono Xhb2.out.size)
   have hv3:=Xhv2.out.below b3 (fun k hk=>Nat.lt_of_lt_of_le (XhF1.out k hk) Xhb2.out.size)
   have hnD:=(rd3.at_).1
   clear q0 q1 q2 q3 hp Xg2 Xhb2 Xhv2 b3 rd3 Xcb XcB
   obtain⟨q0,q1,q2,q3⟩:=g3.cells
   have cf:=XcF.out w3 g3
   have Xhb3:=hide hb3;have Xg3:=hide g3;have Xhv3:=hide hv3;have Xcf:=hide cf;have Xhai:=hide hai;have XhnD:=hide hnD;clear hb3 g3 hv3 cf hai hnD
   go_wp2_with fail
   refine Xcf.out.mono ?_
   rintro e w4 hp
   obtain⟨b4,a,ev',D',rfl,hai',hcall⟩:=hp.flat
   obtain⟨rfl,rfl⟩:=Xhai.out.unique hai'
   have g4:=Xg3.out.below b4
   have hb4:=Xhb3.out.trans (b4.mono Xhb3.out.size)
   have hv4:=Xhv3.out.below b4 (fun k hk=>Nat.lt_of_lt_of_le (XhF1.out k hk) Xhb3.out.size)
   have hee:(ev !=ev)=false:=by simp
   clear q0 q1 q2 q3 hp Xg3 Xhb3 Xhv3 b4 hai' Xcf XcF
   have Xhb4:=hide hb4;have Xg4:=hide g4;have Xhv4:=hide hv4;have Xhcall:=hide hcall;clear hb4 g4 hv4 hcall
   go_wp2_with fail
   go_loopw [9] (fun i wr=> ∃k:Nat,k≤nv∧i= .int .i64 (k:Int)∧w4=wr∧ ∀(j:Nat) (x:Int),j<k→l[j]? =some x→0≤x∧x<(n:Int)) (fun i _=>nv - (intOf i).toNat)
   case atStart=>exact⟨0,Nat.zero_le _,rfl,by first|rfl|trivial,fun j x hj=>by omega⟩
   case round=>
    obtain⟨k,hk,rfl,rfl,hall⟩:=hrel
    by_cases hlt:k<nv
    ·have hlt':(k:Int)<(nv:Int):=by omega
     have hk0:(0:Int)≤(k:Int):=by omega
     obtain⟨-,-,-,hcell⟩:=RdI.at_ Xhv4.out
     obtain⟨b,off,rfl,-,hc⟩:=hcell (by omega)
     obtain⟨x,hx⟩: ∃x,l[k]? =some x:=⟨_,List.getElem?_eq_getElem (by rw [←Xhnv.out];exact hlt)⟩
     have qx:=hc k x hx
     clear hcell hc
     by_cases h1:x<0
     ·have Xhx:=hide hx
      have Xhall:=hide hall;clear hx hall
      go_wp2_with fail
      refine(law22_awake _).mono ?_
      rintro e w9 ⟨rfl,b9⟩
      have bb9:=Xhb4.out.trans (b9.mono Xhb4.out.size)
      clear b9
      have Xbb9:=hide bb9;clear bb9
      go_wp2_with fail
      go_ret
      exact⟨rfl,Xbb9.out⟩
     ·by_cases h2:(n:Int)≤x
      ·have Xhx:=hide hx
       have Xhall:=hide hall;clear hx hall
       go_wp2_with fail
       refine(law22_awake _).mono ?_
       rintro e w9 ⟨rfl,b9⟩
       have bb9:=Xhb4.out.trans (b9.mono Xhb4.out.size)
       clear b9
       have Xbb9:=hide bb9;clear bb9
       go_wp2_with fail
       go_ret
       exact⟨rfl,Xbb9.out⟩
      ·have hall2: ∀(j:Nat) (y:Int),j<k+1→l[j]? =some y→0≤y∧y<(n:Int):=fun j y hj hy=>by
        by_cases e:j=k
        ·subst e;rw [hx]at hy;injection hy with hy;omega
        ·exact hall j y (by omega) hy
       have Xhx:=hide hx;have Xhall2:=hide hall2;clear hx hall2;clear hall
       go_wp2_with fail
       go_roundw
       case rel=>exact⟨k+1,by omega,by go_num,by first|rfl|trivial,Xhall2.out⟩
       case measure=>simp [intOf];omega
    ·have hlt': ¬(k:Int)<(nv:Int):=by omega
     obtain⟨s,hs⟩: ∃s,s=l.map Int.toNat:=⟨_,rfl⟩
     have hsl:NatL s=l:=by
      rw [hs]
      refine natL_of fun x hx=> ?_
      obtain⟨j,hj,e⟩:=List.getElem_of_mem hx
      exact(hall j x (by have:=Xhnv.out;omega) (by rw [List.getElem?_eq_getElem hj,e])).1
     have hlow: ∀(i q:Nat),s[i]? =some q→q<D.length:=fun i q hq=>by
      rw [hs,List.getElem?_map]at hq
      cases e:l[i]? with
      |none=>rw [e]at hq;cases hq
      |some x=>
       rw [e]at hq
       injection hq with hq
       have hi:=(List.getElem?_eq_some_iff.1 e).1
       have:=hall i x (by have:=Xhnv.out;omega) e
       have:=XhnD.out
       omega
     have hs20:s.length≤20:=by rw [hs,List.length_map];have:=Xhnv.out;omega
     have hvs:RdI w4 F (.slice Av nv cv) (NatL s):=by rw [hsl];exact Xhv4.out
     have hFw: ∀b,F b→b<w4.heap.size:=fun b hb=>Nat.lt_of_lt_of_le (XhF1.out b hb) Xhb4.out.size
     have c12:=Xhcall.out w4 (Below.refl _ _) F Av nv cv s hvs hFw hlow (by omega)
     clear hall hs hsl Xhcall Xhv4
     have Xc12:=hide c12;have Xhlow:=hide hlow;have Xhs20:=hide hs20;have Xhvs:=hide hvs;have XhFw:=hide hFw;clear c12 hlow hs20 hvs hFw
     go_wp2_with fail
     refine Xc12.out.mono ?_
     rintro e w5 ⟨o,hans,A5,n5,c5,rfl,r5,b5⟩
     have g5:=Xg4.out.below b5
     have hb5:=Xhb4.out.trans (b5.mono Xhb4.out.size)
     have hv5:=Rd.below Xhvs.out b5 XhFw.out
     have c13:=XcR.out w5 g5 s F hv5 (fun b hb=>Nat.lt_of_lt_of_le (XhFw.out b hb) b5.size) (fun ev' D' h'=>by
      obtain⟨-,rfl⟩:=Xhai.out.unique h'
      exact Xhlow.out) (by have:=Xhs20.out;omega)
     obtain⟨q0,q1,q2,q3⟩:=g5.cells
     clear Xc12 Xg4 Xhb4 b5 Xhvs XhFw hv5
     have Xg5:=hide g5;have Xhb5:=hide hb5;have Xc13:=hide c13;have Xhans:=hide hans;have Xr5:=hide r5;clear g5 hb5 c13 hans r5
     go_wp2_with fail
     refine Xc13.out.mono ?_
     rintro e w6 hp
     obtain⟨o',hans',A6,n6,c6,rfl,r6,b6⟩:=hp.out Xhai.out
     obtain rfl:=Xhans.out.unique hans'
     have hb6:=Xhb5.out.trans (b6.mono Xhb5.out.size)
     have ci:=ref_ints3 (Xr5.out.below b6 (fun b hb=>hb)) r6
     rw [decide_eq_true rfl]at ci
     have hoo:(o.isSome==o.isSome)=true:=by simp
     obtain⟨os,hos⟩: ∃q,q=o.isSome:=⟨_,rfl⟩
     rw [←hos]at hoo⊢
     clear q0 q1 q2 q3 Xg5 Xhb5 Xc13 Xhans Xr5 hp hans' b6 r6 hos
     have Xhb6:=hide hb6;have Xci:=hide ci;clear hb6 ci
     go_wp2_with fail
     refine Xci.out.mono ?_
     rintro e w7 ⟨rfl,b7⟩
     have hb7:=Xhb6.out.trans (b7.mono Xhb6.out.size)
     clear b7 Xhb6 Xci
     have Xhb7:=hide hb7;clear hb7
     go_wp2_with fail
     refine(law22_awake _).mono ?_
     rintro e w9 ⟨rfl,b9⟩
     have bb9:=Xhb7.out.trans (b9.mono Xhb7.out.size)
     clear b9
     have Xbb9:=hide bb9;clear bb9
     go_wp2_with fail
     go_ret
     exact⟨rfl,Xbb9.out⟩
end Go.Proofs.YtalbfonkhpeajaaGreat

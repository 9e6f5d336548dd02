/- The automaton: steps' closure put. -/
import Derived.Test.YtalbfonkhpeajaaGreatHAuto4
import Derived.Test.YtalbfonkhpeajaaGreatHItem8
import Derived.Test.YtalbfonkhpeajaaGreatHRegion
import Derived.Test.YtalbfonkhpeajaaGreatHAutoPlain
namespace Go.Proofs.YtalbfonkhpeajaaGreat
set_option linter.unusedVariables false
section
set_option linter.unusedSimpArgs false
open Go.RowKit Go.Maps
attribute [local irreducible] wpStill wpOne wpPh
structure FamO (w:World) (lo P n:Nat) (vs:Nat→Value) (L:Nat→List It):Prop where
 cell: ∀i,i<n→w.cell? ⟨P,i,none⟩=some (vs i)
 frz: ∀i,i<n→w.frozen? ⟨P,i,none⟩=false
 own: ∀i,i<n→w.ownsRow lo 86 2 (vs i) (L i).length (itCells (L i))
 apart: ∀i j b,i<n→j<n→(vs i).ownBlock=some b→(vs j).ownBlock=some b→i=j
 hP:P<lo
 hlo:lo≤w.heap.size
section
variable {w w' : World} {lo P n : Nat} {vs : Nat → Value} {L : Nat → List It}
theorem FamO.touch {S:Nat→Prop} (h:FamO w lo P n vs L) (ht:Touch S w w') (hP: ¬S P) (hS: ∀b,lo≤b→b<w.heap.size→ ¬S b):FamO w' lo P n vs L:=
 ⟨fun i hi=>ht.cell (h.cell i hi) hP,fun i hi=>(World.frozen?_of_block (a:=⟨P,i,none⟩) (ht.block P (Nat.lt_of_lt_of_le h.hP h.hlo) hP)).trans (h.frz i hi),fun i hi=>ht.own (h.own i hi) (fun k hk=>hS k ((h.own i hi).lt k hk).1 ((h.own i hi).lt k hk).2),h.apart,h.hP,Nat.le_trans h.hlo ht.size⟩
theorem FamO.below (h:FamO w lo P n vs L) (hb:Below w.heap.size w w'):FamO w' lo P n vs L:=h.touch (Touch.of_size hb (fun _=>False)) (fun e=>e) (fun _ _ _ e=>e)
theorem FamO.drew (h:FamO w lo P n vs L):FamO w.drew lo P n vs L:=h.below ((Below.refl _ w).drew)
theorem FamO.app {s:Nat} {x:It} {A:Option Addr} {c:Nat} {w1:World} (h:FamO w lo P n vs L) (hs:s<n) (own:w1.ownsRow lo 86 2 (.slice A ((L s).length+1) c) ((L s).length+1) (itCells (L s)++[I64 x.1,I64 x.2])) (g:w.grownBy w1 (vs s).ownBlock) (hb:(Value.slice A ((L s).length+1) c).ownBlock=(vs s).ownBlock∨(Value.slice A ((L s).length+1) c).ownBlock=some w.heap.size):
  FamO (w1.setCell ⟨P,s,none⟩ (.slice A ((L s).length+1) c)) lo P n (upd vs s (.slice A ((L s).length+1) c)) (upd L s (L s++[x]))∧Touch (fun k=>k=P∨(vs s).ownBlock=some k) w (w1.setCell ⟨P,s,none⟩ (.slice A ((L s).length+1) c)):=by
 have t1:Touch (fun k=>(vs s).ownBlock=some k) w w1:=(Touch.refl _ _).grown g (fun k e _=>e)
 have hvl: ∀i,i<n→ ∀k,(vs i).ownBlock=some k→lo≤k∧k<w.heap.size:=fun i hi k e=>(h.own i hi).lt k e
 have hPl:=h.hP
 have hlo:=h.hlo
 have hPS: ¬(vs s).ownBlock=some P:=fun e=>by have:=hvl s hs P e;omega
 have t2:Touch (fun k=>k=P∨(vs s).ownBlock=some k) w (w1.setCell ⟨P,s,none⟩ (.slice A ((L s).length+1) c)):=(t1.mono (S':=fun k=>k=P∨(vs s).ownBlock=some k) (fun k _ e=> .inr e)).setCell (p:=⟨P,s,none⟩) (fun _=> .inl rfl) _
 have t3:Touch (fun k=>k=P) w1 (w1.setCell ⟨P,s,none⟩ (.slice A ((L s).length+1) c)):=(Touch.refl (fun k=>k=P) w1).setCell (p:=⟨P,s,none⟩) (fun _=>rfl) _
 refine⟨⟨fun i hi=> ?_,fun i hi=>(World.frozen?_setCell ..).trans ((World.frozen?_of_block (a:=⟨P,i,none⟩) (t1.block P (by omega) hPS)).trans (h.frz i hi)),fun i hi=> ?_,fun i j b hi hj e1 e2=> ?_,hPl,Nat.le_trans hlo t2.size⟩,t2⟩
 ·by_cases e:i=s
  ·subst e
   rw [upd_same]
   exact World.cell?_setCell_same' _ _ _ (by rw [t1.cell (h.cell i hi) hPS];rfl)
  ·rw [upd_ne e,World.cell?_setCell_other _ _ _ _ (fun ea=>by injection ea with _ ea;exact e ea.symm)]
   exact t1.cell (h.cell i hi) hPS
 ·by_cases e:i=s
  ·subst e
   rw [upd_same,upd_same,List.length_append,itCells_append]
   refine t3.own own (fun k hk e=> ?_)
   rcases hb with hb|hb
   ·rw [hb]at hk;have:=hvl i hs k hk;omega
   ·rw [hb]at hk;injection hk with hk;omega
  ·rw [upd_ne e,upd_ne e]
   refine t3.own (t1.own (h.own i hi) (fun k hk e'=>e (h.apart i s k hi hs hk e'))) (fun k hk e'=> ?_)
   have:=hvl i hi k hk
   omega
 ·by_cases ei:i=s
  ·by_cases ej:j=s
   ·rw [ei,ej]
   ·exfalso
    rw [ei,upd_same]at e1
    rw [upd_ne ej]at e2
    rcases hb with hb|hb
    ·rw [hb]at e1;exact ej (h.apart s j b hs hj e1 e2).symm
    ·rw [hb]at e1;injection e1 with e1;have:=hvl j hj b e2;omega
  ·rw [upd_ne ei]at e1
   by_cases ej:j=s
   ·exfalso
    rw [ej,upd_same]at e2
    rcases hb with hb|hb
    ·rw [hb]at e2;exact ei (h.apart i s b hi hs e1 e2)
    ·rw [hb]at e2;injection e2 with e2;have:=hvl i hi b e1;omega
   ·rw [upd_ne ej]at e2
    exact h.apart i j b hi hj e1 e2
theorem FamO.made (w:World) (n:Nat) (t:TypeId) {lo:Nat} {w':World} (hb:Below (w.heap.size+1) (w.alloc (.cells (madeCells #[.slice none 0 0] n) t)) w') (h1:w.heap.size<lo) (h2:lo≤w'.heap.size):FamO w' lo w.heap.size n (fun _=> .slice none 0 0) (fun _=>[]):=by
 have k0:Blk (w.alloc (.cells (madeCells #[.slice none 0 0] n) t)) w.heap.size t (madeCells #[.slice none 0 0] n):=Blk.new _ _ _
 have k:=k0.below hb (by omega)
 exact⟨fun i hi=>(k.cell i).trans (made_item _ _ _ hi),fun i _=>k.frozen i,fun i _=>World.ownsRow_nil _ _ _ _,fun i j b _ _ e=>by simp [Value.ownBlock]at e,h1,h2⟩
end
def stepsP (G:GramD) (st:Int) (l:List It) (i:Nat):List It:=if i=0 then []else stepsI G st l (i:Int)
theorem steps_snoc {G:GramD} {st:Int} {l:List It} {x:It} {s:Int}:stepsI G st (l++[x]) s=if behindI G st x=(s,true)then stepsI G st l s++[(x.1,x.2+1)]else stepsI G st l s:=by
 unfold stepsI
 rw [List.filter_append,List.map_append]
 by_cases h:behindI G st x=(s,true)
 ·rw [if_pos h,List.filter_cons_of_pos (by simp [h])];rfl
 ·rw [if_neg h,List.filter_cons_of_neg (by simp [h])];simp
theorem stepsP_no {G:GramD} {st:Int} {l:List It} {x:It} (h:nextI G st x=0):stepsP G st (l++[x])=stepsP G st l:=by
 funext i
 unfold stepsP
 split
 ·rfl
 ·rename_i hi
  rw [steps_snoc,if_neg]
  intro e
  unfold nextI at h
  rw [e]at h
  simp only at h
  omega
theorem stepsP_yes {G:GramD} {st:Int} {l:List It} {x:It} {s:Nat} (h:nextI G st x=s) (hs:0<s):stepsP G st (l++[x])=upd (stepsP G st l) s (stepsP G st l s++[(x.1,x.2+1)]):=by
 have hb:behindI G st x=((s:Int),true):=by
  unfold nextI at h
  have:behindI G st x=((behindI G st x).1,(behindI G st x).2):=rfl
  rw [h]at this
  rw [this]
  congr 1
  unfold behindI at h⊢
  split
  ·rfl
  ·rename_i hn
   rw [if_neg hn]at h
   simp only at h
   omega
 funext i
 by_cases e:i=s
 ·subst e
  rw [upd_same]
  unfold stepsP
  rw [if_neg (by omega),if_neg (by omega),steps_snoc,if_pos hb]
 ·rw [upd_ne e]
  unfold stepsP
  split
  ·rfl
  ·rw [steps_snoc,if_neg]
   rw [hb]
   intro e'
   injection e' with e' _
   exact e (by omega)
theorem stepsP_len (G:GramD) (st:Int) (l:List It) (i:Nat):(stepsP G st l i).length≤l.length:=by
 unfold stepsP
 split
 ·simp
 ·exact steps_len _ _ _ _
def PutO (w:World) (lo P n:Nat) (rs:Nat→Value) (L:Nat→List It) (e:Ending) (w':World):Prop:=e= .returned (.tuple #[])∧(∃vs,FamO w' lo P n vs L)∧Touch (fun k=>k=P∨ ∃i,i<n∧(rs i).ownBlock=some k) w w'
set_option maxRecDepth 100000 in
set_option maxHeartbeats 4000000 in
theorem steps_put {w:World} {F:Nat→Prop} {B:Nat} {A1:Option Addr} {c1:Nat} {A2:Option Addr} {c2:Nat} {A3:Option Addr} {c3 T N R:Nat} {st:Int} {G:GramD} {vb vs:Value} {m1 m2:Nat} {b2 b5 lo P n c:Nat} {rs:Nat→Value} {l:List It}
  (h:Bd w F B A1 c1 A2 c2 A3 c3 T N R st G vb vs m1 m2) (k2:Blk w b2 96 #[PtB B]) (k5:Blk w b5 99 #[.slice (some ⟨P,0,none⟩) n c]) (fam:FamO w lo P n rs (stepsP G st l)) (hb2:b2<lo) (hb5:b5<lo) (hb5P:b5≠P)
  (x:It) (hx:rightI G st x=true) (hn0:0≤nextI G st x) (hn:nextI G st x<n) (hnc:n≤c) (hc:c≤9223372036854775807) (hl:l.length≤100000000) (hdot:x.2≤1000000):
  Calls Tryz.prog 86 #[ItV x,.pointer (some ⟨b2,0,none⟩),.pointer (some ⟨b5,0,none⟩)] w (PutO w lo P n rs (stepsP G st (l++[x]))):=by
 obtain⟨x0,x1⟩:=x
 have hx1:0≤x1:=by
  unfold rightI at hx
  simp only [Bool.and_eq_true,decide_eq_true_eq]at hx
  exact hx.2.1
 simp only at hdot
 obtain⟨y,hy⟩: ∃y,y=nextI G st (x0,x1):=⟨_,rfl⟩
 rw [←hy]at hn0 hn
 obtain⟨s,rfl⟩:=Int.eq_ofNat_of_zero_le hn0
 obtain⟨wb,hwb⟩: ∃wb,wb=w.alloc (.cells #[.int .i64 x0,.int .i64 x1] 86):=⟨_,rfl⟩
 have bb:Below w.heap.size w wb:=by rw [hwb];exact(Below.refl _ _).alloc (Nat.le_refl _) _
 have kb:Blk wb w.heap.size 86 #[.int .i64 x0,.int .i64 x1]:=by rw [hwb];exact Blk.new _ _ _
 have tb:=h.below bb
 have cx:=auto_next tb (x0,x1) hx
 rw [←hy]at cx
 have k2b:=k2.below bb k2.lt
 have k5b:=k5.below bb k5.lt
 have famb:=fam.below bb
 have e2:=(k2b.cell 0).trans rfl
 have d0:=(kb.cell 0).trans rfl
 have d1:=(kb.cell 1).trans rfl
 have hkl:w.heap.size≠P:=by have:=fam.hP;have:=fam.hlo;omega
 have hk5:w.heap.size≠b5:=by have:=k5.lt;omega
 have hkh:lo≤w.heap.size:=fam.hlo
 rw [hwb]at cx e2 d0 d1
 have hrsl: ∀i,i<n→ ∀k,(rs i).ownBlock=some k→k<w.heap.size:=fun i hi k e=>((fam.own i hi).lt k e).2
 clear h k2 k5 fam hx
 have Xhrsl:=hide hrsl;have Xkb:=hide kb;have Xtb:=hide tb;have Xcx:=hide cx;have Xk2b:=hide k2b;have Xk5b:=hide k5b;have Xfamb:=hide famb;have Xhy:=hide hy;have Xbb:=hide bb;have Xhkl:=hide hkl;have Xhk5:=hide hk5;clear hrsl kb tb cx k2b k5b famb hy bb hkl hk5
 go_enter Tryz.func86,Tryz.ntmps86
 go_wp2_with fail
 with_reducible refine Xcx.out.mono ?_
 rintro e w4 ⟨rfl,b4⟩
 rw [←hwb]at b4
 have k4:=Xkb.out.below b4 Xkb.out.lt
 have k54:=Xk5b.out.below b4 Xk5b.out.lt
 have fam4:=Xfamb.out.below b4
 have bb4:=Xbb.out.trans (b4.mono Xbb.out.size)
 clear hwb e2 d0 d1 b4 Xkb Xk5b Xfamb Xbb Xcx Xtb Xk2b
 by_cases hs0:s=0
 ·subst hs0
  have hst:=stepsP_no (l:=l) Xhy.out.symm
  have Xk4:=hide k4;have Xk54:=hide k54;have Xfam4:=hide fam4;have Xbb4:=hide bb4;have Xhst:=hide hst;clear k4 k54 fam4 bb4 hst
  go_wp2_with fail
  go_end0
  refine⟨rfl,⟨rs,?_⟩,Touch.of_size Xbb4.out _⟩
  rw [Xhst.out];exact Xfam4.out
 ·have hsp:(0:Int)<(s:Int):=by omega
  have hsn:s<n:=by omega
  have hst:=stepsP_yes (l:=l) Xhy.out.symm (by omega)
  have famd:=fam4.drew
  have own:=famd.own s hsn
  obtain⟨As,cs,hvs,hvc,hvm⟩:=ownsRow_shape own
  have q5:=(k54.cell 0).trans rfl
  have d0:=(k4.cell 0).trans rfl
  have d1:=(k4.cell 1).trans rfl
  have c0:=fam4.cell s hsn
  rw [hvs]at c0
  have hlen:(stepsP G st l s).length≤100000000:=Nat.le_trans (stepsP_len _ _ _ _) hl
  obtain⟨ln,hln⟩: ∃q,q=(stepsP G st l s).length:=⟨_,rfl⟩
  rw [←hln]at c0 hlen
  have hw63:IntKind.i64.wrap (x1+1)=x1+1:=by rw [IntKind.wrap_i64];omega
  obtain⟨w7,hw7⟩: ∃q,q=(w4.alloc (.cells #[.int .i64 x0,.int .i64 (x1+1)] 86)).drew:=⟨_,rfl⟩
  have b7:Below w4.heap.size w4 w7:=by rw [hw7];exact((Below.refl _ w4).alloc (Nat.le_refl _) _).drew
  have fam7:=fam4.below b7
  have k57:=k54.below b7 k54.lt
  have own7:=fam7.own s hsn
  rw [hvs,←hln]at own7
  have hone:RdIt w7 (fun b=>b=w4.heap.size) (.slice (some ⟨w4.heap.size,0,none⟩) 1 1) [(x0,x1+1)]:=by rw [hw7];exact(RdIt.one (w:=w4) (e:=86) (x0,x1+1)).drew
  have hz7:lo≤w7.heap.size:=fam7.hlo
  rw [hw7]at own7 hone hz7
  clear famd own
  have Xk4:=hide k4;have Xk54:=hide k54;have Xfam4:=hide fam4;have Xbb4:=hide bb4;have Xhst:=hide hst;have Xhvs:=hide hvs;have Xhln:=hide hln;have Xb7:=hide b7;have Xfam7:=hide fam7;have Xk57:=hide k57;have Xown7:=hide own7;have Xhone:=hide hone;clear k4 k54 fam4 bb4 hst hvs hln b7 fam7 k57 own7 hone
  go_wp2_with fail
  refine region_late (fun W=>W.cell? ⟨b5,0,none⟩=some (.slice (some ⟨P,0,none⟩) n c)∧W.cell? ⟨P,s,none⟩=some (.slice As ln cs)∧W.cell? ⟨w.heap.size,0,none⟩=some (.int .i64 x0)∧W.cell? ⟨w.heap.size,1,none⟩=some (.int .i64 x1)) 12 14 (by kernel_rfl) (by kernel_rfl) ⟨q5,c0,d0,d1⟩ ?_
  simp only [List.take_succ_cons,List.take_zero,List.drop_succ_cons,List.drop_zero]
  iterate 12
   refine wpHeld_cons ?_ (by rfl) (fun wS hwS=> ?_) ?_
   rotate_left
   ·(try dsimp only at hwS)
    go_simp
    all_goals with_reducible rfl
   simp only [Act.put,List.setIfInBounds_toArray,List.set_cons_zero,List.set_cons_succ]
  refine wpHeld_nil ?_
  have c70:=Xfam7.out.cell s hsn
  rw [Xhvs.out,←Xhln.out]at c70
  have k7:=Xk4.out.below Xb7.out Xk4.out.lt
  have hS7:w7.cell? ⟨b5,0,none⟩=some (.slice (some ⟨P,0,none⟩) n c)∧w7.cell? ⟨P,s,none⟩=some (.slice As ln cs)∧w7.cell? ⟨w.heap.size,0,none⟩=some (.int .i64 x0)∧w7.cell? ⟨w.heap.size,1,none⟩=some (.int .i64 x1):=⟨(Xk57.out.cell 0).trans rfl,c70,(k7.cell 0).trans rfl,(k7.cell 1).trans rfl⟩
  rw [hw7]at hS7
  have hxS: ¬(rs s).ownBlock=some w.heap.size:=fun e=>by have:=Xhrsl.out s hsn _ e;omega
  clear c70
  have Xk7:=hide k7;have XhxS:=hide hxS;clear k7 hxS
  refine wpMid_cons ?_
  go_wp2_with fail
  refine⟨hS7,wpMid_cons ?_⟩
  clear hS7
  go_wp2_with (at_builtin;refine wp_append _ rfl (.tmp 15) (.tmp 22) _ rfl Tryz.elemItem lo _ ln (itCells (stepsP G st l s)) rfl Xown7.out _ _ [I64 x0,I64 (x1+1)] 1 rfl rfl Xhone.out (itCells_one [(x0,x1+1)]) (by unfold maxLen;omega) (by omega) hz7 ?_)
  intro A8 c8 w8 own8 g8 hb8
  rw [←hw7]at g8
  rw [show w4.heap.size+1=w7.heap.size by rw [hw7];simp]at hb8
  have happ:=Xfam7.out.app (s:=s) (x:=(x0,x1+1)) (w1:=w8) (A:=A8) (c:=c8) hsn (by rw [←Xhln.out];exact own8) (by rw [Xhvs.out,←Xhln.out];exact g8) (by rw [Xhvs.out,←Xhln.out];exact hb8)
  rw [←Xhln.out,←Xhst.out]at happ
  have t8:Touch (fun k=>(rs s).ownBlock=some k) w7 w8:=(Touch.refl _ _).grown g8 (fun k e _=>by rw [Xhvs.out,←Xhln.out];exact e)
  have hPS: ¬(rs s).ownBlock=some P:=fun e=>by have:=((Xfam7.out.own s hsn).lt P e).1;have:=Xfam7.out.hP;omega
  have c8':=t8.cell (Xfam7.out.cell s hsn) hPS
  rw [Xhvs.out,←Xhln.out]at c8'
  have z8:=(World.frozen?_of_block (a:=⟨P,s,none⟩) (t8.block P (Nat.lt_of_lt_of_le Xfam7.out.hP Xfam7.out.hlo) hPS)).trans (Xfam7.out.frz s hsn)
  have e58:=t8.cell ((Xk57.out.cell 0).trans rfl) (fun e=>by have:=((Xfam7.out.own s hsn).lt _ e).1;simp at this;omega)
  have e08:=t8.cell ((Xk7.out.cell 0).trans rfl) (fun e=>XhxS.out e)
  have e18:=t8.cell ((Xk7.out.cell 1).trans rfl) (fun e=>XhxS.out e)
  refine⟨⟨e58,c8',e08,e18⟩,wpMid_nil ?_⟩
  have tfin:=(Touch.of_size Xbb4.out (fun k=>k=P∨ ∃i,i<n∧(rs i).ownBlock=some k)).trans' ((Touch.of_size Xb7.out (fun k=>k=P∨ ∃i,i<n∧(rs i).ownBlock=some k)).trans' (happ.2.mono (fun k _ e=>e.imp id (fun e=>⟨s,hsn,e⟩))))
  have hfin:=happ.1
  clear own8 g8 hb8 happ t8 hPS hw7 hz7 q5 d0 d1 c0 Xk57 Xown7 Xhone Xfam7 Xb7
  have Xtfin:=hide tfin;have Xhfin:=hide hfin;clear tfin hfin
  go_wp2_with fail
  refine NoPanic.normal ?_
  go_wp2_with fail
  go_end0
  exact⟨rfl,⟨_,Xhfin.out⟩,Xtfin.out⟩
end
section
set_option linter.unusedSimpArgs false
open Go.RowKit Go.Maps
structure KnA (G:GramD) (st:Int):Prop extends KnI G st where
 t:G.terms.length≤120
 n:G.nons.length≤120
 stn:isNon G st=true
 eight: ∀i:Int,(ruleOf G st i).1.2.length≤8
 sym: ∀(i:Int) (k:Nat) (s:Int),(ruleOf G st i).1.2[k]? =some s→1≤s∧s≤topOf G
theorem KnA.of_check {G:GramD} {st:Int} (h:checkOf G st=0):KnA G st:=by
 have hI:=KnI.of_check h
 obtain⟨hm,-,-,hk,-,-⟩:=checkOf_zero h
 obtain⟨h1,h2,h3,hsh⟩:=manyOf_no hm
 unfold allKnown at hk
 rw [Bool.and_eq_true,List.all_eq_true]at hk
 have hst:1≤st∧st≤topOf G:=by
  have:=hk.1
  unfold isNon at this
  simp only [Bool.and_eq_true,decide_eq_true_eq]at this
  omega
 refine⟨hI,h1,h2,hk.1,fun i=> ?_,fun i k s hs=> ?_⟩
 ·unfold shortOf at hsh
  rw [List.all_eq_true]at hsh
  unfold ruleOf
  split
  ·simp
  ·split
   ·simp
   ·cases e:G.rules[i.toNat]? with
    |none=>simp
    |some r=>have:=hsh r (List.mem_of_getElem? e);simp at this⊢;omega
 ·unfold ruleOf at hs
  split at hs
  ·simp at hs
  ·split at hs
   ·have:s=st:=by
     match k,hs with
     |0,hs=>simp at hs;exact hs.symm
    subst this;exact hst
   ·cases e:G.rules[i.toNat]? with
    |none=>rw [e]at hs;simp at hs
    |some r=>
     rw [e]at hs
     have hr:=hk.2 r (List.mem_of_getElem? e)
     unfold knownOf at hr
     rw [Bool.and_eq_true,List.all_eq_true]at hr
     have:=hr.2 s (List.mem_of_getElem? hs)
     unfold isTerm isNon at this
     unfold topOf
     unfold topOf at this
     simp only [Bool.or_eq_true,Bool.and_eq_true,decide_eq_true_eq]at this
     omega
theorem KnA.next {G:GramD} {st:Int} (h:KnA G st) (x:It):0≤nextI G st x∧nextI G st x≤topOf G:=by
 unfold nextI
 cases hb:behindI G st x with
 |mk s ok=>
  cases ok with
  |true=>
   have:=(behind_right hb).2.2
   have:=h.sym _ _ _ this
   simp only
   omega
  |false=>
   unfold behindI at hb
   split at hb
   ·injection hb with _ hb;cases hb
   ·injection hb with hb _
    simp only
    omega
theorem KnA.right {G:GramD} {st:Int} (h:KnA G st) {x:It} (hx:rightI G st x=true):(0≤x.1∧x.1≤300)∧0≤x.2∧x.2≤8:=by
 unfold rightI at hx
 simp only [Bool.and_eq_true,decide_eq_true_eq]at hx
 obtain⟨h1,h2,h3⟩:=hx
 have:=h.eight x.1
 have hr:=h.r
 unfold ruleOf at h1
 split at h1
 ·cases h1
 ·omega
theorem behind_of {G:GramD} {st:Int} {x:It} {n:Int} (hn:isNon G n=true):behindI G st x=(n,true)↔nextI G st x=n:=by
 constructor
 ·intro h;unfold nextI;rw [h]
 ·intro h
  subst h
  exact next_non hn
structure StpI (G:GramD) (st:Int) (l:List It) (k:Nat) (Pl:List It) (met:List Int):Prop where
 sound: ∀z∈Pl,Cl G st l z
 base: ∀j x,j<k→l[j]? =some x→x∈Pl
 done: ∀j x,j<k→l[j]? =some x→isNon G (nextI G st x)=true→nextI G st x∈met
 beg: ∀n∈met,∀m r,Bg G st n m→r∈ofOf G m→((r,0):It)∈Pl
 non: ∀n∈met,isNon G n=true
 nodup:met.Nodup
 len:Pl.length≤k+met.length * 50000
section
variable {G : GramD} {st : Int} {l : List It} {k : Nat} {Pl : List It} {met : List Int}
theorem StpI.start:StpI G st l 0 [] []:=⟨fun z h=>(by cases h),fun j x h=>absurd h (by omega),fun j x h=>absurd h (by omega),fun n h=>(by cases h),fun n h=>(by cases h),List.nodup_nil,by simp⟩
theorem StpI.metLen (h:StpI G st l k Pl met):met.length≤G.nons.length:=nons_len h.nodup h.non
theorem StpI.skip {x:It} (h:StpI G st l k Pl met) (hx:l[k]? =some x) (hr:rightI G st x=true) (hm:isNon G (nextI G st x)=true→nextI G st x∈met):StpI G st l (k+1) (Pl++[x]) met:=by
 refine⟨fun z hz=> ?_,fun j y hj hy=> ?_,fun j y hj hy hn=> ?_,fun n hn m r h1 h2=>List.mem_append_left _ (h.beg n hn m r h1 h2),h.non,h.nodup,by have:=h.len;simp;omega⟩
 ·rcases List.mem_append.1 hz with hz|hz
  ·exact h.sound z hz
  ·obtain rfl:=List.mem_singleton.1 hz
   exact .base _ (List.mem_of_getElem? hx) hr
 ·by_cases e:j=k
  ·subst e
   rw [hx]at hy
   injection hy with hy
   subst hy
   exact List.mem_append_right _ (List.mem_singleton.2 rfl)
  ·exact List.mem_append_left _ (h.base j y (by omega) hy)
 ·by_cases e:j=k
  ·subst e
   rw [hx]at hy
   injection hy with hy
   subst hy
   exact hm hn
  ·exact h.done j y (by omega) hy hn
theorem StpI.put {x:It} {o:List It} (h:StpI G st l k Pl met) (hx:l[k]? =some x) (hr:rightI G st x=true) (hn:isNon G (nextI G st x)=true) (hm:nextI G st x∉met) (ho:IsBe G st (nextI G st x) o) (hl:o.length≤50000) (hk:KnI G st) (hal: ∀z∈l,rightI G st z=true):StpI G st l (k+1) (Pl++[x]++o) (met++[nextI G st x]):=by
 have hmx:x∈l:=List.mem_of_getElem? hx
 refine⟨fun z hz=> ?_,fun j y hj hy=> ?_,fun j y hj hy hn'=> ?_,fun n hn' m r h1 h2=> ?_,fun n hn'=> ?_,?_,?_⟩
 ·rcases List.mem_append.1 hz with hz|hz
  ·rcases List.mem_append.1 hz with hz|hz
   ·exact h.sound z hz
   ·obtain rfl:=List.mem_singleton.1 hz
    exact .base _ hmx hr
  ·obtain⟨m,r,h1,h2,rfl⟩:=(ho z).1 hz
   exact(cl_iff hk hal _).2 (.inr ⟨x,hmx,_,m,r,next_non hn,hn,h1,h2,rfl⟩)
 ·by_cases e:j=k
  ·subst e
   rw [hx]at hy
   injection hy with hy
   subst hy
   simp
  ·exact List.mem_append_left _ (List.mem_append_left _ (h.base j y (by omega) hy))
 ·by_cases e:j=k
  ·subst e
   rw [hx]at hy
   injection hy with hy
   subst hy
   simp
  ·exact List.mem_append_left _ (h.done j y (by omega) hy hn')
 ·rcases List.mem_append.1 hn' with hn'|hn'
  ·exact List.mem_append_left _ (List.mem_append_left _ (h.beg n hn' m r h1 h2))
  ·obtain rfl:=List.mem_singleton.1 hn'
   exact List.mem_append_right _ ((ho _).2 ⟨m,r,h1,h2,rfl⟩)
 ·rcases List.mem_append.1 hn' with hn'|hn'
  ·exact h.non n hn'
  ·obtain rfl:=List.mem_singleton.1 hn'
   exact hn
 ·exact List.nodup_append.2 ⟨h.nodup,by simp,fun a ha b hb=>by
   obtain rfl:=List.mem_singleton.1 hb
   exact fun e=>hm (e▸ha)⟩
 ·have:=h.len
  simp only [List.length_append,List.length_singleton]
  omega
theorem StpI.is {Pl:List It} (h:StpI G st l k Pl met) (hk:l.length≤k) (hK:KnI G st) (hal: ∀z∈l,rightI G st z=true) (z:It):z∈Pl↔Cl G st l z:=by
 refine⟨h.sound z,fun hz=> ?_⟩
 rcases(cl_iff hK hal z).1 hz with hz|⟨x,hx,n,m,r,h1,h2,h3,h4,rfl⟩
 ·obtain⟨j,hj,e⟩:=List.getElem_of_mem hz
  exact h.base j z (by omega) (by rw [List.getElem?_eq_getElem hj,e])
 ·obtain⟨j,hj,e⟩:=List.getElem_of_mem hx
  have hn:=(behind_of h2).1 h1
  have:=h.done j x (by omega) (by rw [List.getElem?_eq_getElem hj,e]) (by rw [hn];exact h2)
  rw [hn]at this
  exact h.beg n this m r h3 h4
end
noncomputable def outI (G:GramD) (st:Int) (l:List It) (i:Nat):List It:=if i=0 then []else nxI G st l (i:Int)
theorem nx_mem {G:GramD} {st s:Int} {l o:List It} (h: ∀z,z∈o↔Cl G st l z):canonI (stepsI G st o s)=nxI G st l s:=by
 refine strict_unique (canon_strict _) (nx_is G st l s).1 fun z=> ?_
 rw [mem_canon,(nx_is G st l s).2]
 unfold stepsI
 rw [List.mem_map]
 constructor
 ·rintro⟨x,hx,rfl⟩
  obtain⟨h1,h2⟩:=List.mem_filter.1 hx
  exact⟨x,(h x).1 h1,of_decide_eq_true h2,rfl⟩
 ·rintro⟨x,h1,h2,rfl⟩
  exact⟨x,List.mem_filter.2 ⟨(h x).2 h1,decide_eq_true h2⟩,rfl⟩
theorem out_of {G:GramD} {st:Int} {l o:List It} (h: ∀z,z∈o↔Cl G st l z) (i:Nat):canonI (stepsP G st o i)=outI G st l i:=by
 unfold stepsP outI
 split
 ·rfl
 ·exact nx_mem h
structure OrdS (w:World) (lo P n k:Nat) (vs:Nat→Value) (L:Nat→List It):Prop where
 cell: ∀i,i<n→w.cell? ⟨P,i,none⟩=some (vs i)
 frz: ∀i,i<n→w.frozen? ⟨P,i,none⟩=false
 done: ∀i,i<k→i<n→RdIt w (fun b=>lo≤b∧b<w.heap.size∧ ∀j,k≤j→j<n→(vs j).ownBlock≠some b) (vs i) (canonI (L i))
 own: ∀i,k≤i→i<n→w.ownsRow lo 86 2 (vs i) (L i).length (itCells (L i))
 apart: ∀i j b,k≤i→i<n→k≤j→j<n→(vs i).ownBlock=some b→(vs j).ownBlock=some b→i=j
 hP:P<lo
 hlo:lo≤w.heap.size
section
variable {w w' : World} {lo P n k : Nat} {vs : Nat → Value} {L : Nat → List It}
theorem FamO.ord (h:FamO w lo P n vs L):OrdS w lo P n 0 vs L:=⟨h.cell,h.frz,fun i hi=>absurd hi (by omega),fun i _ hi=>h.own i hi,fun i j b _ hi _ hj=>h.apart i j b hi hj,h.hP,h.hlo⟩
theorem OrdS.next {v:Value} (h:OrdS w lo P n k vs L) (hk:k<n) (hr:RdIt w' (fun b=>(vs k).ownBlock=some b) v (canonI (L k))) (ht:Touch (fun b=>(vs k).ownBlock=some b) w w'):
  OrdS (w'.setCell ⟨P,k,none⟩ v) lo P n (k+1) (upd vs k v) L∧Touch (fun b=>b=P∨lo≤b) w (w'.setCell ⟨P,k,none⟩ v):=by
 have hvl: ∀b,(vs k).ownBlock=some b→lo≤b∧b<w.heap.size:=fun b e=>(h.own k (Nat.le_refl _) hk).lt b e
 have hPl:=h.hP
 have hlo:=h.hlo
 have hPS: ¬(vs k).ownBlock=some P:=fun e=>by have:=hvl P e;omega
 have t2:Touch (fun b=>b=P∨lo≤b) w (w'.setCell ⟨P,k,none⟩ v):=(ht.mono (S':=fun b=>b=P∨lo≤b) (fun b _ e=> .inr (hvl b e).1)).setCell (p:=⟨P,k,none⟩) (fun _=> .inl rfl) _
 have t3:Touch (fun b=>b=P) w' (w'.setCell ⟨P,k,none⟩ v):=(Touch.refl (fun b=>b=P) w').setCell (p:=⟨P,k,none⟩) (fun _=>rfl) _
 have hup: ∀j,k+1≤j→upd vs k v j=vs j:=fun j hj=>upd_ne (by omega)
 refine⟨⟨fun i hi=> ?_,fun i hi=>(World.frozen?_setCell ..).trans ((World.frozen?_of_block (a:=⟨P,i,none⟩) (ht.block P (by omega) hPS)).trans (h.frz i hi)),fun i hi hin=> ?_,fun i hi hin=> ?_,fun i j b hi hin hj hjn e1 e2=> ?_,hPl,Nat.le_trans hlo t2.size⟩,t2⟩
 ·by_cases e:i=k
  ·subst e
   rw [upd_same]
   exact World.cell?_setCell_same' _ _ _ (by rw [ht.cell (h.cell i hi) hPS];rfl)
  ·rw [upd_ne e,World.cell?_setCell_other _ _ _ _ (fun ea=>by injection ea with _ ea;exact e ea.symm)]
   exact ht.cell (h.cell i hi) hPS
 ·by_cases e:i=k
  ·subst e
   rw [upd_same]
   refine(hr.touch t3 (fun b hb e=> ?_)).mono (fun b hb=>⟨(hvl b hb).1,Nat.lt_of_lt_of_le (hvl b hb).2 t2.size,fun j hj hjn e'=> ?_⟩)
   ·have:=hvl b hb;omega
   ·rw [hup j hj]at e'
    have:=h.apart i j b (Nat.le_refl _) hk (by omega) hjn hb e'
    omega
  ·rw [upd_ne e]
   refine(((h.done i (by omega) hin).touch ht (fun b hb e=>hb.2.2 k (Nat.le_refl _) hk e)).touch t3 (fun b hb e=>by have:=hb.1;omega)).mono (fun b hb=>⟨hb.1,Nat.lt_of_lt_of_le hb.2.1 t2.size,fun j hj hjn e'=> ?_⟩)
   rw [hup j hj]at e'
   exact hb.2.2 j (by omega) hjn e'
 ·rw [hup i hi]
  refine t3.own (ht.own (h.own i (by omega) hin) (fun b hb e=> ?_)) (fun b hb e=> ?_)
  ·have:=h.apart k i b (Nat.le_refl _) hk (by omega) hin e hb
   omega
  ·have:=((h.own i (by omega) hin).lt b hb).1
   omega
 ·rw [hup i hi]at e1
  rw [hup j hj]at e2
  exact h.apart i j b (by omega) hin (by omega) hjn e1 e2
theorem OrdS.rows (h:OrdS w lo P n k vs L) (hk:n≤k):RowsI w P P n vs (fun i=>canonI (L i)):=
 ⟨h.cell,h.frz,fun i hi=>(h.done i (by omega) hi).mono (fun b hb=>by have:=hb.1;have:=h.hP;exact⟨by omega,hb.2.1,by omega⟩),Nat.lt_of_lt_of_le h.hP h.hlo⟩
end
end
section
set_option linter.unusedSimpArgs false
open Go.RowKit Go.Maps
attribute [local irreducible] wpStill wpOne wpPh
structure Stp (w wr:World) (B P n:Nat) (G:GramD) (st:Int) (Pl:List It) (met:List Int):Prop where
 le:Below w.heap.size w wr
 k2:Blk wr w.heap.size 96 #[PtB B]
 k5:Blk wr (P+1) 99 #[.slice (some ⟨P,0,none⟩) n n]
 fam: ∃vs,FamO wr (P+1+1+1) P n vs (stepsP G st Pl)
 map: ∃D:DataW Unit,wr.ownsMap Tryz.prog 3 (plainElem Tryz.prog 4) (P+1+1) met.length D∧NumMap D met
 hP:w.heap.size<P
section
variable {w wr wr' : World} {B P n : Nat} {G : GramD} {st : Int} {Pl : List It} {met : List Int}
theorem Stp.below (h:Stp w wr B P n G st Pl met) (hb:Below wr.heap.size wr wr'):Stp w wr' B P n G st Pl met:=by
 obtain⟨D,m1,m2⟩:=h.map
 obtain⟨vs,hf⟩:=h.fam
 exact⟨h.le.trans (hb.mono h.le.size),h.k2.below hb h.k2.lt,h.k5.below hb h.k5.lt,⟨vs,hf.below hb⟩,⟨D,(Touch.of_size hb (fun _=>False)).ownsMap m1 (fun e=>e),m2⟩,h.hP⟩
theorem Stp.put {Pl':List It} {vs:Nat→Value} (h:Stp w wr B P n G st Pl met) (hf:FamO wr' (P+1+1+1) P n vs (stepsP G st Pl')) (t:Touch (fun k=>k=P∨P+1+1+1≤k) wr wr'):Stp w wr' B P n G st Pl' met:=by
 obtain⟨D,m1,m2⟩:=h.map
 have hP:=h.hP
 exact⟨t.toBelow (fun k e=>by omega) h.le h.le.size,h.k2.touch t (by omega),h.k5.touch t (by omega),⟨vs,hf⟩,⟨D,t.ownsMap m1 (by omega),m2⟩,hP⟩
theorem Stp.meet {x:Int} {D':DataW Unit} (h:Stp w wr B P n G st Pl met) (hm:wr'.ownsMap Tryz.prog 3 (plainElem Tryz.prog 4) (P+1+1) (met.length+1) D') (hD:NumMap D' (met++[x])) (hg:wr.grownBy wr' (some (P+1+1))):Stp w wr' B P n G st Pl (met++[x]):=by
 have t:Touch (fun k=>k=P+1+1) wr wr':=(Touch.refl _ _).grown hg (fun k e _=>by injection e with e;exact e.symm)
 have hP:=h.hP
 obtain⟨vs,hf⟩:=h.fam
 exact⟨h.le.grown hg h.le.size (fun k e=>by injection e with e;omega),h.k2.touch t (by omega),h.k5.touch t (by omega),⟨vs,hf.touch t (by omega) (fun b h1 _=>by omega)⟩,⟨D',by rw [List.length_append];exact hm,hD⟩,hP⟩
end
def StepsPost (w:World) (n:Nat) (G:GramD) (st:Int) (l:List It) (e:Ending) (w':World):Prop:=
 ∃P vs,e= .returned (.slice (some ⟨P,0,none⟩) n n)∧w.heap.size≤P∧RowsI w' P P n vs (outI G st l)∧Below w.heap.size w w'
set_option maxRecDepth 100000 in
set_option maxHeartbeats 8000000 in
theorem auto_steps {w:World} {F:Nat→Prop} {B:Nat} {A1:Option Addr} {c1:Nat} {A2:Option Addr} {c2:Nat} {A3:Option Addr} {c3 T N R:Nat} {st:Int} {G:GramD} {vs:Value} {m1 m2 Pb cb:Nat} {rb:Nat→Value} {Lb:Nat→List It}
  (h:Bd w F B A1 c1 A2 c2 A3 c3 T N R st G (.slice (some ⟨Pb,0,none⟩) (topOf G+1) cb) vs m1 m2) (rows:RowsI w Pb Pb (topOf G+1) rb Lb) (hcb:topOf G+1≤cb∧cb≤9223372036854775807) (hT:T=G.terms.length)
  (hbe: ∀s:Nat,T<s→s≤topOf G→IsBe G st s (Lb s)∧(Lb s).length≤50000) (hK:KnA G st) {F':Nat→Prop} {v:Value} {l:List It} (hv:RdIt w F' v l) (hF': ∀b,F' b→b<w.heap.size) (hal: ∀z∈l,rightI G st z=true) (hll:l.length≤1000000):
  Calls Tryz.prog 44 #[PtB B,v] w (StepsPost w (topOf G+1) G st l):=by
 obtain⟨A,n,c,rfl,-⟩:=id hv
 obtain⟨hn,hnc,hcm,-⟩:=RdIt.at_ hv
 unfold maxLen at hcm
 rw [←hn]at hll
 have htop:topOf G=G.terms.length+G.nons.length:=rfl
 have hpb:topOf G≤240:=by have:=hK.t;have:=hK.n;omega
 obtain⟨p,hp⟩: ∃p,p=topOf G:=⟨_,rfl⟩
 rw [←hp]at h rows hcb hbe hpb htop⊢
 obtain⟨hcb1,hcb2⟩:=hcb
 obtain⟨w1,hw1⟩: ∃w1,w1=w.alloc (.cells #[PtB B] 96):=⟨_,rfl⟩
 have b1:Below w.heap.size w w1:=by rw [hw1];exact(Below.refl _ w).alloc (Nat.le_refl _) _
 have k1:Blk w1 w.heap.size 96 #[PtB B]:=by rw [hw1];exact Blk.new _ _ _
 have t1:=h.below b1
 have ct:=gram_top t1.gram st
 rw [←hp]at ct
 obtain⟨q0,q1,q2,q3⟩:=t1.cells
 have e2:=(k1.cell 0).trans rfl
 rw [hw1]at ct q0 q1 q2 q3 e2
 have hmk: ∀w:World,(Instr.makeSlice 99 (.int .i64 ((p:Int)+1)) (.int .i64 ((p:Int)+1))).run Tryz.prog w= .ok (.slice (some ⟨w.heap.size,0,none⟩) (p+1) (p+1)) (w.alloc (.cells (madeCells #[.slice none 0 0] (p+1)) 44)):=fun w=>by
  have:=make_items (p+1) (by omega) w
  push_cast at this
  exact this
 have hmm:= @run_makeMap Tryz.prog
 have Xh:=hide h;have Xrows:=hide rows;have Xhbe:=hide hbe;have XhK:=hide hK;have Xhv:=hide hv;have XhF':=hide hF';have Xhal:=hide hal;have Xhn:=hide hn;have Xhp:=hide hp;have Xhtop:=hide htop;have XhT:=hide hT;have Xb1:=hide b1;have Xk1:=hide k1;have Xt1:=hide t1;have Xct:=hide ct;clear h rows hbe hK hv hF' hal hn hp htop hT b1 k1 t1 ct
 go_enter Tryz.func44,Tryz.ntmps44
 go_wp2_with fail
 refine Xct.out.mono ?_
 rintro e w2 ⟨rfl,b2⟩
 rw [←hw1]at b2
 have k2:=Xk1.out.below b2 Xk1.out.lt
 have bb2:=Xb1.out.trans (b2.mono Xb1.out.size)
 clear q0 q1 q2 q3 e2 Xct Xt1 Xk1 Xb1 b2 hw1
 obtain⟨w5,hw5⟩: ∃w5,w5=((w2.alloc (.cells (madeCells #[.slice none 0 0] (p+1)) 44)).alloc (.cells #[.slice (some ⟨w2.heap.size,0,none⟩) (p+1) (p+1)] 99)).alloc (.map #[] 0):=⟨_,rfl⟩
 have stp:Stp w w5 B w2.heap.size (p+1) G st [] []:=by
  obtain⟨w3,hw3⟩: ∃w3,w3=w2.alloc (.cells (madeCells #[.slice none 0 0] (p+1)) 44):=⟨_,rfl⟩
  obtain⟨w4,hw4⟩: ∃w4,w4=w3.alloc (.cells #[.slice (some ⟨w2.heap.size,0,none⟩) (p+1) (p+1)] 99):=⟨_,rfl⟩
  rw [←hw3,←hw4]at hw5
  have s3:w3.heap.size=w2.heap.size+1:=by rw [hw3];simp
  have s4:w4.heap.size=w2.heap.size+1+1:=by rw [hw4];simp [s3]
  have s5:w5.heap.size=w2.heap.size+1+1+1:=by rw [hw5];simp [s4]
  have b3:Below w2.heap.size w2 w3:=by rw [hw3];exact(Below.refl _ _).alloc (Nat.le_refl _) _
  have b4:Below w3.heap.size w3 w4:=by rw [hw4];exact(Below.refl _ _).alloc (Nat.le_refl _) _
  have b5:Below w4.heap.size w4 w5:=by rw [hw5];exact(Below.refl _ _).alloc (Nat.le_refl _) _
  have b45:=b4.trans (b5.mono b4.size)
  have b35:=b3.trans (b45.mono b3.size)
  have k4:Blk w4 (w2.heap.size+1) 99 #[.slice (some ⟨w2.heap.size,0,none⟩) (p+1) (p+1)]:=by rw [hw4,←s3];exact Blk.new _ _ _
  have hm:w5.ownsMap Tryz.prog 3 (plainElem (H:=Unit) Tryz.prog 4) (w2.heap.size+1+1) 0 (.map []):=by rw [hw5,←s4];exact World.ownsMap_made w4 Tryz.prog 3 (plainElem (H:=Unit) Tryz.prog 4)
  refine⟨bb2.trans (b35.mono bb2.size),k2.below b35 k2.lt,k4.below b5 k4.lt,⟨fun _=> .slice none 0 0,?_⟩,⟨_,hm,NumMap.empty⟩,k2.lt⟩
  have hst:stepsP G st []=fun _=>[]:=by funext i;unfold stepsP stepsI;split<;>rfl
  rw [hst]
  refine FamO.made w2 (p+1) 44 ?_ (by omega) (by omega)
  rw [←hw3,←s3]
  exact b45
 have hS0:StpI G st l 0 [] []:=StpI.start
 clear bb2 k2
 have Xstp:=hide stp;have XhS0:=hide hS0;clear stp hS0
 go_wp2_with fail
 rw [←hw5]
 clear hw5 hmk hmm
 go_loopw [25] (fun i wr=> ∃(k:Nat) (Pl:List It) (met:List Int),k≤n∧i= .int .i64 k∧Stp w wr B w2.heap.size (p+1) G st Pl met∧StpI G st l k Pl met) (fun i _=>n - (intOf i).toNat)
 case atStart=>exact⟨0,[],[],Nat.zero_le _,rfl,Xstp.out,XhS0.out⟩
 case round=>
  clear Xstp XhS0
  obtain⟨k,Pl,met,hk,rfl,t,si⟩:=hrel
  have hmet:=si.metLen
  have hpl:=si.len
  have hnn:=XhK.out.n
  have hPl:Pl.length≤50000000:=by omega
  by_cases hlt:k<n
  ·have hlt':(k:Int)<(n:Int):=by omega
   obtain⟨-,-,-,hcell⟩:=RdIt.at_ (Xhv.out.below t.le XhF'.out)
   obtain⟨b,off,rfl,hb,hcc⟩:=hcell (by omega)
   obtain⟨x,hx⟩: ∃x,l[k]? =some x:=⟨_,List.getElem?_eq_getElem (by rw [←Xhn.out];exact hlt)⟩
   obtain⟨p0,p1⟩:=hcc k x hx
   have hrx:=Xhal.out x (List.mem_of_getElem? hx)
   have hxs:=XhK.out.right hrx
   have hnx:=XhK.out.next x
   rw [←Xhp.out]at hnx
   obtain⟨x0,x1⟩:=x
   simp only at p0 p1 hxs
   obtain⟨wb,hwb⟩: ∃wb,wb=wr.alloc (.cells #[.int .i64 x0,.int .i64 x1] 86):=⟨_,rfl⟩
   have bb:Below wr.heap.size wr wb:=by rw [hwb];exact(Below.refl _ _).alloc (Nat.le_refl _) _
   have kb:Blk wb wr.heap.size 86 #[.int .i64 x0,.int .i64 x1]:=by rw [hwb];exact Blk.new _ _ _
   have tb:=t.below bb
   obtain⟨vsr,famr⟩:=t.fam
   have hrl: ∀i,i<p+1→ ∀q,(vsr i).ownBlock=some q→q<wr.heap.size:=fun i hi q e=>((famr.own i hi).lt q e).2
   have hPr:w2.heap.size+1<wr.heap.size:=t.k5.lt
   have famb:=famr.below bb
   have bdb:=Xh.out.touch (Touch.of_below tb.le) (fun b hb e=>by have:=Xh.out.gram.lt b hb;omega) (by have:=Xh.out.blk.lt;omega)
   have cp:=steps_put bdb tb.k2 tb.k5 famb (by have:=tb.hP;omega) (by omega) (by omega) (x0,x1) hrx hnx.1 (by omega) (Nat.le_refl _) (by omega) (by omega) (by simp only;omega)
   have hlo: ∀q,(q=w2.heap.size∨ ∃i,i<p+1∧(vsr i).ownBlock=some q)→q=w2.heap.size∨w2.heap.size+1+1+1≤q:=fun q e=>e.imp id (fun⟨i,hi,e⟩=>((famr.own i hi).lt q e).1)
   obtain⟨yn,hyn⟩:=Int.eq_ofNat_of_zero_le hnx.1
   rw [hyn]at hnx
   rw [hwb]at cp
   clear hcell hcc bb famr famb bdb t
   have Xtb:=hide tb;have Xcp:=hide cp;have Xkb:=hide kb;have Xhx:=hide hx;have Xhb:=hide hb;have Xsi:=hide si;have Xhrx:=hide hrx;have Xhlo:=hide hlo;have Xhrl:=hide hrl;have Xhyn:=hide hyn;clear tb cp kb hx hb si hrx hlo hrl hyn
   go_wp2_with fail
   refine Xcp.out.mono ?_
   rintro e w4 ⟨rfl,⟨vs4,fam4⟩,t4⟩
   rw [←hwb]at t4
   have st4:=Xtb.out.put fam4 (t4.mono (fun q _ e=>Xhlo.out q e))
   have k4:=Xkb.out.touch t4 (fun e=>by
    rcases e with e|⟨i,hi,e⟩
    ·omega
    ·have:=Xhrl.out i hi _ e;omega)
   have bd4:=Xh.out.touch (Touch.of_below st4.le) (fun b hb e=>by have:=Xh.out.gram.lt b hb;omega) (by have:=Xh.out.blk.lt;omega)
   have cx:=auto_next bd4 (x0,x1) Xhrx.out
   rw [Xhyn.out]at cx
   have e2:=(st4.k2.cell 0).trans rfl
   have d0:=(k4.cell 0).trans rfl
   have d1:=(k4.cell 1).trans rfl
   clear hwb p0 p1 fam4 t4 bd4 Xtb Xkb Xcp Xhlo Xhrl
   have Xst4:=hide st4;have Xk4:=hide k4;have Xcx:=hide cx;clear st4 k4 cx
   go_wp2_with fail
   with_reducible refine Xcx.out.mono ?_
   rintro e w5 ⟨rfl,b5⟩
   have st5:=Xst4.out.below b5
   clear e2 d0 d1 b5 Xst4 Xk4 Xcx
   have hyk: -9223372036854775808≤(yn:Int)∧(yn:Int)≤9223372036854775807:=by omega
   obtain⟨D,mm1,mm2⟩:=st5.map
   have hlk:=mm2.look mm1 hyk
   obtain⟨im,him⟩: ∃im,im=decide ((yn:Int)∈met):=⟨_,rfl⟩
   rw [←him]at hlk
   have e2:=(st5.k2.cell 0).trans rfl
   cases im with
   |true=>
    have si2:=Xsi.out.skip Xhx.out Xhrx.out (fun _=>by rw [Xhyn.out];exact of_decide_eq_true him.symm)
    clear mm1 mm2
    have Xst5:=hide st5;have Xsi2:=hide si2;have Xhim:=hide him;have Xhyk:=hide hyk;clear st5 si2 him hyk
    go_wp2_with fail
    go_roundw
    case rel=>exact⟨k+1,_,met,by omega,by go_num,Xst5.out,Xsi2.out⟩
    case measure=>simp [intOf];omega
   |false=>
    have bd5:=Xh.out.touch (Touch.of_below st5.le) (fun b hb e=>by have:=Xh.out.gram.lt b hb;omega) (by have:=Xh.out.blk.lt;omega)
    have cn:=gram_non bd5.gram st (yn:Int)
    obtain⟨q0,q1,q2,q3⟩:=bd5.cells
    obtain⟨nb,hnb⟩: ∃nb,nb=isNon G (yn:Int):=⟨_,rfl⟩
    rw [←hnb]at cn
    clear bd5 mm1 mm2
    have Xst5:=hide st5;have Xcn:=hide cn;have Xhnb:=hide hnb;have Xhim:=hide him;have Xhyk:=hide hyk;clear st5 cn hnb him hyk
    go_wp2_with fail
    with_reducible refine Xcn.out.mono ?_
    rintro e w6 ⟨rfl,b6⟩
    have st6:=Xst5.out.below b6
    clear q0 q1 q2 q3 e2 b6 hlk Xst5 Xcn
    cases nb with
    |false=>
     have si2:=Xsi.out.skip Xhx.out Xhrx.out (fun e=>by rw [Xhyn.out,←Xhnb.out]at e;cases e)
     have Xst6:=hide st6;have Xsi2:=hide si2;clear st6 si2
     go_wp2_with fail
     go_roundw
     case rel=>exact⟨k+1,_,met,by omega,by go_num,Xst6.out,Xsi2.out⟩
     case measure=>simp [intOf];omega
    |true=>
     have hyT:T<yn∧yn≤p:=by
      have:=Xhnb.out.symm
      unfold isNon at this
      rw [←XhT.out,←Xhp.out,Bool.and_eq_true,decide_eq_true_eq,decide_eq_true_eq]at this
      omega
     obtain⟨hbe1,hbe2⟩:=Xhbe.out yn hyT.1 hyT.2
     have si2:=Xsi.out.put Xhx.out Xhrx.out (by rw [Xhyn.out];exact Xhnb.out.symm) (by rw [Xhyn.out];exact of_decide_eq_false Xhim.out.symm) (by rw [Xhyn.out];exact hbe1) hbe2 XhK.out.toKnI Xhal.out
     rw [Xhyn.out]at si2
     obtain⟨D,mm1,mm2⟩:=st6.map
     have hkey:=nkey_some Xhyk.out
     have hml:met.length≤120:=by omega
     have Xst6:=hide st6;have Xsi2:=hide si2;have Xmm2:=hide mm2;have Xhbe1:=hide hbe1;clear st6 si2 mm2 hbe1
     go_wp2_with (at_mapUpdate;refine wpList_mapUpdate_own _ rfl _ _ _ 143 rfl 3 4 Tryz.intKeyed Tryz.underlying143 _ (w2.heap.size+1+1) met.length D rfl mm1 (by unfold maxLen;omega) _ _ _ rfl rfl hkey _ [] (plainElem_bool Tryz.underlying4 true) ?_)
     intro w7 m7 g7
     have st7:=Xst6.out.meet m7 (Xmm2.out.put Xhyk.out) g7
     have bd7:=Xh.out.touch (Touch.of_below st7.le) (fun b hb e=>by have:=Xh.out.gram.lt b hb;omega) (by have:=Xh.out.blk.lt;omega)
     have rows7:=Xrows.out.below st7.le
     have e2:=(st7.k2.cell 0).trans rfl
     have f4:=(bd7.blk.cell 4).trans rfl
     have g4:=rows7.cell yn (by omega)
     obtain⟨Ay,ny,cy,hrv,-⟩:=id (rows7.rd yn (by omega))
     rw [hrv]at g4
     obtain⟨hny,hnyc,hcym,-⟩:=RdIt.at_ (hrv▸rows7.rd yn (by omega))
     unfold maxLen at hcym
     rw [←hny]at hbe2
     clear m7 g7 mm1 hkey bd7 Xmm2 Xst6 Xsi
     have Xst7:=hide st7;have Xrows7:=hide rows7;have Xhrv:=hide hrv;have Xhny:=hide hny;clear st7 rows7 hrv hny
     go_wp2_with fail
     go_loopw [57] (fun i wr=> ∃(j:Nat),j≤ny∧i= .int .i64 j∧Stp w wr B w2.heap.size (p+1) G st (Pl++[(x0,x1)]++(Lb yn).take j) (met++[(yn:Int)])) (fun i _=>ny - (intOf i).toNat)
     case atStart=>exact⟨0,Nat.zero_le _,rfl,by rw [List.take_zero,List.append_nil];exact Xst7.out⟩
     case round=>
      have hkn:k+1≤n:=hlt
      clear Xst7 e2 f4 g4 hlt hlt'
      obtain⟨j,hj,rfl,t⟩:=hrel
      by_cases hlt:j<ny
      ·have hlt':(j:Int)<(ny:Int):=by omega
       have rd:=(Xrows.out.below t.le).rd yn (by omega)
       rw [Xhrv.out]at rd
       obtain⟨-,-,-,hcell⟩:=RdIt.at_ rd
       obtain⟨b3,off3,rfl,-,hcc⟩:=hcell (by omega)
       obtain⟨z,hz⟩: ∃z,(Lb yn)[j]? =some z:=⟨_,List.getElem?_eq_getElem (by rw [←Xhny.out];exact hlt)⟩
       obtain⟨p0,p1⟩:=hcc j z hz
       obtain⟨zn,zr,-,hz2,hz3⟩:=(Xhbe1.out z).1 (List.mem_of_getElem? hz)
       have hrz:rightI G st z=true:=by rw [hz3];exact right_new hz2
       have hzs:=XhK.out.right hrz
       have hnz:=XhK.out.next z
       rw [←Xhp.out]at hnz
       have hlz:(Pl++[(x0,x1)]++(Lb yn).take j).length≤100000000:=by
        simp only [List.length_append,List.length_singleton,List.length_take]
        omega
       obtain⟨z0,z1⟩:=z
       simp only at p0 p1 hzs
       obtain⟨vsr,famr⟩:=t.fam
       have bdb:=Xh.out.touch (Touch.of_below t.le) (fun b hb e=>by have:=Xh.out.gram.lt b hb;omega) (by have:=Xh.out.blk.lt;omega)
       obtain⟨wb,hwb⟩: ∃wb,wb=wr.alloc (.cells #[.int .i64 z0,.int .i64 z1] 86):=⟨_,rfl⟩
       have bb:Below wr.heap.size wr wb:=by rw [hwb];exact(Below.refl _ _).alloc (Nat.le_refl _) _
       have tb:=t.below bb
       have famb:=famr.below bb
       have cp:=steps_put (bdb.below bb) tb.k2 tb.k5 famb (by have:=tb.hP;omega) (by omega) (by omega) (z0,z1) hrz hnz.1 (by omega) (Nat.le_refl _) (by omega) hlz (by simp only;omega)
       have hlo: ∀q,(q=w2.heap.size∨ ∃i,i<p+1∧(vsr i).ownBlock=some q)→q=w2.heap.size∨w2.heap.size+1+1+1≤q:=fun q e=>e.imp id (fun⟨i,hi,e⟩=>((famr.own i hi).lt q e).1)
       have hnx2:Pl++[(x0,x1)]++(Lb yn).take j++[(z0,z1)]=Pl++[(x0,x1)]++(Lb yn).take (j+1):=by rw [List.append_assoc,←take_snoc hz]
       rw [hnx2]at cp
       rw [hwb]at cp
       clear hcell hcc rd bdb famr famb bb t hlz hzs hnz hrz hz2 hz3 hnx2
       have Xtb:=hide tb;have Xcp:=hide cp;have Xhlo:=hide hlo;have Xhz:=hide hz;clear tb cp hlo hz
       go_wp2_with fail
       refine Xcp.out.mono ?_
       rintro e w4 ⟨rfl,⟨vs4,fam4⟩,t4⟩
       rw [←hwb]at t4
       have st4:=Xtb.out.put fam4 (t4.mono (fun q _ e=>Xhlo.out q e))
       clear hwb p0 p1 fam4 t4 Xtb Xcp Xhlo
       have Xst4:=hide st4;clear st4
       go_wp2_with fail
       go_roundw
       case rel=>exact⟨j+1,by omega,by go_num,Xst4.out⟩
       case measure=>simp [intOf];omega
      ·have hlt': ¬(j:Int)<(ny:Int):=by omega
       have hkl:(Lb yn).take j=Lb yn:=List.take_of_length_le (by have:=Xhny.out;omega)
       rw [hkl]at t
       clear hkl
       have Xt:=hide t;clear t
       go_wp2_with fail
       go_roundw
       case rel=>exact⟨k+1,_,_,hkn,by go_num,Xt.out,Xsi2.out⟩
       case measure=>simp [intOf];omega
  ·have hlt': ¬(k:Int)<(n:Int):=by omega
   have hiff:=si.is (by have:=Xhn.out;omega) XhK.out.toKnI Xhal.out
   obtain⟨vsr,famr⟩:=t.fam
   have hout:=out_of hiff
   have ord0:=famr.ord
   have k50:=t.k5
   have le0:=t.le
   have hPw:=t.hP
   have e5:=(t.k5.cell 0).trans rfl
   clear si t famr hiff
   have Xord0:=hide ord0;have Xk50:=hide k50;have Xle0:=hide le0;have Xhout:=hide hout;clear ord0 k50 le0 hout
   go_wp2_with fail
   go_loopw [68] (fun i wr=> ∃(j:Nat) (vsj:Nat→Value),j≤p+1∧i= .int .i64 j∧OrdS wr (w2.heap.size+1+1+1) w2.heap.size (p+1) j vsj (stepsP G st Pl)∧Blk wr (w2.heap.size+1) 99 #[.slice (some ⟨w2.heap.size,0,none⟩) (p+1) (p+1)]∧Below w.heap.size w wr) (fun i _=>p+1 - (intOf i).toNat)
   case atStart=>exact⟨0,vsr,Nat.zero_le _,rfl,Xord0.out,Xk50.out,Xle0.out⟩
   case round=>
    clear Xord0 Xk50 Xle0 e5 hlt hlt'
    obtain⟨j,vsj,hj,rfl,od,k5,le⟩:=hrel
    have e5:=(k5.cell 0).trans rfl
    by_cases hlt:j<p+1
    ·have hlt':(j:Int)<(p:Int)+1:=by omega
     have hcj:=od.cell j hlt
     have hown:=(od.own j (Nat.le_refl _) hlt)
     obtain⟨Aj,cj,hvj,-,-⟩:=ownsRow_shape hown
     have hlj:=stepsP_len G st Pl j
     have hsm: ∀z∈stepsP G st Pl j,SmI z:=fun z hz=>by
      unfold stepsP at hz
      split at hz
      ·cases hz
      ·have:=XhK.out.right (steps_mem hz).1
       exact⟨⟨this.1.1,by omega⟩,this.2.1,by omega⟩
     have odd:=od
     rw [hvj]at hcj hown
     have hPn:=od.hP
     have hPl2:=od.hlo
     have cord:=auto_order (w:=wr.drew) hown hsm rfl (by omega)
     have hzj:=od.frz j hlt
     obtain⟨lj,hlj2⟩: ∃q,q=(stepsP G st Pl j).length:=⟨_,rfl⟩
     rw [←hlj2]at hcj cord hlj
     have hvj2:vsj j= .slice Aj lj cj:=by rw [hvj,hlj2]
     clear hown hvj hlj2 hlj
     have Xod:=hide od;have Xk5:=hide k5;have Xle:=hide le;have Xcord:=hide cord;have Xhsm:=hide hsm;have Xhvj2:=hide hvj2;have Xhzj:=hide hzj;clear od k5 le cord hsm hvj2 hzj
     go_wp2_with fail
     refine region_late (fun W=>W.cell? ⟨w2.heap.size+1,0,none⟩=some (.slice (some ⟨w2.heap.size,0,none⟩) (p+1) (p+1))∧W.cell? ⟨w2.heap.size,j,none⟩=some (.slice Aj lj cj)) 6 7 (by kernel_rfl) (by kernel_rfl) ⟨e5,hcj⟩ ?_
     simp only [List.take_succ_cons,List.take_zero,List.drop_succ_cons,List.drop_zero]
     iterate 6
      refine wpHeld_cons ?_ (by rfl) (fun wS hwS=> ?_) ?_
      rotate_left
      ·(try dsimp only at hwS)
       go_simp
       all_goals with_reducible rfl
      simp only [Act.put,List.setIfInBounds_toArray,List.set_cons_zero,List.set_cons_succ]
     refine wpHeld_nil ?_
     refine wpMid_cons ?_
     go_wp2_with fail
     refine Xcord.out.mono ?_
     rintro e w4 ⟨A4,n4,c4,rfl,hr4,t4⟩
     have ht4:Touch (fun b=>(vsj j).ownBlock=some b) wr w4:=by rw [Xhvj2.out];exact⟨t4.os,t4.tape,t4.output,t4.size,t4.block⟩
     have hr4':RdIt w4 (fun b=>(vsj j).ownBlock=some b) (.slice A4 n4 c4) (canonI (stepsP G st Pl j)):=by rw [Xhvj2.out];exact hr4
     obtain⟨od5,t5⟩:=Xod.out.next hlt hr4' ht4
     have hnP: ¬(vsj j).ownBlock=some w2.heap.size:=fun e=>by have:=((Xod.out.own j (Nat.le_refl _) hlt).lt _ e).1;omega
     have hnP5: ¬(vsj j).ownBlock=some (w2.heap.size+1):=fun e=>by have:=((Xod.out.own j (Nat.le_refl _) hlt).lt _ e).1;omega
     have k54:=Xk5.out.touch ht4 hnP5
     have e54:=(k54.cell 0).trans rfl
     have c54:=ht4.cell hcj hnP
     have z54:=(World.frozen?_of_block (a:=⟨w2.heap.size,j,none⟩) (ht4.block w2.heap.size (by omega) hnP)).trans Xhzj.out
     have k55:=Xk5.out.touch t5 (by omega)
     have le5:=t5.toBelow (fun k e=>by omega) Xle.out Xle.out.size
     clear hr4 hr4' t4 ht4 t5 hnP hnP5 Xod Xk5 Xle Xcord Xhzj
     have Xod5:=hide od5;have Xk54:=hide k54;have Xk55:=hide k55;have Xle5:=hide le5;clear od5 k54 k55 le5
     go_wp2_with fail
     refine⟨⟨e54,c54⟩,wpMid_nil ?_⟩
     go_wp2_with fail
     refine NoPanic.normal ?_
     go_wp2_with fail
     go_roundw
     case rel=>exact⟨j+1,_,by omega,by go_num,Xod5.out,Xk55.out,Xle5.out⟩
     case measure=>simp [intOf];omega
    ·have hlt': ¬(j:Int)<(p:Int)+1:=by omega
     have rw':=od.rows (by omega)
     have hfun:(fun i=>canonI (stepsP G st Pl i))=outI G st l:=funext Xhout.out
     rw [hfun]at rw'
     have Xod:=hide od;have Xk5:=hide k5;have Xle:=hide le;have Xrw':=hide rw';clear od k5 le rw'
     go_wp2_with fail
     go_ret
     exact⟨w2.heap.size,vsj,rfl,by have:=hPw;omega,Xrw'.out,Xle.out⟩
end
end Go.Proofs.YtalbfonkhpeajaaGreat

/- Items, the reference's: Put. -/
import Derived.Test.YtalbfonkhpeajaaGreatHItemPlain
import Derived.Deep.Cut
namespace Go.Proofs.YtalbfonkhpeajaaGreat
set_option linter.unusedVariables false
section
set_option linter.unusedSimpArgs false
open Go.RowKit
attribute [local irreducible] wpStill wpOne wpPh
theorem Tryz.infoItem:(Tryz.prog.info? 86).map (fun i=>(i.zero,i.size,i.bytes))=some (some (.agg #[.int .i64 0,.int .i64 0]),2,16):=by kernel_rfl
theorem Tryz.elemItem:Elem Tryz.prog 44 86 (.agg #[.int .i64 0,.int .i64 0]) 2 16:=⟨Tryz.underlying44,Tryz.infoItem,rfl,by decide⟩
theorem own_alloc {w:World} {base:Nat} {e:TypeId} {size n:Nat} {v:Value} {xs:List Value} (h:w.ownsRow base e size v n xs) (o:Obj):(w.alloc o).ownsRow base e size v n xs:=own_below' h ((Below.refl _ w).alloc (Nat.le_refl _) o)
theorem own_empty (w:World) (e:TypeId) (size:Nat):World.ownsRow (w.alloc (.cells #[] e)) w.heap.size e size (.slice (some ⟨w.heap.size,0,none⟩) 0 0) 0 []:=by
 have:=World.ownsRow_made (base:=w.heap.size) (e:=e) (size:=size) w #[] 0 (Nat.le_refl _) (by decide) (by simp)
 simpa using this
theorem RdIt.first {w:World} {F:Nat→Prop} {A:Option Addr} {n c:Nat} {l:List It} (h:RdIt w F (.slice A n c) l) {k:Nat} (hk:k≤n):RdIt w F (.slice A k c) (l.take k):=by
 obtain⟨hn,hnc,hcm,hcell⟩:=RdIt.at_ h
 refine⟨_,_,_,rfl,by omega,hcm,by rw [itCells_length,List.length_take];congr 1;omega,fun h0=> ?_⟩
 obtain⟨b,off,hA,hF,hc⟩:=hcell (by omega)
 refine⟨b,off,hA,hF,fun j u hu=> ?_⟩
 obtain⟨i,x,hx,h2⟩:=itCells_at hu
 rw [List.getElem?_take]at hx
 split at hx
 ·obtain⟨k1,k2⟩:=hc i x hx
  rcases h2 with h2|h2
  ·rw [h2.1,h2.2];exact k1
  ·rw [h2.1,h2.2,←Nat.add_assoc];exact k2
 ·cases hx
theorem RdIt.rest {w:World} {F:Nat→Prop} {bb off n c:Nat} {l:List It} (h:RdIt w F (.slice (some ⟨bb,off,none⟩) n c) l) {k:Nat} (hk:k≤n):RdIt w F (.slice (if c=k then some ⟨bb,off,none⟩else some ⟨bb,off+k * 2,none⟩) (n - k) (c - k)) (l.drop k):=by
 obtain⟨hn,hnc,hcm,hcell⟩:=RdIt.at_ h
 refine⟨_,_,_,rfl,by omega,by omega,by rw [itCells_length,List.length_drop];congr 1;omega,fun hn0=> ?_⟩
 obtain⟨b,o,e,hF,hc⟩:=hcell (by omega)
 injection e with e
 injection e with e1 e2 _
 subst e1 e2
 rw [if_neg (by omega)]
 refine⟨_,_,rfl,hF,fun j u hu=> ?_⟩
 obtain⟨i,x,hx,h2⟩:=itCells_at hu
 rw [List.getElem?_drop]at hx
 obtain⟨k1,k2⟩:=hc _ x hx
 rcases h2 with h2|h2
 ·rw [h2.1,h2.2,show off+k * 2+i * 2=off+(k+i) * 2 by omega];exact k1
 ·rw [h2.1,h2.2,show off+k * 2+(i * 2+1)=off+(k+i) * 2+1 by omega];exact k2
def PutPost (w:World) (F:Nat→Prop) (l:List It) (e:Ending) (w':World):Prop:= ∃A n c,e= .returned (.slice A n c)∧RdIt w' (fun b=>F b∨(w.heap.size≤b∧b<w'.heap.size)) (.slice A n c) l∧Below w.heap.size w w'
set_option maxRecDepth 100000 in
set_option maxHeartbeats 4000000 in
theorem ref12_Put {w:World} {F:Nat→Prop} {v:Value} {l:List It} (h:RdIt w F v l) (hF: ∀q,F q→q<w.heap.size) (x:It) (hl:l.length≤1000000) (hnil:l=[]→v= .slice none 0 0):
  Calls Tryz.prog 37 #[v,ItV x] w (PutPost w F (putI x l)):=by
 obtain⟨A,n,c,rfl,-⟩:=id h
 obtain⟨x0,x1⟩:=x
 obtain⟨hn,hnc,hcm,-⟩:=RdIt.at_ h
 unfold maxLen at hcm
 rw [←hn]at hl
 obtain⟨w1,hw1⟩: ∃w1,w1=w.alloc (.cells #[.int .i64 x0,.int .i64 x1] 86):=⟨_,rfl⟩
 have k1:Blk w1 w.heap.size 86 #[.int .i64 x0,.int .i64 x1]:=by rw [hw1];exact Blk.new _ _ _
 have b1:Below w.heap.size w w1:=by rw [hw1];exact(Below.refl _ w).alloc (Nat.le_refl _) _
 have hnil:n=0→A=none∧c=0:=fun e=>by
  have:=hnil (List.length_eq_zero_iff.1 (by omega))
  injection this with e1 e2 e3
  exact⟨e1,e3⟩
 have Xk1:=hide k1;have Xb1:=hide b1;have Xh:=hide h;have XhF:=hide hF;have Xhn:=hide hn;have Xhnil:=hide hnil;clear k1 b1 h hF hn hnil
 go_enter Tryz.func37,Tryz.ntmps37
 go_wp2_with fail
 rw [←hw1]
 go_loopw [5] (fun i wr=> ∃k:Nat,k≤n∧i= .int .i64 k∧Below w1.heap.size w1 wr∧(∀j y,j<k→l[j]? =some y→itLt y (x0,x1)=true)) (fun i _=>n - (intOf i).toNat)
 case atStart=>exact⟨0,Nat.zero_le _,rfl,Below.refl _ _,fun j y hj=>absurd hj (by omega)⟩
 case round=>
  obtain⟨k,hk,rfl,bw,hb⟩:=hrel
  obtain⟨wd,hwd⟩: ∃wd,wd=wr.drew:=⟨_,rfl⟩
  have bd:Below w1.heap.size w1 wd:=by rw [hwd];exact bw.drew
  have kd:=Xk1.out.below bd Xk1.out.lt
  have b0:Below w.heap.size w wd:=Xb1.out.trans (bd.mono Xb1.out.size)
  have hrd:=Xh.out.below b0 XhF.out
  obtain⟨-,-,-,hcell⟩:=RdIt.at_ hrd
  have d0:=(kd.cell 0).trans rfl
  have d1:=(kd.cell 1).trans rfl
  have hwx:w.heap.size<wd.heap.size:=kd.lt
  subst hwd
  by_cases hlt:k<n
  ·have hlt':(k:Int)<(n:Int):=by omega
   obtain⟨b,off,rfl,-,hcc⟩:=hcell (by omega)
   obtain⟨⟨y0,y1⟩,hy⟩: ∃y,l[k]? =some y:=⟨_,List.getElem?_eq_getElem (by rw [←Xhn.out];exact hlt)⟩
   obtain⟨p0,p1⟩:=hcc k _ hy
   have cl:=ref12_less (y0,y1) (x0,x1) wr.drew
   obtain⟨lt,hlt2⟩: ∃b,b=itLt (y0,y1) (x0,x1):=⟨_,rfl⟩
   rw [←hlt2]at cl
   clear hcell hcc hrd kd
   simp only at p0 p1
   have Xbw:=hide bw;have Xbd:=hide bd;have Xb0:=hide b0;have Xhb:=hide hb;have Xhy:=hide hy;have Xhlt2:=hide hlt2;have Xcl:=hide cl;have Xhwx:=hide hwx;clear bw bd b0 hb hy hlt2 cl hwx
   go_wp2_with fail
   refine wp_region_held_drew (S:=(fun W=>W.cell? ⟨w.heap.size,0,none⟩=some (.int .i64 x0)∧W.cell? ⟨w.heap.size,1,none⟩=some (.int .i64 x1)∧W.cell? ⟨b,off+k * 2,none⟩=some (.int .i64 y0)∧W.cell? ⟨b,off+k * 2+1,none⟩=some (.int .i64 y1))) (by kernel_rfl) ?_ (fun hHeld=> ?_)
   ·exact⟨d0,d1,p0,p1⟩
   refine tk (i:=0) (oi:= ?_) (v:= ?_) ?_ (by kernel_rfl) ?_ (Or.inl ⟨?_,?_⟩) (by assumption) ?_;rotate_left 2;(focus((try simp only [gT,gs,gz]);try rfl));exact fun _ _ _ h=>h;rfl;(focus(intro wS hwS;(try dsimp only at hwS);go_simp;all_goals with_reducible rfl));try simp only [Act.put,sT,s0,s1]
   refine tk (i:=1) (oi:= ?_) (v:= ?_) ?_ (by kernel_rfl) ?_ (Or.inl ⟨?_,?_⟩) (by assumption) ?_;rotate_left 2;(focus((try simp only [gT,gs,gz]);try rfl));exact fun _ _ _ h=>h;rfl;(focus(intro wS hwS;(try dsimp only at hwS);go_simp;all_goals with_reducible rfl));try simp only [Act.put,sT,s0,s1]
   refine tk (i:=2) (oi:= ?_) (v:= ?_) ?_ (by kernel_rfl) ?_ (Or.inl ⟨?_,?_⟩) (by assumption) ?_;rotate_left 2;(focus((try simp only [gT,gs,gz]);try rfl));exact fun _ _ _ h=>h;rfl;(focus(intro wS hwS;(try dsimp only at hwS);go_simp;all_goals with_reducible rfl));try simp only [Act.put,sT,s0,s1]
   refine tk (i:=3) (oi:= ?_) (v:= ?_) ?_ (by kernel_rfl) ?_ (Or.inl ⟨?_,?_⟩) (by assumption) ?_;rotate_left 2;(focus((try simp only [gT,gs,gz]);try rfl));exact fun _ _ _ h=>h;rfl;(focus(intro wS hwS;(try dsimp only at hwS);go_simp;all_goals with_reducible rfl));try simp only [Act.put,sT,s0,s1]
   refine tk (i:=4) (oi:= ?_) (v:= ?_) ?_ (by kernel_rfl) ?_ (Or.inl ⟨?_,?_⟩) (by assumption) ?_;rotate_left 2;(focus((try simp only [gT,gs,gz]);try rfl));exact fun _ _ _ h=>h;rfl;(focus(intro wS hwS;(try dsimp only at hwS);go_simp;all_goals with_reducible rfl));try simp only [Act.put,sT,s0,s1]
   refine tk (i:=5) (oi:= ?_) (v:= ?_) ?_ (by kernel_rfl) ?_ (Or.inl ⟨?_,?_⟩) (by assumption) ?_;rotate_left 2;(focus((try simp only [gT,gs,gz]);try rfl));exact fun _ _ _ h=>h;rfl;(focus(intro wS hwS;(try dsimp only at hwS);go_simp;all_goals with_reducible rfl));try simp only [Act.put,sT,s0,s1]
   refine tk (i:=6) (oi:= ?_) (v:= ?_) ?_ (by kernel_rfl) ?_ (Or.inl ⟨?_,?_⟩) (by assumption) ?_;rotate_left 2;(focus((try simp only [gT,gs,gz]);try rfl));exact fun _ _ _ h=>h;rfl;(focus(intro wS hwS;(try dsimp only at hwS);go_simp;all_goals with_reducible rfl));try simp only [Act.put,sT,s0,s1]
   refine tk (i:=7) (oi:= ?_) (v:= ?_) ?_ (by kernel_rfl) ?_ (Or.inl ⟨?_,?_⟩) (by assumption) ?_;rotate_left 2;(focus((try simp only [gT,gs,gz]);try rfl));exact fun _ _ _ h=>h;rfl;(focus(intro wS hwS;(try dsimp only at hwS);go_simp;all_goals with_reducible rfl));try simp only [Act.put,sT,s0,s1]
   refine tk (i:=8) (oi:= ?_) (v:= ?_) ?_ (by kernel_rfl) ?_ (Or.inl ⟨?_,?_⟩) (by assumption) ?_;rotate_left 2;(focus((try simp only [gT,gs,gz]);try rfl));exact fun _ _ _ h=>h;rfl;(focus(intro wS hwS;(try dsimp only at hwS);go_simp;all_goals with_reducible rfl));try simp only [Act.put,sT,s0,s1]
   refine tk (i:=9) (oi:= ?_) (v:= ?_) ?_ (by kernel_rfl) ?_ (Or.inl ⟨?_,?_⟩) (by assumption) ?_;rotate_left 2;(focus((try simp only [gT,gs,gz]);try rfl));exact fun _ _ _ h=>h;rfl;(focus(intro wS hwS;(try dsimp only at hwS);go_simp;all_goals with_reducible rfl));try simp only [Act.put,sT,s0,s1]
   refine wpAnyH_ready (rs:=[10]) (by kernel_rfl) (by simp) ?_
   refine AllReadyH.cons (o:= ?_) ?_ (fun K hK=> ?_) AllReadyH.nil;rotate_left 1;(focus((try simp only [gT,gs,gz]);try rfl))
   go_simp
   go_at_call 68
   with_reducible refine Xcl.out.mono ?_
   rintro e w5 ⟨rfl,b5⟩
   have b5':=Xbd.out.trans (b5.mono Xbd.out.size)
   refine hK.out _ _ ?_ (fun hHeld=> ?_)
   ·exact⟨(b5.cell (p:=⟨w.heap.size,0,none⟩) Xhwx.out).trans d0,(b5.cell (p:=⟨w.heap.size,1,none⟩) Xhwx.out).trans d1,(b5.cell (p:=⟨b,off+k * 2,none⟩) (World.block_lt_of_cell? _ _ p0)).trans p0,(b5.cell (p:=⟨b,off+k * 2+1,none⟩) (World.block_lt_of_cell? _ _ p1)).trans p1⟩
   clear hK K
   try simp only [Act.put,sT,s0,s1]
   clear b5 Xbd Xcl Xhwx Xb0 Xbw
   cases lt with
   |true=>
    have hb2: ∀j y,j<k+1→l[j]? =some y→itLt y (x0,x1)=true:=fun j y hj hy'=>by
     by_cases e:j=k
     ·subst e;rw [Xhy.out]at hy';injection hy' with hy';rw [←hy'];exact Xhlt2.out.symm
     ·exact Xhb.out j y (by omega) hy'
    clear d0 d1 p0 p1
    have Xb5':=hide b5';have Xhb2:=hide hb2;clear b5' hb2
    refine tk (i:=11) (oi:= ?_) (v:= ?_) ?_ (by kernel_rfl) ?_ (Or.inl ⟨?_,?_⟩) (by assumption) ?_;rotate_left 2;(focus((try simp only [gT,gs,gz]);try rfl));exact fun _ _ _ h=>h;rfl;(focus(intro wS hwS;(try dsimp only at hwS);go_simp;all_goals with_reducible rfl));try simp only [Act.put,sT,s0,s1]
    refine wpAnyH_done (by kernel_rfl) ?_ _
    go_wp2_with fail
    go_roundw
    case rel=>exact⟨k+1,by omega,by go_num,Xb5'.out,Xhb2.out⟩
    case measure=>simp [intOf];omega
   |false=>
    have hpa:=put_at (x:=((x0,x1):It)) (l:=l) (k:=k) (by rw [←Xhn.out];exact hk) Xhb.out (fun y hy'=>by rw [Xhy.out]at hy';injection hy' with hy';rw [←hy'];exact Xhlt2.out.symm)
    obtain⟨e0,e1,e2,e3⟩:=id hHeld
    have heq:=eql_item y0 y1 x0 x1
    have hgd:=fun op p q=>guard_item op p q (y0,y1) (x0,x1)
    have bq:Below w.heap.size w w5.drew:=(Xb1.out.trans (b5'.mono Xb1.out.size)).drew
    have hwq:w.heap.size<w5.drew.heap.size:=(Xk1.out.below b5' Xk1.out.lt).lt
    clear d0 d1 p0 p1
    by_cases he:((y0,y1):It)=(x0,x1)
    ·rw [decide_eq_true he]at heq
     rw [Xhy.out,he,if_pos rfl]at hpa
     have Xhe:=hide he;have Xhpa:=hide hpa;have Xbq:=hide bq;have Xhwq:=hide hwq;have Xb5':=hide b5';clear he hpa bq hwq b5'
     refine tk (i:=11) (oi:= ?_) (v:= ?_) ?_ (by kernel_rfl) ?_ (Or.inl ⟨?_,?_⟩) (by assumption) ?_;rotate_left 2;(focus((try simp only [gT,gs,gz]);try rfl));exact fun _ _ _ h=>h;rfl;(focus(intro wS hwS;(try dsimp only at hwS);go_simp;all_goals with_reducible rfl));try simp only [Act.put,sT,s0,s1]
     refine wpAnyH_done (by kernel_rfl) ?_ _
     go_wp2_with fail
     refine wp_region_held_drew (S:=(fun W=>W.cell? ⟨w.heap.size,0,none⟩=some (.int .i64 x0)∧W.cell? ⟨w.heap.size,1,none⟩=some (.int .i64 x1)∧W.cell? ⟨b,off+k * 2,none⟩=some (.int .i64 y0)∧W.cell? ⟨b,off+k * 2+1,none⟩=some (.int .i64 y1))) (by kernel_rfl) ?_ (fun hHeld=> ?_)
     ·exact⟨e0,e1,e2,e3⟩
     refine tk (i:=0) (oi:= ?_) (v:= ?_) ?_ (by kernel_rfl) ?_ (Or.inl ⟨?_,?_⟩) (by assumption) ?_;rotate_left 2;(focus((try simp only [gT,gs,gz]);try rfl));exact fun _ _ _ h=>h;rfl;(focus(intro wS hwS;(try dsimp only at hwS);go_simp;all_goals with_reducible rfl));try simp only [Act.put,sT,s0,s1]
     refine tk (i:=1) (oi:= ?_) (v:= ?_) ?_ (by kernel_rfl) ?_ (Or.inl ⟨?_,?_⟩) (by assumption) ?_;rotate_left 2;(focus((try simp only [gT,gs,gz]);try rfl));exact fun _ _ _ h=>h;rfl;(focus(intro wS hwS;(try dsimp only at hwS);go_simp;all_goals with_reducible rfl));try simp only [Act.put,sT,s0,s1]
     refine tk (i:=2) (oi:= ?_) (v:= ?_) ?_ (by kernel_rfl) ?_ (Or.inl ⟨?_,?_⟩) (by assumption) ?_;rotate_left 2;(focus((try simp only [gT,gs,gz]);try rfl));exact fun _ _ _ h=>h;rfl;(focus(intro wS hwS;(try dsimp only at hwS);go_simp;all_goals with_reducible rfl));try simp only [Act.put,sT,s0,s1]
     refine tk (i:=3) (oi:= ?_) (v:= ?_) ?_ (by kernel_rfl) ?_ (Or.inl ⟨?_,?_⟩) (by assumption) ?_;rotate_left 2;(focus((try simp only [gT,gs,gz]);try rfl));exact fun _ _ _ h=>h;rfl;(focus(intro wS hwS;(try dsimp only at hwS);go_simp;all_goals with_reducible rfl));try simp only [Act.put,sT,s0,s1]
     refine tk (i:=4) (oi:= ?_) (v:= ?_) ?_ (by kernel_rfl) ?_ (Or.inl ⟨?_,?_⟩) (by assumption) ?_;rotate_left 2;(focus((try simp only [gT,gs,gz]);try rfl));exact fun _ _ _ h=>h;rfl;(focus(intro wS hwS;(try dsimp only at hwS);go_simp;all_goals with_reducible rfl));try simp only [Act.put,sT,s0,s1]
     refine tk (i:=5) (oi:= ?_) (v:= ?_) ?_ (by kernel_rfl) ?_ (Or.inl ⟨?_,?_⟩) (by assumption) ?_;rotate_left 2;(focus((try simp only [gT,gs,gz]);try rfl));exact fun _ _ _ h=>h;rfl;(focus(intro wS hwS;(try dsimp only at hwS);go_simp;all_goals with_reducible rfl));try simp only [Act.put,sT,s0,s1]
     refine tk (i:=6) (oi:= ?_) (v:= ?_) ?_ (by kernel_rfl) ?_ (Or.inl ⟨?_,?_⟩) (by assumption) ?_;rotate_left 2;(focus((try simp only [gT,gs,gz]);try rfl));exact fun _ _ _ h=>h;rfl;(focus(intro wS hwS;(try dsimp only at hwS);go_simp;all_goals with_reducible rfl));try simp only [Act.put,sT,s0,s1]
     refine tk (i:=7) (oi:= ?_) (v:= ?_) ?_ (by kernel_rfl) ?_ (Or.inl ⟨?_,?_⟩) (by assumption) ?_;rotate_left 2;(focus((try simp only [gT,gs,gz]);try rfl));exact fun _ _ _ h=>h;rfl;(focus(intro wS hwS;(try dsimp only at hwS);go_simp;all_goals with_reducible rfl));try simp only [Act.put,sT,s0,s1]
     refine tk (i:=8) (oi:= ?_) (v:= ?_) ?_ (by kernel_rfl) ?_ (Or.inl ⟨?_,?_⟩) (by assumption) ?_;rotate_left 2;(focus((try simp only [gT,gs,gz]);try rfl));exact fun _ _ _ h=>h;rfl;(focus(intro wS hwS;(try dsimp only at hwS);go_simp;all_goals with_reducible rfl));try simp only [Act.put,sT,s0,s1]
     refine tk (i:=9) (oi:= ?_) (v:= ?_) ?_ (by kernel_rfl) ?_ (Or.inl ⟨?_,?_⟩) (by assumption) ?_;rotate_left 2;(focus((try simp only [gT,gs,gz]);try rfl));exact fun _ _ _ h=>h;rfl;(focus(intro wS hwS;(try dsimp only at hwS);go_simp;all_goals with_reducible rfl));try simp only [Act.put,sT,s0,s1]
     refine tk (i:=10) (oi:= ?_) (v:= ?_) ?_ (by kernel_rfl) ?_ (Or.inl ⟨?_,?_⟩) (by assumption) ?_;rotate_left 2;(focus((try simp only [gT,gs,gz]);try rfl));exact fun _ _ _ h=>h;rfl;(focus(intro wS hwS;(try dsimp only at hwS);go_simp;all_goals with_reducible rfl));try simp only [Act.put,sT,s0,s1]
     refine tk (i:=11) (oi:= ?_) (v:= ?_) ?_ (by kernel_rfl) ?_ (Or.inl ⟨?_,?_⟩) (by assumption) ?_;rotate_left 2;(focus((try simp only [gT,gs,gz]);try rfl));exact fun _ _ _ h=>h;rfl;(focus(intro wS hwS;(try dsimp only at hwS);go_simp;all_goals with_reducible rfl));try simp only [Act.put,sT,s0,s1]
     refine wpAnyH_done (by kernel_rfl) ?_ _
     go_wp2_with fail
     go_ret
     refine⟨_,_,_,rfl,?_,Xbq.out⟩
     rw [Xhpa.out]
     exact(Xh.out.below Xbq.out XhF.out).mono fun q hq=> .inl hq
    ·rw [decide_eq_false he]at heq
     rw [Xhy.out,if_neg (fun e=>he (by injection e))]at hpa
     have bq2:Below w.heap.size w w5.drew.drew:=bq.drew
     have hrd:=Xh.out.below bq2 XhF.out
     have r1: ∀W,Below w5.drew.drew.heap.size w5.drew.drew W→RdIt W F (.slice (some ⟨b,off,none⟩) k c) (l.take k):=fun W hW=>RdIt.first (hrd.below (hW.mono (Nat.le_of_lt hwq)) XhF.out) hk
     have r2: ∀W,Below w5.drew.drew.heap.size w5.drew.drew W→RdIt W F (.slice (if c=k then some ⟨b,off,none⟩else some ⟨b,off+k * 2,none⟩) (n - k) (c - k)) (l.drop k):=fun W hW=>RdIt.rest (hrd.below (hW.mono (Nat.le_of_lt hwq)) XhF.out) hk
     obtain⟨A',hA'⟩: ∃A':Option Addr,(if c=k then(some ⟨b,off,none⟩:Option Addr)else some ⟨b,off+k * 2,none⟩)=A':=⟨_,rfl⟩
     rw [hA']at r2
     have lk:(itCells (l.take k)).length=k * 2:=by rw [itCells_length,List.length_take,←Xhn.out];congr 1;omega
     have lk2:(itCells (l.drop k)).length=(n - k) * 2:=by rw [itCells_length,List.length_drop,←Xhn.out]
     have hk0:(0:Int)≤(k:Int):=by omega
     have hkn:(k:Int)≤(n:Int):=by omega
     have hkc:(k:Int)≤(c:Int):=by omega
     have hnl:n≤1000000:=hl
     clear hrd
     have Xhe:=hide he;have Xhpa:=hide hpa;have Xbq:=hide bq;have Xhwq:=hide hwq;have Xb5':=hide b5';have Xbq2:=hide bq2;have Xr1:=hide r1;have Xr2:=hide r2;have Xlk:=hide lk;have Xlk2:=hide lk2;clear he hpa bq hwq b5' bq2 r1 r2 lk lk2
     refine tk (i:=11) (oi:= ?_) (v:= ?_) ?_ (by kernel_rfl) ?_ (Or.inl ⟨?_,?_⟩) (by assumption) ?_;rotate_left 2;(focus((try simp only [gT,gs,gz]);try rfl));exact fun _ _ _ h=>h;rfl;(focus(intro wS hwS;(try dsimp only at hwS);go_simp;all_goals with_reducible rfl));try simp only [Act.put,sT,s0,s1]
     refine wpAnyH_done (by kernel_rfl) ?_ _
     go_wp2_with fail
     refine wp_region_held_drew (S:=(fun W=>W.cell? ⟨w.heap.size,0,none⟩=some (.int .i64 x0)∧W.cell? ⟨w.heap.size,1,none⟩=some (.int .i64 x1)∧W.cell? ⟨b,off+k * 2,none⟩=some (.int .i64 y0)∧W.cell? ⟨b,off+k * 2+1,none⟩=some (.int .i64 y1))) (by kernel_rfl) ?_ (fun hHeld=> ?_)
     ·exact⟨e0,e1,e2,e3⟩
     refine tk (i:=0) (oi:= ?_) (v:= ?_) ?_ (by kernel_rfl) ?_ (Or.inl ⟨?_,?_⟩) (by assumption) ?_;rotate_left 2;(focus((try simp only [gT,gs,gz]);try rfl));exact fun _ _ _ h=>h;rfl;(focus(intro wS hwS;(try dsimp only at hwS);go_simp;all_goals with_reducible rfl));try simp only [Act.put,sT,s0,s1]
     refine tk (i:=1) (oi:= ?_) (v:= ?_) ?_ (by kernel_rfl) ?_ (Or.inl ⟨?_,?_⟩) (by assumption) ?_;rotate_left 2;(focus((try simp only [gT,gs,gz]);try rfl));exact fun _ _ _ h=>h;rfl;(focus(intro wS hwS;(try dsimp only at hwS);go_simp;all_goals with_reducible rfl));try simp only [Act.put,sT,s0,s1]
     refine tk (i:=2) (oi:= ?_) (v:= ?_) ?_ (by kernel_rfl) ?_ (Or.inl ⟨?_,?_⟩) (by assumption) ?_;rotate_left 2;(focus((try simp only [gT,gs,gz]);try rfl));exact fun _ _ _ h=>h;rfl;(focus(intro wS hwS;(try dsimp only at hwS);go_simp;all_goals with_reducible rfl));try simp only [Act.put,sT,s0,s1]
     refine tk (i:=3) (oi:= ?_) (v:= ?_) ?_ (by kernel_rfl) ?_ (Or.inl ⟨?_,?_⟩) (by assumption) ?_;rotate_left 2;(focus((try simp only [gT,gs,gz]);try rfl));exact fun _ _ _ h=>h;rfl;(focus(intro wS hwS;(try dsimp only at hwS);go_simp;all_goals with_reducible rfl));try simp only [Act.put,sT,s0,s1]
     refine tk (i:=4) (oi:= ?_) (v:= ?_) ?_ (by kernel_rfl) ?_ (Or.inl ⟨?_,?_⟩) (by assumption) ?_;rotate_left 2;(focus((try simp only [gT,gs,gz]);try rfl));exact fun _ _ _ h=>h;rfl;(focus(intro wS hwS;(try dsimp only at hwS);go_simp;all_goals with_reducible rfl));try simp only [Act.put,sT,s0,s1]
     refine tk (i:=5) (oi:= ?_) (v:= ?_) ?_ (by kernel_rfl) ?_ (Or.inl ⟨?_,?_⟩) (by assumption) ?_;rotate_left 2;(focus((try simp only [gT,gs,gz]);try rfl));exact fun _ _ _ h=>h;rfl;(focus(intro wS hwS;(try dsimp only at hwS);go_simp;all_goals with_reducible rfl));try simp only [Act.put,sT,s0,s1]
     refine tk (i:=6) (oi:= ?_) (v:= ?_) ?_ (by kernel_rfl) ?_ (Or.inl ⟨?_,?_⟩) (by assumption) ?_;rotate_left 2;(focus((try simp only [gT,gs,gz]);try rfl));exact fun _ _ _ h=>h;rfl;(focus(intro wS hwS;(try dsimp only at hwS);go_simp;all_goals with_reducible rfl));try simp only [Act.put,sT,s0,s1]
     refine tk (i:=7) (oi:= ?_) (v:= ?_) ?_ (by kernel_rfl) ?_ (Or.inl ⟨?_,?_⟩) (by assumption) ?_;rotate_left 2;(focus((try simp only [gT,gs,gz]);try rfl));exact fun _ _ _ h=>h;rfl;(focus(intro wS hwS;(try dsimp only at hwS);go_simp;all_goals with_reducible rfl));try simp only [Act.put,sT,s0,s1]
     refine tk (i:=8) (oi:= ?_) (v:= ?_) ?_ (by kernel_rfl) ?_ (Or.inl ⟨?_,?_⟩) (by assumption) ?_;rotate_left 2;(focus((try simp only [gT,gs,gz]);try rfl));exact fun _ _ _ h=>h;rfl;(focus(intro wS hwS;(try dsimp only at hwS);go_simp;all_goals with_reducible rfl));try simp only [Act.put,sT,s0,s1]
     refine tk (i:=9) (oi:= ?_) (v:= ?_) ?_ (by kernel_rfl) ?_ (Or.inl ⟨?_,?_⟩) (by assumption) ?_;rotate_left 2;(focus((try simp only [gT,gs,gz]);try rfl));exact fun _ _ _ h=>h;rfl;(focus(intro wS hwS;(try dsimp only at hwS);go_simp;all_goals with_reducible rfl));try simp only [Act.put,sT,s0,s1]
     refine tk (i:=10) (oi:= ?_) (v:= ?_) ?_ (by kernel_rfl) ?_ (Or.inl ⟨?_,?_⟩) (by assumption) ?_;rotate_left 2;(focus((try simp only [gT,gs,gz]);try rfl));exact fun _ _ _ h=>h;rfl;(focus(intro wS hwS;(try dsimp only at hwS);go_simp;all_goals with_reducible rfl));try simp only [Act.put,sT,s0,s1]
     refine tk (i:=11) (oi:= ?_) (v:= ?_) ?_ (by kernel_rfl) ?_ (Or.inl ⟨?_,?_⟩) (by assumption) ?_;rotate_left 2;(focus((try simp only [gT,gs,gz]);try rfl));exact fun _ _ _ h=>h;rfl;(focus(intro wS hwS;(try dsimp only at hwS);go_simp;all_goals with_reducible rfl));try simp only [Act.put,sT,s0,s1]
     refine wpAnyH_done (by kernel_rfl) ?_ _
     clear e2 e3 heq hgd
     have d0:w5.drew.drew.cell? ⟨w.heap.size,0,none⟩=some (.int .i64 x0):=e0
     have d1:w5.drew.drew.cell? ⟨w.heap.size,1,none⟩=some (.int .i64 x1):=e1
     clear e0 e1
     go_upto_region 6 with fail
     have Xhres:=Xhpa
     have Xb0:=Xbq2
     have hwx:w.heap.size<w5.drew.drew.heap.size:=Xhwq.out
     have Xhwx:=hide hwx;clear hwx;clear Xhpa Xbq2 Xbq Xhwq Xb5' Xhb Xhy Xhlt2 Xhe Xh Xb1 Xk1
     refine wp_region_held_drew (S:=(fun W=>W.cell? ⟨w.heap.size,0,none⟩=some (.int .i64 x0)∧W.cell? ⟨w.heap.size,1,none⟩=some (.int .i64 x1))) (by kernel_rfl) ?_ (fun hHeld=> ?_)
     ·exact⟨d0,d1⟩
     generalize w5.drew.drew=wd at *
     have kx: ∀W,Below wd.heap.size wd W→W.cell? ⟨w.heap.size,0,none⟩=some (.int .i64 x0)∧W.cell? ⟨w.heap.size,1,none⟩=some (.int .i64 x1):=fun W h=>⟨(h.cell (p:=⟨w.heap.size,0,none⟩) Xhwx.out).trans d0,(h.cell (p:=⟨w.heap.size,1,none⟩) Xhwx.out).trans d1⟩
     have Xkx:=hide kx;clear kx;clear d0 d1
     refine tk (i:=1) (oi:= ?_) (v:= ?_) ?_ (by kernel_rfl) ?_ (Or.inl ⟨?_,?_⟩) (by assumption) ?_;rotate_left 2;(focus((try simp only [gT,gs,gz]);try rfl));exact fun _ _ _ h=>h;rfl;(focus(intro wS hwS;(try dsimp only at hwS);go_simp;all_goals with_reducible rfl));try simp only [Act.put,sT,s0,s1]
     refine tk (i:=2) (oi:= ?_) (v:= ?_) ?_ (by kernel_rfl) ?_ (Or.inl ⟨?_,?_⟩) (by assumption) ?_;rotate_left 2;(focus((try simp only [gT,gs,gz]);try rfl));exact fun _ _ _ h=>h;rfl;(focus(intro wS hwS;(try dsimp only at hwS);go_simp;all_goals with_reducible rfl));try simp only [Act.put,sT,s0,s1]
     refine tk (i:=3) (oi:= ?_) (v:= ?_) ?_ (by kernel_rfl) ?_ (Or.inl ⟨?_,?_⟩) (by assumption) ?_;rotate_left 2;(focus((try simp only [gT,gs,gz]);try rfl));exact fun _ _ _ h=>h;rfl;(focus(intro wS hwS;(try dsimp only at hwS);go_simp;all_goals with_reducible rfl));try simp only [Act.put,sT,s0,s1]
     refine tk (i:=5) (oi:= ?_) (v:= ?_) ?_ (by kernel_rfl) ?_ (Or.inl ⟨?_,?_⟩) (by assumption) ?_;rotate_left 2;(focus((try simp only [gT,gs,gz]);try rfl));exact fun _ _ _ h=>h;rfl;(focus(intro wS hwS;(try dsimp only at hwS);go_simp;all_goals with_reducible rfl));try simp only [Act.put,sT,s0,s1]
     refine tk (i:=8) (oi:= ?_) (v:= ?_) ?_ (by kernel_rfl) ?_ (Or.inl ⟨?_,?_⟩) (by assumption) ?_;rotate_left 2;(focus((try simp only [gT,gs,gz]);try rfl));exact fun _ _ _ h=>h;rfl;(focus(intro wS hwS;(try dsimp only at hwS);go_simp;all_goals with_reducible rfl));try simp only [Act.put,sT,s0,s1]
     refine tk (i:=9) (oi:= ?_) (v:= ?_) ?_ (by kernel_rfl) ?_ (Or.inl ⟨?_,?_⟩) (by assumption) ?_;rotate_left 2;(focus((try simp only [gT,gs,gz]);try rfl));exact fun _ _ _ h=>h;rfl;(focus(intro wS hwS;(try dsimp only at hwS);go_simp;all_goals with_reducible rfl));try simp only [Act.put,sT,s0,s1]
     refine tk (i:=10) (oi:= ?_) (v:= ?_) ?_ (by kernel_rfl) ?_ (Or.inl ⟨?_,?_⟩) (by assumption) ?_;rotate_left 2;(focus((try simp only [gT,gs,gz]);try rfl));exact fun _ _ _ h=>h;rfl;(focus(intro wS hwS;(try dsimp only at hwS);go_simp;all_goals with_reducible rfl));try simp only [Act.put,sT,s0,s1]
     refine wpAnyH_ready (rs:=[0,6]) (by kernel_rfl) (by simp) ?_
     refine AllReadyH.cons (o:= ?_) ?_ (fun K hK=> ?_) ?_;rotate_left 1;(focus((try simp only [gT,gs,gz]);try rfl))
     ·go_simp
      have B1:Below wd.heap.size wd (wd.alloc (.cells #[] 86)):=(Below.refl _ wd).alloc (Nat.le_refl _) _
      have o1:=own_empty wd 86 2
      refine hK.out _ _ ?_ (fun hHeld=> ?_)
      ·exact Xkx.out _ B1
      clear hK K
      try simp only [Act.put,sT,s0,s1]
      refine wpAnyH_ready (rs:=[4,6]) (by kernel_rfl) (by simp) ?_
      refine AllReadyH.cons (o:= ?_) ?_ (fun K hK=> ?_) ?_;rotate_left 1;(focus((try simp only [gT,gs,gz]);try rfl))
      ·skip
       refine step_append _ rfl (.tmp 33) (.tmp 36) _ rfl Tryz.elemItem wd.heap.size _ 0 [] rfl o1 F _ _ (k) rfl Xlk.out (Xr1.out _ B1) (itCells_one _) (by unfold maxLen;omega) (by omega) (B1).size ?_
       intro A4 c4 w4 own4 hg4 hb4
       rw [Nat.zero_add]at own4⊢
       have hg4:World.grownBy _ w4 (some (wd.heap.size)):=hg4
       have B4:=(B1).grown hg4 (B1).size (fun q hq=>(World.ownsRow.lt o1 q hq).1)
       refine hK.out _ _ ?_ (fun hHeld=> ?_)
       ·exact Xkx.out _ B4
       clear hK K
       try simp only [Act.put,sT,s0,s1]
       refine wpAnyH_ready (rs:=[6]) (by kernel_rfl) (by simp) ?_
       refine AllReadyH.cons (o:= ?_) ?_ (fun K hK=> ?_) ?_;rotate_left 1;(focus((try simp only [gT,gs,gz]);try rfl))
       ·go_simp
        have B5:Below wd.heap.size wd (w4.alloc (.cells #[.int .i64 x0,.int .i64 x1] 86)):=B4.alloc B4.size _
        have o5:=own_alloc own4 (.cells #[.int .i64 x0,.int .i64 x1] 86)
        refine hK.out _ _ ?_ (fun hHeld=> ?_)
        ·exact Xkx.out _ B5
        clear hK K
        try simp only [Act.put,sT,s0,s1]
        refine wpAnyH_ready (rs:=[7]) (by kernel_rfl) (by simp) ?_
        refine AllReadyH.cons (o:= ?_) ?_ (fun K hK=> ?_) ?_;rotate_left 1;(focus((try simp only [gT,gs,gz]);try rfl))
        rotate_left 1
        ·exact AllReadyH.nil
        refine step_append _ rfl (.tmp 37) (.tmp 39) _ rfl Tryz.elemItem wd.heap.size _ (k) _ rfl o5 _ _ [I64 x0,I64 x1] 1 rfl rfl (RdIt.one (x0,x1)) (itCells_one [(x0,x1)]) (by unfold maxLen;omega) (by omega) (B5).size ?_
        intro A6 c6 w6 own6 hg6 hb6
        have B6:=(B5).grown hg6 (B5).size (fun q hq=>(World.ownsRow.lt o5 q hq).1)
        refine hK.out _ _ ?_ (fun hHeld=> ?_)
        ·exact Xkx.out _ B6
        clear hK K
        try simp only [Act.put,sT,s0,s1]
        refine wpAnyH_ready (rs:=[11]) (by kernel_rfl) (by simp) ?_
        refine AllReadyH.cons (o:= ?_) ?_ (fun K hK=> ?_) ?_;rotate_left 1;(focus((try simp only [gT,gs,gz]);try rfl))
        rotate_left 1
        ·exact AllReadyH.nil
        refine step_append _ rfl (.tmp 40) (.tmp 43) _ rfl Tryz.elemItem wd.heap.size _ (k+1) _ rfl own6 F _ _ (n - k) rfl Xlk2.out (Xr2.out _ B6) (itCells_one _) (by unfold maxLen;omega) (by omega) B6.size ?_
        intro A8 c8 w8 own8 hg8 hb8
        have B8:=B6.grown hg8 B6.size (fun q hq=>(World.ownsRow.lt own6 q hq).1)
        refine hK.out _ _ ?_ (fun hHeld=> ?_)
        ·exact Xkx.out _ B8
        clear hK K
        try simp only [Act.put,sT,s0,s1]
        refine tk (i:=12) (oi:= ?_) (v:= ?_) ?_ (by kernel_rfl) ?_ (Or.inl ⟨?_,?_⟩) (by assumption) ?_;rotate_left 2;(focus((try simp only [gT,gs,gz]);try rfl));exact fun _ _ _ h=>h;rfl;(focus(intro wS hwS;(try dsimp only at hwS);go_simp;all_goals with_reducible rfl));try simp only [Act.put,sT,s0,s1]
        refine wpAnyH_done (by kernel_rfl) ?_ _
        go_wp2_with fail
        go_ret
        refine⟨A8,_,c8,rfl,?_,Xb0.out.trans (B8.mono Xb0.out.size)⟩
        have hcells:([]++itCells (l.take k))++[I64 x0,I64 x1]++itCells (l.drop k)=itCells (putI (x0,x1) l):=by rw [Xhres.out,itCells_append];simp [itCells]
        rw [hcells]at own8
        refine(Rd.of_own own8).mono fun q hq=> .inr ⟨Nat.le_trans Xb0.out.size (World.ownsRow.lt own8 q hq).1,(World.ownsRow.lt own8 q hq).2⟩
       ·exact AllReadyH.nil
      ·refine AllReadyH.cons (o:= ?_) ?_ (fun K hK=> ?_) ?_;rotate_left 1;(focus((try simp only [gT,gs,gz]);try rfl))
       ·go_simp
        have B2:Below wd.heap.size wd ((wd.alloc (.cells #[] 86)).alloc (.cells #[.int .i64 x0,.int .i64 x1] 86)):=B1.alloc B1.size _
        have o2:=own_alloc o1 (.cells #[.int .i64 x0,.int .i64 x1] 86)
        have k2:Blk ((wd.alloc (.cells #[] 86)).alloc (.cells #[.int .i64 x0,.int .i64 x1] 86)) (wd.heap.size+1) 86 #[.int .i64 x0,.int .i64 x1]:=by have:=Blk.new (wd.alloc (.cells #[] 86)) 86 #[.int .i64 x0,.int .i64 x1];simpa using this
        refine hK.out _ _ ?_ (fun hHeld=> ?_)
        ·exact Xkx.out _ B2
        clear hK K
        try simp only [Act.put,sT,s0,s1]
        refine wpAnyH_ready (rs:=[4]) (by kernel_rfl) (by simp) ?_
        refine AllReadyH.cons (o:= ?_) ?_ (fun K hK=> ?_) ?_;rotate_left 1;(focus((try simp only [gT,gs,gz]);try rfl))
        rotate_left 1
        ·exact AllReadyH.nil
        refine step_append _ rfl (.tmp 33) (.tmp 36) _ rfl Tryz.elemItem wd.heap.size _ 0 [] rfl o2 F _ _ (k) rfl Xlk.out (Xr1.out _ B2) (itCells_one _) (by unfold maxLen;omega) (by omega) (B2).size ?_
        intro A4 c4 w4 own4 hg4 hb4
        rw [Nat.zero_add]at own4⊢
        have hg4:World.grownBy _ w4 (some (wd.heap.size)):=hg4
        have B4:=(B2).grown hg4 (B2).size (fun q hq=>(World.ownsRow.lt o2 q hq).1)
        have k4:=k2.grown hg4 (by simp)
        refine hK.out _ _ ?_ (fun hHeld=> ?_)
        ·exact Xkx.out _ B4
        clear hK K
        try simp only [Act.put,sT,s0,s1]
        refine wpAnyH_ready (rs:=[7]) (by kernel_rfl) (by simp) ?_
        refine AllReadyH.cons (o:= ?_) ?_ (fun K hK=> ?_) ?_;rotate_left 1;(focus((try simp only [gT,gs,gz]);try rfl))
        rotate_left 1
        ·exact AllReadyH.nil
        refine step_append _ rfl (.tmp 37) (.tmp 39) _ rfl Tryz.elemItem wd.heap.size _ (k) _ rfl own4 _ _ [I64 x0,I64 x1] 1 rfl rfl (Rd.of_blk (F:=fun b=>b=wd.heap.size+1) (us:=[I64 x0,I64 x1]) (n:=1) k4 rfl rfl (by decide)) (itCells_one [(x0,x1)]) (by unfold maxLen;omega) (by omega) (B4).size ?_
        intro A6 c6 w6 own6 hg6 hb6
        have B6:=(B4).grown hg6 (B4).size (fun q hq=>(World.ownsRow.lt own4 q hq).1)
        refine hK.out _ _ ?_ (fun hHeld=> ?_)
        ·exact Xkx.out _ B6
        clear hK K
        try simp only [Act.put,sT,s0,s1]
        refine wpAnyH_ready (rs:=[11]) (by kernel_rfl) (by simp) ?_
        refine AllReadyH.cons (o:= ?_) ?_ (fun K hK=> ?_) ?_;rotate_left 1;(focus((try simp only [gT,gs,gz]);try rfl))
        rotate_left 1
        ·exact AllReadyH.nil
        refine step_append _ rfl (.tmp 40) (.tmp 43) _ rfl Tryz.elemItem wd.heap.size _ (k+1) _ rfl own6 F _ _ (n - k) rfl Xlk2.out (Xr2.out _ B6) (itCells_one _) (by unfold maxLen;omega) (by omega) B6.size ?_
        intro A8 c8 w8 own8 hg8 hb8
        have B8:=B6.grown hg8 B6.size (fun q hq=>(World.ownsRow.lt own6 q hq).1)
        refine hK.out _ _ ?_ (fun hHeld=> ?_)
        ·exact Xkx.out _ B8
        clear hK K
        try simp only [Act.put,sT,s0,s1]
        refine tk (i:=12) (oi:= ?_) (v:= ?_) ?_ (by kernel_rfl) ?_ (Or.inl ⟨?_,?_⟩) (by assumption) ?_;rotate_left 2;(focus((try simp only [gT,gs,gz]);try rfl));exact fun _ _ _ h=>h;rfl;(focus(intro wS hwS;(try dsimp only at hwS);go_simp;all_goals with_reducible rfl));try simp only [Act.put,sT,s0,s1]
        refine wpAnyH_done (by kernel_rfl) ?_ _
        go_wp2_with fail
        go_ret
        refine⟨A8,_,c8,rfl,?_,Xb0.out.trans (B8.mono Xb0.out.size)⟩
        have hcells:([]++itCells (l.take k))++[I64 x0,I64 x1]++itCells (l.drop k)=itCells (putI (x0,x1) l):=by rw [Xhres.out,itCells_append];simp [itCells]
        rw [hcells]at own8
        refine(Rd.of_own own8).mono fun q hq=> .inr ⟨Nat.le_trans Xb0.out.size (World.ownsRow.lt own8 q hq).1,(World.ownsRow.lt own8 q hq).2⟩
       ·exact AllReadyH.nil
     ·refine AllReadyH.cons (o:= ?_) ?_ (fun K hK=> ?_) ?_;rotate_left 1;(focus((try simp only [gT,gs,gz]);try rfl))
      ·go_simp
       have B1:Below wd.heap.size wd (wd.alloc (.cells #[.int .i64 x0,.int .i64 x1] 86)):=(Below.refl _ wd).alloc (Nat.le_refl _) _
       have k1:Blk (wd.alloc (.cells #[.int .i64 x0,.int .i64 x1] 86)) wd.heap.size 86 #[.int .i64 x0,.int .i64 x1]:=Blk.new _ _ _
       refine hK.out _ _ ?_ (fun hHeld=> ?_)
       ·exact Xkx.out _ B1
       clear hK K
       try simp only [Act.put,sT,s0,s1]
       refine wpAnyH_ready (rs:=[0]) (by kernel_rfl) (by simp) ?_
       refine AllReadyH.cons (o:= ?_) ?_ (fun K hK=> ?_) ?_;rotate_left 1;(focus((try simp only [gT,gs,gz]);try rfl))
       rotate_left 1
       ·exact AllReadyH.nil
       go_simp
       have B2:Below wd.heap.size wd ((wd.alloc (.cells #[.int .i64 x0,.int .i64 x1] 86)).alloc (.cells #[] 86)):=B1.alloc B1.size _
       have o2:World.ownsRow ((wd.alloc (.cells #[.int .i64 x0,.int .i64 x1] 86)).alloc (.cells #[] 86)) wd.heap.size 86 2 (.slice (some ⟨wd.heap.size+1,0,none⟩) 0 0) 0 []:=by
        have:=own_empty (wd.alloc (.cells #[.int .i64 x0,.int .i64 x1] 86)) 86 2
        rw [World.size_alloc]at this
        exact ownsRow_base this (fun q hq=>by simp [Value.ownBlock]at hq;omega)
       have k2:=k1.alloc (.cells #[] 86)
       refine hK.out _ _ ?_ (fun hHeld=> ?_)
       ·exact Xkx.out _ B2
       clear hK K
       try simp only [Act.put,sT,s0,s1]
       refine wpAnyH_ready (rs:=[4]) (by kernel_rfl) (by simp) ?_
       refine AllReadyH.cons (o:= ?_) ?_ (fun K hK=> ?_) ?_;rotate_left 1;(focus((try simp only [gT,gs,gz]);try rfl))
       rotate_left 1
       ·exact AllReadyH.nil
       refine step_append _ rfl (.tmp 33) (.tmp 36) _ rfl Tryz.elemItem wd.heap.size _ 0 [] rfl o2 F _ _ (k) rfl Xlk.out (Xr1.out _ B2) (itCells_one _) (by unfold maxLen;omega) (by omega) (B2).size ?_
       intro A4 c4 w4 own4 hg4 hb4
       rw [Nat.zero_add]at own4⊢
       have hg4:World.grownBy _ w4 (some (wd.heap.size+1)):=hg4
       have B4:=(B2).grown hg4 (B2).size (fun q hq=>(World.ownsRow.lt o2 q hq).1)
       have k4:=k2.grown hg4 (by simp)
       refine hK.out _ _ ?_ (fun hHeld=> ?_)
       ·exact Xkx.out _ B4
       clear hK K
       try simp only [Act.put,sT,s0,s1]
       refine wpAnyH_ready (rs:=[7]) (by kernel_rfl) (by simp) ?_
       refine AllReadyH.cons (o:= ?_) ?_ (fun K hK=> ?_) ?_;rotate_left 1;(focus((try simp only [gT,gs,gz]);try rfl))
       rotate_left 1
       ·exact AllReadyH.nil
       refine step_append _ rfl (.tmp 37) (.tmp 39) _ rfl Tryz.elemItem wd.heap.size _ (k) _ rfl own4 _ _ [I64 x0,I64 x1] 1 rfl rfl (Rd.of_blk (F:=fun b=>b=wd.heap.size) (us:=[I64 x0,I64 x1]) (n:=1) k4 rfl rfl (by decide)) (itCells_one [(x0,x1)]) (by unfold maxLen;omega) (by omega) (B4).size ?_
       intro A6 c6 w6 own6 hg6 hb6
       have B6:=(B4).grown hg6 (B4).size (fun q hq=>(World.ownsRow.lt own4 q hq).1)
       refine hK.out _ _ ?_ (fun hHeld=> ?_)
       ·exact Xkx.out _ B6
       clear hK K
       try simp only [Act.put,sT,s0,s1]
       refine wpAnyH_ready (rs:=[11]) (by kernel_rfl) (by simp) ?_
       refine AllReadyH.cons (o:= ?_) ?_ (fun K hK=> ?_) ?_;rotate_left 1;(focus((try simp only [gT,gs,gz]);try rfl))
       rotate_left 1
       ·exact AllReadyH.nil
       refine step_append _ rfl (.tmp 40) (.tmp 43) _ rfl Tryz.elemItem wd.heap.size _ (k+1) _ rfl own6 F _ _ (n - k) rfl Xlk2.out (Xr2.out _ B6) (itCells_one _) (by unfold maxLen;omega) (by omega) B6.size ?_
       intro A8 c8 w8 own8 hg8 hb8
       have B8:=B6.grown hg8 B6.size (fun q hq=>(World.ownsRow.lt own6 q hq).1)
       refine hK.out _ _ ?_ (fun hHeld=> ?_)
       ·exact Xkx.out _ B8
       clear hK K
       try simp only [Act.put,sT,s0,s1]
       refine tk (i:=12) (oi:= ?_) (v:= ?_) ?_ (by kernel_rfl) ?_ (Or.inl ⟨?_,?_⟩) (by assumption) ?_;rotate_left 2;(focus((try simp only [gT,gs,gz]);try rfl));exact fun _ _ _ h=>h;rfl;(focus(intro wS hwS;(try dsimp only at hwS);go_simp;all_goals with_reducible rfl));try simp only [Act.put,sT,s0,s1]
       refine wpAnyH_done (by kernel_rfl) ?_ _
       go_wp2_with fail
       go_ret
       refine⟨A8,_,c8,rfl,?_,Xb0.out.trans (B8.mono Xb0.out.size)⟩
       have hcells:([]++itCells (l.take k))++[I64 x0,I64 x1]++itCells (l.drop k)=itCells (putI (x0,x1) l):=by rw [Xhres.out,itCells_append];simp [itCells]
       rw [hcells]at own8
       refine(Rd.of_own own8).mono fun q hq=> .inr ⟨Nat.le_trans Xb0.out.size (World.ownsRow.lt own8 q hq).1,(World.ownsRow.lt own8 q hq).2⟩
      ·exact AllReadyH.nil
  ·have hlt': ¬(k:Int)<(n:Int):=by omega
   have ek:k=n:=by omega
   subst ek
   have hpa:=put_at (x:=((x0,x1):It)) (l:=l) (k:=k) (by rw [←Xhn.out];exact hk) hb (fun y hy'=>by rw [List.getElem?_eq_none (by have:=Xhn.out;omega)]at hy';cases hy')
   rw [List.getElem?_eq_none (by have:=Xhn.out;omega),if_neg (fun e=>by cases e)]at hpa
   have bq2:Below w.heap.size w wr.drew.drew.drew:=b0.drew.drew
   have hrd:=Xh.out.below bq2 XhF.out
   have hwq:w.heap.size<wr.drew.drew.drew.heap.size:=hwx
   have lk:(itCells (l.take k)).length=k * 2:=by rw [itCells_length,List.length_take,←Xhn.out];congr 1;omega
   have lk2:(itCells (l.drop k)).length=0 * 2:=by rw [itCells_length,List.length_drop,←Xhn.out,Nat.sub_self]
   have hk0:(0:Int)≤(k:Int):=by omega
   have hkn:(k:Int)≤(k:Int):=by omega
   have hkc:(k:Int)≤(c:Int):=by omega
   have r1: ∀W,Below wr.drew.drew.drew.heap.size wr.drew.drew.drew W→RdIt W F (.slice A k c) (l.take k):=fun W hW=>RdIt.first (hrd.below (hW.mono (Nat.le_of_lt hwq)) XhF.out) (Nat.le_refl _)
   have d0:wr.drew.drew.drew.cell? ⟨w.heap.size,0,none⟩=some (.int .i64 x0):=d0
   have d1:wr.drew.drew.drew.cell? ⟨w.heap.size,1,none⟩=some (.int .i64 x1):=d1
   have Xhwx:=hide hwq;have Xb0:=hide bq2;have Xhres:=hide hpa
   by_cases hk0':k=0
   ·subst hk0'
    obtain⟨rfl,rfl⟩:=Xhnil.out rfl
    have r2: ∀W,Below wr.drew.drew.drew.heap.size wr.drew.drew.drew W→RdIt W F (.slice none (0 - 0) 0) (l.drop 0):=fun W hW=>by
     rw [List.eq_nil_of_length_eq_zero (by have:=Xhn.out;omega:l.length=0)]
     exact Rd.nil _ _ _
    clear hcell hrd kd bw bd b0 hb hpa bq2 hwq hwx Xh Xb1 Xk1 Xhnil
    have Xr1:=hide r1;have Xr2:=hide r2;have Xlk:=hide lk;have Xlk2:=hide lk2;clear r1 r2 lk lk2
    go_wp2_with fail
    refine wp_region_held_drew (S:=(fun W=>W.cell? ⟨w.heap.size,0,none⟩=some (.int .i64 x0)∧W.cell? ⟨w.heap.size,1,none⟩=some (.int .i64 x1))) (by kernel_rfl) ?_ (fun hHeld=> ?_)
    ·exact⟨d0,d1⟩
    refine tk (i:=0) (oi:= ?_) (v:= ?_) ?_ (by kernel_rfl) ?_ (Or.inl ⟨?_,?_⟩) (by assumption) ?_;rotate_left 2;(focus((try simp only [gT,gs,gz]);try rfl));exact fun _ _ _ h=>h;rfl;(focus(intro wS hwS;(try dsimp only at hwS);go_simp;all_goals with_reducible rfl));try simp only [Act.put,sT,s0,s1]
    refine tk (i:=1) (oi:= ?_) (v:= ?_) ?_ (by kernel_rfl) ?_ (Or.inl ⟨?_,?_⟩) (by assumption) ?_;rotate_left 2;(focus((try simp only [gT,gs,gz]);try rfl));exact fun _ _ _ h=>h;rfl;(focus(intro wS hwS;(try dsimp only at hwS);go_simp;all_goals with_reducible rfl));try simp only [Act.put,sT,s0,s1]
    refine tk (i:=2) (oi:= ?_) (v:= ?_) ?_ (by kernel_rfl) ?_ (Or.inl ⟨?_,?_⟩) (by assumption) ?_;rotate_left 2;(focus((try simp only [gT,gs,gz]);try rfl));exact fun _ _ _ h=>h;rfl;(focus(intro wS hwS;(try dsimp only at hwS);go_simp;all_goals with_reducible rfl));try simp only [Act.put,sT,s0,s1]
    refine tk (i:=3) (oi:= ?_) (v:= ?_) ?_ (by kernel_rfl) ?_ (Or.inl ⟨?_,?_⟩) (by assumption) ?_;rotate_left 2;(focus((try simp only [gT,gs,gz]);try rfl));exact fun _ _ _ h=>h;rfl;(focus(intro wS hwS;(try dsimp only at hwS);go_simp;all_goals with_reducible rfl));try simp only [Act.put,sT,s0,s1]
    refine tk (i:=4) (oi:= ?_) (v:= ?_) ?_ (by kernel_rfl) ?_ (Or.inl ⟨?_,?_⟩) (by assumption) ?_;rotate_left 2;(focus((try simp only [gT,gs,gz]);try rfl));exact fun _ _ _ h=>h;rfl;(focus(intro wS hwS;(try dsimp only at hwS);go_simp;all_goals with_reducible rfl));try simp only [Act.put,sT,s0,s1]
    refine tk (i:=5) (oi:= ?_) (v:=undef) ?_ (by kernel_rfl) ?_ (Or.inr ⟨?_,rfl⟩) (by assumption) ?_;rotate_left 1;(focus((try simp only [gT,gs,gz]);try rfl));exact fun _ _ _ h=>h;rfl;try simp only [Act.put,sT,s0,s1]
    refine tk (i:=6) (oi:= ?_) (v:=undef) ?_ (by kernel_rfl) ?_ (Or.inr ⟨?_,rfl⟩) (by assumption) ?_;rotate_left 1;(focus((try simp only [gT,gs,gz]);try rfl));exact fun _ _ _ h=>h;rfl;try simp only [Act.put,sT,s0,s1]
    refine tk (i:=7) (oi:= ?_) (v:=undef) ?_ (by kernel_rfl) ?_ (Or.inr ⟨?_,rfl⟩) (by assumption) ?_;rotate_left 1;(focus((try simp only [gT,gs,gz]);try rfl));exact fun _ _ _ h=>h;rfl;try simp only [Act.put,sT,s0,s1]
    refine tk (i:=8) (oi:= ?_) (v:=undef) ?_ (by kernel_rfl) ?_ (Or.inr ⟨?_,rfl⟩) (by assumption) ?_;rotate_left 1;(focus((try simp only [gT,gs,gz]);try rfl));exact fun _ _ _ h=>h;rfl;try simp only [Act.put,sT,s0,s1]
    refine tk (i:=9) (oi:= ?_) (v:=undef) ?_ (by kernel_rfl) ?_ (Or.inr ⟨?_,rfl⟩) (by assumption) ?_;rotate_left 1;(focus((try simp only [gT,gs,gz]);try rfl));exact fun _ _ _ h=>h;rfl;try simp only [Act.put,sT,s0,s1]
    refine tk (i:=10) (oi:= ?_) (v:=undef) ?_ (by kernel_rfl) ?_ (Or.inr ⟨?_,rfl⟩) (by assumption) ?_;rotate_left 1;(focus((try simp only [gT,gs,gz]);try rfl));exact fun _ _ _ h=>h;rfl;try simp only [Act.put,sT,s0,s1]
    refine tk (i:=11) (oi:= ?_) (v:= ?_) ?_ (by kernel_rfl) ?_ (Or.inl ⟨?_,?_⟩) (by assumption) ?_;rotate_left 2;(focus((try simp only [gT,gs,gz]);try rfl));exact fun _ _ _ h=>h;rfl;(focus(intro wS hwS;(try dsimp only at hwS);go_simp;all_goals with_reducible rfl));try simp only [Act.put,sT,s0,s1]
    refine wpAnyH_done (by kernel_rfl) ?_ _
    go_wp2_with fail
    refine wp_region_held_drew (S:=(fun W=>W.cell? ⟨w.heap.size,0,none⟩=some (.int .i64 x0)∧W.cell? ⟨w.heap.size,1,none⟩=some (.int .i64 x1))) (by kernel_rfl) ?_ (fun hHeld=> ?_)
    ·exact⟨d0,d1⟩
    refine tk (i:=0) (oi:= ?_) (v:= ?_) ?_ (by kernel_rfl) ?_ (Or.inl ⟨?_,?_⟩) (by assumption) ?_;rotate_left 2;(focus((try simp only [gT,gs,gz]);try rfl));exact fun _ _ _ h=>h;rfl;(focus(intro wS hwS;(try dsimp only at hwS);go_simp;all_goals with_reducible rfl));try simp only [Act.put,sT,s0,s1]
    refine tk (i:=1) (oi:= ?_) (v:= ?_) ?_ (by kernel_rfl) ?_ (Or.inl ⟨?_,?_⟩) (by assumption) ?_;rotate_left 2;(focus((try simp only [gT,gs,gz]);try rfl));exact fun _ _ _ h=>h;rfl;(focus(intro wS hwS;(try dsimp only at hwS);go_simp;all_goals with_reducible rfl));try simp only [Act.put,sT,s0,s1]
    refine tk (i:=2) (oi:= ?_) (v:= ?_) ?_ (by kernel_rfl) ?_ (Or.inl ⟨?_,?_⟩) (by assumption) ?_;rotate_left 2;(focus((try simp only [gT,gs,gz]);try rfl));exact fun _ _ _ h=>h;rfl;(focus(intro wS hwS;(try dsimp only at hwS);go_simp;all_goals with_reducible rfl));try simp only [Act.put,sT,s0,s1]
    refine tk (i:=3) (oi:= ?_) (v:= ?_) ?_ (by kernel_rfl) ?_ (Or.inl ⟨?_,?_⟩) (by assumption) ?_;rotate_left 2;(focus((try simp only [gT,gs,gz]);try rfl));exact fun _ _ _ h=>h;rfl;(focus(intro wS hwS;(try dsimp only at hwS);go_simp;all_goals with_reducible rfl));try simp only [Act.put,sT,s0,s1]
    refine tk (i:=4) (oi:= ?_) (v:= ?_) ?_ (by kernel_rfl) ?_ (Or.inl ⟨?_,?_⟩) (by assumption) ?_;rotate_left 2;(focus((try simp only [gT,gs,gz]);try rfl));exact fun _ _ _ h=>h;rfl;(focus(intro wS hwS;(try dsimp only at hwS);go_simp;all_goals with_reducible rfl));try simp only [Act.put,sT,s0,s1]
    refine tk (i:=5) (oi:= ?_) (v:=undef) ?_ (by kernel_rfl) ?_ (Or.inr ⟨?_,rfl⟩) (by assumption) ?_;rotate_left 1;(focus((try simp only [gT,gs,gz]);try rfl));exact fun _ _ _ h=>h;rfl;try simp only [Act.put,sT,s0,s1]
    refine tk (i:=6) (oi:= ?_) (v:=undef) ?_ (by kernel_rfl) ?_ (Or.inr ⟨?_,rfl⟩) (by assumption) ?_;rotate_left 1;(focus((try simp only [gT,gs,gz]);try rfl));exact fun _ _ _ h=>h;rfl;try simp only [Act.put,sT,s0,s1]
    refine tk (i:=7) (oi:= ?_) (v:=undef) ?_ (by kernel_rfl) ?_ (Or.inr ⟨?_,rfl⟩) (by assumption) ?_;rotate_left 1;(focus((try simp only [gT,gs,gz]);try rfl));exact fun _ _ _ h=>h;rfl;try simp only [Act.put,sT,s0,s1]
    refine tk (i:=8) (oi:= ?_) (v:=undef) ?_ (by kernel_rfl) ?_ (Or.inr ⟨?_,rfl⟩) (by assumption) ?_;rotate_left 1;(focus((try simp only [gT,gs,gz]);try rfl));exact fun _ _ _ h=>h;rfl;try simp only [Act.put,sT,s0,s1]
    refine tk (i:=9) (oi:= ?_) (v:=undef) ?_ (by kernel_rfl) ?_ (Or.inr ⟨?_,rfl⟩) (by assumption) ?_;rotate_left 1;(focus((try simp only [gT,gs,gz]);try rfl));exact fun _ _ _ h=>h;rfl;try simp only [Act.put,sT,s0,s1]
    refine tk (i:=10) (oi:= ?_) (v:=undef) ?_ (by kernel_rfl) ?_ (Or.inr ⟨?_,rfl⟩) (by assumption) ?_;rotate_left 1;(focus((try simp only [gT,gs,gz]);try rfl));exact fun _ _ _ h=>h;rfl;try simp only [Act.put,sT,s0,s1]
    refine tk (i:=11) (oi:= ?_) (v:= ?_) ?_ (by kernel_rfl) ?_ (Or.inl ⟨?_,?_⟩) (by assumption) ?_;rotate_left 2;(focus((try simp only [gT,gs,gz]);try rfl));exact fun _ _ _ h=>h;rfl;(focus(intro wS hwS;(try dsimp only at hwS);go_simp;all_goals with_reducible rfl));try simp only [Act.put,sT,s0,s1]
    refine wpAnyH_done (by kernel_rfl) ?_ _
    go_upto_region 6 with fail
    refine wp_region_held_drew (S:=(fun W=>W.cell? ⟨w.heap.size,0,none⟩=some (.int .i64 x0)∧W.cell? ⟨w.heap.size,1,none⟩=some (.int .i64 x1))) (by kernel_rfl) ?_ (fun hHeld=> ?_)
    ·exact⟨d0,d1⟩
    generalize wr.drew.drew.drew=wd at *
    have kx: ∀W,Below wd.heap.size wd W→W.cell? ⟨w.heap.size,0,none⟩=some (.int .i64 x0)∧W.cell? ⟨w.heap.size,1,none⟩=some (.int .i64 x1):=fun W h=>⟨(h.cell (p:=⟨w.heap.size,0,none⟩) Xhwx.out).trans d0,(h.cell (p:=⟨w.heap.size,1,none⟩) Xhwx.out).trans d1⟩
    have Xkx:=hide kx;clear kx;clear d0 d1
    refine tk (i:=1) (oi:= ?_) (v:= ?_) ?_ (by kernel_rfl) ?_ (Or.inl ⟨?_,?_⟩) (by assumption) ?_;rotate_left 2;(focus((try simp only [gT,gs,gz]);try rfl));exact fun _ _ _ h=>h;rfl;(focus(intro wS hwS;(try dsimp only at hwS);go_simp;all_goals with_reducible rfl));try simp only [Act.put,sT,s0,s1]
    refine tk (i:=2) (oi:= ?_) (v:= ?_) ?_ (by kernel_rfl) ?_ (Or.inl ⟨?_,?_⟩) (by assumption) ?_;rotate_left 2;(focus((try simp only [gT,gs,gz]);try rfl));exact fun _ _ _ h=>h;rfl;(focus(intro wS hwS;(try dsimp only at hwS);go_simp;all_goals with_reducible rfl));try simp only [Act.put,sT,s0,s1]
    refine tk (i:=3) (oi:= ?_) (v:= ?_) ?_ (by kernel_rfl) ?_ (Or.inl ⟨?_,?_⟩) (by assumption) ?_;rotate_left 2;(focus((try simp only [gT,gs,gz]);try rfl));exact fun _ _ _ h=>h;rfl;(focus(intro wS hwS;(try dsimp only at hwS);go_simp;all_goals with_reducible rfl));try simp only [Act.put,sT,s0,s1]
    refine tk (i:=5) (oi:= ?_) (v:= ?_) ?_ (by kernel_rfl) ?_ (Or.inl ⟨?_,?_⟩) (by assumption) ?_;rotate_left 2;(focus((try simp only [gT,gs,gz]);try rfl));exact fun _ _ _ h=>h;rfl;(focus(intro wS hwS;(try dsimp only at hwS);go_simp;all_goals with_reducible rfl));try simp only [Act.put,sT,s0,s1]
    refine tk (i:=8) (oi:= ?_) (v:= ?_) ?_ (by kernel_rfl) ?_ (Or.inl ⟨?_,?_⟩) (by assumption) ?_;rotate_left 2;(focus((try simp only [gT,gs,gz]);try rfl));exact fun _ _ _ h=>h;rfl;(focus(intro wS hwS;(try dsimp only at hwS);go_simp;all_goals with_reducible rfl));try simp only [Act.put,sT,s0,s1]
    refine tk (i:=9) (oi:= ?_) (v:= ?_) ?_ (by kernel_rfl) ?_ (Or.inl ⟨?_,?_⟩) (by assumption) ?_;rotate_left 2;(focus((try simp only [gT,gs,gz]);try rfl));exact fun _ _ _ h=>h;rfl;(focus(intro wS hwS;(try dsimp only at hwS);go_simp;all_goals with_reducible rfl));try simp only [Act.put,sT,s0,s1]
    refine tk (i:=10) (oi:= ?_) (v:= ?_) ?_ (by kernel_rfl) ?_ (Or.inl ⟨?_,?_⟩) (by assumption) ?_;rotate_left 2;(focus((try simp only [gT,gs,gz]);try rfl));exact fun _ _ _ h=>h;rfl;(focus(intro wS hwS;(try dsimp only at hwS);go_simp;all_goals with_reducible rfl));try simp only [Act.put,sT,s0,s1]
    refine wpAnyH_ready (rs:=[0,6]) (by kernel_rfl) (by simp) ?_
    refine AllReadyH.cons (o:= ?_) ?_ (fun K hK=> ?_) ?_;rotate_left 1;(focus((try simp only [gT,gs,gz]);try rfl))
    ·go_simp
     have B1:Below wd.heap.size wd (wd.alloc (.cells #[] 86)):=(Below.refl _ wd).alloc (Nat.le_refl _) _
     have o1:=own_empty wd 86 2
     refine hK.out _ _ ?_ (fun hHeld=> ?_)
     ·exact Xkx.out _ B1
     clear hK K
     try simp only [Act.put,sT,s0,s1]
     refine wpAnyH_ready (rs:=[4,6]) (by kernel_rfl) (by simp) ?_
     refine AllReadyH.cons (o:= ?_) ?_ (fun K hK=> ?_) ?_;rotate_left 1;(focus((try simp only [gT,gs,gz]);try rfl))
     ·skip
      refine step_append _ rfl (.tmp 33) (.tmp 36) _ rfl Tryz.elemItem wd.heap.size _ 0 [] rfl o1 F _ _ (0) rfl Xlk.out (Xr1.out _ B1) (itCells_one _) (by unfold maxLen;omega) (by omega) (B1).size ?_
      intro A4 c4 w4 own4 hg4 hb4
      rw [Nat.zero_add]at own4⊢
      have hg4:World.grownBy _ w4 (some (wd.heap.size)):=hg4
      have B4:=(B1).grown hg4 (B1).size (fun q hq=>(World.ownsRow.lt o1 q hq).1)
      refine hK.out _ _ ?_ (fun hHeld=> ?_)
      ·exact Xkx.out _ B4
      clear hK K
      try simp only [Act.put,sT,s0,s1]
      refine wpAnyH_ready (rs:=[6]) (by kernel_rfl) (by simp) ?_
      refine AllReadyH.cons (o:= ?_) ?_ (fun K hK=> ?_) ?_;rotate_left 1;(focus((try simp only [gT,gs,gz]);try rfl))
      ·go_simp
       have B5:Below wd.heap.size wd (w4.alloc (.cells #[.int .i64 x0,.int .i64 x1] 86)):=B4.alloc B4.size _
       have o5:=own_alloc own4 (.cells #[.int .i64 x0,.int .i64 x1] 86)
       refine hK.out _ _ ?_ (fun hHeld=> ?_)
       ·exact Xkx.out _ B5
       clear hK K
       try simp only [Act.put,sT,s0,s1]
       refine wpAnyH_ready (rs:=[7]) (by kernel_rfl) (by simp) ?_
       refine AllReadyH.cons (o:= ?_) ?_ (fun K hK=> ?_) ?_;rotate_left 1;(focus((try simp only [gT,gs,gz]);try rfl))
       rotate_left 1
       ·exact AllReadyH.nil
       refine step_append _ rfl (.tmp 37) (.tmp 39) _ rfl Tryz.elemItem wd.heap.size _ (0) _ rfl o5 _ _ [I64 x0,I64 x1] 1 rfl rfl (RdIt.one (x0,x1)) (itCells_one [(x0,x1)]) (by unfold maxLen;omega) (by omega) (B5).size ?_
       intro A6 c6 w6 own6 hg6 hb6
       have B6:=(B5).grown hg6 (B5).size (fun q hq=>(World.ownsRow.lt o5 q hq).1)
       refine hK.out _ _ ?_ (fun hHeld=> ?_)
       ·exact Xkx.out _ B6
       clear hK K
       try simp only [Act.put,sT,s0,s1]
       refine wpAnyH_ready (rs:=[11]) (by kernel_rfl) (by simp) ?_
       refine AllReadyH.cons (o:= ?_) ?_ (fun K hK=> ?_) ?_;rotate_left 1;(focus((try simp only [gT,gs,gz]);try rfl))
       rotate_left 1
       ·exact AllReadyH.nil
       refine step_append _ rfl (.tmp 40) (.tmp 43) _ rfl Tryz.elemItem wd.heap.size _ (0+1) _ rfl own6 F _ _ (0) rfl Xlk2.out (Xr2.out _ B6) (itCells_one _) (by unfold maxLen;omega) (by omega) B6.size ?_
       intro A8 c8 w8 own8 hg8 hb8
       have B8:=B6.grown hg8 B6.size (fun q hq=>(World.ownsRow.lt own6 q hq).1)
       refine hK.out _ _ ?_ (fun hHeld=> ?_)
       ·exact Xkx.out _ B8
       clear hK K
       try simp only [Act.put,sT,s0,s1]
       refine tk (i:=12) (oi:= ?_) (v:= ?_) ?_ (by kernel_rfl) ?_ (Or.inl ⟨?_,?_⟩) (by assumption) ?_;rotate_left 2;(focus((try simp only [gT,gs,gz]);try rfl));exact fun _ _ _ h=>h;rfl;(focus(intro wS hwS;(try dsimp only at hwS);go_simp;all_goals with_reducible rfl));try simp only [Act.put,sT,s0,s1]
       refine wpAnyH_done (by kernel_rfl) ?_ _
       go_wp2_with fail
       go_ret
       refine⟨A8,_,c8,rfl,?_,Xb0.out.trans (B8.mono Xb0.out.size)⟩
       have hcells:([]++itCells (l.take 0))++[I64 x0,I64 x1]++itCells (l.drop 0)=itCells (putI (x0,x1) l):=by rw [Xhres.out,itCells_append];simp [itCells]
       rw [hcells]at own8
       refine(Rd.of_own own8).mono fun q hq=> .inr ⟨Nat.le_trans Xb0.out.size (World.ownsRow.lt own8 q hq).1,(World.ownsRow.lt own8 q hq).2⟩
      ·exact AllReadyH.nil
     ·refine AllReadyH.cons (o:= ?_) ?_ (fun K hK=> ?_) ?_;rotate_left 1;(focus((try simp only [gT,gs,gz]);try rfl))
      ·go_simp
       have B2:Below wd.heap.size wd ((wd.alloc (.cells #[] 86)).alloc (.cells #[.int .i64 x0,.int .i64 x1] 86)):=B1.alloc B1.size _
       have o2:=own_alloc o1 (.cells #[.int .i64 x0,.int .i64 x1] 86)
       have k2:Blk ((wd.alloc (.cells #[] 86)).alloc (.cells #[.int .i64 x0,.int .i64 x1] 86)) (wd.heap.size+1) 86 #[.int .i64 x0,.int .i64 x1]:=by have:=Blk.new (wd.alloc (.cells #[] 86)) 86 #[.int .i64 x0,.int .i64 x1];simpa using this
       refine hK.out _ _ ?_ (fun hHeld=> ?_)
       ·exact Xkx.out _ B2
       clear hK K
       try simp only [Act.put,sT,s0,s1]
       refine wpAnyH_ready (rs:=[4]) (by kernel_rfl) (by simp) ?_
       refine AllReadyH.cons (o:= ?_) ?_ (fun K hK=> ?_) ?_;rotate_left 1;(focus((try simp only [gT,gs,gz]);try rfl))
       rotate_left 1
       ·exact AllReadyH.nil
       refine step_append _ rfl (.tmp 33) (.tmp 36) _ rfl Tryz.elemItem wd.heap.size _ 0 [] rfl o2 F _ _ (0) rfl Xlk.out (Xr1.out _ B2) (itCells_one _) (by unfold maxLen;omega) (by omega) (B2).size ?_
       intro A4 c4 w4 own4 hg4 hb4
       rw [Nat.zero_add]at own4⊢
       have hg4:World.grownBy _ w4 (some (wd.heap.size)):=hg4
       have B4:=(B2).grown hg4 (B2).size (fun q hq=>(World.ownsRow.lt o2 q hq).1)
       have k4:=k2.grown hg4 (by simp)
       refine hK.out _ _ ?_ (fun hHeld=> ?_)
       ·exact Xkx.out _ B4
       clear hK K
       try simp only [Act.put,sT,s0,s1]
       refine wpAnyH_ready (rs:=[7]) (by kernel_rfl) (by simp) ?_
       refine AllReadyH.cons (o:= ?_) ?_ (fun K hK=> ?_) ?_;rotate_left 1;(focus((try simp only [gT,gs,gz]);try rfl))
       rotate_left 1
       ·exact AllReadyH.nil
       refine step_append _ rfl (.tmp 37) (.tmp 39) _ rfl Tryz.elemItem wd.heap.size _ (0) _ rfl own4 _ _ [I64 x0,I64 x1] 1 rfl rfl (Rd.of_blk (F:=fun b=>b=wd.heap.size+1) (us:=[I64 x0,I64 x1]) (n:=1) k4 rfl rfl (by decide)) (itCells_one [(x0,x1)]) (by unfold maxLen;omega) (by omega) (B4).size ?_
       intro A6 c6 w6 own6 hg6 hb6
       have B6:=(B4).grown hg6 (B4).size (fun q hq=>(World.ownsRow.lt own4 q hq).1)
       refine hK.out _ _ ?_ (fun hHeld=> ?_)
       ·exact Xkx.out _ B6
       clear hK K
       try simp only [Act.put,sT,s0,s1]
       refine wpAnyH_ready (rs:=[11]) (by kernel_rfl) (by simp) ?_
       refine AllReadyH.cons (o:= ?_) ?_ (fun K hK=> ?_) ?_;rotate_left 1;(focus((try simp only [gT,gs,gz]);try rfl))
       rotate_left 1
       ·exact AllReadyH.nil
       refine step_append _ rfl (.tmp 40) (.tmp 43) _ rfl Tryz.elemItem wd.heap.size _ (0+1) _ rfl own6 F _ _ (0) rfl Xlk2.out (Xr2.out _ B6) (itCells_one _) (by unfold maxLen;omega) (by omega) B6.size ?_
       intro A8 c8 w8 own8 hg8 hb8
       have B8:=B6.grown hg8 B6.size (fun q hq=>(World.ownsRow.lt own6 q hq).1)
       refine hK.out _ _ ?_ (fun hHeld=> ?_)
       ·exact Xkx.out _ B8
       clear hK K
       try simp only [Act.put,sT,s0,s1]
       refine tk (i:=12) (oi:= ?_) (v:= ?_) ?_ (by kernel_rfl) ?_ (Or.inl ⟨?_,?_⟩) (by assumption) ?_;rotate_left 2;(focus((try simp only [gT,gs,gz]);try rfl));exact fun _ _ _ h=>h;rfl;(focus(intro wS hwS;(try dsimp only at hwS);go_simp;all_goals with_reducible rfl));try simp only [Act.put,sT,s0,s1]
       refine wpAnyH_done (by kernel_rfl) ?_ _
       go_wp2_with fail
       go_ret
       refine⟨A8,_,c8,rfl,?_,Xb0.out.trans (B8.mono Xb0.out.size)⟩
       have hcells:([]++itCells (l.take 0))++[I64 x0,I64 x1]++itCells (l.drop 0)=itCells (putI (x0,x1) l):=by rw [Xhres.out,itCells_append];simp [itCells]
       rw [hcells]at own8
       refine(Rd.of_own own8).mono fun q hq=> .inr ⟨Nat.le_trans Xb0.out.size (World.ownsRow.lt own8 q hq).1,(World.ownsRow.lt own8 q hq).2⟩
      ·exact AllReadyH.nil
    ·refine AllReadyH.cons (o:= ?_) ?_ (fun K hK=> ?_) ?_;rotate_left 1;(focus((try simp only [gT,gs,gz]);try rfl))
     ·go_simp
      have B1:Below wd.heap.size wd (wd.alloc (.cells #[.int .i64 x0,.int .i64 x1] 86)):=(Below.refl _ wd).alloc (Nat.le_refl _) _
      have k1:Blk (wd.alloc (.cells #[.int .i64 x0,.int .i64 x1] 86)) wd.heap.size 86 #[.int .i64 x0,.int .i64 x1]:=Blk.new _ _ _
      refine hK.out _ _ ?_ (fun hHeld=> ?_)
      ·exact Xkx.out _ B1
      clear hK K
      try simp only [Act.put,sT,s0,s1]
      refine wpAnyH_ready (rs:=[0]) (by kernel_rfl) (by simp) ?_
      refine AllReadyH.cons (o:= ?_) ?_ (fun K hK=> ?_) ?_;rotate_left 1;(focus((try simp only [gT,gs,gz]);try rfl))
      rotate_left 1
      ·exact AllReadyH.nil
      go_simp
      have B2:Below wd.heap.size wd ((wd.alloc (.cells #[.int .i64 x0,.int .i64 x1] 86)).alloc (.cells #[] 86)):=B1.alloc B1.size _
      have o2:World.ownsRow ((wd.alloc (.cells #[.int .i64 x0,.int .i64 x1] 86)).alloc (.cells #[] 86)) wd.heap.size 86 2 (.slice (some ⟨wd.heap.size+1,0,none⟩) 0 0) 0 []:=by
       have:=own_empty (wd.alloc (.cells #[.int .i64 x0,.int .i64 x1] 86)) 86 2
       rw [World.size_alloc]at this
       exact ownsRow_base this (fun q hq=>by simp [Value.ownBlock]at hq;omega)
      have k2:=k1.alloc (.cells #[] 86)
      refine hK.out _ _ ?_ (fun hHeld=> ?_)
      ·exact Xkx.out _ B2
      clear hK K
      try simp only [Act.put,sT,s0,s1]
      refine wpAnyH_ready (rs:=[4]) (by kernel_rfl) (by simp) ?_
      refine AllReadyH.cons (o:= ?_) ?_ (fun K hK=> ?_) ?_;rotate_left 1;(focus((try simp only [gT,gs,gz]);try rfl))
      rotate_left 1
      ·exact AllReadyH.nil
      refine step_append _ rfl (.tmp 33) (.tmp 36) _ rfl Tryz.elemItem wd.heap.size _ 0 [] rfl o2 F _ _ (0) rfl Xlk.out (Xr1.out _ B2) (itCells_one _) (by unfold maxLen;omega) (by omega) (B2).size ?_
      intro A4 c4 w4 own4 hg4 hb4
      rw [Nat.zero_add]at own4⊢
      have hg4:World.grownBy _ w4 (some (wd.heap.size+1)):=hg4
      have B4:=(B2).grown hg4 (B2).size (fun q hq=>(World.ownsRow.lt o2 q hq).1)
      have k4:=k2.grown hg4 (by simp)
      refine hK.out _ _ ?_ (fun hHeld=> ?_)
      ·exact Xkx.out _ B4
      clear hK K
      try simp only [Act.put,sT,s0,s1]
      refine wpAnyH_ready (rs:=[7]) (by kernel_rfl) (by simp) ?_
      refine AllReadyH.cons (o:= ?_) ?_ (fun K hK=> ?_) ?_;rotate_left 1;(focus((try simp only [gT,gs,gz]);try rfl))
      rotate_left 1
      ·exact AllReadyH.nil
      refine step_append _ rfl (.tmp 37) (.tmp 39) _ rfl Tryz.elemItem wd.heap.size _ (0) _ rfl own4 _ _ [I64 x0,I64 x1] 1 rfl rfl (Rd.of_blk (F:=fun b=>b=wd.heap.size) (us:=[I64 x0,I64 x1]) (n:=1) k4 rfl rfl (by decide)) (itCells_one [(x0,x1)]) (by unfold maxLen;omega) (by omega) (B4).size ?_
      intro A6 c6 w6 own6 hg6 hb6
      have B6:=(B4).grown hg6 (B4).size (fun q hq=>(World.ownsRow.lt own4 q hq).1)
      refine hK.out _ _ ?_ (fun hHeld=> ?_)
      ·exact Xkx.out _ B6
      clear hK K
      try simp only [Act.put,sT,s0,s1]
      refine wpAnyH_ready (rs:=[11]) (by kernel_rfl) (by simp) ?_
      refine AllReadyH.cons (o:= ?_) ?_ (fun K hK=> ?_) ?_;rotate_left 1;(focus((try simp only [gT,gs,gz]);try rfl))
      rotate_left 1
      ·exact AllReadyH.nil
      refine step_append _ rfl (.tmp 40) (.tmp 43) _ rfl Tryz.elemItem wd.heap.size _ (0+1) _ rfl own6 F _ _ (0) rfl Xlk2.out (Xr2.out _ B6) (itCells_one _) (by unfold maxLen;omega) (by omega) B6.size ?_
      intro A8 c8 w8 own8 hg8 hb8
      have B8:=B6.grown hg8 B6.size (fun q hq=>(World.ownsRow.lt own6 q hq).1)
      refine hK.out _ _ ?_ (fun hHeld=> ?_)
      ·exact Xkx.out _ B8
      clear hK K
      try simp only [Act.put,sT,s0,s1]
      refine tk (i:=12) (oi:= ?_) (v:= ?_) ?_ (by kernel_rfl) ?_ (Or.inl ⟨?_,?_⟩) (by assumption) ?_;rotate_left 2;(focus((try simp only [gT,gs,gz]);try rfl));exact fun _ _ _ h=>h;rfl;(focus(intro wS hwS;(try dsimp only at hwS);go_simp;all_goals with_reducible rfl));try simp only [Act.put,sT,s0,s1]
      refine wpAnyH_done (by kernel_rfl) ?_ _
      go_wp2_with fail
      go_ret
      refine⟨A8,_,c8,rfl,?_,Xb0.out.trans (B8.mono Xb0.out.size)⟩
      have hcells:([]++itCells (l.take 0))++[I64 x0,I64 x1]++itCells (l.drop 0)=itCells (putI (x0,x1) l):=by rw [Xhres.out,itCells_append];simp [itCells]
      rw [hcells]at own8
      refine(Rd.of_own own8).mono fun q hq=> .inr ⟨Nat.le_trans Xb0.out.size (World.ownsRow.lt own8 q hq).1,(World.ownsRow.lt own8 q hq).2⟩
     ·exact AllReadyH.nil
   ·obtain⟨b,off,rfl,-,-⟩:=hcell (by omega)
    have r2: ∀W,Below wr.drew.drew.drew.heap.size wr.drew.drew.drew W→RdIt W F (.slice (if c=k then some ⟨b,off,none⟩else some ⟨b,off+k * 2,none⟩) 0 (c - k)) (l.drop k):=fun W hW=>by
     have:=RdIt.rest (hrd.below (hW.mono (Nat.le_of_lt hwq)) XhF.out) (Nat.le_refl k)
     rwa [Nat.sub_self]at this
    obtain⟨A',hA'⟩: ∃A':Option Addr,(if c=k then(some ⟨b,off,none⟩:Option Addr)else some ⟨b,off+k * 2,none⟩)=A':=⟨_,rfl⟩
    rw [hA']at r2
    clear hcell hrd kd bw bd b0 hb hpa bq2 hwq hwx Xh Xb1 Xk1 Xhnil
    have Xr1:=hide r1;have Xr2:=hide r2;have Xlk:=hide lk;have Xlk2:=hide lk2;clear r1 r2 lk lk2
    go_wp2_with fail
    refine wp_region_held_drew (S:=(fun W=>W.cell? ⟨w.heap.size,0,none⟩=some (.int .i64 x0)∧W.cell? ⟨w.heap.size,1,none⟩=some (.int .i64 x1))) (by kernel_rfl) ?_ (fun hHeld=> ?_)
    ·exact⟨d0,d1⟩
    refine tk (i:=0) (oi:= ?_) (v:= ?_) ?_ (by kernel_rfl) ?_ (Or.inl ⟨?_,?_⟩) (by assumption) ?_;rotate_left 2;(focus((try simp only [gT,gs,gz]);try rfl));exact fun _ _ _ h=>h;rfl;(focus(intro wS hwS;(try dsimp only at hwS);go_simp;all_goals with_reducible rfl));try simp only [Act.put,sT,s0,s1]
    refine tk (i:=1) (oi:= ?_) (v:= ?_) ?_ (by kernel_rfl) ?_ (Or.inl ⟨?_,?_⟩) (by assumption) ?_;rotate_left 2;(focus((try simp only [gT,gs,gz]);try rfl));exact fun _ _ _ h=>h;rfl;(focus(intro wS hwS;(try dsimp only at hwS);go_simp;all_goals with_reducible rfl));try simp only [Act.put,sT,s0,s1]
    refine tk (i:=2) (oi:= ?_) (v:= ?_) ?_ (by kernel_rfl) ?_ (Or.inl ⟨?_,?_⟩) (by assumption) ?_;rotate_left 2;(focus((try simp only [gT,gs,gz]);try rfl));exact fun _ _ _ h=>h;rfl;(focus(intro wS hwS;(try dsimp only at hwS);go_simp;all_goals with_reducible rfl));try simp only [Act.put,sT,s0,s1]
    refine tk (i:=3) (oi:= ?_) (v:= ?_) ?_ (by kernel_rfl) ?_ (Or.inl ⟨?_,?_⟩) (by assumption) ?_;rotate_left 2;(focus((try simp only [gT,gs,gz]);try rfl));exact fun _ _ _ h=>h;rfl;(focus(intro wS hwS;(try dsimp only at hwS);go_simp;all_goals with_reducible rfl));try simp only [Act.put,sT,s0,s1]
    refine tk (i:=4) (oi:= ?_) (v:= ?_) ?_ (by kernel_rfl) ?_ (Or.inl ⟨?_,?_⟩) (by assumption) ?_;rotate_left 2;(focus((try simp only [gT,gs,gz]);try rfl));exact fun _ _ _ h=>h;rfl;(focus(intro wS hwS;(try dsimp only at hwS);go_simp;all_goals with_reducible rfl));try simp only [Act.put,sT,s0,s1]
    refine tk (i:=5) (oi:= ?_) (v:=undef) ?_ (by kernel_rfl) ?_ (Or.inr ⟨?_,rfl⟩) (by assumption) ?_;rotate_left 1;(focus((try simp only [gT,gs,gz]);try rfl));exact fun _ _ _ h=>h;rfl;try simp only [Act.put,sT,s0,s1]
    refine tk (i:=6) (oi:= ?_) (v:=undef) ?_ (by kernel_rfl) ?_ (Or.inr ⟨?_,rfl⟩) (by assumption) ?_;rotate_left 1;(focus((try simp only [gT,gs,gz]);try rfl));exact fun _ _ _ h=>h;rfl;try simp only [Act.put,sT,s0,s1]
    refine tk (i:=7) (oi:= ?_) (v:=undef) ?_ (by kernel_rfl) ?_ (Or.inr ⟨?_,rfl⟩) (by assumption) ?_;rotate_left 1;(focus((try simp only [gT,gs,gz]);try rfl));exact fun _ _ _ h=>h;rfl;try simp only [Act.put,sT,s0,s1]
    refine tk (i:=8) (oi:= ?_) (v:=undef) ?_ (by kernel_rfl) ?_ (Or.inr ⟨?_,rfl⟩) (by assumption) ?_;rotate_left 1;(focus((try simp only [gT,gs,gz]);try rfl));exact fun _ _ _ h=>h;rfl;try simp only [Act.put,sT,s0,s1]
    refine tk (i:=9) (oi:= ?_) (v:=undef) ?_ (by kernel_rfl) ?_ (Or.inr ⟨?_,rfl⟩) (by assumption) ?_;rotate_left 1;(focus((try simp only [gT,gs,gz]);try rfl));exact fun _ _ _ h=>h;rfl;try simp only [Act.put,sT,s0,s1]
    refine tk (i:=10) (oi:= ?_) (v:=undef) ?_ (by kernel_rfl) ?_ (Or.inr ⟨?_,rfl⟩) (by assumption) ?_;rotate_left 1;(focus((try simp only [gT,gs,gz]);try rfl));exact fun _ _ _ h=>h;rfl;try simp only [Act.put,sT,s0,s1]
    refine tk (i:=11) (oi:= ?_) (v:= ?_) ?_ (by kernel_rfl) ?_ (Or.inl ⟨?_,?_⟩) (by assumption) ?_;rotate_left 2;(focus((try simp only [gT,gs,gz]);try rfl));exact fun _ _ _ h=>h;rfl;(focus(intro wS hwS;(try dsimp only at hwS);go_simp;all_goals with_reducible rfl));try simp only [Act.put,sT,s0,s1]
    refine wpAnyH_done (by kernel_rfl) ?_ _
    go_wp2_with fail
    refine wp_region_held_drew (S:=(fun W=>W.cell? ⟨w.heap.size,0,none⟩=some (.int .i64 x0)∧W.cell? ⟨w.heap.size,1,none⟩=some (.int .i64 x1))) (by kernel_rfl) ?_ (fun hHeld=> ?_)
    ·exact⟨d0,d1⟩
    refine tk (i:=0) (oi:= ?_) (v:= ?_) ?_ (by kernel_rfl) ?_ (Or.inl ⟨?_,?_⟩) (by assumption) ?_;rotate_left 2;(focus((try simp only [gT,gs,gz]);try rfl));exact fun _ _ _ h=>h;rfl;(focus(intro wS hwS;(try dsimp only at hwS);go_simp;all_goals with_reducible rfl));try simp only [Act.put,sT,s0,s1]
    refine tk (i:=1) (oi:= ?_) (v:= ?_) ?_ (by kernel_rfl) ?_ (Or.inl ⟨?_,?_⟩) (by assumption) ?_;rotate_left 2;(focus((try simp only [gT,gs,gz]);try rfl));exact fun _ _ _ h=>h;rfl;(focus(intro wS hwS;(try dsimp only at hwS);go_simp;all_goals with_reducible rfl));try simp only [Act.put,sT,s0,s1]
    refine tk (i:=2) (oi:= ?_) (v:= ?_) ?_ (by kernel_rfl) ?_ (Or.inl ⟨?_,?_⟩) (by assumption) ?_;rotate_left 2;(focus((try simp only [gT,gs,gz]);try rfl));exact fun _ _ _ h=>h;rfl;(focus(intro wS hwS;(try dsimp only at hwS);go_simp;all_goals with_reducible rfl));try simp only [Act.put,sT,s0,s1]
    refine tk (i:=3) (oi:= ?_) (v:= ?_) ?_ (by kernel_rfl) ?_ (Or.inl ⟨?_,?_⟩) (by assumption) ?_;rotate_left 2;(focus((try simp only [gT,gs,gz]);try rfl));exact fun _ _ _ h=>h;rfl;(focus(intro wS hwS;(try dsimp only at hwS);go_simp;all_goals with_reducible rfl));try simp only [Act.put,sT,s0,s1]
    refine tk (i:=4) (oi:= ?_) (v:= ?_) ?_ (by kernel_rfl) ?_ (Or.inl ⟨?_,?_⟩) (by assumption) ?_;rotate_left 2;(focus((try simp only [gT,gs,gz]);try rfl));exact fun _ _ _ h=>h;rfl;(focus(intro wS hwS;(try dsimp only at hwS);go_simp;all_goals with_reducible rfl));try simp only [Act.put,sT,s0,s1]
    refine tk (i:=5) (oi:= ?_) (v:=undef) ?_ (by kernel_rfl) ?_ (Or.inr ⟨?_,rfl⟩) (by assumption) ?_;rotate_left 1;(focus((try simp only [gT,gs,gz]);try rfl));exact fun _ _ _ h=>h;rfl;try simp only [Act.put,sT,s0,s1]
    refine tk (i:=6) (oi:= ?_) (v:=undef) ?_ (by kernel_rfl) ?_ (Or.inr ⟨?_,rfl⟩) (by assumption) ?_;rotate_left 1;(focus((try simp only [gT,gs,gz]);try rfl));exact fun _ _ _ h=>h;rfl;try simp only [Act.put,sT,s0,s1]
    refine tk (i:=7) (oi:= ?_) (v:=undef) ?_ (by kernel_rfl) ?_ (Or.inr ⟨?_,rfl⟩) (by assumption) ?_;rotate_left 1;(focus((try simp only [gT,gs,gz]);try rfl));exact fun _ _ _ h=>h;rfl;try simp only [Act.put,sT,s0,s1]
    refine tk (i:=8) (oi:= ?_) (v:=undef) ?_ (by kernel_rfl) ?_ (Or.inr ⟨?_,rfl⟩) (by assumption) ?_;rotate_left 1;(focus((try simp only [gT,gs,gz]);try rfl));exact fun _ _ _ h=>h;rfl;try simp only [Act.put,sT,s0,s1]
    refine tk (i:=9) (oi:= ?_) (v:=undef) ?_ (by kernel_rfl) ?_ (Or.inr ⟨?_,rfl⟩) (by assumption) ?_;rotate_left 1;(focus((try simp only [gT,gs,gz]);try rfl));exact fun _ _ _ h=>h;rfl;try simp only [Act.put,sT,s0,s1]
    refine tk (i:=10) (oi:= ?_) (v:=undef) ?_ (by kernel_rfl) ?_ (Or.inr ⟨?_,rfl⟩) (by assumption) ?_;rotate_left 1;(focus((try simp only [gT,gs,gz]);try rfl));exact fun _ _ _ h=>h;rfl;try simp only [Act.put,sT,s0,s1]
    refine tk (i:=11) (oi:= ?_) (v:= ?_) ?_ (by kernel_rfl) ?_ (Or.inl ⟨?_,?_⟩) (by assumption) ?_;rotate_left 2;(focus((try simp only [gT,gs,gz]);try rfl));exact fun _ _ _ h=>h;rfl;(focus(intro wS hwS;(try dsimp only at hwS);go_simp;all_goals with_reducible rfl));try simp only [Act.put,sT,s0,s1]
    refine wpAnyH_done (by kernel_rfl) ?_ _
    go_upto_region 6 with fail
    refine wp_region_held_drew (S:=(fun W=>W.cell? ⟨w.heap.size,0,none⟩=some (.int .i64 x0)∧W.cell? ⟨w.heap.size,1,none⟩=some (.int .i64 x1))) (by kernel_rfl) ?_ (fun hHeld=> ?_)
    ·exact⟨d0,d1⟩
    generalize wr.drew.drew.drew=wd at *
    have kx: ∀W,Below wd.heap.size wd W→W.cell? ⟨w.heap.size,0,none⟩=some (.int .i64 x0)∧W.cell? ⟨w.heap.size,1,none⟩=some (.int .i64 x1):=fun W h=>⟨(h.cell (p:=⟨w.heap.size,0,none⟩) Xhwx.out).trans d0,(h.cell (p:=⟨w.heap.size,1,none⟩) Xhwx.out).trans d1⟩
    have Xkx:=hide kx;clear kx;clear d0 d1
    refine tk (i:=1) (oi:= ?_) (v:= ?_) ?_ (by kernel_rfl) ?_ (Or.inl ⟨?_,?_⟩) (by assumption) ?_;rotate_left 2;(focus((try simp only [gT,gs,gz]);try rfl));exact fun _ _ _ h=>h;rfl;(focus(intro wS hwS;(try dsimp only at hwS);go_simp;all_goals with_reducible rfl));try simp only [Act.put,sT,s0,s1]
    refine tk (i:=2) (oi:= ?_) (v:= ?_) ?_ (by kernel_rfl) ?_ (Or.inl ⟨?_,?_⟩) (by assumption) ?_;rotate_left 2;(focus((try simp only [gT,gs,gz]);try rfl));exact fun _ _ _ h=>h;rfl;(focus(intro wS hwS;(try dsimp only at hwS);go_simp;all_goals with_reducible rfl));try simp only [Act.put,sT,s0,s1]
    refine tk (i:=3) (oi:= ?_) (v:= ?_) ?_ (by kernel_rfl) ?_ (Or.inl ⟨?_,?_⟩) (by assumption) ?_;rotate_left 2;(focus((try simp only [gT,gs,gz]);try rfl));exact fun _ _ _ h=>h;rfl;(focus(intro wS hwS;(try dsimp only at hwS);go_simp;all_goals with_reducible rfl));try simp only [Act.put,sT,s0,s1]
    refine tk (i:=5) (oi:= ?_) (v:= ?_) ?_ (by kernel_rfl) ?_ (Or.inl ⟨?_,?_⟩) (by assumption) ?_;rotate_left 2;(focus((try simp only [gT,gs,gz]);try rfl));exact fun _ _ _ h=>h;rfl;(focus(intro wS hwS;(try dsimp only at hwS);go_simp;all_goals with_reducible rfl));try simp only [Act.put,sT,s0,s1]
    refine tk (i:=8) (oi:= ?_) (v:= ?_) ?_ (by kernel_rfl) ?_ (Or.inl ⟨?_,?_⟩) (by assumption) ?_;rotate_left 2;(focus((try simp only [gT,gs,gz]);try rfl));exact fun _ _ _ h=>h;rfl;(focus(intro wS hwS;(try dsimp only at hwS);go_simp;all_goals with_reducible rfl));try simp only [Act.put,sT,s0,s1]
    refine tk (i:=9) (oi:= ?_) (v:= ?_) ?_ (by kernel_rfl) ?_ (Or.inl ⟨?_,?_⟩) (by assumption) ?_;rotate_left 2;(focus((try simp only [gT,gs,gz]);try rfl));exact fun _ _ _ h=>h;rfl;(focus(intro wS hwS;(try dsimp only at hwS);go_simp;all_goals with_reducible rfl));try simp only [Act.put,sT,s0,s1]
    refine tk (i:=10) (oi:= ?_) (v:= ?_) ?_ (by kernel_rfl) ?_ (Or.inl ⟨?_,?_⟩) (by assumption) ?_;rotate_left 2;(focus((try simp only [gT,gs,gz]);try rfl));exact fun _ _ _ h=>h;rfl;(focus(intro wS hwS;(try dsimp only at hwS);go_simp;all_goals with_reducible rfl));try simp only [Act.put,sT,s0,s1]
    refine wpAnyH_ready (rs:=[0,6]) (by kernel_rfl) (by simp) ?_
    refine AllReadyH.cons (o:= ?_) ?_ (fun K hK=> ?_) ?_;rotate_left 1;(focus((try simp only [gT,gs,gz]);try rfl))
    ·go_simp
     have B1:Below wd.heap.size wd (wd.alloc (.cells #[] 86)):=(Below.refl _ wd).alloc (Nat.le_refl _) _
     have o1:=own_empty wd 86 2
     refine hK.out _ _ ?_ (fun hHeld=> ?_)
     ·exact Xkx.out _ B1
     clear hK K
     try simp only [Act.put,sT,s0,s1]
     refine wpAnyH_ready (rs:=[4,6]) (by kernel_rfl) (by simp) ?_
     refine AllReadyH.cons (o:= ?_) ?_ (fun K hK=> ?_) ?_;rotate_left 1;(focus((try simp only [gT,gs,gz]);try rfl))
     ·skip
      refine step_append _ rfl (.tmp 33) (.tmp 36) _ rfl Tryz.elemItem wd.heap.size _ 0 [] rfl o1 F _ _ (k) rfl Xlk.out (Xr1.out _ B1) (itCells_one _) (by unfold maxLen;omega) (by omega) (B1).size ?_
      intro A4 c4 w4 own4 hg4 hb4
      rw [Nat.zero_add]at own4⊢
      have hg4:World.grownBy _ w4 (some (wd.heap.size)):=hg4
      have B4:=(B1).grown hg4 (B1).size (fun q hq=>(World.ownsRow.lt o1 q hq).1)
      refine hK.out _ _ ?_ (fun hHeld=> ?_)
      ·exact Xkx.out _ B4
      clear hK K
      try simp only [Act.put,sT,s0,s1]
      refine wpAnyH_ready (rs:=[6]) (by kernel_rfl) (by simp) ?_
      refine AllReadyH.cons (o:= ?_) ?_ (fun K hK=> ?_) ?_;rotate_left 1;(focus((try simp only [gT,gs,gz]);try rfl))
      ·go_simp
       have B5:Below wd.heap.size wd (w4.alloc (.cells #[.int .i64 x0,.int .i64 x1] 86)):=B4.alloc B4.size _
       have o5:=own_alloc own4 (.cells #[.int .i64 x0,.int .i64 x1] 86)
       refine hK.out _ _ ?_ (fun hHeld=> ?_)
       ·exact Xkx.out _ B5
       clear hK K
       try simp only [Act.put,sT,s0,s1]
       refine wpAnyH_ready (rs:=[7]) (by kernel_rfl) (by simp) ?_
       refine AllReadyH.cons (o:= ?_) ?_ (fun K hK=> ?_) ?_;rotate_left 1;(focus((try simp only [gT,gs,gz]);try rfl))
       rotate_left 1
       ·exact AllReadyH.nil
       refine step_append _ rfl (.tmp 37) (.tmp 39) _ rfl Tryz.elemItem wd.heap.size _ (k) _ rfl o5 _ _ [I64 x0,I64 x1] 1 rfl rfl (RdIt.one (x0,x1)) (itCells_one [(x0,x1)]) (by unfold maxLen;omega) (by omega) (B5).size ?_
       intro A6 c6 w6 own6 hg6 hb6
       have B6:=(B5).grown hg6 (B5).size (fun q hq=>(World.ownsRow.lt o5 q hq).1)
       refine hK.out _ _ ?_ (fun hHeld=> ?_)
       ·exact Xkx.out _ B6
       clear hK K
       try simp only [Act.put,sT,s0,s1]
       refine wpAnyH_ready (rs:=[11]) (by kernel_rfl) (by simp) ?_
       refine AllReadyH.cons (o:= ?_) ?_ (fun K hK=> ?_) ?_;rotate_left 1;(focus((try simp only [gT,gs,gz]);try rfl))
       rotate_left 1
       ·exact AllReadyH.nil
       refine step_append _ rfl (.tmp 40) (.tmp 43) _ rfl Tryz.elemItem wd.heap.size _ (k+1) _ rfl own6 F _ _ (0) rfl Xlk2.out (Xr2.out _ B6) (itCells_one _) (by unfold maxLen;omega) (by omega) B6.size ?_
       intro A8 c8 w8 own8 hg8 hb8
       have B8:=B6.grown hg8 B6.size (fun q hq=>(World.ownsRow.lt own6 q hq).1)
       refine hK.out _ _ ?_ (fun hHeld=> ?_)
       ·exact Xkx.out _ B8
       clear hK K
       try simp only [Act.put,sT,s0,s1]
       refine tk (i:=12) (oi:= ?_) (v:= ?_) ?_ (by kernel_rfl) ?_ (Or.inl ⟨?_,?_⟩) (by assumption) ?_;rotate_left 2;(focus((try simp only [gT,gs,gz]);try rfl));exact fun _ _ _ h=>h;rfl;(focus(intro wS hwS;(try dsimp only at hwS);go_simp;all_goals with_reducible rfl));try simp only [Act.put,sT,s0,s1]
       refine wpAnyH_done (by kernel_rfl) ?_ _
       go_wp2_with fail
       go_ret
       refine⟨A8,_,c8,rfl,?_,Xb0.out.trans (B8.mono Xb0.out.size)⟩
       have hcells:([]++itCells (l.take k))++[I64 x0,I64 x1]++itCells (l.drop k)=itCells (putI (x0,x1) l):=by rw [Xhres.out,itCells_append];simp [itCells]
       rw [hcells]at own8
       refine(Rd.of_own own8).mono fun q hq=> .inr ⟨Nat.le_trans Xb0.out.size (World.ownsRow.lt own8 q hq).1,(World.ownsRow.lt own8 q hq).2⟩
      ·exact AllReadyH.nil
     ·refine AllReadyH.cons (o:= ?_) ?_ (fun K hK=> ?_) ?_;rotate_left 1;(focus((try simp only [gT,gs,gz]);try rfl))
      ·go_simp
       have B2:Below wd.heap.size wd ((wd.alloc (.cells #[] 86)).alloc (.cells #[.int .i64 x0,.int .i64 x1] 86)):=B1.alloc B1.size _
       have o2:=own_alloc o1 (.cells #[.int .i64 x0,.int .i64 x1] 86)
       have k2:Blk ((wd.alloc (.cells #[] 86)).alloc (.cells #[.int .i64 x0,.int .i64 x1] 86)) (wd.heap.size+1) 86 #[.int .i64 x0,.int .i64 x1]:=by have:=Blk.new (wd.alloc (.cells #[] 86)) 86 #[.int .i64 x0,.int .i64 x1];simpa using this
       refine hK.out _ _ ?_ (fun hHeld=> ?_)
       ·exact Xkx.out _ B2
       clear hK K
       try simp only [Act.put,sT,s0,s1]
       refine wpAnyH_ready (rs:=[4]) (by kernel_rfl) (by simp) ?_
       refine AllReadyH.cons (o:= ?_) ?_ (fun K hK=> ?_) ?_;rotate_left 1;(focus((try simp only [gT,gs,gz]);try rfl))
       rotate_left 1
       ·exact AllReadyH.nil
       refine step_append _ rfl (.tmp 33) (.tmp 36) _ rfl Tryz.elemItem wd.heap.size _ 0 [] rfl o2 F _ _ (k) rfl Xlk.out (Xr1.out _ B2) (itCells_one _) (by unfold maxLen;omega) (by omega) (B2).size ?_
       intro A4 c4 w4 own4 hg4 hb4
       rw [Nat.zero_add]at own4⊢
       have hg4:World.grownBy _ w4 (some (wd.heap.size)):=hg4
       have B4:=(B2).grown hg4 (B2).size (fun q hq=>(World.ownsRow.lt o2 q hq).1)
       have k4:=k2.grown hg4 (by simp)
       refine hK.out _ _ ?_ (fun hHeld=> ?_)
       ·exact Xkx.out _ B4
       clear hK K
       try simp only [Act.put,sT,s0,s1]
       refine wpAnyH_ready (rs:=[7]) (by kernel_rfl) (by simp) ?_
       refine AllReadyH.cons (o:= ?_) ?_ (fun K hK=> ?_) ?_;rotate_left 1;(focus((try simp only [gT,gs,gz]);try rfl))
       rotate_left 1
       ·exact AllReadyH.nil
       refine step_append _ rfl (.tmp 37) (.tmp 39) _ rfl Tryz.elemItem wd.heap.size _ (k) _ rfl own4 _ _ [I64 x0,I64 x1] 1 rfl rfl (Rd.of_blk (F:=fun b=>b=wd.heap.size+1) (us:=[I64 x0,I64 x1]) (n:=1) k4 rfl rfl (by decide)) (itCells_one [(x0,x1)]) (by unfold maxLen;omega) (by omega) (B4).size ?_
       intro A6 c6 w6 own6 hg6 hb6
       have B6:=(B4).grown hg6 (B4).size (fun q hq=>(World.ownsRow.lt own4 q hq).1)
       refine hK.out _ _ ?_ (fun hHeld=> ?_)
       ·exact Xkx.out _ B6
       clear hK K
       try simp only [Act.put,sT,s0,s1]
       refine wpAnyH_ready (rs:=[11]) (by kernel_rfl) (by simp) ?_
       refine AllReadyH.cons (o:= ?_) ?_ (fun K hK=> ?_) ?_;rotate_left 1;(focus((try simp only [gT,gs,gz]);try rfl))
       rotate_left 1
       ·exact AllReadyH.nil
       refine step_append _ rfl (.tmp 40) (.tmp 43) _ rfl Tryz.elemItem wd.heap.size _ (k+1) _ rfl own6 F _ _ (0) rfl Xlk2.out (Xr2.out _ B6) (itCells_one _) (by unfold maxLen;omega) (by omega) B6.size ?_
       intro A8 c8 w8 own8 hg8 hb8
       have B8:=B6.grown hg8 B6.size (fun q hq=>(World.ownsRow.lt own6 q hq).1)
       refine hK.out _ _ ?_ (fun hHeld=> ?_)
       ·exact Xkx.out _ B8
       clear hK K
       try simp only [Act.put,sT,s0,s1]
       refine tk (i:=12) (oi:= ?_) (v:= ?_) ?_ (by kernel_rfl) ?_ (Or.inl ⟨?_,?_⟩) (by assumption) ?_;rotate_left 2;(focus((try simp only [gT,gs,gz]);try rfl));exact fun _ _ _ h=>h;rfl;(focus(intro wS hwS;(try dsimp only at hwS);go_simp;all_goals with_reducible rfl));try simp only [Act.put,sT,s0,s1]
       refine wpAnyH_done (by kernel_rfl) ?_ _
       go_wp2_with fail
       go_ret
       refine⟨A8,_,c8,rfl,?_,Xb0.out.trans (B8.mono Xb0.out.size)⟩
       have hcells:([]++itCells (l.take k))++[I64 x0,I64 x1]++itCells (l.drop k)=itCells (putI (x0,x1) l):=by rw [Xhres.out,itCells_append];simp [itCells]
       rw [hcells]at own8
       refine(Rd.of_own own8).mono fun q hq=> .inr ⟨Nat.le_trans Xb0.out.size (World.ownsRow.lt own8 q hq).1,(World.ownsRow.lt own8 q hq).2⟩
      ·exact AllReadyH.nil
    ·refine AllReadyH.cons (o:= ?_) ?_ (fun K hK=> ?_) ?_;rotate_left 1;(focus((try simp only [gT,gs,gz]);try rfl))
     ·go_simp
      have B1:Below wd.heap.size wd (wd.alloc (.cells #[.int .i64 x0,.int .i64 x1] 86)):=(Below.refl _ wd).alloc (Nat.le_refl _) _
      have k1:Blk (wd.alloc (.cells #[.int .i64 x0,.int .i64 x1] 86)) wd.heap.size 86 #[.int .i64 x0,.int .i64 x1]:=Blk.new _ _ _
      refine hK.out _ _ ?_ (fun hHeld=> ?_)
      ·exact Xkx.out _ B1
      clear hK K
      try simp only [Act.put,sT,s0,s1]
      refine wpAnyH_ready (rs:=[0]) (by kernel_rfl) (by simp) ?_
      refine AllReadyH.cons (o:= ?_) ?_ (fun K hK=> ?_) ?_;rotate_left 1;(focus((try simp only [gT,gs,gz]);try rfl))
      rotate_left 1
      ·exact AllReadyH.nil
      go_simp
      have B2:Below wd.heap.size wd ((wd.alloc (.cells #[.int .i64 x0,.int .i64 x1] 86)).alloc (.cells #[] 86)):=B1.alloc B1.size _
      have o2:World.ownsRow ((wd.alloc (.cells #[.int .i64 x0,.int .i64 x1] 86)).alloc (.cells #[] 86)) wd.heap.size 86 2 (.slice (some ⟨wd.heap.size+1,0,none⟩) 0 0) 0 []:=by
       have:=own_empty (wd.alloc (.cells #[.int .i64 x0,.int .i64 x1] 86)) 86 2
       rw [World.size_alloc]at this
       exact ownsRow_base this (fun q hq=>by simp [Value.ownBlock]at hq;omega)
      have k2:=k1.alloc (.cells #[] 86)
      refine hK.out _ _ ?_ (fun hHeld=> ?_)
      ·exact Xkx.out _ B2
      clear hK K
      try simp only [Act.put,sT,s0,s1]
      refine wpAnyH_ready (rs:=[4]) (by kernel_rfl) (by simp) ?_
      refine AllReadyH.cons (o:= ?_) ?_ (fun K hK=> ?_) ?_;rotate_left 1;(focus((try simp only [gT,gs,gz]);try rfl))
      rotate_left 1
      ·exact AllReadyH.nil
      refine step_append _ rfl (.tmp 33) (.tmp 36) _ rfl Tryz.elemItem wd.heap.size _ 0 [] rfl o2 F _ _ (k) rfl Xlk.out (Xr1.out _ B2) (itCells_one _) (by unfold maxLen;omega) (by omega) (B2).size ?_
      intro A4 c4 w4 own4 hg4 hb4
      rw [Nat.zero_add]at own4⊢
      have hg4:World.grownBy _ w4 (some (wd.heap.size+1)):=hg4
      have B4:=(B2).grown hg4 (B2).size (fun q hq=>(World.ownsRow.lt o2 q hq).1)
      have k4:=k2.grown hg4 (by simp)
      refine hK.out _ _ ?_ (fun hHeld=> ?_)
      ·exact Xkx.out _ B4
      clear hK K
      try simp only [Act.put,sT,s0,s1]
      refine wpAnyH_ready (rs:=[7]) (by kernel_rfl) (by simp) ?_
      refine AllReadyH.cons (o:= ?_) ?_ (fun K hK=> ?_) ?_;rotate_left 1;(focus((try simp only [gT,gs,gz]);try rfl))
      rotate_left 1
      ·exact AllReadyH.nil
      refine step_append _ rfl (.tmp 37) (.tmp 39) _ rfl Tryz.elemItem wd.heap.size _ (k) _ rfl own4 _ _ [I64 x0,I64 x1] 1 rfl rfl (Rd.of_blk (F:=fun b=>b=wd.heap.size) (us:=[I64 x0,I64 x1]) (n:=1) k4 rfl rfl (by decide)) (itCells_one [(x0,x1)]) (by unfold maxLen;omega) (by omega) (B4).size ?_
      intro A6 c6 w6 own6 hg6 hb6
      have B6:=(B4).grown hg6 (B4).size (fun q hq=>(World.ownsRow.lt own4 q hq).1)
      refine hK.out _ _ ?_ (fun hHeld=> ?_)
      ·exact Xkx.out _ B6
      clear hK K
      try simp only [Act.put,sT,s0,s1]
      refine wpAnyH_ready (rs:=[11]) (by kernel_rfl) (by simp) ?_
      refine AllReadyH.cons (o:= ?_) ?_ (fun K hK=> ?_) ?_;rotate_left 1;(focus((try simp only [gT,gs,gz]);try rfl))
      rotate_left 1
      ·exact AllReadyH.nil
      refine step_append _ rfl (.tmp 40) (.tmp 43) _ rfl Tryz.elemItem wd.heap.size _ (k+1) _ rfl own6 F _ _ (0) rfl Xlk2.out (Xr2.out _ B6) (itCells_one _) (by unfold maxLen;omega) (by omega) B6.size ?_
      intro A8 c8 w8 own8 hg8 hb8
      have B8:=B6.grown hg8 B6.size (fun q hq=>(World.ownsRow.lt own6 q hq).1)
      refine hK.out _ _ ?_ (fun hHeld=> ?_)
      ·exact Xkx.out _ B8
      clear hK K
      try simp only [Act.put,sT,s0,s1]
      refine tk (i:=12) (oi:= ?_) (v:= ?_) ?_ (by kernel_rfl) ?_ (Or.inl ⟨?_,?_⟩) (by assumption) ?_;rotate_left 2;(focus((try simp only [gT,gs,gz]);try rfl));exact fun _ _ _ h=>h;rfl;(focus(intro wS hwS;(try dsimp only at hwS);go_simp;all_goals with_reducible rfl));try simp only [Act.put,sT,s0,s1]
      refine wpAnyH_done (by kernel_rfl) ?_ _
      go_wp2_with fail
      go_ret
      refine⟨A8,_,c8,rfl,?_,Xb0.out.trans (B8.mono Xb0.out.size)⟩
      have hcells:([]++itCells (l.take k))++[I64 x0,I64 x1]++itCells (l.drop k)=itCells (putI (x0,x1) l):=by rw [Xhres.out,itCells_append];simp [itCells]
      rw [hcells]at own8
      refine(Rd.of_own own8).mono fun q hq=> .inr ⟨Nat.le_trans Xb0.out.size (World.ownsRow.lt own8 q hq).1,(World.ownsRow.lt own8 q hq).2⟩
     ·exact AllReadyH.nil
end
section
set_option linter.unusedSimpArgs false
open Go.RowKit
attribute [local irreducible] wpStill wpOne wpPh
structure ItSt (w wr:World) (F:Nat→Prop) (A1:Option Addr) (c1:Nat) (A2:Option Addr) (c2:Nat) (A3:Option Addr) (c3 T N R:Nat) (st:Int) (G:GramD) (v:Value) (l:List It) (u:Value) (o:List It):Prop where
 g:GBox wr F w.heap.size A1 c1 A2 c2 A3 c3 T N R st G
 le:Below w.heap.size w wr
 rv:RdIt wr (fun b=>b<w.heap.size) v l
 ro:RdIt wr (fun b=>w.heap.size≤b∧b<wr.heap.size) u o
 rn:o=[]→u= .slice none 0 0
section
variable {w wr wr' : World} {F : Nat → Prop} {A1 : Option Addr} {c1 : Nat} {A2 : Option Addr} {c2 : Nat} {A3 : Option Addr} {c3 T N R : Nat} {st : Int} {G : GramD} {v : Value} {l : List It} {u : Value} {o : List It}
theorem ItSt.below (h:ItSt w wr F A1 c1 A2 c2 A3 c3 T N R st G v l u o) (hb:Below wr.heap.size wr wr'):ItSt w wr' F A1 c1 A2 c2 A3 c3 T N R st G v l u o:=
 ⟨h.g.below hb,h.le.trans (hb.mono h.le.size),h.rv.below hb (fun k hk=>Nat.lt_of_lt_of_le hk h.le.size),(h.ro.below hb (fun k hk=>hk.2)).mono (fun k hk=>⟨hk.1,Nat.lt_of_lt_of_le hk.2 hb.size⟩),h.rn⟩
theorem ItSt.put {x:It} {e:Ending} (h:ItSt w wr F A1 c1 A2 c2 A3 c3 T N R st G v l u o) (hp:PutPost wr (fun b=>w.heap.size≤b∧b<wr.heap.size) (putI x o) e wr'): ∃A n c,e= .returned (.slice A n c)∧ItSt w wr' F A1 c1 A2 c2 A3 c3 T N R st G v l (.slice A n c) (putI x o):=by
 obtain⟨A,n,c,rfl,hr,hb⟩:=hp
 have h2:=h.below hb
 exact⟨A,n,c,rfl,h2.g,h2.le,h2.rv,hr.mono (fun k hk=>hk.elim (fun hk=>⟨hk.1,Nat.lt_of_lt_of_le hk.2 hb.size⟩) (fun hk=>⟨Nat.le_trans h.le.size hk.1,hk.2⟩)),fun e=>absurd e put_ne⟩
theorem ItSt.post (h:ItSt w wr F A1 c1 A2 c2 A3 c3 T N R st G v l u o):ItPost w o (.returned u) wr:=by
 obtain⟨A,n,c,e,-⟩:=id h.ro
 have:=h.ro
 rw [e]at this⊢
 exact⟨A,n,c,rfl,this,h.le⟩
end
set_option maxRecDepth 100000 in
set_option maxHeartbeats 4000000 in
theorem ref12_Step {w:World} {F:Nat→Prop} {vt vn vr:Value} {G:GramD} (h:IsGram w F vt vn vr G) (st:Int) {v:Value} {l:List It} (hl:RdIt w (fun b=>b<w.heap.size) v l) (hsh:ShortG G st) (hlen:l.length≤1000000) (s:Int):
  Calls Tryz.prog 15 #[GV vt vn vr st,v,.int .i64 s] w (ItPost w (canonI (stepsI G st l s))):=by
 obtain⟨A1,c1,A2,c2,A3,c3,rfl,rfl,rfl,-⟩:=h.slices
 obtain⟨A,n,c,rfl,-⟩:=id hl
 obtain⟨hn,hnc,hcm,-⟩:=RdIt.at_ hl
 unfold maxLen at hcm
 obtain⟨w1,hw1⟩: ∃w1,w1=w.alloc (.cells #[.slice A1 G.terms.length c1,.slice A2 G.nons.length c2,.slice A3 G.rules.length c3,.int .i64 st] 25):=⟨_,rfl⟩
 have g1:=GBox.new h st
 have b1:Below w.heap.size w w1:=by rw [hw1];exact(Below.refl _ w).alloc (Nat.le_refl _) _
 rw [←hw1]at g1
 have t1:ItSt w w1 F A1 c1 A2 c2 A3 c3 G.terms.length G.nons.length G.rules.length st G (.slice A n c) l (.slice none 0 0) (canonI (stepsI G st (l.take 0) s)):=⟨g1,b1,hl.below b1 (fun k hk=>hk),Rd.nil _ _ _,fun _=>rfl⟩
 have cB:=fun wr (g:GBox wr F w.heap.size A1 c1 A2 c2 A3 c3 G.terms.length G.nons.length G.rules.length st G) x=>ref12_behind g.gram st x
 generalize G.terms.length=T at *
 generalize G.nons.length=N at *
 generalize G.rules.length=R at *
 have hn2:=hn
 rw [←hn]at hlen
 clear g1 b1 h hl hn
 have Xt1:=hide t1;have XcB:=hide cB;have Xhsh:=hide hsh;have Xhn2:=hide hn2;clear t1 cB hsh hn2
 go_enter Tryz.func15,Tryz.ntmps15
 go_wp2_with fail
 rw [←hw1]
 go_loopw [7,8] (fun u i wr=> ∃k:Nat,k≤n∧i= .int .i64 k∧ItSt w wr F A1 c1 A2 c2 A3 c3 T N R st G (.slice A n c) l u (canonI (stepsI G st (l.take k) s))) (fun _ i _=>n - (intOf i).toNat)
 case atStart=>exact⟨0,Nat.zero_le _,rfl,Xt1.out⟩
 case round=>
  clear Xt1
  obtain⟨k,hk,rfl,t⟩:=hrel
  obtain⟨Au,nu,cu,rfl,-⟩:=id t.ro
  by_cases hlt:k<n
  ·have hlt':(k:Int)<(n:Int):=by omega
   obtain⟨q0,q1,q2,q3⟩:=t.g.cells
   obtain⟨-,-,-,hcell⟩:=RdIt.at_ t.rv
   obtain⟨b,off,rfl,hbl,hcc⟩:=hcell (by omega)
   obtain⟨⟨x0,x1⟩,hx⟩: ∃x,l[k]? =some x:=⟨_,List.getElem?_eq_getElem (by rw [←Xhn2.out];exact hlt)⟩
   obtain⟨p0,p1⟩:=hcc k _ hx
   simp only at p0 p1
   have td:=t.below ((Below.refl _ wr).drew)
   have cb:=XcB.out _ td.g (x0,x1)
   obtain⟨⟨y,ok⟩,hy⟩: ∃r,r=behindI G st (x0,x1):=⟨_,rfl⟩
   rw [←hy]at cb
   clear hcell hcc
   have Xt:=hide t;have Xtd:=hide td;have Xcb:=hide cb;have Xhx:=hide hx;have Xhy:=hide hy;have Xhbl:=hide hbl;clear t td cb hx hy hbl
   go_wp2_with fail
   refine wp_region_held_drew (S:=(fun W=>W.cell? ⟨w.heap.size,0,none⟩=some (.slice A1 T c1)∧W.cell? ⟨w.heap.size,1,none⟩=some (.slice A2 N c2)∧W.cell? ⟨w.heap.size,2,none⟩=some (.slice A3 R c3)∧W.cell? ⟨w.heap.size,3,none⟩=some (.int .i64 st)∧W.cell? ⟨b,off+k * 2,none⟩=some (.int .i64 x0)∧W.cell? ⟨b,off+k * 2+1,none⟩=some (.int .i64 x1))) (by kernel_rfl) ?_ (fun hHeld=> ?_)
   ·exact⟨q0,q1,q2,q3,p0,p1⟩
   refine tk (i:=0) (oi:= ?_) (v:= ?_) ?_ (by kernel_rfl) ?_ (Or.inl ⟨?_,?_⟩) (by assumption) ?_;rotate_left 2;(focus((try simp only [gT,gs,gz]);try rfl));exact fun _ _ _ h=>h;rfl;(focus(intro wS hwS;(try dsimp only at hwS);go_simp;all_goals with_reducible rfl));try simp only [Act.put,sT,s0,s1]
   refine tk (i:=1) (oi:= ?_) (v:= ?_) ?_ (by kernel_rfl) ?_ (Or.inl ⟨?_,?_⟩) (by assumption) ?_;rotate_left 2;(focus((try simp only [gT,gs,gz]);try rfl));exact fun _ _ _ h=>h;rfl;(focus(intro wS hwS;(try dsimp only at hwS);go_simp;all_goals with_reducible rfl));try simp only [Act.put,sT,s0,s1]
   refine tk (i:=2) (oi:= ?_) (v:= ?_) ?_ (by kernel_rfl) ?_ (Or.inl ⟨?_,?_⟩) (by assumption) ?_;rotate_left 2;(focus((try simp only [gT,gs,gz]);try rfl));exact fun _ _ _ h=>h;rfl;(focus(intro wS hwS;(try dsimp only at hwS);go_simp;all_goals with_reducible rfl));try simp only [Act.put,sT,s0,s1]
   refine tk (i:=3) (oi:= ?_) (v:= ?_) ?_ (by kernel_rfl) ?_ (Or.inl ⟨?_,?_⟩) (by assumption) ?_;rotate_left 2;(focus((try simp only [gT,gs,gz]);try rfl));exact fun _ _ _ h=>h;rfl;(focus(intro wS hwS;(try dsimp only at hwS);go_simp;all_goals with_reducible rfl));try simp only [Act.put,sT,s0,s1]
   refine tk (i:=4) (oi:= ?_) (v:= ?_) ?_ (by kernel_rfl) ?_ (Or.inl ⟨?_,?_⟩) (by assumption) ?_;rotate_left 2;(focus((try simp only [gT,gs,gz]);try rfl));exact fun _ _ _ h=>h;rfl;(focus(intro wS hwS;(try dsimp only at hwS);go_simp;all_goals with_reducible rfl));try simp only [Act.put,sT,s0,s1]
   refine wpAnyH_ready (rs:=[5]) (by kernel_rfl) (by simp) ?_
   refine AllReadyH.cons (o:= ?_) ?_ (fun K hK=> ?_) AllReadyH.nil;rotate_left 1;(focus((try simp only [gT,gs,gz]);try rfl))
   go_simp
   go_at_call 38
   with_reducible refine Xcb.out.mono ?_
   rintro e w5 ⟨rfl,b5⟩
   have t5:=Xtd.out.below b5
   have hbk:b<wr.drew.heap.size:=Nat.lt_of_lt_of_le Xhbl.out Xt.out.le.size
   refine hK.out _ _ ?_ (fun hHeld=> ?_)
   ·exact⟨t5.g.cells.1,t5.g.cells.2.1,t5.g.cells.2.2.1,t5.g.cells.2.2.2,(b5.cell (p:=⟨b,off+k * 2,none⟩) hbk).trans p0,(b5.cell (p:=⟨b,off+k * 2+1,none⟩) hbk).trans p1⟩
   clear hK K
   try simp only [Act.put,sT,s0,s1]
   clear q0 q1 q2 q3 p0 p1 b5 Xt Xtd Xcb hbk
   refine tk (i:=6) (oi:= ?_) (v:= ?_) ?_ (by kernel_rfl) ?_ (Or.inl ⟨?_,?_⟩) (by assumption) ?_;rotate_left 2;(focus((try simp only [gT,gs,gz]);try rfl));exact fun _ _ _ h=>h;rfl;(focus(intro wS hwS;(try dsimp only at hwS);go_simp;all_goals with_reducible rfl));try simp only [Act.put,sT,s0,s1]
   refine tk (i:=7) (oi:= ?_) (v:= ?_) ?_ (by kernel_rfl) ?_ (Or.inl ⟨?_,?_⟩) (by assumption) ?_;rotate_left 2;(focus((try simp only [gT,gs,gz]);try rfl));exact fun _ _ _ h=>h;rfl;(focus(intro wS hwS;(try dsimp only at hwS);go_simp;all_goals with_reducible rfl));try simp only [Act.put,sT,s0,s1]
   refine tk (i:=8) (oi:= ?_) (v:= ?_) ?_ (by kernel_rfl) ?_ (Or.inl ⟨?_,?_⟩) (by assumption) ?_;rotate_left 2;(focus((try simp only [gT,gs,gz]);try rfl));exact fun _ _ _ h=>h;rfl;(focus(intro wS hwS;(try dsimp only at hwS);go_simp;all_goals with_reducible rfl));try simp only [Act.put,sT,s0,s1]
   refine tk (i:=9) (oi:= ?_) (v:= ?_) ?_ (by kernel_rfl) ?_ (Or.inl ⟨?_,?_⟩) (by assumption) ?_;rotate_left 2;(focus((try simp only [gT,gs,gz]);try rfl));exact fun _ _ _ h=>h;rfl;(focus(intro wS hwS;(try dsimp only at hwS);go_simp;all_goals with_reducible rfl));try simp only [Act.put,sT,s0,s1]
   refine tk (i:=10) (oi:= ?_) (v:= ?_) ?_ (by kernel_rfl) ?_ (Or.inl ⟨?_,?_⟩) (by assumption) ?_;rotate_left 2;(focus((try simp only [gT,gs,gz]);try rfl));exact fun _ _ _ h=>h;rfl;(focus(intro wS hwS;(try dsimp only at hwS);go_simp;all_goals with_reducible rfl));try simp only [Act.put,sT,s0,s1]
   refine wpAnyH_done (by kernel_rfl) ?_ _
   obtain⟨-,-,-,hcell⟩:=RdIt.at_ t5.rv
   obtain⟨b2,off2,e2,-,hcc⟩:=hcell (by omega)
   injection e2 with e2
   injection e2 with e3 e4 _
   subst e3 e4
   obtain⟨p0,p1⟩:=hcc k _ Xhx.out
   simp only at p0 p1
   clear hcell hcc
   cases ok with
   |false=>
    have hno:=steps_no (G:=G) (st:=st) (s:=s) Xhx.out (by rw [←Xhy.out];simp)
    have Xt5:=hide t5;have Xhno:=hide hno;clear t5 hno
    go_wp2_with fail
    go_roundw
    case rel=>exact⟨k+1,by omega,by go_num,by rw [Xhno.out];exact Xt5.out⟩
    case measure=>simp [intOf];omega
   |true=>
    by_cases hys:y=s
    ·subst hys
     have hr:=behind_right Xhy.out.symm
     have hyes:=steps_yes (G:=G) (st:=st) Xhx.out Xhy.out.symm
     have hsl:=Xhsh.out x0
     obtain⟨hr1,hr2,-⟩:=hr
     unfold rightI at hr1
     simp only [Bool.and_eq_true,decide_eq_true_eq]at hr1 hr2
     have hw63:IntKind.i64.wrap (x1+1)=x1+1:=by rw [IntKind.wrap_i64];omega
     have td:=t5.below ((Below.refl _ w5).drew)
     have cp:=ref12_Put td.ro (fun q hq=>hq.2) (x0,x1+1) (by have:=canon_len (stepsI G st (l.take k) y);have:=steps_len G st (l.take k) y;rw [List.length_take]at this;omega) td.rn
     simp only at hyes
     clear hr1 hr2 hsl
     have Xt5:=hide t5;have Xhyes:=hide hyes;have Xtd:=hide td;have Xcp:=hide cp;clear t5 hyes td cp
     go_wp2_with fail
     refine region_tail 13 (by kernel_rfl) (by kernel_rfl) ?_
     simp only [List.take_succ_cons,List.take_zero,List.drop_succ_cons,List.drop_zero]
     repeat still_step
     refine wpStill_nil ?_
     go_wp2_with fail
     refine Xcp.out.mono ?_
     rintro e w6 hp
     obtain⟨A6,n6,c6,rfl,t6⟩:=Xtd.out.put hp
     clear hp p0 p1 Xt5 Xtd Xcp hw63
     have Xt6:=hide t6;clear t6
     go_wp2_with fail
     go_roundw
     case rel=>exact⟨k+1,by omega,by go_num,by rw [Xhyes.out,canon_snoc];exact Xt6.out⟩
     case measure=>simp [intOf];omega
    ·have hys':(y==s)=false:=by simpa using hys
     have hno:=steps_no (G:=G) (st:=st) (s:=s) Xhx.out (by rw [←Xhy.out];simpa using hys)
     have Xt5:=hide t5;have Xhno:=hide hno;have Xhys:=hide hys;clear t5 hno hys
     go_wp2_with fail
     go_roundw
     case rel=>exact⟨k+1,by omega,by go_num,by rw [Xhno.out];exact Xt5.out⟩
     case measure=>simp [intOf];omega
  ·have hlt': ¬(k:Int)<(n:Int):=by omega
   have hk':l.take k=l:=List.take_of_length_le (by have:=Xhn2.out;omega)
   rw [hk']at t
   have Xt:=hide t;have Xhk':=hide hk';clear t hk'
   go_wp2_with fail
   go_ret
   exact Xt.out.post
end
section
set_option linter.unusedSimpArgs false
open Go.RowKit
attribute [local irreducible] wpStill wpOne wpPh
def ClosePost (w:World) (G:GramD) (st:Int) (l:List It) (e:Ending) (w':World):Prop:= ∃o,IsCl G st l o∧ItPost w o e w'
set_option maxRecDepth 100000 in
set_option maxHeartbeats 8000000 in
theorem ref12_Close {w:World} {F:Nat→Prop} {vt vn vr:Value} {G:GramD} (h:IsGram w F vt vn vr G) (st:Int) {v:Value} {l:List It} (hl:RdIt w (fun b=>b<w.heap.size) v l) (hsh:ShortG G st) (hrl:G.rules.length≤300):
  Calls Tryz.prog 13 #[GV vt vn vr st,v] w (ClosePost w G st l):=by
 obtain⟨A1,c1,A2,c2,A3,c3,rfl,rfl,rfl,-⟩:=h.slices
 obtain⟨A,n,c,rfl,-⟩:=id hl
 obtain⟨hn,hnc,hcm,-⟩:=RdIt.at_ hl
 unfold maxLen at hcm
 have hall:=all_len hsh hrl
 obtain⟨w1,hw1⟩: ∃w1,w1=w.alloc (.cells #[.slice A1 G.terms.length c1,.slice A2 G.nons.length c2,.slice A3 G.rules.length c3,.int .i64 st] 25):=⟨_,rfl⟩
 have g1:=GBox.new h st
 have b1:Below w.heap.size w w1:=by rw [hw1];exact(Below.refl _ w).alloc (Nat.le_refl _) _
 rw [←hw1]at g1
 have t1:ItSt w w1 F A1 c1 A2 c2 A3 c3 G.terms.length G.nons.length G.rules.length st G (.slice A n c) l (.slice none 0 0) []:=⟨g1,b1,hl.below b1 (fun k hk=>hk),Rd.nil _ _ _,fun _=>rfl⟩
 have cR:=fun wr (g:GBox wr F w.heap.size A1 c1 A2 c2 A3 c3 G.terms.length G.nons.length G.rules.length st G) x=>ref12_right g.gram st x
 have cB:=fun wr (g:GBox wr F w.heap.size A1 c1 A2 c2 A3 c3 G.terms.length G.nons.length G.rules.length st G) x=>ref12_behind g.gram st x
 have cO:=fun wr (g:GBox wr F w.heap.size A1 c1 A2 c2 A3 c3 G.terms.length G.nons.length G.rules.length st G) s=>ref_of g.gram st s
 obtain⟨al,hal⟩: ∃al,al=(allIt G st).length:=⟨_,rfl⟩
 rw [←hal]at hall
 generalize G.terms.length=T at *
 generalize G.nons.length=N at *
 generalize G.rules.length=R at *
 have hn2:=hn
 clear g1 b1 h hl hn hsh hrl
 have Xt1:=hide t1;have XcR:=hide cR;have XcB:=hide cB;have XcO:=hide cO;have Xhn2:=hide hn2;have Xhal:=hide hal;clear t1 cR cB cO hn2 hal
 go_enter Tryz.func13,Tryz.ntmps13
 go_wp2_with fail
 rw [←hw1]
 go_loopw [5,6] (fun u i wr=> ∃(k:Nat) (o:List It),k≤n∧i= .int .i64 k∧ItSt w wr F A1 c1 A2 c2 A3 c3 T N R st G (.slice A n c) l u o∧OkI G st l o∧ ∀(j:Nat) (x:It),j<k→l[j]? =some x→rightI G st x=true→x∈o) (fun _ i _=>n - (intOf i).toNat)
 case atStart=>exact⟨0,[],Nat.zero_le _,rfl,Xt1.out,OkI.nil,fun j x hj=>absurd hj (by omega)⟩
 case round=>
  clear Xt1
  obtain⟨k,o,hk,rfl,t,ok,hb⟩:=hrel
  obtain⟨Au,nu,cu,rfl,-⟩:=id t.ro
  by_cases hlt:k<n
  ·have hlt':(k:Int)<(n:Int):=by omega
   obtain⟨q0,q1,q2,q3⟩:=t.g.cells
   obtain⟨-,-,-,hcell⟩:=RdIt.at_ t.rv
   obtain⟨b,off,rfl,hbl,hcc⟩:=hcell (by omega)
   obtain⟨⟨x0,x1⟩,hx⟩: ∃x,l[k]? =some x:=⟨_,List.getElem?_eq_getElem (by rw [←Xhn2.out];exact hlt)⟩
   obtain⟨p0,p1⟩:=hcc k _ hx
   simp only at p0 p1
   have td:=t.below ((Below.refl _ wr).drew)
   have cb:=XcR.out _ td.g (x0,x1)
   obtain⟨rt,hy⟩: ∃r,r=rightI G st (x0,x1):=⟨_,rfl⟩
   rw [←hy]at cb
   clear hcell hcc
   have Xt:=hide t;have Xtd:=hide td;have Xcb:=hide cb;have Xhx:=hide hx;have Xhy:=hide hy;have Xhbl:=hide hbl;have Xok:=hide ok;have Xhb:=hide hb;clear t td cb hx hy hbl ok hb
   go_wp2_with fail
   refine region_tail 5 (by kernel_rfl) (by kernel_rfl) ?_
   simp only [List.take_succ_cons,List.take_zero,List.drop_succ_cons,List.drop_zero]
   repeat still_step
   refine wpStill_nil ?_
   go_wp2_with fail
   with_reducible refine Xcb.out.mono ?_
   rintro e w5 ⟨rfl,b5⟩
   have t5:=Xtd.out.below b5
   clear q0 q1 q2 q3 p0 p1 b5 Xt Xtd Xcb
   cases rt with
   |false=>
    have hb2: ∀(j:Nat) (x:It),j<k+1→l[j]? =some x→rightI G st x=true→x∈o:=fun j x hj hjx hr=>by
     by_cases e:j=k
     ·subst e;rw [Xhx.out]at hjx;injection hjx with hjx;rw [←hjx,←Xhy.out]at hr;cases hr
     ·exact Xhb.out j x (by omega) hjx hr
    have Xt5:=hide t5;have Xhb2:=hide hb2;clear t5 hb2
    go_wp2_with fail
    go_roundw
    case rel=>exact⟨k+1,o,by omega,by go_num,Xt5.out,Xok.out,Xhb2.out⟩
    case measure=>simp [intOf];omega
   |true=>
    obtain⟨-,-,-,hcell⟩:=RdIt.at_ t5.rv
    obtain⟨b2,off2,e2,-,hcc⟩:=hcell (by omega)
    injection e2 with e2
    injection e2 with e3 e4 _
    subst e3 e4
    obtain⟨p0,p1⟩:=hcc k _ Xhx.out
    simp only at p0 p1
    have hCl:Cl G st l (x0,x1):=Cl.base _ (List.mem_of_getElem? Xhx.out) Xhy.out.symm
    have hbo:=Xok.out.bound
    have cp:=ref12_Put t5.ro (fun q hq=>hq.2) (x0,x1) (by have:=Xhal.out;omega) t5.rn
    have hb2: ∀(j:Nat) (x:It),j<k+1→l[j]? =some x→rightI G st x=true→x∈putI (x0,x1) o:=fun j x hj hjx hr=>by
     by_cases e:j=k
     ·subst e;rw [Xhx.out]at hjx;injection hjx with hjx;rw [←hjx];exact mem_putI.2 (.inl rfl)
     ·exact mem_putI.2 (.inr (Xhb.out j x (by omega) hjx hr))
    have ok2:=Xok.out.put hCl
    clear hcell hcc hCl hbo
    have Xt5:=hide t5;have Xhb2:=hide hb2;have Xok2:=hide ok2;have Xcp:=hide cp;clear t5 hb2 ok2 cp
    go_wp2_with fail
    refine Xcp.out.mono ?_
    rintro e w6 hp
    obtain⟨A6,n6,c6,rfl,t6⟩:=Xt5.out.put hp
    clear hp p0 p1 Xt5 Xcp
    have Xt6:=hide t6;clear t6
    go_wp2_with fail
    go_roundw
    case rel=>exact⟨k+1,_,by omega,by go_num,Xt6.out,Xok2.out,Xhb2.out⟩
    case measure=>simp [intOf];omega
  ·have hlt': ¬(k:Int)<(n:Int):=by omega
   have hbase: ∀z∈l,rightI G st z=true→z∈o:=fun z hz hr=>by
    obtain⟨j,hj,e⟩:=List.getElem_of_mem hz
    exact hb j z (by have:=Xhn2.out;omega) (by rw [List.getElem?_eq_getElem hj,e]) hr
   obtain⟨n0,hn0⟩: ∃n0,n0=missI G st o+1:=⟨_,rfl⟩
   have hm1:(-1:Int)≠o.length:=by omega
   clear hb
   have Xt:=hide t;have Xok:=hide ok;have Xhbase:=hide hbase;have Xhn0:=hide hn0;have Xhm1:=hide hm1;clear t ok hbase hn0 hm1
   go_wp2_with fail
   go_loopg [5,7] n0 (fun κ u m wr=> ∃(o:List It) (mi:Int),m= .int .i64 mi∧ItSt w wr F A1 c1 A2 c2 A3 c3 T N R st G (.slice A n c) l u o∧OkI G st l o∧(∀z∈l,rightI G st z=true→z∈o)∧(mi=o.length→ ∀y∈o,DoneI G st o y)∧(mi≠o.length→missI G st o+1≤κ))
   case atStart=>exact⟨o,-1,rfl,Xt.out,Xok.out,Xhbase.out,fun e=>absurd e Xhm1.out,fun _=>Nat.le_of_eq Xhn0.out.symm⟩
   case round=>
    clear Xt Xok Xhbase Xhm1 Xhn0 hlt hlt' hk
    obtain⟨o,mi,rfl,t,ok,hbase,hd,hκ⟩:=hrel
    obtain⟨Au,nu,cu,rfl,-⟩:=id t.ro
    obtain⟨hnu,hnuc,hcum,-⟩:=RdIt.at_ t.ro
    unfold maxLen at hcum
    have hbo:=ok.bound
    have hnub:nu≤400000:=by have:=Xhal.out;omega
    by_cases hmi:mi=(nu:Int)
    ·have hmi':(mi !=(nu:Int))=false:=by simpa using hmi
     have fin:=ok.is hbase (hd (by rw [hmi,hnu]))
     have Xt:=hide t;have Xok:=hide ok;have Xhbase:=hide hbase;have Xhd:=hide hd;have Xhκ:=hide hκ;have Xhnu:=hide hnu;have Xhmi:=hide hmi;have Xfin:=hide fin;have Xhbo:=hide hbo;clear t ok hbase hd hκ hnu hmi fin hbo
     go_wp2_with fail
     go_ret
     exact⟨o,Xfin.out,Xt.out.post⟩
    ·have hmi':(mi !=(nu:Int))=true:=by simpa using hmi
     have hκ:=hκ (by rw [←hnu];exact hmi)
     clear hd
     have Xt:=hide t;have Xok:=hide ok;have Xhbase:=hide hbase;have Xhκ:=hide hκ;have Xhnu:=hide hnu;have Xhmi:=hide hmi;have Xhbo:=hide hbo;clear t ok hbase hκ hnu hmi hbo
     go_wp2_with fail
     go_loopw [5,8] (fun u i wr=> ∃k:Nat,k≤nu∧u= .slice Au nu cu∧i= .int .i64 k∧ItSt w wr F A1 c1 A2 c2 A3 c3 T N R st G (.slice A n c) l (.slice Au nu cu) o∧ ∀(j:Nat) (y:It),j<k→o[j]? =some y→DoneI G st o y) (fun _ i _=>nu - (intOf i).toNat)
     case atStart=>exact⟨0,Nat.zero_le _,rfl,rfl,Xt.out,fun j y hj=>absurd hj (by omega)⟩
     case round=>
      clear Xt
      obtain⟨k,hk,rfl,rfl,t,hd⟩:=hrel
      by_cases hlt:k<nu
      ·have hlt':(k:Int)<(nu:Int):=by omega
       obtain⟨q0,q1,q2,q3⟩:=t.g.cells
       obtain⟨-,-,-,hcell⟩:=RdIt.at_ t.ro
       obtain⟨b,off,rfl,hbl,hcc⟩:=hcell (by omega)
       obtain⟨⟨x0,x1⟩,hx⟩: ∃x,o[k]? =some x:=⟨_,List.getElem?_eq_getElem (by rw [←Xhnu.out];exact hlt)⟩
       obtain⟨p0,p1⟩:=hcc k _ hx
       simp only at p0 p1
       have td:=t.below ((Below.refl _ wr).drew)
       have cb:=XcB.out _ td.g (x0,x1)
       obtain⟨⟨s,sok⟩,hy⟩: ∃r,r=behindI G st (x0,x1):=⟨_,rfl⟩
       rw [←hy]at cb
       clear hcell hcc
       have Xt:=hide t;have Xtd:=hide td;have Xcb:=hide cb;have Xhx:=hide hx;have Xhy:=hide hy;have Xhbl:=hide hbl;have Xhd:=hide hd;clear t td cb hx hy hbl hd
       go_wp2_with fail
       refine wp_region_held_drew (S:=(fun W=>W.cell? ⟨w.heap.size,0,none⟩=some (.slice A1 T c1)∧W.cell? ⟨w.heap.size,1,none⟩=some (.slice A2 N c2)∧W.cell? ⟨w.heap.size,2,none⟩=some (.slice A3 R c3)∧W.cell? ⟨w.heap.size,3,none⟩=some (.int .i64 st)∧W.cell? ⟨b,off+k * 2,none⟩=some (.int .i64 x0)∧W.cell? ⟨b,off+k * 2+1,none⟩=some (.int .i64 x1))) (by kernel_rfl) ?_ (fun hHeld=> ?_)
       ·exact⟨q0,q1,q2,q3,p0,p1⟩
       refine tk (i:=0) (oi:= ?_) (v:= ?_) ?_ (by kernel_rfl) ?_ (Or.inl ⟨?_,?_⟩) (by assumption) ?_;rotate_left 2;(focus((try simp only [gT,gs,gz]);try rfl));exact fun _ _ _ h=>h;rfl;(focus(intro wS hwS;(try dsimp only at hwS);go_simp;all_goals with_reducible rfl));try simp only [Act.put,sT,s0,s1]
       refine tk (i:=1) (oi:= ?_) (v:= ?_) ?_ (by kernel_rfl) ?_ (Or.inl ⟨?_,?_⟩) (by assumption) ?_;rotate_left 2;(focus((try simp only [gT,gs,gz]);try rfl));exact fun _ _ _ h=>h;rfl;(focus(intro wS hwS;(try dsimp only at hwS);go_simp;all_goals with_reducible rfl));try simp only [Act.put,sT,s0,s1]
       refine tk (i:=2) (oi:= ?_) (v:= ?_) ?_ (by kernel_rfl) ?_ (Or.inl ⟨?_,?_⟩) (by assumption) ?_;rotate_left 2;(focus((try simp only [gT,gs,gz]);try rfl));exact fun _ _ _ h=>h;rfl;(focus(intro wS hwS;(try dsimp only at hwS);go_simp;all_goals with_reducible rfl));try simp only [Act.put,sT,s0,s1]
       refine tk (i:=3) (oi:= ?_) (v:= ?_) ?_ (by kernel_rfl) ?_ (Or.inl ⟨?_,?_⟩) (by assumption) ?_;rotate_left 2;(focus((try simp only [gT,gs,gz]);try rfl));exact fun _ _ _ h=>h;rfl;(focus(intro wS hwS;(try dsimp only at hwS);go_simp;all_goals with_reducible rfl));try simp only [Act.put,sT,s0,s1]
       refine tk (i:=4) (oi:= ?_) (v:= ?_) ?_ (by kernel_rfl) ?_ (Or.inl ⟨?_,?_⟩) (by assumption) ?_;rotate_left 2;(focus((try simp only [gT,gs,gz]);try rfl));exact fun _ _ _ h=>h;rfl;(focus(intro wS hwS;(try dsimp only at hwS);go_simp;all_goals with_reducible rfl));try simp only [Act.put,sT,s0,s1]
       refine wpAnyH_ready (rs:=[5]) (by kernel_rfl) (by simp) ?_
       refine AllReadyH.cons (o:= ?_) ?_ (fun K hK=> ?_) AllReadyH.nil;rotate_left 1;(focus((try simp only [gT,gs,gz]);try rfl))
       go_simp
       go_at_call 38
       with_reducible refine Xcb.out.mono ?_
       rintro e w5 ⟨rfl,b5⟩
       have t5:=Xtd.out.below b5
       have hbk:b<wr.drew.heap.size:=Xhbl.out.2
       refine hK.out _ _ ?_ (fun hHeld=> ?_)
       ·exact⟨t5.g.cells.1,t5.g.cells.2.1,t5.g.cells.2.2.1,t5.g.cells.2.2.2,(b5.cell (p:=⟨b,off+k * 2,none⟩) hbk).trans p0,(b5.cell (p:=⟨b,off+k * 2+1,none⟩) hbk).trans p1⟩
       clear hK K
       try simp only [Act.put,sT,s0,s1]
       clear q0 q1 q2 q3 p0 p1 b5 Xt Xtd Xcb hbk
       cases sok with
       |false=>
        have hd2: ∀(j:Nat) (y:It),j<k+1→o[j]? =some y→DoneI G st o y:=fun j y hj hjy=>by
         by_cases e:j=k
         ·subst e;rw [Xhx.out]at hjy;injection hjy with hjy
          intro s' q hs' _
          rw [←hjy,←Xhy.out]at hs';cases hs'
         ·exact Xhd.out j y (by omega) hjy
        have Xt5:=hide t5;have Xhd2:=hide hd2;clear t5 hd2
        refine tk (i:=6) (oi:= ?_) (v:= ?_) ?_ (by kernel_rfl) ?_ (Or.inl ⟨?_,?_⟩) (by assumption) ?_;rotate_left 2;(focus((try simp only [gT,gs,gz]);try rfl));exact fun _ _ _ h=>h;rfl;(focus(intro wS hwS;(try dsimp only at hwS);go_simp;all_goals with_reducible rfl));try simp only [Act.put,sT,s0,s1]
        refine tk (i:=7) (oi:= ?_) (v:= ?_) ?_ (by kernel_rfl) ?_ (Or.inl ⟨?_,?_⟩) (by assumption) ?_;rotate_left 2;(focus((try simp only [gT,gs,gz]);try rfl));exact fun _ _ _ h=>h;rfl;(focus(intro wS hwS;(try dsimp only at hwS);go_simp;all_goals with_reducible rfl));try simp only [Act.put,sT,s0,s1]
        refine tk (i:=8) (oi:= ?_) (v:= ?_) ?_ (by kernel_rfl) ?_ (Or.inl ⟨?_,?_⟩) (by assumption) ?_;rotate_left 2;(focus((try simp only [gT,gs,gz]);try rfl));exact fun _ _ _ h=>h;rfl;(focus(intro wS hwS;(try dsimp only at hwS);go_simp;all_goals with_reducible rfl));try simp only [Act.put,sT,s0,s1]
        refine tk (i:=9) (oi:= ?_) (v:= ?_) ?_ (by kernel_rfl) ?_ (Or.inl ⟨?_,?_⟩) (by assumption) ?_;rotate_left 2;(focus((try simp only [gT,gs,gz]);try rfl));exact fun _ _ _ h=>h;rfl;(focus(intro wS hwS;(try dsimp only at hwS);go_simp;all_goals with_reducible rfl));try simp only [Act.put,sT,s0,s1]
        refine tk (i:=10) (oi:= ?_) (v:= ?_) ?_ (by kernel_rfl) ?_ (Or.inl ⟨?_,?_⟩) (by assumption) ?_;rotate_left 2;(focus((try simp only [gT,gs,gz]);try rfl));exact fun _ _ _ h=>h;rfl;(focus(intro wS hwS;(try dsimp only at hwS);go_simp;all_goals with_reducible rfl));try simp only [Act.put,sT,s0,s1]
        refine wpAnyH_done (by kernel_rfl) ?_ _
        clear hHeld
        go_wp2_with fail
        go_roundw
        case rel=>exact⟨k+1,by omega,rfl,by go_num,Xt5.out,Xhd2.out⟩
        case measure=>simp [intOf];omega
       |true=>
        have co:=XcO.out _ t5.g s
        obtain⟨q0,q1,q2,q3⟩:=t5.g.cells
        have Xt5:=hide t5;have Xco:=hide co;clear t5 co
        refine tk (i:=6) (oi:= ?_) (v:= ?_) ?_ (by kernel_rfl) ?_ (Or.inl ⟨?_,?_⟩) (by assumption) ?_;rotate_left 2;(focus((try simp only [gT,gs,gz]);try rfl));exact fun _ _ _ h=>h;rfl;(focus(intro wS hwS;(try dsimp only at hwS);go_simp;all_goals with_reducible rfl));try simp only [Act.put,sT,s0,s1]
        refine tk (i:=7) (oi:= ?_) (v:= ?_) ?_ (by kernel_rfl) ?_ (Or.inl ⟨?_,?_⟩) (by assumption) ?_;rotate_left 2;(focus((try simp only [gT,gs,gz]);try rfl));exact fun _ _ _ h=>h;rfl;(focus(intro wS hwS;(try dsimp only at hwS);go_simp;all_goals with_reducible rfl));try simp only [Act.put,sT,s0,s1]
        refine tk (i:=8) (oi:= ?_) (v:= ?_) ?_ (by kernel_rfl) ?_ (Or.inl ⟨?_,?_⟩) (by assumption) ?_;rotate_left 2;(focus((try simp only [gT,gs,gz]);try rfl));exact fun _ _ _ h=>h;rfl;(focus(intro wS hwS;(try dsimp only at hwS);go_simp;all_goals with_reducible rfl));try simp only [Act.put,sT,s0,s1]
        refine tk (i:=9) (oi:= ?_) (v:= ?_) ?_ (by kernel_rfl) ?_ (Or.inl ⟨?_,?_⟩) (by assumption) ?_;rotate_left 2;(focus((try simp only [gT,gs,gz]);try rfl));exact fun _ _ _ h=>h;rfl;(focus(intro wS hwS;(try dsimp only at hwS);go_simp;all_goals with_reducible rfl));try simp only [Act.put,sT,s0,s1]
        refine tk (i:=10) (oi:= ?_) (v:= ?_) ?_ (by kernel_rfl) ?_ (Or.inl ⟨?_,?_⟩) (by assumption) ?_;rotate_left 2;(focus((try simp only [gT,gs,gz]);try rfl));exact fun _ _ _ h=>h;rfl;(focus(intro wS hwS;(try dsimp only at hwS);go_simp;all_goals with_reducible rfl));try simp only [Act.put,sT,s0,s1]
        refine wpAnyH_done (by kernel_rfl) ?_ _
        clear hHeld
        go_wp2_with fail
        with_reducible refine Xco.out.mono ?_
        rintro e w6 ⟨Ar,cr,rfl,hown,b6⟩
        have t6:=Xt5.out.below b6
        obtain⟨rs,hrs⟩: ∃rs,rs=ofOf G s:=⟨_,rfl⟩
        rw [←hrs]at hown
        have hrl:(ofOf G s).length=rs.length:=by rw [hrs]
        rw [hrl]
        have hrd:RdI w6 (fun b=>w.heap.size≤b∧b<w6.heap.size) (.slice Ar rs.length cr) rs:=(Rd.of_own hown).mono (fun q hq=>⟨Nat.le_trans (Xt5.out.le.size) (hown.lt q hq).1,(hown.lt q hq).2⟩)
        obtain⟨-,hrnc,hrcm,-⟩:=RdI.at_ hrd
        unfold maxLen at hrcm
        have hrm: ∀r∈rs,r∈ofOf G s:=fun r hr=>by rw [←hrs];exact hr
        clear q0 q1 q2 q3 b6 Xt5 Xco hown hrl
        have Xt6:=hide t6;have Xhrd:=hide hrd;have Xhrs:=hide hrs;have Xhrm:=hide hrm;clear t6 hrd hrs hrm
        go_wp2_with fail
        go_loopw [12,13] (fun mo i wr=> ∃(q:Nat),q≤rs.length∧i= .int .i64 q∧ItSt w wr F A1 c1 A2 c2 A3 c3 T N R st G (.slice A n c) l (.slice (some ⟨b,off,none⟩) nu cu) o∧ItSt w wr F A1 c1 A2 c2 A3 c3 T N R st G (.slice A n c) l mo (moreI (rs.take q) o)∧RdI wr (fun b=>w.heap.size≤b∧b<wr.heap.size) (.slice Ar rs.length cr) rs) (fun _ i _=>rs.length - (intOf i).toNat)
        case atStart=>exact⟨0,Nat.zero_le _,rfl,Xt6.out,Xt6.out,Xhrd.out⟩
        case round=>
         clear Xt6 Xhrd
         obtain⟨q,hq,rfl,t,tm,hrd⟩:=hrel
         obtain⟨Am,nm,cm,rfl,-⟩:=id tm.ro
         obtain⟨hnm,hnmc,hcmm,-⟩:=RdIt.at_ tm.ro
         unfold maxLen at hcmm
         have okm:=Xok.out.more Xhy.out.symm (Xok.out.sound _ (List.mem_of_getElem? Xhx.out)) (rs.take q) (fun r hr=>Xhrm.out r (List.mem_of_mem_take hr))
         by_cases hlq:q<rs.length
         ·have hlq':(q:Int)<(rs.length:Int):=by omega
          obtain⟨-,-,-,hcr⟩:=RdI.at_ hrd
          obtain⟨b2,o2,rfl,hb2,hc2⟩:=hcr (by omega)
          obtain⟨r,hr⟩: ∃r,rs[q]? =some r:=⟨_,List.getElem?_eq_getElem hlq⟩
          have hcr2:=hc2 q r hr
          have hbm:=okm.bound
          have cp:=ref12_Put tm.ro (fun q hq=>hq.2) (r,0) (by have:=Xhal.out;omega) tm.rn
          have hnext:moreI (rs.take (q+1)) o=putI (r,0) (moreI (rs.take q) o):=by rw [List.take_add_one,hr];exact more_snoc _ _ _
          clear hc2 hcr hbm
          have Xt:=hide t;have Xtm:=hide tm;have Xhrd:=hide hrd;have Xhr:=hide hr;have Xcp:=hide cp;have Xhnext:=hide hnext;have Xokm:=hide okm;have Xhnm:=hide hnm;clear t tm hrd hr cp hnext okm hnm
          go_wp2_with fail
          refine Xcp.out.mono ?_
          rintro e w7 hp
          have b7:Below wr.heap.size wr w7:=by obtain⟨_,_,_,-,-,hb⟩:=hp;exact hb
          obtain⟨A7,n7,c7,rfl,t7⟩:=Xtm.out.put hp
          have t8:=Xt.out.below b7
          have hrd8:=(Xhrd.out.below b7 (fun k hk=>hk.2)).mono (fun k hk=>(⟨hk.1,Nat.lt_of_lt_of_le hk.2 b7.size⟩:w.heap.size≤k∧k<w7.heap.size))
          clear hp hcr2 Xt Xtm Xhrd Xcp b7
          have Xt7:=hide t7;have Xt8:=hide t8;have Xhrd8:=hide hrd8;clear t7 t8 hrd8
          go_wp2_with fail
          go_roundw
          case rel=>exact⟨q+1,by omega,by go_num,Xt8.out,by rw [Xhnext.out];exact Xt7.out,Xhrd8.out⟩
          case measure=>simp [intOf];omega
         ·have hlq': ¬(q:Int)<(rs.length:Int):=by omega
          have hrt:rs.take q=rs:=List.take_of_length_le (by omega)
          rw [hrt]at tm okm hnm
          by_cases hsame:nm=nu
          ·have hsame':((nm:Int) !=(nu:Int))=false:=by simp;omega
           have hml:=(more_len rs Xok.out.strict).2 (by rw [←hnm,hsame,Xhnu.out])
           have hd2: ∀(j:Nat) (y:It),j<k+1→o[j]? =some y→DoneI G st o y:=fun j y hj hjy=>by
            by_cases e:j=k
            ·subst e;rw [Xhx.out]at hjy;injection hjy with hjy
             intro s' r' hs' hr'
             rw [←hjy,←Xhy.out]at hs'
             injection hs' with hs' _
             subst hs'
             exact hml.2 r' (by rw [Xhrs.out];exact hr')
            ·exact Xhd.out j y (by omega) hjy
           clear hml
           have Xt:=hide t;have Xtm:=hide tm;have Xhrd:=hide hrd;have Xokm:=hide okm;have Xhnm:=hide hnm;have Xhd2:=hide hd2;have Xhsame:=hide hsame;have Xhrt:=hide hrt;clear t tm hrd okm hnm hd2 hsame hrt
           go_wp2_with fail
           go_roundw
           case rel=>exact⟨k+1,by omega,rfl,by go_num,Xt.out,Xhd2.out⟩
           case measure=>simp [intOf];omega
          ·have hsame':((nm:Int) !=(nu:Int))=true:=by simp;omega
           have hlt2:=more_miss_lt (st:=st) Xok.out.strict Xhrm.out (by rw [←hnm,←Xhnu.out];exact hsame)
           have hm:missI G st (moreI rs o)+1<gk:=by have:=Xhκ.out;omega
           have hb2: ∀z∈l,rightI G st z=true→z∈moreI rs o:=fun z hz hr=>more_sub rs (Xhbase.out z hz hr)
           have hne:(nu:Int)≠(moreI rs o).length:=by rw [←hnm];omega
           clear hlt2
           have Xt:=hide t;have Xtm:=hide tm;have Xhrd:=hide hrd;have Xokm:=hide okm;have Xhnm:=hide hnm;have Xhm:=hide hm;have Xhsame:=hide hsame;have Xhrt:=hide hrt;have Xhb2:=hide hb2;have Xhne:=hide hne;clear t tm hrd okm hnm hm hsame hrt hb2 hne
           go_wp2_with fail
           go_roundg (missI G st (moreI rs o)+1)
           case measure=>exact Xhm.out
           case rel=>exact⟨moreI rs o,nu,rfl,Xtm.out,Xokm.out,Xhb2.out,fun e=>absurd e Xhne.out,fun _=>Nat.le_refl _⟩
      ·have hlt': ¬(k:Int)<(nu:Int):=by omega
       have hall2: ∀y∈o,DoneI G st o y:=fun y hy=>by
        obtain⟨j,hj,e⟩:=List.getElem_of_mem hy
        exact hd j y (by have:=Xhnu.out;omega) (by rw [List.getElem?_eq_getElem hj,e])
       have hgk:0<gk:=by have:=Xhκ.out;omega
       clear hd
       have Xt:=hide t;have Xhall2:=hide hall2;have Xhgk:=hide hgk;clear t hall2 hgk
       go_wp2_with fail
       go_roundg 0
       case measure=>exact Xhgk.out
       case rel=>exact⟨o,nu,rfl,Xt.out,Xok.out,Xhbase.out,fun _=>Xhall2.out,fun e=>absurd (by rw [Xhnu.out]) e⟩
end
end Go.Proofs.YtalbfonkhpeajaaGreat

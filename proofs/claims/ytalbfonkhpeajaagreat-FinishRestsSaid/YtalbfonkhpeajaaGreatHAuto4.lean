/- The automaton: rows of items; what stands while it is gathered what begins with a nonterminal. -/
import Derived.Test.YtalbfonkhpeajaaGreatHAutoPlain
import Derived.Test.YtalbfonkhpeajaaGreatHG7
import Derived.Deep.Cut
import Derived.Deep.OwnRows
namespace Go.Proofs.YtalbfonkhpeajaaGreat
set_option linter.unusedVariables false
section
set_option linter.unusedSimpArgs false
open Go.RowKit Go.Maps
attribute [local irreducible] wpStill wpOne wpPh
structure RowsI (w:World) (lo P n:Nat) (vs:Nat→Value) (L:Nat→List It):Prop where
 cell: ∀i,i<n→w.cell? ⟨P,i,none⟩=some (vs i)
 frz: ∀i,i<n→w.frozen? ⟨P,i,none⟩=false
 rd: ∀i,i<n→RdIt w (fun b=>lo≤b∧b<w.heap.size∧b≠P) (vs i) (L i)
 lt:P<w.heap.size
def upd {X:Type} (f:Nat→X) (i:Nat) (x:X):Nat→X:=fun j=>if j=i then x else f j
theorem upd_same {X:Type} (f:Nat→X) (i:Nat) (x:X):upd f i x i=x:=if_pos rfl
theorem upd_ne {X:Type} {f:Nat→X} {i j:Nat} {x:X} (h:j≠i):upd f i x j=f j:=if_neg h
section
variable {w w' : World} {lo P n : Nat} {vs : Nat → Value} {L : Nat → List It}
theorem RowsI.touch {S:Nat→Prop} (h:RowsI w lo P n vs L) (ht:Touch S w w') (hP: ¬S P) (hS: ∀b,lo≤b→b<w.heap.size→b≠P→ ¬S b):RowsI w' lo P n vs L:=
 ⟨fun i hi=>ht.cell (h.cell i hi) hP,fun i hi=>(World.frozen?_of_block (a:=⟨P,i,none⟩) (ht.block P h.lt hP)).trans (h.frz i hi),fun i hi=>((h.rd i hi).touch ht (fun b hb=>hS b hb.1 hb.2.1 hb.2.2)).mono (fun b hb=>⟨hb.1,Nat.lt_of_lt_of_le hb.2.1 ht.size,hb.2.2⟩),Nat.lt_of_lt_of_le h.lt ht.size⟩
theorem RowsI.below (h:RowsI w lo P n vs L) (hb:Below w.heap.size w w'):RowsI w' lo P n vs L:=h.touch (Touch.of_size hb (fun _=>False)) (fun e=>e) (fun _ _ _ _ e=>e)
theorem RowsI.put (h:RowsI w lo P n vs L) {i:Nat} (hi:i<n) {v:Value} {l:List It} (hv:RdIt w (fun b=>lo≤b∧b<w.heap.size∧b≠P) v l):RowsI (w.setCell ⟨P,i,none⟩ v) lo P n (upd vs i v) (upd L i l):=by
 have hsz:(w.setCell ⟨P,i,none⟩ v).heap.size=w.heap.size:=by simp [World.setCell]
 have tt:Touch (fun b=>b=P) w (w.setCell ⟨P,i,none⟩ v):=(Touch.refl (fun b=>b=P) w).setCell (p:=⟨P,i,none⟩) (fun _=>rfl) _
 refine⟨fun j hj=> ?_,fun j hj=>(World.frozen?_setCell ..).trans (h.frz j hj),fun j hj=> ?_,by rw [hsz];exact h.lt⟩
 ·by_cases e:j=i
  ·subst e
   rw [upd_same]
   exact World.cell?_setCell_same' _ _ _ (by rw [h.cell j hj];rfl)
  ·rw [upd_ne e,World.cell?_setCell_other _ _ _ _ (fun ea=>by injection ea with _ ea;exact e ea.symm)]
   exact h.cell j hj
 ·rw [hsz]
  by_cases e:j=i
  ·subst e
   rw [upd_same,upd_same]
   exact hv.touch tt (fun b hb e=>hb.2.2 e)
  ·rw [upd_ne e,upd_ne e]
   exact(h.rd j hj).touch tt (fun b hb e=>hb.2.2 e)
end
theorem Tryz.infoItems:(Tryz.prog.info? 44).map (fun i=>(i.zero,i.size,i.bytes))=some (some (.slice none 0 0),1,24):=by kernel_rfl
theorem make_items (n:Nat) (hn:n≤65536) (w:World):(Instr.makeSlice 99 (.int .i64 (n:Int)) (.int .i64 (n:Int))).run Tryz.prog w= .ok (.slice (some ⟨w.heap.size,0,none⟩) n n) (w.alloc (.cells (madeCells #[.slice none 0 0] n) 44)):=
 run_make_row' _ _ _ 24 Tryz.underlying99 Tryz.infoItems rfl .i64 .i64 n (by omega) (by omega) w
theorem made_item (z:Value) (n i:Nat) (hi:i<n):(madeCells #[z] n)[i]? =some z:=by
 unfold madeCells
 simp [hi,Nat.mod_one]
theorem RowsI.made (w:World) (n:Nat) (t:TypeId):RowsI (w.alloc (.cells (madeCells #[.slice none 0 0] n) t)) w.heap.size w.heap.size n (fun _=> .slice none 0 0) (fun _=>[]):=by
 have k:Blk (w.alloc (.cells (madeCells #[.slice none 0 0] n) t)) w.heap.size t (madeCells #[.slice none 0 0] n):=Blk.new _ _ _
 exact⟨fun i hi=>(k.cell i).trans (made_item _ _ _ hi),fun i _=>k.frozen i,fun i _=>Rd.nil _ _ _,k.lt⟩
theorem wpList_insert_own {H:Type} {P:Program} (w:World) {ops:Array Oper} {rest:List Oper} {o:Oper} {a:Act} {Q:Exit→Act→World→Prop}
  (hg:o.guard=none) (m x v:Operand) (t:TypeId) (hop:o.op=Op.insert t m x v)
  (k e:TypeId) (K:Keyed P k) (ht:P.underlying t=some (.map k e)) (R:Value→Option (DataW H×List MemPlace)) (b n:Nat) (D:DataW H)
  (hm:a.eval m= .map (some b)) (hown:w.ownsMap P k R b n D) (hn:n<maxLen) (key val:Value) (kl:Lit) (hx:a.eval x=key) (hv:a.eval v=val) (hkey:keyOf P k key=some kl)
  (d:DataW H) (ps:List MemPlace) (hval:R val=some (d,ps))
  (hK: ∀w',w'.ownsMap P k R b (n+1) (D.put kl d)→w.grownBy w' (some b)→wpList P ops Q rest (a.put o.dst undef) w'):
  wpList P ops Q (o::rest) a w:=by
 refine wpList_plain hg fun K' hK'=> ?_
 obtain⟨w',hrun,r1,r2⟩:=hown.update K ht hn hkey hval
 unfold Oper.wp
 simp [execOp,hop,hm,hx,hv,hrun,Result.andThen]
 exact hK' _ _ (hK w' r1 r2)
structure Inn (w wr:World) (M g off n c:Nat) (todo:List Int) (va:Value) (all:List It) (met:List Int):Prop where
 le:Below w.heap.size w wr
 q:QueI wr w.heap.size g off n c todo
 row:wr.ownsRow w.heap.size 86 2 va all.length (itCells all)
 map: ∃D:DataW Unit,wr.ownsMap Tryz.prog 3 (plainElem Tryz.prog 4) M met.length D∧NumMap D met
 hM:w.heap.size≤M
 gM:g≠M
 ga:va.ownBlock≠some g
section
variable {w wr wr' : World} {M g off n c : Nat} {todo : List Int} {va : Value} {all : List It} {met : List Int}
theorem Inn.below (h:Inn w wr M g off n c todo va all met) (hb:Below wr.heap.size wr wr'):Inn w wr' M g off n c todo va all met:=by
 obtain⟨D,m1,m2⟩:=h.map
 exact⟨h.le.trans (hb.mono h.le.size),h.q.below hb,own_below' h.row hb,⟨D,(Touch.of_size hb (fun _=>False)).ownsMap m1 (fun e=>e),m2⟩,h.hM,h.gM,h.ga⟩
theorem Inn.start {w2:World} {s:Int} {D:DataW Unit} {t:TypeId} (hm:w2.ownsMap Tryz.prog 3 (plainElem Tryz.prog 4) w.heap.size 1 D) (hD:NumMap D [s]) (le:Below w.heap.size w w2):
  Inn w (w2.alloc (.cells #[.int .i64 s] t)) w.heap.size w2.heap.size 0 1 1 [s] (.slice none 0 0) [] [s]:=by
 have hlt:w.heap.size<w2.heap.size:=hm.lt
 exact⟨le.alloc le.size _,QueI.one w2 le.size s t,World.ownsRow_nil _ _ _ _,⟨D,((Touch.refl (fun _=>False) w2).alloc _).ownsMap hm (fun e=>e),hD⟩,Nat.le_refl _,by omega,by simp [Value.ownBlock]⟩
theorem Inn.pop {x:Int} {r:List Int} (h:Inn w wr M g off n c (x::r) va all met):Inn w wr M g (if c=1 then off else off+1) (n - 1) (c - 1) r va all met:=
 ⟨h.le,h.q.pop,h.row,h.map,h.hM,h.gM,h.ga⟩
theorem Inn.app {A:Option Addr} {c' m:Nat} {news:List It} (h:Inn w wr M g off n c todo va all met) (hm:m=news.length) (hown:wr'.ownsRow w.heap.size 86 2 (.slice A (all.length+m) c') (all.length+m) (itCells all++itCells news)) (hg:wr.grownBy wr' va.ownBlock) (hb:(Value.slice A (all.length+m) c').ownBlock=va.ownBlock∨(Value.slice A (all.length+m) c').ownBlock=some wr.heap.size):
  Inn w wr' M g off n c todo (.slice A (all++news).length c') (all++news) met:=by
 obtain⟨D,m1,m2⟩:=h.map
 subst hm
 have t:Touch (fun k=>va.ownBlock=some k) wr wr':=(Touch.refl _ _).grown hg (fun k e _=>e)
 have hlo: ∀k,va.ownBlock=some k→w.heap.size≤k:=fun k e=>(h.row.lt k e).1
 rw [List.length_append]
 refine⟨h.le.grown hg h.le.size hlo,h.q.touch t h.ga,?_,⟨D,t.ownsMap m1 (own_ne_map h.row m1),m2⟩,h.hM,h.gM,fun e=> ?_⟩
 ·rw [itCells_append,List.length_append];exact hown
 ·rcases hb with hb|hb
  ·exact h.ga (hb▸e)
  ·rw [hb]at e
   injection e with e
   have:=h.q.low.2
   omega
theorem Inn.meet {x:Int} {D':DataW Unit} (h:Inn w wr M g off n c todo va all met) (hm:wr'.ownsMap Tryz.prog 3 (plainElem Tryz.prog 4) M (met.length+1) D') (hD:NumMap D' (met++[x])) (hg:wr.grownBy wr' (some M)):Inn w wr' M g off n c todo va all (met++[x]):=by
 obtain⟨D,m1,m2⟩:=h.map
 have t:Touch (fun k=>k=M) wr wr':=(Touch.refl _ _).grown hg (fun k e _=>by injection e with e;exact e.symm)
 exact⟨h.le.grown hg h.le.size (fun k e=>by injection e with e;have:=h.hM;omega),h.q.touch t h.gM,t.own h.row (fun k hk e=>own_ne_map h.row m1 (by rw [hk,e])),⟨D',by rw [List.length_append];exact hm,hD⟩,h.hM,h.gM,h.ga⟩
theorem Inn.push {x:Int} {g' off' c':Nat} (h:Inn w wr M g off n c todo va all met) (hq:QueI wr' w.heap.size g' off' (n+1) c' (todo++[x])) (t:Touch (fun b=>b=g) wr wr') (hg:g'=g∨wr.heap.size≤g'):Inn w wr' M g' off' (n+1) c' (todo++[x]) va all met:=by
 obtain⟨D,m1,m2⟩:=h.map
 refine⟨t.toBelow (fun k e=>by rw [e];exact h.q.low.1) h.le h.le.size,hq,t.own h.row (fun k hk e=>h.ga (by rw [hk,e])),⟨D,t.ownsMap m1 (fun e=>h.gM e.symm),m2⟩,h.hM,?_,?_⟩
 ·rcases hg with rfl|hg
  ·exact h.gM
  ·have:=m1.lt;omega
 ·rcases hg with rfl|hg
  ·exact h.ga
  ·intro e;have:=(h.row.lt _ e).2;omega
end
theorem next_non {G:GramD} {st:Int} {x:It} (h:isNon G (nextI G st x)=true):behindI G st x=(nextI G st x,true):=by
 unfold nextI at h⊢
 unfold behindI at h⊢
 split
 ·rfl
 ·rename_i hn
  rw [if_neg hn]at h
  exfalso
  unfold isNon topOf at h
  simp only [Bool.and_eq_true,decide_eq_true_eq]at h
  omega
end
section
set_option linter.unusedSimpArgs false
open Go.RowKit Go.Maps
attribute [local irreducible] wpStill wpOne wpPh
def PrepPost (w:World) (F:Nat→Prop) (B:Nat) (A1:Option Addr) (c1:Nat) (A2:Option Addr) (c2:Nat) (A3:Option Addr) (c3 T N R:Nat) (st:Int) (G:GramD) (vs:Value) (m1 m2:Nat) (e:Ending) (w':World):Prop:=
 e= .returned (.tuple #[])∧ ∃P c rs L,w.heap.size≤P∧topOf G+1≤c∧c≤9223372036854775807∧Bd w' F B A1 c1 A2 c2 A3 c3 T N R st G (.slice (some ⟨P,0,none⟩) (topOf G+1) c) vs m1 m2∧RowsI w' P P (topOf G+1) rs L∧
  (∀s:Nat,T<s→s≤topOf G→IsBe G st s (L s)∧(L s).length≤50000)∧Touch (fun b=>b=B) w w'
set_option maxRecDepth 100000 in
set_option maxHeartbeats 8000000 in
theorem auto_prepare {w:World} {F:Nat→Prop} {B:Nat} {A1:Option Addr} {c1:Nat} {A2:Option Addr} {c2:Nat} {A3:Option Addr} {c3 T N R:Nat} {st:Int} {G:GramD} {vb vs:Value} {m1 m2:Nat}
  (h:Bd w F B A1 c1 A2 c2 A3 c3 T N R st G vb vs m1 m2) (hFB: ¬F B) (hT:T=G.terms.length) (hN:G.nons.length≤120) (hTb:G.terms.length≤120) (hR:G.rules.length≤300):
  Calls Tryz.prog 41 #[PtB B] w (PrepPost w F B A1 c1 A2 c2 A3 c3 T N R st G vs m1 m2):=by
 have cT:=fun wr (g:Bd wr F B A1 c1 A2 c2 A3 c3 T N R st G vb vs m1 m2)=>gram_top g.gram st
 have htop:topOf G=G.terms.length+G.nons.length:=rfl
 obtain⟨p,hp⟩: ∃p,p=topOf G:=⟨_,rfl⟩
 unfold PrepPost
 rw [←hp]at cT htop⊢
 obtain⟨q0,q1,q2,q3⟩:=h.cells
 have ct:=cT _ h
 have hF:=h.gram.lt
 have Xh:=hide h;have Xct:=hide ct;have XcT:=hide cT;have Xhp:=hide hp;have Xhtop:=hide htop;have XhFB:=hide hFB;have XhR:=hide hR;have XhN:=hide hN;have XhTb:=hide hTb;have XhT:=hide hT;have XhF:=hide hF;clear h ct cT hp htop hFB hR hN hTb hT hF
 go_enter Tryz.func41,Tryz.ntmps41
 go_wp2_with fail
 refine Xct.out.mono ?_
 rintro e w2 ⟨rfl,b2⟩
 have t2:=Xh.out.below b2
 clear q0 q1 q2 q3 Xct
 have hpb:p≤240:=by have:=Xhtop.out;have:=XhN.out;have:=XhTb.out;omega
 have hmk: ∀w:World,(Instr.makeSlice 99 (.int .i64 ((p:Int)+1)) (.int .i64 ((p:Int)+1))).run Tryz.prog w= .ok (.slice (some ⟨w.heap.size,0,none⟩) (p+1) (p+1)) (w.alloc (.cells (madeCells #[.slice none 0 0] (p+1)) 44)):=fun w=>by
  have:=make_items (p+1) (by omega) w
  push_cast at this
  exact this
 obtain⟨w3,hw3⟩: ∃w3,w3=w2.alloc (.cells (madeCells #[.slice none 0 0] (p+1)) 44):=⟨_,rfl⟩
 have b3:Below w2.heap.size w2 w3:=by rw [hw3];exact(Below.refl _ _).alloc (Nat.le_refl _) _
 have r3:=RowsI.made w2 (p+1) 44
 rw [←hw3]at r3
 have t3:=t2.below b3
 have q4:=(t3.blk.cell 4).trans rfl
 have z4:=t3.blk.frozen 4
 obtain⟨P,hP⟩: ∃P,P=w2.heap.size:=⟨_,rfl⟩
 have hPB: ¬P=B:=by have:=t2.blk.lt;omega
 have tB:Touch (fun b=>b=B) w3 (w3.setCell ⟨B,4,none⟩ (.slice (some ⟨w2.heap.size,0,none⟩) (p+1) (p+1))):=(Touch.refl (fun b=>b=B) w3).setCell (p:=⟨B,4,none⟩) (fun _=>rfl) _
 have t4:Bd (w3.setCell ⟨B,4,none⟩ (.slice (some ⟨w2.heap.size,0,none⟩) (p+1) (p+1))) F B A1 c1 A2 c2 A3 c3 T N R st G (.slice (some ⟨w2.heap.size,0,none⟩) (p+1) (p+1)) vs m1 m2:=⟨t3.gram.touch tB (fun b hb e=>XhFB.out (e▸hb)),t3.blk.put 4 _⟩
 have r4:=r3.touch tB (by rw [←hP];exact hPB) (fun b h1 _ _ e=>by have:=t2.blk.lt;omega)
 have hT4:Touch (fun b=>b=B) w (w3.setCell ⟨B,4,none⟩ (.slice (some ⟨w2.heap.size,0,none⟩) (p+1) (p+1))):=((Touch.of_size (b2.trans (b3.mono b2.size)) (fun b=>b=B))).trans' tB
 have hPlo:w.heap.size≤P:=by rw [hP];exact b2.size
 rw [hw3]at q4 z4
 clear t3 r3 b3 tB Xh
 have hTp:T≤p:=by have:=Xhtop.out;have:=XhT.out;omega
 have Xhnn:=hide (show G.nons.length+T=p by have:=Xhtop.out;have:=XhT.out;omega)
 have Xt2:=hide t2;have Xb2:=hide b2;have XhP:=hide hP;have XhPB:=hide hPB;have Xt4:=hide t4;have Xr4:=hide r4;have XhT4:=hide hT4;have XhPlo:=hide hPlo;clear t2 b2 hP hPB t4 r4 hT4 hPlo;clear Xhtop
 go_upto_region 1 with fail
 rw [←hw3]
 have t4:=Xt4.out
 have r4:=Xr4.out
 have T4:=XhT4.out
 obtain⟨w4,hw4⟩: ∃w4,w4=w3.setCell ⟨B,4,none⟩ (.slice (some ⟨w2.heap.size,0,none⟩) (p+1) (p+1)):=⟨_,rfl⟩
 rw [←hw4]at t4 r4 T4⊢
 rw [←XhP.out]at t4 r4
 obtain⟨q0,q1,q2,q3⟩:=t4.cells
 clear hw4 hw3 Xt4 Xr4 XhT4 q4 z4 hmk Xt2 Xb2 XhP
 have Xt4:=hide t4;have Xr4:=hide r4;have XT4:=hide T4;clear t4 r4 T4
 go_wp2_with fail
 have hmm:= @run_makeMap Tryz.prog
 go_loopw [2] (fun i wr=> ∃(s:Nat) (rs:Nat→Value) (L:Nat→List It),T+1≤s∧s≤p+1∧i= .int .i64 s∧Bd wr F B A1 c1 A2 c2 A3 c3 T N R st G (.slice (some ⟨P,0,none⟩) (p+1) (p+1)) vs m1 m2∧RowsI wr P P (p+1) rs L∧(∀j:Nat,T<j→j<s→IsBe G st j (L j)∧(L j).length≤50000)∧Touch (fun b=>b=B) w wr) (fun i _=>p+1 - (intOf i).toNat)
 case atStart=>exact⟨T+1,_,_,Nat.le_refl _,by omega,by go_num,Xt4.out,Xr4.out,fun j h1 h2=>by omega,XT4.out⟩
 case round=>
  clear q0 q1 q2 q3 Xt4 Xr4 XT4
  obtain⟨s,rs,L,hs1,hs2,rfl,t,rows,hb,tt⟩:=hrel
  obtain⟨q0,q1,q2,q3⟩:=t.cells
  have ct:=gram_top t.gram st
  rw [←Xhp.out]at ct
  have Xt:=hide t;have Xrows:=hide rows;have Xhb:=hide hb;have Xtt:=hide tt;have Xct:=hide ct;clear t rows hb tt ct
  go_wp2_with fail
  refine Xct.out.mono ?_
  rintro e wa ⟨rfl,ba⟩
  have ta:=Xt.out.below ba
  have rowsa:=Xrows.out.below ba
  have tta:=Xtt.out.trans' (Touch.of_size ba (fun b=>b=B))
  clear q0 q1 q2 q3 ba Xt Xrows Xtt Xct
  by_cases hle:s≤p
  ·have hle':(s:Int)≤(p:Int):=by omega
   have hkey:=nkey_some (n:=(s:Int)) (by omega)
   have hsn:isNon G (s:Int)=true:=by unfold isNon;rw [←Xhp.out,←XhT.out,Bool.and_eq_true,decide_eq_true_eq,decide_eq_true_eq];omega
   have hown:=World.ownsMap_made wa Tryz.prog 3 (plainElem (H:=Unit) Tryz.prog 4)
   have Xta:=hide ta;have Xrowsa:=hide rowsa;have Xtta:=hide tta;have Xhsn:=hide hsn;clear ta rowsa tta hsn
   go_wp2_with (refine wpList_insert_own _ rfl _ _ _ 143 rfl 3 4 Tryz.intKeyed Tryz.underlying143 _ wa.heap.size 0 (.map []) rfl hown (by unfold maxLen;omega) _ _ _ rfl rfl hkey _ [] (plainElem_bool Tryz.underlying4 true) ?_)
   intro w6 m6 g6
   have inn0:=Inn.start (w:=wa) (t:=3) m6 (NumMap.empty.put (x:=(s:Int)) (by omega)) (((Below.refl _ wa).alloc (Nat.le_refl _) _).grown g6 (by simp) (fun k e=>by injection e with e;omega))
   obtain⟨Nn,hNn⟩: ∃q,q=G.nons.length:=⟨_,rfl⟩
   clear hkey hown m6 g6 hmm
   have Xinn0:=hide inn0;have XhNn:=hide hNn;clear inn0 hNn
   go_wp2_with fail
   go_loopg [4,5] Nn (fun κ td al wr2=> ∃(done todo:List Int) (all:List It) (g off n c:Nat) (A:Option Addr) (ca:Nat),td= .slice (some ⟨g,off,none⟩) n c∧al= .slice A all.length ca∧Inn wa wr2 wa.heap.size g off n c todo al all (done++todo)∧BgSt G st s done todo all∧Nn≤κ+done.length)
   case atStart=>exact⟨[],[(s:Int)],[],_,0,1,1,none,0,rfl,rfl,Xinn0.out,BgSt.start Xhsn.out,by simp⟩
   case round=>
    clear Xinn0
    obtain⟨done,todo,all,g,off,n,c,A,ca,rfl,rfl,inn,bg,hκ⟩:=hrel
    have hbl:=bg.len
    have hal:=bg.allLen XhR.out
    rw [←XhNn.out]at hbl
    have hN2:Nn≤120:=by rw [XhNn.out];exact XhN.out
    obtain⟨hqn,⟨hnc,hcm⟩,-,-,-⟩:=inn.q
    unfold maxLen at hcm
    obtain⟨la,hla⟩: ∃q,q=all.length:=⟨_,rfl⟩
    obtain⟨ld,hld⟩: ∃q,q=done.length:=⟨_,rfl⟩
    rw [←hla]at hal
    rw [←hld]at hbl hal hκ
    cases todo with
    |nil=>
     have hn0:n=0:=hqn
     subst hn0
     have tb:=Xta.out.touch (Touch.of_below inn.le) (fun b hb e=>by have:=Xta.out.gram.lt b hb;omega) (by have:=Xta.out.blk.lt;omega)
     have rowsb:=Xrowsa.out.touch (Touch.of_below inn.le) (by have:=Xrowsa.out.lt;omega) (fun b _ h2 _ e=>by omega)
     have hall:IsBe G st s all:=BgSt.is bg
     have rdv:RdIt wr (fun b=>P≤b∧b<wr.heap.size∧b≠P) (.slice A all.length ca) all:=(Rd.of_own inn.row).mono (fun b hb=>by
      have h1:=inn.row.lt b hb
      have h2:=Xrowsa.out.lt
      omega)
     have rows2:=rowsb.put (i:=s) (by omega) rdv
     have tB:Touch (fun b=>b=P) wr (wr.setCell ⟨P,s,none⟩ (.slice A all.length ca)):=(Touch.refl (fun b=>b=P) wr).setCell (p:=⟨P,s,none⟩) (fun _=>rfl) _
     have t9:Bd (wr.setCell ⟨P,s,none⟩ (.slice A all.length ca)) F B A1 c1 A2 c2 A3 c3 T N R st G (.slice (some ⟨P,0,none⟩) (p+1) (p+1)) vs m1 m2:=tb.touch tB (fun b hb e=>by have:=Xta.out.gram.lt b hb;have:=XhPlo.out;have:=XhF.out b hb;omega) (fun e=>XhPB.out e.symm)
     have tt9:Touch (fun b=>b=B) w (wr.setCell ⟨P,s,none⟩ (.slice A all.length ca)):=(Xtta.out.trans' (Touch.of_size inn.le (fun b=>b=B))).trans tB (fun i hi e=>by have:=XhPlo.out;omega)
     have f4:=(tb.blk.cell 4).trans rfl
     have g4:=rowsb.cell s (by omega)
     have z4:=rowsb.frz s (by omega)
     have hlen:all.length≤50000:=by rw [←hla];omega
     have hsp:s<p+1:=by omega
     clear tb rowsb rdv tB inn bg hqn
     have Xt9:=hide t9;have Xtt9:=hide tt9;have Xrows2:=hide rows2;have Xhall:=hide hall;have Xhlen:=hide hlen;have Xhla:=hide hla;have Xhld:=hide hld;clear t9 tt9 rows2 hall hlen hla hld
     go_wp2_with fail
     go_roundw
     case rel=>exact⟨s+1,_,_,by omega,by omega,by go_num,Xt9.out,Xrows2.out,fun j h1 h2=>by
       by_cases e:j=s
       ·subst e;rw [upd_same];exact⟨Xhall.out,Xhlen.out⟩
       ·rw [upd_ne e];exact Xhb.out j h1 (by omega),Xtt9.out⟩
     case measure=>simp [intOf];omega
    |cons n0 r=>
     have hc0:wr.cell? ⟨g,off,none⟩=some (.int .i64 n0):=by have:=inn.q.at_ 0 n0 rfl;simpa using this
     have tb:=Xta.out.touch (Touch.of_below inn.le) (fun b hb e=>by have:=Xta.out.gram.lt b hb;omega) (by have:=Xta.out.blk.lt;omega)
     have hol:=of_len (G:=G) (s:=n0)
     have cru:=auto_rules tb n0 (by have:=XhR.out;omega)
     obtain⟨m,hm⟩: ∃q,q=(rulesI (ofOf G n0)).length:=⟨_,rfl⟩
     have hm3:m≤300:=by rw [hm,rules_len];have:=XhR.out;omega
     unfold ItOwn at cru
     rw [←hm]at cru
     clear hol
     simp only [List.length_cons]at hqn hbl
     have hn1:0<n:=by omega
     have inn1:=inn.pop
     have bg1:=bg.take
     have hall:=bg.all_
     clear inn bg
     have Xtb:=hide tb;have Xcru:=hide cru;have Xhm:=hide hm;have Xinn1:=hide inn1;have Xbg1:=hide bg1;have Xhall:=hide hall;have Xhla:=hide hla;have Xhld:=hide hld;have Xhqn:=hide hqn;clear tb cru hm inn1 bg1 hall hla hld hqn
     go_wp2_with fail
     refine Xcru.out.mono ?_
     rintro e w3 ⟨Al,cl,rfl,hown,b3⟩
     have inn3:=Xinn1.out.below b3
     obtain⟨off',hoff⟩: ∃q,q=if c=1 then off else off+1:=⟨_,rfl⟩
     rw [←hoff]at inn3
     have hif:(if c=1 then(some ⟨g,off,none⟩:Option Addr)else some ⟨g,off+1,none⟩)=some ⟨g,off',none⟩:=by rw [hoff];split<;>rfl
     have hg3:g<wr.heap.size:=Xinn1.out.q.low.2
     have hz3:wa.heap.size≤w3.heap.size:=inn3.le.size
     have hrd:RdIt w3 (fun b=>wr.heap.size≤b∧b<w3.heap.size) (.slice Al m cl) (rulesI (ofOf G n0)):=(Rd.of_own hown).mono (fun b hb=>hown.lt b hb)
     have hvl: ∀k,(Value.slice A all.length ca).ownBlock=some k→k<wr.heap.size:=fun k e=>(Xinn1.out.row.lt k e).2
     clear hown hoff Xcru hc0
     obtain⟨L0,hL0⟩: ∃q,q=wr.heap.size:=⟨_,rfl⟩
     obtain⟨L1,hL1⟩: ∃q,q=w3.heap.size:=⟨_,rfl⟩
     have hL01:L0≤L1:=by rw [hL0,hL1];exact b3.size
     have hML:wa.heap.size<L0:=by
      obtain⟨D,mm1,-⟩:=Xinn1.out.map
      rw [hL0];exact mm1.lt
     rw [←hL0,←hL1]at hrd
     rw [←hL0]at hg3 hvl
     clear b3 Xinn1
     have Xinn3:=hide inn3;have Xhrd:=hide hrd;have Xhvl:=hide hvl;have XhL0:=hide hL0;have XhL1:=hide hL1;clear inn3 hrd hvl hL0 hL1
     have hmm:(itCells (rulesI (ofOf G n0))).length=m * 2:=by rw [itCells_length,←Xhm.out]
     have hmone:=itCells_one (rulesI (ofOf G n0))
     have hla2:all.length≤50000:=by have:=Xhla.out;omega
     have Xhmm:=hide hmm;have Xhmone:=hide hmone;clear hmm hmone
     go_wp2_with (at_builtin;refine wp_append _ rfl (.tmp 51) (.tmp 52) _ rfl Tryz.elemItem wa.heap.size _ all.length (itCells all) rfl Xinn3.out.row _ _ (itCells (rulesI (ofOf G n0))) m rfl Xhmm.out Xhrd.out Xhmone.out (by unfold maxLen;omega) (by omega) hz3 ?_)
     intro A8 c8 w8 own8 g8 hb8
     have inn8:=Xinn3.out.app Xhm.out own8 g8 hb8
     have hg8:(wr.heap.size=L0):=XhL0.out.symm
     have hrd8:=Xhrd.out.touch ((Touch.refl (fun k=>(Value.slice A all.length ca).ownBlock=some k) w3).grown g8 (fun k e _=>e)) (fun b hb e=>by have:=Xhvl.out b e;omega)
     have hz8:L1≤w8.heap.size:=by rw [XhL1.out];exact g8.size
     have hgk:0<gk:=by omega
     clear own8 g8 hb8 hif hg8 Xinn3 Xhrd Xhvl Xhmone Xhmm hz3
     have Xhκ:=hide hκ;have Xhgk:=hide hgk;clear hκ hgk
     obtain⟨va,hva⟩: ∃q,q=Value.slice A8 (all++rulesI (ofOf G n0)).length c8:=⟨_,rfl⟩
     obtain⟨all8,hall8⟩: ∃q,q=all++rulesI (ofOf G n0):=⟨_,rfl⟩
     have hvl8:all.length+m=all8.length:=by rw [hall8,List.length_append,←Xhm.out]
     rw [←hall8]at inn8
     have Xinn8:=hide inn8;have Xhrd8:=hide hrd8;have Xhva:=hide hva;have Xhall8:=hide hall8;clear inn8 hrd8 hva hall8
     have e4:done++n0::r=done++[n0]++r:=by simp
     rw [e4]at Xinn8
     rw [hvl8]
     clear e4
     have Xhvl8:=hide hvl8;clear hvl8
     go_wp2_with fail
     go_loopw [4,56] (fun td i wr=> ∃(k:Nat) (todo:List Int) (g off n c:Nat),k≤m∧i= .int .i64 k∧td= .slice (some ⟨g,off,none⟩) n c∧Inn wa wr wa.heap.size g off n c todo (.slice A8 all8.length c8) all8 (done++[n0]++todo)∧BgIn G st s done n0 todo k∧(g<L0∨L1≤g)∧L1≤wr.heap.size∧RdIt wr (fun b=>L0≤b∧b<L1) (.slice Al m cl) (rulesI (ofOf G n0))) (fun _ i _=>m - (intOf i).toNat)
     case atStart=>exact⟨0,r,g,off',n - 1,c - 1,Nat.zero_le _,rfl,rfl,Xinn8.out,Xbg1.out,.inl hg3,hz8,Xhrd8.out⟩
     case round=>
      clear Xinn8 Xbg1 hg3 hz8 Xhrd8 hnc hcm hn1
      obtain⟨k,todo,g,off,n,c,hk,rfl,rfl,inn,bi,hgL,hzL,hrd⟩:=hrel
      have hbl2:=bi.len
      obtain⟨hqn2,⟨hnc,hcm⟩,-,-,-⟩:=inn.q
      unfold maxLen at hcm
      have hN3:n≤120:=by have:=XhN.out;omega
      clear hbl2
      by_cases hlt:k<m
      ·have hlt':(k:Int)<(m:Int):=by omega
       obtain⟨-,-,-,hcell⟩:=RdIt.at_ hrd
       obtain⟨b,bo,rfl,hbb,hcc⟩:=hcell (by omega)
       obtain⟨x,hx⟩: ∃x,(rulesI (ofOf G n0))[k]? =some x:=⟨_,List.getElem?_eq_getElem (by rw [←Xhm.out];exact hlt)⟩
       obtain⟨p0,p1⟩:=hcc k x hx
       obtain⟨ru,hru,rfl⟩:=rules_get hx
       simp only at p0 p1
       obtain⟨wb,hwb⟩: ∃wb,wb=wr.alloc (.cells #[.int .i64 ru,.int .i64 0] 86):=⟨_,rfl⟩
       have bb:Below wr.heap.size wr wb:=by rw [hwb];exact(Below.refl _ _).alloc (Nat.le_refl _) _
       have kb:Blk wb wr.heap.size 86 #[.int .i64 ru,.int .i64 0]:=by rw [hwb];exact Blk.new _ _ _
       have innb:=inn.below bb
       have tb:=Xta.out.touch (Touch.of_below innb.le) (fun b hb e=>by have:=Xta.out.gram.lt b hb;omega) (by have:=Xta.out.blk.lt;omega)
       have cx:=auto_next tb (ru,0) (right_new (List.mem_of_getElem? hru))
       have hrdb:=hrd.touch (Touch.of_size bb (fun _=>False)) (fun _ _ e=>e)
       have hzb:L1≤wb.heap.size:=Nat.le_trans hzL bb.size
       have hnn:=next_non (G:=G) (st:=st) (x:=(ru,0))
       obtain⟨y,hy⟩: ∃y,y=nextI G st (ru,0):=⟨_,rfl⟩
       rw [←hy]at cx hnn
       rw [hwb]at cx
       clear hcell hcc bb hx inn hrd hzL tb hqn2
       have Xinnb:=hide innb;have Xhrdb:=hide hrdb;have Xkb:=hide kb;have Xcx:=hide cx;have Xhru:=hide hru;have Xhnn:=hide hnn;have Xhy:=hide hy;have Xbi:=hide bi;have Xhbb:=hide hbb;clear innb hrdb kb cx hru hnn hy bi hbb
       go_wp2_with fail
       with_reducible refine Xcx.out.mono ?_
       rintro e w4 ⟨rfl,b4⟩
       rw [←hwb]at b4
       have inn4:=Xinnb.out.below b4
       have hrd4:=Xhrdb.out.touch (Touch.of_size b4 (fun _=>False)) (fun _ _ e=>e)
       have hz4:L1≤w4.heap.size:=Nat.le_trans hzb b4.size
       have t4:=Xta.out.touch (Touch.of_below inn4.le) (fun b hb e=>by have:=Xta.out.gram.lt b hb;omega) (by have:=Xta.out.blk.lt;omega)
       have cn:=gram_non t4.gram st y
       obtain⟨q0,q1,q2,q3⟩:=t4.cells
       obtain⟨nb,hnb⟩: ∃nb,nb=isNon G y:=⟨_,rfl⟩
       rw [←hnb]at cn
       clear hwb p0 p1 b4 hzb Xinnb Xhrdb Xkb Xcx t4
       have Xinn4:=hide inn4;have Xhrd4:=hide hrd4;have Xcn:=hide cn;have Xhnb:=hide hnb;clear inn4 hrd4 cn hnb
       go_wp2_with fail
       with_reducible refine Xcn.out.mono ?_
       rintro e w5 ⟨rfl,b5⟩
       have inn5:=Xinn4.out.below b5
       have hrd5:=Xhrd4.out.touch (Touch.of_size b5 (fun _=>False)) (fun _ _ e=>e)
       have hz5:L1≤w5.heap.size:=Nat.le_trans hz4 b5.size
       clear q0 q1 q2 q3 b5 hz4 Xinn4 Xhrd4 Xcn
       cases nb with
       |false=>
        have bi2:=Xbi.out.skip Xhru.out (fun q hq hqn=>by
         exfalso
         have:y=q:=by rw [Xhy.out];unfold nextI;rw [hq]
         rw [←this,←Xhnb.out]at hqn
         cases hqn)
        have Xinn5:=hide inn5;have Xhrd5:=hide hrd5;have Xbi2:=hide bi2;clear inn5 hrd5 bi2
        go_wp2_with fail
        go_roundw
        case rel=>exact⟨k+1,todo,g,off,n,c,by omega,by go_num,rfl,Xinn5.out,Xbi2.out,hgL,hz5,Xhrd5.out⟩
        case measure=>simp [intOf];omega
       |true=>
        have hbe:=Xhnn.out Xhnb.out.symm
        have hyb:(T:Int)<y∧y≤(p:Int):=by
         have:=Xhnb.out.symm
         unfold isNon at this
         rw [←Xhp.out,←XhT.out,Bool.and_eq_true,decide_eq_true_eq,decide_eq_true_eq]at this
         exact this
        have hyk: -9223372036854775808≤y∧y≤9223372036854775807:=by omega
        obtain⟨D,mm1,mm2⟩:=inn5.map
        have hlk:=mm2.look mm1 hyk
        obtain⟨im,him⟩: ∃im,im=decide (y∈done++[n0]++todo):=⟨_,rfl⟩
        rw [←him]at hlk
        cases im with
        |true=>
         have bi2:=Xbi.out.skip Xhru.out (fun q hq hqn=>by
          have:y=q:=by rw [Xhy.out];unfold nextI;rw [hq]
          rw [←this]
          exact of_decide_eq_true him.symm)
         clear mm1 mm2
         have Xinn5:=hide inn5;have Xhrd5:=hide hrd5;have Xbi2:=hide bi2;have Xhbe:=hide hbe;have Xhyb:=hide hyb;have Xhyk:=hide hyk;have Xhim:=hide him;clear inn5 hrd5 bi2 hbe hyb hyk him
         go_wp2_with fail
         go_roundw
         case rel=>exact⟨k+1,todo,g,off,n,c,by omega,by go_num,rfl,Xinn5.out,Xbi2.out,hgL,hz5,Xhrd5.out⟩
         case measure=>simp [intOf];omega
        |false=>
         have bi2:=Xbi.out.put Xhru.out hbe Xhnb.out.symm (of_decide_eq_false him.symm)
         have hkey:=nkey_some hyk
         have hlm:(done++[n0]++todo).length≤1000:=by
          have:=Xbi.out.len
          have:=XhN.out
          simp only [List.length_append,List.length_singleton]
          omega
         have Xinn5:=hide inn5;have Xhrd5:=hide hrd5;have Xbi2:=hide bi2;have Xhbe:=hide hbe;have Xhyb:=hide hyb;have Xhim:=hide him;have Xmm2:=hide mm2;clear inn5 hrd5 bi2 hbe hyb him mm2
         go_wp2_with (at_mapUpdate;refine wpList_mapUpdate_own _ rfl _ _ _ 143 rfl 3 4 Tryz.intKeyed Tryz.underlying143 _ wa.heap.size (done++[n0]++todo).length D rfl mm1 (by unfold maxLen;omega) _ _ _ rfl rfl hkey _ [] (plainElem_bool Tryz.underlying4 true) ?_)
         intro w6 m6 g6
         rw [show done.length+(todo.length+1)+1=(done++[n0]++todo).length+1 by simp]at m6
         have inn6:=Xinn5.out.meet m6 (Xmm2.out.put hyk) g6
         have hrd6:=Xhrd5.out.touch ((Touch.refl (fun k=>k=wa.heap.size) w5).grown g6 (fun k e _=>by injection e with e;exact e.symm)) (fun b hb e=>by omega)
         have hz6:L1≤w6.heap.size:=Nat.le_trans hz5 g6.size
         have b7:Below w6.heap.size w6 (w6.alloc (.cells #[.int .i64 y] 3)):=(Below.refl _ _).alloc (Nat.le_refl _) _
         have inn7:=inn6.below b7
         have hrd7:=hrd6.touch (Touch.of_size b7 (fun _=>False)) (fun _ _ e=>e)
         have hc7:(w6.alloc (.cells #[.int .i64 y] 3)).cell? ⟨w6.heap.size,0,none⟩=some (.int .i64 y):=(Blk.new w6 3 #[.int .i64 y]).cell 0
         have hz7:wa.heap.size≤(w6.alloc (.cells #[.int .i64 y] 3)).heap.size:=inn7.le.size
         clear m6 g6 inn6 hrd6 b7 mm1 hlk hkey Xmm2 Xinn5 Xhrd5 hz5 hlm
         have Xinn7:=hide inn7;have Xhrd7:=hide hrd7;have Xhyk:=hide hyk;have Xhc7:=hide hc7;clear inn7 hrd7 hyk hc7
         go_wp2_with (at_builtin;refine wp_push rfl (.tmp 77) (.tmp 79) rfl Xinn7.out.q rfl rfl Xhc7.out (by omega) hz7 ?_)
         intro g' of' c' w8 q8 t8 hg8
         have inn8:=Xinn7.out.push q8 t8 (hg8.imp id (fun h=>by simpa using h))
         have hrd8:=Xhrd7.out.touch t8 (fun b hb e=>by omega)
         have hz8:L1≤w8.heap.size:=by
          have:=t8.size
          simp at this
          omega
         have hgL8:g'<L0∨L1≤g':=by
          rcases hg8 with e|e
          ·rw [e];exact hgL
          ·right;omega
         rw [List.append_assoc]at inn8
         clear q8 t8 hg8 Xinn7 Xhrd7 Xhc7 hz7
         have Xinn8:=hide inn8;have Xhrd8:=hide hrd8;clear inn8 hrd8
         go_wp2_with fail
         go_roundw
         case rel=>exact⟨k+1,todo++[y],g',of',n+1,c',by omega,by go_num,rfl,Xinn8.out,Xbi2.out,hgL8,hz8,Xhrd8.out⟩
         case measure=>simp [intOf];omega
      ·have hlt': ¬(k:Int)<(m:Int):=by omega
       have hkm:k=(ofOf G n0).length:=by have:=Xhm.out;rw [rules_len]at this;omega
       have bg2:=BgIn.back (hkm▸bi) Xhall.out
       rw [←Xhall8.out]at bg2
       clear hqn2 bi
       have Xinn:=hide inn;have Xhrd:=hide hrd;have Xbg2:=hide bg2;have Xhkm:=hide hkm;clear inn hrd bg2 hkm
       go_wp2_with fail
       go_roundg (gk - 1)
       case measure=>have:=Xhgk.out;omega
       case rel=>exact⟨done++[n0],todo,all8,g,off,n,c,A8,c8,rfl,rfl,Xinn.out,Xbg2.out,by have:=Xhκ.out;have:=Xhgk.out;have:=Xhld.out;simp only [List.length_append,List.length_singleton];omega⟩
  ·have hle': ¬(s:Int)≤(p:Int):=by omega
   clear hmm
   have Xta:=hide ta;have Xrowsa:=hide rowsa;have Xtta:=hide tta;clear ta rowsa tta
   go_wp2_with fail
   go_end0
   exact⟨rfl,P,p+1,rs,L,XhPlo.out,Nat.le_refl _,by omega,Xta.out,Xrowsa.out,fun j h1 h2=>Xhb.out j h1 (by omega),Xtta.out⟩
end
end Go.Proofs.YtalbfonkhpeajaaGreat

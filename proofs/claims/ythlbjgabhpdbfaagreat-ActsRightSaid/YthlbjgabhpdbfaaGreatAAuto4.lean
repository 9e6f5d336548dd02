/- The automaton: rows of items; what stands while it is gathered what begins with a nonterminal. -/
import Derived.Test.YthlbjgabhpdbfaaGreatAAuto1
import Derived.Test.YthlbjgabhpdbfaaGreatAG7
import Derived.Deep.Cut
import Derived.Deep.OwnRows
import Derived.Test.YthlbjgabhpdbfaaGreatAItemLay
namespace Go.Proofs.YthlbjgabhpdbfaaGreat
set_option linter.unusedVariables false
section
set_option linter.unusedSimpArgs false
open Go.RowKit Go.Maps
attribute [local irreducible] wpStill wpOne wpPh
structure RowsI (w:World) (lo P n:Nat) (vs:Nat->Value) (L:Nat->List It):Prop where
 cell: ∀i,i<n->w.cell? ⟨P,i,none⟩=some (vs i)
 frz: ∀i,i<n->w.frozen? ⟨P,i,none⟩=false
 rd: ∀i,i<n->RdIt w (fun b=>lo<=b/\b<w.heap.size/\b≠P) (vs i) (L i)
 lt:P<w.heap.size
def upd {X:Type} (f:Nat->X) (i:Nat) (x:X):Nat->X:=fun j=>if j=i then x else f j
theorem upd_same {X:Type} (f:Nat->X) (i:Nat) (x:X):upd f i x i=x:=if_pos rfl
theorem upd_ne {X:Type} {f:Nat->X} {i j:Nat} {x:X} (h:j≠i):upd f i x j=f j:=if_neg h
section
variable {w w' : World} {lo P n : Nat} {vs : Nat -> Value} {L : Nat -> List It}
theorem RowsI.touch {S:Nat->Prop} (h:RowsI w lo P n vs L) (ht:Touch S w w') (hP: ¬S P) (hS: ∀b,lo<=b->b<w.heap.size->b≠P-> ¬S b):RowsI w' lo P n vs L:=
 ⟨fun i hi=>ht.cell (h.cell i hi) hP,fun i hi=>(World.frozen?_of_block (a:=⟨P,i,none⟩) (ht.block P h.lt hP)).trans (h.frz i hi),fun i hi=>((h.rd i hi).touch ht (fun b hb=>hS b hb.1 hb.2.1 hb.2.2)).mono (fun b hb=>⟨hb.1,Nat.lt_of_lt_of_le hb.2.1 ht.size,hb.2.2⟩),Nat.lt_of_lt_of_le h.lt ht.size⟩
theorem RowsI.below (h:RowsI w lo P n vs L) (hb:Below w.heap.size w w'):RowsI w' lo P n vs L:=h.touch (Touch.of_size hb (fun _=>False)) (fun e=>e) (fun _ _ _ _ e=>e)
theorem RowsI.put (h:RowsI w lo P n vs L) {i:Nat} (hi:i<n) {v:Value} {l:List It} (hv:RdIt w (fun b=>lo<=b/\b<w.heap.size/\b≠P) v l):RowsI (w.setCell ⟨P,i,none⟩ v) lo P n (upd vs i v) (upd L i l):=by
 have hsz:(w.setCell ⟨P,i,none⟩ v).heap.size=w.heap.size:=by simp [World.setCell]
 have tt:Touch (fun b=>b=P) w (w.setCell ⟨P,i,none⟩ v):=(Touch.refl (fun b=>b=P) w).setCell (p:=⟨P,i,none⟩) (fun _=>rfl) _
 refine⟨fun j hj=> ?_,fun j hj=>(World.frozen?_setCell ..).trans (h.frz j hj),fun j hj=> ?_,by rw [hsz];exact h.lt⟩
 ·by_cases e:j=i
  ·subst e
   rw [upd_same]
   exact World.cell?_setCell_same' _ _ _ (by rw [h.cell j hj];rfl)
  ·rw [upd_ne e,World.cell?_setCell_other _ _ _ _ (fun ea=>by injection ea with _ ea;exact e ea.symm)]
   exact h.cell j hj
 ·rw [hsz]
  by_cases e:j=i
  ·subst e
   rw [upd_same,upd_same]
   exact hv.touch tt (fun b hb e=>hb.2.2 e)
  ·rw [upd_ne e,upd_ne e]
   exact(h.rd j hj).touch tt (fun b hb e=>hb.2.2 e)
end
theorem Tryz.infoItems:(Tryz.prog.info? 109).map (fun i=>(i.zero,i.size,i.bytes))=some (some (.slice none 0 0),1,24):=by kernel_rfl
theorem make_items (n:Nat) (hn:n<=65536) (w:World):(Instr.makeSlice 122 (.int .i64 (n:Int)) (.int .i64 (n:Int))).run Tryz.prog w= .ok (.slice (some ⟨w.heap.size,0,none⟩) n n) (w.alloc (.cells (madeCells #[.slice none 0 0] n) 109)):=
 run_make_row' _ _ _ 24 Tryz.underlying122 Tryz.infoItems rfl .i64 .i64 n (by omega) (by omega) w
theorem made_item (z:Value) (n i:Nat) (hi:i<n):(madeCells #[z] n)[i]? =some z:=by
 unfold madeCells
 simp [hi,Nat.mod_one]
theorem RowsI.made (w:World) (n:Nat) (t:TypeId):RowsI (w.alloc (.cells (madeCells #[.slice none 0 0] n) t)) w.heap.size w.heap.size n (fun _=> .slice none 0 0) (fun _=>[]):=by
 have k:Blk (w.alloc (.cells (madeCells #[.slice none 0 0] n) t)) w.heap.size t (madeCells #[.slice none 0 0] n):=Blk.new _ _ _
 exact⟨fun i hi=>(k.cell i).trans (made_item _ _ _ hi),fun i _=>k.frozen i,fun i _=>Rd.nil _ _ _,k.lt⟩
theorem wpList_insert_own {H:Type} {P:Program} (w:World) {ops:Array Oper} {rest:List Oper} {o:Oper} {a:Act} {Q:Exit->Act->World->Prop}
  (hg:o.guard=none) (m x v:Operand) (t:TypeId) (hop:o.op=Op.insert t m x v)
  (k e:TypeId) (K:Keyed P k) (ht:P.underlying t=some (.map k e)) (R:Value->Option (DataW H×List MemPlace)) (b n:Nat) (D:DataW H)
  (hm:a.eval m= .map (some b)) (hown:w.ownsMap P k R b n D) (hn:n<maxLen) (key val:Value) (kl:Lit) (hx:a.eval x=key) (hv:a.eval v=val) (hkey:keyOf P k key=some kl)
  (d:DataW H) (ps:List MemPlace) (hval:R val=some (d,ps))
  (hK: ∀w',w'.ownsMap P k R b (n+1) (D.put kl d)->w.grownBy w' (some b)->wpList P ops Q rest (a.put o.dst undef) w'):
  wpList P ops Q (o::rest) a w:=by
 refine wpList_plain hg fun K' hK'=> ?_
 obtain⟨w',hrun,r1,r2⟩:=hown.update K ht hn hkey hval
 unfold Oper.wp
 simp [execOp,hop,hm,hx,hv,hrun,Result.andThen]
 exact hK' _ _ (hK w' r1 r2)
structure Inn (w wr:World) (M g off n c:Nat) (todo:List Int) (va:Value) (all:List It) (met:List Int):Prop where
 le:Below w.heap.size w wr
 q:QueI wr w.heap.size g off n c todo
 row:wr.ownsRow w.heap.size 226 2 va all.length (itCells all)
 map: ∃D:DataW Unit,wr.ownsMap Tryz.prog 3 (plainElem Tryz.prog 4) M met.length D/\NumMap D met
 hM:w.heap.size<=M
 gM:g≠M
 ga:va.ownBlock≠some g
section
variable {w wr wr' : World} {M g off n c : Nat} {todo : List Int} {va : Value} {all : List It} {met : List Int}
theorem Inn.below (h:Inn w wr M g off n c todo va all met) (hb:Below wr.heap.size wr wr'):Inn w wr' M g off n c todo va all met:=by
 obtain⟨D,m1,m2⟩:=h.map
 exact⟨h.le.trans (hb.mono h.le.size),h.q.below hb,own_below' h.row hb,⟨D,(Touch.of_size hb (fun _=>False)).ownsMap m1 (fun e=>e),m2⟩,h.hM,h.gM,h.ga⟩
theorem Inn.start {w2:World} {s:Int} {D:DataW Unit} {t:TypeId} (hm:w2.ownsMap Tryz.prog 3 (plainElem Tryz.prog 4) w.heap.size 1 D) (hD:NumMap D [s]) (le:Below w.heap.size w w2):
  Inn w (w2.alloc (.cells #[.int .i64 s] t)) w.heap.size w2.heap.size 0 1 1 [s] (.slice none 0 0) [] [s]:=by
 have hlt:w.heap.size<w2.heap.size:=hm.lt
 exact⟨le.alloc le.size _,QueI.one w2 le.size s t,World.ownsRow_nil _ _ _ _,⟨D,((Touch.refl (fun _=>False) w2).alloc _).ownsMap hm (fun e=>e),hD⟩,Nat.le_refl _,by omega,by simp [Value.ownBlock]⟩
theorem Inn.pop {x:Int} {r:List Int} (h:Inn w wr M g off n c (x::r) va all met):Inn w wr M g (if c=1 then off else off+1) (n - 1) (c - 1) r va all met:=
 ⟨h.le,h.q.pop,h.row,h.map,h.hM,h.gM,h.ga⟩
theorem Inn.app {A:Option Addr} {c' m:Nat} {news:List It} (h:Inn w wr M g off n c todo va all met) (hm:m=news.length) (hown:wr'.ownsRow w.heap.size 226 2 (.slice A (all.length+m) c') (all.length+m) (itCells all++itCells news)) (hg:wr.grownBy wr' va.ownBlock) (hb:(Value.slice A (all.length+m) c').ownBlock=va.ownBlock\/(Value.slice A (all.length+m) c').ownBlock=some wr.heap.size):
  Inn w wr' M g off n c todo (.slice A (all++news).length c') (all++news) met:=by
 obtain⟨D,m1,m2⟩:=h.map
 subst hm
 have t:Touch (fun k=>va.ownBlock=some k) wr wr':=(Touch.refl _ _).grown hg (fun k e _=>e)
 have hlo: ∀k,va.ownBlock=some k->w.heap.size<=k:=fun k e=>(h.row.lt k e).1
 rw [List.length_append]
 refine⟨h.le.grown hg h.le.size hlo,h.q.touch t h.ga,?_,⟨D,t.ownsMap m1 (own_ne_map h.row m1),m2⟩,h.hM,h.gM,fun e=> ?_⟩
 ·rw [itCells_append,List.length_append];exact hown
 ·rcases hb with hb|hb
  ·exact h.ga (hb▸e)
  ·rw [hb]at e
   injection e with e
   have:=h.q.low.2
   omega
theorem Inn.meet {x:Int} {D':DataW Unit} (h:Inn w wr M g off n c todo va all met) (hm:wr'.ownsMap Tryz.prog 3 (plainElem Tryz.prog 4) M (met.length+1) D') (hD:NumMap D' (met++[x])) (hg:wr.grownBy wr' (some M)):Inn w wr' M g off n c todo va all (met++[x]):=by
 obtain⟨D,m1,m2⟩:=h.map
 have t:Touch (fun k=>k=M) wr wr':=(Touch.refl _ _).grown hg (fun k e _=>by injection e with e;exact e.symm)
 exact⟨h.le.grown hg h.le.size (fun k e=>by injection e with e;have:=h.hM;omega),h.q.touch t h.gM,t.own h.row (fun k hk e=>own_ne_map h.row m1 (by rw [hk,e])),⟨D',by rw [List.length_append];exact hm,hD⟩,h.hM,h.gM,h.ga⟩
theorem Inn.push {x:Int} {g' off' c':Nat} (h:Inn w wr M g off n c todo va all met) (hq:QueI wr' w.heap.size g' off' (n+1) c' (todo++[x])) (t:Touch (fun b=>b=g) wr wr') (hg:g'=g\/wr.heap.size<=g'):Inn w wr' M g' off' (n+1) c' (todo++[x]) va all met:=by
 obtain⟨D,m1,m2⟩:=h.map
 refine⟨t.toBelow (fun k e=>by rw [e];exact h.q.low.1) h.le h.le.size,hq,t.own h.row (fun k hk e=>h.ga (by rw [hk,e])),⟨D,t.ownsMap m1 (fun e=>h.gM e.symm),m2⟩,h.hM,?_,?_⟩
 ·rcases hg with rfl|hg
  ·exact h.gM
  ·have:=m1.lt;omega
 ·rcases hg with rfl|hg
  ·exact h.ga
  ·intro e;have:=(h.row.lt _ e).2;omega
end
theorem next_non {G:GramD} {st:Int} {x:It} (h:isNon G (nextI G st x)=true):behindI G st x=(nextI G st x,true):=by
 unfold nextI at h⊢
 unfold behindI at h⊢
 split
 ·rfl
 ·rename_i hn
  rw [if_neg hn]at h
  exfalso
  unfold isNon topOf at h
  simp only [Bool.and_eq_true,decide_eq_true_eq]at h
  omega
end
section
set_option linter.unusedSimpArgs false
open Go.RowKit Go.Maps
attribute [local irreducible] wpStill wpOne wpPh
def PrepPost (w:World) (F:Nat->Prop) (B:Nat) (A1:Option Addr) (c1:Nat) (A2:Option Addr) (c2:Nat) (A3:Option Addr) (c3 T N R:Nat) (st:Int) (G:GramD) (vs:Value) (m1 m2:Nat) (e:Ending) (w':World):Prop:=
 e= .returned (.tuple #[])/\ ∃P c rs L,w.heap.size<=P/\topOf G+1<=c/\c<=9223372036854775807/\Bd w' F B A1 c1 A2 c2 A3 c3 T N R st G (.slice (some ⟨P,0,none⟩) (topOf G+1) c) vs m1 m2/\RowsI w' P P (topOf G+1) rs L/\
  (∀s:Nat,T<s->s<=topOf G->IsBe G st s (L s)/\(L s).length<=50000)/\Touch (fun b=>b=B) w w'
set_option maxRecDepth 100000 in
set_option maxHeartbeats 8000000 in
theorem auto_prepare {w:World} {F:Nat->Prop} {B:Nat} {A1:Option Addr} {c1:Nat} {A2:Option Addr} {c2:Nat} {A3:Option Addr} {c3 T N R:Nat} {st:Int} {G:GramD} {vb vs:Value} {m1 m2:Nat}
  (h:Bd w F B A1 c1 A2 c2 A3 c3 T N R st G vb vs m1 m2) (hFB: ¬F B) (hT:T=G.terms.length) (hN:G.nons.length<=120) (hTb:G.terms.length<=120) (hR:G.rules.length<=300):
  Calls Tryz.prog 76 #[PtB B] w (PrepPost w F B A1 c1 A2 c2 A3 c3 T N R st G vs m1 m2):=by
 have cT:=fun wr (g:Bd wr F B A1 c1 A2 c2 A3 c3 T N R st G vb vs m1 m2)=>gram_top g.gram st
 have htop:topOf G=G.terms.length+G.nons.length:=rfl
 obtain⟨p,hp⟩: ∃p,p=topOf G:=⟨_,rfl⟩
 unfold PrepPost
 rw [<-hp]at cT htop⊢
 obtain⟨q0,q1,q2,q3⟩:=h.cells
 have ct:=cT _ h
 have hF:=h.gram.lt
 obtain⟨Xh,Xct,XcT,Xhp,Xhtop,XhFB,XhR,XhN,XhTb,XhT,XhF⟩:=HqZ11 h ct cT hp htop hFB hR hN hTb hT hF;clear h ct cT hp htop hFB hR hN hTb hT hF
 go_enter Tryz.func76,Tryz.ntmps76
 go_wp2_with fail
 refine Xct.out.mono ?_
 rintro e w2 ⟨rfl,b2⟩
 have t2:=Xh.out.below b2
 clear q0 q1 q2 q3 Xct
 have hpb:p<=240:=by have:=Xhtop.out;have:=XhN.out;have:=XhTb.out;omega
 have hmk: ∀w:World,(Instr.makeSlice 122 (.int .i64 ((p:Int)+1)) (.int .i64 ((p:Int)+1))).run Tryz.prog w= .ok (.slice (some ⟨w.heap.size,0,none⟩) (p+1) (p+1)) (w.alloc (.cells (madeCells #[.slice none 0 0] (p+1)) 109)):=fun w=>by
  have:=make_items (p+1) (by omega) w
  push_cast at this
  exact this
 obtain⟨w3,hw3⟩: ∃w3,w3=w2.alloc (.cells (madeCells #[.slice none 0 0] (p+1)) 109):=⟨_,rfl⟩
 have b3:Below w2.heap.size w2 w3:=by rw [hw3];exact(Below.refl _ _).alloc (Nat.le_refl _) _
 have r3:=RowsI.made w2 (p+1) 109
 rw [<-hw3]at r3
 have t3:=t2.below b3
 have q4:=(t3.blk.cell 4).trans rfl
 have z4:=t3.blk.frozen 4
 obtain⟨P,hP⟩: ∃P,P=w2.heap.size:=⟨_,rfl⟩
 have hPB: ¬P=B:=by have:=t2.blk.lt;omega
 have tB:Touch (fun b=>b=B) w3 (w3.setCell ⟨B,4,none⟩ (.slice (some ⟨w2.heap.size,0,none⟩) (p+1) (p+1))):=(Touch.refl (fun b=>b=B) w3).setCell (p:=⟨B,4,none⟩) (fun _=>rfl) _
 have t4:Bd (w3.setCell ⟨B,4,none⟩ (.slice (some ⟨w2.heap.size,0,none⟩) (p+1) (p+1))) F B A1 c1 A2 c2 A3 c3 T N R st G (.slice (some ⟨w2.heap.size,0,none⟩) (p+1) (p+1)) vs m1 m2:=⟨t3.gram.touch tB (fun b hb e=>XhFB.out (e▸hb)),t3.blk.put 4 _⟩
 have r4:=r3.touch tB (by rw [<-hP];exact hPB) (fun b h1 _ _ e=>by have:=t2.blk.lt;omega)
 have hT4:Touch (fun b=>b=B) w (w3.setCell ⟨B,4,none⟩ (.slice (some ⟨w2.heap.size,0,none⟩) (p+1) (p+1))):=((Touch.of_size (b2.trans (b3.mono b2.size)) (fun b=>b=B))).trans' tB
 have hPlo:w.heap.size<=P:=by rw [hP];exact b2.size
 rw [hw3]at q4 z4
 clear t3 r3 b3 tB Xh
 have hTp:T<=p:=by have:=Xhtop.out;have:=XhT.out;omega
 have Xhnn:=hide (show G.nons.length+T=p by have:=Xhtop.out;have:=XhT.out;omega)
 obtain⟨Xt2,Xb2,XhP,XhPB,Xt4,Xr4,XhT4,XhPlo⟩:=HqZ8 t2 b2 hP hPB t4 r4 hT4 hPlo;clear t2 b2 hP hPB t4 r4 hT4 hPlo;clear Xhtop
 go_upto_region 1 with fail
 rw [<-hw3]
 have t4:=Xt4.out
 have r4:=Xr4.out
 have T4:=XhT4.out
 obtain⟨w4,hw4⟩: ∃w4,w4=w3.setCell ⟨B,4,none⟩ (.slice (some ⟨w2.heap.size,0,none⟩) (p+1) (p+1)):=⟨_,rfl⟩
 rw [<-hw4]at t4 r4 T4⊢
 rw [<-XhP.out]at t4 r4
 obtain⟨q0,q1,q2,q3⟩:=t4.cells
 clear hw4 hw3 Xt4 Xr4 XhT4 q4 z4 hmk Xt2 Xb2 XhP
 obtain⟨Xt4,Xr4,XT4⟩:=HqZ3 t4 r4 T4;clear t4 r4 T4
 go_wp2_with fail
 have hmm:= @run_makeMap Tryz.prog
 go_loopw [2] (fun i wr=> ∃(s:Nat) (rs:Nat->Value) (L:Nat->List It),T+1<=s/\s<=p+1/\i= .int .i64 s/\Bd wr F B A1 c1 A2 c2 A3 c3 T N R st G (.slice (some ⟨P,0,none⟩) (p+1) (p+1)) vs m1 m2/\RowsI wr P P (p+1) rs L/\(∀j:Nat,T<j->j<s->IsBe G st j (L j)/\(L j).length<=50000)/\Touch (fun b=>b=B) w wr) (fun i _=>p+1 - (intOf i).toNat)
 case atStart=>exact⟨T+1,_,_,Nat.le_refl _,by omega,by go_num,Xt4.out,Xr4.out,fun j h1 h2=>by omega,XT4.out⟩
 case round=>
  clear q0 q1 q2 q3 Xt4 Xr4 XT4
  obtain⟨s,rs,L,hs1,hs2,rfl,t,rows,hb,tt⟩:=hrel
  obtain⟨q0,q1,q2,q3⟩:=t.cells
  have ct:=gram_top t.gram st
  rw [<-Xhp.out]at ct
  obtain⟨Xt,Xrows,Xhb,Xtt,Xct⟩:=HqZ5 t rows hb tt ct;clear t rows hb tt ct
  go_wp2_with fail
  refine Xct.out.mono ?_
  rintro e wa ⟨rfl,ba⟩
  have ta:=Xt.out.below ba
  have rowsa:=Xrows.out.below ba
  have tta:=Xtt.out.trans' (Touch.of_size ba (fun b=>b=B))
  clear q0 q1 q2 q3 ba Xt Xrows Xtt Xct
  by_cases hle:s<=p
  ·have hle':(s:Int)<=(p:Int):=by omega
   have hkey:=nkey_some (n:=(s:Int)) (by omega)
   have hsn:isNon G (s:Int)=true:=by unfold isNon;rw [<-Xhp.out,<-XhT.out,Bool.and_eq_true,decide_eq_true_eq,decide_eq_true_eq];omega
   have hown:=World.ownsMap_made wa Tryz.prog 3 (plainElem (H:=Unit) Tryz.prog 4)
   obtain⟨Xta,Xrowsa,Xtta,Xhsn⟩:=HqZ4 ta rowsa tta hsn;clear ta rowsa tta hsn
   go_wp2_with (refine wpList_insert_own _ rfl _ _ _ 223 rfl 3 4 Tryz.intKeyed Tryz.underlying223 _ wa.heap.size 0 (.map []) rfl hown (by unfold maxLen;omega) _ _ _ rfl rfl hkey _ [] (plainElem_bool Tryz.underlying4 true) ?_)
   intro w6 m6 g6
   have inn0:=Inn.start (w:=wa) (t:=3) m6 (NumMap.empty.put (x:=(s:Int)) (by omega)) (((Below.refl _ wa).alloc (Nat.le_refl _) _).grown g6 (by simp) (fun k e=>by injection e with e;omega))
   obtain⟨Nn,hNn⟩: ∃q,q=G.nons.length:=⟨_,rfl⟩
   clear hkey hown m6 g6 hmm
   obtain⟨Xinn0,XhNn⟩:=HqZ2 inn0 hNn;clear inn0 hNn
   go_wp2_with fail
   go_loopg [4,5] Nn (fun κ td al wr2=> ∃(done todo:List Int) (all:List It) (g off n c:Nat) (A:Option Addr) (ca:Nat),td= .slice (some ⟨g,off,none⟩) n c/\al= .slice A all.length ca/\Inn wa wr2 wa.heap.size g off n c todo al all (done++todo)/\BgSt G st s done todo all/\Nn<=κ+done.length)
   case atStart=>exact⟨[],[(s:Int)],[],_,0,1,1,none,0,rfl,rfl,Xinn0.out,BgSt.start Xhsn.out,by simp⟩
   case round=>
    clear Xinn0
    obtain⟨done,todo,all,g,off,n,c,A,ca,rfl,rfl,inn,bg,hκ⟩:=hrel
    have hbl:=bg.len
    have hal:=bg.allLen XhR.out
    rw [<-XhNn.out]at hbl
    have hN2:Nn<=120:=by rw [XhNn.out];exact XhN.out
    obtain⟨hqn,⟨hnc,hcm⟩,-,-,-⟩:=inn.q
    unfold maxLen at hcm
    obtain⟨la,hla⟩: ∃q,q=all.length:=⟨_,rfl⟩
    obtain⟨ld,hld⟩: ∃q,q=done.length:=⟨_,rfl⟩
    rw [<-hla]at hal
    rw [<-hld]at hbl hal hκ
    cases todo with
    |nil=>
     have hn0:n=0:=hqn
     subst hn0
     have tb:=Xta.out.touch (Touch.of_below inn.le) (fun b hb e=>by have:=Xta.out.gram.lt b hb;omega) (by have:=Xta.out.blk.lt;omega)
     have rowsb:=Xrowsa.out.touch (Touch.of_below inn.le) (by have:=Xrowsa.out.lt;omega) (fun b _ h2 _ e=>by omega)
     have hall:IsBe G st s all:=BgSt.is bg
     have rdv:RdIt wr (fun b=>P<=b/\b<wr.heap.size/\b≠P) (.slice A all.length ca) all:=(Rd.of_own inn.row).mono (fun b hb=>by
      have h1:=inn.row.lt b hb
      have h2:=Xrowsa.out.lt
      omega)
     have rows2:=rowsb.put (i:=s) (by omega) rdv
     have tB:Touch (fun b=>b=P) wr (wr.setCell ⟨P,s,none⟩ (.slice A all.length ca)):=(Touch.refl (fun b=>b=P) wr).setCell (p:=⟨P,s,none⟩) (fun _=>rfl) _
     have t9:Bd (wr.setCell ⟨P,s,none⟩ (.slice A all.length ca)) F B A1 c1 A2 c2 A3 c3 T N R st G (.slice (some ⟨P,0,none⟩) (p+1) (p+1)) vs m1 m2:=tb.touch tB (fun b hb e=>by have:=Xta.out.gram.lt b hb;have:=XhPlo.out;have:=XhF.out b hb;omega) (fun e=>XhPB.out e.symm)
     have tt9:Touch (fun b=>b=B) w (wr.setCell ⟨P,s,none⟩ (.slice A all.length ca)):=(Xtta.out.trans' (Touch.of_size inn.le (fun b=>b=B))).trans tB (fun i hi e=>by have:=XhPlo.out;omega)
     have f4:=(tb.blk.cell 4).trans rfl
     have g4:=rowsb.cell s (by omega)
     have z4:=rowsb.frz s (by omega)
     have hlen:all.length<=50000:=by rw [<-hla];omega
     have hsp:s<p+1:=by omega
     clear tb rowsb rdv tB inn bg hqn
     obtain⟨Xt9,Xtt9,Xrows2,Xhall,Xhlen,Xhla,Xhld⟩:=HqZ7 t9 tt9 rows2 hall hlen hla hld;clear t9 tt9 rows2 hall hlen hla hld
     go_wp2_with fail
     go_roundw
     case rel=>exact⟨s+1,_,_,by omega,by omega,by go_num,Xt9.out,Xrows2.out,fun j h1 h2=>by
       by_cases e:j=s
       ·subst e;rw [upd_same];exact⟨Xhall.out,Xhlen.out⟩
       ·rw [upd_ne e];exact Xhb.out j h1 (by omega),Xtt9.out⟩
     case measure=>simp [intOf];omega
    |cons n0 r=>
     have hc0:wr.cell? ⟨g,off,none⟩=some (.int .i64 n0):=by have:=inn.q.at_ 0 n0 rfl;simpa using this
     have tb:=Xta.out.touch (Touch.of_below inn.le) (fun b hb e=>by have:=Xta.out.gram.lt b hb;omega) (by have:=Xta.out.blk.lt;omega)
     have hol:=of_len (G:=G) (s:=n0)
     have cru:=auto_rules tb n0 (by have:=XhR.out;omega)
     obtain⟨m,hm⟩: ∃q,q=(rulesI (ofOf G n0)).length:=⟨_,rfl⟩
     have hm3:m<=300:=by rw [hm,rules_len];have:=XhR.out;omega
     unfold ItOwn at cru
     rw [<-hm]at cru
     clear hol
     simp only [List.length_cons]at hqn hbl
     have hn1:0<n:=by omega
     have inn1:=inn.pop
     have bg1:=bg.take
     have hall:=bg.all_
     clear inn bg
     obtain⟨Xtb,Xcru,Xhm,Xinn1,Xbg1,Xhall,Xhla,Xhld,Xhqn⟩:=HqZ9 tb cru hm inn1 bg1 hall hla hld hqn;clear tb cru hm inn1 bg1 hall hla hld hqn
     go_wp2_with fail
     refine Xcru.out.mono ?_
     rintro e w3 ⟨Al,cl,rfl,hown,b3⟩
     have inn3:=Xinn1.out.below b3
     obtain⟨off',hoff⟩: ∃q,q=if c=1 then off else off+1:=⟨_,rfl⟩
     rw [<-hoff]at inn3
     have hif:(if c=1 then(some ⟨g,off,none⟩:Option Addr)else some ⟨g,off+1,none⟩)=some ⟨g,off',none⟩:=by rw [hoff];split<;>rfl
     have hg3:g<wr.heap.size:=Xinn1.out.q.low.2
     have hz3:wa.heap.size<=w3.heap.size:=inn3.le.size
     have hrd:RdIt w3 (fun b=>wr.heap.size<=b/\b<w3.heap.size) (.slice Al m cl) (rulesI (ofOf G n0)):=(Rd.of_own hown).mono (fun b hb=>hown.lt b hb)
     have hvl: ∀k,(Value.slice A all.length ca).ownBlock=some k->k<wr.heap.size:=fun k e=>(Xinn1.out.row.lt k e).2
     clear hown hoff Xcru hc0
     obtain⟨L0,hL0⟩: ∃q,q=wr.heap.size:=⟨_,rfl⟩
     obtain⟨L1,hL1⟩: ∃q,q=w3.heap.size:=⟨_,rfl⟩
     have hL01:L0<=L1:=by rw [hL0,hL1];exact b3.size
     have hML:wa.heap.size<L0:=by
      obtain⟨D,mm1,-⟩:=Xinn1.out.map
      rw [hL0];exact mm1.lt
     rw [<-hL0,<-hL1]at hrd
     rw [<-hL0]at hg3 hvl
     clear b3 Xinn1
     obtain⟨Xinn3,Xhrd,Xhvl,XhL0,XhL1⟩:=HqZ5 inn3 hrd hvl hL0 hL1;clear inn3 hrd hvl hL0 hL1
     have hmm:(itCells (rulesI (ofOf G n0))).length=m * 2:=by rw [itCells_length,<-Xhm.out]
     have hmone:=itCells_one (rulesI (ofOf G n0))
     have hla2:all.length<=50000:=by have:=Xhla.out;omega
     obtain⟨Xhmm,Xhmone⟩:=HqZ2 hmm hmone;clear hmm hmone
     go_wp2_with (at_builtin;refine wp_append _ rfl (.tmp 51) (.tmp 52) _ rfl Tryz.elemItem wa.heap.size _ all.length (itCells all) rfl Xinn3.out.row _ _ (itCells (rulesI (ofOf G n0))) m rfl Xhmm.out Xhrd.out Xhmone.out (by unfold maxLen;omega) (by omega) hz3 ?_)
     intro A8 c8 w8 own8 g8 hb8
     have inn8:=Xinn3.out.app Xhm.out own8 g8 hb8
     have hg8:(wr.heap.size=L0):=XhL0.out.symm
     have hrd8:=Xhrd.out.touch ((Touch.refl (fun k=>(Value.slice A all.length ca).ownBlock=some k) w3).grown g8 (fun k e _=>e)) (fun b hb e=>by have:=Xhvl.out b e;omega)
     have hz8:L1<=w8.heap.size:=by rw [XhL1.out];exact g8.size
     have hgk:0<gk:=by omega
     clear own8 g8 hb8 hif hg8 Xinn3 Xhrd Xhvl Xhmone Xhmm hz3
     obtain⟨Xhκ,Xhgk⟩:=HqZ2 hκ hgk;clear hκ hgk
     obtain⟨va,hva⟩: ∃q,q=Value.slice A8 (all++rulesI (ofOf G n0)).length c8:=⟨_,rfl⟩
     obtain⟨all8,hall8⟩: ∃q,q=all++rulesI (ofOf G n0):=⟨_,rfl⟩
     have hvl8:all.length+m=all8.length:=by rw [hall8,List.length_append,<-Xhm.out]
     rw [<-hall8]at inn8
     obtain⟨Xinn8,Xhrd8,Xhva,Xhall8⟩:=HqZ4 inn8 hrd8 hva hall8;clear inn8 hrd8 hva hall8
     have e4:done++n0::r=done++[n0]++r:=by simp
     rw [e4]at Xinn8
     rw [hvl8]
     clear e4
     have Xhvl8:=hide hvl8;clear hvl8
     go_wp2_with fail
     go_loopw [4,56] (fun td i wr=> ∃(k:Nat) (todo:List Int) (g off n c:Nat),k<=m/\i= .int .i64 k/\td= .slice (some ⟨g,off,none⟩) n c/\Inn wa wr wa.heap.size g off n c todo (.slice A8 all8.length c8) all8 (done++[n0]++todo)/\BgIn G st s done n0 todo k/\(g<L0\/L1<=g)/\L1<=wr.heap.size/\RdIt wr (fun b=>L0<=b/\b<L1) (.slice Al m cl) (rulesI (ofOf G n0))) (fun _ i _=>m - (intOf i).toNat)
     case atStart=>exact⟨0,r,g,off',n - 1,c - 1,Nat.zero_le _,rfl,rfl,Xinn8.out,Xbg1.out,.inl hg3,hz8,Xhrd8.out⟩
     case round=>
      clear Xinn8 Xbg1 hg3 hz8 Xhrd8 hnc hcm hn1
      obtain⟨k,todo,g,off,n,c,hk,rfl,rfl,inn,bi,hgL,hzL,hrd⟩:=hrel
      have hbl2:=bi.len
      obtain⟨hqn2,⟨hnc,hcm⟩,-,-,-⟩:=inn.q
      unfold maxLen at hcm
      have hN3:n<=120:=by have:=XhN.out;omega
      clear hbl2
      by_cases hlt:k<m
      ·have hlt':(k:Int)<(m:Int):=by omega
       obtain⟨-,-,-,hcell⟩:=RdIt.at_ hrd
       obtain⟨b,bo,rfl,hbb,hcc⟩:=hcell (by omega)
       obtain⟨x,hx⟩: ∃x,(rulesI (ofOf G n0))[k]? =some x:=⟨_,List.getElem?_eq_getElem (by rw [<-Xhm.out];exact hlt)⟩
       obtain⟨p0,p1⟩:=hcc k x hx
       obtain⟨ru,hru,rfl⟩:=rules_get hx
       simp only at p0 p1
       obtain⟨wb,hwb⟩: ∃wb,wb=wr.alloc (.cells #[.int .i64 ru,.int .i64 0] 226):=⟨_,rfl⟩
       have bb:Below wr.heap.size wr wb:=by rw [hwb];exact(Below.refl _ _).alloc (Nat.le_refl _) _
       have kb:Blk wb wr.heap.size 226 #[.int .i64 ru,.int .i64 0]:=by rw [hwb];exact Blk.new _ _ _
       have innb:=inn.below bb
       have tb:=Xta.out.touch (Touch.of_below innb.le) (fun b hb e=>by have:=Xta.out.gram.lt b hb;omega) (by have:=Xta.out.blk.lt;omega)
       have cx:=auto_next tb (ru,0) (right_new (List.mem_of_getElem? hru))
       have hrdb:=hrd.touch (Touch.of_size bb (fun _=>False)) (fun _ _ e=>e)
       have hzb:L1<=wb.heap.size:=Nat.le_trans hzL bb.size
       have hnn:=next_non (G:=G) (st:=st) (x:=(ru,0))
       obtain⟨y,hy⟩: ∃y,y=nextI G st (ru,0):=⟨_,rfl⟩
       rw [<-hy]at cx hnn
       rw [hwb]at cx
       clear hcell hcc bb hx inn hrd hzL tb hqn2
       obtain⟨Xinnb,Xhrdb,Xkb,Xcx,Xhru,Xhnn,Xhy,Xbi,Xhbb⟩:=HqZ9 innb hrdb kb cx hru hnn hy bi hbb;clear innb hrdb kb cx hru hnn hy bi hbb
       go_wp2_with fail
       with_reducible refine Xcx.out.mono ?_
       rintro e w4 ⟨rfl,b4⟩
       rw [<-hwb]at b4
       have inn4:=Xinnb.out.below b4
       have hrd4:=Xhrdb.out.touch (Touch.of_size b4 (fun _=>False)) (fun _ _ e=>e)
       have hz4:L1<=w4.heap.size:=Nat.le_trans hzb b4.size
       have t4:=Xta.out.touch (Touch.of_below inn4.le) (fun b hb e=>by have:=Xta.out.gram.lt b hb;omega) (by have:=Xta.out.blk.lt;omega)
       have cn:=gram_non t4.gram st y
       obtain⟨q0,q1,q2,q3⟩:=t4.cells
       obtain⟨nb,hnb⟩: ∃nb,nb=isNon G y:=⟨_,rfl⟩
       rw [<-hnb]at cn
       clear hwb p0 p1 b4 hzb Xinnb Xhrdb Xkb Xcx t4
       obtain⟨Xinn4,Xhrd4,Xcn,Xhnb⟩:=HqZ4 inn4 hrd4 cn hnb;clear inn4 hrd4 cn hnb
       go_wp2_with fail
       with_reducible refine Xcn.out.mono ?_
       rintro e w5 ⟨rfl,b5⟩
       have inn5:=Xinn4.out.below b5
       have hrd5:=Xhrd4.out.touch (Touch.of_size b5 (fun _=>False)) (fun _ _ e=>e)
       have hz5:L1<=w5.heap.size:=Nat.le_trans hz4 b5.size
       clear q0 q1 q2 q3 b5 hz4 Xinn4 Xhrd4 Xcn
       cases nb with
       |false=>
        have bi2:=Xbi.out.skip Xhru.out (fun q hq hqn=>by
         exfalso
         have:y=q:=by rw [Xhy.out];unfold nextI;rw [hq]
         rw [<-this,<-Xhnb.out]at hqn
         cases hqn)
        obtain⟨Xinn5,Xhrd5,Xbi2⟩:=HqZ3 inn5 hrd5 bi2;clear inn5 hrd5 bi2
        go_wp2_with fail
        go_roundw
        case rel=>exact⟨k+1,todo,g,off,n,c,by omega,by go_num,rfl,Xinn5.out,Xbi2.out,hgL,hz5,Xhrd5.out⟩
        case measure=>simp [intOf];omega
       |true=>
        have hbe:=Xhnn.out Xhnb.out.symm
        have hyb:(T:Int)<y/\y<=(p:Int):=by
         have:=Xhnb.out.symm
         unfold isNon at this
         rw [<-Xhp.out,<-XhT.out,Bool.and_eq_true,decide_eq_true_eq,decide_eq_true_eq]at this
         exact this
        have hyk: -9223372036854775808<=y/\y<=9223372036854775807:=by omega
        obtain⟨D,mm1,mm2⟩:=inn5.map
        have hlk:=mm2.look mm1 hyk
        obtain⟨im,him⟩: ∃im,im=decide (y∈done++[n0]++todo):=⟨_,rfl⟩
        rw [<-him]at hlk
        cases im with
        |true=>
         have bi2:=Xbi.out.skip Xhru.out (fun q hq hqn=>by
          have:y=q:=by rw [Xhy.out];unfold nextI;rw [hq]
          rw [<-this]
          exact of_decide_eq_true him.symm)
         clear mm1 mm2
         obtain⟨Xinn5,Xhrd5,Xbi2,Xhbe,Xhyb,Xhyk,Xhim⟩:=HqZ7 inn5 hrd5 bi2 hbe hyb hyk him;clear inn5 hrd5 bi2 hbe hyb hyk him
         go_wp2_with fail
         go_roundw
         case rel=>exact⟨k+1,todo,g,off,n,c,by omega,by go_num,rfl,Xinn5.out,Xbi2.out,hgL,hz5,Xhrd5.out⟩
         case measure=>simp [intOf];omega
        |false=>
         have bi2:=Xbi.out.put Xhru.out hbe Xhnb.out.symm (of_decide_eq_false him.symm)
         have hkey:=nkey_some hyk
         have hlm:(done++[n0]++todo).length<=1000:=by
          have:=Xbi.out.len
          have:=XhN.out
          simp only [List.length_append,List.length_singleton]
          omega
         obtain⟨Xinn5,Xhrd5,Xbi2,Xhbe,Xhyb,Xhim,Xmm2⟩:=HqZ7 inn5 hrd5 bi2 hbe hyb him mm2;clear inn5 hrd5 bi2 hbe hyb him mm2
         go_wp2_with (at_mapUpdate;refine wpList_mapUpdate_own _ rfl _ _ _ 223 rfl 3 4 Tryz.intKeyed Tryz.underlying223 _ wa.heap.size (done++[n0]++todo).length D rfl mm1 (by unfold maxLen;omega) _ _ _ rfl rfl hkey _ [] (plainElem_bool Tryz.underlying4 true) ?_)
         intro w6 m6 g6
         rw [show done.length+(todo.length+1)+1=(done++[n0]++todo).length+1 by simp]at m6
         have inn6:=Xinn5.out.meet m6 (Xmm2.out.put hyk) g6
         have hrd6:=Xhrd5.out.touch ((Touch.refl (fun k=>k=wa.heap.size) w5).grown g6 (fun k e _=>by injection e with e;exact e.symm)) (fun b hb e=>by omega)
         have hz6:L1<=w6.heap.size:=Nat.le_trans hz5 g6.size
         have b7:Below w6.heap.size w6 (w6.alloc (.cells #[.int .i64 y] 3)):=(Below.refl _ _).alloc (Nat.le_refl _) _
         have inn7:=inn6.below b7
         have hrd7:=hrd6.touch (Touch.of_size b7 (fun _=>False)) (fun _ _ e=>e)
         have hc7:(w6.alloc (.cells #[.int .i64 y] 3)).cell? ⟨w6.heap.size,0,none⟩=some (.int .i64 y):=(Blk.new w6 3 #[.int .i64 y]).cell 0
         have hz7:wa.heap.size<=(w6.alloc (.cells #[.int .i64 y] 3)).heap.size:=inn7.le.size
         clear m6 g6 inn6 hrd6 b7 mm1 hlk hkey Xmm2 Xinn5 Xhrd5 hz5 hlm
         obtain⟨Xinn7,Xhrd7,Xhyk,Xhc7⟩:=HqZ4 inn7 hrd7 hyk hc7;clear inn7 hrd7 hyk hc7
         go_wp2_with (at_builtin;refine wp_push rfl (.tmp 77) (.tmp 79) rfl Xinn7.out.q rfl rfl Xhc7.out (by omega) hz7 ?_)
         intro g' of' c' w8 q8 t8 hg8
         have inn8:=Xinn7.out.push q8 t8 (hg8.imp id (fun h=>by simpa using h))
         have hrd8:=Xhrd7.out.touch t8 (fun b hb e=>by omega)
         have hz8:L1<=w8.heap.size:=by
          have:=t8.size
          simp at this
          omega
         have hgL8:g'<L0\/L1<=g':=by
          rcases hg8 with e|e
          ·rw [e];exact hgL
          ·right;omega
         rw [List.append_assoc]at inn8
         clear q8 t8 hg8 Xinn7 Xhrd7 Xhc7 hz7
         obtain⟨Xinn8,Xhrd8⟩:=HqZ2 inn8 hrd8;clear inn8 hrd8
         go_wp2_with fail
         go_roundw
         case rel=>exact⟨k+1,todo++[y],g',of',n+1,c',by omega,by go_num,rfl,Xinn8.out,Xbi2.out,hgL8,hz8,Xhrd8.out⟩
         case measure=>simp [intOf];omega
      ·have hlt': ¬(k:Int)<(m:Int):=by omega
       have hkm:k=(ofOf G n0).length:=by have:=Xhm.out;rw [rules_len]at this;omega
       have bg2:=BgIn.back (hkm▸bi) Xhall.out
       rw [<-Xhall8.out]at bg2
       clear hqn2 bi
       obtain⟨Xinn,Xhrd,Xbg2,Xhkm⟩:=HqZ4 inn hrd bg2 hkm;clear inn hrd bg2 hkm
       go_wp2_with fail
       go_roundg (gk - 1)
       case measure=>have:=Xhgk.out;omega
       case rel=>exact⟨done++[n0],todo,all8,g,off,n,c,A8,c8,rfl,rfl,Xinn.out,Xbg2.out,by have:=Xhκ.out;have:=Xhgk.out;have:=Xhld.out;simp only [List.length_append,List.length_singleton];omega⟩
  ·have hle': ¬(s:Int)<=(p:Int):=by omega
   clear hmm
   obtain⟨Xta,Xrowsa,Xtta⟩:=HqZ3 ta rowsa tta;clear ta rowsa tta
   go_wp2_with fail
   go_end0
   exact⟨rfl,P,p+1,rs,L,XhPlo.out,Nat.le_refl _,by omega,Xta.out,Xrowsa.out,fun j h1 h2=>Xhb.out j h1 (by omega),Xtta.out⟩
end
section
set_option linter.unusedSimpArgs false
open Go.RowKit Go.Sort
attribute [local irreducible] wpStill wpOne wpPh
def SmI (x:It):Prop:=(0<=x.1/\x.1<=1000000)/\0<=x.2/\x.2<=1000000
abbrev ItS:={x:It//SmI x}
instance:Inhabited ItS:=⟨⟨(0,0),⟨by simp,by simp⟩,by simp,by simp⟩⟩
def cfS (x y:ItS):Int:=if x.1.1=y.1.1 then x.1.2 - y.1.2 else x.1.1 - y.1.1
theorem lt_cfS (x y:ItS):ltOf cfS x y=itLt x.1 y.1:=by
 unfold ltOf cfS
 rw [Bool.eq_iff_iff,decide_eq_true_eq,itLt_iff]
 split<;>omega
theorem swoS:SWO (ltOf cfS) where
 irrefl x:=by rw [lt_cfS];exact itLt_irr x.1
 trans x y z h1 h2:=by rw [lt_cfS]at *;exact itLt_trans h1 h2
 ntrans x y z h1 h2:=by rw [lt_cfS,itLt_not]at *;omega
theorem partS (x y:ItS) (h1:ltOf cfS x y=false) (h2:ltOf cfS y x=false):x=y:=by
 rw [lt_cfS]at *;exact Subtype.ext (itLt_tri h1 h2)
def encS (x:ItS):List Value:=encIt x.1
theorem flatS (ds:List ItS):flatK encS 2 ds.toArray=flatK encIt 2 (ds.map Subtype.val).toArray:=by
 apply Array.ext
 ·rw [size_flatK,size_flatK];simp
 ·intro t h1 h2
  rw [size_flatK]at h1 h2
  have hk:t/2<ds.length:=by simp at h1;omega
  have e1:=get_flatK encS 2 ds.toArray t h1
  have e2:=get_flatK encIt 2 (ds.map Subtype.val).toArray t h2
  have e3:ds.toArray[t/2]! =ds[t/2]:=by simp [hk]
  have e4:(ds.map Subtype.val).toArray[t/2]! =(ds[t/2]).1:=by simp [hk]
  rw [e3]at e1
  rw [e4]at e2
  have e5:=e1.trans e2.symm
  rw [getElem!_pos _ _ (by rw [size_flatK];exact h1),getElem!_pos _ _ (by rw [size_flatK];exact h2)]at e5
  exact e5
def smL (l:List It) (h: ∀x∈l,SmI x):List ItS:=l.attach.map fun x=>⟨x.1,h x.1 x.2⟩
theorem smL_val (l:List It) (h: ∀x∈l,SmI x):(smL l h).map Subtype.val=l:=by
 unfold smL
 rw [List.map_map]
 exact List.attach_map_subtype_val l
theorem smL_len (l:List It) (h: ∀x∈l,SmI x):(smL l h).length=l.length:=by unfold smL;simp
def sortS (l:List It) (h: ∀x∈l,SmI x):List It:=((smL l h).mergeSort fun x y=> !(ltOf cfS) y x).map Subtype.val
theorem sortS_mem {l:List It} {h: ∀x∈l,SmI x} {z:It}:z∈sortS l h↔z∈l:=by
 unfold sortS
 rw [List.mem_map]
 constructor
 ·rintro⟨x,hx,rfl⟩
  have:=(List.mergeSort_perm (smL l h) _).mem_iff.1 hx
  rw [<-smL_val l h]
  exact List.mem_map.2 ⟨x,this,rfl⟩
 ·intro hz
  rw [<-smL_val l h]at hz
  obtain⟨x,hx,rfl⟩:=List.mem_map.1 hz
  exact⟨x,(List.mergeSort_perm (smL l h) _).mem_iff.2 hx,rfl⟩
theorem sortS_length (l:List It) (h: ∀x∈l,SmI x):(sortS l h).length=l.length:=by
 unfold sortS
 rw [List.length_map,(List.mergeSort_perm (smL l h) _).length_eq,smL_len]
theorem sortS_weak (l:List It) (h: ∀x∈l,SmI x):WeakI (sortS l h):=by
 have:=List.pairwise_mergeSort (le:=fun x y:ItS=> !(ltOf cfS) y x) (fun a b c h1 h2=>by
  rw [Bool.not_eq_true',lt_cfS,itLt_not]at *;omega) (fun a b=>by
  rw [Bool.or_eq_true,Bool.not_eq_true',Bool.not_eq_true',lt_cfS,lt_cfS,itLt_not,itLt_not];omega) (smL l h)
 unfold sortS WeakI
 rw [List.pairwise_map]
 refine List.Pairwise.imp (fun{a b} h=> ?_) this
 rw [Bool.not_eq_true',lt_cfS]at h
 exact h
theorem sortS_canon (l:List It) (h: ∀x∈l,SmI x):compI (sortS l h)=canonI l:=comp_canon (sortS_weak l h) fun z=>sortS_mem
theorem neq_yes {a c:Int} (h:a=c):(a !=c)=false:=by subst h;simp
theorem neq_no {a c:Int} (h: ¬a=c):(a !=c)=true:=by simpa using h
set_option maxRecDepth 100000 in
set_option maxHeartbeats 2000000 in
theorem order_clo (x y:ItS) (W:World):Calls Tryz.prog 214 #[.agg (encS x).toArray,.agg (encS y).toArray] W fun e w'=>e= .returned (.int .i64 (cfS x y))/\ ∃q os',w'=grow (W.drewN q) os':=by
 obtain⟨⟨a,b⟩,hx1,hx2⟩:=x
 obtain⟨⟨c,d⟩,hy1,hy2⟩:=y
 obtain⟨r,hr⟩: ∃r,r=(if a=c then b - d else a - c):=⟨_,rfl⟩
 have hv:cfS ⟨(a,b),hx1,hx2⟩ ⟨(c,d),hy1,hy2⟩=r:=hr.symm
 rw [hv]
 obtain⟨w2,hw2,k1,k2,-⟩:=boxes_it (w:=W) a b c d
 have d0:=(k1.cell 0).trans rfl
 have d1:=(k1.cell 1).trans rfl
 have e0:=(k2.cell 0).trans rfl
 have e1:=(k2.cell 1).trans rfl
 simp only at hx1 hx2 hy1 hy2
 obtain⟨a1,a2⟩:=hx1
 obtain⟨b1,b2⟩:=hx2
 obtain⟨c1,c2⟩:=hy1
 obtain⟨d1',d2⟩:=hy2
 have hw: ∃q os',w2=grow (W.drewN q) os':=⟨0, #[.cells #[.int .i64 a,.int .i64 b] 226,.cells #[.int .i64 c,.int .i64 d] 226],by rw [hw2];rfl⟩
 have s1:IntKind.i64.wrap (a - c)=a - c:=by rw [IntKind.wrap_i64];omega
 have s2:IntKind.i64.wrap (b - d)=b - d:=by rw [IntKind.wrap_i64];omega
 rw [hw2]at d0 d1 e0 e1
 by_cases hac:a=c
 ·have hr':r=b - d:=by rw [hr,if_pos hac]
  have hne:=neq_yes hac
  clear hr hv k1 k2
  obtain⟨Xhr',Xhw,Xhac⟩:=HqZ3 hr' hw hac;clear hr' hw hac
  show Calls Tryz.prog 214 #[.agg #[.int .i64 a,.int .i64 b],.agg #[.int .i64 c,.int .i64 d]] W _
  go_enter Tryz.func214,Tryz.ntmps214
  go_wp2_with fail
  go_ret
  rw [<-hw2]
  exact⟨ret_int Xhr'.out.symm,Xhw.out⟩
 ·have hr':r=a - c:=by rw [hr,if_neg hac]
  have hne:=neq_no hac
  clear hr hv k1 k2
  obtain⟨Xhr',Xhw,Xhac⟩:=HqZ3 hr' hw hac;clear hr' hw hac
  show Calls Tryz.prog 214 #[.agg #[.int .i64 a,.int .i64 b],.agg #[.int .i64 c,.int .i64 d]] W _
  go_enter Tryz.func214,Tryz.ntmps214
  go_wp2_with fail
  go_ret
  rw [<-hw2]
  exact⟨ret_int Xhr'.out.symm,Xhw.out⟩
theorem sort_order (blk cap n:Nat) (l:List It) (h: ∀x∈l,SmI x) (w:World) (hH:HI w blk l) (hn:n=l.length) (hblk:blk<w.heap.size) (hsz:n<4611686018427387904):
  Calls Tryz.prog 213 #[.slice (some ⟨blk,0,none⟩) n cap,.func (.func 214) #[] #[]] w fun e w'=>e= .returned (.tuple #[])/\ ∃m os,w'=sortWorldK encIt 2 w blk 0 m (sortS l h).toArray os:=by
 have eg: ∀args w,(callFunc 214 args).run Tryz.prog w= .ok (.enter 214 args) w:=enters_of Tryz.func214 (by kernel_rfl) rfl
 have hS:HoldsK encS 2 w blk 0 (smL l h).toArray:=by
  unfold HoldsK
  rw [flatS,smL_val]
  exact hH.holds
 have hlen:(smL l h).toArray.size=n:=by rw [hn];simp [smL_len]
 have:=AnyQ.slices_SortFunc_total Tryz.sortIt 2 Tryz.isAgg226 Tryz.sizeOf226 encS (fun _=>rfl) (fun x v hv=>by simp [encS,encIt]at hv;rcases hv with rfl|rfl<;>rfl) cfS swoS 214 #[] blk 0 cap (smL l h).toArray w eg (fun _ _ _ _ x y=>order_clo x y _) hS hblk (by rw [hlen];exact hsz) partS
 rw [hlen]at this
 refine this.mono ?_
 rintro e w' ⟨he,m,os,hw⟩
 refine⟨he,m,os,hw.trans ?_⟩
 unfold sortWorldK putRowK
 rw [flatS]
 rfl
def OrderPost (w:World) (v:Value) (l:List It) (e:Ending) (w':World):Prop:= ∃A n c,e= .returned (.slice A n c)/\RdIt w' (fun b=>v.ownBlock=some b) (.slice A n c) (canonI l)/\Touch (fun b=>v.ownBlock=some b) w w'
set_option maxRecDepth 100000 in
set_option maxHeartbeats 2000000 in
theorem auto_order {w:World} {base:Nat} {v:Value} {n:Nat} {l:List It} (h:w.ownsRow base 226 2 v n (itCells l)) (hsm: ∀x∈l,SmI x) (hn:n=l.length) (hsz:n<=100000000):
  Calls Tryz.prog 159 #[v] w (OrderPost w v l):=by
 obtain⟨A,c,rfl,hnc,hcm⟩:=ownsRow_shape h
 unfold maxLen at hcm
 by_cases h0:n=0
 ·subst h0
  have hl:l=[]:=List.eq_nil_of_length_eq_zero hn.symm
  have cs:=sort_items_none A c (.func (.func 214) #[] #[]) w
  have cc:=compact_none A c w
  subst hl
  clear hn
  obtain⟨Xcs,Xcc,Xh,Xhsm⟩:=HqZ4 cs cc h hsm;clear cs cc h hsm
  go_enter Tryz.func159,Tryz.ntmps159
  go_wp2_with fail
  refine Xcs.out.mono ?_
  rintro e w' ⟨rfl,rfl⟩
  go_wp2_with fail
  refine Xcc.out.mono ?_
  rintro e w' ⟨rfl,rfl⟩
  go_wp2_with fail
  go_ret
  exact⟨A,0,c,rfl,⟨A,0,c,rfl,Nat.zero_le _,by unfold maxLen;omega,rfl,fun h=>absurd h (by omega)⟩,Touch.refl _ _⟩
 ·have hg: ∃g,A=some ⟨g,0,none⟩:=by
   rcases h.2 with⟨h1,-⟩|⟨g',cap,cur,h1,-⟩
   ·injection h1 with _ h1 _;exact absurd h1 h0
   ·injection h1 with h1 _ _;exact⟨g',h1⟩
  obtain⟨g,rfl⟩:=hg
  have hgb:base<=g/\g<w.heap.size:=h.lt g rfl
  have hH:=HI.of_own h (by omega)
  have hs:=sortS_length l hsm
  have cs:=sort_order g c n l hsm w hH hn hgb.2 (by omega)
  have cc: ∀m os,Calls Tryz.prog 215 #[.slice (some ⟨g,0,none⟩) n c] (sortWorldK encIt 2 w g 0 m (sortS l hsm).toArray os) (CompPost (sortWorldK encIt 2 w g 0 m (sortS l hsm).toArray os) g c (canonI l)):=fun m os=>by
   have:=compact_items (n:=n) (HI.of_holds (holdsK_sortWorldK_c encIt 2 w g 0 l.toArray (sortS l hsm).toArray m os hH.holds hgb.2 (by simp [hs]))) (by rw [hs];exact hn) hnc hcm
   rw [sortS_canon]at this
   exact this
  have tt:=fun m os=>sort_touch w g m (sortS l hsm).toArray os
  have hnn:n=l.length:=hn
  generalize sortS l hsm=sl at *
  clear hn
  obtain⟨Xcs,Xcc,Xtt,Xh,XhH,Xhs,Xhnn,Xhsm⟩:=HqZ8 cs cc tt h hH hs hnn hsm;clear cs cc tt h hH hs hnn hsm
  go_enter Tryz.func159,Tryz.ntmps159
  go_wp2_with fail
  refine Xcs.out.mono ?_
  rintro e w2 ⟨rfl,m,os,hw2⟩
  have cc2:=Xcc.out m os
  have tt2:=Xtt.out m os
  rw [<-hw2]at cc2 tt2
  clear hw2
  obtain⟨Xcc2,Xtt2⟩:=HqZ2 cc2 tt2;clear cc2 tt2
  go_wp2_with fail
  refine Xcc2.out.mono ?_
  rintro e w3 ⟨rfl,h3,t3⟩
  have t4:=Xtt2.out.trans' t3
  have hlen:=canon_len l
  rw [<-Xhnn.out]at hlen
  obtain⟨Xh3,Xt4,Xt3⟩:=HqZ3 h3 t4 t3;clear h3 t4 t3
  go_wp2_with fail
  go_ret
  exact⟨_,_,c,rfl,(HI.rd Xh3.out rfl (by omega) (by unfold maxLen;omega)).mono (fun b e=>by rw [e];rfl),Xt4.out.mono (fun b _ e=>by rw [e];rfl)⟩
end
section
set_option linter.unusedSimpArgs false
open Go.RowKit
attribute [local irreducible] wpStill wpOne wpPh
theorem Tryz.sizeBuilder:(Tryz.prog.info? 185).map (·.size)=some 2:=by kernel_rfl
theorem Tryz.liesBuilder:liesAt Tryz.prog Tryz.prog.depth 185 (2/Tryz.prog.cellsOf 185) 0 185 1=true:=by kernel_rfl
set_option maxHeartbeats 1000000 in
set_option maxRecDepth 100000 in
theorem check_used (b:Nat) (w:World) (h0:w.cell? ⟨b,0,none⟩=some (.pointer (some ⟨b,0,none⟩))):
  Calls Tryz.prog 176 #[.pointer (some ⟨b,0,none⟩)] w fun e w'=>e= .returned (.tuple #[])/\w'=w:=by
 obtain⟨j,hj,_⟩:=Option.map_eq_some_iff.1 Tryz.sizeBuilder
 have X:=hide hj
 clear hj
 go_enter Tryz.func176,Tryz.ntmps176
 go_wp2
 rw [Lib.run_neq_ptr_same w _ Tryz.underlying183 X.out]
 go_wp2
 go_end0
 exact⟨rfl,rfl⟩
set_option maxHeartbeats 1000000 in
set_option maxRecDepth 100000 in
theorem check_fresh (b:Nat) (w:World) (h0:w.cell? ⟨b,0,none⟩=some (.pointer none)) (hsh:w.shape? b=some (185,2)) (hfz:w.frozen? ⟨b,0,none⟩=false):
  Calls Tryz.prog 176 #[.pointer (some ⟨b,0,none⟩)] w fun e w'=>e= .returned (.tuple #[])/\w'=w.setCell ⟨b,0,none⟩ (.pointer (some ⟨b,0,none⟩)):=by
 obtain⟨j,hj,hjs⟩:=Option.map_eq_some_iff.1 Tryz.sizeBuilder
 have X:=hide hj
 have Y:=hide hjs
 have S:=hide hsh
 clear hj hjs hsh
 go_enter Tryz.func176,Tryz.ntmps176
 go_wp2
 rw [Lib.run_to_unsafe w ⟨b,0,none⟩ Tryz.underlying183 Tryz.underlying267 X.out (by rw [Y.out];decide) S.out (Nat.zero_lt_succ 1)]
 simp only [Result.andThen]
 rw [Oper.upon_value]
 go_wp2
 rw [run_callFunc_extern Tryz.func216 (by kernel_rfl) (by kernel_rfl) (by kernel_rfl) (e:=Extern.AbiNoEscape.same) (by kernel_rfl)]
 rw [Lib.run_noEscape]
 simp only [Result.andThen]
 rw [Oper.upon_value]
 go_wp2
 rw [Lib.run_from_unsafe w ⟨b,0,none⟩ Tryz.underlying267 Tryz.underlying183 X.out S.out Tryz.liesBuilder]
 simp only [Result.andThen]
 rw [Oper.upon_value]
 go_wp2
 go_end0
 exact⟨rfl,rfl⟩
theorem Tryz.infoByte:(Tryz.prog.info? 5).map (fun i=>(i.zero,i.size,i.bytes))=some (some (.int .u8 0),1,1):=by kernel_rfl
theorem Tryz.elemByte:Elem Tryz.prog 74 5 (.int .u8 0) 1 1:=⟨Tryz.underlying74,Tryz.infoByte,rfl,by decide⟩
set_option maxRecDepth 100000 in
theorem Tryz.extra:Builder.Extra Tryz.prog Tryz.bString_ren where
 sizeBuilder:=by kernel_rfl
 liesBuilder:=by kernel_rfl
 t5:=Tryz.underlying5
 a5:=Tryz.isAgg5
 z5:=Tryz.sizeOf5
 v5:=Tryz.zeroValue5
 infoByte:=Tryz.infoByte
 cellsByte:=by kernel_rfl
 sizeByte:=by kernel_rfl
 neB5:=by decide
theorem builder_string (B b:Nat) (l:List UInt8) (w:World) (h:Lib.IsBuilder 185 5 B b (Lib.byteCells l) w) (hB:B<=w.heap.size):
  Calls Tryz.prog 123 #[.pointer (some ⟨b,0,none⟩)] w fun e w'=>e= .returned (.string ⟨l.toArray⟩)/\Below B w w':=Any.Builder_String_any Tryz.bString Tryz.extra B b l w h hB
theorem check_any {B b:Nat} {bs:List Value} {w:World} (h:Lib.IsBuilder 185 5 B b bs w):
  Calls Tryz.prog 176 #[.pointer (some ⟨b,0,none⟩)] w fun e w'=>e= .returned (.tuple #[])/\Lib.BuilderAt 185 5 B b (.pointer (some ⟨b,0,none⟩)) bs w'/\Touch (fun k=>k=b) w w':=by
 rcases h with h|h
 ·refine(check_fresh b w h.cell0 h.shape h.frozen0).mono ?_
  rintro e w' ⟨rfl,rfl⟩
  exact⟨rfl,h.used _,(Touch.refl (fun k=>k=b) w).setCell (p:=⟨b,0,none⟩) (fun _=>rfl) _⟩
 ·refine(check_used b w h.cell0).mono ?_
  rintro e w' ⟨rfl,rfl⟩
  exact⟨rfl,h,Touch.refl _ _⟩
set_option maxHeartbeats 2000000 in
set_option maxRecDepth 100000 in
theorem builder_write {B b:Nat} {bs:List Value} {w:World} (h:Lib.IsBuilder 185 5 B b bs w) {F:Nat->Prop} {A:Option Addr} {m c:Nat} {news:List Value} (hr:Rd w F (.slice A m c) 1 news) (hF: ∀k,F k->k≠b) (h1: ∀u∈news,u.oneCell'=true)
  (hlen:bs.length<=100000000) (hm:m<=1000) (hB:B<=w.heap.size):
  Calls Tryz.prog 212 #[.pointer (some ⟨b,0,none⟩),.slice A m c] w fun e w'=>e= .returned (.tuple #[.int .i64 m,.nilIface])/\Lib.BuilderAt 185 5 B b (.pointer (some ⟨b,0,none⟩)) (bs++news) w'/\Below B w w':=by
 have cc:=check_any h
 have hbB:B<=b:=by rcases h with h|h<;>exact h.1
 obtain⟨Xcc,Xhr,XhF,Xh1⟩:=HqZ4 cc hr hF h1;clear cc hr hF h1;clear h
 go_enter Tryz.func212,Tryz.ntmps212
 go_wp2_with fail
 refine Xcc.out.mono ?_
 rintro e w2 ⟨rfl,hbd,t2⟩
 obtain⟨-,v,hblk,hown,hne⟩:=hbd
 have k2:Blk w2 b 185 #[.pointer (some ⟨b,0,none⟩),v]:=hblk
 have hr2:=Xhr.out.touch t2 (fun k hk e=>XhF.out k hk e)
 have d1:=(k2.cell 1).trans rfl
 have hmn:news.length=m * 1:=by
  obtain⟨A',n',c',hv,-,-,hl,-⟩:=hr2
  injection hv with _ e2 _
  rw [hl,e2]
 have hB2:B<=w2.heap.size:=Nat.le_trans hB t2.size
 clear hblk Xcc
 obtain⟨Xk2,Xhr2,Xhown,Xhne,Xt2,Xhmn⟩:=HqZ6 k2 hr2 hown hne t2 hmn;clear k2 hr2 hown hne t2 hmn
 go_wp2_with (at_builtin;refine wp_append _ rfl (.tmp 12) (.tmp 13) _ rfl Tryz.elemByte B _ bs.length bs rfl Xhown.out _ _ news m rfl Xhmn.out Xhr2.out Xh1.out (by unfold maxLen;omega) (by omega) hB2 ?_)
 intro A8 c8 w8 own8 g8 hb8
 have k8:=Xk2.out.grown g8 (fun e=>Xhne.out e.symm)
 have b8:Below B w w8:=(Xt2.out.below (fun i hi _ e=>by omega) hB).trans ((Touch.refl (fun k=>v.ownBlock=some k) w2).grown g8 (fun k e _=>e)|>.below (fun i hi _ e=>by have:=(Xhown.out.lt i e).1;omega) hB2)
 have hne8:(Value.slice A8 (bs.length+m) c8).ownBlock≠some b:=fun e=>by
  rcases hb8 with e8|e8
  ·exact Xhne.out (e8▸e)
  ·rw [e8]at e
   injection e with e
   have:=Xk2.out.lt
   omega
 have d1:=(k8.cell 1).trans rfl
 have z1:=k8.frozen 1
 have k9:=k8.put 1 (.slice A8 (bs.length+m) c8)
 have own9:=own_far own8 (p:=⟨b,1,none⟩) hne8 (.slice A8 (bs.length+m) c8)
 have b9:=b8.setCell (p:=⟨b,1,none⟩) hbB (.slice A8 (bs.length+m) c8)
 have hlb:bs.length+m=(bs++news).length:=by have:=Xhmn.out;rw [List.length_append];omega
 clear own8 g8 hb8 b8 Xhown Xhr2 Xk2
 obtain⟨Xk8,Xk9,Xown9,Xb9,Xhlb,Xhne8⟩:=HqZ6 k8 k9 own9 b9 hlb hne8;clear k8 k9 own9 b9 hlb hne8
 go_wp2_with fail
 go_ret2
 refine⟨rfl,⟨hbB,_,Xk9.out,?_,?_⟩,Xb9.out⟩
 ·rw [<-Xhlb.out];exact Xown9.out
 ·exact Xhne8.out
def byteI (n:Int):UInt8:=UInt8.ofNat (n%256).toNat
def keyL (l:List It):List UInt8:=l.flatMap fun x=>[byteI (x.1/256),byteI x.1,byteI x.2]
theorem keyL_snoc (l:List It) (x:It):keyL (l++[x])=keyL l++[byteI (x.1/256),byteI x.1,byteI x.2]:=by unfold keyL;simp
theorem keyL_len (l:List It):(keyL l).length=l.length * 3:=by
 unfold keyL
 induction l with
 |nil=>rfl
 |cons x r ih=>rw [List.flatMap_cons,List.length_append,ih];simp;omega
def ByI (x:It):Prop:=(0<=x.1/\x.1<=60000)/\0<=x.2/\x.2<=255
theorem byteI_inj {a b:Int} (ha:0<=a/\a<=255) (hb:0<=b/\b<=255) (h:byteI a=byteI b):a=b:=by
 unfold byteI at h
 have:=congrArg UInt8.toNat h
 simp at this
 omega
theorem byteI_two {a b:Int} (ha:0<=a/\a<=60000) (hb:0<=b/\b<=60000) (h1:byteI (a/256)=byteI (b/256)) (h2:byteI a=byteI b):a=b:=by
 have e1:=byteI_inj (by omega) (by omega) h1
 unfold byteI at h2
 have:=congrArg UInt8.toNat h2
 simp at this
 omega
theorem keyL_inj: ∀{l l':List It},(∀x∈l,ByI x)->(∀x∈l',ByI x)->keyL l=keyL l'->l=l'
 |[],[],_,_,_=>rfl
 |[],y::r,_,_,h=>by have:=congrArg List.length h;rw [keyL_len,keyL_len]at this;simp at this
 |x::r,[],_,_,h=>by have:=congrArg List.length h;rw [keyL_len,keyL_len]at this;simp at this
 |x::r,y::t,hx,hy,h=>by
  have e:keyL (x::r)=byteI (x.1/256)::byteI x.1::byteI x.2::keyL r:=rfl
  have e':keyL (y::t)=byteI (y.1/256)::byteI y.1::byteI y.2::keyL t:=rfl
  rw [e,e']at h
  injection h with h1 h
  injection h with h2 h
  injection h with h3 h
  obtain⟨x1,x2⟩:=hx x (by simp)
  obtain⟨y1,y2⟩:=hy y (by simp)
  rw [keyL_inj (fun z hz=>hx z (by simp [hz])) (fun z hz=>hy z (by simp [hz])) h]
  congr 1
  exact Prod.ext (byteI_two x1 y1 h1 h2) (byteI_inj x2 y2 h3)
def keyB (l:List It):ByteArray:=⟨(keyL l).toArray⟩
theorem byteI_val (a:Int):((byteI a).toNat:Int)=a%256:=by
 unfold byteI
 simp
 omega
theorem builder_below {T e:TypeId} {B b:Nat} {bs:List Value} {w w':World} (h:Lib.IsBuilder T e B b bs w) (hb:Below w.heap.size w w'):Lib.IsBuilder T e B b bs w':=by
 have key: ∀p,Lib.BuilderAt T e B b p bs w->Lib.BuilderAt T e B b p bs w':=fun p ⟨h1,v,h2,h3,h4⟩=>⟨h1,v,(hb.block b (Array.getElem?_eq_some_iff.1 h2).1).trans h2,own_below' h3 hb,h4⟩
 exact h.imp (key _) (key _)
set_option maxRecDepth 100000 in
set_option maxHeartbeats 2000000 in
theorem auto_key {w:World} {F:Nat->Prop} {v:Value} {l:List It} (h:RdIt w F v l) (hF: ∀b,F b->b<w.heap.size) (hl:l.length<=1000000) (hby: ∀x∈l,ByI x):
  Calls Tryz.prog 156 #[v] w (Quiet w (.string (keyB l))):=by
 obtain⟨A,n,c,rfl,-⟩:=id h
 obtain⟨hn,hnc,hcm,-⟩:=RdIt.at_ h
 unfold maxLen at hcm
 have hfr:=Lib.fresh_isBuilder 185 5 w
 have b1:Below w.heap.size w (w.alloc (.cells #[.pointer none,.slice none 0 0] 185)):=(Below.refl _ _).alloc (Nat.le_refl _) _
 rw [<-hn]at hl
 obtain⟨Xh,XhF,Xhby,Xhn,Xhfr,Xb1⟩:=HqZ6 h hF hby hn hfr b1;clear h hF hby hn hfr b1
 go_enter Tryz.func156,Tryz.ntmps156
 go_wp2_with fail
 go_loopw [8] (fun i wr=> ∃(k:Nat),k<=n/\i= .int .i64 k/\Lib.IsBuilder 185 5 w.heap.size w.heap.size (Lib.byteCells (keyL (l.take k))) wr/\Below w.heap.size w wr) (fun i _=>n - (intOf i).toNat)
 case atStart=>exact⟨0,Nat.zero_le _,rfl,Xhfr.out,Xb1.out⟩
 case round=>
  clear Xhfr Xb1
  obtain⟨k,hk,rfl,bd,le⟩:=hrel
  by_cases hlt:k<n
  ·have hlt':(k:Int)<(n:Int):=by omega
   obtain⟨-,-,-,hcell⟩:=RdIt.at_ (Xh.out.below le XhF.out)
   obtain⟨b,off,rfl,hb,hcc⟩:=hcell (by omega)
   obtain⟨x,hx⟩: ∃x,l[k]? =some x:=⟨_,List.getElem?_eq_getElem (by rw [<-Xhn.out];exact hlt)⟩
   obtain⟨p0,p1⟩:=hcc k x hx
   obtain⟨⟨x1,x2⟩,x3,x4⟩:=Xhby.out x (List.mem_of_getElem? hx)
   obtain⟨x0,y0⟩:=x
   simp only at p0 p1 x1 x2 x3 x4
   clear hcell hcc
   obtain⟨Xbd,Xle,Xhx,Xhb⟩:=HqZ4 bd le hx hb;clear bd le hx hb
   go_wp2_with fail
   obtain⟨wb,hwb⟩: ∃q,q=wr.alloc (.cells #[.int .i64 x0,.int .i64 y0] 226):=⟨_,rfl⟩
   obtain⟨wc,hwc⟩: ∃q,q=wb.alloc (.cells #[.int .u8 (x0/256),.int .u8 (x0%256),.int .u8 y0] 5):=⟨_,rfl⟩
   have bb:Below wr.heap.size wr wb:=by rw [hwb];exact(Below.refl _ _).alloc (Nat.le_refl _) _
   have bc:Below wb.heap.size wb wc:=by rw [hwc];exact(Below.refl _ _).alloc (Nat.le_refl _) _
   have bbc:=bb.trans (bc.mono bb.size)
   have hsz:wb.heap.size=wr.heap.size+1:=by rw [hwb];simp
   have hcl:([.int .u8 (x0/256),.int .u8 (x0%256),.int .u8 y0]:List Value)=Lib.byteCells [byteI (x0/256),byteI x0,byteI y0]:=by
    unfold Lib.byteCells
    simp only [List.map_cons,List.map_nil,byteI_val]
    rw [show x0/256%256=x0/256 by omega,show y0%256=y0 by omega]
   have hrd:Rd wc (fun q=>q=wr.heap.size+1) (.slice (some ⟨wr.heap.size+1,0,none⟩) 3 3) 1 (Lib.byteCells [byteI (x0/256),byteI x0,byteI y0]):=by
    rw [<-hcl,hwc,<-hsz]
    exact⟨_,3,3,rfl,Nat.le_refl _,by decide,rfl,fun _=>⟨_,0,rfl,rfl,fun j u hu=>by rw [(Blk.new wb 5 #[.int .u8 (x0/256),.int .u8 (x0%256),.int .u8 y0]).cell];simpa using hu⟩⟩
   have bdc:=builder_below Xbd.out bbc
   have hwl:w.heap.size<wr.heap.size:=by rcases Xbd.out with h|h<;>exact h.lt
   have lec:=Xle.out.trans (bbc.mono Xle.out.size)
   have cw:=builder_write (m:=3) bdc hrd (fun q e=>by omega) (fun u hu=>by
    rw [<-hcl]at hu
    simp only [List.mem_cons,List.not_mem_nil,or_false]at hu
    rcases hu with rfl|rfl|rfl<;>rfl) (by rw [Lib.byteCells_length,keyL_len,List.length_take];omega) (by omega) lec.size
   have hnx:Lib.byteCells (keyL (l.take k))++Lib.byteCells [byteI (x0/256),byteI x0,byteI y0]=Lib.byteCells (keyL (l.take (k+1))):=by
    rw [take_snoc Xhx.out,keyL_snoc]
    unfold Lib.byteCells
    rw [List.map_append]
   rw [hnx]at cw
   rw [<-hwb,<-hwc]
   clear hnx hcl hrd bdc bb bc bbc hsz hwb hwc p0 p1 Xle Xbd
   obtain⟨Xcw,Xlec⟩:=HqZ2 cw lec;clear cw lec
   refine Xcw.out.mono ?_
   rintro e w8 ⟨rfl,b8,l8⟩
   have le8:=Xlec.out.trans l8
   clear Xcw l8
   obtain⟨Xb8,Xle8⟩:=HqZ2 b8 le8;clear b8 le8
   go_wp2_with fail
   go_roundw
   case rel=>exact⟨k+1,by omega,by go_num,.inr Xb8.out,Xle8.out⟩
   case measure=>simp [intOf];omega
  ·have hlt': ¬(k:Int)<(n:Int):=by omega
   have hkl:l.take k=l:=List.take_of_length_le (by have:=Xhn.out;omega)
   rw [hkl]at bd
   have cs:=builder_string _ _ _ _ bd le.size
   clear hkl
   obtain⟨Xbd,Xle,Xcs⟩:=HqZ3 bd le cs;clear bd le cs
   go_wp2_with fail
   refine Xcs.out.mono ?_
   rintro e w8 ⟨rfl,l8⟩
   have le8:=Xle.out.trans l8
   clear Xcs l8
   have Xle8:=hide le8;clear le8
   go_wp2_with fail
   go_ret
   exact⟨rfl,Xle8.out⟩
end
end Go.Proofs.YthlbjgabhpdbfaaGreat

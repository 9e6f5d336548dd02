/- The automaton: rows of items; what stands while it is gathered what begins with a nonterminal. -/
import Derived.Test.YthlbjgabhpdbfaaGreatBAuto1
import Derived.Test.YthlbjgabhpdbfaaGreatBG7
import Derived.Deep.Cut
import Derived.Deep.OwnRows
import Derived.Test.YthlbjgabhpdbfaaGreatBItemLay
set_option linter.unusedVariables false
set_option linter.unusedSimpArgs false
set_option maxRecDepth 100000
set_option maxHeartbeats 8000000
namespace Go.Proofs.YthlbjgabhpdbfaaGreat
open Go.Proofs.Tryz
open Bool renaming and_eq_true->Za
open List renaming length_append->Zb,length_singleton->Zc,mem_map->Zd,mem_of_getElem?->Ze
open Nat renaming le_refl->Zf,le_trans->Zg,lt_of_lt_of_le->Zh,zero_le->Zi
section
open Go.RowKit Go.Maps
attribute [local irreducible] wpStill aB aO
structure f7 (w:World) (lo P n:Nat) (vs:Nat->Value) (L:Nat->List It):Prop where
 cell: ∀i,i<n->w.cell? ⟨P,i,none⟩=some (vs i)
 frz: ∀i,i<n->w.frozen? ⟨P,i,none⟩=false
 rd: ∀i,i<n->aH w (λb=>lo<=b/\b<w.heap.size/\b≠P) (vs i) (L i)
 lt:P<w.heap.size
def upd {X:Type} (f:Nat->X) (i:Nat) (x:X):Nat->X:=λj=>if j=i then x else f j
theorem aC {X:Type} (f:Nat->X) (i:Nat) (x:X):upd f i x i=x:=if_pos rfl
theorem aN {X:Type} {f:Nat->X} {i j:Nat} {x:X} (h:j≠i):upd f i x j=f j:=if_neg h
section
variable {w w' : World} {lo P n : Nat} {vs : Nat -> Value} {L : Nat -> List It}
theorem f7.touch {S:Nat->Prop} (h:f7 w lo P n vs L) (e:aa S w w') (f: ¬S P) (i: ∀a,lo<=a->a<w.heap.size->a≠P-> ¬S a):f7 w' lo P n vs L:=
 ⟨λd hi=>e.cell (h.cell d hi) f,λd hi=>(World.frozen?_of_block (a:=⟨P,d,none⟩) (e.block P h.lt f)).trans (h.frz d hi),λd hi=>((h.rd d hi).touch e (λa b=>i a b.1 b.2.1 b.2.2)).mono (λa b=>⟨b.1,Zh b.2.1 e.size,b.2.2⟩),Zh h.lt e.size⟩
theorem f7.below (h:f7 w lo P n vs L) (a:Below w.heap.size w w'):f7 w' lo P n vs L:=h.touch (aa.of_size a (λ_=>False)) (λe=>e) (λ_ _ _ _ e=>e)
theorem f7.put (h:f7 w lo P n vs L) {i:Nat} (hi:i<n) {v:Value} {l:List It} (o:aH w (λa=>lo<=a/\a<w.heap.size/\a≠P) v l):f7 (w.setCell ⟨P,i,none⟩ v) lo P n (upd vs i v) (upd L i l):=by
 have k:(w.setCell ⟨P,i,none⟩ v).heap.size=w.heap.size:=by simp [World.setCell]
 have m:aa (λa=>a=P) w (w.setCell ⟨P,i,none⟩ v):=(aa.refl (λa=>a=P) w).setCell (p:=⟨P,i,none⟩) (λ_=>rfl) _;refine⟨λb d=> ?_,λb d=>(World.frozen?_setCell ..).trans (h.frz b d),λb d=> ?_,by rw [k];exact h.lt⟩
 ·by_cases e:b=i
  ·subst e;rw [aC];exact World.cell?_setCell_same' _ _ _ (by rw [h.cell b d];rfl)
  ·rw [aN e,World.cell?_setCell_other _ _ _ _ (λf=>by injection f with _ f;exact e f.symm)];exact h.cell b d
 ·rw [k];by_cases e:b=i
  ·subst e;rw [aC,aC];exact o.touch m (λa j e=>j.2.2 e)
  ·rw [aN e,aN e];exact(h.rd b d).touch m (λa j e=>j.2.2 e)
end
theorem infoItems:(prog.info? 109).map (λa=>(a.zero,a.size,a.bytes))=some (some (.slice none 0 0),1,24):=by kernel_rfl
theorem sQ (n:Nat) (a:n<=65536) (w:World):(Instr.makeSlice 122 (.int .i64 (n:Int)) (.int .i64 (n:Int))).run prog w= .ok (.slice (some ⟨w.heap.size,0,none⟩) n n) (w.alloc (.cells (madeCells #[.slice none 0 0] n) 109)):=
 run_make_row' _ _ _ 24 underlying122 infoItems rfl .i64 .i64 n (by omega) (by omega) w
theorem mD (z:Value) (n i:Nat) (hi:i<n):(madeCells #[z] n)[i]? =some z:=by
 unfold madeCells;simp [hi,Nat.mod_one]
theorem f7.made (w:World) (n:Nat) (t:TypeId):f7 (w.alloc (.cells (madeCells #[.slice none 0 0] n) t)) w.heap.size w.heap.size n (λ_=> .slice none 0 0) (λ_=>[]):=by
 have b:Blk (w.alloc (.cells (madeCells #[.slice none 0 0] n) t)) w.heap.size t (madeCells #[.slice none 0 0] n):=Blk.new _ _ _;exact⟨λa hi=>(b.cell a).trans (mD _ _ _ hi),λa _=>b.frozen a,λa _=>Rd.nil _ _ _,b.lt⟩
theorem kw {H:Type} {P:Program} (w:World) {i:Array Oper} {rest:List Oper} {o:Oper} {a:Act} {Q:Exit->Act->World->Prop}
  (r:o.guard=none) (m x v:Operand) (t:TypeId) (y:o.op=Op.insert t m x v)
  (k e:TypeId) (l:Keyed P k) (B:P.underlying t=some (.map k e)) (R:Value->Option (DataW H×List MemPlace)) (b n:Nat) (D:DataW H)
  (hm:a.eval m= .map (some b)) (z:w.ownsMap P k R b n D) (u:n<maxLen) (f j:Value) (h:Lit) (F:a.eval x=f) (C:a.eval v=j) (s:keyOf P k f=some h)
  (d:DataW H) (G:List MemPlace) (E:R j=some (d,G))
  (p: ∀w',w'.ownsMap P k R b (n+1) (D.put h d)->w.grownBy w' (some b)->wpList P i Q rest (a.put o.dst undef) w'):
  wpList P i Q (o::rest) a w:=by
 refine wpList_plain r λK q=> ?_
 obtain⟨w',A,I,J⟩:=z.update l B u s E;unfold Oper.wp;simp [execOp,y,hm,F,C,A,Result.andThen];exact q _ _ (p w' I J)
structure Inn (w wr:World) (M g off n c:Nat) (todo:List Int) (va:Value) (all:List It) (met:List Int):Prop where
 le:Below w.heap.size w wr
 q:eU wr w.heap.size g off n c todo
 row:wr.ownsRow w.heap.size 226 2 va all.length (ar all)
 map: ∃D:DataW Unit,wr.ownsMap prog 3 (plainElem prog 4) M met.length D/\fy D met
 hM:w.heap.size<=M
 gM:g≠M
 ga:va.ownBlock≠some g
section
variable {w wr wr' : World} {M g off n c : Nat} {todo : List Int} {va : Value} {all : List It} {met : List Int}
theorem Inn.below (h:Inn w wr M g off n c todo va all met) (a:Below wr.heap.size wr wr'):Inn w wr' M g off n c todo va all met:=by
 obtain⟨b,d,f⟩:=h.map;exact⟨h.le.trans (a.mono h.le.size),h.q.below a,ah h.row a,⟨b,(aa.of_size a (λ_=>False)).ownsMap d (λe=>e),f⟩,h.hM,h.gM,h.ga⟩
theorem Inn.start {w2:World} {s:Int} {D:DataW Unit} {t:TypeId} (hm:w2.ownsMap prog 3 (plainElem prog 4) w.heap.size 1 D) (a:fy D [s]) (le:Below w.heap.size w w2):
  Inn w (w2.alloc (.cells #[.int .i64 s] t)) w.heap.size w2.heap.size 0 1 1 [s] (.slice none 0 0) [] [s]:=by
 have b:w.heap.size<w2.heap.size:=hm.lt;exact⟨le.alloc le.size _,eU.one w2 le.size s t,World.ownsRow_nil _ _ _ _,⟨D,((aa.refl (λ_=>False) w2).alloc _).ownsMap hm (λe=>e),a⟩,Zf _,by omega,by simp [Value.ownBlock]⟩
theorem Inn.pop {x:Int} {r:List Int} (h:Inn w wr M g off n c (x::r) va all met):Inn w wr M g (if c=1 then off else off+1) (n - 1) (c - 1) r va all met:=
 ⟨h.le,h.q.pop,h.row,h.map,h.hM,h.gM,h.ga⟩
theorem Inn.app {A:Option Addr} {d m:Nat} {f:List It} (h:Inn w wr M g off n c todo va all met) (hm:m=f.length) (p:wr'.ownsRow w.heap.size 226 2 (.slice A (all.length+m) d) (all.length+m) (ar all++ar f)) (i:wr.grownBy wr' va.ownBlock) (b:(Value.slice A (all.length+m) d).ownBlock=va.ownBlock\/(Value.slice A (all.length+m) d).ownBlock=some wr.heap.size):
  Inn w wr' M g off n c todo (.slice A (all++f).length d) (all++f) met:=by
 obtain⟨l,j,q⟩:=h.map;subst hm;have k:aa (λa=>va.ownBlock=some a) wr wr':=(aa.refl _ _).grown i (λa e _=>e);have o: ∀a,va.ownBlock=some a->w.heap.size<=a:=λa e=>(h.row.lt a e).1
 rw [Zb];refine⟨h.le.grown i h.le.size o,h.q.touch k h.ga,?_,⟨l,k.ownsMap j (sL h.row j),q⟩,h.hM,h.gM,λe=> ?_⟩
 ·rw [eD,Zb];exact p
 ·rcases b with b|b
  ·exact h.ga (b▸e)
  ·rw [b]at e;injection e with e
   have:=h.q.low.2;omega
theorem Inn.meet {x:Int} {b:DataW Unit} (h:Inn w wr M g off n c todo va all met) (hm:wr'.ownsMap prog 3 (plainElem prog 4) M (met.length+1) b) (i:fy b (met++[x])) (d:wr.grownBy wr' (some M)):Inn w wr' M g off n c todo va all (met++[x]):=by
 obtain⟨l,k,m⟩:=h.map;have f:aa (λa=>a=M) wr wr':=(aa.refl _ _).grown d (λa e _=>by injection e with e;exact e.symm);exact⟨h.le.grown d h.le.size (λa e=>by injection e with e;have:=h.hM;omega),h.q.touch f h.gM,f.own h.row (λa j e=>sL h.row k (by rw [j,e])),⟨b,by rw [Zb];exact hm,i⟩,h.hM,h.gM,h.ga⟩
theorem Inn.push {x:Int} {a i d:Nat} (h:Inn w wr M g off n c todo va all met) (m:eU wr' w.heap.size a i (n+1) d (todo++[x])) (t:aa (λk=>k=g) wr wr') (b:a=g\/wr.heap.size<=a):Inn w wr' M a i (n+1) d (todo++[x]) va all met:=by
 obtain⟨j,f,p⟩:=h.map;refine⟨t.toBelow (λo e=>by rw [e];exact h.q.low.1) h.le h.le.size,m,t.own h.row (λo l e=>h.ga (by rw [l,e])),⟨j,t.ownsMap f (λe=>h.gM e.symm),p⟩,h.hM,?_,?_⟩
 ·rcases b with rfl|b
  ·exact h.gM
  ·have:=f.lt;omega
 ·rcases b with rfl|b
  ·exact h.ga
  ·intro e;have:=(h.row.lt _ e).2;omega
end
theorem rz {G:ac} {st:Int} {x:It} (h:am G (cV G st x)=true):aw G st x=(cV G st x,true):=by
 unfold cV at h⊢;unfold aw at h⊢
 split
 ·rfl
 ·rename_i a
  rw [if_neg a]at h;exfalso;unfold am ao at h;simp only [Za,decide_eq_true_eq]at h;omega
end
section
open Go.RowKit Go.Maps
attribute [local irreducible] wpStill aB aO
def xx (w:World) (F:Nat->Prop) (B:Nat) (A1:Option Addr) (c1:Nat) (A2:Option Addr) (c2:Nat) (A3:Option Addr) (c3 T N R:Nat) (st:Int) (G:ac) (vs:Value) (m1 m2:Nat) (e:Ending) (w':World):Prop:=
 e= .returned (.tuple #[])/\ ∃P c rs L,w.heap.size<=P/\ao G+1<=c/\c<=9223372036854775807/\Bd w' F B A1 c1 A2 c2 A3 c3 T N R st G (.slice (some ⟨P,0,none⟩) (ao G+1) c) vs m1 m2/\f7 w' P P (ao G+1) rs L/\
  (∀s:Nat,T<s->s<=ao G->uh G st s (L s)/\(L s).length<=50000)/\aa (λb=>b=B) w w'
theorem xS {w:World} {F:Nat->Prop} {B:Nat} {A1:Option Addr} {c1:Nat} {A2:Option Addr} {c2:Nat} {A3:Option Addr} {c3 T N R:Nat} {st:Int} {G:ac} {gE vs:Value} {a1 a2:Nat}
  (h:Bd w F B A1 c1 A2 c2 A3 c3 T N R st G gE vs a1 a2) (e0: ¬F B) (hT:T=G.terms.length) (e1:G.nons.length<=120) (e6:G.terms.length<=120) (e4:G.rules.length<=300):
  Calls prog 76 #[PtB B] w (xx w F B A1 c1 A2 c2 A3 c3 T N R st G vs a1 a2):=by
 have bY:=λwr (g:Bd wr F B A1 c1 A2 c2 A3 c3 T N R st G gE vs a1 a2)=>eW g.gram st
 have cP:ao G=G.terms.length+G.nons.length:=rfl;obtain⟨b,cM⟩: ∃b,b=ao G:=⟨_,rfl⟩;unfold xx;rw [<-cM]at bY cP⊢;obtain⟨U,V,W,X⟩:=h.cells;have al:=bY _ h;have eZ:=h.gram.lt;obtain⟨d5,a6,hA,cp,bO,gW,cn,bA,g3,bB,gO⟩:=fa h al bY cM cP e0 e4 e1 e6 hT eZ;clear h al bY cM cP e0 e4 e1 e6 hT eZ
 go_enter func76,ntmps76
 go_wp2_with fail
 refine a6.out.mono ?_;rintro e w2 ⟨rfl,ak⟩;have bu:=d5.out.below ak;clear U V W X a6;have hU:b<=240:=by have:=bO.out;have:=bA.out;have:=g3.out;omega
 have ht: ∀w:World,(Instr.makeSlice 122 (.int .i64 ((b:Int)+1)) (.int .i64 ((b:Int)+1))).run prog w= .ok (.slice (some ⟨w.heap.size,0,none⟩) (b+1) (b+1)) (w.alloc (.cells (madeCells #[.slice none 0 0] (b+1)) 109)):=λw=>by
  have:=sQ (b+1) (by omega) w
  push_cast at this
  exact this
 obtain⟨w3,br⟩: ∃w3,w3=w2.alloc (.cells (madeCells #[.slice none 0 0] (b+1)) 109):=⟨_,rfl⟩;have H:Below w2.heap.size w2 w3:=by rw [br];exact(Below.refl _ _).alloc (Zf _) _
 have dd:=f7.made w2 (b+1) 109;rw [<-br]at dd;have bw:=bu.below H;have gg:=(bw.blk.cell 4).trans rfl;have dt:=bw.blk.frozen 4;obtain⟨P,b5⟩: ∃P,P=w2.heap.size:=⟨_,rfl⟩;have cA: ¬P=B:=by have:=bu.blk.lt;omega
 have E:aa (λa=>a=B) w3 (w3.setCell ⟨B,4,none⟩ (.slice (some ⟨w2.heap.size,0,none⟩) (b+1) (b+1))):=(aa.refl (λa=>a=B) w3).setCell (p:=⟨B,4,none⟩) (λ_=>rfl) _;have r:Bd (w3.setCell ⟨B,4,none⟩ (.slice (some ⟨w2.heap.size,0,none⟩) (b+1) (b+1))) F B A1 c1 A2 c2 A3 c3 T N R st G (.slice (some ⟨w2.heap.size,0,none⟩) (b+1) (b+1)) vs a1 a2:=⟨bw.gram.touch E (λa j e=>gW.out (e▸j)),bw.blk.put 4 _⟩;have Y:=dd.touch E (by rw [<-b5];exact cA) (λa an _ _ e=>by have:=bu.blk.lt;omega);have e5:aa (λa=>a=B) w (w3.setCell ⟨B,4,none⟩ (.slice (some ⟨w2.heap.size,0,none⟩) (b+1) (b+1))):=((aa.of_size (ak.trans (H.mono ak.size)) (λa=>a=B))).trans' E;have e3:w.heap.size<=P:=by rw [b5];exact ak.size
 rw [br]at gg dt;clear bw dd H E d5;have hO:T<=b:=by have:=bO.out;have:=bB.out;omega
 have em:=ab (show G.nons.length+T=b by have:=bO.out;have:=bB.out;omega);obtain⟨hf,gF,ea,g2,bc,ba,eb,cm⟩:=dA bu ak b5 cA r Y e5 e3;clear bu ak b5 cA r Y e5 e3;clear bO
 go_upto_region 1 with fail
 rw [<-br];have r:=bc.out;have Y:=ba.out;have cl:=eb.out;obtain⟨w4,f0⟩: ∃w4,w4=w3.setCell ⟨B,4,none⟩ (.slice (some ⟨w2.heap.size,0,none⟩) (b+1) (b+1)):=⟨_,rfl⟩;rw [<-f0]at r Y cl⊢;rw [<-ea.out]at r Y;obtain⟨U,V,W,X⟩:=r.cells;clear f0 br bc ba eb gg dt ht hf gF ea;obtain⟨bc,ba,dS⟩:=aK r Y cl;clear r Y cl
 go_wp2_with fail
 have bp:= @run_makeMap prog
 go_loopw [2] (λD wr=> ∃(f:Nat) (dn:Nat->Value) (L:Nat->List It),T+1<=f/\f<=b+1/\D= .int .i64 f/\Bd wr F B A1 c1 A2 c2 A3 c3 T N R st G (.slice (some ⟨P,0,none⟩) (b+1) (b+1)) vs a1 a2/\f7 wr P P (b+1) dn L/\(∀t:Nat,T<t->t<f->uh G st t (L t)/\(L t).length<=50000)/\aa (λa=>a=B) w wr) (λD _=>b+1 - (intOf D).toNat)
 case atStart=>exact⟨T+1,_,_,Zf _,by omega,by go_num,bc.out,ba.out,λt an b3=>by omega,dS.out⟩
 case round=>
  clear U V W X bc ba dS;obtain⟨f,dn,L,hV,hW,rfl,cf,gl,j,gA⟩:=hrel;obtain⟨U,V,W,X⟩:=cf.cells;have al:=eW cf.gram st;rw [<-cp.out]at al;obtain⟨eB,eA,ec,eE,a6⟩:=aX cf gl j gA al;clear cf gl j gA al
  go_wp2_with fail
  refine a6.out.mono ?_;rintro e q ⟨rfl,bS⟩;have ch:=eB.out.below bS;have cd:=eA.out.below bS;have ci:=eE.out.trans' (aa.of_size bS (λa=>a=B));clear U V W X bS eB eA eE a6;by_cases hR:f<=b
  ·have hp:(f:Int)<=(b:Int):=by omega
   have bl:=eO (n:=(f:Int)) (by omega);have fL:am G (f:Int)=true:=by unfold am;rw [<-cp.out,<-bB.out,Za,decide_eq_true_eq,decide_eq_true_eq];omega
   have aT:=World.ownsMap_made q prog 3 (plainElem (H:=Unit) prog 4);obtain⟨o,bb,cu,g8⟩:=aA ch cd ci fL;clear ch cd ci fL
   go_wp2_with (refine kw _ rfl _ _ _ 223 rfl 3 4 intKeyed underlying223 _ q.heap.size 0 (.map []) rfl aT (by unfold maxLen;omega) _ _ _ rfl rfl bl _ [] (plainElem_bool underlying4 true) ?_)
   intro w6 a3 J;have f6:=Inn.start (w:=q) (t:=3) a3 (fy.empty.put (x:=(f:Int)) (by omega)) (((Below.refl _ q).alloc (Zf _) _).grown J (by simp) (λd e=>by injection e with e;omega));obtain⟨ck,e2⟩: ∃k,k=G.nons.length:=⟨_,rfl⟩;clear bl aT a3 J bp;obtain⟨ev,d6⟩:=av f6 e2;clear f6 e2
   go_wp2_with fail
   go_loopg [4,5] ck (λhz dr eG hy=> ∃(p todo:List Int) (all:List It) (g off n c:Nat) (z:Option Addr) (C:Nat),dr= .slice (some ⟨g,off,none⟩) n c/\eG= .slice z all.length C/\Inn q hy q.heap.size g off n c todo eG all (p++todo)/\je G st f p todo all/\ck<=hz+p.length)
   case atStart=>exact⟨[],[(f:Int)],[],_,0,1,1,none,0,rfl,rfl,ev.out,je.start g8.out,by simp⟩
   case round=>
    clear ev;obtain⟨p,todo,all,g,off,n,c,z,C,rfl,rfl,l,I,c0⟩:=hrel;have cB:=I.len;have e8:=I.allLen cn.out;rw [<-d6.out]at cB;have hM:ck<=120:=(by rw [d6.out];exact bA.out);obtain⟨x,⟨ft,b7⟩,-,-,-⟩:=l.q;unfold maxLen at b7;obtain⟨hZ,aS⟩: ∃k,k=all.length:=⟨_,rfl⟩;obtain⟨h0,bo⟩: ∃k,k=p.length:=⟨_,rfl⟩;rw [<-aS]at e8;rw [<-bo]at cB e8 c0;cases todo with
    |nil=>
     have hu:n=0:=x;subst hu;have v:=o.out.touch (aa.of_below l.le) (λa j e=>by have:=o.out.gram.lt a j;omega) (by have:=o.out.blk.lt;omega);have ce:=bb.out.touch (aa.of_below l.le) (by have:=bb.out.lt;omega) (λa _ b3 _ e=>by omega);have bg:uh G st f all:=je.is I;have gi:aH wr (λa=>P<=a/\a<wr.heap.size/\a≠P) (.slice z all.length C) all:=(Rd.of_own l.row).mono (λa j=>by
      have an:=l.row.lt a j
      have b3:=bb.out.lt
      omega)
     have gm:=ce.put (i:=f) (by omega) gi;have E:aa (λa=>a=P) wr (wr.setCell ⟨P,f,none⟩ (.slice z all.length C)):=(aa.refl (λa=>a=P) wr).setCell (p:=⟨P,f,none⟩) (λ_=>rfl) _;have gr:Bd (wr.setCell ⟨P,f,none⟩ (.slice z all.length C)) F B A1 c1 A2 c2 A3 c3 T N R st G (.slice (some ⟨P,0,none⟩) (b+1) (b+1)) vs a1 a2:=v.touch E (λa j e=>by have:=o.out.gram.lt a j;have:=cm.out;have:=gO.out a j;omega) (λe=>g2.out e.symm);have gB:aa (λa=>a=B) w (wr.setCell ⟨P,f,none⟩ (.slice z all.length C)):=(cu.out.trans' (aa.of_size l.le (λa=>a=B))).trans E (λD hi e=>by have:=cm.out;omega);have hI:=(v.blk.cell 4).trans rfl;have hJ:=ce.cell f (by omega);have dt:=ce.frz f (by omega);have fi:all.length<=50000:=(by rw [<-aS];omega);have hX:f<b+1:=(by omega);clear v ce gi E l I x;obtain⟨hg,hh,he,co,g7,eg,ei⟩:=de gr gB gm bg fi aS bo;clear gr gB gm bg fi aS bo
     go_wp2_with fail
     go_roundw
     case rel=>exact⟨f+1,_,_,by omega,by omega,by go_num,hg.out,he.out,λt an b3=>by
       by_cases e:t=f
       ·subst e;rw [aC];exact⟨co.out,g7.out⟩
       ·rw [aN e];exact ec.out t an (by omega),hh.out⟩
     case measure=>simp [intOf];omega
    |cons i c9=>
     have hl:wr.cell? ⟨g,off,none⟩=some (.int .i64 i):=(by have:=l.q.at_ 0 i rfl;simpa using this);have v:=o.out.touch (aa.of_below l.le) (λa j e=>by have:=o.out.gram.lt a j;omega) (by have:=o.out.blk.lt;omega);have hw:=rN (G:=G) (s:=i);have b0:=AW v i (by have:=cn.out;omega);obtain⟨u,hm⟩: ∃k,k=(cW (az G i)).length:=⟨_,rfl⟩;have hS:u<=300:=(by rw [hm,mq];have:=cn.out;omega);unfold zB at b0;rw [<-hm]at b0;clear hw;simp only [List.length_cons]at x cB;have hv:0<n:=(by omega);have f8:=l.pop;have eQ:=I.take;have bg:=I.all_;clear l I;obtain⟨hG,d3,a7,a8,d1,co,eg,ei,hD⟩:=dQ v b0 hm f8 eQ bg aS bo x;clear v b0 hm f8 eQ bg aS bo x
     go_wp2_with fail
     refine d3.out.mono ?_;rintro e w3 ⟨dF,eR,rfl,aT,H⟩;have cb:=a8.out.below H;obtain⟨gb,cK⟩: ∃k,k=if c=1 then off else off+1:=⟨_,rfl⟩
     rw [<-cK]at cb;have ho:(if c=1 then(some ⟨g,off,none⟩:Option Addr)else some ⟨g,off+1,none⟩)=some ⟨g,gb,none⟩:=(by rw [cK];split<;>rfl);have cC:g<wr.heap.size:=a8.out.q.low.2;have f1:q.heap.size<=w3.heap.size:=cb.le.size;have y:aH w3 (λa=>wr.heap.size<=a/\a<w3.heap.size) (.slice dF u eR) (cW (az G i)):=(Rd.of_own aT).mono (λa j=>aT.lt a j);have cR: ∀d,(Value.slice z all.length C).ownBlock=some d->d<wr.heap.size:=λd e=>(a8.out.row.lt d e).2
     clear aT cK d3 hl;obtain⟨Z,ap⟩: ∃k,k=wr.heap.size:=⟨_,rfl⟩;obtain⟨s,b4⟩: ∃k,k=w3.heap.size:=⟨_,rfl⟩;have hK:Z<=s:=(by rw [ap,b4];exact H.size);have hL:q.heap.size<Z:=by
      obtain⟨dO,a4,-⟩:=a8.out.map;rw [ap];exact a4.lt
     rw [<-ap,<-b4]at y;rw [<-ap]at cC cR;clear H a8;obtain⟨cs,bE,es,g0,g1⟩:=aX cb y cR ap b4;clear cb y cR ap b4;have bp:(ar (cW (az G i))).length=u * 2:=(by rw [dL,<-a7.out]);have fs:=iH (cW (az G i));have hQ:all.length<=50000:=(by have:=eg.out;omega);obtain⟨ej,el⟩:=av bp fs;clear bp fs
     go_wp2_with (at_builtin;refine aJ _ rfl (.tmp 51) (.tmp 52) _ rfl elemItem q.heap.size _ all.length (ar all) rfl cs.out.row _ _ (ar (cW (az G i))) u rfl ej.out bE.out el.out (by unfold maxLen;omega) (by omega) f1 ?_)
     intro cj cx w8 gc b2 e9;have S:=cs.out.app a7.out gc b2 e9;have bi:(wr.heap.size=Z):=g0.out.symm;have bq:=bE.out.touch ((aa.refl (λd=>(Value.slice z all.length C).ownBlock=some d) w3).grown b2 (λd e _=>e)) (λa j e=>by have:=es.out a e;omega);have ca:s<=w8.heap.size:=(by rw [g1.out];exact b2.size);have fh:0<gk:=(by omega);clear gc b2 e9 ho bi cs bE es el ej f1;obtain⟨hb,ee⟩:=av c0 fh;clear c0 fh;obtain⟨va,fT⟩: ∃k,k=Value.slice cj (all++cW (az G i)).length cx:=⟨_,rfl⟩;obtain⟨bP,b6⟩: ∃k,k=all++cW (az G i):=⟨_,rfl⟩;have cS:all.length+u=bP.length:=(by rw [b6,Zb,<-a7.out]);rw [<-b6]at S;obtain⟨a9,bG,hE,g4⟩:=aA S bq fT b6;clear S bq fT b6;have eX:p++i::c9=p++[i]++c9:=(by simp);rw [eX]at a9;rw [cS];clear eX;have hF:=ab cS;clear cS
     go_wp2_with fail
     go_loopw [4,56] (λdr D wr=> ∃(d:Nat) (todo:List Int) (g off n c:Nat),d<=u/\D= .int .i64 d/\dr= .slice (some ⟨g,off,none⟩) n c/\Inn q wr q.heap.size g off n c todo (.slice cj bP.length cx) bP (p++[i]++todo)/\jC G st f p i todo d/\(g<Z\/s<=g)/\s<=wr.heap.size/\aH wr (λa=>Z<=a/\a<s) (.slice dF u eR) (cW (az G i))) (λ_ D _=>u - (intOf D).toNat)
     case atStart=>exact⟨0,c9,g,gb,n - 1,c - 1,Zi _,rfl,rfl,a9.out,d1.out,.inl cC,ca,bG.out⟩
     case round=>
      clear a9 d1 cC ca bG ft b7 hv;obtain⟨d,todo,g,off,n,c,hP,rfl,rfl,l,be,cE,f4,y⟩:=hrel;have hk:=be.len;obtain⟨fv,⟨ft,b7⟩,-,-,-⟩:=l.q;unfold maxLen at b7;have hN:n<=120:=(by have:=bA.out;omega);clear hk;by_cases hr:d<u
      ·have hs:(d:Int)<(u:Int):=(by omega);obtain⟨-,-,-,fg⟩:=aH.at_ y;obtain⟨a,hH,rfl,fb,fd⟩:=fg (by omega);obtain⟨ds,cT⟩: ∃ds,(cW (az G i))[d]? =some ds:=⟨_,List.getElem?_eq_getElem (by rw [<-a7.out];exact hr)⟩;obtain⟨gd,gf⟩:=fd d ds cT;obtain⟨bt,cO,rfl⟩:=BK cT;simp only at gd gf;obtain⟨bx,bs⟩: ∃bx,bx=wr.alloc (.cells #[.int .i64 bt,.int .i64 0] 226):=⟨_,rfl⟩;have bW:Below wr.heap.size wr bx:=(by rw [bs];exact(Below.refl _ _).alloc (Zf _) _);have ga:Blk bx wr.heap.size 226 #[.int .i64 bt,.int .i64 0]:=(by rw [bs];exact Blk.new _ _ _);have c7:=l.below bW;have v:=o.out.touch (aa.of_below c7.le) (λa j e=>by have:=o.out.gram.lt a j;omega) (by have:=o.out.blk.lt;omega);have b1:=pJ v (bt,0) (mz (Ze cO));have fF:=y.touch (aa.of_size bW (λ_=>False)) (λ_ _ e=>e);have f5:s<=bx.heap.size:=Zg f4 bW.size;have cI:=rz (G:=G) (st:=st) (x:=(bt,0));obtain⟨m,cU⟩: ∃m,m=cV G st (bt,0):=⟨_,rfl⟩;rw [<-cU]at b1 cI;rw [bs]at b1;clear fg fd bW cT l y f4 v fv;obtain⟨ex,er,hd,d4,cr,em,et,bz,hB⟩:=dQ c7 fF ga b1 cO cI cU be fb;clear c7 fF ga b1 cO cI cU be fb
       go_wp2_with fail
       with_reducible refine d4.out.mono ?_
       rintro e w4 ⟨rfl,bd⟩;rw [<-bs]at bd;have c5:=ex.out.below bd;have fw:=er.out.touch (aa.of_size bd (λ_=>False)) (λ_ _ e=>e);have f2:s<=w4.heap.size:=Zg f5 bd.size;have r:=o.out.touch (aa.of_below c5.le) (λa j e=>by have:=o.out.gram.lt a j;omega) (by have:=o.out.blk.lt;omega);have cy:=iV r.gram st m;obtain⟨U,V,W,X⟩:=r.cells;obtain⟨c8,cH⟩: ∃c8,c8=am G m:=⟨_,rfl⟩;rw [<-cH]at cy;clear bs gd gf bd f5 ex er hd d4 r;obtain⟨ew,en,d2,bC⟩:=aA c5 fw cy cH;clear c5 fw cy cH
       go_wp2_with fail
       with_reducible refine d2.out.mono ?_
       rintro e w5 ⟨rfl,bR⟩;have Q:=ew.out.below bR;have a0:=en.out.touch (aa.of_size bR (λ_=>False)) (λ_ _ e=>e);have b9:s<=w5.heap.size:=Zg f2 bR.size;clear U V W X bR f2 ew en d2;cases c8 with
       |false=>
        have A:=bz.out.skip cr.out (λk cN x=>by
         exfalso
         have:m=k:=by rw [et.out];unfold cV;rw [cN]
         rw [<-this,<-bC.out]at x
         cases x)
        obtain⟨ai,ad,a5⟩:=aK Q a0 A;clear Q a0 A
        go_wp2_with fail
        go_roundw
        case rel=>exact⟨d+1,todo,g,off,n,c,by omega,by go_num,rfl,ai.out,a5.out,cE,b9,ad.out⟩
        case measure=>simp [intOf];omega
       |true=>
        have bh:=em.out bC.out.symm;have b8:(T:Int)<m/\m<=(b:Int):=by
         have:=bC.out.symm;unfold am at this;rw [<-cp.out,<-bB.out,Za,decide_eq_true_eq,decide_eq_true_eq]at this;exact this
        have O: -9223372036854775808<=m/\m<=9223372036854775807:=(by omega);obtain⟨dO,a4,cc⟩:=Q.map;have fn:=cc.look a4 O;obtain⟨c4,K⟩: ∃c4,c4=decide (m∈p++[i]++todo):=⟨_,rfl⟩;rw [<-K]at fn;cases c4 with
        |true=>
         have A:=bz.out.skip cr.out (λk cN x=>by
          have:m=k:=by rw [et.out];unfold cV;rw [cN]
          rw [<-this]
          exact of_decide_eq_true K.symm)
         clear a4 cc;obtain⟨ai,ad,a5,g5,g9,ha,g6⟩:=de Q a0 A bh b8 O K;clear Q a0 A bh b8 O K
         go_wp2_with fail
         go_roundw
         case rel=>exact⟨d+1,todo,g,off,n,c,by omega,by go_num,rfl,ai.out,a5.out,cE,b9,ad.out⟩
         case measure=>simp [intOf];omega
        |false=>
         have A:=bz.out.put cr.out bh bC.out.symm (of_decide_eq_false K.symm);have bl:=eO O;have hq:(p++[i]++todo).length<=1000:=by
          have:=bz.out.len;have:=bA.out;simp only [Zb,Zc];omega
         obtain⟨ai,ad,a5,g5,g9,g6,ey⟩:=de Q a0 A bh b8 K cc;clear Q a0 A bh b8 K cc
         go_wp2_with (at_mapUpdate;refine wpList_mapUpdate_own _ rfl _ _ _ 223 rfl 3 4 intKeyed underlying223 _ q.heap.size (p++[i]++todo).length dO rfl a4 (by unfold maxLen;omega) _ _ _ rfl rfl bl _ [] (plainElem_bool underlying4 true) ?_)
         intro w6 a3 J;rw [show p.length+(todo.length+1)+1=(p++[i]++todo).length+1 by simp]at a3;have f9:=ai.out.meet a3 (ey.out.put O) J;have fx:=ad.out.touch ((aa.refl (λd=>d=q.heap.size) w5).grown J (λd e _=>by injection e with e;exact e.symm)) (λa j e=>by omega);have hY:s<=w6.heap.size:=Zg b9 J.size;have cv:Below w6.heap.size w6 (w6.alloc (.cells #[.int .i64 m] 3)):=(Below.refl _ _).alloc (Zf _) _;have c6:=f9.below cv;have fz:=fx.touch (aa.of_size cv (λ_=>False)) (λ_ _ e=>e);have fc:(w6.alloc (.cells #[.int .i64 m] 3)).cell? ⟨w6.heap.size,0,none⟩=some (.int .i64 m):=(Blk.new w6 3 #[.int .i64 m]).cell 0;have f3:q.heap.size<=(w6.alloc (.cells #[.int .i64 m] 3)).heap.size:=c6.le.size;clear a3 J f9 fx cv a4 fn bl ey ai ad b9 hq;obtain⟨ct,ep,ha,ed⟩:=aA c6 fz O fc;clear c6 fz O fc
         go_wp2_with (at_builtin;refine ql rfl (.tmp 77) (.tmp 79) rfl ct.out.q rfl rfl ed.out (by omega) f3 ?_)
         intro cz hx hj w8 gh cg bi;have S:=ct.out.push gh cg (bi.imp id (λh=>by simpa using h));have bq:=ep.out.touch cg (λa j e=>by omega);have ca:s<=w8.heap.size:=by
          have:=cg.size;simp at this;omega
         have hn:cz<Z\/s<=cz:=by
          rcases bi with e|e
          ·rw [e];exact cE
          ·right;omega
         rw [List.append_assoc]at S;clear gh cg bi ct ep ed f3;obtain⟨a9,bG⟩:=av S bq;clear S bq
         go_wp2_with fail
         go_roundw
         case rel=>exact⟨d+1,todo++[m],cz,hx,n+1,hj,by omega,by go_num,rfl,a9.out,a5.out,hn,ca,bG.out⟩
         case measure=>simp [intOf];omega
      ·have hs: ¬(d:Int)<(u:Int):=(by omega);have cG:d=(az G i).length:=(by have:=a7.out;rw [mq]at this;omega);have cw:=jC.back (cG▸be) co.out;rw [<-g4.out]at cw;clear fv be;obtain⟨hc,bE,gM,hC⟩:=aA l y cw cG;clear l y cw cG
       go_wp2_with fail
       go_roundg (gk - 1)
       case measure=>have:=ee.out;omega
       case rel=>exact⟨p++[i],todo,bP,g,off,n,c,cj,cx,rfl,rfl,hc.out,gM.out,by have:=hb.out;have:=ee.out;have:=ei.out;simp only [Zb,Zc];omega⟩
  ·have hp: ¬(f:Int)<=(b:Int):=by omega
   clear bp;obtain⟨o,bb,cu⟩:=aK ch cd ci;clear ch cd ci
   go_wp2_with fail
   go_end0
   exact⟨rfl,P,b+1,dn,L,cm.out,Zf _,by omega,o.out,bb.out,λt an b3=>ec.out t an (by omega),cu.out⟩
end
section
open Go.RowKit Go.Sort
attribute [local irreducible] wpStill aB aO
def SmI (x:It):Prop:=(0<=x.1/\x.1<=1000000)/\0<=x.2/\x.2<=1000000
abbrev ItS:={x:It//SmI x}
instance:Inhabited ItS:=⟨⟨(0,0),⟨by simp,by simp⟩,by simp,by simp⟩⟩
def cfS (x y:ItS):Int:=if x.1.1=y.1.1 then x.1.2 - y.1.2 else x.1.1 - y.1.1
theorem jY (x y:ItS):ltOf cfS x y=i2 x.1 y.1:=by
 unfold ltOf cfS;rw [Bool.eq_iff_iff,decide_eq_true_eq,rD]
 split<;>omega
theorem FU:SWO (ltOf cfS) where
 irrefl x:=by rw [jY];exact lM x.1
 trans x y z h1 h2:=by rw [jY]at *;exact oL h1 h2
 ntrans x y z h1 h2:=by rw [jY,jI]at *;omega
theorem FC (x y:ItS) (a:ltOf cfS x y=false) (b:ltOf cfS y x=false):x=y:=by
 rw [jY]at *;exact Subtype.ext (rC a b)
def qY (x:ItS):List Value:=jk x.1
theorem Ei (a:List ItS):flatK qY 2 a.toArray=flatK jk 2 (a.map Subtype.val).toArray:=by
 apply Array.ext
 ·rw [size_flatK,size_flatK];simp
 ·intro b d e;rw [size_flatK]at d e;have j:b/2<a.length:=by simp at d;omega
  have f:=get_flatK qY 2 a.toArray b d;have h:=get_flatK jk 2 (a.map Subtype.val).toArray b e;have k:a.toArray[b/2]! =a[b/2]:=by simp [j]
  have l:(a.map Subtype.val).toArray[b/2]! =(a[b/2]).1:=by simp [j]
  rw [k]at f;rw [l]at h;have i:=f.trans h.symm;rw [getElem!_pos _ _ (by rw [size_flatK];exact d),getElem!_pos _ _ (by rw [size_flatK];exact e)]at i;exact i
def smL (l:List It) (h: ∀x∈l,SmI x):List ItS:=l.attach.map λx=>⟨x.1,h x.1 x.2⟩
theorem uk (l:List It) (h: ∀a∈l,SmI a):(smL l h).map Subtype.val=l:=by
 unfold smL;rw [List.map_map];exact List.attach_map_subtype_val l
theorem yH (l:List It) (h: ∀a∈l,SmI a):(smL l h).length=l.length:=by unfold smL;simp
def iq (l:List It) (h: ∀x∈l,SmI x):List It:=((smL l h).mergeSort λx y=> !(ltOf cfS) y x).map Subtype.val
theorem BE {l:List It} {h: ∀a∈l,SmI a} {z:It}:z∈iq l h↔z∈l:=by
 unfold iq;rw [Zd];constructor
 ·rintro⟨a,b,rfl⟩;have:=(List.mergeSort_perm (smL l h) _).mem_iff.1 b;rw [<-uk l h];exact Zd.2 ⟨a,this,rfl⟩
 ·intro d;rw [<-uk l h]at d;obtain⟨a,b,rfl⟩:=Zd.1 d;exact⟨a,(List.mergeSort_perm (smL l h) _).mem_iff.2 b,rfl⟩
theorem xD (l:List It) (h: ∀a∈l,SmI a):(iq l h).length=l.length:=by
 unfold iq;rw [List.length_map,(List.mergeSort_perm (smL l h) _).length_eq,yH]
theorem zM (l:List It) (h: ∀a∈l,SmI a):vU (iq l h):=by
 have:=List.pairwise_mergeSort (le:=λa e:ItS=> !(ltOf cfS) e a) (λb d c f i=>by
  rw [Bool.not_eq_true',jY,jI]at *;omega) (λb d=>by
  rw [Bool.or_eq_true,Bool.not_eq_true',Bool.not_eq_true',jY,jY,jI,jI];omega) (smL l h)
 unfold iq vU;rw [List.pairwise_map];refine List.Pairwise.imp (fun{b d} h=> ?_) this;rw [Bool.not_eq_true',jY]at h;exact h
theorem xY (l:List It) (h: ∀a∈l,SmI a):dk (iq l h)=dg l:=AK (zM l h) λb=>BE
theorem ED {a c:Int} (h:a=c):(a !=c)=false:=by subst h;simp
theorem Fi {a c:Int} (h: ¬a=c):(a !=c)=true:=by simpa using h
theorem C8 (x y:ItS) (h:World):Calls prog 214 #[.agg (qY x).toArray,.agg (qY y).toArray] h λe w'=>e= .returned (.int .i64 (cfS x y))/\ ∃B A,w'=grow (h.drewN B) A:=by
 obtain⟨⟨a,b⟩,t,u⟩:=x;obtain⟨⟨c,d⟩,v,z⟩:=y;obtain⟨k,i⟩: ∃k,k=(if a=c then b - d else a - c):=⟨_,rfl⟩;have s:cfS ⟨(a,b),t,u⟩ ⟨(c,d),v,z⟩=k:=i.symm;rw [s];obtain⟨w2,m,o,p,-⟩:=DU (w:=h) a b c d;have d0:=(o.cell 0).trans rfl;have D:=(o.cell 1).trans rfl;have E:=(p.cell 0).trans rfl;have F:=(p.cell 1).trans rfl;simp only at t u v z;obtain⟨H,I⟩:=t;obtain⟨J,K⟩:=u;obtain⟨N,O⟩:=v;obtain⟨Q,R⟩:=z;have l: ∃B A,w2=grow (h.drewN B) A:=⟨0, #[.cells #[.int .i64 a,.int .i64 b] 226,.cells #[.int .i64 c,.int .i64 d] 226],by rw [m];rfl⟩;have s1:IntKind.i64.wrap (a - c)=a - c:=by rw [IntKind.wrap_i64];omega
 have S:IntKind.i64.wrap (b - d)=b - d:=by rw [IntKind.wrap_i64];omega
 rw [m]at d0 D E F;by_cases f:a=c
 ·have j:k=b - d:=by rw [i,if_pos f]
  have G:=ED f;clear i s o p;obtain⟨q,r,C⟩:=aK j l f;clear j l f;show Calls prog 214 #[.agg #[.int .i64 a,.int .i64 b],.agg #[.int .i64 c,.int .i64 d]] h _
  go_enter func214,ntmps214
  go_wp2_with fail
  go_ret
  rw [<-m];exact⟨au q.out.symm,r.out⟩
 ·have j:k=a - c:=by rw [i,if_neg f]
  have G:=Fi f;clear i s o p;obtain⟨q,r,C⟩:=aK j l f;clear j l f;show Calls prog 214 #[.agg #[.int .i64 a,.int .i64 b],.agg #[.int .i64 c,.int .i64 d]] h _
  go_enter func214,ntmps214
  go_wp2_with fail
  go_ret
  rw [<-m];exact⟨au q.out.symm,r.out⟩
theorem zL (a j n:Nat) (l:List It) (h: ∀b∈l,SmI b) (w:World) (p:HI w a l) (t:n=l.length) (r:a<w.heap.size) (u:n<4611686018427387904):
  Calls prog 213 #[.slice (some ⟨a,0,none⟩) n j,.func (.func 214) #[] #[]] w λe w'=>e= .returned (.tuple #[])/\ ∃d f,w'=sortWorldK jk 2 w a 0 d (iq l h).toArray f:=by
 have o: ∀i w,(callFunc 214 i).run prog w= .ok (.enter 214 i) w:=enters_of func214 (by kernel_rfl) rfl;have q:HoldsK qY 2 w a 0 (smL l h).toArray:=by
  unfold HoldsK;rw [Ei,uk];exact p.holds
 have k:(smL l h).toArray.size=n:=by rw [t];simp [yH]
 have:=AnyQ.slices_SortFunc_total sortIt 2 isAgg226 sizeOf226 qY (λ_=>rfl) (λb y m=>by simp [qY,jk]at m;rcases m with rfl|rfl<;>rfl) cfS FU 214 #[] a 0 j (smL l h).toArray w o (λ_ _ _ _ b x=>C8 b x _) q r (by rw [k];exact u) FC;rw [k]at this;refine this.mono ?_;rintro e w' ⟨s,d,f,v⟩;refine⟨s,d,f,v.trans ?_⟩;unfold sortWorldK putRowK;rw [Ei];rfl
def CV (w:World) (v:Value) (l:List It) (e:Ending) (w':World):Prop:= ∃A n c,e= .returned (.slice A n c)/\aH w' (λb=>v.ownBlock=some b) (.slice A n c) (dg l)/\aa (λb=>v.ownBlock=some b) w w'
theorem AX {w:World} {base:Nat} {v:Value} {n:Nat} {l:List It} (h:w.ownsRow base 226 2 v n (ar l)) (a: ∀W∈l,SmI W) (i:n=l.length) (ak:n<=100000000):
  Calls prog 159 #[v] w (CV w v l):=by
 obtain⟨j,c,rfl,V,z⟩:=bH h;unfold maxLen at z;by_cases x:n=0
 ·subst x;have T:l=[]:=List.eq_nil_of_length_eq_zero i.symm;have m:=tY j c (.func (.func 214) #[] #[]) w;have k:=xN j c w;subst T;clear i;obtain⟨r,q,G,J⟩:=aA m k h a;clear m k h a
  go_enter func159,ntmps159
  go_wp2_with fail
  refine r.out.mono ?_;rintro e w' ⟨rfl,rfl⟩
  go_wp2_with fail
  refine q.out.mono ?_;rintro e w' ⟨rfl,rfl⟩
  go_wp2_with fail
  go_ret
  exact⟨j,0,c,rfl,⟨j,0,c,rfl,Zi _,by unfold maxLen;omega,rfl,λh=>absurd h (by omega)⟩,aa.refl _ _⟩
 ·have S: ∃g,j=some ⟨g,0,none⟩:=by
   rcases h.2 with⟨f,-⟩|⟨R,ad,ai,f,-⟩
   ·injection f with _ f _;exact absurd f x
   ·injection f with f _ _;exact⟨R,f⟩
  obtain⟨g,rfl⟩:=S;have A:base<=g/\g<w.heap.size:=h.lt g rfl;have o:=HI.of_own h (by omega);have p:=xD l a;have m:=zL g c n l a w o i A.2 (by omega);have k: ∀b d,Calls prog 215 #[.slice (some ⟨g,0,none⟩) n c] (sortWorldK jk 2 w g 0 b (iq l a).toArray d) (xB (sortWorldK jk 2 w g 0 b (iq l a).toArray d) g c (dg l)):=λb d=>by
   have:=vP (n:=n) (HI.of_holds (holdsK_sortWorldK_c jk 2 w g 0 l.toArray (iq l a).toArray b d o.holds A.2 (by simp [p]))) (by rw [p];exact i) V z;rw [xY]at this;exact this
  have E:=λb d=>zK w g b (iq l a).toArray d
  have B:n=l.length:=i;generalize iq l a=al at *;clear i;obtain⟨r,q,N,G,X,Y,I,J⟩:=dA m k E h o p B a;clear m k E h o p B a
  go_enter func159,ntmps159
  go_wp2_with fail
  refine r.out.mono ?_;rintro e w2 ⟨rfl,b,d,C⟩;have s:=q.out b d;have u:=N.out b d;rw [<-C]at s u;clear C;obtain⟨F,O⟩:=av s u;clear s u
  go_wp2_with fail
  refine F.out.mono ?_;rintro e w3 ⟨rfl,y,t⟩;have D:=O.out.trans' t;have U:=vi l;rw [<-I.out]at U;obtain⟨H,K,Z⟩:=aK y D t;clear y D t
  go_wp2_with fail
  go_ret
  exact⟨_,_,c,rfl,(HI.rd H.out rfl (by omega) (by unfold maxLen;omega)).mono (λQ e=>by rw [e];rfl),K.out.mono (λQ _ e=>by rw [e];rfl)⟩
end
section
open Go.RowKit
attribute [local irreducible] wpStill aB aO
theorem Tryz.sizeBuilder:(prog.info? 185).map (·.size)=some 2:=by kernel_rfl
theorem Tryz.liesBuilder:liesAt prog prog.depth 185 (2/prog.cellsOf 185) 0 185 1=true:=by kernel_rfl
theorem AL (b:Nat) (w:World) (f:w.cell? ⟨b,0,none⟩=some (.pointer (some ⟨b,0,none⟩))):
  Calls prog 176 #[.pointer (some ⟨b,0,none⟩)] w λe w'=>e= .returned (.tuple #[])/\w'=w:=by
 obtain⟨h,a,_⟩:=Option.map_eq_some_iff.1 Tryz.sizeBuilder;have d:=ab a;clear a
 go_enter func176,ntmps176
 go_wp2
 rw [Lib.run_neq_ptr_same w _ underlying183 d.out]
 go_wp2
 go_end0
 exact⟨rfl,rfl⟩
theorem yA (b:Nat) (w:World) (k:w.cell? ⟨b,0,none⟩=some (.pointer none)) (i:w.shape? b=some (185,2)) (l:w.frozen? ⟨b,0,none⟩=false):
  Calls prog 176 #[.pointer (some ⟨b,0,none⟩)] w λe w'=>e= .returned (.tuple #[])/\w'=w.setCell ⟨b,0,none⟩ (.pointer (some ⟨b,0,none⟩)):=by
 obtain⟨m,f,h⟩:=Option.map_eq_some_iff.1 Tryz.sizeBuilder;have d:=ab f;have j:=ab h;have a:=ab i;clear f h i
 go_enter func176,ntmps176
 go_wp2
 rw [Lib.run_to_unsafe w ⟨b,0,none⟩ underlying183 underlying267 d.out (by rw [j.out];decide) a.out (Nat.zero_lt_succ 1)];simp only [Result.andThen];rw [Oper.upon_value]
 go_wp2
 rw [run_callFunc_extern func216 (by kernel_rfl) (by kernel_rfl) (by kernel_rfl) (e:=Extern.AbiNoEscape.same) (by kernel_rfl)];rw [Lib.run_noEscape];simp only [Result.andThen];rw [Oper.upon_value]
 go_wp2
 rw [Lib.run_from_unsafe w ⟨b,0,none⟩ underlying267 underlying183 d.out a.out Tryz.liesBuilder];simp only [Result.andThen];rw [Oper.upon_value]
 go_wp2
 go_end0
 exact⟨rfl,rfl⟩
theorem Tryz.infoByte:(prog.info? 5).map (λa=>(a.zero,a.size,a.bytes))=some (some (.int .u8 0),1,1):=by kernel_rfl
theorem elemByte:dZ prog 74 5 (.int .u8 0) 1 1:=⟨underlying74,Tryz.infoByte,rfl,by decide⟩
theorem extra:Builder.Extra prog bString_ren where
 sizeBuilder:=by kernel_rfl
 liesBuilder:=by kernel_rfl
 t5:=underlying5
 a5:=isAgg5
 z5:=sizeOf5
 v5:=zeroValue5
 infoByte:=Tryz.infoByte
 cellsByte:=by kernel_rfl
 sizeByte:=by kernel_rfl
 neB5:=by decide
theorem uC (B b:Nat) (l:List UInt8) (w:World) (h:Lib.IsBuilder 185 5 B b (Lib.byteCells l) w) (a:B<=w.heap.size):
  Calls prog 123 #[.pointer (some ⟨b,0,none⟩)] w λe w'=>e= .returned (.string ⟨l.toArray⟩)/\Below B w w':=Any.Builder_String_any bString extra B b l w h a
theorem CC {B b:Nat} {d:List Value} {w:World} (h:Lib.IsBuilder 185 5 B b d w):
  Calls prog 176 #[.pointer (some ⟨b,0,none⟩)] w λe w'=>e= .returned (.tuple #[])/\Lib.BuilderAt 185 5 B b (.pointer (some ⟨b,0,none⟩)) d w'/\aa (λa=>a=b) w w':=by
 rcases h with h|h
 ·refine(yA b w h.cell0 h.shape h.frozen0).mono ?_;rintro e w' ⟨rfl,rfl⟩;exact⟨rfl,h.used _,(aa.refl (λa=>a=b) w).setCell (p:=⟨b,0,none⟩) (λ_=>rfl) _⟩
 ·refine(AL b w h.cell0).mono ?_;rintro e w' ⟨rfl,rfl⟩;exact⟨rfl,h,aa.refl _ _⟩
theorem vQ {B b:Nat} {a:List Value} {w:World} (h:Lib.IsBuilder 185 5 B b a w) {F:Nat->Prop} {A:Option Addr} {m c:Nat} {f:List Value} (U:Rd w F (.slice A m c) 1 f) (J: ∀d,F d->d≠b) (G: ∀a7∈f,a7.oneCell'=true)
  (bb:a.length<=100000000) (hm:m<=1000) (H:B<=w.heap.size):
  Calls prog 212 #[.pointer (some ⟨b,0,none⟩),.slice A m c] w λe w'=>e= .returned (.tuple #[.int .i64 m,.nilIface])/\Lib.BuilderAt 185 5 B b (.pointer (some ⟨b,0,none⟩)) (a++f) w'/\Below B w w':=by
 have E:=CC h;have N:B<=b:=by rcases h with h|h<;>exact h.1
 obtain⟨v,ap,ak,ai⟩:=aA E U J G;clear E U J G;clear h
 go_enter func212,ntmps212
 go_wp2_with fail
 refine v.out.mono ?_;rintro e w2 ⟨rfl,a3,l⟩;obtain⟨-,Z,O,T,S⟩:=a3;have u:Blk w2 b 185 #[.pointer (some ⟨b,0,none⟩),Z]:=O;have t:=ap.out.touch l (λd a4 e=>ak.out d a4 e);have a1:=(u.cell 1).trans rfl;have R:f.length=m * 1:=by
  obtain⟨a8,bc,ba,a6,-,-,a5,-⟩:=t;injection a6 with _ a2 _
  rw [a5,a2]
 have I:B<=w2.heap.size:=Zg H l.size;clear O v;obtain⟨p,z,o,y,a0,x⟩:=aM u t T S l R;clear u t T S l R
 go_wp2_with (at_builtin;refine aJ _ rfl (.tmp 12) (.tmp 13) _ rfl elemByte B _ a.length a rfl o.out _ _ f m rfl x.out z.out ai.out (by unfold maxLen;omega) (by omega) I ?_)
 intro j k w8 X r K;have i:=p.out.grown r (λe=>y.out e.symm);have C:Below B w w8:=(a0.out.below (λV hi _ e=>by omega) H).trans ((aa.refl (λd=>Z.ownBlock=some d) w2).grown r (λd e _=>e)|>.below (λV hi _ e=>by have:=(o.out.lt V e).1;omega) I);have s:(Value.slice j (a.length+m) k).ownBlock≠some b:=λe=>by
  rcases K with q|q
  ·exact y.out (q▸e)
  ·rw [q]at e;injection e with e
   have:=p.out.lt;omega
 have a1:=(i.cell 1).trans rfl;have bd:=i.frozen 1;have W:=i.put 1 (.slice j (a.length+m) k);have Y:=yQ X (p:=⟨b,1,none⟩) s (.slice j (a.length+m) k);have D:=C.setCell (p:=⟨b,1,none⟩) N (.slice j (a.length+m) k);have Q:a.length+m=(a++f).length:=by have:=x.out;rw [Zb];omega
 clear X r K C o z p;obtain⟨a9,aS,aT,ad,al,an⟩:=aM i W Y D Q s;clear i W Y D Q s
 go_wp2_with fail
 go_ret2
 refine⟨rfl,⟨N,_,aS.out,?_,?_⟩,ad.out⟩
 ·rw [<-al.out];exact aT.out
 ·exact an.out
def df (n:Int):UInt8:=UInt8.ofNat (n%256).toNat
def i1 (l:List It):List UInt8:=l.flatMap λx=>[df (x.1/256),df x.1,df x.2]
theorem Cn (l:List It) (x:It):i1 (l++[x])=i1 l++[df (x.1/256),df x.1,df x.2]:=by unfold i1;simp
theorem jH (l:List It):(i1 l).length=l.length * 3:=by
 unfold i1
 induction l with
 |nil=>rfl
 |cons d b a=>rw [List.flatMap_cons,Zb,a];simp;omega
def ByI (x:It):Prop:=(0<=x.1/\x.1<=60000)/\0<=x.2/\x.2<=255
theorem vk {a b:Int} (d:0<=a/\a<=255) (e:0<=b/\b<=255) (h:df a=df b):a=b:=by
 unfold df at h;have:=congrArg UInt8.toNat h;simp at this;omega
theorem CG {a b:Int} (h:0<=a/\a<=60000) (i:0<=b/\b<=60000) (e:df (a/256)=df (b/256)) (d:df a=df b):a=b:=by
 have f:=vk (by omega) (by omega) e;unfold df at d;have:=congrArg UInt8.toNat d;simp at this;omega
theorem x8: ∀{l d:List It},(∀x∈l,ByI x)->(∀x∈d,ByI x)->i1 l=i1 d->l=d
 |[],[],_,_,_=>rfl
 |[],a::r,_,_,h=>by have:=congrArg List.length h;rw [jH,jH]at this;simp at this
 |x::r,[],_,_,h=>by have:=congrArg List.length h;rw [jH,jH]at this;simp at this
 |x::r,a::t,hx,hy,h=>by
  have e:i1 (x::r)=df (x.1/256)::df x.1::df x.2::i1 r:=rfl;have i:i1 (a::t)=df (a.1/256)::df a.1::df a.2::i1 t:=rfl;rw [e,i]at h;injection h with j h
  injection h with k h
  injection h with m h
  obtain⟨o,p⟩:=hx x (by simp);obtain⟨q,s⟩:=hy a (by simp);rw [x8 (λf b=>hx f (by simp [b])) (λf b=>hy f (by simp [b])) h];congr 1;exact Prod.ext (CG o q j k) (vk p s m)
def qW (l:List It):ByteArray:=⟨(i1 l).toArray⟩
theorem CF (a:Int):((df a).toNat:Int)=a%256:=by
 unfold df;simp;omega
theorem vR {T e:TypeId} {B b:Nat} {a:List Value} {w w':World} (h:Lib.IsBuilder T e B b a w) (i:Below w.heap.size w w'):Lib.IsBuilder T e B b a w':=by
 have j: ∀d,Lib.BuilderAt T e B b d a w->Lib.BuilderAt T e B b d a w':=λd ⟨k,o,f,l,m⟩=>⟨k,o,(i.block b (Array.getElem?_eq_some_iff.1 f).1).trans f,ah l i,m⟩
 exact h.imp (j _) (j _)
theorem E5 {w:World} {F:Nat->Prop} {v:Value} {l:List It} (h:aH w F v l) (T: ∀x,F x->x<w.heap.size) (a4:l.length<=1000000) (V: ∀d∈l,ByI d):
  Calls prog 156 #[v] w (aI w (.string (qW l))):=by
 obtain⟨bc,n,c,rfl,-⟩:=id h;obtain⟨C,bg,a3,-⟩:=aH.at_ h;unfold maxLen at a3;have Y:=Lib.fresh_isBuilder 185 5 w;have N:Below w.heap.size w (w.alloc (.cells #[.pointer none,.slice none 0 0] 185)):=(Below.refl _ _).alloc (Zf _) _;rw [<-C]at a4;obtain⟨aS,aT,a0,K,J,G⟩:=aM h T V C Y N;clear h T V C Y N
 go_enter func156,ntmps156
 go_wp2_with fail
 go_loopw [8] (λD wr=> ∃(b:Nat),b<=n/\D= .int .i64 b/\Lib.IsBuilder 185 5 w.heap.size w.heap.size (Lib.byteCells (i1 (l.take b))) wr/\Below w.heap.size w wr) (λD _=>n - (intOf D).toNat)
 case atStart=>exact⟨0,Zi _,rfl,J.out,G.out⟩
 case round=>
  clear J G;obtain⟨b,be,rfl,f,le⟩:=hrel;by_cases a5:b<n
  ·have a6:(b:Int)<(n:Int):=by omega
   obtain⟨-,-,-,X⟩:=aH.at_ (aS.out.below le aT.out);obtain⟨x,off,rfl,U,W⟩:=X (by omega);obtain⟨d,t⟩: ∃d,l[b]? =some d:=⟨_,List.getElem?_eq_getElem (by rw [<-K.out];exact a5)⟩;obtain⟨al,an⟩:=W b d t;obtain⟨⟨a8,a9⟩,ba,bb⟩:=a0.out d (Ze t);obtain⟨a,y0⟩:=d;simp only at al an a8 a9 ba bb;clear X W;obtain⟨q,k,a1,bd⟩:=aA f le t U;clear f le t U
   go_wp2_with fail
   obtain⟨j,r⟩: ∃i,i=wr.alloc (.cells #[.int .i64 a,.int .i64 y0] 226):=⟨_,rfl⟩;obtain⟨wc,s⟩: ∃i,i=j.alloc (.cells #[.int .u8 (a/256),.int .u8 (a%256),.int .u8 y0] 5):=⟨_,rfl⟩;have y:Below wr.heap.size wr j:=by rw [r];exact(Below.refl _ _).alloc (Zf _) _
   have Q:Below j.heap.size j wc:=by rw [s];exact(Below.refl _ _).alloc (Zf _) _
   have z:=y.trans (Q.mono y.size);have ak:j.heap.size=wr.heap.size+1:=by rw [r];simp
   have B:([.int .u8 (a/256),.int .u8 (a%256),.int .u8 y0]:List Value)=Lib.byteCells [df (a/256),df a,df y0]:=by
    unfold Lib.byteCells;simp only [List.map_cons,List.map_nil,CF];rw [show a/256%256=a/256 by omega,show y0%256=y0 by omega]
   have ai:Rd wc (λi=>i=wr.heap.size+1) (.slice (some ⟨wr.heap.size+1,0,none⟩) 3 3) 1 (Lib.byteCells [df (a/256),df a,df y0]):=by
    rw [<-B,s,<-ak];exact⟨_,3,3,rfl,Zf _,by decide,rfl,λ_=>⟨_,0,rfl,rfl,λbi a7 m=>by rw [(Blk.new j 5 #[.int .u8 (a/256),.int .u8 (a%256),.int .u8 y0]).cell];simpa using m⟩⟩
   have R:=vR q.out z;have bh:w.heap.size<wr.heap.size:=by rcases q.out with h|h<;>exact h.lt
   have E:=k.out.trans (z.mono k.out.size);have A:=vQ (m:=3) R ai (λi e=>by omega) (λa7 m=>by
    rw [<-B]at m
    simp only [List.mem_cons,List.not_mem_nil,or_false]at m
    rcases m with rfl|rfl|rfl<;>rfl) (by rw [Lib.byteCells_length,jH,List.length_take];omega) (by omega) E.size
   have ad:Lib.byteCells (i1 (l.take b))++Lib.byteCells [df (a/256),df a,df y0]=Lib.byteCells (i1 (l.take (b+1))):=by
    rw [uH a1.out,Cn];unfold Lib.byteCells;rw [List.map_append]
   rw [ad]at A;rw [<-r,<-s];clear ad B ai R y Q z ak r s al an k q;obtain⟨I,a2⟩:=av A E;clear A E;refine I.out.mono ?_;rintro e w8 ⟨rfl,O,o⟩;have p:=a2.out.trans o;clear I o;obtain⟨ap,u⟩:=av O p;clear O p
   go_wp2_with fail
   go_roundw
   case rel=>exact⟨b+1,by omega,by go_num,.inr ap.out,u.out⟩
   case measure=>simp [intOf];omega
  ·have a6: ¬(b:Int)<(n:Int):=by omega
   have Z:l.take b=l:=List.take_of_length_le (by have:=K.out;omega);rw [Z]at f;have S:=uC _ _ _ _ f le.size;clear Z;obtain⟨q,k,H⟩:=aK f le S;clear f le S
   go_wp2_with fail
   refine H.out.mono ?_;rintro e w8 ⟨rfl,o⟩;have p:=k.out.trans o;clear H o;have u:=ab p;clear p
   go_wp2_with fail
   go_ret
   exact⟨rfl,u.out⟩
end
end Go.Proofs.YthlbjgabhpdbfaaGreat

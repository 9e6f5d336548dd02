/- Tables: an automaton with its lookaheads; a grammar's clashes. -/
import Derived.Test.YthlbjgabhpdbfaaGreatBActs1
import Derived.Test.YthlbjgabhpdbfaaGreatBItemLay
import Derived.Test.YthlbjgabhpdbfaaGreatBActsPlain
import Derived.Shelf.Abstract
import Derived.Test.YthlbjgabhpdbfaaGreatBBitsL
set_option linter.unusedVariables false
set_option linter.unusedSimpArgs false
set_option maxRecDepth 100000
set_option maxHeartbeats 4000000
namespace Go.Proofs.YthlbjgabhpdbfaaGreat
open Go.Proofs.Tryz
open Bool renaming and_eq_true->Za
open List renaming all_eq_true->Zb,eq_nil_of_length_eq_zero->Zc,map_cons->Zd,map_nil->Ze,mem_range->Zf,replicate_succ->Zg
open Nat renaming le_refl->Zh,le_trans->Zi,lt_of_lt_of_le->Zj
open Go.RowKit
attribute [local irreducible] wpStill aB aO
theorem eF.touch {V a:World} {F S:Nat->Prop} {v:Value} {LL:List (List Lk)} (h:eF V F v LL) (t:aa S V a) (d: ∀b,F b-> ¬S b):eF a F v LL:=by
 obtain⟨Z,f,g,j⟩:=h;exact⟨Z,f,g.touch t d,λm p o l k=>(j m p o l k).touch t d⟩
theorem mT (a:World) (z:Nat) (u v x:Value):aa (λb=>b=z) a (((a.setCell ⟨z,0,none⟩ u).setCell ⟨z,1,none⟩ v).setCell ⟨z,2,none⟩ x):=
 aa.setCell (mn a z u v) (p:=⟨z,2,none⟩) (λ_=>rfl) x
def ko (w:World) (G:ac) (st:Int) (e:Ending) (w':World):Prop:=Below w.heap.size w w'/\ ∃own A1 n1 c1 A2 n2 c2 ev D,e= .returned (.tuple #[.agg #[.int .i64 own,.slice A1 n1 c1,.slice A2 n2 c2],.int .i64 ev])/\fA G st (bf G st) ev D/\(ev=0->own=(G.rules.length:Int)/\dG w' (λb=>w.heap.size<=b/\b<w'.heap.size) (.slice A1 n1 c1) D/\eF w' (λb=>w.heap.size<=b/\b<w'.heap.size) (.slice A2 n2 c2) (bN G st D))
theorem ko.mk {w w':World} {G:ac} {st:Int} {e:Ending} {own:Int} {A1:Option Addr} {d c1:Nat} {A2:Option Addr} {f c2:Nat} {b:Int} {D:aP} (j:Below w.heap.size w w') (k:e= .returned (.tuple #[.agg #[.int .i64 own,.slice A1 d c1,.slice A2 f c2],.int .i64 b])) (g:fA G st (bf G st) b D)
  (h:b=0->own=(G.rules.length:Int)/\dG w' (λa=>w.heap.size<=a/\a<w'.heap.size) (.slice A1 d c1) D/\eF w' (λa=>w.heap.size<=a/\a<w'.heap.size) (.slice A2 f c2) (bN G st D)):ko w G st e w':=⟨j,own,A1,d,c1,A2,f,c2,b,D,k,g,h⟩
theorem AZ {w:World} {F:Nat->Prop} {bA bx bz:Value} {G:ac} (h:bk w F bA bx bz G) (bW: ∀a,F a->a<w.heap.size) (st:Int):
  Calls prog 70 #[GV bA bx bz st] w (ko w G st):=by
 obtain⟨K,m,M,ak,N,al,rfl,rfl,rfl,-⟩:=h.slices;obtain⟨w1,x⟩: ∃w1,w1=w.alloc (.cells #[.slice K G.terms.length m,.slice M G.nons.length ak,.slice N G.rules.length al,.int .i64 st] 25):=⟨_,rfl⟩;have a2:=bj.new h st;have ad:Below w.heap.size w w1:=by rw [x];exact(Below.refl _ w).alloc (Zh _) _
 rw [<-x]at a2;have a4:w1.heap.size=w.heap.size+1:=by rw [x];simp
 obtain⟨w2,p⟩: ∃b1,b1=w1.alloc (.cells #[.int .i64 0,.slice none 0 0,.slice none 0 0] 103):=⟨_,rfl⟩;have ai:Below w1.heap.size w1 w2:=by rw [p];exact(Below.refl _ _).alloc (Zh _) _
 have a5:Blk w2 w1.heap.size 103 #[.int .i64 0,.slice none 0 0,.slice none 0 0]:=by rw [p];exact Blk.new _ _ _
 have B:=a2.below ai;have bl:=ad.trans (ai.mono ad.size);rw [a4]at a5;have ap:=λwr (t:bj wr F w.heap.size K m M ak N al G.terms.length G.nons.length G.rules.length st G)=>tJ t.gram t.gram.lt st
 have bq:=λwr (t:bj wr F w.heap.size K m M ak N al G.terms.length G.nons.length G.rules.length st G)=>EI t.gram t.gram.lt st
 obtain⟨a8,a9,ba,bb⟩:=B.cells;generalize hT:G.terms.length=b7 at *;generalize br:G.nons.length=b6 at *;generalize bs:G.rules.length=T at *;have bu:w2.heap.size=w.heap.size+2:=by rw [p,World.size_alloc,a4]
 rw [x]at p;have bp:=ap _ B;clear h bW a2 ad ai a4 x;obtain⟨bh,bc,V,b8,bB,be,bC,cc,cb,bi⟩:=fp B bl a5 ap bq bp bs hT br bu;clear B bl a5 ap bq bp bs hT br bu
 go_enter func70,ntmps70
 go_wp2_with fail
 rw [<-p];refine be.out.mono ?_;rintro e w3 I;obtain⟨s,O,a6,ca,a1,D,rfl,q,C⟩:=I.flat;have o:=bh.out.below s;have d:=V.out.below s V.out.lt;have z:=bc.out.trans (s.mono bc.out.size);have q:=q.mono (F':=λa=>w.heap.size+2<=a/\a<w3.heap.size) (λa b=>⟨by have:=bi.out;omega,b.2⟩);have bY:w.heap.size+2<=w3.heap.size:=by have:=bi.out;have:=s.size;omega
 clear I a8 a9 ba bb p be bh V s;by_cases H:a1=0
 ·subst H;have m:=bB.out _ o;obtain⟨a8,a9,ba,bb⟩:=o.cells;obtain⟨U,r,k,W,y,bg⟩:=aM o d z q C m;clear o d z q C m
  go_wp2_with fail
  refine bg.out.mono ?_;rintro e w4 I;obtain⟨l,R,a7,an,cd,b5,rfl,bt,J⟩:=I;obtain⟨rfl,rfl⟩:=y.out.unique bt;have a3:=U.out.below l;have f:=r.out.below l r.out.lt;have bo:=k.out.trans (l.mono k.out.size);have bw:=(W.out.below l (λa b=>b.2)).mono (F':=λa=>w.heap.size+2<=a/\a<w4.heap.size) (λa b=>⟨b.1,Zj b.2 l.size⟩);have J:=J.mono (F':=λa=>w.heap.size+2<=a/\a<w4.heap.size) (λa b=>⟨Zi bY b.1,b.2⟩);obtain⟨a8,a9,ba,bb⟩:=a3.cells;obtain⟨d0,bR,bS⟩:w4.cell? ⟨w.heap.size+1,0,none⟩=some (.int .i64 0)/\w4.cell? ⟨w.heap.size+1,1,none⟩=some (.slice none 0 0)/\w4.cell? ⟨w.heap.size+1,2,none⟩=some (.slice none 0 0):=⟨(f.cell 0).trans rfl,(f.cell 1).trans rfl,(f.cell 2).trans rfl⟩;have b2:=f.frozen 0;have b3:=f.frozen 1;have b4:=f.frozen 2;clear bt l U r k W bg;obtain⟨b9,bG,bd,bP,bO⟩:=aX a3 f bo bw J;clear a3 f bo bw J
  go_wp2_with fail
  have g:=((bG.out.put 0 (.int .i64 (T:Int))).put 1 (.slice O a6 ca)).put 2 (.slice R a7 an);have j:=mT w4 (w.heap.size+1) (.int .i64 (T:Int)) (.slice O a6 ca) (.slice R a7 an);have aS:=(g.cell 0).trans rfl;have aT:=(g.cell 1).trans rfl;have a0:=(g.cell 2).trans rfl;refine bodyPost_ret (v:= .tuple #[.agg #[.int .i64 (T:Int),.slice O a6 ca,.slice R a7 an],.int .i64 0]) (by simp [results,results70,go_sem,aS,aT,a0]) rfl ?_;refine ko.mk (j.toBelow (λb0 e=>by omega) bd.out bd.out.size) rfl y.out λ_=>⟨by rw [bC.out],(bP.out.touch j (λa b e=>by omega)).mono λa b=>⟨by omega,Zj b.2 j.size⟩,(bO.out.touch j (λa b e=>by omega)).mono λa b=>⟨by omega,Zj b.2 j.size⟩⟩
 ·have ce:(a1 !=0)=true:=by simpa using H
  obtain⟨d0,bR,bS⟩:w3.cell? ⟨w.heap.size+1,0,none⟩=some (.int .i64 0)/\w3.cell? ⟨w.heap.size+1,1,none⟩=some (.slice none 0 0)/\w3.cell? ⟨w.heap.size+1,2,none⟩=some (.slice none 0 0):=⟨(d.cell 0).trans rfl,(d.cell 1).trans rfl,(d.cell 2).trans rfl⟩;have b2:=d.frozen 0;have b3:=d.frozen 1;have b4:=d.frozen 2;obtain⟨U,r,k,W,y,bE⟩:=aM o d z q C H;clear o d z q C H
  go_wp2_with fail
  have g:=((r.out.put 0 (.int .i64 0)).put 1 (.slice none 0 0)).put 2 (.slice none 0 0);have j:=mT w3 (w.heap.size+1) (.int .i64 0) (.slice none 0 0) (.slice none 0 0);have aS:=(g.cell 0).trans rfl;have aT:=(g.cell 1).trans rfl;have a0:=(g.cell 2).trans rfl;refine bodyPost_ret (v:= .tuple #[.agg #[.int .i64 0,.slice none 0 0,.slice none 0 0],.int .i64 a1]) (by simp [results,results70,go_sem,aS,aT,a0]) rfl ?_;exact ko.mk (j.toBelow (λb0 e=>by omega) k.out k.out.size) rfl y.out λh=>absurd h bE.out
theorem fA.ok {G:ac} {st f:Int} {D:aP} (h:fA G st f 0 D):f=0/\ ∃L b,Bld G st L.length L b/\D=stD L b:=by
 rcases h with⟨d,a,-⟩|⟨-,-,a,-⟩|⟨d,L,b,a,-,g⟩
 ·exact absurd a.symm d
 ·cases a
 ·cases a with
  |ok _ _ j=>exact⟨d,L,b,j,g⟩
theorem ke.of {G:ac} {st:Int} {D:aP} (h:fA G st (bf G st) 0 D):ke D (bN G st D) G.terms.length:=by
 obtain⟨o,L,f,j,rfl⟩:=h.ok;have b:=KnA.of_check o;have k:=j.f;refine⟨by rw [fj];exact k.small,jv _ _ _,λi e d=> ?_,λi s a=> ?_,b.t⟩
 ·obtain⟨q,p,-,l⟩:=wi j d;rw [l];have g:=k.tlen q (List.mem_of_getElem? p);have m:=b.t;have r:=b.n;unfold ao at g;omega
 ·obtain⟨e,d⟩: ∃e,(stD L f)[i]? =some e:=⟨_,List.getElem?_eq_getElem (by have:=(List.getElem?_eq_some_iff.1 a).1;rwa [jv]at this)⟩;rw [kU d]at a;injection a with a
  rw [<-a];have g:=Ah (G:=G) (st:=st) (D:=stD L f) (i:=i) (e:=e);have m:=b.r;omega
noncomputable def kH (G:ac) (st ev:Int) (D:aP):List Cla:=if ev=0 then kq G.rules.length D (bN G st D) (G.terms.length+1) D.length else []
end Go.Proofs.YthlbjgabhpdbfaaGreat
namespace Go.Proofs.YthlbjgabhpdbfaaGreat
open Go.Proofs.Tryz
open Bool renaming and_eq_true->Za
open List renaming all_eq_true->Zb,eq_nil_of_length_eq_zero->Zc,map_cons->Zd,map_nil->Ze,mem_range->Zf,replicate_succ->Zg
open Nat renaming le_refl->Zh,le_trans->Zi,lt_of_lt_of_le->Zj
open Go.RowKit
structure fQ {X:Type} (E:World->(Nat->Prop)->Value->X->Prop):Prop where
 mono: ∀{w:World} {F F':Nat->Prop} {z:Value} {x:X},E w F z x->(∀b,F b->F' b)->E w F' z x
 touch: ∀{w w':World} {F S:Nat->Prop} {z:Value} {x:X},E w F z x->aa S w w'->(∀b,F b-> ¬S b)->E w' F z x
def da {X:Type} (pre:X->List Value) (L:List X) (Z:List Value):List Value:=(List.zip L Z).flatMap λp=>pre p.1++[p.2]
theorem y7 {X:Type} {pre:X->List Value} {L:List X} {Z:List Value} (h:Z.length=L.length) (x:X) (z:Value):da pre (L++[x]) (Z++[z])=da pre L Z++(pre x++[z]):=by
 unfold da;rw [List.zip_append h.symm,List.flatMap_append];simp
structure RM {X:Type} (e:TypeId) (size:Nat) (pre:X->List Value) (E:World->(Nat->Prop)->Value->X->Prop) (lo:Nat->Prop) (base:Nat) (w:World) (A:Option Addr) (n c:Nat) (L:List X):Prop where
 ex: ∃Z:List Value,Z.length=L.length/\w.ownsRow base e size (.slice A n c) n (da pre L Z)/\ ∀(j:Nat) z x,Z[j]? =some z->L[j]? =some x->E w (λb=>lo b/\b<w.heap.size/\(Value.slice A n c).ownBlock≠some b) z x
 hn:n=L.length
section
variable {X : Type} {e : TypeId} {size : Nat} {pre : X -> List Value} {E : World -> (Nat -> Prop) -> Value -> X -> Prop} {lo : Nat -> Prop} {base n : Nat} {w w1 w2 w3 : World} {A A' : Option Addr} {c c' : Nat} {L : List X} {Z : List Value}
theorem RM.nil (lo:Nat->Prop) (base:Nat) (w:World):RM e size pre E lo base w none 0 0 []:=⟨⟨[],rfl,World.ownsRow_nil _ _ _ _,λa b d h=>by simp at h⟩,rfl⟩
theorem RM.touch (d:fQ E) (h:RM e size pre E lo base w A n c L) {S:Nat->Prop} (t:aa S w w1) (m: ∀a,(Value.slice A n c).ownBlock=some a-> ¬S a) (o: ∀a,lo a->a<w.heap.size-> ¬S a):RM e size pre E lo base w1 A n c L:=by
 obtain⟨g,j,k,l⟩:=h.ex;exact⟨⟨g,j,t.own k m,λr s x p q=>d.mono (d.touch (l r s x p q) t λa f=>o a f.1 f.2.1) λy b=>⟨b.1,Zj b.2.1 t.size,b.2.2⟩⟩,h.hn⟩
theorem RM.below (d:fQ E) (h:RM e size pre E lo base w A n c L) (b:Below w.heap.size w w1):RM e size pre E lo base w1 A n c L:=by
 obtain⟨f,g,j,k⟩:=h.ex;exact⟨⟨f,g,ah j b,λo p q l m=>d.mono (d.touch (k o p q l m) (aa.of_size b (λ_=>False)) (λ_ _ e=>e)) λr a=>⟨a.1,Zj a.2.1 b.size,a.2.2⟩⟩,h.hn⟩
theorem RM.block (h:RM e size pre E lo base w A n c L): ∀a,(Value.slice A n c).ownBlock=some a->base<=a/\a<w.heap.size:=by
 obtain⟨Z,-,b,-⟩:=h.ex;exact b.lt
theorem RM.push (h:fQ E) {z:Value} {x:X} (F:n=L.length) (q:Z.length=L.length) (t:w.ownsRow base e size (.slice A n c) n (da pre L Z)) (y: ∀(j:Nat) z x,Z[j]? =some z->L[j]? =some x->E w (λd=>lo d/\d<w.heap.size/\(Value.slice A n c).ownBlock≠some d) z x) (r:base<=w.heap.size)
  (G:E w1 (λd=>lo d/\d<w1.heap.size/\(Value.slice A n c).ownBlock≠some d) z x) (b1:Below w.heap.size w w1) (p:Below w1.heap.size w1 w2)
  (own:w3.ownsRow base e size (.slice A' (n+1) c') (n+1) (da pre L Z++(pre x++[z]))) (g:w2.grownBy w3 (Value.slice A n c).ownBlock) (l:(Value.slice A' (n+1) c').ownBlock=(Value.slice A n c).ownBlock\/(Value.slice A' (n+1) c').ownBlock=some w2.heap.size):
  RM e size pre E lo base w3 A' (n+1) c' (L++[x])/\Below base w w3/\aa (λa=>(Value.slice A n c).ownBlock=some a) w2 w3:=by
 have m:aa (λa=>(Value.slice A n c).ownBlock=some a) w2 w3:=(aa.refl _ _).grown g (λa e _=>e);have o:=b1.trans (p.mono b1.size);have H: ∀a,(Value.slice A n c).ownBlock=some a->base<=a/\a<w.heap.size:=λa e=>t.lt a e
 have s: ∀a,(Value.slice A' (n+1) c').ownBlock=some a->(Value.slice A n c).ownBlock=some a\/a=w2.heap.size:=λa b=>by
  rcases l with l|l
  ·exact .inl (l▸b)
  ·rw [l]at b;injection b with b;exact .inr b.symm
 have s1:=b1.size;have K:=p.size;have M:=m.size;refine⟨⟨⟨Z++[z],by simp [q],by rw [y7 q];exact own,λj I J f k=> ?_⟩,by rw [List.length_append,<-F];rfl⟩,m.toBelow (λa e=>(H a e).1) (o.mono r) (Zi r o.size),m⟩;by_cases B:j<Z.length
 ·rw [List.getElem?_append_left B]at f;rw [List.getElem?_append_left (by omega)]at k;refine h.mono (h.touch (h.touch (y j I J f k) (aa.of_size o (λ_=>False)) (λ_ _ e=>e)) m (λa b=>b.2.2)) λa b=>⟨b.1,by omega,λe=> ?_⟩
  rcases s a e with e|e
  ·exact b.2.2 e
  ·omega
 ·have C:j=Z.length:=by have:=(List.getElem?_eq_some_iff.1 f).1;simp at this;omega
  subst C;rw [List.getElem?_append_right (Zh _),Nat.sub_self]at f;rw [List.getElem?_append_right (by omega),q,Nat.sub_self]at k;injection f with f
  injection k with k
  subst f k;refine h.mono (h.touch (h.touch G (aa.of_size p (λ_=>False)) (λ_ _ e=>e)) m (λa b=>b.2.2)) λa b=>⟨b.1,by omega,λe=> ?_⟩
  rcases s a e with e|e
  ·exact b.2.2 e
  ·omega
end
theorem du:fQ (X:=List Ac) (λw b g f=>aH w b g f):=⟨λh a=>Rd.mono h a,λh d a=>Rd.touch h d a⟩
theorem dJ:fQ (X:=List Int) (λw b g f=>RdI w b g f):=⟨λh a=>Rd.mono h a,λh d a=>Rd.touch h d a⟩
theorem uu:fQ (X:=Int×List Int) (λw b g f=>RdI w b g f.2):=⟨λh a=>Rd.mono h a,λh d a=>Rd.touch h d a⟩
def dN {α:Type} (d:α) (l:List α) (m:Nat):List α:=l++List.replicate (m - l.length) d
theorem vd {α:Type} (d:α) (m:Nat):dN d [] m=List.replicate m d:=by unfold dN;simp
theorem mF {α:Type} (d:α) {l:List α} {m:Nat} (h:l.length<=m):(dN d l m).length=m:=by unfold dN;simp;omega
theorem uZ {α:Type} (d:α) {l:List α} {m:Nat} (h:l.length<m) (x:α):(dN d l m).set l.length x=dN d (l++[x]) m:=by
 unfold dN;obtain⟨a,b⟩: ∃a,m - l.length=a+1:=⟨m - l.length - 1,by omega⟩;rw [b,Zg,List.set_append_right _ _ (Zh _),Nat.sub_self];have:m - (l++[x]).length=a:=by simp;omega
 rw [this];simp
theorem ve {α:Type} (d:α) {l:List α} {m:Nat} (h:m<=l.length):dN d l m=l:=by unfold dN;rw [show m - l.length=0 by omega];simp
theorem qM: ∀{l:List It} {k:Nat} (x:It),k<l.length->((ar l).set (k * 2) (.int .i64 x.1)).set (k * 2+1) (.int .i64 x.2)=ar (l.set k x)
 |[],k,x,h=>by simp at h
 |y::r,0,x,h=>by simp [ar]
 |y::r,k+1,x,h=>by
  have a:=qM (l:=r) (k:=k) x (by simpa using h);rw [show(k+1) * 2=k * 2+1+1 by omega,show k * 2+1+1+1=(k * 2+1)+1+1 by omega];simp only [ar,List.set_cons_succ];rw [a]
theorem sK {w:World} {base g n size:Nat} {e:TypeId} {xs:List Value} (d:Blk w g e xs.toArray) (a:xs.length=n * size) (b:base<=g) (hm:n<=maxLen):w.ownsRow base e size (.slice (some ⟨g,0,none⟩) n n) n xs:=
 ⟨a,.inr ⟨g,n,xs.toArray,rfl,b,d,Zh _,hm,by simpa using a,by rw [<-a];simp⟩⟩
theorem wY (z:Value) (s n:Nat) (b:0<s):madeCells (Array.replicate s z) n=(List.replicate n z).toArray:=by
 unfold madeCells;apply Array.ext
 ·simp
 ·intro i a d;simp at a;simp [Array.getElem!_eq_getD,Array.getD,Nat.mod_lt _ b]
theorem qO: ∀m:Nat,ar (List.replicate m ((0:Int),(0:Int)))=List.replicate (m * 2) (.int .i64 0)
 |0=>rfl
 |m+1=>by rw [Zg,show(m+1) * 2=m * 2+1+1 by omega,Zg,Zg,<-qO m];rfl
theorem EF (m:Nat):madeCells #[.int .i64 0,.int .i64 0] (m * 2)=(ar (List.replicate m ((0:Int),(0:Int)))).toArray:=by
 rw [qO];exact wY (.int .i64 0) 2 (m * 2) (by decide)
theorem Fj (m:Nat):madeCells #[.int .i64 0] m=((List.replicate m (0:Int)).map (Value.int .i64)).toArray:=by
 rw [List.map_replicate];exact wY (.int .i64 0) 1 m (by decide)
theorem Cf (n:Nat) (g:n<=65536) (w:World):(Instr.makeSlice 113 (.int .i64 (n:Int)) (.int .i64 (n:Int))).run prog w= .ok (.slice (some ⟨w.heap.size,0,none⟩) n n) (w.alloc (.cells (ar (List.replicate n ((0:Int),(0:Int)))).toArray 46)):=by
 obtain⟨i,hi,f,d,b⟩:=info_parts infoAct;have a:=run_make (P:=prog) w 113 46 i _ underlying113 hi f .i64 .i64 (n:Int) n (by omega) (by omega) (by rw [b];omega) (by omega);simp only [Int.toNat_natCast]at a;rw [a,d,<-EF];rfl
theorem Tryz.infoInt':(prog.info? 3).map (λi=>(i.zero,i.size,i.bytes))=some (some (.int .i64 0),1,8):=by kernel_rfl
theorem zY (n:Nat) (a:n<=65536) (w:World):(Instr.makeSlice 49 (.int .i64 (n:Int)) (.int .i64 (n:Int))).run prog w= .ok (.slice (some ⟨w.heap.size,0,none⟩) n n) (w.alloc (.cells ((List.replicate n (0:Int)).map (Value.int .i64)).toArray 3)):=by
 rw [run_make_row' _ _ _ 8 underlying49 Tryz.infoInt' rfl .i64 .i64 n (by omega) (by omega) w,Fj]
end Go.Proofs.YthlbjgabhpdbfaaGreat
namespace Go.Proofs.YthlbjgabhpdbfaaGreat
open Go.Proofs.Tryz
open Bool renaming and_eq_true->Za
open List renaming all_eq_true->Zb,eq_nil_of_length_eq_zero->Zc,map_cons->Zd,map_nil->Ze,mem_range->Zf,replicate_succ->Zg
open Nat renaming le_refl->Zh,le_trans->Zi,lt_of_lt_of_le->Zj
open Go.RowKit
theorem DB {P:Program} {Q:Exit->Act->World->Prop} {c:Code} {bC bE bW b9 cm cy cN c0 c1 c2 dS ee ev eZ bO e0 e1 bP bR bS bY b0 b1 b2 b3 b4 b5 b6 b7 b8 cb cc cd ce cf ch ci cj ck cl cn co cp cr cs ct cu cv cw cx cz cA cB cC cE cG cH cI cK cM cO cP cR cS cT cU dn e2 e3 e4 e5 e6 e8 e9 fb fc fd fg fh fi fn fs ft fv fw fx fz fF fL fT c3 c4 c5 c6 c7 f0 f1 f2 f3 f4 d1 d2 d3 d4 d5 d6 ea eb ec ed eg ei ej el em en ep er es et ew ex ey eA eB eE eG eQ eR eX bG:Value} {dd:List Deferred} {w0:World} (bB:Value->List Deferred->World->Prop) (c8:Value->Nat) (dr:bB dn dd w0)
  (dO: ∀(d s J ai ak al an ap aS aT a0 a1 a2 a3 a4 a5 a6 a7 a8 a9 ba bb bc bd be bg bh bi bl bo bp bq br bs f g j k l m o p q r t x y z B C F G H I K M N O R T U V W ad a:Value) (b:List Deferred) (w:World),bB a b w-> ∀c9:Act->World->Prop,(∀bt bw,kJ (λbt bw=> ∃(d s J ai ak al an ap aS aT a0 a1 a2 a3 a4 a5 a6 a7 a8 a9 ba bb bc bd be bg bh bi bl bo bp bq br bs f g j k l m o p q r t x y z B C F G H I K M N O R T U V W ad bx:Value) (bA:List Deferred),bB bx bA bw/\c8 bx<c8 a/\bt={tmps:= #[bC,bE,bW,b9,cm,cy,cN,c0,c1,c2,d,s,J,ai,bO,ak,al,bP,bR,bS,bY,b0,b1,b2,b3,b4,b5,b6,b7,b8,cb,cc,cd,ce,cf,ch,ci,cj,ck,cl,cn,co,cp,cr,cs,ct,cu,cv,cw,cx,cz,cA,cB,cC,cE,cG,cH,cI,cK,cM,cO,cP,cR,cS,cT,cU,bx,an,ap,aS,aT,a0,a1,a2,a3,a4,a5,a6,a7,a8,a9,ba,bb,bc,bd,be,bg,bh,bi,bl,c3,c4,c5,c6,c7,bo,bp,bq,br,bs,f,g,j,k,l,m,o,p,q,r,t,x,y,z,B,C,F,G,H,I,K,M,N,O,R,T,U,V,W,ad,bG],defers:=bA}) bt bw->c9 bt bw)->c.wp P (Exit.then c9 Q) {tmps:= #[bC,bE,bW,b9,cm,cy,cN,c0,c1,c2,d,s,J,ai,bO,ak,al,bP,bR,bS,bY,b0,b1,b2,b3,b4,b5,b6,b7,b8,cb,cc,cd,ce,cf,ch,ci,cj,ck,cl,cn,co,cp,cr,cs,ct,cu,cv,cw,cx,cz,cA,cB,cC,cE,cG,cH,cI,cK,cM,cO,cP,cR,cS,cT,cU,a,an,ap,aS,aT,a0,a1,a2,a3,a4,a5,a6,a7,a8,a9,ba,bb,bc,bd,be,bg,bh,bi,bl,c3,c4,c5,c6,c7,bo,bp,bq,br,bs,f,g,j,k,l,m,o,p,q,r,t,x,y,z,B,C,F,G,H,I,K,M,N,O,R,T,U,V,W,ad,bG],defers:=b} w):(Code.loop c).wp P Q {tmps:= #[bC,bE,bW,b9,cm,cy,cN,c0,c1,c2,dS,ee,ev,eZ,bO,e0,e1,bP,bR,bS,bY,b0,b1,b2,b3,b4,b5,b6,b7,b8,cb,cc,cd,ce,cf,ch,ci,cj,ck,cl,cn,co,cp,cr,cs,ct,cu,cv,cw,cx,cz,cA,cB,cC,cE,cG,cH,cI,cK,cM,cO,cP,cR,cS,cT,cU,dn,e2,e3,e4,e5,e6,e8,e9,fb,fc,fd,fg,fh,fi,fn,fs,ft,fv,fw,fx,fz,fF,fL,fT,c3,c4,c5,c6,c7,f0,f1,f2,f3,f4,d1,d2,d3,d4,d5,d6,ea,eb,ec,ed,eg,ei,ej,el,em,en,ep,er,es,et,ew,ex,ey,eA,eB,eE,eG,eQ,eR,eX,bG],defers:=dd} w0:=by
 refine wp_loop (λbz w=> ∃(d s J ai ak al an ap aS aT a0 a1 a2 a3 a4 a5 a6 a7 a8 a9 ba bb bc bd be bg bh bi bl bo bp bq br bs f g j k l m o p q r t x y z B C F G H I K M N O R T U V W ad a:Value) (b:List Deferred),bB a b w/\bz={tmps:= #[bC,bE,bW,b9,cm,cy,cN,c0,c1,c2,d,s,J,ai,bO,ak,al,bP,bR,bS,bY,b0,b1,b2,b3,b4,b5,b6,b7,b8,cb,cc,cd,ce,cf,ch,ci,cj,ck,cl,cn,co,cp,cr,cs,ct,cu,cv,cw,cx,cz,cA,cB,cC,cE,cG,cH,cI,cK,cM,cO,cP,cR,cS,cT,cU,a,an,ap,aS,aT,a0,a1,a2,a3,a4,a5,a6,a7,a8,a9,ba,bb,bc,bd,be,bg,bh,bi,bl,c3,c4,c5,c6,c7,bo,bp,bq,br,bs,f,g,j,k,l,m,o,p,q,r,t,x,y,z,B,C,F,G,H,I,K,M,N,O,R,T,U,V,W,ad,bG],defers:=b}) (λbz w=>c8 (bz.tmps.getD 66 undef)) ⟨_,_,_,_,_,_,_,_,_,_,_,_,_,_,_,_,_,_,_,_,_,_,_,_,_,_,_,_,_,_,_,_,_,_,_,_,_,_,_,_,_,_,_,_,_,_,_,_,_,_,_,_,_,_,_,_,_,_,_,_,_,_,_,_,_,_,dr,rfl⟩ ?_;rintro bz w ⟨d,s,J,ai,ak,al,an,ap,aS,aT,a0,a1,a2,a3,a4,a5,a6,a7,a8,a9,ba,bb,bc,bd,be,bg,bh,bi,bl,bo,bp,bq,br,bs,f,g,j,k,l,m,o,p,q,r,t,x,y,z,B,C,F,G,H,I,K,M,N,O,R,T,U,V,W,ad,a,b,ds,rfl⟩;refine wp_mono (dO d s J ai ak al an ap aS aT a0 a1 a2 a3 a4 a5 a6 a7 a8 a9 ba bb bc bd be bg bh bi bl bo bp bq br bs f g j k l m o p q r t x y z B C F G H I K M N O R T U V W ad a b w ds _ (λbt bw h=>h)) ?_;intro e bt bw bu;cases e with
 |normal=>
  obtain⟨f5,gi,gW,ha,hb,hc,hd,he,hf,hg,hh,hi,hj,hk,hl,hm,hn,ho,hp,hq,hr,hs,ht,hu,hv,hw,hx,hy,hz,hA,hB,hC,hD,hE,f6,f8,f9,ga,gb,gc,gd,gf,gg,gh,gk,gl,gm,gr,gA,gB,gE,gF,gM,gO,g0,g1,g2,g3,g4,g5,g6,g7,g8,g9,bx,bA,dt,dF,rfl⟩:=bu;exact⟨⟨f5,gi,gW,ha,hb,hc,hd,he,hf,hg,hh,hi,hj,hk,hl,hm,hn,ho,hp,hq,hr,hs,ht,hu,hv,hw,hx,hy,hz,hA,hB,hC,hD,hE,f6,f8,f9,ga,gb,gc,gd,gf,gg,gh,gk,gl,gm,gr,gA,gB,gE,gF,gM,gO,g0,g1,g2,g3,g4,g5,g6,g7,g8,g9,bx,bA,dt,rfl⟩,dF⟩
 |exit id=>exact bu
 |goto hG=>exact bu
 |ret=>exact bu
 |panic hF=>exact bu
 |outgrown=>exact bu
theorem DA {P:Program} {Q:Exit->Act->World->Prop} {c:Code} {I J bs bO b5 ci cu cH cS cT K ak a5 dS bi bl bo bp bq br bt bu bw bx bz bA bB bC bE bG bP bR bS bW bY b0 b1 b2 b3 b4 b6 b7 b8 b9 cb cc cd ce cf ch cj ck cl cm cn co cp cr cs ct cv cw cx cy cz cA cB cC cE cG cI cK cM cN cO cP cR dn d1 d2 d3 d4 d5 d6 ea eb ec ed ee eg cU c0 c1 c2 c3 ei c4 c5 c6 c7 M N O R T U V W ad ai al an ap aS aT a0 a1 a2 a3 a4 a6 a7 a8 a9 ba bb bc bd be bg bh:Value} {dd:List Deferred} {w0:World} (H:Value->List Deferred->World->Prop) (c8:Value->Nat) (dr:H dn dd w0)
  (dO: ∀(d f g j k l m o p q r s t x a:Value) (b:List Deferred) (w:World),H a b w-> ∀c9:Act->World->Prop,(∀y B,kJ (λy B=> ∃(d f g j k l m o p q r s t x C:Value) (G:List Deferred),H C G B/\c8 C<c8 a/\y={tmps:= #[I,J,bs,bO,b5,ci,cu,cH,cS,cT,K,ak,a5,d,bi,bl,bo,bp,bq,br,bt,bu,bw,bx,bz,bA,bB,bC,bE,bG,bP,bR,bS,bW,bY,b0,b1,b2,b3,b4,b6,b7,b8,b9,cb,cc,cd,ce,cf,ch,cj,ck,cl,cm,cn,co,cp,cr,cs,ct,cv,cw,cx,cy,cz,cA,cB,cC,cE,cG,cI,cK,cM,cN,cO,cP,cR,C,f,g,j,k,l,m,o,p,q,r,s,t,cU,c0,c1,c2,c3,x,c4,c5,c6,c7,M,N,O,R,T,U,V,W,ad,ai,al,an,ap,aS,aT,a0,a1,a2,a3,a4,a6,a7,a8,a9,ba,bb,bc,bd,be,bg,bh],defers:=G}) y B->c9 y B)->c.wp P (Exit.then c9 Q) {tmps:= #[I,J,bs,bO,b5,ci,cu,cH,cS,cT,K,ak,a5,d,bi,bl,bo,bp,bq,br,bt,bu,bw,bx,bz,bA,bB,bC,bE,bG,bP,bR,bS,bW,bY,b0,b1,b2,b3,b4,b6,b7,b8,b9,cb,cc,cd,ce,cf,ch,cj,ck,cl,cm,cn,co,cp,cr,cs,ct,cv,cw,cx,cy,cz,cA,cB,cC,cE,cG,cI,cK,cM,cN,cO,cP,cR,a,f,g,j,k,l,m,o,p,q,r,s,t,cU,c0,c1,c2,c3,x,c4,c5,c6,c7,M,N,O,R,T,U,V,W,ad,ai,al,an,ap,aS,aT,a0,a1,a2,a3,a4,a6,a7,a8,a9,ba,bb,bc,bd,be,bg,bh],defers:=b} w):(Code.loop c).wp P Q {tmps:= #[I,J,bs,bO,b5,ci,cu,cH,cS,cT,K,ak,a5,dS,bi,bl,bo,bp,bq,br,bt,bu,bw,bx,bz,bA,bB,bC,bE,bG,bP,bR,bS,bW,bY,b0,b1,b2,b3,b4,b6,b7,b8,b9,cb,cc,cd,ce,cf,ch,cj,ck,cl,cm,cn,co,cp,cr,cs,ct,cv,cw,cx,cy,cz,cA,cB,cC,cE,cG,cI,cK,cM,cN,cO,cP,cR,dn,d1,d2,d3,d4,d5,d6,ea,eb,ec,ed,ee,eg,cU,c0,c1,c2,c3,ei,c4,c5,c6,c7,M,N,O,R,T,U,V,W,ad,ai,al,an,ap,aS,aT,a0,a1,a2,a3,a4,a6,a7,a8,a9,ba,bb,bc,bd,be,bg,bh],defers:=dd} w0:=by
 refine wp_loop (λF w=> ∃(d f g j k l m o p q r s t x a:Value) (b:List Deferred),H a b w/\F={tmps:= #[I,J,bs,bO,b5,ci,cu,cH,cS,cT,K,ak,a5,d,bi,bl,bo,bp,bq,br,bt,bu,bw,bx,bz,bA,bB,bC,bE,bG,bP,bR,bS,bW,bY,b0,b1,b2,b3,b4,b6,b7,b8,b9,cb,cc,cd,ce,cf,ch,cj,ck,cl,cm,cn,co,cp,cr,cs,ct,cv,cw,cx,cy,cz,cA,cB,cC,cE,cG,cI,cK,cM,cN,cO,cP,cR,a,f,g,j,k,l,m,o,p,q,r,s,t,cU,c0,c1,c2,c3,x,c4,c5,c6,c7,M,N,O,R,T,U,V,W,ad,ai,al,an,ap,aS,aT,a0,a1,a2,a3,a4,a6,a7,a8,a9,ba,bb,bc,bd,be,bg,bh],defers:=b}) (λF w=>c8 (F.tmps.getD 77 undef)) ⟨_,_,_,_,_,_,_,_,_,_,_,_,_,_,_,_,dr,rfl⟩ ?_;rintro F w ⟨d,f,g,j,k,l,m,o,p,q,r,s,t,x,a,b,ds,rfl⟩;refine wp_mono (dO d f g j k l m o p q r s t x a b w ds _ (λy B h=>h)) ?_;intro e y B z;cases e with
 |normal=>
  obtain⟨ej,el,em,en,ep,er,es,et,ev,ew,ex,ey,eA,eB,C,G,dt,dF,rfl⟩:=z;exact⟨⟨ej,el,em,en,ep,er,es,et,ev,ew,ex,ey,eA,eB,C,G,dt,rfl⟩,dF⟩
 |exit id=>exact z
 |goto eG=>exact z
 |ret=>exact z
 |panic eE=>exact z
 |outgrown=>exact z
open Go Go.RowKit Go.Shelf
theorem DV {β:Type} (B:Nat) (t:TypeId) (f:β->Array Value):Own (λd g=>Blk g B t (f d)):=by
 intro d X Y m a j k;exact a.grown j (λe=>by
  obtain⟨l,b,h⟩:=k B e.symm
  unfold Blk at a
  rw [a]at b
  cases b
  cases h)
theorem pb {β:Type} {B:Nat} {S:Nat->Prop} {w0:World} (d: ∀a,B<=a->S a):OwnFrom B (λ(_:β) b=>aa S w0 b):=λk X Y j h f g=>h.grown f (λa e _=>d a (g a e).1)
theorem qJ {β:Type} (B base:Nat) (e:TypeId) (size n:Nat) (v:Value) (f:β->List Value):OwnFrom B (λd g=>g.ownsRow base e size v n (f d)):=by
 intro d X Y s b l o;refine b.kept l ?_;rcases b.2 with⟨rfl,_⟩|⟨j,p,q,rfl,_,m,_⟩
 ·exact .inl rfl
 ·refine .inr λh=> ?_
  obtain⟨_,r,a,k⟩:=o j (by simpa [Value.ownBlock]using h.symm);rw [m]at a;cases a;cases k
theorem Mk.touch {lo:Nat} {d:List Deferred} {w w':World} {S:Nat->Prop} (h:Mk lo d w) (t:aa S w w') (k: ∀D,w.heap[D]? =some (.deferred (some []))-> ¬S D):Mk lo d w':=by
 obtain⟨f,g,j,a⟩:=h;exact⟨f,g,j,λD b=>⟨(a D b).1,(t.block D (Array.getElem?_eq_some_iff.1 (a D b).2).1 (k D (a D b).2)).trans (a D b).2⟩⟩
theorem EN {α:Type} (d:α) {l:List α} {m:Nat} (h:l.length<m):(l++[d])++List.replicate (m - (l++[d]).length) d=l++List.replicate (m - l.length) d:=by
 obtain⟨a,b⟩: ∃a,m - l.length=a+1:=⟨m - l.length - 1,by omega⟩;have:m - (l++[d]).length=a:=by simp;omega
 rw [this,b,Zg];simp
theorem FB {P:Program} {Q:Exit->Act->World->Prop} {d4 d5:Code} {h j ba bq bE b3 cf cs cE cT k H ad a3 ds a5 a6 a7 a8 a9 bb bc bd be bg bh bi bl bo bp br bs bt bu bw bx bz bA bB bC bG bO bP bR bS bW bY b0 b1 b2 b4 b5 b6 b7 b8 b9 cb cc cd ce ch ci cj ck cl cm cn co cp cr ct cu cv cw cx cy cz cA cB cC cG cH cI cK cM cN cO cP cR cS d1 cU c0 c1 c2 c3 c4 c5 c6 c7 m p q r s t y z F G I J K M O R T U V W ai ak al an ap aS aT a0 a1 a2 a4:Value} {dF:List Deferred} {w:World} (tA:TypeId) {gf:Nat} {lb:Array Value} (dS:cS= .func (.func gf) #[] lb) (eb: ∀d3 w,(callFunc gf d3).run P w= .ok (.enter gf d3) w)
  {f:World->World->Prop} {S d2:List (Int×Int)->Prop} {N:Nat} (es:SeqStopsK Fence.wide 4 P gf lb (λx:Int×Int=> #[Value.agg #[.int .i64 x.1,.int .i64 x.2]]) f S d2 N w)
  (el: ∀{A B C:World},f A B->f B C->f A C) (ej: ∀(a:World) (l:Nat) (o eB:Obj),w.heap.size<=l->a.heap[l]? =some o->o.isCells=false->o.isWalk=false->f a (a.putObj l eB))
  (d:List (Int×Int)->World->Prop) (dn:Code->List (Int×Int)->World->Prop) (ee:OwnFrom w.heap.size d) (eg: ∀c,OwnFrom w.heap.size (dn c)) (ec:d [] w)
  (em: ∀(l:Nat) (pre:List (Int×Int)) (x:Int×Int) (a:World) (dr:Act->World->Prop),d pre a->(∀b g,KeepsFrom w.heap.size a g->f a g->d pre g->w.heap.size<=b->Blk g b tA #[.int .i64 x.1,.int .i64 x.2]->dr {tmps:= #[h,j,ba,bq,bE,b3,cf,cs,cE,cT,k,H,ad,a3,.pointer (some ⟨b,0,none⟩),a5,a6,a7,a8,a9,bb,bc,bd,be,bg,bh,bi,bl,bo,bp,br,bs,bt,bu,bw,bx,bz,bA,bB,bC,bG,bO,bP,bR,bS,bW,bY,b0,b1,b2,b4,b5,b6,b7,b8,b9,cb,cc,cd,ce,ch,ci,cj,ck,cl,cm,cn,co,cp,cr,ct,cu,cv,cw,cx,cy,cz,cA,cB,cC,cG,cH,cI,cK,cM,cN,cO,cP,cR,cS,.agg #[.int .i64 x.1,.int .i64 x.2],cU,c0,c1,c2,c3,c4,c5,c6,c7,m,p,q,r,s,t,y,z,F,G,I,J,K,M,O,R,T,U,V,W,ai,ak,al,an,ap,aS,aT,a0,a1,a2,a4],defers:=[]} g)->
   d4.wpIn (Fence.wide.inRound l) (5 - 1 - 1) P (Exit.then dr (λ_ _ _=>False)) {tmps:= #[h,j,ba,bq,bE,b3,cf,cs,cE,cT,k,H,ad,a3,ds,a5,a6,a7,a8,a9,bb,bc,bd,be,bg,bh,bi,bl,bo,bp,br,bs,bt,bu,bw,bx,bz,bA,bB,bC,bG,bO,bP,bR,bS,bW,bY,b0,b1,b2,b4,b5,b6,b7,b8,b9,cb,cc,cd,ce,ch,ci,cj,ck,cl,cm,cn,co,cp,cr,ct,cu,cv,cw,cx,cy,cz,cA,cB,cC,cG,cH,cI,cK,cM,cN,cO,cP,cR,cS,.agg #[.int .i64 x.1,.int .i64 x.2],cU,c0,c1,c2,c3,c4,c5,c6,c7,m,p,q,r,s,t,y,z,F,G,I,J,K,M,O,R,T,U,V,W,ai,ak,al,an,ap,aS,aT,a0,a1,a2,a4],defers:=[]} a)
  (en: ∀(l:Nat) (pre:List (Int×Int)) (x:Int×Int) (b:Nat) (a:World),d pre a->w.heap.size<=b->Blk a b tA #[.int .i64 x.1,.int .i64 x.2]->pre.length<N->d5.wpIn (Fence.wide.inRound l) (5 - 1 - 1) P (ownPostG w.heap.size f d dn (pre++[x]) a) {tmps:= #[h,j,ba,bq,bE,b3,cf,cs,cE,cT,k,H,ad,a3,.pointer (some ⟨b,0,none⟩),a5,a6,a7,a8,a9,bb,bc,bd,be,bg,bh,bi,bl,bo,bp,br,bs,bt,bu,bw,bx,bz,bA,bB,bC,bG,bO,bP,bR,bS,bW,bY,b0,b1,b2,b4,b5,b6,b7,b8,b9,cb,cc,cd,ce,ch,ci,cj,ck,cl,cm,cn,co,cp,cr,ct,cu,cv,cw,cx,cy,cz,cA,cB,cC,cG,cH,cI,cK,cM,cN,cO,cP,cR,cS,.agg #[.int .i64 x.1,.int .i64 x.2],cU,c0,c1,c2,c3,c4,c5,c6,c7,m,p,q,r,s,t,y,z,F,G,I,J,K,M,O,R,T,U,V,W,ai,ak,al,an,ap,aS,aT,a0,a1,a2,a4],defers:=[]} a)
  (ep: ∀(D:Nat) (ea:List (Int×Int)) (a:World),w.heap.size<=D->S ea->d ea a->a.heap[D]? =some (.deferred (some []))->Q .normal {tmps:= #[h,j,ba,bq,bE,b3,cf,cs,cE,cT,k,H,ad,a3,ds,a5,a6,a7,a8,a9,bb,bc,bd,be,bg,bh,bi,bl,bo,bp,br,bs,bt,bu,bw,bx,bz,bA,bB,bC,bG,bO,bP,bR,bS,bW,bY,b0,b1,b2,b4,b5,b6,b7,b8,b9,cb,cc,cd,ce,ch,ci,cj,ck,cl,cm,cn,co,cp,cr,ct,cu,cv,cw,cx,cy,cz,cA,cB,cC,cG,cH,cI,cK,cM,cN,cO,cP,cR,cS,d1,cU,c0,c1,c2,c3,c4,c5,c6,c7,m,p,q,r,s,t,y,z,F,G,I,J,K,M,O,R,T,U,V,W,ai,ak,al,an,ap,aS,aT,a0,a1,a2,a4],defers:=mM D::dF} a)
  (et: ∀(D:Nat) (c:Code) (pre:List (Int×Int)) (a:World),w.heap.size<=D->d2 pre->dn c pre a->a.heap[D]? =some (.deferred (some []))->c.wp P Q {tmps:= #[h,j,ba,bq,bE,b3,cf,cs,cE,cT,k,H,ad,a3,ds,a5,a6,a7,a8,a9,bb,bc,bd,be,bg,bh,bi,bl,bo,bp,br,bs,bt,bu,bw,bx,bz,bA,bB,bC,bG,bO,bP,bR,bS,bW,bY,b0,b1,b2,b4,b5,b6,b7,b8,b9,cb,cc,cd,ce,ch,ci,cj,ck,cl,cm,cn,co,cp,cr,ct,cu,cv,cw,cx,cy,cz,cA,cB,cC,cG,cH,cI,cK,cM,cN,cO,cP,cR,cS,d1,cU,c0,c1,c2,c3,c4,c5,c6,c7,m,p,q,r,s,t,y,z,F,G,I,J,K,M,O,R,T,U,V,W,ai,ak,al,an,ap,aS,aT,a0,a1,a2,a4],defers:=mM D::dF} a):
  (Code.rangeFunc (.tmp 89) #[90] d4 d5).wp P Q {tmps:= #[h,j,ba,bq,bE,b3,cf,cs,cE,cT,k,H,ad,a3,ds,a5,a6,a7,a8,a9,bb,bc,bd,be,bg,bh,bi,bl,bo,bp,br,bs,bt,bu,bw,bx,bz,bA,bB,bC,bG,bO,bP,bR,bS,bW,bY,b0,b1,b2,b4,b5,b6,b7,b8,b9,cb,cc,cd,ce,ch,ci,cj,ck,cl,cm,cn,co,cp,cr,ct,cu,cv,cw,cx,cy,cz,cA,cB,cC,cG,cH,cI,cK,cM,cN,cO,cP,cR,cS,d1,cU,c0,c1,c2,c3,c4,c5,c6,c7,m,p,q,r,s,t,y,z,F,G,I,J,K,M,O,R,T,U,V,W,ai,ak,al,an,ap,aS,aT,a0,a1,a2,a4],defers:=dF} w:=by
 subst dS;refine wpIn_wide.1 (wpIn_rangeFunc_ownH (n:=5) (α:=Int×Int) rfl (by omega) (gf:=gf) (lb:=lb) rfl trivial eb es el ej (Below.refl _ _) (λ_=>rfl) d dn ee eg ec
  (λx dt a=> ∃b,w.heap.size<=b/\Blk a b tA #[.int .i64 x.1,.int .i64 x.2]/\dt={tmps:= #[h,j,ba,bq,bE,b3,cf,cs,cE,cT,k,H,ad,a3,.pointer (some ⟨b,0,none⟩),a5,a6,a7,a8,a9,bb,bc,bd,be,bg,bh,bi,bl,bo,bp,br,bs,bt,bu,bw,bx,bz,bA,bB,bC,bG,bO,bP,bR,bS,bW,bY,b0,b1,b2,b4,b5,b6,b7,b8,b9,cb,cc,cd,ce,ch,ci,cj,ck,cl,cm,cn,co,cp,cr,ct,cu,cv,cw,cx,cy,cz,cA,cB,cC,cG,cH,cI,cK,cM,cN,cO,cP,cR,.func (.func gf) #[] lb,.agg #[.int .i64 x.1,.int .i64 x.2],cU,c0,c1,c2,c3,c4,c5,c6,c7,m,p,q,r,s,t,y,z,F,G,I,J,K,M,O,R,T,U,V,W,ai,ak,al,an,ap,aS,aT,a0,a1,a2,a4],defers:=[]})
  (λx dt=>by
   rintro _ X Y eG ⟨b,c8,c9,dO⟩ dS d6
   exact⟨b,c8,(DV b tA (λ_:Unit=> #[.int .i64 x.1,.int .i64 x.2])).from w.heap.size () X Y eG c9 dS d6,dO⟩) ?_ ?_ ep (λD c pre a c8 c9 dO ed=>wpIn_wide.2 (et D c pre a c8 c9 dO ed)))
 ·intro l pre x a dr hi ei;have e: ∀dd:Array Value,((#[90]:Array Tmp).zip #[Value.agg #[.int .i64 x.1,.int .i64 x.2]]).foldl (λdd (eE,v)=>dd.setIfInBounds eE v) dd=dd.setIfInBounds 90 (Value.agg #[.int .i64 x.1,.int .i64 x.2]):=λdd=>by simp
  rw [e];exact em l pre x a dr hi λb g ev ew ex ey eA=>ei _ g ev ew ex ⟨b,ey,eA,rfl⟩
 ·rintro l pre x dt a eQ d6 hi ⟨b,c8,c9,rfl⟩ er;exact en l pre x b a hi c8 c9 er
open Go.RowKit
theorem RM.lo {X:Type} {e:TypeId} {size:Nat} {pre:X->List Value} {E:World->(Nat->Prop)->Value->X->Prop} {lo d:Nat->Prop} {base n c:Nat} {w:World} {A:Option Addr} {L:List X} (k:fQ E) (h:RM e size pre E lo base w A n c L) (l: ∀a,lo a->d a):RM e size pre E d base w A n c L:=by
 obtain⟨Z,f,g,j⟩:=h.ex;exact⟨⟨Z,f,g,λp r q o m=>k.mono (j p r q o m) λa b=>⟨l a b.1,b.2⟩⟩,h.hn⟩
theorem sJ {w:World} {base e size n:Nat} {v:Value} {xs d:List Value} (h:w.ownsRow base e size v n xs) (k:w.ownsRow base e size v n d):xs=d:=by
 rcases h.2 with⟨rfl,l⟩|⟨x,q,s,rfl,-,m,-,-,-,o⟩
 ·have f:=h.1;have g:=k.1;rw [l]at f g;have a:xs=[]:=Zc (by simpa using f);have j:d=[]:=Zc (by simpa using g);rw [a,j]
 ·rcases k.2 with⟨a,-⟩|⟨y,r,t,a,-,b,-,-,-,p⟩
  ·cases a
  ·injection a with a _ _
   injection a with a
   injection a with a
   subst a;rw [m]at b;injection b with b
   injection b with b
   subst b;rw [<-o,<-p]
section
variable {X Y : Type} {tA tG : TypeId} {EA : World -> (Nat -> Prop) -> Value -> X -> Prop} {EG : World -> (Nat -> Prop) -> Value -> Y -> Prop} {loA loG : Nat -> Prop} {D i ca cg ca' cg' : Nat} {wd u w1 v w2 : World} {Ax Ag A' G' : Option Addr} {LA : List X} {LG : List Y} {za zg : Value} {xa : X} {xg : Y} {rb tb : Nat} {ZA ZG : List Value}
structure Two (tA tG:TypeId) (EA:World->(Nat->Prop)->Value->X->Prop) (EG:World->(Nat->Prop)->Value->Y->Prop) (loA loG:Nat->Prop) (D:Nat) (w:World) (Ax:Option Addr) (ca:Nat) (Ag:Option Addr) (cg i:Nat) (LA:List X) (LG:List Y):Prop where
 a:RM tA 1 (λ_=>[]) EA loA D w Ax i ca LA
 g:RM tG 1 (λ_=>[]) EG loG D w Ag i cg LG
 lA: ∀b,loA b->D<=b/\b<w.heap.size/\(Value.slice Ax i ca).ownBlock≠some b/\(Value.slice Ag i cg).ownBlock≠some b
 lG: ∀b,loG b->D<=b/\b<w.heap.size/\(Value.slice Ax i ca).ownBlock≠some b/\(Value.slice Ag i cg).ownBlock≠some b
 ne: ∀b,(Value.slice Ax i ca).ownBlock=some b->(Value.slice Ag i cg).ownBlock≠some b
theorem Two.below (g:fQ EA) (j:fQ EG) (h:Two tA tG EA EG loA loG D wd Ax ca Ag cg i LA LG) (b:Below wd.heap.size wd u):Two tA tG EA EG loA loG D u Ax ca Ag cg i LA LG:=
 ⟨h.a.below g b,h.g.below j b,λf d=>let a:=h.lA f d;⟨a.1,Zj a.2.1 b.size,a.2.2⟩,λf d=>let a:=h.lG f d;⟨a.1,Zj a.2.1 b.size,a.2.2⟩,h.ne⟩
theorem Two.touch (k:fQ EA) (l:fQ EG) (h:Two tA tG EA EG loA loG D wd Ax ca Ag cg i LA LG) {S:Nat->Prop} (t:aa S wd u) (f: ∀a,D<=a->a<wd.heap.size-> ¬S a):Two tA tG EA EG loA loG D u Ax ca Ag cg i LA LG:=
 ⟨h.a.touch k t (λa e=>f a (h.a.block a e).1 (h.a.block a e).2) (λa d _=>f a (h.lA a d).1 (h.lA a d).2.1),h.g.touch l t (λa e=>f a (h.g.block a e).1 (h.g.block a e).2) (λa d _=>f a (h.lG a d).1 (h.lG a d).2.1),
  λj g=>let b:=h.lA j g;⟨b.1,Zj b.2.1 t.size,b.2.2⟩,λj g=>let b:=h.lG j g;⟨b.1,Zj b.2.1 t.size,b.2.2⟩,h.ne⟩
theorem Two.push (m:fQ EA) (g:fQ EG) (h:Two tA tG EA EG loA loG D wd Ax ca Ag cg i LA LG) (ak:D<=wd.heap.size)
  (U:ZA.length=LA.length) (z:wd.ownsRow D tA 1 (.slice Ax i ca) i (da (λ_=>[]) LA ZA)) (V: ∀(j:Nat) l k,ZA[j]? =some l->LA[j]? =some k->EA wd (λa=>loA a/\a<wd.heap.size/\(Value.slice Ax i ca).ownBlock≠some a) l k)
  (ba:ZG.length=LG.length) (C:wd.ownsRow D tG 1 (.slice Ag i cg) i (da (λ_=>[]) LG ZG)) (bb: ∀(j:Nat) l k,ZG[j]? =some l->LG[j]? =some k->EG wd (λa=>loG a/\a<wd.heap.size/\(Value.slice Ag i cg).ownBlock≠some a) l k)
  (q:D<=rb/\rb<wd.heap.size/\(Value.slice Ax i ca).ownBlock≠some rb/\(Value.slice Ag i cg).ownBlock≠some rb) (y:D<=tb/\tb<wd.heap.size/\(Value.slice Ax i ca).ownBlock≠some tb/\(Value.slice Ag i cg).ownBlock≠some tb)
  (a6:EA wd (λa=>a=rb) za xa) (a8:EG wd (λa=>a=tb) zg xg)
  (b1:Below wd.heap.size wd u) (K:w1.ownsRow D tA 1 (.slice A' (i+1) ca') (i+1) (da (λ_=>[]) LA ZA++[za])) (N:u.grownBy w1 (Value.slice Ax i ca).ownBlock) (G:(Value.slice A' (i+1) ca').ownBlock=(Value.slice Ax i ca).ownBlock\/(Value.slice A' (i+1) ca').ownBlock=some u.heap.size)
  (s:Below w1.heap.size w1 v) (M:w2.ownsRow D tG 1 (.slice G' (i+1) cg') (i+1) (da (λ_=>[]) LG ZG++[zg])) (O:v.grownBy w2 (Value.slice Ag i cg).ownBlock) (H:(Value.slice G' (i+1) cg').ownBlock=(Value.slice Ag i cg).ownBlock\/(Value.slice G' (i+1) cg').ownBlock=some v.heap.size):
  Two tA tG EA EG (λa=>loA a\/a=rb) (λa=>loG a\/a=tb) D w2 A' ca' G' cg' (i+1) (LA++[xa]) (LG++[xg])/\Below D wd w2:=by
 have al: ∀a,(Value.slice Ax i ca).ownBlock=some a->D<=a/\a<wd.heap.size:=λa e=>z.lt a e
 have I: ∀a,(Value.slice Ag i cg).ownBlock=some a->D<=a/\a<wd.heap.size:=λa e=>C.lt a e
 have r:aa (λo=>(Value.slice Ax i ca).ownBlock=some o) u w1:=(aa.refl _ _).grown N (λo e _=>e);have R:aa (λo=>(Value.slice Ag i cg).ownBlock=some o) v w2:=(aa.refl _ _).grown O (λo e _=>e);have s1:=b1.size;have bc:=r.size;have bd:=s.size;have be:=R.size;have a7:EA wd (λa=>(loA a\/a=rb)/\a<wd.heap.size/\(Value.slice Ax i ca).ownBlock≠some a) za xa:=m.mono a6 λa b=>by subst b;exact⟨.inr rfl,q.2.1,q.2.2.1⟩
 obtain⟨a0,a4,-⟩:=RM.push (pre:=λ_:X=>[]) (lo:=λa=>loA a\/a=rb) (w1:=wd) m h.a.hn U z (λj l k ap an=>m.mono (V j l k ap an) λa b=>⟨.inl b.1,b.2⟩) ak a7 (Below.refl _ _) b1 K N G
 -- the other row,from wd tq9 w1
 have ai:RM tG 1 (λ_:Y=>[]) EG loG D u Ag i cg LG:=h.g.below g b1;have F:RM tG 1 (λ_:Y=>[]) EG (λa=>loG a\/a=tb) D w1 Ag i cg LG:=(ai.touch g r (λa e f=>h.ne a f e) (λa b _ e=>(h.lG a b).2.2.1 e)).lo g λa b=> .inl b
 obtain⟨T,aS,J,aT⟩:=F.ex;have ad:da (λ_:Y=>[]) LG T=da (λ_:Y=>[]) LG ZG:=by
  have W:w1.ownsRow D tG 1 (.slice Ag i cg) i (da (λ_=>[]) LG ZG):=r.own (ah C b1) λa e f=>h.ne a f e
  exact sJ J W
 rw [<-ad]at M;have a9:EG w1 (λa=>(loG a\/a=tb)/\a<w1.heap.size/\(Value.slice Ag i cg).ownBlock≠some a) zg xg:=g.mono (g.touch (g.touch a8 (aa.of_size b1 (λ_=>False)) (λ_ _ e=>e)) r (λa b e=>by subst b;exact y.2.2.1 e)) λa b=>by subst b;exact⟨.inr rfl,by omega,y.2.2.2⟩
 obtain⟨a3,a5,-⟩:=RM.push (pre:=λ_:Y=>[]) (lo:=λa=>loG a\/a=tb) (w1:=w1) g F.hn aS J aT (by omega) a9 (Below.refl _ _) s M O H
 -- the first row,from w1 tq9 w2
 have t: ∀a,(Value.slice A' (i+1) ca').ownBlock=some a->(Value.slice Ax i ca).ownBlock=some a\/(a=u.heap.size/\a<w1.heap.size):=λa e=>by
  rcases G with d|d
  ·exact .inl (d▸e)
  ·have:=K.lt a e;rw [d]at e;injection e with e;exact .inr ⟨e.symm,this.2⟩
 have x: ∀a,(Value.slice G' (i+1) cg').ownBlock=some a->(Value.slice Ag i cg).ownBlock=some a\/a=v.heap.size:=λa e=>by
  rcases H with d|d
  ·exact .inl (d▸e)
  ·rw [d]at e;injection e with e;exact .inr e.symm
 have a2:=a0.below m s;have a1:=a2.touch m R (λa e f=>by
  rcases t a e with d|d
  ·exact h.ne a d f
  ·have:=I a f;omega) (λa b _ f=>by
  rcases b with b|b
  ·exact(h.lA a b).2.2.2 f
  ·subst b;exact q.2.2.2 f)
 have B: ∀a,D<=a/\a<wd.heap.size/\(Value.slice Ax i ca).ownBlock≠some a/\(Value.slice Ag i cg).ownBlock≠some a->D<=a/\a<w2.heap.size/\(Value.slice A' (i+1) ca').ownBlock≠some a/\(Value.slice G' (i+1) cg').ownBlock≠some a:=λa b=>by
  refine⟨b.1,by omega,λe=> ?_,λe=> ?_⟩
  ·rcases t a e with d|d
   ·exact b.2.2.1 d
   ·omega
  ·rcases x a e with d|d
   ·exact b.2.2.2 d
   ·omega
 refine⟨⟨a1,a3,λa b=>B a ?_,λa b=>B a ?_,λa e f=> ?_⟩,?_⟩
 ·rcases b with b|b
  ·exact h.lA a b
  ·subst b;exact q
 ·rcases b with b|b
  ·exact h.lG a b
  ·subst b;exact y
 ·rcases t a e with d|d
  ·rcases x a f with p|p
   ·exact h.ne a d p
   ·have:=al a d;omega
  ·rcases x a f with p|p
   ·have:=I a p;omega
   ·omega
 ·exact a4.trans (a5.mono (Zh _))
end
end Go.Proofs.YthlbjgabhpdbfaaGreat
namespace Go.Proofs.YthlbjgabhpdbfaaGreat
open Go.Proofs.Tryz
open Bool renaming and_eq_true->Za
open List renaming all_eq_true->Zb,eq_nil_of_length_eq_zero->Zc,map_cons->Zd,map_nil->Ze,mem_range->Zf,replicate_succ->Zg
open Nat renaming le_refl->Zh,le_trans->Zi,lt_of_lt_of_le->Zj
open Go Go.RowKit
section
variable {P : Program} {ops : Array Oper} {md : Region.Mode} {S : World -> Prop} {Q : Exit -> Act -> World -> Prop}
def jy (P:Program) (md:Region.Mode) (ops:Array Oper) (Q:Exit->Act->World->Prop) (S:World->Prop) (hd:Nat->Bool) (L:Array Bool->Act->World->Prop):Nat->Array Bool->Act->World->Prop
 |0,listed,a,w=>L listed a w
 |f+1,listed,a,w=>Region.ready md ops listed≠[]/\ ∀j∈Region.ready md ops listed,hd j=true/\wpOp P ops Q j (λa' w'=>S w'/\jy P md ops Q S hd L f (listed.setIfInBounds j true) a' w') a w
theorem qy {m:Nat->Bool} {g:Nat} {L:Array Bool->Act->World->Prop} (d: ∀b a w,L b a w->wpAny P md ops Q g b a w):
  ∀(f:Nat) (b:Array Bool) (a:Act) (w:World),jy P md ops Q S m L f b a w->wpAny P md ops Q (f+g) b a w
 |0,b,a,w,h=>by rw [Nat.zero_add];exact d _ _ _ h
 |f+1,b,a,w,h=>by
  rw [show f+1+g=(f+g)+1 by omega];exact⟨λl=>absurd l h.1,λi hi=>wpOp_mono (λj o k=>qy d f _ j o k.2) (h.2 i hi).2⟩
def rK (md:Region.Mode) (ops:Array Oper):Nat->Oper->Nat->Bool
 |0,_,_=>false
 |f+1,oj,i=>oj.after.any λe=>Region.binds md e&&(decide (e.on=i)||match ops[e.on]? with
  |none=>false
  |some ok=>rK md ops f ok i)
def pj (md:Region.Mode) (ops:Array Oper) (hd:Nat->Bool):Bool:=(List.range ops.size).all λj=>hd j||match ops[j]? with
 |none=>true
 |some oj=>(List.range ops.size).all λi=> !hd i||rK md ops 3 oj i
def j6 (md:Region.Mode) (ops:Array Oper) (listed:Array Bool):Prop:= ∀(k:Nat) (ok:Oper),ops[k]? =some ok->listed.getD k false=true-> ∀e∈ok.after,Region.binds md e=true->listed.getD e.on false=true
def qu (md:Region.Mode) (ops:Array Oper) (listed:Array Bool):Bool:=(List.range ops.size).all λk=> !listed.getD k false||match ops[k]? with
 |none=>true
 |some ok=>ok.after.all λe=> !Region.binds md e||listed.getD e.on false
theorem xO {f:Array Bool} (h:qu md ops f=true):j6 md ops f:=λm o d k e j g=>by
 unfold qu at h;rw [Zb]at h;have a:=h m (Zf.2 (Array.getElem?_eq_some_iff.1 d).1);rw [k,d,Bool.not_true,Bool.false_or]at a;simp only at a;rw [Array.all_eq_true]at a;obtain⟨n,l,rfl⟩:=Array.mem_iff_getElem.1 j;have b:=a n l;rw [g,Bool.not_true,Bool.false_or]at b;exact b
theorem nH {l:Array Bool} {i k:Nat} (h:l.getD k false=true):(l.setIfInBounds i true).getD k false=true:=by
 by_cases a:i=k
 ·subst a;rw [Array.getD_eq_getD_getElem?]at h⊢;rw [Array.getElem?_setIfInBounds];by_cases b:i<l.size
  ·simp [b]
  ·rw [Array.getElem?_eq_none (by omega)]at h;cases h
 ·rw [Array.getD_eq_getD_getElem?]at h⊢;rw [Array.getElem?_setIfInBounds,if_neg a];exact h
theorem j6.set {d:Array Bool} {i:Nat} (h:j6 md ops d) (o:i∈Region.ready md ops d):j6 md ops (d.setIfInBounds i true):=λk p a b e g f=>by
 by_cases j:i=k
 ·subst j;obtain⟨_,q,m,l⟩:=mem_ready.1 o;rw [m]at a;cases a;exact nH (l e g f)
 ·refine nH (h k p a ?_ e g f);rw [Array.getD_eq_getD_getElem?]at b⊢;rw [Array.getElem?_setIfInBounds,if_neg j]at b;exact b
theorem qz {d:Array Bool} (j:j6 md ops d) {i:Nat}: ∀(f:Nat) (g:Oper),(∀e∈g.after,Region.binds md e=true->d.getD e.on false=true)->rK md ops f g i=true->d.getD i false=true
 |0,_,_,h=>by cases h
 |f+1,g,hall,h=>by
  unfold rK at h;rw [Array.any_eq_true]at h;obtain⟨n,o,e⟩:=h;rw [Za,Bool.or_eq_true,decide_eq_true_eq]at e;have b:=hall _ (Array.getElem_mem o) e.1;rcases e.2 with a|a
  ·rw [a]at b;exact b
  ·split at a
   ·cases a
   ·rename_i k p
    exact qz j f k (λe m l=>j _ k p b e m l) a
theorem xW {b:Nat->Bool} (h:pj md ops b=true) {d:Array Bool} (p:j6 md ops d) {i j:Nat} {f:Oper} (g:ops[j]? =some f) (l:b j=false) (m:b i=true) (hi:i<ops.size)
  (o: ∀e∈f.after,Region.binds md e=true->d.getD e.on false=true):d.getD i false=true:=by
 unfold pj at h;rw [Zb]at h;have q:=(Array.getElem?_eq_some_iff.1 g).1;have a:=h j (Zf.2 q);rw [l,Bool.false_or,g]at a;simp only at a;rw [Zb]at a;have k:=a i (Zf.2 hi);rw [m,Bool.not_true,Bool.false_or]at k;exact qz p 3 f o k
theorem zD {q:Nat->Bool} {i:Nat} {oi:Oper} {v:Value} {L:Array Bool->Act->World->Prop} (hi:ops[i]? =some oi) (N: ∀(j:Nat) (o:Oper) x t,ops[j]? =some o->o.op≠ .select x t)
  (T: ∀c a w,Q (.panic c) (a.put oi.dst v) w->Q (.panic c) a w) (a1:pj md ops q=true) (al:q i=true)
  (V: ∀b a w,L b a w-> ∀j∈Region.ready md ops b,q j=false):
  ∀(f:Nat) (b:Array Bool) (a:Act) (w:World),
   (∀j l,ops[j]? =some l->j≠i->b.getD j true=false->(∀e∈l.after,Region.binds md e=true->e.on≠i)->oi.apart ops l=true)->
   j6 md ops b->i∈Region.ready md ops b->YieldsIf P ops S oi v a->S w->
   jy P md ops Q S q L f (b.setIfInBounds i true) (a.put oi.dst v) w->jy P md ops Q S q L (f+1) b a w:=by
 have an:=(Array.getElem?_eq_some_iff.1 hi).1;have I: ∀(b:Array Bool),j6 md ops b->i∈Region.ready md ops b-> ∀j∈Region.ready md ops b,q j=true:=λb p d j g=>by
  cases ak:q j with
  |true=>rfl
  |false=>
   obtain⟨J,l,z,H⟩:=mem_ready.1 g;have m:=xW a1 p z ak al an H;rw [getD_both (mem_ready.1 d).1]at m;cases m
 intro f
 induction f with
 |zero=>
  intro b a w _ p d G y s;refine⟨λh=>(by rw [h]at d;cases d),λj g=>⟨I b p d j g,?_⟩⟩;by_cases k:j=i
  ·subst k;exact G.wpOp hi y ⟨y,s⟩
  ·have:=V _ _ _ s j (ready_mono g k);rw [I b p d j g]at this;cases this
 |succ f a2=>
  intro b a w K p d G y s;have F:=(mem_ready.1 d).1;refine⟨λh=>(by rw [h]at d;cases d),λj g=>⟨I b p d j g,?_⟩⟩;by_cases k:j=i
  ·subst k;exact G.wpOp hi y ⟨y,s⟩
  ·have m:=(s.2 j (ready_mono g k)).2;obtain⟨J,l,z,H⟩:=mem_ready.1 g;have a0: ∀e∈l.after,Region.binds md e=true->e.on≠i:=λe W U ad=>by
    have m:=H e W U;rw [ad,getD_both F]at m;cases m
   have R:=wpOp_putIf z (K j l z k J a0) (λx t=>N i oi x t hi) (λx t=>N j l x t z) T G m;have ai: ∀r B,ops[r]? =some B->r≠i->(b.setIfInBounds j true).getD r true=false->
     (∀e∈B.after,Region.binds md e=true->e.on≠i)->oi.apart ops B=true:=λr B ap aS F aT=>by
    refine K r B ap aS ?_ aT;by_cases M:j=r
    ·subst M;exact J
    ·rw [getD_set_ne true M]at F;exact F
   refine wpOp_mono (λO a3 C=>⟨C.2.1,a2 (b.setIfInBounds j true) O a3 ai (p.set g) (ready_mono d (Ne.symm k)) C.1 C.2.1 ?_⟩) R;rw [Array.setIfInBounds_comm _ _ k];exact C.2.2
end
section
variable {P : Program} {ops : Array Oper} {md : Region.Mode} {S : World -> Prop} {Q : Exit -> Act -> World -> Prop}
def Lq (P:Program) (md:Region.Mode) (ops:Array Oper) (Q:Exit->Act->World->Prop) (hd:Nat->Bool) (g:Nat) (listed:Array Bool) (a:Act) (w:World):Prop:=
 ((Region.ready md ops listed).all λj=> !hd j)=true/\wpAny P md ops Q g listed a w
theorem Bo {b:Nat->Bool} {g i:Nat} {oi:Oper} {v:Value} {f:Nat} {d:Array Bool} {a:Act} {w:World} (hi:ops[i]? =some oi)
  (s:Region.noSelect ops=true) (t:pj md ops b=true) (p:b i=true) (m:qu md ops d=true) (o:Region.free md ops d i=true) (r:(Region.ready md ops d).contains i=true)
  (k: ∀c a w,Q (.panic c) (a.put oi.dst v) w->Q (.panic c) a w) (x:YieldsIf P ops S oi v a) (l:S w)
  (h:jy P md ops Q S b (Lq P md ops Q b g) f (d.setIfInBounds i true) (a.put oi.dst v) w):jy P md ops Q S b (Lq P md ops Q b g) (f+1) d a w:=
 zD hi (Region.noSelect_spec s) k t p (λB z u j y q=>by
  have:=(Zb.1 j.1) y q
  simpa using this) f d a w (Region.free_spec hi o) (xO m) (by simpa using r) x l h
theorem tkq {d:Nat->Bool} {g i:Nat} {oi:Oper} {v:Value} {j:Nat} {f:Array Bool} {a:Act} {w:World} (hi:ops[i]? =some oi)
  (b:(Region.noSelect ops&&(pj md ops d&&(d i&&(qu md ops f&&(Region.free md ops f i&&(Region.ready md ops f).contains i)))))=true)
  (k: ∀c a w,Q (.panic c) (a.put oi.dst v) w->Q (.panic c) a w) (m:YieldsIf P ops S oi v a) (l:S w)
  (h:jy P md ops Q S d (Lq P md ops Q d g) j (f.setIfInBounds i true) (a.put oi.dst v) w):jy P md ops Q S d (Lq P md ops Q d g) (j+1) f a w:=by
 rw [Za,Za,Za,Za,Za]at b;exact Bo hi b.1 b.2.1 b.2.2.1 b.2.2.2.1 b.2.2.2.2.1 b.2.2.2.2.2 k m l h
def ax (P:Program) (md:Region.Mode) (ops:Array Oper) (Q:Exit->Act->World->Prop) (S:World->Prop) (hd:Nat->Bool) (L:Array Bool->Act->World->Prop) (f:Nat) (listed:Array Bool) (a:Act) (w:World) (rs:List Nat):Prop:=
 ∀i∈rs,wpOp P ops Q i (λa' w'=>S w'/\jy P md ops Q S hd L f (listed.setIfInBounds i true) a' w') a w
theorem ax.nil {b:Nat->Bool} {L:Array Bool->Act->World->Prop} {f:Nat} {d:Array Bool} {a:Act} {w:World}:ax P md ops Q S b L f d a w []:=λ_ h=>(by cases h)
theorem ax.cons {d:Nat->Bool} {L:Array Bool->Act->World->Prop} {f i:Nat} {o:Oper} {is:List Nat} {j:Array Bool} {a:Act} {w:World} (q:ops[i]? =some o)
  (h: ∀b:Act->World->Prop,Shut (∀a w,S w->(S w->jy P md ops Q S d L f (j.setIfInBounds i true) a w)->b a w)->if Region.wanted o (yielded ops a.tmps)=true then Oper.wp P o a w b Q else b (a.put o.dst undef) w)
  (l:ax P md ops Q S d L f j a w is):ax P md ops Q S d L f j a w (i::is):=λr g=>by
 rcases List.mem_cons.1 g with rfl|g
 ·exact wpOp_step q (λb m=>h b (λa w k p=>m a w ⟨k,p k⟩))
 ·exact l r g
theorem bQ {b:Nat->Bool} {L:Array Bool->Act->World->Prop} {rs:List Nat} {f:Nat} {d:Array Bool} {a:Act} {w:World} (m:Region.ready md ops d=rs) (l:rs≠[]) (k:rs.all b=true)
  (h:ax P md ops Q S b L f d a w rs):jy P md ops Q S b L (f+1) d a w:=by
 subst m;exact⟨l,λj g=>⟨(Zb.1 k) j g,h j g⟩⟩
theorem jG {b:Nat->Bool} {g:Nat} (k:Nat) {d:Array Bool} {a:Act} {w:World} (l:(ops.toList.drop k).length=g) (m:((Region.ready md ops d).all λf=> !b f)=true) (j:Region.seqB md ops g k d=true) (h:wpList P ops Q (ops.toList.drop k) a w):
  jy P md ops Q S b (Lq P md ops Q b g) 0 d a w:=⟨m,by
 subst l
 exact wpAny_of_seq _ k _ a w (λf=>by rw [List.getElem?_drop,Array.getElem?_toList]) j h⟩
theorem pN (f g:Nat) (b:Nat->Bool) {id:Nat} {a:Act} {w:World} (hm:P.follows .mixedOrders=true) (k:f+g=ops.size)
  (j:S w.drew) (h:S w.drew->jy P .any ops Q S b (Lq P .any ops Q b g) f (Array.replicate ops.size false) a w.drew):(Code.region id ops true).wp P Q a w:=
 wp_region_any hm (by
  have:=qy (λ_ _ _ d=>d.2) f _ _ _ (h j)
  rwa [k]at this)
end
end Go.Proofs.YthlbjgabhpdbfaaGreat
namespace Go.Proofs.YthlbjgabhpdbfaaGreat
open Go.Proofs.Tryz
open Bool renaming and_eq_true->Za
open List renaming all_eq_true->Zb,eq_nil_of_length_eq_zero->Zc,map_cons->Zd,map_nil->Ze,mem_range->Zf,replicate_succ->Zg
open Nat renaming le_refl->Zh,le_trans->Zi,lt_of_lt_of_le->Zj
open Go.RowKit
theorem step_RA {ops:Array Oper} {o:Oper} {a:Act} {w:World} {b:Act->World->Prop} {Q:Exit->Act->World->Prop} {E':Prop} (d:o.guard=none) (x:Operand) (f:o.op= .buildSlice 32 1 #[(0,x)]) (v:Value) (k:a.eval x=v) {A:Option Addr} {n c:Nat} (g:v= .slice A n c)
  (h:b (a.put o.dst (.slice (some ⟨w.heap.size,0,none⟩) 1 1)) (w.alloc (.cells #[v] 113))):if Region.wanted o (yielded ops a.tmps)=true then Oper.wp prog o a w b Q else E':=by
 have j:Region.wanted o (yielded ops a.tmps)=true:=by simp [Region.wanted,d]
 rw [if_pos j];subst g;unfold Oper.wp execOp;simp only [f,List.map_toArray,Zd,Ze,k]
 go_simp
 exact h
theorem step_RI {ops:Array Oper} {o:Oper} {a:Act} {w:World} {b:Act->World->Prop} {Q:Exit->Act->World->Prop} {E':Prop} (d:o.guard=none) (x:Operand) (f:o.op= .buildSlice 33 1 #[(0,x)]) (v:Value) (k:a.eval x=v) {A:Option Addr} {n c:Nat} (g:v= .slice A n c)
  (h:b (a.put o.dst (.slice (some ⟨w.heap.size,0,none⟩) 1 1)) (w.alloc (.cells #[v] 49))):if Region.wanted o (yielded ops a.tmps)=true then Oper.wp prog o a w b Q else E':=by
 have j:Region.wanted o (yielded ops a.tmps)=true:=by simp [Region.wanted,d]
 rw [if_pos j];subst g;unfold Oper.wp execOp;simp only [f,List.map_toArray,Zd,Ze,k]
 go_simp
 exact h
end Go.Proofs.YthlbjgabhpdbfaaGreat

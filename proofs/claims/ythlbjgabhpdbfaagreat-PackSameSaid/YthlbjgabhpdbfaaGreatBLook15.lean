/- Lookaheads: what they are, in one word; the maker as it begins. -/
import Derived.Test.YthlbjgabhpdbfaaGreatBLook14
import Derived.Test.YthlbjgabhpdbfaaGreatBAuto15
import Derived.WalkKit
import Derived.Test.YthlbjgabhpdbfaaGreatBBitsL
import Derived.Laws.EntriesVeiled
import Derived.Test.YthlbjgabhpdbfaaGreatBG7
import Derived.Laws.MakeOwn
import Derived.Deep.Cut
import Derived.Deep.OwnRows
import Derived.Test.YthlbjgabhpdbfaaGreatBFirstPlain
import Derived.Test.YthlbjgabhpdbfaaGreatBFirst4
import Derived.Test.YthlbjgabhpdbfaaGreatBLookPlain
import Derived.Deep.CutRange
import Derived.Test.YthlbjgabhpdbfaaGreatBItemLay
set_option linter.unusedVariables false
set_option linter.unusedSimpArgs false
set_option maxRecDepth 100000
set_option maxHeartbeats 16000000
namespace Go.Proofs.YthlbjgabhpdbfaaGreat
open Go.Proofs.Tryz
open List renaming drop_succ_cons->Za,drop_zero->Zb,length_append->Zc,map_append->Zd,mem_range->Ze,mem_singleton->Zf,setIfInBounds_toArray->Zg,set_cons_succ->Zh,set_cons_zero->Zi,take_succ_cons->Zj,take_zero->Zk
open Nat renaming le_refl->Zl,le_trans->Zm,lt_of_lt_of_le->Zn,mul_le_mul_right->Zo,not_lt_zero->Zp,zero_le->Zq
open Go.RowKit Go.Maps
attribute [local irreducible] wpStill aB aO
def lnI (G:ac) (st k:Int):Int:=((rgt G st k).length:Int)
noncomputable def j9 (G:ac) (st:Int) (D:aP) (i:Nat) (e:List It×List It):List Lk:=(List.range (G.rules.length+1)).filterMap λk:Nat=>if toB (Cl G st e.1 ((k:Int),lnI G st k))=true then some ((k:Int),lW (G.terms.length+1) (λt=>toB (LA G st D i ((k:Int),lnI G st k) t)))else none
noncomputable def bN (G:ac) (st:Int) (D:aP):List (List Lk):=D.mapIdx λi e=>j9 G st D i e
theorem jv (G:ac) (st:Int) (D:aP):(bN G st D).length=D.length:=by unfold bN;simp
theorem kU {G:ac} {st:Int} {D:aP} {i:Nat} {e:List It×List It} (h:D[i]? =some e):(bN G st D)[i]? =some (j9 G st D i e):=by
 unfold bN;rw [List.getElem?_mapIdx,h];rfl
theorem oU {X d:Type} {f g:X->Option d}: ∀{l:List X},(∀x∈l,f x=g x)->l.filterMap f=l.filterMap g
 |[],_=>rfl
 |a::r,h=>by
  rw [List.filterMap_cons,List.filterMap_cons,h a (List.mem_cons_self ..),oU (λx i=>h x (List.mem_cons_of_mem _ i))]
structure En (d:LD) (y:Dy):Prop where
 it:ItI d d.cm y
 full: ∀p i x,KP d.D p i x->iQ d.G d.st d.D d.cm y.ed y.fi p i x
theorem zx.is {d:LD} {y:Dy} {F':Nat->Nat->Bool} {i:Nat} {e:List It×List It} {L:List Lk} (p:LkD d) (t:En d y) (K:po (d.T+1) y.na y.F y.ed F') (s:d.D[i]? =some e) (h:zx d {y with F:=F'} i L):L=j9 d.G d.st d.D i e:=by
 obtain⟨f,M,rfl⟩:=h;rw [t.it.F]at K;have U:=fun{a i C x} j=>Fm (p:=a) (i:=i) (t:=C) (x:=x) p.hA t.it.fi p.co t.it.ed t.full K j
 unfold gG j9;refine oU λk Q=> ?_
 have ai:k<=d.G.rules.length:=by have:=Ze.1 Q;omega
 have D: ∀a,Pl d.D y.fi a i ((k:Int),lnI d.G d.st k)->Cl d.G d.st e.1 ((k:Int),lnI d.G d.st k):=λa j=>by
  rcases j with h|⟨u,D,E⟩
  ·obtain⟨e',o,l⟩:=h.mem;rw [s]at o;injection o with o
   subst o;exact .base _ l (p.hA.kern i e _ s l).1
  ·obtain⟨e',x,ad,o,l,H,B,c,r,I⟩:=t.it.src i u a E;rw [s]at o;injection o with o
   subst o;rw [D];exact Ej (.base x l (p.hA.kern i e x s l).1) H (((p.co ad B).mem c.s).1 ⟨c,r,rfl⟩) I
 have E:Cl d.G d.st e.1 ((k:Int),lnI d.G d.st k)-> ∃a,Pl d.D y.fi a i ((k:Int),lnI d.G d.st k):=λr=>by
  rcases(wu p.hK.toKnI (λx l=>(p.hA.kern i e x s l).1) _).1 r with l|⟨x,l,n,m,u,H,B,hm,I,z⟩
  ·obtain⟨a,j⟩:=KP.of_mem s l;exact⟨a,.inl j⟩
  ·injection z with z J
   obtain⟨a,j⟩:=KP.of_mem s l;obtain⟨c,r,P⟩:=((p.co n B).mem m).2 hm;have X:rgt d.G d.st u=[]:=by
    rw [<-z];unfold lnI at J;exact List.eq_nil_of_length_eq_zero (by omega)
   obtain⟨Y,W⟩:=(((t.full a i x j) n H).2 B c r u (by rw [P];exact I)).1 X;exact⟨Y,.inr ⟨u,by rw [J,z],W⟩⟩
 cases O:f (k:Int)with
 |none=>
  rw [if_neg (λr=>by
   obtain⟨a,j⟩:=E (ek.1 r)
   have:=(M (k:Int) (a:Int)).2 ⟨a,rfl,j⟩
   rw [O]at this
   cases this)]
  rfl
 |some v=>
  obtain⟨a,rfl,j⟩:=(M (k:Int) v).1 O;rw [if_pos (ek.2 (D a j))];show some ((k:Int),lW (d.T+1) (F' ((a:Nat):Int).toNat))=_;rw [Int.toNat_natCast,show F' a=λC=>toB (LA d.G d.st d.D i ((k:Int),lnI d.G d.st k) C)from funext λC=>fl ((U j).trans ek.symm)];rfl
def d0 (G:ac) (st:Int) (D:aP):LD:=⟨G,st,D,[],[],0,λ_=>[],0,λ_=>[],[]⟩
def y0 (n:Nat):Dy:=⟨n,λ_=>aj,[],λ_=>[]⟩
theorem DM (n:Nat):i8 (y0 n)=y0 (n+1):=by
 unfold i8 y0;have:(upd (λ_=>aj) n aj:Nat->Nat->Bool)=λ_=>aj:=by
  funext p
  by_cases e:p=n
  ·subst e;rw [aC]
  ·rw [aN e]
 rw [this]
theorem MK.start {w2 w4:World} {F:Nat->Prop} {A1:Option Addr} {c1:Nat} {A2:Option Addr} {c2:Nat} {A3:Option Addr} {c3:Nat} {j:Option Addr} {l T N R n:Nat} {G:ac} {st:Int} {D:aP} {P M:Nat} {U:TypeId} (hT:G.terms.length=T) (y:G.nons.length=N) (B:G.rules.length=R) (I:n=D.length) (E:bk w2 F (.slice A1 T c1) (.slice A2 N c2) (.slice A3 R c3) G) (u: ∀b,F b->b<w2.heap.size)
  (H:dG w2 (λb=>b<w2.heap.size) (.slice j n l) D) (b:Below w2.heap.size w2 w4) (X:w2.heap.size<=P) (K:Blk w4 P U (madeCells #[.slice none 0 0] n)) (W:w2.heap.size<=M) (z:P≠M)
  (J:Blk w4 M 256 #[.slice A1 T c1,.slice A2 N c2,.slice A3 R c3,.int .i64 st,.slice j n l,.slice none 0 0,.slice none 0 0,.slice none 0 0,.slice none 0 0,.slice none 0 0,.slice none 0 0,.slice none 0 0,.slice (some ⟨P,0,none⟩) n n]):
  ∃q:LQ,MK w4 q (d0 G st D) (y0 0)/\q.M=M/\ ∀b,b<w2.heap.size->q.ow b=1:=by
 subst hT y B I;obtain⟨a,o⟩: ∃a:Nat->Nat,a=λb=>if b<w2.heap.size then 1 else if b=P then 10 else if b=M then 0 else 2:=⟨_,rfl⟩
 have p: ∀b,b<w2.heap.size->a b=1:=λb C=>by rw [o];simp [C]
 have O:a P=10:=by rw [o];show(if P<w2.heap.size then 1 else if P=P then 10 else if P=M then 0 else 2)=10;rw [if_neg (by omega),if_pos rfl]
 have L:a M=0:=by rw [o];show(if M<w2.heap.size then 1 else if M=P then 10 else if M=M then 0 else 2)=0;rw [if_neg (by omega),if_neg (λe=>z e.symm),if_pos rfl]
 have s: ∀b,b<w2.heap.size->TF w4 a (λQ=>Q=1) b:=λk i=>⟨Zn i b.size,p k i⟩
 refine⟨⟨M,a,F,A1,c1,A2,c2,A3,c3,j,l,none,0,none,0,.slice none 0 0,.slice none 0 0,none,0,none,0,λ_=>0,λ_ _=>False,none,0,P⟩,⟨⟨E.below b,λk i=>s k (u k i),(H.below b (λ_ h=>h)).mono s,?_,?_,.inl ⟨rfl,rfl⟩,.inl ⟨rfl,rfl⟩,Row.nil _ _ _ _ _,?_,?_,⟨λ_=> .slice none 0 0,?_⟩⟩,J,L⟩,rfl,p⟩
 ·exact⟨[],rfl,Row.nil _ _ _ _ _,λd t r h=>by simp at h⟩
 ·exact⟨[],rfl,Row.nil _ _ _ _ _,λd t r h=>by simp at h⟩
 ·exact⟨Row.nil _ _ _ _ _,λd hi=>absurd hi (Zp _),λd k hi=>absurd hi (Zp _),λd Y k hi=>absurd hi (Zp _)⟩
 ·exact⟨[],rfl,Row.nil _ _ _ _ _,λd t r h=>by simp at h⟩
 ·exact Rows.made K O
def eF (V:World) (F:Nat->Prop) (v:Value) (LL:List (List Lk)):Prop:= ∃Z:List Value,Z.length=LL.length/\Rd V F v 1 Z/\ ∀(j:Nat) z L,Z[j]? =some z->LL[j]? =some L->ff V F z L
section
variable {V V' : World} {F F' S : Nat -> Prop} {v : Value} {LL : List (List Lk)}
theorem eF.nil (V:World) (F:Nat->Prop):eF V F (.slice none 0 0) []:=⟨[],rfl,Rd.nil _ _ _,λd i a h=>by simp at h⟩
theorem eF.mono (h:eF V F v LL) (a: ∀b,F b->F' b):eF V F' v LL:=by
 obtain⟨Z,d,i,j⟩:=h;exact⟨Z,d,i.mono a,λp r x o l=>(j p r x o l).mono a⟩
theorem eF.below {B:Nat} (h:eF V F v LL) (b:Below B V V') (a: ∀k,F k->k<B):eF V' F v LL:=by
 obtain⟨Z,d,i,j⟩:=h;exact⟨Z,d,i.below b a,λp r x o l=>(j p r x o l).below b a⟩
end
structure nK (base:Nat) (w:World) (A:Option Addr) (n c:Nat) (LL:List (List Lk)):Prop where
 ex: ∃Z:List Value,Z.length=LL.length/\w.ownsRow base 117 1 (.slice A n c) n Z/\ ∀(j:Nat) z x,Z[j]? =some z->LL[j]? =some x->ff w (λb=>base<=b/\b<w.heap.size/\(Value.slice A n c).ownBlock≠some b) z x
 hn:n=LL.length
section
variable {base n b : Nat} {w w1 w2 w3 : World} {A A' : Option Addr} {c c' : Nat} {LL : List (List Lk)} {Z : List Value}
theorem nK.nil (base:Nat) (w:World):nK base w none 0 0 []:=⟨⟨[],rfl,World.ownsRow_nil _ _ _ _,λa d x h=>by simp at h⟩,rfl⟩
theorem nK.push {z:Value} {l:List Lk} (H:n=LL.length) (t:Z.length=LL.length) (B:w.ownsRow base 117 1 (.slice A n c) n Z) (C: ∀(j:Nat) z x,Z[j]? =some z->LL[j]? =some x->ff w (λb=>base<=b/\b<w.heap.size/\(Value.slice A n c).ownBlock≠some b) z x) (u:base<=w.heap.size)
  (I:ff w1 (λb=>w.heap.size<=b/\b<w1.heap.size) z l) (b1:Below w.heap.size w w1) (r:Below w1.heap.size w1 w2)
  (own:w3.ownsRow base 117 1 (.slice A' (n+1) c') (n+1) (Z++[z])) (g:w2.grownBy w3 (Value.slice A n c).ownBlock) (i:(Value.slice A' (n+1) c').ownBlock=(Value.slice A n c).ownBlock\/(Value.slice A' (n+1) c').ownBlock=some w2.heap.size):
  nK base w3 A' (n+1) c' (LL++[l])/\Below base w w3:=by
 have o:aa (λk=>(Value.slice A n c).ownBlock=some k) w2 w3:=(aa.refl _ _).grown g (λk e _=>e);have p:=b1.trans (r.mono b1.size);have s: ∀k,(Value.slice A n c).ownBlock=some k->base<=k/\k<w.heap.size:=λk e=>B.lt k e
 have y: ∀k,(Value.slice A' (n+1) c').ownBlock=some k->(Value.slice A n c).ownBlock=some k\/k=w2.heap.size:=λk a=>by
  rcases i with i|i
  ·exact .inl (i▸a)
  ·rw [i]at a;injection a with a;exact .inr a.symm
 have s1:=b1.size;have K:=r.size;have L:=o.size;refine⟨⟨⟨Z++[z],by simp [t],own,λj J x d h=> ?_⟩,by rw [Zc,<-H];rfl⟩,o.toBelow (λk e=>(s k e).1) (p.mono u) (Zm u p.size)⟩;by_cases D:j<Z.length
 ·rw [List.getElem?_append_left D]at d;rw [List.getElem?_append_left (by omega)]at h;refine(((C j J x d h).touch (aa.of_size p (λ_=>False)) (λ_ _ e=>e)).touch o (λk a=>a.2.2)).mono λk a=>⟨a.1,by omega,λe=> ?_⟩
  rcases y k e with e|e
  ·exact a.2.2 e
  ·omega
 ·have E:j=Z.length:=by have:=(List.getElem?_eq_some_iff.1 d).1;simp at this;omega
  subst E;rw [List.getElem?_append_right (Zl _),Nat.sub_self]at d;rw [List.getElem?_append_right (by omega),t,Nat.sub_self]at h;injection d with d
  injection h with h
  subst d h;refine(((I.touch (aa.of_size r (λ_=>False)) (λ_ _ e=>e)).touch o (λk a e=>by have:=s k e;omega))).mono λk a=>⟨by omega,by omega,λe=> ?_⟩
  rcases y k e with e|e
  ·have:=s k e;omega
  ·omega
theorem nK.rd (h:nK base w A n c LL):eF w (λb=>base<=b/\b<w.heap.size) (.slice A n c) LL:=by
 obtain⟨i,j,d,l⟩:=h.ex;exact⟨i,j,(Rd.of_own d).mono (λk a=>d.lt k a),λr s x o p=>(l r s x o p).mono λk a=>⟨a.1,a.2.1⟩⟩
end
theorem infoLooks:(prog.info? 117).map (λa=>(a.zero,a.size,a.bytes))=some (some (.slice none 0 0),1,24):=by kernel_rfl
theorem elemLooks:dZ prog 101 117 (.slice none 0 0) 1 24:=⟨underlying101,infoLooks,rfl,by decide⟩
theorem infoFinals:(prog.info? 297).map (λa=>(a.zero,a.size,a.bytes))=some (some (.slice none 0 0),1,24):=by kernel_rfl
theorem yo (n:Nat) (a:n<=65536) (w:World):(Instr.makeSlice 250 (.int .i64 (n:Int)) (.int .i64 (n:Int))).run prog w= .ok (.slice (some ⟨w.heap.size,0,none⟩) n n) (w.alloc (.cells (madeCells #[.slice none 0 0] n) 297)):=
 run_make_row' _ _ _ 24 underlying250 infoFinals rfl .i64 .i64 n (by omega) (by omega) w
def xz (w:World) (G:ac) (st ck:Int) (e:Ending) (w':World):Prop:=Below w.heap.size w w'/\ ∃A n c ev D,e= .returned (.tuple #[.slice A n c,.int .i64 ev])/\fA G st ck ev D/\eF w' (λb=>w.heap.size<=b/\b<w'.heap.size) (.slice A n c) (bN G st D)
noncomputable def dB (G:ac) (st:Int) (D:aP) (cm:Nat->List Co) (i:Nat):LD:={jf (d0 G st D) cm with ba:=(List.range i).map λj=>((aR D j:Nat):Int)}
theorem lH (G:ac) (st:Int) (D:aP) (a:Nat->List Co) (i:Nat):(dB G st D a i).ba.length=i:=by unfold dB;simp
theorem Bf {G:ac} {st:Int} {D:aP} {a:Nat->List Co} {i j:Nat} (h:j<i):(dB G st D a i).ba[j]? =some ((aR D j:Nat):Int):=by
 show((List.range i).map λj=>((aR D j:Nat):Int))[j]? =_;rw [List.getElem?_map,List.getElem?_range h];rfl
theorem ES (G:ac) (st:Int) (D:aP) (a:Nat->List Co) (i:Nat):({dB G st D a i with ba:=(dB G st D a i).ba++[((aR D i:Nat):Int)]}:LD)=dB G st D a (i+1):=by
 unfold dB;simp only [List.range_succ,Zd,List.map_cons,List.map_nil]
def yF (n:Nat):Dy:=⟨n,F00,[],λ_=>[]⟩
theorem F6 (T n:Nat):({y0 n with F:=bv (y0 n).F 0 (cJ (T+1) aj 0)}:Dy)=yF n:=by
 unfold yF y0;have:bv (λ_=>aj) 0 (cJ (T+1) aj 0)=F00:=by
  funext p t
  unfold bv F00 cJ aj;by_cases a:p=0
  ·subst a;simp
  ·simp [a]
 simp only [this]
theorem Fz {d:LD} (i:1<=aR d.D d.D.length):ItI d d.cm (yF (aR d.D d.D.length)) where
 fi:=⟨Zl _,λa k p h=>(by cases h),λa=>List.nodup_nil,λa l k o p h=>(by cases h),λa _=>rfl⟩
 ed:=λe j=>by cases j
 cnt:=by
  have:=rm (fi:=(yF (aR d.D d.D.length)).fi) (B:=0) (λa=>Zl _) d.D.length;show aR d.D d.D.length=aR d.D d.D.length+_;omega
 F:=rfl
 pos:=i
 src:=λa k p h=>by cases h
theorem LkD.mk' {G:ac} {st:Int} {L T:List (List It)} {cm:Nat->List Co} (a:Bld G st L.length L T) (hK:KnA G st) (d: ∀s:Int,am G s=true->gP G st s (cm s.toNat)):LkD (dB G st (stD L T) cm (stD L T).length) where
 hP:=⟨(iU (d0 G st (stD L T)) cm).rl,(iU (d0 G st (stD L T)) cm).rs,(iU (d0 G st (stD L T)) cm).tll,(iU (d0 G st (stD L T)) cm).tl,(iU (d0 G st (stD L T)) cm).nu,(iU (d0 G st (stD L T)) cm).ru⟩
 nc:=rfl
 hK:=hK
 hA:=i9.of_bld a hK
 ba:=λi h=>Bf h
 bl:=lH _ _ _ _ _
 co:=d
theorem EH {w w2:World} {G:ac} {st d a:Int} {D:aP} (b:Below w.heap.size w w2) (h:fA G st d a D) (i:a≠0):xz w G st d (.returned (.tuple #[.slice none 0 0,.int .i64 a])) w2:=by
 refine⟨b,none,0,0,a,D,rfl,h,?_⟩;have:D=[]:=by
  rcases h with⟨-,-,h⟩|⟨-,-,-,h⟩|⟨-,j,T,-,h,-⟩
  ·exact h
  ·exact h
  ·exact absurd h i
 subst this;exact eF.nil _ _
theorem EI {w:World} {F:Nat->Prop} {hY hW hX:Value} {G:ac} (h:bk w F hY hW hX G) (ea: ∀b,F b->b<w.heap.size) (st:Int):
  Calls prog 137 #[GV hY hW hX st] w (xz w G st (bf G st)):=by
 obtain⟨A1,c1,A2,c2,A3,c3,rfl,rfl,rfl,-⟩:=h.slices;obtain⟨w1,cg⟩: ∃w1,w1=w.alloc (.cells #[.slice A1 G.terms.length c1,.slice A2 G.nons.length c2,.slice A3 G.rules.length c3,.int .i64 st] 25):=⟨_,rfl⟩;have W:=bj.new h st;have d3:Below w.heap.size w w1:=by rw [cg];exact(Below.refl _ w).alloc (Zl _) _
 rw [<-cg]at W;have I:=tJ W.gram (λb B=>Zn (ea b B) d3.size) st;obtain⟨hH,hI,hJ,hK⟩:=W.cells;obtain⟨gb,ei⟩: ∃x,x=bf G st:=⟨_,rfl⟩;rw [<-ei]at I⊢;generalize hT:G.terms.length=T at *;generalize g5:G.nons.length=N at *;generalize g6:G.rules.length=R at *;rw [cg]at I hH hI hJ hK;clear h;obtain⟨lB,fd,c9,e6,dt,ix,it,iv⟩:=dA ea W d3 I ei hT g5 g6;clear ea W d3 I ei hT g5 g6
 go_enter func137,ntmps137
 go_wp2_with fail
 refine e6.out.mono ?_;rintro e w2 es;rw [<-cg]at es;obtain⟨bt,bi,n,L,gd,d,rfl,cl,d2⟩:=es.flat;have aS:=fd.out.below bt;have b4:=c9.out.trans (bt.mono c9.out.size);clear hH hI hJ hK cg es fd c9 e6;by_cases cb:gd=0
 ·obtain⟨er,mc,kT,-⟩:=cl.at_;unfold maxLen at kT;rcases d2 with⟨bz,s,-⟩|⟨-,-,s,-⟩|⟨bz,h3,h5,kR,-,d6⟩
  ·exact absurd (s.symm.trans cb) bz
  ·rw [cb]at s;exact absurd s (by decide)
  subst cb;have g9:gb=0:=bz;rw [bz]at dt;have g1:=KnA.of_check dt.out.symm;cases kR with
  |ok _ _ B=>
  have ma:n<=2000:=by rw [er,d6,fj];exact B.f.small
  have hl:=λK=>yo n (by omega) K
  have ld:=cl;have kM:=aS;obtain⟨hD,hE,hF,hG⟩:=aS.cells;have ep:=λK=>Blk.new K 297 (madeCells #[.slice none 0 0] n)
  generalize hk:madeCells #[.slice none 0 0] n=C at hl ep;obtain⟨kx,dn,H,cs,h6,fg,fw,cu,lG,kc,fz,iD⟩:=gx cl aS er b4 bt d6 B g1 bz hk ep g9;clear cl aS er b4 bt d6 B g1 bz hk ep g9;clear ld kM
  go_wp2_with fail
  have eR:w2.drew.cell? ⟨w.heap.size,0,none⟩=some (.slice A1 T c1)/\w2.drew.cell? ⟨w.heap.size,1,none⟩=some (.slice A2 N c2)/\w2.drew.cell? ⟨w.heap.size,2,none⟩=some (.slice A3 R c3)/\w2.drew.cell? ⟨w.heap.size,3,none⟩=some (.int .i64 st):=⟨hD,hE,hF,hG⟩;clear hD hE hF hG;have bo:=ab eR;clear eR;refine cQ (λK=>K.cell? ⟨w.heap.size,0,none⟩=some (.slice A1 T c1)/\K.cell? ⟨w.heap.size,1,none⟩=some (.slice A2 N c2)/\K.cell? ⟨w.heap.size,2,none⟩=some (.slice A3 R c3)/\K.cell? ⟨w.heap.size,3,none⟩=some (.int .i64 st)) 4 6 (by kernel_rfl) (by kernel_rfl) bo.out ?_;simp only [Zj,Zk,Za,Zb]
  iterate 4
   refine bI ?_ (by rfl) (λwS hwS=> ?_) ?_
   rotate_left
   ·(try dsimp only at hwS)
    go_simp
    all_goals with_reducible rfl
   simp only [Act.put,Zg,Zi,Zh]
  refine bU ?_;refine ay ?_;have bu:Below w2.heap.size w2 (w2.drew.alloc (.cells C 297)):=((Below.refl _ _).drew).alloc (Zl _) _;have eZ:(w2.drew.alloc (.cells C 297)).cell? ⟨w.heap.size,0,none⟩=some (.slice A1 T c1)/\(w2.drew.alloc (.cells C 297)).cell? ⟨w.heap.size,1,none⟩=some (.slice A2 N c2)/\(w2.drew.alloc (.cells C 297)).cell? ⟨w.heap.size,2,none⟩=some (.slice A3 R c3)/\(w2.drew.alloc (.cells C 297)).cell? ⟨w.heap.size,3,none⟩=some (.int .i64 st):=⟨ae bu bo.out.1,ae bu bo.out.2.1,ae bu bo.out.2.2.1,ae bu bo.out.2.2.2⟩;have hu:Blk (w2.drew.alloc (.cells C 297)) w2.heap.size 297 C:=fz.out w2.drew;obtain⟨c8,h7,kl⟩:=aK eZ bu hu;clear eZ bu hu
  go_wp2_with fail
  refine⟨c8.out,ay ?_⟩
  go_wp2_with fail
  refine⟨c8.out,cX ?_⟩
  go_wp2_with fail
  refine NoPanic.normal ?_;have d4:Below w2.heap.size w2 ((w2.alloc (.cells C 297)).alloc (.cells #[.slice A1 T c1,.slice A2 N c2,.slice A3 R c3,.int .i64 st,.slice bi n L,.slice none 0 0,.slice none 0 0,.slice none 0 0,.slice none 0 0,.slice none 0 0,.slice none 0 0,.slice none 0 0,.slice (some ⟨w2.heap.size,0,none⟩) n n] 256)).drew:=(((Below.refl _ _).alloc (Zl _) _).alloc (by simp) _).drew;have ev:Blk ((w2.alloc (.cells C 297)).alloc (.cells #[.slice A1 T c1,.slice A2 N c2,.slice A3 R c3,.int .i64 st,.slice bi n L,.slice none 0 0,.slice none 0 0,.slice none 0 0,.slice none 0 0,.slice none 0 0,.slice none 0 0,.slice none 0 0,.slice (some ⟨w2.heap.size,0,none⟩) n n] 256)).drew w2.heap.size 297 C:=((Blk.new w2 _ C).alloc _).drew;have ht:Blk ((w2.alloc (.cells C 297)).alloc (.cells #[.slice A1 T c1,.slice A2 N c2,.slice A3 R c3,.int .i64 st,.slice bi n L,.slice none 0 0,.slice none 0 0,.slice none 0 0,.slice none 0 0,.slice none 0 0,.slice none 0 0,.slice none 0 0,.slice (some ⟨w2.heap.size,0,none⟩) n n] 256)).drew (w2.heap.size+1) 256 #[.slice A1 T c1,.slice A2 N c2,.slice A3 R c3,.int .i64 st,.slice bi n L,.slice none 0 0,.slice none 0 0,.slice none 0 0,.slice none 0 0,.slice none 0 0,.slice none 0 0,.slice none 0 0,.slice (some ⟨w2.heap.size,0,none⟩) n n]:=by
   have:=Blk.new (w2.alloc (.cells C 297)) 256 #[.slice A1 T c1,.slice A2 N c2,.slice A3 R c3,.int .i64 st,.slice bi n L,.slice none 0 0,.slice none 0 0,.slice none 0 0,.slice none 0 0,.slice none 0 0,.slice none 0 0,.slice none 0 0,.slice (some ⟨w2.heap.size,0,none⟩) n n];rw [World.size_alloc]at this;exact this.drew
  generalize ((w2.alloc (.cells C 297)).alloc (.cells #[.slice A1 T c1,.slice A2 N c2,.slice A3 R c3,.int .i64 st,.slice bi n L,.slice none 0 0,.slice none 0 0,.slice none 0 0,.slice none 0 0,.slice none 0 0,.slice none 0 0,.slice none 0 0,.slice (some ⟨w2.heap.size,0,none⟩) n n] 256)).drew=w4 at *;rw [<-kc.out]at ev;have eB:=kx.out;obtain⟨a1,ey,ed,hz⟩:=MK.start (M:=w2.heap.size+1) ix.out it.out iv.out H.out dn.out.gram dn.out.gram.lt (eB.mono (λb B=>B.2)) d4 (Zl _) ev (Nat.le_succ _) (by omega) ht;have a8:=xM ey rfl rfl dt.out.symm;generalize w2.heap.size+1=o at *;rw [ed]at a8;unfold aq at a8;clear c8 h7 kl bo dn ev ht fz hl;obtain⟨ks,ft,kv,bS,e3⟩:=aX ey ed hz a8 d4;clear ey ed hz a8 d4
  go_wp2_with fail
  refine bS.out.mono ?_;rintro e w5 ⟨rfl,c4,p,cU,cH,a3,el⟩;have cH:c4.M=o:=cH.trans ft.out;have co:StL (λi=>i≠1) w4 a1.ow w5 c4.ow:=a3.mono (λi ai=>by unfold JQ at ai;omega);have cU:MK w5 c4 (dB G st d p 0) (y0 (aR d 0)):=cU;have cG:LkD (dB G st d p d.length):=by rw [fg.out];exact LkD.mk' fw.out cu.out (by have:=el;exact this)
  have he: ∀wr (j:LQ),StL (λi=>i≠1) w4 a1.ow wr j.ow->Below w2.heap.size w2 wr:=λwr j li=>e3.out.trans (li.t.below (λk cO _ e=>e (kv.out k cO)) e3.out.size)
  have hM:=eB.mono (F':=λb=>b<w2.heap.size) (λb B=>B.2);have ec: ∀(a:Nat) e,d[a]? =some e->e.1.length<=2709:=λa e s=>iG cu.out (cG.hA.strict a e s) (λx bC=>(cG.hA.kern a e x s bC).1)
  have f9: ∀a,aR d a<=a * 2709:=kQ (λe s=>by
   obtain⟨a,hi,rfl⟩:=List.getElem_of_mem s
   exact ec a _ (List.getElem?_eq_getElem hi))
  clear a3 eB ks ft bS;obtain⟨fT,fv,b3,bq,cw,f2,lR,fs,e5⟩:=dQ cU cH co cG he hM el ec f9;clear cU cH co cG he hM el ec f9
  go_wp2_with fail
  go_loopw [32] (λt wr=> ∃(a:Nat) (j:LQ),a<=n/\t= .int .i64 (a:Int)/\MK wr j (dB G st d p a) (y0 (aR d a))/\j.M=o/\StL (λi=>i≠1) w4 a1.ow wr j.ow) (λt _=>n - (intOf t).toNat)
  case atStart=>exact⟨0,c4,Zq _,rfl,fT.out,fv.out,b3.out⟩
  case round=>
   clear fT fv b3;obtain⟨a,j,hi,rfl,mk,E,sT⟩:=hrel;by_cases bB:a<n
   ·have cd:(a:Int)<(n:Int):=(by omega);obtain⟨e,s⟩: ∃e,d[a]? =some e:=⟨_,List.getElem?_eq_getElem (by rw [<-H.out];exact bB)⟩;obtain⟨be,a9⟩: ∃x,x=j.Ab:=⟨_,rfl⟩;obtain⟨I,aT⟩: ∃x,x=j.cb:=⟨_,rfl⟩;obtain⟨cr,gA⟩: ∃x,x=j.Aa:=⟨_,rfl⟩;obtain⟨a7,ee⟩: ∃x,x=j.ca:=⟨_,rfl⟩;obtain⟨y,ak⟩: ∃x,x=aR d a:=⟨_,rfl⟩;have a2:=mk.cells.2.2.2.2.2.2.2.2.2.1;have bc:wr.cell? ⟨j.M,10,none⟩=some (.slice j.Aa (aR d a) j.ca):=mk.cells.2.2.2.2.2.2.2.2.2.2.1;rw [E,lH,<-a9,<-aT]at a2;rw [E,<-gA,<-ee,<-ak]at bc;have kS:=mk.b.cap;have cM:aR d a<=j.ca/\j.ca<=9223372036854775807:=mk.a.row.cap;rw [lH,<-aT]at kS;rw [<-ak,<-ee]at cM;have mb:y<=10000000:=by
     have X:=e5.out a;have z:a * 2709<=2000 * 2709:=Zo _ (by omega);omega
    have eQ:wr.drew.cell? ⟨o,9,none⟩=some (.slice be a I)/\wr.drew.cell? ⟨o,10,none⟩=some (.slice cr y a7):=⟨a2,bc⟩;have b6:Below wr.heap.size wr (wr.drew.alloc (.cells #[.int .i64 (y:Int)] 3)):=((Below.refl _ _).drew).alloc (Zl _) _;have eX:(wr.drew.alloc (.cells #[.int .i64 (y:Int)] 3)).cell? ⟨o,9,none⟩=some (.slice be a I)/\(wr.drew.alloc (.cells #[.int .i64 (y:Int)] 3)).cell? ⟨o,10,none⟩=some (.slice cr y a7):=⟨ae b6 a2,ae b6 bc⟩;have cm:Rd (wr.drew.alloc (.cells #[.int .i64 (y:Int)] 3)) (λx=>x=wr.heap.size) (.slice (some ⟨wr.heap.size,0,none⟩) 1 1) 1 [.int .i64 (y:Int)]:=Rd.one' (w:=wr.drew) (e:=3) [.int .i64 (y:Int)] 1 rfl;have c0:=mk.below b6 2;obtain⟨bO,cf⟩: ∃x:LQ,x={j with ow:=ext wr j.ow 2}:=⟨_,rfl⟩;have g4:bO.M=o:=(by rw [cf];exact E);have cE:bO.Ab=be/\bO.cb=I:=(by rw [cf,a9,aT];exact⟨rfl,rfl⟩);have co:StL (λi=>i≠1) w4 a1.ow (wr.drew.alloc (.cells #[.int .i64 (y:Int)] 3)) bO.ow:=(by rw [cf];exact sT.trans (StL.new _ b6 _ 2));rw [<-cf]at c0;have dp:=c0.b;rw [cE.1,cE.2,lH]at dp;clear a2 bc a9 aT gA ee mk E sT b6 cf;obtain⟨e0,bp,b2,cy,bY,b3,d1,P,dO,h8⟩:=fp eQ eX cm c0 g4 co dp s ak cE;clear eQ eX cm c0 g4 co dp s ak cE
    go_wp2_with fail
    refine cQ (λK=>K.cell? ⟨o,9,none⟩=some (.slice be a I)/\K.cell? ⟨o,10,none⟩=some (.slice cr y a7)) 10 12 (by kernel_rfl) (by kernel_rfl) e0.out ?_;simp only [Zj,Zk,Za,Zb]
    iterate 10
     refine bI ?_ (by rfl) (λwS hwS=> ?_) ?_
     rotate_left
     ·(try dsimp only at hwS)
      go_simp
      all_goals with_reducible rfl
     simp only [Act.put,Zg,Zi,Zh]
    refine bU ?_;generalize hs:wr.drew.alloc (.cells #[.int .i64 (y:Int)] 3)=lo at *;refine ay ?_
    go_wp2_with fail
    try rw [hs]
    refine⟨bp.out,ay ?_⟩
    go_wp2_with (at_builtin;refine aJ _ rfl (.tmp 39) (.tmp 45) _ rfl elemInt 0 (.slice be a I) a _ rfl d1.out.own _ _ [.int .i64 (y:Int)] 1 rfl rfl b2.out (by intro ln et;obtain rfl:=Zf.1 et;rfl) (by unfold maxLen;omega) (by omega) (Zq _) ?_)
    intro eG ga w5 hC gr hn;obtain⟨c5,a3⟩:=d1.out.app hC gr hn;have c5:Row w5 (ext lo bO.ow 7) 7 3 1 eG (a+1) ga (((dB G st d p a).ba++[((aR d a:Nat):Int)]).map (Value.int .i64)):=by
     rw [Zd,<-dO.out];exact c5
    obtain⟨bG,O,bx,bd⟩:=cy.out.putB (n':=a+1) (by rw [Zc,lH];rfl) c5 a3;rw [bY.out]at O bx bd;rw [ES]at O;have cT:bO.ow o=0:=(by have:=cy.out.tm;rwa [bY.out]at this);have d5:=cy.out.box.touch a3.t (by rw [bY.out,cT];omega);rw [bY.out]at d5;have lx:=d5.frozen 9;have c7:w5.cell? ⟨o,9,none⟩=some (.slice be a I)/\w5.cell? ⟨o,10,none⟩=some (.slice cr y a7):=⟨(World.cell?_of_block (a:=⟨o,9,none⟩) (a3.t.block o (World.block_lt_of_cell? _ _ bp.out.1) (by rw [cT];omega))).trans bp.out.1,(World.cell?_of_block (a:=⟨o,10,none⟩) (a3.t.block o (World.block_lt_of_cell? _ _ bp.out.1) (by rw [cT];omega))).trans bp.out.2⟩;have lj:=c7.1;have bP:=b3.out.trans (bd.mono (J':=λi=>i≠1) (λi ai=>by omega));clear hC gr hn c5 a3 d5 cT bd bp e0 cy bY b3 d1 b2 h8 hs;obtain⟨b1,bW,bs,e1⟩:=aA O bx bP c7;clear O bx bP c7;refine⟨e1.out,cX ?_⟩;clear e1
    go_wp2_with fail
    refine NoPanic.normal ?_;clear lj lx;generalize w5.setCell ⟨o,9,none⟩ (.slice eG (a+1) ga)=w6 at *;have b5:=cw.out w6 bG bs.out;obtain⟨-,-,-,a0⟩:=f2.out.at_;obtain⟨kE,k9,rfl,-,ca⟩:=a0 (by omega);obtain⟨c6,cp,u1,-,s1,-⟩:=ca a e P.out;have u1:=ae b5 u1;obtain⟨al,r,ap,rfl,-⟩:=id s1;obtain⟨ba,k5,ej,-⟩:=aH.at_ s1;unfold maxLen at ej;have k4:r<=2709:=(by rw [ba];exact fs.out a e P.out);clear b5 a0 ca s1;have b0:=ab ba;clear ba
    go_wp2_with fail
    go_loopw [55] (λt wr'=> ∃(i:Nat) (D:LQ),i<=r/\t= .int .i64 (i:Int)/\MK wr' D (dB G st d p (a+1)) (y0 (aR d a+i))/\D.M=o/\StL (λi=>i≠1) w4 a1.ow wr' D.ow) (λt _=>r - (intOf t).toNat)
    case atStart=>exact⟨0,bG,Zq _,rfl,b1.out,bW.out,bs.out⟩
    case round=>
     clear b1 bW bs u1;obtain⟨i,D,ai,rfl,mk,M,st⟩:=hrel;by_cases bA:i<r
     ·have k0:(i:Int)<(r:Int):=(by omega);have cA:=sR mk (cu.out.t) (by show aR d a+i<=100000000;rw [<-dO.out];omega);rw [M,DM]at cA;unfold aq at cA;clear mk;obtain⟨e8,cz,br⟩:=aK cA st M;clear cA st M
      go_wp2_with fail
      refine e8.out.mono ?_;rintro e' w7 ⟨rfl,ck,cj,Y,cn⟩;have Y:=Y.trans br.out;have hN:=cz.out.trans (cn.mono (J':=λi=>i≠1) (λi ai=>by omega));clear cn e8 cz;obtain⟨dS,ds,kz⟩:=aK cj Y hN;clear cj Y hN
      go_wp2_with fail
      go_roundw
      case rel=>exact⟨i+1,ck,by omega,by go_num,dS.out,ds.out,kz.out⟩
      case measure=>simp [intOf];omega
     ·have k0: ¬(i:Int)<(r:Int):=(by omega);have hg:aR d a+i=aR d (a+1):=(by rw [ij P.out,<-b0.out];omega);rw [hg]at mk;clear hg;obtain⟨Q,br,cz⟩:=aK mk M st;clear mk M st
      go_wp2_with fail
      go_roundw
      case rel=>exact⟨a+1,D,by omega,by go_num,Q.out,br.out,cz.out⟩
      case measure=>simp [intOf];omega
   ·have cd: ¬(a:Int)<(n:Int):=(by omega);have hf:a=d.length:=(by have:=H.out;omega);rw [hf]at mk;have cP:1<=aR d d.length:=by
     obtain⟨lm,cC⟩:=bq.out.hA.first;have cC:d[0]? =some ([((G.rules.length:Int),0)],lm):=cC;have X:aR d 1=aR d 0+1:=ij cC;have z:=(List.getElem?_eq_some_iff.1 cC).1;have kP:=qo d 1 (d.length - 1);rw [show 1+(d.length - 1)=d.length by omega]at kP;omega
    obtain⟨l2,gc,a7⟩:=mk.a.at_ (i:=0) cP;have bc:wr.cell? ⟨j.M,10,none⟩=some (.slice j.Aa (aR d d.length) j.ca):=mk.cells.2.2.2.2.2.2.2.2.2.2.1;have cM:aR d d.length<=j.ca/\j.ca<=9223372036854775807:=mk.a.row.cap;obtain⟨y,ak⟩: ∃x,x=aR d d.length:=⟨_,rfl⟩;obtain⟨l0,eg⟩: ∃x,x=j.ca:=⟨_,rfl⟩;rw [E,gc,<-ak,<-eg]at bc;rw [<-ak,<-eg]at cM;have l4:0<y:=(by omega);have l5:(0:Int)<(y:Int):=(by omega);have a8:=j1 (mk.a.set 0 cP) 0;unfold aq at a7;clear hf gc eg;obtain⟨Q,a5,U,bS,fF,dO⟩:=aM mk E sT a8 cP ak;clear mk E sT a8 cP ak
    go_wp2_with fail
    with_reducible refine bS.out.mono ?_
    rintro e' w6 ⟨rfl,hr,hU⟩;obtain⟨gh,bd⟩:=Q.out.a.put fF.out hr hU;have O:=Q.out.putF gh bd;have O:MK w6 {j with ow:=ext wr j.ow 8} (dB G st d p d.length) {y0 (aR d d.length)with F:=bv (y0 (aR d d.length)).F 0 (cJ (G.terms.length+1) aj 0)}:=O;rw [F6]at O;have bP:=U.out.trans (bd.mono (J':=λi=>i≠1) (λi ai=>by omega));obtain⟨bG,cR⟩: ∃x:LQ,x={j with ow:=ext wr j.ow 8}:=⟨_,rfl⟩;have bx:bG.M=o:=(by rw [cR];exact a5.out);rw [show ext wr j.ow 8=bG.ow from by rw [cR]]at bP;rw [<-cR]at O;have gW:ItI (dB G st d p d.length) (dB G st d p d.length).cm (yF (aR d d.length)):=Fz fF.out;clear gh bd hr hU bc a7 bS Q a5 U cR cM;obtain⟨b1,bW,bs,fh⟩:=aA O bx bP gW;clear O bx bP gW;have l6:(dB G st d p d.length).cm=p:=rfl
    go_wp2_with fail
    go_loopw [70] (λt wr'=> ∃(a:Nat) (j:LQ) (a4:Dy),a<=n/\t= .int .i64 (a:Int)/\MK wr' j (dB G st d p d.length) a4/\j.M=o/\StL (λi=>i≠1) w4 a1.ow wr' j.ow/\ItI (dB G st d p d.length) p a4/\a4.ed.length<=aR d a * 40000/\ ∀u l x,l<a->KP d u l x->iQ G st d p a4.ed a4.fi u l x) (λt _=>n - (intOf t).toNat)
    case atStart=>exact⟨0,bG,_,Zq _,rfl,b1.out,bW.out,bs.out,fh.out,Zq _,λu l x h=>absurd h (Zp _)⟩
    case round=>
     clear b1 bW bs fh;obtain⟨a,j,a4,hi,rfl,mk,E,sT,bw,en,ad⟩:=hrel;by_cases bB:a<n
     ·have cd:(a:Int)<(n:Int):=(by omega);obtain⟨e,s⟩: ∃e,d[a]? =some e:=⟨_,List.getElem?_eq_getElem (by rw [<-H.out];exact bB)⟩;have b5:=cw.out wr j sT;obtain⟨-,-,-,a0⟩:=f2.out.at_;obtain⟨kE,k9,rfl,-,ca⟩:=a0 (by omega);obtain⟨c6,cp,u1,-,s1,-⟩:=ca a e s;have u1:=ae b5 u1;obtain⟨al,r,ap,rfl,-⟩:=id s1;obtain⟨ba,k5,ej,-⟩:=aH.at_ s1;unfold maxLen at ej;have k4:r<=2709:=(by rw [ba];exact fs.out a e s);clear b5 a0 ca;obtain⟨b0,Q,a5,U,fi,fx,cv,P,ky⟩:=dQ ba mk E sT bw en ad s s1;clear ba mk E sT bw en ad s s1
      go_wp2_with fail
      go_loopw [79] (λt wr'=> ∃(i:Nat) (D:LQ) (J:Dy),i<=r/\t= .int .i64 (i:Int)/\MK wr' D (dB G st d p d.length) J/\D.M=o/\StL (λi=>i≠1) w4 a1.ow wr' D.ow/\ItI (dB G st d p d.length) p J/\J.ed.length<=(aR d a+i) * 40000/\(∀u l x,l<a->KP d u l x->iQ G st d p J.ed J.fi u l x)/\ ∀(m:Nat) x,m<i->e.1[m]? =some x->iQ G st d p J.ed J.fi (aR d a+m) a x) (λt _=>r - (intOf t).toNat)
      case atStart=>exact⟨0,j,a4,Zq _,rfl,Q.out,a5.out,U.out,fi.out,fx.out,cv.out,λm x h=>absurd h (Zp _)⟩
      case round=>
       clear Q a5 U fi fx cv u1;obtain⟨i,D,J,ai,rfl,mk,M,sT,b9,bA,ad,cN⟩:=hrel;by_cases k1:i<r
       ·have k2:(i:Int)<(r:Int):=(by omega);have hO:=ky.out.below (cw.out wr D sT) (λb B=>B);obtain⟨-,-,-,a0⟩:=aH.at_ hO;obtain⟨a6,mm,rfl,-,ha⟩:=a0 (by omega);obtain⟨x,bC⟩: ∃x,e.1[i]? =some x:=⟨_,List.getElem?_eq_getElem (by rw [<-b0.out];exact k1)⟩;obtain⟨hZ,h0⟩:=ha i x bC;obtain⟨bb,ce⟩: ∃x,x=aR d a:=⟨_,rfl⟩;have mf:bb<=5418000:=by
         have X:=e5.out a;have z:a * 2709<=2000 * 2709:=Zo _ (by omega);omega
        have an:Below wr.heap.size wr (wr.alloc (.cells #[.int .i64 x.1,.int .i64 x.2] 226)).drew:=((Below.refl _ _).alloc (Zl _) _).drew;have ew:Blk (wr.alloc (.cells #[.int .i64 x.1,.int .i64 x.2] 226)).drew wr.heap.size 226 #[.int .i64 x.1,.int .i64 x.2]:=(Blk.new _ _ _).drew;have bE:=mk.below an 2;obtain⟨l3,a9,hV,-,-⟩:=bE.b.at_ (j:=a) (u:= .int .i64 ((aR d a:Nat):Int)) (by rw [List.getElem?_map,Bf (by have:=H.out;omega)];rfl);have a2:=bE.cells.2.2.2.2.2.2.2.2.2.1;have g8:=bE.b.cap;obtain⟨eA,cS⟩: ∃x:LQ,x={D with ow:=ext wr D.ow 2}:=⟨_,rfl⟩;have cI:eA.M=o:=(by rw [cS];exact M);have hP:StL (λi=>i≠1) w4 a1.ow (wr.alloc (.cells #[.int .i64 x.1,.int .i64 x.2] 226)).drew eA.ow:=(by rw [cS];exact sT.trans (StL.new _ an _ 2));rw [<-cS]at bE a2 g8 a9;obtain⟨I,aT⟩: ∃x,x=eA.cb:=⟨_,rfl⟩;rw [cI,a9,lH,<-aT,<-H.out]at a2;rw [lH,<-aT,<-H.out]at g8;have eb:KP d (bb+i) a x:=⟨e,i,P.out,bC,by rw [ce]⟩;have b7:=Cg bE bq.out b9 (by rw [<-ce]at bA;have X:(bb+i) * 40000<=(5418000+2709) * 40000:=Zo _ (by omega);omega) eb;rw [cI,show(((bb+i:Nat):Int))=(bb:Int)+(i:Int)from by omega]at b7;rw [<-ce]at hV;have gf:=(ew.cell 0).trans rfl;have gg:=(ew.cell 1).trans rfl;have k6:IntKind.i64.wrap ((bb:Int)+(i:Int))=(bb:Int)+(i:Int):=(by rw [IntKind.wrap_i64];omega);unfold aq at b7;obtain⟨ls,lr⟩:=x;simp only at hZ h0 gf gg b7;generalize k7:(wr.alloc (.cells #[.int .i64 ls,.int .i64 lr] 226)).drew=w8 at *;clear hO a0 ha an ew mk cS sT a9 aT bE;obtain⟨kk,kf,ih,f3,e9,kb,cv,iN,br,fn,lE⟩:=fa bC ce cI hP b7 bA ad cN M b9 eb;clear bC ce cI hP b7 bA ad cN M b9 eb
        go_wp2_with fail
        refine bX 12 (by kernel_rfl) (by kernel_rfl) ?_;simp only [Zj,Zk,Za,Zb]
        repeat still_step
        refine wpStill_nil ?_
        go_wp2_with fail
        refine e9.out.mono ?_;rintro e' w9 ⟨rfl,lb,bR,hy,cK,hS,g0,b8,gO,kX⟩;have cK:=cK.trans ih.out;have hQ:=f3.out.trans (hS.mono (J':=λi=>i≠1) (λi ai=>by unfold JI at ai;omega));have hd: ∀u l x,l<a->KP d u l x->iQ G st d p bR.ed bR.fi u l x:=λu l x X z=>(cv.out u l x X z).mono b8.ed b8.fi
        have hc: ∀(m:Nat) x,m<i+1->e.1[m]? =some x->iQ G st d p bR.ed bR.fi (aR d a+m) a x:=λm x X z=>by
         by_cases kK:m=i
         ·subst kK;rw [kk.out]at z;injection z with z
          rw [<-z,<-kf.out];exact gO
         ·exact(iN.out m x (by omega) z).mono b8.ed b8.fi
        have hh:bR.ed.length<=(aR d a+(i+1)) * 40000:=(by have:=kb.out;have l1:(aR d a+(i+1)) * 40000=(aR d a+i) * 40000+40000:=(by rw [<-Nat.add_assoc,Nat.add_mul _ 1,Nat.one_mul]);omega);clear a2 hV gf gg hZ h0 u1 k7 hS gO kX b8 e9 f3 k6;obtain⟨kt,im,kA,h9,i0,iS,j2⟩:=de hy cK hQ g0 hd hc hh;clear hy cK hQ g0 hd hc hh
        go_wp2_with fail
        go_roundw
        case rel=>exact⟨i+1,lb,bR,by omega,by go_num,kt.out,im.out,kA.out,h9.out,j2.out,i0.out,iS.out⟩
        case measure=>simp [intOf];omega
       ·have k2: ¬(i:Int)<(r:Int):=(by omega);have ho:=ij P.out;have hj:J.ed.length<=aR d (a+1) * 40000:=(by rw [ho,<-b0.out,show r=i by omega];exact bA);have hb: ∀u l x,l<a+1->KP d u l x->iQ G st d p J.ed J.fi u l x:=λu l x X z=>by
         by_cases kG:l=a
         ·subst kG;obtain⟨e',m,W,aS,rfl⟩:=z;rw [P.out]at W;injection W with W
          subst W;exact cN m x (by have:=(List.getElem?_eq_some_iff.1 aS).1;have:=b0.out;omega) aS
         ·exact ad u l x (by omega) z
        clear bA ad cN ho;obtain⟨Q,br,U,fn,ka,iF⟩:=aM mk M sT b9 hj hb;clear mk M sT b9 hj hb
        go_wp2_with fail
        go_roundw
        case rel=>exact⟨a+1,D,J,by omega,by go_num,Q.out,br.out,U.out,fn.out,ka.out,iF.out⟩
        case measure=>simp [intOf];omega
     ·have cd: ¬(a:Int)<(n:Int):=(by omega);have gF:En (dB G st d p d.length) a4:=⟨bw,λu l x cO=>ad u l x (by obtain⟨e,m,X,-⟩:=cO;have z:l<d.length:=(List.getElem?_eq_some_iff.1 X).1;have:=H.out;omega) cO⟩;have cB:=yp mk cu.out.t bw.edv (λu lk md mg=>by rw [bw.F];unfold F00;rw [show decide (lk=0)=false from decide_eq_false (by omega)];simp);rw [E]at cB;unfold aq at cB;clear bw ad en mk;obtain⟨dr,fc,U,a5⟩:=aA gF cB sT E;clear gF cB sT E
      go_wp2_with fail
      refine fc.out.mono ?_;rintro e' w7 ⟨rfl,lA,⟨ck,cj,Y,cn⟩,hR⟩;have Y:=Y.trans a5.out;have eE:=U.out.trans (cn.mono (J':=λi=>i≠1) (λi ai=>by omega));have f8:=cw.out w7 ck eE;obtain⟨bl,gB⟩: ∃x,x=w7.heap.size:=⟨_,rfl⟩;clear cn fc U;obtain⟨dS,ds,lT,kB,dd,ct⟩:=aM cj Y eE hR f8 gB;clear cj Y eE hR f8 gB
      go_wp2_with fail
      go_loopw [11,103] (λla t wr'=> ∃(a:Nat) (A:Option Addr) (m c:Nat),a<=n/\t= .int .i64 (a:Int)/\la= .slice A m c/\nK bl wr' A m c ((bN G st d).take a)/\Below bl w7 wr') (λ_ t _=>n - (intOf t).toNat)
      case atStart=>exact⟨0,none,0,0,Zq _,rfl,rfl,by rw [Zk];exact nK.nil _ _,by rw [ct.out];exact Below.refl _ _⟩
      case round=>
       obtain⟨a,A,m,c,hi,rfl,rfl,ci,le⟩:=hrel;have ch:Below w7.heap.size w7 wr:=(by rw [<-ct.out];exact le);by_cases bB:a<n
       ·have cd:(a:Int)<(n:Int):=(by omega);obtain⟨e,s⟩: ∃e,d[a]? =some e:=⟨_,List.getElem?_eq_getElem (by rw [<-H.out];exact bB)⟩;have L:=Af (dS.out.below ch 2) bq.out dr.out.it.fi (dr.out.it.na_le bq.out.hA bq.out.hK) (i:=a) (by show a<d.length;rw [<-H.out];exact bB);have hp:({ck with ow:=ext w7 ck.ow 2}:LQ).M=o:=ds.out;rw [hp]at L;unfold aq at L;have gM:bl<=wr.heap.size:=(by rw [ct.out];exact ch.size);clear ch hp;obtain⟨cx,fL,fb,P⟩:=aA ci le L s;clear ci le L s
        go_wp2_with fail
        refine fb.out.mono ?_;rintro e' w8 ⟨al,r,ap,h4,rfl,a6,hL,hx⟩;have g2:=zx.is bq.out dr.out kB.out P.out hx;have em:=kU (G:=G) (st:=st) P.out;have g3:h4=j9 G st d a e:=g2;rw [<-g3]at em;obtain⟨Z,c6,cp,h1⟩:=cx.out.ex;have k3:m=a:=(by rw [cx.out.hn,List.length_take,jv,<-H.out];omega);have an:Below w8.heap.size w8 (w8.alloc (.cells #[.slice al r ap] 117)):=(Below.refl _ _).alloc (Zl _) _;have cm:Rd (w8.alloc (.cells #[.slice al r ap] 117)) (λx=>x=w8.heap.size) (.slice (some ⟨w8.heap.size,0,none⟩) 1 1) 1 [.slice al r ap]:=Rd.one' (w:=w8) (e:=117) [.slice al r ap] 1 rfl;have hA:=ah cp (a6.trans (an.mono a6.size));have gE:bl<=(w8.alloc (.cells #[.slice al r ap] 117)).heap.size:=Zm gM (a6.trans (an.mono a6.size)).size;have l8:m<=2000:=(by omega);clear g2 g3 hx k3;obtain⟨e4,f1,j0,f4,f5,f6,e2,b2,f0⟩:=dQ a6 hL em c6 cp h1 an cm hA;clear a6 hL em c6 cp h1 an cm hA
        go_wp2_with (at_builtin;refine aJ _ rfl (.tmp 106) (.tmp 110) _ rfl elemLooks bl (.slice A m c) m _ rfl f0.out _ _ [.slice al r ap] 1 rfl rfl b2.out (by intro ln et;obtain rfl:=Zf.1 et;rfl) (by unfold maxLen;omega) (by omega) gE ?_)
        intro h2 kF w9 hB gk hm;obtain⟨ex,hv⟩:=nK.push cx.out.hn f4.out f5.out f6.out gM f1.out e4.out e2.out hB gk (by rw [World.size_alloc];exact hm);rw [j7 j0.out]at ex;have hw:=fL.out.trans hv;clear hB gk hm hv f4 f5 f6 f1 e4 e2 f0 b2 gE cx fL fb;obtain⟨kr,kn⟩:=av ex hw;clear ex hw
        go_wp2_with fail
        go_roundw
        case rel=>exact⟨a+1,h2,m+1,kF,by omega,by go_num,rfl,kr.out,kn.out⟩
        case measure=>simp [intOf];omega
       ·have cd: ¬(a:Int)<(n:Int):=(by omega);rw [List.take_of_length_le (by rw [jv,<-H.out];omega)]at ci;have hq:=ci.rd;have cc:Below w.heap.size w wr:=cs.out.trans ((dd.out.trans (ch.mono dd.out.size)).mono cs.out.size);have k8:w.heap.size<=bl:=(by rw [ct.out];exact Zm cs.out.size dd.out.size);have g7:fA G st gb 0 d:= .inr (.inr ⟨iD.out,h3,h5,.ok _ _ fw.out,rfl,fg.out⟩);clear ci le ch;obtain⟨kg,dF,iy⟩:=aK hq cc g7;clear hq cc g7
        go_wp2_with fail
        go_ret2
        exact⟨dF.out,A,m,c,0,d,rfl,iy.out,kg.out.mono (λb B=>⟨Zm k8 B.1,B.2⟩)⟩
 ·have l7:(gd !=0)=true:=by simpa using cb
  have cc:=EH b4 d2 cb;clear cl d2 aS;obtain⟨dF,cs,h6⟩:=aK cc b4 bt;clear cc b4 bt
  go_wp2_with fail
  go_ret2
  exact dF.out
end Go.Proofs.YthlbjgabhpdbfaaGreat
namespace Go.Proofs.YthlbjgabhpdbfaaGreat
open Go.Proofs.Tryz
open List renaming drop_succ_cons->Za,drop_zero->Zb,length_append->Zc,map_append->Zd,mem_range->Ze,mem_singleton->Zf,setIfInBounds_toArray->Zg,set_cons_succ->Zh,set_cons_zero->Zi,take_succ_cons->Zj,take_zero->Zk
open Nat renaming le_refl->Zl,le_trans->Zm,lt_of_lt_of_le->Zn,mul_le_mul_right->Zo,not_lt_zero->Zp,zero_le->Zq
open Go.RowKit
abbrev fP:aP:=stD nQ zz
theorem CO: ∀x∈kI bD 3,(aw bD 3 x).2=true->am bD (aw bD 3 x).1=true->dm bD 3 x=[]:=by decide+kernel
theorem CM {i:Nat} {x:It} {t:Nat} (h:LA bD 3 fP i x t):t=0:=by
 have p:=KnA.of_check tH;have s: ∀{i:Nat} {x:It} {j:Int} {t:Nat},LA bD 3 fP i x t->aw bD 3 x=(j,true)->am bD j=true->dm bD 3 x=[]:=fun{i x j t} h a l=>
  CO x (pB (Cj p h).1) (by rw [a]) (by rw [a];exact l)
 induction h with
 |start=>rfl
 |step _ _ _ _ _ _ _ _ d=>exact d
 |close i x j k t y r a l u o d=>
  rw [s r a l]at o;cases o
 |pass _ _ _ _ _ _ _ _ _ _ d=>exact d
theorem vv {i:Nat} {x:It} {s k:Int} (h:LA bD 3 fP i x 0) (a:aw bD 3 x=(s,true)) (j:am bD s=true) (d:k∈az bD s) (l:dm bD 3 x=[]):LA bD 3 fP i (k,0) 0:= .pass i x s k 0 h a j d (by rw [l];rfl)
theorem EV:LA bD 3 fP 2 (1,1) 0/\LA bD 3 fP 3 (2,1) 0/\LA bD 3 fP 4 (0,2) 0:=by
 have a:LA bD 3 fP 0 (2,0) 0:=LA.start;have d:aw bD 3 (2,0)=(3,true):=by decide+kernel
 have h:=vv (k:=0) a d (by decide+kernel) (by decide+kernel) (by decide+kernel);have i:=vv (k:=1) a d (by decide+kernel) (by decide+kernel) (by decide+kernel);have l:=LA.step 0 2 (1,0) 2 0 i (by decide+kernel) (by decide+kernel);have o:=LA.step 0 3 (2,0) 3 0 a d (by decide+kernel);have j:=LA.step 0 1 (0,0) 1 0 h (by decide+kernel) (by decide+kernel);have p:=LA.step 1 4 (0,1) 3 0 j (by decide+kernel) (by decide+kernel);exact⟨l,o,p⟩
theorem lN {i:Nat} {e:List It×List It} (p:Nat->Bool) (l:clC bD 3 e.1 4=clC bD 3 e.1 3) (t: ∀k:Nat,k<3->decide (((k:Int),lnI bD 3 k)∈clC bD 3 e.1 3)=p k) (o: ∀k:Nat,k<3->p k=true->LA bD 3 fP i ((k:Int),lnI bD 3 k) 0):
  j9 bD 3 fP i e=(List.range 3).filterMap λk:Nat=>if p k=true then some ((k:Int),[0])else none:=by
 unfold j9;refine oU λk s=> ?_
 have d:k<3:=Ze.1 s;have r:=(Bi l).2 ((k:Int),lnI bD 3 k);have j:toB (Cl bD 3 e.1 ((k:Int),lnI bD 3 k))=p k:=by
  rw [<-t k d];exact fl (ek.trans (r.symm.trans decide_eq_true_iff.symm))
 rw [j];cases u:p k with
 |false=>rfl
 |true=>
  have:(λa=>toB (LA bD 3 fP i ((k:Int),lnI bD 3 k) a))=λa=>decide (a=0):=funext λa=>fl (ek.trans ⟨λh=>decide_eq_true (CM h),λh=>by rw [of_decide_eq_true h];exact o k d u⟩)
  rw [this];rfl
theorem lX {P:Nat->Prop} (a:P 0) (d:P 1) (h:P 2): ∀k:Nat,k<3->P k:=λk i=>by
 rcases k with _|_|_|k
 ·exact a
 ·exact d
 ·exact h
 ·omega
theorem tF:bN bD 3 fP=[[],[],[(1,[0])],[(2,[0])],[(0,[0])]]:=by
 obtain⟨a,d,i⟩:=EV;have j:=lN (i:=0) (e:=([(2,0)],[(1,1),(2,2),(3,3)])) (λ_=>false) (by decide+kernel) (lX (by decide+kernel) (by decide+kernel) (by decide+kernel)) (λ_ _ h=>by cases h);have l:=lN (i:=1) (e:=([(0,1)],[(1,1),(2,2),(3,4)])) (λ_=>false) (by decide+kernel) (lX (by decide+kernel) (by decide+kernel) (by decide+kernel)) (λ_ _ h=>by cases h);have o:=lN (i:=2) (e:=([(1,1)],[])) (λk=>decide (k=1)) (by decide+kernel) (lX (by decide+kernel) (by decide+kernel) (by decide+kernel)) (lX (λh=>absurd h (by decide)) (λ_=>a) (λh=>absurd h (by decide)));have p:=lN (i:=3) (e:=([(2,1)],[])) (λk=>decide (k=2)) (by decide+kernel) (lX (by decide+kernel) (by decide+kernel) (by decide+kernel)) (lX (λh=>absurd h (by decide)) (λh=>absurd h (by decide)) (λ_=>d));have r:=lN (i:=4) (e:=([(0,2)],[])) (λk=>decide (k=0)) (by decide+kernel) (lX (by decide+kernel) (by decide+kernel) (by decide+kernel)) (lX (λ_=>i) (λh=>absurd h (by decide)) (λh=>absurd h (by decide)));have s:fP=[([(2,0)],[(1,1),(2,2),(3,3)]),([(0,1)],[(1,1),(2,2),(3,4)]),([(1,1)],[]),([(2,1)],[]),([(0,2)],[])]:=rfl;have hm: ∀g:Nat->(List It×List It)->List Lk,List.mapIdx g fP=[g 0 ([(2,0)],[(1,1),(2,2),(3,3)]),g 1 ([(0,1)],[(1,1),(2,2),(3,4)]),g 2 ([(1,1)],[]),g 3 ([(2,1)],[]),g 4 ([(0,2)],[])]:=λg=>rfl
 unfold bN;rw [hm,j,l,o,p,r];rfl
theorem eF.at_ {w:World} {F:Nat->Prop} {A:Option Addr} {n c:Nat} {LL:List (List Lk)} (h:eF w F (.slice A n c) LL):n=LL.length/\n<=c/\c<=maxLen/\(0<n-> ∃b j,A=some ⟨b,j,none⟩/\F b/\ ∀(i:Nat) d,LL[i]? =some d-> ∃A' a c',w.cell? ⟨b,j+i,none⟩=some (.slice A' a c')/\ff w F (.slice A' a c') d):=by
 obtain⟨Z,P,⟨A',a,c',J,y,z,Q,B⟩,C⟩:=h;injection J with s t u
 subst s t u;refine⟨by omega,y,z,λI=> ?_⟩;obtain⟨b,j,D,E,H⟩:=B I;refine⟨b,j,D,E,λi d o=> ?_⟩;have hi:=(List.getElem?_eq_some_iff.1 o).1;obtain⟨l,r⟩: ∃l,Z[i]? =some l:=⟨_,List.getElem?_eq_getElem (by omega)⟩;have p:=C i l d r o;obtain⟨K,L,⟨A',a,c',rfl,M⟩,O⟩:=id p;exact⟨A',a,c',H i _ r,p⟩
theorem ff.at_ {w:World} {F:Nat->Prop} {A:Option Addr} {n c:Nat} {L:List Lk} (h:ff w F (.slice A n c) L):n=L.length/\n<=c/\c<=maxLen/\(0<n-> ∃b d,A=some ⟨b,d,none⟩/\F b/\ ∀(i:Nat) x,L[i]? =some x-> ∃A' a c',w.cell? ⟨b,d+i * 2,none⟩=some (.int .i64 x.1)/\w.cell? ⟨b,d+i * 2+1,none⟩=some (.slice A' a c')/\RdI w F (.slice A' a c') x.2):=by
 obtain⟨Z,D,⟨A',a,c',P,E,H,o,I⟩,J⟩:=h;injection P with u y z
 subst u y z;unfold j4 at o;rw [jJ (k:=2) (λ_=>rfl),qg D.symm]at o;refine⟨by omega,E,H,λO=> ?_⟩;obtain⟨b,d,K,M,p⟩:=I O;refine⟨b,d,K,M,λi x l=> ?_⟩;have hi:=(List.getElem?_eq_some_iff.1 l).1;obtain⟨j,s⟩: ∃j,Z[i]? =some j:=⟨_,List.getElem?_eq_getElem (by omega)⟩;have t:(List.zip L Z)[i]? =some (x,j):=by rw [List.getElem?_zip_eq_some];exact⟨l,s⟩
 have B:=ez (k:=2) (f:=λx:Lk×Value=>[.int .i64 x.1.1,x.2]) (λ_=>rfl) t (j:=0) (by omega);have C:=ez (k:=2) (f:=λx:Lk×Value=>[.int .i64 x.1.1,x.2]) (λ_=>rfl) t (j:=1) (by omega);have r:=J i j x s l;obtain⟨A',a,c',rfl,-⟩:=id r;exact⟨A',a,c',p _ _ B,by have:=p _ _ C;rw [<-Nat.add_assoc]at this;exact this,r⟩
theorem Ah {G:ac} {st:Int} {D:aP} {i:Nat} {e:List It×List It}:(j9 G st D i e).length<=G.rules.length+1:=by
 unfold j9;exact Zm (List.length_filterMap_le _ _) (by simp)
end Go.Proofs.YthlbjgabhpdbfaaGreat
namespace Go.Proofs.YthlbjgabhpdbfaaGreat
open Go.Proofs.Tryz
open List renaming drop_succ_cons->Za,drop_zero->Zb,length_append->Zc,map_append->Zd,mem_range->Ze,mem_singleton->Zf,setIfInBounds_toArray->Zg,set_cons_succ->Zh,set_cons_zero->Zi,take_succ_cons->Zj,take_zero->Zk
open Nat renaming le_refl->Zl,le_trans->Zm,lt_of_lt_of_le->Zn,mul_le_mul_right->Zo,not_lt_zero->Zp,zero_le->Zq
structure pu where
 is:Bool
 long:Bool
 l:List Int
open Go.RowKit
attribute [local irreducible] wpStill aB aO
end Go.Proofs.YthlbjgabhpdbfaaGreat
namespace Go.Proofs.YthlbjgabhpdbfaaGreat
open Go.Proofs.Tryz
open List renaming drop_succ_cons->Za,drop_zero->Zb,length_append->Zc,map_append->Zd,mem_range->Ze,mem_singleton->Zf,setIfInBounds_toArray->Zg,set_cons_succ->Zh,set_cons_zero->Zi,take_succ_cons->Zj,take_zero->Zk
open Nat renaming le_refl->Zl,le_trans->Zm,lt_of_lt_of_le->Zn,mul_le_mul_right->Zo,not_lt_zero->Zp,zero_le->Zq
section
open Go.RowKit
attribute [local irreducible] wpStill aB aO
section
variable {w w' : World} {F : Nat -> Prop} {b g : Nat} {S : List pu}
end
end
section
open Go.RowKit
attribute [local irreducible] wpStill aB aO
end
section
open Go.RowKit
end
section
open Go.RowKit
attribute [local irreducible] wpStill aB aO
section
variable {w wr wr' : World} {F : Nat -> Prop} {A1 : Option Addr} {c1 : Nat} {A2 : Option Addr} {c2 : Nat} {A3 : Option Addr} {c3 T N R : Nat} {st : Int} {G : ac} {gz zo : Nat} {S : List pu}
end
end
section
open Go.RowKit
attribute [local irreducible] wpStill aB aO
section
variable {w w' : World} {F : Nat -> Prop} {b gl gi gm : Nat} {S : List pu}
end
end
section
open Go.RowKit
attribute [local irreducible] wpStill aB aO
end
section
open Go.RowKit
attribute [local irreducible] wpStill aB aO
theorem infoInts:(prog.info? 49).map (λa=>(a.zero,a.size,a.bytes))=some (some (.slice none 0 0),1,24):=by kernel_rfl
section
variable {w : World} {F : Nat -> Prop} {b gl gi gm : Nat} {S : List pu} {k : Nat} {x : pu}
end
end
section
open Go.RowKit
attribute [local irreducible] wpStill aB aO
section
variable {w w' : World} {b m : Nat} {f g : Nat -> Bool} {S : Nat -> Prop}
end
section
variable {w w' : World} {g n m : Nat} {ps : Nat -> Nat} {F F' : Nat -> Nat -> Bool} {S : Nat -> Prop}
end
end
section
open Go.RowKit
attribute [local irreducible] wpStill aB aO
structure RD:Type where
 (s gi gb cb gh ch n m z:Nat)
 psb:Nat->Nat
 psh:Nat->Nat
 A1:Option Addr
 (T c1:Nat)
 A2:Option Addr
 (N c2:Nat)
 A3:Option Addr
 (R c3:Nat)
 st:Int
 F:Nat->Prop
section
variable {w w' : World} {q : RD} {G : ac} {e e' : Nat -> Bool} {bg bh : Nat -> Nat -> Bool} {S : Nat -> Prop}
end
end
open Go.RowKit
attribute [local irreducible] wpStill aB aO
section
variable {w wr wr' : World} {F : Nat -> Prop} {A1 : Option Addr} {c1 : Nat} {A2 : Option Addr} {c2 : Nat} {A3 : Option Addr} {c3 T N R : Nat} {st : Int} {G : ac} {q : RD} {e e' : Nat -> Bool} {bg bh bg' bh' : Nat -> Nat -> Bool} {S : Nat -> Prop}
end
def eT (j:Nat):Bool:=decide (j=4)
def bT (i t:Nat):Bool:=decide (t=i/\i<=2)||decide (i=3/\(t=1\/t=2))||decide (i=4/\t=2)
def hT (i t:Nat):Bool:=decide (i=3/\t=0)||decide (i=4/\t=1)
theorem EJ {G:ac} {st:Int} {D:aP} {i:Nat} {e:List It×List It} {x:Lk} (h:x∈j9 G st D i e): ∃k:Nat,k<=G.rules.length/\x.1=(k:Int)/\Cl G st e.1 ((k:Int),lnI G st k)/\x.2=lW (G.terms.length+1) (λl=>toB (LA G st D i ((k:Int),lnI G st k) l)):=by
 unfold j9 at h;obtain⟨k,j,a⟩:=List.mem_filterMap.1 h
 split at a
 ·rename_i d
  injection a with a
  rw [<-a];exact⟨k,by have:=Ze.1 j;omega,rfl,ek.1 d,rfl⟩
 ·cases a
end Go.Proofs.YthlbjgabhpdbfaaGreat

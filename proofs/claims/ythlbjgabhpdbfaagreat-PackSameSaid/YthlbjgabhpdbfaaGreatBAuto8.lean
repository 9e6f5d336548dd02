/- The automaton: steps' closure put. -/
import Derived.Test.YthlbjgabhpdbfaaGreatBAuto4
import Derived.Test.YthlbjgabhpdbfaaGreatBBitsL
import Derived.Test.YthlbjgabhpdbfaaGreatBItemLay
set_option linter.unusedVariables false
set_option linter.unusedSimpArgs false
set_option maxRecDepth 100000
set_option maxHeartbeats 8000000
namespace Go.Proofs.YthlbjgabhpdbfaaGreat
open Go.Proofs.Tryz
open Bool renaming and_eq_true->Za
open List renaming all_eq_true->Zb,drop_succ_cons->Zc,drop_zero->Zd,getElem_of_mem->Ze,length_append->Zf,length_singleton->Zg,mem_append->Zh,mem_append_left->Zi,mem_append_right->Zj,mem_filter->Zk,mem_of_getElem?->Zl,mem_singleton->Zm,setIfInBounds_toArray->Zn,set_cons_succ->Zo,set_cons_zero->Zp,take_succ_cons->Zq,take_zero->Zr
open Nat renaming le_refl->Zs,le_trans->Zt,lt_of_lt_of_le->Zu,zero_le->Zv
section
open Go.RowKit Go.Maps
attribute [local irreducible] wpStill aB aO
structure fI (w:World) (lo P n:Nat) (vs:Nat->Value) (L:Nat->List It):Prop where
 cell: ∀i,i<n->w.cell? ⟨P,i,none⟩=some (vs i)
 frz: ∀i,i<n->w.frozen? ⟨P,i,none⟩=false
 own: ∀i,i<n->w.ownsRow lo 226 2 (vs i) (L i).length (ar (L i))
 apart: ∀i j b,i<n->j<n->(vs i).ownBlock=some b->(vs j).ownBlock=some b->i=j
 hP:P<lo
 hlo:lo<=w.heap.size
section
variable {w w' : World} {lo P n : Nat} {vs : Nat -> Value} {L : Nat -> List It}
theorem fI.touch {S:Nat->Prop} (h:fI w lo P n vs L) (b:aa S w w') (d: ¬S P) (f: ∀c,lo<=c->c<w.heap.size-> ¬S c):fI w' lo P n vs L:=
 ⟨λa hi=>b.cell (h.cell a hi) d,λa hi=>(World.frozen?_of_block (a:=⟨P,a,none⟩) (b.block P (Zu h.hP h.hlo) d)).trans (h.frz a hi),λa hi=>b.own (h.own a hi) (λk e=>f k ((h.own a hi).lt k e).1 ((h.own a hi).lt k e).2),h.apart,h.hP,Zt h.hlo b.size⟩
theorem fI.below (h:fI w lo P n vs L) (a:Below w.heap.size w w'):fI w' lo P n vs L:=h.touch (aa.of_size a (λ_=>False)) (λe=>e) (λ_ _ _ e=>e)
theorem fI.drew (h:fI w lo P n vs L):fI w.drew lo P n vs L:=h.below ((Below.refl _ w).drew)
theorem fI.app {s:Nat} {x:It} {A:Option Addr} {c:Nat} {w1:World} (h:fI w lo P n vs L) (o:s<n) (own:w1.ownsRow lo 226 2 (.slice A ((L s).length+1) c) ((L s).length+1) (ar (L s)++[I64 x.1,I64 x.2])) (g:w.grownBy w1 (vs s).ownBlock) (b:(Value.slice A ((L s).length+1) c).ownBlock=(vs s).ownBlock\/(Value.slice A ((L s).length+1) c).ownBlock=some w.heap.size):
  fI (w1.setCell ⟨P,s,none⟩ (.slice A ((L s).length+1) c)) lo P n (upd vs s (.slice A ((L s).length+1) c)) (upd L s (L s++[x]))/\aa (λk=>k=P\/(vs s).ownBlock=some k) w (w1.setCell ⟨P,s,none⟩ (.slice A ((L s).length+1) c)):=by
 have r:aa (λk=>(vs s).ownBlock=some k) w w1:=(aa.refl _ _).grown g (λk e _=>e);have p: ∀a,a<n-> ∀k,(vs a).ownBlock=some k->lo<=k/\k<w.heap.size:=λa hi k e=>(h.own a hi).lt k e
 have E:=h.hP;have F:=h.hlo;have v: ¬(vs s).ownBlock=some P:=λe=>by have:=p s o P e;omega
 have C:aa (λk=>k=P\/(vs s).ownBlock=some k) w (w1.setCell ⟨P,s,none⟩ (.slice A ((L s).length+1) c)):=(r.mono (S':=λk=>k=P\/(vs s).ownBlock=some k) (λk _ e=> .inr e)).setCell (p:=⟨P,s,none⟩) (λ_=> .inl rfl) _;have D:aa (λk=>k=P) w1 (w1.setCell ⟨P,s,none⟩ (.slice A ((L s).length+1) c)):=(aa.refl (λk=>k=P) w1).setCell (p:=⟨P,s,none⟩) (λ_=>rfl) _;refine⟨⟨λa hi=> ?_,λa hi=>(World.frozen?_setCell ..).trans ((World.frozen?_of_block (a:=⟨P,a,none⟩) (r.block P (by omega) v)).trans (h.frz a hi)),λa hi=> ?_,λa q m hi y f d=> ?_,E,Zt F C.size⟩,C⟩
 ·by_cases e:a=s
  ·subst e;rw [aC];exact World.cell?_setCell_same' _ _ _ (by rw [r.cell (h.cell a hi) v];rfl)
  ·rw [aN e,World.cell?_setCell_other _ _ _ _ (λu=>by injection u with _ u;exact e u.symm)];exact r.cell (h.cell a hi) v
 ·by_cases e:a=s
  ·subst e;rw [aC,aC,Zf,eD];refine D.own own (λk i e=> ?_);rcases b with b|b
   ·rw [b]at i;have:=p a o k i;omega
   ·rw [b]at i;injection i with i;omega
  ·rw [aN e,aN e];refine D.own (r.own (h.own a hi) (λk i z=>e (h.apart a s k hi o i z))) (λk i z=> ?_);have:=p a hi k i;omega
 ·by_cases t:a=s
  ·by_cases j:q=s
   ·rw [t,j]
   ·exfalso;rw [t,aC]at f;rw [aN j]at d;rcases b with b|b
    ·rw [b]at f;exact j (h.apart s q m o y f d).symm
    ·rw [b]at f;injection f with f;have:=p q y m d;omega
  ·rw [aN t]at f;by_cases j:q=s
   ·exfalso;rw [j,aC]at d;rcases b with b|b
    ·rw [b]at d;exact t (h.apart a s m hi o f d)
    ·rw [b]at d;injection d with d;have:=p a hi m f;omega
   ·rw [aN j]at d;exact h.apart a q m hi y f d
theorem fI.made (w:World) (n:Nat) (t:TypeId) {lo:Nat} {w':World} (d:Below (w.heap.size+1) (w.alloc (.cells (madeCells #[.slice none 0 0] n) t)) w') (b:w.heap.size<lo) (c:lo<=w'.heap.size):fI w' lo w.heap.size n (λ_=> .slice none 0 0) (λ_=>[]):=by
 have f:Blk (w.alloc (.cells (madeCells #[.slice none 0 0] n) t)) w.heap.size t (madeCells #[.slice none 0 0] n):=Blk.new _ _ _;have k:=f.below d (by omega);exact⟨λa hi=>(k.cell a).trans (mD _ _ _ hi),λa _=>k.frozen a,λa _=>World.ownsRow_nil _ _ _ _,λa h g _ _ e=>by simp [Value.ownBlock]at e,b,c⟩
end
def d7 (G:ac) (st:Int) (l:List It) (i:Nat):List It:=if i=0 then []else eH G st l (i:Int)
theorem oy {G:ac} {st:Int} {l:List It} {x:It} {s:Int}:eH G st (l++[x]) s=if aw G st x=(s,true)then eH G st l s++[(x.1,x.2+1)]else eH G st l s:=by
 unfold eH;rw [List.filter_append,List.map_append];by_cases h:aw G st x=(s,true)
 ·rw [if_pos h,List.filter_cons_of_pos (by simp [h])];rfl
 ·rw [if_neg h,List.filter_cons_of_neg (by simp [h])];simp
theorem BD {G:ac} {st:Int} {l:List It} {x:It} (h:cV G st x=0):d7 G st (l++[x])=d7 G st l:=by
 funext i
 unfold d7
 split
 ·rfl
 ·rename_i hi
  rw [oy,if_neg];intro e;unfold cV at h;rw [e]at h;simp only at h;omega
theorem zJ {G:ac} {st:Int} {l:List It} {x:It} {s:Nat} (h:cV G st x=s) (d:0<s):d7 G st (l++[x])=upd (d7 G st l) s (d7 G st l s++[(x.1,x.2+1)]):=by
 have b:aw G st x=((s:Int),true):=by
  unfold cV at h;have:aw G st x=((aw G st x).1,(aw G st x).2):=rfl;rw [h]at this;rw [this];congr 1;unfold aw at h⊢
  split
  ·rfl
  ·rename_i c
   rw [if_neg c]at h;simp only at h;omega
 funext i
 by_cases e:i=s
 ·subst e;rw [aC];unfold d7;rw [if_neg (by omega),if_neg (by omega),oy,if_pos b]
 ·rw [aN e];unfold d7
  split
  ·rfl
  ·rw [oy,if_neg];rw [b];intro a;injection a with a _
   exact e (by omega)
theorem ss (G:ac) (st:Int) (l:List It) (i:Nat):(d7 G st l i).length<=l.length:=by
 unfold d7
 split
 ·simp
 ·exact BC _ _ _ _
def G5 (w:World) (lo P n:Nat) (rs:Nat->Value) (L:Nat->List It) (e:Ending) (w':World):Prop:=e= .returned (.tuple #[])/\(∃vs,fI w' lo P n vs L)/\aa (λk=>k=P\/ ∃i,i<n/\(rs i).ownBlock=some k) w w'
theorem uJ {w:World} {F:Nat->Prop} {B:Nat} {A1:Option Addr} {c1:Nat} {A2:Option Addr} {c2:Nat} {A3:Option Addr} {c3 T N R:Nat} {st:Int} {G:ac} {ci vs:Value} {cg ch:Nat} {a1 m lo P n c:Nat} {rs:Nat->Value} {l:List It}
  (h:Bd w F B A1 c1 A2 c2 A3 c3 T N R st G ci vs cg ch) (a8:Blk w a1 119 #[PtB B]) (W:Blk w m 122 #[.slice (some ⟨P,0,none⟩) n c]) (t:fI w lo P n rs (d7 G st l)) (cl:a1<lo) (cm:m<lo) (cn:m≠P)
  (x:It) (D:aQ G st x=true) (bB:0<=cV G st x) (ce:cV G st x<n) (cr:n<=c) (co:c<=9223372036854775807) (cc:l.length<=100000000) (cb:x.2<=1000000):
  Calls prog 158 #[ItV x,.pointer (some ⟨a1,0,none⟩),.pointer (some ⟨m,0,none⟩)] w (G5 w lo P n rs (d7 G st (l++[x]))):=by
 obtain⟨d,b⟩:=x;have cw:0<=b:=by
  unfold aQ at D;simp only [Za,decide_eq_true_eq]at D;exact D.2.1
 simp only at cb;obtain⟨bW,V⟩: ∃bW,bW=cV G st (d,b):=⟨_,rfl⟩;rw [<-V]at bB ce;obtain⟨a,rfl⟩:=Int.eq_ofNat_of_zero_le bB;obtain⟨ad,C⟩: ∃ad,ad=w.alloc (.cells #[.int .i64 d,.int .i64 b] 226):=⟨_,rfl⟩;have s:Below w.heap.size w ad:=by rw [C];exact(Below.refl _ _).alloc (Zs _) _
 have Y:Blk ad w.heap.size 226 #[.int .i64 d,.int .i64 b]:=by rw [C];exact Blk.new _ _ _
 have bc:=h.below s;have K:=pJ bc (d,b) D;rw [<-V]at K;have a9:=a8.below s a8.lt;have bO:=W.below s W.lt;have bu:=t.below s;have bt:=(a9.cell 0).trans rfl;have d0:=(Y.cell 0).trans rfl;have z:=(Y.cell 1).trans rfl;have bA:w.heap.size≠P:=by have:=t.hP;have:=t.hlo;omega
 have bz:w.heap.size≠m:=by have:=W.lt;omega
 have cp:lo<=w.heap.size:=t.hlo;rw [C]at K bt d0 z;have bC: ∀i,i<n-> ∀k,(rs i).ownBlock=some k->k<w.heap.size:=λi hi k e=>((t.own i hi).lt k e).2
 clear h a8 W t D;obtain⟨b1,a0,b4,be,b2,aT,bh,bo,ak,ck,cj⟩:=fa bC Y bc K a9 bO bu V s bA bz;clear bC Y bc K a9 bO bu V s bA bz
 go_enter func158,ntmps158
 go_wp2_with fail
 with_reducible refine be.out.mono ?_
 rintro e w4 ⟨rfl,r⟩;rw [<-C]at r;have u:=a0.out.below r a0.out.lt;have q:=aT.out.below r aT.out.lt;have o:=bh.out.below r;have I:=ak.out.trans (r.mono ak.out.size);clear C bt d0 z r a0 aT bh ak be b4 b2;by_cases cf:a=0
 ·subst cf;have A:=BD (l:=l) bo.out.symm;obtain⟨ap,b3,bg,al,an⟩:=aX u q o I A;clear u q o I A
  go_wp2_with fail
  go_end0
  refine⟨rfl,⟨rs,?_⟩,aa.of_size al.out _⟩;rw [an.out];exact bg.out
 ·have cs:(0:Int)<(a:Int):=by omega
  have f:a<n:=by omega
  have A:=zJ (l:=l) bo.out.symm (by omega);have bw:=o.drew;have own:=bw.own a f;obtain⟨bd,bs,U,ct,cu⟩:=bH own;have bR:=(q.cell 0).trans rfl;have d0:=(u.cell 0).trans rfl;have z:=(u.cell 1).trans rfl;have J:=o.cell a f;rw [U]at J;have cd:(d7 G st l a).length<=100000000:=Zt (ss _ _ _ _) cc;obtain⟨ba,S⟩: ∃bb,bb=(d7 G st l a).length:=⟨_,rfl⟩;rw [<-S]at J cd;have cv:IntKind.i64.wrap (b+1)=b+1:=by rw [IntKind.wrap_i64];omega
  obtain⟨w7,p⟩: ∃bb,bb=(w4.alloc (.cells #[.int .i64 d,.int .i64 (b+1)] 226)).drew:=⟨_,rfl⟩;have H:Below w4.heap.size w4 w7:=by rw [p];exact((Below.refl _ w4).alloc (Zs _) _).drew
  have M:=o.below H;have bG:=q.below H q.lt;have Z:=M.own a f;rw [U,<-S]at Z;have a6:aH w7 (λb6=>b6=w4.heap.size) (.slice (some ⟨w4.heap.size,0,none⟩) 1 1) [(d,b+1)]:=by rw [p];exact(aH.one (w:=w4) (e:=226) (d,b+1)).drew
  have a7:lo<=w7.heap.size:=M.hlo;rw [p]at Z a6 a7;clear bw own;obtain⟨ap,b3,bg,al,an,y,j,ai,g,aS,bq,bi⟩:=gx u q o I A U S H M bG Z a6;clear u q o I A U S H M bG Z a6
  go_wp2_with fail
  refine cQ (λE=>E.cell? ⟨m,0,none⟩=some (.slice (some ⟨P,0,none⟩) n c)/\E.cell? ⟨P,a,none⟩=some (.slice bd ba bs)/\E.cell? ⟨w.heap.size,0,none⟩=some (.int .i64 d)/\E.cell? ⟨w.heap.size,1,none⟩=some (.int .i64 b)) 12 14 (by kernel_rfl) (by kernel_rfl) ⟨bR,J,d0,z⟩ ?_;simp only [Zq,Zr,Zc,Zd]
  iterate 12
   refine bI ?_ (by rfl) (λwS hwS=> ?_) ?_
   rotate_left
   ·(try dsimp only at hwS)
    go_simp
    all_goals with_reducible rfl
   simp only [Act.put,Zn,Zp,Zo]
  refine bU ?_;have a2:=g.out.cell a f;rw [y.out,<-j.out]at a2;have X:=ap.out.below ai.out ap.out.lt;have a4:w7.cell? ⟨m,0,none⟩=some (.slice (some ⟨P,0,none⟩) n c)/\w7.cell? ⟨P,a,none⟩=some (.slice bd ba bs)/\w7.cell? ⟨w.heap.size,0,none⟩=some (.int .i64 d)/\w7.cell? ⟨w.heap.size,1,none⟩=some (.int .i64 b):=⟨(aS.out.cell 0).trans rfl,a2,(X.cell 0).trans rfl,(X.cell 1).trans rfl⟩;rw [p]at a4;have bE: ¬(rs a).ownBlock=some w.heap.size:=λe=>by have:=b1.out a f _ e;omega
  clear a2;obtain⟨bp,bl⟩:=av X bE;clear X bE;refine ay ?_
  go_wp2_with fail
  refine⟨a4,ay ?_⟩;clear a4
  go_wp2_with (at_builtin;refine aJ _ rfl (.tmp 15) (.tmp 22) _ rfl elemItem lo _ ba (ar (d7 G st l a)) rfl bq.out _ _ [I64 d,I64 (b+1)] 1 rfl rfl bi.out (iH [(d,b+1)]) (by unfold maxLen;omega) (by omega) a7 ?_)
  intro bY b7 w8 bP O a5;rw [<-p]at O;rw [show w4.heap.size+1=w7.heap.size by rw [p];simp]at a5;have Q:=g.out.app (s:=a) (x:=(d,b+1)) (w1:=w8) (A:=bY) (c:=b7) f (by rw [<-j.out];exact bP) (by rw [y.out,<-j.out];exact O) (by rw [y.out,<-j.out];exact a5);rw [<-j.out,<-an.out]at Q;have v:aa (λk=>(rs a).ownBlock=some k) w7 w8:=(aa.refl _ _).grown O (λk e _=>by rw [y.out,<-j.out];exact e);have a3: ¬(rs a).ownBlock=some P:=λe=>by have:=((g.out.own a f).lt P e).1;have:=g.out.hP;omega
  have br:=v.cell (g.out.cell a f) a3;rw [y.out,<-j.out]at br;have cx:=(World.frozen?_of_block (a:=⟨P,a,none⟩) (v.block P (Zu g.out.hP g.out.hlo) a3)).trans (g.out.frz a f);have ca:=v.cell ((aS.out.cell 0).trans rfl) (λe=>by have:=((g.out.own a f).lt _ e).1;simp at this;omega);have b8:=v.cell ((bp.out.cell 0).trans rfl) (λe=>bl.out e);have b9:=v.cell ((bp.out.cell 1).trans rfl) (λe=>bl.out e);refine⟨⟨ca,br,b8,b9⟩,cX ?_⟩;have bS:=(aa.of_size al.out (λk=>k=P\/ ∃i,i<n/\(rs i).ownBlock=some k)).trans' ((aa.of_size ai.out (λk=>k=P\/ ∃i,i<n/\(rs i).ownBlock=some k)).trans' (Q.2.mono (λk _ e=>e.imp id (λe=>⟨a,f,e⟩))));have bx:=Q.1;clear bP O a5 Q v a3 p a7 bR d0 z J aS bq bi g ai;obtain⟨b5,b0⟩:=av bS bx;clear bS bx
  go_wp2_with fail
  refine NoPanic.normal ?_
  go_wp2_with fail
  go_end0
  exact⟨rfl,⟨_,b0.out⟩,b5.out⟩
end
section
open Go.RowKit Go.Maps
structure KnA (G:ac) (st:Int):Prop extends KnI G st where
 t:G.terms.length<=120
 n:G.nons.length<=120
 stn:am G st=true
 eight: ∀i:Int,(aD G st i).1.2.length<=8
 sym: ∀(i:Int) (k:Nat) (s:Int),(aD G st i).1.2[k]? =some s->1<=s/\s<=ao G
theorem KnA.of_check {G:ac} {st:Int} (h:bf G st=0):KnA G st:=by
 have o:=KnI.of_check h;obtain⟨hm,-,-,b,-,-⟩:=lU h;obtain⟨j,m,q,d⟩:=pD hm;unfold ie at b;rw [Za,Zb]at b;have p:1<=st/\st<=ao G:=by
  have:=b.1;unfold am at this;simp only [Za,decide_eq_true_eq]at this;omega
 refine⟨o,j,m,b.1,λf=> ?_,λf k i a=> ?_⟩
 ·unfold jD at d;rw [Zb]at d;unfold aD
  split
  ·simp
  ·split
   ·simp
   ·cases e:G.rules[f.toNat]? with
    |none=>simp
    |some g=>have:=d g (Zl e);simp at this⊢;omega
 ·unfold aD at a
  split at a
  ·simp at a
  ·split at a
   ·have:i=st:=by
     match k,a with
     |0,a=>simp at a;exact a.symm
    subst this;exact p
   ·cases e:G.rules[f.toNat]? with
    |none=>rw [e]at a;simp at a
    |some g=>
     rw [e]at a;have c:=b.2 g (Zl e);unfold fk at c;rw [Za,Zb]at c;have:=c.2 i (Zl a);unfold gH am at this;unfold ao;unfold ao at this;simp only [Bool.or_eq_true,Za,decide_eq_true_eq]at this;omega
theorem KnA.next {G:ac} {st:Int} (h:KnA G st) (x:It):0<=cV G st x/\cV G st x<=ao G:=by
 unfold cV;cases a:aw G st x with
 |mk c b=>
  cases b with
  |true=>
   have:=(fY a).2.2;have:=h.sym _ _ _ this;simp only;omega
  |false=>
   unfold aw at a
   split at a
   ·injection a with _ a;cases a
   ·injection a with a _
    simp only;omega
theorem KnA.right {G:ac} {st:Int} (h:KnA G st) {x:It} (b:aQ G st x=true):(0<=x.1/\x.1<=300)/\0<=x.2/\x.2<=8:=by
 unfold aQ at b;simp only [Za,decide_eq_true_eq]at b;obtain⟨a,c,d⟩:=b;have:=h.eight x.1;have e:=h.r;unfold aD at a
 split at a
 ·cases a
 ·omega
theorem CJ {G:ac} {st:Int} {x:It} {n:Int} (a:am G n=true):aw G st x=(n,true)↔cV G st x=n:=by
 constructor
 ·intro h;unfold cV;rw [h]
 ·intro h;subst h;exact rz a
structure iP (G:ac) (st:Int) (l:List It) (k:Nat) (Pl:List It) (met:List Int):Prop where
 sound: ∀z∈Pl,Cl G st l z
 base: ∀j x,j<k->l[j]? =some x->x∈Pl
 done: ∀j x,j<k->l[j]? =some x->am G (cV G st x)=true->cV G st x∈met
 beg: ∀n∈met,∀m r,Bg G st n m->r∈az G m->((r,0):It)∈Pl
 non: ∀n∈met,am G n=true
 nodup:met.Nodup
 len:Pl.length<=k+met.length * 50000
section
variable {G : ac} {st : Int} {l : List It} {k : Nat} {Pl : List It} {met : List Int}
theorem iP.start:iP G st l 0 [] []:=⟨λc h=>(by cases h),λa b h=>absurd h (by omega),λa b h=>absurd h (by omega),λn h=>(by cases h),λn h=>(by cases h),List.nodup_nil,by simp⟩
theorem iP.metLen (h:iP G st l k Pl met):met.length<=G.nons.length:=lJ h.nodup h.non
theorem iP.skip {x:It} (h:iP G st l k Pl met) (f:l[k]? =some x) (o:aQ G st x=true) (hm:am G (cV G st x)=true->cV G st x∈met):iP G st l (k+1) (Pl++[x]) met:=by
 refine⟨λr b=> ?_,λc g m a=> ?_,λc g m a d=> ?_,λn d p q i j=>Zi _ (h.beg n d p q i j),h.non,h.nodup,by have:=h.len;simp;omega⟩
 ·rcases Zh.1 b with b|b
  ·exact h.sound r b
  ·obtain rfl:=Zm.1 b;exact .base _ (Zl f) o
 ·by_cases e:c=k
  ·subst e;rw [f]at a;injection a with a
   subst a;exact Zj _ (Zm.2 rfl)
  ·exact Zi _ (h.base c g (by omega) a)
 ·by_cases e:c=k
  ·subst e;rw [f]at a;injection a with a
   subst a;exact hm d
  ·exact h.done c g (by omega) a d
theorem iP.put {x:It} {o:List It} (h:iP G st l k Pl met) (q:l[k]? =some x) (C:aQ G st x=true) (p:am G (cV G st x)=true) (hm:cV G st x∉met) (t:uh G st (cV G st x) o) (F:o.length<=50000) (A:KnI G st) (v: ∀m∈l,aQ G st m=true):iP G st l (k+1) (Pl++[x]++o) (met++[cV G st x]):=by
 have s:x∈l:=Zl q;refine⟨λm c=> ?_,λd r z b=> ?_,λd r z b a=> ?_,λn a i j f g=> ?_,λn a=> ?_,?_,?_⟩
 ·rcases Zh.1 c with c|c
  ·rcases Zh.1 c with c|c
   ·exact h.sound m c
   ·obtain rfl:=Zm.1 c;exact .base _ s C
  ·obtain⟨i,j,f,g,rfl⟩:=(t m).1 c;exact(wu A v _).2 (.inr ⟨x,s,_,i,j,rz p,p,f,g,rfl⟩)
 ·by_cases e:d=k
  ·subst e;rw [q]at b;injection b with b
   subst b;simp
  ·exact Zi _ (Zi _ (h.base d r (by omega) b))
 ·by_cases e:d=k
  ·subst e;rw [q]at b;injection b with b
   subst b;simp
  ·exact Zi _ (h.done d r (by omega) b a)
 ·rcases Zh.1 a with a|a
  ·exact Zi _ (Zi _ (h.beg n a i j f g))
  ·obtain rfl:=Zm.1 a;exact Zj _ ((t _).2 ⟨i,j,f,g,rfl⟩)
 ·rcases Zh.1 a with a|a
  ·exact h.non n a
  ·obtain rfl:=Zm.1 a;exact p
 ·exact List.nodup_append.2 ⟨h.nodup,by simp,λD u E y=>by
   obtain rfl:=Zm.1 y
   exact λe=>hm (e▸u)⟩
 ·have:=h.len;simp only [Zf,Zg];omega
theorem iP.is {Pl:List It} (h:iP G st l k Pl met) (t:l.length<=k) (m:KnI G st) (o: ∀z∈l,aQ G st z=true) (z:It):z∈Pl↔Cl G st l z:=by
 refine⟨h.sound z,λb=> ?_⟩;rcases(wu m o z).1 b with b|⟨s,p,n,q,r,g,d,i,j,rfl⟩
 ·obtain⟨c,a,e⟩:=Ze b;exact h.base c z (by omega) (by rw [List.getElem?_eq_getElem a,e])
 ·obtain⟨c,a,e⟩:=Ze p;have f:=(CJ d).1 g;have:=h.done c s (by omega) (by rw [List.getElem?_eq_getElem a,e]) (by rw [f];exact d);rw [f]at this;exact h.beg n this q r i j
end
noncomputable def pg (G:ac) (st:Int) (l:List It) (i:Nat):List It:=if i=0 then []else nxI G st l (i:Int)
theorem Fh {G:ac} {st s:Int} {l o:List It} (h: ∀d,d∈o↔Cl G st l d):dg (eH G st o s)=nxI G st l s:=by
 refine iK (ip _) (jg G st l s).1 λd=> ?_
 rw [fB,(jg G st l s).2];unfold eH;rw [List.mem_map];constructor
 ·rintro⟨a,e,rfl⟩;obtain⟨b,c⟩:=Zk.1 e;exact⟨a,(h a).1 b,of_decide_eq_true c,rfl⟩
 ·rintro⟨a,b,c,rfl⟩;exact⟨a,Zk.2 ⟨(h a).2 b,decide_eq_true c⟩,rfl⟩
theorem Fe {G:ac} {st:Int} {l o:List It} (h: ∀a,a∈o↔Cl G st l a) (i:Nat):dg (d7 G st o i)=pg G st l i:=by
 unfold d7 pg
 split
 ·rfl
 ·exact Fh h
structure qZ (w:World) (lo P n k:Nat) (vs:Nat->Value) (L:Nat->List It):Prop where
 cell: ∀i,i<n->w.cell? ⟨P,i,none⟩=some (vs i)
 frz: ∀i,i<n->w.frozen? ⟨P,i,none⟩=false
 done: ∀i,i<k->i<n->aH w (λb=>lo<=b/\b<w.heap.size/\ ∀j,k<=j->j<n->(vs j).ownBlock≠some b) (vs i) (dg (L i))
 own: ∀i,k<=i->i<n->w.ownsRow lo 226 2 (vs i) (L i).length (ar (L i))
 apart: ∀i j b,k<=i->i<n->k<=j->j<n->(vs i).ownBlock=some b->(vs j).ownBlock=some b->i=j
 hP:P<lo
 hlo:lo<=w.heap.size
section
variable {w w' : World} {lo P n k : Nat} {vs : Nat -> Value} {L : Nat -> List It}
theorem fI.ord (h:fI w lo P n vs L):qZ w lo P n 0 vs L:=⟨h.cell,h.frz,λa hi=>absurd hi (by omega),λa _ hi=>h.own a hi,λa d b _ hi _ c=>h.apart a d b hi c,h.hP,h.hlo⟩
theorem qZ.next {v:Value} (h:qZ w lo P n k vs L) (q:k<n) (C:aH w' (λa=>(vs k).ownBlock=some a) v (dg (L k))) (i:aa (λa=>(vs k).ownBlock=some a) w w'):
  qZ (w'.setCell ⟨P,k,none⟩ v) lo P n (k+1) (upd vs k v) L/\aa (λa=>a=P\/lo<=a) w (w'.setCell ⟨P,k,none⟩ v):=by
 have p: ∀a,(vs k).ownBlock=some a->lo<=a/\a<w.heap.size:=λa e=>(h.own k (Zs _) q).lt a e
 have z:=h.hP;have A:=h.hlo;have t: ¬(vs k).ownBlock=some P:=λe=>by have:=p P e;omega
 have r:aa (λa=>a=P\/lo<=a) w (w'.setCell ⟨P,k,none⟩ v):=(i.mono (S':=λa=>a=P\/lo<=a) (λa _ e=> .inr (p a e).1)).setCell (p:=⟨P,k,none⟩) (λ_=> .inl rfl) _;have u:aa (λa=>a=P) w' (w'.setCell ⟨P,k,none⟩ v):=(aa.refl (λa=>a=P) w').setCell (p:=⟨P,k,none⟩) (λ_=>rfl) _;have o: ∀d,k+1<=d->upd vs k v d=vs d:=λd g=>aN (by omega)
 refine⟨⟨λb hi=> ?_,λb hi=>(World.frozen?_setCell ..).trans ((World.frozen?_of_block (a:=⟨P,b,none⟩) (i.block P (by omega) t)).trans (h.frz b hi)),λb hi f=> ?_,λb hi f=> ?_,λb d a hi f g m x y=> ?_,z,Zt A r.size⟩,r⟩
 ·by_cases e:b=k
  ·subst e;rw [aC];exact World.cell?_setCell_same' _ _ _ (by rw [i.cell (h.cell b hi) t];rfl)
  ·rw [aN e,World.cell?_setCell_other _ _ _ _ (λs=>by injection s with _ s;exact e s.symm)];exact i.cell (h.cell b hi) t
 ·by_cases e:b=k
  ·subst e;rw [aC];refine(C.touch u (λa c e=> ?_)).mono (λa c=>⟨(p a c).1,Zu (p a c).2 r.size,λd g m j=> ?_⟩)
   ·have:=p a c;omega
   ·rw [o d g]at j;have:=h.apart b d a (Zs _) q (by omega) m c j;omega
  ·rw [aN e];refine(((h.done b (by omega) f).touch i (λa c e=>c.2.2 k (Zs _) q e)).touch u (λa c e=>by have:=c.1;omega)).mono (λa c=>⟨c.1,Zu c.2.1 r.size,λd g m j=> ?_⟩);rw [o d g]at j;exact c.2.2 d (by omega) m j
 ·rw [o b hi];refine u.own (i.own (h.own b (by omega) f) (λa c e=> ?_)) (λa c e=> ?_)
  ·have:=h.apart k b a (Zs _) q (by omega) f e c;omega
  ·have:=((h.own b (by omega) f).lt a c).1;omega
 ·rw [o b hi]at x;rw [o d g]at y;exact h.apart b d a (by omega) f (by omega) m x y
theorem qZ.rows (h:qZ w lo P n k vs L) (d:n<=k):f7 w P P n vs (λa=>dg (L a)):=
 ⟨h.cell,h.frz,λa hi=>(h.done a (by omega) hi).mono (λc b=>by have:=b.1;have:=h.hP;exact⟨by omega,b.2.1,by omega⟩),Zu h.hP h.hlo⟩
end
end
section
open Go.RowKit Go.Maps
attribute [local irreducible] wpStill aB aO
structure Stp (w wr:World) (B P n:Nat) (G:ac) (st:Int) (Pl:List It) (met:List Int):Prop where
 le:Below w.heap.size w wr
 k2:Blk wr w.heap.size 119 #[PtB B]
 k5:Blk wr (P+1) 122 #[.slice (some ⟨P,0,none⟩) n n]
 fam: ∃vs,fI wr (P+1+1+1) P n vs (d7 G st Pl)
 map: ∃D:DataW Unit,wr.ownsMap prog 3 (plainElem prog 4) (P+1+1) met.length D/\fy D met
 hP:w.heap.size<P
section
variable {w wr wr' : World} {B P n : Nat} {G : ac} {st : Int} {Pl : List It} {met : List Int}
theorem Stp.below (h:Stp w wr B P n G st Pl met) (a:Below wr.heap.size wr wr'):Stp w wr' B P n G st Pl met:=by
 obtain⟨b,d,f⟩:=h.map;obtain⟨vs,c⟩:=h.fam;exact⟨h.le.trans (a.mono h.le.size),h.k2.below a h.k2.lt,h.k5.below a h.k5.lt,⟨vs,c.below a⟩,⟨b,(aa.of_size a (λ_=>False)).ownsMap d (λe=>e),f⟩,h.hP⟩
theorem Stp.put {a:List It} {vs:Nat->Value} (h:Stp w wr B P n G st Pl met) (d:fI wr' (P+1+1+1) P n vs (d7 G st a)) (t:aa (λk=>k=P\/P+1+1+1<=k) wr wr'):Stp w wr' B P n G st a met:=by
 obtain⟨b,f,g⟩:=h.map;have c:=h.hP;exact⟨t.toBelow (λk e=>by omega) h.le h.le.size,h.k2.touch t (by omega),h.k5.touch t (by omega),⟨vs,d⟩,⟨b,t.ownsMap f (by omega),g⟩,c⟩
theorem Stp.meet {x:Int} {a:DataW Unit} (h:Stp w wr B P n G st Pl met) (hm:wr'.ownsMap prog 3 (plainElem prog 4) (P+1+1) (met.length+1) a) (d:fy a (met++[x])) (c:wr.grownBy wr' (some (P+1+1))):Stp w wr' B P n G st Pl (met++[x]):=by
 have b:aa (λk=>k=P+1+1) wr wr':=(aa.refl _ _).grown c (λk e _=>by injection e with e;exact e.symm);have f:=h.hP;obtain⟨vs,g⟩:=h.fam;exact⟨h.le.grown c h.le.size (λk e=>by injection e with e;omega),h.k2.touch b (by omega),h.k5.touch b (by omega),⟨vs,g.touch b (by omega) (λi j _=>by omega)⟩,⟨a,by rw [Zf];exact hm,d⟩,f⟩
end
def CS (w:World) (n:Nat) (G:ac) (st:Int) (l:List It) (e:Ending) (w':World):Prop:=
 ∃P vs,e= .returned (.slice (some ⟨P,0,none⟩) n n)/\w.heap.size<=P/\f7 w' P P n vs (pg G st l)/\Below w.heap.size w w'
theorem AV {w:World} {F:Nat->Prop} {B:Nat} {A1:Option Addr} {c1:Nat} {A2:Option Addr} {c2:Nat} {A3:Option Addr} {c3 T N R:Nat} {st:Int} {G:ac} {vs:Value} {m1 m2 Pb cb:Nat} {rb:Nat->Value} {Lb:Nat->List It}
  (h:Bd w F B A1 c1 A2 c2 A3 c3 T N R st G (.slice (some ⟨Pb,0,none⟩) (ao G+1) cb) vs m1 m2) (rows:f7 w Pb Pb (ao G+1) rb Lb) (hcb:ao G+1<=cb/\cb<=9223372036854775807) (hT:T=G.terms.length)
  (hbe: ∀s:Nat,T<s->s<=ao G->uh G st s (Lb s)/\(Lb s).length<=50000) (hK:KnA G st) {F':Nat->Prop} {v:Value} {l:List It} (hv:aH w F' v l) (hF': ∀b,F' b->b<w.heap.size) (hal: ∀z∈l,aQ G st z=true) (hll:l.length<=1000000):
  Calls prog 79 #[PtB B,v] w (CS w (ao G+1) G st l):=by
 obtain⟨A,n,c,rfl,-⟩:=id hv;obtain⟨hn,hnc,hcm,-⟩:=aH.at_ hv;unfold maxLen at hcm;rw [<-hn]at hll;have htop:ao G=G.terms.length+G.nons.length:=rfl;have hpb:ao G<=240:=by have:=hK.t;have:=hK.n;omega
 obtain⟨p,hp⟩: ∃p,p=ao G:=⟨_,rfl⟩;rw [<-hp]at h rows hcb hbe hpb htop⊢;obtain⟨hcb1,hcb2⟩:=hcb;obtain⟨w1,hw1⟩: ∃w1,w1=w.alloc (.cells #[PtB B] 119):=⟨_,rfl⟩;have b1:Below w.heap.size w w1:=by rw [hw1];exact(Below.refl _ w).alloc (Zs _) _
 have k1:Blk w1 w.heap.size 119 #[PtB B]:=by rw [hw1];exact Blk.new _ _ _
 have t1:=h.below b1;have ct:=eW t1.gram st;rw [<-hp]at ct;obtain⟨q0,q1,q2,q3⟩:=t1.cells;have e2:=(k1.cell 0).trans rfl;rw [hw1]at ct q0 q1 q2 q3 e2;have hmk: ∀w:World,(Instr.makeSlice 122 (.int .i64 ((p:Int)+1)) (.int .i64 ((p:Int)+1))).run prog w= .ok (.slice (some ⟨w.heap.size,0,none⟩) (p+1) (p+1)) (w.alloc (.cells (madeCells #[.slice none 0 0] (p+1)) 109)):=λw=>by
  have:=sQ (p+1) (by omega) w
  push_cast at this
  exact this
 have hmm:= @run_makeMap prog;obtain⟨Xh,Xrows,Xhbe,XhK,Xhv,XhF',Xhal,Xhn,Xhp,Xhtop,XhT,Xb1,Xk1,Xt1⟩:=dh h rows hbe hK hv hF' hal hn hp htop hT b1 k1 t1;have Xct:=ab ct;clear h rows hbe hK hv hF' hal hn hp htop hT b1 k1 t1 ct
 go_enter func79,ntmps79
 go_wp2_with fail
 refine Xct.out.mono ?_;rintro e w2 ⟨rfl,b2⟩;rw [<-hw1]at b2;have k2:=Xk1.out.below b2 Xk1.out.lt;have bb2:=Xb1.out.trans (b2.mono Xb1.out.size);clear q0 q1 q2 q3 e2 Xct Xt1 Xk1 Xb1 b2 hw1;obtain⟨w5,hw5⟩: ∃w5,w5=((w2.alloc (.cells (madeCells #[.slice none 0 0] (p+1)) 109)).alloc (.cells #[.slice (some ⟨w2.heap.size,0,none⟩) (p+1) (p+1)] 122)).alloc (.map #[] 0):=⟨_,rfl⟩;have stp:Stp w w5 B w2.heap.size (p+1) G st [] []:=by
  obtain⟨w3,hw3⟩: ∃w3,w3=w2.alloc (.cells (madeCells #[.slice none 0 0] (p+1)) 109):=⟨_,rfl⟩;obtain⟨w4,hw4⟩: ∃w4,w4=w3.alloc (.cells #[.slice (some ⟨w2.heap.size,0,none⟩) (p+1) (p+1)] 122):=⟨_,rfl⟩;rw [<-hw3,<-hw4]at hw5;have s3:w3.heap.size=w2.heap.size+1:=by rw [hw3];simp
  have s4:w4.heap.size=w2.heap.size+1+1:=by rw [hw4];simp [s3]
  have s5:w5.heap.size=w2.heap.size+1+1+1:=by rw [hw5];simp [s4]
  have b3:Below w2.heap.size w2 w3:=by rw [hw3];exact(Below.refl _ _).alloc (Zs _) _
  have b4:Below w3.heap.size w3 w4:=by rw [hw4];exact(Below.refl _ _).alloc (Zs _) _
  have b5:Below w4.heap.size w4 w5:=by rw [hw5];exact(Below.refl _ _).alloc (Zs _) _
  have b45:=b4.trans (b5.mono b4.size);have b35:=b3.trans (b45.mono b3.size);have k4:Blk w4 (w2.heap.size+1) 122 #[.slice (some ⟨w2.heap.size,0,none⟩) (p+1) (p+1)]:=by rw [hw4,<-s3];exact Blk.new _ _ _
  have hm:w5.ownsMap prog 3 (plainElem (H:=Unit) prog 4) (w2.heap.size+1+1) 0 (.map []):=by rw [hw5,<-s4];exact World.ownsMap_made w4 prog 3 (plainElem (H:=Unit) prog 4)
  refine⟨bb2.trans (b35.mono bb2.size),k2.below b35 k2.lt,k4.below b5 k4.lt,⟨λ_=> .slice none 0 0,?_⟩,⟨_,hm,fy.empty⟩,k2.lt⟩;have hst:d7 G st []=λ_=>[]:=by funext i;unfold d7 eH;split<;>rfl
  rw [hst];refine fI.made w2 (p+1) 109 ?_ (by omega) (by omega);rw [<-hw3,<-s3];exact b45
 have hS0:iP G st l 0 [] []:=iP.start;clear bb2 k2;obtain⟨Xstp,XhS0⟩:=av stp hS0;clear stp hS0
 go_wp2_with fail
 rw [<-hw5];clear hw5 hmk hmm
 go_loopw [25] (λi wr=> ∃(k:Nat) (Pl:List It) (met:List Int),k<=n/\i= .int .i64 k/\Stp w wr B w2.heap.size (p+1) G st Pl met/\iP G st l k Pl met) (λi _=>n - (intOf i).toNat)
 case atStart=>exact⟨0,[],[],Zv _,rfl,Xstp.out,XhS0.out⟩
 case round=>
  clear Xstp XhS0;obtain⟨k,Pl,met,hk,rfl,t,si⟩:=hrel;have hmet:=si.metLen;have hpl:=si.len;have hnn:=XhK.out.n;have hPl:Pl.length<=50000000:=by omega
  by_cases hlt:k<n
  ·have hlt':(k:Int)<(n:Int):=by omega
   obtain⟨-,-,-,hcell⟩:=aH.at_ (Xhv.out.below t.le XhF'.out);obtain⟨b,off,rfl,hb,hcc⟩:=hcell (by omega);obtain⟨x,hx⟩: ∃x,l[k]? =some x:=⟨_,List.getElem?_eq_getElem (by rw [<-Xhn.out];exact hlt)⟩;obtain⟨p0,p1⟩:=hcc k x hx;have hrx:=Xhal.out x (Zl hx);have hxs:=XhK.out.right hrx;have hnx:=XhK.out.next x;rw [<-Xhp.out]at hnx;obtain⟨x0,x1⟩:=x;simp only at p0 p1 hxs;obtain⟨wb,hwb⟩: ∃wb,wb=wr.alloc (.cells #[.int .i64 x0,.int .i64 x1] 226):=⟨_,rfl⟩;have bb:Below wr.heap.size wr wb:=by rw [hwb];exact(Below.refl _ _).alloc (Zs _) _
   have kb:Blk wb wr.heap.size 226 #[.int .i64 x0,.int .i64 x1]:=by rw [hwb];exact Blk.new _ _ _
   have tb:=t.below bb;obtain⟨vsr,famr⟩:=t.fam;have hrl: ∀i,i<p+1-> ∀q,(vsr i).ownBlock=some q->q<wr.heap.size:=λi hi q e=>((famr.own i hi).lt q e).2
   have hPr:w2.heap.size+1<wr.heap.size:=t.k5.lt;have famb:=famr.below bb;have bdb:=Xh.out.touch (aa.of_below tb.le) (λb hb e=>by have:=Xh.out.gram.lt b hb;omega) (by have:=Xh.out.blk.lt;omega);have cp:=uJ bdb tb.k2 tb.k5 famb (by have:=tb.hP;omega) (by omega) (by omega) (x0,x1) hrx hnx.1 (by omega) (Zs _) (by omega) (by omega) (by simp only;omega);have hlo: ∀q,(q=w2.heap.size\/ ∃i,i<p+1/\(vsr i).ownBlock=some q)->q=w2.heap.size\/w2.heap.size+1+1+1<=q:=λq e=>e.imp id (λ⟨i,hi,e⟩=>((famr.own i hi).lt q e).1)
   obtain⟨yn,hyn⟩:=Int.eq_ofNat_of_zero_le hnx.1;rw [hyn]at hnx;rw [hwb]at cp;clear hcell hcc bb famr famb bdb t;obtain⟨Xtb,Xcp,Xkb,Xhx,Xhb,Xsi,Xhrx,Xhlo,Xhrl,Xhyn⟩:=fp tb cp kb hx hb si hrx hlo hrl hyn;clear tb cp kb hx hb si hrx hlo hrl hyn
   go_wp2_with fail
   refine Xcp.out.mono ?_;rintro e w4 ⟨rfl,⟨vs4,fam4⟩,t4⟩;rw [<-hwb]at t4;have st4:=Xtb.out.put fam4 (t4.mono (λq _ e=>Xhlo.out q e));have k4:=Xkb.out.touch t4 (λe=>by
    rcases e with e|⟨i,hi,e⟩
    ·omega
    ·have:=Xhrl.out i hi _ e;omega)
   have bd4:=Xh.out.touch (aa.of_below st4.le) (λb hb e=>by have:=Xh.out.gram.lt b hb;omega) (by have:=Xh.out.blk.lt;omega);have cx:=pJ bd4 (x0,x1) Xhrx.out;rw [Xhyn.out]at cx;have e2:=(st4.k2.cell 0).trans rfl;have d0:=(k4.cell 0).trans rfl;have d1:=(k4.cell 1).trans rfl;clear hwb p0 p1 fam4 t4 bd4 Xtb Xkb Xcp Xhlo Xhrl;obtain⟨Xst4,Xk4,Xcx⟩:=aK st4 k4 cx;clear st4 k4 cx
   go_wp2_with fail
   with_reducible refine Xcx.out.mono ?_
   rintro e w5 ⟨rfl,b5⟩;have st5:=Xst4.out.below b5;clear e2 d0 d1 b5 Xst4 Xk4 Xcx;have hyk: -9223372036854775808<=(yn:Int)/\(yn:Int)<=9223372036854775807:=by omega
   obtain⟨D,mm1,mm2⟩:=st5.map;have hlk:=mm2.look mm1 hyk;obtain⟨im,him⟩: ∃im,im=decide ((yn:Int)∈met):=⟨_,rfl⟩;rw [<-him]at hlk;have e2:=(st5.k2.cell 0).trans rfl;cases im with
   |true=>
    have si2:=Xsi.out.skip Xhx.out Xhrx.out (λ_=>by rw [Xhyn.out];exact of_decide_eq_true him.symm);clear mm1 mm2;obtain⟨Xst5,Xsi2,Xhim,Xhyk⟩:=aA st5 si2 him hyk;clear st5 si2 him hyk
    go_wp2_with fail
    go_roundw
    case rel=>exact⟨k+1,_,met,by omega,by go_num,Xst5.out,Xsi2.out⟩
    case measure=>simp [intOf];omega
   |false=>
    have bd5:=Xh.out.touch (aa.of_below st5.le) (λb hb e=>by have:=Xh.out.gram.lt b hb;omega) (by have:=Xh.out.blk.lt;omega);have cn:=iV bd5.gram st (yn:Int);obtain⟨q0,q1,q2,q3⟩:=bd5.cells;obtain⟨nb,hnb⟩: ∃nb,nb=am G (yn:Int):=⟨_,rfl⟩;rw [<-hnb]at cn;clear bd5 mm1 mm2;obtain⟨Xst5,Xcn,Xhnb,Xhim,Xhyk⟩:=aX st5 cn hnb him hyk;clear st5 cn hnb him hyk
    go_wp2_with fail
    with_reducible refine Xcn.out.mono ?_
    rintro e w6 ⟨rfl,b6⟩;have st6:=Xst5.out.below b6;clear q0 q1 q2 q3 e2 b6 hlk Xst5 Xcn;cases nb with
    |false=>
     have si2:=Xsi.out.skip Xhx.out Xhrx.out (λe=>by rw [Xhyn.out,<-Xhnb.out]at e;cases e);obtain⟨Xst6,Xsi2⟩:=av st6 si2;clear st6 si2
     go_wp2_with fail
     go_roundw
     case rel=>exact⟨k+1,_,met,by omega,by go_num,Xst6.out,Xsi2.out⟩
     case measure=>simp [intOf];omega
    |true=>
     have hyT:T<yn/\yn<=p:=by
      have:=Xhnb.out.symm;unfold am at this;rw [<-XhT.out,<-Xhp.out,Za,decide_eq_true_eq,decide_eq_true_eq]at this;omega
     obtain⟨hbe1,hbe2⟩:=Xhbe.out yn hyT.1 hyT.2;have si2:=Xsi.out.put Xhx.out Xhrx.out (by rw [Xhyn.out];exact Xhnb.out.symm) (by rw [Xhyn.out];exact of_decide_eq_false Xhim.out.symm) (by rw [Xhyn.out];exact hbe1) hbe2 XhK.out.toKnI Xhal.out;rw [Xhyn.out]at si2;obtain⟨D,mm1,mm2⟩:=st6.map;have hkey:=eO Xhyk.out;have hml:met.length<=120:=(by omega);obtain⟨Xst6,Xsi2,Xmm2,Xhbe1⟩:=aA st6 si2 mm2 hbe1;clear st6 si2 mm2 hbe1
     go_wp2_with (at_mapUpdate;refine wpList_mapUpdate_own _ rfl _ _ _ 223 rfl 3 4 intKeyed underlying223 _ (w2.heap.size+1+1) met.length D rfl mm1 (by unfold maxLen;omega) _ _ _ rfl rfl hkey _ [] (plainElem_bool underlying4 true) ?_)
     intro w7 m7 g7;have st7:=Xst6.out.meet m7 (Xmm2.out.put Xhyk.out) g7;have bd7:=Xh.out.touch (aa.of_below st7.le) (λb hb e=>by have:=Xh.out.gram.lt b hb;omega) (by have:=Xh.out.blk.lt;omega);have rows7:=Xrows.out.below st7.le;have e2:=(st7.k2.cell 0).trans rfl;have f4:=(bd7.blk.cell 4).trans rfl;have g4:=rows7.cell yn (by omega);obtain⟨Ay,ny,cy,hrv,-⟩:=id (rows7.rd yn (by omega));rw [hrv]at g4;obtain⟨hny,hnyc,hcym,-⟩:=aH.at_ (hrv▸rows7.rd yn (by omega));unfold maxLen at hcym;rw [<-hny]at hbe2;clear m7 g7 mm1 hkey bd7 Xmm2 Xst6 Xsi;obtain⟨Xst7,Xrows7,Xhrv,Xhny⟩:=aA st7 rows7 hrv hny;clear st7 rows7 hrv hny
     go_wp2_with fail
     go_loopw [57] (λi wr=> ∃(j:Nat),j<=ny/\i= .int .i64 j/\Stp w wr B w2.heap.size (p+1) G st (Pl++[(x0,x1)]++(Lb yn).take j) (met++[(yn:Int)])) (λi _=>ny - (intOf i).toNat)
     case atStart=>exact⟨0,Zv _,rfl,by rw [Zr,List.append_nil];exact Xst7.out⟩
     case round=>
      have hkn:k+1<=n:=hlt;clear Xst7 e2 f4 g4 hlt hlt';obtain⟨j,hj,rfl,t⟩:=hrel;by_cases hlt:j<ny
      ·have hlt':(j:Int)<(ny:Int):=(by omega);have rd:=(Xrows.out.below t.le).rd yn (by omega);rw [Xhrv.out]at rd;obtain⟨-,-,-,hcell⟩:=aH.at_ rd;obtain⟨b3,off3,rfl,-,hcc⟩:=hcell (by omega);obtain⟨z,hz⟩: ∃z,(Lb yn)[j]? =some z:=⟨_,List.getElem?_eq_getElem (by rw [<-Xhny.out];exact hlt)⟩;obtain⟨p0,p1⟩:=hcc j z hz;obtain⟨zn,zr,-,hz2,hz3⟩:=(Xhbe1.out z).1 (Zl hz);have hrz:aQ G st z=true:=(by rw [hz3];exact mz hz2);have hzs:=XhK.out.right hrz;have hnz:=XhK.out.next z;rw [<-Xhp.out]at hnz;have hlz:(Pl++[(x0,x1)]++(Lb yn).take j).length<=100000000:=by
        simp only [Zf,Zg,List.length_take];omega
       obtain⟨z0,z1⟩:=z;simp only at p0 p1 hzs;obtain⟨vsr,famr⟩:=t.fam;have bdb:=Xh.out.touch (aa.of_below t.le) (λb hb e=>by have:=Xh.out.gram.lt b hb;omega) (by have:=Xh.out.blk.lt;omega);obtain⟨wb,hwb⟩: ∃wb,wb=wr.alloc (.cells #[.int .i64 z0,.int .i64 z1] 226):=⟨_,rfl⟩;have bb:Below wr.heap.size wr wb:=(by rw [hwb];exact(Below.refl _ _).alloc (Zs _) _);have tb:=t.below bb;have famb:=famr.below bb;have cp:=uJ (bdb.below bb) tb.k2 tb.k5 famb (by have:=tb.hP;omega) (by omega) (by omega) (z0,z1) hrz hnz.1 (by omega) (Zs _) (by omega) hlz (by simp only;omega);have hlo: ∀q,(q=w2.heap.size\/ ∃i,i<p+1/\(vsr i).ownBlock=some q)->q=w2.heap.size\/w2.heap.size+1+1+1<=q:=λq e=>e.imp id (λ⟨i,hi,e⟩=>((famr.own i hi).lt q e).1)
       have hnx2:Pl++[(x0,x1)]++(Lb yn).take j++[(z0,z1)]=Pl++[(x0,x1)]++(Lb yn).take (j+1):=(by rw [List.append_assoc,<-uH hz]);rw [hnx2]at cp;rw [hwb]at cp;clear hcell hcc rd bdb famr famb bb t hlz hzs hnz hrz hz2 hz3 hnx2;obtain⟨Xtb,Xcp,Xhlo,Xhz⟩:=aA tb cp hlo hz;clear tb cp hlo hz
       go_wp2_with fail
       refine Xcp.out.mono ?_;rintro e w4 ⟨rfl,⟨vs4,fam4⟩,t4⟩;rw [<-hwb]at t4;have st4:=Xtb.out.put fam4 (t4.mono (λq _ e=>Xhlo.out q e));clear hwb p0 p1 fam4 t4 Xtb Xcp Xhlo;have Xst4:=ab st4;clear st4
       go_wp2_with fail
       go_roundw
       case rel=>exact⟨j+1,by omega,by go_num,Xst4.out⟩
       case measure=>simp [intOf];omega
      ·have hlt': ¬(j:Int)<(ny:Int):=(by omega);have hkl:(Lb yn).take j=Lb yn:=List.take_of_length_le (by have:=Xhny.out;omega);rw [hkl]at t;clear hkl;have Xt:=ab t;clear t
       go_wp2_with fail
       go_roundw
       case rel=>exact⟨k+1,_,_,hkn,by go_num,Xt.out,Xsi2.out⟩
       case measure=>simp [intOf];omega
  ·have hlt': ¬(k:Int)<(n:Int):=by omega
   have hiff:=si.is (by have:=Xhn.out;omega) XhK.out.toKnI Xhal.out;obtain⟨vsr,famr⟩:=t.fam;have hout:=Fe hiff;have ord0:=famr.ord;have k50:=t.k5;have le0:=t.le;have hPw:=t.hP;have e5:=(t.k5.cell 0).trans rfl;clear si t famr hiff;obtain⟨Xord0,Xk50,Xle0,Xhout⟩:=aA ord0 k50 le0 hout;clear ord0 k50 le0 hout
   go_wp2_with fail
   go_loopw [68] (λi wr=> ∃(j:Nat) (vsj:Nat->Value),j<=p+1/\i= .int .i64 j/\qZ wr (w2.heap.size+1+1+1) w2.heap.size (p+1) j vsj (d7 G st Pl)/\Blk wr (w2.heap.size+1) 122 #[.slice (some ⟨w2.heap.size,0,none⟩) (p+1) (p+1)]/\Below w.heap.size w wr) (λi _=>p+1 - (intOf i).toNat)
   case atStart=>exact⟨0,vsr,Zv _,rfl,Xord0.out,Xk50.out,Xle0.out⟩
   case round=>
    clear Xord0 Xk50 Xle0 e5 hlt hlt';obtain⟨j,vsj,hj,rfl,od,k5,le⟩:=hrel;have e5:=(k5.cell 0).trans rfl;by_cases hlt:j<p+1
    ·have hlt':(j:Int)<(p:Int)+1:=(by omega);have hcj:=od.cell j hlt;have hown:=(od.own j (Zs _) hlt);obtain⟨Aj,cj,hvj,-,-⟩:=bH hown;have hlj:=ss G st Pl j;have hsm: ∀z∈d7 G st Pl j,SmI z:=λz hz=>by
      unfold d7 at hz
      split at hz
      ·cases hz
      ·have:=XhK.out.right (BB hz).1;exact⟨⟨this.1.1,by omega⟩,this.2.1,by omega⟩
     have odd:=od;rw [hvj]at hcj hown;have hPn:=od.hP;have hPl2:=od.hlo;have cord:=AX (w:=wr.drew) hown hsm rfl (by omega);have hzj:=od.frz j hlt;obtain⟨lj,hlj2⟩: ∃q,q=(d7 G st Pl j).length:=⟨_,rfl⟩;rw [<-hlj2]at hcj cord hlj;have hvj2:vsj j= .slice Aj lj cj:=(by rw [hvj,hlj2]);clear hown hvj hlj2 hlj;obtain⟨Xod,Xk5,Xle,Xcord,Xhsm,Xhvj2,Xhzj⟩:=de od k5 le cord hsm hvj2 hzj;clear od k5 le cord hsm hvj2 hzj
     go_wp2_with fail
     refine cQ (λW=>W.cell? ⟨w2.heap.size+1,0,none⟩=some (.slice (some ⟨w2.heap.size,0,none⟩) (p+1) (p+1))/\W.cell? ⟨w2.heap.size,j,none⟩=some (.slice Aj lj cj)) 6 7 (by kernel_rfl) (by kernel_rfl) ⟨e5,hcj⟩ ?_;simp only [Zq,Zr,Zc,Zd]
     iterate 6
      refine bI ?_ (by rfl) (λwS hwS=> ?_) ?_
      rotate_left
      ·(try dsimp only at hwS)
       go_simp
       all_goals with_reducible rfl
      simp only [Act.put,Zn,Zp,Zo]
     refine bU ?_;refine ay ?_
     go_wp2_with fail
     refine Xcord.out.mono ?_;rintro e w4 ⟨A4,n4,c4,rfl,hr4,t4⟩;have ht4:aa (λb=>(vsj j).ownBlock=some b) wr w4:=(by rw [Xhvj2.out];exact⟨t4.os,t4.tape,t4.output,t4.size,t4.block⟩);have hr4':aH w4 (λb=>(vsj j).ownBlock=some b) (.slice A4 n4 c4) (dg (d7 G st Pl j)):=(by rw [Xhvj2.out];exact hr4);obtain⟨od5,t5⟩:=Xod.out.next hlt hr4' ht4;have hnP: ¬(vsj j).ownBlock=some w2.heap.size:=λe=>by have:=((Xod.out.own j (Zs _) hlt).lt _ e).1;omega
     have hnP5: ¬(vsj j).ownBlock=some (w2.heap.size+1):=λe=>by have:=((Xod.out.own j (Zs _) hlt).lt _ e).1;omega
     have k54:=Xk5.out.touch ht4 hnP5;have e54:=(k54.cell 0).trans rfl;have c54:=ht4.cell hcj hnP;have z54:=(World.frozen?_of_block (a:=⟨w2.heap.size,j,none⟩) (ht4.block w2.heap.size (by omega) hnP)).trans Xhzj.out;have k55:=Xk5.out.touch t5 (by omega);have le5:=t5.toBelow (λk e=>by omega) Xle.out Xle.out.size;clear hr4 hr4' t4 ht4 t5 hnP hnP5 Xod Xk5 Xle Xcord Xhzj;obtain⟨Xod5,Xk54,Xk55,Xle5⟩:=aA od5 k54 k55 le5;clear od5 k54 k55 le5
     go_wp2_with fail
     refine⟨⟨e54,c54⟩,cX ?_⟩
     go_wp2_with fail
     refine NoPanic.normal ?_
     go_wp2_with fail
     go_roundw
     case rel=>exact⟨j+1,_,by omega,by go_num,Xod5.out,Xk55.out,Xle5.out⟩
     case measure=>simp [intOf];omega
    ·have hlt': ¬(j:Int)<(p:Int)+1:=(by omega);have rw':=od.rows (by omega);have hfun:(λi=>dg (d7 G st Pl i))=pg G st l:=funext Xhout.out;rw [hfun]at rw';obtain⟨Xod,Xk5,Xle,Xrw'⟩:=aA od k5 le rw';clear od k5 le rw'
     go_wp2_with fail
     go_ret
     exact⟨w2.heap.size,vsj,rfl,by have:=hPw;omega,Xrw'.out,Xle.out⟩
end
end Go.Proofs.YthlbjgabhpdbfaaGreat

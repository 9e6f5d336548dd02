/- Lookaheads: what is handed on. -/
import Derived.Test.YthlbjgabhpdbfaaGreatBLook4
import Derived.Test.YthlbjgabhpdbfaaGreatBAuto11
set_option linter.unusedVariables false
set_option linter.unusedSimpArgs false
set_option maxRecDepth 100000
set_option maxHeartbeats 4000000
namespace Go.Proofs.YthlbjgabhpdbfaaGreat
open Go.Proofs.Tryz
open Bool renaming or_eq_false_iff->Za,or_eq_true->Zb
open Go.RowKit
attribute [local irreducible] wpStill aB aO
def iE (m:Nat) (xs:Bool) (fx:Nat->Bool):Bool:=xs|| !decide (eL fx m 0<0)
theorem vA {m:Nat} {xs:Bool} {fx:Nat->Bool} (f: ∀a,m<=a->fx a=false):iE m xs fx=true↔xs=true\/ ∃a,fx a=true:=by
 unfold iE;rw [Zb,Bool.not_eq_true',decide_eq_false_iff_not,uS];constructor
 ·rintro(h|h)
  ·exact .inl h
  ·refine .inr (Classical.byContradiction λd=>h λa _=> ?_);cases e:fx a with
   |false=>rfl
   |true=>exact absurd ⟨a,e⟩ d
 ·rintro(h|⟨a,c⟩)
  ·exact .inl h
  ·refine .inr λd=> ?_
   have:a<m:=by
    apply Classical.byContradiction;intro g;rw [f a (by omega)]at c;cases c
   rw [d a this]at c;cases c
structure dW (V:World) (g o bt:Nat) (S:Nat->Prop) (m:Nat) (d d':Co) (e:Ending) (V':World):Prop where
 ret:e= .returned (.bool (fU m d d'))
 set:aG V' bt S m d'.f
 self:V'.cell? ⟨g,o+2,none⟩=some (.bool d'.self)
 blk: ∃W:World,W.heap[g]? =V.heap[g]? /\(V'=W\/V'=W.setCell ⟨g,o+2,none⟩ (.bool d'.self))
 t:aa (λb=>S b\/b=g) V V'
theorem AC {xs:Bool} {fx ln:Nat->Bool} {em:Bool} {d:Co}:bF false xs fx ln em d=d:=rfl
theorem DS (m:Nat) (d:Co):fU m d d=false:=by
 unfold fU;rw [oH];cases d.self<;>rfl
theorem xe {xs:Bool} {fx ln:Nat->Bool} {d:Co}:bF true xs fx ln false d=⟨d.s,λa=>d.f a||ln a,d.self⟩:=by unfold bF;simp
theorem xc {xs:Bool} {fx ln:Nat->Bool} {d:Co}:bF true xs fx ln true d=⟨d.s,λa=>(d.f a||ln a)||fx a,d.self||xs⟩:=by unfold bF;simp
section
variable {V : World}
theorem uU {M g o bt m:Nat} {px pt:Value} {fx ft:Nat->Bool} {Fx Ft S:Nat->Prop} {s:Int} {xs em:Bool} {d:Co} (ck:dx V Fx m px fx) (cK:dx V Ft m pt ft) (cf:aG V bt S m d.f)
  (c1:V.cell? ⟨g,o+1,none⟩=some (aq bt)) (c2:V.cell? ⟨g,o+2,none⟩=some (.bool d.self)) (f2:V.frozen? ⟨g,o+2,none⟩=false) (cG: ¬S g)
  (cB:(px=aq bt/\fx=d.f)\/ ∀k,Fx k-> ¬S k) (cE: ∀k,Ft k-> ¬S k) (cA: ∀k,Fx k->k<V.heap.size) (cz: ∀k,Ft k->k<V.heap.size):
  Calls prog 254 #[aq M,.agg #[.int .i64 s,px,.bool xs],.pointer (some ⟨g,o,none⟩),.agg #[pt,.bool em]] V (dW V g o bt S m d (bF (iE m xs fx) xs fx ft em d)):=by
 obtain⟨w1,bu⟩: ∃cu,V.alloc (.cells #[.int .i64 s,px,.bool xs] 293)=cu:=⟨_,rfl⟩;obtain⟨w2,bY⟩: ∃cu,w1.alloc (.cells #[pt,.bool em] 278)=cu:=⟨_,rfl⟩;have b8:Below V.heap.size V w1:=by rw [<-bu];exact(Below.refl _ _).alloc (Nat.le_refl _) _
 have b9:Below w1.heap.size w1 w2:=by rw [<-bY];exact(Below.refl _ _).alloc (Nat.le_refl _) _
 have J:=b8.trans (b9.mono b8.size);have cm:w1.heap.size=V.heap.size+1:=by rw [<-bu];simp
 have cn:Blk w2 V.heap.size 293 #[.int .i64 s,px,.bool xs]:=by
  have h:Blk w1 V.heap.size 293 #[.int .i64 s,px,.bool xs]:=by rw [<-bu];exact Blk.new _ _ _
  exact h.below b9 h.lt
 have co:Blk w2 (V.heap.size+1) 278 #[pt,.bool em]:=by
  have h:=Blk.new w1 278 #[pt,.bool em];rw [bY,cm]at h;exact h
 have a6:g<V.heap.size:=World.block_lt_of_cell? _ _ c1;have bW:=cf.lt;have b0:w2.cell? ⟨V.heap.size,1,none⟩=some px:=(cn.cell 1).trans rfl;have b1:w2.cell? ⟨V.heap.size,2,none⟩=some (.bool xs):=(cn.cell 2).trans rfl;have bz:w2.cell? ⟨V.heap.size+1,0,none⟩=some pt:=(co.cell 0).trans rfl;have bA:w2.cell? ⟨V.heap.size+1,1,none⟩=some (.bool em):=(co.cell 1).trans rfl;have cl:=ck.touch (aa.of_size J (λ_=>False)) (λ_ _ h=>h);have cM:=cK.touch (aa.of_size J (λ_=>False)) (λ_ _ h=>h);have cg:=cf.touch (aa.of_size J (λ_=>False)) (λ_ _ h=>h);have a4:=(J.cell (p:=⟨g,o+1,none⟩) a6).trans c1;have a5:=(J.cell (p:=⟨g,o+2,none⟩) a6).trans c2;have bg:=(World.frozen?_of_block (a:=⟨g,o+2,none⟩) (J.block g a6)).trans f2;have cy:=uK cl;have cx:dW V g o bt S m d d (.returned (.bool false)) w2:=⟨by rw [DS],cg,a5,⟨w2,J.block g a6,.inl rfl⟩,aa.of_size J _⟩;have cN:=ck.high;clear ck cK cf c1 c2 f2;unfold aq at a4;unfold aq;obtain⟨al,ce⟩: ∃al,al=iE m xs fx:=⟨_,rfl⟩;rw [<-ce];have cC:al=false->dW V g o bt S m d (bF al xs fx ft em d) (.returned (.bool false)) w2:=λe=>by rw [e,AC];exact cx
 have cH:g≠V.heap.size/\g≠V.heap.size+1:=⟨by omega,by omega⟩;have x: ¬S V.heap.size/\ ¬S (V.heap.size+1):=⟨λh=>by have:=bW _ h;omega,λh=>by have:=bW _ h;omega⟩;obtain⟨bO,bS,bR,bP,b4,cU,cv,c3,cT,cS,b5,cw,b6,c5⟩:=dh J cl cM cg cy bW cB cE cA cz ce cG cC cN;obtain⟨c4,W⟩:=av cH x;clear J cl cM cg cy bW cB cE cA cz ce cG cC cN cH x;clear cx cn co b8 b9;cases xs with
 |false=>
  by_cases cI:eL fx m 0<0
  ·have cc:al=false:=by rw [b5.out];unfold iE;rw [decide_eq_true cI];rfl
   have X:=b6.out cc;clear bz bA a4 a5 bg;obtain⟨D,c0⟩:=av X cc;clear X cc
   go_enter func254,ntmps254
   go_wp2_with fail
   refine b4.out.mono ?_;rintro e cR ⟨rfl,rfl⟩
   go_wp2_with fail
   go_ret
   exact D.out
  ·have cd:al=true:=by rw [b5.out];unfold iE;rw [decide_eq_false cI];rfl
   subst cd;clear b6
   go_enter func254,ntmps254
   go_wp2_with fail
   refine b4.out.mono ?_;rintro e cR ⟨rfl,rfl⟩
   go_wp2_with fail
   have y:w2.drew.cell? ⟨g,o+1,none⟩=some (.pointer (some ⟨bt,0,none⟩)):=a4;have a1:w2.drew.cell? ⟨V.heap.size+1,0,none⟩=some pt:=bz;have r:w2.drew.cell? ⟨g,o+2,none⟩=some (.bool d.self):=a5;have H:w2.drew.frozen? ⟨g,o+2,none⟩=false:=bg;have A:w2.drew.cell? ⟨V.heap.size,1,none⟩=some px:=b0;have I:w2.drew.cell? ⟨V.heap.size,2,none⟩=some (.bool false):=b1;have bx:w2.drew.cell? ⟨V.heap.size+1,1,none⟩=some (.bool em):=bA;refine wp_region_held_drew (S:=(λB=>B.cell? ⟨g,o+1,none⟩=some (.pointer (some ⟨bt,0,none⟩))/\B.cell? ⟨V.heap.size+1,0,none⟩=some pt)) (by kernel_rfl) ?_ (λhHeld=> ?_)
   ·exact⟨y,a1⟩
   have an:Below V.heap.size V w2.drew:=bO.out.drew;have aS:aG w2.drew bt S m d.f:=bP.out.drew;have bw:=bS.out.touch ((aa.refl (λ_=>False) w2).drew) (λ_ _ h=>h);have a0:=bR.out.touch ((aa.refl (λ_=>False) w2).drew) (λ_ _ h=>h);have q:=kY aS a0;have bi:w2.drew.heap[g]? =V.heap[g]? :=an.block g a6;unfold aq at q;clear a4 a5 bg b0 b1 bz bA bu bY cm bO bP bS bR;obtain⟨a9,ba,bd,b7,C,bb⟩:=aM an aS bw a0 q bi;clear an aS bw a0 q bi;generalize w2.drew=ct at *;refine tZ 0 ?_;try simp only [Act.put,sT,s0,s1]
   refine tZ 1 ?_;try simp only [Act.put,sT,s0,s1]
   refine tZ 2 ?_;try simp only [Act.put,sT,s0,s1]
   refine tZ 3 ?_;try simp only [Act.put,sT,s0,s1]
   refine tZ 4 ?_;try simp only [Act.put,sT,s0,s1]
   refine tZ 5 ?_;try simp only [Act.put,sT,s0,s1]
   refine wpAnyH_ready (rs:=[6]) (by kernel_rfl) (by simp) ?_;refine AllReadyH.cons (o:= ?_) ?_ (λY G=> ?_) AllReadyH.nil;rotate_left 1;(focus((try simp only [gT,gs,gz]);try rfl))
   go_simp
   go_at_call 232
   refine C.out.mono ?_;rintro e w3 ⟨rfl,Q,j⟩;have z:=cw.out;have x:=W.out;have R:=j.cell y z;have a2:=j.cell a1 x.2;have f:=j.cell r z;have T:=(World.frozen?_of_block (a:=⟨g,o+2,none⟩) (j.block g (World.block_lt_of_cell? _ _ r) z)).trans H;have a3:=j.cell A x.1;have U:=j.cell I x.1;have cr:=j.cell bx x.2;have a7:=And.intro R a2;have ch:=ba.out;have bC:aa (λb=>S b\/b=g) V w3:=(aa.of_size a9.out _).trans (j.mono (S':=λb=>S b\/b=g) (λb _ h=> .inl h)) (λ_ _ h=>h);have bl:w3.heap[g]? =V.heap[g]? :=(j.block g (World.block_lt_of_cell? _ _ r) z).trans bb.out;obtain⟨l,O⟩: ∃ap:Nat->Bool,ap=λa=>d.f a||ft a:=⟨_,rfl⟩
   rw [<-O]at Q⊢;obtain⟨cO,cP,bs,bh⟩: ∃(F':Nat->Prop) (f':Nat->Bool),dx w3 F' m px f'/\(λa=>l a||f' a)=λa=>l a||fx a:=by
    rcases cv.out with⟨ca,cb⟩|ci
    ·refine⟨S,l,.inr ⟨bt,S,ca,Q,λ_ h=>h⟩,?_⟩
     funext a
     rw [O,cb];show((d.f a||ft a)||(d.f a||ft a))=((d.f a||ft a)||d.f a);cases d.f a<;>cases ft a<;>rfl
    ·exact⟨Fx,fx,bd.out.touch j ci,rfl⟩
   clear y a1 r H A I bx j a9 ba b7 C bb hHeld ch bd;obtain⟨b2,L,N,K,Z,ak,ad,E,W⟩:=dQ a7 Q bC bl O bs bh z x;clear a7 Q bC bl O bs bh z x;refine G.out _ _ ?_ (λhHeld=> ?_)
   ·exact b2.out
   clear G Y
   try simp only [Act.put,sT,s0,s1]
   refine tZ 7 ?_;try simp only [Act.put,sT,s0,s1]
   refine wpAnyH_done (by kernel_rfl) ?_ _;cases em with
   |false=>
    have c:dW V g o bt S m d (bF true false fx ft false d) (.returned (.bool (aE m d.f l))) w3:=by
     rw [xe,<-Z.out];refine⟨?_,L.out,f,⟨w3,K.out,.inl rfl⟩,N.out⟩;unfold fU;cases d.self<;>simp
    clear R a2 f T a3 U L N K ak ad;have p:=ab c;clear c
    go_wp2_with fail
    go_ret
    exact p.out
   |true=>
    obtain⟨f2,P⟩: ∃ap:Nat->Bool,ap=λa=>l a||fx a:=⟨_,rfl⟩
    have q:=kY (L.out.drew) (ak.out.touch ((aa.refl (λ_=>False) w3).drew) (λ_ _ h=>h));rw [ad.out,<-P]at q;have aT:(aE m l f2||aE m d.f l)=aE m d.f f2:=jU (λa h=>by rw [Z.out];simp [h]) (λa h=>by rw [P];simp [h]);have X:bF true false fx ft true d=⟨d.s,f2,d.self||false⟩:=(by rw [xc,P,Z.out]);unfold aq at q;obtain⟨cs,bq⟩: ∃cp,cp=aE m l f2:=⟨_,rfl⟩;rw [<-bq]at q aT;clear a2 L ak ad P bq;obtain⟨C,ai,D⟩:=aK q aT X;clear q aT X
    go_wp2_with fail
    have y:w3.drew.cell? ⟨g,o+1,none⟩=some (.pointer (some ⟨bt,0,none⟩)):=R;have r:w3.drew.cell? ⟨g,o+2,none⟩=some (.bool d.self):=f;have H:w3.drew.frozen? ⟨g,o+2,none⟩=false:=T;have A:w3.drew.cell? ⟨V.heap.size,1,none⟩=some px:=a3;have I:w3.drew.cell? ⟨V.heap.size,2,none⟩=some (.bool false):=U;have bE:aa (λb=>S b\/b=g) V w3.drew:=N.out.drew;have bo:w3.drew.heap[g]? =V.heap[g]? :=K.out;clear R f T a3 U cr N K;refine wp_region_held_drew (S:=(λB=>B.cell? ⟨g,o+1,none⟩=some (.pointer (some ⟨bt,0,none⟩))/\B.cell? ⟨V.heap.size,1,none⟩=some px)) (by kernel_rfl) ?_ (λhHeld=> ?_)
    ·exact⟨y,A⟩
    obtain⟨be,bc⟩:=av bE bo;clear bE bo;generalize w3.drew=ct at *;refine tZ 0 ?_;try simp only [Act.put,sT,s0,s1]
    refine tZ 1 ?_;try simp only [Act.put,sT,s0,s1]
    refine tZ 2 ?_;try simp only [Act.put,sT,s0,s1]
    refine tZ 3 ?_;try simp only [Act.put,sT,s0,s1]
    refine tZ 4 ?_;try simp only [Act.put,sT,s0,s1]
    refine tZ 5 ?_;try simp only [Act.put,sT,s0,s1]
    refine wpAnyH_ready (rs:=[6]) (by kernel_rfl) (by simp) ?_;refine AllReadyH.cons (o:= ?_) ?_ (λY G=> ?_) AllReadyH.nil;rotate_left 1;(focus((try simp only [gT,gs,gz]);try rfl))
    go_simp
    go_at_call 232
    refine C.out.mono ?_;rintro e w5 ⟨rfl,br,w⟩;have a8:=And.intro (w.cell y E.out) (w.cell A W.out.1);have f:=w.cell r E.out;have T:=(World.frozen?_of_block (a:=⟨g,o+2,none⟩) (w.block g (World.block_lt_of_cell? _ _ r) E.out)).trans H;have U:=w.cell I W.out.1;have bB:aa (λb=>S b\/b=g) V w5:=be.out.trans (w.mono (S':=λb=>S b\/b=g) (λb _ h=> .inl h)) (λ_ _ h=>h);have bp:w5.heap[g]? =V.heap[g]? :=(w.block g (World.block_lt_of_cell? _ _ r) E.out).trans bc.out;clear y r H A I w be bc C hHeld;obtain⟨b3,u,v,t⟩:=aA a8 br bB bp;clear a8 br bB bp;refine G.out _ _ ?_ (λhHeld=> ?_)
    ·exact b3.out
    clear G Y
    try simp only [Act.put,sT,s0,s1]
    cases cs with
    |true=>
     refine tZ 7 ?_;try simp only [Act.put,sT,s0,s1]
     refine tk (i:=8) (oi:= ?_) (v:=undef) ?_ (by kernel_rfl) ?_ (Or.inr ⟨?_,rfl⟩) (by assumption) ?_;rotate_left 1;(focus((try simp only [gT,gs,gz]);try rfl));exact λ_ _ _ h=>h;rfl;try simp only [Act.put,sT,s0,s1]
     refine tZ 9 ?_;try simp only [Act.put,sT,s0,s1]
     refine tZ 10 ?_;try simp only [Act.put,sT,s0,s1]
     refine wpAnyH_done (by kernel_rfl) ?_ _;cases i:d.self with
     |true=>
      rw [i]at f;have c:dW V g o bt S m d ⟨d.s,f2,d.self||false⟩ (.returned (.bool true)) w5:=by
       refine⟨?_,u.out,by rw [i];exact f,⟨w5,t.out,.inl rfl⟩,v.out⟩;have:=ai.out;unfold fU;simp only;rw [<-this,i];simp
      clear u v t;have p:=ab c;clear c
      go_wp2_with fail
      go_ret
      rw [D.out];exact p.out
     |false=>
      rw [i]at f;have c:dW V g o bt S m d ⟨d.s,f2,d.self||false⟩ (.returned (.bool true)) w5:=by
       refine⟨?_,u.out,by rw [i];exact f,⟨w5,t.out,.inl rfl⟩,v.out⟩;have:=ai.out;unfold fU;simp only;rw [<-this,i];simp
      clear u v t;have p:=ab c;clear c
      go_wp2_with fail
      go_ret
      rw [D.out];exact p.out
    |false=>
     refine tZ 7 ?_;try simp only [Act.put,sT,s0,s1]
     refine tZ 8 ?_;try simp only [Act.put,sT,s0,s1]
     refine tZ 9 ?_;try simp only [Act.put,sT,s0,s1]
     refine tZ 10 ?_;try simp only [Act.put,sT,s0,s1]
     refine wpAnyH_done (by kernel_rfl) ?_ _;cases i:d.self with
     |true=>
      rw [i]at f;have c:dW V g o bt S m d ⟨d.s,f2,d.self||false⟩ (.returned (.bool (aE m d.f l))) w5:=by
       refine⟨?_,u.out,by rw [i];exact f,⟨w5,t.out,.inl rfl⟩,v.out⟩;have:=ai.out;unfold fU;simp only;rw [<-this,i];simp
      clear u v t;have p:=ab c;clear c
      go_wp2_with fail
      go_ret
      rw [D.out];exact p.out
     |false=>
      rw [i]at f;have c:dW V g o bt S m d ⟨d.s,f2,d.self||false⟩ (.returned (.bool (aE m d.f l))) w5:=by
       refine⟨?_,u.out,by rw [i];exact f,⟨w5,t.out,.inl rfl⟩,v.out⟩;have:=ai.out;unfold fU;simp only;rw [<-this,i];simp
      clear u v t;have p:=ab c;clear c
      go_wp2_with fail
      go_ret
      rw [D.out];exact p.out
 |true=>
  have cd:al=true:=by rw [b5.out];rfl
  subst cd;clear b6 b4
  go_enter func254,ntmps254
  go_wp2_with fail
  have y:w2.drew.cell? ⟨g,o+1,none⟩=some (.pointer (some ⟨bt,0,none⟩)):=a4;have a1:w2.drew.cell? ⟨V.heap.size+1,0,none⟩=some pt:=bz;have r:w2.drew.cell? ⟨g,o+2,none⟩=some (.bool d.self):=a5;have H:w2.drew.frozen? ⟨g,o+2,none⟩=false:=bg;have A:w2.drew.cell? ⟨V.heap.size,1,none⟩=some px:=b0;have I:w2.drew.cell? ⟨V.heap.size,2,none⟩=some (.bool true):=b1;have bx:w2.drew.cell? ⟨V.heap.size+1,1,none⟩=some (.bool em):=bA;refine wp_region_held_drew (S:=(λB=>B.cell? ⟨g,o+1,none⟩=some (.pointer (some ⟨bt,0,none⟩))/\B.cell? ⟨V.heap.size+1,0,none⟩=some pt)) (by kernel_rfl) ?_ (λhHeld=> ?_)
  ·exact⟨y,a1⟩
  have an:Below V.heap.size V w2.drew:=bO.out.drew;have aS:aG w2.drew bt S m d.f:=bP.out.drew;have bw:=bS.out.touch ((aa.refl (λ_=>False) w2).drew) (λ_ _ h=>h);have a0:=bR.out.touch ((aa.refl (λ_=>False) w2).drew) (λ_ _ h=>h);have q:=kY aS a0;have bi:w2.drew.heap[g]? =V.heap[g]? :=an.block g a6;unfold aq at q;clear a4 a5 bg b0 b1 bz bA bu bY cm bO bP bS bR;obtain⟨a9,ba,bd,b7,C,bb⟩:=aM an aS bw a0 q bi;clear an aS bw a0 q bi;generalize w2.drew=ct at *;refine tZ 0 ?_;try simp only [Act.put,sT,s0,s1]
  refine tZ 1 ?_;try simp only [Act.put,sT,s0,s1]
  refine tZ 2 ?_;try simp only [Act.put,sT,s0,s1]
  refine tZ 3 ?_;try simp only [Act.put,sT,s0,s1]
  refine tZ 4 ?_;try simp only [Act.put,sT,s0,s1]
  refine tZ 5 ?_;try simp only [Act.put,sT,s0,s1]
  refine wpAnyH_ready (rs:=[6]) (by kernel_rfl) (by simp) ?_;refine AllReadyH.cons (o:= ?_) ?_ (λY G=> ?_) AllReadyH.nil;rotate_left 1;(focus((try simp only [gT,gs,gz]);try rfl))
  go_simp
  go_at_call 232
  refine C.out.mono ?_;rintro e w3 ⟨rfl,Q,j⟩;have z:=cw.out;have x:=W.out;have R:=j.cell y z;have a2:=j.cell a1 x.2;have f:=j.cell r z;have T:=(World.frozen?_of_block (a:=⟨g,o+2,none⟩) (j.block g (World.block_lt_of_cell? _ _ r) z)).trans H;have a3:=j.cell A x.1;have U:=j.cell I x.1;have cr:=j.cell bx x.2;have a7:=And.intro R a2;have ch:=ba.out;have bC:aa (λb=>S b\/b=g) V w3:=(aa.of_size a9.out _).trans (j.mono (S':=λb=>S b\/b=g) (λb _ h=> .inl h)) (λ_ _ h=>h);have bl:w3.heap[g]? =V.heap[g]? :=(j.block g (World.block_lt_of_cell? _ _ r) z).trans bb.out;obtain⟨l,O⟩: ∃ap:Nat->Bool,ap=λa=>d.f a||ft a:=⟨_,rfl⟩
  rw [<-O]at Q⊢;obtain⟨cO,cP,bs,bh⟩: ∃(F':Nat->Prop) (f':Nat->Bool),dx w3 F' m px f'/\(λa=>l a||f' a)=λa=>l a||fx a:=by
   rcases cv.out with⟨ca,cb⟩|ci
   ·refine⟨S,l,.inr ⟨bt,S,ca,Q,λ_ h=>h⟩,?_⟩
    funext a
    rw [O,cb];show((d.f a||ft a)||(d.f a||ft a))=((d.f a||ft a)||d.f a);cases d.f a<;>cases ft a<;>rfl
   ·exact⟨Fx,fx,bd.out.touch j ci,rfl⟩
  clear y a1 r H A I bx j a9 ba b7 C bb hHeld ch bd;obtain⟨b2,L,N,K,Z,ak,ad,E,W⟩:=dQ a7 Q bC bl O bs bh z x;clear a7 Q bC bl O bs bh z x;refine G.out _ _ ?_ (λhHeld=> ?_)
  ·exact b2.out
  clear G Y
  try simp only [Act.put,sT,s0,s1]
  refine tZ 7 ?_;try simp only [Act.put,sT,s0,s1]
  refine wpAnyH_done (by kernel_rfl) ?_ _;cases em with
  |false=>
   have c:dW V g o bt S m d (bF true true fx ft false d) (.returned (.bool (aE m d.f l))) w3:=by
    rw [xe,<-Z.out];refine⟨?_,L.out,f,⟨w3,K.out,.inl rfl⟩,N.out⟩;unfold fU;cases d.self<;>simp
   clear R a2 f T a3 U L N K ak ad;have p:=ab c;clear c
   go_wp2_with fail
   go_ret
   exact p.out
  |true=>
   obtain⟨f2,P⟩: ∃ap:Nat->Bool,ap=λa=>l a||fx a:=⟨_,rfl⟩
   have q:=kY (L.out.drew) (ak.out.touch ((aa.refl (λ_=>False) w3).drew) (λ_ _ h=>h));rw [ad.out,<-P]at q;have aT:(aE m l f2||aE m d.f l)=aE m d.f f2:=jU (λa h=>by rw [Z.out];simp [h]) (λa h=>by rw [P];simp [h]);have X:bF true true fx ft true d=⟨d.s,f2,d.self||true⟩:=by rw [xc,P,Z.out]
   unfold aq at q;obtain⟨cs,bq⟩: ∃cp,cp=aE m l f2:=⟨_,rfl⟩;rw [<-bq]at q aT;clear a2 L ak ad P bq;obtain⟨C,ai,D⟩:=aK q aT X;clear q aT X
   go_wp2_with fail
   have y:w3.drew.cell? ⟨g,o+1,none⟩=some (.pointer (some ⟨bt,0,none⟩)):=R;have r:w3.drew.cell? ⟨g,o+2,none⟩=some (.bool d.self):=f;have H:w3.drew.frozen? ⟨g,o+2,none⟩=false:=T;have A:w3.drew.cell? ⟨V.heap.size,1,none⟩=some px:=a3;have I:w3.drew.cell? ⟨V.heap.size,2,none⟩=some (.bool true):=U;have bE:aa (λb=>S b\/b=g) V w3.drew:=N.out.drew;have bo:w3.drew.heap[g]? =V.heap[g]? :=K.out;clear R f T a3 U cr N K;refine wp_region_held_drew (S:=(λB=>B.cell? ⟨g,o+1,none⟩=some (.pointer (some ⟨bt,0,none⟩))/\B.cell? ⟨V.heap.size,1,none⟩=some px)) (by kernel_rfl) ?_ (λhHeld=> ?_)
   ·exact⟨y,A⟩
   obtain⟨be,bc⟩:=av bE bo;clear bE bo;generalize w3.drew=ct at *;refine tZ 0 ?_;try simp only [Act.put,sT,s0,s1]
   refine tZ 1 ?_;try simp only [Act.put,sT,s0,s1]
   refine tZ 2 ?_;try simp only [Act.put,sT,s0,s1]
   refine tZ 3 ?_;try simp only [Act.put,sT,s0,s1]
   refine tZ 4 ?_;try simp only [Act.put,sT,s0,s1]
   refine tZ 5 ?_;try simp only [Act.put,sT,s0,s1]
   refine wpAnyH_ready (rs:=[6]) (by kernel_rfl) (by simp) ?_;refine AllReadyH.cons (o:= ?_) ?_ (λY G=> ?_) AllReadyH.nil;rotate_left 1;(focus((try simp only [gT,gs,gz]);try rfl))
   go_simp
   go_at_call 232
   refine C.out.mono ?_;rintro e w5 ⟨rfl,br,w⟩;have a8:=And.intro (w.cell y E.out) (w.cell A W.out.1);have f:=w.cell r E.out;have T:=(World.frozen?_of_block (a:=⟨g,o+2,none⟩) (w.block g (World.block_lt_of_cell? _ _ r) E.out)).trans H;have U:=w.cell I W.out.1;have bB:aa (λb=>S b\/b=g) V w5:=be.out.trans (w.mono (S':=λb=>S b\/b=g) (λb _ h=> .inl h)) (λ_ _ h=>h);have bp:w5.heap[g]? =V.heap[g]? :=(w.block g (World.block_lt_of_cell? _ _ r) E.out).trans bc.out;clear y r H A I w be bc C hHeld;obtain⟨b3,u,v,t⟩:=aA a8 br bB bp;clear a8 br bB bp;refine G.out _ _ ?_ (λhHeld=> ?_)
   ·exact b3.out
   clear G Y
   try simp only [Act.put,sT,s0,s1]
   cases cs with
   |true=>
    refine tZ 7 ?_;try simp only [Act.put,sT,s0,s1]
    refine tk (i:=8) (oi:= ?_) (v:=undef) ?_ (by kernel_rfl) ?_ (Or.inr ⟨?_,rfl⟩) (by assumption) ?_;rotate_left 1;(focus((try simp only [gT,gs,gz]);try rfl));exact λ_ _ _ h=>h;rfl;try simp only [Act.put,sT,s0,s1]
    refine tZ 9 ?_;try simp only [Act.put,sT,s0,s1]
    refine tZ 10 ?_;try simp only [Act.put,sT,s0,s1]
    refine wpAnyH_done (by kernel_rfl) ?_ _;cases i:d.self with
    |true=>
     rw [i]at f;have c:dW V g o bt S m d ⟨d.s,f2,d.self||true⟩ (.returned (.bool true)) w5:=by
      refine⟨?_,u.out,by rw [i];exact f,⟨w5,t.out,.inl rfl⟩,v.out⟩;have:=ai.out;unfold fU;simp only;rw [<-this,i];simp
     clear u v t;have p:=ab c;clear c
     go_wp2_with fail
     go_ret
     rw [D.out];exact p.out
    |false=>
     rw [i]at f;have c:dW V g o bt S m d ⟨d.s,f2,true⟩ (.returned (.bool true)) (w5.setCell ⟨g,o+2,none⟩ (.bool true)):=by
      have bG:aa (λb=>b=g) w5 (w5.setCell ⟨g,o+2,none⟩ (.bool true)):=(aa.refl (λb=>b=g) w5).setCell (p:=⟨g,o+2,none⟩) (λ_=>rfl) _;refine⟨?_,u.out.touch bG (λk cj e=>E.out (e▸cj)),World.cell?_setCell_same' _ _ _ (by rw [f];rfl),⟨w5,t.out,.inr rfl⟩,v.out.trans (bG.mono (S':=λb=>S b\/b=g) (λb _ h=> .inr h)) (λ_ _ h=>h)⟩;unfold fU;simp [i]
     clear u v t;have p:=ab c;clear c
     go_wp2_with fail
     go_ret
     rw [D.out,Bool.or_true];exact p.out
   |false=>
    refine tZ 7 ?_;try simp only [Act.put,sT,s0,s1]
    refine tZ 8 ?_;try simp only [Act.put,sT,s0,s1]
    refine tZ 9 ?_;try simp only [Act.put,sT,s0,s1]
    refine tZ 10 ?_;try simp only [Act.put,sT,s0,s1]
    refine wpAnyH_done (by kernel_rfl) ?_ _;cases i:d.self with
    |true=>
     rw [i]at f;have c:dW V g o bt S m d ⟨d.s,f2,d.self||true⟩ (.returned (.bool (aE m d.f l))) w5:=by
      refine⟨?_,u.out,by rw [i];exact f,⟨w5,t.out,.inl rfl⟩,v.out⟩;have:=ai.out;unfold fU;simp only;rw [<-this,i];simp
     clear u v t;have p:=ab c;clear c
     go_wp2_with fail
     go_ret
     rw [D.out];exact p.out
    |false=>
     rw [i]at f;have c:dW V g o bt S m d ⟨d.s,f2,true⟩ (.returned (.bool true)) (w5.setCell ⟨g,o+2,none⟩ (.bool true)):=by
      have bG:aa (λb=>b=g) w5 (w5.setCell ⟨g,o+2,none⟩ (.bool true)):=(aa.refl (λb=>b=g) w5).setCell (p:=⟨g,o+2,none⟩) (λ_=>rfl) _;refine⟨?_,u.out.touch bG (λk cj e=>E.out (e▸cj)),World.cell?_setCell_same' _ _ _ (by rw [f];rfl),⟨w5,t.out,.inr rfl⟩,v.out.trans (bG.mono (S':=λb=>S b\/b=g) (λb _ h=> .inr h)) (λ_ _ h=>h)⟩;unfold fU;simp [i]
     clear u v t;have p:=ab c;clear c
     go_wp2_with fail
     go_ret
     rw [D.out,Bool.or_true];exact p.out
end
end Go.Proofs.YthlbjgabhpdbfaaGreat
namespace Go.Proofs.YthlbjgabhpdbfaaGreat
open Go.Proofs.Tryz
open Bool renaming or_eq_false_iff->Za,or_eq_true->Zb
def ku (m:Nat) (f:Nat->Bool):Bool:= !decide (eL f m 0<0)
theorem oe {m:Nat} {f:Nat->Bool}:ku m f=true↔ ∃a,a<m/\f a=true:=by
 unfold ku;rw [Bool.not_eq_true',decide_eq_false_iff_not,uS];constructor
 ·intro h;refine Classical.byContradiction λc=>h λa d=> ?_
  cases e:f a with
  |false=>rfl
  |true=>exact absurd ⟨a,d,e⟩ c
 ·rintro⟨a,d,h⟩ c;rw [c a d]at h;cases h
def ClE (m:Nat) (F:Nat->Nat->Bool) (e:Ed):Prop:=(∃t,t<m/\F e.at_ t=true)->(∀t,t<m->e.f t=true->F e.tq9.toNat t=true)/\(e.self=true-> ∀t,t<m->F e.at_ t=true->F e.tq9.toNat t=true)
inductive LE (F0:Nat->Nat->Bool) (ed:List Ed):Nat->Nat->Prop
 |base (p t:Nat):F0 p t=true->LE F0 ed p t
 |set (e:Ed) (t u:Nat):e∈ed->LE F0 ed e.at_ u->e.f t=true->LE F0 ed e.tq9.toNat t
 |self (e:Ed) (t:Nat):e∈ed->e.self=true->LE F0 ed e.at_ t->LE F0 ed e.tq9.toNat t
structure eh (m n:Nat) (F0:Nat->Nat->Bool) (ed:List Ed) (F:Nat->Nat->Bool) (k:Nat) (b:Bool) (F':Nat->Nat->Bool):Prop where
 le: ∀p t,F p t=true->F' p t=true
 snd: ∀p t,F' p t=true->LE F0 ed p t
 hi: ∀p t,p<n->m<=t->F' p t=false
 same:b=false->F'=F/\ ∀(j:Nat) e,j<k->ed[j]? =some e->ClE m F e
 less:b=true->bJ F' m n<bJ F m n
section
variable {m n : Nat} {F0 F F' : Nat -> Nat -> Bool} {ed : List Ed} {k : Nat} {b : Bool} {e : Ed}
theorem eh.start (d: ∀a c,F a c=true->LE F0 ed a c) (f: ∀a c,a<n->m<=c->F a c=false):eh m n F0 ed F 0 false F:=
 ⟨λ_ _ h=>h,d,f,λ_=>⟨rfl,λi e g=>by omega⟩,λh=>by cases h⟩
theorem eh.skip (h:eh m n F0 ed F k b F') (l:ed[k]? =some e) (f:ku m (F' e.at_)=false):eh m n F0 ed F (k+1) b F':=by
 refine⟨h.le,h.snd,h.hi,λc=>⟨(h.same c).1,λg i o a=> ?_⟩,h.less⟩;by_cases j:g=k
 ·subst j;rw [l]at a;injection a with a
  subst a;intro d;rw [<-(h.same c).1]at d;rw [oe.2 d]at f;cases f
 ·exact(h.same c).2 g i (by omega) a
theorem eh.grow {p:Nat} {f:Nat->Bool} (h:eh m n F0 ed F k b F') (q:p<n) (j: ∀a,F' p a=true->f a=true) (w: ∀a,f a=true->LE F0 ed p a) (o: ∀a,m<=a->f a=false):eh m n F0 ed F k (aE m (F' p) f||b) (bv F' p f):=by
 have v:bJ (bv F' p f) m n<=bJ F' m n:=kN q j;refine⟨λi a c=> ?_,λi a c=> ?_,λi a t g=> ?_,λd=> ?_,λd=> ?_⟩
 ·unfold bv
  split
  ·rename_i e;subst e;exact j a (h.le _ a c)
  ·exact h.le i a c
 ·unfold bv at c
  split at c
  ·rename_i e;subst e;exact w a c
  ·exact h.snd i a c
 ·unfold bv
  split
  ·exact o a g
  ·exact h.hi i a t g
 ·rw [Za]at d;have r:=lL d.1 j o;have s:bv F' p f=F':=j3 r;rw [s];exact h.same d.2
 ·rw [Zb]at d;cases l:b with
  |true=>exact Nat.lt_of_le_of_lt v (h.less l)
  |false=>
   have u:=d.resolve_right (by rw [l];simp);have g:=jR q u j;rw [(h.same l).1]at g⊢;exact g
theorem eh.mark {c:Bool} (h:eh m n F0 ed F k c F') (l:ed[k]? =some e) (j:c=false->ClE m F e):eh m n F0 ed F (k+1) c F':=by
 refine⟨h.le,h.snd,h.hi,λd=>⟨(h.same d).1,λf g o a=> ?_⟩,h.less⟩;by_cases i:f=k
 ·subst i;rw [l]at a;injection a with a
  subst a;exact j d
 ·exact(h.same d).2 f g (by omega) a
theorem eh.edge1 (h:eh m n F0 ed F k b F') (i:ed[k]? =some e) (g:ku m (F' e.at_)=true) (d:e.tq9.toNat<n) (j: ∀a,m<=a->e.f a=false):eh m n F0 ed F k (aE m (F' e.tq9.toNat) (λa=>F' e.tq9.toNat a||e.f a)||b) (bv F' e.tq9.toNat λa=>F' e.tq9.toNat a||e.f a):=by
 obtain⟨f,-,l⟩:=oe.1 g;refine h.grow d (λa c=>by simp [c]) (λa c=> ?_) (λa c=> ?_)
 ·rw [Zb]at c;rcases c with c|c
  ·exact h.snd _ a c
  ·exact .set e a f (List.mem_of_getElem? i) (h.snd _ f l) c
 ·rw [h.hi _ a d c,j a c];rfl
theorem eh.edge2 (h:eh m n F0 ed F k b F') (g:ed[k]? =some e) (i:e.self=true) (d:e.tq9.toNat<n) (f:e.at_<n):eh m n F0 ed F k (aE m (F' e.tq9.toNat) (λa=>F' e.tq9.toNat a||F' e.at_ a)||b) (bv F' e.tq9.toNat λa=>F' e.tq9.toNat a||F' e.at_ a):=by
 refine h.grow d (λa c=>by simp [c]) (λa c=> ?_) (λa c=> ?_)
 ·rw [Zb]at c;rcases c with c|c
  ·exact h.snd _ a c
  ·exact .self e a (List.mem_of_getElem? g) i (h.snd _ a c)
 ·rw [h.hi _ a d c,h.hi _ a f c];rfl
theorem eh.done1 (h:eh m n F0 ed F k b F') (d:ed[k]? =some e) (i:ku m (F' e.at_)=true) (p:e.tq9.toNat<n) (j: ∀a,m<=a->e.f a=false) (l:e.self=false):eh m n F0 ed F (k+1) (aE m (F' e.tq9.toNat) (λa=>F' e.tq9.toNat a||e.f a)||b) (bv F' e.tq9.toNat λa=>F' e.tq9.toNat a||e.f a):=by
 refine(h.edge1 d i p j).mark d λc _=> ?_
 rw [Za]at c;obtain⟨f,-⟩:=h.same c.2;subst f;exact⟨λa o g=>lK.1 c.1 a o (by simp [g]),λe=>by rw [l]at e;cases e⟩
theorem eh.done2 {F1:Nat->Nat->Bool} {b1:Bool} (h:eh m n F0 ed F k b F') (g:ed[k]? =some e) (r:ku m (F' e.at_)=true) (l:e.tq9.toNat<n) (s:e.at_<n) (t: ∀a,m<=a->e.f a=false) (u:e.self=true)
  (q:F1=bv F' e.tq9.toNat λa=>F' e.tq9.toNat a||e.f a) (j:b1=(aE m (F' e.tq9.toNat) (λa=>F' e.tq9.toNat a||e.f a)||b)):
  eh m n F0 ed F (k+1) (aE m (F1 e.tq9.toNat) (λa=>F1 e.tq9.toNat a||F1 e.at_ a)||b1) (bv F1 e.tq9.toNat λa=>F1 e.tq9.toNat a||F1 e.at_ a):=by
 have c:=h.edge1 g r l t;rw [<-q,<-j]at c;refine(c.edge2 g u l s).mark g λd _=> ?_
 rw [Za]at d;have f:=d.2;rw [j,Za]at f;obtain⟨o,-⟩:=h.same f.2;obtain⟨p,-⟩:=c.same d.2;subst o;rw [p]at d;exact⟨λa i c=>lK.1 f.1 a i (by simp [c]),λ_ a i c=>lK.1 d.1 a i (by simp [c])⟩
structure po (m n:Nat) (F0:Nat->Nat->Bool) (ed:List Ed) (F:Nat->Nat->Bool):Prop where
 le: ∀p t,F0 p t=true->F p t=true
 snd: ∀p t,F p t=true->LE F0 ed p t
 hi: ∀p t,p<n->m<=t->F p t=false
 closed: ∀e∈ed,ClE m F e
theorem eh.end_ (h:eh m n F0 ed F k false F') (p:ed.length<=k) (l: ∀a c,F0 a c=true->F a c=true):po m n F0 ed F':=by
 obtain⟨f,g⟩:=h.same rfl;subst f;refine⟨l,h.snd,h.hi,λe i=> ?_⟩;obtain⟨o,j,d⟩:=List.getElem_of_mem i;exact g o e (by omega) (by rw [List.getElem?_eq_getElem j,d])
end
end Go.Proofs.YthlbjgabhpdbfaaGreat

/- Packed tables: a table, packed. -/
import Derived.Test.YthlbjgabhpdbfaaGreatBPack3
set_option linter.unusedVariables false
set_option linter.unusedSimpArgs false
set_option maxRecDepth 100000
set_option maxHeartbeats 8000000
namespace Go.Proofs.YthlbjgabhpdbfaaGreat
open Go.Proofs.Tryz
open List renaming length_map->Za,length_take->Zb,mem_of_getElem?->Zc,setIfInBounds_toArray->Zd,set_cons_succ->Ze,set_cons_zero->Zf,take_of_length_le->Zg,take_succ_cons->Zh,take_zero->Zi
open Nat renaming le_refl->Zj,lt_of_lt_of_le->Zk,zero_le->Zl
open Go.RowKit Go.Maps
attribute [local irreducible] wpStill aB aO
theorem bL.touch {w w':World} {F S:Nat->Prop} {i f g:Value} {t:aW} (h:bL w F i f g t) (b:aa S w w') (c: ∀d,F d-> ¬S d):bL w' F i f g t:=
 ⟨h.rules.touch b c λr j _ e=>by
  obtain⟨p,l,m⟩:=e
  exact⟨p,l,Rd.touch m b c⟩,dH.mono' h.acts (λk a=>a.touch b c) (λq j a=>Rd.touch a b c),dH.mono' h.goto (λk a=>a.touch b c) (λq j a=>Rd.touch a b c),λo n=>Zk (h.lt o n) b.size,h.tn,h.wr⟩
theorem eJ.touch {w w':World} {F:Nat->Prop} {B:Nat} {A1:Option Addr} {c1:Nat} {A2:Option Addr} {c2:Nat} {A3:Option Addr} {c3 R n m:Nat} {T N:Int} {t:aW} {S:Nat->Prop} (h:eJ w F B A1 c1 A2 c2 A3 c3 R n m T N t) (b:aa S w w') (d: ∀a,F a-> ¬S a) (c: ¬S B):eJ w' F B A1 c1 A2 c2 A3 c3 R n m T N t:=⟨h.tab.touch b d,h.blk.touch b c⟩
def ow5 (P:Nat) (b:Nat):Nat:=if b=P then 1 else if b=P+1 then 3 else if b=P+2 then 2 else if b=P+3 then 7 else if b=P+4 then 6 else 0
theorem nh {P b:Nat} (h:b<P):ow5 P b=0:=by unfold ow5;rw [if_neg (by omega),if_neg (by omega),if_neg (by omega),if_neg (by omega),if_neg (by omega)]
theorem PkS.start (w3:World) (A1:Option Addr) (R c1:Nat) (T N:Int) (t:aW): ∃wS,wS=((((w3.alloc (.cells #[.slice A1 R c1,.int .i64 T,.int .i64 N,.slice none 0 0,.slice none 0 0,.slice none 0 0,.slice none 0 0] 52)).alloc (.map #[] 0)).alloc (.cells #[.map (some (w3.heap.size+1)),.slice none 0 0] 135)).alloc (.map #[] 0)).alloc (.cells #[.map (some (w3.heap.size+3)),.slice none 0 0] 135)/\
  PkS wS (ow5 w3.heap.size) wS (ow5 w3.heap.size) w3.heap.size (w3.heap.size+2) (w3.heap.size+1) (w3.heap.size+4) (w3.heap.size+3) A1 R c1 T N none 0 none 0 none 0 0 none 0 0 0 0 t/\Below w3.heap.size w3 wS/\wS.heap.size=w3.heap.size+5:=by
 obtain⟨a,g⟩: ∃a,a=w3.heap.size:=⟨_,rfl⟩;rw [<-g];obtain⟨f,h⟩: ∃b,b=w3.alloc (.cells #[.slice A1 R c1,.int .i64 T,.int .i64 N,.slice none 0 0,.slice none 0 0,.slice none 0 0,.slice none 0 0] 52):=⟨_,rfl⟩;obtain⟨c,i⟩: ∃b,b=f.alloc (.map #[] 0):=⟨_,rfl⟩;obtain⟨wc,j⟩: ∃b,b=c.alloc (.cells #[.map (some (a+1)),.slice none 0 0] 135):=⟨_,rfl⟩;obtain⟨d,k⟩: ∃b,b=wc.alloc (.map #[] 0):=⟨_,rfl⟩;obtain⟨wS,hwS⟩: ∃b,b=d.alloc (.cells #[.map (some (a+3)),.slice none 0 0] 135):=⟨_,rfl⟩;have x:f.heap.size=a+1:=by rw [h,g];simp
 have y:c.heap.size=a+2:=by rw [i];simp [x]
 have z:wc.heap.size=a+3:=by rw [j];simp [y]
 have A:d.heap.size=a+4:=by rw [k];simp [z]
 have H:wS.heap.size=a+5:=by rw [hwS];simp [A]
 have p:Below w3.heap.size w3 f:=by rw [h];exact(Below.refl _ _).alloc (Zj _) _
 have q:Below f.heap.size f c:=by rw [i];exact(Below.refl _ _).alloc (Zj _) _
 have s:Below c.heap.size c wc:=by rw [j];exact(Below.refl _ _).alloc (Zj _) _
 have v:Below wc.heap.size wc d:=by rw [k];exact(Below.refl _ _).alloc (Zj _) _
 have o:Below d.heap.size d wS:=by rw [hwS];exact(Below.refl _ _).alloc (Zj _) _
 have w:=v.trans (o.mono v.size);have u:=s.trans (w.mono s.size);have r:=q.trans (u.mono q.size);have E:Blk wS a 52 #[.slice A1 R c1,.int .i64 T,.int .i64 N,.slice none 0 0,.slice none 0 0,.slice none 0 0,.slice none 0 0]:=by
  have:=Blk.new w3 52 #[.slice A1 R c1,.int .i64 T,.int .i64 N,.slice none 0 0,.slice none 0 0,.slice none 0 0,.slice none 0 0];rw [<-h,<-g]at this;exact this.below r this.lt
 have C:Blk wS (a+2) 135 #[.map (some (a+1)),.slice none 0 0]:=by
  have:=Blk.new c 135 #[.map (some (a+1)),.slice none 0 0];rw [<-j,y]at this;exact this.below w this.lt
 have D:Blk wS (a+4) 135 #[.map (some (a+3)),.slice none 0 0]:=by
  have:=Blk.new d 135 #[.map (some (a+3)),.slice none 0 0];rwa [<-hwS,A]at this
 have F:c.ownsMap prog 9 (plainElem (H:=Unit) prog 3) (a+1) 0 (.map []):=by rw [i,<-x];exact World.ownsMap_made f prog 9 (plainElem (H:=Unit) prog 3)
 have G:d.ownsMap prog 9 (plainElem (H:=Unit) prog 3) (a+3) 0 (.map []):=by rw [k,<-z];exact World.ownsMap_made wc prog 9 (plainElem (H:=Unit) prog 3)
 refine⟨wS,by rw [hwS,k,j,i,h],⟨StL.refl _ _ _,by simp [ow5],E,?_,?_,Row.nil _ _ _ _ _,Row.nil _ _ _ _ _⟩,p.trans (r.mono p.size)|>.mono (by rw [g];exact Zj _),H⟩
 ·exact⟨rfl,by simp [ow5],by simp [ow5],C,⟨_,(aa.of_size u (λ_=>False)).ownsMap F (λe=>e),pi.empty⟩,⟨[],rfl,Row.nil _ _ _ _ _,λB I n m=>by simp at m⟩,λn l=>by cases l⟩
 ·exact⟨rfl,by simp [ow5],by simp [ow5],D,⟨_,(aa.of_size o (λ_=>False)).ownsMap G (λe=>e),pi.empty⟩,⟨[],rfl,Row.nil _ _ _ _ _,λB I n m=>by simp at m⟩,λn l=>by cases l⟩
def ig (w:World) (F:Nat->Prop) (t:aW) (e:Ending) (w':World):Prop:=Below w.heap.size w w'/\ ∃vr vrow vrows vgow vgows,e= .returned (.tuple #[PV vr (e7 t).terms (e7 t).nons vrow vrows vgow vgows,.bool (dE t)])/\dc w' (λb=>(F b\/w.heap.size<=b)/\b<w'.heap.size) vr vrow vrows vgow vgows (e7 t)
theorem ig.fin {w wS wr U l:World} {F:Nat->Prop} {A1:Option Addr} {R c1:Nat} {T N:Int} {A2:Option Addr} {c2:Nat} {A3:Option Addr} {c3:Nat} {v:Option Addr} {B:Nat} {u:Option Addr} {A:Nat} {r:Option Addr} {J y:Nat} {s:Option Addr} {K z n P aT a1 Bg a2:Nat} {d:Nat->Nat} {t:aW} (E:dE t=true) (D: ∀a,F a->a<w.heap.size) (hT:t.terms=T) (a8:t.nons=N) (Z:t.acts.length=n) (hm:t.goto.length=n) (bw:t.rules.length=R) (bu:w.heap.size+2<=P) (bx:wS.heap.size=P+5) (a9:d (w.heap.size+1)=0) (V:Below w.heap.size w wS)
  (i:PkS wS (ow5 P) wr d P aT a1 Bg a2 A1 R c1 T N v B u A r J y s K z n n t) (C:bL wr F (.slice A1 R c1) (.slice A2 n c2) (.slice A3 n c3) t) (bh:aa (λc=>c=P) wr U) (bg:aa (λc=>c=w.heap.size+1) U l):
  ig w F t (.returned (.tuple #[PV (.slice A1 R c1) T N (.slice v n B) (.slice r J y) (.slice u n A) (.slice s K z),.bool true])) l:=by
 have ad:e7 t=aZ t:=if_pos E;have a4:(bZ t).take n=bZ t:=Zg (by unfold bZ;rw [Za,Z];exact Zj _);have a5:(cY t).take n=cY t:=Zg (by unfold cY;rw [Za,hm];exact Zj _);have G:=i.ra;have H:=i.rg;have ak:=i.rr;have ai:=i.ro;rw [a4]at G ak;rw [a5]at H ai;have O:aa (λc=>c=P\/c=w.heap.size+1) wr l:=(bh.mono λc _ e=> .inl e).trans bg (λc _ e=> .inr e);have be: ∀a,a<P->d a=0:=λa b=>(i.st.eq a (by omega)).trans (nh b)
 have x:Below w.heap.size w wr:=i.st.t.toBelow (λa e=>by
  rcases Nat.lt_or_ge a P with h|h
  ·exact absurd (nh h) e
  ·omega) V V.size
 have W:Below w.heap.size w l:=O.toBelow (λa e=>by omega) x x.size;obtain⟨j,m⟩: ∃j:Nat->Prop,j=λa=>F a\/(a<wr.heap.size/\(d a=4\/d a=5\/d a=8\/d a=9\/d a=10\/d a=11)):=⟨_,rfl⟩
 have Y: ∀a,F a->j a:=λa b=>by rw [m];exact .inl b
 have p: ∀g,(g=4\/g=5\/g=8\/g=9\/g=10\/g=11)-> ∀a,TF wr d (λc=>c=g) a->j a:=λg hi a b=>by
  rw [m];have f:=b.1;have q:d a=g:=b.2;exact .inr ⟨f,by omega⟩
 have al:=(km E).2.1;have ap: ∀{o:List (List Int)},o.length<=16383-> ∀k∈(bn o).2,W64 k:=fun{o} bz k I=>by
  have f:=(List.all_eq_true.1 (ur (rs:=o))) k I;have q:=(eu o).le;unfold inR at f;simp only [Bool.and_eq_true,decide_eq_true_eq]at f;unfold W64;omega
 have an: ∀{bi bl L M aS a0:Nat} {Q:Option Addr} {c X:Nat} {S:List (List Int)},jn wr d bi bl L M aS a0 Q c X S->(L=4\/L=8)->(M=5\/M=9)->fe wr j (.slice Q c X) S:=λh f q=>by
  obtain⟨a3,bq,br,bs⟩:=h.row;exact⟨a3,bq,br.rd.mono (p _ (by omega)),λbd bp k ba I=>Rd.mono (bs bd bp k ba I) (p _ (by omega))⟩
 have bb:dc wr j (.slice A1 R c1) (.slice v n B) (.slice r J y) (.slice u n A) (.slice s K z) (aZ t):=by
  refine⟨C.rules.mono Y λbt k e=> ?_,ak.rd.mono (p 10 (by omega)),an G (.inl rfl) (.inl rfl),ai.rd.mono (p 11 (by omega)),an H (.inr rfl) (.inr rfl),λa b=> ?_,C.tn,C.wr,?_,?_,G.u16,H.u16⟩
  ·obtain⟨bo,f,q⟩:=e;exact⟨bo,f,Rd.mono q Y⟩
  ·rw [m]at b;rcases b with b|b
   ·have:=D a b;have:=x.size;omega
   ·exact b.1
  ·exact ap (by unfold bZ;rw [Za];exact al)
  ·exact ap (by unfold cY;rw [Za,hm,<-Z];exact al)
 have bc:=(bb.touch O (λa b e=>by
  rw [m]at b
  rcases b with b|⟨-,b⟩
  ·have:=D a b;omega
  ·rcases e with e|e
   ·subst e;rw [i.oP]at b;omega
   ·subst e;rw [a9]at b;omega)).mono (F':=λa=>(F a\/w.heap.size<=a)/\a<l.heap.size) (λa b=>by
  rw [m]at b
  rcases b with b|⟨f,b⟩
  ·exact⟨.inl b,by have:=D a b;have:=W.size;omega⟩
  ·refine⟨.inr ?_,Zk f O.size⟩
   rcases Nat.lt_or_ge a P with h|h
   ·rw [be a h]at b;omega
   ·omega) (λa b=>b.2)
 refine⟨W,_,_,_,_,_,?_,by rw [ad];exact bc⟩;rw [ad,E];have a6:(aZ t).terms=T:=hT;have a7:(aZ t).nons=N:=a8;rw [a6,a7]
theorem jS (a:World) (z:Nat) (u v x y q r s:Value):aa (λb=>b=z) a (((((((a.setCell ⟨z,0,none⟩ u).setCell ⟨z,1,none⟩ v).setCell ⟨z,2,none⟩ x).setCell ⟨z,3,none⟩ y).setCell ⟨z,4,none⟩ q).setCell ⟨z,5,none⟩ r).setCell ⟨z,6,none⟩ s):=
 ((((((((aa.refl (λb=>b=z) a).setCell (p:=⟨z,0,none⟩) (λ_=>rfl) u).setCell (p:=⟨z,1,none⟩) (λ_=>rfl) v).setCell (p:=⟨z,2,none⟩) (λ_=>rfl) x).setCell (p:=⟨z,3,none⟩) (λ_=>rfl) y).setCell (p:=⟨z,4,none⟩) (λ_=>rfl) q).setCell (p:=⟨z,5,none⟩) (λ_=>rfl) r).setCell (p:=⟨z,6,none⟩) (λ_=>rfl) s)
theorem pw {w:World} {F:Nat->Prop} {hj hg hh:Value} {t:aW} (h:bL w F hj hg hh t) (gk:ug t):
  Calls prog 29 #[TV hj t.terms t.nons hg hh] w (ig w F t):=by
 obtain⟨r,u,bS,cb,bW,cc,rfl,rfl,rfl,im,it,iv,iy,iD,iF⟩:=h.slices;have f4:=h.lt;obtain⟨w1,cm⟩: ∃w1,w1=w.alloc (.cells #[.slice r t.rules.length u,.int .i64 t.terms,.int .i64 t.nons,.slice bS t.acts.length cb,.slice bW t.goto.length cc] 35):=⟨_,rfl⟩;have es:=eJ.new h t.terms t.nons;have eb:Below w.heap.size w w1:=by rw [cm];exact(Below.refl _ w).alloc (Zj _) _
 rw [<-cm]at es;have eX:w1.heap.size=w.heap.size+1:=by rw [cm];simp
 obtain⟨wr,bx⟩: ∃b,b=w1.alloc (.cells #[.slice none 0 0,.int .i64 0,.int .i64 0,.slice none 0 0,.slice none 0 0,.slice none 0 0,.slice none 0 0] 52):=⟨_,rfl⟩;have ec:Below w1.heap.size w1 wr:=by rw [bx];exact(Below.refl _ _).alloc (Zj _) _
 have bP:Blk wr w1.heap.size 52 #[.slice none 0 0,.int .i64 0,.int .i64 0,.slice none 0 0,.slice none 0 0,.slice none 0 0,.slice none 0 0]:=by rw [bx];exact Blk.new _ _ _
 have c0:=es.below ec;have fL:=eb.trans (ec.mono eb.size);rw [eX]at bP;have eg:=B4 c0.tab;obtain⟨U,V,W,X,Y⟩:=c0.cells;have hf:=h.wr;have he:=h.tn;have g1:wr.heap.size=w.heap.size+2:=by rw [bx,World.size_alloc,eX]
 have ih:= @run_makeMap prog;rw [cm]at bx;have gi:dE t=(dI t&&(decide (t.acts.length<=16383)&&decide (t.rules.length<=16383))):=rfl;generalize hT:t.terms=B at *;generalize ga:t.nons=A at *;generalize gB:t.acts.length=k at *;generalize gc:t.rules.length=p at *;generalize hm:t.goto.length=ix at *;generalize dI t=hY at *;clear h cm es eb ec eX;rw [bx]at U V W X Y eg;obtain⟨fn,dF,fd,dd,d6,e9,h5,h4,hx,d1,dO,d4,ht,d3⟩:=dh gk f4 c0 fL bP eg hf he g1 hT ga gB gc hm;have cP:=ab gi;clear gk f4 c0 fL bP eg hf he g1 hT ga gB gc hm gi
 go_enter func29,ntmps29
 go_wp2_with fail
 with_reducible refine e9.out.mono ?_
 rintro e w2 ⟨rfl,s⟩;rw [<-bx]at s;have T:=fd.out.below s;have l:=d6.out.below s d6.out.lt;have S:=dd.out.trans (s.mono dd.out.size);have a7:w.heap.size+2<=w2.heap.size:=by have:=s.size;have:=hx.out;omega
 clear U V W X Y e9 fd d6 dd bx;obtain⟨U,V,W,X,Y⟩:=T.cells;obtain⟨d0,ej,el,em,en,ep,er⟩:w2.cell? ⟨w.heap.size+1,0,none⟩=some (.slice none 0 0)/\w2.cell? ⟨w.heap.size+1,1,none⟩=some (.int .i64 0)/\w2.cell? ⟨w.heap.size+1,2,none⟩=some (.int .i64 0)/\w2.cell? ⟨w.heap.size+1,3,none⟩=some (.slice none 0 0)/\w2.cell? ⟨w.heap.size+1,4,none⟩=some (.slice none 0 0)/\w2.cell? ⟨w.heap.size+1,5,none⟩=some (.slice none 0 0)/\w2.cell? ⟨w.heap.size+1,6,none⟩=some (.slice none 0 0):=⟨(l.cell 0).trans rfl,(l.cell 1).trans rfl,(l.cell 2).trans rfl,(l.cell 3).trans rfl,(l.cell 4).trans rfl,(l.cell 5).trans rfl,(l.cell 6).trans rfl⟩;have L:=l.frozen 0;have M:=l.frozen 1;have N:=l.frozen 2;have O:=l.frozen 3;have P:=l.frozen 4;have Q:=l.frozen 5;have e4:=l.frozen 6;cases gO:hY with
 |false=>
  subst gO;obtain⟨cN,a9,R,cM,d5⟩:=aX T l S s a7;clear T l S s a7
  go_wp2_with fail
  have a4:=cP.out;rw [Bool.false_and]at a4;have a5:dE t=false:=a4;have a6:e7 t=mY:=by unfold e7;rw [if_neg (by rw [a5];exact Bool.false_ne_true)]
  have j:=((((((a9.out.put 0 (.slice none 0 0)).put 1 (.int .i64 0)).put 2 (.int .i64 0)).put 3 (.slice none 0 0)).put 4 (.slice none 0 0)).put 5 (.slice none 0 0)).put 6 (.slice none 0 0);have bc:=(j.cell 0).trans rfl;have bd:=(j.cell 1).trans rfl;have be:=(j.cell 2).trans rfl;have bg:=(j.cell 3).trans rfl;have bh:=(j.cell 4).trans rfl;have bi:=(j.cell 5).trans rfl;have bl:=(j.cell 6).trans rfl;refine bodyPost_ret (v:= .tuple #[PV (.slice none 0 0) 0 0 (.slice none 0 0) (.slice none 0 0) (.slice none 0 0) (.slice none 0 0),.bool false]) (by simp [results,results29,go_sem,bc,bd,be,bg,bh,bi,bl]) rfl ?_;have cw:=jS w2 (w.heap.size+1) (.slice none 0 0) (.int .i64 0) (.int .i64 0) (.slice none 0 0) (.slice none 0 0) (.slice none 0 0) (.slice none 0 0);have ca:=cw.toBelow (λi e=>by omega) R.out R.out.size;refine⟨ca,_,_,_,_,_,by rw [a6,a5];rfl,?_⟩;rw [a6];exact dc.none _ _ (λc g=>g.2)
 |true=>
  subst gO;by_cases gE:k<=16383
  ·have hQ: ¬(16383:Int)<(k:Int):=by omega
   by_cases gd:p<=16383
   ·have hO: ¬(16383:Int)<(p:Int):=(by omega);have eG:dE t=true:=(by rw [cP.out,decide_eq_true gE,decide_eq_true gd];rfl);obtain⟨wS,hwS,gW,cR,g0⟩:=PkS.start w2 r p u B A t;have eR:wS=((((w2.alloc (.cells #[.slice r p u,.int .i64 B,.int .i64 A,.slice none 0 0,.slice none 0 0,.slice none 0 0,.slice none 0 0] 52)).alloc (.map #[] 0)).alloc (.cells #[.map (some (w2.heap.size+1)),.slice none 0 0] 135)).alloc (.map #[] 0)).alloc (.cells #[.map (some (w2.heap.size+1+1+1)),.slice none 0 0] 135):=hwS;have et:=T.below cR;have j:=l.below cR l.lt;have fF:=S.trans (cR.mono S.size);obtain⟨a,c1⟩: ∃b,b=w2.heap.size:=⟨_,rfl⟩;obtain⟨bE,eB⟩: ∃b,b=w2.heap.size+1+1:=⟨_,rfl⟩;obtain⟨Bg,eE⟩: ∃b,b=w2.heap.size+1+1+1+1:=⟨_,rfl⟩;have eQ:PkS wS (ow5 a) wS (ow5 a) a bE (w2.heap.size+1) Bg (w2.heap.size+3) r p u B A none 0 none 0 none 0 0 none 0 0 0 0 t:=(by rw [c1,eB,eE];exact gW);obtain⟨hn,f8⟩: ∃b,b=w2.heap.size+1:=⟨_,rfl⟩;obtain⟨ho,f9⟩: ∃b,b=w2.heap.size+3:=⟨_,rfl⟩;rw [<-f8,<-f9]at eQ;have al: ∀c,F c->ow5 a c=0:=λc g=>nh (by have:=dF.out c g;omega)
    have ak:ow5 a w.heap.size=0:=nh (by omega);have gg:ow5 a (w.heap.size+1)=0:=nh (by omega);have gb:w.heap.size+2<=a:=(by omega);have gh:wS.heap.size=a+5:=(by rw [g0,c1]);obtain⟨gA,hR,hN⟩:=uL (km eG).1;rw [d4.out,d3.out]at gA;subst gA;clear hwS gW cR g0 f8 f9 d0 ej el em en ep er L M N O P Q e4 hR hN;obtain⟨g4,g5,g6,g7,g8⟩:=et.cells;rw [eR]at g4 g5 g6 g7 g8;obtain⟨cN,a9,R,cM,d5,b2,dr,hy,hp,fx,bO,bG,fi,b1⟩:=dh T l S s a7 eG et j fF eQ al ak gg gb;have cO:=ab gh;clear T l S s a7 eG et j fF eQ al ak gg gb gh
    go_wp2_with fail
    rw [<-eR,<-eE,<-eB,<-c1];have al:=bO.out;have ak:=bG.out;have f5: ∀{f:World} (n:Nat->Nat) (c:Nat),F c->StL (λi=>i≠0) wS (ow5 a) f n->n c=0:=λn c g e3=>(e3.eq c (by have:=dF.out c g;have:=b1.out;have:=cO.out;omega)).trans (al c g)
    have f2: ∀{f:World} (n:Nat->Nat),StL (λi=>i≠0) wS (ow5 a) f n->n w.heap.size=0:=λn e3=>(e3.eq _ (by have:=b1.out;have:=cO.out;omega)).trans ak
    clear g4 g5 g6 g7 g8 U V W X Y eR eE eB c1 bO bG cN a9 R cM;obtain⟨bO,bG⟩:=av al ak;have f6:Hid (∀{f:World} (n:Nat->Nat) (c:Nat),F c->StL (λi=>i≠0) wS (ow5 a) f n->n c=0):=ab f5;have f3:Hid (∀{f:World} (n:Nat->Nat),StL (λi=>i≠0) wS (ow5 a) f n->n w.heap.size=0):=ab f2;clear f5 f2 al ak
    go_loopw [40] (λeZ wr=> ∃(d:Nat) (n:Nat->Nat) (a1:Option Addr) (a3:Nat) (a0:Option Addr) (a2:Nat) (z:Option Addr) (x C:Nat) (E:Option Addr) (D H:Nat),d<=k/\eZ= .int .i64 (d:Int)/\PkS wS (ow5 a) wr n a bE hn Bg ho r p u B A a1 a3 a0 a2 z x C E D H d d t) (λeZ _=>k - (intOf eZ).toNat)
    case atStart=>exact⟨0,ow5 a,none,0,none,0,none,0,0,none,0,0,Zl _,rfl,fx.out⟩
    case round=>
     clear fx;obtain⟨d,n,a1,a3,a0,a2,z,x,C,E,D,H,hi,rfl,m⟩:=hrel;have al:=bO.out;have ak:=bG.out;have cU:=dr.out.touch m.st.t (λc g e=>e (al c g)) (λe=>e ak);clear al ak;by_cases gl:d<k
     ·have hP:(d:Int)<(k:Int):=(by omega);obtain⟨Z,c2⟩: ∃Z,t.acts[d]? =some Z:=⟨_,List.getElem?_eq_getElem (by rw [d4.out];exact gl)⟩;obtain⟨ad,c3⟩: ∃ad,t.goto[d]? =some ad:=⟨_,List.getElem?_eq_getElem (by rw [d3.out];exact gl)⟩;have gm:=fn.out.1 Z (Zc c2);have gr:=fn.out.2 ad (Zc c3);have gF:(bZ t)[d]? =some (Z.map dD):=(by unfold bZ;rw [List.getElem?_map,c2];rfl);have gM:(cY t)[d]? =some (ad.map λy=>y+1):=(by unfold cY;rw [List.getElem?_map,c3];rfl);obtain⟨dS,dt,hv,hw,fs,ft,fv,fw⟩:=dA m cU c2 c3 gm gr gF gM;clear m cU c2 c3 gm gr gF gM
      go_wp2_with fail
      have g9:StL (λ_=>False) wr n wr.drew n:=⟨aa.of_size ((Below.refl _ wr).drew) _,λ_ _=>rfl⟩;have ew:=dS.out.step g9;have cS:=dt.out.touch (S:=λ_=>False) g9.t (λ_ _ e=>e) id;have ed:=vG cS.tab b2.out hv.out fs.out;rw [d1.out,dO.out]at ed;obtain⟨U,V,W,X,Y⟩:=cS.cells;have cr:=(ew.kP.cell 3).trans rfl;obtain⟨fg,fb,e6⟩:=aK ew cS ed;clear ew cS ed
      go_wp2_with fail
      refine cQ (λf=>f.cell? ⟨a,3,none⟩=some (.slice a1 d a3)/\f.cell? ⟨w.heap.size,0,none⟩=some (.slice r p u)/\f.cell? ⟨w.heap.size,1,none⟩=some (.int .i64 B)/\f.cell? ⟨w.heap.size,2,none⟩=some (.int .i64 A)/\f.cell? ⟨w.heap.size,3,none⟩=some (.slice bS k cb)/\f.cell? ⟨w.heap.size,4,none⟩=some (.slice bW k cc)) 5 8 (by kernel_rfl) (by kernel_rfl) ⟨cr,U,V,W,X,Y⟩ ?_;simp only [Zh,Zi,List.drop_succ_cons,List.drop_zero]
      iterate 5
       refine bI ?_ (by rfl) (λwS hwS=> ?_) ?_
       rotate_left
       ·(try dsimp only at hwS)
        go_simp
        all_goals with_reducible rfl
       simp only [Act.put,Zd,Zf,Ze]
      refine bU ?_;refine ay ?_
      go_wp2_with fail
      with_reducible refine e6.out.mono ?_
      rintro e w6 ⟨ba,c6,ei,rfl,cu⟩;obtain⟨co,bt⟩: ∃b,b=ext wr.drew n 5:=⟨_,rfl⟩;have bB:StL (λ_=>False) wr.drew n w6 co:=(by rw [bt];exact StL.new _ ba _ _);have J:=fg.out.step bB;have bo:=fb.out.below ba;have cv:RdU w6 (TF w6 co (λi=>i=5)) (.slice c6 (Z.map dD).length ei) (Z.map dD):=Rd.mono cu λc g=>⟨g.2,by rw [bt];exact dz g.1⟩
      have ch:x<=100000:=by
       have ce:=J.ra.hn;have cf:=(eu ((bZ t).take d)).le;rw [Zb]at cf;omega
      have cl:U16 (Z.map dD):=Cb b2.out _ (Zc fv.out);have cj:(Z.map dD).length<=70000:=(by rw [Za];exact fs.out);have I:=wT J.ra (by decide) cv cl cj ch;obtain⟨y0,cE,cG,cH,cI⟩:=bo.cells;have cK:=(J.kP.cell 3).trans rfl;obtain⟨aT,bu⟩: ∃b,b=plR (bn ((bZ t).take d)).1 (Z.map dD):=⟨_,rfl⟩;obtain⟨hS,br⟩: ∃b,b=(Z.map dD).length:=⟨_,rfl⟩;rw [<-br]at I⊢;unfold wv at I;rw [<-bu]at I;clear U V W X Y cr e6 fg fb ba cu cv bt ch cl cj;obtain⟨q,b0,bY,b4,d2,ea⟩:=aM J bo I bu br bB;clear J bo I bu br bB
      go_wp2_with fail
      refine⟨⟨cK,y0,cE,cG,cH,cI⟩,ay ?_⟩
      go_wp2_with fail
      with_reducible refine bY.out.mono ?_
      rintro e w7 ⟨rfl,cp,hk,hU,hK,K,cs⟩;have ai:=b0.out.touch K.t (λc g e=>by
       have ev:=f6.out _ c g (q.out.st)
       omega) (by
       have ev:=f3.out _ (q.out.st)
       omega)
      have ap:=q.out.kP.touch K.t (by rw [q.out.oP];omega);obtain⟨cx,cy,cz,cA,cB⟩:=ai.cells;have cC:=(ap.cell 3).trans rfl;obtain⟨w8,v⟩: ∃b,b=w7.alloc (.cells #[.int .i64 (aT:Int)] 3):=⟨_,rfl⟩;have G:Below w7.heap.size w7 w8:=(by rw [v];exact(Below.refl _ _).alloc (Zj _) _);obtain⟨e2,ck⟩: ∃b,b=ext w7 cp 12:=⟨_,rfl⟩;have bC:StL (λ_=>False) w7 cp w8 e2:=(by rw [ck];exact StL.new _ G _ _);have ct:=(q.out.rr.step K (by omega)).step bC id;have aS:=ct.own;have bs:Rd w8 (λc=>c=w7.heap.size) (.slice (some ⟨w7.heap.size,0,none⟩) 1 1) 1 [.int .i64 (aT:Int)]:=(by rw [v];exact Rd.one' (w:=w7) (e:=3) [.int .i64 (aT:Int)] 1 rfl);have cd:=ai.below G;obtain⟨L,M,N,O,P⟩:=cd.cells;have cn:=ap.below G ap.lt;have Q:=(cn.cell 3).trans rfl;obtain⟨h0,bw⟩: ∃b,b=(bn ((bZ t).take d)).2.map (Value.int .i64):=⟨_,rfl⟩;rw [<-bw]at aS;rw [v]at aS bs L M N O P Q;clear y0 cE cG cH cI cK bY cd cn ct ck ap b0;obtain⟨b6,b3,dn,b9,b8,b7,ds,b5⟩:=dA aS bs G bC K cs ai bw;clear aS bs G bC K cs ai bw
      go_wp2_with fail
      refine⟨⟨cC,cx,cy,cz,cA,cB⟩,ay ?_⟩
      go_wp2_with fail
      refine⟨⟨Q,L,M,N,O,P⟩,cX ?_⟩
      go_wp2_with (at_builtin;refine aJ _ rfl (.tmp 44) (.tmp 50) _ rfl elemInt 0 (.slice a1 d a3) d _ rfl b6.out _ _ [.int .i64 (aT:Int)] 1 rfl rfl b3.out (by simp [Value.oneCell']) (by unfold maxLen;omega) (by omega) (Zl _) ?_)
      intro a8 bb bR bA bp bq;rw [<-v]at bp;rw [show w7.heap.size+1=w8.heap.size by rw [v];simp]at bq;rw [b5.out,b4.out]at bA;obtain⟨c4,ey,e0⟩:=q.out.pushA fv.out b8.out b7.out b9.out bA bp bq;have hX:=(e0.cell 3).trans rfl;have hM:=e0.frozen 3;have f0:eJ (bR.setCell ⟨a,3,none⟩ (.slice a8 (d+1) bb)) F w.heap.size r u bS cb bW cc p k k B A t:=dr.out.touch ey.st.t (λc g e=>e (bO.out c g)) (λe=>e bG.out);clear bA bp bq e0 v b6 b3 dn b9 b8 b7 ds b5 b4 d2 q ea L M N O P Q cx cy cz cA cB cC;obtain⟨hr,hq⟩:=av ey f0;clear ey f0
      go_wp2_with fail
      refine NoPanic.normal ?_
      go_wp2_with fail
      have ha:StL (λ_=>False) (bR.setCell ⟨a,3,none⟩ (.slice a8 (d+1) bb)) c4 (bR.setCell ⟨a,3,none⟩ (.slice a8 (d+1) bb)).drew c4:=⟨aa.of_size ((Below.refl _ (bR.setCell ⟨a,3,none⟩ (.slice a8 (d+1) bb))).drew) _,λ_ _=>rfl⟩;have ex:=hr.out.step ha;have cT:=hq.out.touch (S:=λ_=>False) ha.t (λ_ _ e=>e) id;have ee:=vF cT.tab b2.out hw.out ft.out;rw [d1.out,dO.out]at ee;obtain⟨U,V,W,X,Y⟩:=cT.cells;have cr:=(ex.kP.cell 5).trans rfl;obtain⟨fh,fc,e8⟩:=aK ex cT ee;clear ex cT ee
      go_wp2_with fail
      refine cQ (λf=>f.cell? ⟨a,5,none⟩=some (.slice a0 d a2)/\f.cell? ⟨w.heap.size,0,none⟩=some (.slice r p u)/\f.cell? ⟨w.heap.size,1,none⟩=some (.int .i64 B)/\f.cell? ⟨w.heap.size,2,none⟩=some (.int .i64 A)/\f.cell? ⟨w.heap.size,3,none⟩=some (.slice bS k cb)/\f.cell? ⟨w.heap.size,4,none⟩=some (.slice bW k cc)) 5 8 (by kernel_rfl) (by kernel_rfl) ⟨cr,U,V,W,X,Y⟩ ?_;simp only [Zh,Zi,List.drop_succ_cons,List.drop_zero]
      iterate 5
       refine bI ?_ (by rfl) (λwS hwS=> ?_) ?_
       rotate_left
       ·(try dsimp only at hwS)
        go_simp
        all_goals with_reducible rfl
       simp only [Act.put,Zd,Zf,Ze]
      refine bU ?_;refine ay ?_
      go_wp2_with fail
      with_reducible refine e8.out.mono ?_
      rintro e w6 ⟨ba,c6,ei,rfl,cu⟩;obtain⟨co,bt⟩: ∃b,b=ext (bR.setCell ⟨a,3,none⟩ (.slice a8 (d+1) bb)).drew c4 9:=⟨_,rfl⟩;have bB:StL (λ_=>False) (bR.setCell ⟨a,3,none⟩ (.slice a8 (d+1) bb)).drew c4 w6 co:=(by rw [bt];exact StL.new _ ba _ _);have J:=fh.out.step bB;have bo:=fc.out.below ba;have cv:RdU w6 (TF w6 co (λi=>i=9)) (.slice c6 (ad.map λy=>y+1).length ei) (ad.map λy=>y+1):=Rd.mono cu λc g=>⟨g.2,by rw [bt];exact dz g.1⟩
      have ch:D<=100000:=by
       have ce:=J.rg.hn;have cf:=(eu ((cY t).take d)).le;rw [Zb]at cf;omega
      have cl:U16 (ad.map λy=>y+1):=Ca b2.out _ (Zc fw.out);have cj:(ad.map λy=>y+1).length<=70000:=(by rw [Za];exact ft.out);have I:=wT J.rg (by decide) cv cl cj ch;obtain⟨y0,cE,cG,cH,cI⟩:=bo.cells;have cK:=(J.kP.cell 5).trans rfl;obtain⟨aT,bu⟩: ∃b,b=plR (bn ((cY t).take d)).1 (ad.map λy=>y+1):=⟨_,rfl⟩;obtain⟨hS,br⟩: ∃b,b=(ad.map λy=>y+1).length:=⟨_,rfl⟩;rw [<-br]at I⊢;unfold wv at I;rw [<-bu]at I;clear U V W X Y cr e8 fh fc ba cu cv bt ch cl cj;obtain⟨q,b0,bY,b4,d2,ea⟩:=aM J bo I bu br bB;clear J bo I bu br bB
      go_wp2_with fail
      refine⟨⟨cK,y0,cE,cG,cH,cI⟩,ay ?_⟩
      go_wp2_with fail
      with_reducible refine bY.out.mono ?_
      rintro e w7 ⟨rfl,cp,hl,hV,hL,K,cs⟩;have ai:=b0.out.touch K.t (λc g e=>by
       have ev:=f6.out _ c g (q.out.st)
       omega) (by
       have ev:=f3.out _ (q.out.st)
       omega)
      have ap:=q.out.kP.touch K.t (by rw [q.out.oP];omega);obtain⟨cx,cy,cz,cA,cB⟩:=ai.cells;have cC:=(ap.cell 5).trans rfl;obtain⟨w8,v⟩: ∃b,b=w7.alloc (.cells #[.int .i64 (aT:Int)] 3):=⟨_,rfl⟩;have G:Below w7.heap.size w7 w8:=(by rw [v];exact(Below.refl _ _).alloc (Zj _) _);obtain⟨e2,ck⟩: ∃b,b=ext w7 cp 12:=⟨_,rfl⟩;have bC:StL (λ_=>False) w7 cp w8 e2:=(by rw [ck];exact StL.new _ G _ _);have ct:=(q.out.ro.step K (by omega)).step bC id;have aS:=ct.own;have bs:Rd w8 (λc=>c=w7.heap.size) (.slice (some ⟨w7.heap.size,0,none⟩) 1 1) 1 [.int .i64 (aT:Int)]:=(by rw [v];exact Rd.one' (w:=w7) (e:=3) [.int .i64 (aT:Int)] 1 rfl);have cd:=ai.below G;obtain⟨L,M,N,O,P⟩:=cd.cells;have cn:=ap.below G ap.lt;have Q:=(cn.cell 5).trans rfl;obtain⟨h0,bw⟩: ∃b,b=(bn ((cY t).take d)).2.map (Value.int .i64):=⟨_,rfl⟩;rw [<-bw]at aS;rw [v]at aS bs L M N O P Q;clear y0 cE cG cH cI cK bY cd cn ct ck ap b0;obtain⟨b6,b3,dn,b9,b8,b7,ds,b5⟩:=dA aS bs G bC K cs ai bw;clear aS bs G bC K cs ai bw
      go_wp2_with fail
      refine⟨⟨cC,cx,cy,cz,cA,cB⟩,ay ?_⟩
      go_wp2_with fail
      refine⟨⟨Q,L,M,N,O,P⟩,cX ?_⟩
      go_wp2_with (at_builtin;refine aJ _ rfl (.tmp 54) (.tmp 60) _ rfl elemInt 0 (.slice a0 d a2) d _ rfl b6.out _ _ [.int .i64 (aT:Int)] 1 rfl rfl b3.out (by simp [Value.oneCell']) (by unfold maxLen;omega) (by omega) (Zl _) ?_)
      intro e5 fT h1 bA bp bq;rw [<-v]at bp;rw [show w7.heap.size+1=w8.heap.size by rw [v];simp]at bq;rw [b5.out,b4.out]at bA;obtain⟨hW,eA,e1⟩:=q.out.pushG fw.out b8.out b7.out b9.out bA bp bq;have hX:=(e1.cell 5).trans rfl;have hM:=e1.frozen 5;have f1:eJ (h1.setCell ⟨a,5,none⟩ (.slice e5 (d+1) fT)) F w.heap.size r u bS cb bW cc p k k B A t:=dr.out.touch eA.st.t (λc g e=>e (bO.out c g)) (λe=>e bG.out);clear bA bp bq e1 v b6 b3 dn b9 b8 b7 ds b5 b4 d2 q ea L M N O P Q cx cy cz cA cB cC;obtain⟨hs,h2⟩:=av eA f1;clear eA f1
      go_wp2_with fail
      refine NoPanic.normal ?_
      go_wp2_with fail
      go_roundw
      case rel=>exact⟨d+1,hW,a8,bb,e5,fT,hk,hU,hK,hl,hV,hL,by omega,by go_num,hs.out⟩
      case measure=>simp [intOf];omega
     ·have hP: ¬(d:Int)<(k:Int):=(by omega);obtain rfl:k=d:=(by omega);have gf:=(m.st.eq (w.heap.size+1) (by have:=b1.out;have:=cO.out;omega)).trans fi.out;have bP:=hy.out.touch m.st.t (λe=>e fi.out);have g2:=m.kP;have g3:=bP;have h6:=(m.ra.blk.cell 1).trans rfl;have h7:=(m.rg.blk.cell 1).trans rfl;have iN:=(m.kP.cell 4).trans rfl;have iS:=(m.kP.cell 6).trans rfl;have h8:=m.kP.frozen 4;have h9:=m.kP.frozen 6;obtain⟨c8,ci⟩: ∃b,b=(wr.setCell ⟨a,4,none⟩ (.slice z x C)).setCell ⟨a,6,none⟩ (.slice E D H):=⟨_,rfl⟩;have c5:aa (λi=>i=a) wr c8:=(by rw [ci];exact((aa.refl (λi=>i=a) wr).setCell (p:=⟨a,4,none⟩) (λ_=>rfl) _).setCell (p:=⟨a,6,none⟩) (λ_=>rfl) _);have an:Blk c8 a 52 #[.slice r p u,.int .i64 B,.int .i64 A,.slice a1 k a3,.slice z x C,.slice a0 k a2,.slice E D H]:=(by rw [ci];exact(g2.put 4 (.slice z x C)).put 6 (.slice E D H));have o:=g3.touch c5 (by have:=b1.out;omega);have hD:=(an.cell 0).trans rfl;have hE:=(an.cell 1).trans rfl;have hF:=(an.cell 2).trans rfl;have hG:=(an.cell 3).trans rfl;have hH:=(an.cell 4).trans rfl;have hI:=(an.cell 5).trans rfl;have hJ:=(an.cell 6).trans rfl;have d0:=(o.cell 0).trans rfl;have ej:=(o.cell 1).trans rfl;have el:=(o.cell 2).trans rfl;have em:=(o.cell 3).trans rfl;have en:=(o.cell 4).trans rfl;have ep:=(o.cell 5).trans rfl;have er:=(o.cell 6).trans rfl;have L:=o.frozen 0;have M:=o.frozen 1;have N:=o.frozen 2;have O:=o.frozen 3;have P:=o.frozen 4;have Q:=o.frozen 5;have e4:=o.frozen 6;rw [ci]at hD hE hF hG hH hI hJ d0 ej el em en ep er L M N O P Q e4;have fz: ∀f,aa (λi=>i=a) wr f->f.drew.cell? ⟨bE,1,none⟩=some (.slice z x C)/\f.drew.cell? ⟨Bg,1,none⟩=some (.slice E D H):=λf hd=>⟨hd.cell (p:=⟨bE,1,none⟩) (m.ra.blk.cell 1) (λe=>by have ce:=m.ra.oB;have cf:=m.oP;rw [show bE=a from e]at ce;omega),hd.cell (p:=⟨Bg,1,none⟩) (m.rg.blk.cell 1) (λe=>by have ce:=m.rg.oB;have cf:=m.oP;rw [show Bg=a from e]at ce;omega)⟩
      have hc:aa (λi=>i=a) wr (wr.setCell ⟨a,4,none⟩ (.slice z x C)):=(aa.refl (λi=>i=a) wr).setCell (p:=⟨a,4,none⟩) (λ_=>rfl) _;have hb:aa (λi=>i=a) wr ((wr.setCell ⟨a,4,none⟩ (.slice z x C)).setCell ⟨a,6,none⟩ (.slice E D H)):=(by rw [<-ci];exact c5);clear g2 g3 bP;obtain⟨dS,dt,hu,hC,h3,hz,c9,hB,hA⟩:=dQ m cU gf c5 an o fz hc hb;clear m cU gf c5 an o fz hc hb
      go_wp2_with fail
      refine wp_region_held_drew (S:=(λf:World=>f.cell? ⟨bE,1,none⟩=some (.slice z x C)/\f.cell? ⟨Bg,1,none⟩=some (.slice E D H))) (by kernel_rfl) ?_ (λhHeld=> ?_)
      ·exact c9.out _ (aa.refl _ _)
      refine tZ 0 ?_;try simp only [Act.put,sT,s0,s1]
      refine tZ 1 ?_;try simp only [Act.put,sT,s0,s1]
      refine tZ 2 ?_;try simp only [Act.put,sT,s0,s1]
      refine tZ 3 ?_;try simp only [Act.put,sT,s0,s1]
      refine tZ 4 ?_;try simp only [Act.put,sT,s0,s1]
      refine tZ 5 ?_;try simp only [Act.put,sT,s0,s1]
      refine tZ 6 ?_;try simp only [Act.put,sT,s0,s1]
      refine tZ 7 ?_;try simp only [Act.put,sT,s0,s1]
      refine tZ 8 ?_;try simp only [Act.put,sT,s0,s1]
      refine wpAnyH_ready (rs:=[9]) (by kernel_rfl) (by simp) ?_;refine AllReadyH.cons (o:= ?_) ?_ (λc7 cg=> ?_) AllReadyH.nil;rotate_left 1;(focus((try simp only [gT,gs,gz]);try rfl))
      go_simp
      refine cg.out _ _ ?_ (λhHeld=> ?_)
      ·exact c9.out _ hB.out
      clear cg c7
      try simp only [Act.put,sT,s0,s1]
      refine tZ 10 ?_;try simp only [Act.put,sT,s0,s1]
      refine wpAnyH_ready (rs:=[11]) (by kernel_rfl) (by simp) ?_;refine AllReadyH.cons (o:= ?_) ?_ (λc7 cg=> ?_) AllReadyH.nil;rotate_left 1;(focus((try simp only [gT,gs,gz]);try rfl))
      go_simp
      refine cg.out _ _ ?_ (λhHeld=> ?_)
      ·exact c9.out _ hA.out
      clear cg c7
      try simp only [Act.put,sT,s0,s1]
      refine wpAnyH_done (by kernel_rfl) ?_ _
      go_wp2_with fail
      rw [<-ci];have m:=dS.out;have bz:=((((((hz.out.put 0 (.slice r p u)).put 1 (.int .i64 B)).put 2 (.int .i64 A)).put 3 (.slice a1 k a3)).put 4 (.slice z x C)).put 5 (.slice a0 k a2)).put 6 (.slice E D H);have bc:=(bz.cell 0).trans rfl;have bd:=(bz.cell 1).trans rfl;have be:=(bz.cell 2).trans rfl;have bg:=(bz.cell 3).trans rfl;have bh:=(bz.cell 4).trans rfl;have bi:=(bz.cell 5).trans rfl;have bl:=(bz.cell 6).trans rfl;have hZ:=jS c8 (w.heap.size+1) (.slice r p u) (.int .i64 B) (.int .i64 A) (.slice a1 k a3) (.slice z x C) (.slice a0 k a2) (.slice E D H);refine bodyPost_ret (v:= .tuple #[PV (.slice r p u) B A (.slice a1 k a3) (.slice z x C) (.slice a0 k a2) (.slice E D H),.bool true]) (by simp [results,results29,go_sem,bc,bd,be,bg,bh,bi,bl]) rfl ?_;exact ig.fin b2.out dF.out d1.out dO.out d4.out d3.out ht.out b1.out cO.out hu.out hp.out m dt.out.tab hC.out (hZ.trans' (aa.of_size ((Below.refl _ _).drew) _))
   ·have hO:(16383:Int)<(p:Int):=(by omega);obtain⟨cN,a9,R,cM,d5⟩:=aX T l S s a7;clear T l S s a7
    go_wp2_with fail
    have a4:=cP.out;rw [decide_eq_false gd,Bool.and_false,Bool.and_false]at a4;have a5:dE t=false:=a4;have a6:e7 t=mY:=(by unfold e7;rw [if_neg (by rw [a5];exact Bool.false_ne_true)]);have j:=((((((a9.out.put 0 (.slice none 0 0)).put 1 (.int .i64 0)).put 2 (.int .i64 0)).put 3 (.slice none 0 0)).put 4 (.slice none 0 0)).put 5 (.slice none 0 0)).put 6 (.slice none 0 0);have bc:=(j.cell 0).trans rfl;have bd:=(j.cell 1).trans rfl;have be:=(j.cell 2).trans rfl;have bg:=(j.cell 3).trans rfl;have bh:=(j.cell 4).trans rfl;have bi:=(j.cell 5).trans rfl;have bl:=(j.cell 6).trans rfl;refine bodyPost_ret (v:= .tuple #[PV (.slice none 0 0) 0 0 (.slice none 0 0) (.slice none 0 0) (.slice none 0 0) (.slice none 0 0),.bool false]) (by simp [results,results29,go_sem,bc,bd,be,bg,bh,bi,bl]) rfl ?_;have cw:=jS w2 (w.heap.size+1) (.slice none 0 0) (.int .i64 0) (.int .i64 0) (.slice none 0 0) (.slice none 0 0) (.slice none 0 0) (.slice none 0 0);have ca:=cw.toBelow (λi e=>by omega) R.out R.out.size;refine⟨ca,_,_,_,_,_,by rw [a6,a5];rfl,?_⟩;rw [a6];exact dc.none _ _ (λc g=>g.2)
  ·have hQ:(16383:Int)<(k:Int):=by omega
   obtain⟨cN,a9,R,cM,d5⟩:=aX T l S s a7;clear T l S s a7
   go_wp2_with fail
   have a4:=cP.out;rw [decide_eq_false gE,Bool.false_and,Bool.and_false]at a4;have a5:dE t=false:=a4;have a6:e7 t=mY:=by unfold e7;rw [if_neg (by rw [a5];exact Bool.false_ne_true)]
   have j:=((((((a9.out.put 0 (.slice none 0 0)).put 1 (.int .i64 0)).put 2 (.int .i64 0)).put 3 (.slice none 0 0)).put 4 (.slice none 0 0)).put 5 (.slice none 0 0)).put 6 (.slice none 0 0);have bc:=(j.cell 0).trans rfl;have bd:=(j.cell 1).trans rfl;have be:=(j.cell 2).trans rfl;have bg:=(j.cell 3).trans rfl;have bh:=(j.cell 4).trans rfl;have bi:=(j.cell 5).trans rfl;have bl:=(j.cell 6).trans rfl;refine bodyPost_ret (v:= .tuple #[PV (.slice none 0 0) 0 0 (.slice none 0 0) (.slice none 0 0) (.slice none 0 0) (.slice none 0 0),.bool false]) (by simp [results,results29,go_sem,bc,bd,be,bg,bh,bi,bl]) rfl ?_;have cw:=jS w2 (w.heap.size+1) (.slice none 0 0) (.int .i64 0) (.int .i64 0) (.slice none 0 0) (.slice none 0 0) (.slice none 0 0) (.slice none 0 0);have ca:=cw.toBelow (λi e=>by omega) R.out R.out.size;refine⟨ca,_,_,_,_,_,by rw [a6,a5];rfl,?_⟩;rw [a6];exact dc.none _ _ (λc g=>g.2)
end Go.Proofs.YthlbjgabhpdbfaaGreat

/- The automaton: the builder in memory; what stands behind a dot; a symbol's items. -/
import Derived.Test.YthlbjgabhpdbfaaGreatBItemLay
import Derived.Test.YthlbjgabhpdbfaaGreatBFirstPlain
set_option linter.unusedVariables false
set_option linter.unusedSimpArgs false
set_option maxRecDepth 100000
set_option maxHeartbeats 4000000
namespace Go.Proofs.YthlbjgabhpdbfaaGreat
open Go.Proofs.Tryz
open Int renaming eq_ofNat_of_zero_le->Za
open Nat renaming le_refl->Zb,lt_of_lt_of_le->Zc
section
open Go.RowKit
attribute [local irreducible] wpStill aB aO
abbrev PtB (b:Nat):Value:= .pointer (some ⟨b,0,none⟩)
theorem mn (a:World) (z:Nat) (u v:Value):aa (λb=>b=z) a ((a.setCell ⟨z,0,none⟩ u).setCell ⟨z,1,none⟩ v):=
 ((aa.refl (λb=>b=z) a).setCell (p:=⟨z,0,none⟩) (λ_=>rfl) u).setCell (p:=⟨z,1,none⟩) (λ_=>rfl) v
structure Bd (w:World) (F:Nat->Prop) (B:Nat) (A1:Option Addr) (c1:Nat) (A2:Option Addr) (c2:Nat) (A3:Option Addr) (c3 T N R:Nat) (st:Int) (G:ac) (vb vs:Value) (m1 m2:Nat):Prop where
 gram:bk w F (.slice A1 T c1) (.slice A2 N c2) (.slice A3 R c3) G
 blk:Blk w B 124 #[.slice A1 T c1,.slice A2 N c2,.slice A3 R c3,.int .i64 st,vb,vs,.map (some m1),.map (some m2)]
section
variable {w w' : World} {F : Nat -> Prop} {B : Nat} {A1 : Option Addr} {c1 : Nat} {A2 : Option Addr} {c2 : Nat} {A3 : Option Addr} {c3 T N R : Nat} {st : Int} {G : ac} {vb vs : Value} {m1 m2 : Nat}
theorem Bd.below (h:Bd w F B A1 c1 A2 c2 A3 c3 T N R st G vb vs m1 m2) (a:Below w.heap.size w w'):Bd w' F B A1 c1 A2 c2 A3 c3 T N R st G vb vs m1 m2:=⟨h.gram.below a,h.blk.below a h.blk.lt⟩
theorem Bd.touch {S:Nat->Prop} (h:Bd w F B A1 c1 A2 c2 A3 c3 T N R st G vb vs m1 m2) (b:aa S w w') (e: ∀a,F a-> ¬S a) (d: ¬S B):Bd w' F B A1 c1 A2 c2 A3 c3 T N R st G vb vs m1 m2:=⟨h.gram.touch b e,h.blk.touch b d⟩
theorem Bd.drew (h:Bd w F B A1 c1 A2 c2 A3 c3 T N R st G vb vs m1 m2):Bd w.drew F B A1 c1 A2 c2 A3 c3 T N R st G vb vs m1 m2:=h.below ((Below.refl _ w).drew)
theorem Bd.cells (h:Bd w F B A1 c1 A2 c2 A3 c3 T N R st G vb vs m1 m2):w.cell? ⟨B,0,none⟩=some (.slice A1 T c1)/\w.cell? ⟨B,1,none⟩=some (.slice A2 N c2)/\w.cell? ⟨B,2,none⟩=some (.slice A3 R c3)/\w.cell? ⟨B,3,none⟩=some (.int .i64 st):=
 ⟨(h.blk.cell 0).trans rfl,(h.blk.cell 1).trans rfl,(h.blk.cell 2).trans rfl,(h.blk.cell 3).trans rfl⟩
end
def nS (w:World) (F:Nat->Prop) (r:(Int×List Int)×Bool) (e:Ending) (w':World):Prop:=
 ∃A n c,e= .returned (.tuple #[.agg #[.int .i64 r.1.1,.slice A n c],.bool r.2])/\RdI w' (λb=>F b\/(w.heap.size<=b/\b<w'.heap.size)) (.slice A n c) r.1.2/\Below w.heap.size w w'
theorem nS.mk {w w':World} {F:Nat->Prop} {r:(Int×List Int)×Bool} {l:Int} {A:Option Addr} {n c:Nat} {xs:List Int} {b:Bool} {e:Ending} (f:e= .returned (.tuple #[.agg #[.int .i64 l,.slice A n c],.bool b])) (i:r=((l,xs),b)) (h:RdI w' (λa=>F a\/(w.heap.size<=a/\a<w'.heap.size)) (.slice A n c) xs) (d:Below w.heap.size w w'):nS w F r e w':=by
 subst i f;exact⟨A,n,c,rfl,h,d⟩
theorem oO {w:World} {F:Nat->Prop} {L J K:Value} {G:ac} (h:bk w F L J K G) (st i:Int):
  Calls prog 72 #[GV L J K st,.int .i64 i] w (nS w F (aD G st i)):=by
 have C:=h.lt;have H:=h.small;obtain⟨A1,c1,A2,c2,A3,c3,rfl,rfl,rfl,aT,a0,ad,m1,m2,a1⟩:=h.slices;obtain⟨-,-,-,o⟩:=dP.at_ h.rules;obtain⟨n,d⟩: ∃n,n=G.rules.length:=⟨_,rfl⟩;have x:(i<0\/(n:Int)<i)->aD G st i=((0,[]),false):=λe=>by unfold aD;rw [<-d,if_pos e]
 have y:i=(n:Int)->aD G st i=((0,[st]),true):=λe=>by unfold aD;rw [<-d,if_neg (by omega),if_pos e]
 have z: ∀(a:Nat) (l:Int) (j:List Int),i=(a:Int)->a<n->G.rules[a]? =some (l,j)->aD G st i=((l,j),true):=λa l j e ak k=>by
  unfold aD;rw [<-d,if_neg (by omega),if_neg (by omega),show i.toNat=a by omega,k];rfl
 rw [<-d]at H o ad⊢;obtain⟨s1,a2,a3⟩:=H;have S:=ab d;have P:=ab o;have m:=ab C;have u:=ab x;have M:=ab y;have O:=ab z;clear d o C h x y z;by_cases V:i<0
 ·go_enter func72,ntmps72
  go_wp2_with fail
  refine bodyPost_ret (v:= .tuple #[.agg #[.int .i64 0,.slice none 0 0],.bool false]) (by simp [results,results72,go_sem]) rfl ?_;exact nS.mk rfl (u.out (.inl V)) (Rd.nil _ _ _) (((Below.refl _ w).alloc (Zb _) _).alloc (by simp) _)
 ·by_cases W:(n:Int)<i
  ·go_enter func72,ntmps72
   go_wp2_with fail
   refine bodyPost_ret (v:= .tuple #[.agg #[.int .i64 0,.slice none 0 0],.bool false]) (by simp [results,results72,go_sem]) rfl ?_;exact nS.mk rfl (u.out (.inr W)) (Rd.nil _ _ _) (((Below.refl _ w).alloc (Zb _) _).alloc (by simp) _)
  ·by_cases A:i=(n:Int)
   ·subst A;have ai:Rd (((w.alloc (.cells #[.slice A1 G.terms.length c1,.slice A2 G.nons.length c2,.slice A3 n c3,.int .i64 st] 25)).alloc (.cells #[.int .i64 0,.slice (some ⟨w.heap.size+2,0,none⟩) 1 1] 98)).alloc (.cells #[.int .i64 st] 3)) (λb=>b=w.heap.size+2) (.slice (some ⟨w.heap.size+2,0,none⟩) 1 1) 1 [.int .i64 st]:=by
     have:=Rd.one' (w:=((w.alloc (.cells #[.slice A1 G.terms.length c1,.slice A2 G.nons.length c2,.slice A3 n c3,.int .i64 st] 25)).alloc (.cells #[.int .i64 0,.slice (some ⟨w.heap.size+2,0,none⟩) 1 1] 98))) (e:=3) [.int .i64 st] 1 rfl;simpa using this
    go_enter func72,ntmps72
    go_wp2_with fail
    refine bodyPost_ret (v:= .tuple #[.agg #[.int .i64 0,.slice (some ⟨w.heap.size+2,0,none⟩) 1 1],.bool true]) (by simp [results,results72,go_sem]) rfl ?_;exact nS.mk rfl (M.out (by first|rfl|trivial)) (ai.mono (λb f=> .inr (by simp;omega))) ((((Below.refl _ w).alloc (Zb _) _).alloc (by simp) _).alloc (by simp;omega) _)
   ·obtain⟨a,rfl⟩:=Za (by omega:0<=i);have X:a<n:=(by omega);obtain⟨b,off,rfl,f,D⟩:=P.out (by omega);obtain⟨q,j,a4,k,Y,Z,p⟩:=RdR.get (n:=n) m.out f (Below.refl _ w) D (k:=a) (by rw [<-S.out];omega);obtain⟨s,I,v,rfl,_⟩:=id p;have al:=m.out b f;have ap:=λr=>kd Y r
    have aS:=λr=>kd Z r
    have E:=O.out a q j rfl X k;have Q:=ab E;have U:=ab p;have an:((a:Int)==(n:Int))=false:=(by simpa using(by omega: ¬(a:Int)=(n:Int)));clear D k p E A
    go_enter func72,ntmps72
    go_wp2_with fail
    refine bodyPost_ret (v:= .tuple #[.agg #[.int .i64 q,.slice s I v],.bool true]) (by simp [results,results72,go_sem]) rfl ?_;have t:Below w.heap.size w ((w.alloc (.cells #[.slice A1 G.terms.length c1,.slice A2 G.nons.length c2,.slice (some ⟨b,off,none⟩) n c3,.int .i64 st] 25)).alloc (.cells #[.int .i64 q,.slice s I v] 98)):=((Below.refl _ w).alloc (Zb _) _).alloc (by simp) _;exact nS.mk rfl Q.out ((U.out.below t m.out).mono (λb f=> .inl f)) t
def cV (G:ac) (st:Int) (x:It):Int:=(aw G st x).1
theorem Du {G:ac} {st:Int} {a d:Int} (h:((aD G st a).1.2.length:Int)<=d):cV G st (a,d)=0:=by unfold cV;rw [CK (.inr (.inr h))]
theorem EC {G:ac} {st:Int} {a:Int} {k:Nat} {s:Int} (h:(aD G st a).2=true) (b:(aD G st a).1.2[k]? =some s):cV G st (a,(k:Int))=s:=by unfold cV;rw [tE h b]
theorem pJ {w:World} {F:Nat->Prop} {B:Nat} {A1:Option Addr} {c1:Nat} {A2:Option Addr} {c2:Nat} {A3:Option Addr} {c3 T N R:Nat} {st:Int} {G:ac} {vb vs:Value} {m1 m2:Nat}
  (h:Bd w F B A1 c1 A2 c2 A3 c3 T N R st G vb vs m1 m2) (x:It) (K:aQ G st x=true):
  Calls prog 155 #[PtB B,ItV x] w (aI w (.int .i64 (cV G st x))):=by
 obtain⟨s,o⟩:=x;have a8:((aD G st s).1.2.length:Int)<=o->cV G st (s,o)=0:=Du;have a9: ∀(q:Nat) (r:Int),o=q->(aD G st s).1.2[q]? =some r->cV G st (s,o)=r:=λq r e v=>by
  rw [e];unfold aQ at K;simp only [Bool.and_eq_true]at K;exact EC K.1 v
 have bA:0<=o:=by
  unfold aQ at K;simp only [Bool.and_eq_true,decide_eq_true_eq]at K;exact K.2.1
 clear K;obtain⟨w1,ad⟩: ∃w1,w1=w.alloc (.cells #[.int .i64 s,.int .i64 o] 226):=⟨_,rfl⟩;have a1:Below w.heap.size w w1:=by rw [ad];exact(Below.refl _ w).alloc (Zb _) _
 have aS:Blk w1 w.heap.size 226 #[.int .i64 s,.int .i64 o]:=by rw [ad];exact Blk.new _ _ _
 have be:=h.below a1;have bw:=λwr (g:Bd wr F B A1 c1 A2 c2 A3 c3 T N R st G vb vs m1 m2)=>oO g.gram st s
 obtain⟨ba,bb,bc,bd⟩:=be.cells;have d0:=(aS.cell 0).trans rfl;have a3:=(aS.cell 1).trans rfl;generalize cV G st (s,o)=ce at *;generalize aD G st s=b9 at *;obtain⟨⟨l,P⟩,cd⟩:=b9;simp only at a8 a9;rw [ad]at ba bb bc bd d0 a3;clear h;obtain⟨bi,bo,bs,bl,bp,bq,br⟩:=de a1 aS be bw a8 a9 bA;clear a1 aS be bw a8 a9 bA
 go_enter func155,ntmps155
 go_wp2_with fail
 refine wp_region_held_drew (S:=(λm=>m.cell? ⟨B,0,none⟩=some (.slice A1 T c1)/\m.cell? ⟨B,1,none⟩=some (.slice A2 N c2)/\m.cell? ⟨B,2,none⟩=some (.slice A3 R c3)/\m.cell? ⟨B,3,none⟩=some (.int .i64 st)/\m.cell? ⟨w.heap.size,0,none⟩=some (.int .i64 s)/\m.cell? ⟨w.heap.size,1,none⟩=some (.int .i64 o))) (by kernel_rfl) ?_ (λhHeld=> ?_)
 ·exact⟨ba,bb,bc,bd,d0,a3⟩
 rw [<-ad]at hHeld⊢;generalize ap:w1.drew=a at *;have bg:Bd a F B A1 c1 A2 c2 A3 c3 T N R st G vb vs m1 m2:=by rw [<-ap];exact bs.out.drew
 have aT:Blk a w.heap.size 226 #[.int .i64 s,.int .i64 o]:=by rw [<-ap];exact bo.out.drew
 have bu:Below w.heap.size w a:=by rw [<-ap];exact bi.out.drew
 have bx: ∀m,Below a.heap.size a m->m.cell? ⟨B,0,none⟩=some (.slice A1 T c1)/\m.cell? ⟨B,1,none⟩=some (.slice A2 N c2)/\m.cell? ⟨B,2,none⟩=some (.slice A3 R c3)/\m.cell? ⟨B,3,none⟩=some (.int .i64 st)/\m.cell? ⟨w.heap.size,0,none⟩=some (.int .i64 s)/\m.cell? ⟨w.heap.size,1,none⟩=some (.int .i64 o):=λm p=>by
  obtain⟨b5,b6,b7,b8⟩:=(bg.below p).cells;have bz:=aT.below p aT.lt;exact⟨b5,b6,b7,b8,(bz.cell 0).trans rfl,(bz.cell 1).trans rfl⟩
 clear ap ad bs bo bi ba bb bc bd d0 a3;obtain⟨an,cc,al,L⟩:=aA bg aT bu bx;clear bg aT bu bx;refine tZ 0 ?_;try simp only [Act.put,sT,s0,s1]
 refine tZ 1 ?_;try simp only [Act.put,sT,s0,s1]
 refine tZ 2 ?_;try simp only [Act.put,sT,s0,s1]
 refine tZ 3 ?_;try simp only [Act.put,sT,s0,s1]
 refine tZ 4 ?_;try simp only [Act.put,sT,s0,s1]
 refine tZ 5 ?_;try simp only [Act.put,sT,s0,s1]
 refine wpAnyH_ready (rs:=[6,10]) (by kernel_rfl) (by simp) ?_;refine AllReadyH.cons (o:= ?_) ?_ (λu i=> ?_) ?_;rotate_left 1;(focus((try simp only [gT,gs,gz]);try rfl))
 ·go_simp
  go_at_call 72
  refine(bl.out _ an.out).mono ?_;rintro e w3 ⟨t,n,c,rfl,j,a2⟩;obtain⟨d,b2,a6,-⟩:=RdI.at_ j;unfold maxLen at a6
  replace d:n=P.length:=d
  replace j:RdI w3 (λb=>F b\/(a.heap.size<=b/\b<w3.heap.size)) (.slice t n c) P:=j
  obtain⟨M,H⟩:=av j d;clear j d;refine i.out _ _ ?_ (λhHeld=> ?_)
  ·exact L.out _ a2
  clear i u
  try simp only [Act.put,sT,s0,s1]
  refine tZ 7 ?_;try simp only [Act.put,sT,s0,s1]
  refine tZ 8 ?_;try simp only [Act.put,sT,s0,s1]
  refine tZ 9 ?_;try simp only [Act.put,sT,s0,s1]
  have ak:=ab a2;clear a2;refine wpAnyH_ready (rs:=[10]) (by kernel_rfl) (by simp) ?_;refine AllReadyH.cons (o:= ?_) ?_ (λu i=> ?_) AllReadyH.nil;rotate_left 1;(focus((try simp only [gT,gs,gz]);try rfl))
  go_simp
  have k:Below a.heap.size a (w3.alloc (.cells #[.int .i64 0,.slice none 0 0] 98)):=ak.out.alloc ak.out.size _;have f:Blk (w3.alloc (.cells #[.int .i64 0,.slice none 0 0] 98)) w3.heap.size 98 #[.int .i64 0,.slice none 0 0]:=Blk.new _ _ _;have W:a.heap.size<=w3.heap.size:=ak.out.size;have a5: ∀b,F b\/(a.heap.size<=b/\b<w3.heap.size)->b<w3.heap.size:=λb p=>p.elim (λp=>Zc (an.out.gram.lt b p) ak.out.size) (λp=>p.2)
  have z:=M.out.below (Below.refl _ w3|>.alloc (Zb _) (.cells #[.int .i64 0,.slice none 0 0] 98)) a5;have J: ∀b,F b\/(a.heap.size<=b/\b<w3.heap.size)-> ¬b=w3.heap.size:=λb p=>by have:=a5 b p;omega
  clear a5 M;refine i.out _ _ ?_ (λhHeld=> ?_)
  ·exact L.out _ k
  clear i u
  try simp only [Act.put,sT,s0,s1]
  generalize w3.heap.size=Q at *;generalize w3.alloc (.cells #[.int .i64 0,.slice none 0 0] 98)=w4 at *;have bY:=(f.cell 0).trans rfl;have b0:=(f.cell 1).trans rfl;have ca:=f.frozen 0;have cb:=f.frozen 1;have ai:=(f.put 0 (.int .i64 l)).put 1 (.slice t n c);have D:=mn w4 (Q) (.int .i64 l) (.slice t n c);have A:Below a.heap.size a ((w4.setCell ⟨Q,0,none⟩ (.int .i64 l)).setCell ⟨Q,1,none⟩ (.slice t n c)):=k.trans (D.below (λb4 hi _ e=>by omega) k.size);have Z:=z.touch D J;obtain⟨S,O,bE,bC,bG,V,bP,U,a0⟩:=dQ k f z W J ai D A Z;clear k f z W J ai D A Z;refine wpAnyH_ready (rs:=[11]) (by kernel_rfl) (by simp) ?_;refine AllReadyH.cons (o:= ?_) ?_ (λu i=> ?_) AllReadyH.nil;rotate_left 1;(focus((try simp only [gT,gs,gz]);try rfl))
  go_simp
  refine i.out _ _ ?_ (λhHeld=> ?_)
  ·exact L.out _ U.out
  clear i u
  try simp only [Act.put,sT,s0,s1]
  generalize (w4.setCell ⟨Q,0,none⟩ (.int .i64 l)).setCell ⟨Q,1,none⟩ (.slice t n c)=w5 at *;refine tZ 12 ?_;try simp only [Act.put,sT,s0,s1]
  refine wpAnyH_done (by kernel_rfl) ?_ _;obtain⟨-,-,-,-,d0,bR⟩:=id hHeld;have bS:=(V.out.cell 0).trans rfl;have bW:=(V.out.cell 1).trans rfl;have C:=al.out.trans (U.out.mono al.out.size);have j:=a0.out;have d:=H.out;by_cases a4:(n:Int)<=o
  ·have y:=bp.out (by rw [<-d];exact a4);obtain⟨I,E,M,H⟩:=aA y C j d;clear y C j d
   go_wp2_with fail
   go_ret
   exact⟨au I.out.symm,E.out⟩
  ·obtain⟨q,rfl⟩:=Za (show 0<=o from br.out);have a7:q<n:=by omega
   obtain⟨-,-,-,Y⟩:=RdI.at_ j;obtain⟨b,off,rfl,-,X⟩:=Y (by omega);obtain⟨r,v⟩: ∃r,P[q]? =some r:=⟨_,List.getElem?_eq_getElem (by rw [<-d];exact a7)⟩;have b1:=X q r v;have y:=bq.out q r rfl v;clear Y X;obtain⟨I,E,M,H,bO⟩:=aX y C j d v;clear y C j d v
   go_wp2_with fail
   go_ret
   exact⟨au I.out.symm,E.out⟩
 ·refine AllReadyH.cons (o:= ?_) ?_ (λu i=> ?_) ?_;rotate_left 1;(focus((try simp only [gT,gs,gz]);try rfl))
  ·go_simp
   have k:Below a.heap.size a (a.alloc (.cells #[.int .i64 0,.slice none 0 0] 98)):=(Below.refl _ a).alloc (Zb _) _;have f:Blk (a.alloc (.cells #[.int .i64 0,.slice none 0 0] 98)) a.heap.size 98 #[.int .i64 0,.slice none 0 0]:=Blk.new _ _ _;have bB:=an.out.below k;refine i.out _ _ ?_ (λhHeld=> ?_)
   ·exact L.out _ k
   clear i u
   try simp only [Act.put,sT,s0,s1]
   have W:a.heap.size<=a.heap.size:=Zb _;generalize a.alloc (.cells #[.int .i64 0,.slice none 0 0] 98)=bh at *;obtain⟨S,O,bt⟩:=aK k f bB;clear k f bB;refine wpAnyH_ready (rs:=[6]) (by kernel_rfl) (by simp) ?_;refine AllReadyH.cons (o:= ?_) ?_ (λu i=> ?_) AllReadyH.nil;rotate_left 1;(focus((try simp only [gT,gs,gz]);try rfl))
   go_simp
   go_at_call 72
   refine(bl.out _ bt.out).mono ?_;rintro e w4 ⟨t,n,c,rfl,z,A⟩;obtain⟨d,b2,a6,-⟩:=RdI.at_ z;unfold maxLen at a6;have f:=O.out.below A O.out.lt;have b3:a.heap.size<bh.heap.size:=O.out.lt;have J: ∀b,F b\/(bh.heap.size<=b/\b<w4.heap.size)-> ¬b=a.heap.size:=λb p=>p.elim (λp e=>by have:=an.out.gram.lt b p;omega) (λp=>by omega)
   have k:=S.out.trans (A.mono S.out.size);clear A S O bt b3
   replace d:n=P.length:=d
   replace z:RdI w4 (λb=>F b\/(bh.heap.size<=b/\b<w4.heap.size)) (.slice t n c) P:=z
   have H:=ab d;clear d;refine i.out _ _ ?_ (λhHeld=> ?_)
   ·exact L.out _ k
   clear i u
   try simp only [Act.put,sT,s0,s1]
   refine tZ 7 ?_;try simp only [Act.put,sT,s0,s1]
   refine tZ 8 ?_;try simp only [Act.put,sT,s0,s1]
   refine tZ 9 ?_;try simp only [Act.put,sT,s0,s1]
   have bY:=(f.cell 0).trans rfl;have b0:=(f.cell 1).trans rfl;have ca:=f.frozen 0;have cb:=f.frozen 1;have ai:=(f.put 0 (.int .i64 l)).put 1 (.slice t n c);have D:=mn w4 (a.heap.size) (.int .i64 l) (.slice t n c);have A:Below a.heap.size a ((w4.setCell ⟨a.heap.size,0,none⟩ (.int .i64 l)).setCell ⟨a.heap.size,1,none⟩ (.slice t n c)):=k.trans (D.below (λb4 hi _ e=>by omega) k.size);have Z:=z.touch D J;obtain⟨S,O,bE,bC,bG,V,bP,U,a0⟩:=dQ k f z W J ai D A Z;clear k f z W J ai D A Z;refine wpAnyH_ready (rs:=[11]) (by kernel_rfl) (by simp) ?_;refine AllReadyH.cons (o:= ?_) ?_ (λu i=> ?_) AllReadyH.nil;rotate_left 1;(focus((try simp only [gT,gs,gz]);try rfl))
   go_simp
   refine i.out _ _ ?_ (λhHeld=> ?_)
   ·exact L.out _ U.out
   clear i u
   try simp only [Act.put,sT,s0,s1]
   generalize (w4.setCell ⟨a.heap.size,0,none⟩ (.int .i64 l)).setCell ⟨a.heap.size,1,none⟩ (.slice t n c)=w5 at *;refine tZ 12 ?_;try simp only [Act.put,sT,s0,s1]
   refine wpAnyH_done (by kernel_rfl) ?_ _;obtain⟨-,-,-,-,d0,bR⟩:=id hHeld;have bS:=(V.out.cell 0).trans rfl;have bW:=(V.out.cell 1).trans rfl;have C:=al.out.trans (U.out.mono al.out.size);have j:=a0.out;have d:=H.out;by_cases a4:(n:Int)<=o
   ·have y:=bp.out (by rw [<-d];exact a4);obtain⟨I,E,M,H⟩:=aA y C j d;clear y C j d
    go_wp2_with fail
    go_ret
    exact⟨au I.out.symm,E.out⟩
   ·obtain⟨q,rfl⟩:=Za (show 0<=o from br.out);have a7:q<n:=(by omega);obtain⟨-,-,-,Y⟩:=RdI.at_ j;obtain⟨b,off,rfl,-,X⟩:=Y (by omega);obtain⟨r,v⟩: ∃r,P[q]? =some r:=⟨_,List.getElem?_eq_getElem (by rw [<-d];exact a7)⟩;have b1:=X q r v;have y:=bq.out q r rfl v;clear Y X;obtain⟨I,E,M,H,bO⟩:=aX y C j d v;clear y C j d v
    go_wp2_with fail
    go_ret
    exact⟨au I.out.symm,E.out⟩
  ·exact AllReadyH.nil
end
section
open Go.RowKit
attribute [local irreducible] wpStill aB aO
def zB (w:World) (l:List It) (e:Ending) (w':World):Prop:= ∃A c,e= .returned (.slice A l.length c)/\w'.ownsRow w.heap.size 226 2 (.slice A l.length c) l.length (ar l)/\Below w.heap.size w w'
theorem AW {w:World} {F:Nat->Prop} {B:Nat} {A1:Option Addr} {c1:Nat} {A2:Option Addr} {c2:Nat} {A3:Option Addr} {c3 T N R:Nat} {st:Int} {G:ac} {vb vs:Value} {m1 m2:Nat}
  (h:Bd w F B A1 c1 A2 c2 A3 c3 T N R st G vb vs m1 m2) (s:Int) (a0:(az G s).length<=300):
  Calls prog 154 #[PtB B,.int .i64 s] w (zB w (cW (az G s))):=by
 have I:=yU h.gram st s;obtain⟨a4,a5,a6,a7⟩:=h.cells;generalize az G s=d at *;obtain⟨W,C⟩:=av h I;clear h I
 go_enter func154,ntmps154
 go_wp2_with fail
 with_reducible refine C.out.mono ?_
 rintro e w2 ⟨V,an,rfl,y,H⟩;have o:RdI w2 (λf=>w.heap.size<=f/\f<w2.heap.size) (.slice V d.length an) d:=(Rd.of_own y).mono (λj i=>y.lt j i);clear y a4 a5 a6 a7 C W;obtain⟨n,x⟩: ∃n,n=d.length:=⟨_,rfl⟩;rw [<-x]at a0 o⊢;obtain⟨-,be,aS,-⟩:=RdI.at_ o;unfold maxLen at aS;obtain⟨ad,p,q⟩:=aK o H x;clear o H x
 go_wp2_with fail
 go_loopw [5,15] (λa3 z wr=> ∃(a:Nat) (k:Option Addr) (c:Nat),a<=n/\z= .int .i64 a/\a3= .slice k a c/\wr.ownsRow w2.heap.size 226 2 (.slice k a c) a (ar (cW (d.take a)))/\Below w2.heap.size w2 wr) (λ_ z _=>n - (intOf z).toNat)
 case atStart=>exact⟨0,none,0,Nat.zero_le _,rfl,rfl,World.ownsRow_nil _ _ _ _,Below.refl _ _⟩
 case round=>
  obtain⟨a,k,c,bc,rfl,rfl,own,le⟩:=hrel;obtain⟨-,bd,aT,-⟩:=aH.at_ (Rd.of_own own);unfold maxLen at aT;by_cases a1:a<n
  ·have a2:(a:Int)<(n:Int):=by omega
   obtain⟨-,-,-,K⟩:=RdI.at_ (ad.out.below le (λf v=>v.2));obtain⟨f,off,rfl,v,J⟩:=K (by omega);obtain⟨b,m⟩: ∃b,d[a]? =some b:=⟨_,List.getElem?_eq_getElem (by rw [<-q.out];exact a1)⟩;have bb:=J a b m;have M:=zO m;have O:aH (wr.alloc (.cells #[.int .i64 b,.int .i64 0] 226)) (λf=>f=wr.heap.size) (.slice (some ⟨wr.heap.size,0,none⟩) 1 1) [(b,0)]:=aH.one (w:=wr) (e:=226) (b,0);have S:=C7 own (.cells #[.int .i64 b,.int .i64 0] 226);have P:=le.alloc le.size (.cells #[.int .i64 b,.int .i64 0] 226);clear J K v;obtain⟨t,D,a9,Y,Z,E,r⟩:=de own le m M O S P;clear own le m M O S P
   go_wp2_with (at_builtin;refine aJ _ rfl (.tmp 19) (.tmp 22) _ rfl elemItem w2.heap.size _ a _ rfl E.out _ _ [I64 b,I64 0] 1 rfl rfl Z.out (iH [(b,0)]) (by unfold maxLen;omega) (by omega) (r.out.size) ?_)
   intro U al w8 A ap ba;have Q:=r.out.grown ap r.out.size (λj i=>(E.out.lt j i).1);rw [show [I64 b,I64 0]=ar [(b,0)]from rfl,<-eD,<-Y.out]at A;obtain⟨ak,ai⟩:=av A Q;clear A Q
   go_wp2_with fail
   go_roundw
   case rel=>exact⟨a+1,U,al,by omega,by go_num,rfl,ak.out,ai.out⟩
   case measure=>simp [intOf];omega
  ·have a2: ¬(a:Int)<(n:Int):=by omega
   obtain rfl:a=n:=by omega
   have u:cW (d.take a)=cW d:=by rw [q.out,List.take_length]
   rw [u]at own;have L:a=(cW d).length:=by rw [mq,<-q.out]
   obtain⟨t,D,a8,X⟩:=aA own le u L;clear own le u L
   go_wp2_with fail
   go_ret
   unfold zB;rw [<-X.out];exact⟨k,c,rfl,lP t.out (λj i=>Nat.le_trans p.out.size (World.ownsRow.lt t.out j i).1),p.out.trans (D.out.mono p.out.size)⟩
end
section
open Go.RowKit Go.Maps
structure eU (w:World) (lo g off n c:Nat) (l:List Int):Prop where
 len:n=l.length
 cap:n<=c/\c<=maxLen
 low:lo<=g/\g<w.heap.size
 at_: ∀j x,l[j]? =some x->w.cell? ⟨g,off+j,none⟩=some (.int .i64 x)
 room: ∀j,j<c->(w.cell? ⟨g,off+j,none⟩).isSome=true/\w.frozen? ⟨g,off+j,none⟩=false
section
variable {w w' : World} {lo g off n c : Nat} {l : List Int}
theorem eU.touch {S:Nat->Prop} (h:eU w lo g off n c l) (b:aa S w w') (d: ¬S g):eU w' lo g off n c l:=by
 have e:w'.heap[g]? =w.heap[g]? :=b.block g h.low.2 d;refine⟨h.len,h.cap,⟨h.low.1,Zc h.low.2 b.size⟩,λa j i=>(World.cell?_of_block e).trans (h.at_ a j i),λa f=> ?_⟩;have:=h.room a f;rw [World.cell?_of_block (a:=⟨g,off+a,none⟩) e,World.frozen?_of_block (a:=⟨g,off+a,none⟩) e];exact this
theorem eU.below (h:eU w lo g off n c l) (a:Below w.heap.size w w'):eU w' lo g off n c l:=h.touch (aa.of_size a (λ_=>False)) (λe=>e)
theorem eU.one (w:World) (e:lo<=w.heap.size) (s:Int) (t:TypeId):eU (w.alloc (.cells #[.int .i64 s] t)) lo w.heap.size 0 1 1 [s]:=by
 have d:Blk (w.alloc (.cells #[.int .i64 s] t)) w.heap.size t #[.int .i64 s]:=Blk.new _ _ _;refine⟨rfl,⟨Zb _,by decide⟩,⟨e,by simp⟩,λb h a=> ?_,λb f=> ?_⟩
 ·match b,a with
  |0,a=>simp at a;subst a;exact(d.cell 0).trans rfl
 ·obtain rfl:b=0:=by omega
  exact⟨by rw [Nat.zero_add,d.cell 0];rfl,d.frozen _⟩
theorem eU.pop {x:Int} {r:List Int} (h:eU w lo g off n c (x::r)):eU w lo g (if c=1 then off else off+1) (n - 1) (c - 1) r:=by
 have e:=h.len;have i:=h.cap;simp only [List.length_cons]at e;refine⟨by omega,⟨by omega,by omega⟩,h.low,λa f b=> ?_,λa d=> ?_⟩
 ·have d:=(List.getElem?_eq_some_iff.1 b).1;rw [if_neg (by omega),Nat.add_assoc,Nat.add_comm 1 a];exact h.at_ (a+1) f (by simpa using b)
 ·rw [if_neg (by omega),Nat.add_assoc,Nat.add_comm 1 a];exact h.room (a+1) (by omega)
theorem eU.push (h:eU w lo g off n c l) {i:Nat} {x:Int} (U:w.cell? ⟨i,0,none⟩=some (.int .i64 x)) (ad:n<=100000) (Q:lo<=w.heap.size) (K:TypeId):
  ∃q J z w',(Builtin.append_ #[49,49] K #[.slice (some ⟨g,off,none⟩) n c,.slice (some ⟨i,0,none⟩) 1 1]).run prog w= .ok (.slice (some ⟨q,J,none⟩) (n+1) z) w'/\eU w' lo q J (n+1) z (l++[x])/\aa (λj=>j=g) w w'/\(q=g\/w.heap.size<=q):=by
 obtain⟨H,hi,V,o,M⟩:=info_parts infoInt;have C: ∀a r,([Value.int .i64 x]:List Value)[a]? =some r->w.cell? ((⟨i,0,none⟩:Addr).add a)=some r:=λa r f=>by
  match a,f with
  |0,f=>simp at f;subst f;rw [fJ];exact U
 have u:=h.len;by_cases E:n+1<=c
 ·have A:=run_firstCells_some (P:=prog) w H.size 1 ⟨i,0,none⟩ 1 1 [.int .i64 x] (by rw [o];rfl) C;obtain⟨y,W⟩:=h.room n (by omega);have I: ∀a,a<[Value.int .i64 x].length->a=0:=λa d=>by simpa using d
  have S:=run_storeCells_cells (P:=prog) g (off+n) [.int .i64 x] 0 w (λa d=>by rw [I a d];exact y) (λa d=>by rw [I a d];exact W) (by simp [Value.oneCell']);have Y:aa (λj=>j=g) w (w.setCell ⟨g,off+n,none⟩ (.int .i64 x)):=(aa.refl (λj=>j=g) w).setCell (p:=⟨g,off+n,none⟩) (λ_=>rfl) _;refine⟨g,off,c,w.setCell ⟨g,off+n,none⟩ (.int .i64 x),?_,⟨?_,?_,⟨h.low.1,by simpa [World.setCell]using h.low.2⟩,λa p b=> ?_,λa d=> ?_⟩,Y,.inl rfl⟩
  ·have L:(⟨g,off,none⟩:Addr).add n=⟨g,off+n,none⟩:=fJ _ _ _;rw [o]at A;simp [Builtin.append_,run_underlying underlying49,sizeOf,typeInfo,hi,o,Builtin.lenOf,E,A,L,S,World.setCells,underlying3]
  ·rw [List.length_append,<-u];rfl
  ·exact⟨E,h.cap.2⟩
  ·by_cases e:a=n
   ·subst e;rw [u,List.getElem?_concat_length]at b;have b:=Option.some.inj b;rw [<-b];exact World.cell?_setCell_same' _ _ _ y
   ·have Z:a<n:=(by have:=(List.getElem?_eq_some_iff.1 b).1;simp at this;omega);rw [List.getElem?_append_left (by omega)]at b;rw [World.cell?_setCell_other _ _ _ _ (λm=>by injection m with _ m;omega)];exact h.at_ a p b
  ·obtain⟨s1,X⟩:=h.room a d;rw [World.frozen?_setCell];refine⟨?_,X⟩;by_cases e:a=n
   ·subst e;rw [World.cell?_setCell_same' _ _ _ y];rfl
   ·rw [World.cell?_setCell_other _ _ _ _ (λm=>by injection m with _ m;omega)];exact s1
 ·have D:=run_append_grow (P:=prog) w 49 K 3 H (.int .i64 0) underlying49 hi V ⟨g,off,none⟩ n c (l.map (Value.int .i64)) (by rw [List.length_map,o];omega) (λa r f=>by
   rw [List.getElem?_map]at f
   obtain⟨p,b,rfl⟩:=Option.map_eq_some_iff.1 f
   rw [fJ]
   exact h.at_ a p b) ⟨i,0,none⟩ 1 1 [.int .i64 x] (by rw [o];rfl) C (by omega) (by omega) (growslice_fits (by omega) (by rw [M];omega))
  have P:=grownCap_ge w (n+1) c 3;have O:=grownCap_le_maxLen w (n+1) c 3 (by unfold maxLen;omega);generalize grownCap w (n+1) c 3=s at *;obtain⟨k,t⟩: ∃k,k=(l.map (Value.int .i64)).toArray++[Value.int .i64 x].toArray++Builtin.zeroCells (Value.cells (.int .i64 0)) (s - (n+1)):=⟨_,rfl⟩;rw [<-t]at D;have v:Blk (w.drew.alloc (.cells k 3)) w.heap.size 3 k:=Blk.new w.drew _ _;have ai:k.size=s:=by rw [t];simp [Builtin.zeroCells,Value.cells];omega
  refine⟨w.heap.size,0,s,_,D,⟨by rw [List.length_append,<-u];rfl,⟨P,O⟩,⟨Q,by simp⟩,λa p b=> ?_,λa d=>⟨?_,?_⟩⟩,((aa.refl _ w).drew).alloc _,.inr (Zb _)⟩
  ·rw [Nat.zero_add,v.cell,t];have:((l.map (Value.int .i64))++[Value.int .i64 x])[a]? =some (.int .i64 p):=by
    have:=congrArg (Option.map (Value.int .i64)) b;rw [<-List.getElem?_map]at this;simpa using this
   have d:=(List.getElem?_eq_some_iff.1 this).1;rw [Array.getElem?_append_left (by simpa using d)];rw [<-Array.getElem?_toList];simpa using this
  ·rw [Nat.zero_add,v.cell,Array.getElem?_eq_getElem (by omega)];rfl
  ·exact v.frozen _
theorem ql {i:Array Oper} {rest:List Oper} {o:Oper} {a:Act} {Q:Exit->Act->World->Prop} (u:o.guard=none) (s x:Operand)
  (A:o.op= .call {callee:= .builtin .append,args:= #[s,x],argTypes:= #[49,49]}) (h:eU w lo g off n c l) (D:a.eval s= .slice (some ⟨g,off,none⟩) n c) {f:Nat} {j:Int} (E:a.eval x= .slice (some ⟨f,0,none⟩) 1 1) (t:w.cell? ⟨f,0,none⟩=some (.int .i64 j)) (z:n<=100000) (y:lo<=w.heap.size)
  (v: ∀b e d w',eU w' lo b e (n+1) d (l++[j])->aa (λk=>k=g) w w'->(b=g\/w.heap.size<=b)->wpList prog i Q rest (a.put o.dst (.slice (some ⟨b,e,none⟩) (n+1) d)) w'):wpList prog i Q (o::rest) a w:=by
 refine wpList_plain u λ_ r=> ?_
 obtain⟨b,e,d,w',C,m,p,q⟩:=h.push t z y o.type;unfold Oper.wp execOp;simp only [A,resolve,invoke,builtin,Sem.run_bind,Sem.run_pure,Result.andThen_ok,List.map_toArray,List.map_cons,List.map_nil,D,E,C];exact r _ _ (v b e d w' m p q)
end
theorem intKeyed:Keyed prog 3:=int_keyed underlying3
def gS (n:Int):Lit:= .int .i64 n
theorem eO {n:Int} (h: -9223372036854775808<=n/\n<=9223372036854775807):keyOf prog 3 (.int .i64 n)=some (gS n):=by
 have b:=ii h;have a:prog.keyType 3=true:=by kernel_rfl
 unfold keyOf;simp [underlying3,a,Value.formed,mapKey,b,gS]
theorem rq {a b:Int} (h:gS a=gS b):a=b:=by injection h
structure fy (D:DataW Unit) (o:List Int):Prop where
 m:Maps.IsMap D
 at_: ∀x,D.atKey (gS x) (.lit (.bool false))= .lit (.bool (decide (x∈o)))
theorem fy.empty:fy (.map []) []:=⟨⟨[],rfl⟩,λa=>rfl⟩
theorem fy.put {D:DataW Unit} {o:List Int} (h:fy D o) {x:Int} (b: -9223372036854775808<=x/\x<=9223372036854775807):fy (D.put (gS x) (.lit (.bool true))) (o++[x]):=by
 refine⟨h.m.put _ _,λa=> ?_⟩;by_cases e:a=x
 ·subst e;rw [Maps.atKey_put_same h.m (intKeyed.key (eO b))];simp
 ·rw [Maps.atKey_put_other (λc=>e (rq c)),h.at_ a];simp [e]
theorem fy.look {w:World} {b n:Nat} {D:DataW Unit} {o:List Int} (h:fy D o) (hm:w.ownsMap prog 3 (plainElem prog 4) b n D) {x:Int} (j: -9223372036854775808<=x/\x<=9223372036854775807):
  (Instr.lookup 223 (.map (some b)) (.int .i64 x) false).run prog w= .ok (.bool (decide (x∈o))) w:=by
 have k:(zeroValue 4).run prog w= .ok (.bool false) w:=zeroValue4 w;obtain⟨d,m,f,a⟩:=hm.lookup intKeyed underlying223 k (plainElem_bool underlying4 false) (eO j);rw [h.at_ x]at a;generalize decide (x∈o)=e at *;have i:d= .bool e:=by
  unfold plainElem at a;rw [underlying4]at a;cases d with
  |bool b=>simp only [Option.some.injEq,Prod.mk.injEq]at a;have:=a.1;injection this with this;injection this with this;rw [this]
  |_=>simp at a
 subst i;exact f
end
end Go.Proofs.YthlbjgabhpdbfaaGreat

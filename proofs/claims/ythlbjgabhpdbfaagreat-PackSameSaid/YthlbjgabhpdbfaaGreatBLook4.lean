/- Lookaheads: the places of items. -/
import Derived.Test.YthlbjgabhpdbfaaGreatBLook2
set_option linter.unusedVariables false
set_option linter.unusedSimpArgs false
set_option maxRecDepth 100000
set_option maxHeartbeats 4000000
namespace Go.Proofs.YthlbjgabhpdbfaaGreat
open Go.Proofs.Tryz
open List renaming mem_of_getElem?->Za
open Nat renaming le_refl->Zb,zero_le->Zc
open Go.RowKit
attribute [local irreducible] wpStill aB aO
theorem Bb: ∀{l:List It} {k:Nat} {x:It},l[k]? =some x->(∀(j:Nat) y,j<k->l[j]? =some y->y≠x)->l.idxOf x=k
 |[],k,x,h,_=>by simp at h
 |a::r,0,x,h,_=>by
  have:a=x:=by simpa using h
  subst this;simp
 |a::r,k+1,x,h,hb=>by
  have b:a≠x:=hb 0 a (by omega) rfl;rw [List.idxOf_cons,show(a==x)=false from by simpa using b];exact congrArg Nat.succ (Bb (by simpa using h) (λj y e c=>hb (j+1) y (by omega) (by simpa using c)))
def i7 (D:List (List It×List It)) (ba:List Int) (i:Nat) (x:It):Int:=if x∈((D[i]?).getD ([],[])).1 then(ba[i]?).getD 0+(((D[i]?).getD ([],[])).1.idxOf x:Nat)else -1
structure LkB (d:LD):Prop where
 T:d.T<=120
 ba: ∀b∈d.ba,0<=b/\b<=100000000
 D: ∀e∈d.D,e.1.length<=1000000
 n:d.D.length<=2000
theorem Row.at_ {V:World} {g:Nat->Nat} {i:Nat} {e:TypeId} {size:Nat} {A:Option Addr} {n c:Nat} {xs:List Value} (h:Row V g i e size A n c xs) {j:Nat} {u:Value} (f:xs[j]? =some u): ∃a,A=some ⟨a,0,none⟩/\V.cell? ⟨a,j,none⟩=some u/\V.frozen? ⟨a,j,none⟩=false/\g a=i:=by
 rcases h.own.2 with⟨b,o⟩|⟨a,p,r,b,-⟩
 ·have m:=h.own.1;have s:=(List.getElem?_eq_some_iff.1 f).1;rw [o,Nat.zero_mul]at m;omega
 ·injection b with b _ _
  subst b;obtain⟨k,l⟩:=ic h.own f;exact⟨a,rfl,k,l,h.tag a rfl⟩
theorem Row.cap {V:World} {f:Nat->Nat} {i:Nat} {e:TypeId} {size:Nat} {A:Option Addr} {n c:Nat} {xs:List Value} (h:Row V f i e size A n c xs):n<=c/\c<=9223372036854775807:=by
 obtain⟨g,j,e,a,b⟩:=bH h.own;cases e;exact⟨a,b⟩
section
variable {V : World} {q : LQ} {d : LD} {y : Dy}
theorem Ad (h:MK V q d y) (J:LkB d) {i:Nat} (hi:i<d.D.length) (a0:i<d.ba.length) (x:It):
  Calls prog 256 #[aq q.M,.int .i64 (i:Int),.agg #[.int .i64 x.1,.int .i64 x.2]] V (aI V (.int .i64 (i7 d.D d.ba i x))):=by
 obtain⟨-,-,-,-,P,-,-,-,-,D,-,-,-⟩:=h.cells;obtain⟨e,A⟩: ∃e,d.D[i]? =some e:=⟨_,List.getElem?_eq_getElem hi⟩;obtain⟨p,z⟩: ∃o,d.ba[i]? =some o:=⟨_,List.getElem?_eq_getElem a0⟩;obtain⟨b7,b6⟩:=J.ba p (Za z);have bs:=J.D e (Za A);obtain⟨-,bu,a3,al⟩:=h.l.at_;obtain⟨bS,ce,Y,bq,aS⟩:=al (by omega);obtain⟨ci,cj,u1,-,s1,-⟩:=aS i e A;obtain⟨bO,u,bW,rfl,-⟩:=id s1;obtain⟨L,cb,br,-⟩:=aH.at_ s1;unfold maxLen at br a3;obtain⟨bp,X,ba,-,-⟩:=h.b.at_ (j:=i) (u:= .int .i64 p) (by rw [List.getElem?_map,z];rfl);obtain⟨_,b0,I,Z,ad⟩:=bH h.b.own;injection I with _ _ I
 rw [<-I]at Z ad;unfold maxLen at ad;rw [Y]at P;rw [X]at D;obtain⟨bz,a4⟩: ∃O,O=d.D.length:=⟨_,rfl⟩;obtain⟨bA,a5⟩: ∃O,O=d.ba.length:=⟨_,rfl⟩;obtain⟨b1,ap⟩: ∃x,x=q.cl:=⟨_,rfl⟩;obtain⟨bY,ai⟩: ∃x,x=q.cb:=⟨_,rfl⟩;obtain⟨bb,w⟩: ∃x,x=q.M:=⟨_,rfl⟩;rw [<-a4,<-ap,<-w]at P;rw [<-a5,<-ai,<-w]at D;rw [<-w];have b8:(i:Int)<(bz:Int):=by omega
 have b9:(i:Int)<(bA:Int):=by omega
 have s1:=s1.mono (F':=λo=>o<V.heap.size) (λo K=>K.1);obtain⟨b,c⟩:=x;have a7:i7 d.D d.ba i (b,c)=if((b,c):It)∈e.1 then p+(e.1.idxOf (b,c):Nat)else -1:=by unfold i7;rw [A,z];rfl
 obtain⟨Q,r⟩: ∃Q,Q=i7 d.D d.ba i (b,c):=⟨_,rfl⟩;rw [<-r];rw [a7]at r;obtain⟨k,a2⟩: ∃k,k=e.1:=⟨_,rfl⟩;rw [<-a2]at s1 L bs r;have bt:=World.block_lt_of_cell? _ _ P;have a8:Blk (V.alloc (.cells #[.int .i64 b,.int .i64 c] 226)) V.heap.size 226 #[.int .i64 b,.int .i64 c]:=Blk.new _ _ _;have W:Below V.heap.size V (V.alloc (.cells #[.int .i64 b,.int .i64 c] 226)):=(Below.refl _ _).alloc (Zb _) _;have cg:=World.block_lt_of_cell? _ _ u1;have bG:=World.block_lt_of_cell? _ _ ba;have bE:=World.block_lt_of_cell? _ _ D;clear h J A al aS Y bq a4 ap ai X w a7 a2 Z a5 hi a0 z bt bu a3;obtain⟨bl,F,T,R,S⟩:=aX s1 L a8 W r;clear s1 L a8 W r;unfold aq
 go_enter func256,ntmps256
 go_wp2_with fail
 go_loopw [18] (λM wr=> ∃a:Nat,a<=u/\M= .int .i64 a/\(∀(f:Nat) y,f<a->k[f]? =some y->y≠((b,c):It))/\Blk wr V.heap.size 226 #[.int .i64 b,.int .i64 c]/\Below V.heap.size V wr) (λM _=>u - (intOf M).toNat)
 case atStart=>exact⟨0,Zc _,rfl,λf y B=>absurd B (by omega),T.out,R.out⟩
 case round=>
  clear T R;obtain⟨a,ca,rfl,l,C,le⟩:=hrel;by_cases bw:a<u
  ·have bx:(a:Int)<(u:Int):=by omega
   have a9:=bl.out.below le (λo K=>K);obtain⟨-,-,-,an⟩:=aH.at_ a9;obtain⟨bR,cd,rfl,-,ak⟩:=an (by omega);obtain⟨⟨y0,v⟩,j⟩: ∃y,k[a]? =some y:=⟨_,List.getElem?_eq_getElem (by rw [<-F.out];exact bw)⟩;obtain⟨bB,bC⟩:=ak a _ j;simp only at bB bC;have H:Below wr.heap.size wr (wr.alloc (.cells #[.int .i64 y0,.int .i64 v] 226)):=(Below.refl _ _).alloc (Zb _) _;have N:Blk (wr.alloc (.cells #[.int .i64 y0,.int .i64 v] 226)) wr.heap.size 226 #[.int .i64 y0,.int .i64 v]:=Blk.new _ _ _;have m:=C.below H C.lt;have n:=le.trans (H.mono le.size);have cf:=(n.cell (p:=⟨bb,9,none⟩) bE).trans D;have ch:=(n.cell (p:=⟨bp,i,none⟩) bG).trans ba;have b2:=(m.cell 0).trans rfl;have b3:=(m.cell 1).trans rfl;have b4:=(N.cell 0).trans rfl;have b5:=(N.cell 1).trans rfl;have aT:=λbc=>rF b c y0 v bc
   clear an ak a9 H C N;by_cases g:((b,c):It)=(y0,v)
   ·rw [decide_eq_true g]at aT;have a1:=Bb (l:=k) (k:=a) (x:=(b,c)) (by rw [g];exact j) l;have t:((b,c):It)∈k:=(by rw [g];exact Za j);have cc:IntKind.i64.wrap (p+(a:Int))=p+(a:Int):=(by have:=F.out;rw [IntKind.wrap_i64];omega);obtain⟨bP,bh,U,G,bg,bd,E⟩:=de l j m n g a1 t;clear l j m n g a1 t
    go_wp2_with fail
    go_ret
    rw [S.out,if_pos E.out,bd.out];exact⟨rfl,G.out⟩
   ·rw [decide_eq_false g]at aT;have a6: ∀(f:Nat) y,f<a+1->k[f]? =some y->y≠((b,c):It):=λf y B s=>by
     by_cases bo:f=a
     ·subst bo;rw [j]at s;injection s with s;rw [<-s];exact λe=>g e.symm
     ·exact l f y (by omega) s
    clear l;obtain⟨be,bh,U,G,bg⟩:=aX a6 j m n g;clear a6 j m n g
    go_wp2_with fail
    go_roundw
    case rel=>exact⟨a+1,by omega,by go_num,be.out,U.out,G.out⟩
    case measure=>simp [intOf];omega
  ·have bx: ¬(a:Int)<(u:Int):=by omega
   have t: ¬((b,c):It)∈k:=λhm=>by
    obtain⟨f,B,e⟩:=List.getElem_of_mem hm;exact l f _ (by have:=F.out;omega) (List.getElem?_eq_getElem B) e
   clear l C;obtain⟨E,bi⟩:=av t le;clear t le
   go_wp2_with fail
   go_ret
   rw [S.out,if_neg E.out];exact⟨rfl,bi.out⟩
theorem mN.at_ {p:Nat->Nat} {A:Option Addr} {c:Nat} {rs:List (List Int)} (h:mN V p A c rs) {k:Nat} {r:List Int} (m:rs[k]? =some r): ∃e a f b,A=some ⟨e,0,none⟩/\V.cell? ⟨e,k,none⟩=some (.slice a f b)/\RdI V (TF V p (λs=>s=1\/s=2)) (.slice a f b) r/\rs.length<=c/\c<=9223372036854775807:=by
 obtain⟨t,z,j,w⟩:=h;have B:=(List.getElem?_eq_some_iff.1 m).1;obtain⟨i,o⟩: ∃i,t[k]? =some i:=⟨_,List.getElem?_eq_getElem (by omega)⟩;obtain⟨e,u,v,-,-⟩:=j.at_ o;have n:=w k i r o m;obtain⟨a,f,b,rfl,-⟩:=id n;obtain⟨_,x,g,l,hm⟩:=bH j.own;injection g with _ _ g
 rw [<-g]at l hm;exact⟨e,a,f,b,u,v,n,l,hm⟩
def toD (d:LD) (i:Nat) (x:It) (s:Int):Int:=i7 d.D d.ba (dM d.D i s).toNat (x.1,x.2+1)
theorem yR (h:MK V q d y) (al:LkB d) {i k dt j:Nat} {r:List Int} {s:Int} (K:d.rs[k]? =some r) (N:r[dt]? =some s) (J:dM d.D i s=(j:Int)) (a2:j<d.D.length) (a3:j<d.ba.length):
  Calls prog 229 #[aq q.M,.int .i64 (i:Int),.agg #[.int .i64 (k:Int),.int .i64 (dt:Int)]] V (aI V (.int .i64 (toD d i ((k:Int),(dt:Int)) s))):=by
 have F:Below V.heap.size V (V.alloc (.cells #[.int .i64 (k:Int),.int .i64 (dt:Int)] 226)):=(Below.refl _ _).alloc (Zb _) _;have P:Blk (V.alloc (.cells #[.int .i64 (k:Int),.int .i64 (dt:Int)] 226)) V.heap.size 226 #[.int .i64 (k:Int),.int .i64 (dt:Int)]:=Blk.new _ _ _;generalize bi:V.alloc (.cells #[.int .i64 (k:Int),.int .i64 (dt:Int)] 226)=w1 at *;have m:=h.below F 2;obtain⟨v,M⟩: ∃R,R={q with ow:=ext V q.ow 2}:=⟨_,rfl⟩;rw [<-M]at m;have an:q.M=v.M:=by rw [M]
 obtain⟨-,-,-,-,b,Q,-⟩:=m.cells;obtain⟨bw,br,bo,bu,ak,u1,a5,bg,bh⟩:=m.r.at_ K;rw [ak]at Q;obtain⟨be,bd,a1,a0⟩:=RdI.at_ a5;unfold maxLen at a1;have ba:=(List.getElem?_eq_some_iff.1 N).1;obtain⟨bs,bz,a8,-,aT⟩:=a0 (by omega);subst a8;have bp:=aT dt s N;have bc:=(List.getElem?_eq_some_iff.1 K).1;have x:=λa (l:Below w1.heap.size w1 a)=>vw (m.l.below l (λbq O=>O.1)) (λbq O=>Nat.lt_of_lt_of_le O.1 l.size) (i:Int) s
 rw [J]at x;have p:=λa (l:Below w1.heap.size w1 a)=>Ad (m.below l 2) al a2 a3 ((k:Int),(dt:Int)+1)
 have ap:toD d i ((k:Int),(dt:Int)) s=i7 d.D d.ba j ((k:Int),(dt:Int)+1):=by unfold toD;rw [J,Int.toNat_natCast]
 obtain⟨C,G⟩: ∃C,C=i7 d.D d.ba j ((k:Int),(dt:Int)+1):=⟨_,rfl⟩;rw [ap,<-G];simp only [<-G]at p;have d0:=(P.cell 0).trans rfl;have c:=(P.cell 1).trans rfl;obtain⟨bl,a4⟩: ∃f,f=d.rs.length:=⟨_,rfl⟩;obtain⟨bt,aS⟩: ∃f,f=v.cr:=⟨_,rfl⟩;obtain⟨A,L⟩: ∃f,f=d.D.length:=⟨_,rfl⟩;obtain⟨z,I⟩: ∃f,f=v.cl:=⟨_,rfl⟩;obtain⟨w,H⟩: ∃f,f=v.Al:=⟨_,rfl⟩;obtain⟨g,u⟩: ∃R,R=v.M:=⟨_,rfl⟩;have p: ∀a,Below w1.heap.size w1 a->Calls prog 256 #[.pointer (some ⟨g,0,none⟩),.int .i64 (j:Int),.agg #[.int .i64 (k:Int),.int .i64 ((dt:Int)+1)]] a (aI a (.int .i64 C)):=λa l=>by rw [u];exact p a l
 rw [<-L,<-I,<-H]at x;rw [<-a4,<-aS,<-u]at Q;rw [<-L,<-I,<-H,<-u]at b;rw [an,<-u];have bb:(k:Int)<(bl:Int):=by omega
 have a9:(dt:Int)<(bo:Int):=by omega
 have bx:IntKind.i64.wrap ((dt:Int)+1)=(dt:Int)+1:=by rw [IntKind.wrap_i64];omega
 clear h m al K N J a2 a3 P a5 a0 aT ak M an u a4 aS L I H ap G bg bh bc be bd a1 ba;obtain⟨W,X,Y⟩:=aK F x p;clear F x p;unfold aq
 go_enter func229,ntmps229
 go_wp2_with fail
 refine aU (by kernel_rfl) (by kernel_rfl) ?_
 repeat still_step
 refine wpStill_nil ?_
 go_wp2_with fail
 have ai:Below w1.heap.size w1 w1.drew.drew:=(Below.refl _ _).drew.drew;have d0:w1.drew.drew.cell? ⟨V.heap.size,0,none⟩=some (.int .i64 (k:Int)):=d0;have c:w1.drew.drew.cell? ⟨V.heap.size,1,none⟩=some (.int .i64 (dt:Int)):=c;have b:w1.drew.drew.cell? ⟨g,4,none⟩=some (.slice w A z):=b;refine wp_region_held_drew (S:=(λa=>a.cell? ⟨g,4,none⟩=some (.slice w A z)/\a.cell? ⟨V.heap.size,0,none⟩=some (.int .i64 (k:Int))/\a.cell? ⟨V.heap.size,1,none⟩=some (.int .i64 (dt:Int)))) (by kernel_rfl) ?_ (λhHeld=> ?_)
 ·exact⟨b,d0,c⟩
 clear Q u1 bp bb a9 bi;have E:=ab ai;clear ai;generalize w1.drew.drew=bA at *;refine tZ 0 ?_;try simp only [Act.put,sT,s0,s1]
 refine tZ 1 ?_;try simp only [Act.put,sT,s0,s1]
 refine tZ 2 ?_;try simp only [Act.put,sT,s0,s1]
 refine tZ 3 ?_;try simp only [Act.put,sT,s0,s1]
 refine tZ 4 ?_;try simp only [Act.put,sT,s0,s1]
 refine tZ 5 ?_;try simp only [Act.put,sT,s0,s1]
 refine tZ 6 ?_;try simp only [Act.put,sT,s0,s1]
 refine tZ 8 ?_;try simp only [Act.put,sT,s0,s1]
 refine tZ 9 ?_;try simp only [Act.put,sT,s0,s1]
 refine tZ 10 ?_;try simp only [Act.put,sT,s0,s1]
 refine tZ 11 ?_;try simp only [Act.put,sT,s0,s1]
 refine tZ 12 ?_;try simp only [Act.put,sT,s0,s1]
 refine tZ 13 ?_;try simp only [Act.put,sT,s0,s1]
 refine wpAnyH_ready (rs:=[7]) (by kernel_rfl) (by simp) ?_;refine AllReadyH.cons (o:= ?_) ?_ (λB t=> ?_) AllReadyH.nil;rotate_left 1;(focus((try simp only [gT,gs,gz]);try rfl))
 go_simp
 go_at_call 74
 refine(X.out _ E.out).mono ?_;rintro e w2 ⟨rfl,n⟩;have S:w2.cell? ⟨g,4,none⟩=some (.slice w A z)/\w2.cell? ⟨V.heap.size,0,none⟩=some (.int .i64 (k:Int))/\w2.cell? ⟨V.heap.size,1,none⟩=some (.int .i64 (dt:Int)):=⟨(n.cell (p:=⟨g,4,none⟩) (World.block_lt_of_cell? _ _ b)).trans b,(n.cell (p:=⟨V.heap.size,0,none⟩) (World.block_lt_of_cell? _ _ d0)).trans d0,(n.cell (p:=⟨V.heap.size,1,none⟩) (World.block_lt_of_cell? _ _ c)).trans c⟩;have Z:=E.out.trans (n.mono E.out.size);clear b d0 c n X hHeld;obtain⟨U,D⟩:=av S Z;clear S Z;refine t.out _ _ ?_ (λhHeld=> ?_)
 ·exact U.out
 clear t B
 try simp only [Act.put,sT,s0,s1]
 refine wpAnyH_ready (rs:=[14]) (by kernel_rfl) (by simp) ?_;refine AllReadyH.cons (o:= ?_) ?_ (λB t=> ?_) AllReadyH.nil;rotate_left 1;(focus((try simp only [gT,gs,gz]);try rfl))
 go_simp
 go_at_call 256
 refine(Y.out _ D.out).mono ?_;rintro e w3 ⟨rfl,o⟩;obtain⟨b,d0,c⟩:=U.out;have T:w3.cell? ⟨g,4,none⟩=some (.slice w A z)/\w3.cell? ⟨V.heap.size,0,none⟩=some (.int .i64 (k:Int))/\w3.cell? ⟨V.heap.size,1,none⟩=some (.int .i64 (dt:Int)):=⟨(o.cell (p:=⟨g,4,none⟩) (World.block_lt_of_cell? _ _ b)).trans b,(o.cell (p:=⟨V.heap.size,0,none⟩) (World.block_lt_of_cell? _ _ d0)).trans d0,(o.cell (p:=⟨V.heap.size,1,none⟩) (World.block_lt_of_cell? _ _ c)).trans c⟩;have ad:=W.out.trans ((D.out.trans (o.mono D.out.size)).mono W.out.size);clear b d0 c o Y hHeld;obtain⟨a6,a7⟩:=av T ad;clear T ad;refine t.out _ _ ?_ (λhHeld=> ?_)
 ·exact a6.out
 clear t B
 try simp only [Act.put,sT,s0,s1]
 refine tZ 15 ?_;try simp only [Act.put,sT,s0,s1]
 refine wpAnyH_done (by kernel_rfl) ?_ _
 go_wp2_with fail
 go_ret
 exact⟨rfl,a7.out⟩
def i3 (y:Dy) (i:Nat) (k:Int):Dy×Nat:=match(y.fi i).find? (λx=>decide (x.1=k))with|some x=>(y,x.2)|none=>({i8 y with fi:=upd y.fi i (y.fi i++[(k,y.na)])},y.na)
theorem infoFinal:(prog.info? 299).map (λa=>(a.zero,a.size,a.bytes))=some (some (.agg #[.int .i64 0,.int .i64 0]),2,16):=by kernel_rfl
theorem elemFinal:dZ prog 297 299 (.agg #[.int .i64 0,.int .i64 0]) 2 16:=⟨underlying297,infoFinal,rfl,by decide⟩
theorem wt (l:List (Int×Nat)):(gK l).length=l.length * 2:=jJ (k:=2) (f:=λa:Int×Nat=>[.int .i64 a.1,.int .i64 (a.2:Int)]) (λ_=>rfl) l
theorem Be {l:List (Int×Nat)} {k:Nat} {x:Int×Nat} (h:l[k]? =some x):(gK l)[k * 2]? =some (.int .i64 x.1)/\(gK l)[k * 2+1]? =some (.int .i64 (x.2:Int)):=
 ⟨ez (k:=2) (f:=λx:Int×Nat=>[.int .i64 x.1,.int .i64 (x.2:Int)]) (λ_=>rfl) h (j:=0) (by omega),ez (k:=2) (f:=λx:Int×Nat=>[.int .i64 x.1,.int .i64 (x.2:Int)]) (λ_=>rfl) h (j:=1) (by omega)⟩
theorem Rows.grown_cell {V b:World} {m:Nat->Nat} {i:Nat} {e:TypeId} {size P n:Nat} {a:Nat->Value} {xs:Nat->List Value} (h:Rows V m i e size P n a xs) {k:Nat} (c:k<n) (g:V.grownBy b (a k).ownBlock):b.cell? ⟨P,k,none⟩=some (a k)/\b.frozen? ⟨P,k,none⟩=false:=by
 have j:aa (λl=>(a k).ownBlock=some l) V b:=(aa.refl _ _).grown g (λk e _=>e);have f: ¬(a k).ownBlock=some P:=λe=>(h.tag k P c e).2 rfl
 exact⟨j.cell (h.cell k c) f,(World.frozen?_of_block (a:=⟨P,k,none⟩) (j.block P h.hP.1 f)).trans (h.frz k c)⟩
theorem Fq (fi:Nat->List (Int×Nat)) (i:Nat) (k:Int) (n:Nat):upd (λa=>gK (fi a)) i (gK (fi i)++[.int .i64 k,.int .i64 (n:Int)])=λa=>gK (upd fi i (fi i++[(k,n)]) a):=by
 funext a
 by_cases e:a=i
 ·subst e;rw [aC,aC];unfold gK;rw [List.flatMap_append];rfl
 ·rw [aN e,aN e]
theorem DC (h:MK V q d y) (hT:d.T<=120) (c2:y.na<=100000000) {i:Nat} (hi:i<d.D.length) (cT:(y.fi i).length<=1000000) (cR:d.D.length<=2000) (k:Int):
  Calls prog 233 #[aq q.M,.int .i64 (i:Int),.int .i64 k] V λe w=>e= .returned (.int .i64 ((i3 y i k).2:Int))/\ui V q d (i3 y i k).1 (λa=>a=0\/a=8\/a=10) w:=by
 obtain⟨-,-,-,-,-,-,-,-,-,-,-,-,bs⟩:=h.cells;obtain⟨eg,cj⟩:=h.f;obtain⟨c9,p,dS,cc,a4,Z,cf⟩:=cj.at_ hi (by decide);rw [wt]at cf;have hm:p=(y.fi i).length:=by omega
 obtain⟨ea,d3⟩:=Z.cap;obtain⟨j,bg⟩: ∃j,j=y.fi i:=⟨_,rfl⟩;rw [<-bg]at hm cT Z;obtain⟨r,R⟩: ∃b,b=q.M:=⟨_,rfl⟩;obtain⟨dd,S⟩: ∃b,b=q.Pf:=⟨_,rfl⟩;obtain⟨v,bh⟩: ∃c5,c5=d.D.length:=⟨_,rfl⟩;rw [<-R,<-S,<-bh]at bs;rw [<-S]at a4;rw [<-R];have d5:(i:Int)<(v:Int):=by omega
 have c6:=World.block_lt_of_cell? _ _ bs;have cH:=World.block_lt_of_cell? _ _ a4;have ec:v<=2000:=by omega
 obtain⟨G,bb⟩: ∃G,G=i3 y i k:=⟨_,rfl⟩;rw [<-bb];clear cj cf hi cR;obtain⟨bA,cu,J,an,ds,aT,K,bO,dO,I⟩:=fp h hT bg R S bh hm Z cc bb;clear h hT bg R S bh hm Z cc bb;unfold aq
 go_enter func233,ntmps233
 go_wp2_with fail
 go_loopw [18] (λbp wr=> ∃c:Nat,c<=p/\bp= .int .i64 c/\(∀(a:Nat) b,a<c->j[a]? =some b->b.1≠k)/\Below V.heap.size V wr) (λbp _=>p - (intOf bp).toNat)
 case atStart=>exact⟨0,Zc _,rfl,λa y t=>absurd t (by omega),Below.refl _ _⟩
 case round=>
  obtain⟨c,ed,rfl,o,le⟩:=hrel;by_cases cU:c<p
  ·have c0:(c:Int)<(p:Int):=by omega
   obtain⟨b,f⟩: ∃b,j[c]? =some b:=⟨_,List.getElem?_eq_getElem (by rw [<-K.out];exact cU)⟩;obtain⟨b4,b5⟩:=Be f;obtain⟨b6,b3,M,-,-⟩:=bO.out.at_ b4;obtain⟨d2,s,N,-,-⟩:=bO.out.at_ b5;rw [b3]at s;injection s with s
   injection s with s
   subst s b3;have M:=(le.cell (p:=⟨b6,c * 2,none⟩) (World.block_lt_of_cell? _ _ M)).trans M;have N:=(le.cell (p:=⟨b6,c * 2+1,none⟩) (World.block_lt_of_cell? _ _ N)).trans N;have bY:Below wr.heap.size wr (wr.alloc (.cells #[.int .i64 b.1,.int .i64 (b.2:Int)] 299)):=(Below.refl _ _).alloc (Zb _) _;have bq:Blk (wr.alloc (.cells #[.int .i64 b.1,.int .i64 (b.2:Int)] 299)) wr.heap.size 299 #[.int .i64 b.1,.int .i64 (b.2:Int)]:=Blk.new _ _ _;have C:=le.trans (bY.mono le.size);have cI:=(bq.cell 0).trans rfl;have cK:=(bq.cell 1).trans rfl;clear b4 b5 bY bq;obtain⟨bu,c8⟩:=b;simp only at M N cI cK C;by_cases m:bu=k
   ·have U:(bu==k)=true:=(by simpa using m);have B:i3 y i k=(y,c8):=by
     unfold i3;rw [<-J.out,List.find?_eq_some_iff_getElem.2 ⟨by simpa using m,c,(List.getElem?_eq_some_iff.1 f).1,(List.getElem?_eq_some_iff.1 f).2,λa t=>by simpa using o a _ t (List.getElem?_eq_getElem (by have:=(List.getElem?_eq_some_iff.1 f).1;omega))⟩]
    obtain⟨dt,cB,L,cz,cA,a0⟩:=aM o le C f m B;clear o le C f m B
    go_wp2_with fail
    go_ret
    rw [I.out,a0.out];exact⟨rfl,_,bA.out.below L.out 8,rfl,StL.new _ L.out _ _⟩
   ·have U:(bu==k)=false:=(by simpa using m);have b9: ∀(a:Nat) y,a<c+1->j[a]? =some y->y.1≠k:=λa y t A=>by
     by_cases cP:a=c
     ·subst cP;rw [f]at A;injection A with A;rw [<-A];exact m
     ·exact o a y (by omega) A
    clear o;obtain⟨cx,cB,L,cz,cA⟩:=aX b9 le C f m;clear b9 le C f m
    go_wp2_with fail
    go_roundw
    case rel=>exact⟨c+1,by omega,by go_num,cx.out,L.out⟩
    case measure=>simp [intOf];omega
  ·have c0: ¬(c:Int)<(p:Int):=by omega
   have bl:j.find? (λb=>decide (b.1=k))=none:=by
    rw [List.find?_eq_none];intro b f;obtain⟨a,t,e⟩:=List.getElem_of_mem f;have:=o a b (by have:=K.out;omega) (by rw [List.getElem?_eq_getElem t,e]);simpa using this
   have a7:=bA.out.below le 8;have a5:=sR a7 cu.out c2;have b8: ∀w,ui V q d {i8 y with fi:=upd y.fi i (j++[(k,y.na)])} (λa=>a=0\/a=8\/a=10) w->ui V q d G.1 (λa=>a=0\/a=8\/a=10) w:=λw cS=>by
    rw [I.out];unfold i3;rw [<-J.out,bl];exact cS
   have ca:G.2=y.na:=by rw [I.out];unfold i3;rw [<-J.out,bl]
   have cl:StL (λa=>a=0\/a=8\/a=10) V q.ow wr (ext V q.ow 8):=StL.new _ le _ _;rw [show aq q.M= .pointer (some ⟨r,0,none⟩)from by rw [an.out]]at a5;clear o bl I le;obtain⟨cr,cv,bR,cy,dn⟩:=aX a5 b8 cl ca a7;clear a5 b8 cl ca a7
   go_wp2_with fail
   refine cr.out.mono ?_;rintro e w2 ⟨rfl,Y,P,a8,cm⟩;have a9:Y.M=r:=a8.trans an.out.symm;obtain⟨-,-,-,-,-,-,-,-,-,-,-,-,E⟩:=P.cells;obtain⟨ei,ck⟩:=P.f;have be:i<d.D.length:=by have:=aT.out;omega
   obtain⟨bw,W,b1,c3,z,ci,bo⟩:=ck.at_ be (by decide);rw [wt]at bo;have bd:(i8 y).fi i=j:=J.out.symm;rw [bd]at bo;have c1:W=p:=by have:=K.out;omega
   subst c1;have d6:W<=1000000:=by have:=K.out;omega
   obtain⟨eb,d4⟩:=ci.cap;obtain⟨l,T⟩: ∃b,b=Y.Pf:=⟨_,rfl⟩;rw [a9,<-T,<-aT.out]at E;rw [<-T]at z;obtain⟨g,bi⟩: ∃b,b=y.na:=⟨_,rfl⟩;rw [<-bi];clear ck ci bo c3 bs a4 c6 cH;obtain⟨bB,cs,bS,aS,ct,bE,cw,dr⟩:=dA P a9 cm be T bi bd a8;clear P a9 cm be T bi bd a8
   go_wp2_with fail
   refine cQ (λbx=>bx.cell? ⟨r,12,none⟩=some (.slice (some ⟨l,0,none⟩) v v)/\bx.cell? ⟨l,i,none⟩=some (.slice bw W b1)) 15 17 (by kernel_rfl) (by kernel_rfl) ⟨E,z⟩ ?_;simp only [List.take_succ_cons,List.take_zero,List.drop_succ_cons,List.drop_zero]
   iterate 15
    refine bI ?_ (by rfl) (λwS hwS=> ?_) ?_
    rotate_left
    ·(try dsimp only at hwS)
     go_simp
     all_goals with_reducible rfl
    simp only [Act.put,List.setIfInBounds_toArray,List.set_cons_zero,List.set_cons_succ]
   refine bU ?_;have x:Below w2.heap.size w2 (w2.drew.alloc (.cells #[.int .i64 k,.int .i64 (g:Int)] 299)):=((Below.refl _ _).drew).alloc (Zb _) _;have al:(w2.drew.alloc (.cells #[.int .i64 k,.int .i64 (g:Int)] 299)).cell? ⟨r,12,none⟩=some (.slice (some ⟨l,0,none⟩) v v)/\(w2.drew.alloc (.cells #[.int .i64 k,.int .i64 (g:Int)] 299)).cell? ⟨l,i,none⟩=some (.slice bw W b1):=⟨(x.cell (p:=⟨r,12,none⟩) (World.block_lt_of_cell? _ _ E)).trans E,(x.cell (p:=⟨l,i,none⟩) (World.block_lt_of_cell? _ _ z)).trans z⟩;have ch:Rd (w2.drew.alloc (.cells #[.int .i64 k,.int .i64 (g:Int)] 299)) (λb=>b=w2.heap.size) (.slice (some ⟨w2.heap.size,0,none⟩) 1 1) 2 [.int .i64 k,.int .i64 (g:Int)]:=Rd.one' (w:=w2.drew) (e:=299) [.int .i64 k,.int .i64 (g:Int)] 2 rfl;have Q:=bB.out.below x 10;obtain⟨n,u⟩: ∃b,b={Y with ow:=ext w2 Y.ow 10}:=⟨_,rfl⟩;rw [<-u]at Q;have b7:n.M=r:=by rw [u];exact cs.out
   have ba:n.Pf=l:=by rw [u];exact ct.out.symm
   have cn:StL (λa=>a=0\/a=8\/a=10) V q.ow (w2.drew.alloc (.cells #[.int .i64 k,.int .i64 (g:Int)] 299)) n.ow:=by
    rw [u];exact(bR.out.trans (bS.out.mono λa e=>e.elim .inl (λe=> .inr (.inl e)))).trans (StL.new _ x _ _)
   obtain⟨ej,ad⟩:=Q.f;rw [ba]at ad;obtain⟨cp,D,cE,cd,cG,bt,-⟩:=ad.at_ aS.out (by decide);have a6:=cG.symm.trans al.2;injection a6 with a6
   injection a6 with cM cN cO
   subst cM cN cO;have cg:=bt.own;clear E z bB bR bS x;obtain⟨bz,cC,H,dF,bC,ap,bW,a2,a1,bG,bP⟩:=fa al ch Q u b7 ba cn ad cd cg bt;clear al ch Q u b7 ba cn ad cd cg bt;generalize c4:w2.drew.alloc (.cells #[.int .i64 k,.int .i64 (g:Int)] 299)=c7 at *;refine ay ?_
   go_wp2_with fail
   try rw [c4]
   refine⟨bz.out,ay ?_⟩
   go_wp2_with (at_builtin;refine aJ _ rfl (.tmp 42) (.tmp 46) _ rfl elemFinal 0 (.slice cp D cE) D _ rfl bG.out _ _ [.int .i64 k,.int .i64 (g:Int)] 1 rfl rfl cC.out (by intro ee cb;simp only [List.mem_cons,List.not_mem_nil,or_false]at cb;rcases cb with rfl|rfl<;>rfl) (by unfold maxLen;omega) (by omega) (Zc _) ?_)
   intro ak a3 w9 br O bc;obtain⟨ai,F⟩:=a2.out.app aS.out a1.out br O bc;obtain⟨b2,d1⟩:=a2.out.grown_cell aS.out (by rw [a1.out];exact O);rw [a1.out]at b2;obtain⟨-,co⟩:=bP.out.app br O bc;have U:=H.out.box.touch co.t (by rw [H.out.tm];omega);have b0:w9.cell? ⟨n.M,12,none⟩=some (.slice (some ⟨n.Pf,0,none⟩) d.D.length d.D.length):=(U.cell 12).trans rfl;rw [bC.out,ap.out,<-aT.out]at b0;rw [Fq]at ai;rw [<-ap.out]at ai F;have X:=H.out.putN ⟨_,ai⟩ F;have ce:w9.setCell ⟨n.Pf,i,none⟩ (.slice ak (D+1) a3)=w9.setCell ⟨l,i,none⟩ (.slice ak (D+1) a3):=by rw [ap.out]
   rw [ce]at F X;have e:upd (i8 y).fi i ((i8 y).fi i++[(k,g)])=upd y.fi i (j++[(k,y.na)]):=by rw [cw.out,bE.out];rfl
   rw [e]at X;have B:=cv.out (w9.setCell ⟨l,i,none⟩ (.slice ak (D+1) a3)) ⟨{n with ow:=ext c7 n.ow 10},X,bC.out.trans an.out,bW.out.trans (StL.mono (J':=λa=>a=0\/a=8\/a=10) F (λa e=> .inr (.inr e)))⟩;clear ce e;clear br O bc ai F co U X bz H a2 bW bP bG;have a0:=ab B;clear B;refine⟨⟨b0,b2⟩,cX ?_⟩
   go_wp2_with fail
   refine NoPanic.normal ?_
   go_wp2_with fail
   go_ret
   exact⟨by rw [cy.out,<-bE.out];rfl,a0.out⟩
end
end Go.Proofs.YthlbjgabhpdbfaaGreat

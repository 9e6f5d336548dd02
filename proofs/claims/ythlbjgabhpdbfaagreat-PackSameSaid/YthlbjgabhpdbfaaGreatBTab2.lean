/- Tables in memory: is one right; the action of a place; where a nonterminal leads. -/
import Derived.Test.YthlbjgabhpdbfaaGreatBActsPlain
set_option linter.unusedVariables false
set_option linter.unusedSimpArgs false
set_option maxRecDepth 100000
set_option maxHeartbeats 4000000
namespace Go.Proofs.YthlbjgabhpdbfaaGreat
open Go.Proofs.Tryz
open Int renaming eq_ofNat_of_zero_le->Za,toNat_natCast->Zb
open List renaming map_map->Zc,mem_of_getElem?->Zd,take_of_length_le->Ze
open Nat renaming le_refl->Zf,zero_le->Zg
open Go.RowKit
attribute [local irreducible] wpStill aB aO
theorem Df {t:aW} (h:t.rules.length=0\/t.acts.length=0\/t.acts.length≠t.goto.length\/t.terms<0\/t.nons<0):dI t=false:=by
 have:kD t=false:=by
  unfold kD;rcases h with h|h|h|h|h
  ·simp [h]
  ·simp [h]
  ·simp [h]
  ·have: ¬0<=t.terms:=by omega
   simp [this]
  ·have: ¬0<=t.nons:=by omega
   simp [this]
 unfold dI;rw [this];rfl
theorem BO {t:aW} (a: ¬t.rules.length=0) (b: ¬t.acts.length=0) (c:t.acts.length=t.goto.length) (d:0<=t.terms) (e:0<=t.nons):dI t=((t.rules.take (t.rules.length - 1)).all (mi t.terms t.nons)&&(List.zip t.acts t.goto).all (iz t.terms t.nons t.acts.length t.rules.length)):=by
 unfold dI kD;rw [decide_eq_false a,decide_eq_false b,decide_eq_true c,decide_eq_true d,decide_eq_true e];rfl
theorem B4 {w:World} {F:Nat->Prop} {bS bP bR:Value} {t:aW} (h:bL w F bS bP bR t):
  Calls prog 21 #[TV bS t.terms t.nons bP bR] w (aI w (.bool (dI t))):=by
 obtain⟨ap,ad,aS,bc,aT,bd,rfl,rfl,rfl,cH,cI,cK,cM,cN,cO⟩:=h.slices;obtain⟨ct,cs⟩:=h.tn;have ci:=h.lt;have V:=λcl=>Df (t:=t) cl
 have bg:=λb8 cb cc cd e=>BO (t:=t) b8 cb cc cd e
 obtain⟨w1,u⟩: ∃w1,w1=w.alloc (.cells #[.slice ap t.rules.length ad,.int .i64 t.terms,.int .i64 t.nons,.slice aS t.acts.length bc,.slice aT t.goto.length bd] 35):=⟨_,rfl⟩;have W:=eJ.new h t.terms t.nons;have bb:Below w.heap.size w w1:=by rw [u];exact(Below.refl _ w).alloc (Zf _) _
 rw [<-u]at W;have be:=λwr (cf:eJ wr F w.heap.size ap ad aS bc aT bd t.rules.length t.acts.length t.goto.length t.terms t.nons t) (p:Nat) J K (S:t.acts[p]? =some J) (y:t.goto[p]? =some K)=>E9 cf.tab S y
 obtain⟨D,E,G,H,I⟩:=W.cells;have an:=h.wr;unfold W64 at ct cs an;generalize hT:t.terms=b at *;generalize bp:t.nons=k at *;generalize bA:t.acts.length=j at *;generalize bq:t.rules.length=T at *;generalize hm:t.goto.length=bO at *;generalize dI t=cT at *;clear h ci;obtain⟨O,bY,bW,l,a0,a6,a5,a3,cv,cu,b7⟩:=fa V bg be bb W bA hm bq hT bp an;clear V bg be bb W bA hm bq hT bp an;by_cases br:T=0
 ·subst br;have c:=O.out (.inl rfl);have i:=ab c;clear c
  go_enter func21,ntmps21
  go_wp2_with fail
  rw [<-u]
  go_ret
  exact⟨af i.out.symm,l.out⟩
 ·have cx:((T:Int)==0)=false:=by simp;omega
  by_cases bB:j=0
  ·subst bB;have c:=O.out (.inr (.inl rfl));have i:=ab c;clear c
   go_enter func21,ntmps21
   go_wp2_with fail
   rw [<-u]
   go_ret
   exact⟨af i.out.symm,l.out⟩
  ·have cz:((j:Int)==0)=false:=by simp;omega
   by_cases bC:j=bO
   ·subst bC;have cp:((j:Int) !=(j:Int))=false:=(by simp);by_cases ck:b<0
    ·have c:=O.out (.inr (.inr (.inr (.inl ck))));have i:=ab c;clear c
     go_enter func21,ntmps21
     go_wp2_with fail
     rw [<-u]
     go_ret
     exact⟨af i.out.symm,l.out⟩
    ·by_cases cj:k<0
     ·have c:=O.out (.inr (.inr (.inr (.inr cj))));have i:=ab c;clear c
      go_enter func21,ntmps21
      go_wp2_with fail
      rw [<-u]
      go_ret
      exact⟨af i.out.symm,l.out⟩
     ·have c:=bY.out br bB rfl (by omega) (by omega);obtain⟨a,rfl⟩: ∃a,T=a+1:=⟨T - 1,by omega⟩;rw [Nat.add_sub_cancel]at c;have cE:IntKind.i64.wrap (((a+1:Nat):Int) - 1)=(a:Int):=(by rw [IntKind.wrap_i64];omega);have cG:IntKind.i64.wrap ((a:Int)+1 - 1)=(a:Int):=(by rw [IntKind.wrap_i64];omega);have cB:(a:Int)<=(ad:Int):=(by omega);have cA:(0:Int)<=(a:Int):=(by omega);have bz:(t.rules.take a).length=a:=(by rw [List.length_take,a3.out];omega);have bh:((t.rules.take a).take 0).all (mi b k)=true:=rfl;have bi:((List.zip t.acts t.goto).take 0).all (iz b k j (a+1))=true:=rfl;have bG:Below w1.heap.size w1 w1:=Below.refl _ _;obtain⟨i,b2,a1,a2,ba⟩:=aX c bz bh bi bG;clear c bz bh bi bG
      go_enter func21,ntmps21
      go_wp2_with fail
      rw [<-u];clear u
      go_loopw [43] (λC wr=> ∃g:Nat,g<=a/\C= .int .i64 (g:Int)/\Below w1.heap.size w1 wr/\((t.rules.take a).take g).all (mi b k)=true) (λC _=>a - (intOf C).toNat)
      case atStart=>exact⟨0,Zg _,rfl,ba.out,a1.out⟩
      case round=>
       clear a1 ba;obtain⟨g,cy,rfl,le,d⟩:=hrel;have q:=a0.out.below le;by_cases cn:g<a
       ·have co:(g:Int)<(a:Int):=(by omega);obtain⟨-,-,-,bw⟩:=dP.at_ q.tab.rules;obtain⟨cw,cP,rfl,-,bu⟩:=bw (by omega);obtain⟨f,m⟩: ∃f,t.rules[g]? =some f:=⟨_,List.getElem?_eq_getElem (by rw [a3.out];omega)⟩;obtain⟨cS,b9,ca,cr⟩:=bu g f m;obtain⟨X,al,ai,rfl,-⟩:=cr;have s:(t.rules.take a)[g]? =some f:=(by rw [List.getElem?_take_of_lt cn];exact m);have B:=b7.out f (Zd m);have Z:Below wr.heap.size wr (wr.alloc (.cells #[.int .i64 f.1,.slice X al ai] 98)):=(Below.refl _ _).alloc (Zf _) _;have ak:Blk (wr.alloc (.cells #[.int .i64 f.1,.slice X al ai] 98)) wr.heap.size 98 #[.int .i64 f.1,.slice X al ai]:=Blk.new _ _ _;have v:=le.trans (Z.mono le.size);obtain⟨D,E,G,H,I⟩:=(q.below Z).cells;have ce:=(ak.cell 0).trans rfl;have V:=(ak.cell 1).trans rfl;have r:mi b k f=(decide (b<f.1)&&decide (f.1 - b<=k)):=rfl;obtain⟨z,cR⟩:=f;simp only at b9 ca ce V v D E G H I B r;clear bw bu Z ak q le m;by_cases bl:b<z
        ·have cC:IntKind.i64.wrap (z - b)=z - b:=(by rw [IntKind.wrap_i64];omega);have cg: ¬z<=b:=(by omega);by_cases bo:z - b<=k
         ·have ch: ¬k<z - b:=(by omega);have y:=oh s d (by rw [r,decide_eq_true bl,decide_eq_true bo];rfl);obtain⟨Y,b5,U,a7,a4,a8⟩:=aM v y d s r B;clear v y d s r B
          go_wp2_with fail
          go_roundw
          case rel=>exact⟨g+1,by omega,by go_num,Y.out,b5.out⟩
          case measure=>simp [intOf];omega
         ·have ch:k<z - b:=(by omega);have x:=lh (p:=mi b k) s (by rw [r,decide_eq_false bo,Bool.and_false]);have o:=l.out.trans (v.mono l.out.size);obtain⟨Y,P,U,a7,a4,a8,A⟩:=de v x d s r B o;clear v x d s r B o
          go_wp2_with fail
          go_ret
          exact⟨af (by rw [i.out,P.out];rfl),A.out⟩
        ·have cg:z<=b:=(by omega);have x:=lh (p:=mi b k) s (by rw [r,decide_eq_false bl];rfl);have o:=l.out.trans (v.mono l.out.size);obtain⟨Y,P,U,a7,a4,a8,A⟩:=de v x d s r B o;clear v x d s r B o
         go_wp2_with fail
         go_ret
         exact⟨af (by rw [i.out,P.out];rfl),A.out⟩
       ·have co: ¬(g:Int)<(a:Int):=(by omega);have bs:=qv d (by rw [b2.out];omega);obtain⟨D,E,G,H,I⟩:=q.cells;clear d q;obtain⟨b0,n⟩:=av bs le;clear bs le
        go_wp2_with fail
        go_loopw [66] (λC wr=> ∃g:Nat,g<=j/\C= .int .i64 (g:Int)/\Below w1.heap.size w1 wr/\((List.zip t.acts t.goto).take g).all (iz b k j (a+1))=true) (λC _=>j - (intOf C).toNat)
        case atStart=>exact⟨0,Zg _,rfl,n.out,a2.out⟩
        case round=>
         clear n a2 D E G H I;obtain⟨p,hi,rfl,le,d⟩:=hrel;have q:=a0.out.below le;by_cases bx:p<j
         ·have cm:(p:Int)<(j:Int):=(by omega);obtain⟨J,S⟩: ∃J,t.acts[p]? =some J:=⟨_,List.getElem?_eq_getElem (by rw [a6.out];exact bx)⟩;obtain⟨K,y⟩: ∃K,t.goto[p]? =some K:=⟨_,List.getElem?_eq_getElem (by rw [a5.out];exact bx)⟩;have L:(List.zip t.acts t.goto)[p]? =some (J,K):=(by rw [List.getElem?_zip_eq_some];exact⟨S,y⟩);have R:=bW.out wr q p J K S y;obtain⟨f,m⟩: ∃f,f=iz b k j (a+1) (J,K):=⟨_,rfl⟩;rw [<-m]at R;obtain⟨D,E,G,H,I⟩:=q.cells;clear S y q;cases f with
          |true=>
           have bE:=oh L d m.symm;obtain⟨n,N,b6,U,b4,b3⟩:=aM le R bE d L m;clear le R bE d L m
           go_wp2_with fail
           refine N.out.mono ?_;rintro e w3 ⟨rfl,Q⟩;have M:=n.out.trans (Q.mono n.out.size);clear Q N n D E G H I;have a9:=ab M;clear M
           go_wp2_with fail
           go_roundw
           case rel=>exact⟨p+1,by omega,by go_num,a9.out,b6.out⟩
           case measure=>simp [intOf];omega
          |false=>
           have x:=lh L m.symm;obtain⟨n,N,P,U,b4,b3⟩:=aM le R x d L m;clear le R x d L m
           go_wp2_with fail
           refine N.out.mono ?_;rintro e w3 ⟨rfl,Q⟩;have M:=n.out.trans (Q.mono n.out.size);have o:=l.out.trans (M.mono l.out.size);clear Q N n D E G H I;obtain⟨a9,A⟩:=av M o;clear M o
           go_wp2_with fail
           go_ret
           exact⟨af (by rw [i.out,P.out,Bool.and_false]),A.out⟩
         ·have cm: ¬(p:Int)<(j:Int):=(by omega);have bt:=qv d (by rw [List.length_zip,a6.out,a5.out];omega);have o:=l.out.trans (le.mono l.out.size);clear d q;obtain⟨b1,n,A⟩:=aK bt le o;clear bt le o
          go_wp2_with fail
          go_ret
          exact⟨af (by rw [i.out,b0.out,b1.out];rfl),A.out⟩
   ·have c:=O.out (.inr (.inr (.inl bC)));have cp:((j:Int) !=(bO:Int))=true:=(by simp;omega);have i:=ab c;clear c
    go_enter func21,ntmps21
    go_wp2_with fail
    rw [<-u]
    go_ret
    exact⟨af i.out.symm,l.out⟩
theorem Fv {t:aW} {i k:Int} (h:i<0\/(t.acts.length:Int)<=i\/k<0):iO t i k=(0,0):=if_pos h
theorem EY {t:aW} {i:Nat} {k:Int} {x:List Ac} (a:t.acts[i]? =some x) (d:0<=k) (h:(x.length:Int)<=k):iO t (i:Int) k=(0,0):=by
 have hi:=(List.getElem?_eq_some_iff.1 a).1;unfold iO;have b:t.acts.getD i []=x:=by simp [List.getD,a]
 have c:x.getD k.toNat (0,0)=(0,0):=by rw [List.getD,List.getElem?_eq_none (by omega)];rfl
 rw [if_neg (by omega),Zb,b,c]
theorem Fw {t:aW} {i k:Nat} {x:List Ac} {a:Ac} (b:t.acts[i]? =some x) (e:x[k]? =some a):iO t (i:Int) (k:Int)=a:=by
 have hi:=(List.getElem?_eq_some_iff.1 b).1;unfold iO;have c:t.acts.getD i []=x:=by simp [List.getD,b]
 have d:x.getD k (0,0)=a:=by simp [List.getD,e]
 rw [if_neg (by omega),Zb,Zb,c,d]
def AcV (a:Ac):Value:= .agg #[.int .i64 a.1,.int .i64 a.2]
theorem Eb {w:World} {F:Nat->Prop} {ad Y Z:Value} {t:aW} (h:bL w F ad Y Z t) (i k:Int):
  Calls prog 26 #[TV ad t.terms t.nons Y Z,.int .i64 i,.int .i64 k] w (aI w (AcV (iO t i k))):=by
 obtain⟨G,I,ai,J,H,K,rfl,rfl,rfl,bd,be,bg,bi,bl,bo⟩:=h.slices;have ba:=h.lt;have r:=λan=>Fv (t:=t) (i:=i) (k:=k) an
 have y:=λ(c:Nat) a (f:t.acts[c]? =some a) (e:i=(c:Int)) (l:0<=k) (C:(a.length:Int)<=k)=>(show iO t i k=(0,0) by rw [e];exact EY f l C)
 have z:=λ(c n:Nat) a l (f:t.acts[c]? =some a) (D:a[n]? =some l) (e:i=(c:Int)) (ak:k=(n:Int))=>(show iO t i k=l by rw [e,ak];exact Fw f D)
 obtain⟨w1,d⟩: ∃w1,w1=w.alloc (.cells #[.slice G t.rules.length I,.int .i64 t.terms,.int .i64 t.nons,.slice ai t.acts.length J,.slice H t.goto.length K] 35):=⟨_,rfl⟩;have s:=eJ.new h t.terms t.nons;have V:Below w.heap.size w w1:=by rw [d];exact(Below.refl _ w).alloc (Zf _) _
 rw [<-d]at s;have B:=λ(c:Nat) a (f:t.acts[c]? =some a)=>mP.row h.acts f
 generalize t.terms=N at *;generalize t.nons=L at *;generalize A:t.acts.length=E at *;generalize t.rules.length=M at *;generalize t.goto.length=O at *;generalize iO t i k=a4 at *;obtain⟨a5,a6⟩:=a4;clear h;have b:Below w.heap.size w (w1.alloc (.cells #[.int .i64 0,.int .i64 0] 46)):=V.trans (((Below.refl _ w1).alloc (Zf _) _).mono V.size);by_cases ap:i<0
 ·have j:=r (.inl ap);injection j with u v
  subst u v;rw [d]at b;clear r y z B s A;have o:=ab b;clear b
  go_enter func26,ntmps26
  go_wp2_with fail
  refine bodyPost_ret (v:= .agg #[.int .i64 0,.int .i64 0]) (by simp [results,results26,go_sem]) rfl ?_;exact⟨rfl,by simpa using o.out⟩
 ·by_cases aS:(E:Int)<=i
  ·have j:=r (.inr (.inl aS));injection j with u v
   subst u v;rw [d]at b;clear r y z B s A;have o:=ab b;clear b
   go_enter func26,ntmps26
   go_wp2_with fail
   refine bodyPost_ret (v:= .agg #[.int .i64 0,.int .i64 0]) (by simp [results,results26,go_sem]) rfl ?_;exact⟨rfl,by simpa using o.out⟩
  ·by_cases aT:k<0
   ·have j:=r (.inr (.inr aT));injection j with u v
    subst u v;rw [d]at b;clear r y z B s A;have o:=ab b;clear b
    go_enter func26,ntmps26
    go_wp2_with fail
    refine bodyPost_ret (v:= .agg #[.int .i64 0,.int .i64 0]) (by simp [results,results26,go_sem]) rfl ?_;exact⟨rfl,by simpa using o.out⟩
   ·obtain⟨c,rfl⟩:=Za (by omega:0<=i);obtain⟨n,rfl⟩:=Za (by omega:0<=k);obtain⟨a,f⟩: ∃a,t.acts[c]? =some a:=⟨_,List.getElem?_eq_getElem (by rw [A];omega)⟩;obtain⟨C,P,a7,a9,al,bb,g,U,bh,a2⟩:=B c a f;subst al;unfold maxLen at a2;have g:=ae ((Below.refl _ w).alloc (Zf _) (.cells #[.slice G M I,.int .i64 N,.int .i64 L,.slice (some ⟨C,P,none⟩) E J,.slice H O K] 35)) g;have bc:(c:Int)<(E:Int):=(by omega);by_cases a0:n<a.length
    ·obtain⟨l,D⟩: ∃l,a[n]? =some l:=⟨_,List.getElem?_eq_getElem a0⟩;have j:=z c n a l f D rfl rfl;obtain⟨-,-,-,X⟩:=aH.at_ U;obtain⟨a8,bp,rfl,-,W⟩:=X (by omega);obtain⟨p,q⟩:=W n l D;have p:=ae ((Below.refl _ w).alloc (Zf _) (.cells #[.slice G M I,.int .i64 N,.int .i64 L,.slice (some ⟨C,P,none⟩) E J,.slice H O K] 35)) p;have q:=ae ((Below.refl _ w).alloc (Zf _) (.cells #[.slice G M I,.int .i64 N,.int .i64 L,.slice (some ⟨C,P,none⟩) E J,.slice H O K] 35)) q;rw [<-d]at g p q;obtain⟨Q,R,S,x,T⟩:=s.cells;have m:Below w1.heap.size w1 (w1.alloc (.cells #[.int .i64 0,.int .i64 0] 46)):=(Below.refl _ _).alloc (Zf _) _;have g:=ae m g;have p:=ae m p;have q:=ae m q;have x:=ae m x;rw [d]at g p q x;rw [<-j]at p q;simp only at p q;have a1:(n:Int)<(a.length:Int):=(by omega);generalize a.length=a3 at *;clear r y z B X W D j U s A f Q R S T m;rw [d]at b;have o:=ab b;clear b
     go_enter func26,ntmps26
     go_wp2_with fail
     refine bodyPost_ret (v:= .agg #[.int .i64 a5,.int .i64 a6]) (by simp [results,results26,go_sem]) rfl ?_;exact⟨rfl,((Below.refl _ w).alloc (Zf _) _).alloc (by simp) _⟩
    ·have j:=y c a f rfl (by omega) (by omega);injection j with u v
     subst u v;have a1:(a.length:Int)<=(n:Int):=(by omega);generalize a.length=a3 at *;obtain⟨Q,R,S,x,T⟩:=s.cells;have m:Below w1.heap.size w1 (w1.alloc (.cells #[.int .i64 0,.int .i64 0] 46)):=(Below.refl _ _).alloc (Zf _) _;rw [<-d]at g;have g:=ae m g;have x:=ae m x;rw [d]at g x;clear r y z B U s A f Q R S T m;rw [d]at b;have o:=ab b;clear b
     go_enter func26,ntmps26
     go_wp2_with fail
     refine bodyPost_ret (v:= .agg #[.int .i64 0,.int .i64 0]) (by simp [results,results26,go_sem]) rfl ?_;exact⟨rfl,by simpa using o.out⟩
theorem EL {t:aW} {i s:Int} (h:i<0\/(t.goto.length:Int)<=i\/t.terms<0\/s<=t.terms):gw t i s= -1:=if_pos h
theorem DK {t:aW} {i:Nat} {s:Int} {x:List Int} (a:t.goto[i]? =some x) (d:0<=t.terms) (e:t.terms<s) (h:(x.length:Int)<=s - t.terms - 1):gw t (i:Int) s= -1:=by
 have hi:=(List.getElem?_eq_some_iff.1 a).1;unfold gw;have b:t.goto.getD i []=x:=by simp [List.getD,a]
 have c:x.getD (s - t.terms - 1).toNat (-1)= -1:=by rw [List.getD,List.getElem?_eq_none (by omega)];rfl
 rw [if_neg (by omega),Zb,b,c]
theorem EM {t:aW} {i q:Nat} {s:Int} {x:List Int} {a:Int} (b:t.goto[i]? =some x) (g:0<=t.terms) (h:t.terms<s) (f:s - t.terms - 1=(q:Int)) (e:x[q]? =some a):gw t (i:Int) s=a:=by
 have hi:=(List.getElem?_eq_some_iff.1 b).1;unfold gw;have c:t.goto.getD i []=x:=by simp [List.getD,b]
 have d:x.getD q (-1)=a:=by simp [List.getD,e]
 rw [if_neg (by omega),Zb,c,f,Zb,d]
theorem CQ {w:World} {F:Nat->Prop} {L J K:Value} {t:aW} (h:bL w F L J K t) (i s:Int) (a3:s<=9223372036854775807):
  Calls prog 25 #[TV L t.terms t.nons J K,.int .i64 i,.int .i64 s] w (aI w (.int .i64 (gw t i s))):=by
 obtain⟨A,C,B,D,M,E,rfl,rfl,rfl,a6,a7,a8,ba,bb,bc⟩:=h.slices;have a0:=h.lt;have al:=h.tn.1;unfold W64 at al;have j:=λU=>EL (t:=t) (i:=i) (s:=s) U
 have n:=λ(b:Nat) a (g:t.goto[b]? =some a) (e:i=(b:Int)) (l:0<=t.terms) (v:t.terms<s) (x:(a.length:Int)<=s - t.terms - 1)=>(show gw t i s= -1 by rw [e];exact DK g l v x)
 have o:=λ(b k:Nat) a l (g:t.goto[b]? =some a) (e:i=(b:Int)) (x:0<=t.terms) (R:t.terms<s) (S:s - t.terms - 1=(k:Int)) (q:a[k]? =some l)=>(show gw t i s=l by rw [e];exact EM g x R S q)
 have c:Below w.heap.size w (w.alloc (.cells #[.slice A t.rules.length C,.int .i64 t.terms,.int .i64 t.nons,.slice B t.acts.length D,.slice M t.goto.length E] 35)):=(Below.refl _ w).alloc (Zf _) _;have p:=λ(b:Nat) a (g:t.goto[b]? =some a)=>mO.row h.goto g
 generalize t.terms=m at *;generalize t.nons=N at *;generalize t.acts.length=ai at *;generalize t.rules.length=O at *;generalize hm:t.goto.length=y at *;generalize gw t i s=be at *;clear h;by_cases V:i<0
 ·have d:=j (.inl V);subst d;clear j n o p hm;have f:=ab c;clear c
  go_enter func25,ntmps25
  go_wp2_with fail
  go_ret
  exact⟨rfl,f.out⟩
 ·by_cases W:(y:Int)<=i
  ·have d:=j (.inr (.inl W));subst d;clear j n o p hm;have f:=ab c;clear c
   go_enter func25,ntmps25
   go_wp2_with fail
   go_ret
   exact⟨rfl,f.out⟩
  ·by_cases hT:m<0
   ·have d:=j (.inr (.inr (.inl hT)));subst d;clear j n o p hm;have f:=ab c;clear c
    go_enter func25,ntmps25
    go_wp2_with fail
    go_ret
    exact⟨rfl,f.out⟩
   ·by_cases Z:s<=m
    ·have d:=j (.inr (.inr (.inr Z)));subst d;clear j n o p hm;have f:=ab c;clear c
     go_enter func25,ntmps25
     go_wp2_with fail
     go_ret
     exact⟨rfl,f.out⟩
    ·obtain⟨b,rfl⟩:=Za (by omega:0<=i);obtain⟨k,r⟩:=Za (by omega:0<=s - m - 1);obtain⟨a,g⟩: ∃a,t.goto[b]? =some a:=⟨_,List.getElem?_eq_getElem (by rw [hm];omega)⟩;obtain⟨v,ak,ap,aT,T,a1,G,z,a9,ad⟩:=p b a g;subst T;unfold maxLen at ad;have u:Below w.heap.size w (w.alloc (.cells #[.slice A O C,.int .i64 m,.int .i64 N,.slice B ai D,.slice (some ⟨v,ak,none⟩) y E] 35)):=(Below.refl _ w).alloc (Zf _) _;have G:=ae u G;have a2:(b:Int)<(y:Int):=(by omega);have a4:IntKind.i64.wrap (s - m)=s - m:=(by rw [IntKind.wrap_i64];omega);have a5:IntKind.i64.wrap (s - m - 1)=(k:Int):=(by rw [IntKind.wrap_i64];omega);by_cases X:k<a.length
     ·obtain⟨l,q⟩: ∃l,a[k]? =some l:=⟨_,List.getElem?_eq_getElem X⟩;have d:=o b k a l g rfl (by omega) (by omega) r q;obtain⟨-,-,-,I⟩:=RdI.at_ z;obtain⟨aS,bd,rfl,-,H⟩:=I (by omega);have Q:=ae u (H k l q);rw [<-d]at Q;have Y:(k:Int)<(a.length:Int):=(by omega);generalize a.length=an at *;clear j n o p I H q d z hm g u;obtain⟨f,P⟩:=av c r;clear c r
      go_enter func25,ntmps25
      go_wp2_with fail
      go_ret
      exact⟨rfl,f.out⟩
     ·have d:=n b a g rfl (by omega) (by omega) (by omega);subst d;have Y:(a.length:Int)<=(k:Int):=(by omega);generalize a.length=an at *;clear j n o p z hm g u;obtain⟨f,P⟩:=av c r;clear c r
      go_enter func25,ntmps25
      go_wp2_with fail
      go_ret
      exact⟨rfl,f.out⟩
abbrev I16 (n:Int):Value:= .int .u16 n
abbrev RdU (w:World) (F:Nat->Prop) (v:Value) (l:List Int):Prop:=Rd w F v 1 (l.map I16)
theorem RdU.at_ {w:World} {F:Nat->Prop} {A:Option Addr} {n c:Nat} {l:List Int} (h:RdU w F (.slice A n c) l):n=l.length/\n<=c/\c<=maxLen/\(0<n-> ∃a b,A=some ⟨a,b,none⟩/\F a/\ ∀(k:Nat) d,l[k]? =some d->w.cell? ⟨a,b+k,none⟩=some (.int .u16 d)):=by
 obtain⟨v,y,x,t,i,j,m,s⟩:=h;injection t with e f g
 subst e f g;refine⟨by simpa using m.symm,i,j,λr=> ?_⟩;obtain⟨a,b,o,p,q⟩:=s r;exact⟨a,b,o,p,λk d u=>q k _ (by rw [List.getElem?_map,u];rfl)⟩
theorem infoU16:(prog.info? 79).map (λa=>(a.zero,a.size,a.bytes))=some (some (.int .u16 0),1,2):=by kernel_rfl
theorem elemU16:dZ prog 137 79 (.int .u16 0) 1 2:=⟨underlying137,infoU16,rfl,by decide⟩
def ll (w:World) (xs:List Int) (e:Ending) (w':World):Prop:=Below w.heap.size w w'/\ ∃A c,e= .returned (.slice A xs.length c)/\RdU w' (λb=>w.heap.size<=b/\b<w'.heap.size) (.slice A xs.length c) xs
theorem ll.mk {w w':World} {xs:List Int} {e:Ending} {A:Option Addr} {n c B:Nat} (d:Below w.heap.size w w') (b:w.heap.size<=B) (g:n=xs.length) (f:e= .returned (.slice A n c)) (own:w'.ownsRow B 79 1 (.slice A n c) n (xs.map I16)):ll w xs e w':=by
 subst g;exact⟨d,A,c,f,(Rd.of_own own).mono λa e=>⟨Nat.le_trans b (own.lt a e).1,(own.lt a e).2⟩⟩
theorem gj {α:Type} {l:List α} {k:Nat} {x:α} (h:l[k]? =some x):l.take (k+1)=l.take k++[x]:=by
 rw [List.take_add_one,h];rfl
theorem oZ {α:Type} {f:α->Value} {l:List α} {k:Nat} {x:α} (h:l[k]? =some x):(l.take k).map f++[f x]=(l.take (k+1)).map f:=by
 rw [gj h,List.map_append];rfl
theorem vG {w:World} {F:Nat->Prop} {bd bb bc:Value} {t:aW} (h:bL w F bd bb bc t) (ai:dE t=true) {i:Nat} {x:List Ac} (p:t.acts[i]? =some x) (b7:x.length<=70000):
  Calls prog 83 #[TV bd t.terms t.nons bb bc,.int .i64 (i:Int),.int .i64 0] w (ll w (x.map dD)):=by
 obtain⟨be,bu,bg,bw,bh,bx,rfl,rfl,rfl,ca,cb,cc,cf,cg,ch⟩:=h.slices;have bB:=h.lt;obtain⟨w1,j⟩: ∃w1,w1=w.alloc (.cells #[.slice be t.rules.length bu,.int .i64 t.terms,.int .i64 t.nons,.slice bg t.acts.length bw,.slice bh t.goto.length bx] 35):=⟨_,rfl⟩;have g:=eJ.new h t.terms t.nons;have Q:Below w.heap.size w w1:=by rw [j];exact(Below.refl _ w).alloc (Zf _) _
 rw [<-j]at g;have X:=λa (c:a∈x)=>qr ai p c
 obtain⟨A,cj,b0,b5,bA,bC,R,ba,cd,bS⟩:=mP.row g.tab.acts p;have b8:=(List.getElem?_eq_some_iff.1 p).1;generalize t.terms=b3 at *;generalize t.nons=b1 at *;generalize bP:t.acts.length=bW at *;generalize t.rules.length=b2 at *;generalize t.goto.length=ce at *;subst bA;obtain⟨a4,a5,a6,a7,a8⟩:=g.cells;unfold maxLen at bS;have b9:(i:Int)<(bW:Int):=by omega
 have W: ∀A,F A->A<w1.heap.size:=g.tab.lt;clear h ai p g bB bC bP;generalize al:x.length=d at *;have V:w1.ownsRow w1.heap.size 79 1 (.slice none 0 0) 0 (((x.take 0).map dD).map I16):=World.ownsRow_nil _ _ _ _;obtain⟨bo,s,bt,bl,u,K⟩:=aM X Q ba W al V;clear X Q ba W al V;rw [j]at R a4 a5 a6 a7 a8
 go_enter func83,ntmps83
 go_wp2_with fail
 rw [<-j];clear j a4 a5 a6 a7 a8 R
 go_loopw [7,20] (λbY D wr=> ∃(b n:Nat) (k:Option Addr),b<=d/\bY= .slice k b n/\D= .int .i64 (b:Int)/\Below w1.heap.size w1 wr/\wr.ownsRow w1.heap.size 79 1 (.slice k b n) b (((x.take b).map dD).map I16)) (λ_ D _=>d - (intOf D).toNat)
 case atStart=>exact⟨0,0,none,Zg _,rfl,rfl,Below.refl _ _,K.out⟩
 case round=>
  clear K;obtain⟨b,n,k,b6,rfl,rfl,le,own⟩:=hrel;by_cases bG:b<d
  ·have bO:(b:Int)<(d:Int):=by omega
   obtain⟨a,c⟩: ∃a,x[b]? =some a:=⟨_,List.getElem?_eq_getElem (by rw [u.out];exact bG)⟩;obtain⟨⟨an,ap⟩,a0,a1⟩:=bo.out a (Zd c);obtain⟨-,-,-,ad⟩:=aH.at_ (Rd.below bt.out le bl.out);obtain⟨b4,ci,rfl,-,Z⟩:=ad (by omega);obtain⟨O,P⟩:=Z b a c;have m:Below wr.heap.size wr (wr.alloc (.cells #[.int .i64 a.1,.int .i64 a.2] 46)):=(Below.refl _ _).alloc (Zf _) _;have q:Blk (wr.alloc (.cells #[.int .i64 a.1,.int .i64 a.2] 46)) wr.heap.size 46 #[.int .i64 a.1,.int .i64 a.2]:=Blk.new _ _ _;have S:=(q.cell 0).trans rfl;have T:=(q.cell 1).trans rfl;have G:=le.trans (m.mono le.size);have r:=ah own m;have o:=BZ a.1 a.2 ⟨an,ap⟩ ⟨a0,a1⟩ (wr.alloc (.cells #[.int .i64 a.1,.int .i64 a.2] 46));have C:((x.take b).map dD).map I16++[I16 (dD a)]=((x.take (b+1)).map dD).map I16:=by rw [Zc,Zc];exact oZ (f:=I16∘dD) c
   have Y:a.1 * 16384+a.2=dD a:=rfl;rw [Y]at o;generalize dD a=f at *;obtain⟨cl,cm⟩:=a;simp only at O P m q S T G r o;obtain⟨ck,ak⟩: ∃I,I=((x.take b).map dD).map I16:=⟨_,rfl⟩;rw [<-ak]at r C;clear ak ad Z q an ap a0 a1 c Y m own le;obtain⟨v,M,J,L⟩:=aA G r o C;clear G r o C
   go_wp2_with fail
   refine J.out.mono ?_;rintro e w6 ⟨rfl,B⟩;have E:=v.out.trans (B.mono v.out.size);have a2:=ah M.out B;have z:Below w6.heap.size w6 (w6.alloc (.cells #[.int .u16 f] 79)):=(Below.refl _ _).alloc (Zf _) _;have a3:=ah a2 z;have aS:=E.trans (z.mono E.size);have a9:Rd (w6.alloc (.cells #[.int .u16 f] 79)) (λx=>x=w6.heap.size) (.slice (some ⟨w6.heap.size,0,none⟩) 1 1) 1 [.int .u16 f]:=Rd.one' (w:=w6) (e:=79) [.int .u16 f] 1 rfl;clear B E a2 z J v M O P S T;obtain⟨y,l,N⟩:=aK a3 aS a9;clear a3 aS a9
   go_wp2_with (at_builtin;refine aJ _ rfl (.tmp 24) (.tmp 27) _ rfl elemU16 w1.heap.size (.slice k b n) b _ rfl y.out _ _ [.int .u16 f] 1 rfl rfl N.out (by simp [Value.oneCell']) (by unfold maxLen;omega) (by omega) l.out.size ?_)
   intro bi bz w8 H U bE;rw [L.out]at H;have aT:=l.out.grown U l.out.size (λI bR=>(World.ownsRow.lt y.out I bR).1);clear U bE y l N L;obtain⟨bs,bq⟩:=av H aT;clear H aT
   go_wp2_with fail
   go_roundw
   case rel=>exact⟨b+1,bz,bi,by omega,rfl,by go_num,bq.out,bs.out⟩
   case measure=>simp [intOf];omega
  ·have bO: ¬(b:Int)<(d:Int):=by omega
   obtain rfl:b=d:=by omega
   rw [Ze (by rw [u.out];exact Zf _)]at own;obtain⟨br,bp⟩:=av own le;clear own le
   go_wp2_with fail
   go_ret
   exact ll.mk (s.out.trans (bp.out.mono s.out.size)) s.out.size (by rw [List.length_map,u.out]) rfl br.out
theorem vF {w:World} {F:Nat->Prop} {ad Y Z:Value} {t:aW} (h:bL w F ad Y Z t) (M:dE t=true) {i:Nat} {x:List Int} (m:t.goto[i]? =some x) (bA:x.length<=70000):
  Calls prog 83 #[TV ad t.terms t.nons Y Z,.int .i64 (i:Int),.int .i64 1] w (ll w (x.map λc=>c+1)):=by
 obtain⟨ai,a4,ak,a5,al,a6,rfl,rfl,rfl,bG,bO,bP,bS,bW,bY⟩:=h.slices;have a9:=h.lt;obtain⟨w1,e⟩: ∃w1,w1=w.alloc (.cells #[.slice ai t.rules.length a4,.int .i64 t.terms,.int .i64 t.nons,.slice ak t.acts.length a5,.slice al t.goto.length a6] 35):=⟨_,rfl⟩;have g:=eJ.new h t.terms t.nons;have D:Below w.heap.size w w1:=by rw [e];exact(Below.refl _ w).alloc (Zf _) _
 rw [<-e]at g;have J:=λb (d:b∈x)=>yW M m d
 obtain⟨r,b2,bq,bx,a8,ba,E,X,bR,bi⟩:=mO.row g.tab.goto m;have bB:=(List.getElem?_eq_some_iff.1 m).1;generalize t.terms=bt at *;generalize t.nons=br at *;generalize t.acts.length=b0 at *;generalize t.rules.length=bs at *;generalize be:t.goto.length=bh at *;subst a8;obtain⟨R,S,T,U,V⟩:=g.cells;unfold maxLen at bi;have bC:(i:Int)<(bh:Int):=by omega
 have I: ∀r,F r->r<w1.heap.size:=g.tab.lt;clear h M m g a9 ba be;generalize O:x.length=f at *;have H:w1.ownsRow w1.heap.size 79 1 (.slice none 0 0) 0 (((x.take 0).map λc=>c+1).map I16):=World.ownsRow_nil _ _ _ _;obtain⟨aS,n,a3,ap,o,A⟩:=aM J D X I O H;clear J D X I O H;rw [e]at E R S T U V
 go_enter func83,ntmps83
 go_wp2_with fail
 rw [<-e];clear e R S T U V E
 go_loopw [7,37] (λbp u wr=> ∃(a l:Nat) (j:Option Addr),a<=f/\bp= .slice j a l/\u= .int .i64 (a:Int)/\Below w1.heap.size w1 wr/\wr.ownsRow w1.heap.size 79 1 (.slice j a l) a (((x.take a).map λc=>c+1).map I16)) (λ_ u _=>f - (intOf u).toNat)
 case atStart=>exact⟨0,0,none,Zg _,rfl,rfl,Below.refl _ _,A.out⟩
 case round=>
  clear A;obtain⟨a,l,j,bz,rfl,rfl,le,own⟩:=hrel;by_cases bc:a<f
  ·have bd:(a:Int)<(f:Int):=by omega
   obtain⟨b,d⟩: ∃b,x[a]? =some b:=⟨_,List.getElem?_eq_getElem (by rw [o.out];exact bc)⟩;obtain⟨bl,bo⟩:=aS.out b (Zd d);obtain⟨-,-,-,L⟩:=RdI.at_ (Rd.below a3.out le ap.out);obtain⟨bw,b1,rfl,-,K⟩:=L (by omega);have bu:=K a b d;have s:((x.take a).map λc=>c+1).map I16++[I16 (b+1)]=((x.take (a+1)).map λc=>c+1).map I16:=by rw [Zc,Zc];exact oZ (f:=I16∘λc=>c+1) d
   have e:IntKind.i64.wrap (b+1)=b+1:=by rw [IntKind.wrap_i64];omega
   have bE:IntKind.u16.wrap (b+1)=b+1:=jF (by omega) (by omega);have q:Below wr.heap.size wr (wr.alloc (.cells #[.int .u16 (b+1)] 79)):=(Below.refl _ _).alloc (Zf _) _;have v:=ah own q;have P:=le.trans (q.mono le.size);have W:Rd (wr.alloc (.cells #[.int .u16 (b+1)] 79)) (λx=>x=wr.heap.size) (.slice (some ⟨wr.heap.size,0,none⟩) 1 1) 1 [.int .u16 (b+1)]:=Rd.one' (w:=wr) (e:=79) [.int .u16 (b+1)] 1 rfl;obtain⟨b3,N⟩: ∃z,z=((x.take a).map λc=>c+1).map I16:=⟨_,rfl⟩;rw [<-N]at v s;clear N L K bl bo d q own le;obtain⟨p,k,C,B⟩:=aA v P W s;clear v P W s
   go_wp2_with (at_builtin;refine aJ _ rfl (.tmp 41) (.tmp 45) _ rfl elemU16 w1.heap.size (.slice j a l) a _ rfl p.out _ _ [.int .u16 (b+1)] 1 rfl rfl C.out (by simp [Value.oneCell']) (by unfold maxLen;omega) (by omega) k.out.size ?_)
   intro an a7 w8 y G bb;rw [B.out]at y;have Q:=k.out.grown G k.out.size (λz bg=>(World.ownsRow.lt p.out z bg).1);clear G bb p k C B;obtain⟨a2,a0⟩:=av y Q;clear y Q
   go_wp2_with fail
   go_roundw
   case rel=>exact⟨a+1,a7,an,by omega,rfl,by go_num,a0.out,a2.out⟩
   case measure=>simp [intOf];omega
  ·have bd: ¬(a:Int)<(f:Int):=by omega
   obtain rfl:a=f:=by omega
   rw [Ze (by rw [o.out];exact Zf _)]at own;obtain⟨a1,aT⟩:=av own le;clear own le
   go_wp2_with fail
   go_ret
   exact ll.mk (n.out.trans (aT.out.mono n.out.size)) n.out.size (by rw [List.length_map,o.out]) rfl a1.out
theorem Cy {w:World} {F G:Nat->Prop} {v u:Value} {xs l:List Int} (h:RdU w F v xs) (g:RdU w G u l):
  Calls prog 166 #[v,u] w (aI w (.bool (decide (xs=l)))):=by
 obtain⟨L,c,P,rfl,_⟩:=id h;obtain⟨M,s,Q,rfl,_⟩:=id g;obtain⟨k,W,H,C⟩:=RdU.at_ h;obtain⟨hm,V,I,D⟩:=RdU.at_ g;unfold maxLen at H I;by_cases E:c=s
 ·subst E;have j:=ab k;have i:=ab hm;clear k hm
  go_enter func166,ntmps166
  go_wp2
  go_loopw [13] (λr wr=> ∃a t:Nat,a<=c/\r= .int .i64 a/\wr=w.drewN t/\ ∀b:Nat,b<a->xs[b]? =l[b]?) (λr _=>c - (intOf r).toNat)
  case atStart=>exact⟨0,0,Zg _,rfl,rfl,λb o=>absurd o (by omega)⟩
  case round=>
   obtain⟨a,t,T,rfl,rfl,z⟩:=hrel;have x:=ab z;clear z;by_cases U:a<c
   ·obtain⟨N,Y,rfl,_,A⟩:=C (by omega);obtain⟨O,Z,rfl,_,B⟩:=D (by omega);obtain⟨e,p⟩: ∃e,xs[a]? =some e:=⟨_,List.getElem?_eq_getElem (by rw [<-j.out];omega)⟩;obtain⟨f,q⟩: ∃f,l[a]? =some f:=⟨_,List.getElem?_eq_getElem (by rw [<-i.out];omega)⟩;have R:=A a e p;have S:=B a f q;have y:=ab p;have n:=ab q;clear C A p D B q;by_cases d:e=f
    ·have m:=ab d;have J:(e==f)=true:=(by subst d;simp);clear d
     go_wp2_with fail
     go_quiet (fail)
     go_wp2
     go_roundw
     case rel=>
      refine⟨a+1,t+nq,by omega,by go_num,rfl,λb o=> ?_⟩;by_cases K:b=a
      ·subst K;rw [y.out,n.out,m.out]
      ·exact x.out b (by omega)
     case measure=>simp [intOf];omega
    ·have m:=ab d;have J:(e==f)=false:=(by simpa using d);clear d
     go_wp2_with fail
     go_quiet (fail)
     go_wp2
     go_ret
     refine⟨af ?_,⟨rfl,rfl,rfl,Zf _,λ_ _=>rfl⟩⟩
     symm
     rw [decide_eq_false_iff_not];rintro rfl;rw [y.out]at n;have:=n.out;injection this with this
     exact m.out this
   ·go_wp2
    go_ret
    refine⟨af ?_,⟨rfl,rfl,rfl,Zf _,λ_ _=>rfl⟩⟩
    symm
    rw [decide_eq_true_eq];apply List.ext_getElem?;intro b;by_cases o:b<c
    ·exact x.out b (by omega)
    ·rw [List.getElem?_eq_none (by rw [<-j.out];omega),List.getElem?_eq_none (by rw [<-i.out];omega)]
 ·have X:((c:Int)==(s:Int))=false:=by simpa using(by omega: ¬(c:Int)=(s:Int))
  have j:=ab k;have i:=ab hm;clear k hm
  go_enter func166,ntmps166
  go_wp2
  go_ret
  refine⟨af ?_,⟨rfl,rfl,rfl,Zf _,λ_ _=>rfl⟩⟩
  symm
  rw [decide_eq_false_iff_not];rintro rfl;exact E (by rw [j.out,i.out])
abbrev fe (w:World) (F:Nat->Prop) (v:Value) (l:List (List Int)):Prop:=dH (λz x=>RdU w F z x) w F v l
theorem fe.below {w w':World} {F:Nat->Prop} {B:Nat} {v:Value} {l:List (List Int)} (h:fe w F v l) (b:Below B w w') (c: ∀d,F d->d<B):fe w' F v l:=dH.mono' h (λe a=>a.below b c) λg f a=>Rd.below a b c
theorem fe.touch {w w':World} {F S:Nat->Prop} {v:Value} {l:List (List Int)} (h:fe w F v l) (t:aa S w w') (b: ∀c,F c-> ¬S c):fe w' F v l:=dH.mono' h (λd a=>a.touch t b) λf e a=>Rd.touch a t b
theorem fe.mono {w:World} {F F':Nat->Prop} {v:Value} {l:List (List Int)} (h:fe w F v l) (b: ∀c,F c->F' c):fe w F' v l:=dH.mono' h (λd a=>a.mono b) λf e a=>Rd.mono a b
theorem fe.row {w:World} {F:Nat->Prop} {A:Option Addr} {n c:Nat} {l:List (List Int)} (h:fe w F (.slice A n c) l) {i:Nat} {x:List Int} (g:l[i]? =some x): ∃b e d a,A=some ⟨b,e,none⟩/\F b/\w.cell? ⟨b,e+i,none⟩=some (.slice d x.length a)/\RdU w F (.slice d x.length a) x/\x.length<=a/\a<=maxLen:=by
 obtain⟨s,-,-,p⟩:=dH.at_ h;obtain⟨b,e,m,o,q⟩:=p (by have:=(List.getElem?_eq_some_iff.1 g).1;omega);obtain⟨u,r,f⟩:=q i x g;obtain⟨d,t,a,rfl,-⟩:=id f;obtain⟨rfl,j,k,-⟩:=RdU.at_ f;exact⟨b,e,d,a,m,o,r,f,j,k⟩
theorem enters_equ: ∀a b,(callFunc 166 a).run prog b= .ok (.enter 166 a) b:=enters_of func166 (by kernel_rfl) rfl
theorem sX {w:World} {F G:Nat->Prop} {v u:Value} {xs x:List (List Int)} (h:fe w F v xs) (g:fe w G u x) (Q: ∀k,F k->k<w.heap.size) (R: ∀k,G k->k<w.heap.size):
  Calls prog 165 #[v,u,.func (.func 166) #[] #[]] w (aI w (.bool (decide (xs=x)))):=by
 obtain⟨a4,a9,rfl,an,ap⟩:=dH.shape h;obtain⟨a7,bc,rfl,aS,aT⟩:=dH.shape g;obtain⟨b,K⟩: ∃b,b=xs.length:=⟨_,rfl⟩;obtain⟨t,J⟩: ∃t,t=x.length:=⟨_,rfl⟩;rw [<-K]at h an⊢;rw [<-J]at g aS⊢;unfold maxLen at ap aT;have bd:=enters_equ;obtain⟨V,U,B,A,W,X⟩:=aM h g K J Q R;clear h g K J Q R;by_cases z:b=t
 ·subst z
  go_enter func165,ntmps165
  go_wp2_with fail
  go_loopw [17] (λM wr=> ∃a:Nat,a<=b/\M= .int .i64 a/\Below w.heap.size w wr/\ ∀c:Nat,c<a->xs[c]? =x[c]?) (λM _=>b - (intOf M).toNat)
  case atStart=>exact⟨0,Zg _,rfl,Below.refl _ _,λc L=>absurd L (by omega)⟩
  case round=>
   obtain⟨a,be,rfl,f,l⟩:=hrel;by_cases bg:a<b
   ·have a1:(a:Int)<(b:Int):=(by omega);obtain⟨n,r⟩: ∃n,xs[a]? =some n:=⟨_,List.getElem?_eq_getElem (by rw [<-B.out];omega)⟩;obtain⟨o,s⟩: ∃o,x[a]? =some o:=⟨_,List.getElem?_eq_getElem (by rw [<-A.out];omega)⟩;have P:=V.out.below f W.out;have O:=U.out.below f X.out;obtain⟨k,bp,a5,ba,rfl,-,ak,S,-,a2⟩:=fe.row P r;obtain⟨a8,bq,a6,bb,rfl,-,al,T,-,a3⟩:=fe.row O s;unfold maxLen at a2 a3;have d:=Cy S T;obtain⟨bo,q⟩: ∃N,N=n.length:=⟨_,rfl⟩;obtain⟨bl,p⟩: ∃N,N=o.length:=⟨_,rfl⟩;rw [<-q]at d ak;rw [<-p]at d al;clear S T P O;by_cases m:n=o
    ·have j:decide (n=o)=true:=(by simpa using m);rw [j]at d;obtain⟨C,Y,D,E,H,i,y,ad,Z⟩:=dQ m j d r s f l q p;clear m j d r s f l q p
     go_wp2_with fail
     refine D.out.mono ?_;rintro e w1 ⟨rfl,I⟩
     go_wp2_with fail
     go_roundw
     case rel=>
      refine⟨a+1,by omega,by go_num,i.out.trans (I.mono i.out.size),λc L=> ?_⟩;by_cases a0:c=a
      ·subst a0;rw [E.out,H.out,C.out]
      ·exact y.out c (by omega)
     case measure=>simp [intOf];omega
    ·have j:decide (n=o)=false:=(by simpa using m);rw [j]at d;obtain⟨C,Y,D,E,H,i,y,ad,Z⟩:=dQ m j d r s f l q p;clear m j d r s f l q p
     go_wp2_with fail
     refine D.out.mono ?_;rintro e w1 ⟨rfl,I⟩
     go_wp2_with fail
     go_ret
     refine⟨af ?_,i.out.trans (I.mono i.out.size)⟩
     symm
     rw [decide_eq_false_iff_not];rintro rfl;have:=E.out.symm.trans H.out;injection this with this
     exact C.out this
   ·have a1: ¬(a:Int)<(b:Int):=(by omega);obtain⟨y,i⟩:=av l f;clear l f
    go_wp2_with fail
    go_ret
    refine⟨af ?_,i.out⟩
    symm
    rw [decide_eq_true_eq];apply List.ext_getElem?;intro c;by_cases L:c<b
    ·exact y.out c (by omega)
    ·rw [List.getElem?_eq_none (by rw [<-B.out];omega),List.getElem?_eq_none (by rw [<-A.out];omega)]
 ·have bh:((b:Int) !=(t:Int))=true:=by simpa using(by omega: ¬(b:Int)=(t:Int))
  have bi:=z;have ai:=ab z;clear z
  go_enter func165,ntmps165
  go_wp2_with fail
  go_ret
  refine⟨af ?_,Below.refl _ _⟩
  symm
  rw [decide_eq_false_iff_not];rintro rfl;exact ai.out (by rw [B.out,A.out])
end Go.Proofs.YthlbjgabhpdbfaaGreat

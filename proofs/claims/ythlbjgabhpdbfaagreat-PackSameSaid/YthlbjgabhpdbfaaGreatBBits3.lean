/- Contracts of package bits, part 3: Or, Meet. -/
import Derived.Test.YthlbjgabhpdbfaaGreatBBase
import Derived.Test.YthlbjgabhpdbfaaGreatProg
import Derived.Shelf.Abstract
set_option linter.unusedVariables false
set_option maxRecDepth 100000
set_option maxHeartbeats 2000000
namespace Go.Proofs.YthlbjgabhpdbfaaGreat
open Go.Proofs.Tryz
open Bool renaming and_eq_true->Za
open List renaming any_eq_true->Zb,map_append->Zc,mem_filter->Zd,mem_map->Ze,mem_range->Zf,range_succ->Zg
open Nat renaming le_refl->Zh,lt_of_lt_of_le->Zi,zero_le->Zj
open Go.RowKit
theorem o9 {a:List (BitVec 64)} {i:Nat} {x:BitVec 64} (h:a[i]? =some x):a.getD i 0#64=x:=by simp [List.getD,h]
def gI (ws vs us:List (BitVec 64)) (k:Nat):Prop:=us.length=ws.length/\ ∀i,us.getD i 0#64=if i<k then ws.getD i 0#64|||vs.getD i 0#64 else ws.getD i 0#64
theorem gI.zero (a b:List (BitVec 64)):gI a b a 0:=⟨rfl,λc=>by simp⟩
theorem xJ {x y:BitVec 64} (h:x&&& ~~~y=0#64):y|||x=y:=by
 apply BitVec.eq_of_getLsbD_eq;intro a hi;have:=congrArg (λc=>c.getLsbD a) h;simp only [BitVec.getLsbD_and,BitVec.getLsbD_not,hi,decide_true,Bool.true_and,BitVec.getLsbD_zero]at this;rw [BitVec.getLsbD_or];cases b:y.getLsbD a
 ·rw [b]at this;simpa using this
 ·simp
theorem gI.stay {b a us:List (BitVec 64)} {k:Nat} (h:gI b a us k) (d:a.getD k 0#64&&& ~~~b.getD k 0#64=0#64):gI b a us (k+1):=by
 refine⟨h.1,λc=> ?_⟩;rw [h.2];by_cases e:c=k
 ·subst e;rw [if_neg (by omega),if_pos (by omega),xJ d]
 ·by_cases hi:c<k
  ·rw [if_pos hi,if_pos (by omega)]
  ·rw [if_neg hi,if_neg (by omega)]
theorem gI.step {a c us:List (BitVec 64)} {k:Nat} (h:gI a c us k) (d:k<a.length):gI a c (us.set k (a.getD k 0#64|||c.getD k 0#64)) (k+1):=by
 refine⟨by simpa using h.1,λb=> ?_⟩;by_cases e:b=k
 ·subst e;rw [if_pos (by omega)];simp [List.getD,h.1,d]
 ·have:(us.set k (a.getD k 0#64|||c.getD k 0#64)).getD b 0#64=us.getD b 0#64:=by simp [List.getD,List.getElem?_set_ne (Ne.symm e)]
  rw [this,h.2];by_cases hi:b<k
  ·rw [if_pos hi,if_pos (by omega)]
  ·rw [if_neg hi,if_neg (by omega)]
theorem gI.bits {c b us:List (BitVec 64)} {k:Nat} (h:gI c b us k) (j:Nat):cF us j=(cF c j||(decide (j/64<k)&&cF b j)):=by
 unfold cF;rw [h.2];by_cases a:j/64<k
 ·rw [if_pos a,BitVec.getLsbD_or];simp [a]
 ·rw [if_neg a];simp [a]
def jt (ws vs:List (BitVec 64)) (i:Nat):Bool:=decide (vs.getD i 0#64&&& ~~~ws.getD i 0#64≠0#64)
theorem tj (e d:List (BitVec 64)) (i:Nat):jt e d i=true↔ ∃b,b/64=i/\cF d b=true/\cF e b=false:=by
 unfold jt;rw [decide_eq_true_eq];constructor
 ·intro h;have: ∃a,a<64/\(d.getD i 0#64&&& ~~~e.getD i 0#64).getLsbD a=true:=by
   apply Classical.byContradiction;intro m;apply h;apply BitVec.eq_of_getLsbD_eq;intro a f;cases c:(d.getD i 0#64&&& ~~~e.getD i 0#64).getLsbD a
   ·simp
   ·exact absurd ⟨a,f,c⟩ m
  obtain⟨a,f,c⟩:=this;rw [BitVec.getLsbD_and,BitVec.getLsbD_not,decide_eq_true f,Bool.true_and,Za,Bool.not_eq_true']at c;refine⟨i * 64+a,by omega,?_,?_⟩
  ·unfold cF;rw [show(i * 64+a)/64=i by omega,show(i * 64+a)%64=a by omega];exact c.1
  ·unfold cF;rw [show(i * 64+a)/64=i by omega,show(i * 64+a)%64=a by omega];exact c.2
 ·rintro⟨b,rfl,g,j⟩ k;have:=congrArg (λn=>n.getLsbD (b%64)) k;unfold cF at g j;have l:b%64<64:=Nat.mod_lt _ (by decide);simp only [BitVec.getLsbD_and,BitVec.getLsbD_not,g,j,l]at this;simp at this
def nO (k:Nat) (f g:Nat->Bool):Bool:=(List.range k).any λj=>g j&& !f j
def me (k:Nat) (f g:Nat->Bool) (j:Nat):Bool:=f j||(g j&&decide (j<k))
theorem AY {e d:List (BitVec 64)} {f g:Nat->Bool} {k:Nat} (i: ∀a,cF e a=f a) (j: ∀a,cF d a=(g a&&decide (a<k))) (L:Nat) (n:L=(k+63)/64):(List.range L).any (jt e d)=nO k f g:=by
 rw [Bool.eq_iff_iff,nO,Zb,Zb];constructor
 ·rintro⟨m,hi,b⟩;obtain⟨a,rfl,c,l⟩:=(tj e d m).1 b;rw [j]at c;rw [i]at l;simp at c;exact⟨a,Zf.2 c.2,by simp [c.1,l]⟩
 ·rintro⟨a,h,b⟩;have h:=Zf.1 h;simp at b;exact⟨a/64,Zf.2 (by omega),(tj e d _).2 ⟨a,rfl,by rw [j];simp [b.1,h],by rw [i];exact b.2⟩⟩
def pq (w:World) (b:Nat) (S:Nat->Prop) (n:Nat) (f:Nat->Bool) (r:Bool) (e:Ending) (w':World):Prop:=e= .returned (.bool r)/\aG w' b S n f/\aa S w w'
theorem xK {w:World} {b n:Nat} {f:Nat->Bool} {S:Nat->Prop} (h:aG w b S n f):
  Calls prog 232 #[.pointer (some ⟨b,0,none⟩),.pointer none] w λe a=>e= .returned (.bool false)/\w=a:=by
 go_enter func232,ntmps232
 go_wp2_with (first
  |(go_at_call 255;refine(ib h).mono ?_;rintro e a ⟨rfl,rfl⟩)
  |(go_at_call 257;refine(Bp _ _).mono ?_;rintro e a ⟨rfl,rfl⟩))
 go_loop [5,13] (λc d=>c= .bool false/\d= .int .i64 0) (λ_ _=>0)
 case atStart=>exact⟨rfl,rfl⟩
 case round=>
  obtain⟨rfl,rfl⟩:=hrel
  go_wp2
  go_ret
  exact⟨rfl,rfl⟩
theorem B7 {w:World} {b n V t:Nat} {f g:Nat->Bool} {S bc:Nat->Prop} (h:aG w b S n f) (Y:aG w V bc t g):
  Calls prog 232 #[.pointer (some ⟨b,0,none⟩),.pointer (some ⟨V,0,none⟩)] w (pq w b S n (me (min n t) f g) (nO (min n t) f g)):=by
 have bw:=h.room;have M:=ab h;have a6:=ab Y;clear h Y
 go_enter func232,ntmps232
 go_wp2_with fail
 refine(ib M.out).mono ?_;rintro e cc ⟨rfl,rfl⟩
 go_wp2_with fail
 refine(BI a6.out n bw).mono ?_;rintro e w1 ⟨a5,W,o,rfl,A,ad,bE,a2⟩;obtain⟨⟨q,j,hi,J,r⟩,bp,ap⟩:=M.out;obtain⟨c,G⟩: ∃c,c=o.length:=⟨_,rfl⟩;have Z:c=(min n t+63)/64:=by omega
 have b5:=hi.len;have bS:c<=j.length:=by omega
 have X:gX w1 b q n j:=hi.touch (aa.of_size ad (λ_=>False)) (λr=>r) (λr=>r);have bx:b≠q:=by obtain⟨W,u,_⟩:=hi.blk;exact u.ne hi.words (by decide)
 have b9:=ap q J;rw [<-G]at A⊢;have F:=ab a2;have a7:=ab G;have P:=ab Z;have O:=ab r;have bA:=Rd.of_own A;have bq: ∀a,(Value.slice a5 c W).ownBlock=some a->w.heap.size<=a:=λa al=>(A.lt a al).1
 obtain⟨bP,ca,be,bC,b6,br,_,H⟩:=bA;injection bC with bi bl bo
 subst bi bl bo;unfold maxLen at br;have aS:=hi.high;have a8:=ab aS;clear a2 G Z r bE hi aS A
 go_wp2_with fail
 go_loopw [5,13] (λbh L wr=> ∃(a:Nat) (m:List (BitVec 64)),a<=c/\L= .int .i64 a/\bh= .bool ((List.range a).any (jt j o))/\gX wr b q n m/\gI j o m a/\aa (λi=>i=q) w1 wr) (λ_ L _=>c - (intOf L).toNat)
 case atStart=>exact⟨0,j,Zj _,rfl,rfl,X,gI.zero _ _,aa.refl _ _⟩
 case round=>
  clear X;obtain⟨a,m,al,rfl,rfl,s,d,v⟩:=hrel;have D:=ab d;have E:=ab s;obtain⟨be,u,b4,bs⟩:=s.blk;have bg:=u.cell 1;simp at bg;unfold maxLen at bs;have a1:=d.1;by_cases b2:a<c
  ·obtain⟨bd,cb,rfl,bz,ak⟩:=H (by omega);have b7:=bq bd bz;obtain⟨p,B⟩: ∃p,o[a]? =some p:=⟨_,List.getElem?_eq_getElem (by have:=a7.out;omega)⟩;obtain⟨k,C⟩: ∃k,m[a]? =some k:=⟨_,List.getElem?_eq_getElem (by omega)⟩;have K:j.getD a 0#64=k:=by
    have:=d.2 a;rw [if_neg (by omega),o9 C]at this;exact this.symm
   have bY:=v.cell (ak a (U64 p) (by simp [B])) (by simp;omega);have b0:wr.cell? ⟨q,a,none⟩=some (U64 k):=by rw [s.words.cell];simp [C]
   have b1:=s.words.frozen a;have bW:=vE p k;have b8:=uG k p;have b3:(a:Int)<m.length:=by omega
   have bu:(a:Int)<c:=by omega
   have ai:jt j o a=decide (p&&& ~~~k≠0#64):=by unfold jt;rw [K,o9 B]
   have a0:(List.range (a+1)).any (jt j o)=((List.range a).any (jt j o)||jt j o a):=by rw [Zg,List.any_append];simp
   have T:=ab B;have bR:=ab C;have U:=ab K;have N:=ab ai;have R:=ab a0;have y:=ab v;have ba:=ab a1;generalize a3:p&&& ~~~k=x at *;generalize aT:k|||p=a4 at *
   have a9:=ab aT;have bb:=ab a3;clear B C K ai a0 v d s u ak H a1 aT a3;by_cases l:x=0#64
   ·have bO:((x.toNat:Int)==0)=true:=(by rw [re];exact decide_eq_true l);have bG:x.toNat=0:=(by rw [l];rfl);have z:=ab l;clear l
    go_wp2
    go_roundw
    case rel=>
     refine⟨a+1,m,by omega,by go_num,?_,E.out,D.out.stay ?_,y.out⟩
     ·rw [R.out,N.out,z.out];simp
     ·rw [U.out,o9 T.out,bb.out,z.out]
    case measure=>simp [intOf];omega
   ·have bO:((x.toNat:Int)==0)=false:=(by rw [re];exact decide_eq_false l);have bG: ¬x.toNat=0:=λe=>l (BitVec.eq_of_toNat_eq (by simpa using e))
    have z:=ab l;clear l
    go_wp2
    go_roundw
    case rel=>
     have I:=D.out.step (k:=a) (by have:=ba.out;omega);rw [U.out,o9 T.out,a9.out]at I;have bB:=E.out.stored' (i:=a) a4 bx (λi bt=>by
      rw [I.bits,F.out]
      have:=a8.out i bt
      rw [this]
      have: ¬i<min n t:=by omega
      simp [this])
     refine⟨a+1,m.set a a4,by omega,by go_num,?_,bB,I,y.out.setCell (λ_=>rfl) _⟩;rw [R.out,N.out];simp [z.out]
    case measure=>simp [intOf];omega
  ·have bu: ¬(a:Int)<c:=by omega
   have an:a=c:=by omega
   have Q:=ab an;have y:=ab v;clear an d s u H v
   go_wp2
   go_ret
   have hT:aa S w wr:=(aa.of_size ad S).trans y.out (λi d e=>by subst e;exact J);refine⟨af ?_,⟨⟨q,m,E.out,J,λi=> ?_⟩,bp,λi d=>Zi (ap i d) hT.size⟩,hT⟩
   ·rw [Q.out];exact AY O.out F.out c P.out
   ·rw [D.out.bits,O.out,F.out];unfold me;by_cases d:i<min n t
    ·have:i/64<a:=(by have:=P.out;have:=Q.out;omega);simp [this,d]
    ·simp [d]
def eL (f:Nat->Bool) (n k:Nat):Int:=match(List.range n).find? (λj=>decide (k<=j)&&f j)with|some j=>(j:Int)|none=> -1
theorem yk {f:Nat->Bool} {n k j:Nat} (c:f j=true) (d:k<=j) (e:j<n) (b: ∀a,k<=a->a<j->f a=false):eL f n k=j:=by
 have:(List.range n).find? (λj=>decide (k<=j)&&f j)=some j:=by
  rw [List.find?_range_eq_some];refine⟨by simp [d,c],Zf.2 e,λa hi=> ?_⟩;by_cases h:k<=a
  ·simp [b a h hi]
  ·simp [h]
 simp [eL,this]
theorem qK {f:Nat->Bool} {n k:Nat} (c: ∀a,k<=a->a<n->f a=false):eL f n k= -1:=by
 have:(List.range n).find? (λb=>decide (k<=b)&&f b)=none:=by
  rw [List.find?_eq_none];intro a hi;by_cases h:k<=a
  ·simp [c a h (Zf.1 hi)]
  ·simp [h]
 simp [eL,this]
theorem zi (x:BitVec 64) (m:Nat):x.getLsbD m=decide ((x.toNat/2^m)%2=1):=by
 show x.toNat.testBit m=_;rw [Nat.testBit_eq_decide_div_mod_eq]
theorem DW {x:BitVec 64} {m j:Nat} (h:x.toNat/2^m=0) (a:m<=j):x.getLsbD j=false:=by
 have b:0<2^m:=Nat.pow_pos (by decide);have c:x.toNat<2^m:=by
  rcases Nat.lt_or_ge x.toNat (2^m)with h'|h'
  ·exact h'
  ·have:=Nat.div_pos h' b;omega
 have d:x.toNat<2^j:=Zi c (Nat.pow_le_pow_right (by decide) a);rw [zi,Nat.div_eq_of_lt d];rfl
theorem Bu (y:Nat) (a:y<18446744073709551616):bits .and .u64 (y:Int) 1=((y%2:Nat):Int):=by
 have:=u64_and_nat y 1 a (by decide);rw [show((1:Nat):Int)=1 from rfl]at this;rw [this,Nat.and_one_is_mod]
theorem nY {w:World} {b n:Nat} {f:Nat->Bool} {S:Nat->Prop} (h:aG w b S n f) (i:Int) (hi:(Lit.int .i64 i).wf=true):
  Calls prog 230 #[.pointer (some ⟨b,0,none⟩),.int .i64 i] w λe z=>e= .returned (.int .i64 (eL f n i.toNat))/\w=z:=by
 obtain⟨⟨bB,be,s,bx,V⟩,bl,a8⟩:=id h;obtain⟨bh,g,bo,a3⟩:=s.blk;have a1:=g.cell 1;simp at a1;unfold maxLen at a3;have Y:=s.len;have bz:=s.room;have W:=h.high;have A:=ab h;have HI:=ab s;have B:=ab V;have aS:=ab W;have bg:=ab Y;clear h s V W Y g a8
 go_enter func230,ntmps230
 go_wp2
 all_goals
  go_loop [5,6] (λr _=> ∃d:Nat,r= .int .i64 d/\i.toNat<=d/\ ∀a,i.toNat<=a->a<d->f a=false) (λr _=>n+64 - (intOf r).toNat)
  case atStart=>exact⟨i.toNat,by first|rw [show((i.toNat:Nat):Int)=i by omega]|rw [show i.toNat=0 by omega];rfl,Zh _,λa g p=>absurd p (by omega)⟩
  case round=>
   obtain⟨d,rfl,bp,ad⟩:=hrel;have D:=ab ad;clear ad;by_cases a5:d<n
   ·obtain⟨j,ak,a4,a9⟩:=HI.out.word a5;have T:=oN d (by omega);obtain⟨q,hm⟩: ∃q,q=d%64:=⟨_,rfl⟩;have bs:q<64:=(by omega);obtain⟨m,J⟩: ∃m,m=d/64:=⟨_,rfl⟩;rw [<-hm]at T;have bt:(d:Int)/64=(m:Int):=(by omega);rw [<-J]at a4 a9;have bw:(m:Int)<be.length:=(by omega);have N:=ab hm;have l:=ab J;have E:=ab ak;have a7:(d:Int)<n:=(by omega);clear hm J ak;obtain⟨o,K⟩: ∃o,o=j.toNat/2^q:=⟨_,rfl⟩;have bA:(j.toNat:Int)/2^q=(o:Int):=(by rw [K];norm_cast);have ap:o<18446744073709551616:=by
     have:=j.isLt;have R:j.toNat/2^q<=j.toNat:=Nat.div_le_self _ _;omega
    have ba:=Cr d (by omega);have ai:d/64 * 64+63=m * 64+63:=(by rw [<-l.out]);rw [ai]at ba;have P:=ab K;have aT:=ab ap;have bu:m * 64+63<=4159:=(by have:=l.out;omega);clear K ai ap;by_cases u:o=0
    ·have bc:((o:Int)==0)=true:=(by rw [u];rfl);have Q:=ab u;clear u
     go_wp2_with (go_at_call 255;refine(ib A.out).mono ?_;rintro e z ⟨rfl,rfl⟩)
     go_round
     case rel=>
      refine⟨m * 64+64,rO (by omega),by have:=l.out;omega,λa g p=> ?_⟩;by_cases t:a<d
      ·exact D.out a g t
      ·have G:a/64=d/64:=(by have:=l.out;omega);rw [<-B.out,io (x:=j) (by rw [G];exact E.out)];refine DW (m:=q) (by rw [<-P.out,Q.out]) ?_;have:=N.out;have:=l.out;omega
     case measure=>have:=l.out;simp [intOf];omega
    ·have bc:((o:Int)==0)=false:=(by simpa using(by omega: ¬o=0));have Q:=ab u
     go_wp2_with (go_at_call 255;refine(ib A.out).mono ?_;rintro e z ⟨rfl,rfl⟩)
     go_loop [5,6] (λr bd=> ∃c k:Nat,r= .int .i64 c/\bd= .int .u64 k/\d<=c/\c/64=m/\Hid (k=j.toNat/2^(c%64))/\ ¬k=0/\Hid (∀a,d<=a->a<c->f a=false)) (λr _=>m * 64+64 - (intOf r).toNat)
     case atStart=>exact⟨d,o,rfl,rfl,Zh _,l.out.symm,by rw [<-N.out];exact P.out,u,λa g p=>absurd p (by omega)⟩
     case round=>
      obtain⟨c,k,rfl,rfl,br,X,F,al,O⟩:=hrel;have an:k<18446744073709551616:=by
       have g:=j.isLt;have R:j.toNat/2^(c%64)<=j.toNat:=Nat.div_le_self _ _;rw [<-F.out]at R;omega
      have x:=Bu k an;have C:=ab X;have bq:c<=4159:=(by omega);have a0:=ab al;clear an X al aT;have U:j.getLsbD (c%64)=decide (k%2=1):=(by rw [zi,<-F.out]);have M:=ab U;clear U;by_cases y:k%2=0
      ·rw [y,Int.natCast_zero]at x;have v:=ab y;clear y
       go_wp2
       go_round
       case rel=>
        have L:j.toNat/2^(c%64+1)=k/2:=(by rw [Nat.pow_succ,<-Nat.div_div_eq_div_mul,<-F.out]);have Z: ¬k/2=0:=(by have:=v.out;have:=a0.out;omega);have T:c%64<63:=by
         have g:=j.isLt;rcases Nat.lt_or_ge (c%64) 63 with h|h
         ·exact h
         ·exfalso;have a2:c%64+1=64:=(by omega);rw [a2,Nat.div_eq_of_lt g]at L;exact Z L.symm
        have bb:=C.out;have G:(c+1)%64=c%64+1:=(by omega);refine⟨c+1,k/2,by go_num,rO (by omega),by omega,by omega,by rw [G];exact L.symm,Z,λa g p=> ?_⟩;by_cases t:a=c
        ·subst t;rw [<-B.out,io (x:=j) (by rw [bb,l.out];exact E.out),M.out];have:=v.out;simp [this]
        ·exact O.out a g (by omega)
       case measure=>have:=C.out;simp [intOf];omega
      ·have I:k%2=1:=(by omega);rw [I]at x;have bi:bits .and .u64 (k:Int) 1=1:=x;have v:=ab I;clear y I x
       go_wp2
       go_ret
       have H:f c=true:=by
        rw [<-B.out,io (x:=j) (by rw [C.out,l.out];exact E.out),M.out];have:=v.out;simp [this]
       have a6:c<n:=by
        rcases Nat.lt_or_ge c n with h|h
        ·exact h
        ·rw [aS.out c h]at H;cases H
       refine⟨au (yk H (by omega) a6 λa g p=> ?_).symm,rfl⟩;by_cases t:a<d
       ·exact D.out a g t
       ·exact O.out a (by omega) p
   ·have a7: ¬(d:Int)<n:=(by omega)
    go_wp2_with (go_at_call 255;refine(ib A.out).mono ?_;rintro e z ⟨rfl,rfl⟩)
    go_ret
    exact⟨au (qK λa g p=>D.out a g (by omega)).symm,rfl⟩
end Go.Proofs.YthlbjgabhpdbfaaGreat
namespace Go.Proofs.YthlbjgabhpdbfaaGreat
open Go.Proofs.Tryz
open Bool renaming and_eq_true->Za
open List renaming any_eq_true->Zb,map_append->Zc,mem_filter->Zd,mem_map->Ze,mem_range->Zf,range_succ->Zg
open Nat renaming le_refl->Zh,lt_of_lt_of_le->Zi,zero_le->Zj
section
section
open Go.RowKit
structure ac where
 terms:List ByteArray
 nons:List ByteArray
 rules:List (Int×List Int)
 start:Int
abbrev RdS (w:World) (F:Nat->Prop) (v:Value) (xs:List ByteArray):Prop:=Rd w F v 1 (xs.map Value.string)
abbrev RdI (w:World) (F:Nat->Prop) (v:Value) (xs:List Int):Prop:=Rd w F v 1 (xs.map (Value.int .i64))
def dP (w:World) (F:Nat->Prop) (cs:List Value) (r:Int×List Int):Prop:= ∃v,cs=[.int .i64 r.1,v]/\RdI w F v r.2
theorem dP.below {w w':World} {F:Nat->Prop} {B:Nat} {b:List Value} {r:Int×List Int} (h:dP w F b r) (d:Below B w w') (c: ∀a,F a->a<B):dP w' F b r:=by
 obtain⟨g,e,f⟩:=h;exact⟨g,e,f.below d c⟩
structure bk (w:World) (F:Nat->Prop) (vt vn vr:Value) (G:ac):Prop where
 terms:RdS w F vt G.terms
 nons:RdS w F vn G.nons
 rules:RdL w F 2 (dP w F) vr G.rules
 lt: ∀b,F b->b<w.heap.size
 small:G.terms.length<=8796093022207/\G.nons.length<=8796093022207/\G.rules.length<=4398046511103
 sizes:(∀s∈G.terms,s.size<=maxLen)/\(∀s∈G.nons,s.size<=maxLen)
 reach:(∀s∈G.terms,s.size<=140737488351232)/\(∀s∈G.nons,s.size<=140737488351232)
 wfs: ∀r∈G.rules,(-9223372036854775808<=r.1/\r.1<=9223372036854775807)/\r.2.length<=17592186044416/\ ∀x∈r.2,-9223372036854775808<=x/\x<=9223372036854775807
theorem bk.below {w w':World} {F:Nat->Prop} {d b c:Value} {G:ac} (h:bk w F d b c G) (a:Below w.heap.size w w'):bk w' F d b c G:=
 ⟨h.terms.below a h.lt,h.nons.below a h.lt,h.rules.below a h.lt λi j _ e=>e.below a h.lt,λf g=>Zi (h.lt f g) a.size,h.small,h.sizes,h.reach,h.wfs⟩
abbrev GV (vt vn vr:Value) (st:Int):Value:= .agg #[vt,vn,vr,.int .i64 st]
theorem bk.slices {w:World} {F:Nat->Prop} {j g i:Value} {G:ac} (h:bk w F j g i G): ∃d a e b f c,j= .slice d G.terms.length a/\g= .slice e G.nons.length b/\i= .slice f G.rules.length c/\G.terms.length<=a/\G.nons.length<=b/\G.rules.length<=c/\a<=9223372036854775807/\b<=9223372036854775807/\c<=9223372036854775807:=by
 obtain⟨d,y,a,k,n,u,q,_⟩:=h.terms;obtain⟨e,z,b,l,o,v,s,_⟩:=h.nons;obtain⟨f,c,m,p,x,_⟩:=h.rules;have r:y=G.terms.length:=by simpa using q.symm
 have t:z=G.nons.length:=by simpa using s.symm
 subst r t;unfold maxLen at u v x;exact⟨d,a,e,b,f,c,k,l,m,n,o,p,by omega,by omega,by omega⟩
def ao (G:ac):Nat:=G.terms.length+G.nons.length
def gH (G:ac) (s:Int):Bool:=decide (1<=s)&&decide (s<=G.terms.length)
def am (G:ac) (s:Int):Bool:=decide (G.terms.length<s)&&decide (s<=ao G)
def aI (w:World) (r:Value) (e:Ending) (w':World):Prop:=e= .returned r/\Below w.heap.size w w'
theorem eW {w:World} {F:Nat->Prop} {g e f:Value} {G:ac} (h:bk w F g e f G) (st:Int):
  Calls prog 80 #[GV g e f st] w (aI w (.int .i64 (ao G))):=by
 obtain⟨k,n,l,o,m,p,rfl,rfl,rfl,_⟩:=h.slices;have d:=h.small;obtain⟨c,hT⟩: ∃c,c=G.terms.length:=⟨_,rfl⟩;obtain⟨b,a⟩: ∃b,b=G.nons.length:=⟨_,rfl⟩;rw [<-hT,<-a]at d⊢;have i:=ab hT;have j:=ab a;obtain⟨s1,q,r⟩:=d;clear hT a h
 go_enter func80,ntmps80
 go_wp2
 go_ret
 exact⟨au (by unfold ao;rw [<-i.out,<-j.out];omega),(Below.refl _ _).alloc (Zh _) _⟩
theorem Cu {w:World} {F:Nat->Prop} {g e f:Value} {G:ac} (h:bk w F g e f G) (st s:Int):
  Calls prog 177 #[GV g e f st,.int .i64 s] w (aI w (.bool (gH G s))):=by
 obtain⟨j,m,k,n,l,o,rfl,rfl,rfl,_⟩:=h.slices;have d:=h.small;have a:gH G s=(decide (1<=s)&&decide (s<=(G.terms.length:Int))):=rfl;obtain⟨c,hT⟩: ∃c,c=G.terms.length:=⟨_,rfl⟩;rw [<-hT]at d a⊢;have b:=ab a;obtain⟨s1,p,q⟩:=d;clear hT h a;by_cases i:1<=s
 ·go_enter func177,ntmps177
  go_wp2
  go_ret
  exact⟨af (by rw [b.out,decide_eq_true i];rfl),(Below.refl _ _).alloc (Zh _) _⟩
 ·go_enter func177,ntmps177
  go_wp2
  go_ret
  exact⟨af (by rw [b.out,decide_eq_false (by omega)];rfl),(Below.refl _ _).alloc (Zh _) _⟩
theorem iV {w:World} {F:Nat->Prop} {f c d:Value} {G:ac} (h:bk w F f c d G) (st s:Int):
  Calls prog 148 #[GV f c d st,.int .i64 s] w (aI w (.bool (am G s))):=by
 have k:=h.small;have b:am G s=(decide ((G.terms.length:Int)<s)&&decide (s<=(ao G:Int))):=rfl;have l:=ab h;obtain⟨r,v,t,x,u,y,n,o,p,_⟩:=h.slices;have j:=h.below ((Below.refl _ w).alloc (Zh _) (.cells #[f,c,d,.int .i64 st] 25));subst n o p;obtain⟨a,hT⟩: ∃a,a=G.terms.length:=⟨_,rfl⟩;have g:=ab j;rw [<-hT]at k b g⊢;have i:=ab b;obtain⟨s1,z,A⟩:=k;clear hT h b j l;by_cases q:(a:Int)<s
 ·go_enter func148,ntmps148
  go_wp2_with fail
  refine(eW g.out _).mono ?_;rintro e w1 ⟨rfl,m⟩
  go_wp2_with fail
  go_ret
  exact⟨af (by rw [i.out,decide_eq_true q];rfl),((Below.refl _ _).alloc (Zh _) _).trans (m.mono (by simp))⟩
 ·go_enter func148,ntmps148
  go_wp2_with fail
  go_ret
  exact⟨af (by rw [i.out,decide_eq_false (by omega)];rfl),(Below.refl _ _).alloc (Zh _) _⟩
theorem Ex {w:World} {F:Nat->Prop} {g e f:Value} {G:ac} (h:bk w F g e f G) (st:Int):
  Calls prog 22 #[GV g e f st] w (aI w (.int .i64 (ao G))):=by
 obtain⟨k,n,l,o,m,p,rfl,rfl,rfl,_⟩:=h.slices;have d:=h.small;obtain⟨c,hT⟩: ∃c,c=G.terms.length:=⟨_,rfl⟩;obtain⟨b,a⟩: ∃b,b=G.nons.length:=⟨_,rfl⟩;rw [<-hT,<-a]at d⊢;have i:=ab hT;have j:=ab a;obtain⟨s1,q,r⟩:=d;clear hT a h
 go_enter func22,ntmps22
 go_wp2
 go_ret
 exact⟨au (by unfold ao;rw [<-i.out,<-j.out];omega),(Below.refl _ _).alloc (Zh _) _⟩
end
section
open Go.RowKit
theorem infoStr:(prog.info? 9).map (λa=>(a.zero,a.size,a.bytes))=some (some (.string ByteArray.empty),1,16):=by kernel_rfl
theorem elemStr:dZ prog 22 9 (.string ByteArray.empty) 1 16:=⟨underlying22,infoStr,rfl,by decide⟩
theorem infoInt:(prog.info? 3).map (λa=>(a.zero,a.size,a.bytes))=some (some (.int .i64 0),1,8):=by kernel_rfl
theorem elemInt:dZ prog 49 3 (.int .i64 0) 1 8:=⟨underlying49,infoInt,rfl,by decide⟩
theorem RdS.at_ {w:World} {F:Nat->Prop} {A:Option Addr} {n c:Nat} {xs:List ByteArray} (h:RdS w F (.slice A n c) xs):n=xs.length/\n<=c/\c<=maxLen/\(0<n-> ∃a d,A=some ⟨a,d,none⟩/\F a/\ ∀b e,xs[b]? =some e->w.cell? ⟨a,d+b,none⟩=some (.string e)):=by
 obtain⟨u,x,v,s,j,k,p,r⟩:=h;injection s with f g i
 subst f g i;refine⟨by simpa using p.symm,j,k,λq=> ?_⟩;obtain⟨a,d,l,m,o⟩:=r q;exact⟨a,d,l,m,λb e t=>o b _ (by simp [t])⟩
theorem RdI.at_ {w:World} {F:Nat->Prop} {A:Option Addr} {n c:Nat} {xs:List Int} (h:RdI w F (.slice A n c) xs):n=xs.length/\n<=c/\c<=maxLen/\(0<n-> ∃a d,A=some ⟨a,d,none⟩/\F a/\ ∀b e,xs[b]? =some e->w.cell? ⟨a,d+b,none⟩=some (.int .i64 e)):=by
 obtain⟨u,x,v,s,j,k,p,r⟩:=h;injection s with f g i
 subst f g i;refine⟨by simpa using p.symm,j,k,λq=> ?_⟩;obtain⟨a,d,l,m,o⟩:=r q;exact⟨a,d,l,m,λb e t=>o b _ (by simp [t])⟩
theorem dP.at_ {w:World} {F:Nat->Prop} {A:Option Addr} {n c:Nat} {rs:List (Int×List Int)} (h:RdL w F 2 (dP w F) (.slice A n c) rs):n=rs.length/\n<=c/\c<=maxLen/\(0<n-> ∃a b,A=some ⟨a,b,none⟩/\F a/\ ∀(k:Nat) (r:Int×List Int),rs[k]? =some r-> ∃d,w.cell? ⟨a,b+k * 2,none⟩=some (.int .i64 r.1)/\w.cell? ⟨a,b+k * 2+1,none⟩=some d/\RdI w F d r.2):=by
 obtain⟨v,x,e,l,m,u⟩:=h;injection e with g i j
 subst g i j;refine⟨rfl,l,m,λt=> ?_⟩;obtain⟨a,b,o,p,q⟩:=u t;refine⟨a,b,o,p,λk r s=> ?_⟩;obtain⟨y,_,⟨d,rfl,e⟩,f⟩:=q k r s;exact⟨d,f 0 _ rfl,f 1 _ rfl,e⟩
end
section
open Go.RowKit
def qw (w:World) (e:TypeId) (xs:List Value) (n:Nat) (en:Ending) (w':World):Prop:=
 ∃A c,en= .returned (.slice A n c)/\w'.ownsRow w.heap.size e 1 (.slice A n c) n xs/\Below w.heap.size w w'
theorem wN {xs:List ByteArray}: ∀a∈xs.map Value.string,a.oneCell'=true:=by
 intro a b;obtain⟨c,_,rfl⟩:=Ze.1 b;rfl
end
section
open Go.RowKit
theorem oV {w:World} {F G:Nat->Prop} {v u:Value} {xs l:List Int} (h:RdI w F v xs) (g:RdI w G u l):
  Calls prog 164 #[v,u] w (aI w (.bool (decide (xs=l)))):=by
 obtain⟨L,c,P,rfl,_⟩:=id h;obtain⟨M,s,Q,rfl,_⟩:=id g;obtain⟨k,W,H,C⟩:=h.at_;obtain⟨hm,V,I,D⟩:=g.at_;unfold maxLen at H I;by_cases E:c=s
 ·subst E;have j:=ab k;have i:=ab hm;clear k hm
  go_enter func164,ntmps164
  go_wp2
  go_loopw [13] (λr wr=> ∃a t:Nat,a<=c/\r= .int .i64 a/\wr=w.drewN t/\ ∀b:Nat,b<a->xs[b]? =l[b]?) (λr _=>c - (intOf r).toNat)
  case atStart=>exact⟨0,0,Zj _,rfl,rfl,λb o=>absurd o (by omega)⟩
  case round=>
   obtain⟨a,t,T,rfl,rfl,z⟩:=hrel;have x:=ab z;clear z;by_cases U:a<c
   ·obtain⟨N,Y,rfl,_,A⟩:=C (by omega);obtain⟨O,Z,rfl,_,B⟩:=D (by omega);obtain⟨e,p⟩: ∃e,xs[a]? =some e:=⟨_,List.getElem?_eq_getElem (by rw [<-j.out];omega)⟩;obtain⟨f,q⟩: ∃f,l[a]? =some f:=⟨_,List.getElem?_eq_getElem (by rw [<-i.out];omega)⟩;have R:=A a e p;have S:=B a f q;have y:=ab p;have n:=ab q;clear C A p D B q;by_cases d:e=f
    ·have m:=ab d;have J:(e==f)=true:=(by subst d;simp);clear d
     go_wp2_with fail
     go_quiet (fail)
     go_wp2
     go_roundw
     case rel=>
      refine⟨a+1,t+nq,by omega,by go_num,rfl,λb o=> ?_⟩;by_cases K:b=a
      ·subst K;rw [y.out,n.out,m.out]
      ·exact x.out b (by omega)
     case measure=>simp [intOf];omega
    ·have m:=ab d;have J:(e==f)=false:=(by simpa using d);clear d
     go_wp2_with fail
     go_quiet (fail)
     go_wp2
     go_ret
     refine⟨af ?_,⟨rfl,rfl,rfl,Zh _,λ_ _=>rfl⟩⟩
     symm
     rw [decide_eq_false_iff_not];rintro rfl;rw [y.out]at n;have:=n.out;injection this with this
     exact m.out this
   ·go_wp2
    go_ret
    refine⟨af ?_,⟨rfl,rfl,rfl,Zh _,λ_ _=>rfl⟩⟩
    symm
    rw [decide_eq_true_eq];apply List.ext_getElem?;intro b;by_cases o:b<c
    ·exact x.out b (by omega)
    ·rw [List.getElem?_eq_none (by rw [<-j.out];omega),List.getElem?_eq_none (by rw [<-i.out];omega)]
 ·have X:((c:Int)==(s:Int))=false:=by simpa using(by omega: ¬(c:Int)=(s:Int))
  have j:=ab k;have i:=ab hm;clear k hm
  go_enter func164,ntmps164
  go_wp2
  go_ret
  refine⟨af ?_,⟨rfl,rfl,rfl,Zh _,λ_ _=>rfl⟩⟩
  symm
  rw [decide_eq_false_iff_not];rintro rfl;exact E (by rw [j.out,i.out])
end
section
open Go.RowKit
theorem BJ {w:World} {F G:Nat->Prop} {l m:Int} {v u:Value} {xs j:List Int} (h:RdI w F v xs) (g:RdI w G u j) (o: ∀b,F b->b<w.heap.size) (p: ∀b,G b->b<w.heap.size):
  Calls prog 152 #[.agg #[.int .i64 l,v],.agg #[.int .i64 m,u]] w (aI w (.bool (decide ((l,xs)=(m,j))))):=by
 have c:=((Below.refl _ w).alloc (Zh _) (.cells #[.int .i64 l,v] 98)).alloc (by simp) (.cells #[.int .i64 m,u] 98);have i:=oV (h.below c o) (g.below c p);obtain⟨r,y,t,rfl,_⟩:=id h;obtain⟨s,z,x,rfl,_⟩:=id g;have f:=ab c;have k:=ab i;clear h g i c;by_cases a:l=m
 ·have q:(l==m)=true:=by simpa using a
  have d:=ab a;clear a
  go_enter func152,ntmps152
  go_wp2_with fail
  refine k.out.mono ?_;rintro e w1 ⟨rfl,n⟩
  go_wp2_with fail
  go_ret
  exact⟨af (by have e:=d.out;subst e;simp),f.out.trans (n.mono (by simp;omega))⟩
 ·have q:(l==m)=false:=by simpa using a
  have d:=ab a;clear a
  go_enter func152,ntmps152
  go_wp2_with fail
  go_ret
  exact⟨af (by simp;intro e;exact absurd e d.out),f.out⟩
end
section
open Go.RowKit
theorem enters_same: ∀a b,(callFunc 152 a).run prog b= .ok (.enter 152 a) b:=enters_of func152 (by kernel_rfl) rfl
abbrev RdR (w:World) (F:Nat->Prop) (v:Value) (rs:List (Int×List Int)):Prop:=RdL w F 2 (dP w F) v rs
theorem RdR.below {w w':World} {F:Nat->Prop} {v:Value} {rs:List (Int×List Int)} (h:RdR w F v rs) (c:Below w.heap.size w w') (b: ∀a,F a->a<w.heap.size):RdR w' F v rs:=
 RdL.below h c b λd f _ e=>e.below c b
theorem RdR.get {w wr:World} {F:Nat->Prop} {b c n:Nat} {rs:List (Int×List Int)} (d: ∀b,F b->b<w.heap.size) (f:F b) (e:Below w.heap.size w wr)
  (o: ∀(k:Nat) (r:Int×List Int),rs[k]? =some r-> ∃a,w.cell? ⟨b,c+k * 2,none⟩=some (.int .i64 r.1)/\w.cell? ⟨b,c+k * 2+1,none⟩=some a/\RdI w F a r.2) {k:Nat} (g:k<rs.length):
  ∃h i a,rs[k]? =some (h,i)/\wr.cell? ⟨b,c+k * 2,none⟩=some (.int .i64 h)/\wr.cell? ⟨b,c+k * 2+1,none⟩=some a/\RdI wr F a i:=by
 obtain⟨a,j,l,m⟩:=o k _ (List.getElem?_eq_getElem g);refine⟨_,_,a,List.getElem?_eq_getElem g,?_,?_,m.below e d⟩
 ·rw [e.cell (p:=⟨b,_,none⟩) (d b f)];exact j
 ·rw [e.cell (p:=⟨b,_,none⟩) (d b f)];exact l
end
section
open Go.RowKit
theorem bk.blk {w:World} {F:Nat->Prop} {c a b:Value} {G:ac} (h:bk w F c a b G) (o:Obj):bk (w.alloc o) F c a b G:=h.below ((Below.refl _ w).alloc (Zh _) o)
end
end
section
section
open Go.RowKit
theorem yD {B:Nat} {a b:World} (h:Below B a b) (n:Nat):Below B a (b.drewN n):=⟨h.os,h.tape,h.output,h.size,h.block⟩
end
section
open Go.RowKit
theorem gn {G:ac} {s:Int}:am G s=true↔(G.terms.length:Int)<s/\s<=(G.terms.length:Int)+G.nons.length:=by
 unfold am;rw [Za,decide_eq_true_eq,decide_eq_true_eq];unfold ao;omega
theorem Aw {G:ac} {s:Int}:gH G s=true↔1<=s/\s<=(G.terms.length:Int):=by
 unfold gH;rw [Za,decide_eq_true_eq,decide_eq_true_eq]
end
section
open Go.RowKit
def d8 (rs:List (Int×List Int)) (s:Int) (k:Nat):List Int:=((List.range k).filter (λ(i:Nat)=>decide ((rs[i]?).map (·.1)=some s))).map (λ(i:Nat)=>(i:Int))
def az (G:ac) (s:Int):List Int:=d8 G.rules s G.rules.length
theorem sM {rs:List (Int×List Int)} {s:Int} {k:Nat} {x:List Int} (h:rs[k]? =some (s,x)):d8 rs s (k+1)=d8 rs s k++[(k:Int)]:=by
 unfold d8;rw [Zg,List.filter_append,Zc];simp [h]
theorem uQ {rs:List (Int×List Int)} {s l:Int} {k:Nat} {x:List Int} (h:rs[k]? =some (l,x)) (a:l≠s):d8 rs s (k+1)=d8 rs s k:=by
 unfold d8;rw [Zg,List.filter_append,Zc];simp [h,a]
theorem sN {rs:List (Int×List Int)} {s:Int} {k:Nat}:(d8 rs s k).length<=k:=by
 unfold d8;rw [List.length_map];exact Nat.le_trans (List.length_filter_le _ _) (by simp)
abbrev I64 (x:Int):Value:= .int .i64 x
theorem yU {w:World} {F:Nat->Prop} {p n o:Value} {G:ac} (h:bk w F p n o G) (st s:Int):
  Calls prog 153 #[GV p n o st,.int .i64 s] w (qw w 3 ((az G s).map I64) (az G s).length):=by
 have Y:=h.blk (.cells #[p,n,o,.int .i64 st] 25);have r:Below w.heap.size w (w.alloc (.cells #[p,n,o,.int .i64 st] 25)):=(Below.refl _ w).alloc (Zh _) _;have K:=h.lt;have P:=h.small;obtain⟨a0,a5,a1,a6,a2,a7,rfl,rfl,rfl,be,bg,an,bh,bi,bl⟩:=h.slices;obtain⟨-,-,-,z⟩:=dP.at_ h.rules;have A:d8 G.rules s G.rules.length=az G s:=rfl;obtain⟨d,y⟩: ∃d,d=G.rules.length:=⟨_,rfl⟩;rw [<-y]at P z r an A⊢;obtain⟨s1,bp,bq⟩:=P;have X:=ab y;have V:=ab z;have W:=ab K;have U:=ab r;have u:=ab A;clear y z K r Y h A
 go_enter func153,ntmps153
 go_wp2
 go_loopw [5,11] (λap C wr=> ∃(a:Nat) (e:Option Addr) (f:Nat),a<=d/\C= .int .i64 a/\ap= .slice e (d8 G.rules s a).length f/\wr.ownsRow w.heap.size 3 1 (.slice e (d8 G.rules s a).length f) (d8 G.rules s a).length ((d8 G.rules s a).map I64)/\Below w.heap.size w wr) (λ_ C _=>d - (intOf C).toNat)
 case atStart=>exact⟨0,none,0,Zj _,rfl,rfl,World.ownsRow_nil _ _ _ _,U.out⟩
 case round=>
  obtain⟨a,e,f,a9,rfl,rfl,c,l⟩:=hrel;have N:=sN (rs:=G.rules) (s:=s) (k:=a);have v:=ab l;have Q:=l.size;by_cases bb:a<d
  ·obtain⟨a4,bo,rfl,Z,L⟩:=V.out (by omega);obtain⟨i,bs,br,R,bc,bd,S⟩:=RdR.get (n:=d) W.out Z l L (k:=a) (by rw [<-X.out];omega);obtain⟨q,D,x,rfl,_⟩:=id S;have I:=ab R;clear L R S l;by_cases k:i=s
   ·subst k;have g:=sM I.out;obtain⟨b,M⟩: ∃b,b=d8 G.rules i a:=⟨_,rfl⟩;rw [<-M]at g c N⊢;have j:=ab g;have a3:=ab c;clear M g;obtain⟨w1,m⟩: ∃w1,w1=wr.alloc (.cells #[.int .i64 i,.slice q D x] 98):=⟨_,rfl⟩;have B:w1.ownsRow w.heap.size 3 1 (.slice e b.length f) b.length (b.map I64):=(by rw [m];exact c.alloc _);have t:Below w.heap.size w w1:=(by rw [m];exact v.out.alloc Q _);have T:=t.size;have H:=ab t;rw [m]at B H T;clear c t m w1;have aT:Rd ((wr.alloc (.cells #[.int .i64 i,.slice q D x] 98)).alloc (.cells #[I64 a] 3)) (λ_=>True) (.slice (some ⟨wr.heap.size+1,0,none⟩) 1 1) 1 [I64 a]:=by
     have:=Rd.one (w:=wr.alloc (.cells #[.int .i64 i,.slice q D x] 98)) (e:=3) [I64 a] 1 rfl;simpa using this
    go_wp2_with (at_builtin;refine aJ _ rfl (.tmp 20) (.tmp 22) _ rfl elemInt w.heap.size _ b.length (b.map I64) rfl (B.alloc _) _ _ [I64 a] 1 rfl rfl aT (by simp [Value.oneCell']) (by unfold maxLen;omega) (by omega) (by simp;omega) ?_)
    intro E J w2 O ad _;have ak:w2.ownsRow w.heap.size 3 1 (.slice E (b.length+1) J) (b.length+1) (b.map I64++[I64 a]):=O;clear O
    go_wp2
    go_roundw
    case rel=>
     refine⟨a+1,E,J,by omega,by go_num,?_,?_,?_⟩
     ·rw [j.out];simp
     ·rw [j.out];simpa using ak
     ·exact((H.out.alloc T _).grown ad (by simp;omega) (λaS al=>(B.lt aS al).1))
    case measure=>simp [intOf];omega
   ·have a8:(i==s)=false:=(by simpa using k);have g:=uQ I.out k;have j:=ab g;clear k g
    go_wp2
    go_roundw
    case rel=>exact⟨a+1,e,f,by omega,by go_num,by rw [j.out],by rw [j.out];exact c.alloc _,v.out.alloc Q _⟩
    case measure=>simp [intOf];omega
  ·have ai:a=d:=by omega
   subst ai;rw [u.out]at c;have ba:=u;rw [u.out];clear N
   go_wp2
   go_ret
   exact⟨e,f,rfl,c,v.out⟩
end
section
open Go.RowKit
end
section
open Go.RowKit
theorem Rd.one' {w:World} {e:TypeId} (us:List Value) (size:Nat) (b:us.length=size):Rd (w.alloc (.cells us.toArray e)) (λa=>a=w.heap.size) (.slice (some ⟨w.heap.size,0,none⟩) 1 1) size us:=
 ⟨_,1,1,rfl,Zh _,by decide,by simpa using b,λ_=>⟨_,0,rfl,rfl,λd f c=>by
  rw [(Blk.new w e us.toArray).cell];simpa using c⟩⟩
def aD (G:ac) (st i:Int):(Int×List Int)×Bool:=if i<0\/(G.rules.length:Int)<i then((0,[]),false)else if i=(G.rules.length:Int)then((0,[st]),true)else((G.rules[i.toNat]?).getD (0,[]),true)
end
end
section
section
open Go.RowKit
def eP {X:Type} (p:X->Bool) (xs:List X):Int:=match xs.findIdx? p with|some i=>(i:Int)|none=> -1
theorem mW {X:Type} {p:X->Bool} {xs:List X} {i:Nat} {x:X} (h:xs[i]? =some x) (d:p x=true) (a: ∀(j:Nat) (y:X),j<i->xs[j]? =some y->p y=false):eP p xs=i:=by
 obtain⟨c,rfl⟩:=List.getElem?_eq_some_iff.1 h;have:xs.findIdx? p=some i:=by
  rw [List.findIdx?_eq_some_iff_getElem];exact⟨c,d,λj b=>by
   have:=a j _ b (List.getElem?_eq_getElem (by omega))
   simp [this]⟩
 unfold eP;rw [this]
theorem lS {X:Type} {p:X->Bool} {xs:List X} (a: ∀(j:Nat) (y:X),xs[j]? =some y->p y=false):eP p xs= -1:=by
 have:xs.findIdx? p=none:=by
  rw [List.findIdx?_eq_none_iff];intro d c;obtain⟨j,b,e⟩:=List.getElem_of_mem c;exact a j d (by rw [List.getElem?_eq_getElem b,e])
 unfold eP;rw [this]
theorem fM {X:Type} {p:X->Bool} {xs:List X}:decide (0<=eP p xs)=xs.any p:=by
 unfold eP;rcases h:xs.findIdx? p with _|d
 ·rw [List.findIdx?_eq_none_iff]at h;have:xs.any p=false:=by
   rw [List.any_eq_false];intro c b;simp [h c b]
  rw [this];rfl
 ·rw [List.findIdx?_eq_some_iff_getElem]at h;obtain⟨hi,a,_⟩:=h;have:xs.any p=true:=Zb.2 ⟨_,List.getElem_mem hi,a⟩;rw [this];simp
def mj (w:World) (F:Nat->Prop) (g:Nat) (lb:Array Value) (p:Int×List Int->Bool):Prop:=
 ∀(W:World) (v:Value) (r:Int×List Int),Below w.heap.size w W->RdI W F v r.2->Calls prog g (#[.agg #[.int .i64 r.1,v]]++lb) W (aI W (.bool (p r)))
theorem yr {w:World} {F:Nat->Prop} {v:Value} {rs:List (Int×List Int)} {g:Nat} {lb:Array Value} {p:Int×List Int->Bool} (h:RdR w F v rs) (D: ∀q,F q->q<w.heap.size) (N:Enters prog g) (H:mj w F g lb p):
  Calls prog 235 #[v,.func (.func g) #[] lb] w (aI w (.int .i64 (eP p rs))):=by
 obtain⟨T,U,rfl,_⟩:=id h;obtain⟨-,R,P,u⟩:=dP.at_ h;obtain⟨k,s⟩: ∃k,k=rs.length:=⟨_,rfl⟩;rw [<-s]at R u⊢;unfold maxLen at P;have A:=ab s;have K:=ab u;have L:=ab D;have M:=ab H;have V: ∀C w,(callFunc g C).run prog w= .ok (.enter g C) w:=N;clear h s u D H
 go_enter func235,ntmps235
 go_wp2
 go_loopw [8] (λz wr=> ∃c:Nat,c<=k/\z= .int .i64 c/\Below w.heap.size w wr/\ ∀(b:Nat) (d:Int×List Int),b<c->rs[b]? =some d->p d=false) (λz _=>k - (intOf z).toNat)
 case atStart=>exact⟨0,Zj _,rfl,Below.refl _ _,λb d G=>absurd G (by omega)⟩
 case round=>
  obtain⟨c,W,rfl,j,E⟩:=hrel;have m:=ab E;have l:=ab j;clear E;by_cases X:c<k
  ·obtain⟨q,ad,rfl,O,t⟩:=K.out (by omega);obtain⟨I,J,S,x,Y,Z,y⟩:=RdR.get (n:=k) L.out O j t (k:=c) (by rw [<-A.out];omega);have i:=M.out wr S (I,J) j y;have B:=ab x;cases f:p (I,J)with
   |true=>
    rw [f]at i;have o:=ab i;have n:=ab f;clear i t x y j f
    go_wp2_with (go_at_fn g;refine o.out.mono ?_;rintro e w1 ⟨rfl,r⟩)
    go_ret
    exact⟨au (mW B.out n.out m.out).symm,l.out.trans (r.mono l.out.size)⟩
   |false=>
    rw [f]at i;have o:=ab i;have n:=ab f;clear i t x y j f
    go_wp2_with (go_at_fn g;refine o.out.mono ?_;rintro e w1 ⟨rfl,r⟩)
    go_roundw
    case rel=>
     refine⟨c+1,by omega,by go_num,l.out.trans (r.mono l.out.size),λb d G a=> ?_⟩;by_cases Q:b=c
     ·subst Q;rw [B.out]at a;injection a with a;rw [<-a];exact n.out
     ·exact m.out b d (by omega) a
    case measure=>simp [intOf];omega
  ·clear j
   go_wp2
   go_ret
   exact⟨au (lS λb d a=>m.out b d (by have:=(List.getElem?_eq_some_iff.1 a).1;have:=A.out;omega) a).symm,l.out⟩
end
section
open Go.RowKit
def pX {X:Type} (w:World) (g:Nat) (lb:Array Value) (enc:X->Value) (p:X->Bool):Prop:=
 ∀(W:World) (x:X),Below w.heap.size w W->Calls prog g (#[enc x]++lb) W (aI W (.bool (p x)))
def nU (w:World) (g:Nat) (lb:Array Value) (p:ByteArray->Bool):Prop:=
 ∀(W:World) (x:ByteArray),x.size<=maxLen->Below w.heap.size w W->Calls prog g (#[.string x]++lb) W (aI W (.bool (p x)))
theorem uy {X:Type} (p:X->Bool) (xs:List X):(!(decide (0<=eP (λc=> !p c) xs)))=xs.all p:=by
 rw [fM]
 induction xs with
 |nil=>rfl
 |cons a d b=>simp only [List.any_cons,List.all_cons,<-b];cases p a<;>simp
theorem Cp {w:World} {F:Nat->Prop} {v:Value} {rs:List ByteArray} {g:Nat} {lb:Array Value} {p:ByteArray->Bool} (h:RdS w F v rs) (C: ∀m,F m->m<w.heap.size) (L:Enters prog g) (H:nU w g lb p) (P: ∀d∈rs,d.size<=maxLen):
  Calls prog 236 #[v,.func (.func g) #[] lb] w (aI w (.int .i64 (eP p rs))):=by
 obtain⟨R,x,S,rfl,_⟩:=id h;obtain⟨B,W,N,E⟩:=h.at_;unfold maxLen at N;have y:=ab B;have I:=ab E;have J:=ab C;have K:=ab H;have T: ∀A w,(callFunc g A).run prog w= .ok (.enter g A) w:=L;clear h B E C H
 go_enter func236,ntmps236
 go_wp2
 go_loopw [8] (λu wr=> ∃a:Nat,a<=x/\u= .int .i64 a/\Below w.heap.size w wr/\ ∀(c:Nat) (f:ByteArray),c<a->rs[c]? =some f->p f=false) (λu _=>x - (intOf u).toNat)
 case atStart=>exact⟨0,Zj _,rfl,Below.refl _ _,λc f G=>absurd G (by omega)⟩
 case round=>
  obtain⟨a,U,rfl,k,D⟩:=hrel;have o:=ab D;have l:=ab k;clear D;by_cases V:a<x
  ·obtain⟨m,Q,rfl,M,t⟩:=I.out (by omega);obtain⟨d,n⟩: ∃d,rs[a]? =some d:=⟨_,List.getElem?_eq_getElem (by rw [<-y.out];omega)⟩;have X:=(k.cell (p:=⟨m,Q+a,none⟩) (J.out m M)).trans (t a d n);have j:=K.out wr d (P d (List.mem_of_getElem? n)) k;have z:=ab n;cases i:p d with
   |true=>
    rw [i]at j;have r:=ab j;have q:=ab i;clear j t n k i
    go_wp2_with (go_at_fn g;refine r.out.mono ?_;rintro e w1 ⟨rfl,s⟩)
    go_ret
    exact⟨au (mW z.out q.out o.out).symm,l.out.trans (s.mono l.out.size)⟩
   |false=>
    rw [i]at j;have r:=ab j;have q:=ab i;clear j t n k i
    go_wp2_with (go_at_fn g;refine r.out.mono ?_;rintro e w1 ⟨rfl,s⟩)
    go_roundw
    case rel=>
     refine⟨a+1,by omega,by go_num,l.out.trans (s.mono l.out.size),λc f G b=> ?_⟩;by_cases O:c=a
     ·subst O;rw [z.out]at b;injection b with b;rw [<-b];exact q.out
     ·exact o.out c f (by omega) b
    case measure=>simp [intOf];omega
  ·clear k
   go_wp2
   go_ret
   exact⟨au (lS λc f b=>o.out c f (by have:=(List.getElem?_eq_some_iff.1 b).1;have:=y.out;omega) b).symm,l.out⟩
theorem vN {w:World} {F:Nat->Prop} {v:Value} {rs:List ByteArray} {g:Nat} {lb:Array Value} {p:ByteArray->Bool} (h:RdS w F v rs) (o: ∀f,F f->f<w.heap.size) (n:Enters prog g) (i:nU w g lb p) (q: ∀r∈rs,r.size<=maxLen):
  Calls prog 204 #[v,.func (.func g) #[] lb] w (aI w (.bool (rs.any p))):=by
 have hi:=Cp h o n i q;have d:=fM (p:=p) (xs:=rs);obtain⟨k,j⟩: ∃k,k=eP p rs:=⟨_,rfl⟩;rw [<-j]at hi d;have HI:=ab hi;have l:=ab d;obtain⟨a,b,c,rfl⟩: ∃a b c,v= .slice a c b:=by obtain⟨a,c,b,e,_⟩:=id h;exact⟨a,b,c,e⟩
 clear h hi d j i
 go_enter func204,ntmps204
 go_wp2_with fail
 refine HI.out.mono ?_;rintro e w1 ⟨rfl,m⟩
 go_wp2_with fail
 go_ret
 exact⟨af l.out,m⟩
theorem enters_all_strs:Enters prog 205:=enters_of func205 (by kernel_rfl) rfl
theorem xT {w w1:World} {g:Nat} {lb:Array Value} {p:ByteArray->Bool} {B:Nat} (h:Blk w1 B 219 #[.func (.func g) #[] lb]) (o:Enters prog g) (b1:Below w.heap.size w w1) (k:nU w g lb p):
  nU w1 205 #[.pointer (some ⟨B,0,none⟩)] (λa=> !p a):=by
 intro b a q c;have s:b.cell? ⟨B,0,none⟩=some (.func (.func g) #[] lb):=((h.below c h.lt).cell 0).trans rfl;have f:=k b a q (b1.trans (c.mono b1.size));have r: ∀j w,(callFunc g j).run prog w= .ok (.enter g j) w:=o;obtain⟨i,d⟩: ∃i,i=p a:=⟨_,rfl⟩;rw [<-d]at f;have m:=ab f;have l:=ab d;show Calls prog 205 #[.string a,.pointer (some ⟨B,0,none⟩)] b _;clear f d k h c
 go_enter func205,ntmps205
 go_wp2_with (go_at_fn g;refine m.out.mono ?_;rintro e w2 ⟨rfl,n⟩)
 go_ret
 exact⟨af (show(!i)= !p a by rw [l.out]),n⟩
theorem xt {w:World} {F:Nat->Prop} {v:Value} {rs:List ByteArray} {g:Nat} {lb:Array Value} {p:ByteArray->Bool} (h:RdS w F v rs) (s: ∀d,F d->d<w.heap.size) (A:Enters prog g) (t:nU w g lb p) (B: ∀b∈rs,b.size<=maxLen):
  Calls prog 143 #[v,.func (.func g) #[] lb] w (aI w (.bool (rs.all p))):=by
 obtain⟨k,n⟩: ∃k,k=Obj.cells #[.func (.func g) #[] lb] 219:=⟨_,rfl⟩;have a:Below w.heap.size w (w.alloc k):=(Below.refl _ w).alloc (Zh _) _;have r:=h.below a s;have x:Blk (w.alloc k) w.heap.size 219 #[.func (.func g) #[] lb]:=by rw [n];exact Blk.new w _ _
 have m:=vN (p:=λb=> !p b) (lb:= #[.pointer (some ⟨w.heap.size,0,none⟩)]) r (λd e=>Zi (s d e) a.size) enters_all_strs (xT x A a t) B;have i:=uy p rs;rw [fM]at i;obtain⟨y,u⟩: ∃y,y=rs.any (λb=> !p b):=⟨_,rfl⟩;rw [<-u]at m i;have HI:=ab m;have z:=ab i;have l:=ab a;rw [n]at HI l;obtain⟨c,f,j,rfl⟩: ∃c f j,v= .slice c j f:=by obtain⟨c,j,f,e,_⟩:=id h;exact⟨c,f,j,e⟩
 clear h m i u t r x a n;have C: ∀(q:Fn) (first o:Array Value) (w:World),(Instr.makeFunc q first o).run prog w= .ok (.func q first o) w:=λ_ _ _ _=>rfl
 go_enter func143,ntmps143
 go_wp2_with fail
 refine HI.out.mono ?_;rintro e w1 ⟨rfl,a⟩
 go_wp2_with fail
 go_ret
 exact⟨af z.out,l.out.trans (a.mono l.out.size)⟩
theorem Cq {w:World} {F:Nat->Prop} {v:Value} {rs:List Int} {g:Nat} {lb:Array Value} {p:Int->Bool} (h:RdI w F v rs) (C: ∀l,F l->l<w.heap.size) (L:Enters prog g) (H:pX w g lb (Value.int .i64) p):
  Calls prog 259 #[v,.func (.func g) #[] lb] w (aI w (.int .i64 (eP p rs))):=by
 obtain⟨Q,x,R,rfl,_⟩:=id h;obtain⟨B,V,N,E⟩:=h.at_;unfold maxLen at N;have y:=ab B;have I:=ab E;have J:=ab C;have K:=ab H;have S: ∀A w,(callFunc g A).run prog w= .ok (.enter g A) w:=L;clear h B E C H
 go_enter func259,ntmps259
 go_wp2
 go_loopw [8] (λu wr=> ∃a:Nat,a<=x/\u= .int .i64 a/\Below w.heap.size w wr/\ ∀(c:Nat) (d:Int),c<a->rs[c]? =some d->p d=false) (λu _=>x - (intOf u).toNat)
 case atStart=>exact⟨0,Zj _,rfl,Below.refl _ _,λc d G=>absurd G (by omega)⟩
 case round=>
  obtain⟨a,T,rfl,j,D⟩:=hrel;have o:=ab D;have k:=ab j;clear D;by_cases U:a<x
  ·obtain⟨l,P,rfl,M,t⟩:=I.out (by omega);obtain⟨m,n⟩: ∃m,rs[a]? =some m:=⟨_,List.getElem?_eq_getElem (by rw [<-y.out];omega)⟩;have W:=(j.cell (p:=⟨l,P+a,none⟩) (J.out l M)).trans (t a m n);have i:=K.out wr m j;have z:=ab n;cases f:p m with
   |true=>
    rw [f]at i;have r:=ab i;have q:=ab f;clear i t n j f
    go_wp2_with (go_at_fn g;refine r.out.mono ?_;rintro e w1 ⟨rfl,s⟩)
    go_ret
    exact⟨au (mW z.out q.out o.out).symm,k.out.trans (s.mono k.out.size)⟩
   |false=>
    rw [f]at i;have r:=ab i;have q:=ab f;clear i t n j f
    go_wp2_with (go_at_fn g;refine r.out.mono ?_;rintro e w1 ⟨rfl,s⟩)
    go_roundw
    case rel=>
     refine⟨a+1,by omega,by go_num,k.out.trans (s.mono k.out.size),λc d G b=> ?_⟩;by_cases O:c=a
     ·subst O;rw [z.out]at b;injection b with b;rw [<-b];exact q.out
     ·exact o.out c d (by omega) b
    case measure=>simp [intOf];omega
  ·clear j
   go_wp2
   go_ret
   exact⟨au (lS λc d b=>o.out c d (by have:=(List.getElem?_eq_some_iff.1 b).1;have:=y.out;omega) b).symm,k.out⟩
theorem vO {w:World} {F:Nat->Prop} {v:Value} {rs:List Int} {g:Nat} {lb:Array Value} {p:Int->Bool} (h:RdI w F v rs) (o: ∀f,F f->f<w.heap.size) (n:Enters prog g) (i:pX w g lb (Value.int .i64) p):
  Calls prog 245 #[v,.func (.func g) #[] lb] w (aI w (.bool (rs.any p))):=by
 have hi:=Cq h o n i;have d:=fM (p:=p) (xs:=rs);obtain⟨k,j⟩: ∃k,k=eP p rs:=⟨_,rfl⟩;rw [<-j]at hi d;have HI:=ab hi;have l:=ab d;obtain⟨a,b,c,rfl⟩: ∃a b c,v= .slice a c b:=by obtain⟨a,c,b,e,_⟩:=id h;exact⟨a,b,c,e⟩
 clear h hi d j i
 go_enter func245,ntmps245
 go_wp2_with fail
 refine HI.out.mono ?_;rintro e w1 ⟨rfl,m⟩
 go_wp2_with fail
 go_ret
 exact⟨af l.out,m⟩
theorem enters_all_ints:Enters prog 246:=enters_of func246 (by kernel_rfl) rfl
theorem xU {w w1:World} {g:Nat} {lb:Array Value} {p:Int->Bool} {B:Nat} (h:Blk w1 B 70 #[.func (.func g) #[] lb]) (o:Enters prog g) (b1:Below w.heap.size w w1) (k:pX w g lb (Value.int .i64) p):
  pX w1 246 #[.pointer (some ⟨B,0,none⟩)] (Value.int .i64) (λa=> !p a):=by
 intro b a c;have r:b.cell? ⟨B,0,none⟩=some (.func (.func g) #[] lb):=((h.below c h.lt).cell 0).trans rfl;have f:=k b a (b1.trans (c.mono b1.size));have q: ∀j w,(callFunc g j).run prog w= .ok (.enter g j) w:=o;obtain⟨i,d⟩: ∃i,i=p a:=⟨_,rfl⟩;rw [<-d]at f;have m:=ab f;have l:=ab d;show Calls prog 246 #[.int .i64 a,.pointer (some ⟨B,0,none⟩)] b _;clear f d k h c
 go_enter func246,ntmps246
 go_wp2_with (go_at_fn g;refine m.out.mono ?_;rintro e w2 ⟨rfl,n⟩)
 go_ret
 exact⟨af (show(!i)= !p a by rw [l.out]),n⟩
theorem E8 {w:World} {F:Nat->Prop} {v:Value} {rs:List Int} {g:Nat} {lb:Array Value} {p:Int->Bool} (h:RdI w F v rs) (s: ∀c,F c->c<w.heap.size) (A:Enters prog g) (t:pX w g lb (Value.int .i64) p):
  Calls prog 209 #[v,.func (.func g) #[] lb] w (aI w (.bool (rs.all p))):=by
 obtain⟨j,m⟩: ∃j,j=Obj.cells #[.func (.func g) #[] lb] 70:=⟨_,rfl⟩;have a:Below w.heap.size w (w.alloc j):=(Below.refl _ w).alloc (Zh _) _;have r:=h.below a s;have x:Blk (w.alloc j) w.heap.size 70 #[.func (.func g) #[] lb]:=by rw [m];exact Blk.new w _ _
 have l:=vO (p:=λn=> !p n) (lb:= #[.pointer (some ⟨w.heap.size,0,none⟩)]) r (λc e=>Zi (s c e) a.size) enters_all_ints (xU x A a t);have f:=uy p rs;rw [fM]at f;obtain⟨y,u⟩: ∃y,y=rs.any (λn=> !p n):=⟨_,rfl⟩;rw [<-u]at l f;have HI:=ab l;have z:=ab f;have k:=ab a;rw [m]at HI k;obtain⟨b,d,i,rfl⟩: ∃b d i,v= .slice b i d:=by obtain⟨b,i,d,e,_⟩:=id h;exact⟨b,d,i,e⟩
 clear h l f u t r x a m;have B: ∀(q:Fn) (first o:Array Value) (w:World),(Instr.makeFunc q first o).run prog w= .ok (.func q first o) w:=λ_ _ _ _=>rfl
 go_enter func209,ntmps209
 go_wp2_with fail
 refine HI.out.mono ?_;rintro e w1 ⟨rfl,a⟩
 go_wp2_with fail
 go_ret
 exact⟨af z.out,k.out.trans (a.mono k.out.size)⟩
theorem nI {w:World} {F:Nat->Prop} {v:Value} {rs:List (Int×List Int)} {g:Nat} {lb:Array Value} {p:(Int×List Int)->Bool} (h:RdR w F v rs) (o: ∀d,F d->d<w.heap.size) (n:Enters prog g) (f:mj w F g lb p):
  Calls prog 202 #[v,.func (.func g) #[] lb] w (aI w (.bool (rs.any p))):=by
 have hi:=yr h o n f;have c:=fM (p:=p) (xs:=rs);obtain⟨k,i⟩: ∃k,k=eP p rs:=⟨_,rfl⟩;rw [<-i]at hi c;have HI:=ab hi;have l:=ab c;obtain⟨a,b,j,rfl⟩: ∃a b j,v= .slice a j b:=by obtain⟨a,b,e,_⟩:=id h;exact⟨a,b,_,e⟩
 clear h hi c i f
 go_enter func202,ntmps202
 go_wp2_with fail
 refine HI.out.mono ?_;rintro e w1 ⟨rfl,m⟩
 go_wp2_with fail
 go_ret
 exact⟨af l.out,m⟩
theorem enters_all_rules:Enters prog 203:=enters_of func203 (by kernel_rfl) rfl
theorem vS {w w1:World} {F:Nat->Prop} {g:Nat} {lb:Array Value} {p:Int×List Int->Bool} {B:Nat} (h:Blk w1 B 216 #[.func (.func g) #[] lb]) (x:Enters prog g) (b1:Below w.heap.size w w1) (r:mj w F g lb p) (y: ∀d,F d->d<w.heap.size):
  mj w1 F 203 #[.pointer (some ⟨B,0,none⟩)] (λD=> !p D):=by
 intro a n c f k;have i:=b1.trans (f.mono b1.size);have G:B<a.heap.size:=Zi h.lt f.size;have b:Below a.heap.size a (a.alloc (.cells #[.int .i64 c.1,n] 98)):=(Below.refl _ a).alloc (Zh _) _;have z:a.cell? ⟨B,0,none⟩=some (.func (.func g) #[] lb):=((h.below f h.lt).cell 0).trans rfl;have H:=λC=>kd z C
 have l:=r (a.alloc (.cells #[.int .i64 c.1,n] 98)) n c (i.trans (b.mono i.size)) (k.below b (λd e=>Zi (y d e) i.size));have E: ∀q w,(callFunc g q).run prog w= .ok (.enter g q) w:=x;obtain⟨s,A,v,rfl,_⟩:=id k;obtain⟨m,j⟩: ∃m,m=p c:=⟨_,rfl⟩;rw [<-j]at l;have u:=ab l;have t:=ab j;have o:=ab b;show Calls prog 203 #[.agg #[.int .i64 c.1,.slice s A v],.pointer (some ⟨B,0,none⟩)] a _;clear l j r h f b k
 go_enter func203,ntmps203
 go_wp2_with (go_at_fn g;refine u.out.mono ?_;rintro e w2 ⟨rfl,b⟩)
 go_ret
 exact⟨af (show(!m)= !p c by rw [t.out]),o.out.trans (b.mono o.out.size)⟩
theorem vy {w:World} {F:Nat->Prop} {v:Value} {rs:List (Int×List Int)} {g:Nat} {lb:Array Value} {p:(Int×List Int)->Bool} (h:RdR w F v rs) (k: ∀c,F c->c<w.heap.size) (A:Enters prog g) (s:mj w F g lb p):
  Calls prog 142 #[v,.func (.func g) #[] lb] w (aI w (.bool (rs.all p))):=by
 obtain⟨i,m⟩: ∃i,i=Obj.cells #[.func (.func g) #[] lb] 216:=⟨_,rfl⟩;have a:Below w.heap.size w (w.alloc i):=(Below.refl _ w).alloc (Zh _) _;have r:=h.below a k;have u:Blk (w.alloc i) w.heap.size 216 #[.func (.func g) #[] lb]:=by rw [m];exact Blk.new w _ _
 have l:=nI (p:=λn=> !p n) (lb:= #[.pointer (some ⟨w.heap.size,0,none⟩)]) r (λc e=>Zi (k c e) a.size) enters_all_rules (vS u A a s k);have f:=uy p rs;rw [fM]at f;obtain⟨y,t⟩: ∃y,y=rs.any (λn=> !p n):=⟨_,rfl⟩;rw [<-t]at l f;have HI:=ab l;have z:=ab f;have j:=ab a;rw [m]at HI j;obtain⟨b,d,x,rfl⟩: ∃b d x,v= .slice b x d:=by obtain⟨b,d,e,_⟩:=id h;exact⟨b,d,_,e⟩
 clear h l f t s r u a m;have B: ∀(q:Fn) (first o:Array Value) (w:World),(Instr.makeFunc q first o).run prog w= .ok (.func q first o) w:=λ_ _ _ _=>rfl
 go_enter func142,ntmps142
 go_wp2_with fail
 refine HI.out.mono ?_;rintro e w1 ⟨rfl,a⟩
 go_wp2_with fail
 go_ret
 exact⟨af z.out,j.out.trans (a.mono j.out.size)⟩
end
section
open Go.RowKit
end
end
section
theorem lF {G:ac} {s i:Int}:i∈az G s↔ ∃(n:Nat) (x:List Int),i=n/\G.rules[n]? =some (s,x):=by
 unfold az d8;rw [Ze];constructor
 ·rintro⟨n,c,rfl⟩;rw [Zd,decide_eq_true_eq]at c;obtain⟨⟨d,x⟩,a,b⟩:=Option.map_eq_some_iff.1 c.2;simp only at b;subst b;exact⟨n,x,rfl,a⟩
 ·rintro⟨n,x,rfl,a⟩;refine⟨n,?_,rfl⟩;rw [Zd,decide_eq_true_eq,a];exact⟨Zf.2 (List.getElem?_eq_some_iff.1 a).1,rfl⟩
end
end Go.Proofs.YthlbjgabhpdbfaaGreat

/- Bytes. -/
import Derived.Test.YthlbjgabhpdbfaaGreatBBitsL
import Derived.Shelf.Abstract
import Derived.Laws.RangeString
import Derived.WalkSmall
import Derived.WideLaws
set_option linter.unusedVariables false
set_option maxRecDepth 100000
set_option maxHeartbeats 4000000
namespace Go.Proofs.YthlbjgabhpdbfaaGreat
open Go.Proofs.Tryz
open List renaming mem_range->Za
section
section
open Go.RowKit
theorem Dr: ∀a:Fin 256,bits BinOp.or IntKind.u8 (a.val:Int) 32=if(a.val:Int)/32%2=1 then(a.val:Int)else a.val+32:=by decide+kernel
theorem FX (c:Int) (a:0<=c) (b:c<256):bits BinOp.or IntKind.u8 c 32=if c/32%2=1 then c else c+32:=by
 have:=Dr ⟨c.toNat,by omega⟩;simp only [Int.toNat_of_nonneg a]at this;exact this
def cL (c:Int):Int:=if 48<=c/\c<=57 then 3 else if(97<=c/\c<=122)\/(65<=c/\c<=90)\/c=95 then 4 else 8
theorem yB (c:Int) (g:0<=c) (h:c<256) (w:World):Calls prog 258 #[.int .u8 c] w λe y=>e= .returned (.int .i64 (cL c))/\w=y:=by
 have q:=FX c g h;obtain⟨b,a⟩: ∃b,b=bits BinOp.or IntKind.u8 c 32:=⟨_,rfl⟩;rw [<-a]at q;have i:(c/32%2=1/\b=c)\/(¬c/32%2=1/\b=c+32):=by
  by_cases e:c/32%2=1
  ·rw [if_pos e]at q;exact .inl ⟨e,q⟩
  ·rw [if_neg e]at q;exact .inr ⟨e,q⟩
 clear q;by_cases k:c<=47
 ·have d:Hid (cL c=8):=ab (by unfold cL;repeat (first|rw [if_pos (by omega)]|rw [if_neg (by omega)]));have l:((c:Int)==95)=false:=by rw [beq_eq_false_iff_ne];omega
  have m:decide ((48:Int)<=c)=false:=by rw [decide_eq_false_iff_not];omega
  have n:decide (c<=(57:Int))=true:=by rw [decide_eq_true_eq];omega
  have f:decide ((97:Int)<=b)=false:=by rw [decide_eq_false_iff_not];omega
  rw [a]at f;clear g h a i k
  go_enter func258,ntmps258
  go_wp2
  go_ret
  exact⟨au d.out.symm,rfl⟩
 by_cases o:c<=57
 ·have d:Hid (cL c=3):=ab (by unfold cL;repeat (first|rw [if_pos (by omega)]|rw [if_neg (by omega)]));have l:((c:Int)==95)=false:=by rw [beq_eq_false_iff_ne];omega
  have m:decide ((48:Int)<=c)=true:=by rw [decide_eq_true_eq];omega
  have n:decide (c<=(57:Int))=true:=by rw [decide_eq_true_eq];omega
  have f:decide ((97:Int)<=b)=false:=by rw [decide_eq_false_iff_not];omega
  rw [a]at f;clear g h a i k o
  go_enter func258,ntmps258
  go_wp2
  go_ret
  exact⟨au d.out.symm,rfl⟩
 by_cases p:c<=64
 ·have d:Hid (cL c=8):=ab (by unfold cL;repeat (first|rw [if_pos (by omega)]|rw [if_neg (by omega)]));have l:((c:Int)==95)=false:=by rw [beq_eq_false_iff_ne];omega
  have m:decide ((48:Int)<=c)=true:=by rw [decide_eq_true_eq];omega
  have n:decide (c<=(57:Int))=false:=by rw [decide_eq_false_iff_not];omega
  have f:decide ((97:Int)<=b)=false:=by rw [decide_eq_false_iff_not];omega
  rw [a]at f;clear g h a i k o p
  go_enter func258,ntmps258
  go_wp2
  go_ret
  exact⟨au d.out.symm,rfl⟩
 by_cases r:c<=90
 ·have d:Hid (cL c=4):=ab (by unfold cL;repeat (first|rw [if_pos (by omega)]|rw [if_neg (by omega)]));have l:((c:Int)==95)=false:=by rw [beq_eq_false_iff_ne];omega
  have m:decide ((48:Int)<=c)=true:=by rw [decide_eq_true_eq];omega
  have n:decide (c<=(57:Int))=false:=by rw [decide_eq_false_iff_not];omega
  have f:decide ((97:Int)<=b)=true:=by rw [decide_eq_true_eq];omega
  have j:decide (b<=(122:Int))=true:=by rw [decide_eq_true_eq];omega
  rw [a]at f j;clear g h a i k o p r
  go_enter func258,ntmps258
  go_wp2
  go_ret
  exact⟨au d.out.symm,rfl⟩
 by_cases s:c<=94
 ·have d:Hid (cL c=8):=ab (by unfold cL;repeat (first|rw [if_pos (by omega)]|rw [if_neg (by omega)]));have l:((c:Int)==95)=false:=by rw [beq_eq_false_iff_ne];omega
  have m:decide ((48:Int)<=c)=true:=by rw [decide_eq_true_eq];omega
  have n:decide (c<=(57:Int))=false:=by rw [decide_eq_false_iff_not];omega
  have f:decide ((97:Int)<=b)=true:=by rw [decide_eq_true_eq];omega
  have j:decide (b<=(122:Int))=false:=by rw [decide_eq_false_iff_not];omega
  rw [a]at f j;clear g h a i k o p r s
  go_enter func258,ntmps258
  go_wp2
  go_ret
  exact⟨au d.out.symm,rfl⟩
 by_cases t:c<=95
 ·have d:Hid (cL c=4):=ab (by unfold cL;repeat (first|rw [if_pos (by omega)]|rw [if_neg (by omega)]));have m:decide ((48:Int)<=c)=true:=by rw [decide_eq_true_eq];omega
  have n:decide (c<=(57:Int))=false:=by rw [decide_eq_false_iff_not];omega
  have l:((c:Int)==95)=true:=by rw [beq_iff_eq];omega
  have f:decide ((97:Int)<=b)=true:=by rw [decide_eq_true_eq];omega
  have j:decide (b<=(122:Int))=false:=by rw [decide_eq_false_iff_not];omega
  rw [a]at f j;clear g h a i k o p r s t
  go_enter func258,ntmps258
  go_wp2
  go_ret
  exact⟨au d.out.symm,rfl⟩
 by_cases u:c<=96
 ·have d:Hid (cL c=8):=ab (by unfold cL;repeat (first|rw [if_pos (by omega)]|rw [if_neg (by omega)]));have l:((c:Int)==95)=false:=by rw [beq_eq_false_iff_ne];omega
  have m:decide ((48:Int)<=c)=true:=by rw [decide_eq_true_eq];omega
  have n:decide (c<=(57:Int))=false:=by rw [decide_eq_false_iff_not];omega
  have f:decide ((97:Int)<=b)=false:=by rw [decide_eq_false_iff_not];omega
  rw [a]at f;clear g h a i k o p r s t u
  go_enter func258,ntmps258
  go_wp2
  go_ret
  exact⟨au d.out.symm,rfl⟩
 by_cases v:c<=122
 ·have d:Hid (cL c=4):=ab (by unfold cL;repeat (first|rw [if_pos (by omega)]|rw [if_neg (by omega)]));have l:((c:Int)==95)=false:=by rw [beq_eq_false_iff_ne];omega
  have m:decide ((48:Int)<=c)=true:=by rw [decide_eq_true_eq];omega
  have n:decide (c<=(57:Int))=false:=by rw [decide_eq_false_iff_not];omega
  have f:decide ((97:Int)<=b)=true:=by rw [decide_eq_true_eq];omega
  have j:decide (b<=(122:Int))=true:=by rw [decide_eq_true_eq];omega
  rw [a]at f j;clear g h a i k o p r s t u v
  go_enter func258,ntmps258
  go_wp2
  go_ret
  exact⟨au d.out.symm,rfl⟩
 by_cases x:c<=255
 ·have d:Hid (cL c=8):=ab (by unfold cL;repeat (first|rw [if_pos (by omega)]|rw [if_neg (by omega)]));have l:((c:Int)==95)=false:=by rw [beq_eq_false_iff_ne];omega
  have m:decide ((48:Int)<=c)=true:=by rw [decide_eq_true_eq];omega
  have n:decide (c<=(57:Int))=false:=by rw [decide_eq_false_iff_not];omega
  have f:decide ((97:Int)<=b)=true:=by rw [decide_eq_true_eq];omega
  have j:decide (b<=(122:Int))=false:=by rw [decide_eq_false_iff_not];omega
  rw [a]at f j;clear g h a i k o p r s t u v x
  go_enter func258,ntmps258
  go_wp2
  go_ret
  exact⟨au d.out.symm,rfl⟩
 ·omega
theorem AM (c:Int) (b:0<=c) (d:c<256) (w:World):Calls prog 240 #[.int .u8 c] w λe y=>e= .returned (.int .i64 (bK c))/\w=y:=by
 by_cases s0:c=0
 ·subst s0;have a:Hid (bK 0=0):=ab (by decide);clear b d
  go_enter func240,ntmps240
  go_wp2
  go_ret
  exact⟨au a.out.symm,rfl⟩
 by_cases f:c=9
 ·subst f;have a:Hid (bK 9=1):=ab (by decide);clear b d s0
  go_enter func240,ntmps240
  go_wp2
  go_ret
  exact⟨au a.out.symm,rfl⟩
 by_cases g:c=10
 ·subst g;have a:Hid (bK 10=2):=ab (by decide);clear b d s0 f
  go_enter func240,ntmps240
  go_wp2
  go_ret
  exact⟨au a.out.symm,rfl⟩
 by_cases h:c=32
 ·subst h;have a:Hid (bK 32=1):=ab (by decide);clear b d s0 f g
  go_enter func240,ntmps240
  go_wp2
  go_ret
  exact⟨au a.out.symm,rfl⟩
 by_cases i:c=34
 ·subst i;have a:Hid (bK 34=6):=ab (by decide);clear b d s0 f g h
  go_enter func240,ntmps240
  go_wp2
  go_ret
  exact⟨au a.out.symm,rfl⟩
 by_cases j:c=36
 ·subst j;have a:Hid (bK 36=7):=ab (by decide);clear b d s0 f g h i
  go_enter func240,ntmps240
  go_wp2
  go_ret
  exact⟨au a.out.symm,rfl⟩
 by_cases k:c=38
 ·subst k;have a:Hid (bK 38=5):=ab (by decide);clear b d s0 f g h i j
  go_enter func240,ntmps240
  go_wp2
  go_ret
  exact⟨au a.out.symm,rfl⟩
 by_cases l:c=39
 ·subst l;have a:Hid (bK 39=6):=ab (by decide);clear b d s0 f g h i j k
  go_enter func240,ntmps240
  go_wp2
  go_ret
  exact⟨au a.out.symm,rfl⟩
 by_cases m:c=40
 ·subst m;have a:Hid (bK 40=5):=ab (by decide);clear b d s0 f g h i j k l
  go_enter func240,ntmps240
  go_wp2
  go_ret
  exact⟨au a.out.symm,rfl⟩
 by_cases n:c=41
 ·subst n;have a:Hid (bK 41=5):=ab (by decide);clear b d s0 f g h i j k l m
  go_enter func240,ntmps240
  go_wp2
  go_ret
  exact⟨au a.out.symm,rfl⟩
 by_cases o:c=59
 ·subst o;have a:Hid (bK 59=5):=ab (by decide);clear b d s0 f g h i j k l m n
  go_enter func240,ntmps240
  go_wp2
  go_ret
  exact⟨au a.out.symm,rfl⟩
 by_cases p:c=60
 ·subst p;have a:Hid (bK 60=5):=ab (by decide);clear b d s0 f g h i j k l m n o
  go_enter func240,ntmps240
  go_wp2
  go_ret
  exact⟨au a.out.symm,rfl⟩
 by_cases q:c=62
 ·subst q;have a:Hid (bK 62=5):=ab (by decide);clear b d s0 f g h i j k l m n o p
  go_enter func240,ntmps240
  go_wp2
  go_ret
  exact⟨au a.out.symm,rfl⟩
 by_cases r:c=92
 ·subst r;have a:Hid (bK 92=6):=ab (by decide);clear b d s0 f g h i j k l m n o p q
  go_enter func240,ntmps240
  go_wp2
  go_ret
  exact⟨au a.out.symm,rfl⟩
 by_cases s:c=95
 ·subst s;have a:Hid (bK 95=4):=ab (by decide);clear b d s0 f g h i j k l m n o p q r
  go_enter func240,ntmps240
  go_wp2
  go_ret
  exact⟨au a.out.symm,rfl⟩
 by_cases v:c=96
 ·subst v;have a:Hid (bK 96=6):=ab (by decide);clear b d s0 f g h i j k l m n o p q r s
  go_enter func240,ntmps240
  go_wp2
  go_ret
  exact⟨au a.out.symm,rfl⟩
 by_cases x:c=124
 ·subst x;have a:Hid (bK 124=5):=ab (by decide);clear b d s0 f g h i j k l m n o p q r s v
  go_enter func240,ntmps240
  go_wp2
  go_ret
  exact⟨au a.out.symm,rfl⟩
 have a:Hid (bK c=cL c):=ab (by
  unfold bK cL
  rw [if_neg (by omega),if_neg (by omega),if_neg (by omega)]
  by_cases t:48<=c/\c<=57
  ·rw [if_pos t,if_pos t]
  ·rw [if_neg t,if_neg t]
   by_cases u:(97<=c/\c<=122)\/(65<=c/\c<=90)\/c=95
   ·rw [if_pos u,if_pos u]
   ·rw [if_neg u,if_neg u,if_neg (by omega),if_neg (by omega),if_neg (by omega)])
 have z:Hid _:=ab (yB c b d w);have A:((c:Int)==0)=false:=by rw [beq_eq_false_iff_ne];exact s0
 have N:((c:Int)==9)=false:=by rw [beq_eq_false_iff_ne];exact f
 have B:((c:Int)==10)=false:=by rw [beq_eq_false_iff_ne];exact g
 have D:((c:Int)==32)=false:=by rw [beq_eq_false_iff_ne];exact h
 have E:((c:Int)==34)=false:=by rw [beq_eq_false_iff_ne];exact i
 have F:((c:Int)==36)=false:=by rw [beq_eq_false_iff_ne];exact j
 have G:((c:Int)==38)=false:=by rw [beq_eq_false_iff_ne];exact k
 have H:((c:Int)==39)=false:=by rw [beq_eq_false_iff_ne];exact l
 have I:((c:Int)==40)=false:=by rw [beq_eq_false_iff_ne];exact m
 have J:((c:Int)==41)=false:=by rw [beq_eq_false_iff_ne];exact n
 have K:((c:Int)==59)=false:=by rw [beq_eq_false_iff_ne];exact o
 have L:((c:Int)==60)=false:=by rw [beq_eq_false_iff_ne];exact p
 have M:((c:Int)==62)=false:=by rw [beq_eq_false_iff_ne];exact q
 have O:((c:Int)==92)=false:=by rw [beq_eq_false_iff_ne];exact r
 have P:((c:Int)==95)=false:=by rw [beq_eq_false_iff_ne];exact s
 have Q:((c:Int)==96)=false:=by rw [beq_eq_false_iff_ne];exact v
 have C:((c:Int)==124)=false:=by rw [beq_eq_false_iff_ne];exact x
 clear b d s0 f g h i j k l m n o p q r s v x
 go_enter func240,ntmps240
 go_wp2_with fail
 refine z.out.mono ?_;rintro e y ⟨rfl,rfl⟩
 go_wp2_with fail
 go_ret
 exact⟨au a.out.symm,rfl⟩
end
section
open Go.RowKit
def lI (w:World) (r:Value) (e:Ending) (w':World):Prop:=e= .returned r/\Below w.heap.size w w'
def d9 (s:ByteArray) (k:Nat):Int:=if h:k<s.size then(s[k].toNat:Int)else 0
theorem j8 {s:ByteArray} {k:Nat} (h:k<s.size):d9 s k=(s[k].toNat:Int):=by unfold d9;rw [dif_pos h]
theorem CH (s:ByteArray) (k:Nat):0<=d9 s k/\d9 s k<256:=by
 unfold d9
 split
 ·rename_i h;have:=s[k].toNat_lt;omega
 ·omega
def jZ (s:ByteArray) (k:Nat):Bool:=decide (bK (d9 s k)=4)||(decide (bK (d9 s k)=3)&&decide (0<k))
def iW (s:ByteArray) (k:Nat):Bool:=(List.range k).all (jZ s)
def jO (s:ByteArray):Bool:=decide (0<s.size)&&iW s s.size
theorem vK (s:ByteArray) (k:Nat):iW s (k+1)=(iW s k&&jZ s k):=by unfold iW;rw [List.range_succ,List.all_append];simp
theorem qP {s:ByteArray} {k:Nat} (a:k<s.size) (h:jZ s k=false):jO s=false:=by
 unfold jO iW;have:(List.range s.size).all (jZ s)=false:=by
  rw [List.all_eq_false];exact⟨k,Za.2 a,by simp [h]⟩
 rw [this];simp
def iC (s:ByteArray):Bool:=(List.range s.size).all (λk=>decide (d9 s k<128))
theorem AN (s:ByteArray) (t:s.size<=maxLen) (w:World):Calls prog 237 #[.string s] w λe u=>e= .returned (.bool (iC s))/\w=u:=by
 unfold maxLen at t;have o:(∀a:Nat,a<s.size->d9 s a<128)->iC s=true:=λh=>by
  unfold iC;rw [List.all_eq_true];intro a c;simpa using h a (Za.1 c)
 have n: ∀a:Nat,a<s.size-> ¬d9 s a<128->iC s=false:=λa c h=>by
  unfold iC;rw [List.all_eq_false];exact⟨a,Za.2 c,by simpa using h⟩
 obtain⟨r,q⟩:=av o n;clear o n
 go_enter func237,ntmps237
 go_wp2
 go_loop [6] (λj=> ∃b:Nat,b<=s.size/\j= .int .i64 b/\ ∀a:Nat,a<b->d9 s a<128) (λj=>s.size - (intOf j).toNat)
 case atStart=>exact⟨0,Nat.zero_le _,rfl,λa c=>absurd c (by omega)⟩
 case round=>
  obtain⟨b,v,rfl,l⟩:=hrel;have k:=ab l;clear l;by_cases m:b<s.size
  ·have d:=j8 m;by_cases g:d9 s b<128
   ·have f:=g;rw [d]at g;obtain⟨p,i⟩:=av d f;clear d f
    go_wp2_with fail
    go_round
    case rel=>exact⟨b+1,by omega,by go_num,λa c=>by
     by_cases e:a=b
     ·subst e;exact i.out
     ·exact k.out a (by omega)⟩
    case measure=>simp [intOf];omega
   ·have f:=q.out b m (by omega);rw [d]at g;have g:(128:Int)<=(s[b].toNat:Int):=(by omega);obtain⟨p,i⟩:=av d f;clear d f
    go_wp2_with fail
    go_ret
    exact⟨af i.out.symm,by first|rfl|trivial⟩
  ·go_wp2_with fail
   go_ret
   exact⟨af (r.out λa c=>k.out a (by omega)).symm,rfl⟩
theorem enters_name1:Enters prog 239:=enters_of func239 (by kernel_rfl) rfl
theorem Dw (k:Nat) (c:Int) (m:0<=c) (n:c<256) (q:k<=9223372036854775807) (w:World):Calls prog 239 #[.int .i64 k,.int .u8 c] w λe h=>e= .returned (.bool (decide (bK c=4)||(decide (bK c=3)&&decide (0<k))))/\w=h:=by
 have f:=AM c m n w;obtain⟨d,j⟩: ∃d,d=bK c:=⟨_,rfl⟩;rw [<-j]at f⊢;clear j;by_cases a:d=4
 ·have o:(d==4)=true:=by simp [a]
  rw [decide_eq_true a];obtain⟨g,i⟩:=av f a;clear f a
  go_enter func239,ntmps239
  go_wp2_with fail
  refine g.out.mono ?_;rintro e h ⟨rfl,rfl⟩
  go_wp2_with fail
  go_ret
  exact⟨af (by simp),rfl⟩
 ·have o:(d==4)=false:=by simpa using a
  rw [decide_eq_false a];by_cases b:d=3
  ·have p:(d==3)=true:=by simp [b]
   rw [decide_eq_true b];obtain⟨g,i,l⟩:=aK f a b;clear f a b
   go_enter func239,ntmps239
   go_wp2_with fail
   refine g.out.mono ?_;rintro e h ⟨rfl,rfl⟩
   go_wp2_with fail
   go_ret
   exact⟨af (by first|rfl|simp),rfl⟩
  ·have p:(d==3)=false:=by simpa using b
   rw [decide_eq_false b];obtain⟨g,i,l⟩:=aK f a b;clear f a b
   go_enter func239,ntmps239
   go_wp2_with fail
   refine g.out.mono ?_;rintro e h ⟨rfl,rfl⟩
   go_wp2_with fail
   go_ret
   exact⟨af (by first|rfl|simp),rfl⟩
end
section
open Go.RowKit
theorem CE (s:ByteArray) (P:s.size<=maxLen) (v: ∀E:Nat,E<s.size->d9 s E<128) (w:World):Calls prog 238 #[.string s,.func (.func 239) #[] #[]] w λe o=>e= .returned (.bool (jO s))/\Below w.heap.size w o:=by
 unfold maxLen at P;have D:=vK s;have C: ∀a,a<s.size->jZ s a=false->jO s=false:=λa=>qP
 have A:jO s=(decide (0<s.size)&&iW s s.size):=rfl;have x: ∀a,jZ s a=(decide (bK (d9 s a)=4)||(decide (bK (d9 s a)=3)&&decide (0<a))):=λa=>rfl
 have u:=enters_name1;have Q: ∀t w,(callFunc 239 t).run prog w= .ok (.enter 239 t) w:=u;have p: ∀a:Nat,Below w.heap.size w (w.iter s a):=λa=>(Below.refl _ w).alloc (Nat.le_refl _) _
 have z:(s.toList.isEmpty)=decide (s.size=0):=pV s;obtain⟨M,K,q,G,F,i⟩:=aM D C A x v p;clear D C A x v p;clear u
 go_enter func238,ntmps238
 go_wp2
 go_loopw [5] (λS wr=> ∃a:Nat,a<=s.size/\iW s a=true/\wr=w.iter s a) (λ_ wr=>s.size - wr.iterPos w.heap.size)
 case atStart=>exact⟨0,Nat.zero_le _,rfl,rfl⟩
 case round=>
  obtain⟨a,R,m,rfl⟩:=hrel;have c:=M.out a;rw [m,Bool.true_and]at c;have g:=K.out a;have I:=ab m;clear m;by_cases f:a<s.size
  ·have y:=F.out a f;have O:=λn=>run_next_ascii (P:=prog) w s a n f (by rw [j8 f]at y;omega)
   have l:=CH s a;have b:=Dw a (d9 s a) l.1 l.2 (by omega) (w.iter s (a+1));rw [<-G.out a]at b;rw [j8 f]at b;clear y l;cases d:jZ s a with
   |true=>
    rw [d]at b c;obtain⟨j,r,J,L⟩:=aA b c g d;clear b c g d
    go_wp2_with (go_at_fn 239;refine j.out.mono ?_;rintro e o ⟨rfl,rfl⟩)
    go_roundw
    case rel=>exact⟨a+1,by omega,r.out,rfl⟩
    case measure=>
     rw [World.iterPos_iter,World.iterPos_iter];omega
   |false=>
    rw [d]at b c;have B:=g f d;obtain⟨j,r,J,L,H⟩:=aX b c g d B;clear b c g d B
    go_wp2_with (go_at_fn 239;refine j.out.mono ?_;rintro e o ⟨rfl,rfl⟩)
    go_ret
    exact⟨af H.out.symm,i.out _⟩
  ·have O:=λn=>run_next_end (P:=prog) w s a n f
   have N:a=s.size:=by omega
   subst N;clear c g;by_cases h:s.size=0
   ·rw [decide_eq_true h]at z;have k:=ab h;clear h
    go_wp2_with fail
    go_ret
    exact⟨af (by rw [q.out,k.out];simp),i.out _⟩
   ·rw [decide_eq_false h]at z;have k:=ab h;clear h
    go_wp2_with fail
    go_ret
    exact⟨af (by rw [q.out,I.out,decide_eq_true (show 0<s.size by have:=k.out;omega)];simp),i.out _⟩
end
section
open Go.RowKit
theorem xP {c:Int} (h: ¬c<128):bK c=8:=by
 unfold bK;rw [if_neg (by omega),if_neg (by omega),if_neg (by omega),if_neg (by omega),if_neg (by omega),if_neg (by omega),if_neg (by omega),if_neg (by omega)]
theorem ym {s:ByteArray} (h:iC s=false):jO s=false:=by
 unfold iC at h;rw [List.all_eq_false]at h;obtain⟨d,c,a⟩:=h;refine qP (Za.1 c) ?_;have b: ¬d9 s d<128:=by simpa using a
 unfold jZ;rw [xP b];rfl
theorem E6 {s:ByteArray} (h:iC s=true): ∀a:Nat,a<s.size->d9 s a<128:=by
 intro a b;unfold iC at h;rw [List.all_eq_true]at h;simpa using h a (Za.2 b)
theorem CD (s:ByteArray) (c:s.size<=maxLen) (w:World):Calls prog 206 #[.string s] w (lI w (.bool (jO s))):=by
 have b:=AN s c w;cases a:iC s with
 |true=>
  have f:=CE s c (E6 a) w;rw [a]at b;obtain⟨d,i,k⟩:=aK b f a;clear b f a;clear c
  go_enter func206,ntmps206
  go_wp2_with fail
  refine d.out.mono ?_;rintro e h ⟨rfl,rfl⟩
  go_wp2_with fail
  refine i.out.mono ?_;rintro e h ⟨rfl,l⟩
  go_wp2_with fail
  go_ret
  exact⟨rfl,l⟩
 |false=>
  have g:=ym a;rw [a]at b;obtain⟨d,k,j⟩:=aK b a g;clear b a g;clear c
  go_enter func206,ntmps206
  go_wp2_with fail
  refine d.out.mono ?_;rintro e h ⟨rfl,rfl⟩
  go_wp2_with fail
  go_ret
  exact⟨af j.out.symm,Below.refl _ _⟩
def fr (s:ByteArray):Bool:=decide (s.size<=24)&&jO s
theorem sV (s:ByteArray) (f:s.size<=maxLen) (w:World):Calls prog 145 #[.string s] w (lI w (.bool (fr s))):=by
 have b:=CD s f w;have a:fr s=(decide (s.size<=24)&&jO s):=rfl;unfold maxLen at f;generalize jO s=j at b a;by_cases h:s.size<=24
 ·rw [decide_eq_true h]at a;have g:(s.size:Int)<=24:=by omega
  obtain⟨d,c⟩:=av b a;clear b a
  go_enter func145,ntmps145
  go_wp2_with fail
  refine d.out.mono ?_;rintro e k ⟨rfl,i⟩
  go_wp2_with fail
  go_ret
  exact⟨af (by rw [c.out];cases j<;>rfl),i⟩
 ·rw [decide_eq_false h]at a;have g: ¬(s.size:Int)<=24:=by omega
  obtain⟨d,c⟩:=av b a;clear b a
  go_enter func145,ntmps145
  go_wp2_with fail
  go_ret
  exact⟨af (by rw [c.out];rfl),Below.refl _ _⟩
end
end
section
section
open Go.RowKit
def qp (c:Int):Bool:=decide (33<=c)&&(decide (c<=126)&&decide (c≠39))
theorem yv (c:Int) (w:World):Calls prog 242 #[.int .u8 c] w λe k=>e= .returned (.bool (qp c))/\w=k:=by
 have a:qp c=(decide (33<=c)&&(decide (c<=126)&&decide (c≠39))):=rfl;by_cases f:33<=c
 ·rw [decide_eq_true f]at a;have i:(32:Int)<c:=by omega
  by_cases g:c<=126
  ·rw [decide_eq_true g]at a;by_cases b:c=39
   ·have j:(c !=39)=false:=(by simp [b]);rw [decide_eq_false (by simpa using b)]at a;obtain⟨d,h⟩:=av a b;clear a b
    go_enter func242,ntmps242
    go_wp2_with fail
    go_ret
    exact⟨af (by rw [d.out];rfl),by first|rfl|trivial⟩
   ·have j:(c !=39)=true:=(by simpa using b);rw [decide_eq_true (by simpa using b)]at a;obtain⟨d,h⟩:=av a b;clear a b
    go_enter func242,ntmps242
    go_wp2_with fail
    go_ret
    exact⟨af (by rw [d.out];rfl),by first|rfl|trivial⟩
  ·rw [decide_eq_false g]at a;have d:=ab a;clear a
   go_enter func242,ntmps242
   go_wp2_with fail
   go_ret
   exact⟨af (by rw [d.out];rfl),by first|rfl|trivial⟩
 ·rw [decide_eq_false f]at a;have i: ¬(32:Int)<c:=by omega
  have d:=ab a;clear a
  go_enter func242,ntmps242
  go_wp2_with fail
  go_ret
  exact⟨af (by rw [d.out];rfl),by first|rfl|trivial⟩
def ji (s:ByteArray) (j:Nat):Bool:=qp (d9 s j)
def dj (s:ByteArray):Nat:=1+((List.range (s.size - 1)).map (· +1)).findIdx (λj=> !ji s j)
theorem zT {s:ByteArray} {n:Nat} (h:1<=n) (k:n<=s.size) (b: ∀a:Nat,1<=a->a<n->ji s a=true) (c:n=s.size\/ji s n=false):dj s=n:=by
 unfold dj;rcases c with rfl|c
 ·have:((List.range (s.size - 1)).map (· +1)).findIdx (λa=> !ji s a)=((List.range (s.size - 1)).map (· +1)).length:=by
   rw [List.findIdx_eq_length];intro g d;obtain⟨f,e,rfl⟩:=List.mem_map.1 d;have:=Za.1 e;simp [b (f+1) (by omega) (by omega)]
  rw [this];simp;omega
 ·by_cases j:n<s.size
  ·have:((List.range (s.size - 1)).map (· +1)).findIdx (λa=> !ji s a)=n - 1:=by
    rw [List.findIdx_eq (by simp;omega)];refine⟨by simp [show n - 1+1=n by omega,c],λa i=> ?_⟩;simp [b (a+1) (by omega) (by omega)]
   rw [this];omega
  ·have:n=s.size:=by omega
   subst this;have:((List.range (s.size - 1)).map (· +1)).findIdx (λa=> !ji s a)=((List.range (s.size - 1)).map (· +1)).length:=by
    rw [List.findIdx_eq_length];intro g d;obtain⟨f,e,rfl⟩:=List.mem_map.1 d;have:=Za.1 e;simp [b (f+1) (by omega) (by omega)]
   rw [this];simp;omega
def lD (s:ByteArray) (n:Nat):Bool:=decide (n<s.size)&&(decide (d9 s n=39)&&(decide (n≠1)&&decide (n<24)))
def ir (s:ByteArray):Bool:=decide (0<s.size)&&(decide (d9 s 0=39)&&(lD s (dj s)&&decide (dj s+1=s.size)))
theorem enters_inside:Enters prog 242:=enters_of func242 (by kernel_rfl) rfl
theorem Ct (s:ByteArray) (y:s.size<=maxLen) (A:0<s.size) (w:World):Calls prog 241 #[.string s,.int .i64 1,.func (.func 242) #[] #[]] w λe l=>(∃k:Nat,e= .returned (.int .i64 k)/\dj s=k+1/\k+1<=s.size)/\w=l:=by
 unfold maxLen at y;have u: ∀d:Nat,1<=d->d<=s.size->(∀b:Nat,1<=b->b<d->ji s b=true)->(d=s.size\/ji s d=false)->dj s=d:=λd=>zT
 have r: ∀b,ji s b=qp (d9 s b):=λ_=>rfl
 have o:=enters_inside;have z: ∀n w,(callFunc 242 n).run prog w= .ok (.enter 242 n) w:=o;obtain⟨m,v⟩:=av u r;clear u r;clear o
 go_enter func241,ntmps241
 go_wp2_with fail
 go_loopw [7] (λj wr=> ∃a:Nat,a+1<=s.size/\j= .int .i64 a/\(∀b:Nat,1<=b->b<a+1->ji s b=true)/\w=wr) (λj _=>s.size - (intOf j).toNat)
 case atStart=>exact⟨0,by omega,rfl,λb p q=>absurd q (by omega),rfl⟩
 case round=>
  obtain⟨a,B,rfl,t,rfl⟩:=hrel;have g:=ab t;clear t;by_cases C:a+1<s.size
  ·have x:(1:Int)+(a:Int)<(s.size:Int):=by omega
   have c:=yv (d9 s (1+a)) w;rw [<-v.out]at c;rw [j8 (show 1+a<s.size by omega)]at c;cases f:ji s (1+a)with
   |true=>
    rw [f]at c;obtain⟨h,i⟩:=av c f;clear c f
    go_wp2_with (go_at_fn 242;refine h.out.mono ?_;rintro e l ⟨rfl,rfl⟩)
    go_roundw
    case rel=>exact⟨a+1,by omega,by go_num,λb p q=>by
     by_cases e:b=a+1
     ·subst e;rw [Nat.add_comm a 1];exact i.out
     ·exact g.out b p (by omega),by first|rfl|trivial⟩
    case measure=>simp [intOf];omega
   |false=>
    rw [f]at c;obtain⟨h,i⟩:=av c f;clear c f
    go_wp2_with (go_at_fn 242;refine h.out.mono ?_;rintro e l ⟨rfl,rfl⟩)
    go_ret
    exact⟨⟨a,rfl,m.out _ (by omega) (by omega) g.out (.inr (by rw [Nat.add_comm a 1];exact i.out)),by omega⟩,by first|rfl|trivial⟩
  ·have x: ¬(1:Int)+(a:Int)<(s.size:Int):=by omega
   go_wp2_with fail
   go_ret
   exact⟨⟨a,rfl,m.out _ (by omega) (by omega) g.out (.inl (by omega)),by omega⟩,by first|rfl|trivial⟩
end
section
open Go.RowKit
theorem pF (e at_:Int) (a:e≠0) (w:World):Calls prog 243 #[.int .i64 e,.int .i64 at_] w (lI w (.iface 326 (.pointer (some ⟨w.heap.size,0,none⟩)))):=by
 have h:((e:Int)==0)=false:=by simpa using a
 clear a
 go_enter func243,ntmps243
 go_wp2_with fail
 go_ret
 exact⟨rfl,(Below.refl _ w).alloc (Nat.le_refl _) _⟩
def fK (s:ByteArray) (w:World) (e:Ending) (w':World):Prop:=
 Below w.heap.size w w'/\((lD s (dj s)=true/\e= .returned (.tuple #[.int .i64 ((dj s:Int)+1),.nilIface]))\/(lD s (dj s)=false/\ ∃p,e= .returned (.tuple #[.int .i64 0,.iface 326 (.pointer (some p))])))
theorem fK.no {s:ByteArray} {w w':World} {p:Addr} (a:Below w.heap.size w w') (h:lD s (dj s)=false):fK s w (.returned (.tuple #[.int .i64 0,.iface 326 (.pointer (some p))])) w':=⟨a,.inr ⟨h,p,rfl⟩⟩
theorem fK.yes {s:ByteArray} {w w':World} {n:Int} (a:Below w.heap.size w w') (h:lD s (dj s)=true) (b:n=(dj s:Int)+1):fK s w (.returned (.tuple #[.int .i64 n,.nilIface])) w':=⟨a,.inl ⟨h,by rw [b]⟩⟩
theorem yu (s:ByteArray) (z:s.size<=maxLen) (G:0<s.size) (w:World):Calls prog 207 #[.string s,.int .i64 0] w (fK s w):=by
 have A:=Ct s z G w;unfold maxLen at z;have a:lD s (dj s)=(decide (dj s<s.size)&&(decide (d9 s (dj s)=39)&&(decide (dj s≠1)&&decide (dj s<24)))):=rfl;have y: ∀(k:Int),Calls prog 243 #[.int .i64 4,.int .i64 k] w (lI w (.iface 326 (.pointer (some ⟨w.heap.size,0,none⟩)))):=λj=>pF 4 j (by decide) w
 have v: ∀(k:Int),Calls prog 243 #[.int .i64 2,.int .i64 k] w (lI w (.iface 326 (.pointer (some ⟨w.heap.size,0,none⟩)))):=λj=>pF 2 j (by decide) w
 have x: ∀(k:Int),Calls prog 243 #[.int .i64 5,.int .i64 k] w (lI w (.iface 326 (.pointer (some ⟨w.heap.size,0,none⟩)))):=λj=>pF 5 j (by decide) w
 obtain⟨q,d⟩: ∃q,q=dj s:=⟨_,rfl⟩;rw [<-d]at a;obtain⟨E,D,r,C⟩:=aA A y v x;clear A y v x
 go_enter func207,ntmps207
 go_wp2_with fail
 refine E.out.mono ?_;rintro e n ⟨⟨b,rfl,hm,M⟩,rfl⟩;have I:q=b+1:=by omega
 have L:b<9223372036854775807:=by omega
 subst I;by_cases t:b+1<s.size
 ·rw [decide_eq_true t,Bool.true_and]at a;have g:=j8 (show 1+b<s.size by omega);rw [Nat.add_comm b 1]at a;by_cases c:d9 s (1+b)=39
  ·rw [decide_eq_true c,Bool.true_and]at a;have F:((s[1+b].toNat:Int) !=39)=false:=by rw [<-g];simp [c]
   by_cases l:b=0
   ·subst l;obtain⟨h,m,p,o,f⟩:=aX a hm g c d;clear a hm g c d
    go_wp2_with fail
    refine(r.out _).mono ?_;rintro e n ⟨rfl,i⟩
    go_wp2_with fail
    go_ret2
    exact fK.no i (by rw [<-f.out];exact h.out.trans rfl)
   ·have J:(1+(b:Int)==1)=false:=(by simpa using(by omega: ¬(1+(b:Int))=1));rw [decide_eq_true (show 1+b≠1 by omega),Bool.true_and]at a;by_cases u:1+b<24
    ·rw [decide_eq_true u]at a;have H: ¬(24:Int)<=1+(b:Int):=(by omega);obtain⟨h,m,p,o,f,B⟩:=aM a hm g c d l;clear a hm g c d l
     go_wp2_with fail
     go_ret2
     exact fK.yes (Below.refl _ _) (by rw [<-f.out,Nat.add_comm b 1];exact h.out) (by rw [<-f.out];omega)
    ·rw [decide_eq_false u]at a;have H:(24:Int)<=1+(b:Int):=(by omega);obtain⟨h,m,p,o,f,B⟩:=aM a hm g c d l;clear a hm g c d l
     go_wp2_with fail
     refine(C.out _).mono ?_;rintro e n ⟨rfl,i⟩
     go_wp2_with fail
     go_ret2
     exact fK.no i (by rw [<-f.out,Nat.add_comm b 1];exact h.out)
  ·rw [decide_eq_false c,Bool.false_and]at a;have F:((s[1+b].toNat:Int) !=39)=true:=by rw [<-g];simpa using c
   obtain⟨h,m,p,o,f⟩:=aX a hm g c d;clear a hm g c d
   go_wp2_with fail
   refine(r.out _).mono ?_;rintro e n ⟨rfl,i⟩
   go_wp2_with fail
   go_ret2
   exact fK.no i (by rw [<-f.out,Nat.add_comm b 1];exact h.out)
 ·rw [decide_eq_false t,Bool.false_and]at a;have K:(s.size:Int)<=1+(b:Int):=by omega
  obtain⟨h,m,f⟩:=aK a hm d;clear a hm d
  go_wp2_with fail
  refine(D.out _).mono ?_;rintro e n ⟨rfl,i⟩
  go_wp2_with fail
  go_ret2
  exact fK.no i (by rw [<-f.out];exact h.out)
theorem vJ (s:ByteArray) (n:s.size<=maxLen) (w:World):Calls prog 146 #[.string s] w (lI w (.bool (ir s))):=by
 have a:ir s=(decide (0<s.size)&&(decide (d9 s 0=39)&&(lD s (dj s)&&decide (dj s+1=s.size)))):=rfl;have r:(s.toList.isEmpty)=decide (s.size=0):=pV s;have l:=sj s;by_cases j:0<s.size
 ·have k:=yu s n j w;unfold maxLen at n;rw [decide_eq_true j,Bool.true_and]at a;rw [decide_eq_false (by omega)]at r;have A: ¬s.toList=[]:=λe=>by have:=l.1 e;omega
  have g:=j8 j;clear l;by_cases d:d9 s 0=39
  ·rw [decide_eq_true d,Bool.true_and]at a;have y:((s[0].toNat:Int) !=39)=false:=by rw [<-g];simp [d]
   have hi:=λt=>run_eql_held_nil (P:=prog) w 187 326 (.pointer (some t)) underlying187
   have B:=run_eql_nil_nil (P:=prog) w 187 underlying187;obtain⟨i,f⟩: ∃i,i=dj s:=⟨_,rfl⟩;obtain⟨o,v,u⟩:=aK k g d;clear k g d
   go_enter func146,ntmps146
   go_wp2_with fail
   refine o.out.mono ?_;rintro e C ⟨m,⟨c,rfl⟩|⟨c,t,rfl⟩⟩
   ·rw [c,Bool.true_and]at a;rw [<-f]at a⊢;by_cases h:i+1=s.size
    ·have z:((i:Int)+1==(s.size:Int))=true:=(by rw [beq_iff_eq];omega);rw [decide_eq_true h]at a;obtain⟨b,q,p,x⟩:=aA a c f h;clear a c f h
     go_wp2_with fail
     go_ret
     exact⟨af b.out.symm,m⟩
    ·have z:((i:Int)+1==(s.size:Int))=false:=(by rw [beq_eq_false_iff_ne];omega);rw [decide_eq_false h]at a;obtain⟨b,q,p,x⟩:=aA a c f h;clear a c f h
     go_wp2_with fail
     go_ret
     exact⟨af b.out.symm,m⟩
   ·rw [c,Bool.false_and]at a;obtain⟨b,q,p⟩:=aK a c f;clear a c f
    go_wp2_with fail
    go_ret
    exact⟨af b.out.symm,m⟩
  ·rw [decide_eq_false d,Bool.false_and]at a;have y:((s[0].toNat:Int) !=39)=true:=by rw [<-g];simpa using d
   obtain⟨o,v,u,b⟩:=aA k g d a;clear k g d a
   go_enter func146,ntmps146
   go_wp2_with fail
   go_ret
   exact⟨af b.out.symm,Below.refl _ _⟩
 ·rw [decide_eq_false j,Bool.false_and]at a;rw [decide_eq_true (by omega)]at r;have A:s.toList=[]:=l.2 (by omega);have b:=ab a;clear a;clear n l
  go_enter func146,ntmps146
  go_wp2_with fail
  go_ret
  exact⟨af b.out.symm,Below.refl _ _⟩
end
section
open Go.RowKit
end
end
end Go.Proofs.YthlbjgabhpdbfaaGreat

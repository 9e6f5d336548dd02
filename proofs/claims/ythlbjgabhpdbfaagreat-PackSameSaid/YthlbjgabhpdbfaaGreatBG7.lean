/- Forms, names once. -/
import Derived.Test.YthlbjgabhpdbfaaGreatBBitsL
import Derived.Test.YthlbjgabhpdbfaaGreatBC1
import Derived.Test.YthlbjgabhpdbfaaGreatBBits3
import Derived.Lib.AppendZeros
set_option linter.unusedVariables false
set_option maxRecDepth 100000
set_option maxHeartbeats 4000000
namespace Go.Proofs.YthlbjgabhpdbfaaGreat
open Go.Proofs.Tryz
open Bool renaming and_eq_true->Za,or_eq_false_iff->Zb,or_eq_true->Zc
open List renaming length_append->Zd,mem_of_getElem?->Ze,range_succ->Zf
open Nat renaming le_refl->Zg,zero_le->Zh
section
section
open Go.RowKit
theorem enters_plain:Enters prog 145:=enters_of func145 (by kernel_rfl) rfl
theorem BU {w:World}:nU w 145 #[] fr:=λa c b d=>sV c b a
theorem enters_form:Enters prog 144:=enters_of func144 (by kernel_rfl) rfl
theorem DN {w:World}:nU w 144 #[] (λi=>fr i||ir i):=by
 intro c a d l;have g:=sV a d c;have h:=λwr=>vJ a d wr
 show Calls prog 144 #[.string a] c (aI c (.bool (fr a||ir a)));generalize fr a=m at *;generalize ir a=n at *;obtain⟨f,j⟩:=av g h;clear g h;clear l d;cases m with
 |true=>
  go_enter func144,ntmps144
  go_wp2_with fail
  refine f.out.mono ?_;rintro e w2 ⟨rfl,b⟩
  go_wp2_with fail
  go_ret
  exact⟨rfl,b⟩
 |false=>
  go_enter func144,ntmps144
  go_wp2_with fail
  refine f.out.mono ?_;rintro e w2 ⟨rfl,b⟩
  go_wp2_with fail
  refine(j.out _).mono ?_;rintro e w3 ⟨rfl,k⟩
  go_wp2_with fail
  go_ret
  exact⟨af (by cases n<;>rfl),b.trans (k.mono b.size)⟩
def pn (G:ac):Bool:=G.terms.all (λs=>fr s||ir s)&&G.nons.all fr
theorem bj.term {w:World} {F:Nat->Prop} {B:Nat} {A1 A2 A3:Option Addr} {c1 c2 c3 T N R:Nat} {st:Int} {G:ac} (h:bj w F B A1 c1 A2 c2 A3 c3 T N R st G) {k:Nat} (i:k<T): ∃(b a:Nat) (x:ByteArray),A1=some ⟨b,a,none⟩/\b<w.heap.size/\G.terms[k]? =some x/\x.size<=maxLen/\w.cell? ⟨b,a+k,none⟩=some (.string x):=by
 obtain⟨-,-,-,g⟩:=h.gram.terms.at_;obtain⟨b,a,d,e,f⟩:=g (by omega);obtain⟨x,c⟩: ∃x,G.terms[k]? =some x:=⟨_,List.getElem?_eq_getElem (by rw [<-h.t];exact i)⟩;exact⟨b,a,x,d,h.gram.lt b e,c,h.gram.sizes.1 x (Ze c),f k x c⟩
theorem bj.non {w:World} {F:Nat->Prop} {B:Nat} {A1 A2 A3:Option Addr} {c1 c2 c3 T N R:Nat} {st:Int} {G:ac} (h:bj w F B A1 c1 A2 c2 A3 c3 T N R st G) {k:Nat} (i:k<N): ∃(b a:Nat) (x:ByteArray),A2=some ⟨b,a,none⟩/\b<w.heap.size/\G.nons[k]? =some x/\x.size<=maxLen/\w.cell? ⟨b,a+k,none⟩=some (.string x):=by
 obtain⟨-,-,-,g⟩:=h.gram.nons.at_;obtain⟨b,a,d,e,f⟩:=g (by omega);obtain⟨x,c⟩: ∃x,G.nons[k]? =some x:=⟨_,List.getElem?_eq_getElem (by rw [<-h.n];exact i)⟩;exact⟨b,a,x,d,h.gram.lt b e,c,h.gram.sizes.2 x (Ze c),f k x c⟩
end
section
open Go.RowKit
end
section
open Go.RowKit
theorem xI {w:World} {base a:Nat} {e:TypeId} {Z:Array Value} (c:base<=w.heap.size) (d:a<=maxLen) (b:Z.size=a * 1):
  (w.alloc (.cells Z e)).ownsRow base e 1 (.slice (some ⟨w.heap.size,0,none⟩) 0 a) 0 []:=
 ⟨rfl,.inr ⟨w.heap.size,a,Z,rfl,c,heap_alloc_new w _,Zh _,d,b,by simp⟩⟩
theorem DJ (n:Nat) (p:n<=65536) (w:World):Calls prog 244 #[.slice none 0 0,.int .i64 n] w (qw w 9 [] 0):=by
 by_cases e:0<n
 ·obtain⟨r,hi,i,q,g⟩:=info_parts infoStr;have b:=Lib.run_append_nil_zeros (P:=prog) w 22 3 22 9 r (.string ByteArray.empty) .i64 .i64 underlying22 underlying3 hi i n e (by omega) (by omega) (by rw [g];omega);have o:=grownCap_ge w n 0 9;have d:=grownCap_le_maxLen w n 0 9 (by unfold maxLen;omega);generalize grownCap w n 0 9=a at b o d;have c:(Builtin.zeroCells (Value.string ByteArray.empty).cells n++Builtin.zeroCells (Value.string ByteArray.empty).cells (a - n)).size=a * 1:=by simp [size_zeroCells,Value.cells];omega
  generalize (Builtin.zeroCells (Value.string ByteArray.empty).cells n++Builtin.zeroCells (Value.string ByteArray.empty).cells (a - n))=m at b c;have h:=xI (w:=w.drew) (base:=w.heap.size) (e:=9) (Zg _) d c;have f:Below w.heap.size w (w.drew.alloc (.cells m 9)):=((Below.refl _ w).drew).alloc (Zg _) _;unfold maxLen at d;clear c hi i q g;obtain⟨j,l,k⟩:=aK b h f;clear b h f
  go_enter func244,ntmps244
  go_wp2_with (at_builtin;refine Lib.wpList_append_run _ rfl _ _ _ _ rfl _ _ rfl rfl _ _ j.out ?_)
  go_ret
  exact⟨some ⟨w.heap.size,0,none⟩,a,rfl,l.out,k.out⟩
 ·obtain rfl:n=0:=by omega
  clear p e
  go_enter func244,ntmps244
  go_wp2_with fail
  go_ret
  exact⟨none,0,rfl,World.ownsRow_nil _ _ _ _,Below.refl _ _⟩
theorem AH {w:World} {F:Nat->Prop} {K L:Value} {xs k:List ByteArray} {B:Nat} (z:RdS w F K xs) (a:RdS w F L k) (E: ∀S,F S->S<w.heap.size) (A:Blk w B 22 #[K,L]) (Z:xs.length+k.length<=65536):
  Calls prog 208 #[.slice (some ⟨B,0,none⟩) 2 2] w (qw w 9 ((xs++k).map Value.string) (xs.length+k.length)):=by
 have T:w.cell? ⟨B,0,none⟩=some K:=(A.cell 0).trans rfl;have U:w.cell? ⟨B,1,none⟩=some L:=(A.cell 1).trans rfl;have X:=A.lt;obtain⟨M,b,V,rfl,-⟩:=id z;obtain⟨N,d,W,rfl,-⟩:=id a;obtain⟨x,a6,a0,-⟩:=z.at_;obtain⟨y,a7,a1,-⟩:=a.at_;unfold maxLen at a0 a1;rw [<-x,<-y]at Z⊢;have Y:=DJ (b+d) Z w;have ak:(xs.map Value.string).length=b * 1:=by simpa using x.symm
 have al:(k.map Value.string).length=d * 1:=by simpa using y.symm
 have ai: ∀wr,Below w.heap.size w wr->wr.cell? ⟨B,0,none⟩=some (.slice M b V)/\wr.cell? ⟨B,1,none⟩=some (.slice N d W)/\RdS wr F (.slice M b V) xs/\RdS wr F (.slice N d W) k:=λwr h=>⟨(h.cell (p:=⟨B,0,none⟩) X).trans T,(h.cell (p:=⟨B,1,none⟩) X).trans U,z.below h E,a.below h E⟩
 obtain⟨P,an,aS,aT,a4,a5⟩:=aM ai Y ak al x y;clear ai Y ak al x y;clear z a E A
 go_enter func208,ntmps208
 go_wp2_with fail
 go_loopw [3,11] (λn c wr=>((c= .int .i64 0/\n= .int .i64 0)\/(c= .int .i64 1/\n= .int .i64 b)\/(c= .int .i64 2/\n= .int .i64 (b+d:Nat)))/\w=wr) (λ_ c _=>2 - (intOf c).toNat)
 case atStart=>exact⟨.inl ⟨rfl,rfl⟩,rfl⟩
 case round=>
  obtain⟨⟨rfl,rfl⟩|⟨rfl,rfl⟩|⟨rfl,rfl⟩,rfl⟩:=hrel
  ·go_wp2_with fail
   go_roundw
   case rel=>exact⟨.inr (.inl ⟨rfl,rfl⟩),by first|rfl|trivial⟩
   case measure=>simp [intOf]
  ·go_wp2_with fail
   go_roundw
   case rel=>exact⟨.inr (.inr ⟨rfl,by go_num⟩),by first|rfl|trivial⟩
   case measure=>simp [intOf]
  ·clear T U
   go_wp2_with fail
   refine an.out.mono ?_;rintro e w1 ⟨f,g,rfl,ad,a⟩;obtain⟨O,i⟩:=av ad a;clear ad a
   go_wp2_with fail
   go_loopw [6,27] (λn c wr=> ∃(f:Option Addr) (g:Nat),((c= .int .i64 0/\n= .slice f 0 g/\wr.ownsRow w.heap.size 9 1 (.slice f 0 g) 0 [])\/(c= .int .i64 1/\n= .slice f b g/\wr.ownsRow w.heap.size 9 1 (.slice f b g) b (xs.map Value.string))\/(c= .int .i64 2/\n= .slice f (b+d) g/\wr.ownsRow w.heap.size 9 1 (.slice f (b+d) g) (b+d) ((xs++k).map Value.string)))/\Below w.heap.size w wr) (λ_ c _=>2 - (intOf c).toNat)
   case atStart=>exact⟨f,g,.inl ⟨rfl,rfl,O.out⟩,i.out⟩
   case round=>
    clear O i;obtain⟨f,g,⟨rfl,rfl,j⟩|⟨rfl,rfl,j⟩|⟨rfl,rfl,j⟩,a⟩:=hrel
    ·obtain⟨a2,a3,u,v⟩:=P.out wr a;have r:=a.size;obtain⟨l,Q,R,i⟩:=aA j u v a;clear j u v a
     go_wp2_with (at_builtin;refine aJ _ rfl (.tmp 31) (.tmp 32) _ rfl elemStr w.heap.size _ 0 [] rfl l.out F _ _ b rfl aS.out Q.out wN (by unfold maxLen;omega) (by omega) r ?_)
     intro o p w2 t m I;have s:w2.ownsRow w.heap.size 9 1 (.slice o b p) b (xs.map Value.string):=(by simpa using t);have q:=i.out.grown m r (λJ G=>(l.out.lt J G).1);clear t I;obtain⟨D,C,ap⟩:=aK s q m;clear s q m
     go_wp2_with fail
     go_roundw
     case rel=>exact⟨o,p,.inr (.inl ⟨rfl,rfl,D.out⟩),C.out⟩
     case measure=>simp [intOf]
    ·obtain⟨a2,a3,u,v⟩:=P.out wr a;have r:=a.size;obtain⟨l,Q,R,i⟩:=aA j u v a;clear j u v a
     go_wp2_with (at_builtin;refine aJ _ rfl (.tmp 31) (.tmp 32) _ rfl elemStr w.heap.size _ b (xs.map Value.string) rfl l.out F _ _ d rfl aT.out R.out wN (by unfold maxLen;omega) (by omega) r ?_)
     intro o p w2 t m I;have s:w2.ownsRow w.heap.size 9 1 (.slice o (b+d) p) (b+d) ((xs++k).map Value.string):=(by rw [List.map_append];exact t);have q:=i.out.grown m r (λJ G=>(l.out.lt J G).1);clear t I;obtain⟨D,C,ap⟩:=aK s q m;clear s q m
     go_wp2_with fail
     go_roundw
     case rel=>exact⟨o,p,.inr (.inr ⟨rfl,rfl,D.out⟩),C.out⟩
     case measure=>simp [intOf]
    ·have l:=ab j;have i:=ab a;clear j a
     go_wp2_with fail
     go_ret
     exact⟨f,g,rfl,l.out,i.out⟩
end
section
open Go.RowKit
open Go.Maps (Keyed)
theorem keyStr:Keyed prog 9:=Maps.string_keyed underlying9
theorem zeroInt (w:World):(zeroValue 3).run prog w= .ok (.int .i64 0) w:=by kernel_rfl
def lv (s:ByteArray):Lit:= .string s.data.toList
theorem wJ {s t:ByteArray} (h:lv s=lv t):s=t:=by
 unfold lv at h;injection h with h
 exact vj (Array.toList_inj.1 h)
theorem Db (s:ByteArray):WideAt.IsKeyLit (lv s):=by unfold lv;simp [WideAt.IsKeyLit]
def lz:List ByteArray->Nat
 |[]=>0
 |s::r=>if s∈r then lz r else lz r+1
theorem ze: ∀a,lz a<=a.length
 |[]=>Zg _
 |s::r=>by
  have:=ze r;unfold lz
  split<;>simp<;>omega
theorem sZ: ∀a:List ByteArray,lz a=a.length↔a.Nodup
 |[]=>by simp [lz]
 |s::r=>by
  have c:=ze r;have b:=sZ r;unfold lz;rw [List.nodup_cons,List.length_cons];by_cases h:s∈r
  ·rw [if_pos h];constructor
   ·intro e;omega
   ·intro e;exact absurd h e.1
  ·rw [if_neg h,<-b];constructor
   ·intro e;exact⟨h,by omega⟩
   ·intro e;omega
structure iY (D:DataW Unit) (xs:List ByteArray):Prop where
 tidy:Maps.Tidy D
 has: ∀s,Maps.has D (lv s)=true↔s∈xs
 size:Maps.size D=lz xs.reverse
 bound: ∀s c,D.atKey (lv s) (.lit (.int .i64 0))= .lit (.int .i64 c)->0<=c/\c<=xs.length
theorem zI {D:DataW Unit} (h:Maps.Tidy D):Maps.IsMap D:=by obtain⟨a,h,_⟩:=h;exact⟨a,h⟩
theorem iY.empty:iY (.map []) []:=⟨Maps.tidy_empty,λ_=>by simp [Maps.has],rfl,λa b h=>by
 have:(DataW.map []:DataW Unit).atKey (lv a) (.lit (.int .i64 0))= .lit (.int .i64 0):=rfl
 rw [this]at h
 injection h with h
 injection h with _ h
 simp;omega⟩
theorem iY.put {D:DataW Unit} {xs:List ByteArray} (h:iY D xs) {s:ByteArray} {c:Int} (g:D.atKey (lv s) (.lit (.int .i64 0))= .lit (.int .i64 c)):iY (D.put (lv s) (.lit (.int .i64 (c+1)))) (xs++[s]):=by
 have d:=Db s;have hm:=zI h.tidy;refine⟨h.tidy.put d _,λb=> ?_,?_,λb f a=> ?_⟩
 ·by_cases e:b=s
  ·subst e;rw [Maps.has_put_same hm d];simp
  ·rw [Maps.has_put_other (λc=>e (wJ c)),h.has];simp [e]
 ·rw [Maps.size_put h.tidy,h.size,List.reverse_append];show _=(if s∈xs.reverse then lz xs.reverse else lz xs.reverse+1);by_cases e:s∈xs
  ·rw [if_pos ((h.has s).2 e),if_pos (by simpa using e)]
  ·rw [if_neg (λc=>e ((h.has s).1 c)),if_neg (by simpa using e)]
 ·have i:=h.bound s c g;by_cases e:b=s
  ·subst e;rw [Maps.atKey_put_same hm d]at a;injection a with a
   injection a with _ a
   simp;omega
  ·rw [Maps.atKey_put_other (λc=>e (wJ c))]at a;have:=h.bound b f a;simp;omega
theorem dP.touch {w w':World} {F S:Nat->Prop} {b:List Value} {r:Int×List Int} (h:dP w F b r) (d:aa S w w') (c: ∀a,F a-> ¬S a):dP w' F b r:=by
 obtain⟨g,e,f⟩:=h;exact⟨g,e,f.touch d c⟩
theorem bk.touch {w w':World} {F S:Nat->Prop} {g d f:Value} {G:ac} (h:bk w F g d f G) (a:aa S w w') (c: ∀b,F b-> ¬S b):bk w' F g d f G:=
 ⟨h.terms.touch a c,h.nons.touch a c,RdL.touch h.rules a c (λj k _ e=>e.touch a c),λb i=>Nat.lt_of_lt_of_le (h.lt b i) a.size,h.small,h.sizes,h.reach,h.wfs⟩
theorem bj.touch {w w':World} {F S:Nat->Prop} {B:Nat} {A1 A2 A3:Option Addr} {c1 c2 c3 T N R:Nat} {st:Int} {G:ac} (h:bj w F B A1 c1 A2 c2 A3 c3 T N R st G) (b:aa S w w') (d: ∀a,F a-> ¬S a) (c: ¬S B):bj w' F B A1 c1 A2 c2 A3 c3 T N R st G:=
 ⟨h.gram.touch b d,h.blk.touch b c,h.t,h.n,h.r,h.tc,h.nc,h.rc,h.c1m,h.c2m,h.c3m,h.ts,h.ns,h.rs⟩
theorem C9 {G:ac}:(lz (G.terms++G.nons).reverse=(G.terms++G.nons).length)↔(G.terms++G.nons).Nodup:=by
 have:=sZ (G.terms++G.nons).reverse;rw [List.length_reverse]at this;rw [this];exact(List.reverse_perm _).nodup_iff
theorem Cv {w:World} {F:Nat->Prop} {bC bA bB:Value} {G:ac} (h:bk w F bC bA bB G) (st:Int) (cl:G.terms.length+G.nons.length<=65536):
  Calls prog 147 #[GV bC bA bB st] w (aI w (.bool (decide (G.terms++G.nons).Nodup))):=by
 obtain⟨p,r,q,s,E,J,rfl,rfl,rfl,-⟩:=h.slices;have d:=bj.new h st;have K:Below w.heap.size w (w.alloc (.cells #[.slice p G.terms.length r,.slice q G.nons.length s,.slice E G.rules.length J,.int .i64 st] 25)):=(Below.refl _ w).alloc (Zg _) _;obtain⟨w1,x⟩: ∃w1,w1=w.alloc (.cells #[.slice p G.terms.length r,.slice q G.nons.length s,.slice E G.rules.length J,.int .i64 st] 25):=⟨_,rfl⟩;have ak:w1.heap.size=w.heap.size+1:=by rw [x];simp
 rw [<-x]at d K;have bl:(G.terms++G.nons).length=G.terms.length+G.nons.length:=Zd;have bt:ao G=G.terms.length+G.nons.length:=rfl;have i:= @C9 G;have a7:=h.lt;have C: ∀f∈G.terms++G.nons,f.size<=maxLen:=λf o=>by
  rcases List.mem_append.1 o with e|e
  ·exact h.sizes.1 f e
  ·exact h.sizes.2 f e
 generalize hT:G.terms.length=c at *;generalize Y:G.nons.length=b at *;generalize a8:G.rules.length=a2 at *
 -- the map,and the two lists
 obtain⟨w2,y⟩: ∃w2,w2=w1.alloc (.map #[] 0):=⟨_,rfl⟩;have bo:w2.ownsMap prog 9 (plainElem (H:=Unit) prog 3) (w.heap.size+1) 0 (.map []):=by
  rw [y,<-ak];exact World.ownsMap_made w1 prog 9 (plainElem (H:=Unit) prog 3)
 have L:Below w1.heap.size w1 w2:=by rw [y];exact(Below.refl _ w1).alloc (Zg _) _
 have al:w2.heap.size=w.heap.size+2:=by rw [y];simp;omega
 obtain⟨w3,z⟩: ∃w3,w3=w2.alloc (.cells #[.slice p c r,.slice q b s] 22):=⟨_,rfl⟩;have M:Below w2.heap.size w2 w3:=by rw [z];exact(Below.refl _ w2).alloc (Zg _) _
 have B:=(d.below L).below M;have bw:Blk w3 w2.heap.size 22 #[.slice p c r,.slice q b s]:=by rw [z];exact Blk.new w2 _ _
 have bx:w3.ownsMap prog 9 (plainElem (H:=Unit) prog 3) (w.heap.size+1) 0 (.map []):=(aa.of_size M (λ_=>False)).ownsMap bo (λe=>e);have ad:=AH B.gram.terms B.gram.nons B.gram.lt bw (by omega);rw [al,hT,Y]at ad;obtain⟨ap,aS,aT,a0⟩:=d.cells;have bc:Below w.heap.size w w3:=K.trans ((L.trans (M.mono L.size)).mono K.size);have bu:w3.heap.size=w.heap.size+3:=by rw [z];simp;omega
 obtain⟨P,bE,b5,a3,Q,b4,S,b2,ce,cc,cd,bP⟩:=gx ad B bx bc bl bt i C hT Y a8 a7;clear ad B bx bc bl bt i C hT Y a8 a7;clear bw M L bo d K;rw [z,y,x]at P;rw [x]at ap aS aT a0;have ca:= @run_makeMap prog
 go_enter func147,ntmps147
 go_wp2_with fail
 refine P.out.mono ?_;rintro e w4 ⟨a1,a4,rfl,k,t⟩;rw [<-x,<-y,<-z]at k t;have ct:w3.heap.size<=w4.heap.size:=t.size;have bd:=k.lt;have bz:=(aa.of_size t (λ_=>False)).ownsMap b5.out (λe=>e);have a5:=bE.out.below t;have g:RdS w4 (λa=>w.heap.size+2<a) (.slice a1 (c+b) a4) (G.terms++G.nons):=(Rd.of_own k).mono (λa bh=>by have:=(bd a bh).1;omega);have a9:=a3.out.trans (t.mono a3.out.size);have cp:=g.at_.2.1;have cb:=g.at_.2.2.1;unfold maxLen at cb;clear k t bd x y z ca ap aS aT a0 P;obtain⟨ci,cg,ch⟩:=aK bu ak al;clear bu ak al
 go_wp2_with fail
 go_loopw [14] (λan wr=> ∃a:Nat,a<=c+b/\an= .int .i64 a/\(∃j,wr.ownsMap prog 9 (plainElem (H:=Unit) prog 3) (w.heap.size+1) a j/\iY j ((G.terms++G.nons).take a))/\bj wr F w.heap.size p r q s E J c b a2 st G/\RdS wr (λa=>w.heap.size+2<a) (.slice a1 (c+b) a4) (G.terms++G.nons)/\Below w.heap.size w wr) (λan _=>c+b - (intOf an).toNat)
 case atStart=>exact⟨0,Zh _,rfl,⟨_,bz,by rw [List.take_zero];exact iY.empty⟩,a5,g,a9⟩
 case round=>
  clear bz a5 g a9;obtain⟨a,bh,rfl,⟨j,k,n⟩,d,g,m⟩:=hrel;by_cases b9:a<c+b
  ·obtain⟨-,-,-,bg⟩:=g.at_;obtain⟨V,cu,rfl,ck,be⟩:=bg (by omega);obtain⟨f,o⟩: ∃f,(G.terms++G.nons)[a]? =some f:=⟨_,List.getElem?_eq_getElem (by rw [Q.out];exact b9)⟩;have cm:=be a f o;have C:=b2.out f (Ze o);have bi:keyOf prog 9 (.string f)=some (lv f):=Go.WideMaps.keyOf_string_mk underlying9 C;have co:(a:Int)<((c+b:Nat):Int):=by omega
   have bs:(G.terms++G.nons).take (a+1)=(G.terms++G.nons).take a++[f]:=by rw [List.take_add_one,o];rfl
   have cn:((G.terms++G.nons).take a).length<=a:=List.length_take_le _ _;obtain⟨cf,I,O,T,l,b3⟩:=aM o n d g m bs;clear o n d g m bs;clear be bg C;have bb:=I.out.bound f;have bW:=ab bb;clear bb
   go_wp2_with (first|(at_lookup;refine wpList_lookup_own_int _ rfl _ _ 120 rfl 9 3 .i64 keyStr underlying120 underlying3 (zeroInt _) _ _ j rfl k _ _ rfl bi ?_;intro b6 Z cs;obtain⟨u1,u2⟩:=bW.out b6 Z;have bR:=ab Z;clear Z)|(at_mapUpdate;refine wpList_mapUpdate_own _ rfl _ _ _ 120 rfl 9 3 keyStr underlying120 _ (w.heap.size+1) a j rfl k (by unfold maxLen;omega) _ _ _ rfl rfl bi _ [] (plainElem_int underlying3 (WalkArith.wf_i64 (by omega))) ?_;intro w5 bq ai))
   have bp: ∀A,w.heap.size+2<A-> ¬(λa=>a=w.heap.size+1) A:=λA cr e=>by have:A=w.heap.size+1:=e;omega
   have N:aa (λa=>a=w.heap.size+1) wr w5:=(aa.refl _ wr).grown ai (λA e _=>by injection e with e;exact e.symm);have a6:bj w5 F w.heap.size p r q s E J c b a2 st G:=O.out.touch N (λV m e=>by have:=bP.out V m;have:V=w.heap.size+1:=e;omega) (λe=>by have:w.heap.size=w.heap.size+1:=e;omega);have ba:Below w.heap.size w w5:=l.out.grown ai l.out.size (λA e=>by injection e with e;omega);have br:=T.out.touch N bp;have X:=I.out.put bR.out;rw [<-b3.out]at X;obtain⟨cj,bG,b0,bO,bY,bS⟩:=aM N a6 br X bq ba;clear N a6 br X bq ba;clear ai bp
   go_wp2_with fail
   go_roundw
   case rel=>exact⟨a+1,by omega,by go_num,⟨_,bY.out,bO.out⟩,bG.out,b0.out,bS.out⟩
   case measure=>simp [intOf];omega
  ·have b8:a=c+b:=by omega
   subst b8;obtain⟨ap,aS,aT,a0⟩:=d.cells;have v:=n.size;rw [List.take_of_length_le (by rw [Q.out];omega)]at v;have D:=eW d.gram st;have i:=S.out;rw [<-v,Q.out]at i;rw [b4.out]at D;by_cases u:(G.terms++G.nons).Nodup
   ·have b7:((Maps.size j:Int)==(c:Int)+(b:Int))=true:=(by rw [beq_iff_eq];have:=i.2 u;omega);obtain⟨I,O,T,l,S,b1,R,U⟩:=dA n d g m i v u D;clear n d g m i v u D
    go_wp2_with (at_len;refine wpList_len_own _ rfl _ 120 rfl 9 3 underlying120 _ (w.heap.size+1) (c+b) j rfl k ?_)
    refine U.out.mono ?_;rintro e w6 ⟨rfl,W⟩
    go_wp2_with fail
    go_ret
    exact⟨af (decide_eq_true R.out).symm,l.out.trans (W.mono l.out.size)⟩
   ·have b7:((Maps.size j:Int)==(c:Int)+(b:Int))=false:=(by rw [beq_eq_false_iff_ne];intro e;exact u (i.1 (by omega)));obtain⟨I,O,T,l,S,b1,R,U⟩:=dA n d g m i v u D;clear n d g m i v u D
    go_wp2_with (at_len;refine wpList_len_own _ rfl _ 120 rfl 9 3 underlying120 _ (w.heap.size+1) (c+b) j rfl k ?_)
    refine U.out.mono ?_;rintro e w6 ⟨rfl,W⟩
    go_wp2_with fail
    go_ret
    exact⟨af (decide_eq_false R.out).symm,l.out.trans (W.mono l.out.size)⟩
end
end
section
section
open Go.RowKit
def lc (G:ac):List ByteArray:=G.terms++G.nons
def eV (G:ac) (k:Nat):Bool:=(List.range k).all (λi=>decide ((az G ((G.terms.length:Int)+1+i)).length≠0))
def bf (G:ac) (st:Int):Int:=if js G=true then 7 else if pn G=false then 10 else if¬(lc G).Nodup then 8 else if ie G st=false then 1 else if ia G.rules=false then 8 else if eV G G.nons.length=false then 9 else 0
theorem vI (G:ac) (k:Nat):eV G (k+1)=(eV G k&&decide ((az G ((G.terms.length:Int)+1+k)).length≠0)):=by unfold eV;rw [Zf,List.all_append];simp
theorem yt {G:ac} {k n:Nat} (a:k<n) (h:(az G ((G.terms.length:Int)+1+k)).length=0):eV G n=false:=by
 unfold eV;rw [List.all_eq_false];exact⟨k,List.mem_range.2 a,by simp [h]⟩
theorem pD {G:ac} (h:js G=false):G.terms.length<=120/\G.nons.length<=120/\G.rules.length<=300/\jD G=true:=by
 unfold js at h;rw [Zb,Zb,Zb,decide_eq_false_iff_not,decide_eq_false_iff_not,decide_eq_false_iff_not]at h;refine⟨by omega,by omega,by omega,by simpa using h.1⟩
end
section
open Go.RowKit
theorem oQ {w:World} {F:Nat->Prop} {cf cd ce:Value} {G:ac} (h:bk w F cf cd ce G) (st:Int):
  Calls prog 75 #[GV cf cd ce st] w (aI w (.int .i64 (bf G st))):=by
 obtain⟨m,o,n,p,k,l,rfl,rfl,rfl,-⟩:=h.slices;have a:=bj.new h st;have z:Below w.heap.size w (w.alloc (.cells #[.slice m G.terms.length o,.slice n G.nons.length p,.slice k G.rules.length l,.int .i64 st] 25)):=(Below.refl _ w).alloc (Zg _) _;obtain⟨w1,I⟩: ∃w1,w1=w.alloc (.cells #[.slice m G.terms.length o,.slice n G.nons.length p,.slice k G.rules.length l,.int .i64 st] 25):=⟨_,rfl⟩;rw [<-I]at a z;have q:bf G st=if js G=true then 7 else if pn G=false then 10 else if¬(lc G).Nodup then 8 else if ie G st=false then 1 else if ia G.rules=false then 8 else if eV G G.nons.length=false then 9 else 0:=rfl
 have A:js G=(!jD G||(decide (120<G.terms.length)||(decide (120<G.nons.length)||decide (300<G.rules.length)))):=rfl;have r:pn G=(G.terms.all (λx=>fr x||ir x)&&G.nons.all fr):=rfl;have s:ie G st=(am G st&&G.rules.all (λa5=>fk G a5)):=rfl;have an:=vI G;have al: ∀(t b1:Nat),t<b1->(az G ((G.terms.length:Int)+1+t)).length=0->eV G b1=false:=λt b1=>yt
 have Q:ao G=G.terms.length+G.nons.length:=rfl;generalize hT:G.terms.length=b at *;generalize N:G.nons.length=c at *;generalize ai:G.rules.length=g at *;have cM:=a.ts;have cN:=a.tc;have cO:=a.c1m;have cC:=a.ns;have cE:=a.nc;have cG:=a.c2m;have cH:=a.rs;have cI:=a.rc;have cK:=a.c3m;have M: ∀(wr:World),bj wr F w.heap.size m o n p k l b c g st G->Calls prog 142 #[.slice k g l,.func (.func 141) #[] #[]] wr (aI wr (.bool (jD G))):=λwr a=>vy a.gram.rules a.gram.lt enters_short BH
 have S: ∀(wr:World),bj wr F w.heap.size m o n p k l b c g st G->Calls prog 143 #[.slice m b o,.func (.func 144) #[] #[]] wr (aI wr (.bool (G.terms.all (λx=>fr x||ir x)))):=λwr a=>xt a.gram.terms a.gram.lt enters_form DN a.gram.sizes.1
 have T: ∀(wr:World),bj wr F w.heap.size m o n p k l b c g st G->Calls prog 143 #[.slice n c p,.func (.func 145) #[] #[]] wr (aI wr (.bool (G.nons.all fr))):=λwr a=>xt a.gram.nons a.gram.lt enters_plain BU a.gram.sizes.2
 have X: ∀(wr:World),b+c<=65536->bj wr F w.heap.size m o n p k l b c g st G->Calls prog 147 #[GV (.slice m b o) (.slice n c p) (.slice k g l) st] wr (aI wr (.bool (decide (lc G).Nodup))):=λwr D a=>Cv a.gram st (by rw [hT,N];exact D)
 have V: ∀(wr:World),bj wr F w.heap.size m o n p k l b c g st G->Calls prog 148 #[GV (.slice m b o) (.slice n c p) (.slice k g l) st,.int .i64 st] wr (aI wr (.bool (am G st))):=λwr a=>iV a.gram st st
 have U: ∀(wr:World),bj wr F w.heap.size m o n p k l b c g st G->Calls prog 142 #[.slice k g l,.func (.func 149) #[] #[.pointer (some ⟨w.heap.size,0,none⟩)]] wr (aI wr (.bool (G.rules.all (λa5=>fk G a5)))):=λwr a=>vy a.gram.rules a.gram.lt enters_known3 (An a.gram a.blk a.gram.lt)
 have Z: ∀(wr:World),bj wr F w.heap.size m o n p k l b c g st G->Calls prog 151 #[.slice k g l,.func (.func 152) #[] #[]] wr (aI wr (.bool (ia G.rules))):=λwr a=>yx a.gram.rules a.gram.lt
 have Y: ∀(wr:World),bj wr F w.heap.size m o n p k l b c g st G->Calls prog 80 #[GV (.slice m b o) (.slice n c p) (.slice k g l) st] wr (aI wr (.int .i64 ((b+c:Nat):Int))):=λwr a=>by
  have:=eW a.gram st;rw [Q]at this;exact this
 have W: ∀(wr:World) (x:Int),bj wr F w.heap.size m o n p k l b c g st G->Calls prog 153 #[GV (.slice m b o) (.slice n c p) (.slice k g l) st,.int .i64 x] wr (qw wr 3 ((az G x).map I64) (az G x).length):=λwr x a=>yU a.gram st x
 have cB: ∀(cc:Fn) (first b9:Array Value) (w:World),(Instr.makeFunc cc first b9).run prog w= .ok (.func cc first b9) w:=λ_ _ _ _=>rfl
 obtain⟨i,d,f,j⟩:=a.cells;have O:=M w1 a;have bR: ∀(d f:Bool),(d&&f)=false->d=false\/f=false:=λd f h=>by cases d<;>simp_all
 clear h;by_cases ak:120<b\/120<c\/300<g
 ·have P:js G=true:=by
   rw [A];rcases ak with e|e|e
   ·rw [decide_eq_true e];simp
   ·rw [decide_eq_true e];simp
   ·rw [decide_eq_true e];simp
  rw [P]at q;have E:bf G st=7:=by rw [q,if_pos rfl]
  rw [I]at i d f j z;obtain⟨b4,b5,b3,v,b6,u,y,bz,bx,b8,b2,a6,a7,bw⟩:=dh ai hT N q A r s an al Q M S T X;obtain⟨a9,a8,ba,a0,bu,bb,cj,J,ch⟩:=dQ V U Z Y W O P E a;clear ai hT N q A r s an al Q M S T X V U Z Y W O P E a;clear I bR;by_cases cu:120<b
  ·have ca:(120:Int)<(b:Int):=by omega
   clear ak
   go_enter func75,ntmps75
   go_wp2_with fail
   go_ret
   exact⟨au J.out.symm,z⟩
  ·have ca: ¬(120:Int)<(b:Int):=by omega
   by_cases cv:120<c
   ·have cb:(120:Int)<(c:Int):=(by omega);clear ak
    go_enter func75,ntmps75
    go_wp2_with fail
    go_ret
    exact⟨au J.out.symm,z⟩
   ·have cb: ¬(120:Int)<(c:Int):=(by omega);have cw:300<g:=(by omega);have cn:(300:Int)<(g:Int):=(by omega);clear ak
    go_enter func75,ntmps75
    go_wp2_with fail
    go_ret
    exact⟨au J.out.symm,z⟩
 ·have cz:b<=120:=by omega
  have cx:c<=120:=by omega
  have cy:g<=300:=by omega
  have ca: ¬(120:Int)<(b:Int):=by omega
  have cb: ¬(120:Int)<(c:Int):=by omega
  have cn: ¬(300:Int)<(g:Int):=by omega
  rw [decide_eq_false (show¬120<b by omega),decide_eq_false (show¬120<c by omega),decide_eq_false (show¬300<g by omega)]at A;rw [I]at O i d f j;generalize jD G=ct at *;cases ct with
  |false=>
   have E:bf G st=7:=by rw [q,A];rfl
   obtain⟨b4,b5,b3,v,b6,u,y,bz,bx,b8,b2,a6,a7,bw⟩:=dh ai hT N q A r s an al Q M S T X;obtain⟨a9,a8,ba,a0,bu,bb,J,ch⟩:=dA V U Z Y W O E a;clear ai hT N q A r s an al Q M S T X V U Z Y W O E a;clear bR ak
   go_enter func75,ntmps75
   go_wp2_with fail
   refine bb.out.mono ?_;rintro e w2 ⟨rfl,K⟩;rw [<-I]at K;clear I i d f j
   go_wp2_with fail
   go_ret
   exact⟨au J.out.symm,z.trans (K.mono z.size)⟩
  |true=>
   have P:js G=false:=by rw [A];rfl
   rw [P,if_neg (by decide)]at q;obtain⟨b4,b5,b3,v,b6,u,y,bz,bx,b8,b2,a6,a7,bw⟩:=dh ai hT N q A r s an al Q M S T X;obtain⟨a9,a8,ba,a0,bu,bb,cj⟩:=de V U Z Y W O P;clear ai hT N q A r s an al Q M S T X V U Z Y W O P;clear bR ak
   go_enter func75,ntmps75
   go_wp2_with fail
   refine bb.out.mono ?_;rintro e w2 ⟨rfl,K⟩;rw [<-I]at K;clear I i d f j;have bc:=a.below K;have bW:=z.trans (K.mono z.size);clear a z K;obtain⟨i,d,f,j⟩:=bc.cells
   go_wp2_with fail
   refine(a6.out _ bc).mono ?_;rintro e w3 ⟨rfl,bC⟩;have bd:=bc.below bC;have bl:=bW.trans (bC.mono bW.size);clear bc bW bC i d f j;obtain⟨i,d,f,j⟩:=bd.cells;have r:=u.out;clear a6 u;generalize G.terms.all (λx=>fr x||ir x)=B at *;cases B with
   |false=>
    have u:=ab r;clear r
    go_wp2_with fail
    go_ret
    exact⟨au (by rw [v.out,u.out];rfl),bl⟩
   |true=>
    rw [Bool.true_and]at r;have u:=ab r;clear r
    go_wp2_with fail
    refine(a7.out _ bd).mono ?_;rintro e w4 ⟨rfl,bE⟩;have be:=bd.below bE;have bo:=bl.trans (bE.mono bl.size);clear bd bl bE i d f j;obtain⟨i,d,f,j⟩:=be.cells;have r:=u.out;clear a7 u;generalize G.nons.all fr=B at *;cases B with
    |false=>
     have u:=ab r;clear r
     go_wp2_with fail
     go_ret
     exact⟨au (by rw [v.out,u.out];rfl),bo⟩
    |true=>
     have u:=ab r;clear r
     go_wp2_with fail
     refine(bw.out _ (by omega) be).mono ?_;rintro e w5 ⟨rfl,bG⟩;have bg:=be.below bG;have bp:=bo.trans (bG.mono bo.size);clear be bo bG i d f j;obtain⟨i,d,f,j⟩:=bg.cells;by_cases aS:(lc G).Nodup
     ·rw [decide_eq_true aS];have a1:=ab aS;clear aS
      go_wp2_with fail
      refine(a9.out _ bg).mono ?_;rintro e w6 ⟨rfl,bO⟩;have bh:=bg.below bO;have bq:=bp.trans (bO.mono bp.size);clear bg bp bO i d f j;obtain⟨i,d,f,j⟩:=bh.cells;have s:=y.out;clear a9 y;generalize am G st=B at *;cases B with
      |false=>
       have y:=ab s;clear s
       go_wp2_with fail
       go_ret
       exact⟨au (by rw [v.out,u.out,if_neg (by decide),if_neg (λe=>e a1.out),y.out];rfl),bq⟩
      |true=>
       rw [Bool.true_and]at s;have y:=ab s;clear s
       go_wp2_with fail
       refine(a8.out _ bh).mono ?_;rintro e w7 ⟨rfl,bP⟩;have bi:=bh.below bP;have br:=bq.trans (bP.mono bq.size);clear bh bq bP i d f j;obtain⟨i,d,f,j⟩:=bi.cells;have s:=y.out;clear a8 y;generalize G.rules.all (λa5=>fk G a5)=B at *;cases B with
       |false=>
        have y:=ab s;clear s
        go_wp2_with fail
        go_ret
        exact⟨au (by rw [v.out,u.out,if_neg (by decide),if_neg (λe=>e a1.out),y.out];rfl),br⟩
       |true=>
        have y:=ab s;clear s
        go_wp2_with fail
        refine(ba.out _ bi).mono ?_;rintro e w8 ⟨rfl,C⟩;have bS:=bi.below C;have bY:=br.trans (C.mono br.size);clear bi br C i d f j;obtain⟨i,d,f,j⟩:=bS.cells;have q:=v.out;clear ba v;rw [u.out,if_neg (by decide),if_neg (λe=>e a1.out),y.out,if_neg (by decide)]at q;generalize ia G.rules=B at *;cases B with
        |false=>
         have v:=ab q;clear q
         go_wp2_with fail
         go_ret
         exact⟨au (by rw [v.out];rfl),bY⟩
        |true=>
         rw [if_neg (by decide)]at q;have v:=ab q;clear q
         go_wp2_with fail
         clear i d f j
         go_loopw [4] (λb0 wr=> ∃t:Nat,t<=c/\b0= .int .i64 ((b:Int)+1+t)/\eV G t=true/\bj wr F w.heap.size m o n p k l b c g st G/\Below w.heap.size w wr) (λb0 _=>(b+1+c) - (intOf b0).toNat)
         case atStart=>exact⟨0,Zh _,by go_num,rfl,bS,bY⟩
         case round=>
          clear bS bY;obtain⟨t,cA,rfl,R,a,D⟩:=hrel;obtain⟨i,d,f,j⟩:=a.cells;by_cases cr:t<c
          ·have cs:(b:Int)+1+(t:Int)<=((b+c:Nat):Int):=(by omega);have bs:=λwr=>bu.out wr ((b:Int)+1+(t:Int))
           have aT:=bz.out t;have a4:=bx.out t c cr;generalize az G ((b:Int)+1+(t:Int))=bt at *;rw [R,Bool.true_and]at aT;by_cases ap:bt.length=0
           ·have E:=a4 ap;have cp:((bt.length:Int)==0)=true:=(by rw [beq_iff_eq];omega);obtain⟨bA,b7,cl,ci,J,bB⟩:=aM bs aT a4 ap E R;clear bs aT a4 ap E R
            go_wp2_with fail
            refine(a0.out _ a).mono ?_;rintro e w9 ⟨rfl,L⟩;have ad:=a.below L;have a2:=D.trans (L.mono D.size);clear i d f j;obtain⟨i,d,f,j⟩:=ad.cells
            go_wp2_with fail
            refine(bA.out _ ad).mono ?_;rintro e w8 ⟨cg,cm,rfl,a3,C⟩;have ck:=ab a3;clear a3
            go_wp2_with fail
            go_ret
            exact⟨au (by rw [v.out,J.out];rfl),a2.trans (C.mono a2.size)⟩
           ·have cp:((bt.length:Int)==0)=false:=(by rw [beq_eq_false_iff_ne];omega);rw [decide_eq_true (show bt.length≠0 from ap)]at aT;obtain⟨bA,b7,cl,ci,bB⟩:=aX bs aT a4 ap R;clear bs aT a4 ap R
            go_wp2_with fail
            refine(a0.out _ a).mono ?_;rintro e w9 ⟨rfl,L⟩;have ad:=a.below L;have a2:=D.trans (L.mono D.size);clear i d f j;obtain⟨i,d,f,j⟩:=ad.cells
            go_wp2_with fail
            refine(bA.out _ ad).mono ?_;rintro e w8 ⟨cg,cm,rfl,a3,C⟩;have ck:=ab a3;clear a3
            go_wp2_with fail
            go_roundw
            case rel=>exact⟨t+1,by omega,by go_num,b7.out,ad.below C,a2.trans (C.mono a2.size)⟩
            case measure=>simp [intOf];omega
          ·have co:t=c:=(by omega);have cs: ¬(b:Int)+1+(t:Int)<=((b+c:Nat):Int):=(by omega);have bB:=ab R;clear R
           go_wp2_with fail
           refine(a0.out _ a).mono ?_;rintro e w9 ⟨rfl,L⟩
           go_wp2_with fail
           go_ret
           exact⟨au (by rw [v.out,<-co,bB.out];rfl),D.trans (L.mono D.size)⟩
     ·rw [decide_eq_false aS];have a1:=ab aS;clear aS
      go_wp2_with fail
      go_ret
      exact⟨au (by rw [v.out,u.out,if_neg (by decide),if_pos a1.out]),bp⟩
end
end
section
section
open Go.RowKit
def Ef (lo:Nat) (w:World) (e:Ending) (w':World):Prop:= ∃r:Int,(lo:Int)<=r/\e= .returned (.int .i64 r)/\Below w.heap.size w w'
theorem DD {w:World} {F:Nat->Prop} {a1 aT a0:Value} {G:ac} (h:bk w F a1 aT a0 G) (st:Int):
  Calls prog 16 #[GV a1 aT a0 st] w (Ef (G.terms.length+G.nons.length+G.rules.length) w):=by
 obtain⟨a2,a6,a3,a7,a4,a8,rfl,rfl,rfl,-⟩:=h.slices;have l:=bj.new h st;have ad:Below w.heap.size w (w.alloc (.cells #[.slice a2 G.terms.length a6,.slice a3 G.nons.length a7,.slice a4 G.rules.length a8,.int .i64 st] 25)):=(Below.refl _ w).alloc (Zg _) _;generalize hT:G.terms.length=m at *;generalize Y:G.nons.length=i at *;generalize Z:G.rules.length=c at *;have bs:=l.ts;have bt:=l.tc;have bu:=l.c1m;have bd:=l.ns;have be:=l.nc;have bg:=l.c2m;have bp:=l.rs;have bq:=l.rc;have br:=l.c3m;obtain⟨bh,bi,bl,bo⟩:=l.cells;have an:=l.gram.wfs;have al:=l.gram.reach;have aS:=λ(a:Nat) (q:a<m)=>l.term q
 have ak:=λ(a:Nat) (q:a<i)=>l.non q
 have ap:=λ(a:Nat) (q:a<c)=>l.rule q
 clear h;obtain⟨bc,ba,bb,a9,E,N,a5,W,I,t⟩:=fp hT Y Z l an al aS ak ap ad;clear hT Y Z l an al aS ak ap ad
 go_enter func16,ntmps16
 go_wp2_with fail
 go_loop [3,4] (λg f=> ∃(a:Nat) (b:Int),a<=m/\a<=200/\f= .int .i64 a/\g= .int .i64 b/\(m:Int)+i+c<=b/\b<=26388279066621+7036874417762 * (a:Int)) (λ_ f=>m - (intOf f).toNat)
 case atStart=>exact⟨0,_,Zh _,Zh _,rfl,rfl,by omega,by omega⟩
 case round=>
  obtain⟨a,b,q,C,rfl,rfl,z,A⟩:=hrel;by_cases J:a<m/\a<200
  ·obtain⟨o,v⟩:=J;obtain⟨y,D,s,rfl,B,d,u,ai⟩:=a5.out a o;have k:=N.out.1 s (Ze d);have j:(a:Int)<(m:Int):=by omega
   have p:(a:Int)<200:=by omega
   obtain⟨x,X⟩:=av d u;clear d u
   go_wp2_with fail
   go_round
   case rel=>exact⟨a+1,_,by omega,by omega,by go_num,rfl,by omega,by omega⟩
   case measure=>simp [intOf];omega
  ·by_cases o:a<m
   ·have v: ¬a<200:=λe=>J ⟨o,e⟩
    have j:(a:Int)<(m:Int):=(by omega);have p: ¬(a:Int)<200:=(by omega);clear J
    go_wp2_with fail
    go_loop [3,5] (λg f=> ∃(a:Nat) (b:Int),a<=i/\a<=200/\f= .int .i64 a/\g= .int .i64 b/\(m:Int)+i+c<=b/\b<=1433763330619021+7036874417762 * (a:Int)) (λ_ f=>i - (intOf f).toNat)
    case atStart=>exact⟨0,_,Zh _,Zh _,rfl,rfl,by omega,by omega⟩
    case round=>
     obtain⟨a,b,q,C,rfl,rfl,z,A⟩:=hrel;by_cases o:a<i
     ·by_cases v:a<200
      ·obtain⟨y,D,s,rfl,B,d,u,ai⟩:=W.out a o;have k:=N.out.2 s (Ze d);have j:(a:Int)<(i:Int):=(by omega);have p:(a:Int)<200:=(by omega);obtain⟨x,X⟩:=av d u;clear d u
       go_wp2_with fail
       go_round
       case rel=>exact⟨a+1,_,by omega,by omega,by go_num,rfl,by omega,by omega⟩
       case measure=>simp [intOf];omega
      ·have j:(a:Int)<(i:Int):=(by omega);have p: ¬(a:Int)<200:=(by omega)
       go_wp2_with fail
       go_loop [3,6] (λg f=> ∃(a:Nat) (b:Int),a<=c/\a<=400/\f= .int .i64 a/\g= .int .i64 b/\(m:Int)+i+c<=b/\b<=2841138214171421+1954687338269 * (a:Int)) (λ_ f=>c - (intOf f).toNat)
       case atStart=>exact⟨0,_,Zh _,Zh _,rfl,rfl,by omega,by omega⟩
       case round=>
        obtain⟨a,b,q,C,rfl,rfl,z,A⟩:=hrel;by_cases o:a<c
        ·by_cases v:a<400
         ·obtain⟨y,D,V,s,K,g,P,rfl,B,d,Q,R,r,n,T,S⟩:=I.out a o;have k:=(E.out _ (Ze d)).2.1;have U:g<=17592186044416:=(by rw [n];exact k);have j:(a:Int)<(c:Int):=(by omega);have p:(a:Int)<400:=(by omega);obtain⟨x,M,L,O⟩:=aA d r n k;clear d r n k
          go_wp2_with fail
          go_round
          case rel=>exact⟨a+1,_,by omega,by omega,by go_num,rfl,by omega,by omega⟩
          case measure=>simp [intOf];omega
         ·have j:(a:Int)<(c:Int):=(by omega);have p: ¬(a:Int)<400:=(by omega)
          go_wp2_with fail
          go_ret
          exact⟨b,by omega,rfl,t.out⟩
        ·have j: ¬(a:Int)<(c:Int):=(by omega)
         go_wp2_with fail
         go_ret
         exact⟨b,by omega,rfl,t.out⟩
     ·have j: ¬(a:Int)<(i:Int):=(by omega)
      go_wp2_with fail
      go_loop [3,6] (λg f=> ∃(a:Nat) (b:Int),a<=c/\a<=400/\f= .int .i64 a/\g= .int .i64 b/\(m:Int)+i+c<=b/\b<=2841138214171421+1954687338269 * (a:Int)) (λ_ f=>c - (intOf f).toNat)
      case atStart=>exact⟨0,_,Zh _,Zh _,rfl,rfl,by omega,by omega⟩
      case round=>
       obtain⟨a,b,q,C,rfl,rfl,z,A⟩:=hrel;by_cases o:a<c
       ·by_cases v:a<400
        ·obtain⟨y,D,V,s,K,g,P,rfl,B,d,Q,R,r,n,T,S⟩:=I.out a o;have k:=(E.out _ (Ze d)).2.1;have U:g<=17592186044416:=(by rw [n];exact k);have j:(a:Int)<(c:Int):=(by omega);have p:(a:Int)<400:=(by omega);obtain⟨x,M,L,O⟩:=aA d r n k;clear d r n k
         go_wp2_with fail
         go_round
         case rel=>exact⟨a+1,_,by omega,by omega,by go_num,rfl,by omega,by omega⟩
         case measure=>simp [intOf];omega
        ·have j:(a:Int)<(c:Int):=(by omega);have p: ¬(a:Int)<400:=(by omega)
         go_wp2_with fail
         go_ret
         exact⟨b,by omega,rfl,t.out⟩
       ·have j: ¬(a:Int)<(c:Int):=(by omega)
        go_wp2_with fail
        go_ret
        exact⟨b,by omega,rfl,t.out⟩
   ·have j: ¬(a:Int)<(m:Int):=(by omega);clear J
    go_wp2_with fail
    go_loop [3,5] (λg f=> ∃(a:Nat) (b:Int),a<=i/\a<=200/\f= .int .i64 a/\g= .int .i64 b/\(m:Int)+i+c<=b/\b<=1433763330619021+7036874417762 * (a:Int)) (λ_ f=>i - (intOf f).toNat)
    case atStart=>exact⟨0,_,Zh _,Zh _,rfl,rfl,by omega,by omega⟩
    case round=>
     obtain⟨a,b,q,C,rfl,rfl,z,A⟩:=hrel;by_cases o:a<i
     ·by_cases v:a<200
      ·obtain⟨y,D,s,rfl,B,d,u,ai⟩:=W.out a o;have k:=N.out.2 s (Ze d);have j:(a:Int)<(i:Int):=(by omega);have p:(a:Int)<200:=(by omega);obtain⟨x,X⟩:=av d u;clear d u
       go_wp2_with fail
       go_round
       case rel=>exact⟨a+1,_,by omega,by omega,by go_num,rfl,by omega,by omega⟩
       case measure=>simp [intOf];omega
      ·have j:(a:Int)<(i:Int):=(by omega);have p: ¬(a:Int)<200:=(by omega)
       go_wp2_with fail
       go_loop [3,6] (λg f=> ∃(a:Nat) (b:Int),a<=c/\a<=400/\f= .int .i64 a/\g= .int .i64 b/\(m:Int)+i+c<=b/\b<=2841138214171421+1954687338269 * (a:Int)) (λ_ f=>c - (intOf f).toNat)
       case atStart=>exact⟨0,_,Zh _,Zh _,rfl,rfl,by omega,by omega⟩
       case round=>
        obtain⟨a,b,q,C,rfl,rfl,z,A⟩:=hrel;by_cases o:a<c
        ·by_cases v:a<400
         ·obtain⟨y,D,V,s,K,g,P,rfl,B,d,Q,R,r,n,T,S⟩:=I.out a o;have k:=(E.out _ (Ze d)).2.1;have U:g<=17592186044416:=(by rw [n];exact k);have j:(a:Int)<(c:Int):=(by omega);have p:(a:Int)<400:=(by omega);obtain⟨x,M,L,O⟩:=aA d r n k;clear d r n k
          go_wp2_with fail
          go_round
          case rel=>exact⟨a+1,_,by omega,by omega,by go_num,rfl,by omega,by omega⟩
          case measure=>simp [intOf];omega
         ·have j:(a:Int)<(c:Int):=(by omega);have p: ¬(a:Int)<400:=(by omega)
          go_wp2_with fail
          go_ret
          exact⟨b,by omega,rfl,t.out⟩
        ·have j: ¬(a:Int)<(c:Int):=(by omega)
         go_wp2_with fail
         go_ret
         exact⟨b,by omega,rfl,t.out⟩
     ·have j: ¬(a:Int)<(i:Int):=(by omega)
      go_wp2_with fail
      go_loop [3,6] (λg f=> ∃(a:Nat) (b:Int),a<=c/\a<=400/\f= .int .i64 a/\g= .int .i64 b/\(m:Int)+i+c<=b/\b<=2841138214171421+1954687338269 * (a:Int)) (λ_ f=>c - (intOf f).toNat)
      case atStart=>exact⟨0,_,Zh _,Zh _,rfl,rfl,by omega,by omega⟩
      case round=>
       obtain⟨a,b,q,C,rfl,rfl,z,A⟩:=hrel;by_cases o:a<c
       ·by_cases v:a<400
        ·obtain⟨y,D,V,s,K,g,P,rfl,B,d,Q,R,r,n,T,S⟩:=I.out a o;have k:=(E.out _ (Ze d)).2.1;have U:g<=17592186044416:=(by rw [n];exact k);have j:(a:Int)<(c:Int):=(by omega);have p:(a:Int)<400:=(by omega);obtain⟨x,M,L,O⟩:=aA d r n k;clear d r n k
         go_wp2_with fail
         go_round
         case rel=>exact⟨a+1,_,by omega,by omega,by go_num,rfl,by omega,by omega⟩
         case measure=>simp [intOf];omega
        ·have j:(a:Int)<(c:Int):=(by omega);have p: ¬(a:Int)<400:=(by omega)
         go_wp2_with fail
         go_ret
         exact⟨b,by omega,rfl,t.out⟩
       ·have j: ¬(a:Int)<(c:Int):=(by omega)
        go_wp2_with fail
        go_ret
        exact⟨b,by omega,rfl,t.out⟩
end
section
open Go.ChangeShapes Go.WideShapes Go.ChangeAt Go.RowKit Go.Deep
section
variable {H : Type} {enc : TypeId × Value -> H} {w : World} {sp : Nat -> Bool}
theorem ye {t:TypeId} (g:prog.underlying t=some .string):dw enc prog w sp t (λa (s:ByteArray)=>a=[.string s]/\(s.size<=maxLen/\s.size<=140737488351232)):=by
 intro i a j h f;obtain⟨b,c,e,d⟩:=DataW.trod_string g h;refine⟨b,c,d,?_⟩;have:=f b.data.toList.length (by rw [e];simp [DataW.weights]);simpa using this
theorem pS:dw enc prog w sp 22 (λa (xs:List ByteArray)=> ∃c,a=[c]/\RdL w (· <w.heap.size) 1 (λa b=>a=[.string b]/\(b.size<=maxLen/\b.size<=140737488351232)) c xs/\xs.length * 16<=140737488351232):=
 mV underlying22 (by kernel_rfl) (by decide) (by kernel_rfl) (ye underlying9)
theorem yg:dw enc prog w sp 49 (λa (xs:List Int)=> ∃c,a=[c]/\RdL w (· <w.heap.size) 1 (λa b=>a=[.int .i64 b]/\(Lit.int .i64 b).wf=true) c xs/\xs.length * 8<=140737488351232):=
 mV underlying49 (by kernel_rfl) (by decide) (by kernel_rfl) (dw.of (pz underlying3))
theorem yf:dw enc prog w sp 98 (λa (x:Int×List Int)=> ∃b c,a=[b,c]/\([b]=[Value.int .i64 x.1]/\(Lit.int .i64 x.1).wf=true)/\ ∃e,[c]=[e]/\RdL w (· <w.heap.size) 1 (λa d=>a=[.int .i64 d]/\(Lit.int .i64 d).wf=true) e x.2/\x.2.length * 8<=140737488351232):=
 uB underlying98 (by kernel_rfl) (by kernel_rfl) (dw.of (pz underlying3)) yg
theorem xL:dw enc prog w sp 23 (λa (xs:List (Int×List Int))=> ∃b,a=[b]/\RdL w (· <w.heap.size) 2 (λa c=> ∃d e,a=[d,e]/\([d]=[Value.int .i64 c.1]/\(Lit.int .i64 c.1).wf=true)/\ ∃b,[e]=[b]/\RdL w (· <w.heap.size) 1 (λa f=>a=[.int .i64 f]/\(Lit.int .i64 f).wf=true) b c.2/\c.2.length * 8<=140737488351232) b xs/\xs.length * 32<=140737488351232):=
 mV underlying23 (by kernel_rfl) (by decide) (by kernel_rfl) yf
def vB (w:World) (cs:List Value) (G:ac):Prop:= ∃vt vn vr,cs=[vt,vn,vr,.int .i64 G.start]/\bk w (· <w.heap.size) vt vn vr G/\(Lit.int .i64 G.start).wf=true
theorem rY {n:Int} (h:(Lit.int .i64 n).wf=true): -9223372036854775808<=n/\n<=9223372036854775807:=by
 simp [Lit.wf,IntKind.min,IntKind.max,IntKind.signed,IntKind.bits]at h;omega
theorem uM {v:Value} {xs:List ByteArray} (h:RdL w (· <w.heap.size) 1 (λb a=>b=[.string a]/\(a.size<=maxLen/\a.size<=140737488351232)) v xs):RdS w (· <w.heap.size) v xs/\(∀a∈xs,a.size<=maxLen/\a.size<=140737488351232):=by
 obtain⟨c,d⟩:=RdL.parts (E:=λb (a:ByteArray)=>b=[.string a]) (p:=λa=>a.size<=maxLen/\a.size<=140737488351232) h;exact⟨RdL.rd c,d⟩
theorem Dh {v:Value} {xs:List Int} (h:RdL w (· <w.heap.size) 1 (λb a=>b=[.int .i64 a]/\(Lit.int .i64 a).wf=true) v xs):RdI w (· <w.heap.size) v xs/\(∀a∈xs,(Lit.int .i64 a).wf=true):=by
 obtain⟨c,d⟩:=RdL.parts (E:=λb (a:Int)=>b=[.int .i64 a]) (p:=λa=>(Lit.int .i64 a).wf=true) h;exact⟨RdL.rd c,d⟩
theorem RdL.also {X:Type} {F:Nat->Prop} {k:Nat} {E E':List Value->X->Prop} {p:X->Prop} {v:Value} {xs:List X} (h:RdL w F k E v xs) (g: ∀b a,E b a->E' b a/\p a):RdL w F k (λb a=>E' b a/\p a) v xs:=by
 obtain⟨c,e,s,j,hm,q⟩:=h;refine⟨c,e,s,j,hm,λo=> ?_⟩;obtain⟨d,x,f,i,l⟩:=q o;refine⟨d,x,f,i,λu a t=> ?_⟩;obtain⟨b,n,m,r⟩:=l u a t;exact⟨b,n,g b a m,r⟩
theorem yh:dw enc prog w sp 25 (vB w):=by
 intro A p N h F;obtain⟨⟨s,o,u,z⟩,v,x,y,P,rfl,⟨U,e,m,lt⟩,⟨S,f,l,L⟩,⟨T,g,G,M⟩,i,J⟩:=uA underlying25 (by kernel_rfl) (by kernel_rfl) pS pS xL (dw.of (pz underlying3)) A p N h F;injection e with e
 injection f with f
 injection g with g
 injection i with i
 subst e f g i;obtain⟨m,r⟩:=uM m;obtain⟨l,q⟩:=uM l;obtain⟨B,C⟩:=RdL.parts (RdL.also (E':=dP w (· <w.heap.size)) (p:=λd=>((-9223372036854775808<=d.1/\d.1<=9223372036854775807)/\d.2.length<=17592186044416/\ ∀c∈d.2,-9223372036854775808<=c/\c<=9223372036854775807)) G (λp c E=>by
  obtain⟨O,t,rfl,⟨j,w0⟩,R,k,n,Q⟩:=E
  injection j with j
  injection k with k
  subst j k
  obtain⟨n,I⟩:=Dh n
  exact⟨⟨t,rfl,n⟩,rY w0,by omega,λc K=>rY (I c K)⟩))
 exact⟨⟨s,o,u,z⟩,v,x,y,rfl,⟨m,l,B,λo D=>D,⟨by simp only at lt⊢;omega,by simp only at L⊢;omega,by simp only at M⊢;omega⟩,⟨λb a=>(r b a).1,λb a=>(q b a).1⟩,⟨λb a=>(r b a).2,λb a=>(q b a).2⟩,C⟩,J⟩
end
end
section
open Go.RowKit
theorem lU {G:ac} {st:Int} (h:bf G st=0):js G=false/\pn G=true/\(lc G).Nodup/\ie G st=true/\ia G.rules=true/\eV G G.nons.length=true:=by
 unfold bf at h;by_cases a:js G=true
 ·rw [if_pos a]at h;omega
 rw [if_neg a]at h;by_cases b:pn G=false
 ·rw [if_pos b]at h;omega
 rw [if_neg b]at h;by_cases c: ¬(lc G).Nodup
 ·rw [if_pos c]at h;omega
 rw [if_neg c]at h;by_cases d:ie G st=false
 ·rw [if_pos d]at h;omega
 rw [if_neg d]at h;by_cases e:ia G.rules=false
 ·rw [if_pos e]at h;omega
 rw [if_neg e]at h;by_cases f:eV G G.nons.length=false
 ·rw [if_pos f]at h;omega
 exact⟨by simpa using a,by simpa using b,by simpa using c,by simpa using d,by simpa using e,by simpa using f⟩
end
end
noncomputable def toB (P:Prop):Bool:= @decide P (Classical.propDecidable P)
theorem ek {P:Prop}:toB P=true↔P:=by unfold toB;exact @decide_eq_true_iff P (Classical.propDecidable P)
theorem wh {P:Prop} {b:Bool} (h:b=true↔P):toB P=b:=by
 rw [Bool.eq_iff_iff,ek];exact h.symm
theorem kV {G:ac} {x:Int}:am G x=true↔(G.terms.length:Int)<x/\x<=G.terms.length+G.nons.length:=by
 rw [gn]
structure Kn (G:ac) (st:Int):Prop where
 t:G.terms.length<=120
 n:G.nons.length<=120
 r:G.rules.length<=300
 st:am G st=true
 k: ∀r∈G.rules,am G r.1=true/\ ∀x∈r.2,1<=x/\x<=(G.terms.length:Int)+G.nons.length
theorem Kn.of_check {G:ac} {st:Int} (h:bf G st=0):Kn G st:=by
 obtain⟨hm,-,-,a,-,-⟩:=lU h;obtain⟨b,c,d,-⟩:=pD hm;unfold ie at a;rw [Za,List.all_eq_true]at a;refine⟨b,c,d,a.1,λg e=> ?_⟩;have:=a.2 g e;unfold fk at this;rw [Za,List.all_eq_true]at this;refine⟨this.1,λi f=> ?_⟩;have h:=this.2 i f;rw [Zc,Aw,gn]at h;omega
theorem yY {p q:Nat->Bool} (n:Nat) (h: ∀b,q b=true->p b=true):((List.range n).filter q).length<=((List.range n).filter p).length:=by
 induction n with
 |zero=>simp
 |succ n c=>
  rw [Zf,List.filter_append,List.filter_append,Zd,Zd];have:([n].filter q).length<=([n].filter p).length:=by
   cases a:q n with
   |false=>simp [a]
   |true=>simp [a,h n a]
  omega
theorem yX {p q:Nat->Bool} (n:Nat) (h: ∀b,q b=true->p b=true) {i:Nat} (hi:i<n) (c:p i=true) (a:q i=false):((List.range n).filter q).length<((List.range n).filter p).length:=by
 induction n with
 |zero=>omega
 |succ n d=>
  rw [Zf,List.filter_append,List.filter_append,Zd,Zd];by_cases e:i=n
  ·subst e;have:=yY i h;simp [c,a];omega
  ·have:=d (by omega);have f:([n].filter q).length<=([n].filter p).length:=by
    cases a:q n with
    |false=>simp [a]
    |true=>simp [a,h n a]
   omega
def eI (f:Nat->Bool) (n:Nat):Nat:=((List.range n).filter (λj=> !f j)).length
theorem Br {f:Nat->Bool} {n:Nat} {i:Int} (h:eK n f i=true):eI (cJ n f i) n<eI f n:=by
 unfold eK at h;simp only [Za,decide_eq_true_eq,Bool.not_eq_true']at h;obtain⟨⟨b,c⟩,d⟩:=h;refine yX n (λe a=> ?_) (i:=i.toNat) (by omega) (by simp [d]) ?_
 ·unfold cJ at a;simp only [Bool.not_eq_true',Zb]at a;simp [a.1]
 ·unfold cJ;simp only [Bool.not_eq_false',Zc,Za,decide_eq_true_eq];exact .inr ⟨⟨b,c⟩,by omega⟩
theorem sC {n:Nat} {f:Nat->Bool} {i:Int} (s:Int):aF n (cJ n f i) s=(aF n f s||(decide (0<=i)&&decide (i<n)&&decide (s=i))):=by
 unfold aF cJ;by_cases a:0<=s
 ·by_cases b:s<n
  ·have e:((s.toNat:Nat):Int)=s:=by omega
   simp [a,b,e]
  ·by_cases e:s=i
   ·subst e;simp [a,b]
   ·simp [a,b,e]
 ·by_cases e:s=i
  ·subst e;simp [a]
  ·simp [a,e]
end Go.Proofs.YthlbjgabhpdbfaaGreat

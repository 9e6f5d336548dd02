/- Tables as bytes, in plain words: numbers written, read; there and back; what is cut off. -/
import Derived.Test.YtlpipniclimgeaaGreatDItem8
import Derived.Test.YtlpipniclimgeaaGreatDBase
namespace Go.Proofs.YtlpipniclimgeaaGreat
set_option linter.unusedVariables false
set_option linter.unusedSimpArgs false
def twoB (n:Int):List Int:=[n/256%256,n%256]
def encB (ns:List Int):List Int:=ns.flatMap twoB
def rowsN (l:List (List Int)):List Int:=(l.length:Int)::l.flatten
def ruleN (r:Int×List Int):List Int:=r.1::(r.2.length:Int)::r.2
def numsP (p:PackD):List Int:=p.terms::p.nons::(p.rules.length:Int)::(p.rules.flatMap ruleN++((p.row.length:Int)::(p.row++(rowsN p.rows++(p.gow++rowsN p.gows)))))
def okN (ns:List Int):Bool:=ns.all fun n=>decide (0<=n)&&decide (n<=65535)
def headB:List Int:=[76,84,49]
def bytesP (p:PackD):List Int:=if(rightP p&&okN (numsP p))=true then headB++encB (numsP p)else []
theorem okN_iff {ns:List Int}:okN ns=true↔ ∀n∈ns,0<=n/\n<=65535:=by
 unfold okN
 simp [List.all_eq_true]
theorem encB_cons (n:Int) (l:List Int):encB (n::l)=twoB n++encB l:=rfl
theorem encB_app (a b:List Int):encB (a++b)=encB a++encB b:=List.flatMap_append
theorem encB_len (l:List Int):(encB l).length=2 * l.length:=by
 induction l with
 |nil=>rfl
 |cons n l ih=>rw [encB_cons,List.length_append,ih];show 2+_=_;simp;omega
abbrev Rds:=List Int×Bool
def numD (s:Rds):Int×Rds:=match s.1 with
 |a::b::r=>(256 * a+b,(r,s.2))
 |l=>(0,(l,true))
def lineD {X:Type} (f:Rds->X×Rds):Nat->Rds->List X×Rds
 |0,s=>([],s)
 |n+1,s=>if s.2=true then([],s)else((f s).1::(lineD f n (f s).2).1,(lineD f n (f s).2).2)
def ruleD (s:Rds):(Int×List Int)×Rds:=
 let a:=numD s
 let b:=numD a.2
 let c:=lineD numD b.1.toNat b.2
 ((a.1,c.1),c.2)
def rowsD (wide:Nat) (s:Rds):List (List Int)×Rds:=
 let a:=numD s
 lineD (lineD numD wide) a.1.toNat a.2
def bodyD (s:Rds):PackD×Rds:=
 let t:=numD s
 let n:=numD t.2
 let k:=numD n.2
 let rs:=lineD ruleD k.1.toNat k.2
 let m:=numD rs.2
 let row:=lineD numD m.1.toNat m.2
 let rows:=rowsD (t.1+1).toNat row.2
 let gow:=lineD numD m.1.toNat rows.2
 let gows:=rowsD n.1.toNat gow.2
 (⟨rs.1,t.1,n.1,row.1,rows.1,gow.1,gows.1⟩,gows.2)
def ofD (b:List Int):PackD×Int:=
 if b.take 3=headB.take b.length then
  if b.length<3 then(noPack,4)
  else
   let x:=bodyD (b.drop 3,false)
   if x.2.2=true then(noPack,4)else if(decide (x.2.1=[])&&rightP x.1)=true then(x.1,0)else(noPack,10)
 else(noPack,10)
def Bytes (s:List Int):Prop:= ∀x∈s,0<=x/\x<256
structure Reads {X:Type} (f:Rds->X×Rds) (E:X->List Int->Prop):Prop where
 stays: ∀s,(f (s,true)).2.2=true
 inv: ∀s x r,Bytes s->f (s,false)=(x,(r,false))-> ∃ns,E x ns/\s=encB ns++r/\okN ns=true
 ext: ∀s x r e,f (s,false)=(x,(r,false))->f (s++e,false)=(x,(r++e,false))
theorem Bytes.tail {a b:List Int} (h:Bytes (a++b)):Bytes b:=fun x hx=>h x (by simp [hx])
theorem okN_app {a b:List Int}:okN (a++b)=true↔okN a=true/\okN b=true:=by unfold okN;rw [List.all_append,Bool.and_eq_true]
theorem Reads.pure {X:Type} (y:X):Reads (fun s=>(y,s)) (fun z ns=>z=y/\ns=[]):=
 ⟨fun s=>rfl,fun s x r _ h=>by
  injection h with h1 h2
  injection h2 with h2 _
  subst h1 h2
  exact⟨[],⟨rfl,rfl⟩,rfl,rfl⟩,fun s x r e h=>by
  injection h with h1 h2
  injection h2 with h2 _
  subst h1 h2
  rfl⟩
theorem Reads.bind {X Y:Type} {f:Rds->X×Rds} {g:X->Rds->Y×Rds} {E:X->List Int->Prop} {G:X->Y->List Int->Prop} (hf:Reads f E) (hg: ∀x,Reads (g x) (G x)):Reads (fun s=>g (f s).1 (f s).2) (fun y ns=> ∃x a b,E x a/\G x y b/\ns=a++b):=by
 have key: ∀{s y r},g (f (s,false)).1 (f (s,false)).2=(y,(r,false))-> ∃r1,f (s,false)=((f (s,false)).1,(r1,false))/\g (f (s,false)).1 (r1,false)=(y,(r,false)):=fun{s y r} h=>by
  obtain⟨x,r1,t,e⟩: ∃x r1 t,f (s,false)=(x,(r1,t)):=⟨_,_,_,rfl⟩
  rw [e]at h⊢
  cases t with
  |true=>
   have:=(hg x).stays r1
   simp only at h
   rw [h]at this
   cases this
  |false=>exact⟨r1,rfl,h⟩
 refine⟨fun s=> ?_,fun s y r hb h=> ?_,fun s y r e h=> ?_⟩
 ·have h:=hf.stays s
  obtain⟨x,r,t,e⟩: ∃x r t,f (s,true)=(x,(r,t)):=⟨_,_,_,rfl⟩
  rw [e]at h⊢
  have h:t=true:=h
  subst h
  exact(hg x).stays r
 ·obtain⟨r1,h1,h2⟩:=key h
  obtain⟨a,p1,p2,p3⟩:=hf.inv s _ r1 hb h1
  obtain⟨b,q1,q2,q3⟩:=(hg _).inv r1 y r (by rw [p2]at hb;exact hb.tail) h2
  exact⟨a++b,⟨_,a,b,p1,q1,rfl⟩,by rw [encB_app,List.append_assoc,<-q2,<-p2],okN_app.2 ⟨p3,q3⟩⟩
 ·obtain⟨r1,h1,h2⟩:=key h
  show g (f (s++e,false)).1 (f (s++e,false)).2=_
  rw [hf.ext s _ r1 e h1]
  exact(hg _).ext r1 y r e h2
theorem Reads.imp {X:Type} {f:Rds->X×Rds} {E E':X->List Int->Prop} (h:Reads f E) (hE: ∀x ns,okN ns=true->E x ns->E' x ns):Reads f E':=
 ⟨h.stays,fun s x r hb e=>by
  obtain⟨ns,h1,h2,h3⟩:=h.inv s x r hb e
  exact⟨ns,hE x ns h3 h1,h2,h3⟩,h.ext⟩
theorem reads_num:Reads numD (fun n ns=>ns=[n]):=by
 refine⟨fun s=> ?_,fun s x r hb h=> ?_,fun s x r e h=> ?_⟩
 ·match s with
  |[]=>rfl
  |[a]=>rfl
  |a::b::r=>rfl
 ·match s,h with
  |[],h=>cases h
  |[a],h=>cases h
  |a::b::s,h=>
   injection h with h1 h2
   injection h2 with h2 h3
   have ha:=hb a (by simp)
   have hb':=hb b (by simp)
   subst h1 h2
   refine⟨_,rfl,?_,by rw [okN_iff];intro n hn;simp at hn;omega⟩
   show a::b::s=(twoB (256 * a+b)++[])++s
   unfold twoB
   rw [show(256 * a+b)/256%256=a by omega,show(256 * a+b)%256=b by omega]
   rfl
 ·match s,h with
  |[],h=>cases h
  |[a],h=>cases h
  |a::b::s,h=>
   injection h with h1 h2
   injection h2 with h2 h3
   subst h1 h2
   rfl
theorem line_stop {X:Type} (f:Rds->X×Rds) (n:Nat) (s:List Int):lineD f n (s,true)=([],(s,true)):=by
 cases n with
 |zero=>rfl
 |succ n=>show(if true=true then _ else _)=_;rw [if_pos rfl]
theorem line_go {X:Type} (f:Rds->X×Rds) (n:Nat) (s:List Int):lineD f (n+1) (s,false)=((f (s,false)).1::(lineD f n (f (s,false)).2).1,(lineD f n (f (s,false)).2).2):=by
 show(if false=true then _ else _)=_
 rw [if_neg (by decide)]
theorem reads_line {X:Type} {f:Rds->X×Rds} {enc:X->List Int} (h:Reads f (fun x ns=>ns=enc x)): ∀n,Reads (lineD f n) (fun l ns=>l.length=n/\ns=l.flatMap enc)
 |0=>(Reads.pure []).imp fun x ns _ e=>by obtain⟨rfl,rfl⟩:=e;exact⟨rfl,rfl⟩
 |n+1=>by
  have hb:=h.bind (g:=fun x s=>(x::(lineD f n s).1,(lineD f n s).2)) (G:=fun x y ns=> ∃l,y=x::l/\l.length=n/\ns=l.flatMap enc) fun x=>by
   have:=(reads_line h n).bind (g:=fun l s=>(x::l,s)) (fun l=>Reads.pure (x::l))
   refine Reads.imp this fun y ns _ e=> ?_
   obtain⟨l,a,b,⟨e1,e2⟩,⟨e3,e4⟩,e5⟩:=e
   exact⟨l,e3,e1,by rw [e5,e4,e2,List.append_nil]⟩
  have hE: ∀x ns,okN ns=true->(∃x' a b,a=enc x'/\(∃l,x=x'::l/\l.length=n/\b=l.flatMap enc)/\ns=a++b)->x.length=n+1/\ns=x.flatMap enc:=fun x ns _ e=>by
   obtain⟨x',a,b,rfl,⟨l,rfl,e1,rfl⟩,rfl⟩:=e
   exact⟨by simp [e1],rfl⟩
  refine⟨fun s=>by rw [line_stop],fun s x r hb' e=> ?_,fun s x r e' e=> ?_⟩
  ·rw [line_go]at e
   obtain⟨ns,h1,h2,h3⟩:=hb.inv s x r hb' e
   exact⟨ns,hE x ns h3 h1,h2,h3⟩
  ·rw [line_go]at e⊢
   exact hb.ext s x r e' e
theorem flatMap_one (l:List Int):l.flatMap (fun n=>[n])=l:=by induction l<;>simp_all
theorem reads_nums (n:Nat):Reads (lineD numD n) (fun l ns=>l.length=n/\ns=l):=
 (reads_line (enc:=fun n=>[n]) reads_num n).imp fun x ns _ e=>by rw [flatMap_one]at e;exact e
theorem reads_rule:Reads ruleD (fun r ns=>ns=ruleN r):=by
 have h:=reads_num.bind (g:=fun l s=>(fun s=>(fun(n:Int) s=>(fun s=>(fun(xs:List Int) s=>((l,xs),s)) (lineD numD n.toNat s).1 (lineD numD n.toNat s).2) s) (numD s).1 (numD s).2) s) fun l=>reads_num.bind fun n=>(reads_nums n.toNat).bind fun xs=>Reads.pure (l,xs)
 refine Reads.imp (f:=ruleD) h fun x ns ho e=> ?_
 obtain⟨l,a,b,rfl,⟨n,a',b',rfl,⟨xs,a2,b2,⟨e1,rfl⟩,⟨rfl,rfl⟩,rfl⟩,rfl⟩,rfl⟩:=e
 have hn:0<=n:=(okN_iff.1 ho n (by simp)).1
 unfold ruleN
 simp only
 rw [e1,Int.toNat_of_nonneg hn]
 simp
theorem reads_rows (w:Nat):Reads (rowsD w) (fun l ns=>ns=rowsN l/\ ∀r∈l,r.length=w):=by
 have hl: ∀n,Reads (lineD (lineD numD w) n) (fun l ns=>l.length=n/\ns=l.flatten/\ ∀r∈l,r.length=w):=fun n=>by
  induction n with
  |zero=>exact(Reads.pure []).imp fun x ns _ e=>by obtain⟨rfl,rfl⟩:=e;exact⟨rfl,rfl,fun r h=>(by cases h)⟩
  |succ n ih=>
   have hb:=(reads_nums w).bind (g:=fun x s=>(x::(lineD (lineD numD w) n s).1,(lineD (lineD numD w) n s).2)) (G:=fun x y ns=> ∃l,y=x::l/\l.length=n/\ns=l.flatten/\ ∀r∈l,r.length=w) fun x=>by
    have:=ih.bind (g:=fun l s=>(x::l,s)) (fun l=>Reads.pure (x::l))
    refine Reads.imp this fun y ns _ e=> ?_
    obtain⟨l,a,b,⟨e1,e2,e6⟩,⟨e3,e4⟩,e5⟩:=e
    exact⟨l,e3,e1,by rw [e5,e4,e2,List.append_nil],e6⟩
   have hE: ∀x ns,okN ns=true->(∃x' a b,(x'.length=w/\a=x')/\(∃l,x=x'::l/\l.length=n/\b=l.flatten/\ ∀r∈l,r.length=w)/\ns=a++b)->x.length=n+1/\ns=x.flatten/\ ∀r∈x,r.length=w:=fun x ns _ e=>by
    obtain⟨x',a,b,⟨e0,rfl⟩,⟨l,rfl,e1,rfl,e2⟩,rfl⟩:=e
    refine⟨by simp [e1],rfl,fun r hr=> ?_⟩
    rcases List.mem_cons.1 hr with hr|hr
    ·rw [hr];exact e0
    ·exact e2 r hr
   refine⟨fun s=>by rw [line_stop],fun s x r hb' e=> ?_,fun s x r e' e=> ?_⟩
   ·rw [line_go]at e
    obtain⟨ns,h1,h2,h3⟩:=hb.inv s x r hb' e
    exact⟨ns,hE x ns h3 h1,h2,h3⟩
   ·rw [line_go]at e⊢
    exact hb.ext s x r e' e
 have h:=reads_num.bind (g:=fun(n:Int) s=>lineD (lineD numD w) n.toNat s) fun n=>hl n.toNat
 refine Reads.imp (f:=rowsD w) h fun x ns ho e=> ?_
 obtain⟨n,a,b,rfl,⟨e1,rfl,e2⟩,rfl⟩:=e
 have hn:0<=n:=(okN_iff.1 ho n (by simp)).1
 refine⟨?_,e2⟩
 unfold rowsN
 rw [e1,Int.toNat_of_nonneg hn]
 rfl
def BodyE (p:PackD) (ns:List Int):Prop:=ns=numsP p/\p.gow.length=p.row.length/\(∀r∈p.rows,r.length=(p.terms+1).toNat)/\ ∀r∈p.gows,r.length=p.nons.toNat
theorem reads_body:Reads bodyD BodyE:=by
 have h:=reads_num.bind fun t=>reads_num.bind fun n=>reads_num.bind fun k=>(reads_line reads_rule k.toNat).bind fun rs=>reads_num.bind fun m=>(reads_nums m.toNat).bind fun row=>(reads_rows (t+1).toNat).bind fun rows=>(reads_nums m.toNat).bind fun gow=>(reads_rows n.toNat).bind fun gows=>Reads.pure (⟨rs,t,n,row,rows,gow,gows⟩:PackD)
 refine Reads.imp (f:=bodyD) h fun x ns ho e=> ?_
 obtain⟨t,a1,b1,rfl,⟨n,a2,b2,rfl,⟨k,a3,b3,rfl,⟨rs,a4,b4,⟨e1,rfl⟩,⟨m,a5,b5,rfl,⟨row,a6,b6,⟨e2,rfl⟩,⟨rows,a7,b7,⟨rfl,e3⟩,⟨gow,a8,b8,⟨e4,rfl⟩,⟨gows,a9,b9,⟨rfl,e5⟩,⟨rfl,rfl⟩,rfl⟩,rfl⟩,rfl⟩,rfl⟩,rfl⟩,rfl⟩,rfl⟩,rfl⟩,rfl⟩:=e
 have hk:0<=k:=(okN_iff.1 ho k (by simp)).1
 have hm:0<=m:=(okN_iff.1 ho m (by simp)).1
 refine⟨?_,by simp only;omega,e3,e5⟩
 unfold numsP
 simp only
 rw [e1,e2,Int.toNat_of_nonneg hk,Int.toNat_of_nonneg hm]
 simp
theorem right_wide {p:PackD} (h:rightP p=true):p.gow.length=p.row.length/\(∀r∈p.rows,r.length=(p.terms+1).toNat)/\ ∀r∈p.gows,r.length=p.nons.toNat:=by
 unfold rightP at h
 simp only [Bool.and_eq_true]at h
 obtain⟨h1,h2,h3⟩:=h
 unfold rowsP at h1
 unfold sameP at h3
 simp only [Bool.and_eq_true,decide_eq_true_eq]at h1 h3
 obtain⟨-,-,e1,e2⟩:=h3
 have hr:=(fit_parts h2).1
 obtain⟨-,q1,q2⟩:=right_len hr
 refine⟨h1.1.symm,fun r hm=> ?_,fun r hm=> ?_⟩
 ·rw [e1]at hm
  have:=(packU_ok (numsA (openT p))).mem r hm
  unfold numsA at this
  obtain⟨x,hx,rfl⟩:=List.mem_map.1 this
  obtain⟨i,hi⟩:=List.mem_iff_getElem?.1 hx
  obtain⟨y,-,hy⟩:=all_acts hr hi
  obtain⟨-,z,-⟩:=row_parts hy
  have e:(openT p).terms=p.terms:=rfl
  rw [e]at z q1
  rw [List.length_map]
  omega
 ·rw [e2]at hm
  have:=(packU_ok (numsG (openT p))).mem r hm
  unfold numsG at this
  obtain⟨x,hx,rfl⟩:=List.mem_map.1 this
  obtain⟨i,hi⟩:=List.mem_iff_getElem?.1 hx
  obtain⟨y,-,hy⟩:=all_goto hr hi
  obtain⟨-,-,z,-⟩:=row_parts hy
  have e:(openT p).nons=p.nons:=rfl
  rw [e]at z
  rw [List.length_map]
  omega
theorem bytes_of {b:List Int} {p:PackD} (hb:Bytes b) (h:ofD b=(p,0)):bytesP p=b/\rightP p=true/\okN (numsP p)=true:=by
 unfold ofD at h
 split at h
 ·rename_i h0
  split at h
  ·injection h with _ h;omega
  ·rename_i h1
   simp only at h
   obtain⟨x,r,t,e⟩: ∃x r t,bodyD (b.drop 3,false)=(x,(r,t)):=⟨_,_,_,rfl⟩
   rw [e]at h
   simp only at h
   cases t with
   |true=>rw [if_pos rfl]at h;injection h with _ h;omega
   |false=>
    rw [if_neg (by decide)]at h
    split at h
    ·rename_i h2
     injection h with h3 _
     subst h3
     simp only [Bool.and_eq_true,decide_eq_true_eq]at h2
     obtain⟨rfl,hr⟩:=h2
     obtain⟨ns,⟨rfl,-⟩,g2,g3⟩:=reads_body.inv _ _ _ (fun y hy=>hb y (List.mem_of_mem_drop hy)) e
     refine⟨?_,hr,g3⟩
     unfold bytesP
     rw [if_pos (by rw [hr,g3];rfl)]
     rw [List.append_nil]at g2
     rw [<-g2]
     have h4:b.take 3=headB:=by
      rw [h0,List.take_of_length_le]
      show 3<=_
      omega
     rw [<-h4,List.take_append_drop]
    ·injection h with _ h;omega
 ·injection h with _ h;omega
open Go.RowKit
theorem wrap_u16 {x:Int} (h0:0<=x) (h1:x<65536):IntKind.u16.wrap x=x:=by
 simp [IntKind.wrap,IntKind.bits,IntKind.signed]
 omega
theorem ofInt_u16 {a:Nat} (ha:a<65536):(BitVec.ofInt 16 (a:Int)).toNat=a:=by
 rw [BitVec.ofInt_natCast,BitVec.toNat_ofNat];exact Nat.mod_eq_of_lt (by omega)
theorem u16_or {k n:Int} (hk:0<=k) (hk3:k<=3) (hn:0<=n) (hn2:n<16384):bits .or .u16 (k * 16384) n=k * 16384+n:=by
 obtain⟨k,rfl⟩:=Int.eq_ofNat_of_zero_le hk
 obtain⟨n,rfl⟩:=Int.eq_ofNat_of_zero_le hn
 show IntKind.u16.wrap ((BitVec.ofInt 16 ((k:Int) * 16384)|||BitVec.ofInt 16 (n:Int)).toNat:Int)=_
 rw [show((k:Int) * 16384)=(((k * 16384:Nat)):Int) by omega]
 rw [BitVec.toNat_or,ofInt_u16 (by omega),ofInt_u16 (by omega)]
 have:=Nat.two_pow_add_eq_or_of_lt (i:=14) (b:=n) (by omega) k
 rw [show k * 16384=2^14 * k by omega,<-this,wrap_u16 (by omega) (by omega)]
 omega
theorem u16_and {n:Int} (hn:0<=n) (hn2:n<65536):bits .and .u16 n 16383=n%16384:=by
 obtain⟨n,rfl⟩:=Int.eq_ofNat_of_zero_le hn
 show IntKind.u16.wrap ((BitVec.ofInt 16 (n:Int)&&&BitVec.ofInt 16 (16383:Int)).toNat:Int)=_
 have h:(BitVec.ofInt 16 (16383:Int)).toNat=2^14 - 1:=by decide
 rw [BitVec.toNat_and,ofInt_u16 (by omega),h,Nat.and_two_pow_sub_one_eq_mod]
 rw [wrap_u16 (by omega) (by omega)]
 omega
theorem pack_code (k n:Int) (hk:0<=k/\k<=3) (hn:0<=n/\n<16384) (w:World):
  Calls Tryz.prog 61 #[.agg #[.int .i64 k,.int .i64 n]] w (Quiet w (.int .u16 (k * 16384+n))):=by
 have b1:Below w.heap.size w (w.alloc (.cells #[.int .i64 k,.int .i64 n] 99)):=(Below.refl _ w).alloc (Nat.le_refl _) _
 obtain⟨hk0,hk3⟩:=hk
 obtain⟨hn0,hn2⟩:=hn
 have hor:=u16_or hk0 hk3 hn0 hn2
 have w1:IntKind.u16.wrap k=k:=wrap_u16 hk0 (by omega)
 have w2:IntKind.u16.wrap n=n:=wrap_u16 hn0 (by omega)
 have w3:IntKind.u16.wrap (k * 16384)=k * 16384:=wrap_u16 (by omega) (by omega)
 have Xb1:=hide b1;clear b1
 go_enter Tryz.func61,Tryz.ntmps61
 go_wp2_with fail
 go_ret
 exact⟨rfl,Xb1.out⟩
theorem pack_act (n:Int) (hn:0<=n/\n<65536) (w:World):
  Calls Tryz.prog 82 #[.int .u16 n] w (Quiet w (.agg #[.int .i64 (n/16384),.int .i64 (n%16384)])):=by
 obtain⟨hn0,hn2⟩:=hn
 have hand:=u16_and hn0 hn2
 go_enter Tryz.func82,Tryz.ntmps82
 go_wp2_with fail
 refine bodyPost_ret (v:= .agg #[.int .i64 (n/16384),.int .i64 (n%16384)]) (by simp [results,Tryz.results82,go_sem]) rfl ?_
 exact⟨rfl,(Below.refl _ w).alloc (Nat.le_refl _) _⟩
attribute [local irreducible] wpStill wpOne wpPh
def RdRw {X:Type} (E:Value->X->Prop) (w:World) (F:Nat->Prop) (v:Value) (l:List X):Prop:= ∃Z:List Value,Z.length=l.length/\Rd w F v 1 Z/\ ∀(j:Nat) z x,Z[j]? =some z->l[j]? =some x->E z x
theorem RdRw.mono' {X:Type} {E E':Value->X->Prop} {w w':World} {F F':Nat->Prop} {v:Value} {l:List X} (h:RdRw E w F v l) (hR: ∀Z,Rd w F v 1 Z->Rd w' F' v 1 Z) (hE: ∀z x,E z x->E' z x):RdRw E' w' F' v l:=by
 obtain⟨Z,h1,h2,h3⟩:=h
 exact⟨Z,h1,hR Z h2,fun j z x hz hx=>hE z x (h3 j z x hz hx)⟩
abbrev RdAs (w:World) (F:Nat->Prop) (v:Value) (l:List (List Ac)):Prop:=RdRw (fun z x=>RdIt w F z x) w F v l
abbrev RdIs (w:World) (F:Nat->Prop) (v:Value) (l:List (List Int)):Prop:=RdRw (fun z x=>RdI w F z x) w F v l
theorem RdRw.shape {X:Type} {E:Value->X->Prop} {w:World} {F:Nat->Prop} {v:Value} {l:List X} (h:RdRw E w F v l): ∃A c,v= .slice A l.length c/\l.length<=c/\c<=maxLen:=by
 obtain⟨Z,h1,⟨A,n,c,hv,hc,hm,hl,-⟩,-⟩:=h
 have:n=l.length:=by omega
 subst this
 exact⟨A,c,hv,hc,hm⟩
theorem RdRw.at_ {X:Type} {E:Value->X->Prop} {w:World} {F:Nat->Prop} {A:Option Addr} {n c:Nat} {l:List X} (h:RdRw E w F (.slice A n c) l):n=l.length/\n<=c/\c<=maxLen/\(0<n-> ∃b off,A=some ⟨b,off,none⟩/\F b/\ ∀(i:Nat) x,l[i]? =some x-> ∃z,w.cell? ⟨b,off+i,none⟩=some z/\E z x):=by
 obtain⟨Z,h1,⟨A',n',c',hv,hc,hm,hl,hr⟩,h3⟩:=h
 injection hv with e1 e2 e3
 subst e1 e2 e3
 refine⟨by omega,hc,hm,fun hn=> ?_⟩
 obtain⟨b,off,hA,hF,hcell⟩:=hr hn
 refine⟨b,off,hA,hF,fun i x hx=> ?_⟩
 obtain⟨z,hz⟩: ∃z,Z[i]? =some z:=⟨_,List.getElem?_eq_getElem (by have:=(List.getElem?_eq_some_iff.1 hx).1;omega)⟩
 exact⟨z,hcell i z hz,h3 i z x hz hx⟩
theorem RdAs.below {w w':World} {F:Nat->Prop} {B:Nat} {v:Value} {l:List (List Ac)} (h:RdAs w F v l) (b:Below B w w') (hF: ∀k,F k->k<B):RdAs w' F v l:=RdRw.mono' h (fun Z r=>r.below b hF) fun z x r=>Rd.below r b hF
theorem RdIs.below {w w':World} {F:Nat->Prop} {B:Nat} {v:Value} {l:List (List Int)} (h:RdIs w F v l) (b:Below B w w') (hF: ∀k,F k->k<B):RdIs w' F v l:=RdRw.mono' h (fun Z r=>r.below b hF) fun z x r=>Rd.below r b hF
theorem RdAs.row {w:World} {F:Nat->Prop} {A:Option Addr} {n c:Nat} {l:List (List Ac)} (h:RdAs w F (.slice A n c) l) {i:Nat} {x:List Ac} (hx:l[i]? =some x): ∃b off A' c',A=some ⟨b,off,none⟩/\F b/\w.cell? ⟨b,off+i,none⟩=some (.slice A' x.length c')/\RdIt w F (.slice A' x.length c') x/\x.length<=c'/\c'<=maxLen:=by
 obtain⟨hn,-,-,hc⟩:=RdRw.at_ h
 obtain⟨b,off,hA,hF,hcc⟩:=hc (by have:=(List.getElem?_eq_some_iff.1 hx).1;omega)
 obtain⟨z,hz,r⟩:=hcc i x hx
 obtain⟨A',n',c',rfl,-⟩:=id r
 obtain⟨rfl,h1,h2,-⟩:=RdIt.at_ r
 exact⟨b,off,A',c',hA,hF,hz,r,h1,h2⟩
theorem RdIs.row {w:World} {F:Nat->Prop} {A:Option Addr} {n c:Nat} {l:List (List Int)} (h:RdIs w F (.slice A n c) l) {i:Nat} {x:List Int} (hx:l[i]? =some x): ∃b off A' c',A=some ⟨b,off,none⟩/\F b/\w.cell? ⟨b,off+i,none⟩=some (.slice A' x.length c')/\RdI w F (.slice A' x.length c') x/\x.length<=c'/\c'<=maxLen:=by
 obtain⟨hn,-,-,hc⟩:=RdRw.at_ h
 obtain⟨b,off,hA,hF,hcc⟩:=hc (by have:=(List.getElem?_eq_some_iff.1 hx).1;omega)
 obtain⟨z,hz,r⟩:=hcc i x hx
 obtain⟨A',n',c',rfl,-⟩:=id r
 obtain⟨rfl,h1,h2,-⟩:=RdI.at_ r
 exact⟨b,off,A',c',hA,hF,hz,r,h1,h2⟩
def W64 (x:Int):Prop:= -9223372036854775808<=x/\x<=9223372036854775807
structure IsTab (w:World) (F:Nat->Prop) (vr va vg:Value) (t:TabD):Prop where
 rules:RdL w F 2 (ERule w F) vr t.rules
 acts:RdAs w F va t.acts
 goto:RdIs w F vg t.goto
 lt: ∀b,F b->b<w.heap.size
 tn:W64 t.terms/\W64 t.nons
 wr: ∀r∈t.rules,W64 r.1
theorem IsTab.below {w w':World} {F:Nat->Prop} {vr va vg:Value} {t:TabD} (h:IsTab w F vr va vg t) (b:Below w.heap.size w w'):IsTab w' F vr va vg t:=
 ⟨h.rules.below b h.lt fun cs x _ e=>e.below b h.lt,h.acts.below b h.lt,h.goto.below b h.lt,fun k hk=>Nat.lt_of_lt_of_le (h.lt k hk) b.size,h.tn,h.wr⟩
abbrev TV (vr:Value) (T N:Int) (va vg:Value):Value:= .agg #[vr,.int .i64 T,.int .i64 N,va,vg]
theorem IsTab.slices {w:World} {F:Nat->Prop} {vr va vg:Value} {t:TabD} (h:IsTab w F vr va vg t): ∃A1 c1 A2 c2 A3 c3,vr= .slice A1 t.rules.length c1/\va= .slice A2 t.acts.length c2/\vg= .slice A3 t.goto.length c3/\t.rules.length<=c1/\t.acts.length<=c2/\t.goto.length<=c3/\c1<=9223372036854775807/\c2<=9223372036854775807/\c3<=9223372036854775807:=by
 obtain⟨A1,c1,e1,h1,m1,-⟩:=h.rules
 obtain⟨A2,c2,e2,h2,m2⟩:=RdRw.shape h.acts
 obtain⟨A3,c3,e3,h3,m3⟩:=RdRw.shape h.goto
 unfold maxLen at m1 m2 m3
 exact⟨A1,c1,A2,c2,A3,c3,e1,e2,e3,h1,h2,h3,by omega,by omega,by omega⟩
structure TBox (w:World) (F:Nat->Prop) (B:Nat) (A1:Option Addr) (c1:Nat) (A2:Option Addr) (c2:Nat) (A3:Option Addr) (c3 R n m:Nat) (T N:Int) (t:TabD):Prop where
 tab:IsTab w F (.slice A1 R c1) (.slice A2 n c2) (.slice A3 m c3) t
 blk:Blk w B 44 #[.slice A1 R c1,.int .i64 T,.int .i64 N,.slice A2 n c2,.slice A3 m c3]
section
variable {w w' : World} {F : Nat -> Prop} {B : Nat} {A1 : Option Addr} {c1 : Nat} {A2 : Option Addr} {c2 : Nat} {A3 : Option Addr} {c3 R n m : Nat} {T N : Int} {t : TabD}
theorem TBox.new (h:IsTab w F (.slice A1 R c1) (.slice A2 n c2) (.slice A3 m c3) t) (T N:Int):TBox (w.alloc (.cells #[.slice A1 R c1,.int .i64 T,.int .i64 N,.slice A2 n c2,.slice A3 m c3] 44)) F w.heap.size A1 c1 A2 c2 A3 c3 R n m T N t:=⟨h.below ((Below.refl _ _).alloc (Nat.le_refl _) _),Blk.new _ _ _⟩
theorem TBox.below (h:TBox w F B A1 c1 A2 c2 A3 c3 R n m T N t) (b:Below w.heap.size w w'):TBox w' F B A1 c1 A2 c2 A3 c3 R n m T N t:=⟨h.tab.below b,h.blk.below b h.blk.lt⟩
theorem TBox.cells (h:TBox w F B A1 c1 A2 c2 A3 c3 R n m T N t):w.cell? ⟨B,0,none⟩=some (.slice A1 R c1)/\w.cell? ⟨B,1,none⟩=some (.int .i64 T)/\w.cell? ⟨B,2,none⟩=some (.int .i64 N)/\w.cell? ⟨B,3,none⟩=some (.slice A2 n c2)/\w.cell? ⟨B,4,none⟩=some (.slice A3 m c3):=
 ⟨(h.blk.cell 0).trans rfl,(h.blk.cell 1).trans rfl,(h.blk.cell 2).trans rfl,(h.blk.cell 3).trans rfl,(h.blk.cell 4).trans rfl⟩
end
theorem may0 {n r:Nat} {a:Ac} (h:a.1=0\/a.1=3):mayA n r a=decide (a.2=0):=if_pos h
theorem may1 {n r:Nat} {a:Ac} (h:a.1=1):mayA n r a=(decide (0<=a.2)&&decide (a.2<n)):=by unfold mayA;rw [if_neg (by omega),if_pos h]
theorem may2 {n r:Nat} {a:Ac} (h:a.1=2):mayA n r a=(decide (0<=a.2)&&decide (a.2<(r:Int) - 1)):=by unfold mayA;rw [if_neg (by omega),if_neg (by omega),decide_eq_true h];rfl
theorem may9 {n r:Nat} {a:Ac} (h:a.1≠0/\a.1≠1/\a.1≠2/\a.1≠3):mayA n r a=false:=by unfold mayA;rw [if_neg (by omega),if_neg (by omega),decide_eq_false h.2.2.1];rfl
theorem acts_may {A1:Option Addr} {c1:Nat} {A2:Option Addr} {c2:Nat} {A3:Option Addr} {c3 R n m:Nat} (T N:Int) (hR:R<=c1/\c1<=9223372036854775807) (hn:n<=c2/\c2<=9223372036854775807) (a:Ac) (w:World):
  Calls Tryz.prog 81 #[TV (.slice A1 R c1) T N (.slice A2 n c2) (.slice A3 m c3),.agg #[.int .i64 a.1,.int .i64 a.2]] w (Quiet w (.bool (mayA n R a))):=by
 have b2:Below w.heap.size w ((w.alloc (.cells #[.slice A1 R c1,.int .i64 T,.int .i64 N,.slice A2 n c2,.slice A3 m c3] 44)).alloc (.cells #[.int .i64 a.1,.int .i64 a.2] 99)):=((Below.refl _ w).alloc (Nat.le_refl _) _).alloc (by simp) _
 obtain⟨k,x⟩:=a
 simp only at b2⊢
 have m0:=fun h=>may0 (n:=n) (r:=R) (a:=(k,x)) h
 have m1:=fun h=>may1 (n:=n) (r:=R) (a:=(k,x)) h
 have m2:=fun h=>may2 (n:=n) (r:=R) (a:=(k,x)) h
 have m9:=fun h=>may9 (n:=n) (r:=R) (a:=(k,x)) h
 simp only at m0 m1 m2 m9
 generalize mayA n R (k,x)=y at *
 have hw:IntKind.i64.wrap ((R:Int) - 1)=(R:Int) - 1:=by rw [IntKind.wrap_i64];omega
 obtain⟨Xb2,Xm0,Xm1,Xm2,Xm9⟩:=HqZ5 b2 m0 m1 m2 m9;clear b2 m0 m1 m2 m9
 by_cases h0:k=0
 ·subst h0
  have hy:=Xm0.out (.inl rfl)
  have Xhy:=hide hy;clear hy
  go_enter Tryz.func81,Tryz.ntmps81
  go_wp2_with fail
  go_ret
  exact⟨ret_bool (by rw [Xhy.out,Bool.beq_eq_decide_eq]),Xb2.out⟩
 ·have h0':(k==0)=false:=by simpa using h0
  by_cases h3:k=3
  ·subst h3
   have hy:=Xm0.out (.inr rfl)
   have Xhy:=hide hy;clear hy
   go_enter Tryz.func81,Tryz.ntmps81
   go_wp2_with fail
   go_ret
   exact⟨ret_bool (by rw [Xhy.out,Bool.beq_eq_decide_eq]),Xb2.out⟩
  ·have h3':(k==3)=false:=by simpa using h3
   by_cases h1:k=1
   ·subst h1
    have hy:=Xm1.out rfl
    by_cases hx:0<=x
    ·rw [decide_eq_true hx]at hy
     have Xhy:=hide hy;clear hy
     go_enter Tryz.func81,Tryz.ntmps81
     go_wp2_with fail
     go_ret
     exact⟨ret_bool (by rw [Xhy.out];rfl),Xb2.out⟩
    ·rw [decide_eq_false hx]at hy
     have Xhy:=hide hy;clear hy
     go_enter Tryz.func81,Tryz.ntmps81
     go_wp2_with fail
     go_ret
     exact⟨ret_bool (by rw [Xhy.out];rfl),Xb2.out⟩
   ·have h1':(k==1)=false:=by simpa using h1
    by_cases h2:k=2
    ·subst h2
     have hy:=Xm2.out rfl
     by_cases hx:0<=x
     ·rw [decide_eq_true hx]at hy
      have Xhy:=hide hy;clear hy
      go_enter Tryz.func81,Tryz.ntmps81
      go_wp2_with fail
      go_ret
      exact⟨ret_bool (by rw [Xhy.out];rfl),Xb2.out⟩
     ·rw [decide_eq_false hx]at hy
      have Xhy:=hide hy;clear hy
      go_enter Tryz.func81,Tryz.ntmps81
      go_wp2_with fail
      go_ret
      exact⟨ret_bool (by rw [Xhy.out];rfl),Xb2.out⟩
    ·have h2':(k==2)=false:=by simpa using h2
     have hy:=Xm9.out ⟨h0,h1,h2,h3⟩
     have Xhy:=hide hy;clear hy
     go_enter Tryz.func81,Tryz.ntmps81
     go_wp2_with fail
     go_ret
     exact⟨ret_bool Xhy.out.symm,Xb2.out⟩
theorem all_no' {α:Type} {p:α->Bool} {l:List α} {k:Nat} {x:α} (h:l[k]? =some x) (hp:p x=false):l.all p=false:=by
 rw [<-Bool.not_eq_true,List.all_eq_true]
 intro hh
 have:=hh x (List.mem_of_getElem? h)
 rw [hp]at this
 cases this
theorem all_upto {α:Type} {p:α->Bool} {l:List α} {k:Nat} {x:α} (h:l[k]? =some x) (ha:(l.take k).all p=true) (hp:p x=true):(l.take (k+1)).all p=true:=by
 rw [List.take_add_one,h,List.all_append,ha]
 simp [hp]
theorem all_end {α:Type} {p:α->Bool} {l:List α} {k:Nat} (ha:(l.take k).all p=true) (hk:l.length<=k):l.all p=true:=by rwa [List.take_of_length_le hk]at ha
theorem rowT_head {T N:Int} {n r:Nat} {x:List Ac} {y:List Int} (h:x.length=0\/(x.length:Int) - 1≠T\/(y.length:Int)≠N):rowT T N n r (x,y)=false:=by
 unfold rowT
 rcases h with h|h|h
 ·simp [h]
 ·simp [h]
 ·simp [h]
theorem rowT_body {T N:Int} {n r:Nat} {x:List Ac} {y:List Int} (h0: ¬x.length=0) (h1:(x.length:Int) - 1=T) (h2:(y.length:Int)=N):rowT T N n r (x,y)=(x.all (mayA n r)&&y.all (wayA n)):=by
 unfold rowT
 simp only [h1,h2,decide_true,Bool.and_self,Bool.and_true]
 rw [decide_eq_false h0];rfl
set_option maxRecDepth 100000 in
set_option maxHeartbeats 4000000 in
theorem acts_row {w:World} {F:Nat->Prop} {vr va vg:Value} {t:TabD} (h:IsTab w F vr va vg t) {i:Nat} {x:List Ac} {y:List Int} (hx:t.acts[i]? =some x) (hy:t.goto[i]? =some y):
  Calls Tryz.prog 60 #[TV vr t.terms t.nons va vg,.int .i64 (i:Int)] w (Quiet w (.bool (rowT t.terms t.nons t.acts.length t.rules.length (x,y)))):=by
 obtain⟨A1,c1,A2,c2,A3,c3,rfl,rfl,rfl,l1,l2,l3,m1,m2,m3⟩:=h.slices
 obtain⟨tn,nn⟩:=h.tn
 have hF:=h.lt
 have hi1:=(List.getElem?_eq_some_iff.1 hx).1
 have hi2:=(List.getElem?_eq_some_iff.1 hy).1
 have f1:=fun hh=>rowT_head (T:=t.terms) (N:=t.nons) (n:=t.acts.length) (r:=t.rules.length) (x:=x) (y:=y) hh
 have f2:=fun a b c=>rowT_body (T:=t.terms) (N:=t.nons) (n:=t.acts.length) (r:=t.rules.length) (x:=x) (y:=y) a b c
 obtain⟨w1,hw1⟩: ∃w1,w1=w.alloc (.cells #[.slice A1 t.rules.length c1,.int .i64 t.terms,.int .i64 t.nons,.slice A2 t.acts.length c2,.slice A3 t.goto.length c3] 44):=⟨_,rfl⟩
 have g1:=TBox.new h t.terms t.nons
 have b1:Below w.heap.size w w1:=by rw [hw1];exact(Below.refl _ w).alloc (Nat.le_refl _) _
 rw [<-hw1]at g1
 obtain⟨ba,oa,A4,c4,hA2,-,p4,rx,l4,m4⟩:=RdAs.row g1.tab.acts hx
 obtain⟨bg,og,A5,c5,hA3,-,p5,ry,l5,m5⟩:=RdIs.row g1.tab.goto hy
 subst hA2 hA3
 obtain⟨q0,q1,q2,q3,q4⟩:=g1.cells
 have hcm:=fun(a:Ac) wr=>acts_may (A1:=A1) (c1:=c1) (A2:=some ⟨ba,oa,none⟩) (c2:=c2) (A3:=some ⟨bg,og,none⟩) (c3:=c3) (R:=t.rules.length) (n:=t.acts.length) (m:=t.goto.length) t.terms t.nons ⟨l1,m1⟩ ⟨l2,m2⟩ a wr
 have F1: ∀b,F b->b<w1.heap.size:=fun b hb=>Nat.lt_of_lt_of_le (hF b hb) b1.size
 unfold maxLen at m4 m5
 unfold W64 at tn nn
 generalize t.terms=T at *
 generalize t.nons=N at *
 generalize hn:t.acts.length=n at *
 generalize t.rules.length=R at *
 generalize hm:t.goto.length=m at *
 generalize rowT T N n R (x,y)=z at *
 have hlt1:(i:Int)<(n:Int):=by omega
 have hlt2:(i:Int)<(m:Int):=by omega
 generalize hxl:x.length=xl at *
 generalize hyl:y.length=yl at *
 have hwx:IntKind.i64.wrap ((xl:Int) - 1)=(xl:Int) - 1:=by rw [IntKind.wrap_i64];omega
 clear h hx hy hF hi1 hi2 g1
 obtain⟨Xf1,Xf2,Xhcm,Xb1,Xrx,Xry,XF1,Xhn,Xhm,Xhxl,Xhyl⟩:=HqZ11 f1 f2 hcm b1 rx ry F1 hn hm hxl hyl;clear f1 f2 hcm b1 rx ry F1 hn hm hxl hyl
 by_cases h0:xl=0
 ·subst h0
  have hz:=Xf1.out (.inl rfl)
  have Xhz:=hide hz;clear hz
  go_enter Tryz.func60,Tryz.ntmps60
  go_upto_region 1 with fail
  rw [<-hw1]
  clear hw1
  refine region_reads (by kernel_rfl) (by kernel_rfl) ?_
  repeat still_step
  refine wpStill_nil ?_
  go_wp2_with fail
  go_wp2_with fail
  go_ret
  exact⟨ret_bool Xhz.out.symm,Xb1.out.drew⟩
 ·have h0':((xl:Int)==0)=false:=by simp;omega
  by_cases h1:(xl:Int) - 1=T
  ·by_cases h2:(yl:Int)=N
   ·have hz:=Xf2.out h0 h1 h2
    subst h1 h2
    have e1:((xl:Int) - 1 !=(xl:Int) - 1)=false:=by simp
    have e2:((yl:Int) !=(yl:Int))=false:=by simp
    have Xhz:=hide hz;clear hz
    go_enter Tryz.func60,Tryz.ntmps60
    go_upto_region 1 with fail
    rw [<-hw1]
    clear hw1
    refine region_reads (by kernel_rfl) (by kernel_rfl) ?_
    repeat still_step
    refine wpStill_nil ?_
    go_wp2_with fail
    go_wp2_with fail
    have bz:Below w1.heap.size w1 w1.drew:=(Below.refl _ _).drew
    have h00:(x.take 0).all (mayA n R)=true:=rfl
    have h01:(y.take 0).all (wayA n)=true:=rfl
    obtain⟨Xbz,Xh00,Xh01⟩:=HqZ3 bz h00 h01;clear bz h00 h01
    go_loopw [45] (fun iv wr=> ∃k:Nat,k<=xl/\iv= .int .i64 (k:Int)/\Below w1.heap.size w1 wr/\(x.take k).all (mayA n R)=true) (fun iv _=>xl - (intOf iv).toNat)
    case atStart=>exact⟨0,Nat.zero_le _,rfl,Xbz.out,Xh00.out⟩
    case round=>
     clear Xbz Xh00
     obtain⟨k,hk,rfl,le,hall⟩:=hrel
     by_cases hlk:k<xl
     ·have hlk':(k:Int)<(xl:Int):=by omega
      have rk:=Rd.below Xrx.out le XF1.out
      obtain⟨-,-,-,hcell⟩:=RdIt.at_ rk
      obtain⟨b4,o4,rfl,-,hcc⟩:=hcell (by omega)
      obtain⟨a,ha⟩: ∃a,x[k]? =some a:=⟨_,List.getElem?_eq_getElem (by rw [Xhxl.out];exact hlk)⟩
      obtain⟨a0,a1⟩:=hcc k a ha
      have al:Below wr.heap.size wr (wr.alloc (.cells #[.int .i64 a.1,.int .i64 a.2] 99)):=(Below.refl _ _).alloc (Nat.le_refl _) _
      have kA:Blk (wr.alloc (.cells #[.int .i64 a.1,.int .i64 a.2] 99)) wr.heap.size 99 #[.int .i64 a.1,.int .i64 a.2]:=Blk.new _ _ _
      have leA:=le.trans (al.mono le.size)
      have q0:=up_cell leA q0
      have q1:=up_cell leA q1
      have q2:=up_cell leA q2
      have q3:=up_cell leA q3
      have q4:=up_cell leA q4
      have f0:=(kA.cell 0).trans rfl
      have f1:=(kA.cell 1).trans rfl
      have cm:=Xhcm.out a (wr.alloc (.cells #[.int .i64 a.1,.int .i64 a.2] 99))
      obtain⟨r,hr⟩: ∃r,r=mayA n R a:=⟨_,rfl⟩
      rw [<-hr]at cm
      obtain⟨ak,an⟩:=a
      simp only at a0 a1 f0 f1 leA cm q0 q1 q2 q3 q4
      clear rk hcell hcc al kA le
      cases r with
      |true=>
       have hall2:=all_upto ha hall hr.symm
       obtain⟨XleA,Xcm,Xhall2,Xha,Xhall,Xhr⟩:=HqZ6 leA cm hall2 ha hall hr;clear leA cm hall2 ha hall hr
       go_wp2_with fail
       refine Xcm.out.mono ?_
       rintro e w3 ⟨rfl,b3⟩
       have le3:=XleA.out.trans (b3.mono XleA.out.size)
       clear b3 Xcm XleA q0 q1 q2 q3 q4 f0 f1 a0 a1
       have Xle3:=hide le3;clear le3
       go_wp2_with fail
       go_roundw
       case rel=>exact⟨k+1,by omega,by go_num,Xle3.out,Xhall2.out⟩
       case measure=>simp [intOf];omega
      |false=>
       have hall2:=all_no' ha hr.symm
       obtain⟨XleA,Xcm,Xhall2,Xha,Xhall,Xhr⟩:=HqZ6 leA cm hall2 ha hall hr;clear leA cm hall2 ha hall hr
       go_wp2_with fail
       refine Xcm.out.mono ?_
       rintro e w3 ⟨rfl,b3⟩
       have le3:=XleA.out.trans (b3.mono XleA.out.size)
       have bfin:=Xb1.out.trans (le3.mono Xb1.out.size)
       clear b3 Xcm XleA q0 q1 q2 q3 q4 f0 f1 a0 a1
       obtain⟨Xle3,Xbfin⟩:=HqZ2 le3 bfin;clear le3 bfin
       go_wp2_with fail
       go_ret
       exact⟨ret_bool (by rw [Xhz.out,Xhall2.out];rfl),Xbfin.out⟩
     ·have hlk': ¬(k:Int)<(xl:Int):=by omega
      have hallx:=all_end hall (by rw [Xhxl.out];omega)
      have q0:=up_cell le q0
      have q1:=up_cell le q1
      have q2:=up_cell le q2
      have q3:=up_cell le q3
      have q4:=up_cell le q4
      have p4:=up_cell le p4
      have p5:=up_cell le p5
      clear hall
      obtain⟨Xhallx,Xle⟩:=HqZ2 hallx le;clear hallx le
      go_wp2_with fail
      go_loopw [60] (fun iv wr=> ∃k:Nat,k<=yl/\iv= .int .i64 (k:Int)/\Below w1.heap.size w1 wr/\(y.take k).all (wayA n)=true) (fun iv _=>yl - (intOf iv).toNat)
      case atStart=>exact⟨0,Nat.zero_le _,rfl,Xle.out,Xh01.out⟩
      case round=>
       clear Xle Xh01 q0 q1 q2 q3 q4 p4 p5
       obtain⟨k,hk,rfl,le,hall⟩:=hrel
       have q3:=up_cell le (by assumption:w1.cell? ⟨w.heap.size,3,none⟩=_)
       by_cases hlk:k<yl
       ·have hlk':(k:Int)<(yl:Int):=by omega
        have rk:=Rd.below Xry.out le XF1.out
        obtain⟨-,-,-,hcell⟩:=RdI.at_ rk
        obtain⟨b4,o4,rfl,-,hcc⟩:=hcell (by omega)
        obtain⟨a,ha⟩: ∃a,y[k]? =some a:=⟨_,List.getElem?_eq_getElem (by rw [Xhyl.out];exact hlk)⟩
        have a0:=hcc k a ha
        have hwa:wayA n a=(decide (-1<=a)&&decide (a<(n:Int))):=rfl
        clear rk hcell hcc
        by_cases g1:a< -1
        ·have hno:=all_no' (p:=wayA n) ha (by rw [hwa,decide_eq_false (by omega)];rfl)
         have bfin:=Xb1.out.trans (le.mono Xb1.out.size)
         obtain⟨Xhno,Xle,Xha,Xhall,Xbfin,Xhwa⟩:=HqZ6 hno le ha hall bfin hwa;clear hno le ha hall bfin hwa
         go_wp2_with fail
         go_ret
         exact⟨ret_bool (by rw [Xhz.out,Xhno.out,Bool.and_false]),Xbfin.out⟩
        ·by_cases g2:a<(n:Int)
         ·have hyes:=all_upto ha hall (by rw [hwa,decide_eq_true g2,decide_eq_true (by omega)];rfl)
          have g3: ¬(n:Int)<=a:=by omega
          obtain⟨Xhyes,Xle,Xha,Xhall,Xhwa⟩:=HqZ5 hyes le ha hall hwa;clear hyes le ha hall hwa
          go_wp2_with fail
          go_roundw
          case rel=>exact⟨k+1,by omega,by go_num,Xle.out,Xhyes.out⟩
          case measure=>simp [intOf];omega
         ·have hno:=all_no' (p:=wayA n) ha (by rw [hwa,decide_eq_false g2,Bool.and_false])
          have bfin:=Xb1.out.trans (le.mono Xb1.out.size)
          have g3:(n:Int)<=a:=by omega
          obtain⟨Xhno,Xle,Xha,Xhall,Xbfin,Xhwa⟩:=HqZ6 hno le ha hall bfin hwa;clear hno le ha hall bfin hwa
          go_wp2_with fail
          go_ret
          exact⟨ret_bool (by rw [Xhz.out,Xhno.out,Bool.and_false]),Xbfin.out⟩
       ·have hlk': ¬(k:Int)<(yl:Int):=by omega
        have hally:=all_end hall (by rw [Xhyl.out];omega)
        have bfin:=Xb1.out.trans (le.mono Xb1.out.size)
        clear hall
        obtain⟨Xhally,Xle,Xbfin⟩:=HqZ3 hally le bfin;clear hally le bfin
        go_wp2_with fail
        go_ret
        exact⟨ret_bool (by rw [Xhz.out,Xhallx.out,Xhally.out];rfl),Xbfin.out⟩
   ·have hz:=Xf1.out (.inr (.inr h2))
    subst h1
    have e1:((xl:Int) - 1 !=(xl:Int) - 1)=false:=by simp
    have e2:((yl:Int) !=N)=true:=by simpa using h2
    have Xhz:=hide hz;clear hz
    go_enter Tryz.func60,Tryz.ntmps60
    go_upto_region 1 with fail
    rw [<-hw1]
    clear hw1
    refine region_reads (by kernel_rfl) (by kernel_rfl) ?_
    repeat still_step
    refine wpStill_nil ?_
    go_wp2_with fail
    go_wp2_with fail
    go_ret
    exact⟨ret_bool Xhz.out.symm,Xb1.out.drew⟩
  ·have hz:=Xf1.out (.inr (.inl h1))
   have e1:((xl:Int) - 1 !=T)=true:=by simpa using h1
   have Xhz:=hide hz;clear hz
   go_enter Tryz.func60,Tryz.ntmps60
   go_upto_region 1 with fail
   rw [<-hw1]
   clear hw1
   refine region_reads (by kernel_rfl) (by kernel_rfl) ?_
   repeat still_step
   refine wpStill_nil ?_
   go_wp2_with fail
   go_wp2_with fail
   go_ret
   exact⟨ret_bool Xhz.out.symm,Xb1.out.drew⟩
theorem right_no {t:TabD} (h:t.rules.length=0\/t.acts.length=0\/t.acts.length≠t.goto.length\/t.terms<0\/t.nons<0):rightT t=false:=by
 have:headT t=false:=by
  unfold headT
  rcases h with h|h|h|h|h
  ·simp [h]
  ·simp [h]
  ·simp [h]
  ·have: ¬0<=t.terms:=by omega
   simp [this]
  ·have: ¬0<=t.nons:=by omega
   simp [this]
 unfold rightT
 rw [this];rfl
theorem right_yes {t:TabD} (h1: ¬t.rules.length=0) (h2: ¬t.acts.length=0) (h3:t.acts.length=t.goto.length) (h4:0<=t.terms) (h5:0<=t.nons):rightT t=((t.rules.take (t.rules.length - 1)).all (leftT t.terms t.nons)&&(List.zip t.acts t.goto).all (rowT t.terms t.nons t.acts.length t.rules.length)):=by
 unfold rightT headT
 rw [decide_eq_false h1,decide_eq_false h2,decide_eq_true h3,decide_eq_true h4,decide_eq_true h5];rfl
set_option maxRecDepth 100000 in
set_option maxHeartbeats 4000000 in
theorem acts_Right {w:World} {F:Nat->Prop} {vr va vg:Value} {t:TabD} (h:IsTab w F vr va vg t):
  Calls Tryz.prog 43 #[TV vr t.terms t.nons va vg] w (Quiet w (.bool (rightT t))):=by
 obtain⟨A1,c1,A2,c2,A3,c3,rfl,rfl,rfl,l1,l2,l3,m1,m2,m3⟩:=h.slices
 obtain⟨tn,nn⟩:=h.tn
 have hF:=h.lt
 have f1:=fun hh=>right_no (t:=t) hh
 have f2:=fun a b c d e=>right_yes (t:=t) a b c d e
 obtain⟨w1,hw1⟩: ∃w1,w1=w.alloc (.cells #[.slice A1 t.rules.length c1,.int .i64 t.terms,.int .i64 t.nons,.slice A2 t.acts.length c2,.slice A3 t.goto.length c3] 44):=⟨_,rfl⟩
 have g1:=TBox.new h t.terms t.nons
 have b1:Below w.heap.size w w1:=by rw [hw1];exact(Below.refl _ w).alloc (Nat.le_refl _) _
 rw [<-hw1]at g1
 have cr:=fun wr (g:TBox wr F w.heap.size A1 c1 A2 c2 A3 c3 t.rules.length t.acts.length t.goto.length t.terms t.nons t) (i:Nat) x y (hx:t.acts[i]? =some x) (hy:t.goto[i]? =some y)=>acts_row g.tab hx hy
 obtain⟨q0,q1,q2,q3,q4⟩:=g1.cells
 have wrr:=h.wr
 unfold W64 at tn nn wrr
 generalize hT:t.terms=T at *
 generalize hN:t.nons=N at *
 generalize hn:t.acts.length=n at *
 generalize hR:t.rules.length=R at *
 generalize hm:t.goto.length=m at *
 generalize rightT t=z at *
 clear h hF
 obtain⟨Xf1,Xf2,Xcr,Xb1,Xg1,Xhn,Xhm,XhR,XhT,XhN,Xwrr⟩:=HqZ11 f1 f2 cr b1 g1 hn hm hR hT hN wrr;clear f1 f2 cr b1 g1 hn hm hR hT hN wrr
 by_cases hR0:R=0
 ·subst hR0
  have hz:=Xf1.out (.inl rfl)
  have Xhz:=hide hz;clear hz
  go_enter Tryz.func43,Tryz.ntmps43
  go_wp2_with fail
  rw [<-hw1]
  go_ret
  exact⟨ret_bool Xhz.out.symm,Xb1.out⟩
 ·have hR0':((R:Int)==0)=false:=by simp;omega
  by_cases hn0:n=0
  ·subst hn0
   have hz:=Xf1.out (.inr (.inl rfl))
   have Xhz:=hide hz;clear hz
   go_enter Tryz.func43,Tryz.ntmps43
   go_wp2_with fail
   rw [<-hw1]
   go_ret
   exact⟨ret_bool Xhz.out.symm,Xb1.out⟩
  ·have hn0':((n:Int)==0)=false:=by simp;omega
   by_cases hnm:n=m
   ·subst hnm
    have hnm':((n:Int) !=(n:Int))=false:=by simp
    by_cases hT0:T<0
    ·have hz:=Xf1.out (.inr (.inr (.inr (.inl hT0))))
     have Xhz:=hide hz;clear hz
     go_enter Tryz.func43,Tryz.ntmps43
     go_wp2_with fail
     rw [<-hw1]
     go_ret
     exact⟨ret_bool Xhz.out.symm,Xb1.out⟩
    ·by_cases hN0:N<0
     ·have hz:=Xf1.out (.inr (.inr (.inr (.inr hN0))))
      have Xhz:=hide hz;clear hz
      go_enter Tryz.func43,Tryz.ntmps43
      go_wp2_with fail
      rw [<-hw1]
      go_ret
      exact⟨ret_bool Xhz.out.symm,Xb1.out⟩
     ·have hz:=Xf2.out hR0 hn0 rfl (by omega) (by omega)
      obtain⟨p,rfl⟩: ∃p,R=p+1:=⟨R - 1,by omega⟩
      rw [Nat.add_sub_cancel]at hz
      have hwp:IntKind.i64.wrap (((p+1:Nat):Int) - 1)=(p:Int):=by rw [IntKind.wrap_i64];omega
      have hwp2:IntKind.i64.wrap ((p:Int)+1 - 1)=(p:Int):=by rw [IntKind.wrap_i64];omega
      have hpc:(p:Int)<=(c1:Int):=by omega
      have hp0:(0:Int)<=(p:Int):=by omega
      have hlp:(t.rules.take p).length=p:=by rw [List.length_take,XhR.out];omega
      have h00:((t.rules.take p).take 0).all (leftT T N)=true:=rfl
      have h01:((List.zip t.acts t.goto).take 0).all (rowT T N n (p+1))=true:=rfl
      have lew:Below w1.heap.size w1 w1:=Below.refl _ _
      obtain⟨Xhz,Xhlp,Xh00,Xh01,Xlew⟩:=HqZ5 hz hlp h00 h01 lew;clear hz hlp h00 h01 lew
      go_enter Tryz.func43,Tryz.ntmps43
      go_wp2_with fail
      rw [<-hw1]
      clear hw1
      go_loopw [43] (fun iv wr=> ∃k:Nat,k<=p/\iv= .int .i64 (k:Int)/\Below w1.heap.size w1 wr/\((t.rules.take p).take k).all (leftT T N)=true) (fun iv _=>p - (intOf iv).toNat)
      case atStart=>exact⟨0,Nat.zero_le _,rfl,Xlew.out,Xh00.out⟩
      case round=>
       clear Xh00 Xlew
       obtain⟨k,hk,rfl,le,hall⟩:=hrel
       have g2:=Xg1.out.below le
       by_cases hlk:k<p
       ·have hlk':(k:Int)<(p:Int):=by omega
        obtain⟨-,-,-,hcell⟩:=ERule.at_ g2.tab.rules
        obtain⟨b4,o4,rfl,-,hcc⟩:=hcell (by omega)
        obtain⟨r,hr⟩: ∃r,t.rules[k]? =some r:=⟨_,List.getElem?_eq_getElem (by rw [XhR.out];omega)⟩
        obtain⟨v,a0,a1,hv⟩:=hcc k r hr
        obtain⟨A5,n5,c5,rfl,-⟩:=hv
        have hrt:(t.rules.take p)[k]? =some r:=by rw [List.getElem?_take_of_lt hlk];exact hr
        have hwr:=Xwrr.out r (List.mem_of_getElem? hr)
        have al:Below wr.heap.size wr (wr.alloc (.cells #[.int .i64 r.1,.slice A5 n5 c5] 53)):=(Below.refl _ _).alloc (Nat.le_refl _) _
        have kA:Blk (wr.alloc (.cells #[.int .i64 r.1,.slice A5 n5 c5] 53)) wr.heap.size 53 #[.int .i64 r.1,.slice A5 n5 c5]:=Blk.new _ _ _
        have leA:=le.trans (al.mono le.size)
        obtain⟨q0,q1,q2,q3,q4⟩:=(g2.below al).cells
        have f0:=(kA.cell 0).trans rfl
        have f1:=(kA.cell 1).trans rfl
        have hlt0:leftT T N r=(decide (T<r.1)&&decide (r.1 - T<=N)):=rfl
        obtain⟨rl,rr⟩:=r
        simp only at a0 a1 f0 f1 leA q0 q1 q2 q3 q4 hwr hlt0
        clear hcell hcc al kA g2 le hr
        by_cases h1:T<rl
        ·have hw2:IntKind.i64.wrap (rl - T)=rl - T:=by rw [IntKind.wrap_i64];omega
         have h1': ¬rl<=T:=by omega
         by_cases h2:rl - T<=N
         ·have h2': ¬N<rl - T:=by omega
          have hy:=all_upto hrt hall (by rw [hlt0,decide_eq_true h1,decide_eq_true h2];rfl)
          obtain⟨XleA,Xhy,Xhall,Xhrt,Xhlt0,Xhwr⟩:=HqZ6 leA hy hall hrt hlt0 hwr;clear leA hy hall hrt hlt0 hwr
          go_wp2_with fail
          go_roundw
          case rel=>exact⟨k+1,by omega,by go_num,XleA.out,Xhy.out⟩
          case measure=>simp [intOf];omega
         ·have h2':N<rl - T:=by omega
          have hno:=all_no' (p:=leftT T N) hrt (by rw [hlt0,decide_eq_false h2,Bool.and_false])
          have bfin:=Xb1.out.trans (leA.mono Xb1.out.size)
          obtain⟨XleA,Xhno,Xhall,Xhrt,Xhlt0,Xhwr,Xbfin⟩:=HqZ7 leA hno hall hrt hlt0 hwr bfin;clear leA hno hall hrt hlt0 hwr bfin
          go_wp2_with fail
          go_ret
          exact⟨ret_bool (by rw [Xhz.out,Xhno.out];rfl),Xbfin.out⟩
        ·have h1':rl<=T:=by omega
         have hno:=all_no' (p:=leftT T N) hrt (by rw [hlt0,decide_eq_false h1];rfl)
         have bfin:=Xb1.out.trans (leA.mono Xb1.out.size)
         obtain⟨XleA,Xhno,Xhall,Xhrt,Xhlt0,Xhwr,Xbfin⟩:=HqZ7 leA hno hall hrt hlt0 hwr bfin;clear leA hno hall hrt hlt0 hwr bfin
         go_wp2_with fail
         go_ret
         exact⟨ret_bool (by rw [Xhz.out,Xhno.out];rfl),Xbfin.out⟩
       ·have hlk': ¬(k:Int)<(p:Int):=by omega
        have halr:=all_end hall (by rw [Xhlp.out];omega)
        obtain⟨q0,q1,q2,q3,q4⟩:=g2.cells
        clear hall g2
        obtain⟨Xhalr,Xle⟩:=HqZ2 halr le;clear halr le
        go_wp2_with fail
        go_loopw [66] (fun iv wr=> ∃k:Nat,k<=n/\iv= .int .i64 (k:Int)/\Below w1.heap.size w1 wr/\((List.zip t.acts t.goto).take k).all (rowT T N n (p+1))=true) (fun iv _=>n - (intOf iv).toNat)
        case atStart=>exact⟨0,Nat.zero_le _,rfl,Xle.out,Xh01.out⟩
        case round=>
         clear Xle Xh01 q0 q1 q2 q3 q4
         obtain⟨i,hi,rfl,le,hall⟩:=hrel
         have g2:=Xg1.out.below le
         by_cases hli:i<n
         ·have hli':(i:Int)<(n:Int):=by omega
          obtain⟨x,hx⟩: ∃x,t.acts[i]? =some x:=⟨_,List.getElem?_eq_getElem (by rw [Xhn.out];exact hli)⟩
          obtain⟨y,hy⟩: ∃y,t.goto[i]? =some y:=⟨_,List.getElem?_eq_getElem (by rw [Xhm.out];exact hli)⟩
          have hxy:(List.zip t.acts t.goto)[i]? =some (x,y):=by rw [List.getElem?_zip_eq_some];exact⟨hx,hy⟩
          have cc:=Xcr.out wr g2 i x y hx hy
          obtain⟨r,hr⟩: ∃r,r=rowT T N n (p+1) (x,y):=⟨_,rfl⟩
          rw [<-hr]at cc
          obtain⟨q0,q1,q2,q3,q4⟩:=g2.cells
          clear hx hy g2
          cases r with
          |true=>
           have hyes:=all_upto hxy hall hr.symm
           obtain⟨Xle,Xcc,Xhyes,Xhall,Xhxy,Xhr⟩:=HqZ6 le cc hyes hall hxy hr;clear le cc hyes hall hxy hr
           go_wp2_with fail
           refine Xcc.out.mono ?_
           rintro e w3 ⟨rfl,b3⟩
           have le3:=Xle.out.trans (b3.mono Xle.out.size)
           clear b3 Xcc Xle q0 q1 q2 q3 q4
           have Xle3:=hide le3;clear le3
           go_wp2_with fail
           go_roundw
           case rel=>exact⟨i+1,by omega,by go_num,Xle3.out,Xhyes.out⟩
           case measure=>simp [intOf];omega
          |false=>
           have hno:=all_no' hxy hr.symm
           obtain⟨Xle,Xcc,Xhno,Xhall,Xhxy,Xhr⟩:=HqZ6 le cc hno hall hxy hr;clear le cc hno hall hxy hr
           go_wp2_with fail
           refine Xcc.out.mono ?_
           rintro e w3 ⟨rfl,b3⟩
           have le3:=Xle.out.trans (b3.mono Xle.out.size)
           have bfin:=Xb1.out.trans (le3.mono Xb1.out.size)
           clear b3 Xcc Xle q0 q1 q2 q3 q4
           obtain⟨Xle3,Xbfin⟩:=HqZ2 le3 bfin;clear le3 bfin
           go_wp2_with fail
           go_ret
           exact⟨ret_bool (by rw [Xhz.out,Xhno.out,Bool.and_false]),Xbfin.out⟩
         ·have hli': ¬(i:Int)<(n:Int):=by omega
          have halz:=all_end hall (by rw [List.length_zip,Xhn.out,Xhm.out];omega)
          have bfin:=Xb1.out.trans (le.mono Xb1.out.size)
          clear hall g2
          obtain⟨Xhalz,Xle,Xbfin⟩:=HqZ3 halz le bfin;clear halz le bfin
          go_wp2_with fail
          go_ret
          exact⟨ret_bool (by rw [Xhz.out,Xhalr.out,Xhalz.out];rfl),Xbfin.out⟩
   ·have hz:=Xf1.out (.inr (.inr (.inl hnm)))
    have hnm':((n:Int) !=(m:Int))=true:=by simp;omega
    have Xhz:=hide hz;clear hz
    go_enter Tryz.func43,Tryz.ntmps43
    go_wp2_with fail
    rw [<-hw1]
    go_ret
    exact⟨ret_bool Xhz.out.symm,Xb1.out⟩
abbrev I16 (n:Int):Value:= .int .u16 n
abbrev RdU (w:World) (F:Nat->Prop) (v:Value) (l:List Int):Prop:=Rd w F v 1 (l.map I16)
theorem RdU.at_ {w:World} {F:Nat->Prop} {A:Option Addr} {n c:Nat} {l:List Int} (h:RdU w F (.slice A n c) l):n=l.length/\n<=c/\c<=maxLen/\(0<n-> ∃b off,A=some ⟨b,off,none⟩/\F b/\ ∀(k:Nat) x,l[k]? =some x->w.cell? ⟨b,off+k,none⟩=some (.int .u16 x)):=by
 obtain⟨A',n',c',hv,h1,h2,h3,hr⟩:=h
 injection hv with e1 e2 e3
 subst e1 e2 e3
 refine⟨by simpa using h3.symm,h1,h2,fun hn=> ?_⟩
 obtain⟨b,off,hA,hF,hc⟩:=hr hn
 exact⟨b,off,hA,hF,fun k x hx=>hc k _ (by rw [List.getElem?_map,hx];rfl)⟩
theorem Tryz.infoU16:(Tryz.prog.info? 39).map (fun i=>(i.zero,i.size,i.bytes))=some (some (.int .u16 0),1,2):=by kernel_rfl
theorem Tryz.elemU16:Elem Tryz.prog 51 39 (.int .u16 0) 1 2:=⟨Tryz.underlying51,Tryz.infoU16,rfl,by decide⟩
def NumPost (w:World) (xs:List Int) (e:Ending) (w':World):Prop:=Below w.heap.size w w'/\ ∃A c,e= .returned (.slice A xs.length c)/\RdU w' (fun b=>w.heap.size<=b/\b<w'.heap.size) (.slice A xs.length c) xs
theorem NumPost.mk {w w':World} {xs:List Int} {e:Ending} {A:Option Addr} {n c B:Nat} (hb:Below w.heap.size w w') (hB:w.heap.size<=B) (hn:n=xs.length) (he:e= .returned (.slice A n c)) (own:w'.ownsRow B 39 1 (.slice A n c) n (xs.map I16)):NumPost w xs e w':=by
 subst hn
 exact⟨hb,A,c,he,(Rd.of_own own).mono fun b e=>⟨Nat.le_trans hB (own.lt b e).1,(own.lt b e).2⟩⟩
theorem take_next {α:Type} {l:List α} {k:Nat} {x:α} (h:l[k]? =some x):l.take (k+1)=l.take k++[x]:=by
 rw [List.take_add_one,h];rfl
theorem take_map_next {α:Type} {f:α->Value} {l:List α} {k:Nat} {x:α} (h:l[k]? =some x):(l.take k).map f++[f x]=(l.take (k+1)).map f:=by
 rw [take_next h,List.map_append];rfl
set_option maxRecDepth 100000 in
set_option maxHeartbeats 4000000 in
theorem pack_numbers0 {w:World} {F:Nat->Prop} {vr va vg:Value} {t:TabD} (h:IsTab w F vr va vg t) (hf:fitT t=true) {i:Nat} {x:List Ac} (hx:t.acts[i]? =some x) (hl:x.length<=70000):
  Calls Tryz.prog 45 #[TV vr t.terms t.nons va vg,.int .i64 (i:Int),.int .i64 0] w (NumPost w (x.map codeA)):=by
 obtain⟨A1,c1,A2,c2,A3,c3,rfl,rfl,rfl,l1,l2,l3,m1,m2,m3⟩:=h.slices
 have hF:=h.lt
 obtain⟨w1,hw1⟩: ∃w1,w1=w.alloc (.cells #[.slice A1 t.rules.length c1,.int .i64 t.terms,.int .i64 t.nons,.slice A2 t.acts.length c2,.slice A3 t.goto.length c3] 44):=⟨_,rfl⟩
 have g1:=TBox.new h t.terms t.nons
 have b1:Below w.heap.size w w1:=by rw [hw1];exact(Below.refl _ w).alloc (Nat.le_refl _) _
 rw [<-hw1]at g1
 have hc:=fun a (ha:a∈x)=>fit_act hf hx ha
 obtain⟨b,off,A4,c4,hA,hFb,cx,rx,l4,m4⟩:=RdAs.row g1.tab.acts hx
 have hlt:=(List.getElem?_eq_some_iff.1 hx).1
 generalize t.terms=T at *
 generalize t.nons=N at *
 generalize hn:t.acts.length=n at *
 generalize t.rules.length=R at *
 generalize t.goto.length=m at *
 subst hA
 obtain⟨q0,q1,q2,q3,q4⟩:=g1.cells
 unfold maxLen at m4
 have hlt':(i:Int)<(n:Int):=by omega
 have hF1: ∀b,F b->b<w1.heap.size:=g1.tab.lt
 clear h hf hx g1 hF hFb hn
 generalize hxn:x.length=xn at *
 have h0:w1.ownsRow w1.heap.size 39 1 (.slice none 0 0) 0 (((x.take 0).map codeA).map I16):=World.ownsRow_nil _ _ _ _
 obtain⟨Xhc,Xb1,Xrx,XhF1,Xhxn,Xh0⟩:=HqZ6 hc b1 rx hF1 hxn h0;clear hc b1 rx hF1 hxn h0
 rw [hw1]at cx q0 q1 q2 q3 q4
 go_enter Tryz.func45,Tryz.ntmps45
 go_wp2_with fail
 rw [<-hw1]
 clear hw1 q0 q1 q2 q3 q4 cx
 go_loopw [7,20] (fun ov iv wr=> ∃(k c:Nat) (A:Option Addr),k<=xn/\ov= .slice A k c/\iv= .int .i64 (k:Int)/\Below w1.heap.size w1 wr/\wr.ownsRow w1.heap.size 39 1 (.slice A k c) k (((x.take k).map codeA).map I16)) (fun _ iv _=>xn - (intOf iv).toNat)
 case atStart=>exact⟨0,0,none,Nat.zero_le _,rfl,rfl,Below.refl _ _,Xh0.out⟩
 case round=>
  clear Xh0
  obtain⟨k,c,A,hk,rfl,rfl,le,own⟩:=hrel
  by_cases hlk:k<xn
  ·have hlk':(k:Int)<(xn:Int):=by omega
   obtain⟨a,ha⟩: ∃a,x[k]? =some a:=⟨_,List.getElem?_eq_getElem (by rw [Xhxn.out];exact hlk)⟩
   obtain⟨⟨k0,k3⟩,n0,n1⟩:=Xhc.out a (List.mem_of_getElem? ha)
   obtain⟨-,-,-,hcell⟩:=RdIt.at_ (Rd.below Xrx.out le XhF1.out)
   obtain⟨b4,o4,rfl,-,hcc⟩:=hcell (by omega)
   obtain⟨a0,a1⟩:=hcc k a ha
   have al:Below wr.heap.size wr (wr.alloc (.cells #[.int .i64 a.1,.int .i64 a.2] 99)):=(Below.refl _ _).alloc (Nat.le_refl _) _
   have kA:Blk (wr.alloc (.cells #[.int .i64 a.1,.int .i64 a.2] 99)) wr.heap.size 99 #[.int .i64 a.1,.int .i64 a.2]:=Blk.new _ _ _
   have f0:=(kA.cell 0).trans rfl
   have f1:=(kA.cell 1).trans rfl
   have leA:=le.trans (al.mono le.size)
   have ownA:=own_below' own al
   have cc:=pack_code a.1 a.2 ⟨k0,k3⟩ ⟨n0,n1⟩ (wr.alloc (.cells #[.int .i64 a.1,.int .i64 a.2] 99))
   have hnx:((x.take k).map codeA).map I16++[I16 (codeA a)]=((x.take (k+1)).map codeA).map I16:=by rw [List.map_map,List.map_map];exact take_map_next (f:=I16∘codeA) ha
   have hca:a.1 * 16384+a.2=codeA a:=rfl
   rw [hca]at cc
   generalize codeA a=ca at *
   obtain⟨x0,x1⟩:=a
   simp only at a0 a1 al kA f0 f1 leA ownA cc
   obtain⟨us,hus⟩: ∃q,q=((x.take k).map codeA).map I16:=⟨_,rfl⟩
   rw [<-hus]at ownA hnx
   clear hus hcell hcc kA k0 k3 n0 n1 ha hca al own le
   obtain⟨XleA,XownA,Xcc,Xhnx⟩:=HqZ4 leA ownA cc hnx;clear leA ownA cc hnx
   go_wp2_with fail
   refine Xcc.out.mono ?_
   rintro e w6 ⟨rfl,b6⟩
   have le6:=XleA.out.trans (b6.mono XleA.out.size)
   have own6:=own_below' XownA.out b6
   have al7:Below w6.heap.size w6 (w6.alloc (.cells #[.int .u16 ca] 39)):=(Below.refl _ _).alloc (Nat.le_refl _) _
   have own7:=own_below' own6 al7
   have le7:=le6.trans (al7.mono le6.size)
   have rone:Rd (w6.alloc (.cells #[.int .u16 ca] 39)) (fun x=>x=w6.heap.size) (.slice (some ⟨w6.heap.size,0,none⟩) 1 1) 1 [.int .u16 ca]:=Rd.one' (w:=w6) (e:=39) [.int .u16 ca] 1 rfl
   clear b6 le6 own6 al7 Xcc XleA XownA a0 a1 f0 f1
   obtain⟨Xown7,Xle7,Xrone⟩:=HqZ3 own7 le7 rone;clear own7 le7 rone
   go_wp2_with (at_builtin;refine wp_append _ rfl (.tmp 24) (.tmp 27) _ rfl Tryz.elemU16 w1.heap.size (.slice A k c) k _ rfl Xown7.out _ _ [.int .u16 ca] 1 rfl rfl Xrone.out (by simp [Value.oneCell']) (by unfold maxLen;omega) (by omega) Xle7.out.size ?_)
   intro A8 c8 w8 own8 g8 hb8
   rw [Xhnx.out]at own8
   have le8:=Xle7.out.grown g8 Xle7.out.size (fun q hq=>(World.ownsRow.lt Xown7.out q hq).1)
   clear g8 hb8 Xown7 Xle7 Xrone Xhnx
   obtain⟨Xown8,Xle8⟩:=HqZ2 own8 le8;clear own8 le8
   go_wp2_with fail
   go_roundw
   case rel=>exact⟨k+1,c8,A8,by omega,rfl,by go_num,Xle8.out,Xown8.out⟩
   case measure=>simp [intOf];omega
  ·have hlk': ¬(k:Int)<(xn:Int):=by omega
   obtain rfl:k=xn:=by omega
   rw [List.take_of_length_le (by rw [Xhxn.out];exact Nat.le_refl _)]at own
   obtain⟨Xown,Xle⟩:=HqZ2 own le;clear own le
   go_wp2_with fail
   go_ret
   exact NumPost.mk (Xb1.out.trans (Xle.out.mono Xb1.out.size)) Xb1.out.size (by rw [List.length_map,Xhxn.out]) rfl Xown.out
set_option maxRecDepth 100000 in
set_option maxHeartbeats 4000000 in
theorem pack_numbers1 {w:World} {F:Nat->Prop} {vr va vg:Value} {t:TabD} (h:IsTab w F vr va vg t) (hf:fitT t=true) {i:Nat} {x:List Int} (hx:t.goto[i]? =some x) (hl:x.length<=70000):
  Calls Tryz.prog 45 #[TV vr t.terms t.nons va vg,.int .i64 (i:Int),.int .i64 1] w (NumPost w (x.map fun z=>z+1)):=by
 obtain⟨A1,c1,A2,c2,A3,c3,rfl,rfl,rfl,l1,l2,l3,m1,m2,m3⟩:=h.slices
 have hF:=h.lt
 obtain⟨w1,hw1⟩: ∃w1,w1=w.alloc (.cells #[.slice A1 t.rules.length c1,.int .i64 t.terms,.int .i64 t.nons,.slice A2 t.acts.length c2,.slice A3 t.goto.length c3] 44):=⟨_,rfl⟩
 have g1:=TBox.new h t.terms t.nons
 have b1:Below w.heap.size w w1:=by rw [hw1];exact(Below.refl _ w).alloc (Nat.le_refl _) _
 rw [<-hw1]at g1
 have hc:=fun a (ha:a∈x)=>fit_way hf hx ha
 obtain⟨b,off,A4,c4,hA,hFb,cx,rx,l4,m4⟩:=RdIs.row g1.tab.goto hx
 have hlt:=(List.getElem?_eq_some_iff.1 hx).1
 generalize t.terms=T at *
 generalize t.nons=N at *
 generalize t.acts.length=n at *
 generalize t.rules.length=R at *
 generalize hn:t.goto.length=m at *
 subst hA
 obtain⟨q0,q1,q2,q3,q4⟩:=g1.cells
 unfold maxLen at m4
 have hlt':(i:Int)<(m:Int):=by omega
 have hF1: ∀b,F b->b<w1.heap.size:=g1.tab.lt
 clear h hf hx g1 hF hFb hn
 generalize hxn:x.length=xn at *
 have h0:w1.ownsRow w1.heap.size 39 1 (.slice none 0 0) 0 (((x.take 0).map fun z=>z+1).map I16):=World.ownsRow_nil _ _ _ _
 obtain⟨Xhc,Xb1,Xrx,XhF1,Xhxn,Xh0⟩:=HqZ6 hc b1 rx hF1 hxn h0;clear hc b1 rx hF1 hxn h0
 rw [hw1]at cx q0 q1 q2 q3 q4
 go_enter Tryz.func45,Tryz.ntmps45
 go_wp2_with fail
 rw [<-hw1]
 clear hw1 q0 q1 q2 q3 q4 cx
 go_loopw [7,37] (fun ov iv wr=> ∃(k c:Nat) (A:Option Addr),k<=xn/\ov= .slice A k c/\iv= .int .i64 (k:Int)/\Below w1.heap.size w1 wr/\wr.ownsRow w1.heap.size 39 1 (.slice A k c) k (((x.take k).map fun z=>z+1).map I16)) (fun _ iv _=>xn - (intOf iv).toNat)
 case atStart=>exact⟨0,0,none,Nat.zero_le _,rfl,rfl,Below.refl _ _,Xh0.out⟩
 case round=>
  clear Xh0
  obtain⟨k,c,A,hk,rfl,rfl,le,own⟩:=hrel
  by_cases hlk:k<xn
  ·have hlk':(k:Int)<(xn:Int):=by omega
   obtain⟨a,ha⟩: ∃a,x[k]? =some a:=⟨_,List.getElem?_eq_getElem (by rw [Xhxn.out];exact hlk)⟩
   obtain⟨n0,n1⟩:=Xhc.out a (List.mem_of_getElem? ha)
   obtain⟨-,-,-,hcell⟩:=RdI.at_ (Rd.below Xrx.out le XhF1.out)
   obtain⟨b4,o4,rfl,-,hcc⟩:=hcell (by omega)
   have a0:=hcc k a ha
   have hnx:((x.take k).map fun z=>z+1).map I16++[I16 (a+1)]=((x.take (k+1)).map fun z=>z+1).map I16:=by rw [List.map_map,List.map_map];exact take_map_next (f:=I16∘fun z=>z+1) ha
   have hw1:IntKind.i64.wrap (a+1)=a+1:=by rw [IntKind.wrap_i64];omega
   have hw2:IntKind.u16.wrap (a+1)=a+1:=wrap_u16 (by omega) (by omega)
   have al7:Below wr.heap.size wr (wr.alloc (.cells #[.int .u16 (a+1)] 39)):=(Below.refl _ _).alloc (Nat.le_refl _) _
   have own7:=own_below' own al7
   have le7:=le.trans (al7.mono le.size)
   have rone:Rd (wr.alloc (.cells #[.int .u16 (a+1)] 39)) (fun x=>x=wr.heap.size) (.slice (some ⟨wr.heap.size,0,none⟩) 1 1) 1 [.int .u16 (a+1)]:=Rd.one' (w:=wr) (e:=39) [.int .u16 (a+1)] 1 rfl
   obtain⟨us,hus⟩: ∃q,q=((x.take k).map fun z=>z+1).map I16:=⟨_,rfl⟩
   rw [<-hus]at own7 hnx
   clear hus hcell hcc n0 n1 ha al7 own le
   obtain⟨Xown7,Xle7,Xrone,Xhnx⟩:=HqZ4 own7 le7 rone hnx;clear own7 le7 rone hnx
   go_wp2_with (at_builtin;refine wp_append _ rfl (.tmp 41) (.tmp 45) _ rfl Tryz.elemU16 w1.heap.size (.slice A k c) k _ rfl Xown7.out _ _ [.int .u16 (a+1)] 1 rfl rfl Xrone.out (by simp [Value.oneCell']) (by unfold maxLen;omega) (by omega) Xle7.out.size ?_)
   intro A8 c8 w8 own8 g8 hb8
   rw [Xhnx.out]at own8
   have le8:=Xle7.out.grown g8 Xle7.out.size (fun q hq=>(World.ownsRow.lt Xown7.out q hq).1)
   clear g8 hb8 Xown7 Xle7 Xrone Xhnx
   obtain⟨Xown8,Xle8⟩:=HqZ2 own8 le8;clear own8 le8
   go_wp2_with fail
   go_roundw
   case rel=>exact⟨k+1,c8,A8,by omega,rfl,by go_num,Xle8.out,Xown8.out⟩
   case measure=>simp [intOf];omega
  ·have hlk': ¬(k:Int)<(xn:Int):=by omega
   obtain rfl:k=xn:=by omega
   rw [List.take_of_length_le (by rw [Xhxn.out];exact Nat.le_refl _)]at own
   obtain⟨Xown,Xle⟩:=HqZ2 own le;clear own le
   go_wp2_with fail
   go_ret
   exact NumPost.mk (Xb1.out.trans (Xle.out.mono Xb1.out.size)) Xb1.out.size (by rw [List.length_map,Xhxn.out]) rfl Xown.out
end Go.Proofs.YtlpipniclimgeaaGreat

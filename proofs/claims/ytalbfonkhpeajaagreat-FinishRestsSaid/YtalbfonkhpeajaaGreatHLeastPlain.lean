/- Least words: what is computed, in plain lists; that it ends; that the end is one. Of no program. -/
import Derived.WalkKit
import Derived.Test.YtalbfonkhpeajaaGreatHAuto16
import Derived.Test.YtalbfonkhpeajaaGreatHAutoPlain
namespace Go.Proofs.YtalbfonkhpeajaaGreat
set_option linter.unusedVariables false
structure FoundD where
 is:Bool
 long:Bool
 l:List Int
def noFound:FoundD:=⟨false,false,[]⟩
def lookW (S:List FoundD) (s:Int):FoundD:=if 0≤s then(S[s.toNat]?).getD noFound else noFound
def jStep (S:List FoundD) (p:Bool×List Int) (s:Int):Bool×List Int:=
 (p.1||((lookW S s).long||decide (4096<p.2.length+(lookW S s).l.length)),if(p.1||((lookW S s).long||decide (4096<p.2.length+(lookW S s).l.length)))=true then p.2 else p.2++(lookW S s).l)
def jTo (S:List FoundD) (l:List Int):Bool×List Int:=l.foldl (jStep S) (false,[])
def joinOf (S:List FoundD) (l:List Int):FoundD:=if l.all (fun s=>(lookW S s).is)=true then⟨true,(jTo S l).1,if(jTo S l).1=true then []else(jTo S l).2⟩else noFound
def lexB:List Int→List Int→Bool
 |a::r,b::t=>if a=b then lexB r t else decide (a<b)
 |_,_=>false
def lessB (a b:List Int):Bool:=if a.length=b.length then lexB a b else decide (a.length<b.length)
def betterB (x than:FoundD):Bool:=x.is&&(!than.is||(if(x.long||than.long)=true then than.long&& !x.long else lessB x.l than.l))
def stepR (S:List FoundD) (r:Int×List Int):List FoundD×Bool:=if betterB (joinOf S r.2) (lookW S r.1)=true then(S.set r.1.toNat (joinOf S r.2),true)else(S,false)
def passTo (rs:List (Int×List Int)) (S:List FoundD):List FoundD×Bool:=rs.foldl (fun p r=>((stepR p.1 r).1,p.2||(stepR p.1 r).2)) (S,false)
def iter {X:Type} (f:X→X):Nat→X→X
 |0,x=>x
 |n+1,x=>f (iter f n x)
def Fixed (rs:List (Int×List Int)) (S0 S:List FoundD):Prop:=(∃j,S=iter (fun S=>(passTo rs S).1) j S0)∧(passTo rs S).2=false
def startW (T N:Nat):List FoundD:=⟨true,false,[]⟩::((List.range T).map (fun(i:Nat)=>(⟨true,false,[(i:Int)+1]⟩:FoundD))++List.replicate N noFound)
theorem iter_add {X:Type} (f:X→X) (a b:Nat) (x:X):iter f (a+b) x=iter f a (iter f b x):=by
 induction a with
 |zero=>rw [Nat.zero_add];rfl
 |succ a ih=>rw [Nat.succ_add];show f _=f _;rw [ih]
theorem iter_fix {X:Type} {f:X→X} {x:X} (h:f x=x) (n:Nat):iter f n x=x:=by
 induction n with
 |zero=>rfl
 |succ n ih=>show f _=x;rw [ih,h]
theorem passFrom_false {rs:List (Int×List Int)}: ∀{S:List FoundD} {b:Bool},(rs.foldl (fun(p:List FoundD×Bool) r=>((stepR p.1 r).1,p.2||(stepR p.1 r).2)) (S,b)).2=false→
  b=false∧(rs.foldl (fun(p:List FoundD×Bool) r=>((stepR p.1 r).1,p.2||(stepR p.1 r).2)) (S,b)).1=S∧ ∀r∈rs,betterB (joinOf S r.2) (lookW S r.1)=false:=by
 induction rs with
 |nil=>intro S b h;exact⟨h,rfl,fun r hr=>absurd hr (by simp)⟩
 |cons r t ih=>
  intro S b h
  rw [List.foldl_cons]at h⊢
  obtain⟨h1,h2,h3⟩:=ih h
  rw [Bool.or_eq_false_iff]at h1
  obtain⟨hb,hs⟩:=h1
  have he:betterB (joinOf S r.2) (lookW S r.1)=false:=by
   unfold stepR at hs
   by_cases e:betterB (joinOf S r.2) (lookW S r.1)=true
   ·rw [if_pos e]at hs;cases hs
   ·simpa using e
  have hS:(stepR S r).1=S:=by unfold stepR;rw [if_neg (by simp [he])]
  simp only [hS]at h2 h3
  refine⟨hb,by rw [hS];exact h2,fun q hq=> ?_⟩
  rcases List.mem_cons.1 hq with rfl|hq
  ·exact he
  ·exact h3 q hq
theorem pass_false {rs:List (Int×List Int)} {S:List FoundD} (h:(passTo rs S).2=false):(passTo rs S).1=S∧ ∀r∈rs,betterB (joinOf S r.2) (lookW S r.1)=false:=
 ⟨(passFrom_false h).2.1,(passFrom_false h).2.2⟩
theorem fixed_unique {rs:List (Int×List Int)} {S0 S S':List FoundD} (h:Fixed rs S0 S) (h':Fixed rs S0 S'):S=S':=by
 obtain⟨⟨j,hj⟩,hf⟩:=h
 obtain⟨⟨k,hk⟩,hf'⟩:=h'
 have e1:=(pass_false hf).1
 have e2:=(pass_false hf').1
 rcases Nat.le_total j k with hle|hle
 ·have:k=(k - j)+j:=by omega
  rw [this,iter_add,←hj,iter_fix e1]at hk
  exact hk.symm
 ·have:j=(j - k)+k:=by omega
  rw [this,iter_add,←hk,iter_fix e2]at hj
  exact hj
structure GoodW (T:Nat) (x:FoundD):Prop where
 no:x.is=false→x.long=false∧x.l=[]
 long:x.long=true→x.l=[]
 len:x.l.length≤4096
 digit: ∀d∈x.l,1≤d∧d≤(T:Int)
theorem GoodW.none (T:Nat):GoodW T noFound:=⟨fun _=>⟨rfl,rfl⟩,fun h=>(by cases h),(by simp [noFound]),fun d h=>absurd h (by simp [noFound])⟩
def GoodS (T:Nat) (S:List FoundD):Prop:= ∀x∈S,GoodW T x
theorem GoodS.look {T:Nat} {S:List FoundD} (h:GoodS T S) (s:Int):GoodW T (lookW S s):=by
 unfold lookW
 split
 ·rcases e:S[s.toNat]? with _|x
  ·exact GoodW.none T
  ·exact h x (List.mem_of_getElem? e)
 ·exact GoodW.none T
theorem jTo_snoc (S:List FoundD) (l:List Int) (s:Int):jTo S (l++[s])=jStep S (jTo S l) s:=by unfold jTo;rw [List.foldl_append];rfl
theorem jTo_good {T:Nat} {S:List FoundD} (h:GoodS T S) (l:List Int):(jTo S l).2.length≤4096∧ ∀d∈(jTo S l).2,1≤d∧d≤(T:Int):=by
 have: ∀(l:List Int) (p:Bool×List Int),(p.2.length≤4096∧ ∀d∈p.2,1≤d∧d≤(T:Int))→((l.foldl (jStep S) p).2.length≤4096∧ ∀d∈(l.foldl (jStep S) p).2,1≤d∧d≤(T:Int)):=by
  intro l
  induction l with
  |nil=>intro p hp;exact hp
  |cons s r ih=>
   intro p hp
   rw [List.foldl_cons]
   refine ih _ ?_
   unfold jStep
   by_cases hq:(p.1||((lookW S s).long||decide (4096<p.2.length+(lookW S s).l.length)))=true
   ·simp only [hq,if_true];exact hp
   ·simp only [if_neg hq]
    rw [Bool.not_eq_true,Bool.or_eq_false_iff,Bool.or_eq_false_iff,decide_eq_false_iff_not]at hq
    refine⟨by rw [List.length_append];omega,fun d hd=> ?_⟩
    rcases List.mem_append.1 hd with hd|hd
    ·exact hp.2 d hd
    ·exact(h.look s).digit d hd
 exact this l (false,[]) ⟨by simp,fun d hd=>absurd hd (by simp)⟩
theorem joinOf_good {T:Nat} {S:List FoundD} (h:GoodS T S) (l:List Int):GoodW T (joinOf S l):=by
 unfold joinOf
 split
 ·obtain⟨h1,h2⟩:=jTo_good h l
  refine⟨fun e=>(by cases e),fun e=> ?_,?_,fun d hd=> ?_⟩
  ·simp only at e⊢;rw [if_pos e]
  ·simp only;split
   ·simp
   ·exact h1
  ·simp only at hd
   split at hd
   ·simp at hd
   ·exact h2 d hd
 ·exact GoodW.none T
theorem stepR_good {T:Nat} {S:List FoundD} (h:GoodS T S) (r:Int×List Int):GoodS T (stepR S r).1∧(stepR S r).1.length=S.length:=by
 unfold stepR
 split
 ·refine⟨fun x hx=> ?_,by simp⟩
  rcases List.mem_or_eq_of_mem_set hx with hx|rfl
  ·exact h x hx
  ·exact joinOf_good h _
 ·exact⟨h,rfl⟩
def num (B:Nat) (l:List Int):Nat:=l.foldl (fun a d=>a * B+d.toNat) 0
theorem num_from (B:Nat): ∀(l:List Int) (a:Nat),l.foldl (fun a d=>a * B+d.toNat) a=a * B^l.length+num B l
 |[],a=>by simp [num]
 |d::r,a=>by
  unfold num
  rw [List.foldl_cons,List.foldl_cons,num_from B r,num_from B r (0 * B+d.toNat),List.length_cons,Nat.pow_succ]
  rw [Nat.add_mul,Nat.zero_mul,Nat.zero_add,Nat.mul_assoc,Nat.mul_comm B (B^r.length),Nat.add_assoc]
theorem num_cons (B:Nat) (d:Int) (r:List Int):num B (d::r)=d.toNat * B^r.length+num B r:=by
 unfold num
 rw [List.foldl_cons,num_from]
 simp [num]
theorem num_lt {B T:Nat} (hB:B=T+1): ∀{l:List Int},(∀d∈l,1≤d∧d≤(T:Int))→num B l<B^l.length
 |[],_=>by simp [num]
 |d::r,h=>by
  have h1:=num_lt hB (l:=r) (fun x hx=>h x (by simp [hx]))
  have h2:=h d (by simp)
  rw [num_cons,List.length_cons,Nat.pow_succ]
  have h3:d.toNat+1≤B:=by omega
  have h4:(d.toNat+1) * B^r.length≤B * B^r.length:=Nat.mul_le_mul_right _ h3
  rw [Nat.add_mul,Nat.one_mul]at h4
  rw [Nat.mul_comm (B^r.length) B]
  omega
theorem num_ge {B T:Nat} (hB:B=T+1) {d:Int} {r:List Int} (h: ∀x∈d::r,1≤x∧x≤(T:Int)):B^r.length≤num B (d::r):=by
 rw [num_cons]
 have h2:=h d (by simp)
 have:1 * B^r.length≤d.toNat * B^r.length:=Nat.mul_le_mul_right _ (by omega)
 omega
theorem num_lex {B T:Nat} (hB:B=T+1): ∀{a b:List Int},a.length=b.length→(∀d∈a,1≤d∧d≤(T:Int))→(∀d∈b,1≤d∧d≤(T:Int))→lexB a b=true→num B a<num B b
 |[],[],_,_,_,h=>by simp [lexB]at h
 |[],_::_,h,_,_,_=>by simp at h
 |_::_,[],h,_,_,_=>by simp at h
 |x::r,y::t,hl,ha,hb,h=>by
  have hl':r.length=t.length:=by simpa using hl
  have ha': ∀d∈r,1≤d∧d≤(T:Int):=fun d hd=>ha d (by simp [hd])
  have hb': ∀d∈t,1≤d∧d≤(T:Int):=fun d hd=>hb d (by simp [hd])
  rw [num_cons,num_cons,hl']
  unfold lexB at h
  by_cases e:x=y
  ·rw [if_pos e]at h
   have:=num_lex hB hl' ha' hb' h
   rw [e];omega
  ·rw [if_neg e,decide_eq_true_eq]at h
   have hx:=ha x (by simp)
   have hy:=hb y (by simp)
   have h1:=num_lt hB ha'
   rw [hl']at h1
   have h2:(x.toNat+1) * B^t.length≤y.toNat * B^t.length:=Nat.mul_le_mul_right _ (by omega)
   rw [Nat.add_mul,Nat.one_mul]at h2
   omega
theorem num_less {B T:Nat} (hB:B=T+1) {a b:List Int} (ha: ∀d∈a,1≤d∧d≤(T:Int)) (hb: ∀d∈b,1≤d∧d≤(T:Int)) (h:lessB a b=true):num B a<num B b:=by
 unfold lessB at h
 by_cases e:a.length=b.length
 ·rw [if_pos e]at h;exact num_lex hB e ha hb h
 ·rw [if_neg e,decide_eq_true_eq]at h
  match b,hb,h with
  |[],_,h=>simp at h
  |y::t,hb,h=>
   have h1:=num_lt hB ha
   have h2:=num_ge hB hb
   have h3:B^a.length≤B^t.length:=Nat.pow_le_pow_right (by omega) (by simp at h;omega)
   omega
def expW:Nat:=4097
theorem expW_ge:4096≤expW:=by decide
def rankW (B:Nat) (x:FoundD):Nat:=if x.is=false then B^expW+1 else if x.long=true then B^expW else num B x.l
theorem rankW_none {B:Nat} {x:FoundD} (h:x.is=false):rankW B x=B^expW+1:=by unfold rankW;rw [if_pos h]
theorem rankW_long {B:Nat} {x:FoundD} (h:x.is=true) (h2:x.long=true):rankW B x=B^expW:=by unfold rankW;rw [if_neg (by simp [h]),if_pos h2]
theorem rankW_word {B:Nat} {x:FoundD} (h:x.is=true) (h2:x.long=false):rankW B x=num B x.l:=by unfold rankW;rw [if_neg (by simp [h]),if_neg (by simp [h2])]
theorem better_rank {B T:Nat} (hB:B=T+1) {x y:FoundD} (hx:GoodW T x) (hy:GoodW T y) (h:betterB x y=true):rankW B x<rankW B y:=by
 unfold betterB at h
 rw [Bool.and_eq_true]at h
 obtain⟨hi,h⟩:=h
 have hlow: ∀z:FoundD,GoodW T z→z.long=false→num B z.l<B^expW:=fun z hz _=>by
  have:=num_lt hB hz.digit
  have h2:B^z.l.length≤B^expW:=Nat.pow_le_pow_right (by omega) (Nat.le_trans hz.len expW_ge)
  exact Nat.lt_of_lt_of_le this h2
 cases hyi:y.is with
 |false=>
  rw [rankW_none hyi]
  cases hxl:x.long with
  |true=>rw [rankW_long hi hxl];omega
  |false=>rw [rankW_word hi hxl];have:=hlow x hx hxl;omega
 |true=>
  rw [hyi]at h
  simp only [Bool.not_true,Bool.false_or]at h
  cases hxl:x.long with
  |true=>rw [hxl]at h;simp at h
  |false=>
   rw [rankW_word hi hxl]
   cases hyl:y.long with
   |true=>rw [rankW_long hyi hyl];exact hlow x hx hxl
   |false=>
    rw [rankW_word hyi hyl]
    rw [hxl,hyl]at h
    simp only [Bool.or_self,Bool.false_eq_true,if_false]at h
    exact num_less hB hx.digit hy.digit h
def totalW (B:Nat) (S:List FoundD):Nat:=(S.map (rankW B)).sum
theorem total_set {B:Nat} {S:List FoundD} {i:Nat} {x y:FoundD} (h:S[i]? =some y) (hr:rankW B x<rankW B y):totalW B (S.set i x)<totalW B S:=by
 induction S generalizing i with
 |nil=>simp at h
 |cons a r ih=>
  cases i with
  |zero=>simp at h;subst h;simp [totalW];omega
  |succ i=>
   have:=ih (i:=i) (by simpa using h)
   simp only [totalW,List.set_cons_succ,List.map_cons,List.sum_cons]at this⊢
   omega
theorem lookW_get {S:List FoundD} {s:Int} (h0:0≤s) (h:s<S.length):S[s.toNat]? =some (lookW S s):=by
 unfold lookW
 rw [if_pos h0,List.getElem?_eq_getElem (by omega)]
 rfl
theorem stepR_rank {B T:Nat} (hB:B=T+1) {S:List FoundD} {r:Int×List Int} (h:GoodS T S) (h0:0≤r.1) (h1:r.1<S.length):
  ((stepR S r).2=false∧(stepR S r).1=S)∨((stepR S r).2=true∧totalW B (stepR S r).1<totalW B S):=by
 unfold stepR
 by_cases e:betterB (joinOf S r.2) (lookW S r.1)=true
 ·rw [if_pos e]
  exact .inr ⟨rfl,total_set (lookW_get h0 h1) (better_rank hB (joinOf_good h _) (h.look _) e)⟩
 ·rw [if_neg e];exact .inl ⟨rfl,rfl⟩
theorem startW_good (T N:Nat):GoodS T (startW T N)∧(startW T N).length=T+N+1:=by
 refine⟨fun x hx=> ?_,by unfold startW;simp⟩
 unfold startW at hx
 rcases List.mem_cons.1 hx with rfl|hx
 ·exact⟨fun h=>(by cases h),fun h=>(by cases h),by simp,fun d hd=>absurd hd (by simp)⟩
 rcases List.mem_append.1 hx with hx|hx
 ·obtain⟨i,hi,rfl⟩:=List.mem_map.1 hx
  have:=List.mem_range.1 hi
  refine⟨fun h=>(by cases h),fun h=>(by cases h),by simp,fun d hd=> ?_⟩
  simp at hd
  omega
 ·rw [(List.mem_replicate.1 hx).2];exact GoodW.none T
end Go.Proofs.YtalbfonkhpeajaaGreat
namespace Go.Proofs.YtalbfonkhpeajaaGreat
set_option linter.unusedVariables false
section
def OkW (T:Nat) (w:List Int):Prop:= ∀d∈w,1≤d∧d≤(T:Int)
theorem OkW.nil (T:Nat):OkW T []:=fun d h=>by cases h
def nm (T:Nat) (w:List Int):Nat:=num (T+1) w
theorem lexB_tri: ∀{a b:List Int},a.length=b.length→lexB a b=false→a=b∨lexB b a=true
 |[],[],_,_=> .inl rfl
 |[],_::_,h,_=>by simp at h
 |_::_,[],h,_=>by simp at h
 |x::r,y::t,hl,h=>by
  have hl':r.length=t.length:=by simpa using hl
  unfold lexB at h⊢
  by_cases e:x=y
  ·rw [if_pos e]at h
   rw [if_pos e.symm]
   rcases lexB_tri hl' h with h|h
   ·exact .inl (by rw [e,h])
   ·exact .inr h
  ·rw [if_neg e,decide_eq_false_iff_not]at h
   rw [if_neg (fun e'=>e e'.symm),decide_eq_true_eq]
   exact .inr (by omega)
theorem lessB_tri {a b:List Int} (h:lessB a b=false):a=b∨lessB b a=true:=by
 unfold lessB at h⊢
 by_cases e:a.length=b.length
 ·rw [if_pos e]at h
  rw [if_pos e.symm]
  exact lexB_tri e h
 ·rw [if_neg e,decide_eq_false_iff_not]at h
  rw [if_neg (fun e'=>e e'.symm),decide_eq_true_eq]
  exact .inr (by omega)
theorem less_nm {T:Nat} {a b:List Int} (ha:OkW T a) (hb:OkW T b):lessB a b=decide (nm T a<nm T b):=by
 cases h:lessB a b with
 |true=>exact(decide_eq_true (num_less rfl ha hb h)).symm
 |false=>
  refine(decide_eq_false ?_).symm
  rcases lessB_tri h with rfl|h
  ·exact Nat.lt_irrefl _
  ·have:=num_less rfl hb ha h
   unfold nm
   omega
theorem nm_inj {T:Nat} {a b:List Int} (ha:OkW T a) (hb:OkW T b) (h:nm T a=nm T b):a=b:=by
 have h1:=less_nm ha hb
 rw [decide_eq_false (by omega)]at h1
 rcases lessB_tri h1 with e|e
 ·exact e
 ·have:=num_less rfl hb ha e
  unfold nm at h
  omega
theorem nm_len {T:Nat} {a b:List Int} (ha:OkW T a) (hb:OkW T b) (h:nm T a≤nm T b):a.length≤b.length:=by
 apply Classical.byContradiction
 intro hn
 have h1:lessB b a=true:=by
  unfold lessB
  rw [if_neg (by omega),decide_eq_true_eq]
  omega
 have:=num_less rfl hb ha h1
 unfold nm at h
 omega
abbrev Sts:=List (List It×List It)
section
variable {T : Nat} {D : Sts} {W : List (Option (List Int))}
abbrev Wos:=List (Option (List Int))
end
end
section
end
end Go.Proofs.YtalbfonkhpeajaaGreat
namespace Go.Proofs.YtalbfonkhpeajaaGreat
set_option linter.unusedVariables false
abbrev Pl:=Nat×Nat
abbrev Wd:=List Int
abbrev StpF:=Wd×Option Pl
def candF (F:Pl→Option Wd) (x:StpF):Option Wd:=match x.2 with
 |none=>if x.1.length≤4096 then some x.1 else none
 |some q=>match F q with
  |none=>none
  |some r=>if(x.1++r).length≤4096 then some (x.1++r)else none
inductive Dv (S:Pl→List StpF):Pl→Wd→Prop
 |over (p:Pl) (w:Wd):(w,none)∈S p→w.length≤4096→Dv S p w
 |step (p q:Pl) (w r:Wd):(w,some q)∈S p→Dv S q r→(w++r).length≤4096→Dv S p (w++r)
def SoundF (S:Pl→List StpF) (F:Pl→Option Wd):Prop:= ∀p w,F p=some w→Dv S p w
def ClosedF (S:Pl→List StpF) (A:Pl→Prop) (F:Pl→Option Wd):Prop:= ∀p,A p→ ∀x∈S p,∀v,candF F x=some v→ ∃w,F p=some w∧lessB v w=false
def StaysF (S:Pl→List StpF) (A:Pl→Prop):Prop:= ∀p,A p→ ∀w q,(w,some q)∈S p→A q
def OkS (T:Nat) (S:Pl→List StpF):Prop:= ∀p,∀x∈S p,OkW T x.1
theorem OkW.app {T:Nat} {a b:Wd} (ha:OkW T a) (hb:OkW T b):OkW T (a++b):=fun d hd=>by
 rcases List.mem_append.1 hd with h|h
 ·exact ha d h
 ·exact hb d h
theorem Dv.ok {T:Nat} {S:Pl→List StpF} (hS:OkS T S) {p:Pl} {w:Wd} (h:Dv S p w):OkW T w∧w.length≤4096:=by
 induction h with
 |over p w hm hl=>exact⟨hS p _ hm,hl⟩
 |step p q w r hm _ hl ih=>exact⟨(hS p _ hm).app ih.1,hl⟩
theorem nm_app {T:Nat} (w a:Wd):nm T (w++a)=nm T w * (T+1)^a.length+nm T a:=by
 unfold nm num
 rw [List.foldl_append,num_from];rfl
theorem nm_le_app {T:Nat} {w a b:Wd} (ha:OkW T a) (hb:OkW T b) (h:nm T a≤nm T b):nm T (w++a)≤nm T (w++b):=by
 rw [nm_app,nm_app]
 have hl:=nm_len ha hb h
 have:=Nat.mul_le_mul_left (nm T w) (Nat.pow_le_pow_right (by omega:0<T+1) hl)
 omega
def LeastF (T:Nat) (S:Pl→List StpF) (p:Pl):Option Wd→Prop
 |none=> ∀w,¬Dv S p w
 |some w=>Dv S p w∧ ∀v,Dv S p v→nm T w≤nm T v
theorem LeastF.unique {T:Nat} {S:Pl→List StpF} (hS:OkS T S) {p:Pl}: ∀{o o':Option Wd},LeastF T S p o→LeastF T S p o'→o=o'
 |none,none,_,_=>rfl
 |none,some w,h,h'=>absurd h'.1 (h w)
 |some w,none,h,h'=>absurd h.1 (h' w)
 |some w,some v,h,h'=>by
  have h1:=h.2 v h'.1
  have h2:=h'.2 w h.1
  rw [nm_inj (h.1.ok hS).1 (h'.1.ok hS).1 (by omega)]
theorem closed_least {T:Nat} {S:Pl→List StpF} (hS:OkS T S) {A:Pl→Prop} {F:Pl→Option Wd} (hA:StaysF S A) (hs:SoundF S F) (hc:ClosedF S A F) {p:Pl} (hp:A p):LeastF T S p (F p):=by
 have key: ∀{p:Pl} {v:Wd},Dv S p v→A p→ ∃w,F p=some w∧nm T w≤nm T v:=fun{p v} h=>by
  induction h with
  |over p w hm hl=>
   intro hp
   obtain⟨u,hu,hlt⟩:=hc p hp _ hm w (by unfold candF;simp only;rw [if_pos hl])
   refine⟨u,hu,?_⟩
   rw [less_nm (hS p _ hm) ((hs p u hu).ok hS).1]at hlt
   have h1: ¬nm T w<nm T u:=of_decide_eq_false hlt
   omega
  |step p q w r hm hr hl ih=>
   intro hp
   obtain⟨r',hr',hle⟩:=ih (hA p hp w q hm)
   have ok':=((hs q r' hr').ok hS).1
   have okr:=(hr.ok hS).1
   have hlen:=nm_len ok' okr hle
   have hc':candF F (w,some q)=some (w++r'):=by
    unfold candF
    simp only [hr']
    rw [if_pos]
    rw [List.length_append]at hl⊢
    omega
   obtain⟨u,hu,hlt⟩:=hc p hp _ hm (w++r') hc'
   refine⟨u,hu,?_⟩
   rw [less_nm ((hS p _ hm).app ok') ((hs p u hu).ok hS).1]at hlt
   have h1: ¬nm T (w++r')<nm T u:=of_decide_eq_false hlt
   have h2:=nm_le_app (w:=w) ok' okr hle
   omega
 cases hF:F p with
 |none=>exact fun w hw=>by obtain⟨u,hu,-⟩:=key hw hp;rw [hF]at hu;cases hu
 |some w=>exact⟨hs p w hF,fun v hv=>by obtain⟨u,hu,hle⟩:=key hv hp;rw [hF]at hu;cases hu;exact hle⟩
theorem cand_dv {S:Pl→List StpF} {F:Pl→Option Wd} (hs:SoundF S F) {p:Pl} {x:StpF} (hx:x∈S p) {v:Wd} (h:candF F x=some v):Dv S p v:=by
 obtain⟨w,o⟩:=x
 unfold candF at h
 cases o with
 |none=>
  simp only at h
  split at h
  ·injection h with h;subst h;exact .over p w hx (by assumption)
  ·cases h
 |some q=>
  simp only at h
  cases hq:F q with
  |none=>rw [hq]at h;cases h
  |some r=>
   rw [hq]at h
   simp only at h
   split at h
   ·injection h with h;subst h;exact .step p q w r hx (hs q r hq) (by assumption)
   ·cases h
def putF (F:Pl→Option Wd) (p:Pl) (v:Wd):Pl→Option Wd:=fun q=>if q=p then some v else F q
theorem SoundF.put {S:Pl→List StpF} {F:Pl→Option Wd} (hs:SoundF S F) {p:Pl} {v:Wd} (h:Dv S p v):SoundF S (putF F p v):=fun q w hq=>by
 unfold putF at hq
 split at hq
 ·rename_i e;injection hq with hq;subst e hq;exact h
 ·exact hs q w hq
def rankF (T:Nat):Option Wd→Nat
 |none=>(T+1)^expW
 |some w=>nm T w
theorem nm_lt {T:Nat} {w:Wd} (h:OkW T w):nm T w<(T+1)^w.length:=num_lt rfl h
theorem rank_some {T:Nat} {w:Wd} (h:OkW T w) (hl:w.length≤4096):rankF T (some w)<rankF T none:=by
 have h1:=nm_lt h
 have h2:=Nat.pow_le_pow_right (by omega:0<T+1) (Nat.le_trans hl expW_ge)
 exact Nat.lt_of_lt_of_le h1 h2
def gridF (n m:Nat):List Pl:=(List.range n).flatMap fun h=>(List.range m).map fun q=>(h,q)
theorem mem_grid {n m:Nat} {p:Pl}:p∈gridF n m↔p.1<n∧p.2<m:=by
 unfold gridF
 simp only [List.mem_flatMap,List.mem_range,List.mem_map]
 constructor
 ·rintro⟨h,h1,q,h2,rfl⟩;exact⟨h1,h2⟩
 ·rintro⟨h1,h2⟩;exact⟨p.1,h1,p.2,h2,rfl⟩
def totF (T:Nat) (F:Pl→Option Wd) (L:List Pl):Nat:=(L.map fun p=>rankF T (F p)).sum
theorem tot_put {T:Nat} {F:Pl→Option Wd} {p:Pl} {v:Wd} (h:rankF T (some v)<rankF T (F p)): ∀{L:List Pl},p∈L→totF T (putF F p v) L<totF T F L:=by
 have hle: ∀q,rankF T (putF F p v q)≤rankF T (F q):=fun q=>by
  unfold putF
  split
  ·rename_i e;subst e;omega
  ·exact Nat.le_refl _
 have hall: ∀L:List Pl,totF T (putF F p v) L≤totF T F L:=fun L=>by
  induction L with
  |nil=>exact Nat.le_refl _
  |cons q L ih=>
   unfold totF at ih⊢
   rw [List.map_cons,List.map_cons,List.sum_cons,List.sum_cons]
   have:=hle q
   omega
 intro L
 induction L with
 |nil=>intro hp;cases hp
 |cons q L ih=>
  intro hp
  unfold totF at ih⊢
  rw [List.map_cons,List.map_cons,List.sum_cons,List.sum_cons]
  rcases List.mem_cons.1 hp with rfl|hp
  ·have h1:=hall L
   unfold totF at h1
   have:rankF T (putF F p v p)=rankF T (some v):=by unfold putF;rw [if_pos rfl]
   omega
  ·have:=hle q
   have:=ih hp
   omega
theorem put_less {T:Nat} {S:Pl→List StpF} (hS:OkS T S) {F:Pl→Option Wd} (hs:SoundF S F) {p:Pl} {v:Wd} (h:Dv S p v) (hb: ∀w,F p=some w→lessB v w=true):rankF T (some v)<rankF T (F p):=by
 obtain⟨h1,h2⟩:=h.ok hS
 cases hF:F p with
 |none=>exact rank_some h1 h2
 |some w=>
  have:=hb w hF
  rw [less_nm h1 ((hs p w hF).ok hS).1]at this
  exact of_decide_eq_true this
end Go.Proofs.YtalbfonkhpeajaaGreat
namespace Go.Proofs.YtalbfonkhpeajaaGreat
set_option linter.unusedVariables false
theorem way_memF {t:List It} (hs:t.Pairwise (fun a b:It=>a.1<b.1)) {s to:Int} (h:((s,to):It)∈t):wayTo t s=to:=by
 induction t with
 |nil=>cases h
 |cons x t ih=>
  obtain⟨h1,h2⟩:=List.pairwise_cons.1 hs
  unfold wayTo
  rcases List.mem_cons.1 h with rfl|hm
  ·rw [List.find?_cons_of_pos (by simp)]
  ·have:=h1 _ hm
   rw [List.find?_cons_of_neg (by simp only [decide_eq_true_eq];simp only at this;omega)]
   exact ih h2 hm
def TrF (T:List (List It)) (i q:Nat):Prop:= ∃t sym,T[i]? =some t∧((sym,(q:Int)):It)∈t
structure RightF (L T:List (List It)) (s:List Nat):Prop where
 first:s[0]? =some 0
 low: ∀(h q:Nat),s[h]? =some q→q<L.length
 tr: ∀(h i q:Nat),s[h]? =some i→s[h+1]? =some q→TrF T i q
structure OkPl (L T:List (List It)) (s:List Nat) (p:Pl):Prop where
 h:p.1<s.length
 q:p.2<L.length
 zero:p.1=0→p.2=0
 tr: ∀(h i:Nat),p.1=h+1→s[h]? =some i→TrF T i p.2
theorem RightF.ok {L T:List (List It)} {s:List Nat} (hr:RightF L T s) {h q:Nat} (hq:s[h]? =some q):OkPl L T s (h,q) where
 h:=(List.getElem?_eq_some_iff.1 hq).1
 q:=hr.low h q hq
 zero:=fun e=>by
  simp only at e
  subst e
  rw [hr.first]at hq
  injection hq with hq
  exact hq.symm
 tr:=fun k i e hi=>by
  simp only at e
  subst e
  exact hr.tr k i q hi hq
def lowF (s:List Nat) (p:Pl) (d:Nat):Nat:=if d=0 then p.2 else(s[p.1 - d]?).getD 0
section
variable {G : GramD} {st : Int} {L T : List (List It)} {s : List Nat}
theorem kern_back (hb:Bld G st L.length L T) (hr:RightF L T s) {r:Int}: ∀(d:Nat) {p:Pl} {k:List It},OkPl L T s p→L[p.2]? =some k→((r,(d:Int)):It)∈k→rightI G st (r,(d:Int))=true→d≤p.1∧ ∃k',L[lowF s p d]? =some k'∧Cl G st k' (r,0)
 |0,p,k,hp,hk,hm,hx=>⟨Nat.zero_le _,k,hk,.base _ hm hx⟩
 |d+1,p,k,hp,hk,hm,hx=>by
  obtain⟨h,q⟩:=p
  cases h with
  |zero=>
   have:=hp.zero rfl
   simp only at this hk
   subst this
   rw [hb.f.first]at hk
   injection hk with hk
   subst hk
   have e:=List.mem_singleton.1 hm
   injection e with e1 e2
   omega
  |succ h=>
   have hl:h<s.length:=Nat.lt_of_succ_lt hp.h
   have hi:s[h]? =some s[h]:=List.getElem?_eq_getElem hl
   obtain⟨t,sym,ht,htm⟩:=hp.tr h s[h] rfl hi
   have hl':=hr.low h _ hi
   have hk':L[s[h]]? =some L[s[h]]:=List.getElem?_eq_getElem hl'
   obtain⟨-,-,-,-,e⟩:=hb.f.mem s[h] t _ ht hk' sym q htm
   simp only [Int.toNat_natCast]at e
   simp only at hk
   rw [hk]at e
   injection e with e
   subst e
   obtain⟨x,hx1,hx2,hx3⟩:=((nx_is G st L[s[h]] sym).2 _).1 hm
   obtain⟨xr,xd⟩:=x
   injection hx3 with e1 e2
   simp only at e1 e2
   subst e1
   obtain rfl:xd=(d:Int):=by omega
   have hright:=(behind_right hx2).1
   cases d with
   |zero=>
    refine⟨by simp,L[s[h]],?_,hx1⟩
    have:lowF s (h+1,q) (0+1)=s[h]:=by unfold lowF;rw [if_neg (by omega)];simp [hi]
    rw [this]
    exact hk'
   |succ d=>
    have hin:((r,((d+1:Nat):Int)):It)∈L[s[h]]:=by
     generalize hz:((r,((d+1:Nat):Int)):It)=z at hx1
     cases hx1 with
     |base x h1 h2=>exact h1
     |next y s' k' _ _ _=>injection hz with _ e;omega
    obtain⟨h1,k',h2,h3⟩:=kern_back hb hr (d+1) (hr.ok hi) hk' hin hright
    refine⟨by show d+1+1≤h+1;have:d+1≤h:=h1;omega,k',?_,h3⟩
    have:lowF s (h+1,q) (d+1+1)=lowF s (h,s[h]) (d+1):=by
     unfold lowF
     rw [if_neg (by omega),if_neg (by omega)]
     simp only
     rw [show h+1 - (d+1+1)=h - (d+1)from by omega]
    rw [this]
    exact h2
theorem OkPl.low (hr:RightF L T s) {p:Pl} {d:Nat} (hp:OkPl L T s p) (h0:0<d) (hd:d≤p.1):s[p.1 - d]? =some (lowF s p d):=by
 unfold lowF
 rw [if_neg (by omega),List.getElem?_eq_getElem (by have:=hp.h;omega)]
 rfl
theorem left_way (hK:KnA G st) (hb:Bld G st L.length L T) {i:Nat} {k:List It} {r:Int} (hk:L[i]? =some k) (hc:Cl G st k (r,0)) (hR:r≠(G.rules.length:Int)): ∃q:Nat,gotoD (stD L T) i (ruleOf G st r).1.1=(q:Int)∧q<L.length∧TrF T i q:=by
 have hi:=(List.getElem?_eq_some_iff.1 hk).1
 obtain⟨t,ht⟩: ∃t,T[i]? =some t:=⟨_,List.getElem?_eq_getElem (by rw [hb.f.len];exact hi)⟩
 generalize hz:((r,0):It)=z at hc
 cases hc with
 |base x h1 h2=>
  subst hz
  rcases hb.f.kind k (List.mem_of_getElem? hk)with e|⟨q,s,e,-⟩
  ·rw [e]at h1
   have e:=List.mem_singleton.1 h1
   injection e with e1 e2
   exact absurd e1 hR
  ·rw [e]at h1
   obtain⟨x,hx1,hx2,hx3⟩:=((nx_is G st q s).2 _).1 h1
   injection hx3 with e1 e2
   have:=(behind_right hx2).1
   unfold rightI at this
   simp only [Bool.and_eq_true,decide_eq_true_eq]at this
   omega
 |next y sy k' h1 h2 h3=>
  injection hz with hz _
  subst hz
  have hn:=hK.non sy r h3
  obtain⟨w,hw⟩:=rule_of (st:=st) h3
  have hl:(ruleOf G st r).1.1=sy:=by rw [hw]
  have hne:nxI G st k sy≠[]:=fun e=>by
   have:=((nx_is G st k sy).2 (y.1,y.2+1)).2 ⟨y,h1,h2,rfl⟩
   rw [e]at this
   cases this
  unfold isNon at hn
  simp only [Bool.and_eq_true,decide_eq_true_eq]at hn
  obtain⟨to,hto⟩:=hb.f.has i t k ht hk sy (by omega) hn.2 hne
  obtain⟨-,-,-,h0,hL⟩:=hb.f.mem i t k ht hk sy to hto
  obtain⟨q,rfl⟩: ∃q:Nat,to=(q:Int):=⟨to.toNat,by omega⟩
  rw [Int.toNat_natCast]at hL
  refine⟨q,?_,(List.getElem?_eq_some_iff.1 hL).1,t,sy,ht,hto⟩
  have hd:(stD L T)[i]? =some (k,t):=by rw [stD_get,hk,ht];rfl
  rw [hl,gotoD_in hd]
  exact way_memF (hb.f.sort t (List.mem_of_getElem? ht)) hto
def lineF (S:List FoundD) (l:List Int):Option Wd:=if(joinOf S l).is=true∧(joinOf S l).long=false then some (joinOf S l).l else none
def stepF (G:GramD) (st:Int) (D:List (List It×List It)) (S:List FoundD) (s:List Nat) (p:Pl) (x:It):Option StpF:=match lineF S ((ruleOf G st x.1).1.2.drop x.2.toNat)with
 |none=>none
 |some w=>if x.1=(G.rules.length:Int)then some (w,none)else some (w,some (p.1 - x.2.toNat+1,(gotoD D (((s[p.1 - x.2.toNat]?).getD 0:Nat):Int) (ruleOf G st x.1).1.1).toNat))
def stepsF (G:GramD) (st:Int) (D:List (List It×List It)) (S:List FoundD) (s:List Nat) (p:Pl):List StpF:=(((D[p.2]?).getD ([],[])).1).filterMap (stepF G st D S s p)
theorem kern_dot (hb:Bld G st L.length L T) {i:Nat} {k:List It} {x:It} (hk:L[i]? =some k) (hx:x∈k) (hR:x.1≠(G.rules.length:Int)):rightI G st x=true∧0<x.2:=by
 rcases hb.f.kind k (List.mem_of_getElem? hk)with e|⟨q,s,e,-⟩
 ·rw [e]at hx
  have e:=List.mem_singleton.1 hx
  exact absurd (by rw [e]) hR
 ·rw [e]at hx
  obtain⟨z,hz1,hz2,hz3⟩:=((nx_is G st q s).2 _).1 hx
  refine⟨nx_right hx,?_⟩
  have:=(behind_right hz2).1
  unfold rightI at this
  simp only [Bool.and_eq_true,decide_eq_true_eq]at this
  rw [hz3]
  simp only
  omega
theorem item_to (hK:KnA G st) (hb:Bld G st L.length L T) (hr:RightF L T s) {p:Pl} {k:List It} {x:It} (hp:OkPl L T s p) (hk:L[p.2]? =some k) (hx:x∈k) (hR:x.1≠(G.rules.length:Int)):0<x.2∧x.2.toNat≤p.1∧ ∃i q:Nat,s[p.1 - x.2.toNat]? =some i∧gotoD (stD L T) i (ruleOf G st x.1).1.1=(q:Int)∧OkPl L T s (p.1 - x.2.toNat+1,q):=by
 obtain⟨h1,h2⟩:=kern_dot hb hk hx hR
 obtain⟨r,d⟩:=x
 obtain⟨d,rfl⟩: ∃n:Nat,d=(n:Int):=⟨d.toNat,by simp only at h2;omega⟩
 obtain⟨h3,k',h4,h5⟩:=kern_back hb hr d hp hk hx h1
 simp only [Int.toNat_natCast]at h2⊢
 have hd:0<d:=by omega
 have hlow:=hp.low hr hd h3
 obtain⟨q,hq1,hq2,hq3⟩:=left_way hK hb h4 h5 hR
 refine⟨h2,h3,_,q,hlow,hq1,?_,hq2,fun e=>by simp only at e;omega,fun h i e hi=> ?_⟩
 ·have:=hp.h
  show p.1 - d+1<s.length
  omega
 ·simp only at e
  obtain rfl:h=p.1 - d:=by omega
  rw [hlow]at hi
  injection hi with hi
  rw [←hi]
  exact hq3
theorem stays_ok (hK:KnA G st) (hb:Bld G st L.length L T) (hr:RightF L T s) (S:List FoundD):StaysF (stepsF G st (stD L T) S s) (OkPl L T s):=fun p hp w q h=>by
 unfold stepsF at h
 obtain⟨k,hk⟩: ∃k,L[p.2]? =some k:=⟨_,List.getElem?_eq_getElem hp.q⟩
 rw [stD_get,hk]at h
 simp only [Option.map_some,Option.getD_some]at h
 obtain⟨x,hx,he⟩:=List.mem_filterMap.1 h
 unfold stepF at he
 split at he
 ·cases he
 ·split at he
  ·injection he with he;injection he with _ he;cases he
  ·rename_i hR
   obtain⟨h1,h2,i,q',h3,h4,h5⟩:=item_to hK hb hr hp hk hx hR
   injection he with he
   injection he with _ he
   injection he with he
   rw [h3,Option.getD_some,h4,Int.toNat_natCast]at he
   rw [←he]
   exact h5
end
end Go.Proofs.YtalbfonkhpeajaaGreat
namespace Go.Proofs.YtalbfonkhpeajaaGreat
set_option linter.unusedVariables false
def betF (F:Pl→Option Wd) (p:Pl) (x:StpF):Option Wd:=match candF F x with
 |none=>none
 |some v=>match F p with
  |none=>some v
  |some w=>if lessB v w=true then some v else none
theorem bet_some {F:Pl→Option Wd} {p:Pl} {x:StpF} {v:Wd} (h:betF F p x=some v):candF F x=some v∧ ∀w,F p=some w→lessB v w=true:=by
 unfold betF at h
 split at h
 ·cases h
 ·rename_i u hu
  split at h
  ·rename_i hF
   injection h with h
   subst h
   exact⟨hu,fun w hw=>by rw [hF]at hw;cases hw⟩
  ·rename_i w hF
   split at h
   ·rename_i hl
    injection h with h
    subst h
    exact⟨hu,fun w' hw=>by rw [hF]at hw;injection hw with hw;rw [←hw];exact hl⟩
   ·cases h
theorem bet_none {F:Pl→Option Wd} {p:Pl} {x:StpF} (h:betF F p x=none) {v:Wd} (hv:candF F x=some v): ∃w,F p=some w∧lessB v w=false:=by
 unfold betF at h
 rw [hv]at h
 simp only at h
 split at h
 ·cases h
 ·rename_i w hF
  split at h
  ·cases h
  ·rename_i hl
   exact⟨w,hF,by simpa using hl⟩
def stepRun (a:(Pl→Option Wd)×Bool) (x:Pl×StpF):(Pl→Option Wd)×Bool:=match betF a.1 x.1 x.2 with
 |none=>a
 |some v=>(putF a.1 x.1 v,true)
structure RunSt (T:Nat) (S:Pl→List StpF) (g:List Pl) (F:Pl→Option Wd) (done:List (Pl×StpF)) (a:(Pl→Option Wd)×Bool):Prop where
 sound:SoundF S a.1
 no:a.2=false→a.1=F∧ ∀x∈done,betF F x.1 x.2=none
 yes:a.2=true→totF T a.1 g<totF T F g
theorem RunSt.start {T:Nat} {S:Pl→List StpF} {g:List Pl} {F:Pl→Option Wd} (hs:SoundF S F):RunSt T S g F [] (F,false):=
 ⟨hs,fun _=>⟨rfl,fun x hx=>(by cases hx)⟩,fun h=>(by cases h)⟩
theorem RunSt.next {T:Nat} {S:Pl→List StpF} {g:List Pl} {F:Pl→Option Wd} {done:List (Pl×StpF)} {a:(Pl→Option Wd)×Bool} (hS:OkS T S) (h:RunSt T S g F done a) {x:Pl×StpF} (hx:x.2∈S x.1) (hg:x.1∈g):RunSt T S g F (done++[x]) (stepRun a x):=by
 unfold stepRun
 split
 ·rename_i hb
  refine⟨h.sound,fun e=>⟨(h.no e).1,fun y hy=> ?_⟩,h.yes⟩
  rcases List.mem_append.1 hy with hy|hy
  ·exact(h.no e).2 y hy
  ·rw [List.mem_singleton.1 hy,←(h.no e).1];exact hb
 ·rename_i v hb
  obtain⟨h1,h2⟩:=bet_some hb
  have hd:=cand_dv h.sound hx h1
  have hl:=tot_put (put_less hS h.sound hd h2) hg
  refine⟨h.sound.put hd,fun e=>(by cases e),fun _=> ?_⟩
  cases ha:a.2 with
  |false=>rw [(h.no ha).1]at hl⊢;exact hl
  |true=>exact Nat.lt_trans hl (h.yes ha)
theorem closed_of {S:Pl→List StpF} {A:Pl→Prop} {F:Pl→Option Wd} (h: ∀p,A p→ ∀x∈S p,betF F p x=none):ClosedF S A F:=fun p hp x hx v hv=>bet_none (h p hp x hx) hv
structure AllSt (S:Pl→List StpF) (A:Pl→Prop) (from_:Pl) (done todo:List Pl):Prop where
 nodup:(done++todo).Nodup
 ok: ∀p∈done++todo,A p
 from_:from_∈done++todo
 stay: ∀p∈done,∀w q,(w,some q)∈S p→q∈done++todo
theorem AllSt.start {S:Pl→List StpF} {A:Pl→Prop} {p:Pl} (h:A p):AllSt S A p [] [p]:=
 ⟨by simp,fun q hq=>by rw [List.mem_singleton.1 hq];exact h,by simp,fun q hq=>(by cases hq)⟩
structure AllIn (S:Pl→List StpF) (A:Pl→Prop) (from_:Pl) (done:List Pl) (p:Pl) (todo:List Pl) (j:Nat):Prop where
 nodup:(done++[p]++todo).Nodup
 ok: ∀q∈done++[p]++todo,A q
 from_:from_∈done++[p]++todo
 stay: ∀q∈done,∀w r,(w,some r)∈S q→r∈done++[p]++todo
 this: ∀(i:Nat) w r,i<j→(S p)[i]? =some (w,some r)→r∈done++[p]++todo
section
variable {S : Pl → List StpF} {A : Pl → Prop} {f p : Pl} {done todo : List Pl} {j : Nat}
theorem AllSt.take (h:AllSt S A f done (p::todo)):AllIn S A f done p todo 0:=by
 have e:done++p::todo=done++[p]++todo:=by simp
 exact⟨e▸h.nodup,fun q hq=>h.ok q (e▸hq),e▸h.from_,fun q hq w r hr=>e▸h.stay q hq w r hr,fun i w r hi=>(by omega)⟩
theorem AllIn.back (h:AllIn S A f done p todo j) (hj:(S p).length≤j):AllSt S A f (done++[p]) todo:=by
 refine⟨h.nodup,h.ok,h.from_,fun q hq w r hr=> ?_⟩
 rcases List.mem_append.1 hq with hq|hq
 ·exact h.stay q hq w r hr
 ·rw [List.mem_singleton.1 hq]at hr
  obtain⟨i,hi,e⟩:=List.getElem_of_mem hr
  exact h.this i w r (by omega) (by rw [List.getElem?_eq_getElem hi,e])
theorem AllIn.skip {x:StpF} (h:AllIn S A f done p todo j) (hx:(S p)[j]? =some x) (hm: ∀r,x.2=some r→r∈done++[p]++todo):AllIn S A f done p todo (j+1):=by
 refine⟨h.nodup,h.ok,h.from_,h.stay,fun i w r hi hr=> ?_⟩
 by_cases e:i=j
 ·subst e;rw [hx]at hr;injection hr with hr;exact hm r (by rw [hr])
 ·exact h.this i w r (by omega) hr
theorem AllIn.put {x:StpF} {r:Pl} (h:AllIn S A f done p todo j) (hx:(S p)[j]? =some x) (hr:x.2=some r) (hA:A r) (hn:r∉done++[p]++todo):AllIn S A f done p (todo++[r]) (j+1):=by
 have up: ∀{q:Pl},q∈done++[p]++todo→q∈done++[p]++(todo++[r]):=fun{q} hq=>by
  rw [←List.append_assoc];exact List.mem_append_left _ hq
 have last:r∈done++[p]++(todo++[r]):=by simp
 refine⟨?_,fun q hq=> ?_,up h.from_,fun q hq w u hu=>up (h.stay q hq w u hu),fun i w u hi hu=> ?_⟩
 ·rw [←List.append_assoc,List.nodup_append]
  refine⟨h.nodup,by simp,fun a ha b hb e=> ?_⟩
  rw [List.mem_singleton.1 hb]at e
  exact hn (e▸ha)
 ·rw [←List.append_assoc]at hq
  rcases List.mem_append.1 hq with hq|hq
  ·exact h.ok q hq
  ·rw [List.mem_singleton.1 hq];exact hA
 ·by_cases e:i=j
  ·subst e;rw [hx]at hu;injection hu with hu;subst hu;injection hr with hr;rw [hr];exact last
  ·exact up (h.this i w u (by omega) hu)
theorem AllSt.stays (h:AllSt S A f done []):StaysF S (fun q=>q∈done):=fun q hq w r hr=>by
 have:=h.stay q hq w r hr
 rwa [List.append_nil]at this
end
theorem sub_len {α:Type} [DecidableEq α]: ∀{l g:List α},l.Nodup→(∀x∈l,x∈g)→l.length≤g.length
 |[],g,_,_=>Nat.zero_le _
 |x::l,g,hn,h=>by
  obtain⟨h1,h2⟩:=List.nodup_cons.1 hn
  have hx:=h x (List.mem_cons_self ..)
  have:=sub_len (g:=g.erase x) h2 fun y hy=>(List.mem_erase_of_ne (fun e:y=x=>h1 (by rw [←e];exact hy))).2 (h y (List.mem_cons_of_mem _ hy))
  rw [List.length_erase_of_mem hx]at this
  have:=List.length_pos_of_mem hx
  rw [List.length_cons]
  omega
theorem grid_size {m:Nat}: ∀n,(gridF n m).length=n * m
 |0=>by unfold gridF;simp
 |n+1=>by
  have:=grid_size (m:=m) n
  unfold gridF at this⊢
  rw [List.range_succ,List.flatMap_append,List.length_append,this]
  simp [Nat.succ_mul]
def allF (S:Pl→List StpF) (l:List Pl):List (Pl×StpF):=l.flatMap fun p=>(S p).map fun x=>(p,x)
theorem allF_snoc {S:Pl→List StpF} {l:List Pl} {p:Pl}:allF S (l++[p])=allF S l++(S p).map fun x=>(p,x):=by unfold allF;rw [List.flatMap_append];simp
theorem mem_allF {S:Pl→List StpF} {l:List Pl} {x:Pl×StpF}:x∈allF S l↔x.1∈l∧x.2∈S x.1:=by
 unfold allF
 simp only [List.mem_flatMap,List.mem_map]
 constructor
 ·rintro⟨p,h1,y,h2,rfl⟩;exact⟨h1,h2⟩
 ·rintro⟨h1,h2⟩;exact⟨x.1,h1,x.2,h2,rfl⟩
end Go.Proofs.YtalbfonkhpeajaaGreat
namespace Go.Proofs.YtalbfonkhpeajaaGreat
set_option linter.unusedVariables false
def nodeR (N:List Pl) (x:StpF):List Pl:=match x.2 with
 |none=>N
 |some r=>if r∈N then N else N++[r]
def bestR (F:Pl→Option Wd) (p:Pl) (x:StpF):Pl→Option Wd:=match betF F p x with
 |none=>F
 |some v=>putF F p v
structure RefSt (T:Nat) (S:Pl→List StpF) (A:Pl→Prop) (g:List Pl) (f:Pl) (N0:List Pl) (F0:Pl→Option Wd) (done:List (Pl×StpF)) (N:List Pl) (F:Pl→Option Wd) (more:Bool):Prop where
 nodup:N.Nodup
 ok: ∀p∈N,A p
 first:N[0]? =some f
 pre: ∃e,N=N0++e
 sound:SoundF S F
 out: ∀p,p∉N→F p=none
 no:more=false→N=N0∧F=F0∧ ∀x∈done,betF F0 x.1 x.2=none∧ ∀r,x.2.2=some r→r∈N0
 yes:more=true→(g.length - N.length)+totF T F g<(g.length - N0.length)+totF T F0 g
 le:(g.length - N.length)+totF T F g≤(g.length - N0.length)+totF T F0 g
section
variable {T : Nat} {S : Pl → List StpF} {A : Pl → Prop} {g : List Pl} {f : Pl} {N0 N : List Pl} {F0 F : Pl → Option Wd} {done : List (Pl × StpF)} {more : Bool}
theorem RefSt.again (h:RefSt T S A g f N0 F0 done N F more):RefSt T S A g f N F [] N F false:=
 ⟨h.nodup,h.ok,h.first,⟨[],by simp⟩,h.sound,h.out,fun _=>⟨rfl,rfl,fun x hx=>(by cases hx)⟩,fun e=>(by cases e),Nat.le_refl _⟩
theorem RefSt.start (hf:A f):RefSt T S A g f [f] (fun _=>none) [] [f] (fun _=>none) false:=
 ⟨by simp,fun p hp=>by rw [List.mem_singleton.1 hp];exact hf,rfl,⟨[],rfl⟩,fun p w h=>(by cases h),fun p _=>rfl,fun _=>⟨rfl,rfl,fun x hx=>(by cases hx)⟩,fun e=>(by cases e),Nat.le_refl _⟩
theorem RefSt.next (hS:OkS T S) (hg: ∀p,A p→p∈g) (hA:StaysF S A) (h:RefSt T S A g f N0 F0 done N F more) {p:Pl} {x:StpF} (hp:p∈N) (hx:x∈S p):
  RefSt T S A g f N0 F0 (done++[(p,x)]) (nodeR N x) (bestR F p x) (more||((betF F p x).isSome||decide ((nodeR N x).length≠N.length))):=by
 have lenN:N.length≤g.length:=sub_len h.nodup fun q hq=>hg q (h.ok q hq)
 cases hn:x.2 with
 |some r=>
  by_cases hr:r∈N
  ·have eN:nodeR N x=N:=by unfold nodeR;rw [hn];exact if_pos hr
   rw [eN]
   cases hb:betF F p x with
   |none=>
    have eF:bestR F p x=F:=by unfold bestR;rw [hb]
    rw [eF]
    simp only [Option.isSome_none,ne_eq,not_true_eq_false,decide_false,Bool.or_false]
    refine⟨h.nodup,h.ok,h.first,h.pre,h.sound,h.out,fun e=> ?_,h.yes,h.le⟩
    obtain⟨h1,h2,h3⟩:=h.no e
    refine⟨h1,h2,fun y hy=> ?_⟩
    rcases List.mem_append.1 hy with hy|hy
    ·exact h3 y hy
    ·rw [List.mem_singleton.1 hy]
     exact⟨h2▸hb,fun r' e'=>by simp only at e';rw [hn]at e';injection e' with e';rw [←e',←h1];exact hr⟩
   |some v=>
    have eF:bestR F p x=putF F p v:=by unfold bestR;rw [hb]
    rw [eF]
    obtain⟨h1,h2⟩:=bet_some hb
    have hd:=cand_dv h.sound hx h1
    have hl:=tot_put (put_less hS h.sound hd h2) (hg p (h.ok p hp))
    have:=h.le
    refine⟨h.nodup,h.ok,h.first,h.pre,h.sound.put hd,fun q hq=> ?_,fun e=> ?_,fun _=>by omega,by omega⟩
    ·unfold putF
     rw [if_neg (fun e:q=p=>hq (by rw [e];exact hp))]
     exact h.out q hq
    ·simp at e
  ·have eN:nodeR N x=N++[r]:=by unfold nodeR;rw [hn];exact if_neg hr
   have hb:betF F p x=none:=by unfold betF candF;rw [hn];simp only [h.out r hr]
   have eF:bestR F p x=F:=by unfold bestR;rw [hb]
   have hAr:A r:=hA p (h.ok p hp) x.1 r (by rw [←hn];exact hx)
   rw [eN,eF]
   have hnd:(N++[r]).Nodup:=by
    rw [List.nodup_append]
    refine⟨h.nodup,by simp,fun a ha b hb e=> ?_⟩
    rw [List.mem_singleton.1 hb]at e
    exact hr (e▸ha)
   have hok: ∀q∈N++[r],A q:=fun q hq=>by
    rcases List.mem_append.1 hq with hq|hq
    ·exact h.ok q hq
    ·rw [List.mem_singleton.1 hq];exact hAr
   have l2:(N++[r]).length≤g.length:=sub_len hnd fun q hq=>hg q (hok q hq)
   rw [List.length_append,List.length_singleton]at l2
   have:=h.le
   obtain⟨e,he⟩:=h.pre
   refine⟨hnd,hok,?_,⟨e++[r],by rw [he,List.append_assoc]⟩,h.sound,fun q hq=>h.out q fun hq'=>hq (List.mem_append_left _ hq'),fun e=> ?_,fun _=> ?_,?_⟩
   ·rw [List.getElem?_append_left (List.getElem?_eq_some_iff.1 h.first).1];exact h.first
   ·simp at e
   ·rw [List.length_append,List.length_singleton];omega
   ·rw [List.length_append,List.length_singleton];omega
 |none=>
  have eN:nodeR N x=N:=by unfold nodeR;rw [hn]
  rw [eN]
  cases hb:betF F p x with
  |none=>
   have eF:bestR F p x=F:=by unfold bestR;rw [hb]
   rw [eF]
   simp only [Option.isSome_none,ne_eq,not_true_eq_false,decide_false,Bool.or_false]
   refine⟨h.nodup,h.ok,h.first,h.pre,h.sound,h.out,fun e=> ?_,h.yes,h.le⟩
   obtain⟨h1,h2,h3⟩:=h.no e
   refine⟨h1,h2,fun y hy=> ?_⟩
   rcases List.mem_append.1 hy with hy|hy
   ·exact h3 y hy
   ·rw [List.mem_singleton.1 hy]
    exact⟨h2▸hb,fun r' e'=>by simp only at e';rw [hn]at e';cases e'⟩
  |some v=>
   have eF:bestR F p x=putF F p v:=by unfold bestR;rw [hb]
   rw [eF]
   obtain⟨h1,h2⟩:=bet_some hb
   have hd:=cand_dv h.sound hx h1
   have hl:=tot_put (put_less hS h.sound hd h2) (hg p (h.ok p hp))
   have:=h.le
   refine⟨h.nodup,h.ok,h.first,h.pre,h.sound.put hd,fun q hq=> ?_,fun e=> ?_,fun _=>by omega,by omega⟩
   ·unfold putF
    rw [if_neg (fun e:q=p=>hq (by rw [e];exact hp))]
    exact h.out q hq
   ·simp at e
theorem RefSt.end_ (h:RefSt T S A g f N0 F0 done N F false) (hd: ∀p∈N0,∀x∈S p,(p,x)∈done):StaysF S (fun p=>p∈N)∧ClosedF S (fun p=>p∈N) F:=by
 obtain⟨rfl,rfl,h3⟩:=h.no rfl
 exact⟨fun p hp w q hq=>(h3 _ (hd p hp _ hq)).2 q rfl,closed_of fun p hp x hx=>(h3 _ (hd p hp x hx)).1⟩
end
end Go.Proofs.YtalbfonkhpeajaaGreat
namespace Go.Proofs.YtalbfonkhpeajaaGreat
set_option linter.unusedVariables false
def AllOk (T:Nat) (S:List FoundD):Prop:= ∀f∈S,OkW T f.l
theorem AllOk.look {T:Nat} {S:List FoundD} (h:AllOk T S) (s:Int):OkW T (lookW S s).l:=by
 unfold lookW
 split
 ·cases e:S[s.toNat]? with
  |none=>exact OkW.nil T
  |some f=>exact h f (List.mem_of_getElem? e)
 ·exact OkW.nil T
theorem AllOk.jto {T:Nat} {S:List FoundD} (h:AllOk T S) (l:List Int):OkW T (jTo S l).2:=by
 have key: ∀(l:List Int) (p:Bool×List Int),OkW T p.2→OkW T (l.foldl (jStep S) p).2:=fun l=>by
  induction l with
  |nil=>intro p hp;exact hp
  |cons x l ih=>
   intro p hp
   refine ih _ ?_
   unfold jStep
   simp only
   split
   ·exact hp
   ·exact hp.app (h.look x)
 exact key l _ (OkW.nil T)
theorem AllOk.join {T:Nat} {S:List FoundD} (h:AllOk T S) (l:List Int):OkW T (joinOf S l).l:=by
 unfold joinOf
 split
 ·simp only
  split
  ·exact OkW.nil T
  ·exact h.jto l
 ·exact OkW.nil T
theorem AllOk.step {T:Nat} {S:List FoundD} (h:AllOk T S) (r:Int×List Int):AllOk T (stepR S r).1:=by
 unfold stepR
 split
 ·intro f hf
  rcases List.mem_or_eq_of_mem_set hf with hf|rfl
  ·exact h f hf
  ·exact h.join r.2
 ·exact h
theorem AllOk.pass {T:Nat} {rs:List (Int×List Int)} {S:List FoundD} (h:AllOk T S):AllOk T (passTo rs S).1:=by
 unfold passTo
 have key: ∀(rs:List (Int×List Int)) (p:List FoundD×Bool),AllOk T p.1→AllOk T (rs.foldl (fun p r=>((stepR p.1 r).1,p.2||(stepR p.1 r).2)) p).1:=fun rs=>by
  induction rs with
  |nil=>intro p hp;exact hp
  |cons r rs ih=>intro p hp;exact ih _ (hp.step r)
 exact key rs _ h
theorem start_ok (T N:Nat):AllOk T (startW T N):=fun f hf=>by
 unfold startW at hf
 rcases List.mem_cons.1 hf with rfl|hf
 ·exact OkW.nil T
 ·rcases List.mem_append.1 hf with hf|hf
  ·obtain⟨i,hi,rfl⟩:=List.mem_map.1 hf
   have:=List.mem_range.1 hi
   intro d hd
   rw [List.mem_singleton.1 hd]
   omega
  ·rw [(List.mem_replicate.1 hf).2];exact OkW.nil T
theorem fixed_ok {T N:Nat} {rs:List (Int×List Int)} {S:List FoundD} (h:Fixed rs (startW T N) S):AllOk T S:=by
 obtain⟨⟨j,rfl⟩,-⟩:=h
 induction j with
 |zero=>exact start_ok T N
 |succ j ih=>exact ih.pass
theorem steps_ok {T:Nat} {G:GramD} {st:Int} {D:List (List It×List It)} {S:List FoundD} {s:List Nat} (h:AllOk T S):OkS T (stepsF G st D S s):=fun p x hx=>by
 unfold stepsF at hx
 obtain⟨y,-,he⟩:=List.mem_filterMap.1 hx
 unfold stepF at he
 split at he
 ·cases he
 ·rename_i w hw
  have ok:OkW T w:=by
   unfold lineF at hw
   split at hw
   ·injection hw with hw;rw [←hw];exact h.join _
   ·cases hw
  split at he<;>injection he with he<;>rw [←he]<;>exact ok
theorem ok_grid {L T:List (List It)} {s:List Nat} {p:Pl} (h:OkPl L T s p):p∈gridF s.length L.length:=mem_grid.2 ⟨h.h,h.q⟩
end Go.Proofs.YtalbfonkhpeajaaGreat

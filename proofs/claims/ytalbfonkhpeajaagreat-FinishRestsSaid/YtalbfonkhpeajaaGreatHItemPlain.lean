/- Items: plain laws. Of no program. -/
import Derived.Test.YtalbfonkhpeajaaGreatHG1
import Derived.Shelf.SlSortCmp.NoneTotal
import Derived.Test.YtalbfonkhpeajaaGreatHBase
import Derived.Test.YtalbfonkhpeajaaGreatHG7
import Derived.Test.YtalbfonkhpeajaaGreatHRegion
import Derived.Laws.StructEq
import Derived.Shelf.SlicesE.Kit
import Derived.Shelf.SlicesG.Cmp
import Derived.Test.YtalbfonkhpeajaaGreatProg
import Derived.Shelf.Strings.Builder1
namespace Go.Proofs.YtalbfonkhpeajaaGreat
set_option linter.unusedVariables false
section
abbrev It:=Int×Int
def itLt (a b:It):Bool:=decide (a.1<b.1)||(decide (a.1=b.1)&&decide (a.2<b.2))
theorem itLt_iff {a b:It}:itLt a b=true↔a.1<b.1∨(a.1=b.1∧a.2<b.2):=by
 unfold itLt;simp
theorem itLt_not {a b:It}:itLt a b=false↔ ¬(a.1<b.1∨(a.1=b.1∧a.2<b.2)):=by
 rw [←itLt_iff,Bool.not_eq_true]
theorem itLt_irr (a:It):itLt a a=false:=by rw [itLt_not];omega
theorem itLt_trans {a b c:It} (h1:itLt a b=true) (h2:itLt b c=true):itLt a c=true:=by
 rw [itLt_iff]at *;omega
theorem itLt_tri {a b:It} (h1:itLt a b=false) (h2:itLt b a=false):a=b:=by
 rw [itLt_not]at *
 exact Prod.ext (by omega) (by omega)
def StrictI (l:List It):Prop:=l.Pairwise (fun a b=>itLt a b=true)
theorem strict_unique: ∀{a b:List It},StrictI a→StrictI b→(∀x,x∈a↔x∈b)→a=b
 |[],[],_,_,_=>rfl
 |[],y::t,_,_,h=>absurd ((h y).2 (List.mem_cons_self ..)) (by simp)
 |x::r,[],_,_,h=>absurd ((h x).1 (List.mem_cons_self ..)) (by simp)
 |x::r,y::t,ha,hb,h=>by
  obtain⟨a1,a2⟩:=List.pairwise_cons.1 ha
  obtain⟨b1,b2⟩:=List.pairwise_cons.1 hb
  have e:x=y:=by
   rcases List.mem_cons.1 ((h x).1 (List.mem_cons_self ..))with e|e
   ·exact e
   ·rcases List.mem_cons.1 ((h y).2 (List.mem_cons_self ..))with e'|e'
    ·exact e'.symm
    ·have:=itLt_trans (a1 y e') (b1 x e)
     rw [itLt_irr]at this;cases this
  subst e
  rw [strict_unique a2 b2 fun z=> ?_]
  constructor
  ·intro hz
   rcases List.mem_cons.1 ((h z).1 (List.mem_cons_of_mem _ hz))with e|e
   ·subst e;have:=a1 z hz;rw [itLt_irr]at this;cases this
   ·exact e
  ·intro hz
   rcases List.mem_cons.1 ((h z).2 (List.mem_cons_of_mem _ hz))with e|e
   ·subst e;have:=b1 z hz;rw [itLt_irr]at this;cases this
   ·exact e
theorem StrictI.nodup {l:List It} (h:StrictI l):l.Nodup:=by
 refine List.Pairwise.imp (fun{a b} hab e=> ?_) h
 subst e;rw [itLt_irr]at hab;cases hab
def putI (x:It):List It→List It
 |[]=>[x]
 |y::r=>if itLt y x=true then y::putI x r else if y=x then y::r else x::y::r
theorem mem_putI {x z:It}: ∀{l:List It},z∈putI x l↔z=x∨z∈l
 |[]=>by simp [putI]
 |y::r=>by
  unfold putI
  split
  ·rw [List.mem_cons,mem_putI,List.mem_cons]
   constructor
   ·rintro(h|h|h)<;>simp [h]
   ·rintro(h|h|h)<;>simp [h]
  ·split
   ·rename_i _ e;subst e;simp
   ·simp
theorem strict_put {x:It}: ∀{l:List It},StrictI l→StrictI (putI x l)
 |[],_=>List.pairwise_singleton _ _
 |y::r,h=>by
  obtain⟨h1,h2⟩:=List.pairwise_cons.1 h
  unfold putI
  split
  ·rename_i hlt
   refine List.pairwise_cons.2 ⟨fun z hz=> ?_,strict_put h2⟩
   rcases mem_putI.1 hz with rfl|hz
   ·exact hlt
   ·exact h1 z hz
  ·rename_i hlt
   split
   ·exact h
   ·rename_i hne
    have hxy:itLt x y=true:=by
     cases e:itLt x y with
     |true=>rfl
     |false=>exact absurd (itLt_tri (by simpa using hlt) e) hne
    refine List.pairwise_cons.2 ⟨fun z hz=> ?_,h⟩
    rcases List.mem_cons.1 hz with rfl|hz
    ·exact hxy
    ·exact itLt_trans hxy (h1 z hz)
theorem put_at {x:It}: ∀{l:List It} {k:Nat},k≤l.length→(∀j y,j<k→l[j]? =some y→itLt y x=true)→(∀y,l[k]? =some y→itLt y x=false)→
  putI x l=if l[k]? =some x then l else l.take k++x::l.drop k
 |[],k,hk,_,_=>by
  have:k=0:=by simpa using hk
  subst this;simp [putI]
 |y::r,0,_,_,h2=>by
  have:=h2 y rfl
  unfold putI
  rw [if_neg (by simp [this])]
  by_cases e:y=x
  ·rw [if_pos e];simp [e]
  ·rw [if_neg e];simp [e]
 |y::r,k+1,hk,h1,h2=>by
  unfold putI
  rw [if_pos (h1 0 y (by omega) rfl)]
  rw [put_at (l:=r) (k:=k) (by simpa using hk) (fun j z hj hz=>h1 (j+1) z (by omega) (by simpa using hz)) (fun z hz=>h2 z (by simpa using hz))]
  rw [List.getElem?_cons_succ]
  split<;>simp
def canonI (l:List It):List It:=l.foldl (fun o x=>putI x o) []
theorem canon_from: ∀(l o:List It),StrictI o→StrictI (l.foldl (fun o x=>putI x o) o)∧ ∀z,z∈l.foldl (fun o x=>putI x o) o↔z∈l∨z∈o
 |[],o,h=>⟨h,fun z=>by simp⟩
 |x::r,o,h=>by
  obtain⟨h1,h2⟩:=canon_from r (putI x o) (strict_put h)
  refine⟨h1,fun z=> ?_⟩
  rw [List.foldl_cons,h2,mem_putI,List.mem_cons]
  constructor
  ·rintro(h|h|h)<;>simp [h]
  ·rintro((h|h)|h)<;>simp [h]
theorem canon_strict (l:List It):StrictI (canonI l):=(canon_from l [] List.Pairwise.nil).1
theorem mem_canon {l:List It} {z:It}:z∈canonI l↔z∈l:=by
 rw [show(z∈canonI l)=_ from rfl]
 unfold canonI
 rw [(canon_from l [] List.Pairwise.nil).2];simp
theorem canon_snoc (l:List It) (x:It):canonI (l++[x])=putI x (canonI l):=by unfold canonI;rw [List.foldl_append];rfl
theorem canon_eq {l o:List It} (h:StrictI o) (hm: ∀z,z∈o↔z∈l):o=canonI l:=strict_unique h (canon_strict l) fun z=>by rw [hm,mem_canon]
theorem put_len (x:It): ∀l:List It,(putI x l).length≤l.length+1
 |[]=>by simp [putI]
 |y::r=>by
  unfold putI
  split
  ·have:=put_len x r;simp;omega
  ·split<;>simp
theorem canon_len (l:List It):(canonI l).length≤l.length:=by
 have: ∀(l o:List It),(l.foldl (fun o x=>putI x o) o).length≤l.length+o.length:=by
  intro l
  induction l with
  |nil=>intro o;simp
  |cons x r ih=>intro o;rw [List.foldl_cons];have:=ih (putI x o);have:=put_len x o;simp;omega
 have:=this l []
 simpa [canonI]using this
theorem put_ne {x:It} {l:List It}:putI x l≠[]:=fun e=>by
 have:=(mem_putI (x:=x) (z:=x) (l:=l)).2 (.inl rfl)
 rw [e]at this;cases this
def WeakI (l:List It):Prop:=l.Pairwise (fun a b=>itLt b a=false)
def compI (l:List It):List It:=l.foldl (fun o x=>if o.getLast? =some x then o else o++[x]) []
theorem comp_snoc (l:List It) (x:It):compI (l++[x])=if(compI l).getLast? =some x then compI l else compI l++[x]:=by unfold compI;rw [List.foldl_append];rfl
theorem comp_last: ∀(l:List It),(compI l).getLast? =l.getLast? :=by
 intro l
 rcases List.eq_nil_or_concat l with rfl|⟨p,x,rfl⟩
 ·rfl
 ·rw [List.concat_eq_append,comp_snoc]
  split
  ·rename_i h;rw [h];simp
  ·simp
theorem comp_strict: ∀(n:Nat) (l:List It),l.length=n→WeakI l→StrictI (compI l)∧ ∀z,z∈compI l↔z∈l
 |0,l,hn,_=>by
  obtain rfl:=List.length_eq_zero_iff.1 hn
  exact⟨List.Pairwise.nil,fun z=>Iff.rfl⟩
 |n+1,l,hn,h=>by
  rcases List.eq_nil_or_concat l with rfl|⟨p,x,rfl⟩
  ·simp at hn
  ·rw [List.concat_eq_append]at hn h⊢
   obtain⟨h1,h2,h3⟩:=List.pairwise_append.1 h
   obtain⟨k1,k2⟩:=comp_strict n p (by simpa using hn) h1
   rw [comp_snoc]
   split
   ·rename_i e
    refine⟨k1,fun z=> ?_⟩
    rw [k2,List.mem_append,List.mem_singleton]
    refine⟨.inl,fun hz=>hz.elim id fun e'=> ?_⟩
    subst e'
    exact(k2 z).1 (List.mem_of_getLast? e)
   ·rename_i e
    refine⟨List.pairwise_append.2 ⟨k1,List.pairwise_singleton _ _,fun a ha b hb=> ?_⟩,fun z=>by rw [List.mem_append,k2,List.mem_append]⟩
    obtain rfl:=List.mem_singleton.1 hb
    have hle:=h3 a ((k2 a).1 ha) b (by simp)
    cases e1:itLt a b with
    |true=>rfl
    |false=>
     exfalso
     have hab:=itLt_tri e1 hle
     subst hab
     -- a stands in compI p,and is the greatest of them:so it is the last
     obtain⟨q,y,hq⟩: ∃q y,compI p=q++[y]:=by
      rcases List.eq_nil_or_concat (compI p)with hq|⟨q,y,hq⟩
      ·rw [hq]at ha;cases ha
      ·exact⟨q,y,by rw [hq,List.concat_eq_append]⟩
     rw [hq]at ha e k1
     have hy:y≠a:=fun e'=>e (by rw [e'];simp)
     rcases List.mem_append.1 ha with ha'|ha'
     ·have h4:=(List.pairwise_append.1 k1).2.2 a ha' y (by simp)
      have h5:=h3 y ((k2 y).1 (by rw [hq];simp)) a (by simp)
      rw [h4]at h5;cases h5
     ·exact hy (List.mem_singleton.1 ha').symm
theorem comp_canon {l o:List It} (h:WeakI o) (hm: ∀z,z∈o↔z∈l):compI o=canonI l:=by
 obtain⟨h1,h2⟩:=comp_strict _ o rfl h
 exact canon_eq h1 fun z=>by rw [h2,hm]
theorem comp_next {l:List It} {r:Nat} {x y:It} (hy:l[r]? =some y) (hx:l[r+1]? =some x):compI (l.take (r+2))=if y=x then compI (l.take (r+1))else compI (l.take (r+1))++[x]:=by
 have h1:l.take (r+1+1)=l.take (r+1)++[x]:=by rw [List.take_add_one,hx];rfl
 have h2:l.take (r+1)=l.take r++[y]:=by rw [List.take_add_one,hy];rfl
 rw [show r+2=r+1+1 from rfl,h1,comp_snoc,comp_last]
 have:(l.take (r+1)).getLast? =some y:=by rw [h2];simp
 rw [this]
 by_cases e:y=x
 ·rw [if_pos e,if_pos (by rw [e])]
 ·rw [if_neg e,if_neg (fun h=>e (by injection h))]
theorem comp_first {l:List It}:compI (l.take 1)=l.take 1:=by
 cases l with
 |nil=>rfl
 |cons x r=>rfl
theorem comp_short {l:List It} (h:l.length<2):compI l=l:=by
 match l,h with
 |[],_=>rfl
 |[x],_=>rfl
def rightI (G:GramD) (st:Int) (x:It):Bool:=(ruleOf G st x.1).2&&(decide (0≤x.2)&&decide (x.2≤(ruleOf G st x.1).1.2.length))
def behindI (G:GramD) (st:Int) (x:It):Int×Bool:=if rightI G st x=true∧x.2<(ruleOf G st x.1).1.2.length then(((ruleOf G st x.1).1.2[x.2.toNat]?).getD 0,true)else(0,false)
inductive Cl (G:GramD) (st:Int) (l:List It):It→Prop
 |base (x:It):x∈l→rightI G st x=true→Cl G st l x
 |next (y:It) (s k:Int):Cl G st l y→behindI G st y=(s,true)→k∈ofOf G s→Cl G st l (k,0)
def stepsI (G:GramD) (st:Int) (l:List It) (s:Int):List It:=(l.filter fun x=>decide (behindI G st x=(s,true))).map fun x=>(x.1,x.2+1)
theorem ruleOf_nat {G:GramD} {st:Int} {n:Nat} {r:Int×List Int} (h:G.rules[n]? =some r):ruleOf G st n=(r,true):=by
 have hn:=(List.getElem?_eq_some_iff.1 h).1
 unfold ruleOf
 rw [if_neg (by omega),if_neg (by omega),Int.toNat_natCast,h];rfl
theorem right_new {G:GramD} {st s k:Int} (h:k∈ofOf G s):rightI G st (k,0)=true:=by
 obtain⟨n,x,rfl,hx⟩:=of_mem.1 h
 unfold rightI
 rw [ruleOf_nat hx]
 simp
theorem Cl.right {G:GramD} {st:Int} {l:List It} {x:It} (h:Cl G st l x):rightI G st x=true:=by
 cases h with
 |base _ _ h=>exact h
 |next y s k _ _ h=>exact right_new h
theorem behind_right {G:GramD} {st:Int} {x:It} {s:Int} (h:behindI G st x=(s,true)):rightI G st x=true∧x.2<(ruleOf G st x.1).1.2.length∧(ruleOf G st x.1).1.2[x.2.toNat]? =some s:=by
 unfold behindI at h
 split at h
 ·rename_i h1
  refine⟨h1.1,h1.2,?_⟩
  injection h with h _
  have h0:=h1.1
  unfold rightI at h0
  simp only [Bool.and_eq_true,decide_eq_true_eq]at h0
  have hlt:x.2.toNat<(ruleOf G st x.1).1.2.length:=by omega
  rw [List.getElem?_eq_getElem hlt]at h⊢
  simp at h
  rw [h]
 ·injection h with _ h;cases h
theorem step_right {G:GramD} {st:Int} {x:It} {s:Int} (h:behindI G st x=(s,true)):rightI G st (x.1,x.2+1)=true∧0<x.2+1:=by
 obtain⟨h1,h2,-⟩:=behind_right h
 unfold rightI at h1⊢
 simp only [Bool.and_eq_true,decide_eq_true_eq]at h1⊢
 exact⟨⟨h1.1,by omega,by omega⟩,by omega⟩
structure IsCl (G:GramD) (st:Int) (l o:List It):Prop where
 strict:StrictI o
 mem: ∀z,z∈o↔Cl G st l z
theorem steps_mem {G:GramD} {st:Int} {l:List It} {s:Int} {z:It} (h:z∈stepsI G st l s):rightI G st z=true∧0<z.2:=by
 unfold stepsI at h
 obtain⟨x,hx,rfl⟩:=List.mem_map.1 h
 exact step_right (of_decide_eq_true (List.mem_filter.1 hx).2)
theorem take_snoc {l:List It} {k:Nat} {x:It} (h:l[k]? =some x):l.take (k+1)=l.take k++[x]:=by
 rw [List.take_add_one,h];rfl
theorem steps_yes {G:GramD} {st:Int} {l:List It} {s:Int} {k:Nat} {x:It} (h:l[k]? =some x) (hb:behindI G st x=(s,true)):stepsI G st (l.take (k+1)) s=stepsI G st (l.take k) s++[(x.1,x.2+1)]:=by
 rw [take_snoc h];unfold stepsI;rw [List.filter_append,List.map_append,List.filter_cons_of_pos (by simp [hb])];rfl
theorem steps_no {G:GramD} {st:Int} {l:List It} {s:Int} {k:Nat} {x:It} (h:l[k]? =some x) (hb:behindI G st x≠(s,true)):stepsI G st (l.take (k+1)) s=stepsI G st (l.take k) s:=by
 rw [take_snoc h];unfold stepsI;rw [List.filter_append,List.map_append,List.filter_cons_of_neg (by simpa using hb)];simp
theorem steps_len (G:GramD) (st:Int) (l:List It) (s:Int):(stepsI G st l s).length≤l.length:=by
 unfold stepsI;rw [List.length_map];exact List.length_filter_le _ _
def ShortG (G:GramD) (st:Int):Prop:= ∀i,(ruleOf G st i).1.2.length≤1000
def allIt (G:GramD) (st:Int):List It:=(List.range (G.rules.length+1)).flatMap fun(i:Nat)=>(List.range ((ruleOf G st (i:Int)).1.2.length+1)).map fun(d:Nat)=>(((i:Int),(d:Int)):It)
theorem mem_allIt {G:GramD} {st:Int} {x:It} (h:rightI G st x=true):x∈allIt G st:=by
 unfold rightI at h
 simp only [Bool.and_eq_true,decide_eq_true_eq]at h
 obtain⟨h1,h2,h3⟩:=h
 have hr:0≤x.1∧x.1≤G.rules.length:=by
  unfold ruleOf at h1
  split at h1
  ·cases h1
  ·omega
 unfold allIt
 rw [List.mem_flatMap]
 refine⟨x.1.toNat,List.mem_range.2 (by omega),?_⟩
 rw [Int.toNat_of_nonneg hr.1,List.mem_map]
 exact⟨x.2.toNat,List.mem_range.2 (by omega),Prod.ext rfl (Int.toNat_of_nonneg h2)⟩
def missI (G:GramD) (st:Int) (o:List It):Nat:=((allIt G st).filter fun x=>decide (x∉o)).length
theorem filter_len_lt {l:List It} {p q:It→Bool} (h: ∀x,p x=true→q x=true) {a:It} (ha:a∈l) (h1:q a=true) (h2:p a=false):(l.filter p).length<(l.filter q).length:=by
 induction l with
 |nil=>cases ha
 |cons y r ih=>
  have hle:(r.filter p).length≤(r.filter q).length:=by
   clear ih ha
   induction r with
   |nil=>exact Nat.le_refl _
   |cons z t ih=>
    rw [List.filter_cons,List.filter_cons]
    cases hp:p z with
    |true=>rw [h z hp];simp;omega
    |false=>cases q z<;>simp<;>omega
  rw [List.filter_cons,List.filter_cons]
  rcases List.mem_cons.1 ha with e|e
  ·subst e;rw [h1,h2];simp;omega
  ·have:=ih e
   cases hp:p y with
   |true=>rw [h y hp];simp;omega
   |false=>cases q y<;>simp<;>omega
theorem miss_lt {G:GramD} {st:Int} {o o':List It} (h: ∀x∈o,x∈o') {a:It} (ha:rightI G st a=true) (h1:a∉o) (h2:a∈o'):missI G st o'<missI G st o:=by
 unfold missI
 exact filter_len_lt (fun x hx=>by rw [decide_eq_true_eq]at hx⊢;exact fun hh=>hx (h x hh)) (mem_allIt ha) (by simpa using h1) (by simpa using h2)
theorem put_same {x:It} {l:List It} (h:StrictI l) (hx:x∈l):putI x l=l:=strict_unique (strict_put h) h fun z=>by
 rw [mem_putI];exact⟨fun e=>e.elim (fun e=>e▸hx) id,.inr⟩
theorem put_new {x:It}: ∀{l:List It},x∉l→(putI x l).length=l.length+1
 |[],_=>rfl
 |y::r,h=>by
  rw [List.mem_cons,not_or]at h
  unfold putI
  split
  ·rw [List.length_cons,put_new h.2];rfl
  ·rw [if_neg (fun e=>h.1 e.symm)];rfl
def moreI (rs:List Int) (o:List It):List It:=rs.foldl (fun o r=>putI (r,0) o) o
theorem more_snoc (rs:List Int) (r:Int) (o:List It):moreI (rs++[r]) o=putI (r,0) (moreI rs o):=by unfold moreI;rw [List.foldl_append];rfl
theorem more_len: ∀(rs:List Int) {o:List It},StrictI o→o.length≤(moreI rs o).length∧((moreI rs o).length=o.length→moreI rs o=o∧ ∀r∈rs,((r,0):It)∈o)
 |[],o,h=>⟨Nat.le_refl _,fun _=>⟨rfl,fun _ hr=>by cases hr⟩⟩
 |r::rs,o,h=>by
  show o.length≤(moreI rs (putI (r,0) o)).length∧((moreI rs (putI (r,0) o)).length=o.length→moreI rs (putI (r,0) o)=o∧_)
  by_cases hx:((r,0):It)∈o
  ·rw [put_same h hx]
   obtain⟨h1,h2⟩:=more_len rs h
   exact⟨h1,fun e=>⟨(h2 e).1,fun q hq=>(List.mem_cons.1 hq).elim (fun e'=>e'▸hx) ((h2 e).2 q)⟩⟩
  ·obtain⟨h1,-⟩:=more_len rs (strict_put (x:=(r,0)) h)
   have h3:=put_new hx
   exact⟨by omega,fun e=>by omega⟩
structure OkI (G:GramD) (st:Int) (l o:List It):Prop where
 strict:StrictI o
 sound: ∀z∈o,Cl G st l z
 bound:missI G st o+o.length≤(allIt G st).length
theorem OkI.nil {G:GramD} {st:Int} {l:List It}:OkI G st l []:=⟨List.Pairwise.nil,fun _ h=>(by cases h),(by unfold missI;rw [List.length_nil,Nat.add_zero];exact List.length_filter_le _ _)⟩
theorem OkI.put {G:GramD} {st:Int} {l o:List It} {x:It} (h:OkI G st l o) (hx:Cl G st l x):OkI G st l (putI x o):=by
 refine⟨strict_put h.strict,fun z hz=>(mem_putI.1 hz).elim (fun e=>e▸hx) (h.sound z),?_⟩
 by_cases hm:x∈o
 ·rw [put_same h.strict hm];exact h.bound
 ·have h1:=put_new hm
  have h2:missI G st (putI x o)<missI G st o:=miss_lt (fun z hz=>mem_putI.2 (.inr hz)) hx.right hm (mem_putI.2 (.inl rfl))
  have h3:=h.bound
  omega
theorem OkI.more {G:GramD} {st:Int} {l:List It} {y:It} {s:Int} (hs:behindI G st y=(s,true)) (hy:Cl G st l y): ∀(rs:List Int) {o:List It},OkI G st l o→(∀r∈rs,r∈ofOf G s)→OkI G st l (moreI rs o)
 |[],o,h,_=>h
 |r::rs,o,h,hr=>OkI.more hs hy rs (h.put (Cl.next y s r hy hs (hr r (by simp)))) fun q hq=>hr q (by simp [hq])
theorem more_sub {x:It}: ∀(rs:List Int) {o:List It},x∈o→x∈moreI rs o
 |[],_,h=>h
 |r::rs,o,h=>more_sub rs (mem_putI.2 (.inr h))
theorem more_miss_lt {G:GramD} {st:Int} {s:Int} {rs:List Int} {o:List It} (ho:StrictI o) (hr: ∀r∈rs,r∈ofOf G s) (hl:(moreI rs o).length≠o.length):missI G st (moreI rs o)<missI G st o:=by
 obtain⟨r,hr1,hr2⟩: ∃r∈rs,((r,0):It)∉o:=by
  apply Classical.byContradiction
  intro hno
  apply hl
  have: ∀(rs:List Int),(∀r∈rs,((r,0):It)∈o)→moreI rs o=o:=by
   intro rs
   induction rs with
   |nil=>intro _;rfl
   |cons r rs ih=>
    intro h
    show moreI rs (putI (r,0) o)=o
    rw [put_same ho (h r (by simp))]
    exact ih fun q hq=>h q (by simp [hq])
  rw [this rs fun r hr=>Classical.byContradiction fun hn=>hno ⟨r,hr,hn⟩]
 refine miss_lt (fun z hz=>more_sub rs hz) (right_new (hr r hr1)) hr2 ?_
 have: ∀(rs:List Int) {o:List It},r∈rs→((r,0):It)∈moreI rs o:=by
  intro rs
  induction rs with
  |nil=>intro o h;cases h
  |cons q rs ih=>
   intro o h
   rcases List.mem_cons.1 h with e|e
   ·subst e;exact more_sub rs (mem_putI.2 (.inl rfl))
   ·exact ih e
 exact this rs hr1
def DoneI (G:GramD) (st:Int) (o:List It) (y:It):Prop:= ∀s k,behindI G st y=(s,true)→k∈ofOf G s→((k,0):It)∈o
theorem OkI.is {G:GramD} {st:Int} {l o:List It} (h:OkI G st l o) (hb: ∀z∈l,rightI G st z=true→z∈o) (hd: ∀y∈o,DoneI G st o y):IsCl G st l o:=
 ⟨h.strict,fun z=>⟨h.sound z,fun hz=>by
  induction hz with
  |base x hx hr=>exact hb x hx hr
  |next y s k _ hs hk ih=>exact hd y ih s k hs hk⟩⟩
theorem all_len {G:GramD} {st:Int} (hs:ShortG G st) (hr:G.rules.length≤300):(allIt G st).length≤400000:=by
 have key: ∀n:Nat,((List.range n).flatMap fun(i:Nat)=>(List.range ((ruleOf G st (i:Int)).1.2.length+1)).map fun(d:Nat)=>(((i:Int),(d:Int)):It)).length≤n * 1001:=by
  intro n
  induction n with
  |zero=>simp
  |succ n ih=>
   rw [List.range_succ,List.flatMap_append,List.length_append]
   have:=hs (n:Int)
   simp only [List.flatMap_cons,List.flatMap_nil,List.append_nil,List.length_map,List.length_range]at ih⊢
   omega
 have:=key (G.rules.length+1)
 unfold allIt
 omega
end
section
open Go.Sort
end
end Go.Proofs.YtalbfonkhpeajaaGreat
namespace Go.Proofs.YtalbfonkhpeajaaGreat
set_option linter.unusedVariables false
section
open Go.RowKit
def itCells:List It→List Value
 |[]=>[]
 |x::r=>I64 x.1::I64 x.2::itCells r
theorem itCells_length: ∀l:List It,(itCells l).length=l.length * 2
 |[]=>rfl
 |x::r=>by simp [itCells,itCells_length r];omega
theorem itCells_append: ∀a b:List It,itCells (a++b)=itCells a++itCells b
 |[],b=>rfl
 |x::r,b=>by simp [itCells,itCells_append r b]
theorem itCells_get: ∀{l:List It} {k:Nat} {x:It},l[k]? =some x→(itCells l)[k * 2]? =some (I64 x.1)∧(itCells l)[k * 2+1]? =some (I64 x.2)
 |[],k,x,h=>by simp at h
 |y::r,0,x,h=>by simp at h;subst h;exact⟨rfl,rfl⟩
 |y::r,k+1,x,h=>by
  have:=itCells_get (l:=r) (k:=k) (x:=x) (by simpa using h)
  rw [show(k+1) * 2=k * 2+1+1 by omega]
  simpa [itCells]using this
theorem itCells_one (l:List It): ∀u∈itCells l,u.oneCell'=true:=by
 induction l with
 |nil=>simp [itCells]
 |cons x r ih=>
  intro u hu
  simp only [itCells,List.mem_cons]at hu
  rcases hu with rfl|rfl|hu
  ·rfl
  ·rfl
  ·exact ih u hu
theorem itCells_at {l:List It} {j:Nat} {u:Value} (h:(itCells l)[j]? =some u): ∃k x,l[k]? =some x∧((j=k * 2∧u=I64 x.1)∨(j=k * 2+1∧u=I64 x.2)):=by
 induction l generalizing j with
 |nil=>simp [itCells]at h
 |cons y r ih=>
  match j,h with
  |0,h=>simp [itCells]at h;exact⟨0,y,rfl,.inl ⟨rfl,h.symm⟩⟩
  |1,h=>simp [itCells]at h;exact⟨0,y,rfl,.inr ⟨rfl,h.symm⟩⟩
  |j+2,h=>
   simp [itCells]at h
   obtain⟨k,x,h1,h2⟩:=ih h
   refine⟨k+1,x,by simpa using h1,?_⟩
   rcases h2 with⟨e1,e2⟩|⟨e1,e2⟩
   ·exact .inl ⟨by omega,e2⟩
   ·exact .inr ⟨by omega,e2⟩
abbrev RdIt (w:World) (F:Nat→Prop) (v:Value) (l:List It):Prop:=Rd w F v 2 (itCells l)
theorem RdIt.at_ {w:World} {F:Nat→Prop} {A:Option Addr} {n c:Nat} {l:List It} (h:RdIt w F (.slice A n c) l):n=l.length∧n≤c∧c≤maxLen∧(0<n→ ∃b off,A=some ⟨b,off,none⟩∧F b∧ ∀k x,l[k]? =some x→w.cell? ⟨b,off+k * 2,none⟩=some (.int .i64 x.1)∧w.cell? ⟨b,off+k * 2+1,none⟩=some (.int .i64 x.2)):=by
 obtain⟨A',n',c',hv,h1,h2,hl,hr⟩:=h
 injection hv with e1 e2 e3
 subst e1 e2 e3
 rw [itCells_length]at hl
 refine⟨by omega,h1,h2,fun hn=> ?_⟩
 obtain⟨b,off,hA,hF,hc⟩:=hr hn
 refine⟨b,off,hA,hF,fun k x hx=> ?_⟩
 obtain⟨k1,k2⟩:=itCells_get hx
 exact⟨hc _ _ k1,by rw [Nat.add_assoc];exact hc _ _ k2⟩
theorem RdIt.mk {w:World} {F:Nat→Prop} {b off n c:Nat} {l:List It} (hn:n=l.length) (hc:n≤c) (hm:c≤maxLen) (hF:F b) (h: ∀k x,l[k]? =some x→w.cell? ⟨b,off+k * 2,none⟩=some (.int .i64 x.1)∧w.cell? ⟨b,off+k * 2+1,none⟩=some (.int .i64 x.2)):RdIt w F (.slice (some ⟨b,off,none⟩) n c) l:=by
 refine⟨_,_,_,rfl,hc,hm,by rw [itCells_length,hn],fun _=>⟨b,off,rfl,hF,fun j u hu=> ?_⟩⟩
 obtain⟨k,x,hx,h2|h2⟩:=itCells_at hu
 ·rw [h2.1,h2.2];exact(h k x hx).1
 ·rw [h2.1,h2.2,←Nat.add_assoc];exact(h k x hx).2
theorem RdIt.one {w:World} {e:TypeId} (x:It):RdIt (w.alloc (.cells #[.int .i64 x.1,.int .i64 x.2] e)) (fun b=>b=w.heap.size) (.slice (some ⟨w.heap.size,0,none⟩) 1 1) [x]:=Rd.one' (w:=w) (e:=e) [I64 x.1,I64 x.2] 2 rfl
section
open Go.ChangeShapes Go.WideShapes Go.ChangeAt Go.RowKit Go.Deep
variable {H : Type} {enc : TypeId × Value → H} {w : World} {sp : Nat → Bool}
end
def WfI (x:It):Prop:=(-9223372036854775808≤x.1∧x.1≤9223372036854775807)∧(-9223372036854775808≤x.2∧x.2≤9223372036854775807)
end
section
open Go.RowKit
attribute [local irreducible] wpStill wpOne wpPh
abbrev ItV (x:It):Value:= .agg #[.int .i64 x.1,.int .i64 x.2]
theorem two_boxes {w:World} {F:Nat→Prop} {A1:Option Addr} {c1:Nat} {A2:Option Addr} {c2:Nat} {A3:Option Addr} {c3 T N R:Nat} {G:GramD} (h:IsGram w F (.slice A1 T c1) (.slice A2 N c2) (.slice A3 R c3) G) (st a d:Int):
  ∃w2,w2=(w.alloc (.cells #[.slice A1 T c1,.slice A2 N c2,.slice A3 R c3,.int .i64 st] 25)).alloc (.cells #[.int .i64 a,.int .i64 d] 86)∧GBox w2 F w.heap.size A1 c1 A2 c2 A3 c3 T N R st G∧Blk w2 (w.heap.size+1) 86 #[.int .i64 a,.int .i64 d]∧Below w.heap.size w w2:=by
 have g1:=GBox.new h st
 obtain⟨w1,hw1⟩: ∃w1,w1=w.alloc (.cells #[.slice A1 T c1,.slice A2 N c2,.slice A3 R c3,.int .i64 st] 25):=⟨_,rfl⟩
 have hs:w1.heap.size=w.heap.size+1:=by rw [hw1];simp
 rw [←hw1]at g1
 have b1:Below w.heap.size w w1:=by rw [hw1];exact(Below.refl _ w).alloc (Nat.le_refl _) _
 have b2:Below w1.heap.size w1 (w1.alloc (.cells #[.int .i64 a,.int .i64 d] 86)):=(Below.refl _ _).alloc (Nat.le_refl _) _
 refine⟨_,rfl,?_,?_,?_⟩
 ·rw [←hw1];exact g1.below b2
 ·rw [←hw1,←hs];exact Blk.new _ _ _
 ·rw [←hw1];exact b1.trans (b2.mono b1.size)
set_option maxRecDepth 100000 in
set_option maxHeartbeats 2000000 in
theorem ref12_right {w:World} {F:Nat→Prop} {vt vn vr:Value} {G:GramD} (h:IsGram w F vt vn vr G) (st:Int) (x:It):
  Calls Tryz.prog 36 #[GV vt vn vr st,ItV x] w (Quiet w (.bool (rightI G st x))):=by
 have n1:(ruleOf G st x.1).2=(ruleOf G st x.1).2:=rfl
 have n2:=n1
 obtain⟨A1,c1,A2,c2,A3,c3,rfl,rfl,rfl,-⟩:=h.slices
 obtain⟨a,d⟩:=x
 obtain⟨w2,hw2,g2,k2,hb2⟩:=two_boxes h st a d
 have hc:=ref_rule g2.gram st a
 obtain⟨q0,q1,q2,q3⟩:=g2.cells
 have d0:=(k2.cell 0).trans rfl
 have d1:=(k2.cell 1).trans rfl
 have hv:rightI G st (a,d)=((ruleOf G st a).2&&(decide (0≤d)&&decide (d≤(ruleOf G st a).1.2.length))):=rfl
 generalize ruleOf G st a=r at *
 obtain⟨⟨l,xs⟩,ok⟩:=r
 (try simp only at hv n1 n2)
 rw [hw2]at hc q0 q1 q2 q3 d0 d1
 generalize G.terms.length=T at *
 generalize G.nons.length=N at *
 generalize G.rules.length=R at *
 have Xg2:=hide g2;have Xk2:=hide k2;have Xhb2:=hide hb2;have Xhc:=hide hc;have Xhv:=hide hv;have Xh:=hide h;have Xn1:=hide n1;have Xn2:=hide n2;clear g2 k2 hb2 hc hv h n1 n2
 go_enter Tryz.func36,Tryz.ntmps36
 go_wp2_with fail
 refine Xhc.out.mono ?_
 rintro e w3 ⟨A,n,c,rfl,hrd,b3⟩
 rw [←hw2]at b3
 have hb3:=Xhb2.out.trans (b3.mono Xhb2.out.size)
 have k3:=Xk2.out.below b3 Xk2.out.lt
 clear hw2 q0 q1 q2 q3 d0 d1 Xhc
 obtain⟨hn,hnc,hcm,-⟩:=RdI.at_ hrd
 obtain⟨w4,hw4⟩: ∃w4,w4=w3.alloc (.cells #[.int .i64 l,.slice A n c] 42):=⟨_,rfl⟩
 have b4:Below w3.heap.size w3 w4:=by rw [hw4];exact(Below.refl _ _).alloc (Nat.le_refl _) _
 have k4:=k3.below b4 k3.lt
 have hb4:=hb3.trans (b4.mono hb3.size)
 have d0:=(k4.cell 0).trans rfl
 have d1:=(k4.cell 1).trans rfl
 have hrd4:=hrd.below b4 (fun b hb=>hb)
 rw [←hn]at Xhv
 rw [hw4]at d0 d1
 clear hnc hcm hn b3 b4 k3 k4 hb3 Xk2 Xhb2 Xg2
 have Xhrd:=hide hrd;have Xhrd4:=hide hrd4;have Xhb4:=hide hb4;clear hrd hrd4 hb4
 cases ok with
 |false=>
  go_wp2_with fail
  go_ret
  rw [←hw4]
  exact⟨ret_bool (by rw [Xhv.out];rfl),Xhb4.out⟩
 |true=>
  by_cases h0:(0:Int)≤d
  ·by_cases h1:d≤(n:Int)
   ·go_wp2_with fail
    go_ret
    rw [←hw4]
    exact⟨ret_bool (by rw [Xhv.out,decide_eq_true h0,decide_eq_true h1];rfl),Xhb4.out⟩
   ·go_wp2_with fail
    go_ret
    rw [←hw4]
    exact⟨ret_bool (by rw [Xhv.out,decide_eq_true h0,decide_eq_false (by omega)];rfl),Xhb4.out⟩
  ·go_wp2_with fail
   go_ret
   rw [←hw4]
   exact⟨ret_bool (by rw [Xhv.out,decide_eq_false (by omega)];rfl),Xhb4.out⟩
def BehindPost (w:World) (r:Int×Bool) (e:Ending) (w':World):Prop:=e= .returned (.tuple #[.int .i64 r.1,.bool r.2])∧Below w.heap.size w w'
theorem behind_no {G:GramD} {st a d:Int} (h:(ruleOf G st a).2=false∨d<0∨((ruleOf G st a).1.2.length:Int)≤d):behindI G st (a,d)=(0,false):=by
 unfold behindI rightI
 rw [if_neg]
 rintro⟨h1,h2⟩
 simp only [Bool.and_eq_true,decide_eq_true_eq]at h1 h2
 rcases h with h|h|h
 ·rw [h]at h1;exact absurd h1.1 (by simp)
 ·omega
 ·omega
theorem behind_yes {G:GramD} {st a:Int} {k:Nat} {s:Int} (h:(ruleOf G st a).2=true) (hs:(ruleOf G st a).1.2[k]? =some s):behindI G st (a,(k:Int))=(s,true):=by
 have hk:=(List.getElem?_eq_some_iff.1 hs).1
 unfold behindI rightI
 rw [if_pos,Int.toNat_natCast,hs];rfl
 simp only [h,Bool.true_and,Bool.and_eq_true,decide_eq_true_eq]
 omega
set_option maxRecDepth 100000 in
set_option maxHeartbeats 2000000 in
theorem ref12_behind {w:World} {F:Nat→Prop} {vt vn vr:Value} {G:GramD} (h:IsGram w F vt vn vr G) (st:Int) (x:It):
  Calls Tryz.prog 38 #[GV vt vn vr st,ItV x] w (BehindPost w (behindI G st x)):=by
 obtain⟨A1,c1,A2,c2,A3,c3,rfl,rfl,rfl,-⟩:=h.slices
 obtain⟨a,d⟩:=x
 obtain⟨w2,hw2,g2,k2,hb2⟩:=two_boxes h st a d
 have hc:=ref_rule g2.gram st a
 obtain⟨q0,q1,q2,q3⟩:=g2.cells
 have d0:=(k2.cell 0).trans rfl
 have d1:=(k2.cell 1).trans rfl
 have cr: ∀wr,GBox wr F w.heap.size A1 c1 A2 c2 A3 c3 G.terms.length G.nons.length G.rules.length st G→Calls Tryz.prog 36 #[GV (.slice A1 G.terms.length c1) (.slice A2 G.nons.length c2) (.slice A3 G.rules.length c3) st,.agg #[.int .i64 a,.int .i64 d]] wr (Quiet wr (.bool (rightI G st (a,d)))):=fun wr g=>ref12_right g.gram st (a,d)
 have n0:rightI G st (a,d)=false→behindI G st (a,d)=(0,false):=fun e=>by unfold behindI;rw [if_neg (by rw [e];simp)]
 have n1:((ruleOf G st a).1.2.length:Int)≤d→behindI G st (a,d)=(0,false):=fun e=>behind_no (.inr (.inr e))
 have n2: ∀(k:Nat) (s:Int),d=k→(ruleOf G st a).2=true→(ruleOf G st a).1.2[k]? =some s→behindI G st (a,d)=(s,true):=fun k s e h1 h2=>by rw [e];exact behind_yes h1 h2
 have n3:rightI G st (a,d)=true→(ruleOf G st a).2=true∧0≤d:=fun e=>by
  unfold rightI at e
  simp only [Bool.and_eq_true,decide_eq_true_eq]at e
  exact⟨e.1,e.2.1⟩
 generalize ruleOf G st a=r at *
 obtain⟨⟨l,xs⟩,ok⟩:=r
 generalize rightI G st (a,d)=rt at *
 rw [hw2]at hc q0 q1 q2 q3 d0 d1
 generalize G.terms.length=T at *
 generalize G.nons.length=N at *
 generalize G.rules.length=R at *
 simp only at n1 n2 n3
 have Xg2:=hide g2;have Xk2:=hide k2;have Xhb2:=hide hb2;have Xhc:=hide hc;have Xh:=hide h;have Xn0:=hide n0;have Xn1:=hide n1;have Xn2:=hide n2;have Xn3:=hide n3;have Xcr:=hide cr;clear g2 k2 hb2 hc h n0 n1 n2 n3 cr
 go_enter Tryz.func38,Tryz.ntmps38
 go_wp2_with fail
 refine Xhc.out.mono ?_
 rintro e w3 ⟨A,n,c,rfl,hrd,b3⟩
 rw [←hw2]at b3
 have hb3:=Xhb2.out.trans (b3.mono Xhb2.out.size)
 have k3:=Xk2.out.below b3 Xk2.out.lt
 have g3:=Xg2.out.below b3
 clear hw2 q0 q1 q2 q3 d0 d1 Xhc Xg2 Xk2 Xhb2
 obtain⟨hn,hnc,hcm,-⟩:=RdI.at_ hrd
 obtain⟨w4,hw4⟩: ∃w4,w4=w3.alloc (.cells #[.int .i64 l,.slice A n c] 42):=⟨_,rfl⟩
 have b4:Below w3.heap.size w3 w4:=by rw [hw4];exact(Below.refl _ _).alloc (Nat.le_refl _) _
 have k4:=k3.below b4 k3.lt
 have g4:=g3.below b4
 have r4:Blk w4 w3.heap.size 42 #[.int .i64 l,.slice A n c]:=by rw [hw4];exact Blk.new _ _ _
 have hb4:=hb3.trans (b4.mono hb3.size)
 have d0:=(k4.cell 0).trans rfl
 have d1:=(k4.cell 1).trans rfl
 have hrd4:=hrd.below b4 (fun b hb=>hb)
 obtain⟨q0,q1,q2,q3⟩:=g4.cells
 have hc4:=Xcr.out _ g4
 rw [hw4]at d0 d1 q0 q1 q2 q3 hc4
 clear Xcr b3 k3 g3 hb3 g4
 have Xk4:=hide k4;have Xr4:=hide r4;have Xhb4:=hide hb4;have Xhrd4:=hide hrd4;have Xhc4:=hide hc4;have Xhn:=hide hn;have Xhrd:=hide hrd;clear k4 r4 hb4 hrd4 hc4 hn hrd
 go_wp2_with fail
 with_reducible refine Xhc4.out.mono ?_
 rintro e w5 ⟨rfl,b5⟩
 rw [←hw4]at b5
 have k5:=Xk4.out.below b5 Xk4.out.lt
 have r5:=Xr4.out.below b5 Xr4.out.lt
 have hb5:=Xhb4.out.trans (b5.mono Xhb4.out.size)
 have hrd5:=Xhrd4.out.below b5 (fun b hb=>Nat.lt_of_lt_of_le hb b4.size)
 have d0:=(k5.cell 0).trans rfl
 have d1:=(k5.cell 1).trans rfl
 have e0:=(r5.cell 0).trans rfl
 have e1:=(r5.cell 1).trans rfl
 clear hw4 b4 b5 k5 r5 Xk4 Xr4 Xhb4 Xhrd4 Xhc4 Xhrd q0 q1 q2 q3
 have Xhb5:=hide hb5;clear hb5
 cases rt with
 |false=>
  have hf:=Xn0.out rfl
  have Xhf:=hide hf;have Xhrd5:=hide hrd5;clear hf hrd5
  go_wp2_with fail
  go_ret2
  exact⟨by rw [Xhf.out];rfl,Xhb5.out⟩
 |true=>
  obtain⟨h1,h0⟩:=Xn3.out rfl
  by_cases h2:(n:Int)≤d
  ·have hf:=Xn1.out (by rw [←Xhn.out];exact h2)
   have Xhf:=hide hf;have Xhrd5:=hide hrd5;have Xh1:=hide h1;clear hf hrd5 h1
   go_wp2_with fail
   go_ret2
   exact⟨by rw [Xhf.out];rfl,Xhb5.out⟩
  ·obtain⟨k,rfl⟩:=Int.eq_ofNat_of_zero_le h0
   have hk:k<n:=by omega
   obtain⟨-,-,-,hcell⟩:=RdI.at_ hrd5
   obtain⟨b,off,rfl,-,hcc⟩:=hcell (by omega)
   obtain⟨s,hs⟩: ∃s,xs[k]? =some s:=⟨_,List.getElem?_eq_getElem (by rw [←Xhn.out];exact hk)⟩
   have hcs:=hcc k s hs
   have hf:=Xn2.out k s rfl h1 hs
   clear hrd5 hcell hcc
   have Xhf:=hide hf;have Xhs:=hide hs;have Xh1:=hide h1;clear hf hs h1
   go_wp2_with fail
   go_ret2
   exact⟨by rw [Xhf.out];rfl,Xhb5.out⟩
def mayB (G:GramD) (st:Int):Bool:=decide (checkOf G st=0)
set_option maxRecDepth 100000 in
set_option maxHeartbeats 2000000 in
theorem item_may {w:World} {F:Nat→Prop} {vt vn vr:Value} {G:GramD} (h:IsGram w F vt vn vr G) (st:Int):
  Calls Tryz.prog 85 #[GV vt vn vr st] w (Quiet w (.bool (mayB G st))):=by
 obtain⟨A1,c1,A2,c2,A3,c3,rfl,rfl,rfl,-⟩:=h.slices
 obtain⟨w1,hw1⟩: ∃w1,w1=w.alloc (.cells #[.slice A1 G.terms.length c1,.slice A2 G.nons.length c2,.slice A3 G.rules.length c3,.int .i64 st] 25):=⟨_,rfl⟩
 have g1:=GBox.new h st
 have b1:Below w.heap.size w w1:=by rw [hw1];exact(Below.refl _ w).alloc (Nat.le_refl _) _
 rw [←hw1]at g1
 have hc:=gram_check g1.gram st
 have hm:mayB G st=decide (checkOf G st=0):=rfl
 obtain⟨q0,q1,q2,q3⟩:=g1.cells
 generalize checkOf G st=cz at *
 generalize G.terms.length=T at *
 generalize G.nons.length=N at *
 generalize G.rules.length=R at *
 rw [hw1]at hc q0 q1 q2 q3
 have Xhc:=hide hc;have Xb1:=hide b1;have Xg1:=hide g1;have Xh:=hide h;have Xhm:=hide hm;clear hc b1 g1 h hm
 go_enter Tryz.func85,Tryz.ntmps85
 go_wp2_with fail
 with_reducible refine Xhc.out.mono ?_
 rintro e w2 ⟨rfl,b2⟩
 rw [←hw1]at b2
 clear hw1 q0 q1 q2 q3
 have hb2:=Xb1.out.trans (b2.mono Xb1.out.size)
 by_cases hz:cz=0
 ·subst hz
  go_wp2_with fail
  go_ret
  exact⟨ret_bool (by rw [Xhm.out];rfl),hb2⟩
 ·have hz':(cz==0)=false:=by simpa using hz
  go_wp2_with fail
  go_ret
  exact⟨ret_bool (by rw [Xhm.out,decide_eq_false hz]),hb2⟩
end
section
open Go.RowKit
attribute [local irreducible] wpStill wpOne wpPh
def ItPost (w:World) (l:List It) (e:Ending) (w':World):Prop:= ∃A n c,e= .returned (.slice A n c)∧RdIt w' (fun b=>w.heap.size≤b∧b<w'.heap.size) (.slice A n c) l∧Below w.heap.size w w'
theorem ItPost.nil {w w':World} (h:Below w.heap.size w w'):ItPost w [] (.returned (.slice none 0 0)) w':=⟨none,0,0,rfl,Rd.nil _ _ _,h⟩
set_option maxRecDepth 100000 in
set_option maxHeartbeats 2000000 in
theorem item_Begin {w:World} {F:Nat→Prop} {vt vn vr:Value} {G:GramD} (h:IsGram w F vt vn vr G) (st:Int):
  Calls Tryz.prog 43 #[GV vt vn vr st] w (ItPost w (if mayB G st=true then [((G.rules.length:Int),0)]else [])):=by
 obtain⟨A1,c1,A2,c2,A3,c3,rfl,rfl,rfl,-⟩:=h.slices
 obtain⟨w1,hw1⟩: ∃w1,w1=w.alloc (.cells #[.slice A1 G.terms.length c1,.slice A2 G.nons.length c2,.slice A3 G.rules.length c3,.int .i64 st] 25):=⟨_,rfl⟩
 have g1:=GBox.new h st
 have b1:Below w.heap.size w w1:=by rw [hw1];exact(Below.refl _ w).alloc (Nat.le_refl _) _
 rw [←hw1]at g1
 have hc:=item_may g1.gram st
 obtain⟨q0,q1,q2,q3⟩:=g1.cells
 generalize mayB G st=mb at *
 generalize G.terms.length=T at *
 generalize G.nons.length=N at *
 generalize G.rules.length=R at *
 obtain⟨rs,hrs⟩: ∃r,r=(if mb=true then [((R:Int),(0:Int))]else []):=⟨_,rfl⟩
 rw [←hrs]
 rw [hw1]at hc q0 q1 q2 q3
 have Xhc:=hide hc;have Xb1:=hide b1;have Xg1:=hide g1;have Xh:=hide h;have Xhrs:=hide hrs;clear hc b1 g1 h hrs
 go_enter Tryz.func43,Tryz.ntmps43
 go_wp2_with fail
 with_reducible refine Xhc.out.mono ?_
 rintro e w2 ⟨rfl,b2⟩
 rw [←hw1]at b2
 have g2:=Xg1.out.below b2
 have hb2:=Xb1.out.trans (b2.mono Xb1.out.size)
 clear hw1 q0 q1 q2 q3 Xhc Xb1 Xg1 b2
 obtain⟨q0,q1,q2,q3⟩:=g2.cells
 cases mb with
 |false=>
  have Xhb2:=hide hb2;have Xg2:=hide g2;clear hb2 g2
  go_wp2_with fail
  go_ret
  rw [Xhrs.out]
  exact ItPost.nil Xhb2.out
 |true=>
  have Xhb2:=hide hb2;have Xg2:=hide g2;clear hb2 g2
  go_wp2_with fail
  go_ret
  rw [Xhrs.out]
  exact⟨_,_,_,rfl,Rd.mono (RdIt.one (w:=w2) (e:=86) ((R:Int),0)) (fun b e=>by rw [e];exact⟨Xhb2.out.size,by simp⟩),Xhb2.out.alloc Xhb2.out.size _⟩
set_option maxRecDepth 100000 in
set_option maxHeartbeats 2000000 in
theorem ref12_Begin {w:World} {F:Nat→Prop} {vt vn vr:Value} {G:GramD} (h:IsGram w F vt vn vr G) (st:Int):
  Calls Tryz.prog 12 #[GV vt vn vr st] w (ItPost w [((G.rules.length:Int),0)]):=by
 obtain⟨A1,c1,A2,c2,A3,c3,rfl,rfl,rfl,-⟩:=h.slices
 obtain⟨w1,hw1⟩: ∃w1,w1=w.alloc (.cells #[.slice A1 G.terms.length c1,.slice A2 G.nons.length c2,.slice A3 G.rules.length c3,.int .i64 st] 25):=⟨_,rfl⟩
 have g1:=GBox.new h st
 have b1:Below w.heap.size w w1:=by rw [hw1];exact(Below.refl _ w).alloc (Nat.le_refl _) _
 rw [←hw1]at g1
 obtain⟨q0,q1,q2,q3⟩:=g1.cells
 generalize G.terms.length=T at *
 generalize G.nons.length=N at *
 generalize G.rules.length=R at *
 rw [hw1]at q0 q1 q2 q3
 have Xb1:=hide b1;have Xg1:=hide g1;have Xh:=hide h;clear b1 g1 h
 go_enter Tryz.func12,Tryz.ntmps12
 go_wp2_with fail
 go_ret
 rw [←hw1]
 have hs:w.heap.size+1=w1.heap.size:=by rw [hw1];simp
 rw [hs]
 exact⟨_,_,_,rfl,Rd.mono (RdIt.one (w:=w1) (e:=86) ((R:Int),0)) (fun b e=>by rw [e];exact⟨Xb1.out.size,by simp⟩),Xb1.out.alloc Xb1.out.size _⟩
theorem Tryz.fieldsItem:Tryz.prog.underlying 86=some (.struct (Tryz.prog.fieldsOf 86)):=by kernel_rfl
theorem Tryz.stoodItem:Tryz.prog.stoodInHeld 86=false:=by kernel_rfl
theorem Tryz.guardItem:Tryz.prog.eqGuardType Tryz.prog.depth 86=false:=by kernel_rfl
theorem eql_item (a b c d:Int) (w:World):Sem.run Tryz.prog (binOp .eql 86 (.agg #[.int .i64 a,.int .i64 b]) (.agg #[.int .i64 c,.int .i64 d])) w= .ok (.bool (decide (((a,b):It)=(c,d)))) w:=by
 have u3:=Tryz.underlying3
 have hS:=Tryz.fieldsItem
 have hp:=Tryz.stoodItem
 rw [run_eql_struct,show(10000:Nat)=9999+1 from rfl,run_equalIn_agg w 9999 86 _ _ hS hp]
 simp only [Program.fieldsOf,Tryz.underlying86]
 have a3:=Tryz.isAgg3
 have z3:=Tryz.sizeOf3
 go_simp
 by_cases h1:a=c<;>by_cases h2:b=d<;>simp [h1,h2]
theorem neq_item (a b c d:Int) (w:World):Sem.run Tryz.prog (binOp .neq 86 (.agg #[.int .i64 a,.int .i64 b]) (.agg #[.int .i64 c,.int .i64 d])) w= .ok (.bool (!decide (((a,b):It)=(c,d)))) w:=by
 have h:=eql_item a b c d w
 rw [run_eql_struct]at h
 rw [run_neq_struct]
 generalize Sem.run Tryz.prog (Op.equalIn 10000 86 (.agg #[.int .i64 a,.int .i64 b]) (.agg #[.int .i64 c,.int .i64 d])) w=r at h⊢
 cases r<;>simp_all [Result.andThen]
theorem guard_item (op:BinOp) (p q:Operand) (x y:It) (w:World):(eqGuard op 86 p q (ItV x) (ItV y)).run Tryz.prog w= .ok () w:=run_eqGuard_agg w op 86 p q _ _ Tryz.guardItem
end
section
open Go.RowKit
attribute [local irreducible] wpStill wpOne wpPh
theorem boxes_it {w:World} (a b c d:Int): ∃w2,w2=(w.alloc (.cells #[.int .i64 a,.int .i64 b] 86)).alloc (.cells #[.int .i64 c,.int .i64 d] 86)∧Blk w2 w.heap.size 86 #[.int .i64 a,.int .i64 b]∧Blk w2 (w.heap.size+1) 86 #[.int .i64 c,.int .i64 d]∧Below w.heap.size w w2:=by
 obtain⟨w1,hw1⟩: ∃w1,w1=w.alloc (.cells #[.int .i64 a,.int .i64 b] 86):=⟨_,rfl⟩
 have hs:w1.heap.size=w.heap.size+1:=by rw [hw1];simp
 have k1:Blk w1 w.heap.size 86 #[.int .i64 a,.int .i64 b]:=by rw [hw1];exact Blk.new _ _ _
 have b1:Below w.heap.size w w1:=by rw [hw1];exact(Below.refl _ w).alloc (Nat.le_refl _) _
 have b2:Below w1.heap.size w1 (w1.alloc (.cells #[.int .i64 c,.int .i64 d] 86)):=(Below.refl _ _).alloc (Nat.le_refl _) _
 refine⟨_,rfl,?_,?_,?_⟩
 ·rw [←hw1];exact k1.below b2 k1.lt
 ·rw [←hw1,←hs];exact Blk.new _ _ _
 ·rw [←hw1];exact b1.trans (b2.mono b1.size)
set_option maxRecDepth 100000 in
set_option maxHeartbeats 2000000 in
theorem ref12_less (x y:It) (w:World):Calls Tryz.prog 68 #[ItV x,ItV y] w (Quiet w (.bool (itLt x y))):=by
 obtain⟨a,b⟩:=x
 obtain⟨c,d⟩:=y
 have hv:itLt (a,b) (c,d)=(decide (a<c)||(decide (a=c)&&decide (b<d))):=rfl
 obtain⟨w2,hw2,k1,k2,hb2⟩:=boxes_it (w:=w) a b c d
 have d0:=(k1.cell 0).trans rfl
 have d1:=(k1.cell 1).trans rfl
 have e0:=(k2.cell 0).trans rfl
 have e1:=(k2.cell 1).trans rfl
 rw [hw2]at d0 d1 e0 e1
 by_cases h1:a<c
 ·have Xhb2:=hide hb2
  have Xhv:=hide hv;clear hb2 hv;clear k1 k2
  go_enter Tryz.func68,Tryz.ntmps68
  go_wp2_with fail
  go_ret
  rw [←hw2]
  exact⟨ret_bool (by rw [Xhv.out];simp;try omega),Xhb2.out⟩
 ·by_cases h2:a=c
  ·have h2':(a==c)=true:=by simpa using h2
   by_cases h3:b<d
   ·have Xhb2:=hide hb2
    have Xhv:=hide hv;have Xh2:=hide h2;clear hb2 hv h2;clear k1 k2
    go_enter Tryz.func68,Tryz.ntmps68
    go_wp2_with fail
    go_ret
    rw [←hw2]
    exact⟨ret_bool (by rw [Xhv.out,decide_eq_true Xh2.out,decide_eq_true h3];simp),Xhb2.out⟩
   ·have Xhb2:=hide hb2
    have Xhv:=hide hv;have Xh2:=hide h2;clear hb2 hv h2;clear k1 k2
    go_enter Tryz.func68,Tryz.ntmps68
    go_wp2_with fail
    go_ret
    rw [←hw2]
    exact⟨ret_bool (by rw [Xhv.out,decide_eq_false (show¬a<c by omega),decide_eq_false (show¬b<d by omega)];simp),Xhb2.out⟩
  ·have h2':(a==c)=false:=by simpa using h2
   have Xhb2:=hide hb2;have Xhv:=hide hv;have Xh2:=hide h2;clear hb2 hv h2;clear k1 k2
   go_enter Tryz.func68,Tryz.ntmps68
   go_wp2_with fail
   go_ret
   rw [←hw2]
   exact⟨ret_bool (by rw [Xhv.out,decide_eq_false (show¬a<c by omega),decide_eq_false Xh2.out];simp),Xhb2.out⟩
set_option maxRecDepth 100000 in
set_option maxHeartbeats 2000000 in
theorem ref12_Same {w:World} {F G:Nat→Prop} {v u:Value} {xs ys:List It} (h:RdIt w F v xs) (g:RdIt w G u ys):
  Calls Tryz.prog 39 #[v,u] w (Quiet w (.bool (decide (xs=ys)))):=by
 obtain⟨A,n,c,rfl,-⟩:=id h
 obtain⟨B,m,d,rfl,-⟩:=id g
 obtain⟨hn,hnc,hcm,hcell⟩:=RdIt.at_ h
 obtain⟨hm,hmd,hdm,hcell'⟩:=RdIt.at_ g
 unfold maxLen at hcm hdm
 clear h g
 by_cases hnm:n=m
 ·subst hnm
  have hall:(∀j:Nat,j<n→xs[j]? =ys[j]?)→xs=ys:=fun hh=>List.ext_getElem? fun j=>by
   by_cases hj:j<n
   ·exact hh j hj
   ·rw [List.getElem?_eq_none (by omega),List.getElem?_eq_none (by omega)]
  have Xhn:=hide hn;have Xhm:=hide hm;have Xhall:=hide hall;clear hn hm hall
  go_enter Tryz.func39,Tryz.ntmps39
  go_wp2_with fail
  go_loopw [5] (fun i wr=> ∃k q:Nat,k≤n∧i= .int .i64 k∧wr=w.drewN q∧ ∀j:Nat,j<k→xs[j]? =ys[j]?) (fun i _=>n - (intOf i).toNat)
  case atStart=>exact⟨0,0,Nat.zero_le _,rfl,rfl,fun j hj=>absurd hj (by omega)⟩
  case round=>
   obtain⟨k,q,hk,rfl,rfl,hb⟩:=hrel
   by_cases hlt:k<n
   ·have hlt':(k:Int)<(n:Int):=by omega
    obtain⟨b,off,rfl,-,hc1⟩:=hcell (by omega)
    obtain⟨b',off',rfl,-,hc2⟩:=hcell' (by omega)
    obtain⟨⟨x0,x1⟩,hx⟩: ∃x,xs[k]? =some x:=⟨_,List.getElem?_eq_getElem (by rw [←Xhn.out];exact hlt)⟩
    obtain⟨⟨y0,y1⟩,hy⟩: ∃x,ys[k]? =some x:=⟨_,List.getElem?_eq_getElem (by rw [←Xhm.out];exact hlt)⟩
    obtain⟨p0,p1⟩:=hc1 k _ hx
    obtain⟨r0,r1⟩:=hc2 k _ hy
    simp only at p0 p1 r0 r1
    have hne:=neq_item x0 x1 y0 y1
    have hgd:=fun op p q=>guard_item op p q (x0,x1) (y0,y1)
    clear hcell hcell' hc1 hc2
    by_cases he:((x0,x1):It)=(y0,y1)
    ·rw [decide_eq_true he]at hne
     have hb2: ∀j:Nat,j<k+1→xs[j]? =ys[j]? :=fun j hj=>by
      by_cases e:j=k
      ·subst e;rw [hx,hy,he]
      ·exact hb j (by omega)
     have Xhx:=hide hx;have Xhy:=hide hy;have Xhe:=hide he;have Xhb:=hide hb;have Xhb2:=hide hb2;clear hx hy he hb hb2
     go_wp2_with fail
     refine region_reads (by kernel_rfl) (by kernel_rfl) ?_
     repeat still_step
     refine wpStill_nil ?_
     go_wp2_with fail
     go_roundw
     case rel=>exact⟨k+1,q+1,by omega,by go_num,rfl,Xhb2.out⟩
     case measure=>simp [intOf];omega
    ·rw [decide_eq_false he]at hne
     have hfin: ¬xs=ys:=fun e=>he (by rw [e,hy]at hx;injection hx with hx;exact hx.symm)
     have Xhx:=hide hx;have Xhy:=hide hy;have Xhe:=hide he;have Xhb:=hide hb;have Xhfin:=hide hfin;clear hx hy he hb hfin
     go_wp2_with fail
     refine region_reads (by kernel_rfl) (by kernel_rfl) ?_
     repeat still_step
     refine wpStill_nil ?_
     go_wp2_with fail
     go_ret
     exact⟨ret_bool (decide_eq_false Xhfin.out).symm,below_drewN (Below.refl _ w) (q+1)⟩
   ·have hlt': ¬(k:Int)<(n:Int):=by omega
    have hfin:=Xhall.out fun j hj=>hb j (by omega)
    have Xhb:=hide hb;have Xhfin:=hide hfin;clear hb hfin;clear hcell hcell'
    go_wp2_with fail
    go_ret
    exact⟨ret_bool (decide_eq_true Xhfin.out).symm,below_drewN (Below.refl _ w) q⟩
 ·have hnm':((n:Int) !=(m:Int))=true:=by simp;omega
  have hfin: ¬xs=ys:=fun e=>hnm (by rw [hn,hm,e])
  have Xhn:=hide hn;have Xhm:=hide hm;have Xhfin:=hide hfin;have Xhnm:=hide hnm;clear hn hm hfin hnm;clear hcell hcell'
  go_enter Tryz.func39,Tryz.ntmps39
  go_wp2_with fail
  go_ret
  exact⟨ret_bool (decide_eq_false Xhfin.out).symm,Below.refl _ w⟩
end
end Go.Proofs.YtalbfonkhpeajaaGreat
namespace Go.Proofs.YtalbfonkhpeajaaGreat
set_option linter.unusedVariables false
section
open Go.Shelf
def Tryz.sortIt_ren:Go.Shelf.Ren:=⟨fun|6=>112|15=>132|14=>131|28=>144|29=>145|20=>136|21=>137|22=>138|23=>139|24=>140|25=>141|26=>142|27=>143|46=>146|47=>147|48=>148|49=>149|50=>150|57=>151|n=>n,fun|22=>44|24=>86|25=>169|3=>3|39=>166|0=>0|53=>197|55=>199|4=>4|46=>191|45=>190|50=>93|5=>5|9=>9|66=>200|70=>204|76=>206|77=>207|n=>n,fun|n=>n⟩
theorem Tryz.sortIt:Go.Proofs.SlLaysF0.n6 Tryz.prog Tryz.sortIt_ren:={
 mixed:=by kernel_rfl
 f6:=⟨Tryz.f112.name,by decide,Tryz.func112.trans (congrArg some (by kernel_rfl))⟩
 f14:=⟨Tryz.f131.name,by decide,Tryz.func131.trans (congrArg some (by kernel_rfl))⟩
 f15:=Tryz.func132.trans (congrArg some (by kernel_rfl))
 f20:=⟨Tryz.f136.name,by decide,Tryz.func136.trans (congrArg some (by kernel_rfl))⟩
 f21:=⟨Tryz.f137.name,by decide,Tryz.func137.trans (congrArg some (by kernel_rfl))⟩
 f22:=⟨Tryz.f138.name,by decide,Tryz.func138.trans (congrArg some (by kernel_rfl))⟩
 f23:=⟨Tryz.f139.name,by decide,Tryz.func139.trans (congrArg some (by kernel_rfl))⟩
 f24:=⟨Tryz.f140.name,by decide,Tryz.func140.trans (congrArg some (by kernel_rfl))⟩
 f25:=⟨Tryz.f141.name,by decide,Tryz.func141.trans (congrArg some (by kernel_rfl))⟩
 f26:=⟨Tryz.f142.name,by decide,Tryz.func142.trans (congrArg some (by kernel_rfl))⟩
 f27:=⟨Tryz.f143.name,by decide,Tryz.func143.trans (congrArg some (by kernel_rfl))⟩
 f28:=Tryz.func144.trans (congrArg some (by kernel_rfl))
 f29:=Tryz.func145.trans (congrArg some (by kernel_rfl))
 f46:=⟨Tryz.f146.name,by decide,Tryz.func146.trans (congrArg some (by kernel_rfl))⟩
 f47:=Tryz.func147.trans (congrArg some (by kernel_rfl))
 f48:=Tryz.func148.trans (congrArg some (by kernel_rfl))
 f49:=⟨Tryz.f149.name,by decide,Tryz.func149.trans (congrArg some (by kernel_rfl))⟩
 f50:=⟨Tryz.f150.name,by decide,Tryz.func150.trans (congrArg some (by kernel_rfl))⟩
 f57:=⟨Tryz.f151.name,by decide,Tryz.func151.trans (congrArg some (by kernel_rfl))⟩
 t0:=Tryz.underlying0
 a0:=Tryz.isAgg0
 z0:=Tryz.sizeOf0
 v0:=Tryz.zeroValue0
 t3:=Tryz.underlying3
 a3:=Tryz.isAgg3
 z3:=Tryz.sizeOf3
 v3:=Tryz.zeroValue3
 t4:=Tryz.underlying4
 a4:=Tryz.isAgg4
 z4:=Tryz.sizeOf4
 v4:=Tryz.zeroValue4
 t5:=Tryz.underlying5
 a5:=Tryz.isAgg5
 z5:=Tryz.sizeOf5
 v5:=Tryz.zeroValue5
 t9:=Tryz.underlying9
 a9:=Tryz.isAgg9
 z9:=Tryz.sizeOf9
 v9:=Tryz.zeroValue9
 t22:=Tryz.underlying44
 a22:=Tryz.isAgg44
 z22:=Tryz.sizeOf44
 v22:=Tryz.zeroValue44
 t25:=Tryz.underlying169
 a25:=Tryz.isAgg169
 z25:=Tryz.sizeOf169
 v25:=Tryz.zeroValue169
 t39:=Tryz.underlying166
 a39:=Tryz.isAgg166
 z39:=Tryz.sizeOf166
 v39:=Tryz.zeroValue166
 t45:=Tryz.underlying190
 a45:=Tryz.isAgg190
 z45:=Tryz.sizeOf190
 v45:=Tryz.zeroValue190
 t46:=Tryz.underlying191
 a46:=Tryz.isAgg191
 z46:=Tryz.sizeOf191
 v46:=Tryz.zeroValue191
 t50:=Tryz.underlying93
 a50:=Tryz.isAgg93
 z50:=Tryz.sizeOf93
 v50:=Tryz.zeroValue93
 t53:=Tryz.underlying197
 a53:=Tryz.isAgg197
 z53:=Tryz.sizeOf197
 v53:=Tryz.zeroValue197
 t55:=Tryz.underlying199
 a55:=Tryz.isAgg199
 z55:=Tryz.sizeOf199
 v55:=Tryz.zeroValue199
 t66:=Tryz.underlying200
 a66:=Tryz.isAgg200
 z66:=Tryz.sizeOf200
 v66:=Tryz.zeroValue200
 t70:=Tryz.underlying204
 a70:=Tryz.isAgg204
 z70:=Tryz.sizeOf204
 v70:=Tryz.zeroValue204
 t76:=Tryz.underlying206
 a76:=Tryz.isAgg206
 z76:=Tryz.sizeOf206
 v76:=Tryz.zeroValue206
 t77:=Tryz.underlying207
 a77:=Tryz.isAgg207
 z77:=Tryz.sizeOf207
 v77:=Tryz.zeroValue207}
end
section
open Go.Shelf
def Tryz.bString_ren:Go.Shelf.Ren:=⟨fun|169=>111|n=>n,fun|70=>161|9=>9|0=>0|72=>164|37=>162|127=>180|3=>3|5=>5|n=>n,fun|n=>n⟩
theorem Tryz.bString:Go.Proofs.Lays.n169 Tryz.prog Tryz.bString_ren:={
 mixed:=by kernel_rfl
 f169:=Tryz.func111.trans (congrArg some (by kernel_rfl))
 t0:=Tryz.underlying0
 a0:=Tryz.isAgg0
 z0:=Tryz.sizeOf0
 v0:=Tryz.zeroValue0
 t3:=Tryz.underlying3
 a3:=Tryz.isAgg3
 z3:=Tryz.sizeOf3
 v3:=Tryz.zeroValue3
 t9:=Tryz.underlying9
 a9:=Tryz.isAgg9
 z9:=Tryz.sizeOf9
 v9:=Tryz.zeroValue9
 t37:=Tryz.underlying162
 a37:=Tryz.isAgg162
 z37:=Tryz.sizeOf162
 v37:=Tryz.zeroValue162
 t70:=Tryz.underlying161
 a70:=Tryz.isAgg161
 z70:=Tryz.sizeOf161
 v70:=Tryz.zeroValue161
 t72:=Tryz.underlying164
 a72:=Tryz.isAgg164
 z72:=Tryz.sizeOf164
 v72:=Tryz.zeroValue164
 t127:=Tryz.underlying180
 a127:=Tryz.isAgg180
 z127:=Tryz.sizeOf180
 v127:=Tryz.zeroValue180}
end
section
open Go.Shelf
end
end Go.Proofs.YtalbfonkhpeajaaGreat
namespace Go.Proofs.YtalbfonkhpeajaaGreat
set_option linter.unusedVariables false
section
open Go.RowKit
theorem Rd.of_blk {w:World} {F:Nat→Prop} {g n size:Nat} {t:TypeId} {us:List Value} (hk:Blk w g t us.toArray) (hF:F g) (hl:us.length=n * size) (hm:n≤maxLen):Rd w F (.slice (some ⟨g,0,none⟩) n n) size us:=
 ⟨_,n,n,rfl,Nat.le_refl _,hm,hl,fun _=>⟨g,0,rfl,hF,fun j u hu=>by rw [hk.cell];simpa using hu⟩⟩
theorem flat_two {X:Type} {f:X→Value×Value}: ∀(l:List X) (i:Nat) (p:X),l[i]? =some p→(l.flatMap (fun p=>[(f p).1,(f p).2]))[i * 2]? =some (f p).1∧(l.flatMap (fun p=>[(f p).1,(f p).2]))[i * 2+1]? =some (f p).2
 |a::r,0,p,h=>by
  simp at h
  subst h
  simp
 |a::r,i+1,p,h=>by
  have:=flat_two (f:=f) r i p (by simpa using h)
  simp only [List.flatMap_cons]
  rw [show(i+1) * 2=i * 2+2 by omega]
  exact this
theorem RdR.of_blk {w:World} {F:Nat→Prop} {g:Nat} {t:TypeId} (rvs:List ((Int×List Int)×Value)) (hk:Blk w g t (rvs.flatMap (fun p=>[Value.int .i64 p.1.1,p.2])).toArray) (hF:F g) (h: ∀p∈rvs,RdI w F p.2 p.1.2) (hl:rvs.length≤maxLen):
  RdR w F (.slice (some ⟨g,0,none⟩) rvs.length rvs.length) (rvs.map (·.1)):=by
 refine⟨some ⟨g,0,none⟩,rvs.length,by rw [List.length_map],by rw [List.length_map];exact Nat.le_refl _,hl,fun hn=>⟨g,0,rfl,hF,fun i x hx=> ?_⟩⟩
 rw [List.getElem?_map]at hx
 obtain⟨p,hp,rfl⟩:=Option.map_eq_some_iff.1 hx
 have hc:=flat_two (f:=fun p:(Int×List Int)×Value=>(Value.int .i64 p.1.1,p.2)) rvs i p hp
 refine⟨[Value.int .i64 p.1.1,p.2],rfl,⟨p.2,rfl,h p (List.mem_of_getElem? hp)⟩,fun j u hu=> ?_⟩
 rw [hk.cell]
 have hj:=(List.getElem?_eq_some_iff.1 hu).1
 simp only [List.length_cons,List.length_nil]at hj
 have hj2:j=0∨j=1:=by omega
 rcases hj2 with rfl|rfl
 ·simp at hu;subst hu;simpa using hc.1
 ·simp at hu;subst hu;simpa using hc.2
end
section
open Go.RowKit
theorem own_below {w w':World} {base:Nat} {e:TypeId} {size n:Nat} {v:Value} {xs:List Value} (h:w.ownsRow base e size v n xs) {z:Nat} (hb:Below z w w') (hz: ∀k,v.ownBlock=some k→k<z):w'.ownsRow base e size v n xs:=
 (Touch.of_below hb).own h fun k hk hz'=>by have:=hz k hk;omega
theorem own_below' {w w':World} {base:Nat} {e:TypeId} {size n:Nat} {v:Value} {xs:List Value} (h:w.ownsRow base e size v n xs) (hb:Below w.heap.size w w'):w'.ownsRow base e size v n xs:=
 own_below h hb fun k hk=>(h.lt k hk).2
theorem own_far {w:World} {base:Nat} {e:TypeId} {size n:Nat} {v:Value} {xs:List Value} (h:w.ownsRow base e size v n xs) {p:Addr} (hp:v.ownBlock≠some p.block) (u:Value):(w.setCell p u).ownsRow base e size v n xs:=
 ((Touch.refl (fun k=>k=p.block) w).setCell (fun _=>rfl) u).own h fun k hk e=>hp (by rw [hk,e])
section
variable {w w' w2 : World} {base B : Nat} {vt vn vr v : Value} {st : Int} {ts ns : List ByteArray} {rvs : List ((Int × List Int) × Value)}
end
end
end Go.Proofs.YtalbfonkhpeajaaGreat

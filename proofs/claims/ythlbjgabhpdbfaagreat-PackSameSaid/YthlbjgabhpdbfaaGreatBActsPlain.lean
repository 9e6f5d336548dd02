/- Tables, in plain words: the possible actions of a place, all clashes, a grammar's table; that it is right. -/
import Derived.Test.YthlbjgabhpdbfaaGreatBLook15
import Derived.Test.YthlbjgabhpdbfaaGreatBItemLay
set_option linter.unusedVariables false
set_option linter.unusedSimpArgs false
set_option maxRecDepth 100000
set_option maxHeartbeats 4000000
namespace Go.Proofs.YthlbjgabhpdbfaaGreat
open Go.Proofs.Tryz
open Bool renaming and_eq_true->Za
open Int renaming eq_ofNat_of_zero_le->Zb,toNat_natCast->Zc
open List renaming all_eq_true->Zd,flatMap_append->Ze,getElem_of_mem->Zf,length_map->Zg,map_append->Zh,mem_append->Zi,mem_filterMap->Zj,mem_map->Zk,mem_of_getElem?->Zl,mem_singleton->Zm,range_succ->Zn
open Nat renaming le_refl->Zo,lt_of_lt_of_le->Zp,zero_le->Zq
abbrev Ac:=Int×Int
def p1A (t:Int) (x:It):Option Ac:=if 0<t/\x.1=t then some (1,x.2)else none
def p2A (own t:Int) (x:Lk):Option Ac:=if x.1=own/\t∈x.2 then some (3,0)else none
def p3A (own t:Int) (x:Lk):Option Ac:=if x.1≠own/\t∈x.2 then some (2,x.1)else none
def dy (own:Int) (tr:List It) (L:List Lk) (t:Int):List Ac:=tr.filterMap (p1A t)++(L.filterMap (p2A own t)++L.filterMap (p3A own t))
abbrev Cla:=(Int×Int)×(Ac×Ac)
def i4 (i t:Int) (a:List Ac):List Cla:=a.tail.map λb=>((i,t),(a.headD (0,0),b))
def jl (own:Int) (tr:List It) (L:List Lk) (i m:Nat):List Cla:=(List.range m).flatMap λ(t:Nat)=>i4 (i:Int) (t:Int) (dy own tr L (t:Int))
def trD (D:aP) (i:Nat):List It:=(D.getD i ([],[])).2
def lkD (LL:List (List Lk)) (i:Nat):List Lk:=LL.getD i []
def kq (own:Int) (D:aP) (LL:List (List Lk)) (m i:Nat):List Cla:=(List.range i).flatMap λj=>jl own (trD D j) (lkD LL j) j m
def eM (own:Int) (tr:List It) (L:List Lk) (m:Nat):List Ac:=(List.range m).map λk=>(dy own tr L ((k:Nat):Int)).headD (0,0)
def gU (D:aP) (T i n:Nat):List Int:=(List.range n).map λk=>dM D (i:Int) (((T+1+k:Nat)):Int)
structure aW where
 rules:List (Int×List Int)
 terms:Int
 nons:Int
 acts:List (List Ac)
 goto:List (List Int)
def jQ (own:Int) (D:aP) (LL:List (List Lk)) (m i:Nat):List (List Ac):=(List.range i).map λj=>eM own (trD D j) (lkD LL j) m
def jP (D:aP) (T n i:Nat):List (List Int):=(List.range i).map λj=>gU D T j n
def fS (G:ac) (st:Int) (D:aP) (LL:List (List Lk)):aW:=⟨G.rules++[(0,[st])],G.terms.length,G.nons.length,jQ G.rules.length D LL (G.terms.length+1) D.length,jP D G.terms.length G.nons.length D.length⟩
def jh:aW:=⟨[],0,0,[],[]⟩
theorem n7 {D:aP} {i:Nat} {e:List It×List It} (h:D[i]? =some e):trD D i=e.2:=by unfold trD;rw [List.getD_eq_getElem?_getD,h];rfl
theorem ni {LL:List (List Lk)} {i:Nat} {L:List Lk} (h:LL[i]? =some L):lkD LL i=L:=by unfold lkD;rw [List.getD_eq_getElem?_getD,h];rfl
theorem tf (own:Int) (tr:List It) (L:List Lk) (i m:Nat):jl own tr L i (m+1)=jl own tr L i m++i4 (i:Int) (m:Int) (dy own tr L (m:Int)):=by
 unfold jl;rw [Zn,Ze];simp
theorem vh (own:Int) (D:aP) (LL:List (List Lk)) (m i:Nat):kq own D LL m (i+1)=kq own D LL m i++jl own (trD D i) (lkD LL i) i m:=by
 unfold kq;rw [Zn,Ze];simp
theorem zR (own:Int) (tr:List It) (L:List Lk) (m:Nat):eM own tr L (m+1)=eM own tr L m++[(dy own tr L (m:Int)).headD (0,0)]:=by
 unfold eM;rw [Zn,Zh];rfl
theorem zQ (D:aP) (T i n:Nat):gU D T i (n+1)=gU D T i n++[dM D (i:Int) (((T+1+n:Nat)):Int)]:=by
 unfold gU;rw [Zn,Zh];rfl
theorem oX (own:Int) (D:aP) (LL:List (List Lk)) (m i:Nat):jQ own D LL m (i+1)=jQ own D LL m i++[eM own (trD D i) (lkD LL i) m]:=by
 unfold jQ;rw [Zn,Zh];rfl
theorem oT (D:aP) (T n i:Nat):jP D T n (i+1)=jP D T n i++[gU D T i n]:=by
 unfold jP;rw [Zn,Zh];rfl
theorem mw (own:Int) (tr:List It) (L:List Lk) (m:Nat):(eM own tr L m).length=m:=by unfold eM;simp
theorem mv (D:aP) (T i n:Nat):(gU D T i n).length=n:=by unfold gU;simp
theorem pK (own:Int) (D:aP) (LL:List (List Lk)) (m i:Nat):(jQ own D LL m i).length=i:=by unfold jQ;simp
theorem pE (D:aP) (T n i:Nat):(jP D T n i).length=i:=by unfold jP;simp
theorem CR (own:Int) (D:aP) (LL:List (List Lk)) (m:Nat) {n i:Nat} (h:i<n):(jQ own D LL m n)[i]? =some (eM own (trD D i) (lkD LL i) m):=by unfold jQ;rw [List.getElem?_map,List.getElem?_range h];rfl
theorem Cw (D:aP) (T m:Nat) {n i:Nat} (h:i<n):(jP D T m n)[i]? =some (gU D T i m):=by unfold jP;rw [List.getElem?_map,List.getElem?_range h];rfl
def gp (n r:Nat) (a:Ac):Bool:=if a.1=0\/a.1=3 then decide (a.2=0)else if a.1=1 then decide (0<=a.2)&&decide (a.2<n)else decide (a.1=2)&&(decide (0<=a.2)&&decide (a.2<(r:Int) - 1))
def nJ (n:Nat) (x:Int):Bool:=decide (-1<=x)&&decide (x<n)
def iz (T N:Int) (n r:Nat) (x:List Ac×List Int):Bool:=(!decide (x.1.length=0)&&(decide (((x.1.length:Int)) - 1=T)&&decide ((x.2.length:Int)=N)))&&(x.1.all (gp n r)&&x.2.all (nJ n))
def mi (T N:Int) (x:Int×List Int):Bool:=decide (T<x.1)&&decide (x.1 - T<=N)
def kD (t:aW):Bool:= !decide (t.rules.length=0)&&(!decide (t.acts.length=0)&&(decide (t.acts.length=t.goto.length)&&(decide (0<=t.terms)&&decide (0<=t.nons))))
def dI (t:aW):Bool:=kD t&&((t.rules.take (t.rules.length - 1)).all (mi t.terms t.nons)&&(List.zip t.acts t.goto).all (iz t.terms t.nons t.acts.length t.rules.length))
def iO (t:aW) (i k:Int):Ac:=if i<0\/(t.acts.length:Int)<=i\/k<0 then(0,0)else((t.acts.getD i.toNat []).getD k.toNat (0,0))
def gw (t:aW) (i s:Int):Int:=if i<0\/(t.goto.length:Int)<=i\/t.terms<0\/s<=t.terms then -1 else((t.goto.getD i.toNat []).getD (s - t.terms - 1).toNat (-1))
theorem Dn {own:Int} {tr:List It} {L:List Lk} {t:Int} {a:Ac} (h:a∈dy own tr L t):(∃b∈tr,b.1=t/\0<t/\a=(1,b.2))\/(a=(3,0)/\ ∃b∈L,b.1=own/\t∈b.2)\/ ∃b∈L,b.1≠own/\t∈b.2/\a=(2,b.1):=by
 unfold dy at h;rw [Zi,Zi,Zj,Zj,Zj]at h;rcases h with⟨b,d,e⟩|⟨b,d,e⟩|⟨b,d,e⟩
 ·unfold p1A at e
  split at e
  ·rename_i c
   injection e with e
   exact .inl ⟨b,d,c.2,c.1,e.symm⟩
  ·cases e
 ·unfold p2A at e
  split at e
  ·rename_i c
   injection e with e
   exact .inr (.inl ⟨e.symm,b,d,c.1,c.2⟩)
  ·cases e
 ·unfold p3A at e
  split at e
  ·rename_i c
   injection e with e
   exact .inr (.inr ⟨b,d,c.1,c.2,e.symm⟩)
  ·cases e
theorem Cs {α:Type} (l:List α) (d:α):l.headD d=d\/l.headD d∈l:=by cases l<;>simp
section
variable {G : ac} {st : Int} {L T : List (List It)}
theorem wi (e:Bld G st L.length L T) {i:Nat} {d:List It×List It} (a:(stD L T)[i]? =some d): ∃t,T[i]? =some t/\L[i]? =some d.1/\d.2=t:=by
 rw [fX]at a;obtain⟨f,b,rfl⟩:=Option.map_eq_some_iff.1 a;have hi:=(List.getElem?_eq_some_iff.1 b).1;obtain⟨t,c⟩: ∃t,T[i]? =some t:=⟨_,List.getElem?_eq_getElem (by rw [e.f.len];exact hi)⟩;exact⟨t,c,b,by rw [c];rfl⟩
theorem AE (b:Bld G st L.length L T) {i:Nat} {d:List It×List It} (e:(stD L T)[i]? =some d) (s:Int):(dM (stD L T) i s= -1/\ ∀a,((s,a):It)∉d.2)\/ ∃j:Nat,dM (stD L T) i s=(j:Int)/\j<L.length:=by
 obtain⟨t,f,k,g⟩:=wi b e;rw [o0 e,g];rcases uF (b.f.sort t (Zl f)) s with⟨a,hm,c⟩|⟨l,c⟩
 ·obtain⟨-,-,-,o,h⟩:=b.f.mem i t d.1 f k s a hm;have:=(List.getElem?_eq_some_iff.1 h).1;exact .inr ⟨a.toNat,by rw [c];omega,this⟩
 ·exact .inl ⟨c,l⟩
theorem Bw (v:bf G st=0) (g:Bld G st L.length L T):dI (fS G st (stD L T) (bN G st (stD L T)))=true:=by
 have H:=KnA.of_check v;have x:=g.f;have y:(stD L T).length=L.length:=fj L T;have Z:0<L.length:=(List.getElem?_eq_some_iff.1 x.first).1;unfold dI kD fS;simp only [pK,pE,y];have C:(G.rules++[((0:Int),[st])]).take ((G.rules++[((0:Int),[st])]).length - 1)=G.rules:=by simp
 rw [C];refine Bool.and_eq_true_iff.2 ⟨?_,Bool.and_eq_true_iff.2 ⟨?_,?_⟩⟩
 ·have: ¬L.length=0:=by omega
  simp [this]
 ·rw [Zd];intro S K;have:=((Kn.of_check v).k S K).1;unfold mi;unfold am ao at this;simp only [Za,decide_eq_true_eq]at this⊢;omega
 ·rw [Zd];intro U P;obtain⟨a,hi,e⟩:=Zf P;have o:a<L.length:=by rw [List.length_zip,pK,pE]at hi;omega
  have d:=CR (G.rules.length:Int) (stD L T) (bN G st (stD L T)) (G.terms.length+1) o;have f:=Cw (stD L T) G.terms.length G.nons.length o;have E:U=(eM (G.rules.length:Int) (trD (stD L T) a) (lkD (bN G st (stD L T)) a) (G.terms.length+1),gU (stD L T) G.terms.length a G.nons.length):=by
   rw [<-e,List.getElem_zip];rw [List.getElem?_eq_some_iff]at d f;obtain⟨_,d⟩:=d;obtain⟨_,f⟩:=f;rw [d,f]
  subst E;obtain⟨b,i⟩: ∃b,(stD L T)[a]? =some b:=⟨_,List.getElem?_eq_getElem (by rw [y];exact o)⟩;have Y:=i9.of_bld g H;rw [n7 i,ni (kU i)];unfold iz;simp only [mw,mv];refine Bool.and_eq_true_iff.2 ⟨by simp,Bool.and_eq_true_iff.2 ⟨?_,?_⟩⟩
  ·rw [Zd];intro z l;obtain⟨q,I,e⟩:=Zk.1 l;rw [<-e];rcases Cs (dy (G.rules.length:Int) b.2 (j9 G st (stD L T) a b) ((q:Nat):Int)) (0,0)with h|h
   ·rw [h];rfl
   ·rcases Dn h with⟨r,p,u,V,c⟩|⟨c,-⟩|⟨r,p,u,-,c⟩
    ·have O: ∃k,T[a]? =some k/\L[a]? =some b.1/\b.2=k:=wi g i;obtain⟨k,M,J,D⟩:=O;have:=x.mem a k b.1 M J r.1 r.2 (by rw [<-D];exact p);rw [c];unfold gp;have W:=(List.getElem?_eq_some_iff.1 this.2.2.2.2).1;have X:=this.2.2.2.1;simp;omega
    ·rw [c];rfl
    ·obtain⟨Q,ad,s,-⟩:=EJ p;rw [c];unfold gp;have:(Q:Int)≠(G.rules.length:Int):=λA=>u (s.trans A)
     simp [s];omega
  ·rw [Zd];intro z l;obtain⟨q,I,e⟩:=Zk.1 l;rw [<-e];unfold nJ;rcases AE g i (((G.terms.length+1+q:Nat)):Int)with⟨h,-⟩|⟨j,h,hj⟩
   ·rw [h];simp;omega
   ·rw [h];simp;omega
end
structure cq where
 rules:List (Int×List Int)
 terms:Int
 nons:Int
 row:List Int
 rows:List (List Int)
 gow:List Int
 gows:List (List Int)
def mY:cq:=⟨[],0,0,[],[],[],[]⟩
def dD (a:Ac):Int:=a.1 * 16384+a.2
def fE (n:Int):Ac:=(n/16384,n%16384)
theorem tL {a:Ac} (e:0<=a.2) (f:a.2<16384):fE (dD a)=a:=by
 obtain⟨b,n⟩:=a;unfold fE dD;simp only at e f⊢;have c:(b * 16384+n)/16384=b:=by omega
 have d:(b * 16384+n)%16384=n:=by omega
 rw [c,d]
def plR:List (List Int)->List Int->Nat
 |[],_=>0
 |x::l,r=>if x=r then 0 else plR l r+1
theorem yP: ∀{R:List (List Int)} {r:List Int},r∈R->R[plR R r]? =some r
 |[],r,h=>by cases h
 |x::l,r,h=>by
  unfold plR
  split
  ·rename_i e;subst e;rfl
  ·rename_i e
   rcases List.mem_cons.1 h with h|h
   ·exact absurd h.symm e
   ·rw [List.getElem?_cons_succ];exact yP h
theorem wm: ∀{R:List (List Int)} {r:List Int},r∉R->plR R r=R.length
 |[],r,h=>rfl
 |x::l,r,h=>by
  unfold plR;have b: ¬x=r:=λe=>h (by rw [e];exact List.mem_cons_self ..)
  rw [if_neg b,wm (λa=>h (List.mem_cons_of_mem _ a))];rfl
def gZ (R:List (List Int)) (r:List Int):List (List Int):=if r∈R then R else R++[r]
theorem rn {R:List (List Int)} {r:List Int} (h:r∈R):gZ R r=R:=if_pos h
theorem um {R:List (List Int)} {r:List Int} (h:r∉R):gZ R r=R++[r]:=if_neg h
theorem Dk {R:List (List Int)} (r:List Int):(gZ R r)[plR R r]? =some r:=by
 by_cases h:r∈R
 ·rw [rn h];exact yP h
 ·rw [um h,wm h,List.getElem?_append_right (Zo _),Nat.sub_self];rfl
theorem BQ {R:List (List Int)} (r:List Int) {i:Nat} {x:List Int} (h:R[i]? =some x):(gZ R r)[i]? =some x:=by
 by_cases a:r∈R
 ·rw [rn a];exact h
 ·rw [um a,List.getElem?_append_left (List.getElem?_eq_some_iff.1 h).1];exact h
theorem Dj (R:List (List Int)) (r:List Int):(gZ R r).length<=R.length+1:=by unfold gZ;split<;>simp
theorem zU {R:List (List Int)} {r:List Int} (h:R.Nodup):(gZ R r).Nodup:=by
 unfold gZ
 split
 ·exact h
 ·rename_i c
  rw [List.nodup_append];exact⟨h,by simp,λd b f a=>by rw [Zm]at a;subst a;exact λe=>c (e▸b)⟩
theorem Di {R:List (List Int)} {r x:List Int} (h:x∈gZ R r):x∈R\/x=r:=by
 unfold gZ at h
 split at h
 ·exact .inl h
 ·rw [Zi,Zm]at h;exact h
def rJ (s:List (List Int)×List Int) (r:List Int):List (List Int)×List Int:=(gZ s.1 r,s.2++[((plR s.1 r:Nat):Int)])
def bn (rs:List (List Int)):List (List Int)×List Int:=rs.foldl rJ ([],[])
theorem zX (rs:List (List Int)) (r:List Int):bn (rs++[r])=rJ (bn rs) r:=by unfold bn;rw [List.foldl_append];rfl
structure uf (rs R:List (List Int)) (I:List Int):Prop where
 len:I.length=rs.length
 le:R.length<=rs.length
 mem: ∀r,r∈R->r∈rs
 at_: ∀(j:Nat) r,rs[j]? =some r-> ∃k:Nat,I[j]? =some (k:Int)/\R[k]? =some r
 nodup:R.Nodup
theorem uf.step {rs R:List (List Int)} {d:List Int} (h:uf rs R d) (r:List Int):uf (rs++[r]) (gZ R r) (d++[((plR R r:Nat):Int)]):=by
 refine⟨by simp [h.len],?_,λc a=> ?_,λb c a=> ?_,zU h.nodup⟩
 ·have:=Dj R r;have:=h.le;simp;omega
 ·rcases Di a with e|e
  ·exact List.mem_append_left _ (h.mem c e)
  ·subst e;simp
 ·by_cases f:b<rs.length
  ·rw [List.getElem?_append_left f]at a;obtain⟨k,g,i⟩:=h.at_ b c a;exact⟨k,by rw [List.getElem?_append_left (by rw [h.len];exact f)];exact g,BQ r i⟩
  ·have j:b=rs.length:=by have:=(List.getElem?_eq_some_iff.1 a).1;simp at this;omega
   subst j;rw [List.getElem?_append_right (Zo _),Nat.sub_self]at a;injection a with a
   subst a;exact⟨plR R r,by rw [<-h.len,List.getElem?_append_right (Zo _),Nat.sub_self];rfl,Dk r⟩
theorem sI: ∀(rs a:List (List Int)) (s:List (List Int)×List Int),uf a s.1 s.2->uf (a++rs) (rs.foldl rJ s).1 (rs.foldl rJ s).2
 |[],a,s,h=>by rw [List.append_nil];exact h
 |r::rs,a,s,h=>by
  have:=sI rs (a++[r]) (rJ s r) (h.step r);rw [List.append_assoc]at this;exact this
theorem eu (rs:List (List Int)):uf rs (bn rs).1 (bn rs).2:=by
 have:=sI rs [] ([],[]) ⟨rfl,Zo _,λa h=>(by cases h),λb a h=>(by simp at h),List.nodup_nil⟩;rwa [List.nil_append]at this
def bZ (t:aW):List (List Int):=t.acts.map λr=>r.map dD
def cY (t:aW):List (List Int):=t.goto.map λr=>r.map λx=>x+1
def dE (t:aW):Bool:=dI t&&(decide (t.acts.length<=16383)&&decide (t.rules.length<=16383))
def aZ (t:aW):cq:=⟨t.rules,t.terms,t.nons,(bn (bZ t)).2,(bn (bZ t)).1,(bn (cY t)).2,(bn (cY t)).1⟩
def inR (n:Nat) (x:Int):Bool:=decide (0<=x)&&decide (x<n)
def fN (p:cq):Bool:=decide (p.row.length=p.gow.length)&&(p.row.all (inR p.rows.length)&&p.gow.all (inR p.gows.length))
def dT (p:cq):aW:=⟨p.rules,p.terms,p.nons,p.row.map λx=>(p.rows.getD x.toNat []).map fE,p.gow.map λx=>(p.gows.getD x.toNat []).map λn=>n - 1⟩
def vT (p q:cq):Bool:=decide (p.row=q.row)&&(decide (p.gow=q.gow)&&(decide (p.rows=q.rows)&&decide (p.gows=q.gows)))
def gD (p:cq):Bool:=fN p&&(dE (dT p)&&vT p (aZ (dT p)))
def dX (p:cq):aW:=if gD p=true then dT p else jh
def lC (p:cq) (i k:Int):Ac:=if i<0\/(p.row.length:Int)<=i\/k<0 then(0,0)else
 let x:=p.row.getD i.toNat (-1)
 if inR p.rows.length x=true then fE ((p.rows.getD x.toNat []).getD k.toNat 0)else(0,0)
def jj (p:cq) (i s:Int):Int:=if i<0\/(p.gow.length:Int)<=i\/p.terms<0\/s<=p.terms then -1 else
 let x:=p.gow.getD i.toNat (-1)
 if inR p.gows.length x=true then(p.gows.getD x.toNat []).getD (s - p.terms - 1).toNat 0 - 1 else -1
theorem rG {t:aW} (h:dI t=true) {i:Nat} {x:List Ac} (b:t.acts[i]? =some x): ∃a,t.goto[i]? =some a/\iz t.terms t.nons t.acts.length t.rules.length (x,a)=true:=by
 unfold dI kD at h;simp only [Za,decide_eq_true_eq]at h;have e:t.acts.length=t.goto.length:=h.1.2.2.1;have hi:=(List.getElem?_eq_some_iff.1 b).1;obtain⟨a,c⟩: ∃a,t.goto[i]? =some a:=⟨_,List.getElem?_eq_getElem (by omega)⟩;have d:(List.zip t.acts t.goto)[i]? =some (x,a):=by rw [List.getElem?_zip_eq_some];exact⟨b,c⟩
 exact⟨a,c,(Zd.1 h.2.2) _ (Zl d)⟩
theorem xv {t:aW} (h:dI t=true) {i:Nat} {y:List Int} (e:t.goto[i]? =some y): ∃a,t.acts[i]? =some a/\iz t.terms t.nons t.acts.length t.rules.length (a,y)=true:=by
 have c:=h;unfold dI kD at c;simp only [Za,decide_eq_true_eq]at c;have g:t.acts.length=t.goto.length:=c.1.2.2.1;have hi:=(List.getElem?_eq_some_iff.1 e).1;obtain⟨a,d⟩: ∃a,t.acts[i]? =some a:=⟨_,List.getElem?_eq_getElem (by omega)⟩;obtain⟨j,b,f⟩:=rG h d;rw [e]at b;injection b with b
 exact⟨a,d,b▸f⟩
theorem mr {T N:Int} {n r:Nat} {x:List Ac} {y:List Int} (h:iz T N n r (x,y)=true):x.length≠0/\((x.length:Int)) - 1=T/\(y.length:Int)=N/\(∀b∈x,gp n r b=true)/\ ∀a∈y,-1<=a/\a<n:=by
 unfold iz at h;simp only [Za,decide_eq_true_eq,Bool.not_eq_true',decide_eq_false_iff_not,Zd]at h;refine⟨h.1.1,h.1.2.1,h.1.2.2,h.2.1,λa c=> ?_⟩;have:=h.2.2 a c;unfold nJ at this;simpa using this
theorem Cd {n r:Nat} {a:Ac} (h:gp n r a=true):(0<=a.1/\a.1<=3)/\0<=a.2/\(a.2<n\/a.2<(r:Int) - 1\/a.2=0):=by
 unfold gp at h
 split at h
 ·simp only [decide_eq_true_eq]at h;omega
 ·split at h
  ·simp only [Za,decide_eq_true_eq]at h;omega
  ·simp only [Za,decide_eq_true_eq]at h;omega
theorem km {t:aW} (h:dE t=true):dI t=true/\t.acts.length<=16383/\t.rules.length<=16383/\0<t.acts.length:=by
 unfold dE at h;simp only [Za,decide_eq_true_eq]at h;have a:=h.1;unfold dI kD at a;simp only [Za,decide_eq_true_eq,Bool.not_eq_true',decide_eq_false_iff_not]at a;exact⟨h.1,h.2.1,h.2.2,by omega⟩
theorem uL {t:aW} (h:dI t=true):t.acts.length=t.goto.length/\0<=t.terms/\0<=t.nons:=by
 unfold dI kD at h;simp only [Za,decide_eq_true_eq]at h;exact⟨h.1.2.2.1,h.1.2.2.2⟩
theorem qr {t:aW} (h:dE t=true) {i:Nat} {x:List Ac} (e:t.acts[i]? =some x) {a:Ac} (c:a∈x):(0<=a.1/\a.1<=3)/\0<=a.2/\a.2<16384:=by
 obtain⟨b,f,g,-⟩:=km h;obtain⟨j,-,d⟩:=rG b e;have:=Cd ((mr d).2.2.2.1 a c);omega
theorem yW {t:aW} (h:dE t=true) {i:Nat} {y:List Int} (c:t.goto[i]? =some y) {z:Int} (d:z∈y): -1<=z/\z<16383:=by
 obtain⟨a,e,f,-⟩:=km h;obtain⟨g,-,b⟩:=xv a c;have:=(mr b).2.2.2.2 z d;omega
theorem wX {α:Type} {L:List (List α)} {f:α->Int} {g:Int->α} (l: ∀a∈L,∀b∈a,g (f b)=b):((bn (L.map λc=>c.map f)).2.map λa=>((bn (L.map λc=>c.map f)).1.getD a.toNat []).map g)=L:=by
 have h:=eu (L.map λc=>c.map f);apply List.ext_getElem?;intro e;by_cases o:e<L.length
 ·obtain⟨a,d⟩: ∃a,L[e]? =some a:=⟨_,List.getElem?_eq_getElem o⟩;obtain⟨p,i,j⟩:=h.at_ e (a.map f) (by rw [List.getElem?_map,d];rfl);rw [List.getElem?_map,i,d,Option.map_some,List.getD_eq_getElem?_getD,Zc,j];simp only [Option.getD_some,List.map_map];congr 1;have: ∀b∈a,(g∘f) b=b:=λb k=>l a (Zl d) b k
  calc a.map (g∘f)=a.map id:=List.map_congr_left this
   _=a:=List.map_id a
 ·rw [List.getElem?_eq_none (by rw [Zg,h.len,Zg];omega),List.getElem?_eq_none (by omega)]
theorem ur {rs:List (List Int)}:(bn rs).2.all (inR (bn rs).1.length)=true:=by
 have d:=eu rs;rw [Zd];intro l j;obtain⟨f,b,e⟩:=Zf j;obtain⟨c,i⟩: ∃c,rs[f]? =some c:=⟨_,List.getElem?_eq_getElem (by rw [d.len]at b;exact b)⟩;obtain⟨k,a,h⟩:=d.at_ f c i;have g:l=(k:Int):=by
  rw [List.getElem?_eq_getElem b]at a;injection a with a
  rw [<-e,a]
 subst g;have:=(List.getElem?_eq_some_iff.1 h).1;unfold inR;simp only [Za,decide_eq_true_eq];omega
theorem uP {t:aW} (h:dE t=true):dT (aZ t)=t:=by
 have i: ∀a∈t.acts,∀b∈a,fE (dD b)=b:=λa k b j=>by
  obtain⟨l,hi,e⟩:=Zf k;have:=qr h (i:=l) (x:=a) (by rw [List.getElem?_eq_getElem hi,e]) j;exact tL this.2.1 this.2.2
 have c:=wX (f:=dD) (g:=fE) i;have d:=wX (L:=t.goto) (f:=λa=>a+1) (g:=λn=>n - 1) (λa _ b _=>by show b+1 - 1=b;omega);unfold dT aZ;simp only;have f:(bn (bZ t)).2.map (λa=>((bn (bZ t)).1.getD a.toNat []).map fE)=t.acts:=c;have g:(bn (cY t)).2.map (λa=>((bn (cY t)).1.getD a.toNat []).map λn=>n - 1)=t.goto:=d;rw [f,g]
theorem sy {t:aW} (h:dE t=true):gD (aZ t)=true:=by
 unfold gD;rw [uP h,h];have c:=(uL (km h).1).1;have a:=eu (bZ t);have b:=eu (cY t);have:fN (aZ t)=true:=by
  unfold fN aZ;simp only;rw [ur,ur,a.len,b.len];unfold bZ cY;simp [c]
 rw [this];unfold vT;simp
theorem xX {t:aW} (h:dE t=true):dX (aZ t)=t:=by unfold dX;rw [if_pos (sy h),uP h]
theorem xw {t:aW} (h:dE t=true) (i k:Int):lC (aZ t) i k=iO t i k:=by
 have e:=eu (bZ t);have p:(aZ t).row.length=t.acts.length:=by
  show(bn (bZ t)).2.length=_;rw [e.len];unfold bZ;simp
 unfold lC iO;rw [p]
 split
 ·rfl
 ·rename_i r
  obtain⟨a,c⟩: ∃a,t.acts[i.toNat]? =some a:=⟨_,List.getElem?_eq_getElem (by omega)⟩;obtain⟨b,l,d⟩:=e.at_ i.toNat (a.map dD) (by unfold bZ;rw [List.getElem?_map,c];rfl);have f:(aZ t).row.getD i.toNat (-1)=(b:Int):=by
   rw [List.getD_eq_getElem?_getD];show((bn (bZ t)).2[i.toNat]?).getD (-1)=_;rw [l];rfl
  have s:=(List.getElem?_eq_some_iff.1 d).1;have g:inR (aZ t).rows.length (b:Int)=true:=by
   unfold inR;have:(aZ t).rows=(bn (bZ t)).1:=rfl;rw [this];simp only [Za,decide_eq_true_eq];omega
  have j:(aZ t).rows.getD (b:Int).toNat []=a.map dD:=by
   rw [List.getD_eq_getElem?_getD,Zc];show((bn (bZ t)).1[b]?).getD []=_;rw [d];rfl
  simp only [f,g,if_true,j];rw [List.getD_eq_getElem?_getD,List.getD_eq_getElem?_getD (l:=t.acts),c,Option.getD_some,List.getD_eq_getElem?_getD,List.getElem?_map];cases o:a[k.toNat]? with
  |none=>rfl
  |some q=>
   have:=qr h c (Zl o);exact tL this.2.1 this.2.2
theorem uX {t:aW} (h:dE t=true) (i s:Int):jj (aZ t) i s=gw t i s:=by
 have e:=eu (cY t);have p:(aZ t).gow.length=t.goto.length:=by
  show(bn (cY t)).2.length=_;rw [e.len];unfold cY;simp
 unfold jj gw;rw [p];have l:(aZ t).terms=t.terms:=rfl;rw [l]
 split
 ·rfl
 ·rename_i r
  obtain⟨a,f⟩: ∃a,t.goto[i.toNat]? =some a:=⟨_,List.getElem?_eq_getElem (by omega)⟩;obtain⟨b,o,d⟩:=e.at_ i.toNat (a.map λc=>c+1) (by unfold cY;rw [List.getElem?_map,f];rfl);have g:(aZ t).gow.getD i.toNat (-1)=(b:Int):=by
   rw [List.getD_eq_getElem?_getD];show((bn (cY t)).2[i.toNat]?).getD (-1)=_;rw [o];rfl
  have v:=(List.getElem?_eq_some_iff.1 d).1;have j:inR (aZ t).gows.length (b:Int)=true:=by
   unfold inR;have:(aZ t).gows=(bn (cY t)).1:=rfl;rw [this];simp only [Za,decide_eq_true_eq];omega
  have k:(aZ t).gows.getD (b:Int).toNat []=a.map λc=>c+1:=by
   rw [List.getD_eq_getElem?_getD,Zc];show((bn (cY t)).1[b]?).getD []=_;rw [d];rfl
  simp only [g,j,if_true,k];rw [List.getD_eq_getElem?_getD,List.getD_eq_getElem?_getD (l:=t.goto),f,Option.getD_some,List.getD_eq_getElem?_getD,List.getElem?_map];cases u:a[(s - t.terms - 1).toNat]? with
  |none=>rfl
  |some q=>simp only [Option.map_some,Option.getD_some];omega
theorem BL (t:aW):(aZ t).rows.length<=t.acts.length/\(aZ t).gows.length<=t.goto.length:=by
 have a:=(eu (bZ t)).le;have b:=(eu (cY t)).le;unfold bZ at a;unfold cY at b;rw [Zg]at a b;exact⟨a,b⟩
open Go.RowKit
theorem jF {x:Int} (a:0<=x) (b:x<65536):IntKind.u16.wrap x=x:=by
 simp [IntKind.wrap,IntKind.bits,IntKind.signed];omega
theorem pA {a:Nat} (b:a<65536):(BitVec.ofInt 16 (a:Int)).toNat=a:=by
 rw [BitVec.ofInt_natCast,BitVec.toNat_ofNat];exact Nat.mod_eq_of_lt (by omega)
theorem Fc {k n:Int} (a:0<=k) (c:k<=3) (b:0<=n) (d:n<16384):bits .or .u16 (k * 16384) n=k * 16384+n:=by
 obtain⟨k,rfl⟩:=Zb a;obtain⟨n,rfl⟩:=Zb b;show IntKind.u16.wrap ((BitVec.ofInt 16 ((k:Int) * 16384)|||BitVec.ofInt 16 (n:Int)).toNat:Int)=_;rw [show((k:Int) * 16384)=(((k * 16384:Nat)):Int) by omega];rw [BitVec.toNat_or,pA (by omega),pA (by omega)];have:=Nat.two_pow_add_eq_or_of_lt (i:=14) (b:=n) (by omega) k;rw [show k * 16384=2^14 * k by omega,<-this,jF (by omega) (by omega)];omega
theorem Er {n:Int} (a:0<=n) (b:n<65536):bits .and .u16 n 16383=n%16384:=by
 obtain⟨n,rfl⟩:=Zb a;show IntKind.u16.wrap ((BitVec.ofInt 16 (n:Int)&&&BitVec.ofInt 16 (16383:Int)).toNat:Int)=_;have h:(BitVec.ofInt 16 (16383:Int)).toNat=2^14 - 1:=by decide
 rw [BitVec.toNat_and,pA (by omega),h,Nat.and_two_pow_sub_one_eq_mod];rw [jF (by omega) (by omega)];omega
theorem BZ (k n:Int) (e:0<=k/\k<=3) (g:0<=n/\n<16384) (w:World):
  Calls prog 161 #[.agg #[.int .i64 k,.int .i64 n]] w (aI w (.int .u16 (k * 16384+n))):=by
 have a:Below w.heap.size w (w.alloc (.cells #[.int .i64 k,.int .i64 n] 46)):=(Below.refl _ w).alloc (Zo _) _;obtain⟨b,f⟩:=e;obtain⟨c,h⟩:=g;have i:=Fc b f c h;have w1:IntKind.u16.wrap k=k:=jF b (by omega);have w2:IntKind.u16.wrap n=n:=jF c (by omega);have w3:IntKind.u16.wrap (k * 16384)=k * 16384:=jF (by omega) (by omega);have d:=ab a;clear a
 go_enter func161,ntmps161
 go_wp2_with fail
 go_ret
 exact⟨rfl,d.out⟩
theorem wU (n:Int) (a:0<=n/\n<65536) (w:World):
  Calls prog 92 #[.int .u16 n] w (aI w (.agg #[.int .i64 (n/16384),.int .i64 (n%16384)])):=by
 obtain⟨b,c⟩:=a;have d:=Er b c
 go_enter func92,ntmps92
 go_wp2_with fail
 refine bodyPost_ret (v:= .agg #[.int .i64 (n/16384),.int .i64 (n%16384)]) (by simp [results,results92,go_sem]) rfl ?_;exact⟨rfl,(Below.refl _ w).alloc (Zo _) _⟩
attribute [local irreducible] wpStill aB aO
def dH {X:Type} (E:Value->X->Prop) (w:World) (F:Nat->Prop) (v:Value) (l:List X):Prop:= ∃Z:List Value,Z.length=l.length/\Rd w F v 1 Z/\ ∀(j:Nat) z x,Z[j]? =some z->l[j]? =some x->E z x
theorem dH.mono' {X:Type} {E E':Value->X->Prop} {w w':World} {F F':Nat->Prop} {v:Value} {l:List X} (h:dH E w F v l) (i: ∀a,Rd w F v 1 a->Rd w' F' v 1 a) (g: ∀c b,E c b->E' c b):dH E' w' F' v l:=by
 obtain⟨a,d,e,f⟩:=h;exact⟨a,d,i a e,λo c b k j=>g c b (f o c b k j)⟩
abbrev mP (w:World) (F:Nat->Prop) (v:Value) (l:List (List Ac)):Prop:=dH (λz x=>aH w F z x) w F v l
abbrev mO (w:World) (F:Nat->Prop) (v:Value) (l:List (List Int)):Prop:=dH (λz x=>RdI w F z x) w F v l
theorem dH.shape {X:Type} {E:Value->X->Prop} {w:World} {F:Nat->Prop} {v:Value} {l:List X} (h:dH E w F v l): ∃b a,v= .slice b l.length a/\l.length<=a/\a<=maxLen:=by
 obtain⟨e,f,⟨b,n,a,d,c,hm,g,-⟩,-⟩:=h;have:n=l.length:=by omega
 subst this;exact⟨b,a,d,c,hm⟩
theorem dH.at_ {X:Type} {E:Value->X->Prop} {w:World} {F:Nat->Prop} {A:Option Addr} {n c:Nat} {l:List X} (h:dH E w F (.slice A n c) l):n=l.length/\n<=c/\c<=maxLen/\(0<n-> ∃b d,A=some ⟨b,d,none⟩/\F b/\ ∀(i:Nat) e,l[i]? =some e-> ∃a,w.cell? ⟨b,d+i,none⟩=some a/\E a e):=by
 obtain⟨j,H,⟨C,J,D,z,u,hm,I,y⟩,q⟩:=h;injection z with k o p
 subst k o p;refine⟨by omega,u,hm,λx=> ?_⟩;obtain⟨b,d,r,s,v⟩:=y x;refine⟨b,d,r,s,λi e f=> ?_⟩;obtain⟨a,g⟩: ∃a,j[i]? =some a:=⟨_,List.getElem?_eq_getElem (by have:=(List.getElem?_eq_some_iff.1 f).1;omega)⟩;exact⟨a,v i a g,q i a e g f⟩
theorem mP.below {w w':World} {F:Nat->Prop} {B:Nat} {v:Value} {l:List (List Ac)} (h:mP w F v l) (b:Below B w w') (c: ∀d,F d->d<B):mP w' F v l:=dH.mono' h (λe a=>a.below b c) λg f a=>Rd.below a b c
theorem mO.below {w w':World} {F:Nat->Prop} {B:Nat} {v:Value} {l:List (List Int)} (h:mO w F v l) (b:Below B w w') (c: ∀d,F d->d<B):mO w' F v l:=dH.mono' h (λe a=>a.below b c) λg f a=>Rd.below a b c
theorem mP.row {w:World} {F:Nat->Prop} {A:Option Addr} {n c:Nat} {l:List (List Ac)} (h:mP w F (.slice A n c) l) {i:Nat} {x:List Ac} (g:l[i]? =some x): ∃b e d a,A=some ⟨b,e,none⟩/\F b/\w.cell? ⟨b,e+i,none⟩=some (.slice d x.length a)/\aH w F (.slice d x.length a) x/\x.length<=a/\a<=maxLen:=by
 obtain⟨u,-,-,q⟩:=dH.at_ h;obtain⟨b,e,o,p,r⟩:=q (by have:=(List.getElem?_eq_some_iff.1 g).1;omega);obtain⟨y,s,f⟩:=r i x g;obtain⟨d,v,a,rfl,-⟩:=id f;obtain⟨rfl,j,k,-⟩:=aH.at_ f;exact⟨b,e,d,a,o,p,s,f,j,k⟩
theorem mO.row {w:World} {F:Nat->Prop} {A:Option Addr} {n c:Nat} {l:List (List Int)} (h:mO w F (.slice A n c) l) {i:Nat} {x:List Int} (g:l[i]? =some x): ∃b e d a,A=some ⟨b,e,none⟩/\F b/\w.cell? ⟨b,e+i,none⟩=some (.slice d x.length a)/\RdI w F (.slice d x.length a) x/\x.length<=a/\a<=maxLen:=by
 obtain⟨u,-,-,q⟩:=dH.at_ h;obtain⟨b,e,o,p,r⟩:=q (by have:=(List.getElem?_eq_some_iff.1 g).1;omega);obtain⟨y,s,f⟩:=r i x g;obtain⟨d,v,a,rfl,-⟩:=id f;obtain⟨rfl,j,k,-⟩:=RdI.at_ f;exact⟨b,e,d,a,o,p,s,f,j,k⟩
def W64 (x:Int):Prop:= -9223372036854775808<=x/\x<=9223372036854775807
structure bL (w:World) (F:Nat->Prop) (vr va vg:Value) (t:aW):Prop where
 rules:RdL w F 2 (dP w F) vr t.rules
 acts:mP w F va t.acts
 goto:mO w F vg t.goto
 lt: ∀b,F b->b<w.heap.size
 tn:W64 t.terms/\W64 t.nons
 wr: ∀r∈t.rules,W64 r.1
theorem bL.below {w w':World} {F:Nat->Prop} {d a c:Value} {t:aW} (h:bL w F d a c t) (b:Below w.heap.size w w'):bL w' F d a c t:=
 ⟨h.rules.below b h.lt λi j _ e=>e.below b h.lt,h.acts.below b h.lt,h.goto.below b h.lt,λg f=>Zp (h.lt g f) b.size,h.tn,h.wr⟩
abbrev TV (vr:Value) (T N:Int) (va vg:Value):Value:= .agg #[vr,.int .i64 T,.int .i64 N,va,vg]
theorem bL.slices {w:World} {F:Nat->Prop} {c a b:Value} {t:aW} (h:bL w F c a b t): ∃A1 c1 A2 c2 A3 c3,c= .slice A1 t.rules.length c1/\a= .slice A2 t.acts.length c2/\b= .slice A3 t.goto.length c3/\t.rules.length<=c1/\t.acts.length<=c2/\t.goto.length<=c3/\c1<=9223372036854775807/\c2<=9223372036854775807/\c3<=9223372036854775807:=by
 obtain⟨A1,c1,d,g,k,-⟩:=h.rules;obtain⟨A2,c2,e,i,l⟩:=dH.shape h.acts;obtain⟨A3,c3,f,j,o⟩:=dH.shape h.goto;unfold maxLen at k l o;exact⟨A1,c1,A2,c2,A3,c3,d,e,f,g,i,j,by omega,by omega,by omega⟩
structure eJ (w:World) (F:Nat->Prop) (B:Nat) (A1:Option Addr) (c1:Nat) (A2:Option Addr) (c2:Nat) (A3:Option Addr) (c3 R n m:Nat) (T N:Int) (t:aW):Prop where
 tab:bL w F (.slice A1 R c1) (.slice A2 n c2) (.slice A3 m c3) t
 blk:Blk w B 35 #[.slice A1 R c1,.int .i64 T,.int .i64 N,.slice A2 n c2,.slice A3 m c3]
section
variable {w w' : World} {F : Nat -> Prop} {B : Nat} {A1 : Option Addr} {c1 : Nat} {A2 : Option Addr} {c2 : Nat} {A3 : Option Addr} {c3 R n m : Nat} {T N : Int} {t : aW}
theorem eJ.new (h:bL w F (.slice A1 R c1) (.slice A2 n c2) (.slice A3 m c3) t) (T N:Int):eJ (w.alloc (.cells #[.slice A1 R c1,.int .i64 T,.int .i64 N,.slice A2 n c2,.slice A3 m c3] 35)) F w.heap.size A1 c1 A2 c2 A3 c3 R n m T N t:=⟨h.below ((Below.refl _ _).alloc (Zo _) _),Blk.new _ _ _⟩
theorem eJ.below (h:eJ w F B A1 c1 A2 c2 A3 c3 R n m T N t) (b:Below w.heap.size w w'):eJ w' F B A1 c1 A2 c2 A3 c3 R n m T N t:=⟨h.tab.below b,h.blk.below b h.blk.lt⟩
theorem eJ.cells (h:eJ w F B A1 c1 A2 c2 A3 c3 R n m T N t):w.cell? ⟨B,0,none⟩=some (.slice A1 R c1)/\w.cell? ⟨B,1,none⟩=some (.int .i64 T)/\w.cell? ⟨B,2,none⟩=some (.int .i64 N)/\w.cell? ⟨B,3,none⟩=some (.slice A2 n c2)/\w.cell? ⟨B,4,none⟩=some (.slice A3 m c3):=
 ⟨(h.blk.cell 0).trans rfl,(h.blk.cell 1).trans rfl,(h.blk.cell 2).trans rfl,(h.blk.cell 3).trans rfl,(h.blk.cell 4).trans rfl⟩
end
theorem G1 {n r:Nat} {a:Ac} (h:a.1=0\/a.1=3):gp n r a=decide (a.2=0):=if_pos h
theorem G0 {n r:Nat} {a:Ac} (h:a.1=1):gp n r a=(decide (0<=a.2)&&decide (a.2<n)):=by unfold gp;rw [if_neg (by omega),if_pos h]
theorem FZ {n r:Nat} {a:Ac} (h:a.1=2):gp n r a=(decide (0<=a.2)&&decide (a.2<(r:Int) - 1)):=by unfold gp;rw [if_neg (by omega),if_neg (by omega),decide_eq_true h];rfl
theorem FY {n r:Nat} {a:Ac} (h:a.1≠0/\a.1≠1/\a.1≠2/\a.1≠3):gp n r a=false:=by unfold gp;rw [if_neg (by omega),if_neg (by omega),decide_eq_false h.2.2.1];rfl
theorem Ea {A1:Option Addr} {c1:Nat} {A2:Option Addr} {c2:Nat} {A3:Option Addr} {c3 R n m:Nat} (T N:Int) (E:R<=c1/\c1<=9223372036854775807) (H:n<=c2/\c2<=9223372036854775807) (a:Ac) (w:World):
  Calls prog 160 #[TV (.slice A1 R c1) T N (.slice A2 n c2) (.slice A3 m c3),.agg #[.int .i64 a.1,.int .i64 a.2]] w (aI w (.bool (gp n R a))):=by
 have i:Below w.heap.size w ((w.alloc (.cells #[.slice A1 R c1,.int .i64 T,.int .i64 N,.slice A2 n c2,.slice A3 m c3] 35)).alloc (.cells #[.int .i64 a.1,.int .i64 a.2] 46)):=((Below.refl _ w).alloc (Zo _) _).alloc (by simp) _;obtain⟨d,f⟩:=a;simp only at i⊢;have p:=λh=>G1 (n:=n) (r:=R) (a:=(d,f)) h
 have q:=λh=>G0 (n:=n) (r:=R) (a:=(d,f)) h
 have r:=λh=>FZ (n:=n) (r:=R) (a:=(d,f)) h
 have s:=λh=>FY (n:=n) (r:=R) (a:=(d,f)) h
 simp only at p q r s;generalize gp n R (d,f)=J at *;have I:IntKind.i64.wrap ((R:Int) - 1)=(R:Int) - 1:=by rw [IntKind.wrap_i64];omega
 obtain⟨e,u,v,x,y⟩:=aX i p q r s;clear i p q r s;by_cases j:d=0
 ·subst j;have b:=u.out (.inl rfl);have c:=ab b;clear b
  go_enter func160,ntmps160
  go_wp2_with fail
  go_ret
  exact⟨af (by rw [c.out,Bool.beq_eq_decide_eq]),e.out⟩
 ·have z:(d==0)=false:=by simpa using j
  by_cases o:d=3
  ·subst o;have b:=u.out (.inr rfl);have c:=ab b;clear b
   go_enter func160,ntmps160
   go_wp2_with fail
   go_ret
   exact⟨af (by rw [c.out,Bool.beq_eq_decide_eq]),e.out⟩
  ·have D:(d==3)=false:=by simpa using o
   by_cases k:d=1
   ·subst k;have b:=v.out rfl;by_cases g:0<=f
    ·rw [decide_eq_true g]at b;have c:=ab b;clear b
     go_enter func160,ntmps160
     go_wp2_with fail
     go_ret
     exact⟨af (by rw [c.out];rfl),e.out⟩
    ·rw [decide_eq_false g]at b;have c:=ab b;clear b
     go_enter func160,ntmps160
     go_wp2_with fail
     go_ret
     exact⟨af (by rw [c.out];rfl),e.out⟩
   ·have A:(d==1)=false:=(by simpa using k);by_cases l:d=2
    ·subst l;have b:=x.out rfl;by_cases g:0<=f
     ·rw [decide_eq_true g]at b;have c:=ab b;clear b
      go_enter func160,ntmps160
      go_wp2_with fail
      go_ret
      exact⟨af (by rw [c.out];rfl),e.out⟩
     ·rw [decide_eq_false g]at b;have c:=ab b;clear b
      go_enter func160,ntmps160
      go_wp2_with fail
      go_ret
      exact⟨af (by rw [c.out];rfl),e.out⟩
    ·have C:(d==2)=false:=(by simpa using l);have b:=y.out ⟨j,k,l,o⟩;have c:=ab b;clear b
     go_enter func160,ntmps160
     go_wp2_with fail
     go_ret
     exact⟨af c.out.symm,e.out⟩
theorem lh {α:Type} {p:α->Bool} {l:List α} {k:Nat} {x:α} (h:l[k]? =some x) (b:p x=false):l.all p=false:=by
 rw [<-Bool.not_eq_true,Zd];intro a;have:=a x (Zl h);rw [b]at this;cases this
theorem oh {α:Type} {p:α->Bool} {l:List α} {k:Nat} {x:α} (h:l[k]? =some x) (a:(l.take k).all p=true) (b:p x=true):(l.take (k+1)).all p=true:=by
 rw [List.take_add_one,h,List.all_append,a];simp [b]
theorem qv {α:Type} {p:α->Bool} {l:List α} {k:Nat} (a:(l.take k).all p=true) (b:l.length<=k):l.all p=true:=by rwa [List.take_of_length_le b]at a
theorem BM {T N:Int} {n r:Nat} {x:List Ac} {y:List Int} (h:x.length=0\/(x.length:Int) - 1≠T\/(y.length:Int)≠N):iz T N n r (x,y)=false:=by
 unfold iz;rcases h with h|h|h
 ·simp [h]
 ·simp [h]
 ·simp [h]
theorem BN {T N:Int} {n r:Nat} {x:List Ac} {y:List Int} (a: ¬x.length=0) (b:(x.length:Int) - 1=T) (c:(y.length:Int)=N):iz T N n r (x,y)=(x.all (gp n r)&&y.all (nJ n)):=by
 unfold iz;simp only [b,c,decide_true,Bool.and_self,Bool.and_true];rw [decide_eq_false a];rfl
theorem E9 {w:World} {F:Nat->Prop} {bY bS bW:Value} {t:aW} (h:bL w F bY bS bW t) {i:Nat} {x:List Ac} {y:List Int} (a4:t.acts[i]? =some x) (a5:t.goto[i]? =some y):
  Calls prog 81 #[TV bY t.terms t.nons bS bW,.int .i64 (i:Int)] w (aI w (.bool (iz t.terms t.nons t.acts.length t.rules.length (x,y)))):=by
 obtain⟨A1,c1,A2,c2,A3,c3,rfl,rfl,rfl,cl,cm,cN,cn,co,cR⟩:=h.slices;obtain⟨cw,cs⟩:=h.tn;have bx:=h.lt;have ci:=(List.getElem?_eq_some_iff.1 a4).1;have cj:=(List.getElem?_eq_some_iff.1 a5).1;have M:=λch=>BM (T:=t.terms) (N:=t.nons) (n:=t.acts.length) (r:=t.rules.length) (x:=x) (y:=y) ch
 have br:=λa J cb=>BN (T:=t.terms) (N:=t.nons) (n:=t.acts.length) (r:=t.rules.length) (x:=x) (y:=y) a J cb
 obtain⟨w1,o⟩: ∃w1,w1=w.alloc (.cells #[.slice A1 t.rules.length c1,.int .i64 t.terms,.int .i64 t.nons,.slice A2 t.acts.length c2,.slice A3 t.goto.length c3] 35):=⟨_,rfl⟩;have O:=eJ.new h t.terms t.nons;have a0:Below w.heap.size w w1:=by rw [o];exact(Below.refl _ w).alloc (Zo _) _
 rw [<-o]at O;obtain⟨b9,cu,cx,cE,ce,-,a7,bP,cO,cp⟩:=mP.row O.tab.acts a4;obtain⟨ca,cv,cy,cG,cf,-,a8,bR,cP,cr⟩:=mO.row O.tab.goto a5;subst ce cf;obtain⟨u,v,z,r,A⟩:=O.cells;have bB:=λ(a:Ac) wr=>Ea (A1:=A1) (c1:=c1) (A2:=some ⟨b9,cu,none⟩) (c2:=c2) (A3:=some ⟨ca,cv,none⟩) (c3:=c3) (R:=t.rules.length) (n:=t.acts.length) (m:=t.goto.length) t.terms t.nons ⟨cl,cn⟩ ⟨cm,co⟩ a wr
 have ba: ∀J,F J->J<w1.heap.size:=λJ cg=>Zp (bx J cg) a0.size
 unfold maxLen at cp cr;unfold W64 at cw cs;generalize t.terms=T at *;generalize t.nons=N at *;generalize bC:t.acts.length=n at *;generalize t.rules.length=R at *;generalize hm:t.goto.length=m at *;generalize iz T N n R (x,y)=cS at *;have cI:(i:Int)<(n:Int):=by omega
 have cK:(i:Int)<(m:Int):=by omega
 generalize bE:x.length=f at *;generalize bO:y.length=s at *;have cM:IntKind.i64.wrap ((f:Int) - 1)=(f:Int) - 1:=by rw [IntKind.wrap_i64];omega
 clear h a4 a5 bx ci cj O;obtain⟨an,b0,b3,g,b6,b7,bb,cA,cz,bh,bi⟩:=fa M br bB a0 bP bR ba bC hm bE bO;clear M br bB a0 bP bR ba bC hm bE bO;by_cases bt:f=0
 ·subst bt;have k:=an.out (.inl rfl);have l:=ab k;clear k
  go_enter func81,ntmps81
  go_upto_region 1 with fail
  rw [<-o];clear o;refine aU (by kernel_rfl) (by kernel_rfl) ?_
  repeat still_step
  refine wpStill_nil ?_
  go_wp2_with fail
  go_wp2_with fail
  go_ret
  exact⟨af l.out.symm,g.out.drew⟩
 ·have cH:((f:Int)==0)=false:=by simp;omega
  by_cases U:(f:Int) - 1=T
  ·by_cases al:(s:Int)=N
   ·have k:=b0.out bt U al;subst U al;have bq:((f:Int) - 1 !=(f:Int) - 1)=false:=(by simp);have cc:((s:Int) !=(s:Int))=false:=(by simp);have l:=ab k;clear k
    go_enter func81,ntmps81
    go_upto_region 1 with fail
    rw [<-o];clear o;refine aU (by kernel_rfl) (by kernel_rfl) ?_
    repeat still_step
    refine wpStill_nil ?_
    go_wp2_with fail
    go_wp2_with fail
    have bp:Below w1.heap.size w1 w1.drew:=(Below.refl _ _).drew;have bu:(x.take 0).all (gp n R)=true:=rfl;have bw:(y.take 0).all (nJ n)=true:=rfl;obtain⟨bc,bd,be⟩:=aK bp bu bw;clear bp bu bw
    go_loopw [45] (λI wr=> ∃b:Nat,b<=f/\I= .int .i64 (b:Int)/\Below w1.heap.size w1 wr/\(x.take b).all (gp n R)=true) (λI _=>f - (intOf I).toNat)
    case atStart=>exact⟨0,Zq _,rfl,bc.out,bd.out⟩
    case round=>
     clear bc bd;obtain⟨b,ck,rfl,le,d⟩:=hrel;by_cases a2:b<f
     ·have a3:(b:Int)<(f:Int):=(by omega);have Z:=Rd.below b6.out le bb.out;obtain⟨-,-,-,X⟩:=aH.at_ Z;obtain⟨b8,ct,rfl,-,W⟩:=X (by omega);obtain⟨a,c⟩: ∃a,x[b]? =some a:=⟨_,List.getElem?_eq_getElem (by rw [bh.out];exact a2)⟩;obtain⟨ak,aT⟩:=W b a c;have bo:Below wr.heap.size wr (wr.alloc (.cells #[.int .i64 a.1,.int .i64 a.2] 46)):=(Below.refl _ _).alloc (Zo _) _;have a6:Blk (wr.alloc (.cells #[.int .i64 a.1,.int .i64 a.2] 46)) wr.heap.size 46 #[.int .i64 a.1,.int .i64 a.2]:=Blk.new _ _ _;have p:=le.trans (bo.mono le.size);have u:=ae p u;have v:=ae p v;have z:=ae p z;have r:=ae p r;have A:=ae p A;have a1:=(a6.cell 0).trans rfl;have M:=(a6.cell 1).trans rfl;have K:=b3.out a (wr.alloc (.cells #[.int .i64 a.1,.int .i64 a.2] 46));obtain⟨a9,H⟩: ∃a9,a9=gp n R a:=⟨_,rfl⟩;rw [<-H]at K;obtain⟨cB,cC⟩:=a;simp only at ak aT a1 M p K u v z r A;clear Z X W bo a6 le;cases a9 with
      |true=>
       have V:=oh c d H.symm;obtain⟨E,Q,ap,ad,ai,b4⟩:=aM p K V c d H;clear p K V c d H
       go_wp2_with fail
       refine Q.out.mono ?_;rintro e w3 ⟨rfl,S⟩;have P:=E.out.trans (S.mono E.out.size);clear S Q E u v z r A a1 M ak aT;have bl:=ab P;clear P
       go_wp2_with fail
       go_roundw
       case rel=>exact⟨b+1,by omega,by go_num,bl.out,ap.out⟩
       case measure=>simp [intOf];omega
      |false=>
       have V:=lh c H.symm;obtain⟨E,Q,ap,ad,ai,b4⟩:=aM p K V c d H;clear p K V c d H
       go_wp2_with fail
       refine Q.out.mono ?_;rintro e w3 ⟨rfl,S⟩;have P:=E.out.trans (S.mono E.out.size);have j:=g.out.trans (P.mono g.out.size);clear S Q E u v z r A a1 M ak aT;obtain⟨bl,C⟩:=av P j;clear P j
       go_wp2_with fail
       go_ret
       exact⟨af (by rw [l.out,ap.out];rfl),C.out⟩
     ·have a3: ¬(b:Int)<(f:Int):=(by omega);have bz:=qv d (by rw [bh.out];omega);have u:=ae le u;have v:=ae le v;have z:=ae le z;have r:=ae le r;have A:=ae le A;have a7:=ae le a7;have a8:=ae le a8;clear d;obtain⟨b1,D⟩:=av bz le;clear bz le
      go_wp2_with fail
      go_loopw [60] (λI wr=> ∃b:Nat,b<=s/\I= .int .i64 (b:Int)/\Below w1.heap.size w1 wr/\(y.take b).all (nJ n)=true) (λI _=>s - (intOf I).toNat)
      case atStart=>exact⟨0,Zq _,rfl,D.out,be.out⟩
      case round=>
       clear D be u v z r A a7 a8;obtain⟨b,ck,rfl,le,d⟩:=hrel;have r:=ae le (by assumption:w1.cell? ⟨w.heap.size,3,none⟩=_);by_cases a2:b<s
       ·have a3:(b:Int)<(s:Int):=(by omega);have Z:=Rd.below b7.out le bb.out;obtain⟨-,-,-,X⟩:=RdI.at_ Z;obtain⟨b8,ct,rfl,-,W⟩:=X (by omega);obtain⟨a,c⟩: ∃a,y[b]? =some a:=⟨_,List.getElem?_eq_getElem (by rw [bi.out];exact a2)⟩;have ak:=W b a c;have q:nJ n a=(decide (-1<=a)&&decide (a<(n:Int))):=rfl;clear Z X W;by_cases O:a< -1
        ·have Y:=lh (p:=nJ n) c (by rw [q,decide_eq_false (by omega)];rfl);have j:=g.out.trans (le.mono g.out.size);obtain⟨aS,D,ad,ai,C,bg⟩:=aM Y le c d j q;clear Y le c d j q
         go_wp2_with fail
         go_ret
         exact⟨af (by rw [l.out,aS.out,Bool.and_false]),C.out⟩
        ·by_cases bs:a<(n:Int)
         ·have bG:=oh c d (by rw [q,decide_eq_true bs,decide_eq_true (by omega)];rfl);have cd: ¬(n:Int)<=a:=(by omega);obtain⟨b5,D,ad,ai,bg⟩:=aX bG le c d q;clear bG le c d q
          go_wp2_with fail
          go_roundw
          case rel=>exact⟨b+1,by omega,by go_num,D.out,b5.out⟩
          case measure=>simp [intOf];omega
         ·have Y:=lh (p:=nJ n) c (by rw [q,decide_eq_false bs,Bool.and_false]);have j:=g.out.trans (le.mono g.out.size);have cd:(n:Int)<=a:=(by omega);obtain⟨aS,D,ad,ai,C,bg⟩:=aM Y le c d j q;clear Y le c d j q
          go_wp2_with fail
          go_ret
          exact⟨af (by rw [l.out,aS.out,Bool.and_false]),C.out⟩
       ·have a3: ¬(b:Int)<(s:Int):=(by omega);have bA:=qv d (by rw [bi.out];omega);have j:=g.out.trans (le.mono g.out.size);clear d;obtain⟨b2,D,C⟩:=aK bA le j;clear bA le j
        go_wp2_with fail
        go_ret
        exact⟨af (by rw [l.out,b1.out,b2.out];rfl),C.out⟩
   ·have k:=an.out (.inr (.inr al));subst U;have bq:((f:Int) - 1 !=(f:Int) - 1)=false:=(by simp);have cc:((s:Int) !=N)=true:=(by simpa using al);have l:=ab k;clear k
    go_enter func81,ntmps81
    go_upto_region 1 with fail
    rw [<-o];clear o;refine aU (by kernel_rfl) (by kernel_rfl) ?_
    repeat still_step
    refine wpStill_nil ?_
    go_wp2_with fail
    go_wp2_with fail
    go_ret
    exact⟨af l.out.symm,g.out.drew⟩
  ·have k:=an.out (.inr (.inl U));have bq:((f:Int) - 1 !=T)=true:=by simpa using U
   have l:=ab k;clear k
   go_enter func81,ntmps81
   go_upto_region 1 with fail
   rw [<-o];clear o;refine aU (by kernel_rfl) (by kernel_rfl) ?_
   repeat still_step
   refine wpStill_nil ?_
   go_wp2_with fail
   go_wp2_with fail
   go_ret
   exact⟨af l.out.symm,g.out.drew⟩
end Go.Proofs.YthlbjgabhpdbfaaGreat

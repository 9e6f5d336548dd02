/- Tables: a grammar's table. -/
import Derived.Test.YthlbjgabhpdbfaaGreatBActs4
import Derived.Test.YthlbjgabhpdbfaaGreatBTab2
set_option linter.unusedVariables false
set_option linter.unusedSimpArgs false
set_option maxRecDepth 100000
set_option maxHeartbeats 8000000
namespace Go.Proofs.YthlbjgabhpdbfaaGreat
open Go.Proofs.Tryz
open List renaming drop_succ_cons->Za,drop_zero->Zb,length_map->Zc
open Nat renaming le_refl->Zd,le_trans->Ze,lt_of_lt_of_le->Zf,zero_le->Zg
open Go.RowKit Go.Shelf
attribute [local irreducible] wpStill aB aO
attribute [local go_sem] Oper.semAt_some
def i5 (G:ac) (st:Int) (k:Nat):List (Int×List Int):=(List.range k).map λj=>(aD G st ((j:Nat):Int)).1
theorem qF (G:ac) (st:Int) (k:Nat):i5 G st (k+1)=i5 G st k++[(aD G st (k:Int)).1]:=by unfold i5;rw [List.range_succ,List.map_append];rfl
theorem oD (G:ac) (st:Int) (k:Nat):(i5 G st k).length=k:=by unfold i5;simp
theorem zP (G:ac) (st:Int):i5 G st (G.rules.length+1)=G.rules++[(0,[st])]:=by
 rw [qF];have d:(aD G st (G.rules.length:Int)).1=(0,[st]):=by unfold aD;rw [if_neg (by omega),if_pos rfl]
 rw [d];congr 1;apply List.ext_getElem?;intro b;by_cases hi:b<G.rules.length
 ·unfold i5;rw [List.getElem?_map,List.getElem?_range hi];obtain⟨c,a⟩: ∃c,G.rules[b]? =some c:=⟨_,List.getElem?_eq_getElem hi⟩;rw [a,Option.map_some,ju a]
 ·rw [List.getElem?_eq_none (by rw [oD];omega),List.getElem?_eq_none (by omega)]
def om (w:World) (F:Nat->Prop) (G:ac) (st:Int) (e:Ending) (w':World):Prop:=Below w.heap.size w w'/\ ∃ev D,fA G st (bf G st) ev D/\
 ((∃ev':Int,e= .returned (.tuple #[TV (.slice none 0 0) 0 0 (.slice none 0 0) (.slice none 0 0),.int .i64 ev'])/\((ev≠0/\ev'=ev)\/(ev=0/\kH G st ev D≠[]/\ev'=12)))\/
  (ev=0/\kH G st ev D=[]/\ ∃vr va vg,e= .returned (.tuple #[TV vr G.terms.length G.nons.length va vg,.int .i64 0])/\bL w' (λb=>(F b\/w.heap.size<=b)/\b<w'.heap.size) vr va vg (fS G st D (bN G st D))))
theorem cZ (a:World) (z:Nat) (u v x y q:Value):aa (λb=>b=z) a (((((a.setCell ⟨z,0,none⟩ u).setCell ⟨z,1,none⟩ v).setCell ⟨z,2,none⟩ x).setCell ⟨z,3,none⟩ y).setCell ⟨z,4,none⟩ q):=
 aa.setCell (aa.setCell (mT a z u v x) (p:=⟨z,3,none⟩) (λ_=>rfl) y) (p:=⟨z,4,none⟩) (λ_=>rfl) q
theorem rA {lo:Nat} {e:List Deferred} {w w':World} (h:Mk lo e w) (b:Below w.heap.size w w'):Mk lo e w':=by
 obtain⟨f,g,i,c⟩:=h;exact⟨f,g,i,λa d=>⟨(c a d).1,(b.block a (Array.getElem?_eq_some_iff.1 (c a d).2).1).trans (c a d).2⟩⟩
theorem aY.panic {P:Program} {b:Func} {R:Ending->World->Prop} {c:List PanicEntry} {a:Act} {w:World} (h:aY P b R (.panic c) a w):False:=by
 unfold aY at h;rcases h.1 with e|e<;>cases e
theorem pR {w:World} {base e size n b:Nat} {v:Value} {xs:List Value} {x:Option (List Deferred)} (h:w.ownsRow base e size v n xs) (a:v.ownBlock=some b) (c:w.heap[b]? =some (.deferred x)):False:=by
 rcases h.2 with⟨rfl,j⟩|⟨i,f,g,rfl,-,d,-⟩
 ·simp [Value.ownBlock]at a
 ·simp only [Value.ownBlock,Option.some.injEq]at a;subst a;rw [d]at c;cases c
theorem infoRA:(prog.info? 113).map (λa=>(a.zero,a.size,a.bytes))=some (some (.slice none 0 0),1,24):=by kernel_rfl
theorem elemRA:dZ prog 32 113 (.slice none 0 0) 1 24:=⟨underlying32,infoRA,rfl,by decide⟩
theorem infoRI:(prog.info? 49).map (λa=>(a.zero,a.size,a.bytes))=some (some (.slice none 0 0),1,24):=by kernel_rfl
theorem elemRI:dZ prog 33 49 (.slice none 0 0) 1 24:=⟨underlying33,infoRI,rfl,by decide⟩
theorem qG {X:Type}: ∀{L:List X} {Z:List Value},Z.length=L.length->da (λ_:X=>[]) L Z=Z
 |[],[],_=>rfl
 |[],_::_,h=>by simp at h
 |_::_,[],h=>by simp at h
 |x::L,z::Z,h=>by
  have a:=qG (L:=L) (Z:=Z) (by simpa using h);unfold da at a⊢;rw [List.zip_cons_cons,List.flatMap_cons,a];rfl
theorem RM.rw {X:Type} {e:TypeId} {E:World->(Nat->Prop)->Value->X->Prop} (l:fQ E) {lo F:Nat->Prop} {base n c:Nat} {w:World} {A:Option Addr} {L:List X} (h:RM e 1 (λ_=>[]) E lo base w A n c L) (m: ∀a,base<=a->a<w.heap.size->F a) (o: ∀a,lo a->a<w.heap.size->F a):dH (λg f=>E w F g f) w F (.slice A n c) L:=by
 obtain⟨j,i,d,k⟩:=h.ex;have:=Rd.of_own d;rw [qG i]at this;exact⟨j,i,this.mono λa b=>m a (d.lt a b).1 (d.lt a b).2,λr g f q p=>l.mono (k r g f q p) λa b=>o a b.1 b.2.1⟩
theorem RM.rules {e:TypeId} {lo F:Nat->Prop} {base n c:Nat} {w:World} {A:Option Addr} {L:List (Int×List Int)} (h:RM e 2 (λr:Int×List Int=>[.int .i64 r.1]) (λw F b r=>RdI w F b r.2) lo base w A n c L) (y: ∀a,base<=a->a<w.heap.size->F a) (D: ∀a,lo a->a<w.heap.size->F a):RdL w F 2 (dP w F) (.slice A n c) L:=by
 obtain⟨k,O,g,v⟩:=h.ex;obtain rfl:=h.hn;obtain⟨M,Q,N,H,z,hm,P,G⟩:=Rd.of_own g;injection H with q s t
 subst q s t;refine⟨A,c,rfl,z,hm,λE=> ?_⟩;obtain⟨a,J,x,d,B⟩:=G E;refine⟨a,J,x,y a (g.lt a d).1 (g.lt a d).2,λf j i=> ?_⟩;obtain⟨b,m⟩: ∃b,k[f]? =some b:=⟨_,List.getElem?_eq_getElem (by have:=(List.getElem?_eq_some_iff.1 i).1;omega)⟩;have I:(List.zip L k)[f]? =some (j,b):=by rw [List.getElem?_zip_eq_some];exact⟨i,m⟩
 refine⟨[.int .i64 j.1,b],rfl,⟨b,rfl,Rd.mono (v f b j m i) λa d=>D a d.1 d.2.1⟩,λo K l=> ?_⟩;have C:o<2:=by have:=(List.getElem?_eq_some_iff.1 l).1;simpa using this
 have u:=ez (k:=2) (f:=λp:(Int×List Int)×Value=>[.int .i64 p.1.1]++[p.2]) (λ_=>rfl) I C;have:=B (f * 2+o) K (by unfold da;rw [u];exact l);rwa [<-Nat.add_assoc]at this
theorem RdL.cw {X:Type} {w w':World} {F F':Nat->Prop} {k:Nat} {E E':List Value->X->Prop} {v:Value} {xs:List X} (h:RdL w F k E v xs) (q:CW w w') (o: ∀a,F a->F' a) (n: ∀b c,E b c->E' b c):RdL w' F' k E' v xs:=by
 obtain⟨d,e,x,j,l,t⟩:=h;refine⟨d,e,x,j,l,λs=> ?_⟩;obtain⟨a,B,m,p,r⟩:=t s;refine⟨a,B,m,o a p,λz c y=> ?_⟩;obtain⟨b,f,g,i⟩:=r z c y;exact⟨b,f,n b c g,λA C u=>q _ _ (i A C u)⟩
theorem rL {w g w':World} {F F' S:Nat->Prop} {o m n:Value} {t:aW} (v:RdL w F 2 (dP w F) o t.rules) (r:mP w F m t.acts) (s:mO w F n t.goto) (f:aa S w g) (d: ∀b,F b-> ¬S b) (k:CW g w') (c: ∀b,F b->F' b) (u: ∀b,F' b->b<w'.heap.size)
  (x:W64 t.terms/\W64 t.nons) (wr: ∀a∈t.rules,W64 a.1):bL w' F' o m n t:=by
 refine⟨(v.touch f d (E':=dP g F) λq l _ e=> ?_).cw k c λq l e=> ?_,dH.mono' r (λp a=>((a.touch f d).cw k).mono c) (λy l a=>((Rd.touch a f d).cw k).mono c),dH.mono' s (λp a=>((a.touch f d).cw k).mono c) (λy l a=>((Rd.touch a f d).cw k).mono c),u,x,wr⟩
 ·obtain⟨j,h,i⟩:=e;exact⟨j,h,Rd.touch i f d⟩
 ·obtain⟨j,h,i⟩:=e;exact⟨j,h,(Rd.cw i k).mono c⟩
theorem Et {G:ac} {st:Int} {D:aP} {LL:List (List Lk)} (d:bf G st=0):(W64 (fS G st D LL).terms/\W64 (fS G st D LL).nons)/\ ∀b∈(fS G st D LL).rules,W64 b.1:=by
 have c:=KnA.of_check d;have e:=c.t;have f:=c.n;unfold W64 fS;refine⟨⟨by simp only;omega,by simp only;omega⟩,λb a=> ?_⟩;simp only [List.mem_append,List.mem_singleton]at a;rcases a with a|rfl
 ·have:=((Kn.of_check d).k b a).1;unfold am ao at this;simp only [Bool.and_eq_true,decide_eq_true_eq]at this;omega
 ·simp only;omega
theorem zp {w:World} {F:Nat->Prop} {s7 s5 s6:Value} {G:ac} (h:bk w F s7 s5 s6 G) (o4: ∀a,F a->a<w.heap.size) (st:Int):
  Calls prog 19 #[GV s7 s5 s6 st] w (om w F G st):=by
 obtain⟨g1,hq,g2,hr,g3,hs,rfl,rfl,rfl,AS,AT,A1,A2,A3,A4⟩:=h.slices;obtain⟨w1,gi⟩: ∃w1,w1=w.alloc (.cells #[.slice g1 G.terms.length hq,.slice g2 G.nons.length hr,.slice g3 G.rules.length hs,.int .i64 st] 25):=⟨_,rfl⟩;have cI:=bj.new h st;have f0:Below w.heap.size w w1:=by rw [gi];exact(Below.refl _ w).alloc (Zd _) _
 rw [<-gi]at cI;have l3:w1.heap.size=w.heap.size+1:=by rw [gi];simp
 obtain⟨w2,e2⟩: ∃i,i=w1.alloc (.cells #[.slice none 0 0,.int .i64 0,.int .i64 0,.slice none 0 0,.slice none 0 0] 35):=⟨_,rfl⟩;have dt:Below w1.heap.size w1 w2:=by rw [e2];exact(Below.refl _ _).alloc (Zd _) _
 have e3:Blk w2 w1.heap.size 35 #[.slice none 0 0,.int .i64 0,.int .i64 0,.slice none 0 0,.slice none 0 0]:=by rw [e2];exact Blk.new _ _ _
 have ch:=cI.below dt;have ob:=f0.trans (dt.mono f0.size);have qA:w2.heap.size=w.heap.size+2:=by rw [e2,World.size_alloc,l3]
 rw [l3]at e3;rw [gi]at e2;have op:=AZ ch.gram ch.gram.lt st;have os:=λwr (lj:bj wr F w.heap.size g1 hq g2 hr g3 hs G.terms.length G.nons.length G.rules.length st G) (f:Int)=>oO lj.gram st f
 have qe:=zP G st;obtain⟨bt,bu,bw,bx⟩:=ch.cells;generalize hT:G.terms.length=c at *;generalize o6:G.nons.length=p at *;generalize o7:G.rules.length=n at *;clear h gi cI f0 l3 dt;obtain⟨ng,iy,hd,nc,tp,fg,fh,kf,kx,tG,cr⟩:=fa ch ob e3 op os o7 hT o6 qA qe o4;clear ch ob e3 op os o7 hT o6 qA qe o4;refine qS func19 rfl ?_;simp only [ntmps19,List.size_toArray,List.length_cons,List.length_nil,Nat.reduceAdd,Nat.reduceSub,Array.replicate_succ,Array.replicate_zero,List.push_toArray,List.append_toArray,List.nil_append,List.cons_append]
 go_wp2_with fail
 rw [<-e2];refine nc.out.mono ?_;rintro e w3 ⟨dF,own,cy,ee,ct,cz,S,cu,eG,m,rfl,gf,qd⟩;obtain⟨H,ci⟩: ∃i,i=w3.heap.size:=⟨_,rfl⟩;obtain⟨bd,cN⟩: ∃i,i=w3.alloc (.cells #[.int .i64 own,.slice cy ee ct,.slice cz S cu] 103):=⟨_,rfl⟩;have a4:Below w3.heap.size w3 bd:=by rw [cN];exact(Below.refl _ _).alloc (Zd _) _
 have br:Blk bd H 103 #[.int .i64 own,.slice cy ee ct,.slice cz S cu]:=by rw [cN,ci];exact Blk.new _ _ _
 have f6:=(ng.out.below dF).below a4;have ai:=(hd.out.below dF hd.out.lt).below a4 (Zf hd.out.lt dF.size);have hn:=(iy.out.trans (dF.mono iy.out.size)).trans (a4.mono (Ze iy.out.size dF.size));have l5:w.heap.size+2<=H:=by rw [ci,<-kx.out];exact dF.size
 have l4:bd.heap.size=H+1:=by rw [cN,ci];simp
 have l0:eG=0->own=(n:Int)/\dG bd (λa=>w.heap.size+2<=a/\a<H) (.slice cy ee ct) m/\eF bd (λa=>w.heap.size+2<=a/\a<H) (.slice cz S cu) (bN G st m):=λh=>by
  obtain⟨dO,cv,dS⟩:=qd h;refine⟨by rw [dO,fg.out],(cv.below a4 (λa d=>d.2)).mono λa d=> ?_,(dS.below a4 (λa d=>d.2)).mono λa d=> ?_⟩
  ·rw [ci,<-kx.out];exact d
  ·rw [ci,<-kx.out];exact d
 clear qd bt bu bw bx e2 nc ng hd dF a4;subst ci;by_cases hF:eG=0
 ·subst hF;obtain⟨rfl,ej,eg⟩:=l0 rfl;have hz:=ke.of gf;rw [fh.out]at hz;have on:=xV ej eg (λa d=>by omega) (n:Int) hz;have px:kH G st 0 m=kq (n:Int) m (bN G st m) (c+1) m.length:=by unfold kH;rw [if_pos rfl,fg.out,fh.out]
  generalize kq (n:Int) m (bN G st m) (c+1) m.length=v9 at *;obtain⟨bt,bu,bw,bx⟩:=f6.cells;obtain⟨d0,a6,a7⟩:bd.cell? ⟨w3.heap.size,0,none⟩=some (.int .i64 (n:Int))/\bd.cell? ⟨w3.heap.size,1,none⟩=some (.slice cy ee ct)/\bd.cell? ⟨w3.heap.size,2,none⟩=some (.slice cz S cu):=⟨(br.cell 0).trans rfl,(br.cell 1).trans rfl,(br.cell 2).trans rfl⟩;rw [cN]at bt bu bw bx d0 a6 a7;clear l0;obtain⟨kb,fi,ev,dd,np,eA,nu,ha,fw,fv,kg,nb⟩:=gx f6 ai hn gf px br l5 l4 ej eg hz on;clear f6 ai hn gf px br l5 l4 ej eg hz on
  go_wp2_with fail
  rw [<-cN];obtain⟨H,ci⟩: ∃i,i=w3.heap.size:=⟨_,rfl⟩;rw [<-ci]at eA nu ha fw fv⊢;refine nb.out.mono ?_;rintro e w4 ⟨cH,x4,zs,rfl,-⟩;have f8:=kb.out.below cH;have a0:=fi.out.below cH fi.out.lt;have gr:=eA.out.below cH eA.out.lt;have fT:=ev.out.trans (cH.mono ev.out.size);have h2:=fw.out.below cH (λa d=>by have:=ha.out;omega);have hZ:=fv.out.below cH (λa d=>by have:=ha.out;omega);have hK:H+1<=w4.heap.size:=by have:=ha.out;have:=cH.size;omega
  obtain⟨mf,e1⟩: ∃xd,xd=v9.length:=⟨_,rfl⟩;rw [<-e1];clear nb kb fi eA ev fw fv cH bt bu bw bx d0 a6 a7 cN ci;by_cases z9:0<mf
  ·have Aa:(0:Int)<(mf:Int):=by omega
   have py:kH G st 0 m≠[]:=by rw [np.out];intro e;rw [e]at e1;simp at e1;omega
   obtain⟨d0,a6,a7,la,lb⟩:w4.cell? ⟨w.heap.size+1,0,none⟩=some (.slice none 0 0)/\w4.cell? ⟨w.heap.size+1,1,none⟩=some (.int .i64 0)/\w4.cell? ⟨w.heap.size+1,2,none⟩=some (.int .i64 0)/\w4.cell? ⟨w.heap.size+1,3,none⟩=some (.slice none 0 0)/\w4.cell? ⟨w.heap.size+1,4,none⟩=some (.slice none 0 0):=⟨(a0.cell 0).trans rfl,(a0.cell 1).trans rfl,(a0.cell 2).trans rfl,(a0.cell 3).trans rfl,(a0.cell 4).trans rfl⟩;have be:=a0.frozen 0;have ap:=a0.frozen 1;have bA:=a0.frozen 2;have c6:=a0.frozen 3;have mL:=a0.frozen 4;clear e1;obtain⟨yb,tX,m6,zc,za,y4,ce,tw⟩:=dA f8 a0 fT h2 hZ gr hK py;clear f8 a0 fT h2 hZ gr hK py
   go_wp2_with fail
   refine aY.bare λmA Y eZ=> ?_
   have M:=((((tX.out.put 0 (.slice none 0 0)).put 1 (.int .i64 0)).put 2 (.int .i64 0)).put 3 (.slice none 0 0)).put 4 (.slice none 0 0);have c2:=cZ w4 (w.heap.size+1) (.slice none 0 0) (.int .i64 0) (.int .i64 0) (.slice none 0 0) (.slice none 0 0);have f4:=Y _ _ ((M.cell 0).trans rfl);have dO:=Y _ _ ((M.cell 1).trans rfl);have cv:=Y _ _ ((M.cell 2).trans rfl);have dS:=Y _ _ ((M.cell 3).trans rfl);have f5:=Y _ _ ((M.cell 4).trans rfl);refine bodyPost_ret (v:= .tuple #[TV (.slice none 0 0) 0 0 (.slice none 0 0) (.slice none 0 0),.int .i64 12]) (by simp [results,results19,go_sem,f4,dO,cv,dS,f5]) rfl ?_;have cG:=c2.toBelow (λb e=>by omega) m6.out m6.out.size;exact⟨cG.trans (eZ.mono cG.size),0,m,dd.out,.inl ⟨12,rfl,.inr ⟨rfl,tw.out,rfl⟩⟩⟩
  ·obtain rfl:mf=0:=by omega
   have p0:kH G st 0 m=[]:=by rw [np.out];exact List.eq_nil_of_length_eq_zero e1.symm
   clear e1;obtain⟨w5,eb⟩: ∃i,i=w4.alloc (.cells #[.slice none 0 0,.int .i64 (c:Int),.int .i64 (p:Int),.slice none 0 0,.slice none 0 0] 35):=⟨_,rfl⟩;have a4:Below w4.heap.size w4 w5:=by rw [eb];exact(Below.refl _ _).alloc (Zd _) _
   have N:Blk w5 w4.heap.size 35 #[.slice none 0 0,.int .i64 (c:Int),.int .i64 (p:Int),.slice none 0 0,.slice none 0 0]:=by rw [eb];exact Blk.new _ _ _
   have lk:=f8.below a4;have M:=a0.below a4 a0.lt;have cO:=gr.below a4 gr.lt;have cG:=fT.trans (a4.mono fT.size);have r7:=h2.below a4 (λa d=>by omega);have r2:=hZ.below a4 (λa d=>by omega);have hL:w5.heap.size=w4.heap.size+1:=by rw [eb];simp
   obtain⟨hX,hY,rv,gM⟩:=f8.cells;obtain⟨bt,bu,bw,bx⟩:=lk.cells;obtain⟨d0,a6,a7⟩:w5.cell? ⟨H,0,none⟩=some (.int .i64 (n:Int))/\w5.cell? ⟨H,1,none⟩=some (.slice cy ee ct)/\w5.cell? ⟨H,2,none⟩=some (.slice cz S cu):=⟨(cO.cell 0).trans rfl,(cO.cell 1).trans rfl,(cO.cell 2).trans rfl⟩;rw [eb]at bt bu bw bx d0 a6 a7;have z6:n<=300:=by
    have:=(KnA.of_check dd.out.ok.1).r;rw [fg.out]at this;exact this
   have Ar:IntKind.i64.wrap ((n:Int)+1)=(n:Int)+1:=by rw [IntKind.wrap_i64];omega
   clear f8 a0 gr fT h2 hZ a4;obtain⟨nj,nv,fn,iD,nT,nM,bW,nt,ce,tx⟩:=fp lk M cO cG r7 r2 N hL hK p0;clear lk M cO cG r7 r2 N hL hK p0
   go_wp2_with fail
   rw [<-eb];rw [<-eb]at bt bu bw bx d0 a6 a7;obtain⟨l,oG⟩: ∃i,i=w4.heap.size:=⟨_,rfl⟩;rw [<-oG]at bW nt ce⊢;clear eb oG hX hY rv gM;obtain⟨U,ln⟩: ∃i,i=w5.heap.size:=⟨_,rfl⟩;have oM:l<U:=by rw [ln,nt.out];omega
   have qk:w.heap.size+2<l:=by have:=ce.out;have:=nu.out;omega
   obtain⟨cB,hB⟩: ∃bP:Nat->Prop,bP=λa=>a=l\/U<=a:=⟨_,rfl⟩
   have r5:RM 98 2 (λa9:Int×List Int=>[.int .i64 a9.1]) (λw F bl a9=>RdI w F bl a9.2) (λa=>F a\/U<=a) U w5 none 0 0 (i5 G st 0):=RM.nil _ _ _;have sA:aa cB w5 w5:=aa.refl _ _;have sr:cB l:=by rw [hB];exact .inl rfl
   have sv: ∀b,U<=b->cB b:=λb a8=>by rw [hB];exact .inr a8
   have sx: ∀b,b<U->b≠l-> ¬cB b:=λb k r h=>by
    rw [hB]at h;rcases h with h|h<;>omega
   have Aj: ∀b E,(i5 G st b).length=E->E=b:=λb E h=>by rw [<-h,oD]
   clear bt bu bw bx d0 a6 a7 hB;obtain⟨nP,n2,vz,kR,dr,t,B,nl⟩:=dA r5 sA sr sv sx oM qk ln;clear r5 sA sr sv sx oM qk ln
   go_loopw [47] (λec wr=> ∃(b E C:Nat) (b9:Option Addr),b<=n+1/\ec= .int .i64 (b:Int)/\aa cB w5 wr/\Blk wr l 35 #[.slice b9 E C,.int .i64 (c:Int),.int .i64 (p:Int),.slice none 0 0,.slice none 0 0]/\RM 98 2 (λa9:Int×List Int=>[.int .i64 a9.1]) (λw F bl a9=>RdI w F bl a9.2) (λa=>F a\/U<=a) U wr b9 E C (i5 G st b)) (λec _=>n+1 - (intOf ec).toNat)
   case atStart=>exact⟨0,0,0,none,Zg _,rfl,n2.out,bW.out,nP.out⟩
   case round=>
    clear n2 bW nP;obtain⟨b,E,C,b9,a8,rfl,b6,N,ei⟩:=hrel;have b4:bj wr F w.heap.size g1 hq g2 hr g3 hs c p n st G:=nj.out.touch' b6 (λa d=>dr.out a (by have:=cr.out a d;have:=t.out;have:=B.out;omega) (by have:=cr.out a d;have:=B.out;omega)) (dr.out _ (by have:=t.out;have:=B.out;omega) (by have:=B.out;omega));have hu:U<=wr.heap.size:=(by rw [nl.out];exact b6.size);by_cases gg:b<n+1
    ·have lE:(b:Int)<(n:Int)+1:=(by omega);have Ag:E<=300:=by
      have:E=b:=(by rw [ei.hn,oD]);omega
     have ok:=tp.out wr b4 (b:Int);have lR:=qF G st b;generalize aD G st (b:Int)=h1 at *;obtain⟨⟨P,xs⟩,A6⟩:=h1;simp only at lR;obtain⟨bt,bu,bw,bx⟩:=b4.cells;obtain⟨g7,bW,dn,hk,na,tA⟩:=aM b4 N ei b6 ok lR;clear b4 N ei b6 ok lR
     go_wp2_with fail
     refine na.out.mono ?_;rintro e w6 ⟨K,O,L,rfl,c1,ho⟩;simp only at c1;obtain⟨zh,ap,bA,c6⟩:=dn.out.ex;have k2:Below w6.heap.size w6 (w6.alloc (.cells #[.int .i64 P,.slice K O L] 98)):=(Below.refl _ _).alloc (Zd _) _;have rc:Blk (w6.alloc (.cells #[.int .i64 P,.slice K O L] 98)) w6.heap.size 98 #[.int .i64 P,.slice K O L]:=Blk.new _ _ _;have hm:Below (w6.alloc (.cells #[.int .i64 P,.slice K O L] 98)).heap.size (w6.alloc (.cells #[.int .i64 P,.slice K O L] 98)) ((w6.alloc (.cells #[.int .i64 P,.slice K O L] 98)).alloc (.cells #[.int .i64 P,.slice K O L] 98)):=(Below.refl _ _).alloc (Zd _) _;have a5:=ho.trans (k2.mono ho.size);have ed:=bW.out.below a5 bW.out.lt;have ck:=ed.alloc (.cells #[.int .i64 P,.slice K O L] 98);have gF:=ah bA (a5.trans (hm.mono a5.size));have mu:Rd ((w6.alloc (.cells #[.int .i64 P,.slice K O L] 98)).alloc (.cells #[.int .i64 P,.slice K O L] 98)) (λi=>i=(w6.alloc (.cells #[.int .i64 P,.slice K O L] 98)).heap.size) (.slice (some ⟨(w6.alloc (.cells #[.int .i64 P,.slice K O L] 98)).heap.size,0,none⟩) 1 1) 2 [.int .i64 P,.slice K O L]:=Rd.one' (w:=w6.alloc (.cells #[.int .i64 P,.slice K O L] 98)) (e:=98) [.int .i64 P,.slice K O L] 2 rfl;simp only [World.size_alloc]at mu;have hX:=(ed.cell 0).trans rfl;have y0:=(rc.cell 0).trans rfl;have h6:=(rc.cell 1).trans rfl;have o1:U<=((w6.alloc (.cells #[.int .i64 P,.slice K O L] 98)).alloc (.cells #[.int .i64 P,.slice K O L] 98)).heap.size:=Ze hu (a5.trans (hm.mono a5.size)).size;have e5:aa cB w5 (w6.alloc (.cells #[.int .i64 P,.slice K O L] 98)):=hk.out.trans' (dC a5 (λb a8=>kR.out b (Ze hu a8)));clear bt bu bw bx na g7 bW hk;obtain⟨iN,iS,it,iv,he,hf,nD,nR,n8,fF,n9,kG,kS⟩:=pZ ho a5 k2 hm ed ck gF mu ap bA c6 c1 e5;clear ho a5 k2 hm ed ck gF mu ap bA c6 c1 e5
     go_wp2_with (at_builtin;refine aJ _ rfl (.tmp 57) (.tmp 59) _ rfl elemRule U (.slice b9 E C) E _ rfl nD.out _ _ [.int .i64 P,.slice K O L] 1 rfl rfl nR.out (by simp [Value.oneCell']) (by unfold maxLen;omega) (by omega) o1 ?_)
     intro bC b1 w9 rt oB p8;obtain⟨h0,v6,my⟩:=RM.push (pre:=λa9:Int×List Int=>[Value.int .i64 a9.1]) (x:=(P,xs)) (z:= .slice K O L) (lo:=λa=>F a\/U<=a) uu dn.out.hn n8.out fF.out n9.out hu
      (Rd.mono (Rd.below kG.out it.out (λa d=>by
       rcases d with d|d
       ·have:=cr.out a d;have:=B.out;have:=t.out;have:=iN.out.size;omega
       ·exact d.2)) (λa d=>by
       have k:=it.out.size
       have r:=iN.out.size
       have f9:=B.out
       have ga:=t.out
       have cM: ∀g,(Value.slice b9 E C).ownBlock=some g->U<=g/\g<wr.heap.size:=λg e=>fF.out.lt g e
       rcases d with d|d
       ·have oC:=cr.out a d
        exact⟨.inl d,by omega,λe=>by have:=cM a e;omega⟩
       ·exact⟨.inr (by omega),by omega,λe=>by have:=cM a e;omega⟩)) iS.out iv.out rt oB (by simp only [World.size_alloc];exact p8)
     rw [<-tA.out]at h0;have cl:Blk w9 l 35 #[.slice b9 E C,.int .i64 (c:Int),.int .i64 (p:Int),.slice none 0 0,.slice none 0 0]:=hf.out.touch my (λe=>by have:=fF.out.lt _ e;have:=t.out;omega);have A5:=(cl.cell 0).trans rfl;have z1:=cl.frozen 0;have gW:aa cB w5 w9:=(kS.out.trans' (dC iv.out (λb a8=>kR.out b (Ze (Ze hu iS.out.size) a8)))).trans my (λb _ e=>kR.out b (fF.out.lt b e).1);have v:=cl.put 0 (.slice bC (E+1) b1);have r6:RM 98 2 (λa9:Int×List Int=>[.int .i64 a9.1]) (λw F bl a9=>RdI w F bl a9.2) (λa=>F a\/U<=a) U (w9.setCell ⟨l,0,none⟩ (.slice bC (E+1) b1)) bC (E+1) b1 (i5 G st (b+1)):=h0.touch uu (aa.setCell (S:=λa=>a=l) (aa.refl _ w9) (p:=⟨l,0,none⟩) (λ_=>rfl) _) (λa e h=>by have:=h0.block a e;have:=t.out;omega) (λa d _ h=>by
      subst h
      rcases d with d|d
      ·have:=cr.out _ d;have:=B.out;omega
      ·have:=t.out;omega)
     have b7:aa cB w5 (w9.setCell ⟨l,0,none⟩ (.slice bC (E+1) b1)):=gW.setCell (p:=⟨l,0,none⟩) (λ_=>vz.out) _;clear rt oB p8 v6 my gW h0 o1 hX y0 h6 dn n8 fF n9 iN iS it iv he hf nD nR kG kS;obtain⟨t7,vl,v0,hg⟩:=aA v r6 b7 cl;clear v r6 b7 cl
     go_wp2_with fail
     go_roundw
     case rel=>exact⟨b+1,E+1,b1,bC,by omega,by go_num,v0.out,t7.out,vl.out⟩
     case measure=>simp [intOf];omega
    ·have lE: ¬(b:Int)<(n:Int)+1:=(by omega);obtain rfl:b=n+1:=(by omega);rw [tG.out]at ei;have p3:E=n+1:=(by rw [ei.hn,List.length_append,fg.out];rfl);obtain⟨bo,rfl⟩: ∃i,i=wr:=⟨_,rfl⟩;have br:Blk bo H 103 #[.int .i64 (n:Int),.slice cy ee ct,.slice cz S cu]:=fn.out.touch b6 (dr.out _ (by have:=ce.out;have:=t.out;omega) (by have:=ce.out;omega));have q9:Blk bo (w.heap.size+1) 35 #[.slice none 0 0,.int .i64 0,.int .i64 0,.slice none 0 0,.slice none 0 0]:=nv.out.touch b6 (dr.out _ (by have:=t.out;have:=B.out;omega) (by have:=B.out;omega));have ej:=nT.out.touch b6 (λa d=>dr.out a (by have:=ce.out;have:=t.out;omega) (by have:=ce.out;omega));have eg:=nM.out.touch b6 (λa d=>dr.out a (by have:=ce.out;have:=t.out;omega) (by have:=ce.out;omega));have od:Below w.heap.size w bo:=b6.toBelow (λa d=>by
      rcases Nat.lt_or_ge a U with k|k
      ·rcases Nat.lt_or_ge a l with r|r
       ·exact absurd d (dr.out a k (by omega))
       ·have:=B.out;omega
      ·have:=B.out;have:=t.out;omega) iD.out iD.out.size
     obtain⟨lG,Al,wf,-⟩:=ej.at_;obtain⟨p7,Ak,we,-⟩:=eg.at_;rw [jv]at p7;unfold maxLen at wf we;have wz:S=ee:=(by omega);subst wz;have wx:=kg.out.n;rw [<-lG]at wx;obtain⟨d0,a6,a7⟩:bo.cell? ⟨H,0,none⟩=some (.int .i64 (n:Int))/\bo.cell? ⟨H,1,none⟩=some (.slice cy S ct)/\bo.cell? ⟨H,2,none⟩=some (.slice cz S cu):=⟨(br.cell 0).trans rfl,(br.cell 1).trans rfl,(br.cell 2).trans rfl⟩;clear p7;obtain⟨g7,bW,dn,hk,yn,eA,t4,fw,fv,m7,g9⟩:=fa b4 N ei b6 p3 br q9 ej eg od lG;clear b4 N ei b6 p3 br q9 ej eg od lG;clear fn nv nT nM iD nj
     go_wp2_with fail
     obtain⟨z,lo⟩: ∃i,i=bo.heap.size:=⟨_,rfl⟩;have oR:U<=z:=(by rw [lo,nl.out];exact hk.out.size);obtain⟨es,d1⟩: ∃bP:Nat->Prop,bP=λa=>a=l\/z<=a:=⟨_,rfl⟩
     have sb:es l:=(by rw [d1];exact .inl rfl);have sc: ∀b,z<=b->es b:=λb a8=>by rw [d1];exact .inr a8
     have sd: ∀b,b<z->b≠l-> ¬es b:=λb k r h=>by
      rw [d1]at h;rcases h with h|h<;>omega
     have sB:aa es bo bo:=aa.refl _ _;have s3:Two 113 49 (λw F (bl:Value) (i:List Ac)=>aH w F bl i) (λw F (bl:Value) (i:List Int)=>RdI w F bl i) (λ_=>False) (λ_=>False) z bo none 0 none 0 0 (jQ (n:Int) m (bN G st m) (c+1) 0) (jP m c p 0):=⟨RM.nil _ _ _,RM.nil _ _ _,λa h=>h.elim,λa h=>h.elim,λa h=>by cases h⟩;have ri:Mk z [] bo:=Mk.nil _ _;clear d0 a6 a7 d1;obtain⟨kM,kP,cs,v1,v3,t9,X,kc⟩:=dA sb sc sd sB s3 ri oR lo;clear sb sc sd sB s3 ri oR lo;refine DB (λcx ht wr=> ∃(f R aT:Nat) (Q aS:Option Addr) (rd rf:Nat->Prop),f<=S/\cx= .int .i64 (f:Int)/\Mk z ht wr/\aa es bo wr/\Blk wr l 35 #[.slice b9 E C,.int .i64 (c:Int),.int .i64 (p:Int),.slice Q f R,.slice aS f aT]/\
      Two 113 49 (λw F (bl:Value) (i:List Ac)=>aH w F bl i) (λw F (bl:Value) (i:List Int)=>RdI w F bl i) rd rf z wr Q R aS aT f (jQ (n:Int) m (bN G st m) (c+1) f) (jP m c p f))
      (λcx=>S - (intOf cx).toNat)
      ⟨0,0,0,none,none,λ_=>False,λ_=>False,Zg _,rfl,t9.out,v1.out,bW.out,v3.out⟩ ?_
     iterate 64 intro _
     intro cx ht wr hrel A o;obtain⟨f,R,aT,Q,aS,rd,rf,hi,rfl,mk,bz,N,c4⟩:=hrel;have b4:bj wr F w.heap.size g1 hq g2 hr g3 hs c p n st G:=g7.out.touch' bz (λa d=>cs.out a (by have:=cr.out a d;have:=t.out;have:=B.out;have:=X.out;omega) (by have:=cr.out a d;have:=B.out;omega)) (cs.out _ (by have:=t.out;have:=B.out;have:=X.out;omega) (by have:=B.out;omega));have ci:H<l:=(by have:=ce.out;omega);have cP:Blk wr H 103 #[.int .i64 (n:Int),.slice cy S ct,.slice cz S cu]:=eA.out.touch bz (cs.out _ (by have:=t.out;have:=X.out;omega) (by omega));have h4:=fw.out.touch bz (λa d=>cs.out a (by have:=t.out;have:=X.out;omega) (by omega));have c1:=fv.out.touch bz (λa d=>cs.out a (by have:=t.out;have:=X.out;omega) (by omega));have hv:z<=wr.heap.size:=(by rw [kc.out];exact bz.size);by_cases gg:f<S
     ·have lE:(f:Int)<(S:Int):=(by omega);obtain⟨e,e0⟩: ∃e,m[f]? =some e:=⟨_,List.getElem?_eq_getElem (by rw [<-g9.out];exact gg)⟩;obtain⟨-,-,-,ps⟩:=h4.at_;obtain⟨f0,co,rfl,-,pp⟩:=ps (by omega);obtain⟨-,-,-,pt⟩:=c1.at_;obtain⟨dt,cp,rfl,pk,pr⟩:=pt (by omega);have tv:=ab pk;clear pk;obtain⟨ap,bA,ep,x2,ak,a1⟩:=pp f e e0;obtain⟨ca,cm,cf,rfl,-⟩:=id ak;obtain⟨cb,cn,cg,rfl,-⟩:=id a1;have hy:=kU (G:=G) (st:=st) e0;obtain⟨bC,gA,b1,h6,mp⟩:=pr f _ hy;have lT: ∀em:Int,(dy (n:Int) e.2 (j9 G st m f e) em).length<=842:=λem=>by
       have:=kg.out.poss (n:Int) em (i:=f) (by rw [<-g9.out];exact gg);rwa [n7 e0,ni hy]at this
      obtain⟨bg,hx⟩: ∃bg,bg=j9 G st m f e:=⟨_,rfl⟩;rw [<-hx]at mp lT;have qf:eM (n:Int) (trD m f) (lkD (bN G st m) f) (c+1)=eM (n:Int) e.2 bg (c+1):=(by rw [n7 e0,ni hy,hx]);obtain⟨be,qt⟩: ∃i,i=wr.heap.size:=⟨_,rfl⟩;have wd:c<=120:=kg.out.t;have As:IntKind.i64.wrap ((c:Int)+1)=(c:Int)+1:=(by rw [IntKind.wrap_i64];omega);have wq: ∀q:World,(Instr.makeSlice 113 (.int .i64 ((c:Int)+1)) (.int .i64 ((c:Int)+1))).run prog q= .ok (.slice (some ⟨q.heap.size,0,none⟩) (c+1) (c+1)) (q.alloc (.cells (ar (List.replicate (c+1) ((0:Int),(0:Int)))).toArray 46)):=λq=>by
       have:=Cf (c+1) (by omega) q;rwa [show(((c+1:Nat)):Int)=(c:Int)+1 from by omega]at this
      generalize p5:(ar (List.replicate (c+1) ((0:Int),(0:Int)))).toArray=hR at wq;obtain⟨bR,d4⟩: ∃i,i=((wr.alloc (.cells #[.slice ca cm cf,.slice cb cn cg] 112)).alloc (.cells hR 46)).alloc (.cells #[.slice (some ⟨wr.heap.size+1,0,none⟩) (c+1) (c+1)] 113):=⟨_,rfl⟩;have b0:Below wr.heap.size wr bR:=(by rw [d4];exact(((Below.refl _ _).alloc (Zd _) _).alloc (by simp) _).alloc (by simp;omega) _);have ra:Blk bR wr.heap.size 112 #[.slice ca cm cf,.slice cb cn cg]:=(by rw [d4];exact((Blk.new _ _ _).alloc _).alloc _);have mc:Blk bR (wr.heap.size+1) 46 hR:=by
       rw [d4];have:=(Blk.new (wr.alloc (.cells #[.slice ca cm cf,.slice cb cn cg] 112)) 46 hR).alloc (.cells #[.slice (some ⟨wr.heap.size+1,0,none⟩) (c+1) (c+1)] 113);simpa using this
      have q4:Blk bR (wr.heap.size+1+1) 113 #[.slice (some ⟨wr.heap.size+1,0,none⟩) (c+1) (c+1)]:=by
       rw [d4];have:=Blk.new ((wr.alloc (.cells #[.slice ca cm cf,.slice cb cn cg] 112)).alloc (.cells hR 46)) 113 #[.slice (some ⟨wr.heap.size+1,0,none⟩) (c+1) (c+1)];simpa using this
      have qN:bR.heap.size=wr.heap.size+1+1+1:=(by rw [d4];simp);have rr:bR.ownsRow be 46 2 (.slice (some ⟨wr.heap.size+1,0,none⟩) (c+1) (c+1)) (c+1) (ar (dN ((0:Int),(0:Int)) (eM (n:Int) e.2 bg 0) (c+1))):=by
       refine sK ?_ ?_ (by omega) (by unfold maxLen;omega)
       ·rw [show eM (n:Int) e.2 bg 0=[]from rfl,vd,p5];exact mc
       ·rw [dL,mF _ (by rw [mw];omega)]
      obtain⟨bt,bu,bw,bx⟩:=b4.cells;obtain⟨d0,a6,a7⟩:wr.cell? ⟨H,0,none⟩=some (.int .i64 (n:Int))/\wr.cell? ⟨H,1,none⟩=some (.slice (some ⟨f0,co,none⟩) S ct)/\wr.cell? ⟨H,2,none⟩=some (.slice (some ⟨dt,cp,none⟩) S cu):=⟨(cP.cell 0).trans rfl,(cP.cell 1).trans rfl,(cP.cell 2).trans rfl⟩;have hY:=ae ((Below.refl wr.heap.size wr).alloc (Zd _) (.cells #[.slice ca cm cf,.slice cb cn cg] 112)) ((N.cell 1).trans rfl);have oP:H<wr.heap.size:=(by have:=t.out;have:=X.out;omega);have ry:=Rd.below a1 b0 (λa d=>by omega);have rW:=mp.below b0 (λa d=>by omega);have s9:=ae b0 h6;have cO:=cP.below b0 cP.lt;have hU:=mk.keeps (k:=(⟨b0.size,λb xg _ a8 _=>(b0.block b (Array.getElem?_eq_some_iff.1 a8).1).trans a8⟩:KeepsFrom z wr bR));have rb:=N.below b0 N.lt;clear ps pp pt pr hy ak a1 mp h6 p5 bt bu bw bx;obtain⟨g7,y5,vs,kG,bW,ny,n1,hl,yl,tB,yc,tO,tU,iF⟩:=dh b4 cP h4 c1 N mk bz c4 e0 lT hx qf qt b0;obtain⟨t5,y6,kz,hb,ut,va,vb,v4,fn,ub,t8⟩:=fa ra mc q4 qN rr ry rW s9 cO hU rb;clear b4 cP h4 c1 N mk bz c4 e0 lT hx qf qt b0 ra mc q4 qN rr ry rW s9 cO hU rb
      go_wp2_with fail
      rw [<-d4];obtain⟨al,hJ⟩: ∃i,i=wr.heap.size+1:=⟨_,rfl⟩;obtain⟨et,hC⟩: ∃bP:Nat->Prop,bP=λa=>a=al\/wr.heap.size+3<=a:=⟨_,rfl⟩
      have sl: ∀b,b<wr.heap.size+3->b≠al-> ¬et b:=λb k r h=>by
       rw [hC]at h;rcases h with h|h<;>omega
      have si: ∀b,wr.heap.size+3<=b->et b:=λb a8=>by rw [hC];exact .inr a8
      have se:et al:=(by rw [hC];exact .inl rfl);have sD:aa et bR bR:=aa.refl _ _;clear hC d4 d0 a6 a7 hY ep x2;obtain⟨bY,hj,nX,v2,a3,W,c9⟩:=de sl si se sD hJ oP hv;clear sl si se sD hJ oP hv;refine DA (λcx ht T=> ∃b:Nat,b<=c+1/\cx= .int .i64 (b:Int)/\Mk z ht T/\aa et bR T/\T.ownsRow be 46 2 (.slice (some ⟨wr.heap.size+1,0,none⟩) (c+1) (c+1)) (c+1) (ar (dN ((0:Int),(0:Int)) (eM (n:Int) e.2 bg b) (c+1)))) (λcx=>c+1 - (intOf cx).toNat) ⟨0,Zg _,rfl,ub.out,v2.out,ut.out⟩ ?_
      iterate 14 intro _
      intro cx z0 T hrel ya z4;obtain⟨b,a8,rfl,hS,an,gB⟩:=hrel;by_cases p2:b<c+1
      ·have wk:(b:Int)<(c:Int)+1:=(by omega);have hL:=hb.out;have hJ:=a3.out;have hO:=t5.out.touch an (bY.out _ (by omega) (by omega));have q5:=kz.out.touch an (bY.out _ (by omega) (by omega));have hN:=fn.out.touch an (bY.out _ (by have:=W.out;omega) (by have:=W.out;omega));have ls:dt<wr.heap.size+3/\dt≠al:=(by have:=tv.out;have:=W.out;omega);have x3:=an.cell v4.out (bY.out _ ls.1 ls.2);have rx:=Rd.touch va.out an (λa d=>bY.out a (by have:=W.out;omega) (by have:=W.out;omega));have rP:=vb.out.touch an (λa d=>bY.out a (by have:=W.out;omega) (by have:=W.out;omega));have gm:=an.size;obtain⟨I,d2⟩: ∃I,I=T.alloc (.cells #[.int .i64 (b:Int)] 3):=⟨_,rfl⟩;have ds:Below T.heap.size T I:=(by rw [d2];exact(Below.refl _ _).alloc (Zd _) _);have l8:Blk I T.heap.size 3 #[.int .i64 (b:Int)]:=(by rw [d2];exact Blk.new _ _ _);have q1:I.heap.size=T.heap.size+1:=(by rw [d2];simp);have k4:=ae ds ((hN.cell 0).trans rfl);have k5:=ae ds ((hN.cell 2).trans rfl);have k6:=ae ds ((hO.cell 0).trans rfl);have k7:=ae ds ((hO.cell 1).trans rfl);have k8:=ae ds x3;have k9:=(l8.cell 0).trans rfl;rw [d2]at k4 k5 k6 k7 k8 k9;clear hL hJ ls;obtain⟨nz,n3,nA,t6,kA,t1,nF,nG,hc,ix,kB,tW⟩:=gx hS an gB hO q5 hN rx rP gm ds l8 q1;clear hS an gB hO q5 hN rx rP gm ds l8 q1
       go_wp2_with fail
       rw [<-d2];rw [<-d2]at k4 k5 k6 k7 k8 k9;clear d2;refine bX 9 (by kernel_rfl) (by kernel_rfl) ?_;simp only [List.take_succ_cons,List.take_zero,Za,Zb]
       repeat still_step
       refine wpStill_nil ?_
       go_wp2_with fail
       refine(pd (n:Int) (b:Int) _ _ _ _ _ _).mono ?_;rintro wa J ⟨rfl,pf⟩;have nn:=ab pf;clear pf k4 k5 k6 k7 k8 k9
       go_wp2_with fail
       have d3:=nn.out;clear nn;have k3:Below I.heap.size I J:=(by rw [d3];exact(((((Below.refl _ I).drew).alloc (Zd _) _).alloc (by simp) _).alloc (by simp;omega) _).alloc (by simp;omega) _);have q2:Blk J I.heap.size 3 #[.int .i64 (n:Int)]:=(by rw [d3];exact(((Blk.new I.drew _ _).alloc _).alloc _).alloc _);have q3:Blk J (I.heap.size+1) 112 #[.slice ca cm cf,.slice cb cn cg]:=by
        rw [d3];have:=(((Blk.new (I.drew.alloc (.cells #[.int .i64 (n:Int)] 3)) 112 #[.slice ca cm cf,.slice cb cn cg]).alloc (.cells #[.slice bC gA b1] 117)).alloc (.cells #[.int .i64 (b:Int)] 3));simpa using this
       have e3:Blk J (I.heap.size+1+1) 117 #[.slice bC gA b1]:=by
        rw [d3];have:=((Blk.new ((I.drew.alloc (.cells #[.int .i64 (n:Int)] 3)).alloc (.cells #[.slice ca cm cf,.slice cb cn cg] 112)) 117 #[.slice bC gA b1]).alloc (.cells #[.int .i64 (b:Int)] 3));simpa using this
       have ai:Blk J (I.heap.size+1+1+1) 3 #[.int .i64 (b:Int)]:=by
        rw [d3];have:=(Blk.new (((I.drew.alloc (.cells #[.int .i64 (n:Int)] 3)).alloc (.cells #[.slice ca cm cf,.slice cb cn cg] 112)).alloc (.cells #[.slice bC gA b1] 117)) 3 #[.int .i64 (b:Int)]);simpa using this
       have Au:J.heap.size=I.heap.size+4:=(by rw [d3];simp);have bq:Below T.heap.size T J:=ix.out.trans (k3.mono ix.out.size);have Av:wr.heap.size+3<=T.heap.size:=(by have:=hb.out;have:=hc.out;omega);obtain⟨e6,eQ⟩: ∃e6:Nat->Prop,e6=λa=>(w.heap.size+2<=a/\a<H)\/(I.heap.size<=a/\a<J.heap.size):=⟨_,rfl⟩
       obtain⟨cA,eR⟩: ∃bP:Nat->Prop,bP=λa=>a=al\/J.heap.size<=a:=⟨_,rfl⟩
       have xn:jb J e6 (I.heap.size+1) (I.heap.size+1+1+1) (I.heap.size+1+1) I.heap.size (.slice ca cm cf) (.slice cb cn cg) (.slice bC gA b1) (n:Int) (b:Int) e.2 bg:=by
        have hH: ∀a,w.heap.size+2<=a/\a<H->a<T.heap.size:=λa d=>by have:=W.out;omega
        refine⟨q3,ai,e3,q2,(Rd.below nF.out bq hH).mono ?_,(nG.out.below bq hH).mono ?_,?_⟩
        ·intro a d;rw [eQ];exact .inl d
        ·intro a d;rw [eQ];exact .inl d
        ·rw [eQ];exact⟨.inr (by omega),.inr (by omega),.inr (by omega),.inr (by omega)⟩
       have wc: ∀a,e6 a->a<J.heap.size:=λa d=>by
        rw [eQ]at d;rcases d with d|d
        ·have:=W.out;have:=bq.size;omega
        ·exact d.2
       have hw: ∀a,e6 a-> ¬cA a:=λa d y=>by
        rw [eQ]at d;rw [eR]at y;have k:=W.out;have r:=a3.out;have f9:=bq.size;have ga:=tW.out;rcases d with d|d
        ·rcases y with y|y<;>omega
        ·rcases y with y|y<;>omega
       have gb: ∀g,J.heap.size<=g->cA g:=λg D=>by rw [eR];exact .inr D
       have o8:cA al:=(by rw [eR];exact .inl rfl);have hA: ∀g,g<J.heap.size->g≠al-> ¬cA g:=λg k r h=>by
        rw [eR]at h;rcases h with h|h<;>omega
       have hV:=ah nA.out bq;have xb:=kA.out.below bq kA.out.lt;have q7:=kB.out.below k3 kB.out.lt;have ro:=rA nz.out bq;have qc: ∀m,J.heap[m]? =some (.deferred (some []))-> ¬cA m:=λm x y=>by
        rw [eR]at y;rcases y with y|y
        ·rcases hV.2 with⟨k,-⟩|⟨lj,zr,zG,k,-,r,-⟩
         ·cases k
         ·have d5:lj=al:=by
           injection k with k _ _
           injection k with k
           injection k with k
           rw [<-k,a3.out]
          rw [y,<-d5,r]at x;cases x
        ·have:=(Array.getElem?_eq_some_iff.1 x).1;omega
       have sF:aa et bR J:=n3.out.trans' (dC bq (λg D=>hj.out g (by omega)));have oS:z<=J.heap.size:=(by have:=c9.out;have:=bq.size;omega);have lr:(eM (n:Int) e.2 bg b).length=b:=mw _ _ _ _;have l1:=zR (n:Int) e.2 bg b;have p9:=tB.out (b:Int);obtain⟨el,l2⟩: ∃i,i=eM (n:Int) e.2 bg b:=⟨_,rfl⟩;rw [<-l2]at hV lr l1;clear eQ eR d3 k3 q2 q3 e3 ai nz n3 nA t6 kA t1 nF nG ix kB;obtain⟨y1,y2,ns,up,n4,hh,nr,g8⟩:=dA p9 l2 l1 hV sF ro qc lr;clear p9 l2 l1 hV sF ro qc lr;refine FB 46 rfl (enters_of func139 (by kernel_rfl) rfl) (sE xn wc hw 4 (by omega)) (λh b=>h.trans' b) (λq md xg xj hH _ _ _=>pO xj (gb md hH))
        (λe4 q=>e4=[]/\aa cA J q/\q.ownsRow be 46 2 (.slice (some ⟨wr.heap.size+1,0,none⟩) (c+1) (c+1)) (c+1) (ar (dN ((0:Int),(0:Int)) el (c+1))))
        (λC e4 q=>C= .exit 7/\aa cA J q/\ ∃i:Ac,e4=[i]/\q.ownsRow be 46 2 (.slice (some ⟨wr.heap.size+1,0,none⟩) (c+1) (c+1)) (c+1) (ar (dN ((0:Int),(0:Int)) (el++[i]) (c+1))))
        (λx0 fc fL gO y d5 d6=>⟨y.1,pb (β:=Unit) gb () fc fL gO y.2.1 d5 d6,qJ (β:=Unit) J.heap.size be 46 2 (c+1) _ (λ_=>ar (dN ((0:Int),(0:Int)) el (c+1))) () fc fL gO y.2.2 d5 d6⟩)
        (λC x0 fc fL gO y d5 d6=>by
         obtain⟨k,r,i,f9,ga⟩:=y
         exact⟨k,pb (β:=Unit) gb () fc fL gO r d5 d6,i,f9,qJ (β:=Unit) J.heap.size be 46 2 (c+1) _ (λ_=>ar (dN ((0:Int),(0:Int)) (el++[i]) (c+1))) () fc fL gO ga d5 d6⟩)
        ⟨rfl,aa.refl _ _,up.out⟩ ?assign ?body ?done ?stop
       case assign=>
        rintro md e4 i q A ⟨cj,ad,bi⟩ o
        gi_wp2_with fail
        exact o _ _ ((KeepsOthers.alloc _ _).from _) (dC ((Below.refl q.heap.size q).alloc (Zd _) _) (λg D=>gb g (Ze ad.size D))) ⟨cj,ad.trans' (dC ((Below.refl q.heap.size q).alloc (Zd _) _) (λg D=>gb g (Ze ad.size D))),ah bi ((Below.refl _ _).alloc (Zd _) _)⟩ ad.size (Blk.new _ _ _)
       case body=>
        rintro md e4 i x5 q ⟨rfl,ad,bi⟩ z3 hQ gg;obtain⟨g0,ep⟩:=i;have Az:=(hQ.cell 0).trans rfl;have AR:=(hQ.cell 1).trans rfl;have Ax:=((xb.touch ad (hA _ (by have:=kz.out.lt;have:=bq.size;have:=hc.out;omega) (by have:=a3.out;omega))).cell 0).trans rfl;have Ay:=((q7.touch ad (hA _ (by have:=q7.lt;omega) (by have:=a3.out;omega))).cell 0).trans rfl;have cK:(dN ((0:Int),(0:Int)) el (c+1)).length=c+1:=mF _ (by rw [g8.out];omega);obtain⟨xk,cM⟩: ∃mG,(dN ((0:Int),(0:Int)) el (c+1))[b]? =some mG:=⟨_,List.getElem?_eq_getElem (by rw [cK];exact p2)⟩;obtain⟨cI,ch⟩:=jW cM;obtain⟨v7,v8⟩:=ic bi cI;obtain⟨zq,zA⟩:=ic bi ch;have hW:=nf (nf bi (j:=b * 2) (by rw [dL,cK];omega) (.int .i64 g0)) (j:=b * 2+1) (by rw [List.length_set,dL,cK];omega) (.int .i64 ep);rw [qM ((g0,ep):Ac) (by rw [cK];exact p2)]at hW;have ea:=uZ ((0:Int),(0:Int)) (l:=el) (m:=c+1) (by rw [g8.out];omega) ((g0,ep):Ac);rw [g8.out]at ea;rw [ea]at hW;have Ae:(0:Int)<=(b:Int):=(by omega);clear cM cI ch ea cK;obtain⟨us,tR,ys,y9⟩:=aA hW ad bi hQ;clear hW ad bi hQ
        gi_wp2_with fail
        have x1:=tR.out.trans' (((aa.refl cA q).setCell (p:=⟨wr.heap.size+1,b * 2,none⟩) (λ_=>by rw [<-a3.out];exact o8) (.int .i64 g0)).setCell (p:=⟨wr.heap.size+1,b * 2+1,none⟩) (λ_=>by rw [<-a3.out];exact o8) (.int .i64 ep));exact⟨((KeepsOthers.setCell _ _ _).trans (KeepsOthers.setCell _ _ _)).from _,rfl,x1,g0,ep,rfl,us.out⟩
       case done=>
        rintro m A7 q x rfl ⟨cj,ad,bi⟩ o;have MK:=Mk.cons hh.out (hh.out.touch ad nr.out) oS x o;have fb:=n4.out.trans ad (λg _ D=>by
         rcases Nat.lt_or_ge g J.heap.size with h|h
         ·by_cases e:g=al
          ·rw [e];exact nX.out
          ·exact absurd D (hA g h e)
         ·exact hj.out g (by have:=bq.size;omega))
        have e8:q.ownsRow be 46 2 (.slice (some ⟨wr.heap.size+1,0,none⟩) (c+1) (c+1)) (c+1) (ar (dN ((0:Int),(0:Int)) (eM (n:Int) e.2 bg (b+1)) (c+1))):=by
         rw [ns.out,cj];unfold dN;rw [show([]:List Ac).headD (0,0)=(0,0)from rfl,EN _ (by rw [g8.out];omega)];exact bi
        clear bi ad;obtain⟨h9,im,ih,tt⟩:=aA MK fb e8 o;clear MK fb e8 o
        go_wp2_with fail
        refine kJ.mk ⟨_,_,_,_,_,_,_,_,_,_,_,_,_,_,_,_,⟨b+1,by omega,by go_num,h9.out,im.out,ih.out⟩,by simp [intOf];omega,rfl⟩
       case stop=>
        rintro m C e4 q x qa ⟨rfl,ad,i,rfl,bi⟩ o;have MK:=Mk.cons hh.out (hh.out.touch ad nr.out) oS x o;have fb:=n4.out.trans ad (λg _ D=>by
         rcases Nat.lt_or_ge g J.heap.size with h|h
         ·by_cases e:g=al
          ·rw [e];exact nX.out
          ·exact absurd D (hA g h e)
         ·exact hj.out g (by have:=bq.size;omega))
        have e8:q.ownsRow be 46 2 (.slice (some ⟨wr.heap.size+1,0,none⟩) (c+1) (c+1)) (c+1) (ar (dN ((0:Int),(0:Int)) (eM (n:Int) e.2 bg (b+1)) (c+1))):=by
         have wg:(dy (n:Int) e.2 bg (b:Int)).headD (0,0)=i:=by
          obtain⟨a9,d6⟩:=qa;rw [<-d6];rfl
         rw [ns.out,wg];exact bi
        clear bi ad qa;obtain⟨h9,im,ih,tt⟩:=aA MK fb e8 o;clear MK fb e8 o
        go_wp2_with fail
        refine kJ.mk ⟨_,_,_,_,_,_,_,_,_,_,_,_,_,_,_,_,⟨b+1,by omega,by go_num,h9.out,im.out,ih.out⟩,by simp [intOf];omega,rfl⟩
      ·have wk: ¬(b:Int)<(c:Int)+1:=(by omega);obtain rfl:b=c+1:=(by omega);have z7:=wd;rw [ve _ (by rw [mw];exact Zd _),<-tO.out]at gB;have o3:l<wr.heap.size:=(by have:=t.out;have:=X.out;have:=c9.out;omega);have hP:=t8.out.touch an (bY.out _ (by omega) (by have:=a3.out;omega));have ma:=fn.out.touch an (bY.out _ (by have:=W.out;omega) (by have:=W.out;have:=a3.out;omega));have l6:=kz.out.touch an (bY.out _ (by omega) (by have:=a3.out;omega));have h3:=vs.out.touch (aa.of_size (iF.out) (λ_=>False)) (λ_ _ e=>e);have h3:=h3.touch an (λa d=>bY.out a (by have:=W.out;omega) (by have:=W.out;have:=a3.out;omega));have gm:wr.heap.size+3<=T.heap.size:=(by have:=hb.out;have:=an.size;omega);have z5:p<=120:=by
        have:=(KnA.of_check dd.out.ok.1).n;rw [kf.out]at this;exact this
       have ws: ∀q:World,(Instr.makeSlice 49 (.int .i64 (p:Int)) (.int .i64 (p:Int))).run prog q= .ok (.slice (some ⟨q.heap.size,0,none⟩) p p) (q.alloc (.cells ((List.replicate p (0:Int)).map (Value.int .i64)).toArray 3)):=λq=>zY p (by omega) q
       generalize p6:((List.replicate p (0:Int)).map (Value.int .i64)).toArray=rg at ws;obtain⟨bp,gd⟩: ∃i,i=T.alloc (.cells rg 3):=⟨_,rfl⟩;have cE:Below T.heap.size T bp:=(by rw [gd];exact(Below.refl _ _).alloc (Zd _) _);have hM:Blk bp T.heap.size 3 rg:=(by rw [gd];exact Blk.new _ _ _);obtain⟨bc,gh⟩: ∃i,i=T.heap.size:=⟨_,rfl⟩;have qT:bp.heap.size=bc+1:=(by rw [gd,gh];simp);have ru:bp.ownsRow be 3 1 (.slice (some ⟨bc,0,none⟩) p p) p ((dN (0:Int) (gU m c f 0) p).map (Value.int .i64)):=by
        refine sK ?_ ?_ (by have:=tU.out;omega) (by unfold maxLen;omega)
        ·rw [show gU m c f 0=[]from rfl,vd,p6,gh];exact hM
        ·rw [Zc,mF _ (by rw [mv];omega),Nat.mul_one]
       have cv:=(hP.cell 2).trans rfl;have ed:=hP.below cE hP.lt;have q8:=ma.below cE ma.lt;have sa:=h3.below cE (λa d=>by have:=W.out;omega);have rs:=ah gB cE;have q6:=l6.below cE l6.lt;have rj:=rA hS cE;have e5:=an.trans' (dC cE (λg D=>hj.out g (by omega)));have qj:wr.heap.size+3<=bc:=(by omega);have og:wr.heap.size<=bp.heap.size:=(by omega);obtain⟨c8,eX⟩: ∃bP:Nat->Prop,bP=λa=>a=bc\/bp.heap.size<=a:=⟨_,rfl⟩
       have sp: ∀g,g<bc-> ¬c8 g:=λg k h=>by
        rw [eX]at h;rcases h with h|h<;>omega
       have so: ∀g,bp.heap.size<=g->c8 g:=λg D=>by rw [eX];exact .inr D
       have sn:c8 bc:=(by rw [eX];exact .inl rfl);have sS:aa c8 bp bp:=aa.refl _ _;have sq: ∀g,c8 g->wr.heap.size<=g:=λg h=>by
        rw [eX]at h;rcases h with h|h
        ·omega
        ·have:=og;omega
       have p4: ∀bG,bp.heap[bG]? =some (.deferred (some []))-> ¬c8 bG:=λbG x y=>by
        rw [eX]at y;rcases y with y|y
        ·rw [y,gh]at x;unfold Blk at hM;rw [hM]at x;cases x
        ·have:=(Array.getElem?_eq_some_iff.1 x).1;omega
       have oi:Below wr.heap.size wr bp:=e5.toBelow (λg D=>by
        rcases Nat.lt_or_ge g (wr.heap.size+3)with h|h
        ·by_cases e:g=al
         ·have:=a3.out;omega
         ·exact absurd D (bY.out g h e)
        ·omega) iF.out iF.out.size
       have qn: ∀g:Nat,g<p->IntKind.i64.wrap ((c:Int)+1+(g:Int))=(c:Int)+1+(g:Int):=λg D=>by rw [IntKind.wrap_i64];omega
       clear og eX p6 hS an gB hP ma l6 h3 cE hM;obtain⟨eB,vu,vt,vx,tz,m8,n5,ky,nE,he,t2,vo,nC,t0⟩:=dh sp so sn sq p4 oi sS qT ru ed q8 sa rs q6;obtain⟨ue,kS,ey,nm,tS,hc⟩:=aM rj e5 qj o3 qn gm;clear sp so sn sq p4 oi sS qT ru ed q8 sa rs q6 rj e5 qj o3 qn gm
       go_wp2_with fail
       rw [<-gd,<-gh];clear gd gh
       go_loopw [101] (λec s8=> ∃g:Nat,g<=p/\ec= .int .i64 (g:Int)/\aa c8 bp s8/\s8.ownsRow be 3 1 (.slice (some ⟨bc,0,none⟩) p p) p ((dN (0:Int) (gU m c f g) p).map (Value.int .i64))) (λec _=>p - (intOf ec).toNat)
       case atStart=>exact⟨0,Zg _,rfl,n5.out,nE.out⟩
       case round=>
        clear n5 nE cv;obtain⟨g,D,rfl,ba,gE⟩:=hrel;by_cases hI:g<p
        ·have wp:(g:Int)<(p:Int):=(by omega);have wI:=ey.out;have mb:=t2.out.touch ba (eB.out _ (by have:=W.out;omega));have ck:=he.out.touch ba (eB.out _ (by have:=nm.out;omega));have mx:=vo.out.touch ba (λa d=>eB.out a (by have:=W.out;omega));have cI:=(mb.cell 1).trans rfl;have ch:=(ck.cell 1).trans rfl;have q0:=ba.size;have oj:=vw mx (λa d=>by have:=W.out;have:=ky.out;omega) (f:Int) ((c:Int)+1+(g:Int));have lA:=zQ m c f g;rw [show(((c+1+g:Nat)):Int)=(c:Int)+1+(g:Int)from by omega]at lA;generalize dM m (f:Int) ((c:Int)+1+(g:Int))=lm at *;have hG:=mv m c f g;generalize gU m c f g=ms at *;have cK:(dN (0:Int) ms p).length=p:=mF _ (by rw [hG];omega);have At:=tS.out g hI;have ea:=uZ (0:Int) (l:=ms) (m:=p) (by rw [hG];exact hI) lm;rw [hG,<-lA]at ea;have Ao:(0:Int)<=(g:Int):=(by omega);clear hG lA wI;obtain⟨t3,hf,vr,tV,m9,nq,tP,n0,nB⟩:=dQ mb ck mx q0 oj cK ea ba gE;clear mb ck mx q0 oj cK ea ba gE
         go_wp2_with fail
         refine m9.out.mono ?_;rintro wa w7 ⟨rfl,a5⟩;have mg:=ah nB.out a5;obtain⟨xk,cM⟩: ∃mG,((dN (0:Int) ms p).map (Value.int .i64))[g]? =some mG:=⟨_,List.getElem?_eq_getElem (by rw [Zc,nq.out];exact hI)⟩;obtain⟨v7,v8⟩:=ic mg cM;have mm:=nf mg (j:=g) (by rw [Zc,nq.out];exact hI) (.int .i64 lm);rw [<-List.map_set,tP.out]at mm;have sz:=(n0.out.trans' (dC a5 (λc0 cj=>vu.out c0 (Ze tV.out cj)))).setCell (p:=⟨bc,g,none⟩) (λ_=>vt.out) (.int .i64 lm);clear cM mg a5 m9 t3 hf vr cI ch nB n0;obtain⟨uv,vL⟩:=av mm sz;clear mm sz
         go_wp2_with fail
         go_roundw
         case rel=>exact⟨g+1,by omega,by go_num,vL.out,uv.out⟩
         case measure=>simp [intOf];omega
        ·have wp: ¬(g:Int)<(p:Int):=(by omega);obtain rfl:p=g:=(by omega);rw [ve _ (by rw [mv];exact Zd _)]at gE;have f2:=ba.toBelow vx.out m8.out m8.out.size;have ck:=he.out.touch ba (eB.out _ (by have:=nm.out;have:=ey.out;omega));have l7:=t0.out.touch ba (eB.out _ (by have:=ey.out;omega));have gF:=ba.own nC.out (λc0 e h=>by
          have cj:=nC.out.lt c0 e
          simp only [Value.ownBlock,Option.some.injEq]at e
          exact eB.out c0 (by have:=ey.out;omega) h)
         have s4:=hl.out.below du dJ f2;have rk:=ue.out.touch ba tz.out;have s2:=n1.out.trans' (dC f2 (λc0 cj=>kP.out c0 (Ze c9.out cj)));obtain⟨bh,rfl⟩: ∃i,i=wr:=⟨_,rfl⟩;have b5:Below bh.heap.size bh bh.drew:=(Below.refl _ _).drew;have h5:=s4.below du dJ b5;have o2:z<=bh.drew.heap.size:=Ze c9.out (Ze f2.size b5.size);obtain⟨u,gk⟩: ∃i,i=Value.slice (some ⟨wr.heap.size+1,0,none⟩) (c+1) (c+1):=⟨_,rfl⟩;obtain⟨s,gl⟩: ∃i,i=Value.slice (some ⟨bc,0,none⟩) p p:=⟨_,rfl⟩;have r0:aH bh.drew (λa=>a=al) u (eM (n:Int) (trD m f) (lkD (bN G st m) f) (c+1)):=by
          rw [gk];exact(Rd.of_own (ah gF b5)).mono λg D=>by
           simp only [Value.ownBlock,Option.some.injEq]at D;rw [a3.out];exact D.symm
         have r3:RdI bh.drew (λa=>a=bc) s (gU m c f p):=by
          rw [gl];exact(Rd.of_own (ah gE b5)).mono λg D=>by
           simp only [Value.ownBlock,Option.some.injEq]at D;exact D.symm
         have cl:=ck.below b5 ck.lt;have rl:=rA rk b5;have gW:=s2.trans' (dC b5 (λc0 cj=>kP.out c0 (Ze c9.out (Ze f2.size cj))));have f1:=λa e=>hl.out.a.block a e
         have hp:=λa e=>hl.out.g.block a e
         have qs:wr.heap.size+3<=bh.drew.heap.size:=by
          have k:=hb.out;have r:=hc.out;have f9:=ky.out;have ga:=ey.out;have oC:=ba.size;have wb:=b5.size;omega
         have qb:z<=al/\al<bh.drew.heap.size/\(Value.slice Q f R).ownBlock≠some al/\(Value.slice aS f aT).ownBlock≠some al:=by
          have z2:=a3.out;have k:=c9.out;exact⟨by omega,by omega,λe=>by have:=(f1 _ e).2;omega,λe=>by have:=(hp _ e).2;omega⟩
         have qi:z<=bc/\bc<bh.drew.heap.size/\(Value.slice Q f R).ownBlock≠some bc/\(Value.slice aS f aT).ownBlock≠some bc:=by
          have k:=c9.out;have f9:=ey.out;have ga:=ky.out;have oC:=ba.size;have wb:=b5.size;exact⟨by omega,by omega,λe=>by have:=(f1 _ e).2;omega,λe=>by have:=(hp _ e).2;omega⟩
         obtain⟨V,gc⟩: ∃bP:Nat->Prop,bP=λb=>(Value.slice Q f R).ownBlock=some b\/(Value.slice aS f aT).ownBlock=some b:=⟨_,rfl⟩
         have hE: ∀b,V b->z<=b/\b<wr.heap.size:=λb h=>by
          rw [gc]at h;rcases h with h|h
          ·exact f1 b h
          ·exact hp b h
         have hD: ¬V l:=λh=>by have:=hE _ h;have:=t.out;have:=X.out;omega
         have d1: ∀b,V b->es b:=λb h=>kP.out b (hE b h).1
         obtain⟨zn,ot,ld,ou⟩:=h5.a.ex;obtain⟨zo,ov,li,ow⟩:=h5.g.ex;have pa: ∀bG,bh.drew.heap[bG]? =some (.deferred (some []))-> ¬V bG:=λbG x h=>by
          rw [gc]at h;rcases h with h|h
          ·exact pR ld h x
          ·exact pR li h x
         have lB: ∀q,aa V bh.drew q->q.cell? ⟨l,3,none⟩=some (.slice Q f R)/\q.cell? ⟨l,4,none⟩=some (.slice aS f aT)/\q.cell? ⟨wr.heap.size+1+1,0,none⟩=some u:=λq em=>by
          rw [gk];exact⟨em.cell (p:=⟨l,3,none⟩) (cl.cell 3) hD,em.cell (p:=⟨l,4,none⟩) (cl.cell 4) hD,em.cell (p:=⟨wr.heap.size+1+1,0,none⟩) ((l7.below b5 l7.lt).cell 0) (λh=>by have r:=hE (wr.heap.size+1+1) h;omega)⟩
         have o5:=lB _ (aa.refl _ _);have tc: ∀en∈[u],en.oneCell'=true:=(by simp [gk,Value.oneCell']);have te: ∀en∈[s],en.oneCell'=true:=(by simp [gl,Value.oneCell']);have pc: ∀b,(Value.slice Q f R).ownBlock=some b->V b:=λb e=>by rw [gc];exact .inl e
         have pe: ∀b,(Value.slice aS f aT).ownBlock=some b->V b:=λb e=>by rw [gc];exact .inr e
         have oF: ∀a,(Value.slice Q f R).ownBlock=some a->a<bh.drew.heap.size:=λa e=>by have:=(f1 a e).2;omega
         rw [<-gl];have td:=gk;have tg:=gl;clear gk gl gc gF gE l7 ck s4 rk s2 f1 hp hE ba;obtain⟨eE,cd,kF,kK,hg,kE,kT,y3,kt,kv,kl,kk,i0,ew⟩:=dh h5 o2 r0 r3 cl rl gW qs qb qi hD d1 ot ld;obtain⟨j0,j2,ex,ka,kn,bS,ts,oa,k1,kX,k0,kr,ks,nk⟩:=dh ou ov li ow pa lB o5 td tg tc te pc pe oF;clear h5 o2 r0 r3 cl rl gW qs qb qi hD d1 ot ld ou ov li ow pa lB o5 td tg tc te pc pe oF;clear b5 f2
         go_wp2_with fail
         refine pN (S:=λen:World=>en.cell? ⟨l,3,none⟩=some (.slice Q f R)/\en.cell? ⟨l,4,none⟩=some (.slice aS f aT)/\en.cell? ⟨wr.heap.size+1+1,0,none⟩=some u) 11 3 (λxa=>Nat.blt xa 11) (by kernel_rfl) (by kernel_rfl) ?_ (λhHeld=> ?_)
         ·exact ts.out
         refine tkq (i:=0) (oi:= ?_) (v:= ?_) ?_ (by kernel_rfl) ?_ (Or.inl ⟨?_,?_⟩) (by assumption) ?_;rotate_left 2;(focus((try simp only [gT,gs,gz]);try rfl));(first|exact λC cC w h=>(aY.panic h).elim|exact λ_ _ _ h=>h);rfl;(focus(intro wS hwS;(try dsimp only at hwS);go_simp;all_goals with_reducible rfl));try simp only [Act.put,sT,s0,s1]
         refine tkq (i:=1) (oi:= ?_) (v:= ?_) ?_ (by kernel_rfl) ?_ (Or.inl ⟨?_,?_⟩) (by assumption) ?_;rotate_left 2;(focus((try simp only [gT,gs,gz]);try rfl));(first|exact λC cC w h=>(aY.panic h).elim|exact λ_ _ _ h=>h);rfl;(focus(intro wS hwS;(try dsimp only at hwS);go_simp;all_goals with_reducible rfl));try simp only [Act.put,sT,s0,s1]
         refine tkq (i:=2) (oi:= ?_) (v:= ?_) ?_ (by kernel_rfl) ?_ (Or.inl ⟨?_,?_⟩) (by assumption) ?_;rotate_left 2;(focus((try simp only [gT,gs,gz]);try rfl));(first|exact λC cC w h=>(aY.panic h).elim|exact λ_ _ _ h=>h);rfl;(focus(intro wS hwS;(try dsimp only at hwS);go_simp;all_goals with_reducible rfl));try simp only [Act.put,sT,s0,s1]
         refine tkq (i:=5) (oi:= ?_) (v:= ?_) ?_ (by kernel_rfl) ?_ (Or.inl ⟨?_,?_⟩) (by assumption) ?_;rotate_left 2;(focus((try simp only [gT,gs,gz]);try rfl));(first|exact λC cC w h=>(aY.panic h).elim|exact λ_ _ _ h=>h);rfl;(focus(intro wS hwS;(try dsimp only at hwS);go_simp;all_goals with_reducible rfl));try simp only [Act.put,sT,s0,s1]
         refine tkq (i:=6) (oi:= ?_) (v:= ?_) ?_ (by kernel_rfl) ?_ (Or.inl ⟨?_,?_⟩) (by assumption) ?_;rotate_left 2;(focus((try simp only [gT,gs,gz]);try rfl));(first|exact λC cC w h=>(aY.panic h).elim|exact λ_ _ _ h=>h);rfl;(focus(intro wS hwS;(try dsimp only at hwS);go_simp;all_goals with_reducible rfl));try simp only [Act.put,sT,s0,s1]
         refine tkq (i:=7) (oi:= ?_) (v:= ?_) ?_ (by kernel_rfl) ?_ (Or.inl ⟨?_,?_⟩) (by assumption) ?_;rotate_left 2;(focus((try simp only [gT,gs,gz]);try rfl));(first|exact λC cC w h=>(aY.panic h).elim|exact λ_ _ _ h=>h);rfl;(focus(intro wS hwS;(try dsimp only at hwS);go_simp;all_goals with_reducible rfl));try simp only [Act.put,sT,s0,s1]
         generalize bh.drew=j at *;have g5:Below j.heap.size j (j.alloc (.cells #[u] 113)):=(Below.refl _ j).alloc (Zd _) _;have g6:Below j.heap.size j (j.alloc (.cells #[s] 49)):=(Below.refl _ j).alloc (Zd _) _;have m1:aa V j (j.alloc (.cells #[u] 113)):=aa.of_size g5 _;have m2:aa V j (j.alloc (.cells #[s] 49)):=aa.of_size g6 _;have mR:Rd (j.alloc (.cells #[u] 113)) (λi=>i=j.heap.size) (.slice (some ⟨j.heap.size,0,none⟩) 1 1) 1 [u]:=Rd.one' (w:=j) (e:=113) [u] 1 rfl;have er:Rd (j.alloc (.cells #[s] 49)) (λi=>i=j.heap.size) (.slice (some ⟨j.heap.size,0,none⟩) 1 1) 1 [s]:=Rd.one' (w:=j) (e:=49) [s] 1 rfl;have ta:=Ze cd.out g5.size;have tb:=Ze cd.out g6.size;obtain⟨fd,m3,m5,tn,m4,tm,v5,zg⟩:=dA g5 g6 m1 m2 mR er ta tb;clear g5 g6 m1 m2 mR er ta tb;refine bQ (rs:=[3,8]) (by kernel_rfl) (by simp) (by kernel_rfl) ?_;refine ax.cons (o:= ?_) ?_ (λA o=> ?_) ?_;rotate_left 1;(focus((try simp only [gT,gs,gz]);try rfl))
         ·refine step_RA rfl (.tmp 119) rfl u rfl oa.out ?_;refine o.out _ _ ?_ (λhHeld=> ?_)
          ·exact bS.out _ m5.out
          clear o A
          try simp only [Act.put,sT,s0,s1]
          refine bQ (rs:=[4,8]) (by kernel_rfl) (by simp) (by kernel_rfl) ?_;refine ax.cons (o:= ?_) ?_ (λA o=> ?_) ?_;rotate_left 1;(focus((try simp only [gT,gs,gz]);try rfl))
          ·skip
           refine dv _ rfl (.tmp 118) (.tmp 120) _ rfl elemRA z (.slice Q f R) f _ rfl (ah ew.out fd.out) _ _ [u] 1 rfl rfl (m4.out) kX.out (by unfold maxLen;omega) (by omega) (v5.out) ?_;intro bB b2 w1 co ak k;have a2:aa V j w1:=(m5.out).grown ak (λb e _=>kr.out b e);have cc:aa (λb=>(Value.slice Q f R).ownBlock=some b) _ w1:=(aa.refl _ _).grown ak (λb e _=>e);have cU:=cc.own (ah ex.out fd.out) (λa e f3=>eE.out.ne a f3 e);have ap:=Ze cd.out a2.size;refine o.out _ _ ?_ (λhHeld=> ?_)
           ·exact bS.out _ a2
           clear o A
           try simp only [Act.put,sT,s0,s1]
           refine tkq (i:=10) (oi:= ?_) (v:= ?_) ?_ (by kernel_rfl) ?_ (Or.inl ⟨?_,?_⟩) (by assumption) ?_;rotate_left 2;(focus((try simp only [gT,gs,gz]);try rfl));(first|exact λC cC w h=>(aY.panic h).elim|exact λ_ _ _ h=>h);rfl;(focus(intro wS hwS;(try dsimp only at hwS);go_simp;all_goals with_reducible rfl));try simp only [Act.put,sT,s0,s1]
           refine bQ (rs:=[8]) (by kernel_rfl) (by simp) (by kernel_rfl) ?_;refine ax.cons (o:= ?_) ?_ (λA o=> ?_) ?_;rotate_left 1;(focus((try simp only [gT,gs,gz]);try rfl))
           ·refine step_RI rfl (.tmp 124) rfl s rfl k1.out ?_;have g4:Below w1.heap.size w1 (w1.alloc (.cells #[s] 49)):=(Below.refl _ w1).alloc (Zd _) _;have tl:Rd (w1.alloc (.cells #[s] 49)) (λi=>i=w1.heap.size) (.slice (some ⟨w1.heap.size,0,none⟩) 1 1) 1 [s]:=Rd.one' (w:=w1) (e:=49) [s] 1 rfl;have m0:aa V j (w1.alloc (.cells #[s] 49)):=a2.trans' (aa.of_size g4 _);have c6:=Ze ap g4.size;have xl:=ah cU g4;refine o.out _ _ ?_ (λhHeld=> ?_)
            ·exact bS.out _ m0
            clear o A
            try simp only [Act.put,sT,s0,s1]
            refine bQ (rs:=[9]) (by kernel_rfl) (by simp) (by kernel_rfl) ?_;refine ax.cons (o:= ?_) ?_ (λA o=> ?_) ?_;rotate_left 1;(focus((try simp only [gT,gs,gz]);try rfl))
            ·skip
             refine dv _ rfl (.tmp 123) (.tmp 125) _ rfl elemRI z (.slice aS f aT) f _ rfl (xl) _ _ [s] 1 rfl rfl (tl) k0.out (by unfold maxLen;omega) (by omega) (c6) ?_;intro bO b3 w2 cp a1 r;have Z:aa V j w2:=(m0).grown a1 (λb e _=>ks.out b e);refine o.out _ _ ?_ (λhHeld=> ?_)
             ·exact bS.out _ Z
             clear o A
             try simp only [Act.put,sT,s0,s1]
             obtain⟨b8,bT⟩:=Two.push du dJ eE.out cd.out i0.out ew.out j0.out j2.out ex.out ka.out kt.out kv.out kF.out kK.out (fd.out) co ak k (g4) cp a1 r;rw [<-oX,<-oT]at b8;have v:=hg.out.touch Z kl.out;have cS:=kE.out.touch Z kn.out;have b7:=kT.out.trans Z (λb _ e=>kk.out b e);have ox:=v.frozen 3;have oz:=v.frozen 4;have gM:=(v.cell 3).trans rfl;have mo:=(v.cell 4).trans rfl;have cR:=(v.put 3 (.slice bB (f+1) b2)).put 4 (.slice bO (f+1) b3);have bb:aa (λb=>b=l) w2 ((w2.setCell ⟨l,3,none⟩ (.slice bB (f+1) b2)).setCell ⟨l,4,none⟩ (.slice bO (f+1) b3)):=((aa.refl (λb=>b=l) w2).setCell (p:=⟨l,3,none⟩) (λ_=>rfl) _).setCell (p:=⟨l,4,none⟩) (λ_=>rfl) _;have c5:=b8.touch du dJ bb (λa d _ e=>by have:=t.out;have:=X.out;omega);have cT:=cS.touch bb (λbG x e=>by subst e;unfold Blk at v;rw [v]at x;cases x);have c3:=b7.trans bb (λb _ e=>by subst e;exact kM.out);clear co ak k cp a1 r a2 cc cU ap Z v cS b7 b8 bT bb;obtain⟨fz,ft,fx,fs⟩:=aA c5 cT c3 cR;clear c5 cT c3 cR;refine jG 11 (by rfl) (by kernel_rfl) (by kernel_rfl) ?_;simp only [Za,Zb]
             go_wp2_with fail
             refine kJ.mk ⟨_,_,_,_,_,_,_,_,_,_,_,_,_,_,_,_,_,_,_,_,_,_,_,_,_,_,_,_,_,_,_,_,_,_,_,_,_,_,_,_,_,_,_,_,_,_,_,_,_,_,_,_,_,_,_,_,_,_,_,_,_,_,_,_,_,_,⟨f+1,b2,b3,bB,bO,_,_,by omega,by go_num,ft.out,fx.out,fs.out,fz.out⟩,by simp [intOf];omega,rfl⟩
            ·exact ax.nil
           ·exact ax.nil
          ·refine ax.cons (o:= ?_) ?_ (λA o=> ?_) ?_;rotate_left 1;(focus((try simp only [gT,gs,gz]);try rfl))
           ·refine step_RI rfl (.tmp 124) rfl s rfl k1.out ?_;have bE:Below j.heap.size j ((j.alloc (.cells #[u] 113)).alloc (.cells #[s] 49)):=fd.out.alloc fd.out.size _;have e9:aa V j ((j.alloc (.cells #[u] 113)).alloc (.cells #[s] 49)):=aa.of_size bE _;have h7:Rd ((j.alloc (.cells #[u] 113)).alloc (.cells #[s] 49)) (λi=>i=j.heap.size) (.slice (some ⟨j.heap.size,0,none⟩) 1 1) 1 [u]:=Rd.below m4.out ((Below.refl (j.heap.size+1) _).alloc (by simp) _) (λb e=>by subst e;simp);have er:Rd ((j.alloc (.cells #[u] 113)).alloc (.cells #[s] 49)) (λi=>i=(j.alloc (.cells #[u] 113)).heap.size) (.slice (some ⟨(j.alloc (.cells #[u] 113)).heap.size,0,none⟩) 1 1) 1 [s]:=Rd.one' (w:=j.alloc (.cells #[u] 113)) (e:=49) [s] 1 rfl;have bA:=Ze cd.out bE.size;refine o.out _ _ ?_ (λhHeld=> ?_)
            ·exact bS.out _ e9
            clear o A
            try simp only [Act.put,sT,s0,s1]
            refine bQ (rs:=[4]) (by kernel_rfl) (by simp) (by kernel_rfl) ?_;refine ax.cons (o:= ?_) ?_ (λA o=> ?_) ?_;rotate_left 1;(focus((try simp only [gT,gs,gz]);try rfl))
            ·skip
             refine dv _ rfl (.tmp 118) (.tmp 120) _ rfl elemRA z (.slice Q f R) f _ rfl (ah ew.out bE) _ _ [u] 1 rfl rfl (h7) kX.out (by unfold maxLen;omega) (by omega) (bA) ?_;intro bB b2 w1 co ak k;have a2:aa V j w1:=(e9).grown ak (λb e _=>kr.out b e);have cc:aa (λb=>(Value.slice Q f R).ownBlock=some b) _ w1:=(aa.refl _ _).grown ak (λb e _=>e);have cU:=cc.own (ah ex.out bE) (λa e f3=>eE.out.ne a f3 e);have ap:=Ze cd.out a2.size;refine o.out _ _ ?_ (λhHeld=> ?_)
             ·exact bS.out _ a2
             clear o A
             try simp only [Act.put,sT,s0,s1]
             refine tkq (i:=10) (oi:= ?_) (v:= ?_) ?_ (by kernel_rfl) ?_ (Or.inl ⟨?_,?_⟩) (by assumption) ?_;rotate_left 2;(focus((try simp only [gT,gs,gz]);try rfl));(first|exact λC cC w h=>(aY.panic h).elim|exact λ_ _ _ h=>h);rfl;(focus(intro wS hwS;(try dsimp only at hwS);go_simp;all_goals with_reducible rfl));try simp only [Act.put,sT,s0,s1]
             have h8:Rd w1 (λi=>i=(j.alloc (.cells #[u] 113)).heap.size) (.slice (some ⟨(j.alloc (.cells #[u] 113)).heap.size,0,none⟩) 1 1) 1 [s]:=Rd.touch er cc (λa d e=>by have:=nk.out a e;rw [World.size_alloc]at d;omega);refine bQ (rs:=[9]) (by kernel_rfl) (by simp) (by kernel_rfl) ?_;refine ax.cons (o:= ?_) ?_ (λA o=> ?_) ?_;rotate_left 1;(focus((try simp only [gT,gs,gz]);try rfl))
             ·skip
              refine dv _ rfl (.tmp 123) (.tmp 125) _ rfl elemRI z (.slice aS f aT) f _ rfl (cU) _ _ [s] 1 rfl rfl (h8) k0.out (by unfold maxLen;omega) (by omega) (ap) ?_;intro bO b3 w2 cp a1 r;have Z:aa V j w2:=(a2).grown a1 (λb e _=>ks.out b e);refine o.out _ _ ?_ (λhHeld=> ?_)
              ·exact bS.out _ Z
              clear o A
              try simp only [Act.put,sT,s0,s1]
              obtain⟨b8,bT⟩:=Two.push du dJ eE.out cd.out i0.out ew.out j0.out j2.out ex.out ka.out kt.out kv.out kF.out kK.out (bE) co ak k ((Below.refl _ _)) cp a1 r;rw [<-oX,<-oT]at b8;have v:=hg.out.touch Z kl.out;have cS:=kE.out.touch Z kn.out;have b7:=kT.out.trans Z (λb _ e=>kk.out b e);have ox:=v.frozen 3;have oz:=v.frozen 4;have gM:=(v.cell 3).trans rfl;have mo:=(v.cell 4).trans rfl;have cR:=(v.put 3 (.slice bB (f+1) b2)).put 4 (.slice bO (f+1) b3);have bb:aa (λb=>b=l) w2 ((w2.setCell ⟨l,3,none⟩ (.slice bB (f+1) b2)).setCell ⟨l,4,none⟩ (.slice bO (f+1) b3)):=((aa.refl (λb=>b=l) w2).setCell (p:=⟨l,3,none⟩) (λ_=>rfl) _).setCell (p:=⟨l,4,none⟩) (λ_=>rfl) _;have c5:=b8.touch du dJ bb (λa d _ e=>by have:=t.out;have:=X.out;omega);have cT:=cS.touch bb (λbG x e=>by subst e;unfold Blk at v;rw [v]at x;cases x);have c3:=b7.trans bb (λb _ e=>by subst e;exact kM.out);clear co ak k cp a1 r a2 cc cU ap Z v cS b7 b8 bT bb;obtain⟨fz,ft,fx,fs⟩:=aA c5 cT c3 cR;clear c5 cT c3 cR;refine jG 11 (by rfl) (by kernel_rfl) (by kernel_rfl) ?_;simp only [Za,Zb]
              go_wp2_with fail
              refine kJ.mk ⟨_,_,_,_,_,_,_,_,_,_,_,_,_,_,_,_,_,_,_,_,_,_,_,_,_,_,_,_,_,_,_,_,_,_,_,_,_,_,_,_,_,_,_,_,_,_,_,_,_,_,_,_,_,_,_,_,_,_,_,_,_,_,_,_,_,_,⟨f+1,b2,b3,bB,bO,_,_,by omega,by go_num,ft.out,fx.out,fs.out,fz.out⟩,by simp [intOf];omega,rfl⟩
             ·exact ax.nil
            ·exact ax.nil
           ·exact ax.nil
         ·refine ax.cons (o:= ?_) ?_ (λA o=> ?_) ?_;rotate_left 1;(focus((try simp only [gT,gs,gz]);try rfl))
          ·refine step_RI rfl (.tmp 124) rfl s rfl k1.out ?_;refine o.out _ _ ?_ (λhHeld=> ?_)
           ·exact bS.out _ tn.out
           clear o A
           try simp only [Act.put,sT,s0,s1]
           refine bQ (rs:=[3]) (by kernel_rfl) (by simp) (by kernel_rfl) ?_;refine ax.cons (o:= ?_) ?_ (λA o=> ?_) ?_;rotate_left 1;(focus((try simp only [gT,gs,gz]);try rfl))
           ·refine step_RA rfl (.tmp 119) rfl u rfl oa.out ?_;have bE:Below j.heap.size j ((j.alloc (.cells #[s] 49)).alloc (.cells #[u] 113)):=m3.out.alloc m3.out.size _;have e9:aa V j ((j.alloc (.cells #[s] 49)).alloc (.cells #[u] 113)):=aa.of_size bE _;have h7:Rd ((j.alloc (.cells #[s] 49)).alloc (.cells #[u] 113)) (λi=>i=(j.alloc (.cells #[s] 49)).heap.size) (.slice (some ⟨(j.alloc (.cells #[s] 49)).heap.size,0,none⟩) 1 1) 1 [u]:=Rd.one' (w:=j.alloc (.cells #[s] 49)) (e:=113) [u] 1 rfl;have er:Rd ((j.alloc (.cells #[s] 49)).alloc (.cells #[u] 113)) (λi=>i=j.heap.size) (.slice (some ⟨j.heap.size,0,none⟩) 1 1) 1 [s]:=Rd.below tm.out ((Below.refl (j.heap.size+1) _).alloc (by simp) _) (λb e=>by subst e;simp);have bA:=Ze cd.out bE.size;refine o.out _ _ ?_ (λhHeld=> ?_)
            ·exact bS.out _ e9
            clear o A
            try simp only [Act.put,sT,s0,s1]
            refine bQ (rs:=[4]) (by kernel_rfl) (by simp) (by kernel_rfl) ?_;refine ax.cons (o:= ?_) ?_ (λA o=> ?_) ?_;rotate_left 1;(focus((try simp only [gT,gs,gz]);try rfl))
            ·skip
             refine dv _ rfl (.tmp 118) (.tmp 120) _ rfl elemRA z (.slice Q f R) f _ rfl (ah ew.out bE) _ _ [u] 1 rfl rfl (h7) kX.out (by unfold maxLen;omega) (by omega) (bA) ?_;intro bB b2 w1 co ak k;have a2:aa V j w1:=(e9).grown ak (λb e _=>kr.out b e);have cc:aa (λb=>(Value.slice Q f R).ownBlock=some b) _ w1:=(aa.refl _ _).grown ak (λb e _=>e);have cU:=cc.own (ah ex.out bE) (λa e f3=>eE.out.ne a f3 e);have ap:=Ze cd.out a2.size;refine o.out _ _ ?_ (λhHeld=> ?_)
             ·exact bS.out _ a2
             clear o A
             try simp only [Act.put,sT,s0,s1]
             refine tkq (i:=10) (oi:= ?_) (v:= ?_) ?_ (by kernel_rfl) ?_ (Or.inl ⟨?_,?_⟩) (by assumption) ?_;rotate_left 2;(focus((try simp only [gT,gs,gz]);try rfl));(first|exact λC cC w h=>(aY.panic h).elim|exact λ_ _ _ h=>h);rfl;(focus(intro wS hwS;(try dsimp only at hwS);go_simp;all_goals with_reducible rfl));try simp only [Act.put,sT,s0,s1]
             have h8:Rd w1 (λi=>i=j.heap.size) (.slice (some ⟨j.heap.size,0,none⟩) 1 1) 1 [s]:=Rd.touch er cc (λa d e=>by have:=nk.out a e;omega);refine bQ (rs:=[9]) (by kernel_rfl) (by simp) (by kernel_rfl) ?_;refine ax.cons (o:= ?_) ?_ (λA o=> ?_) ?_;rotate_left 1;(focus((try simp only [gT,gs,gz]);try rfl))
             ·skip
              refine dv _ rfl (.tmp 123) (.tmp 125) _ rfl elemRI z (.slice aS f aT) f _ rfl (cU) _ _ [s] 1 rfl rfl (h8) k0.out (by unfold maxLen;omega) (by omega) (ap) ?_;intro bO b3 w2 cp a1 r;have Z:aa V j w2:=(a2).grown a1 (λb e _=>ks.out b e);refine o.out _ _ ?_ (λhHeld=> ?_)
              ·exact bS.out _ Z
              clear o A
              try simp only [Act.put,sT,s0,s1]
              obtain⟨b8,bT⟩:=Two.push du dJ eE.out cd.out i0.out ew.out j0.out j2.out ex.out ka.out kt.out kv.out kF.out kK.out (bE) co ak k ((Below.refl _ _)) cp a1 r;rw [<-oX,<-oT]at b8;have v:=hg.out.touch Z kl.out;have cS:=kE.out.touch Z kn.out;have b7:=kT.out.trans Z (λb _ e=>kk.out b e);have ox:=v.frozen 3;have oz:=v.frozen 4;have gM:=(v.cell 3).trans rfl;have mo:=(v.cell 4).trans rfl;have cR:=(v.put 3 (.slice bB (f+1) b2)).put 4 (.slice bO (f+1) b3);have bb:aa (λb=>b=l) w2 ((w2.setCell ⟨l,3,none⟩ (.slice bB (f+1) b2)).setCell ⟨l,4,none⟩ (.slice bO (f+1) b3)):=((aa.refl (λb=>b=l) w2).setCell (p:=⟨l,3,none⟩) (λ_=>rfl) _).setCell (p:=⟨l,4,none⟩) (λ_=>rfl) _;have c5:=b8.touch du dJ bb (λa d _ e=>by have:=t.out;have:=X.out;omega);have cT:=cS.touch bb (λbG x e=>by subst e;unfold Blk at v;rw [v]at x;cases x);have c3:=b7.trans bb (λb _ e=>by subst e;exact kM.out);clear co ak k cp a1 r a2 cc cU ap Z v cS b7 b8 bT bb;obtain⟨fz,ft,fx,fs⟩:=aA c5 cT c3 cR;clear c5 cT c3 cR;refine jG 11 (by rfl) (by kernel_rfl) (by kernel_rfl) ?_;simp only [Za,Zb]
              go_wp2_with fail
              refine kJ.mk ⟨_,_,_,_,_,_,_,_,_,_,_,_,_,_,_,_,_,_,_,_,_,_,_,_,_,_,_,_,_,_,_,_,_,_,_,_,_,_,_,_,_,_,_,_,_,_,_,_,_,_,_,_,_,_,_,_,_,_,_,_,_,_,_,_,_,_,⟨f+1,b2,b3,bB,bO,_,_,by omega,by go_num,ft.out,fx.out,fs.out,fz.out⟩,by simp [intOf];omega,rfl⟩
             ·exact ax.nil
            ·exact ax.nil
           ·exact ax.nil
          ·exact ax.nil
     ·have lE: ¬(f:Int)<(S:Int):=(by omega);obtain rfl:f=S:=(by omega);have bs:Blk wr (w.heap.size+1) 35 #[.slice none 0 0,.int .i64 0,.int .i64 0,.slice none 0 0,.slice none 0 0]:=t4.out.touch bz (cs.out _ (by have:=t.out;have:=B.out;have:=X.out;omega) (by have:=B.out;omega));have mt:=dn.out.touch uu bz (λa e=>cs.out a (by have:=dn.out.block a e;have:=kc.out;omega) (by have:=dn.out.block a e;have:=t.out;omega)) (λa d z8=>cs.out a (by have:=kc.out;omega) (by
       rcases d with d|d
       ·have:=cr.out a d;have:=B.out;omega
       ·have:=t.out;omega))
      obtain⟨c7,cw⟩: ∃c7:Nat->Prop,c7=λa=>(F a\/U<=a)/\a<wr.heap.size:=⟨_,rfl⟩
      have h1:=RM.rules (F:=c7) mt (λa k r=>by rw [cw];exact⟨.inr k,r⟩) (λa k r=>by rw [cw];exact⟨k,r⟩);have r1:=RM.rw (F:=c7) du c4.a (λa k r=>by rw [cw];exact⟨.inr (Ze X.out k),r⟩) (λa k r=>by rw [cw];exact⟨.inr (Ze X.out (c4.lA a k).1),r⟩);have r4:=RM.rw (F:=c7) dJ c4.g (λa k r=>by rw [cw];exact⟨.inr (Ze X.out k),r⟩) (λa k r=>by rw [cw];exact⟨.inr (Ze X.out (c4.lG a k).1),r⟩);have lx:=dd.out.ok.1;have w64:=Et (D:=m) (LL:=bN G st m) lx;have hw: ∀a,c7 a-> ¬a=w.heap.size+1:=λa d e=>by
       rw [cw]at d;rcases d.1 with h|h
       ·have:=cr.out a h;omega
       ·have:=t.out;have:=B.out;omega
      have pl:=bz.toBelow (λa d=>by
       rcases Nat.lt_or_ge a z with k|k
       ·by_cases e:a=l
        ·have:=B.out;omega
        ·exact absurd d (cs.out a k e)
       ·have:=B.out;have:=t.out;have:=X.out;omega) m7.out m7.out.size
      have hX:=(N.cell 0).trans rfl;have hY:=(N.cell 1).trans rfl;have rv:=(N.cell 2).trans rfl;have gM:=(N.cell 3).trans rfl;have mo:=(N.cell 4).trans rfl;have d0:=(bs.cell 0).trans rfl;have a6:=(bs.cell 1).trans rfl;have a7:=(bs.cell 2).trans rfl;have la:=(bs.cell 3).trans rfl;have lb:=(bs.cell 4).trans rfl;have be:=bs.frozen 0;have ap:=bs.frozen 1;have bA:=bs.frozen 2;have c6:=bs.frozen 3;have mL:=bs.frozen 4;have p1:=hv;clear b4 cP h4 c1 hv gg hi;obtain⟨ny,n1,bW,hl,nx,zb,tr,vn,vc,vg,yi,n6,tq,no⟩:=dh mk bz N c4 bs mt cw h1 r1 r4 lx w64 hw pl;have yj:=ab p1;clear mk bz N c4 bs mt cw h1 r1 r4 lx w64 hw pl p1
      go_wp2_with fail
      have M:=((((nx.out.put 0 (.slice b9 E C)).put 1 (.int .i64 (c:Int))).put 2 (.int .i64 (p:Int))).put 3 (.slice Q f R)).put 4 (.slice aS f aT);have c2:=cZ wr (w.heap.size+1) (.slice b9 E C) (.int .i64 (c:Int)) (.int .i64 (p:Int)) (.slice Q f R) (.slice aS f aT);have hU:=ny.out.touch c2 (λbG x e=>by
       subst e
       have:=nx.out
       unfold Blk at this
       rw [this]at x;cases x)
      refine aY.of z hU λmA Y eZ=> ?_
      have f4:=Y _ _ ((M.cell 0).trans rfl);have dO:=Y _ _ ((M.cell 1).trans rfl);have cv:=Y _ _ ((M.cell 2).trans rfl);have dS:=Y _ _ ((M.cell 3).trans rfl);have f5:=Y _ _ ((M.cell 4).trans rfl);refine bodyPost_ret (v:= .tuple #[TV (.slice b9 E C) c p (.slice Q f R) (.slice aS f aT),.int .i64 0]) (by simp [results,results19,go_sem,f4,dO,cv,dS,f5]) rfl ?_;have b0:=c2.toBelow (λb e=>by omega) no.out no.out.size;have a5:=b0.trans (eZ.mono (by have:=t.out;have:=B.out;have:=X.out;omega));refine⟨a5,0,m,dd.out,.inr ⟨rfl,tx.out,_,_,_,by rw [fh.out,kf.out],?_⟩⟩;have wA:wr.heap.size<=mA.heap.size:=Ze c2.size eZ.size;refine rL (F:=c7) (t:=fS G st m (bN G st m)) vn.out ?_ ?_ c2 tq.out Y (λa d=> ?_) (λa d=>d.2) n6.out.1 n6.out.2
      ·have:=vc.out;unfold fS;simp only;rw [fg.out,fh.out,<-g9.out];exact this
      ·have:=vg.out;unfold fS;simp only;rw [fh.out,kf.out,<-g9.out];exact this
      ·rw [tr.out]at d;refine⟨?_,Zf d.2 wA⟩;rcases d.1 with h|h
       ·exact .inl h
       ·exact .inr (by have:=t.out;have:=B.out;omega)
 ·have Ab:(eG !=0)=true:=by simpa using hF
  obtain⟨d0,a6,a7,la,lb⟩:bd.cell? ⟨w.heap.size+1,0,none⟩=some (.slice none 0 0)/\bd.cell? ⟨w.heap.size+1,1,none⟩=some (.int .i64 0)/\bd.cell? ⟨w.heap.size+1,2,none⟩=some (.int .i64 0)/\bd.cell? ⟨w.heap.size+1,3,none⟩=some (.slice none 0 0)/\bd.cell? ⟨w.heap.size+1,4,none⟩=some (.slice none 0 0):=⟨(ai.cell 0).trans rfl,(ai.cell 1).trans rfl,(ai.cell 2).trans rfl,(ai.cell 3).trans rfl,(ai.cell 4).trans rfl⟩;have be:=ai.frozen 0;have ap:=ai.frozen 1;have bA:=ai.frozen 2;have c6:=ai.frozen 3;have mL:=ai.frozen 4;clear l0 br l4 l5;obtain⟨kb,fi,ev,dd,ty⟩:=aX f6 ai hn gf hF;clear f6 ai hn gf hF;rw [cN]at d0 a6 a7 la lb be ap bA c6 mL
  go_wp2_with fail
  rw [<-cN];refine aY.bare λmA Y eZ=> ?_
  have M:=((((fi.out.put 0 (.slice none 0 0)).put 1 (.int .i64 0)).put 2 (.int .i64 0)).put 3 (.slice none 0 0)).put 4 (.slice none 0 0);have c2:=cZ bd (w.heap.size+1) (.slice none 0 0) (.int .i64 0) (.int .i64 0) (.slice none 0 0) (.slice none 0 0);have f4:=Y _ _ ((M.cell 0).trans rfl);have dO:=Y _ _ ((M.cell 1).trans rfl);have cv:=Y _ _ ((M.cell 2).trans rfl);have dS:=Y _ _ ((M.cell 3).trans rfl);have f5:=Y _ _ ((M.cell 4).trans rfl);refine bodyPost_ret (v:= .tuple #[TV (.slice none 0 0) 0 0 (.slice none 0 0) (.slice none 0 0),.int .i64 eG]) (by simp [results,results19,go_sem,f4,dO,cv,dS,f5]) rfl ?_;have cG:=c2.toBelow (λb e=>by omega) ev.out ev.out.size;exact⟨cG.trans (eZ.mono cG.size),eG,m,dd.out,.inl ⟨eG,rfl,.inl ⟨ty.out,rfl⟩⟩⟩
end Go.Proofs.YthlbjgabhpdbfaaGreat

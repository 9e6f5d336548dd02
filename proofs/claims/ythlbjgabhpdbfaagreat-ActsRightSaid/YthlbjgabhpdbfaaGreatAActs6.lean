/- Tables: a grammar's table. -/
import Derived.Test.YthlbjgabhpdbfaaGreatAActs4
import Derived.Test.YthlbjgabhpdbfaaGreatATab2
import Derived.Test.YthlbjgabhpdbfaaGreatAHq
namespace Go.Proofs.YthlbjgabhpdbfaaGreat
set_option linter.unusedVariables false
set_option linter.unusedSimpArgs false
open Go.RowKit Go.Shelf
attribute [local irreducible] wpStill wpOne wpPh
attribute [local go_sem] Oper.semAt_some
def rulesU (G:GramD) (st:Int) (k:Nat):List (Int×List Int):=(List.range k).map fun j=>(ruleOf G st ((j:Nat):Int)).1
theorem rulesU_next (G:GramD) (st:Int) (k:Nat):rulesU G st (k+1)=rulesU G st k++[(ruleOf G st (k:Int)).1]:=by unfold rulesU;rw [List.range_succ,List.map_append];rfl
theorem rulesU_len (G:GramD) (st:Int) (k:Nat):(rulesU G st k).length=k:=by unfold rulesU;simp
theorem rulesU_all (G:GramD) (st:Int):rulesU G st (G.rules.length+1)=G.rules++[(0,[st])]:=by
 rw [rulesU_next]
 have e1:(ruleOf G st (G.rules.length:Int)).1=(0,[st]):=by unfold ruleOf;rw [if_neg (by omega),if_pos rfl]
 rw [e1]
 congr 1
 apply List.ext_getElem?
 intro i
 by_cases hi:i<G.rules.length
 ·unfold rulesU
  rw [List.getElem?_map,List.getElem?_range hi]
  obtain⟨r,hr⟩: ∃r,G.rules[i]? =some r:=⟨_,List.getElem?_eq_getElem hi⟩
  rw [hr,Option.map_some,ruleOf_nat hr]
 ·rw [List.getElem?_eq_none (by rw [rulesU_len];omega),List.getElem?_eq_none (by omega)]
def ActsPost (w:World) (F:Nat->Prop) (G:GramD) (st:Int) (e:Ending) (w':World):Prop:=Below w.heap.size w w'/\ ∃ev D,AutoIs G st (checkOf G st) ev D/\
 ((∃ev':Int,e= .returned (.tuple #[TV (.slice none 0 0) 0 0 (.slice none 0 0) (.slice none 0 0),.int .i64 ev'])/\((ev≠0/\ev'=ev)\/(ev=0/\clsOf G st ev D≠[]/\ev'=12)))\/
  (ev=0/\clsOf G st ev D=[]/\ ∃vr va vg,e= .returned (.tuple #[TV vr G.terms.length G.nons.length va vg,.int .i64 0])/\IsTab w' (fun b=>(F b\/w.heap.size<=b)/\b<w'.heap.size) vr va vg (tabD G st D (looksD G st D))))
theorem touch_five (W:World) (z:Nat) (u v x y q:Value):Touch (fun k=>k=z) W (((((W.setCell ⟨z,0,none⟩ u).setCell ⟨z,1,none⟩ v).setCell ⟨z,2,none⟩ x).setCell ⟨z,3,none⟩ y).setCell ⟨z,4,none⟩ q):=
 Touch.setCell (Touch.setCell (touch_three W z u v x) (p:=⟨z,3,none⟩) (fun _=>rfl) y) (p:=⟨z,4,none⟩) (fun _=>rfl) q
theorem mk_below {lo:Nat} {ds:List Deferred} {w w':World} (h:Mk lo ds w) (b:Below w.heap.size w w'):Mk lo ds w':=by
 obtain⟨Ds,h1,h2,h3⟩:=h
 exact⟨Ds,h1,h2,fun D hD=>⟨(h3 D hD).1,(b.block D (Array.getElem?_eq_some_iff.1 (h3 D hD).2).1).trans (h3 D hD).2⟩⟩
theorem markPost.panic {P:Program} {fn:Func} {R:Ending->World->Prop} {c:List PanicEntry} {a:Act} {w:World} (h:markPost P fn R (.panic c) a w):False:=by
 unfold markPost at h
 rcases h.1 with e|e<;>cases e
theorem own_deferred {w:World} {base e size n b:Nat} {v:Value} {xs:List Value} {x:Option (List Deferred)} (h:w.ownsRow base e size v n xs) (hb:v.ownBlock=some b) (hd:w.heap[b]? =some (.deferred x)):False:=by
 rcases h.2 with⟨rfl,h0⟩|⟨g,cap,cur,rfl,-,hg,-⟩
 ·simp [Value.ownBlock]at hb
 ·simp only [Value.ownBlock,Option.some.injEq]at hb
  subst hb
  rw [hg]at hd
  cases hd
theorem Tryz.infoRA:(Tryz.prog.info? 113).map (fun i=>(i.zero,i.size,i.bytes))=some (some (.slice none 0 0),1,24):=by kernel_rfl
theorem Tryz.elemRA:Elem Tryz.prog 32 113 (.slice none 0 0) 1 24:=⟨Tryz.underlying32,Tryz.infoRA,rfl,by decide⟩
theorem Tryz.infoRI:(Tryz.prog.info? 49).map (fun i=>(i.zero,i.size,i.bytes))=some (some (.slice none 0 0),1,24):=by kernel_rfl
theorem Tryz.elemRI:Elem Tryz.prog 33 49 (.slice none 0 0) 1 24:=⟨Tryz.underlying33,Tryz.infoRI,rfl,by decide⟩
theorem rmCells_nil {X:Type}: ∀{L:List X} {Z:List Value},Z.length=L.length->rmCells (fun _:X=>[]) L Z=Z
 |[],[],_=>rfl
 |[],_::_,h=>by simp at h
 |_::_,[],h=>by simp at h
 |x::L,z::Z,h=>by
  have ih:=rmCells_nil (L:=L) (Z:=Z) (by simpa using h)
  unfold rmCells at ih⊢
  rw [List.zip_cons_cons,List.flatMap_cons,ih];rfl
theorem RM.rw {X:Type} {e:TypeId} {E:World->(Nat->Prop)->Value->X->Prop} (hE:Hands E) {lo F:Nat->Prop} {base n c:Nat} {w:World} {A:Option Addr} {L:List X} (h:RM e 1 (fun _=>[]) E lo base w A n c L) (hF: ∀b,base<=b->b<w.heap.size->F b) (hlo: ∀b,lo b->b<w.heap.size->F b):RdRw (fun z x=>E w F z x) w F (.slice A n c) L:=by
 obtain⟨Z,h1,h2,h3⟩:=h.ex
 have:=Rd.of_own h2
 rw [rmCells_nil h1]at this
 exact⟨Z,h1,this.mono fun b hb=>hF b (h2.lt b hb).1 (h2.lt b hb).2,fun j z x hz hx=>hE.mono (h3 j z x hz hx) fun b hb=>hlo b hb.1 hb.2.1⟩
theorem RM.rules {e:TypeId} {lo F:Nat->Prop} {base n c:Nat} {w:World} {A:Option Addr} {L:List (Int×List Int)} (h:RM e 2 (fun r:Int×List Int=>[.int .i64 r.1]) (fun w F z r=>RdI w F z r.2) lo base w A n c L) (hF: ∀b,base<=b->b<w.heap.size->F b) (hlo: ∀b,lo b->b<w.heap.size->F b):RdL w F 2 (ERule w F) (.slice A n c) L:=by
 obtain⟨Z,h1,h2,h3⟩:=h.ex
 obtain rfl:=h.hn
 obtain⟨A',n',c',hv,hc,hm,hl,hr⟩:=Rd.of_own h2
 injection hv with e1 e2 e3
 subst e1 e2 e3
 refine⟨A,c,rfl,hc,hm,fun hn=> ?_⟩
 obtain⟨b,off,hA,hb,hcell⟩:=hr hn
 refine⟨b,off,hA,hF b (h2.lt b hb).1 (h2.lt b hb).2,fun i x hx=> ?_⟩
 obtain⟨z,hz⟩: ∃z,Z[i]? =some z:=⟨_,List.getElem?_eq_getElem (by have:=(List.getElem?_eq_some_iff.1 hx).1;omega)⟩
 have hzz:(List.zip L Z)[i]? =some (x,z):=by rw [List.getElem?_zip_eq_some];exact⟨hx,hz⟩
 refine⟨[.int .i64 x.1,z],rfl,⟨z,rfl,Rd.mono (h3 i z x hz hx) fun b hb=>hlo b hb.1 hb.2.1⟩,fun j u hu=> ?_⟩
 have hj:j<2:=by have:=(List.getElem?_eq_some_iff.1 hu).1;simpa using this
 have g:=flat_get (k:=2) (f:=fun p:(Int×List Int)×Value=>[.int .i64 p.1.1]++[p.2]) (fun _=>rfl) hzz hj
 have:=hcell (i * 2+j) u (by unfold rmCells;rw [g];exact hu)
 rwa [<-Nat.add_assoc]at this
theorem RdL.cw {X:Type} {w w':World} {F F':Nat->Prop} {k:Nat} {E E':List Value->X->Prop} {v:Value} {xs:List X} (h:RdL w F k E v xs) (hc:CW w w') (hF: ∀b,F b->F' b) (hE: ∀cs x,E cs x->E' cs x):RdL w' F' k E' v xs:=by
 obtain⟨A,c,hv,h1,h2,hr⟩:=h
 refine⟨A,c,hv,h1,h2,fun hn=> ?_⟩
 obtain⟨b,off,hA,hb,hcell⟩:=hr hn
 refine⟨b,off,hA,hF b hb,fun i x hx=> ?_⟩
 obtain⟨cs,e1,e2,e3⟩:=hcell i x hx
 exact⟨cs,e1,hE cs x e2,fun j u hu=>hc _ _ (e3 j u hu)⟩
theorem tab_cw {w W w':World} {F F' S:Nat->Prop} {vr va vg:Value} {t:TabD} (hr:RdL w F 2 (ERule w F) vr t.rules) (ha:RdAs w F va t.acts) (hg:RdIs w F vg t.goto) (tt:Touch S w W) (hS: ∀b,F b-> ¬S b) (k:CW W w') (hF: ∀b,F b->F' b) (hl: ∀b,F' b->b<w'.heap.size)
  (tn:W64 t.terms/\W64 t.nons) (wr: ∀r∈t.rules,W64 r.1):IsTab w' F' vr va vg t:=by
 refine⟨(hr.touch tt hS (E':=ERule W F) fun cs x _ e=> ?_).cw k hF fun cs x e=> ?_,RdRw.mono' ha (fun Z r=>((r.touch tt hS).cw k).mono hF) (fun z x r=>((Rd.touch r tt hS).cw k).mono hF),RdRw.mono' hg (fun Z r=>((r.touch tt hS).cw k).mono hF) (fun z x r=>((Rd.touch r tt hS).cw k).mono hF),hl,tn,wr⟩
 ·obtain⟨v,e1,e2⟩:=e
  exact⟨v,e1,Rd.touch e2 tt hS⟩
 ·obtain⟨v,e1,e2⟩:=e
  exact⟨v,e1,(Rd.cw e2 k).mono hF⟩
theorem tab_w64 {G:GramD} {st:Int} {D:Sts0} {LL:List (List Lk)} (hc:checkOf G st=0):(W64 (tabD G st D LL).terms/\W64 (tabD G st D LL).nons)/\ ∀r∈(tabD G st D LL).rules,W64 r.1:=by
 have hK:=KnA.of_check hc
 have h1:=hK.t
 have h2:=hK.n
 unfold W64 tabD
 refine⟨⟨by simp only;omega,by simp only;omega⟩,fun r hr=> ?_⟩
 simp only [List.mem_append,List.mem_singleton]at hr
 rcases hr with hr|rfl
 ·have:=((Kn.of_check hc).k r hr).1
  unfold isNon topOf at this
  simp only [Bool.and_eq_true,decide_eq_true_eq]at this
  omega
 ·simp only;omega
set_option maxRecDepth 100000 in
set_option maxHeartbeats 8000000 in
theorem acts_Of {w:World} {F:Nat->Prop} {vt vn vr:Value} {G:GramD} (h:IsGram w F vt vn vr G) (hF: ∀b,F b->b<w.heap.size) (st:Int):
  Calls Tryz.prog 19 #[GV vt vn vr st] w (ActsPost w F G st):=by
 obtain⟨A1,c1,A2,c2,A3,c3,rfl,rfl,rfl,l1,l2,l3,m1,m2,m3⟩:=h.slices
 obtain⟨w1,hw1⟩: ∃w1,w1=w.alloc (.cells #[.slice A1 G.terms.length c1,.slice A2 G.nons.length c2,.slice A3 G.rules.length c3,.int .i64 st] 25):=⟨_,rfl⟩
 have g1:=GBox.new h st
 have b1:Below w.heap.size w w1:=by rw [hw1];exact(Below.refl _ w).alloc (Nat.le_refl _) _
 rw [<-hw1]at g1
 have hz:w1.heap.size=w.heap.size+1:=by rw [hw1];simp
 obtain⟨w2,hw2⟩: ∃x,x=w1.alloc (.cells #[.slice none 0 0,.int .i64 0,.int .i64 0,.slice none 0 0,.slice none 0 0] 35):=⟨_,rfl⟩
 have b2:Below w1.heap.size w1 w2:=by rw [hw2];exact(Below.refl _ _).alloc (Nat.le_refl _) _
 have k2:Blk w2 w1.heap.size 35 #[.slice none 0 0,.int .i64 0,.int .i64 0,.slice none 0 0,.slice none 0 0]:=by rw [hw2];exact Blk.new _ _ _
 have g2:=g1.below b2
 have b02:=b1.trans (b2.mono b1.size)
 have hz2:w2.heap.size=w.heap.size+2:=by rw [hw2,World.size_alloc,hz]
 rw [hz]at k2
 rw [hw1]at hw2
 have cm:=acts_makes g2.gram g2.gram.lt st
 have cru:=fun wr (g:GBox wr F w.heap.size A1 c1 A2 c2 A3 c3 G.terms.length G.nons.length G.rules.length st G) (i:Int)=>gram_rule2 g.gram st i
 have hrl:=rulesU_all G st
 obtain⟨q0,q1,q2,q3⟩:=g2.cells
 generalize hT:G.terms.length=T at *
 generalize hN:G.nons.length=N at *
 generalize hR:G.rules.length=R at *
 clear h hw1 g1 b1 hz b2
 obtain⟨Xg2,Xb02,Xk2,Xcm,Xcru,XhR,XhT,XhN,Xhz2,Xhrl,XhF⟩:=HqZ11 g2 b02 k2 cm cru hR hT hN hz2 hrl hF;clear g2 b02 k2 cm cru hR hT hN hz2 hrl hF
 refine calls_marks Tryz.func19 rfl ?_
 simp only [Tryz.ntmps19,List.size_toArray,List.length_cons,List.length_nil,Nat.reduceAdd,Nat.reduceSub,Array.replicate_succ,Array.replicate_zero,List.push_toArray,List.append_toArray,List.nil_append,List.cons_append]
 go_wp2_with fail
 rw [<-hw2]
 refine Xcm.out.mono ?_
 rintro e w3 ⟨b3,own,Aa,na,ca,Ab,nb,cb,ev,D,rfl,hai,hrd⟩
 obtain⟨Bm,hBm⟩: ∃x,x=w3.heap.size:=⟨_,rfl⟩
 obtain⟨w3a,hw3⟩: ∃x,x=w3.alloc (.cells #[.int .i64 own,.slice Aa na ca,.slice Ab nb cb] 103):=⟨_,rfl⟩
 have al:Below w3.heap.size w3 w3a:=by rw [hw3];exact(Below.refl _ _).alloc (Nat.le_refl _) _
 have kM:Blk w3a Bm 103 #[.int .i64 own,.slice Aa na ca,.slice Ab nb cb]:=by rw [hw3,hBm];exact Blk.new _ _ _
 have g3:=(Xg2.out.below b3).below al
 have k3:=(Xk2.out.below b3 Xk2.out.lt).below al (Nat.lt_of_lt_of_le Xk2.out.lt b3.size)
 have b03:=(Xb02.out.trans (b3.mono Xb02.out.size)).trans (al.mono (Nat.le_trans Xb02.out.size b3.size))
 have hzm:w.heap.size+2<=Bm:=by rw [hBm,<-Xhz2.out];exact b3.size
 have hz3a:w3a.heap.size=Bm+1:=by rw [hw3,hBm];simp
 have hrd':ev=0->own=(R:Int)/\RdSt w3a (fun b=>w.heap.size+2<=b/\b<Bm) (.slice Aa na ca) D/\RdLks w3a (fun b=>w.heap.size+2<=b/\b<Bm) (.slice Ab nb cb) (looksD G st D):=fun h=>by
  obtain⟨e1,e2,e3⟩:=hrd h
  refine⟨by rw [e1,XhR.out],(e2.below al (fun b hb=>hb.2)).mono fun b hb=> ?_,(e3.below al (fun b hb=>hb.2)).mono fun b hb=> ?_⟩
  ·rw [hBm,<-Xhz2.out];exact hb
  ·rw [hBm,<-Xhz2.out];exact hb
 clear hrd q0 q1 q2 q3 hw2 Xcm Xg2 Xk2 b3 al
 subst hBm
 by_cases hev:ev=0
 ·subst hev
  obtain⟨rfl,rs,rd⟩:=hrd' rfl
  have hS:=SmallD.of hai
  rw [XhT.out]at hS
  have cc:=acts_clashes rs rd (fun b hb=>by omega) (R:Int) hS
  have hcl:clsOf G st 0 D=clsD (R:Int) D (looksD G st D) (T+1) D.length:=by unfold clsOf;rw [if_pos rfl,XhR.out,XhT.out]
  generalize clsD (R:Int) D (looksD G st D) (T+1) D.length=cl at *
  obtain⟨q0,q1,q2,q3⟩:=g3.cells
  obtain⟨d0,d1,d2⟩:w3a.cell? ⟨w3.heap.size,0,none⟩=some (.int .i64 (R:Int))/\w3a.cell? ⟨w3.heap.size,1,none⟩=some (.slice Aa na ca)/\w3a.cell? ⟨w3.heap.size,2,none⟩=some (.slice Ab nb cb):=⟨(kM.cell 0).trans rfl,(kM.cell 1).trans rfl,(kM.cell 2).trans rfl⟩
  rw [hw3]at q0 q1 q2 q3 d0 d1 d2
  clear hrd'
  obtain⟨Xg3,Xk3,Xb03,Xhai,Xhcl,XkM,Xhzm,Xhz3a,Xrs,Xrd,XhS,Xcc⟩:=HqZ12 g3 k3 b03 hai hcl kM hzm hz3a rs rd hS cc;clear g3 k3 b03 hai hcl kM hzm hz3a rs rd hS cc
  go_wp2_with fail
  rw [<-hw3]
  obtain⟨Bm,hBm⟩: ∃x,x=w3.heap.size:=⟨_,rfl⟩
  rw [<-hBm]at XkM Xhzm Xhz3a Xrs Xrd⊢
  refine Xcc.out.mono ?_
  rintro e w4 ⟨b4,Acl,cc4,rfl,-⟩
  have g4:=Xg3.out.below b4
  have k4:=Xk3.out.below b4 Xk3.out.lt
  have kM4:=XkM.out.below b4 XkM.out.lt
  have b04:=Xb03.out.trans (b4.mono Xb03.out.size)
  have rs4:=Xrs.out.below b4 (fun b hb=>by have:=Xhz3a.out;omega)
  have rd4:=Xrd.out.below b4 (fun b hb=>by have:=Xhz3a.out;omega)
  have hz4:Bm+1<=w4.heap.size:=by have:=Xhz3a.out;have:=b4.size;omega
  obtain⟨ncl,hncl⟩: ∃n,n=cl.length:=⟨_,rfl⟩
  rw [<-hncl]
  clear Xcc Xg3 Xk3 XkM Xb03 Xrs Xrd b4 q0 q1 q2 q3 d0 d1 d2 hw3 hBm
  by_cases hc0:0<ncl
  ·have hc0':(0:Int)<(ncl:Int):=by omega
   have hcne:clsOf G st 0 D≠[]:=by rw [Xhcl.out];intro e;rw [e]at hncl;simp at hncl;omega
   obtain⟨d0,d1,d2,d3,d4⟩:w4.cell? ⟨w.heap.size+1,0,none⟩=some (.slice none 0 0)/\w4.cell? ⟨w.heap.size+1,1,none⟩=some (.int .i64 0)/\w4.cell? ⟨w.heap.size+1,2,none⟩=some (.int .i64 0)/\w4.cell? ⟨w.heap.size+1,3,none⟩=some (.slice none 0 0)/\w4.cell? ⟨w.heap.size+1,4,none⟩=some (.slice none 0 0):=⟨(k4.cell 0).trans rfl,(k4.cell 1).trans rfl,(k4.cell 2).trans rfl,(k4.cell 3).trans rfl,(k4.cell 4).trans rfl⟩
   have z0:=k4.frozen 0
   have z1:=k4.frozen 1
   have z2:=k4.frozen 2
   have z3:=k4.frozen 3
   have z4:=k4.frozen 4
   clear hncl
   obtain⟨Xg4,Xk4,Xb04,Xrs4,Xrd4,XkM4,Xhz4,Xhcne⟩:=HqZ8 g4 k4 b04 rs4 rd4 kM4 hz4 hcne;clear g4 k4 b04 rs4 rd4 kM4 hz4 hcne
   go_wp2_with fail
   refine markPost.bare fun w' hcw hbw=> ?_
   have k5:=((((Xk4.out.put 0 (.slice none 0 0)).put 1 (.int .i64 0)).put 2 (.int .i64 0)).put 3 (.slice none 0 0)).put 4 (.slice none 0 0)
   have t5:=touch_five w4 (w.heap.size+1) (.slice none 0 0) (.int .i64 0) (.int .i64 0) (.slice none 0 0) (.slice none 0 0)
   have e0:=hcw _ _ ((k5.cell 0).trans rfl)
   have e1:=hcw _ _ ((k5.cell 1).trans rfl)
   have e2:=hcw _ _ ((k5.cell 2).trans rfl)
   have e3:=hcw _ _ ((k5.cell 3).trans rfl)
   have e4:=hcw _ _ ((k5.cell 4).trans rfl)
   refine bodyPost_ret (v:= .tuple #[TV (.slice none 0 0) 0 0 (.slice none 0 0) (.slice none 0 0),.int .i64 12]) (by simp [results,Tryz.results19,go_sem,e0,e1,e2,e3,e4]) rfl ?_
   have b05:=t5.toBelow (fun k e=>by omega) Xb04.out Xb04.out.size
   exact⟨b05.trans (hbw.mono b05.size),0,D,Xhai.out,.inl ⟨12,rfl,.inr ⟨rfl,Xhcne.out,rfl⟩⟩⟩
  ·obtain rfl:ncl=0:=by omega
   have hcnil:clsOf G st 0 D=[]:=by rw [Xhcl.out];exact List.eq_nil_of_length_eq_zero hncl.symm
   clear hncl
   obtain⟨w5,hw5⟩: ∃x,x=w4.alloc (.cells #[.slice none 0 0,.int .i64 (T:Int),.int .i64 (N:Int),.slice none 0 0,.slice none 0 0] 35):=⟨_,rfl⟩
   have al:Below w4.heap.size w4 w5:=by rw [hw5];exact(Below.refl _ _).alloc (Nat.le_refl _) _
   have kT:Blk w5 w4.heap.size 35 #[.slice none 0 0,.int .i64 (T:Int),.int .i64 (N:Int),.slice none 0 0,.slice none 0 0]:=by rw [hw5];exact Blk.new _ _ _
   have g5:=g4.below al
   have k5:=k4.below al k4.lt
   have kM5:=kM4.below al kM4.lt
   have b05:=b04.trans (al.mono b04.size)
   have rs5:=rs4.below al (fun b hb=>by omega)
   have rd5:=rd4.below al (fun b hb=>by omega)
   have hz5:w5.heap.size=w4.heap.size+1:=by rw [hw5];simp
   obtain⟨p0,p1,p2,p3⟩:=g4.cells
   obtain⟨q0,q1,q2,q3⟩:=g5.cells
   obtain⟨d0,d1,d2⟩:w5.cell? ⟨Bm,0,none⟩=some (.int .i64 (R:Int))/\w5.cell? ⟨Bm,1,none⟩=some (.slice Aa na ca)/\w5.cell? ⟨Bm,2,none⟩=some (.slice Ab nb cb):=⟨(kM5.cell 0).trans rfl,(kM5.cell 1).trans rfl,(kM5.cell 2).trans rfl⟩
   rw [hw5]at q0 q1 q2 q3 d0 d1 d2
   have hR3:R<=300:=by
    have:=(KnA.of_check Xhai.out.ok.1).r
    rw [XhR.out]at this
    exact this
   have hwR:IntKind.i64.wrap ((R:Int)+1)=(R:Int)+1:=by rw [IntKind.wrap_i64];omega
   clear g4 k4 kM4 b04 rs4 rd4 al
   obtain⟨Xg5,Xk5,XkM5,Xb05,Xrs5,Xrd5,XkT,Xhz5,Xhz4,Xhcnil⟩:=HqZ10 g5 k5 kM5 b05 rs5 rd5 kT hz5 hz4 hcnil;clear g5 k5 kM5 b05 rs5 rd5 kT hz5 hz4 hcnil
   go_wp2_with fail
   rw [<-hw5]
   rw [<-hw5]at q0 q1 q2 q3 d0 d1 d2
   obtain⟨Bt,hBt⟩: ∃x,x=w4.heap.size:=⟨_,rfl⟩
   rw [<-hBt]at XkT Xhz5 Xhz4⊢
   clear hw5 hBt p0 p1 p2 p3
   obtain⟨D1,hD1⟩: ∃x,x=w5.heap.size:=⟨_,rfl⟩
   have hBtD:Bt<D1:=by rw [hD1,Xhz5.out];omega
   have hwB:w.heap.size+2<Bt:=by have:=Xhz4.out;have:=Xhzm.out;omega
   obtain⟨S1,hS1⟩: ∃S:Nat->Prop,S=fun b=>b=Bt\/D1<=b:=⟨_,rfl⟩
   have ro0:RM 98 2 (fun r:Int×List Int=>[.int .i64 r.1]) (fun w F z r=>RdI w F z r.2) (fun b=>F b\/D1<=b) D1 w5 none 0 0 (rulesU G st 0):=RM.nil _ _ _
   have tt0:Touch S1 w5 w5:=Touch.refl _ _
   have sB:S1 Bt:=by rw [hS1];exact .inl rfl
   have sD: ∀k,D1<=k->S1 k:=fun k hk=>by rw [hS1];exact .inr hk
   have sF: ∀k,k<D1->k≠Bt-> ¬S1 k:=fun k h1 h2 h=>by
    rw [hS1]at h
    rcases h with h|h<;>omega
   have hmx: ∀k m,(rulesU G st k).length=m->m=k:=fun k m h=>by rw [<-h,rulesU_len]
   clear q0 q1 q2 q3 d0 d1 d2 hS1
   obtain⟨Xro0,Xtt0,XsB,XsD,XsF,XhBtD,XhwB,XhD1⟩:=HqZ8 ro0 tt0 sB sD sF hBtD hwB hD1;clear ro0 tt0 sB sD sF hBtD hwB hD1
   go_loopw [47] (fun iv wr=> ∃(k m c:Nat) (A:Option Addr),k<=R+1/\iv= .int .i64 (k:Int)/\Touch S1 w5 wr/\Blk wr Bt 35 #[.slice A m c,.int .i64 (T:Int),.int .i64 (N:Int),.slice none 0 0,.slice none 0 0]/\RM 98 2 (fun r:Int×List Int=>[.int .i64 r.1]) (fun w F z r=>RdI w F z r.2) (fun b=>F b\/D1<=b) D1 wr A m c (rulesU G st k)) (fun iv _=>R+1 - (intOf iv).toNat)
   case atStart=>exact⟨0,0,0,none,Nat.zero_le _,rfl,Xtt0.out,XkT.out,Xro0.out⟩
   case round=>
    clear Xtt0 XkT Xro0
    obtain⟨k,m,c,A,hk,rfl,tt,kT,ro⟩:=hrel
    have gk:GBox wr F w.heap.size A1 c1 A2 c2 A3 c3 T N R st G:=Xg5.out.touch' tt (fun b hb=>XsF.out b (by have:=XhF.out b hb;have:=XhBtD.out;have:=XhwB.out;omega) (by have:=XhF.out b hb;have:=XhwB.out;omega)) (XsF.out _ (by have:=XhBtD.out;have:=XhwB.out;omega) (by have:=XhwB.out;omega))
    have hDw:D1<=wr.heap.size:=by rw [XhD1.out];exact tt.size
    by_cases hlt:k<R+1
    ·have hlt':(k:Int)<(R:Int)+1:=by omega
     have hmb:m<=300:=by
      have:m=k:=by rw [ro.hn,rulesU_len]
      omega
     have cR:=Xcru.out wr gk (k:Int)
     have hnx:=rulesU_next G st k
     generalize ruleOf G st (k:Int)=rr at *
     obtain⟨⟨rl,rrs⟩,rok⟩:=rr
     simp only at hnx
     obtain⟨q0,q1,q2,q3⟩:=gk.cells
     obtain⟨Xgk,XkT,Xro,Xtt,XcR,Xhnx⟩:=HqZ6 gk kT ro tt cR hnx;clear gk kT ro tt cR hnx
     go_wp2_with fail
     refine XcR.out.mono ?_
     rintro e w6 ⟨Ar,nr,cr,rfl,rdr,b6⟩
     simp only at rdr
     obtain⟨Z,z1,z2,z3⟩:=Xro.out.ex
     have al7:Below w6.heap.size w6 (w6.alloc (.cells #[.int .i64 rl,.slice Ar nr cr] 98)):=(Below.refl _ _).alloc (Nat.le_refl _) _
     have kb7:Blk (w6.alloc (.cells #[.int .i64 rl,.slice Ar nr cr] 98)) w6.heap.size 98 #[.int .i64 rl,.slice Ar nr cr]:=Blk.new _ _ _
     have al8:Below (w6.alloc (.cells #[.int .i64 rl,.slice Ar nr cr] 98)).heap.size (w6.alloc (.cells #[.int .i64 rl,.slice Ar nr cr] 98)) ((w6.alloc (.cells #[.int .i64 rl,.slice Ar nr cr] 98)).alloc (.cells #[.int .i64 rl,.slice Ar nr cr] 98)):=(Below.refl _ _).alloc (Nat.le_refl _) _
     have b7:=b6.trans (al7.mono b6.size)
     have kT7:=XkT.out.below b7 XkT.out.lt
     have kT8:=kT7.alloc (.cells #[.int .i64 rl,.slice Ar nr cr] 98)
     have own8:=own_below' z2 (b7.trans (al8.mono b7.size))
     have rone:Rd ((w6.alloc (.cells #[.int .i64 rl,.slice Ar nr cr] 98)).alloc (.cells #[.int .i64 rl,.slice Ar nr cr] 98)) (fun x=>x=(w6.alloc (.cells #[.int .i64 rl,.slice Ar nr cr] 98)).heap.size) (.slice (some ⟨(w6.alloc (.cells #[.int .i64 rl,.slice Ar nr cr] 98)).heap.size,0,none⟩) 1 1) 2 [.int .i64 rl,.slice Ar nr cr]:=Rd.one' (w:=w6.alloc (.cells #[.int .i64 rl,.slice Ar nr cr] 98)) (e:=98) [.int .i64 rl,.slice Ar nr cr] 2 rfl
     simp only [World.size_alloc]at rone
     have p0:=(kT7.cell 0).trans rfl
     have y0:=(kb7.cell 0).trans rfl
     have y1:=(kb7.cell 1).trans rfl
     have hD8:D1<=((w6.alloc (.cells #[.int .i64 rl,.slice Ar nr cr] 98)).alloc (.cells #[.int .i64 rl,.slice Ar nr cr] 98)).heap.size:=Nat.le_trans hDw (b7.trans (al8.mono b7.size)).size
     have tt7:Touch S1 w5 (w6.alloc (.cells #[.int .i64 rl,.slice Ar nr cr] 98)):=Xtt.out.trans' (below_touch b7 (fun k hk=>XsD.out k (Nat.le_trans hDw hk)))
     clear q0 q1 q2 q3 XcR Xgk XkT Xtt
     obtain⟨Xb6,Xb7,Xal7,Xal8,XkT7,XkT8,Xown8,Xrone,Xz1,Xz2,Xz3,Xrdr,Xtt7⟩:=HqZ13 b6 b7 al7 al8 kT7 kT8 own8 rone z1 z2 z3 rdr tt7;clear b6 b7 al7 al8 kT7 kT8 own8 rone z1 z2 z3 rdr tt7
     go_wp2_with (at_builtin;refine wp_append _ rfl (.tmp 57) (.tmp 59) _ rfl Tryz.elemRule D1 (.slice A m c) m _ rfl Xown8.out _ _ [.int .i64 rl,.slice Ar nr cr] 1 rfl rfl Xrone.out (by simp [Value.oneCell']) (by unfold maxLen;omega) (by omega) hD8 ?_)
     intro A4 c4 w9 own9 g9 ho9
     obtain⟨ro9,bl9,t9⟩:=RM.push (pre:=fun r:Int×List Int=>[Value.int .i64 r.1]) (x:=(rl,rrs)) (z:= .slice Ar nr cr) (lo:=fun b=>F b\/D1<=b) hands_r Xro.out.hn Xz1.out Xz2.out Xz3.out hDw
      (Rd.mono (Rd.below Xrdr.out Xal7.out (fun b hb=>by
       rcases hb with hb|hb
       ·have:=XhF.out b hb;have:=XhwB.out;have:=XhBtD.out;have:=Xb6.out.size;omega
       ·exact hb.2)) (fun b hb=>by
       have h1:=Xal7.out.size
       have h2:=Xb6.out.size
       have h3:=XhwB.out
       have h4:=XhBtD.out
       have hob: ∀q,(Value.slice A m c).ownBlock=some q->D1<=q/\q<wr.heap.size:=fun q e=>Xz2.out.lt q e
       rcases hb with hb|hb
       ·have h5:=XhF.out b hb
        exact⟨.inl hb,by omega,fun e=>by have:=hob b e;omega⟩
       ·exact⟨.inr (by omega),by omega,fun e=>by have:=hob b e;omega⟩)) Xb7.out Xal8.out own9 g9 (by simp only [World.size_alloc];exact ho9)
     rw [<-Xhnx.out]at ro9
     have kT9:Blk w9 Bt 35 #[.slice A m c,.int .i64 (T:Int),.int .i64 (N:Int),.slice none 0 0,.slice none 0 0]:=XkT8.out.touch t9 (fun e=>by have:=Xz2.out.lt _ e;have:=XhBtD.out;omega)
     have p9:=(kT9.cell 0).trans rfl
     have f9:=kT9.frozen 0
     have tt9:Touch S1 w5 w9:=(Xtt7.out.trans' (below_touch Xal8.out (fun k hk=>XsD.out k (Nat.le_trans (Nat.le_trans hDw Xb7.out.size) hk)))).trans t9 (fun k _ e=>XsD.out k (Xz2.out.lt k e).1)
     have kT10:=kT9.put 0 (.slice A4 (m+1) c4)
     have ro10:RM 98 2 (fun r:Int×List Int=>[.int .i64 r.1]) (fun w F z r=>RdI w F z r.2) (fun b=>F b\/D1<=b) D1 (w9.setCell ⟨Bt,0,none⟩ (.slice A4 (m+1) c4)) A4 (m+1) c4 (rulesU G st (k+1)):=ro9.touch hands_r (Touch.setCell (S:=fun b=>b=Bt) (Touch.refl _ w9) (p:=⟨Bt,0,none⟩) (fun _=>rfl) _) (fun b e h=>by have:=ro9.block b e;have:=XhBtD.out;omega) (fun b hb _ h=>by
      subst h
      rcases hb with hb|hb
      ·have:=XhF.out _ hb;have:=XhwB.out;omega
      ·have:=XhBtD.out;omega)
     have tt10:Touch S1 w5 (w9.setCell ⟨Bt,0,none⟩ (.slice A4 (m+1) c4)):=tt9.setCell (p:=⟨Bt,0,none⟩) (fun _=>XsB.out) _
     clear own9 g9 ho9 bl9 t9 tt9 ro9 hD8 p0 y0 y1 Xro Xz1 Xz2 Xz3 Xb6 Xb7 Xal7 Xal8 XkT7 XkT8 Xown8 Xrone Xrdr Xtt7
     obtain⟨XkT10,Xro10,Xtt10,XkT9⟩:=HqZ4 kT10 ro10 tt10 kT9;clear kT10 ro10 tt10 kT9
     go_wp2_with fail
     go_roundw
     case rel=>exact⟨k+1,m+1,c4,A4,by omega,by go_num,Xtt10.out,XkT10.out,Xro10.out⟩
     case measure=>simp [intOf];omega
    ·have hlt': ¬(k:Int)<(R:Int)+1:=by omega
     obtain rfl:k=R+1:=by omega
     rw [Xhrl.out]at ro
     have hm1:m=R+1:=by rw [ro.hn,List.length_append,XhR.out];rfl
     obtain⟨W4,rfl⟩: ∃x,x=wr:=⟨_,rfl⟩
     have kM:Blk W4 Bm 103 #[.int .i64 (R:Int),.slice Aa na ca,.slice Ab nb cb]:=XkM5.out.touch tt (XsF.out _ (by have:=Xhz4.out;have:=XhBtD.out;omega) (by have:=Xhz4.out;omega))
     have kR:Blk W4 (w.heap.size+1) 35 #[.slice none 0 0,.int .i64 0,.int .i64 0,.slice none 0 0,.slice none 0 0]:=Xk5.out.touch tt (XsF.out _ (by have:=XhBtD.out;have:=XhwB.out;omega) (by have:=XhwB.out;omega))
     have rs:=Xrs5.out.touch tt (fun b hb=>XsF.out b (by have:=Xhz4.out;have:=XhBtD.out;omega) (by have:=Xhz4.out;omega))
     have rd:=Xrd5.out.touch tt (fun b hb=>XsF.out b (by have:=Xhz4.out;have:=XhBtD.out;omega) (by have:=Xhz4.out;omega))
     have bW:Below w.heap.size w W4:=tt.toBelow (fun b hb=>by
      rcases Nat.lt_or_ge b D1 with h1|h1
      ·rcases Nat.lt_or_ge b Bt with h2|h2
       ·exact absurd hb (XsF.out b h1 (by omega))
       ·have:=XhwB.out;omega
      ·have:=XhwB.out;have:=XhBtD.out;omega) Xb05.out Xb05.out.size
     obtain⟨hna,hnc,hcm,-⟩:=rs.at_
     obtain⟨hnb,hnbc,hcbm,-⟩:=rd.at_
     rw [looksD_len]at hnb
     unfold maxLen at hcm hcbm
     have hnab:nb=na:=by omega
     subst hnab
     have hn20:=XhS.out.n
     rw [<-hna]at hn20
     obtain⟨d0,d1,d2⟩:W4.cell? ⟨Bm,0,none⟩=some (.int .i64 (R:Int))/\W4.cell? ⟨Bm,1,none⟩=some (.slice Aa nb ca)/\W4.cell? ⟨Bm,2,none⟩=some (.slice Ab nb cb):=⟨(kM.cell 0).trans rfl,(kM.cell 1).trans rfl,(kM.cell 2).trans rfl⟩
     clear hnb
     obtain⟨Xgk,XkT,Xro,Xtt,Xhm1,XkM,XkR,Xrs,Xrd,XbW,Xhna⟩:=HqZ11 gk kT ro tt hm1 kM kR rs rd bW hna;clear gk kT ro tt hm1 kM kR rs rd bW hna;clear XkM5 Xk5 Xrs5 Xrd5 Xb05 Xg5
     go_wp2_with fail
     obtain⟨D2,hD2⟩: ∃x,x=W4.heap.size:=⟨_,rfl⟩
     have hD12:D1<=D2:=by rw [hD2,XhD1.out];exact Xtt.out.size
     obtain⟨S2,hS2⟩: ∃S:Nat->Prop,S=fun b=>b=Bt\/D2<=b:=⟨_,rfl⟩
     have s2B:S2 Bt:=by rw [hS2];exact .inl rfl
     have s2D: ∀k,D2<=k->S2 k:=fun k hk=>by rw [hS2];exact .inr hk
     have s2F: ∀k,k<D2->k≠Bt-> ¬S2 k:=fun k h1 h2 h=>by
      rw [hS2]at h
      rcases h with h|h<;>omega
     have tt2:Touch S2 W4 W4:=Touch.refl _ _
     have two0:Two 113 49 (fun w F (z:Value) (x:List Ac)=>RdIt w F z x) (fun w F (z:Value) (x:List Int)=>RdI w F z x) (fun _=>False) (fun _=>False) D2 W4 none 0 none 0 0 (actsU (R:Int) D (looksD G st D) (T+1) 0) (gotoU D T N 0):=⟨RM.nil _ _ _,RM.nil _ _ _,fun b h=>h.elim,fun b h=>h.elim,fun b h=>by cases h⟩
     have mk0:Mk D2 [] W4:=Mk.nil _ _
     clear d0 d1 d2 hS2
     obtain⟨Xs2B,Xs2D,Xs2F,Xtt2,Xtwo0,Xmk0,XhD12,XhD2⟩:=HqZ8 s2B s2D s2F tt2 two0 mk0 hD12 hD2;clear s2B s2D s2F tt2 two0 mk0 hD12 hD2
     refine loop_of2 (fun uv ds wr=> ∃(i ca' cg':Nat) (Ax Ag:Option Addr) (loA loG:Nat->Prop),i<=nb/\uv= .int .i64 (i:Int)/\Mk D2 ds wr/\Touch S2 W4 wr/\Blk wr Bt 35 #[.slice A m c,.int .i64 (T:Int),.int .i64 (N:Int),.slice Ax i ca',.slice Ag i cg']/\
      Two 113 49 (fun w F (z:Value) (x:List Ac)=>RdIt w F z x) (fun w F (z:Value) (x:List Int)=>RdI w F z x) loA loG D2 wr Ax ca' Ag cg' i (actsU (R:Int) D (looksD G st D) (T+1) i) (gotoU D T N i))
      (fun uv=>nb - (intOf uv).toNat)
      ⟨0,0,0,none,none,fun _=>False,fun _=>False,Nat.zero_le _,rfl,Xmk0.out,Xtt2.out,XkT.out,Xtwo0.out⟩ ?_
     iterate 64 intro _
     intro uv ds wr hrel K hK
     obtain⟨i,ca',cg',Ax,Ag,loA,loG,hi,rfl,mk,tt',kT,two⟩:=hrel
     have gk:GBox wr F w.heap.size A1 c1 A2 c2 A3 c3 T N R st G:=Xgk.out.touch' tt' (fun b hb=>Xs2F.out b (by have:=XhF.out b hb;have:=XhBtD.out;have:=XhwB.out;have:=XhD12.out;omega) (by have:=XhF.out b hb;have:=XhwB.out;omega)) (Xs2F.out _ (by have:=XhBtD.out;have:=XhwB.out;have:=XhD12.out;omega) (by have:=XhwB.out;omega))
     have hBm:Bm<Bt:=by have:=Xhz4.out;omega
     have kMr:Blk wr Bm 103 #[.int .i64 (R:Int),.slice Aa nb ca,.slice Ab nb cb]:=XkM.out.touch tt' (Xs2F.out _ (by have:=XhBtD.out;have:=XhD12.out;omega) (by omega))
     have rsr:=Xrs.out.touch tt' (fun b hb=>Xs2F.out b (by have:=XhBtD.out;have:=XhD12.out;omega) (by omega))
     have rdr:=Xrd.out.touch tt' (fun b hb=>Xs2F.out b (by have:=XhBtD.out;have:=XhD12.out;omega) (by omega))
     have hDw2:D2<=wr.heap.size:=by rw [XhD2.out];exact tt'.size
     by_cases hlt:i<nb
     ·have hlt':(i:Int)<(nb:Int):=by omega
      obtain⟨e,he⟩: ∃e,D[i]? =some e:=⟨_,List.getElem?_eq_getElem (by rw [<-Xhna.out];exact hlt)⟩
      obtain⟨-,-,-,hcell1⟩:=rsr.at_
      obtain⟨b1,o1,rfl,-,hcc1⟩:=hcell1 (by omega)
      obtain⟨-,-,-,hcell2⟩:=rdr.at_
      obtain⟨b2,o2,rfl,hb2,hcc2⟩:=hcell2 (by omega)
      have Xhb2:=hide hb2;clear hb2
      obtain⟨z1,z2,x1,x2,r1,r2⟩:=hcc1 i e he
      obtain⟨Az1,nz1,cz1,rfl,-⟩:=id r1
      obtain⟨Az2,nz2,cz2,rfl,-⟩:=id r2
      have hLi:=looksD_get (G:=G) (st:=st) he
      obtain⟨A4,n4,c4,y1,r3⟩:=hcc2 i _ hLi
      have hpo: ∀t:Int,(possD (R:Int) e.2 (lksD G st D i e) t).length<=842:=fun t=>by
       have:=XhS.out.poss (R:Int) t (i:=i) (by rw [<-Xhna.out];exact hlt)
       rwa [trD_get he,lkD_get hLi]at this
      obtain⟨L,hL⟩: ∃L,L=lksD G st D i e:=⟨_,rfl⟩
      rw [<-hL]at r3 hpo
      have hrowA:rowAD (R:Int) (trD D i) (lkD (looksD G st D) i) (T+1)=rowAD (R:Int) e.2 L (T+1):=by rw [trD_get he,lkD_get hLi,hL]
      obtain⟨z0,hz0⟩: ∃x,x=wr.heap.size:=⟨_,rfl⟩
      have hT2:T<=120:=XhS.out.t
      have hwT:IntKind.i64.wrap ((T:Int)+1)=(T:Int)+1:=by rw [IntKind.wrap_i64];omega
      have hmk: ∀W:World,(Instr.makeSlice 113 (.int .i64 ((T:Int)+1)) (.int .i64 ((T:Int)+1))).run Tryz.prog W= .ok (.slice (some ⟨W.heap.size,0,none⟩) (T+1) (T+1)) (W.alloc (.cells (itCells (List.replicate (T+1) ((0:Int),(0:Int)))).toArray 46)):=fun W=>by
       have:=make_acts (T+1) (by omega) W
       rwa [show(((T+1:Nat)):Int)=(T:Int)+1 from by omega]at this
      generalize hmc:(itCells (List.replicate (T+1) ((0:Int),(0:Int)))).toArray=mc at hmk
      obtain⟨W5,hW5⟩: ∃x,x=((wr.alloc (.cells #[.slice Az1 nz1 cz1,.slice Az2 nz2 cz2] 112)).alloc (.cells mc 46)).alloc (.cells #[.slice (some ⟨wr.heap.size+1,0,none⟩) (T+1) (T+1)] 113):=⟨_,rfl⟩
      have b5:Below wr.heap.size wr W5:=by rw [hW5];exact(((Below.refl _ _).alloc (Nat.le_refl _) _).alloc (by simp) _).alloc (by simp;omega) _
      have kS:Blk W5 wr.heap.size 112 #[.slice Az1 nz1 cz1,.slice Az2 nz2 cz2]:=by rw [hW5];exact((Blk.new _ _ _).alloc _).alloc _
      have kRow:Blk W5 (wr.heap.size+1) 46 mc:=by
       rw [hW5]
       have:=(Blk.new (wr.alloc (.cells #[.slice Az1 nz1 cz1,.slice Az2 nz2 cz2] 112)) 46 mc).alloc (.cells #[.slice (some ⟨wr.heap.size+1,0,none⟩) (T+1) (T+1)] 113)
       simpa using this
      have kB:Blk W5 (wr.heap.size+1+1) 113 #[.slice (some ⟨wr.heap.size+1,0,none⟩) (T+1) (T+1)]:=by
       rw [hW5]
       have:=Blk.new ((wr.alloc (.cells #[.slice Az1 nz1 cz1,.slice Az2 nz2 cz2] 112)).alloc (.cells mc 46)) 113 #[.slice (some ⟨wr.heap.size+1,0,none⟩) (T+1) (T+1)]
       simpa using this
      have hz5':W5.heap.size=wr.heap.size+1+1+1:=by rw [hW5];simp
      have own5:W5.ownsRow z0 46 2 (.slice (some ⟨wr.heap.size+1,0,none⟩) (T+1) (T+1)) (T+1) (itCells (fillR ((0:Int),(0:Int)) (rowAD (R:Int) e.2 L 0) (T+1))):=by
       refine own_of_blk ?_ ?_ (by omega) (by unfold maxLen;omega)
       ·rw [show rowAD (R:Int) e.2 L 0=[]from rfl,fillR_nil,hmc];exact kRow
       ·rw [itCells_length,fillR_len _ (by rw [rowAD_len];omega)]
      obtain⟨q0,q1,q2,q3⟩:=gk.cells
      obtain⟨d0,d1,d2⟩:wr.cell? ⟨Bm,0,none⟩=some (.int .i64 (R:Int))/\wr.cell? ⟨Bm,1,none⟩=some (.slice (some ⟨b1,o1,none⟩) nb ca)/\wr.cell? ⟨Bm,2,none⟩=some (.slice (some ⟨b2,o2,none⟩) nb cb):=⟨(kMr.cell 0).trans rfl,(kMr.cell 1).trans rfl,(kMr.cell 2).trans rfl⟩
      have p1:=up_cell ((Below.refl wr.heap.size wr).alloc (Nat.le_refl _) (.cells #[.slice Az1 nz1 cz1,.slice Az2 nz2 cz2] 112)) ((kT.cell 1).trans rfl)
      have hBz:Bm<wr.heap.size:=by have:=XhBtD.out;have:=XhD12.out;omega
      have r25:=Rd.below r2 b5 (fun b hb=>by omega)
      have r35:=r3.below b5 (fun b hb=>by omega)
      have y15:=up_cell b5 y1
      have kM5:=kMr.below b5 kMr.lt
      have mk5:=mk.keeps (k:=(⟨b5.size,fun k o _ hk _=>(b5.block k (Array.getElem?_eq_some_iff.1 hk).1).trans hk⟩:KeepsFrom D2 wr W5))
      have kT5:=kT.below b5 kT.lt
      clear hcell1 hcc1 hcell2 hcc2 hLi r1 r2 r3 y1 hmc q0 q1 q2 q3
      obtain⟨Xgk,XkMr,Xrsr,Xrdr,XkT,Xmk,Xtt',Xtwo,Xhe,Xhpo,XhL,XhrowA,Xhz0,Xb5⟩:=HqZ14 gk kMr rsr rdr kT mk tt' two he hpo hL hrowA hz0 b5;obtain⟨XkS,XkRow,XkB,Xhz5',Xown5,Xr25,Xr35,Xy15,XkM5,Xmk5,XkT5⟩:=HqZ11 kS kRow kB hz5' own5 r25 r35 y15 kM5 mk5 kT5;clear gk kMr rsr rdr kT mk tt' two he hpo hL hrowA hz0 b5 kS kRow kB hz5' own5 r25 r35 y15 kM5 mk5 kT5
      go_wp2_with fail
      rw [<-hW5]
      obtain⟨rb,hrb⟩: ∃x,x=wr.heap.size+1:=⟨_,rfl⟩
      obtain⟨S3,hS3⟩: ∃S:Nat->Prop,S=fun b=>b=rb\/wr.heap.size+3<=b:=⟨_,rfl⟩
      have s3F: ∀k,k<wr.heap.size+3->k≠rb-> ¬S3 k:=fun k h1 h2 h=>by
       rw [hS3]at h
       rcases h with h|h<;>omega
      have s3D: ∀k,wr.heap.size+3<=k->S3 k:=fun k hk=>by rw [hS3];exact .inr hk
      have s3B:S3 rb:=by rw [hS3];exact .inl rfl
      have tt30:Touch S3 W5 W5:=Touch.refl _ _
      clear hS3 hW5 d0 d1 d2 p1 x1 x2
      obtain⟨Xs3F,Xs3D,Xs3B,Xtt30,Xhrb,XhBz,XhDw2⟩:=HqZ7 s3F s3D s3B tt30 hrb hBz hDw2;clear s3F s3D s3B tt30 hrb hBz hDw2
      refine loop_of3 (fun uv ds wk=> ∃k:Nat,k<=T+1/\uv= .int .i64 (k:Int)/\Mk D2 ds wk/\Touch S3 W5 wk/\wk.ownsRow z0 46 2 (.slice (some ⟨wr.heap.size+1,0,none⟩) (T+1) (T+1)) (T+1) (itCells (fillR ((0:Int),(0:Int)) (rowAD (R:Int) e.2 L k) (T+1)))) (fun uv=>T+1 - (intOf uv).toNat) ⟨0,Nat.zero_le _,rfl,Xmk5.out,Xtt30.out,Xown5.out⟩ ?_
      iterate 14 intro _
      intro uv ds3 wk hrel K3 hK3
      obtain⟨k,hk,rfl,mk3,tt3,own3⟩:=hrel
      by_cases hlk:k<T+1
      ·have hlk':(k:Int)<(T:Int)+1:=by omega
       have hz5:=Xhz5'.out
       have hrb:=Xhrb.out
       have kS3:=XkS.out.touch tt3 (Xs3F.out _ (by omega) (by omega))
       have kB3:=XkB.out.touch tt3 (Xs3F.out _ (by omega) (by omega))
       have kM3:=XkM5.out.touch tt3 (Xs3F.out _ (by have:=XhBz.out;omega) (by have:=XhBz.out;omega))
       have hby:b2<wr.heap.size+3/\b2≠rb:=by have:=Xhb2.out;have:=XhBz.out;omega
       have y13:=tt3.cell Xy15.out (Xs3F.out _ hby.1 hby.2)
       have r23:=Rd.touch Xr25.out tt3 (fun b hb=>Xs3F.out b (by have:=XhBz.out;omega) (by have:=XhBz.out;omega))
       have r33:=Xr35.out.touch tt3 (fun b hb=>Xs3F.out b (by have:=XhBz.out;omega) (by have:=XhBz.out;omega))
       have hzk:=tt3.size
       obtain⟨V,hV⟩: ∃V,V=wk.alloc (.cells #[.int .i64 (k:Int)] 3):=⟨_,rfl⟩
       have alV:Below wk.heap.size wk V:=by rw [hV];exact(Below.refl _ _).alloc (Nat.le_refl _) _
       have kK:Blk V wk.heap.size 3 #[.int .i64 (k:Int)]:=by rw [hV];exact Blk.new _ _ _
       have hzV:V.heap.size=wk.heap.size+1:=by rw [hV];simp
       have ce1:=up_cell alV ((kM3.cell 0).trans rfl)
       have ce2:=up_cell alV ((kM3.cell 2).trans rfl)
       have ce3:=up_cell alV ((kS3.cell 0).trans rfl)
       have ce4:=up_cell alV ((kS3.cell 1).trans rfl)
       have ce5:=up_cell alV y13
       have ce6:=(kK.cell 0).trans rfl
       rw [hV]at ce1 ce2 ce3 ce4 ce5 ce6
       clear hz5 hrb hby
       obtain⟨Xmk3,Xtt3,Xown3,XkS3,XkB3,XkM3,Xr23,Xr33,Xhzk,XalV,XkK,XhzV⟩:=HqZ12 mk3 tt3 own3 kS3 kB3 kM3 r23 r33 hzk alV kK hzV;clear mk3 tt3 own3 kS3 kB3 kM3 r23 r33 hzk alV kK hzV
       go_wp2_with fail
       rw [<-hV]
       rw [<-hV]at ce1 ce2 ce3 ce4 ce5 ce6
       clear hV
       refine region_tail 9 (by kernel_rfl) (by kernel_rfl) ?_
       simp only [List.take_succ_cons,List.take_zero,List.drop_succ_cons,List.drop_zero]
       repeat still_step
       refine wpStill_nil ?_
       go_wp2_with fail
       refine(acts_possible (R:Int) (k:Int) _ _ _ _ _ _).mono ?_
       rintro ee W0 ⟨rfl,hW0'⟩
       have XhW0:=hide hW0';clear hW0' ce1 ce2 ce3 ce4 ce5 ce6
       go_wp2_with fail
       have hW0:=XhW0.out
       clear XhW0
       have b0:Below V.heap.size V W0:=by rw [hW0];exact(((((Below.refl _ V).drew).alloc (Nat.le_refl _) _).alloc (by simp) _).alloc (by simp;omega) _).alloc (by simp;omega) _
       have k0:Blk W0 V.heap.size 3 #[.int .i64 (R:Int)]:=by rw [hW0];exact(((Blk.new V.drew _ _).alloc _).alloc _).alloc _
       have k1:Blk W0 (V.heap.size+1) 112 #[.slice Az1 nz1 cz1,.slice Az2 nz2 cz2]:=by
        rw [hW0]
        have:=(((Blk.new (V.drew.alloc (.cells #[.int .i64 (R:Int)] 3)) 112 #[.slice Az1 nz1 cz1,.slice Az2 nz2 cz2]).alloc (.cells #[.slice A4 n4 c4] 117)).alloc (.cells #[.int .i64 (k:Int)] 3))
        simpa using this
       have k2:Blk W0 (V.heap.size+1+1) 117 #[.slice A4 n4 c4]:=by
        rw [hW0]
        have:=((Blk.new ((V.drew.alloc (.cells #[.int .i64 (R:Int)] 3)).alloc (.cells #[.slice Az1 nz1 cz1,.slice Az2 nz2 cz2] 112)) 117 #[.slice A4 n4 c4]).alloc (.cells #[.int .i64 (k:Int)] 3))
        simpa using this
       have k3:Blk W0 (V.heap.size+1+1+1) 3 #[.int .i64 (k:Int)]:=by
        rw [hW0]
        have:=(Blk.new (((V.drew.alloc (.cells #[.int .i64 (R:Int)] 3)).alloc (.cells #[.slice Az1 nz1 cz1,.slice Az2 nz2 cz2] 112)).alloc (.cells #[.slice A4 n4 c4] 117)) 3 #[.int .i64 (k:Int)])
        simpa using this
       have hz0W:W0.heap.size=V.heap.size+4:=by rw [hW0];simp
       have bVW:Below wk.heap.size wk W0:=XalV.out.trans (b0.mono XalV.out.size)
       have hzz:wr.heap.size+3<=wk.heap.size:=by have:=Xhz5'.out;have:=Xhzk.out;omega
       obtain⟨F0,hF0⟩: ∃F0:Nat->Prop,F0=fun b=>(w.heap.size+2<=b/\b<Bm)\/(V.heap.size<=b/\b<W0.heap.size):=⟨_,rfl⟩
       obtain⟨S0,hS0⟩: ∃S:Nat->Prop,S=fun b=>b=rb\/W0.heap.size<=b:=⟨_,rfl⟩
       have pc:PosC W0 F0 (V.heap.size+1) (V.heap.size+1+1+1) (V.heap.size+1+1) V.heap.size (.slice Az1 nz1 cz1) (.slice Az2 nz2 cz2) (.slice A4 n4 c4) (R:Int) (k:Int) e.2 L:=by
        have hl: ∀b,w.heap.size+2<=b/\b<Bm->b<wk.heap.size:=fun b hb=>by have:=XhBz.out;omega
        refine⟨k1,k3,k2,k0,(Rd.below Xr23.out bVW hl).mono ?_,(Xr33.out.below bVW hl).mono ?_,?_⟩
        ·intro b hb;rw [hF0];exact .inl hb
        ·intro b hb;rw [hF0];exact .inl hb
        ·rw [hF0];exact⟨.inr (by omega),.inr (by omega),.inr (by omega),.inr (by omega)⟩
       have hF0l: ∀b,F0 b->b<W0.heap.size:=fun b hb=>by
        rw [hF0]at hb
        rcases hb with hb|hb
        ·have:=XhBz.out;have:=bVW.size;omega
        ·exact hb.2
       have hFS: ∀b,F0 b-> ¬S0 b:=fun b hb hs=>by
        rw [hF0]at hb
        rw [hS0]at hs
        have h1:=XhBz.out
        have h2:=Xhrb.out
        have h3:=bVW.size
        have h4:=XhzV.out
        rcases hb with hb|hb
        ·rcases hs with hs|hs<;>omega
        ·rcases hs with hs|hs<;>omega
       have hS0n: ∀q,W0.heap.size<=q->S0 q:=fun q hq=>by rw [hS0];exact .inr hq
       have hS0b:S0 rb:=by rw [hS0];exact .inl rfl
       have hS0f: ∀q,q<W0.heap.size->q≠rb-> ¬S0 q:=fun q h1 h2 h=>by
        rw [hS0]at h
        rcases h with h|h<;>omega
       have own0:=own_below' Xown3.out bVW
       have kBW:=XkB3.out.below bVW XkB3.out.lt
       have kKW:=XkK.out.below b0 XkK.out.lt
       have mkW:=mk_below Xmk3.out bVW
       have hrbo: ∀D,W0.heap[D]? =some (.deferred (some []))-> ¬S0 D:=fun D hD hs=>by
        rw [hS0]at hs
        rcases hs with hs|hs
        ·rcases own0.2 with⟨h1,-⟩|⟨g,cap,cur,h1,-,h2,-⟩
         ·cases h1
         ·have hg:g=rb:=by
           injection h1 with h1 _ _
           injection h1 with h1
           injection h1 with h1
           rw [<-h1,Xhrb.out]
          rw [hs,<-hg,h2]at hD
          cases hD
        ·have:=(Array.getElem?_eq_some_iff.1 hD).1
         omega
       have tt3W:Touch S3 W5 W0:=Xtt3.out.trans' (below_touch bVW (fun q hq=>Xs3D.out q (by omega)))
       have hD2W:D2<=W0.heap.size:=by have:=XhDw2.out;have:=bVW.size;omega
       have hDlk:(rowAD (R:Int) e.2 L k).length=k:=rowAD_len _ _ _ _
       have hrn:=rowAD_next (R:Int) e.2 L k
       have hposs:=Xhpo.out (k:Int)
       obtain⟨rw0,hrw0⟩: ∃x,x=rowAD (R:Int) e.2 L k:=⟨_,rfl⟩
       rw [<-hrw0]at own0 hDlk hrn
       clear hF0 hS0 hW0 b0 k0 k1 k2 k3 Xmk3 Xtt3 Xown3 XkS3 XkB3 XkM3 Xr23 Xr33 XalV XkK
       obtain⟨Xhposs,Xhrw0,Xhrn,Xown0,Xtt3W,XmkW,Xhrbo,XhDlk⟩:=HqZ8 hposs hrw0 hrn own0 tt3W mkW hrbo hDlk;clear hposs hrw0 hrn own0 tt3W mkW hrbo hDlk
       refine rf_of 46 rfl (enters_of Tryz.func139 (by kernel_rfl) rfl) (poss_stops pc hF0l hFS 4 (by omega)) (fun h k=>h.trans' k) (fun W l o o' hl _ _ _=>touch_putObj o' (hS0n l hl))
        (fun pre W=>pre=[]/\Touch S0 W0 W/\W.ownsRow z0 46 2 (.slice (some ⟨wr.heap.size+1,0,none⟩) (T+1) (T+1)) (T+1) (itCells (fillR ((0:Int),(0:Int)) rw0 (T+1))))
        (fun c pre W=>c= .exit 7/\Touch S0 W0 W/\ ∃x:Ac,pre=[x]/\W.ownsRow z0 46 2 (.slice (some ⟨wr.heap.size+1,0,none⟩) (T+1) (T+1)) (T+1) (itCells (fillR ((0:Int),(0:Int)) (rw0++[x]) (T+1))))
        (fun s X Y row hs hg hr=>⟨hs.1,ownFrom_touch (β:=Unit) hS0n () X Y row hs.2.1 hg hr,ownFrom_row (β:=Unit) W0.heap.size z0 46 2 (T+1) _ (fun _=>itCells (fillR ((0:Int),(0:Int)) rw0 (T+1))) () X Y row hs.2.2 hg hr⟩)
        (fun c s X Y row hs hg hr=>by
         obtain⟨h1,h2,x,h3,h4⟩:=hs
         exact⟨h1,ownFrom_touch (β:=Unit) hS0n () X Y row h2 hg hr,x,h3,ownFrom_row (β:=Unit) W0.heap.size z0 46 2 (T+1) _ (fun _=>itCells (fillR ((0:Int),(0:Int)) (rw0++[x]) (T+1))) () X Y row h4 hg hr⟩)
        ⟨rfl,Touch.refl _ _,Xown0.out⟩ ?assign ?body ?done ?stop
       case assign=>
        rintro l pre x W K ⟨hp,htt,how⟩ hK
        gi_wp2_with fail
        exact hK _ _ ((KeepsOthers.alloc _ _).from _) (below_touch ((Below.refl W.heap.size W).alloc (Nat.le_refl _) _) (fun q hq=>hS0n q (Nat.le_trans htt.size hq))) ⟨hp,htt.trans' (below_touch ((Below.refl W.heap.size W).alloc (Nat.le_refl _) _) (fun q hq=>hS0n q (Nat.le_trans htt.size hq))),own_below' how ((Below.refl _ _).alloc (Nat.le_refl _) _)⟩ htt.size (Blk.new _ _ _)
       case body=>
        rintro l pre x Bx W ⟨rfl,htt,how⟩ hBx kX hlt
        obtain⟨x0,x1⟩:=x
        have kx0:=(kX.cell 0).trans rfl
        have kx1:=(kX.cell 1).trans rfl
        have kb0:=((kBW.touch htt (hS0f _ (by have:=XkB.out.lt;have:=bVW.size;have:=Xhzk.out;omega) (by have:=Xhrb.out;omega))).cell 0).trans rfl
        have kk0:=((kKW.touch htt (hS0f _ (by have:=kKW.lt;omega) (by have:=Xhrb.out;omega))).cell 0).trans rfl
        have hlen:(fillR ((0:Int),(0:Int)) rw0 (T+1)).length=T+1:=fillR_len _ (by rw [XhDlk.out];omega)
        obtain⟨ob,hob⟩: ∃y,(fillR ((0:Int),(0:Int)) rw0 (T+1))[k]? =some y:=⟨_,List.getElem?_eq_getElem (by rw [hlen];exact hlk)⟩
        obtain⟨g1,g2⟩:=itCells_get hob
        obtain⟨ca0,cf0⟩:=own_cell how g1
        obtain⟨ca1,cf1⟩:=own_cell how g2
        have own1:=own_put (own_put how (j:=k * 2) (by rw [itCells_length,hlen];omega) (.int .i64 x0)) (j:=k * 2+1) (by rw [List.length_set,itCells_length,hlen];omega) (.int .i64 x1)
        rw [itCells_set ((x0,x1):Ac) (by rw [hlen];exact hlk)]at own1
        have hset:=fillR_set ((0:Int),(0:Int)) (l:=rw0) (m:=T+1) (by rw [XhDlk.out];omega) ((x0,x1):Ac)
        rw [XhDlk.out]at hset
        rw [hset]at own1
        have hk0:(0:Int)<=(k:Int):=by omega
        clear hob g1 g2 hset hlen
        obtain⟨Xown1,Xhtt,Xhow,XkX⟩:=HqZ4 own1 htt how kX;clear own1 htt how kX
        gi_wp2_with fail
        have tS:=Xhtt.out.trans' (((Touch.refl S0 W).setCell (p:=⟨wr.heap.size+1,k * 2,none⟩) (fun _=>by rw [<-Xhrb.out];exact hS0b) (.int .i64 x0)).setCell (p:=⟨wr.heap.size+1,k * 2+1,none⟩) (fun _=>by rw [<-Xhrb.out];exact hS0b) (.int .i64 x1))
        exact⟨((KeepsOthers.setCell _ _ _).trans (KeepsOthers.setCell _ _ _)).from _,rfl,tS,x0,x1,rfl,Xown1.out⟩
       case done=>
        rintro D xs W hD rfl ⟨hp,htt,how⟩ hK
        have MK:=Mk.cons XmkW.out (XmkW.out.touch htt Xhrbo.out) hD2W hD hK
        have TT:=Xtt3W.out.trans htt (fun q _ hq=>by
         rcases Nat.lt_or_ge q W0.heap.size with h|h
         ·by_cases e:q=rb
          ·rw [e];exact Xs3B.out
          ·exact absurd hq (hS0f q h e)
         ·exact Xs3D.out q (by have:=bVW.size;omega))
        have OWN:W.ownsRow z0 46 2 (.slice (some ⟨wr.heap.size+1,0,none⟩) (T+1) (T+1)) (T+1) (itCells (fillR ((0:Int),(0:Int)) (rowAD (R:Int) e.2 L (k+1)) (T+1))):=by
         rw [Xhrn.out,hp]
         unfold fillR
         rw [show([]:List Ac).headD (0,0)=(0,0)from rfl,fillR_d _ (by rw [XhDlk.out];omega)]
         exact how
        clear how htt
        obtain⟨XMK,XTT,XOWN,XhK⟩:=HqZ4 MK TT OWN hK;clear MK TT OWN hK
        go_wp2_with fail
        refine HandE.mk ⟨_,_,_,_,_,_,_,_,_,_,_,_,_,_,_,_,⟨k+1,by omega,by go_num,XMK.out,XTT.out,XOWN.out⟩,by simp [intOf];omega,rfl⟩
       case stop=>
        rintro D c pre W hD hpre ⟨rfl,htt,x,rfl,how⟩ hK
        have MK:=Mk.cons XmkW.out (XmkW.out.touch htt Xhrbo.out) hD2W hD hK
        have TT:=Xtt3W.out.trans htt (fun q _ hq=>by
         rcases Nat.lt_or_ge q W0.heap.size with h|h
         ·by_cases e:q=rb
          ·rw [e];exact Xs3B.out
          ·exact absurd hq (hS0f q h e)
         ·exact Xs3D.out q (by have:=bVW.size;omega))
        have OWN:W.ownsRow z0 46 2 (.slice (some ⟨wr.heap.size+1,0,none⟩) (T+1) (T+1)) (T+1) (itCells (fillR ((0:Int),(0:Int)) (rowAD (R:Int) e.2 L (k+1)) (T+1))):=by
         have hh:(possD (R:Int) e.2 L (k:Int)).headD (0,0)=x:=by
          obtain⟨r,hr⟩:=hpre
          rw [<-hr];rfl
         rw [Xhrn.out,hh]
         exact how
        clear how htt hpre
        obtain⟨XMK,XTT,XOWN,XhK⟩:=HqZ4 MK TT OWN hK;clear MK TT OWN hK
        go_wp2_with fail
        refine HandE.mk ⟨_,_,_,_,_,_,_,_,_,_,_,_,_,_,_,_,⟨k+1,by omega,by go_num,XMK.out,XTT.out,XOWN.out⟩,by simp [intOf];omega,rfl⟩
      ·have hlk': ¬(k:Int)<(T:Int)+1:=by omega
       obtain rfl:k=T+1:=by omega
       have hT3:=hT2
       rw [fillR_all _ (by rw [rowAD_len];exact Nat.le_refl _),<-XhrowA.out]at own3
       have hDz:Bt<wr.heap.size:=by have:=XhBtD.out;have:=XhD12.out;have:=XhDw2.out;omega
       have kT6:=XkT5.out.touch tt3 (Xs3F.out _ (by omega) (by have:=Xhrb.out;omega))
       have kM6:=XkM5.out.touch tt3 (Xs3F.out _ (by have:=XhBz.out;omega) (by have:=XhBz.out;have:=Xhrb.out;omega))
       have kB6:=XkB.out.touch tt3 (Xs3F.out _ (by omega) (by have:=Xhrb.out;omega))
       have rs6:=Xrsr.out.touch (Touch.of_size (Xb5.out) (fun _=>False)) (fun _ _ e=>e)
       have rs6:=rs6.touch tt3 (fun b hb=>Xs3F.out b (by have:=XhBz.out;omega) (by have:=XhBz.out;have:=Xhrb.out;omega))
       have hzk:wr.heap.size+3<=wk.heap.size:=by have:=Xhz5'.out;have:=tt3.size;omega
       have hN2:N<=120:=by
        have:=(KnA.of_check Xhai.out.ok.1).n
        rw [XhN.out]at this
        exact this
       have hmk2: ∀W:World,(Instr.makeSlice 49 (.int .i64 (N:Int)) (.int .i64 (N:Int))).run Tryz.prog W= .ok (.slice (some ⟨W.heap.size,0,none⟩) N N) (W.alloc (.cells ((List.replicate N (0:Int)).map (Value.int .i64)).toArray 3)):=fun W=>make_gotos N (by omega) W
       generalize hmg:((List.replicate N (0:Int)).map (Value.int .i64)).toArray=mg at hmk2
       obtain⟨W6,hW6⟩: ∃x,x=wk.alloc (.cells mg 3):=⟨_,rfl⟩
       have al6:Below wk.heap.size wk W6:=by rw [hW6];exact(Below.refl _ _).alloc (Nat.le_refl _) _
       have kG:Blk W6 wk.heap.size 3 mg:=by rw [hW6];exact Blk.new _ _ _
       obtain⟨tb,htb⟩: ∃x,x=wk.heap.size:=⟨_,rfl⟩
       have hz6:W6.heap.size=tb+1:=by rw [hW6,htb];simp
       have ownG:W6.ownsRow z0 3 1 (.slice (some ⟨tb,0,none⟩) N N) N ((fillR (0:Int) (rowGD D T i 0) N).map (Value.int .i64)):=by
        refine own_of_blk ?_ ?_ (by have:=Xhz0.out;omega) (by unfold maxLen;omega)
        ·rw [show rowGD D T i 0=[]from rfl,fillR_nil,hmg,htb];exact kG
        ·rw [List.length_map,fillR_len _ (by rw [rowGD_len];omega),Nat.mul_one]
       have e2:=(kT6.cell 2).trans rfl
       have kT7:=kT6.below al6 kT6.lt
       have kM7:=kM6.below al6 kM6.lt
       have rs7:=rs6.below al6 (fun b hb=>by have:=XhBz.out;omega)
       have own7:=own_below' own3 al6
       have kB7:=kB6.below al6 kB6.lt
       have mk7:=mk_below mk3 al6
       have tt7:=tt3.trans' (below_touch al6 (fun q hq=>Xs3D.out q (by omega)))
       have htbz:wr.heap.size+3<=tb:=by omega
       have bq0:wr.heap.size<=W6.heap.size:=by omega
       obtain⟨S4,hS4⟩: ∃S:Nat->Prop,S=fun b=>b=tb\/W6.heap.size<=b:=⟨_,rfl⟩
       have s4F: ∀q,q<tb-> ¬S4 q:=fun q h1 h=>by
        rw [hS4]at h
        rcases h with h|h<;>omega
       have s4D: ∀q,W6.heap.size<=q->S4 q:=fun q hq=>by rw [hS4];exact .inr hq
       have s4B:S4 tb:=by rw [hS4];exact .inl rfl
       have tt40:Touch S4 W6 W6:=Touch.refl _ _
       have s4L: ∀q,S4 q->wr.heap.size<=q:=fun q h=>by
        rw [hS4]at h
        rcases h with h|h
        ·omega
        ·have:=bq0;omega
       have hm4: ∀D',W6.heap[D']? =some (.deferred (some []))-> ¬S4 D':=fun D' hD hs=>by
        rw [hS4]at hs
        rcases hs with hs|hs
        ·rw [hs,htb]at hD
         unfold Blk at kG
         rw [kG]at hD
         cases hD
        ·have:=(Array.getElem?_eq_some_iff.1 hD).1
         omega
       have bq6:Below wr.heap.size wr W6:=tt7.toBelow (fun q hq=>by
        rcases Nat.lt_or_ge q (wr.heap.size+3)with h|h
        ·by_cases e:q=rb
         ·have:=Xhrb.out;omega
         ·exact absurd hq (Xs3F.out q h e)
        ·omega) Xb5.out Xb5.out.size
       have hwT2: ∀q:Nat,q<N->IntKind.i64.wrap ((T:Int)+1+(q:Int))=(T:Int)+1+(q:Int):=fun q hq=>by rw [IntKind.wrap_i64];omega
       clear bq0 hS4 hmg mk3 tt3 own3 kT6 kM6 kB6 rs6 al6 kG
       obtain⟨Xs4F,Xs4D,Xs4B,Xs4L,Xhm4,Xbq6,Xtt40,Xhz6,XownG,XkT7,XkM7,Xrs7,Xown7,XkB7⟩:=HqZ14 s4F s4D s4B s4L hm4 bq6 tt40 hz6 ownG kT7 kM7 rs7 own7 kB7;obtain⟨Xmk7,Xtt7,Xhtbz,XhDz,XhwT2,Xhzk⟩:=HqZ6 mk7 tt7 htbz hDz hwT2 hzk;clear s4F s4D s4B s4L hm4 bq6 tt40 hz6 ownG kT7 kM7 rs7 own7 kB7 mk7 tt7 htbz hDz hwT2 hzk
       go_wp2_with fail
       rw [<-hW6,<-htb]
       clear hW6 htb
       go_loopw [101] (fun iv wx=> ∃q:Nat,q<=N/\iv= .int .i64 (q:Int)/\Touch S4 W6 wx/\wx.ownsRow z0 3 1 (.slice (some ⟨tb,0,none⟩) N N) N ((fillR (0:Int) (rowGD D T i q) N).map (Value.int .i64))) (fun iv _=>N - (intOf iv).toNat)
       case atStart=>exact⟨0,Nat.zero_le _,rfl,Xtt40.out,XownG.out⟩
       case round=>
        clear Xtt40 XownG e2
        obtain⟨q,hq,rfl,t4,own4⟩:=hrel
        by_cases hlq:q<N
        ·have hlq':(q:Int)<(N:Int):=by omega
         have hzb:=Xhtbz.out
         have kM8:=XkM7.out.touch t4 (Xs4F.out _ (by have:=XhBz.out;omega))
         have kT8:=XkT7.out.touch t4 (Xs4F.out _ (by have:=XhDz.out;omega))
         have rs8:=Xrs7.out.touch t4 (fun b hb=>Xs4F.out b (by have:=XhBz.out;omega))
         have g1:=(kM8.cell 1).trans rfl
         have g2:=(kT8.cell 1).trans rfl
         have hz8:=t4.size
         have cG:=auto_Goto rs8 (fun b hb=>by have:=XhBz.out;have:=Xhz6.out;omega) (i:Int) ((T:Int)+1+(q:Int))
         have hgn:=rowGD_next D T i q
         rw [show(((T+1+q:Nat)):Int)=(T:Int)+1+(q:Int)from by omega]at hgn
         generalize gotoD D (i:Int) ((T:Int)+1+(q:Int))=gg at *
         have hgl:=rowGD_len D T i q
         generalize rowGD D T i q=rg0 at *
         have hlen:(fillR (0:Int) rg0 N).length=N:=fillR_len _ (by rw [hgl];omega)
         have hww:=XhwT2.out q hlq
         have hset:=fillR_set (0:Int) (l:=rg0) (m:=N) (by rw [hgl];exact hlq) gg
         rw [hgl,<-hgn]at hset
         have hq0:(0:Int)<=(q:Int):=by omega
         clear hgl hgn hzb
         obtain⟨XkM8,XkT8,Xrs8,Xhz8,XcG,Xhlen,Xhset,Xt4,Xown4⟩:=HqZ9 kM8 kT8 rs8 hz8 cG hlen hset t4 own4;clear kM8 kT8 rs8 hz8 cG hlen hset t4 own4
         go_wp2_with fail
         refine XcG.out.mono ?_
         rintro ee w7 ⟨rfl,b7⟩
         have own5':=own_below' Xown4.out b7
         obtain⟨ob,hob⟩: ∃y,((fillR (0:Int) rg0 N).map (Value.int .i64))[q]? =some y:=⟨_,List.getElem?_eq_getElem (by rw [List.length_map,Xhlen.out];exact hlq)⟩
         obtain⟨ca0,cf0⟩:=own_cell own5' hob
         have own6:=own_put own5' (j:=q) (by rw [List.length_map,Xhlen.out];exact hlq) (.int .i64 gg)
         rw [<-List.map_set,Xhset.out]at own6
         have t7:=(Xt4.out.trans' (below_touch b7 (fun p hp=>Xs4D.out p (Nat.le_trans Xhz8.out hp)))).setCell (p:=⟨tb,q,none⟩) (fun _=>Xs4B.out) (.int .i64 gg)
         clear hob own5' b7 XcG XkM8 XkT8 Xrs8 g1 g2 Xown4 Xt4
         obtain⟨Xown6,Xt7⟩:=HqZ2 own6 t7;clear own6 t7
         go_wp2_with fail
         go_roundw
         case rel=>exact⟨q+1,by omega,by go_num,Xt7.out,Xown6.out⟩
         case measure=>simp [intOf];omega
        ·have hlq': ¬(q:Int)<(N:Int):=by omega
         obtain rfl:N=q:=by omega
         rw [fillR_all _ (by rw [rowGD_len];exact Nat.le_refl _)]at own4
         have bq:=t4.toBelow Xs4L.out Xbq6.out Xbq6.out.size
         have kT8:=XkT7.out.touch t4 (Xs4F.out _ (by have:=XhDz.out;have:=Xhtbz.out;omega))
         have kB8:=XkB7.out.touch t4 (Xs4F.out _ (by have:=Xhtbz.out;omega))
         have own8:=t4.own Xown7.out (fun p e h=>by
          have hp:=Xown7.out.lt p e
          simp only [Value.ownBlock,Option.some.injEq]at e
          exact Xs4F.out p (by have:=Xhtbz.out;omega) h)
         have two8:=Xtwo.out.below hands_it hands_i bq
         have mk8:=Xmk7.out.touch t4 Xhm4.out
         have tt8:=Xtt'.out.trans' (below_touch bq (fun p hp=>Xs2D.out p (Nat.le_trans XhDw2.out hp)))
         obtain⟨Wq,rfl⟩: ∃x,x=wr:=⟨_,rfl⟩
         have hbd:Below Wq.heap.size Wq Wq.drew:=(Below.refl _ _).drew
         have two9:=two8.below hands_it hands_i hbd
         have hD9:D2<=Wq.drew.heap.size:=Nat.le_trans XhDw2.out (Nat.le_trans bq.size hbd.size)
         obtain⟨za,hza⟩: ∃x,x=Value.slice (some ⟨wr.heap.size+1,0,none⟩) (T+1) (T+1):=⟨_,rfl⟩
         obtain⟨zg,hzg⟩: ∃x,x=Value.slice (some ⟨tb,0,none⟩) N N:=⟨_,rfl⟩
         have ra:RdIt Wq.drew (fun b=>b=rb) za (rowAD (R:Int) (trD D i) (lkD (looksD G st D) i) (T+1)):=by
          rw [hza]
          exact(Rd.of_own (own_below' own8 hbd)).mono fun q hq=>by
           simp only [Value.ownBlock,Option.some.injEq]at hq
           rw [Xhrb.out];exact hq.symm
         have rg:RdI Wq.drew (fun b=>b=tb) zg (rowGD D T i N):=by
          rw [hzg]
          exact(Rd.of_own (own_below' own4 hbd)).mono fun q hq=>by
           simp only [Value.ownBlock,Option.some.injEq]at hq
           exact hq.symm
         have kT9:=kT8.below hbd kT8.lt
         have mk9:=mk_below mk8 hbd
         have tt9:=tt8.trans' (below_touch hbd (fun p hp=>Xs2D.out p (Nat.le_trans XhDw2.out (Nat.le_trans bq.size hp))))
         have bA:=fun b e=>Xtwo.out.a.block b e
         have bG:=fun b e=>Xtwo.out.g.block b e
         have hwq9:wr.heap.size+3<=Wq.drew.heap.size:=by
          have h1:=Xhz5'.out;have h2:=Xhzk.out;have h3:=Xhz6.out;have h4:=Xhtbz.out;have h5:=t4.size;have h6:=hbd.size;omega
         have hrb3:D2<=rb/\rb<Wq.drew.heap.size/\(Value.slice Ax i ca').ownBlock≠some rb/\(Value.slice Ag i cg').ownBlock≠some rb:=by
          have h0:=Xhrb.out
          have h1:=XhDw2.out
          exact⟨by omega,by omega,fun e=>by have:=(bA _ e).2;omega,fun e=>by have:=(bG _ e).2;omega⟩
         have htb3:D2<=tb/\tb<Wq.drew.heap.size/\(Value.slice Ax i ca').ownBlock≠some tb/\(Value.slice Ag i cg').ownBlock≠some tb:=by
          have h1:=XhDw2.out
          have h3:=Xhtbz.out
          have h4:=Xhz6.out
          have h5:=t4.size
          have h6:=hbd.size
          exact⟨by omega,by omega,fun e=>by have:=(bA _ e).2;omega,fun e=>by have:=(bG _ e).2;omega⟩
         obtain⟨Sx,hSx⟩: ∃S:Nat->Prop,S=fun k=>(Value.slice Ax i ca').ownBlock=some k\/(Value.slice Ag i cg').ownBlock=some k:=⟨_,rfl⟩
         have hSl: ∀k,Sx k->D2<=k/\k<wr.heap.size:=fun k h=>by
          rw [hSx]at h
          rcases h with h|h
          ·exact bA k h
          ·exact bG k h
         have hSB: ¬Sx Bt:=fun h=>by have:=hSl _ h;have:=XhBtD.out;have:=XhD12.out;omega
         have hS2: ∀k,Sx k->S2 k:=fun k h=>Xs2D.out k (hSl k h).1
         obtain⟨ZA,ea1,ea2,ea3⟩:=two9.a.ex
         obtain⟨ZG,eg1,eg2,eg3⟩:=two9.g.ex
         have hSm: ∀D',Wq.drew.heap[D']? =some (.deferred (some []))-> ¬Sx D':=fun D' hD h=>by
          rw [hSx]at h
          rcases h with h|h
          ·exact own_deferred ea2 h hD
          ·exact own_deferred eg2 h hD
         have hkx: ∀W,Touch Sx Wq.drew W->W.cell? ⟨Bt,3,none⟩=some (.slice Ax i ca')/\W.cell? ⟨Bt,4,none⟩=some (.slice Ag i cg')/\W.cell? ⟨wr.heap.size+1+1,0,none⟩=some za:=fun W t=>by
          rw [hza]
          exact⟨t.cell (p:=⟨Bt,3,none⟩) (kT9.cell 3) hSB,t.cell (p:=⟨Bt,4,none⟩) (kT9.cell 4) hSB,t.cell (p:=⟨wr.heap.size+1+1,0,none⟩) ((kB8.below hbd kB8.lt).cell 0) (fun h=>by have h2:=hSl (wr.heap.size+1+1) h;omega)⟩
         have hHead:=hkx _ (Touch.refl _ _)
         have za1: ∀u∈[za],u.oneCell'=true:=by simp [hza,Value.oneCell']
         have zg1: ∀u∈[zg],u.oneCell'=true:=by simp [hzg,Value.oneCell']
         have hSxA: ∀k,(Value.slice Ax i ca').ownBlock=some k->Sx k:=fun k e=>by rw [hSx];exact .inl e
         have hSxG: ∀k,(Value.slice Ag i cg').ownBlock=some k->Sx k:=fun k e=>by rw [hSx];exact .inr e
         have hAl: ∀b,(Value.slice Ax i ca').ownBlock=some b->b<Wq.drew.heap.size:=fun b e=>by have:=(bA b e).2;omega
         rw [<-hzg]
         have zaE:=hza
         have zgE:=hzg
         clear hza hzg hSx own8 own4 kB8 kT8 two8 mk8 tt8 bA bG hSl t4
         obtain⟨Xtwo9,XhD9,Xra,Xrg,XkT9,Xmk9,Xtt9,Xhwq9,Xhrb3,Xhtb3,XhSB,XhS2,Xea1,Xea2⟩:=HqZ14 two9 hD9 ra rg kT9 mk9 tt9 hwq9 hrb3 htb3 hSB hS2 ea1 ea2;obtain⟨Xea3,Xeg1,Xeg2,Xeg3,XhSm,Xhkx,XhHead,XzaE,XzgE,Xza1,Xzg1,XhSxA,XhSxG,XhAl⟩:=HqZ14 ea3 eg1 eg2 eg3 hSm hkx hHead zaE zgE za1 zg1 hSxA hSxG hAl;clear two9 hD9 ra rg kT9 mk9 tt9 hwq9 hrb3 htb3 hSB hS2 ea1 ea2 ea3 eg1 eg2 eg3 hSm hkx hHead zaE zgE za1 zg1 hSxA hSxG hAl;clear hbd bq
         go_wp2_with fail
         refine wp_region_hq (S:=fun u:World=>u.cell? ⟨Bt,3,none⟩=some (.slice Ax i ca')/\u.cell? ⟨Bt,4,none⟩=some (.slice Ag i cg')/\u.cell? ⟨wr.heap.size+1+1,0,none⟩=some za) 11 3 (fun j=>Nat.blt j 11) (by kernel_rfl) (by kernel_rfl) ?_ (fun hHeld=> ?_)
         ·exact XhHead.out
         refine tkq (i:=0) (oi:= ?_) (v:= ?_) ?_ (by kernel_rfl) ?_ (Or.inl ⟨?_,?_⟩) (by assumption) ?_;rotate_left 2;(focus((try simp only [gT,gs,gz]);try rfl));(first|exact fun c a w h=>(markPost.panic h).elim|exact fun _ _ _ h=>h);rfl;(focus(intro wS hwS;(try dsimp only at hwS);go_simp;all_goals with_reducible rfl));try simp only [Act.put,sT,s0,s1]
         refine tkq (i:=1) (oi:= ?_) (v:= ?_) ?_ (by kernel_rfl) ?_ (Or.inl ⟨?_,?_⟩) (by assumption) ?_;rotate_left 2;(focus((try simp only [gT,gs,gz]);try rfl));(first|exact fun c a w h=>(markPost.panic h).elim|exact fun _ _ _ h=>h);rfl;(focus(intro wS hwS;(try dsimp only at hwS);go_simp;all_goals with_reducible rfl));try simp only [Act.put,sT,s0,s1]
         refine tkq (i:=2) (oi:= ?_) (v:= ?_) ?_ (by kernel_rfl) ?_ (Or.inl ⟨?_,?_⟩) (by assumption) ?_;rotate_left 2;(focus((try simp only [gT,gs,gz]);try rfl));(first|exact fun c a w h=>(markPost.panic h).elim|exact fun _ _ _ h=>h);rfl;(focus(intro wS hwS;(try dsimp only at hwS);go_simp;all_goals with_reducible rfl));try simp only [Act.put,sT,s0,s1]
         refine tkq (i:=5) (oi:= ?_) (v:= ?_) ?_ (by kernel_rfl) ?_ (Or.inl ⟨?_,?_⟩) (by assumption) ?_;rotate_left 2;(focus((try simp only [gT,gs,gz]);try rfl));(first|exact fun c a w h=>(markPost.panic h).elim|exact fun _ _ _ h=>h);rfl;(focus(intro wS hwS;(try dsimp only at hwS);go_simp;all_goals with_reducible rfl));try simp only [Act.put,sT,s0,s1]
         refine tkq (i:=6) (oi:= ?_) (v:= ?_) ?_ (by kernel_rfl) ?_ (Or.inl ⟨?_,?_⟩) (by assumption) ?_;rotate_left 2;(focus((try simp only [gT,gs,gz]);try rfl));(first|exact fun c a w h=>(markPost.panic h).elim|exact fun _ _ _ h=>h);rfl;(focus(intro wS hwS;(try dsimp only at hwS);go_simp;all_goals with_reducible rfl));try simp only [Act.put,sT,s0,s1]
         refine tkq (i:=7) (oi:= ?_) (v:= ?_) ?_ (by kernel_rfl) ?_ (Or.inl ⟨?_,?_⟩) (by assumption) ?_;rotate_left 2;(focus((try simp only [gT,gs,gz]);try rfl));(first|exact fun c a w h=>(markPost.panic h).elim|exact fun _ _ _ h=>h);rfl;(focus(intro wS hwS;(try dsimp only at hwS);go_simp;all_goals with_reducible rfl));try simp only [Act.put,sT,s0,s1]
         generalize Wq.drew=Wd at *
         have BA:Below Wd.heap.size Wd (Wd.alloc (.cells #[za] 113)):=(Below.refl _ Wd).alloc (Nat.le_refl _) _
         have BG:Below Wd.heap.size Wd (Wd.alloc (.cells #[zg] 49)):=(Below.refl _ Wd).alloc (Nat.le_refl _) _
         have TA:Touch Sx Wd (Wd.alloc (.cells #[za] 113)):=Touch.of_size BA _
         have TG:Touch Sx Wd (Wd.alloc (.cells #[zg] 49)):=Touch.of_size BG _
         have RA:Rd (Wd.alloc (.cells #[za] 113)) (fun x=>x=Wd.heap.size) (.slice (some ⟨Wd.heap.size,0,none⟩) 1 1) 1 [za]:=Rd.one' (w:=Wd) (e:=113) [za] 1 rfl
         have RG:Rd (Wd.alloc (.cells #[zg] 49)) (fun x=>x=Wd.heap.size) (.slice (some ⟨Wd.heap.size,0,none⟩) 1 1) 1 [zg]:=Rd.one' (w:=Wd) (e:=49) [zg] 1 rfl
         have zA:=Nat.le_trans XhD9.out BA.size
         have zG:=Nat.le_trans XhD9.out BG.size
         obtain⟨XBA,XBG,XTA,XTG,XRA,XRG,XzA,XzG⟩:=HqZ8 BA BG TA TG RA RG zA zG;clear BA BG TA TG RA RG zA zG
         refine wpHq_ready (rs:=[3,8]) (by kernel_rfl) (by simp) (by kernel_rfl) ?_
         refine AllReadyQ.cons (o:= ?_) ?_ (fun K hK=> ?_) ?_;rotate_left 1;(focus((try simp only [gT,gs,gz]);try rfl))
         ·refine Tryz.step_RA rfl (.tmp 119) rfl za rfl XzaE.out ?_
          refine hK.out _ _ ?_ (fun hHeld=> ?_)
          ·exact Xhkx.out _ XTA.out
          clear hK K
          try simp only [Act.put,sT,s0,s1]
          refine wpHq_ready (rs:=[4,8]) (by kernel_rfl) (by simp) (by kernel_rfl) ?_
          refine AllReadyQ.cons (o:= ?_) ?_ (fun K hK=> ?_) ?_;rotate_left 1;(focus((try simp only [gT,gs,gz]);try rfl))
          ·skip
           refine step_append _ rfl (.tmp 118) (.tmp 120) _ rfl Tryz.elemRA D2 (.slice Ax i ca') i _ rfl (own_below' Xea2.out XBA.out) _ _ [za] 1 rfl rfl (XRA.out) Xza1.out (by unfold maxLen;omega) (by omega) (XzA.out) ?_
           intro A' ca2 w1 o1 r1 h1
           have T2:Touch Sx Wd w1:=(XTA.out).grown r1 (fun k e _=>XhSxA.out k e)
           have TA1:Touch (fun k=>(Value.slice Ax i ca').ownBlock=some k) _ w1:=(Touch.refl _ _).grown r1 (fun k e _=>e)
           have og:=TA1.own (own_below' Xeg2.out XBA.out) (fun b e e'=>Xtwo9.out.ne b e' e)
           have z1:=Nat.le_trans XhD9.out T2.size
           refine hK.out _ _ ?_ (fun hHeld=> ?_)
           ·exact Xhkx.out _ T2
           clear hK K
           try simp only [Act.put,sT,s0,s1]
           refine tkq (i:=10) (oi:= ?_) (v:= ?_) ?_ (by kernel_rfl) ?_ (Or.inl ⟨?_,?_⟩) (by assumption) ?_;rotate_left 2;(focus((try simp only [gT,gs,gz]);try rfl));(first|exact fun c a w h=>(markPost.panic h).elim|exact fun _ _ _ h=>h);rfl;(focus(intro wS hwS;(try dsimp only at hwS);go_simp;all_goals with_reducible rfl));try simp only [Act.put,sT,s0,s1]
           refine wpHq_ready (rs:=[8]) (by kernel_rfl) (by simp) (by kernel_rfl) ?_
           refine AllReadyQ.cons (o:= ?_) ?_ (fun K hK=> ?_) ?_;rotate_left 1;(focus((try simp only [gT,gs,gz]);try rfl))
           ·refine Tryz.step_RI rfl (.tmp 124) rfl zg rfl XzgE.out ?_
            have B3:Below w1.heap.size w1 (w1.alloc (.cells #[zg] 49)):=(Below.refl _ w1).alloc (Nat.le_refl _) _
            have R3:Rd (w1.alloc (.cells #[zg] 49)) (fun x=>x=w1.heap.size) (.slice (some ⟨w1.heap.size,0,none⟩) 1 1) 1 [zg]:=Rd.one' (w:=w1) (e:=49) [zg] 1 rfl
            have T3:Touch Sx Wd (w1.alloc (.cells #[zg] 49)):=T2.trans' (Touch.of_size B3 _)
            have z3:=Nat.le_trans z1 B3.size
            have og3:=own_below' og B3
            refine hK.out _ _ ?_ (fun hHeld=> ?_)
            ·exact Xhkx.out _ T3
            clear hK K
            try simp only [Act.put,sT,s0,s1]
            refine wpHq_ready (rs:=[9]) (by kernel_rfl) (by simp) (by kernel_rfl) ?_
            refine AllReadyQ.cons (o:= ?_) ?_ (fun K hK=> ?_) ?_;rotate_left 1;(focus((try simp only [gT,gs,gz]);try rfl))
            ·skip
             refine step_append _ rfl (.tmp 123) (.tmp 125) _ rfl Tryz.elemRI D2 (.slice Ag i cg') i _ rfl (og3) _ _ [zg] 1 rfl rfl (R3) Xzg1.out (by unfold maxLen;omega) (by omega) (z3) ?_
             intro G' cg2 w2 o2 r2 h2
             have T4:Touch Sx Wd w2:=(T3).grown r2 (fun k e _=>XhSxG.out k e)
             refine hK.out _ _ ?_ (fun hHeld=> ?_)
             ·exact Xhkx.out _ T4
             clear hK K
             try simp only [Act.put,sT,s0,s1]
             obtain⟨two',bT⟩:=Two.push hands_it hands_i Xtwo9.out XhD9.out Xea1.out Xea2.out Xea3.out Xeg1.out Xeg2.out Xeg3.out Xhrb3.out Xhtb3.out Xra.out Xrg.out (XBA.out) o1 r1 h1 (B3) o2 r2 h2
             rw [<-actsU_next,<-gotoU_next]at two'
             have kT10:=XkT9.out.touch T4 XhSB.out
             have mk10:=Xmk9.out.touch T4 XhSm.out
             have tt10:=Xtt9.out.trans T4 (fun k _ e=>XhS2.out k e)
             have f3:=kT10.frozen 3
             have f4:=kT10.frozen 4
             have p3:=(kT10.cell 3).trans rfl
             have p4:=(kT10.cell 4).trans rfl
             have kT11:=(kT10.put 3 (.slice A' (i+1) ca2)).put 4 (.slice G' (i+1) cg2)
             have tB:Touch (fun k=>k=Bt) w2 ((w2.setCell ⟨Bt,3,none⟩ (.slice A' (i+1) ca2)).setCell ⟨Bt,4,none⟩ (.slice G' (i+1) cg2)):=((Touch.refl (fun k=>k=Bt) w2).setCell (p:=⟨Bt,3,none⟩) (fun _=>rfl) _).setCell (p:=⟨Bt,4,none⟩) (fun _=>rfl) _
             have two11:=two'.touch hands_it hands_i tB (fun b hb _ e=>by have:=XhBtD.out;have:=XhD12.out;omega)
             have mk11:=mk10.touch tB (fun D' hD e=>by subst e;unfold Blk at kT10;rw [kT10]at hD;cases hD)
             have tt11:=tt10.trans tB (fun k _ e=>by subst e;exact Xs2B.out)
             clear o1 r1 h1 o2 r2 h2 T2 TA1 og z1 T4 kT10 mk10 tt10 two' bT tB
             obtain⟨Xtwo11,Xmk11,Xtt11,XkT11⟩:=HqZ4 two11 mk11 tt11 kT11;clear two11 mk11 tt11 kT11
             refine wpHq_seq 11 (by rfl) (by kernel_rfl) (by kernel_rfl) ?_
             simp only [List.drop_succ_cons,List.drop_zero]
             go_wp2_with fail
             refine HandE.mk ⟨_,_,_,_,_,_,_,_,_,_,_,_,_,_,_,_,_,_,_,_,_,_,_,_,_,_,_,_,_,_,_,_,_,_,_,_,_,_,_,_,_,_,_,_,_,_,_,_,_,_,_,_,_,_,_,_,_,_,_,_,_,_,_,_,_,_,⟨i+1,ca2,cg2,A',G',_,_,by omega,by go_num,Xmk11.out,Xtt11.out,XkT11.out,Xtwo11.out⟩,by simp [intOf];omega,rfl⟩
            ·exact AllReadyQ.nil
           ·exact AllReadyQ.nil
          ·refine AllReadyQ.cons (o:= ?_) ?_ (fun K hK=> ?_) ?_;rotate_left 1;(focus((try simp only [gT,gs,gz]);try rfl))
           ·refine Tryz.step_RI rfl (.tmp 124) rfl zg rfl XzgE.out ?_
            have B2:Below Wd.heap.size Wd ((Wd.alloc (.cells #[za] 113)).alloc (.cells #[zg] 49)):=XBA.out.alloc XBA.out.size _
            have TB2:Touch Sx Wd ((Wd.alloc (.cells #[za] 113)).alloc (.cells #[zg] 49)):=Touch.of_size B2 _
            have R2:Rd ((Wd.alloc (.cells #[za] 113)).alloc (.cells #[zg] 49)) (fun x=>x=Wd.heap.size) (.slice (some ⟨Wd.heap.size,0,none⟩) 1 1) 1 [za]:=Rd.below XRA.out ((Below.refl (Wd.heap.size+1) _).alloc (by simp) _) (fun k e=>by subst e;simp)
            have RG:Rd ((Wd.alloc (.cells #[za] 113)).alloc (.cells #[zg] 49)) (fun x=>x=(Wd.alloc (.cells #[za] 113)).heap.size) (.slice (some ⟨(Wd.alloc (.cells #[za] 113)).heap.size,0,none⟩) 1 1) 1 [zg]:=Rd.one' (w:=Wd.alloc (.cells #[za] 113)) (e:=49) [zg] 1 rfl
            have z2:=Nat.le_trans XhD9.out B2.size
            refine hK.out _ _ ?_ (fun hHeld=> ?_)
            ·exact Xhkx.out _ TB2
            clear hK K
            try simp only [Act.put,sT,s0,s1]
            refine wpHq_ready (rs:=[4]) (by kernel_rfl) (by simp) (by kernel_rfl) ?_
            refine AllReadyQ.cons (o:= ?_) ?_ (fun K hK=> ?_) ?_;rotate_left 1;(focus((try simp only [gT,gs,gz]);try rfl))
            ·skip
             refine step_append _ rfl (.tmp 118) (.tmp 120) _ rfl Tryz.elemRA D2 (.slice Ax i ca') i _ rfl (own_below' Xea2.out B2) _ _ [za] 1 rfl rfl (R2) Xza1.out (by unfold maxLen;omega) (by omega) (z2) ?_
             intro A' ca2 w1 o1 r1 h1
             have T2:Touch Sx Wd w1:=(TB2).grown r1 (fun k e _=>XhSxA.out k e)
             have TA1:Touch (fun k=>(Value.slice Ax i ca').ownBlock=some k) _ w1:=(Touch.refl _ _).grown r1 (fun k e _=>e)
             have og:=TA1.own (own_below' Xeg2.out B2) (fun b e e'=>Xtwo9.out.ne b e' e)
             have z1:=Nat.le_trans XhD9.out T2.size
             refine hK.out _ _ ?_ (fun hHeld=> ?_)
             ·exact Xhkx.out _ T2
             clear hK K
             try simp only [Act.put,sT,s0,s1]
             refine tkq (i:=10) (oi:= ?_) (v:= ?_) ?_ (by kernel_rfl) ?_ (Or.inl ⟨?_,?_⟩) (by assumption) ?_;rotate_left 2;(focus((try simp only [gT,gs,gz]);try rfl));(first|exact fun c a w h=>(markPost.panic h).elim|exact fun _ _ _ h=>h);rfl;(focus(intro wS hwS;(try dsimp only at hwS);go_simp;all_goals with_reducible rfl));try simp only [Act.put,sT,s0,s1]
             have RG2:Rd w1 (fun x=>x=(Wd.alloc (.cells #[za] 113)).heap.size) (.slice (some ⟨(Wd.alloc (.cells #[za] 113)).heap.size,0,none⟩) 1 1) 1 [zg]:=Rd.touch RG TA1 (fun b hb e=>by have:=XhAl.out b e;rw [World.size_alloc]at hb;omega)
             refine wpHq_ready (rs:=[9]) (by kernel_rfl) (by simp) (by kernel_rfl) ?_
             refine AllReadyQ.cons (o:= ?_) ?_ (fun K hK=> ?_) ?_;rotate_left 1;(focus((try simp only [gT,gs,gz]);try rfl))
             ·skip
              refine step_append _ rfl (.tmp 123) (.tmp 125) _ rfl Tryz.elemRI D2 (.slice Ag i cg') i _ rfl (og) _ _ [zg] 1 rfl rfl (RG2) Xzg1.out (by unfold maxLen;omega) (by omega) (z1) ?_
              intro G' cg2 w2 o2 r2 h2
              have T4:Touch Sx Wd w2:=(T2).grown r2 (fun k e _=>XhSxG.out k e)
              refine hK.out _ _ ?_ (fun hHeld=> ?_)
              ·exact Xhkx.out _ T4
              clear hK K
              try simp only [Act.put,sT,s0,s1]
              obtain⟨two',bT⟩:=Two.push hands_it hands_i Xtwo9.out XhD9.out Xea1.out Xea2.out Xea3.out Xeg1.out Xeg2.out Xeg3.out Xhrb3.out Xhtb3.out Xra.out Xrg.out (B2) o1 r1 h1 ((Below.refl _ _)) o2 r2 h2
              rw [<-actsU_next,<-gotoU_next]at two'
              have kT10:=XkT9.out.touch T4 XhSB.out
              have mk10:=Xmk9.out.touch T4 XhSm.out
              have tt10:=Xtt9.out.trans T4 (fun k _ e=>XhS2.out k e)
              have f3:=kT10.frozen 3
              have f4:=kT10.frozen 4
              have p3:=(kT10.cell 3).trans rfl
              have p4:=(kT10.cell 4).trans rfl
              have kT11:=(kT10.put 3 (.slice A' (i+1) ca2)).put 4 (.slice G' (i+1) cg2)
              have tB:Touch (fun k=>k=Bt) w2 ((w2.setCell ⟨Bt,3,none⟩ (.slice A' (i+1) ca2)).setCell ⟨Bt,4,none⟩ (.slice G' (i+1) cg2)):=((Touch.refl (fun k=>k=Bt) w2).setCell (p:=⟨Bt,3,none⟩) (fun _=>rfl) _).setCell (p:=⟨Bt,4,none⟩) (fun _=>rfl) _
              have two11:=two'.touch hands_it hands_i tB (fun b hb _ e=>by have:=XhBtD.out;have:=XhD12.out;omega)
              have mk11:=mk10.touch tB (fun D' hD e=>by subst e;unfold Blk at kT10;rw [kT10]at hD;cases hD)
              have tt11:=tt10.trans tB (fun k _ e=>by subst e;exact Xs2B.out)
              clear o1 r1 h1 o2 r2 h2 T2 TA1 og z1 T4 kT10 mk10 tt10 two' bT tB
              obtain⟨Xtwo11,Xmk11,Xtt11,XkT11⟩:=HqZ4 two11 mk11 tt11 kT11;clear two11 mk11 tt11 kT11
              refine wpHq_seq 11 (by rfl) (by kernel_rfl) (by kernel_rfl) ?_
              simp only [List.drop_succ_cons,List.drop_zero]
              go_wp2_with fail
              refine HandE.mk ⟨_,_,_,_,_,_,_,_,_,_,_,_,_,_,_,_,_,_,_,_,_,_,_,_,_,_,_,_,_,_,_,_,_,_,_,_,_,_,_,_,_,_,_,_,_,_,_,_,_,_,_,_,_,_,_,_,_,_,_,_,_,_,_,_,_,_,⟨i+1,ca2,cg2,A',G',_,_,by omega,by go_num,Xmk11.out,Xtt11.out,XkT11.out,Xtwo11.out⟩,by simp [intOf];omega,rfl⟩
             ·exact AllReadyQ.nil
            ·exact AllReadyQ.nil
           ·exact AllReadyQ.nil
         ·refine AllReadyQ.cons (o:= ?_) ?_ (fun K hK=> ?_) ?_;rotate_left 1;(focus((try simp only [gT,gs,gz]);try rfl))
          ·refine Tryz.step_RI rfl (.tmp 124) rfl zg rfl XzgE.out ?_
           refine hK.out _ _ ?_ (fun hHeld=> ?_)
           ·exact Xhkx.out _ XTG.out
           clear hK K
           try simp only [Act.put,sT,s0,s1]
           refine wpHq_ready (rs:=[3]) (by kernel_rfl) (by simp) (by kernel_rfl) ?_
           refine AllReadyQ.cons (o:= ?_) ?_ (fun K hK=> ?_) ?_;rotate_left 1;(focus((try simp only [gT,gs,gz]);try rfl))
           ·refine Tryz.step_RA rfl (.tmp 119) rfl za rfl XzaE.out ?_
            have B2:Below Wd.heap.size Wd ((Wd.alloc (.cells #[zg] 49)).alloc (.cells #[za] 113)):=XBG.out.alloc XBG.out.size _
            have TB2:Touch Sx Wd ((Wd.alloc (.cells #[zg] 49)).alloc (.cells #[za] 113)):=Touch.of_size B2 _
            have R2:Rd ((Wd.alloc (.cells #[zg] 49)).alloc (.cells #[za] 113)) (fun x=>x=(Wd.alloc (.cells #[zg] 49)).heap.size) (.slice (some ⟨(Wd.alloc (.cells #[zg] 49)).heap.size,0,none⟩) 1 1) 1 [za]:=Rd.one' (w:=Wd.alloc (.cells #[zg] 49)) (e:=113) [za] 1 rfl
            have RG:Rd ((Wd.alloc (.cells #[zg] 49)).alloc (.cells #[za] 113)) (fun x=>x=Wd.heap.size) (.slice (some ⟨Wd.heap.size,0,none⟩) 1 1) 1 [zg]:=Rd.below XRG.out ((Below.refl (Wd.heap.size+1) _).alloc (by simp) _) (fun k e=>by subst e;simp)
            have z2:=Nat.le_trans XhD9.out B2.size
            refine hK.out _ _ ?_ (fun hHeld=> ?_)
            ·exact Xhkx.out _ TB2
            clear hK K
            try simp only [Act.put,sT,s0,s1]
            refine wpHq_ready (rs:=[4]) (by kernel_rfl) (by simp) (by kernel_rfl) ?_
            refine AllReadyQ.cons (o:= ?_) ?_ (fun K hK=> ?_) ?_;rotate_left 1;(focus((try simp only [gT,gs,gz]);try rfl))
            ·skip
             refine step_append _ rfl (.tmp 118) (.tmp 120) _ rfl Tryz.elemRA D2 (.slice Ax i ca') i _ rfl (own_below' Xea2.out B2) _ _ [za] 1 rfl rfl (R2) Xza1.out (by unfold maxLen;omega) (by omega) (z2) ?_
             intro A' ca2 w1 o1 r1 h1
             have T2:Touch Sx Wd w1:=(TB2).grown r1 (fun k e _=>XhSxA.out k e)
             have TA1:Touch (fun k=>(Value.slice Ax i ca').ownBlock=some k) _ w1:=(Touch.refl _ _).grown r1 (fun k e _=>e)
             have og:=TA1.own (own_below' Xeg2.out B2) (fun b e e'=>Xtwo9.out.ne b e' e)
             have z1:=Nat.le_trans XhD9.out T2.size
             refine hK.out _ _ ?_ (fun hHeld=> ?_)
             ·exact Xhkx.out _ T2
             clear hK K
             try simp only [Act.put,sT,s0,s1]
             refine tkq (i:=10) (oi:= ?_) (v:= ?_) ?_ (by kernel_rfl) ?_ (Or.inl ⟨?_,?_⟩) (by assumption) ?_;rotate_left 2;(focus((try simp only [gT,gs,gz]);try rfl));(first|exact fun c a w h=>(markPost.panic h).elim|exact fun _ _ _ h=>h);rfl;(focus(intro wS hwS;(try dsimp only at hwS);go_simp;all_goals with_reducible rfl));try simp only [Act.put,sT,s0,s1]
             have RG2:Rd w1 (fun x=>x=Wd.heap.size) (.slice (some ⟨Wd.heap.size,0,none⟩) 1 1) 1 [zg]:=Rd.touch RG TA1 (fun b hb e=>by have:=XhAl.out b e;omega)
             refine wpHq_ready (rs:=[9]) (by kernel_rfl) (by simp) (by kernel_rfl) ?_
             refine AllReadyQ.cons (o:= ?_) ?_ (fun K hK=> ?_) ?_;rotate_left 1;(focus((try simp only [gT,gs,gz]);try rfl))
             ·skip
              refine step_append _ rfl (.tmp 123) (.tmp 125) _ rfl Tryz.elemRI D2 (.slice Ag i cg') i _ rfl (og) _ _ [zg] 1 rfl rfl (RG2) Xzg1.out (by unfold maxLen;omega) (by omega) (z1) ?_
              intro G' cg2 w2 o2 r2 h2
              have T4:Touch Sx Wd w2:=(T2).grown r2 (fun k e _=>XhSxG.out k e)
              refine hK.out _ _ ?_ (fun hHeld=> ?_)
              ·exact Xhkx.out _ T4
              clear hK K
              try simp only [Act.put,sT,s0,s1]
              obtain⟨two',bT⟩:=Two.push hands_it hands_i Xtwo9.out XhD9.out Xea1.out Xea2.out Xea3.out Xeg1.out Xeg2.out Xeg3.out Xhrb3.out Xhtb3.out Xra.out Xrg.out (B2) o1 r1 h1 ((Below.refl _ _)) o2 r2 h2
              rw [<-actsU_next,<-gotoU_next]at two'
              have kT10:=XkT9.out.touch T4 XhSB.out
              have mk10:=Xmk9.out.touch T4 XhSm.out
              have tt10:=Xtt9.out.trans T4 (fun k _ e=>XhS2.out k e)
              have f3:=kT10.frozen 3
              have f4:=kT10.frozen 4
              have p3:=(kT10.cell 3).trans rfl
              have p4:=(kT10.cell 4).trans rfl
              have kT11:=(kT10.put 3 (.slice A' (i+1) ca2)).put 4 (.slice G' (i+1) cg2)
              have tB:Touch (fun k=>k=Bt) w2 ((w2.setCell ⟨Bt,3,none⟩ (.slice A' (i+1) ca2)).setCell ⟨Bt,4,none⟩ (.slice G' (i+1) cg2)):=((Touch.refl (fun k=>k=Bt) w2).setCell (p:=⟨Bt,3,none⟩) (fun _=>rfl) _).setCell (p:=⟨Bt,4,none⟩) (fun _=>rfl) _
              have two11:=two'.touch hands_it hands_i tB (fun b hb _ e=>by have:=XhBtD.out;have:=XhD12.out;omega)
              have mk11:=mk10.touch tB (fun D' hD e=>by subst e;unfold Blk at kT10;rw [kT10]at hD;cases hD)
              have tt11:=tt10.trans tB (fun k _ e=>by subst e;exact Xs2B.out)
              clear o1 r1 h1 o2 r2 h2 T2 TA1 og z1 T4 kT10 mk10 tt10 two' bT tB
              obtain⟨Xtwo11,Xmk11,Xtt11,XkT11⟩:=HqZ4 two11 mk11 tt11 kT11;clear two11 mk11 tt11 kT11
              refine wpHq_seq 11 (by rfl) (by kernel_rfl) (by kernel_rfl) ?_
              simp only [List.drop_succ_cons,List.drop_zero]
              go_wp2_with fail
              refine HandE.mk ⟨_,_,_,_,_,_,_,_,_,_,_,_,_,_,_,_,_,_,_,_,_,_,_,_,_,_,_,_,_,_,_,_,_,_,_,_,_,_,_,_,_,_,_,_,_,_,_,_,_,_,_,_,_,_,_,_,_,_,_,_,_,_,_,_,_,_,⟨i+1,ca2,cg2,A',G',_,_,by omega,by go_num,Xmk11.out,Xtt11.out,XkT11.out,Xtwo11.out⟩,by simp [intOf];omega,rfl⟩
             ·exact AllReadyQ.nil
            ·exact AllReadyQ.nil
           ·exact AllReadyQ.nil
          ·exact AllReadyQ.nil
     ·have hlt': ¬(i:Int)<(nb:Int):=by omega
      obtain rfl:i=nb:=by omega
      have kR2:Blk wr (w.heap.size+1) 35 #[.slice none 0 0,.int .i64 0,.int .i64 0,.slice none 0 0,.slice none 0 0]:=XkR.out.touch tt' (Xs2F.out _ (by have:=XhBtD.out;have:=XhwB.out;have:=XhD12.out;omega) (by have:=XhwB.out;omega))
      have ro2:=Xro.out.touch hands_r tt' (fun b e=>Xs2F.out b (by have:=Xro.out.block b e;have:=XhD2.out;omega) (by have:=Xro.out.block b e;have:=XhBtD.out;omega)) (fun b hb hbl=>Xs2F.out b (by have:=XhD2.out;omega) (by
       rcases hb with hb|hb
       ·have:=XhF.out b hb;have:=XhwB.out;omega
       ·have:=XhBtD.out;omega))
      obtain⟨FW,hFW⟩: ∃FW:Nat->Prop,FW=fun b=>(F b\/D1<=b)/\b<wr.heap.size:=⟨_,rfl⟩
      have rr:=RM.rules (F:=FW) ro2 (fun b h1 h2=>by rw [hFW];exact⟨.inr h1,h2⟩) (fun b h1 h2=>by rw [hFW];exact⟨h1,h2⟩)
      have raa:=RM.rw (F:=FW) hands_it two.a (fun b h1 h2=>by rw [hFW];exact⟨.inr (Nat.le_trans XhD12.out h1),h2⟩) (fun b h1 h2=>by rw [hFW];exact⟨.inr (Nat.le_trans XhD12.out (two.lA b h1).1),h2⟩)
      have rgg:=RM.rw (F:=FW) hands_i two.g (fun b h1 h2=>by rw [hFW];exact⟨.inr (Nat.le_trans XhD12.out h1),h2⟩) (fun b h1 h2=>by rw [hFW];exact⟨.inr (Nat.le_trans XhD12.out (two.lG b h1).1),h2⟩)
      have hck:=Xhai.out.ok.1
      have w64:=tab_w64 (D:=D) (LL:=looksD G st D) hck
      have hFS: ∀b,FW b-> ¬b=w.heap.size+1:=fun b hb e=>by
       rw [hFW]at hb
       rcases hb.1 with h|h
       ·have:=XhF.out b h;omega
       ·have:=XhBtD.out;have:=XhwB.out;omega
      have hb6:=tt'.toBelow (fun b hb=>by
       rcases Nat.lt_or_ge b D2 with h1|h1
       ·by_cases e:b=Bt
        ·have:=XhwB.out;omega
        ·exact absurd hb (Xs2F.out b h1 e)
       ·have:=XhwB.out;have:=XhBtD.out;have:=XhD12.out;omega) XbW.out XbW.out.size
      have p0:=(kT.cell 0).trans rfl
      have p1:=(kT.cell 1).trans rfl
      have p2:=(kT.cell 2).trans rfl
      have p3:=(kT.cell 3).trans rfl
      have p4:=(kT.cell 4).trans rfl
      have d0:=(kR2.cell 0).trans rfl
      have d1:=(kR2.cell 1).trans rfl
      have d2:=(kR2.cell 2).trans rfl
      have d3:=(kR2.cell 3).trans rfl
      have d4:=(kR2.cell 4).trans rfl
      have z0:=kR2.frozen 0
      have z1:=kR2.frozen 1
      have z2:=kR2.frozen 2
      have z3:=kR2.frozen 3
      have z4:=kR2.frozen 4
      have hdw:=hDw2
      clear gk kMr rsr rdr hDw2 hlt hi
      obtain⟨Xmk,Xtt',XkT,Xtwo,XkR2,Xro2,XhFW,Xrr,Xraa,Xrgg,Xhck,Xw64,XhFS,Xhb6⟩:=HqZ14 mk tt' kT two kR2 ro2 hFW rr raa rgg hck w64 hFS hb6;have Xhdw:=hide hdw;clear mk tt' kT two kR2 ro2 hFW rr raa rgg hck w64 hFS hb6 hdw
      go_wp2_with fail
      have k5:=((((XkR2.out.put 0 (.slice A m c)).put 1 (.int .i64 (T:Int))).put 2 (.int .i64 (N:Int))).put 3 (.slice Ax i ca')).put 4 (.slice Ag i cg')
      have t5:=touch_five wr (w.heap.size+1) (.slice A m c) (.int .i64 (T:Int)) (.int .i64 (N:Int)) (.slice Ax i ca') (.slice Ag i cg')
      have mk5:=Xmk.out.touch t5 (fun D' hD e=>by
       subst e
       have:=XkR2.out
       unfold Blk at this
       rw [this]at hD;cases hD)
      refine markPost.of D2 mk5 fun w' hcw hbw=> ?_
      have e0:=hcw _ _ ((k5.cell 0).trans rfl)
      have e1:=hcw _ _ ((k5.cell 1).trans rfl)
      have e2:=hcw _ _ ((k5.cell 2).trans rfl)
      have e3:=hcw _ _ ((k5.cell 3).trans rfl)
      have e4:=hcw _ _ ((k5.cell 4).trans rfl)
      refine bodyPost_ret (v:= .tuple #[TV (.slice A m c) T N (.slice Ax i ca') (.slice Ag i cg'),.int .i64 0]) (by simp [results,Tryz.results19,go_sem,e0,e1,e2,e3,e4]) rfl ?_
      have b5:=t5.toBelow (fun k e=>by omega) Xhb6.out Xhb6.out.size
      have b7:=b5.trans (hbw.mono (by have:=XhBtD.out;have:=XhwB.out;have:=XhD12.out;omega))
      refine⟨b7,0,D,Xhai.out,.inr ⟨rfl,Xhcnil.out,_,_,_,by rw [XhT.out,XhN.out],?_⟩⟩
      have hsz:wr.heap.size<=w'.heap.size:=Nat.le_trans t5.size hbw.size
      refine tab_cw (F:=FW) (t:=tabD G st D (looksD G st D)) Xrr.out ?_ ?_ t5 XhFS.out hcw (fun b hb=> ?_) (fun b hb=>hb.2) Xw64.out.1 Xw64.out.2
      ·have:=Xraa.out
       unfold tabD
       simp only
       rw [XhR.out,XhT.out,<-Xhna.out]
       exact this
      ·have:=Xrgg.out
       unfold tabD
       simp only
       rw [XhT.out,XhN.out,<-Xhna.out]
       exact this
      ·rw [XhFW.out]at hb
       refine⟨?_,Nat.lt_of_lt_of_le hb.2 hsz⟩
       rcases hb.1 with h|h
       ·exact .inl h
       ·exact .inr (by have:=XhBtD.out;have:=XhwB.out;omega)
 ·have hev':(ev !=0)=true:=by simpa using hev
  obtain⟨d0,d1,d2,d3,d4⟩:w3a.cell? ⟨w.heap.size+1,0,none⟩=some (.slice none 0 0)/\w3a.cell? ⟨w.heap.size+1,1,none⟩=some (.int .i64 0)/\w3a.cell? ⟨w.heap.size+1,2,none⟩=some (.int .i64 0)/\w3a.cell? ⟨w.heap.size+1,3,none⟩=some (.slice none 0 0)/\w3a.cell? ⟨w.heap.size+1,4,none⟩=some (.slice none 0 0):=⟨(k3.cell 0).trans rfl,(k3.cell 1).trans rfl,(k3.cell 2).trans rfl,(k3.cell 3).trans rfl,(k3.cell 4).trans rfl⟩
  have z0:=k3.frozen 0
  have z1:=k3.frozen 1
  have z2:=k3.frozen 2
  have z3:=k3.frozen 3
  have z4:=k3.frozen 4
  clear hrd' kM hz3a hzm
  obtain⟨Xg3,Xk3,Xb03,Xhai,Xhev⟩:=HqZ5 g3 k3 b03 hai hev;clear g3 k3 b03 hai hev
  rw [hw3]at d0 d1 d2 d3 d4 z0 z1 z2 z3 z4
  go_wp2_with fail
  rw [<-hw3]
  refine markPost.bare fun w' hcw hbw=> ?_
  have k5:=((((Xk3.out.put 0 (.slice none 0 0)).put 1 (.int .i64 0)).put 2 (.int .i64 0)).put 3 (.slice none 0 0)).put 4 (.slice none 0 0)
  have t5:=touch_five w3a (w.heap.size+1) (.slice none 0 0) (.int .i64 0) (.int .i64 0) (.slice none 0 0) (.slice none 0 0)
  have e0:=hcw _ _ ((k5.cell 0).trans rfl)
  have e1:=hcw _ _ ((k5.cell 1).trans rfl)
  have e2:=hcw _ _ ((k5.cell 2).trans rfl)
  have e3:=hcw _ _ ((k5.cell 3).trans rfl)
  have e4:=hcw _ _ ((k5.cell 4).trans rfl)
  refine bodyPost_ret (v:= .tuple #[TV (.slice none 0 0) 0 0 (.slice none 0 0) (.slice none 0 0),.int .i64 ev]) (by simp [results,Tryz.results19,go_sem,e0,e1,e2,e3,e4]) rfl ?_
  have b05:=t5.toBelow (fun k e=>by omega) Xb03.out Xb03.out.size
  exact⟨b05.trans (hbw.mono b05.size),ev,D,Xhai.out,.inl ⟨ev,rfl,.inl ⟨Xhev.out,rfl⟩⟩⟩
end Go.Proofs.YthlbjgabhpdbfaaGreat

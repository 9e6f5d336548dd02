/- Lookaheads: what they are, in one word; the maker as it begins. -/
import Derived.Test.YtlpokomfljmogaaGreatRLook14
import Derived.Test.YtlpokomfljmogaaGreatRAuto15
namespace Go.Proofs.YtlpokomfljmogaaGreat
set_option linter.unusedVariables false
set_option linter.unusedSimpArgs false
open Go.RowKit Go.Maps
attribute [local irreducible] wpStill wpOne wpPh
def lnI (G:GramD) (st k:Int):Int:=((rgt G st k).length:Int)
noncomputable def lksD (G:GramD) (st:Int) (D:Sts0) (i:Nat) (e:List It×List It):List Lk:=(List.range (G.rules.length+1)).filterMap fun k:Nat=>if toB (Cl G st e.1 ((k:Int),lnI G st k))=true then some ((k:Int),tmsOf (G.terms.length+1) (fun t=>toB (LA G st D i ((k:Int),lnI G st k) t)))else none
noncomputable def looksD (G:GramD) (st:Int) (D:Sts0):List (List Lk):=D.mapIdx fun i e=>lksD G st D i e
theorem looksD_len (G:GramD) (st:Int) (D:Sts0):(looksD G st D).length=D.length:=by unfold looksD;simp
theorem looksD_get {G:GramD} {st:Int} {D:Sts0} {i:Nat} {e:List It×List It} (h:D[i]? =some e):(looksD G st D)[i]? =some (lksD G st D i e):=by
 unfold looksD
 rw [List.getElem?_mapIdx,h];rfl
theorem fmap_congr {X Y:Type} {f g:X→Option Y}: ∀{l:List X},(∀x∈l,f x=g x)→l.filterMap f=l.filterMap g
 |[],_=>rfl
 |a::r,h=>by
  rw [List.filterMap_cons,List.filterMap_cons,h a (List.mem_cons_self ..),fmap_congr (fun x hx=>h x (List.mem_cons_of_mem _ hx))]
structure DoneY (d:LD) (y:Dy):Prop where
 it:ItI d d.cm y
 full: ∀p i x,KP d.D p i x→Full d.G d.st d.D d.cm y.ed y.fi p i x
theorem LkIs.is {d:LD} {y:Dy} {F':Nat→Nat→Bool} {i:Nat} {e:List It×List It} {L:List Lk} (hL:LkD d) (hY:DoneY d y) (hF:Spread (d.T+1) y.na y.F y.ed F') (he:d.D[i]? =some e) (h:LkIs d {y with F:=F'} i L):L=lksD d.G d.st d.D i e:=by
 obtain⟨f,hf,rfl⟩:=h
 rw [hY.it.F]at hF
 have hla:=fun{p i t x} hp=>la_iff (p:=p) (i:=i) (t:=t) (x:=x) hL.hA hY.it.fi hL.co hY.it.ed hY.full hF hp
 unfold lkUpto lksD
 refine fmap_congr fun k hk=> ?_
 have hkR:k≤d.G.rules.length:=by have:=List.mem_range.1 hk;omega
 have h1: ∀p,Pl d.D y.fi p i ((k:Int),lnI d.G d.st k)→Cl d.G d.st e.1 ((k:Int),lnI d.G d.st k):=fun p hp=>by
  rcases hp with h|⟨k',h1,h2⟩
  ·obtain⟨e',he',hx⟩:=h.mem
   rw [he]at he'
   injection he' with he'
   subst he'
   exact .base _ hx (hL.hA.kern i e _ he hx).1
  ·obtain⟨e',x,s,he',hx,hb,hn,c,hc,hk'⟩:=hY.it.src i k' p h2
   rw [he]at he'
   injection he' with he'
   subst he'
   rw [h1]
   exact cl_bg (.base x hx (hL.hA.kern i e x he hx).1) hb (((hL.co s hn).mem c.s).1 ⟨c,hc,rfl⟩) hk'
 have h2:Cl d.G d.st e.1 ((k:Int),lnI d.G d.st k)→ ∃p,Pl d.D y.fi p i ((k:Int),lnI d.G d.st k):=fun hc=>by
  rcases(cl_iff hL.hK.toKnI (fun x hx=>(hL.hA.kern i e x he hx).1) _).1 hc with hx|⟨x,hx,n,m,k',hb,hn,hm,hk',e1⟩
  ·obtain⟨p,hp⟩:=KP.of_mem he hx
   exact⟨p,.inl hp⟩
  ·injection e1 with e1 e2
   obtain⟨p,hp⟩:=KP.of_mem he hx
   obtain⟨c,hc,hcs⟩:=((hL.co n hn).mem m).2 hm
   have hr:rgt d.G d.st k'=[]:=by
    rw [←e1]
    unfold lnI at e2
    exact List.eq_nil_of_length_eq_zero (by omega)
   obtain⟨p',hp'⟩:=(((hY.full p i x hp) n hb).2 hn c hc k' (by rw [hcs];exact hk')).1 hr
   exact⟨p',.inr ⟨k',by rw [e2,e1],hp'⟩⟩
 cases hfk:f (k:Int)with
 |none=>
  rw [if_neg (fun hc=>by
   obtain⟨p,hp⟩:=h2 (toB_iff.1 hc)
   have:=(hf (k:Int) (p:Int)).2 ⟨p,rfl,hp⟩
   rw [hfk]at this
   cases this)]
  rfl
 |some v=>
  obtain⟨p,rfl,hp⟩:=(hf (k:Int) v).1 hfk
  rw [if_pos (toB_iff.2 (h1 p hp))]
  show some ((k:Int),tmsOf (d.T+1) (F' ((p:Nat):Int).toNat))=_
  rw [Int.toNat_natCast,show F' p=fun t=>toB (LA d.G d.st d.D i ((k:Int),lnI d.G d.st k) t)from funext fun t=>bool_of ((hla hp).trans toB_iff.symm)]
  rfl
def d0 (G:GramD) (st:Int) (D:Sts0):LD:=⟨G,st,D,[],[],0,fun _=>[],0,fun _=>[],[]⟩
def y0 (n:Nat):Dy:=⟨n,fun _=>noBits,[],fun _=>[]⟩
theorem fresh_y0 (n:Nat):freshD (y0 n)=y0 (n+1):=by
 unfold freshD y0
 have:(upd (fun _=>noBits) n noBits:Nat→Nat→Bool)=fun _=>noBits:=by
  funext p
  by_cases e:p=n
  ·subst e;rw [upd_same]
  ·rw [upd_ne e]
 rw [this]
theorem MK.start {w2 w4:World} {F:Nat→Prop} {A1:Option Addr} {c1:Nat} {A2:Option Addr} {c2:Nat} {A3:Option Addr} {c3:Nat} {Al:Option Addr} {cl T N R n:Nat} {G:GramD} {st:Int} {D:Sts0} {P M:Nat} {tP:TypeId} (hT:G.terms.length=T) (hN:G.nons.length=N) (hR:G.rules.length=R) (hn:n=D.length) (hg:IsGram w2 F (.slice A1 T c1) (.slice A2 N c2) (.slice A3 R c3) G) (hF: ∀b,F b→b<w2.heap.size)
  (hl:RdSt w2 (fun b=>b<w2.heap.size) (.slice Al n cl) D) (b:Below w2.heap.size w2 w4) (hP:w2.heap.size≤P) (kP:Blk w4 P tP (madeCells #[.slice none 0 0] n)) (hM:w2.heap.size≤M) (hPM:P≠M)
  (kM:Blk w4 M 126 #[.slice A1 T c1,.slice A2 N c2,.slice A3 R c3,.int .i64 st,.slice Al n cl,.slice none 0 0,.slice none 0 0,.slice none 0 0,.slice none 0 0,.slice none 0 0,.slice none 0 0,.slice none 0 0,.slice (some ⟨P,0,none⟩) n n]):
  ∃q:LQ,MK w4 q (d0 G st D) (y0 0)∧q.M=M∧ ∀b,b<w2.heap.size→q.ow b=1:=by
 subst hT hN hR hn
 obtain⟨ow,how⟩: ∃ow:Nat→Nat,ow=fun b=>if b<w2.heap.size then 1 else if b=P then 10 else if b=M then 0 else 2:=⟨_,rfl⟩
 have o1: ∀b,b<w2.heap.size→ow b=1:=fun b hb=>by rw [how];simp [hb]
 have oP:ow P=10:=by rw [how];show(if P<w2.heap.size then 1 else if P=P then 10 else if P=M then 0 else 2)=10;rw [if_neg (by omega),if_pos rfl]
 have oM:ow M=0:=by rw [how];show(if M<w2.heap.size then 1 else if M=P then 10 else if M=M then 0 else 2)=0;rw [if_neg (by omega),if_neg (fun e=>hPM e.symm),if_pos rfl]
 have t1: ∀b,b<w2.heap.size→TF w4 ow (fun t=>t=1) b:=fun k hk=>⟨Nat.lt_of_lt_of_le hk b.size,o1 k hk⟩
 refine⟨⟨M,ow,F,A1,c1,A2,c2,A3,c3,Al,cl,none,0,none,0,.slice none 0 0,.slice none 0 0,none,0,none,0,fun _=>0,fun _ _=>False,none,0,P⟩,⟨⟨hg.below b,fun k hk=>t1 k (hF k hk),(hl.below b (fun _ h=>h)).mono t1,?_,?_,.inl ⟨rfl,rfl⟩,.inl ⟨rfl,rfl⟩,Row.nil _ _ _ _ _,?_,?_,⟨fun _=> .slice none 0 0,?_⟩⟩,kM,oM⟩,rfl,o1⟩
 ·exact⟨[],rfl,Row.nil _ _ _ _ _,fun i z r h=>by simp at h⟩
 ·exact⟨[],rfl,Row.nil _ _ _ _ _,fun i z r h=>by simp at h⟩
 ·exact⟨Row.nil _ _ _ _ _,fun i hi=>absurd hi (Nat.not_lt_zero _),fun i k hi=>absurd hi (Nat.not_lt_zero _),fun i j k hi=>absurd hi (Nat.not_lt_zero _)⟩
 ·exact⟨[],rfl,Row.nil _ _ _ _ _,fun i z r h=>by simp at h⟩
 ·exact Rows.made kP oP
def RdLks (V:World) (F:Nat→Prop) (v:Value) (LL:List (List Lk)):Prop:= ∃Z:List Value,Z.length=LL.length∧Rd V F v 1 Z∧ ∀(j:Nat) z L,Z[j]? =some z→LL[j]? =some L→RdLk V F z L
section
variable {V V' : World} {F F' S : Nat → Prop} {v : Value} {LL : List (List Lk)}
theorem RdLks.nil (V:World) (F:Nat→Prop):RdLks V F (.slice none 0 0) []:=⟨[],rfl,Rd.nil _ _ _,fun j z L h=>by simp at h⟩
theorem RdLks.mono (h:RdLks V F v LL) (hF: ∀b,F b→F' b):RdLks V F' v LL:=by
 obtain⟨Z,h1,h2,h3⟩:=h
 exact⟨Z,h1,h2.mono hF,fun j z x hz hx=>(h3 j z x hz hx).mono hF⟩
theorem RdLks.below {B:Nat} (h:RdLks V F v LL) (b:Below B V V') (hF: ∀k,F k→k<B):RdLks V' F v LL:=by
 obtain⟨Z,h1,h2,h3⟩:=h
 exact⟨Z,h1,h2.below b hF,fun j z x hz hx=>(h3 j z x hz hx).below b hF⟩
end
structure LksM (base:Nat) (w:World) (A:Option Addr) (n c:Nat) (LL:List (List Lk)):Prop where
 ex: ∃Z:List Value,Z.length=LL.length∧w.ownsRow base 76 1 (.slice A n c) n Z∧ ∀(j:Nat) z x,Z[j]? =some z→LL[j]? =some x→RdLk w (fun b=>base≤b∧b<w.heap.size∧(Value.slice A n c).ownBlock≠some b) z x
 hn:n=LL.length
section
variable {base n b : Nat} {w w1 w2 w3 : World} {A A' : Option Addr} {c c' : Nat} {LL : List (List Lk)} {Z : List Value}
theorem LksM.nil (base:Nat) (w:World):LksM base w none 0 0 []:=⟨⟨[],rfl,World.ownsRow_nil _ _ _ _,fun j p x h=>by simp at h⟩,rfl⟩
theorem LksM.push {z:Value} {l:List Lk} (hn:n=LL.length) (h1:Z.length=LL.length) (h2:w.ownsRow base 76 1 (.slice A n c) n Z) (h3: ∀(j:Nat) z x,Z[j]? =some z→LL[j]? =some x→RdLk w (fun b=>base≤b∧b<w.heap.size∧(Value.slice A n c).ownBlock≠some b) z x) (hbase:base≤w.heap.size)
  (hs:RdLk w1 (fun b=>w.heap.size≤b∧b<w1.heap.size) z l) (b1:Below w.heap.size w w1) (b2:Below w1.heap.size w1 w2)
  (own:w3.ownsRow base 76 1 (.slice A' (n+1) c') (n+1) (Z++[z])) (g:w2.grownBy w3 (Value.slice A n c).ownBlock) (ho:(Value.slice A' (n+1) c').ownBlock=(Value.slice A n c).ownBlock∨(Value.slice A' (n+1) c').ownBlock=some w2.heap.size):
  LksM base w3 A' (n+1) c' (LL++[l])∧Below base w w3:=by
 have t:Touch (fun k=>(Value.slice A n c).ownBlock=some k) w2 w3:=(Touch.refl _ _).grown g (fun k e _=>e)
 have b12:=b1.trans (b2.mono b1.size)
 have hvl: ∀k,(Value.slice A n c).ownBlock=some k→base≤k∧k<w.heap.size:=fun k e=>h2.lt k e
 have hnew: ∀k,(Value.slice A' (n+1) c').ownBlock=some k→(Value.slice A n c).ownBlock=some k∨k=w2.heap.size:=fun k hk=>by
  rcases ho with ho|ho
  ·exact .inl (ho▸hk)
  ·rw [ho]at hk;injection hk with hk;exact .inr hk.symm
 have s1:=b1.size
 have s2:=b2.size
 have s3:=t.size
 refine⟨⟨⟨Z++[z],by simp [h1],own,fun j p x hp hx=> ?_⟩,by rw [List.length_append,←hn];rfl⟩,t.toBelow (fun k e=>(hvl k e).1) (b12.mono hbase) (Nat.le_trans hbase b12.size)⟩
 by_cases hj:j<Z.length
 ·rw [List.getElem?_append_left hj]at hp
  rw [List.getElem?_append_left (by omega)]at hx
  refine(((h3 j p x hp hx).touch (Touch.of_size b12 (fun _=>False)) (fun _ _ e=>e)).touch t (fun k hk=>hk.2.2)).mono fun k hk=>⟨hk.1,by omega,fun e=> ?_⟩
  rcases hnew k e with e|e
  ·exact hk.2.2 e
  ·omega
 ·have hj':j=Z.length:=by have:=(List.getElem?_eq_some_iff.1 hp).1;simp at this;omega
  subst hj'
  rw [List.getElem?_append_right (Nat.le_refl _),Nat.sub_self]at hp
  rw [List.getElem?_append_right (by omega),h1,Nat.sub_self]at hx
  injection hp with hp
  injection hx with hx
  subst hp hx
  refine(((hs.touch (Touch.of_size b2 (fun _=>False)) (fun _ _ e=>e)).touch t (fun k hk e=>by have:=hvl k e;omega))).mono fun k hk=>⟨by omega,by omega,fun e=> ?_⟩
  rcases hnew k e with e|e
  ·have:=hvl k e;omega
  ·omega
theorem LksM.rd (h:LksM base w A n c LL):RdLks w (fun b=>base≤b∧b<w.heap.size) (.slice A n c) LL:=by
 obtain⟨Ps,h1,h2,h3⟩:=h.ex
 exact⟨Ps,h1,(Rd.of_own h2).mono (fun k hk=>h2.lt k hk),fun j p x hp hx=>(h3 j p x hp hx).mono fun k hk=>⟨hk.1,hk.2.1⟩⟩
end
theorem Tryz.infoLooks:(Tryz.prog.info? 76).map (fun i=>(i.zero,i.size,i.bytes))=some (some (.slice none 0 0),1,24):=by kernel_rfl
theorem Tryz.elemLooks:Elem Tryz.prog 71 76 (.slice none 0 0) 1 24:=⟨Tryz.underlying71,Tryz.infoLooks,rfl,by decide⟩
theorem Tryz.infoFinals:(Tryz.prog.info? 199).map (fun i=>(i.zero,i.size,i.bytes))=some (some (.slice none 0 0),1,24):=by kernel_rfl
theorem make_finals (n:Nat) (hn:n≤65536) (w:World):(Instr.makeSlice 120 (.int .i64 (n:Int)) (.int .i64 (n:Int))).run Tryz.prog w= .ok (.slice (some ⟨w.heap.size,0,none⟩) n n) (w.alloc (.cells (madeCells #[.slice none 0 0] n) 199)):=
 run_make_row' _ _ _ 24 Tryz.underlying120 Tryz.infoFinals rfl .i64 .i64 n (by omega) (by omega) w
def LookPost (w:World) (G:GramD) (st ck:Int) (e:Ending) (w':World):Prop:=Below w.heap.size w w'∧ ∃A n c ev D,e= .returned (.tuple #[.slice A n c,.int .i64 ev])∧AutoIs G st ck ev D∧RdLks w' (fun b=>w.heap.size≤b∧b<w'.heap.size) (.slice A n c) (looksD G st D)
noncomputable def dB (G:GramD) (st:Int) (D:Sts0) (cm:Nat→List Co) (i:Nat):LD:={prepD (d0 G st D) cm with ba:=(List.range i).map fun j=>((preD D j:Nat):Int)}
theorem dB_len (G:GramD) (st:Int) (D:Sts0) (cm:Nat→List Co) (i:Nat):(dB G st D cm i).ba.length=i:=by unfold dB;simp
theorem dB_get {G:GramD} {st:Int} {D:Sts0} {cm:Nat→List Co} {i j:Nat} (h:j<i):(dB G st D cm i).ba[j]? =some ((preD D j:Nat):Int):=by
 show((List.range i).map fun j=>((preD D j:Nat):Int))[j]? =_
 rw [List.getElem?_map,List.getElem?_range h];rfl
theorem dB_next (G:GramD) (st:Int) (D:Sts0) (cm:Nat→List Co) (i:Nat):({dB G st D cm i with ba:=(dB G st D cm i).ba++[((preD D i:Nat):Int)]}:LD)=dB G st D cm (i+1):=by
 unfold dB
 simp only [List.range_succ,List.map_append,List.map_cons,List.map_nil]
def yF (n:Nat):Dy:=⟨n,F00,[],fun _=>[]⟩
theorem yF_put (T n:Nat):({y0 n with F:=setF (y0 n).F 0 (putSet (T+1) noBits 0)}:Dy)=yF n:=by
 unfold yF y0
 have:setF (fun _=>noBits) 0 (putSet (T+1) noBits 0)=F00:=by
  funext p t
  unfold setF F00 putSet noBits
  by_cases hp:p=0
  ·subst hp
   simp
  ·simp [hp]
 simp only [this]
theorem yF_it {d:LD} (h1:1≤preD d.D d.D.length):ItI d d.cm (yF (preD d.D d.D.length)) where
 fi:=⟨Nat.le_refl _,fun i k p h=>(by cases h),fun i=>List.nodup_nil,fun i i' k k' p h=>(by cases h),fun i _=>rfl⟩
 ed:=fun e he=>by cases he
 cnt:=by
  have:=sumFi_le (fi:=(yF (preD d.D d.D.length)).fi) (B:=0) (fun i=>Nat.le_refl _) d.D.length
  show preD d.D d.D.length=preD d.D d.D.length+_
  omega
 F:=rfl
 pos:=h1
 src:=fun i k p h=>by cases h
theorem LkD.mk' {G:GramD} {st:Int} {L T:List (List It)} {cm:Nat→List Co} (hb:Bld G st L.length L T) (hK:KnA G st) (hc: ∀s:Int,isNon G s=true→ComesOf G st s (cm s.toNat)):LkD (dB G st (stD L T) cm (stD L T).length) where
 hP:=⟨(prepD_is (d0 G st (stD L T)) cm).rl,(prepD_is (d0 G st (stD L T)) cm).rs,(prepD_is (d0 G st (stD L T)) cm).tll,(prepD_is (d0 G st (stD L T)) cm).tl,(prepD_is (d0 G st (stD L T)) cm).nu,(prepD_is (d0 G st (stD L T)) cm).ru⟩
 nc:=rfl
 hK:=hK
 hA:=IsAuto.of_bld hb hK
 ba:=fun j hj=>dB_get hj
 bl:=dB_len _ _ _ _ _
 co:=hc
end Go.Proofs.YtlpokomfljmogaaGreat
namespace Go.Proofs.YtlpokomfljmogaaGreat
set_option linter.unusedVariables false
set_option linter.unusedSimpArgs false
open Go.RowKit Go.Maps
attribute [local irreducible] wpStill wpOne wpPh
theorem look_no {w w2:World} {G:GramD} {st ck ev:Int} {D:Sts0} (b:Below w.heap.size w w2) (h:AutoIs G st ck ev D) (he:ev≠0):LookPost w G st ck (.returned (.tuple #[.slice none 0 0,.int .i64 ev])) w2:=by
 refine⟨b,none,0,0,ev,D,rfl,h,?_⟩
 have:D=[]:=by
  rcases h with⟨-,-,h⟩|⟨-,-,-,h⟩|⟨-,L,T,-,h,-⟩
  ·exact h
  ·exact h
  ·exact absurd h he
 subst this
 exact RdLks.nil _ _
set_option maxRecDepth 100000 in
set_option maxHeartbeats 16000000 in
theorem look_Of {w:World} {F:Nat→Prop} {vt vn vr:Value} {G:GramD} (h:IsGram w F vt vn vr G) (hF: ∀b,F b→b<w.heap.size) (st:Int):
  Calls Tryz.prog 46 #[GV vt vn vr st] w (LookPost w G st (checkOf G st)):=by
 obtain⟨A1,c1,A2,c2,A3,c3,rfl,rfl,rfl,-⟩:=h.slices
 obtain⟨w1,hw1⟩: ∃w1,w1=w.alloc (.cells #[.slice A1 G.terms.length c1,.slice A2 G.nons.length c2,.slice A3 G.rules.length c3,.int .i64 st] 25):=⟨_,rfl⟩
 have g1:=GBox.new h st
 have b1:Below w.heap.size w w1:=by rw [hw1];exact(Below.refl _ w).alloc (Nat.le_refl _) _
 rw [←hw1]at g1
 have cb:=auto_build g1.gram (fun b hb=>Nat.lt_of_lt_of_le (hF b hb) b1.size) st
 obtain⟨q0,q1,q2,q3⟩:=g1.cells
 obtain⟨ck,hck⟩: ∃x,x=checkOf G st:=⟨_,rfl⟩
 rw [←hck]at cb⊢
 generalize hT:G.terms.length=T at *
 generalize hN:G.nons.length=N at *
 generalize hR:G.rules.length=R at *
 rw [hw1]at cb q0 q1 q2 q3
 clear h
 have XhF:=hide hF;have Xg1:=hide g1;have Xb1:=hide b1;have Xcb:=hide cb;have Xhck:=hide hck;have XhT:=hide hT;have XhN:=hide hN;have XhR:=hide hR;clear hF g1 b1 cb hck hT hN hR
 go_enter Tryz.func46,Tryz.ntmps46
 go_wp2_with fail
 refine Xcb.out.mono ?_
 rintro e w2 hpost
 rw [←hw1]at hpost
 obtain⟨b2,Al,n,cl,ev,D,rfl,rd,ai⟩:=hpost.flat
 have g2:=Xg1.out.below b2
 have b02:=Xb1.out.trans (b2.mono Xb1.out.size)
 clear q0 q1 q2 q3 hw1 hpost Xg1 Xb1 Xcb
 by_cases hev:ev=0
 ·obtain⟨hn,hnc,hcm,-⟩:=rd.at_
  unfold maxLen at hcm
  rcases ai with⟨hc,he,-⟩|⟨-,-,he,-⟩|⟨hc,L,Tt,ha,-,hD⟩
  ·exact absurd (he.symm.trans hev) hc
  ·rw [hev]at he;exact absurd he (by decide)
  subst hev
  have hc0:ck=0:=hc
  rw [hc]at Xhck
  have hK:=KnA.of_check Xhck.out.symm
  cases ha with
  |ok _ _ hb=>
  have hn2:n≤2000:=by rw [hn,hD,stD_len];exact hb.f.small
  have hmk:=fun W=>make_finals n (by omega) W
  have rdd:=rd
  have g2d:=g2
  obtain⟨p0,p1,p2,p3⟩:=g2.cells
  have hmb:=fun W=>Blk.new W 199 (madeCells #[.slice none 0 0] n)
  generalize hmc:madeCells #[.slice none 0 0] n=mc at hmk hmb
  have Xrd:=hide rd;have Xg2:=hide g2;have Xhn:=hide hn;have Xb02:=hide b02;have Xb2:=hide b2;have XhD:=hide hD;have Xhb:=hide hb;have XhK:=hide hK;have Xhc:=hide hc;have Xhmc:=hide hmc;have Xhmb:=hide hmb;have Xhc0:=hide hc0;clear rd g2 hn b02 b2 hD hb hK hc hmc hmb hc0;clear rdd g2d
  go_wp2_with fail
  have S2:w2.drew.cell? ⟨w.heap.size,0,none⟩=some (.slice A1 T c1)∧w2.drew.cell? ⟨w.heap.size,1,none⟩=some (.slice A2 N c2)∧w2.drew.cell? ⟨w.heap.size,2,none⟩=some (.slice A3 R c3)∧w2.drew.cell? ⟨w.heap.size,3,none⟩=some (.int .i64 st):=⟨p0,p1,p2,p3⟩
  clear p0 p1 p2 p3
  have XS2:=hide S2;clear S2
  refine region_late (fun W=>W.cell? ⟨w.heap.size,0,none⟩=some (.slice A1 T c1)∧W.cell? ⟨w.heap.size,1,none⟩=some (.slice A2 N c2)∧W.cell? ⟨w.heap.size,2,none⟩=some (.slice A3 R c3)∧W.cell? ⟨w.heap.size,3,none⟩=some (.int .i64 st)) 4 6 (by kernel_rfl) (by kernel_rfl) XS2.out ?_
  simp only [List.take_succ_cons,List.take_zero,List.drop_succ_cons,List.drop_zero]
  iterate 4
   refine wpHeld_cons ?_ (by rfl) (fun wS hwS=> ?_) ?_
   rotate_left
   ·(try dsimp only at hwS)
    go_simp
    all_goals with_reducible rfl
   simp only [Act.put,List.setIfInBounds_toArray,List.set_cons_zero,List.set_cons_succ]
  refine wpHeld_nil ?_
  refine wpMid_cons ?_
  have bP:Below w2.heap.size w2 (w2.drew.alloc (.cells mc 199)):=((Below.refl _ _).drew).alloc (Nat.le_refl _) _
  have SP:(w2.drew.alloc (.cells mc 199)).cell? ⟨w.heap.size,0,none⟩=some (.slice A1 T c1)∧(w2.drew.alloc (.cells mc 199)).cell? ⟨w.heap.size,1,none⟩=some (.slice A2 N c2)∧(w2.drew.alloc (.cells mc 199)).cell? ⟨w.heap.size,2,none⟩=some (.slice A3 R c3)∧(w2.drew.alloc (.cells mc 199)).cell? ⟨w.heap.size,3,none⟩=some (.int .i64 st):=⟨up_cell bP XS2.out.1,up_cell bP XS2.out.2.1,up_cell bP XS2.out.2.2.1,up_cell bP XS2.out.2.2.2⟩
  have kP:Blk (w2.drew.alloc (.cells mc 199)) w2.heap.size 199 mc:=Xhmb.out w2.drew
  have XSP:=hide SP;have XbP:=hide bP;have XkP:=hide kP;clear SP bP kP
  go_wp2_with fail
  refine⟨XSP.out,wpMid_cons ?_⟩
  go_wp2_with fail
  refine⟨XSP.out,wpMid_nil ?_⟩
  go_wp2_with fail
  refine NoPanic.normal ?_
  have b4:Below w2.heap.size w2 ((w2.alloc (.cells mc 199)).alloc (.cells #[.slice A1 T c1,.slice A2 N c2,.slice A3 R c3,.int .i64 st,.slice Al n cl,.slice none 0 0,.slice none 0 0,.slice none 0 0,.slice none 0 0,.slice none 0 0,.slice none 0 0,.slice none 0 0,.slice (some ⟨w2.heap.size,0,none⟩) n n] 126)).drew:=(((Below.refl _ _).alloc (Nat.le_refl _) _).alloc (by simp) _).drew
  have kP4:Blk ((w2.alloc (.cells mc 199)).alloc (.cells #[.slice A1 T c1,.slice A2 N c2,.slice A3 R c3,.int .i64 st,.slice Al n cl,.slice none 0 0,.slice none 0 0,.slice none 0 0,.slice none 0 0,.slice none 0 0,.slice none 0 0,.slice none 0 0,.slice (some ⟨w2.heap.size,0,none⟩) n n] 126)).drew w2.heap.size 199 mc:=((Blk.new w2 _ mc).alloc _).drew
  have kM4:Blk ((w2.alloc (.cells mc 199)).alloc (.cells #[.slice A1 T c1,.slice A2 N c2,.slice A3 R c3,.int .i64 st,.slice Al n cl,.slice none 0 0,.slice none 0 0,.slice none 0 0,.slice none 0 0,.slice none 0 0,.slice none 0 0,.slice none 0 0,.slice (some ⟨w2.heap.size,0,none⟩) n n] 126)).drew (w2.heap.size+1) 126 #[.slice A1 T c1,.slice A2 N c2,.slice A3 R c3,.int .i64 st,.slice Al n cl,.slice none 0 0,.slice none 0 0,.slice none 0 0,.slice none 0 0,.slice none 0 0,.slice none 0 0,.slice none 0 0,.slice (some ⟨w2.heap.size,0,none⟩) n n]:=by
   have:=Blk.new (w2.alloc (.cells mc 199)) 126 #[.slice A1 T c1,.slice A2 N c2,.slice A3 R c3,.int .i64 st,.slice Al n cl,.slice none 0 0,.slice none 0 0,.slice none 0 0,.slice none 0 0,.slice none 0 0,.slice none 0 0,.slice none 0 0,.slice (some ⟨w2.heap.size,0,none⟩) n n]
   rw [World.size_alloc]at this
   exact this.drew
  generalize ((w2.alloc (.cells mc 199)).alloc (.cells #[.slice A1 T c1,.slice A2 N c2,.slice A3 R c3,.int .i64 st,.slice Al n cl,.slice none 0 0,.slice none 0 0,.slice none 0 0,.slice none 0 0,.slice none 0 0,.slice none 0 0,.slice none 0 0,.slice (some ⟨w2.heap.size,0,none⟩) n n] 126)).drew=w4 at *
  rw [←Xhmc.out]at kP4
  have rd2:=Xrd.out
  obtain⟨q4,mk4,hM4,o4⟩:=MK.start (M:=w2.heap.size+1) XhT.out XhN.out XhR.out Xhn.out Xg2.out.gram Xg2.out.gram.lt (rd2.mono (fun b hb=>hb.2)) b4 (Nat.le_refl _) kP4 (Nat.le_succ _) (by omega) kM4
  have cp:=look_prepare mk4 rfl rfl Xhck.out.symm
  generalize w2.heap.size+1=M at *
  rw [hM4]at cp
  unfold PtrV at cp
  clear XSP XbP XkP XS2 Xg2 kP4 kM4 Xhmb hmk
  have Xmk4:=hide mk4;have XhM4:=hide hM4;have Xo4:=hide o4;have Xcp:=hide cp;have Xb4:=hide b4;clear mk4 hM4 o4 cp b4
  go_wp2_with fail
  refine Xcp.out.mono ?_
  rintro e w5 ⟨rfl,q5,cm,mk5,hM5,st5,hco⟩
  have hM5:q5.M=M:=hM5.trans XhM4.out
  have stA:StL (fun j=>j≠1) w4 q4.ow w5 q5.ow:=st5.mono (fun j hj=>by unfold JQ at hj;omega)
  have mk5:MK w5 q5 (dB G st D cm 0) (y0 (preD D 0)):=mk5
  have hLk:LkD (dB G st D cm D.length):=by rw [XhD.out];exact LkD.mk' Xhb.out XhK.out (by have:=hco;exact this)
  have hin: ∀wr (qi:LQ),StL (fun j=>j≠1) w4 q4.ow wr qi.ow→Below w2.heap.size w2 wr:=fun wr qi s=>Xb4.out.trans (s.t.below (fun k hk _ e=>e (Xo4.out k hk)) Xb4.out.size)
  have rdl:=rd2.mono (F':=fun b=>b<w2.heap.size) (fun b hb=>hb.2)
  have hL9: ∀(i:Nat) e,D[i]? =some e→e.1.length≤2709:=fun i e he=>strict_len9 XhK.out (hLk.hA.strict i e he) (fun x hx=>(hLk.hA.kern i e x he hx).1)
  have bnd: ∀i,preD D i≤i * 2709:=preD_bound (fun e he=>by
   obtain⟨i,hi,rfl⟩:=List.getElem_of_mem he
   exact hL9 i _ (List.getElem?_eq_getElem hi))
  clear st5 rd2 Xmk4 XhM4 Xcp
  have Xmk5:=hide mk5;have XhM5:=hide hM5;have XstA:=hide stA;have XhLk:=hide hLk;have Xhin:=hide hin;have Xrdl:=hide rdl;have Xhco:=hide hco;have XhL9:=hide hL9;have Xbnd:=hide bnd;clear mk5 hM5 stA hLk hin rdl hco hL9 bnd
  go_wp2_with fail
  go_loopw [32] (fun iv wr=> ∃(i:Nat) (qi:LQ),i≤n∧iv= .int .i64 (i:Int)∧MK wr qi (dB G st D cm i) (y0 (preD D i))∧qi.M=M∧StL (fun j=>j≠1) w4 q4.ow wr qi.ow) (fun iv _=>n - (intOf iv).toNat)
  case atStart=>exact⟨0,q5,Nat.zero_le _,rfl,Xmk5.out,XhM5.out,XstA.out⟩
  case round=>
   clear Xmk5 XhM5 XstA
   obtain⟨i,qi,hi,rfl,mk,hMi,sT⟩:=hrel
   by_cases hlt:i<n
   ·have hlt':(i:Int)<(n:Int):=by omega
    obtain⟨e,he⟩: ∃e,D[i]? =some e:=⟨_,List.getElem?_eq_getElem (by rw [←Xhn.out];exact hlt)⟩
    obtain⟨Ab,hAb⟩: ∃x,x=qi.Ab:=⟨_,rfl⟩
    obtain⟨cb,hcb⟩: ∃x,x=qi.cb:=⟨_,rfl⟩
    obtain⟨Aa,hAa⟩: ∃x,x=qi.Aa:=⟨_,rfl⟩
    obtain⟨ca,hca⟩: ∃x,x=qi.ca:=⟨_,rfl⟩
    obtain⟨na,hna⟩: ∃x,x=preD D i:=⟨_,rfl⟩
    have q9:=mk.cells.2.2.2.2.2.2.2.2.2.1
    have q10:wr.cell? ⟨qi.M,10,none⟩=some (.slice qi.Aa (preD D i) qi.ca):=mk.cells.2.2.2.2.2.2.2.2.2.2.1
    rw [hMi,dB_len,←hAb,←hcb]at q9
    rw [hMi,←hAa,←hca,←hna]at q10
    have hcap:=mk.b.cap
    have hcap2:preD D i≤qi.ca∧qi.ca≤9223372036854775807:=mk.a.row.cap
    rw [dB_len,←hcb]at hcap
    rw [←hna,←hca]at hcap2
    have hnab:na≤10000000:=by
     have h1:=Xbnd.out i
     have h2:i * 2709≤2000 * 2709:=Nat.mul_le_mul_right _ (by omega)
     omega
    have S1:wr.drew.cell? ⟨M,9,none⟩=some (.slice Ab i cb)∧wr.drew.cell? ⟨M,10,none⟩=some (.slice Aa na ca):=⟨q9,q10⟩
    have bA:Below wr.heap.size wr (wr.drew.alloc (.cells #[.int .i64 (na:Int)] 3)):=((Below.refl _ _).drew).alloc (Nat.le_refl _) _
    have SA:(wr.drew.alloc (.cells #[.int .i64 (na:Int)] 3)).cell? ⟨M,9,none⟩=some (.slice Ab i cb)∧(wr.drew.alloc (.cells #[.int .i64 (na:Int)] 3)).cell? ⟨M,10,none⟩=some (.slice Aa na ca):=⟨up_cell bA q9,up_cell bA q10⟩
    have rone:Rd (wr.drew.alloc (.cells #[.int .i64 (na:Int)] 3)) (fun x=>x=wr.heap.size) (.slice (some ⟨wr.heap.size,0,none⟩) 1 1) 1 [.int .i64 (na:Int)]:=Rd.one' (w:=wr.drew) (e:=3) [.int .i64 (na:Int)] 1 rfl
    have mkA:=mk.below bA 2
    obtain⟨qA,hqA⟩: ∃x:LQ,x={qi with ow:=ext wr qi.ow 2}:=⟨_,rfl⟩
    have hMA:qA.M=M:=by rw [hqA];exact hMi
    have hAA:qA.Ab=Ab∧qA.cb=cb:=by rw [hqA,hAb,hcb];exact⟨rfl,rfl⟩
    have stA:StL (fun j=>j≠1) w4 q4.ow (wr.drew.alloc (.cells #[.int .i64 (na:Int)] 3)) qA.ow:=by rw [hqA];exact sT.trans (StL.new _ bA _ 2)
    rw [←hqA]at mkA
    have rowA:=mkA.b
    rw [hAA.1,hAA.2,dB_len]at rowA
    clear q9 q10 hAb hcb hAa hca mk hMi sT bA hqA
    have XS1:=hide S1;have XSA:=hide SA;have Xrone:=hide rone;have XmkA:=hide mkA;have XhMA:=hide hMA;have XstA:=hide stA;have XrowA:=hide rowA;have Xhe:=hide he;have Xhna:=hide hna;have XhAA:=hide hAA;clear S1 SA rone mkA hMA stA rowA he hna hAA
    go_wp2_with fail
    refine region_late (fun W=>W.cell? ⟨M,9,none⟩=some (.slice Ab i cb)∧W.cell? ⟨M,10,none⟩=some (.slice Aa na ca)) 10 12 (by kernel_rfl) (by kernel_rfl) XS1.out ?_
    simp only [List.take_succ_cons,List.take_zero,List.drop_succ_cons,List.drop_zero]
    iterate 10
     refine wpHeld_cons ?_ (by rfl) (fun wS hwS=> ?_) ?_
     rotate_left
     ·(try dsimp only at hwS)
      go_simp
      all_goals with_reducible rfl
     simp only [Act.put,List.setIfInBounds_toArray,List.set_cons_zero,List.set_cons_succ]
    refine wpHeld_nil ?_
    generalize hwA:wr.drew.alloc (.cells #[.int .i64 (na:Int)] 3)=wA at *
    refine wpMid_cons ?_
    go_wp2_with fail
    try rw [hwA]
    refine⟨XSA.out,wpMid_cons ?_⟩
    go_wp2_with (at_builtin;refine wp_append _ rfl (.tmp 39) (.tmp 45) _ rfl Tryz.elemInt 0 (.slice Ab i cb) i _ rfl XrowA.out.own _ _ [.int .i64 (na:Int)] 1 rfl rfl Xrone.out (by intro u hu;obtain rfl:=List.mem_singleton.1 hu;rfl) (by unfold maxLen;omega) (by omega) (Nat.zero_le _) ?_)
    intro A5 c5 w5 own5 g5 ho5
    obtain⟨row5,st5⟩:=XrowA.out.app own5 g5 ho5
    have row5:Row w5 (ext wA qA.ow 7) 7 3 1 A5 (i+1) c5 (((dB G st D cm i).ba++[((preD D i:Nat):Int)]).map (Value.int .i64)):=by
     rw [List.map_append,←Xhna.out]
     exact row5
    obtain⟨q6,mk6,hM6,st6⟩:=XmkA.out.putB (n':=i+1) (by rw [List.length_append,dB_len];rfl) row5 st5
    rw [XhMA.out]at mk6 hM6 st6
    rw [dB_next]at mk6
    have htm:qA.ow M=0:=by have:=XmkA.out.tm;rwa [XhMA.out]at this
    have bx:=XmkA.out.box.touch st5.t (by rw [XhMA.out,htm];omega)
    rw [XhMA.out]at bx
    have z9:=bx.frozen 9
    have S5:w5.cell? ⟨M,9,none⟩=some (.slice Ab i cb)∧w5.cell? ⟨M,10,none⟩=some (.slice Aa na ca):=⟨(World.cell?_of_block (a:=⟨M,9,none⟩) (st5.t.block M (World.block_lt_of_cell? _ _ XSA.out.1) (by rw [htm];omega))).trans XSA.out.1,(World.cell?_of_block (a:=⟨M,10,none⟩) (st5.t.block M (World.block_lt_of_cell? _ _ XSA.out.1) (by rw [htm];omega))).trans XSA.out.2⟩
    have s59:=S5.1
    have s6:=XstA.out.trans (st6.mono (J':=fun j=>j≠1) (fun j hj=>by omega))
    clear own5 g5 ho5 row5 st5 bx htm st6 XSA XS1 XmkA XhMA XstA XrowA Xrone XhAA hwA
    have Xmk6:=hide mk6;have XhM6:=hide hM6;have Xs6:=hide s6;have XS5:=hide S5;clear mk6 hM6 s6 S5
    refine⟨XS5.out,wpMid_nil ?_⟩
    clear XS5
    go_wp2_with fail
    refine NoPanic.normal ?_
    clear s59 z9
    generalize w5.setCell ⟨M,9,none⟩ (.slice A5 (i+1) c5)=w6 at *
    have b26:=Xhin.out w6 q6 Xs6.out
    obtain⟨-,-,-,hcell⟩:=Xrdl.out.at_
    obtain⟨bS,oS,rfl,-,hcs⟩:=hcell (by omega)
    obtain⟨z1,z2,u1,-,s1,-⟩:=hcs i e Xhe.out
    have u1:=up_cell b26 u1
    obtain⟨A8,n8,c8,rfl,-⟩:=id s1
    obtain⟨hn8,hnc8,hcm8,-⟩:=RdIt.at_ s1
    unfold maxLen at hcm8
    have hn8b:n8≤2709:=by rw [hn8];exact XhL9.out i e Xhe.out
    clear b26 hcell hcs s1
    have Xhn8:=hide hn8;clear hn8
    go_wp2_with fail
    go_loopw [55] (fun iv wr'=> ∃(j:Nat) (qj:LQ),j≤n8∧iv= .int .i64 (j:Int)∧MK wr' qj (dB G st D cm (i+1)) (y0 (preD D i+j))∧qj.M=M∧StL (fun j=>j≠1) w4 q4.ow wr' qj.ow) (fun iv _=>n8 - (intOf iv).toNat)
    case atStart=>exact⟨0,q6,Nat.zero_le _,rfl,Xmk6.out,XhM6.out,Xs6.out⟩
    case round=>
     clear Xmk6 XhM6 Xs6 u1
     obtain⟨j,qj,hj,rfl,mk,hMj,st⟩:=hrel
     by_cases hlj:j<n8
     ·have hlj':(j:Int)<(n8:Int):=by omega
      have cf:=look_fresh mk (XhK.out.t) (by show preD D i+j≤100000000;rw [←Xhna.out];omega)
      rw [hMj,fresh_y0]at cf
      unfold PtrV at cf
      clear mk
      have Xcf:=hide cf;have Xst:=hide st;have XhMj:=hide hMj;clear cf st hMj
      go_wp2_with fail
      refine Xcf.out.mono ?_
      rintro e' w7 ⟨rfl,q7,mk7,hM7,st7⟩
      have hM7:=hM7.trans XhMj.out
      have s7:=Xst.out.trans (st7.mono (J':=fun j=>j≠1) (fun j hj=>by omega))
      clear st7 Xcf Xst
      have Xmk7:=hide mk7;have XhM7:=hide hM7;have Xs7:=hide s7;clear mk7 hM7 s7
      go_wp2_with fail
      go_roundw
      case rel=>exact⟨j+1,q7,by omega,by go_num,Xmk7.out,XhM7.out,Xs7.out⟩
      case measure=>simp [intOf];omega
     ·have hlj': ¬(j:Int)<(n8:Int):=by omega
      have hjn:preD D i+j=preD D (i+1):=by rw [preD_next Xhe.out,←Xhn8.out];omega
      rw [hjn]at mk
      clear hjn
      have Xmk:=hide mk;have XhMj:=hide hMj;have Xst:=hide st;clear mk hMj st
      go_wp2_with fail
      go_roundw
      case rel=>exact⟨i+1,qj,by omega,by go_num,Xmk.out,XhMj.out,Xst.out⟩
      case measure=>simp [intOf];omega
   ·have hlt': ¬(i:Int)<(n:Int):=by omega
    have hin2:i=D.length:=by have:=Xhn.out;omega
    rw [hin2]at mk
    have hp1:1≤preD D D.length:=by
     obtain⟨t0,h0⟩:=XhLk.out.hA.first
     have h0:D[0]? =some ([((G.rules.length:Int),0)],t0):=h0
     have h1:preD D 1=preD D 0+1:=preD_next h0
     have h2:=(List.getElem?_eq_some_iff.1 h0).1
     have h3:=preD_le D 1 (D.length - 1)
     rw [show 1+(D.length - 1)=D.length by omega]at h3
     omega
    obtain⟨ga,eA,ca⟩:=mk.a.at_ (i:=0) hp1
    have q10:wr.cell? ⟨qi.M,10,none⟩=some (.slice qi.Aa (preD D D.length) qi.ca):=mk.cells.2.2.2.2.2.2.2.2.2.2.1
    have hcap2:preD D D.length≤qi.ca∧qi.ca≤9223372036854775807:=mk.a.row.cap
    obtain⟨na,hna⟩: ∃x,x=preD D D.length:=⟨_,rfl⟩
    obtain⟨ca2,hca2⟩: ∃x,x=qi.ca:=⟨_,rfl⟩
    rw [hMi,eA,←hna,←hca2]at q10
    rw [←hna,←hca2]at hcap2
    have h0na:0<na:=by omega
    have h0na2:(0:Int)<(na:Int):=by omega
    have cp:=set_put (mk.a.set 0 hp1) 0
    unfold PtrV at ca
    clear hin2 eA hca2
    have Xmk:=hide mk;have XhMi:=hide hMi;have XsT:=hide sT;have Xcp:=hide cp;have Xhp1:=hide hp1;have Xhna:=hide hna;clear mk hMi sT cp hp1 hna
    go_wp2_with fail
    with_reducible refine Xcp.out.mono ?_
    rintro e' w6 ⟨rfl,hs6,t6⟩
    obtain⟨fam,st6⟩:=Xmk.out.a.put Xhp1.out hs6 t6
    have mk6:=Xmk.out.putF fam st6
    have mk6:MK w6 {qi with ow:=ext wr qi.ow 8} (dB G st D cm D.length) {y0 (preD D D.length)with F:=setF (y0 (preD D D.length)).F 0 (putSet (G.terms.length+1) noBits 0)}:=mk6
    rw [yF_put]at mk6
    have s6:=XsT.out.trans (st6.mono (J':=fun j=>j≠1) (fun j hj=>by omega))
    obtain⟨q6,hq6⟩: ∃x:LQ,x={qi with ow:=ext wr qi.ow 8}:=⟨_,rfl⟩
    have hM6:q6.M=M:=by rw [hq6];exact XhMi.out
    rw [show ext wr qi.ow 8=q6.ow from by rw [hq6]]at s6
    rw [←hq6]at mk6
    have hI6:ItI (dB G st D cm D.length) (dB G st D cm D.length).cm (yF (preD D D.length)):=yF_it Xhp1.out
    clear fam st6 hs6 t6 q10 ca Xcp Xmk XhMi XsT hq6 hcap2
    have Xmk6:=hide mk6;have XhM6:=hide hM6;have Xs6:=hide s6;have XhI6:=hide hI6;clear mk6 hM6 s6 hI6
    have hcM:(dB G st D cm D.length).cm=cm:=rfl
    go_wp2_with fail
    go_loopw [70] (fun iv wr'=> ∃(i:Nat) (qi:LQ) (yi:Dy),i≤n∧iv= .int .i64 (i:Int)∧MK wr' qi (dB G st D cm D.length) yi∧qi.M=M∧StL (fun j=>j≠1) w4 q4.ow wr' qi.ow∧ItI (dB G st D cm D.length) cm yi∧yi.ed.length≤preD D i * 40000∧ ∀p i' x,i'<i→KP D p i' x→Full G st D cm yi.ed yi.fi p i' x) (fun iv _=>n - (intOf iv).toNat)
    case atStart=>exact⟨0,q6,_,Nat.zero_le _,rfl,Xmk6.out,XhM6.out,Xs6.out,XhI6.out,Nat.zero_le _,fun p i' x h=>absurd h (Nat.not_lt_zero _)⟩
    case round=>
     clear Xmk6 XhM6 Xs6 XhI6
     obtain⟨i,qi,yi,hi,rfl,mk,hMi,sT,hIi,hli,hfu⟩:=hrel
     by_cases hlt:i<n
     ·have hlt':(i:Int)<(n:Int):=by omega
      obtain⟨e,he⟩: ∃e,D[i]? =some e:=⟨_,List.getElem?_eq_getElem (by rw [←Xhn.out];exact hlt)⟩
      have b26:=Xhin.out wr qi sT
      obtain⟨-,-,-,hcell⟩:=Xrdl.out.at_
      obtain⟨bS,oS,rfl,-,hcs⟩:=hcell (by omega)
      obtain⟨z1,z2,u1,-,s1,-⟩:=hcs i e he
      have u1:=up_cell b26 u1
      obtain⟨A8,n8,c8,rfl,-⟩:=id s1
      obtain⟨hn8,hnc8,hcm8,-⟩:=RdIt.at_ s1
      unfold maxLen at hcm8
      have hn8b:n8≤2709:=by rw [hn8];exact XhL9.out i e he
      clear b26 hcell hcs
      have Xhn8:=hide hn8;have Xmk:=hide mk;have XhMi:=hide hMi;have XsT:=hide sT;have XhIi:=hide hIi;have Xhli:=hide hli;have Xhfu:=hide hfu;have Xhe:=hide he;have Xs1:=hide s1;clear hn8 mk hMi sT hIi hli hfu he s1
      go_wp2_with fail
      go_loopw [79] (fun iv wr'=> ∃(j:Nat) (qj:LQ) (yj:Dy),j≤n8∧iv= .int .i64 (j:Int)∧MK wr' qj (dB G st D cm D.length) yj∧qj.M=M∧StL (fun j=>j≠1) w4 q4.ow wr' qj.ow∧ItI (dB G st D cm D.length) cm yj∧yj.ed.length≤(preD D i+j) * 40000∧(∀p i' x,i'<i→KP D p i' x→Full G st D cm yj.ed yj.fi p i' x)∧ ∀(m:Nat) x,m<j→e.1[m]? =some x→Full G st D cm yj.ed yj.fi (preD D i+m) i x) (fun iv _=>n8 - (intOf iv).toNat)
      case atStart=>exact⟨0,qi,yi,Nat.zero_le _,rfl,Xmk.out,XhMi.out,XsT.out,XhIi.out,Xhli.out,Xhfu.out,fun m x h=>absurd h (Nat.not_lt_zero _)⟩
      case round=>
       clear Xmk XhMi XsT XhIi Xhli Xhfu u1
       obtain⟨j,qj,yj,hj,rfl,mk,hMj,sT,hIj,hlj,hfu,hfj⟩:=hrel
       by_cases hlu:j<n8
       ·have hlu':(j:Int)<(n8:Int):=by omega
        have s8:=Xs1.out.below (Xhin.out wr qj sT) (fun b hb=>hb)
        obtain⟨-,-,-,hcell⟩:=RdIt.at_ s8
        obtain⟨b8,o8,rfl,-,hcc⟩:=hcell (by omega)
        obtain⟨x,hx⟩: ∃x,e.1[j]? =some x:=⟨_,List.getElem?_eq_getElem (by rw [←Xhn8.out];exact hlu)⟩
        obtain⟨x0,x1⟩:=hcc j x hx
        obtain⟨pr,hpr⟩: ∃x,x=preD D i:=⟨_,rfl⟩
        have hprb:pr≤5418000:=by
         have h1:=Xbnd.out i
         have h2:i * 2709≤2000 * 2709:=Nat.mul_le_mul_right _ (by omega)
         omega
        have al:Below wr.heap.size wr (wr.alloc (.cells #[.int .i64 x.1,.int .i64 x.2] 34)).drew:=((Below.refl _ _).alloc (Nat.le_refl _) _).drew
        have kX:Blk (wr.alloc (.cells #[.int .i64 x.1,.int .i64 x.2] 34)).drew wr.heap.size 34 #[.int .i64 x.1,.int .i64 x.2]:=(Blk.new _ _ _).drew
        have mk8:=mk.below al 2
        obtain⟨gb,hAb,ub,-,-⟩:=mk8.b.at_ (j:=i) (u:= .int .i64 ((preD D i:Nat):Int)) (by rw [List.getElem?_map,dB_get (by have:=Xhn.out;omega)];rfl)
        have q9:=mk8.cells.2.2.2.2.2.2.2.2.2.1
        have hbc:=mk8.b.cap
        obtain⟨q8,hq8⟩: ∃x:LQ,x={qj with ow:=ext wr qj.ow 2}:=⟨_,rfl⟩
        have hM8:q8.M=M:=by rw [hq8];exact hMj
        have s8T:StL (fun j=>j≠1) w4 q4.ow (wr.alloc (.cells #[.int .i64 x.1,.int .i64 x.2] 34)).drew q8.ow:=by rw [hq8];exact sT.trans (StL.new _ al _ 2)
        rw [←hq8]at mk8 q9 hbc hAb
        obtain⟨cb,hcb⟩: ∃x,x=q8.cb:=⟨_,rfl⟩
        rw [hM8,hAb,dB_len,←hcb,←Xhn.out]at q9
        rw [dB_len,←hcb,←Xhn.out]at hbc
        have hKP:KP D (pr+j) i x:=⟨e,j,Xhe.out,hx,by rw [hpr]⟩
        have ci:=look_item mk8 XhLk.out hIj (by rw [←hpr]at hlj;have h1:(pr+j) * 40000≤(5418000+2709) * 40000:=Nat.mul_le_mul_right _ (by omega);omega) hKP
        rw [hM8,show(((pr+j:Nat):Int))=(pr:Int)+(j:Int)from by omega]at ci
        rw [←hpr]at ub
        have f0:=(kX.cell 0).trans rfl
        have f1:=(kX.cell 1).trans rfl
        have hsum:IntKind.i64.wrap ((pr:Int)+(j:Int))=(pr:Int)+(j:Int):=by rw [IntKind.wrap_i64];omega
        unfold PtrV at ci
        obtain⟨xk,xd⟩:=x
        simp only at x0 x1 f0 f1 ci
        generalize hw8:(wr.alloc (.cells #[.int .i64 xk,.int .i64 xd] 34)).drew=w8 at *
        clear s8 hcell hcc al kX mk hq8 sT hAb hcb mk8
        have Xhx:=hide hx;have Xhpr:=hide hpr;have XhM8:=hide hM8;have Xs8T:=hide s8T;have Xci:=hide ci;have Xhlj:=hide hlj;have Xhfu:=hide hfu;have Xhfj:=hide hfj;have XhMj:=hide hMj;have XhIj:=hide hIj;have XhKP:=hide hKP;clear hx hpr hM8 s8T ci hlj hfu hfj hMj hIj hKP
        go_wp2_with fail
        refine region_tail 12 (by kernel_rfl) (by kernel_rfl) ?_
        simp only [List.take_succ_cons,List.take_zero,List.drop_succ_cons,List.drop_zero]
        repeat still_step
        refine wpStill_nil ?_
        go_wp2_with fail
        refine Xci.out.mono ?_
        rintro e' w9 ⟨rfl,q9',y9,mk9,hM9,st9,hI9,hG9,hF9,hl9⟩
        have hM9:=hM9.trans XhM8.out
        have s9T:=Xs8T.out.trans (st9.mono (J':=fun j=>j≠1) (fun j hj=>by unfold JI at hj;omega))
        have hfu9: ∀p i' x,i'<i→KP D p i' x→Full G st D cm y9.ed y9.fi p i' x:=fun p i' x h1 h2=>(Xhfu.out p i' x h1 h2).mono hG9.ed hG9.fi
        have hfj9: ∀(m:Nat) x,m<j+1→e.1[m]? =some x→Full G st D cm y9.ed y9.fi (preD D i+m) i x:=fun m x h1 h2=>by
         by_cases em:m=j
         ·subst em
          rw [Xhx.out]at h2
          injection h2 with h2
          rw [←h2,←Xhpr.out]
          exact hF9
         ·exact(Xhfj.out m x (by omega) h2).mono hG9.ed hG9.fi
        have hl9':y9.ed.length≤(preD D i+(j+1)) * 40000:=by have:=Xhlj.out;have e1:(preD D i+(j+1)) * 40000=(preD D i+j) * 40000+40000:=(by rw [←Nat.add_assoc,Nat.add_mul _ 1,Nat.one_mul]);omega
        clear q9 ub f0 f1 x0 x1 u1 hw8 st9 hF9 hl9 hG9 Xci Xs8T hsum
        have Xmk9:=hide mk9;have XhM9:=hide hM9;have Xs9T:=hide s9T;have XhI9:=hide hI9;have Xhfu9:=hide hfu9;have Xhfj9:=hide hfj9;have Xhl9':=hide hl9';clear mk9 hM9 s9T hI9 hfu9 hfj9 hl9'
        go_wp2_with fail
        go_roundw
        case rel=>exact⟨j+1,q9',y9,by omega,by go_num,Xmk9.out,XhM9.out,Xs9T.out,XhI9.out,Xhl9'.out,Xhfu9.out,Xhfj9.out⟩
        case measure=>simp [intOf];omega
       ·have hlu': ¬(j:Int)<(n8:Int):=by omega
        have hpn:=preD_next Xhe.out
        have hlF:yj.ed.length≤preD D (i+1) * 40000:=by rw [hpn,←Xhn8.out,show n8=j by omega];exact hlj
        have hfF: ∀p i' x,i'<i+1→KP D p i' x→Full G st D cm yj.ed yj.fi p i' x:=fun p i' x h1 h2=>by
         by_cases ei:i'=i
         ·subst ei
          obtain⟨e',m,g1,g2,rfl⟩:=h2
          rw [Xhe.out]at g1
          injection g1 with g1
          subst g1
          exact hfj m x (by have:=(List.getElem?_eq_some_iff.1 g2).1;have:=Xhn8.out;omega) g2
         ·exact hfu p i' x (by omega) h2
        clear hlj hfu hfj hpn
        have Xmk:=hide mk;have XhMj:=hide hMj;have XsT:=hide sT;have XhIj:=hide hIj;have XhlF:=hide hlF;have XhfF:=hide hfF;clear mk hMj sT hIj hlF hfF
        go_wp2_with fail
        go_roundw
        case rel=>exact⟨i+1,qj,yj,by omega,by go_num,Xmk.out,XhMj.out,XsT.out,XhIj.out,XhlF.out,XhfF.out⟩
        case measure=>simp [intOf];omega
     ·have hlt': ¬(i:Int)<(n:Int):=by omega
      have hDY:DoneY (dB G st D cm D.length) yi:=⟨hIi,fun p i' x hk=>hfu p i' x (by obtain⟨e,m,h1,-⟩:=hk;have h2:i'<D.length:=(List.getElem?_eq_some_iff.1 h1).1;have:=Xhn.out;omega) hk⟩
      have cs:=look_spread mk XhK.out.t hIi.edv (fun p t hp ht=>by rw [hIi.F];unfold F00;rw [show decide (t=0)=false from decide_eq_false (by omega)];simp)
      rw [hMi]at cs
      unfold PtrV at cs
      clear hIi hfu hli mk
      have XhDY:=hide hDY;have Xcs:=hide cs;have XsT:=hide sT;have XhMi:=hide hMi;clear hDY cs sT hMi
      go_wp2_with fail
      refine Xcs.out.mono ?_
      rintro e' w7 ⟨rfl,F7,⟨q7,mk7,hM7,st7⟩,sp⟩
      have hM7:=hM7.trans XhMi.out
      have s7T:=XsT.out.trans (st7.mono (J':=fun j=>j≠1) (fun j hj=>by omega))
      have b7:=Xhin.out w7 q7 s7T
      obtain⟨D1,hD1⟩: ∃x,x=w7.heap.size:=⟨_,rfl⟩
      clear st7 Xcs XsT
      have Xmk7:=hide mk7;have XhM7:=hide hM7;have Xs7T:=hide s7T;have Xsp:=hide sp;have Xb7:=hide b7;have XhD1:=hide hD1;clear mk7 hM7 s7T sp b7 hD1
      go_wp2_with fail
      go_loopw [11,103] (fun ov iv wr'=> ∃(i:Nat) (A:Option Addr) (m c:Nat),i≤n∧iv= .int .i64 (i:Int)∧ov= .slice A m c∧LksM D1 wr' A m c ((looksD G st D).take i)∧Below D1 w7 wr') (fun _ iv _=>n - (intOf iv).toNat)
      case atStart=>exact⟨0,none,0,0,Nat.zero_le _,rfl,rfl,by rw [List.take_zero];exact LksM.nil _ _,by rw [XhD1.out];exact Below.refl _ _⟩
      case round=>
       obtain⟨i,A,m,c,hi,rfl,rfl,lm,le⟩:=hrel
       have le':Below w7.heap.size w7 wr:=by rw [←XhD1.out];exact le
       by_cases hlt:i<n
       ·have hlt':(i:Int)<(n:Int):=by omega
        obtain⟨e,he⟩: ∃e,D[i]? =some e:=⟨_,List.getElem?_eq_getElem (by rw [←Xhn.out];exact hlt)⟩
        have cl:=look_looks (Xmk7.out.below le' 2) XhLk.out XhDY.out.it.fi (XhDY.out.it.na_le XhLk.out.hA XhLk.out.hK) (i:=i) (by show i<D.length;rw [←Xhn.out];exact hlt)
        have hq7:({q7 with ow:=ext w7 q7.ow 2}:LQ).M=M:=XhM7.out
        rw [hq7]at cl
        unfold PtrV at cl
        have hDw:D1≤wr.heap.size:=by rw [XhD1.out];exact le'.size
        clear le' hq7
        have Xlm:=hide lm;have Xle:=hide le;have Xcl:=hide cl;have Xhe:=hide he;clear lm le cl he
        go_wp2_with fail
        refine Xcl.out.mono ?_
        rintro e' w8 ⟨A8,n8,c8,L8,rfl,b8,rd8,lk8⟩
        have hL8:=LkIs.is XhLk.out XhDY.out Xsp.out Xhe.out lk8
        have hget:=looksD_get (G:=G) (st:=st) Xhe.out
        have hL8':L8=lksD G st D i e:=hL8
        rw [←hL8']at hget
        obtain⟨Z,z1,z2,z3⟩:=Xlm.out.ex
        have hmn:m=i:=by rw [Xlm.out.hn,List.length_take,looksD_len,←Xhn.out];omega
        have al:Below w8.heap.size w8 (w8.alloc (.cells #[.slice A8 n8 c8] 76)):=(Below.refl _ _).alloc (Nat.le_refl _) _
        have rone:Rd (w8.alloc (.cells #[.slice A8 n8 c8] 76)) (fun x=>x=w8.heap.size) (.slice (some ⟨w8.heap.size,0,none⟩) 1 1) 1 [.slice A8 n8 c8]:=Rd.one' (w:=w8) (e:=76) [.slice A8 n8 c8] 1 rfl
        have own2:=own_below' z2 (b8.trans (al.mono b8.size))
        have hD2:D1≤(w8.alloc (.cells #[.slice A8 n8 c8] 76)).heap.size:=Nat.le_trans hDw (b8.trans (al.mono b8.size)).size
        have hm2:m≤2000:=by omega
        clear hL8 hL8' lk8 hmn
        have Xb8:=hide b8;have Xrd8:=hide rd8;have Xhget:=hide hget;have Xz1:=hide z1;have Xz2:=hide z2;have Xz3:=hide z3;have Xal:=hide al;have Xrone:=hide rone;have Xown2:=hide own2;clear b8 rd8 hget z1 z2 z3 al rone own2
        go_wp2_with (at_builtin;refine wp_append _ rfl (.tmp 106) (.tmp 110) _ rfl Tryz.elemLooks D1 (.slice A m c) m _ rfl Xown2.out _ _ [.slice A8 n8 c8] 1 rfl rfl Xrone.out (by intro u hu;obtain rfl:=List.mem_singleton.1 hu;rfl) (by unfold maxLen;omega) (by omega) hD2 ?_)
        intro A4 c4 w9 own4 g4 ho4
        obtain⟨lm4,le4⟩:=LksM.push Xlm.out.hn Xz1.out Xz2.out Xz3.out hDw Xrd8.out Xb8.out Xal.out own4 g4 (by rw [World.size_alloc];exact ho4)
        rw [take_getA Xhget.out]at lm4
        have le9:=Xle.out.trans le4
        clear own4 g4 ho4 le4 Xz1 Xz2 Xz3 Xrd8 Xb8 Xal Xown2 Xrone hD2 Xlm Xle Xcl
        have Xlm4:=hide lm4;have Xle9:=hide le9;clear lm4 le9
        go_wp2_with fail
        go_roundw
        case rel=>exact⟨i+1,A4,m+1,c4,by omega,by go_num,rfl,Xlm4.out,Xle9.out⟩
        case measure=>simp [intOf];omega
       ·have hlt': ¬(i:Int)<(n:Int):=by omega
        rw [List.take_of_length_le (by rw [looksD_len,←Xhn.out];omega)]at lm
        have hrd:=lm.rd
        have hfin:Below w.heap.size w wr:=Xb02.out.trans ((Xb7.out.trans (le'.mono Xb7.out.size)).mono Xb02.out.size)
        have hwD:w.heap.size≤D1:=by rw [XhD1.out];exact Nat.le_trans Xb02.out.size Xb7.out.size
        have hai:AutoIs G st ck 0 D:= .inr (.inr ⟨Xhc0.out,L,Tt,.ok _ _ Xhb.out,rfl,XhD.out⟩)
        clear lm le le'
        have Xhrd:=hide hrd;have Xhfin:=hide hfin;have Xhai:=hide hai;clear hrd hfin hai
        go_wp2_with fail
        go_ret2
        exact⟨Xhfin.out,A,m,c,0,D,rfl,Xhai.out,Xhrd.out.mono (fun b hb=>⟨Nat.le_trans hwD hb.1,hb.2⟩)⟩
 ·have hev':(ev !=0)=true:=by simpa using hev
  have hfin:=look_no b02 ai hev
  clear rd ai g2
  have Xhfin:=hide hfin;have Xb02:=hide b02;have Xb2:=hide b2;clear hfin b02 b2
  go_wp2_with fail
  go_ret2
  exact Xhfin.out
end Go.Proofs.YtlpokomfljmogaaGreat
namespace Go.Proofs.YtlpokomfljmogaaGreat
set_option linter.unusedVariables false
set_option linter.unusedSimpArgs false
open Go.RowKit
abbrev aw13D:Sts0:=stD aw13L aw13T
theorem aw14_rest: ∀x∈allIt aw13 3,(behindI aw13 3 x).2=true→isNon aw13 (behindI aw13 3 x).1=true→restI aw13 3 x=[]:=by decide+kernel
theorem aw14_zero {i:Nat} {x:It} {t:Nat} (h:LA aw13 3 aw13D i x t):t=0:=by
 have hK:=KnA.of_check aw13_check
 have key: ∀{i:Nat} {x:It} {s:Int} {t:Nat},LA aw13 3 aw13D i x t→behindI aw13 3 x=(s,true)→isNon aw13 s=true→restI aw13 3 x=[]:=fun{i x s t} h hb hn=>
  aw14_rest x (mem_allIt (la_follow hK h).1) (by rw [hb]) (by rw [hb];exact hn)
 induction h with
 |start=>rfl
 |step _ _ _ _ _ _ _ _ ih=>exact ih
 |close i x s k t u hx hb hn hk hl ih=>
  rw [key hx hb hn]at hl
  cases hl
 |pass _ _ _ _ _ _ _ _ _ _ ih=>exact ih
theorem aw14_pass {i:Nat} {x:It} {s k:Int} (h:LA aw13 3 aw13D i x 0) (hb:behindI aw13 3 x=(s,true)) (hn:isNon aw13 s=true) (hk:k∈ofOf aw13 s) (hr:restI aw13 3 x=[]):LA aw13 3 aw13D i (k,0) 0:= .pass i x s k 0 h hb hn hk (by rw [hr];rfl)
theorem aw14_la:LA aw13 3 aw13D 2 (1,1) 0∧LA aw13 3 aw13D 3 (2,1) 0∧LA aw13 3 aw13D 4 (0,2) 0:=by
 have h0:LA aw13 3 aw13D 0 (2,0) 0:=LA.start
 have hb0:behindI aw13 3 (2,0)=(3,true):=by decide+kernel
 have h00:=aw14_pass (k:=0) h0 hb0 (by decide+kernel) (by decide+kernel) (by decide+kernel)
 have h01:=aw14_pass (k:=1) h0 hb0 (by decide+kernel) (by decide+kernel) (by decide+kernel)
 have h2:=LA.step 0 2 (1,0) 2 0 h01 (by decide+kernel) (by decide+kernel)
 have h3:=LA.step 0 3 (2,0) 3 0 h0 hb0 (by decide+kernel)
 have h1:=LA.step 0 1 (0,0) 1 0 h00 (by decide+kernel) (by decide+kernel)
 have h4:=LA.step 1 4 (0,1) 3 0 h1 (by decide+kernel) (by decide+kernel)
 exact⟨h2,h3,h4⟩
theorem aw14_lks {i:Nat} {e:List It×List It} (p:Nat→Bool) (h1:clC aw13 3 e.1 4=clC aw13 3 e.1 3) (hp: ∀k:Nat,k<3→decide (((k:Int),lnI aw13 3 k)∈clC aw13 3 e.1 3)=p k) (hL: ∀k:Nat,k<3→p k=true→LA aw13 3 aw13D i ((k:Int),lnI aw13 3 k) 0):
  lksD aw13 3 aw13D i e=(List.range 3).filterMap fun k:Nat=>if p k=true then some ((k:Int),[0])else none:=by
 unfold lksD
 refine fmap_congr fun k hk=> ?_
 have hk3:k<3:=List.mem_range.1 hk
 have hc:=(clC_is h1).2 ((k:Int),lnI aw13 3 k)
 have e1:toB (Cl aw13 3 e.1 ((k:Int),lnI aw13 3 k))=p k:=by
  rw [←hp k hk3]
  exact bool_of (toB_iff.trans (hc.symm.trans decide_eq_true_iff.symm))
 rw [e1]
 cases hpk:p k with
 |false=>rfl
 |true=>
  have:(fun t=>toB (LA aw13 3 aw13D i ((k:Int),lnI aw13 3 k) t))=fun t=>decide (t=0):=funext fun t=>bool_of (toB_iff.trans ⟨fun h=>decide_eq_true (aw14_zero h),fun h=>by rw [of_decide_eq_true h];exact hL k hk3 hpk⟩)
  rw [this]
  rfl
theorem three {P:Nat→Prop} (h0:P 0) (h1:P 1) (h2:P 2): ∀k:Nat,k<3→P k:=fun k hk=>by
 rcases k with _|_|_|k
 ·exact h0
 ·exact h1
 ·exact h2
 ·omega
theorem aw14_looks:looksD aw13 3 aw13D=[[],[],[(1,[0])],[(2,[0])],[(0,[0])]]:=by
 obtain⟨a2,a3,a4⟩:=aw14_la
 have e0:=aw14_lks (i:=0) (e:=([(2,0)],[(1,1),(2,2),(3,3)])) (fun _=>false) (by decide+kernel) (three (by decide+kernel) (by decide+kernel) (by decide+kernel)) (fun _ _ h=>by cases h)
 have e1:=aw14_lks (i:=1) (e:=([(0,1)],[(1,1),(2,2),(3,4)])) (fun _=>false) (by decide+kernel) (three (by decide+kernel) (by decide+kernel) (by decide+kernel)) (fun _ _ h=>by cases h)
 have e2:=aw14_lks (i:=2) (e:=([(1,1)],[])) (fun k=>decide (k=1)) (by decide+kernel) (three (by decide+kernel) (by decide+kernel) (by decide+kernel)) (three (fun h=>absurd h (by decide)) (fun _=>a2) (fun h=>absurd h (by decide)))
 have e3:=aw14_lks (i:=3) (e:=([(2,1)],[])) (fun k=>decide (k=2)) (by decide+kernel) (three (by decide+kernel) (by decide+kernel) (by decide+kernel)) (three (fun h=>absurd h (by decide)) (fun h=>absurd h (by decide)) (fun _=>a3))
 have e4:=aw14_lks (i:=4) (e:=([(0,2)],[])) (fun k=>decide (k=0)) (by decide+kernel) (three (by decide+kernel) (by decide+kernel) (by decide+kernel)) (three (fun _=>a4) (fun h=>absurd h (by decide)) (fun h=>absurd h (by decide)))
 have hD:aw13D=[([(2,0)],[(1,1),(2,2),(3,3)]),([(0,1)],[(1,1),(2,2),(3,4)]),([(1,1)],[]),([(2,1)],[]),([(0,2)],[])]:=rfl
 have hm: ∀g:Nat→(List It×List It)→List Lk,List.mapIdx g aw13D=[g 0 ([(2,0)],[(1,1),(2,2),(3,3)]),g 1 ([(0,1)],[(1,1),(2,2),(3,4)]),g 2 ([(1,1)],[]),g 3 ([(2,1)],[]),g 4 ([(0,2)],[])]:=fun g=>rfl
 unfold looksD
 rw [hm,e0,e1,e2,e3,e4]
 rfl
theorem LookPost.known {w w':World} {G:GramD} {st:Int} {e:Ending} {L T:List (List It)} (h:LookPost w G st (checkOf G st) e w') (h0:checkOf G st=0) (ha:Auto G st (some (L,T))):Below w.heap.size w w'∧ ∃A n c,e= .returned (.tuple #[.slice A n c,.int .i64 0])∧RdLks w' (fun b=>w.heap.size≤b∧b<w'.heap.size) (.slice A n c) (looksD G st (stD L T)):=by
 obtain⟨hb,A,n,c,ev,D,he,hai,rd⟩:=h
 obtain⟨rfl,rfl⟩:=hai.unique (.inr (.inr ⟨h0,L,T,ha,rfl,rfl⟩))
 exact⟨hb,A,n,c,he,rd⟩
theorem RdLks.at_ {w:World} {F:Nat→Prop} {A:Option Addr} {n c:Nat} {LL:List (List Lk)} (h:RdLks w F (.slice A n c) LL):n=LL.length∧n≤c∧c≤maxLen∧(0<n→ ∃b off,A=some ⟨b,off,none⟩∧F b∧ ∀(i:Nat) L,LL[i]? =some L→ ∃A' n' c',w.cell? ⟨b,off+i,none⟩=some (.slice A' n' c')∧RdLk w F (.slice A' n' c') L):=by
 obtain⟨Z,h1,⟨A',n',c',hv,h2,h3,h4,h5⟩,h6⟩:=h
 injection hv with e1 e2 e3
 subst e1 e2 e3
 refine⟨by omega,h2,h3,fun hn=> ?_⟩
 obtain⟨b,off,hA,hF,hc⟩:=h5 hn
 refine⟨b,off,hA,hF,fun i L hL=> ?_⟩
 have hi:=(List.getElem?_eq_some_iff.1 hL).1
 obtain⟨z,hz⟩: ∃z,Z[i]? =some z:=⟨_,List.getElem?_eq_getElem (by omega)⟩
 have hr:=h6 i z L hz hL
 obtain⟨Z',g1,⟨A',n',c',rfl,g2⟩,g3⟩:=id hr
 exact⟨A',n',c',hc i _ hz,hr⟩
theorem RdLk.at_ {w:World} {F:Nat→Prop} {A:Option Addr} {n c:Nat} {L:List Lk} (h:RdLk w F (.slice A n c) L):n=L.length∧n≤c∧c≤maxLen∧(0<n→ ∃b off,A=some ⟨b,off,none⟩∧F b∧ ∀(i:Nat) x,L[i]? =some x→ ∃A' n' c',w.cell? ⟨b,off+i * 2,none⟩=some (.int .i64 x.1)∧w.cell? ⟨b,off+i * 2+1,none⟩=some (.slice A' n' c')∧RdI w F (.slice A' n' c') x.2):=by
 obtain⟨Z,h1,⟨A',n',c',hv,h2,h3,h4,h5⟩,h6⟩:=h
 injection hv with e1 e2 e3
 subst e1 e2 e3
 unfold lkCells at h4
 rw [flat_len (k:=2) (fun _=>rfl),zip_len h1.symm]at h4
 refine⟨by omega,h2,h3,fun hn=> ?_⟩
 obtain⟨b,off,hA,hF,hc⟩:=h5 hn
 refine⟨b,off,hA,hF,fun i x hx=> ?_⟩
 have hi:=(List.getElem?_eq_some_iff.1 hx).1
 obtain⟨z,hz⟩: ∃z,Z[i]? =some z:=⟨_,List.getElem?_eq_getElem (by omega)⟩
 have hzz:(List.zip L Z)[i]? =some (x,z):=by rw [List.getElem?_zip_eq_some];exact⟨hx,hz⟩
 have g0:=flat_get (k:=2) (f:=fun x:Lk×Value=>[.int .i64 x.1.1,x.2]) (fun _=>rfl) hzz (j:=0) (by omega)
 have g1:=flat_get (k:=2) (f:=fun x:Lk×Value=>[.int .i64 x.1.1,x.2]) (fun _=>rfl) hzz (j:=1) (by omega)
 have hr:=h6 i z x hz hx
 obtain⟨A',n',c',rfl,-⟩:=id hr
 exact⟨A',n',c',hc _ _ g0,by have:=hc _ _ g1;rw [←Nat.add_assoc]at this;exact this,hr⟩
set_option maxRecDepth 100000 in
set_option maxHeartbeats 4000000 in
theorem law14_awake (w:World):Calls Tryz.prog 45 #[] w (Quiet w (.bool true)):=by
 obtain⟨g,hb⟩:=aw13_box w
 have cb:=look_Of g.gram g.gram.lt 3
 obtain⟨q0,q1,q2,q3⟩:=g.cells
 clear g
 have Xcb:=hide cb;have Xhb:=hide hb;clear cb hb
 go_enter Tryz.func45,Tryz.ntmps45
 go_wp2_with fail
 refine Xcb.out.mono ?_
 rintro e w2 hp
 obtain⟨b2,A,n,c,rfl,rd⟩:=hp.known aw13_check aw13_auto
 rw [aw14_looks]at rd
 have hb2:=Xhb.out.trans (b2.mono Xhb.out.size)
 obtain⟨hn,hnc,hcm,hcell⟩:=rd.at_
 obtain rfl:n=5:=hn
 unfold maxLen at hcm
 obtain⟨b,off,rfl,-,hcc⟩:=hcell (by omega)
 obtain⟨A0,n0,c0,u0,r0⟩:=hcc 0 [] rfl
 obtain⟨A2,n2,c2,u2,r2⟩:=hcc 2 [(1,[0])] rfl
 obtain⟨hn0,-⟩:=r0.at_
 obtain rfl:n0=0:=hn0
 obtain⟨hn2,hnc2,hcm2,hcell2⟩:=r2.at_
 obtain rfl:n2=1:=hn2
 unfold maxLen at hcm2
 obtain⟨b',off',rfl,-,hcc2⟩:=hcell2 (by omega)
 obtain⟨A3,n3,c3,v0,v1,rt⟩:=hcc2 0 (1,[0]) rfl
 obtain⟨hn3,hnc3,hcm3,hcell3⟩:=RdI.at_ rt
 obtain rfl:n3=1:=hn3
 unfold maxLen at hcm3
 obtain⟨b3,off3,rfl,-,hcc3⟩:=hcell3 (by omega)
 have t0:=hcc3 0 0 rfl
 rw [Nat.add_zero]at u0 t0
 rw [Nat.zero_mul,Nat.add_zero]at v0 v1
 simp only at v0
 clear Xcb Xhb b2 hp q0 q1 q2 q3 rd hcell hcc r0 r2 hcell2 hcc2 rt hcell3 hcc3
 have Xhb2:=hide hb2;clear hb2
 go_wp2_with fail
 go_ret
 exact⟨rfl,Xhb2.out⟩
end Go.Proofs.YtlpokomfljmogaaGreat
namespace Go.Proofs.YtlpokomfljmogaaGreat
set_option linter.unusedVariables false
set_option linter.unusedSimpArgs false
open Go.RowKit
def endI (G:GramD) (st:Int) (x:It):Bool:= !(behindI G st x).2
noncomputable def endsE (G:GramD) (st:Int) (l:List It):List It:=(List.range (G.rules.length+1)).filterMap fun k:Nat=>if toB (Cl G st l ((k:Int),lnI G st k))=true then some ((k:Int),lnI G st k)else none
theorem lks_fst (G:GramD) (st:Int) (D:Sts0) (i:Nat) (e:List It×List It):(lksD G st D i e).map (·.1)=(endsE G st e.1).map (·.1):=by
 unfold lksD endsE
 rw [List.map_filterMap,List.map_filterMap]
 refine fmap_congr fun k _=> ?_
 by_cases h:toB (Cl G st e.1 ((k:Int),lnI G st k))=true
 ·rw [if_pos h,if_pos h];rfl
 ·rw [if_neg h,if_neg h];rfl
theorem ends_strict (G:GramD) (st:Int) (l:List It):StrictI (endsE G st l):=by
 unfold endsE StrictI
 rw [List.pairwise_filterMap]
 refine List.Pairwise.imp ?_ (List.pairwise_lt_range (n:=G.rules.length+1))
 intro a b hab x hx y hy
 split at hx
 ·split at hy
  ·injection hx with hx
   injection hy with hy
   rw [←hx,←hy,itLt_iff]
   exact .inl (by show(a:Int)<(b:Int);omega)
  ·cases hy
 ·cases hx
theorem rule_in {G:GramD} {st i:Int} (h:(ruleOf G st i).2=true):0≤i∧i≤G.rules.length:=by
 unfold ruleOf at h
 split at h
 ·cases h
 ·omega
theorem ends_mem {G:GramD} {st:Int} {l:List It} (x:It):x∈endsE G st l↔Cl G st l x∧endI G st x=true:=by
 unfold endsE
 rw [List.mem_filterMap]
 constructor
 ·rintro⟨k,hk,hx⟩
  split at hx
  ·rename_i hc
   injection hx with hx
   have hc:=toB_iff.1 hc
   rw [hx]at hc
   refine⟨hc,?_⟩
   unfold endI behindI
   rw [if_neg]
   ·rfl
   ·rintro⟨-,h2⟩
    rw [←hx]at h2
    unfold lnI rgt at h2
    exact absurd h2 (by simp)
  ·cases hx
 ·rintro⟨hc,he⟩
  have hr:=hc.right
  have hr':=hr
  unfold rightI at hr'
  simp only [Bool.and_eq_true,decide_eq_true_eq]at hr'
  obtain⟨h1,h2,h3⟩:=hr'
  obtain⟨h4,h5⟩:=rule_in h1
  have h6: ¬x.2<(ruleOf G st x.1).1.2.length:=fun hlt=>by
   unfold endI behindI at he
   rw [if_pos ⟨hr,hlt⟩]at he
   cases he
  have hx1:((x.1.toNat:Nat):Int)=x.1:=by omega
  have hx2:(((x.1.toNat:Nat):Int),lnI G st ((x.1.toNat:Nat):Int))=x:=by
   rw [hx1]
   exact Prod.ext rfl (by unfold lnI rgt;show((ruleOf G st x.1).1.2.length:Int)=x.2;omega)
  refine⟨x.1.toNat,by rw [List.mem_range];omega,?_⟩
  rw [hx2,if_pos (toB_iff.2 hc)]
theorem ends_of {G:GramD} {st:Int} {l c:List It} (hc:IsCl G st l c):endsE G st l=c.filter (endI G st):=
 strict_unique (ends_strict G st l) (List.Pairwise.filter _ hc.strict) fun x=>by
  rw [ends_mem,List.mem_filter,hc.mem]
def cntI (G:GramD) (st:Int) (c:List It) (k:Nat):Nat:=((c.take k).filter (endI G st)).length
theorem cnt_zero (G:GramD) (st:Int) (c:List It):cntI G st c 0=0:=by unfold cntI;simp
theorem cnt_succ {G:GramD} {st:Int} {c:List It} {k:Nat} {x:It} (h:c[k]? =some x):cntI G st c (k+1)=cntI G st c k+(if endI G st x=true then 1 else 0):=by
 unfold cntI
 rw [List.take_add_one,h,List.filter_append,List.length_append]
 by_cases he:endI G st x=true
 ·simp [List.filter,he]
 ·simp [List.filter,he]
theorem cnt_all {G:GramD} {st:Int} {D:Sts0} {i:Nat} {e:List It×List It} {c:List It} (hc:IsCl G st e.1 c):cntI G st c c.length=(lksD G st D i e).length:=by
 have h:=congrArg List.length (lks_fst G st D i e)
 rw [List.length_map,List.length_map,ends_of hc]at h
 rw [h]
 unfold cntI
 rw [List.take_length]
theorem filter_at {X:Type} {p:X→Bool}: ∀{c:List X} {k:Nat} {x:X},c[k]? =some x→p x=true→(c.filter p)[((c.take k).filter p).length]? =some x
 |[],k,x,h,_=>by simp at h
 |a::r,0,x,h,hp=>by
  rw [List.getElem?_cons_zero]at h
  injection h with h
  rw [h]
  simp [hp]
 |a::r,k+1,x,h,hp=>by
  rw [List.getElem?_cons_succ]at h
  have ih:=filter_at h hp
  rw [List.take_succ_cons]
  by_cases ha:p a=true
  ·rw [List.filter_cons_of_pos ha,List.filter_cons_of_pos ha,List.length_cons,List.getElem?_cons_succ];exact ih
  ·rw [List.filter_cons_of_neg ha,List.filter_cons_of_neg ha];exact ih
theorem lks_at {G:GramD} {st:Int} {D:Sts0} {i:Nat} {e:List It×List It} {c:List It} (hc:IsCl G st e.1 c) {k:Nat} {x:It} (h:c[k]? =some x) (he:endI G st x=true): ∃y,(lksD G st D i e)[cntI G st c k]? =some y∧y.1=x.1:=by
 have h1:=filter_at h he
 rw [←ends_of hc]at h1
 have h2:((lksD G st D i e).map (·.1))[cntI G st c k]? =some x.1:=by
  rw [lks_fst,List.getElem?_map]
  unfold cntI
  rw [h1];rfl
 rw [List.getElem?_map]at h2
 obtain⟨y,hy,hyx⟩:=Option.map_eq_some_iff.1 h2
 exact⟨y,hy,hyx⟩
theorem lks_len301 {G:GramD} {st:Int} {D:Sts0} {i:Nat} {e:List It×List It}:(lksD G st D i e).length≤G.rules.length+1:=by
 unfold lksD
 exact Nat.le_trans (List.length_filterMap_le _ _) (by simp)
end Go.Proofs.YtlpokomfljmogaaGreat

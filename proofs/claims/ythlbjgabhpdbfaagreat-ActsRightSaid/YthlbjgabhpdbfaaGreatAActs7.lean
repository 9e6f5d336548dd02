/- Tables: the program computes at all. -/
import Derived.Test.YthlbjgabhpdbfaaGreatAActs6
import Derived.Test.YthlbjgabhpdbfaaGreatAActs4
namespace Go.Proofs.YthlbjgabhpdbfaaGreat
set_option linter.unusedVariables false
set_option linter.unusedSimpArgs false
open Go.RowKit
attribute [local irreducible] wpStill wpOne wpPh
def am:GramD:=⟨[⟨#[65]⟩,⟨#[66]⟩],[⟨#[115]⟩],[(3,[3,1,3]),(3,[2])],3⟩
theorem am_box (w:World):GBox ((((((w.alloc (.cells #[.string ⟨#[65]⟩,.string ⟨#[66]⟩] 9)).alloc (.cells #[.string ⟨#[115]⟩] 9)).alloc (.cells #[.int .i64 3,.int .i64 1,.int .i64 3] 3)).alloc (.cells #[.int .i64 2] 3)).alloc (.cells #[.int .i64 3,.slice (some ⟨w.heap.size+1+1,0,none⟩) 3 3,.int .i64 3,.slice (some ⟨w.heap.size+1+1+1,0,none⟩) 1 1] 98)).alloc (.cells #[.slice (some ⟨w.heap.size,0,none⟩) 2 2,.slice (some ⟨w.heap.size+1,0,none⟩) 1 1,.slice (some ⟨w.heap.size+1+1+1+1,0,none⟩) 2 2,.int .i64 3] 25)) (fun b=>w.heap.size<=b/\b<w.heap.size+5) (w.heap.size+1+1+1+1+1) (some ⟨w.heap.size,0,none⟩) 2 (some ⟨w.heap.size+1,0,none⟩) 1 (some ⟨w.heap.size+1+1+1+1,0,none⟩) 2 2 1 2 3 am/\Below w.heap.size w ((((((w.alloc (.cells #[.string ⟨#[65]⟩,.string ⟨#[66]⟩] 9)).alloc (.cells #[.string ⟨#[115]⟩] 9)).alloc (.cells #[.int .i64 3,.int .i64 1,.int .i64 3] 3)).alloc (.cells #[.int .i64 2] 3)).alloc (.cells #[.int .i64 3,.slice (some ⟨w.heap.size+1+1,0,none⟩) 3 3,.int .i64 3,.slice (some ⟨w.heap.size+1+1+1,0,none⟩) 1 1] 98)).alloc (.cells #[.slice (some ⟨w.heap.size,0,none⟩) 2 2,.slice (some ⟨w.heap.size+1,0,none⟩) 1 1,.slice (some ⟨w.heap.size+1+1+1+1,0,none⟩) 2 2,.int .i64 3] 25)):=by
 obtain⟨w1,e1⟩: ∃q,q=w.alloc (.cells #[.string ⟨#[65]⟩,.string ⟨#[66]⟩] 9):=⟨_,rfl⟩
 obtain⟨w2,e2⟩: ∃q,q=w1.alloc (.cells #[.string ⟨#[115]⟩] 9):=⟨_,rfl⟩
 obtain⟨w3,e3⟩: ∃q,q=w2.alloc (.cells #[.int .i64 3,.int .i64 1,.int .i64 3] 3):=⟨_,rfl⟩
 obtain⟨w4,e4⟩: ∃q,q=w3.alloc (.cells #[.int .i64 2] 3):=⟨_,rfl⟩
 obtain⟨w5,e5⟩: ∃q,q=w4.alloc (.cells #[.int .i64 3,.slice (some ⟨w.heap.size+1+1,0,none⟩) 3 3,.int .i64 3,.slice (some ⟨w.heap.size+1+1+1,0,none⟩) 1 1] 98):=⟨_,rfl⟩
 obtain⟨w6,e6⟩: ∃q,q=w5.alloc (.cells #[.slice (some ⟨w.heap.size,0,none⟩) 2 2,.slice (some ⟨w.heap.size+1,0,none⟩) 1 1,.slice (some ⟨w.heap.size+1+1+1+1,0,none⟩) 2 2,.int .i64 3] 25):=⟨_,rfl⟩
 rw [<-e1,<-e2,<-e3,<-e4,<-e5,<-e6]
 have z1:w1.heap.size=w.heap.size+1:=by rw [e1];simp
 have b1:Below w.heap.size w w1:=by rw [e1];exact(Below.refl _ _).alloc (Nat.le_refl _) _
 have k1:Blk w1 (w.heap.size) 9 #[.string ⟨#[65]⟩,.string ⟨#[66]⟩]:=by
  have h:=Blk.new w 9 #[.string ⟨#[65]⟩,.string ⟨#[66]⟩]
  rw [<-e1]at h;exact h
 have z2:w2.heap.size=w.heap.size+2:=by rw [e2];simp;omega
 have b2:Below w1.heap.size w1 w2:=by rw [e2];exact(Below.refl _ _).alloc (Nat.le_refl _) _
 have k2:Blk w2 (w.heap.size+1) 9 #[.string ⟨#[115]⟩]:=by
  have h:=Blk.new w1 9 #[.string ⟨#[115]⟩]
  rw [<-e2,z1]at h;exact h
 have z3:w3.heap.size=w.heap.size+3:=by rw [e3];simp;omega
 have b3:Below w2.heap.size w2 w3:=by rw [e3];exact(Below.refl _ _).alloc (Nat.le_refl _) _
 have k3:Blk w3 (w.heap.size+1+1) 3 #[.int .i64 3,.int .i64 1,.int .i64 3]:=by
  have h:=Blk.new w2 3 #[.int .i64 3,.int .i64 1,.int .i64 3]
  rw [<-e3,z2]at h;exact h
 have z4:w4.heap.size=w.heap.size+4:=by rw [e4];simp;omega
 have b4:Below w3.heap.size w3 w4:=by rw [e4];exact(Below.refl _ _).alloc (Nat.le_refl _) _
 have k4:Blk w4 (w.heap.size+1+1+1) 3 #[.int .i64 2]:=by
  have h:=Blk.new w3 3 #[.int .i64 2]
  rw [<-e4,z3]at h;exact h
 have z5:w5.heap.size=w.heap.size+5:=by rw [e5];simp;omega
 have b5:Below w4.heap.size w4 w5:=by rw [e5];exact(Below.refl _ _).alloc (Nat.le_refl _) _
 have k5:Blk w5 (w.heap.size+1+1+1+1) 98 #[.int .i64 3,.slice (some ⟨w.heap.size+1+1,0,none⟩) 3 3,.int .i64 3,.slice (some ⟨w.heap.size+1+1+1,0,none⟩) 1 1]:=by
  have h:=Blk.new w4 98 #[.int .i64 3,.slice (some ⟨w.heap.size+1+1,0,none⟩) 3 3,.int .i64 3,.slice (some ⟨w.heap.size+1+1+1,0,none⟩) 1 1]
  rw [<-e5,z4]at h;exact h
 have z6:w6.heap.size=w.heap.size+6:=by rw [e6];simp;omega
 have b6:Below w5.heap.size w5 w6:=by rw [e6];exact(Below.refl _ _).alloc (Nat.le_refl _) _
 have k6:Blk w6 (w.heap.size+1+1+1+1+1) 25 #[.slice (some ⟨w.heap.size,0,none⟩) 2 2,.slice (some ⟨w.heap.size+1,0,none⟩) 1 1,.slice (some ⟨w.heap.size+1+1+1+1,0,none⟩) 2 2,.int .i64 3]:=by
  have h:=Blk.new w5 25 #[.slice (some ⟨w.heap.size,0,none⟩) 2 2,.slice (some ⟨w.heap.size+1,0,none⟩) 1 1,.slice (some ⟨w.heap.size+1+1+1+1,0,none⟩) 2 2,.int .i64 3]
  rw [<-e6,z5]at h;exact h
 have bb6:Below w6.heap.size w6 w6:=Below.refl _ _
 have bb5:Below w5.heap.size w5 w6:=b6.trans (bb6.mono b6.size)
 have bb4:Below w4.heap.size w4 w6:=b5.trans (bb5.mono b5.size)
 have bb3:Below w3.heap.size w3 w6:=b4.trans (bb4.mono b4.size)
 have bb2:Below w2.heap.size w2 w6:=b3.trans (bb3.mono b3.size)
 have bb1:Below w1.heap.size w1 w6:=b2.trans (bb2.mono b2.size)
 have b0:Below w.heap.size w w6:=b1.trans (bb1.mono b1.size)
 have y1:=k1.below bb1 k1.lt
 have y2:=k2.below bb2 k2.lt
 have y3:=k3.below bb3 k3.lt
 have y4:=k4.below bb4 k4.lt
 have y5:=k5.below bb5 k5.lt
 have y6:=k6.below bb6 k6.lt
 refine⟨⟨⟨?_,?_,?_,?_,?_,?_,?_,?_⟩,y6,rfl,rfl,rfl,by omega,by omega,by omega,by omega,by omega,by omega,by omega,by omega,by omega⟩,b0⟩
 ·exact Rd.of_blk (us:=am.terms.map Value.string) y1 (by omega) rfl (by decide)
 ·exact Rd.of_blk (us:=am.nons.map Value.string) y2 (by omega) rfl (by decide)
 ·refine RdR.of_blk [((3,[3,1,3]),.slice (some ⟨w.heap.size+1+1,0,none⟩) 3 3),((3,[2]),.slice (some ⟨w.heap.size+1+1+1,0,none⟩) 1 1)] y5 (by omega) ?_ (by unfold maxLen;simp)
  intro p hp
  simp only [List.mem_cons,List.not_mem_nil,or_false]at hp
  rcases hp with rfl|rfl
  ·exact Rd.of_blk (us:=[Value.int .i64 3,Value.int .i64 1,Value.int .i64 3]) y3 (by omega) rfl (by decide)
  ·exact Rd.of_blk (us:=[Value.int .i64 2]) y4 (by omega) rfl (by decide)
 ·intro b hb;rw [z6];omega
 ·decide
 ·exact⟨by decide,by decide⟩
 ·exact⟨by decide,by decide⟩
 ·decide
theorem am_check:checkOf am 3=0:=by decide+kernel
def amL:List (List It):=[[(2,0)],[(1,1)],[(0,1),(2,1)],[(0,2)],[(0,1),(0,3)]]
def amT:List (List It):=[[(2,1),(3,2)],[],[(1,3)],[(2,1),(3,4)],[(1,3)]]
theorem am_auto:Auto am 3 (some (amL,amT)):=by
 have step: ∀{i:Nat} {L T:List (List It)} (k:List It) (L':List (List It)) (t:List It),Bld am 3 i L T->L[i]? =some k->clC am 3 k 4=clC am 3 k 3->rowC am 3 (clC am 3 k 3) L (topOf am)=(L',t)->L'.length<=2000->Bld am 3 (i+1) L' (T++[t]):=fun{i L T} k L' t hb hk h1 h2 hl=>by
  have hr:rowA am 3 k L (topOf am)=(L',t):=by rw [rowC_eq (clC_is h1),h2]
  have:=Bld.next i L T k hb hk (by rw [hr];exact hl)
  rw [hr]at this
  exact this
 have b0:Bld am 3 0 [[(2,0)]] []:=Bld.start
 have b1:=step [(2,0)] [[(2,0)],[(1,1)],[(0,1),(2,1)]] [(2,1),(3,2)] b0 rfl (by decide+kernel) (by decide+kernel) (by decide)
 have b2:=step [(1,1)] [[(2,0)],[(1,1)],[(0,1),(2,1)]] [] b1 rfl (by decide+kernel) (by decide+kernel) (by decide)
 have b3:=step [(0,1),(2,1)] [[(2,0)],[(1,1)],[(0,1),(2,1)],[(0,2)]] [(1,3)] b2 rfl (by decide+kernel) (by decide+kernel) (by decide)
 have b4:=step [(0,2)] amL [(2,1),(3,4)] b3 rfl (by decide+kernel) (by decide+kernel) (by decide)
 have b5:=step [(0,1),(0,3)] amL [(1,3)] b4 rfl (by decide+kernel) (by decide+kernel) (by decide)
 exact Auto.ok amL amT b5
abbrev amD:Sts0:=stD amL amT
theorem am_beg1 {u:Nat} (h:BegG am 1 u):u=1:=by
 unfold BegG at h
 generalize hx:(1:Int)=x at h
 cases h with
 |self t ht=>omega
 |step r x t pre post hr _ _ _=>
  have:r.1=3:=by
   simp only [am,List.mem_cons,List.not_mem_nil,or_false]at hr
   rcases hr with rfl|rfl<;>rfl
  omega
theorem am_emp1:hasI (topN am) (empB am) 1=false:=by
 rw [Bool.eq_false_iff]
 intro h
 unfold hasI at h
 simp only [Bool.and_eq_true,decide_eq_true_eq]at h
 have h2:=h.2
 unfold empB at h2
 have h3:=(Kn.of_check am_check).emp (toB_iff.1 h2)
 revert h3
 decide+kernel
theorem am_ln {r:List Int} {u:Nat} (h:lnB am (1::r) u=true):u=1:=by
 unfold lnB at h
 obtain⟨pre,x,post,e1,e2,e3⟩:=lineB_iff.1 h
 cases pre with
 |nil=>
  injection e1 with e1 _
  subst e1
  have h3:=(famI_in e3).2.2
  unfold begB at h3
  exact am_beg1 (toB_iff.1 h3)
 |cons y pre=>
  injection e1 with e1 _
  subst e1
  have:=e2 1 (List.mem_cons_self ..)
  rw [am_emp1]at this
  cases this
theorem am_ln1 (r:List Int):lnB am (1::r) 1=true:=by
 unfold lnB
 refine lineB_iff.2 ⟨[],1,r,rfl,fun y hy=>(by cases hy),famI_mk (by omega) (by decide) ?_⟩
 unfold begB
 refine toB_iff.2 ?_
 exact Beg.self 1 (by decide)
theorem am_rest: ∀x∈allIt am 3,(behindI am 3 x).2=true->isNon am (behindI am 3 x).1=true->restI am 3 x=[]\/restI am 3 x=[1,3]:=by decide+kernel
theorem am_le {i:Nat} {x:It} {t:Nat} (h:LA am 3 amD i x t):t<=1:=by
 have hK:=KnA.of_check am_check
 induction h with
 |start=>omega
 |step _ _ _ _ _ _ _ _ ih=>exact ih
 |close i x s k t u hx hb hn hk hl ih=>
  rcases am_rest x (mem_allIt (la_follow hK hx).1) (by rw [hb]) (by rw [hb];exact hn)with e|e
  ·rw [e]at hl;cases hl
  ·rw [e]at hl
   have:=am_ln hl
   omega
 |pass _ _ _ _ _ _ _ _ _ _ ih=>exact ih
theorem am_own {i:Nat} {d:Int} {t:Nat} (h:LA am 3 amD i (2,d) t):t=0:=(la_follow (KnA.of_check am_check) h).2.1 rfl
theorem am_step {i j:Nat} {x y:It} {s:Int} {t:Nat} (h:LA am 3 amD i x t) (hb:behindI am 3 x=(s,true)) (hg:gotoD amD i s=(j:Int)) (hy:(x.1,x.2+1)=y):LA am 3 amD j y t:=by subst hy;exact .step i j x s t h hb hg
theorem am_la:(LA am 3 amD 1 (1,1) 0/\LA am 3 amD 1 (1,1) 1)/\LA am 3 amD 2 (2,1) 0/\(LA am 3 amD 4 (0,3) 0/\LA am 3 amD 4 (0,3) 1):=by
 have h0:LA am 3 amD 0 (2,0) 0:=LA.start
 have hb0:behindI am 3 (2,0)=(3,true):=by decide+kernel
 have hb1:behindI am 3 (0,0)=(3,true):=by decide+kernel
 have hn:isNon am 3=true:=by decide+kernel
 have m0:(0:Int)∈ofOf am 3:=by decide+kernel
 have m1:(1:Int)∈ofOf am 3:=by decide+kernel
 have r0:emB am (restI am 3 (2,0))=true:=by rw [show restI am 3 (2,0)=[] by decide+kernel];rfl
 have r1:restI am 3 (0,0)=[1,3]:=by decide+kernel
 have a00:=LA.pass 0 (2,0) 3 0 0 h0 hb0 hn m0 r0
 have a10:=LA.pass 0 (2,0) 3 1 0 h0 hb0 hn m1 r0
 have a01:=LA.close 0 (0,0) 3 0 0 1 a00 hb1 hn m0 (by rw [r1];exact am_ln1 _)
 have a11:=LA.close 0 (0,0) 3 1 0 1 a00 hb1 hn m1 (by rw [r1];exact am_ln1 _)
 have f1: ∀{t:Nat},LA am 3 amD 0 (1,0) t->LA am 3 amD 1 (1,1) t:=fun h=>am_step (s:=2) h (by decide+kernel) (by decide+kernel) rfl
 have f4: ∀{t:Nat},LA am 3 amD 0 (0,0) t->LA am 3 amD 4 (0,3) t:=fun h=>am_step (i:=3) (x:=(0,2)) (s:=3) (am_step (i:=2) (x:=(0,1)) (s:=1) (am_step (y:=(0,1)) h hb1 (by decide+kernel:gotoD amD 0 3=((2:Nat):Int)) rfl) (by decide+kernel) (by decide+kernel) rfl) (by decide+kernel) (by decide+kernel) rfl
 exact⟨⟨f1 a10,f1 a11⟩,am_step (s:=3) h0 hb0 (by decide+kernel) rfl,f4 a00,f4 a01⟩
theorem am_lks {i:Nat} {e:List It×List It} (p:Nat->Option (Nat->Bool)) (h1:clC am 3 e.1 4=clC am 3 e.1 3) (hp: ∀k:Nat,k<3->decide (((k:Int),lnI am 3 k)∈clC am 3 e.1 3)=(p k).isSome) (hL: ∀k:Nat,k<3-> ∀f,p k=some f-> ∀t,LA am 3 amD i ((k:Int),lnI am 3 k) t↔f t=true):
  lksD am 3 amD i e=(List.range 3).filterMap fun k:Nat=>(p k).map fun f=>((k:Int),tmsOf 3 f):=by
 unfold lksD
 refine fmap_congr fun k hk=> ?_
 have hk3:k<3:=List.mem_range.1 hk
 have hc:=(clC_is h1).2 ((k:Int),lnI am 3 k)
 have e1:toB (Cl am 3 e.1 ((k:Int),lnI am 3 k))=(p k).isSome:=by
  rw [<-hp k hk3]
  exact bool_of (toB_iff.trans (hc.symm.trans decide_eq_true_iff.symm))
 rw [e1]
 cases hpk:p k with
 |none=>rfl
 |some f=>
  have:(fun t=>toB (LA am 3 amD i ((k:Int),lnI am 3 k) t))=f:=funext fun t=>bool_of (toB_iff.trans (hL k hk3 f hpk t))
  rw [this]
  rfl
theorem am_looks:looksD am 3 amD=[[],[(1,[0,1])],[(2,[0])],[],[(0,[0,1])]]:=by
 obtain⟨⟨a10,a11⟩,a2,a40,a41⟩:=am_la
 have two: ∀{i:Nat} {x:It} (t:Nat),LA am 3 amD i x 0->LA am 3 amD i x 1->(LA am 3 amD i x t↔decide (t<=1)=true):=fun t g0 g1=>⟨fun h=>decide_eq_true (am_le h),fun h=>by
  have:=of_decide_eq_true h
  rcases(by omega:t=0\/t=1)with e|e
  ·subst e;exact g0
  ·subst e;exact g1⟩
 have e0:=am_lks (i:=0) (e:=([(2,0)],[(2,1),(3,2)])) (fun _=>none) (by decide+kernel) (three (by decide+kernel) (by decide+kernel) (by decide+kernel)) (fun _ _ f h=>by cases h)
 have e1:=am_lks (i:=1) (e:=([(1,1)],[])) (fun k=>if k=1 then some fun t=>decide (t<=1)else none) (by decide+kernel) (three (by decide+kernel) (by decide+kernel) (by decide+kernel)) (three (fun f h=>by cases h) (fun f h t=>by cases h;exact two t a10 a11) (fun f h=>by cases h))
 have e2:=am_lks (i:=2) (e:=([(0,1),(2,1)],[(1,3)])) (fun k=>if k=2 then some fun t=>decide (t=0)else none) (by decide+kernel) (three (by decide+kernel) (by decide+kernel) (by decide+kernel)) (three (fun f h=>by cases h) (fun f h=>by cases h) (fun f h t=>by cases h;exact⟨fun h=>decide_eq_true (am_own h),fun h=>by have:=of_decide_eq_true h;subst this;exact a2⟩))
 have e3:=am_lks (i:=3) (e:=([(0,2)],[(2,1),(3,4)])) (fun _=>none) (by decide+kernel) (three (by decide+kernel) (by decide+kernel) (by decide+kernel)) (fun _ _ f h=>by cases h)
 have e4:=am_lks (i:=4) (e:=([(0,1),(0,3)],[(1,3)])) (fun k=>if k=0 then some fun t=>decide (t<=1)else none) (by decide+kernel) (three (by decide+kernel) (by decide+kernel) (by decide+kernel)) (three (fun f h t=>by cases h;exact two t a40 a41) (fun f h=>by cases h) (fun f h=>by cases h))
 have hD:amD=[([(2,0)],[(2,1),(3,2)]),([(1,1)],[]),([(0,1),(2,1)],[(1,3)]),([(0,2)],[(2,1),(3,4)]),([(0,1),(0,3)],[(1,3)])]:=rfl
 have hm: ∀g:Nat->(List It×List It)->List Lk,List.mapIdx g amD=[g 0 ([(2,0)],[(2,1),(3,2)]),g 1 ([(1,1)],[]),g 2 ([(0,1),(2,1)],[(1,3)]),g 3 ([(0,2)],[(2,1),(3,4)]),g 4 ([(0,1),(0,3)],[(1,3)])]:=fun g=>rfl
 unfold looksD
 rw [hm,e0,e1,e2,e3,e4]
 rfl
theorem am_cls:clsOf am 3 0 amD=[((4,1),((1,3),(2,0)))]:=by
 unfold clsOf
 rw [if_pos rfl,am_looks]
 decide+kernel
theorem aw13_cls:clsOf aw13 3 0 aw13D=[]:=by
 unfold clsOf
 rw [if_pos rfl,aw14_looks]
 decide+kernel
abbrev aw15T:TabD:=tabD aw13 3 aw13D [[],[],[(1,[0])],[(2,[0])],[(0,[0])]]
theorem aw15_tab:rightT aw15T=true/\actT aw15T 0 2=(1,2)/\gotoT aw15T 0 3=3:=by decide+kernel
theorem ClashesPost.known {w w':World} {G:GramD} {st:Int} {e:Ending} {L T:List (List It)} (h:ClashesPost w G st e w') (h0:checkOf G st=0) (ha:Auto G st (some (L,T))) {cl:List Cla} (hcl:clsOf G st 0 (stD L T)=cl):Below w.heap.size w w'/\ ∃A c,e= .returned (.tuple #[.slice A cl.length c,.int .i64 0])/\Rd w' (fun b=>w.heap.size<=b/\b<w'.heap.size) (.slice A cl.length c) 6 (claCells cl):=by
 obtain⟨hb,A,c,ev,D,he,hai,rd⟩:=h
 obtain⟨rfl,rfl⟩:=hai.unique (.inr (.inr ⟨h0,L,T,ha,rfl,rfl⟩))
 rw [hcl]at he rd
 exact⟨hb,A,c,he,rd⟩
theorem ActsPost.known {w w':World} {F:Nat->Prop} {G:GramD} {st:Int} {e:Ending} {L T:List (List It)} (h:ActsPost w F G st e w') (h0:checkOf G st=0) (ha:Auto G st (some (L,T))) (hcl:clsOf G st 0 (stD L T)=[]):Below w.heap.size w w'/\ ∃vr va vg,e= .returned (.tuple #[TV vr G.terms.length G.nons.length va vg,.int .i64 0])/\IsTab w' (fun b=>(F b\/w.heap.size<=b)/\b<w'.heap.size) vr va vg (tabD G st (stD L T) (looksD G st (stD L T))):=by
 obtain⟨hb,ev,D,hai,h⟩:=h
 obtain⟨rfl,rfl⟩:=hai.unique (.inr (.inr ⟨h0,L,T,ha,rfl,rfl⟩))
 rcases h with⟨ev',he,⟨h1,-⟩|⟨-,h1,-⟩⟩|⟨-,-,vr,va,vg,he,ht⟩
 ·exact absurd rfl h1
 ·exact absurd hcl h1
 ·exact⟨hb,vr,va,vg,he,ht⟩
end Go.Proofs.YthlbjgabhpdbfaaGreat
namespace Go.Proofs.YthlbjgabhpdbfaaGreat
open Go.RowKit
theorem Tryz.field_act (x y:Int) (w:World):Sem.run Tryz.prog (Instr.field 46 (.agg #[.int .i64 x,.int .i64 y]) 0) w= .ok (.int .i64 x) w:=by
 unfold Instr.field
 simp only [Sem.run_bind,run_underlying Tryz.underlying46,Result.andThen_ok]
 simp [go_sem,asAgg,part]
set_option linter.unusedVariables false
set_option linter.unusedSimpArgs false
attribute [local irreducible] wpStill wpOne wpPh
theorem am_then {w:World} {F:Nat->Prop} {At An:Option Addr} {nt ct nn cn:Nat} {vr:Value} (h:IsGram w F (.slice At nt ct) (.slice An nn cn) vr am): ∃w6,w6=(((w.alloc (.cells #[.slice At nt ct,.slice An nn cn,.slice (some ⟨w.heap.size+1+1+1,0,none⟩) 2 2,.int .i64 3] 25)).alloc (.cells #[.int .i64 1,.int .i64 3] 3)).alloc (.cells #[.int .i64 2] 3)).alloc (.cells #[.int .i64 3,.slice (some ⟨w.heap.size+1,0,none⟩) 2 2,.int .i64 3,.slice (some ⟨w.heap.size+1+1,0,none⟩) 1 1] 98)/\
  Below w.heap.size w w6/\Blk w6 w.heap.size 25 #[.slice At nt ct,.slice An nn cn,.slice (some ⟨w.heap.size+1+1+1,0,none⟩) 2 2,.int .i64 3]/\IsGram w6 (fun b=>F b\/(w.heap.size<b/\b<w.heap.size+4)) (.slice At nt ct) (.slice An nn cn) (.slice (some ⟨w.heap.size+1+1+1,0,none⟩) 2 2) aw13:=by
 obtain⟨w3,e3⟩: ∃q,q=w.alloc (.cells #[.slice At nt ct,.slice An nn cn,.slice (some ⟨w.heap.size+1+1+1,0,none⟩) 2 2,.int .i64 3] 25):=⟨_,rfl⟩
 obtain⟨w4,e4⟩: ∃q,q=w3.alloc (.cells #[.int .i64 1,.int .i64 3] 3):=⟨_,rfl⟩
 obtain⟨w5,e5⟩: ∃q,q=w4.alloc (.cells #[.int .i64 2] 3):=⟨_,rfl⟩
 obtain⟨w6,e6⟩: ∃q,q=w5.alloc (.cells #[.int .i64 3,.slice (some ⟨w.heap.size+1,0,none⟩) 2 2,.int .i64 3,.slice (some ⟨w.heap.size+1+1,0,none⟩) 1 1] 98):=⟨_,rfl⟩
 have z3:w3.heap.size=w.heap.size+1:=by rw [e3];simp
 have z4:w4.heap.size=w.heap.size+1+1:=by rw [e4];simp [z3]
 have z5:w5.heap.size=w.heap.size+1+1+1:=by rw [e5];simp [z4]
 have z6:w6.heap.size=w.heap.size+1+1+1+1:=by rw [e6];simp [z5]
 have b3:Below w.heap.size w w3:=by rw [e3];exact(Below.refl _ _).alloc (Nat.le_refl _) _
 have b4:Below w3.heap.size w3 w4:=by rw [e4];exact(Below.refl _ _).alloc (Nat.le_refl _) _
 have b5:Below w4.heap.size w4 w5:=by rw [e5];exact(Below.refl _ _).alloc (Nat.le_refl _) _
 have b6:Below w5.heap.size w5 w6:=by rw [e6];exact(Below.refl _ _).alloc (Nat.le_refl _) _
 have b56:=b5.trans (b6.mono b5.size)
 have b46:=b4.trans (b56.mono b4.size)
 have b36:=b3.trans (b46.mono b3.size)
 have k3:Blk w6 w.heap.size 25 #[.slice At nt ct,.slice An nn cn,.slice (some ⟨w.heap.size+1+1+1,0,none⟩) 2 2,.int .i64 3]:=by
  have k:=Blk.new w 25 #[.slice At nt ct,.slice An nn cn,.slice (some ⟨w.heap.size+1+1+1,0,none⟩) 2 2,.int .i64 3]
  rw [<-e3]at k
  exact k.below b46 k.lt
 have k4:Blk w6 (w.heap.size+1) 3 #[.int .i64 1,.int .i64 3]:=by
  have k:=Blk.new w3 3 #[.int .i64 1,.int .i64 3]
  rw [<-e4,z3]at k
  exact k.below b56 k.lt
 have k5:Blk w6 (w.heap.size+1+1) 3 #[.int .i64 2]:=by
  have k:=Blk.new w4 3 #[.int .i64 2]
  rw [<-e5,z4]at k
  exact k.below b6 k.lt
 have k6:Blk w6 (w.heap.size+1+1+1) 98 #[.int .i64 3,.slice (some ⟨w.heap.size+1,0,none⟩) 2 2,.int .i64 3,.slice (some ⟨w.heap.size+1+1,0,none⟩) 1 1]:=by
  have k:=Blk.new w5 98 #[.int .i64 3,.slice (some ⟨w.heap.size+1,0,none⟩) 2 2,.int .i64 3,.slice (some ⟨w.heap.size+1+1,0,none⟩) 1 1]
  rwa [<-e6,z5]at k
 have h6:=h.below b36
 refine⟨w6,by rw [e6,e5,e4,e3],b36,k3,?_,?_,?_,?_,?_,?_,?_,?_⟩
 ·exact Rd.mono h6.terms fun b hb=> .inl hb
 ·exact Rd.mono h6.nons fun b hb=> .inl hb
 ·refine RdR.of_blk [((3,[1,3]),.slice (some ⟨w.heap.size+1,0,none⟩) 2 2),((3,[2]),.slice (some ⟨w.heap.size+1+1,0,none⟩) 1 1)] k6 (.inr (by omega)) ?_ (by unfold maxLen;simp)
  intro p hp
  simp only [List.mem_cons,List.not_mem_nil,or_false]at hp
  rcases hp with rfl|rfl
  ·exact Rd.of_blk (us:=[Value.int .i64 1,Value.int .i64 3]) k4 (.inr (by omega)) rfl (by decide)
  ·exact Rd.of_blk (us:=[Value.int .i64 2]) k5 (.inr (by omega)) rfl (by decide)
 ·intro b hb
  rcases hb with hb|hb
  ·have:=h.lt b hb;omega
  ·omega
 ·decide
 ·exact⟨by decide,by decide⟩
 ·exact⟨by decide,by decide⟩
 ·decide
set_option maxRecDepth 100000 in
set_option maxHeartbeats 4000000 in
theorem law15_awake (w:World):Calls Tryz.prog 17 #[] w (Quiet w (.bool true)):=by
 obtain⟨g,hb⟩:=am_box w
 have cb:=acts_Clashes g.gram g.gram.lt 3
 obtain⟨q0,q1,q2,q3⟩:=g.cells
 obtain⟨Xg,Xcb,Xhb⟩:=HqZ3 g cb hb;clear g cb hb
 go_enter Tryz.func17,Tryz.ntmps17
 go_wp2_with fail
 refine Xcb.out.mono ?_
 rintro e w2 hp
 obtain⟨b2,A,c,he,rd⟩:=hp.known am_check am_auto am_cls
 have he':e= .returned (.tuple #[.slice A 1 c,.int .i64 0]):=he
 subst he'
 have g2:=Xg.out.below b2
 have hb2:=Xhb.out.trans (b2.mono Xhb.out.size)
 obtain⟨A',n',c',hv,hnc,hcm,-,hcell⟩:=id rd
 simp only [Value.slice.injEq]at hv
 obtain⟨rfl,rfl,rfl⟩:=hv
 obtain⟨bc,oc,rfl,hFc,hcc⟩:=hcell (by decide)
 have x1:=hcc 1 (.int .i64 1) rfl
 have hnc':1<=c:=hnc
 have hcm':c<=9223372036854775807:=hcm
 obtain⟨w7,hw7,b7,k7,h7⟩:=am_then g2.gram
 obtain⟨q0,q1,q2,q3⟩:=g2.cells
 have co:=acts_Of h7 h7.lt 3
 have r0:=(k7.cell 0).trans rfl
 have r1:=(k7.cell 1).trans rfl
 have r2:=(k7.cell 2).trans rfl
 have r3:=(k7.cell 3).trans rfl
 have x1:=(b7.cell (p:=⟨bc,oc+1,none⟩) hFc.2).trans x1
 rw [hw7]at r0 r1 r2 r3
 have hb7:=hb2.trans (b7.mono hb2.size)
 have hlc:bc<w7.heap.size:=Nat.lt_of_lt_of_le hFc.2 b7.size
 clear hcell hcc hnc hcm rd hFc b2 hp he k7 g2 Xg Xcb Xhb h7
 obtain⟨Xco,Xb7,Xhb7,Xhb2,Xhlc⟩:=HqZ5 co b7 hb7 hb2 hlc;clear co b7 hb7 hb2 hlc
 go_wp2_with fail
 rw [<-hw7]
 refine Xco.out.mono ?_
 rintro e w8 hp8
 obtain⟨b8,vr,va,vg,he,ht⟩:=hp8.known aw13_check aw13_auto aw13_cls
 rw [aw14_looks]at ht
 obtain⟨A1,c1,A2,c2,A3,c3,rfl,rfl,rfl,l1,l2,l3,m1,m2,m3⟩:=ht.slices
 have he':e= .returned (.tuple #[TV (.slice A1 3 c1) 2 1 (.slice A2 5 c2) (.slice A3 5 c3),.int .i64 0]):=he
 subst he'
 have x8:=(b8.cell (p:=⟨bc,oc+1,none⟩) Xhlc.out).trans x1
 have hb8:=Xhb7.out.trans (b8.mono Xhb7.out.size)
 have hlc8:=Nat.lt_of_lt_of_le Xhlc.out b8.size
 have ht':IsTab w8 _ (.slice A1 3 c1) (.slice A2 5 c2) (.slice A3 5 c3) aw15T:=ht
 obtain⟨w9,hw9⟩: ∃q,q=w8.alloc (.cells #[.slice A1 3 c1,.int .i64 2,.int .i64 1,.slice A2 5 c2,.slice A3 5 c3] 35):=⟨_,rfl⟩
 have al9:Below w8.heap.size w8 w9:=by rw [hw9];exact(Below.refl _ _).alloc (Nat.le_refl _) _
 have t9:=TBox.new ht' 2 1
 rw [<-hw9]at t9
 have x9:=(al9.cell (p:=⟨bc,oc+1,none⟩) hlc8).trans x8
 have hb9:=hb8.trans (al9.mono hb8.size)
 have cR:Calls Tryz.prog 21 #[TV (.slice A1 3 c1) 2 1 (.slice A2 5 c2) (.slice A3 5 c3)] w9 (Quiet w9 (.bool true)):=by
  have:=acts_Right t9.tab
  rw [aw15_tab.1]at this
  exact this
 obtain⟨u0,u1,u2,u3,u4⟩:=t9.cells
 rw [hw9]at u0 u1 u2 u3 u4 x9
 have l1':(3:Nat)<=c1:=l1
 have l2':(5:Nat)<=c2:=l2
 have l3':(5:Nat)<=c3:=l3
 clear q0 q1 q2 q3 r0 r1 r2 r3 x1 x8 b8 ht ht' he hp8 Xco Xb7 Xhb2 Xhlc hw7 l1 l2 l3
 obtain⟨Xhb8,Xhlc8,Xal9,Xt9,Xhb9,XcR⟩:=HqZ6 hb8 hlc8 al9 t9 hb9 cR;clear hb8 hlc8 al9 t9 hb9 cR
 go_wp2_with fail
 rw [<-hw9]
 refine XcR.out.mono ?_
 rintro e w10 ⟨rfl,b10⟩
 have t10:=Xt9.out.below b10
 have hb10:=Xhb9.out.trans (b10.mono Xhb9.out.size)
 have cA:Calls Tryz.prog 26 #[TV (.slice A1 3 c1) 2 1 (.slice A2 5 c2) (.slice A3 5 c3),.int .i64 0,.int .i64 2] w10 (Quiet w10 (.agg #[.int .i64 1,.int .i64 2])):=by
  have:=acts_Act t10.tab 0 2
  rw [aw15_tab.2.1]at this
  exact this
 obtain⟨v0,v1,v2,v3,v4⟩:=t10.cells
 clear u0 u1 u2 u3 u4 x9 hw9 XcR Xt9 Xhb9 b10
 have hfld:=fun W=>Tryz.field_act 1 2 W
 obtain⟨Xt10,Xhb10,XcA⟩:=HqZ3 t10 hb10 cA;clear t10 hb10 cA
 go_wp2_with fail
 refine XcA.out.mono ?_
 rintro e w11 ⟨rfl,b11⟩
 have t11:=Xt10.out.below b11
 have hb11:=Xhb10.out.trans (b11.mono Xhb10.out.size)
 have cG:Calls Tryz.prog 25 #[TV (.slice A1 3 c1) 2 1 (.slice A2 5 c2) (.slice A3 5 c3),.int .i64 0,.int .i64 3] w11 (Quiet w11 (.int .i64 3)):=by
  have:=acts_Goto t11.tab 0 3 (by omega)
  rw [aw15_tab.2.2]at this
  exact this
 obtain⟨z0,z1,z2,z3,z4⟩:=t11.cells
 clear v0 v1 v2 v3 v4 XcA Xt10 Xhb10 b11
 obtain⟨Xt11,Xhb11,XcG⟩:=HqZ3 t11 hb11 cG;clear t11 hb11 cG
 go_wp2_with fail
 refine XcG.out.mono ?_
 rintro e w12 ⟨rfl,b12⟩
 have hb12:=Xhb11.out.trans (b12.mono Xhb11.out.size)
 clear z0 z1 z2 z3 z4 XcG Xt11 Xhb11 b12
 have Xhb12:=hide hb12;clear hb12
 go_wp2_with fail
 go_ret
 exact⟨rfl,Xhb12.out⟩
theorem tab_goto {G:GramD} {st:Int} {D:Sts0} {LL:List (List Lk)} {i:Nat} (hi:i<D.length) {s:Int} (h1:(G.terms.length:Int)<s) (h2:s<=topOf G):gotoT (tabD G st D LL) i s=gotoD D i s:=by
 unfold gotoT tabD
 simp only [gotoU_len]
 rw [if_neg (by omega)]
 rw [List.getD_eq_getElem?_getD,List.getD_eq_getElem?_getD,Int.toNat_natCast,gotoU_get D _ _ hi,Option.getD_some]
 unfold topOf at h2
 rw [rowGD_get D _ i (by omega:(s - (G.terms.length:Int) - 1).toNat<G.nons.length),Option.getD_some]
 congr 1
 omega
theorem tab_actD {G:GramD} {st:Int} {D:Sts0} {LL:List (List Lk)} {i:Nat} (hi:i<D.length) {s:Int} (h0:0<=s) (h2:s<=G.terms.length):actT (tabD G st D LL) i s=(possD (G.rules.length:Int) (trD D i) (lkD LL i) s).headD (0,0):=by
 unfold actT tabD
 simp only [actsU_len]
 rw [if_neg (by omega)]
 rw [List.getD_eq_getElem?_getD,List.getD_eq_getElem?_getD,Int.toNat_natCast,actsU_get _ D _ _ hi,Option.getD_some]
 rw [rowAD_get _ _ _ (by omega:s.toNat<G.terms.length+1),Option.getD_some]
 congr 2
 omega
theorem tab_lens (G:GramD) (st:Int) (D:Sts0) (LL:List (List Lk)):(tabD G st D LL).rules.length=G.rules.length+1/\(tabD G st D LL).acts.length=D.length/\(tabD G st D LL).goto.length=D.length:=by
 unfold tabD
 simp only [actsU_len,gotoU_len]
 simp
set_option maxRecDepth 100000 in
set_option maxHeartbeats 8000000 in
theorem walk_ActsRight (C:Array Value) (G:GramD) (w:World) (hg:GramCells w C.toList G):
  Calls Tryz.prog 3 #[.agg C] w (Quiet w (.bool true)):=by
 obtain⟨vt,vn,vr,hC,hg,-⟩:=hg
 obtain rfl:C= #[vt,vn,vr,.int .i64 G.start]:=Array.toList_inj.1 hC
 clear hC
 generalize G.start=st at *
 obtain⟨A1,c1,A2,c2,A3,c3,rfl,rfl,rfl,-,-,lR,-,-,mR⟩:=hg.slices
 obtain⟨w1,hw1⟩: ∃w1,w1=w.alloc (.cells #[.slice A1 G.terms.length c1,.slice A2 G.nons.length c2,.slice A3 G.rules.length c3,.int .i64 st] 25):=⟨_,rfl⟩
 have g1:=GBox.new hg st
 have b1:Below w.heap.size w w1:=by rw [hw1];exact(Below.refl _ w).alloc (Nat.le_refl _) _
 rw [<-hw1]at g1
 have hm:=law_much g1.gram st
 obtain⟨F,hF⟩: ∃F:Nat->Prop,F=fun b=>b<w.heap.size:=⟨_,rfl⟩
 rw [<-hF]at g1
 have cc:=fun wr (g:GBox wr F w.heap.size A1 c1 A2 c2 A3 c3 G.terms.length G.nons.length G.rules.length st G)=>acts_Clashes g.gram g.gram.lt st
 have co:=fun wr (g:GBox wr F w.heap.size A1 c1 A2 c2 A3 c3 G.terms.length G.nons.length G.rules.length st G)=>acts_Of g.gram g.gram.lt st
 have cb:=fun wr (g:GBox wr F w.heap.size A1 c1 A2 c2 A3 c3 G.terms.length G.nons.length G.rules.length st G)=>auto_build g.gram g.gram.lt st
 have ct:=fun wr (g:GBox wr F w.heap.size A1 c1 A2 c2 A3 c3 G.terms.length G.nons.length G.rules.length st G)=>ref_top g.gram st
 have cn:=fun wr (g:GBox wr F w.heap.size A1 c1 A2 c2 A3 c3 G.terms.length G.nons.length G.rules.length st G) s=>ref_non g.gram st s
 obtain⟨q0,q1,q2,q3⟩:=g1.cells
 have tl:=fun(D:Sts0) (LL:List (List Lk))=>tab_lens G st D LL
 have tg:=fun(D:Sts0) (LL:List (List Lk)) (i:Nat) hi s h1 h2=>tab_goto (G:=G) (st:=st) (D:=D) (LL:=LL) (i:=i) hi (s:=s) h1 h2
 have ta:=fun(D:Sts0) (LL:List (List Lk)) (i:Nat) hi s h1 h2=>tab_actD (G:=G) (st:=st) (D:=D) (LL:=LL) (i:=i) hi (s:=s) h1 h2
 have htop:(topOf G:Int)=(G.terms.length:Int)+(G.nons.length:Int):=by unfold topOf;omega
 have hnon: ∀s,isNon G s=(decide ((G.terms.length:Int)<s)&&decide (s<=(topOf G:Int))):=fun s=>rfl
 generalize hT:G.terms.length=T at *
 generalize hN:G.nons.length=N at *
 generalize hR:G.rules.length=R at *
 rw [hw1]at q0 q1 q2 q3 hm
 clear hg hF
 obtain⟨Xhm,Xcc,Xco,Xcb,Xct,Xcn,Xg1,Xb1,XhT,XhN,XhR,Xtl,Xtg,Xta⟩:=HqZ14 hm cc co cb ct cn g1 b1 hT hN hR tl tg ta;obtain⟨Xhtop,Xhnon⟩:=HqZ2 htop hnon;clear hm cc co cb ct cn g1 b1 hT hN hR tl tg ta htop hnon
 go_enter Tryz.func3,Tryz.ntmps3
 go_wp2_with fail
 refine Xhm.out.mono ?_
 rintro e w2 ⟨r,hr,rfl,b2⟩
 rw [<-hw1]at b2
 have g2:=Xg1.out.below b2
 have bb2:=Xb1.out.trans (b2.mono Xb1.out.size)
 clear q0 q1 q2 q3 hw1 Xhm Xg1 Xb1 b2 hr
 by_cases hbig:60<r
 ·have Xbb2:=hide bb2
  have Xg2:=hide g2;clear bb2 g2
  go_wp2_with fail
  refine(law15_awake _).mono ?_
  rintro e wz ⟨rfl,bz⟩
  have bbz:=Xbb2.out.trans (bz.mono Xbb2.out.size)
  clear bz
  have Xbbz:=hide bbz;clear bbz
  go_wp2_with fail
  go_ret
  exact⟨rfl,Xbbz.out⟩
 ·have c2':=Xcc.out _ g2
  obtain⟨q0,q1,q2,q3⟩:=g2.cells
  obtain⟨Xbb2,Xg2,Xc2'⟩:=HqZ3 bb2 g2 c2';clear bb2 g2 c2'
  go_wp2_with fail
  refine Xc2'.out.mono ?_
  rintro e w3 ⟨b3,Aa,ca,ev,D,rfl,hai,rd3⟩
  have hcm:(clsOf G st ev D).length<=ca/\ca<=9223372036854775807:=by
   obtain⟨A',n',c',hv,h1,h2,-⟩:=rd3
   simp only [Value.slice.injEq]at hv
   obtain⟨-,rfl,rfl⟩:=hv
   unfold maxLen at h2
   omega
  obtain⟨ncl,hncl⟩: ∃q,q=(clsOf G st ev D).length:=⟨_,rfl⟩
  rw [<-hncl]at hcm⊢
  obtain⟨hcm1,hcm2⟩:=hcm
  have g3:=Xg2.out.below b3
  have bb3:=Xbb2.out.trans (b3.mono Xbb2.out.size)
  clear q0 q1 q2 q3 Xc2' Xg2 Xbb2 b3 rd3
  have c3':=Xco.out _ g3
  obtain⟨q0,q1,q2,q3⟩:=g3.cells
  obtain⟨Xbb3,Xg3,Xc3',Xhai,Xhncl⟩:=HqZ5 bb3 g3 c3' hai hncl;clear bb3 g3 c3' hai hncl
  go_wp2_with fail
  refine Xc3'.out.mono ?_
  rintro e w4 ⟨b4,ev',D',hai',hp⟩
  obtain⟨rfl,rfl⟩:=Xhai.out.unique hai'
  have g4:=Xg3.out.below b4
  have bb4:=Xbb3.out.trans (b4.mono Xbb3.out.size)
  have hw3s:=b4.size
  clear q0 q1 q2 q3 Xc3' Xg3 Xbb3 hai'
  by_cases hev:ev=0
  ·subst hev
   by_cases hcl:ncl=0
   ·subst hcl
    have hcn:clsOf G st 0 D=[]:=List.eq_nil_of_length_eq_zero Xhncl.out.symm
    rcases hp with⟨ev',he,⟨h1,-⟩|⟨-,h1,-⟩⟩|⟨-,-,vr,va,vg,he,ht⟩
    ·exact absurd rfl h1
    ·exact absurd hcn h1
    ·obtain⟨B1,d1,B2,d2,B3,d3,rfl,rfl,rfl,k1,k2,k3,n1,n2,n3⟩:=ht.slices
     obtain⟨FT,hFT⟩: ∃q,q=fun b=>(F b\/w3.heap.size<=b)/\b<w4.heap.size:=⟨_,rfl⟩
     rw [<-hFT]at ht
     obtain⟨nD,hnD⟩: ∃q,q=D.length:=⟨_,rfl⟩
     obtain⟨e1,e2,e3⟩:=Xtl.out D (looksD G st D)
     rw [<-hnD]at e2 e3
     rw [e1]at he ht k1
     rw [e2]at he ht k2
     rw [e3]at he ht k3
     rw [XhT.out,XhN.out]at he
     subst he
     obtain⟨hck,L,Tt,hb,hDL⟩:=Xhai.out.ok
     have hAu:Auto G st (some (L,Tt)):=Auto.ok L Tt hb
     have hK:=KnA.of_check hck
     have hKr:=hK.r
     have hKt:=hK.t
     have hKn:=hK.n
     have hSm:=SmallD.of Xhai.out
     have hn20:=hSm.n
     rw [XhR.out]at hKr
     rw [XhT.out]at hKt
     rw [XhN.out]at hKn
     rw [<-hnD]at hn20
     have hrT:=tab_right hck hb
     rw [<-hDL]at hrT
     have ebT:(tabD G st D (looksD G st D)).terms=(T:Int):=by show((G.terms.length:Nat):Int)=_;rw [XhT.out]
     have ebN:(tabD G st D (looksD G st D)).nons=(N:Int):=by show((G.nons.length:Nat):Int)=_;rw [XhN.out]
     obtain⟨tb,htb⟩: ∃q,q=tabD G st D (looksD G st D):=⟨_,rfl⟩
     rw [<-htb]at ht hrT ebT ebN
     obtain⟨w4b,hw4b⟩: ∃q,q=w4.alloc (.cells #[.slice B1 (R+1) d1,.int .i64 (T:Int),.int .i64 (N:Int),.slice B2 nD d2,.slice B3 nD d3] 35):=⟨_,rfl⟩
     have al:Below w4.heap.size w4 w4b:=by rw [hw4b];exact(Below.refl _ _).alloc (Nat.le_refl _) _
     have t4:=TBox.new ht (T:Int) (N:Int)
     rw [<-hw4b]at t4
     have g4b:=g4.below al
     have bb4b:=bb4.trans (al.mono bb4.size)
     have cB:=Xcb.out _ g4b
     obtain⟨q0,q1,q2,q3⟩:=g4b.cells
     rw [hw4b]at q0 q1 q2 q3
     have hwR:IntKind.i64.wrap ((R:Int)+1)=(R:Int)+1:=by rw [IntKind.wrap_i64];omega
     have hnn:((nD:Int) !=(nD:Int))=false:=by simp
     have hRR:((R:Int)+1 !=(R:Int)+1)=false:=by simp
     clear ht hFT e1 e2 e3 al g4 bb4 b4 hK hSm
     obtain⟨Xt4,Xg4b,Xbb4b,XcB,Xhcn,Xhck,Xhb,XhDL,XhAu,XhrT,XebT,XebN,Xhtb,XhnD⟩:=HqZ14 t4 g4b bb4b cB hcn hck hb hDL hAu hrT ebT ebN htb hnD;clear t4 g4b bb4b cB hcn hck hb hDL hAu hrT ebT ebN htb hnD
     go_wp2_with fail
     rw [<-hw4b]
     refine XcB.out.mono ?_
     rintro e w5 hp5
     obtain⟨b5,Ab,nb,cb',rfl,rs5⟩:=hp5.known Xhck.out XhAu.out
     rw [<-XhDL.out]at rs5
     have rs5:=rs5.mono (F':=fun b=>b<w5.heap.size) (fun b hb=>hb.2)
     obtain⟨hnb,hnbc,hcbm,-⟩:=rs5.at_
     rw [<-XhnD.out]at hnb
     subst hnb
     unfold maxLen at hcbm
     have g5:=Xg4b.out.below b5
     have t5:=Xt4.out.below b5
     have bb5:=Xbb4b.out.trans (b5.mono Xbb4b.out.size)
     have cR:Calls Tryz.prog 21 #[TV (.slice B1 (R+1) d1) (T:Int) (N:Int) (.slice B2 nb d2) (.slice B3 nb d3)] w5 (Quiet w5 (.bool true)):=by
      have:=acts_Right t5.tab
      rw [XebT.out,XebN.out,XhrT.out]at this
      exact this
     clear q0 q1 q2 q3 hw4b XcB Xg4b Xt4 Xbb4b b5 hp5
     obtain⟨q0,q1,q2,q3⟩:=g5.cells
     obtain⟨u0,u1,u2,u3,u4⟩:=t5.cells
     obtain⟨Xg5,Xt5,Xbb5,Xrs5,XcR⟩:=HqZ5 g5 t5 bb5 rs5 cR;clear g5 t5 bb5 rs5 cR
     go_wp2_with fail
     refine XcR.out.mono ?_
     rintro e w6 ⟨rfl,b6⟩
     have g6:=Xg5.out.below b6
     have t6:=Xt5.out.below b6
     have rs6:=Xrs5.out.below b6 (fun b hb=>hb)
     have hz56:=b6.size
     have bb6:=Xbb5.out.trans (b6.mono Xbb5.out.size)
     clear q0 q1 q2 q3 u0 u1 u2 u3 u4 XcR Xg5 Xt5 Xrs5 Xbb5 b6
     obtain⟨q0,q1,q2,q3⟩:=g6.cells
     obtain⟨u0,u1,u2,u3,u4⟩:=t6.cells
     have lew:Below w6.heap.size w6 w6:=Below.refl _ _
     have hd1:(R+1:Nat)<=d1:=k1
     have hRc:((((R+1:Nat)):Int) !=(R:Int)+1)=false:=by simp
     obtain⟨Xg6,Xt6,Xrs6,Xbb6,Xlew,Xhz56⟩:=HqZ6 g6 t6 rs6 bb6 lew hz56;clear g6 t6 rs6 bb6 lew hz56
     go_wp2_with fail
     clear q0 q1 q2 q3 u0 u1 u2 u3 u4
     obtain⟨tp,htp⟩: ∃q,q=topOf G:=⟨_,rfl⟩
     have htpN:tp=T+N:=by have:=Xhtop.out;rw [<-htp]at this;omega
     have Xhtp:=hide htp;clear htp
     go_loopw [9] (fun iv wr=> ∃i:Nat,i<=nb/\iv= .int .i64 (i:Int)/\Below w6.heap.size w6 wr) (fun iv _=>nb - (intOf iv).toNat)
     case atStart=>exact⟨0,Nat.zero_le _,rfl,Xlew.out⟩
     case round=>
      clear Xlew
      obtain⟨i,hi,rfl,le⟩:=hrel
      by_cases hlt:i<nb
      ·have hlt':(i:Int)<(nb:Int):=by omega
       have Xle:=hide le;clear le
       go_wp2_with fail
       go_loopw [10] (fun sv wr=> ∃s:Nat,1<=s/\s<=tp+1/\sv= .int .i64 (s:Int)/\Below w6.heap.size w6 wr) (fun sv _=>tp+1 - (intOf sv).toNat)
       case atStart=>exact⟨1,Nat.le_refl _,by omega,rfl,Xle.out⟩
       case round=>
        clear Xle
        obtain⟨s,hs1,hs2,rfl,le⟩:=hrel
        have g7:=Xg6.out.below le
        have cT:=Xct.out _ g7
        rw [<-Xhtp.out]at cT
        obtain⟨q0,q1,q2,q3⟩:=g7.cells
        clear g7
        obtain⟨Xle,XcT⟩:=HqZ2 le cT;clear le cT
        go_wp2_with fail
        refine XcT.out.mono ?_
        rintro e w7 ⟨rfl,b7⟩
        have le7:=Xle.out.trans (b7.mono Xle.out.size)
        clear q0 q1 q2 q3 XcT Xle b7
        by_cases hst:s<=tp
        ·have hst':(s:Int)<=(tp:Int):=by omega
         have rs7:=Xrs6.out.below le7 (fun b hb=>Nat.lt_of_lt_of_le hb Xhz56.out)
         have cg:=ref13_Goto rs7 (i:Int) (s:Int)
         have g7:=Xg6.out.below le7
         have cN:=Xcn.out _ g7 (s:Int)
         obtain⟨q0,q1,q2,q3⟩:=g7.cells
         have t7:=Xt6.out.below le7
         obtain⟨u0,u1,u2,u3,u4⟩:=t7.cells
         have hgt:=fun h1 h2=>Xtg.out D (looksD G st D) i (by rw [<-XhnD.out];exact hlt) (s:Int) h1 h2
         have hac:=fun h1 h2=>Xta.out D (looksD G st D) i (by rw [<-XhnD.out];exact hlt) (s:Int) h1 h2
         rw [<-Xhtb.out,<-Xhtp.out]at hgt
         rw [<-Xhtb.out]at hac
         obtain⟨gg,hgg⟩: ∃q,q=gotoD D (i:Int) (s:Int):=⟨_,rfl⟩
         rw [<-hgg]at cg hgt
         have hnon:=Xhnon.out (s:Int)
         rw [<-Xhtp.out]at hnon
         clear rs7 g7
         by_cases hsT:T<s
         ·have hn1:isNon G (s:Int)=true:=by rw [hnon,decide_eq_true (by omega),decide_eq_true hst'];rfl
          have hg1:=hgt (by omega) hst'
          rw [hn1]at cN
          clear hnon hgt hac hn1
          obtain⟨Xle7,Xcg,XcN,Xt7,Xhg1,Xhgg⟩:=HqZ6 le7 cg cN t7 hg1 hgg;clear le7 cg cN t7 hg1 hgg
          go_wp2_with fail
          refine Xcg.out.mono ?_
          rintro e wg ⟨rfl,rfl⟩
          go_wp2_with fail
          refine XcN.out.mono ?_
          rintro e w8 ⟨rfl,b8⟩
          have le8:=Xle7.out.trans (b8.mono Xle7.out.size)
          have t8:=Xt7.out.below b8
          have cG:Calls Tryz.prog 25 #[TV (.slice B1 (R+1) d1) (T:Int) (N:Int) (.slice B2 nb d2) (.slice B3 nb d3),.int .i64 (i:Int),.int .i64 (s:Int)] w8 (Quiet w8 (.int .i64 gg)):=by
           have:=acts_Goto t8.tab (i:Int) (s:Int) (by omega)
           rw [XebT.out,XebN.out,Xhg1.out]at this
           exact this
          clear u0 u1 u2 u3 u4 q0 q1 q2 q3
          obtain⟨u0,u1,u2,u3,u4⟩:=t8.cells
          have hgg2:(gg !=gg)=false:=by simp
          clear b8 t8 Xcg XcN Xt7 Xle7
          obtain⟨Xle8,XcG⟩:=HqZ2 le8 cG;clear le8 cG
          go_wp2_with fail
          refine XcG.out.mono ?_
          rintro e w9 ⟨rfl,b9⟩
          have le9:=Xle8.out.trans (b9.mono Xle8.out.size)
          clear u0 u1 u2 u3 u4 XcG Xle8 b9
          have Xle9:=hide le9;clear le9
          go_wp2_with fail
          go_roundw
          case rel=>exact⟨s+1,by omega,by omega,by go_num,Xle9.out⟩
          case measure=>simp [intOf];omega
         ·have hn1:isNon G (s:Int)=false:=by rw [hnon,decide_eq_false (by omega)];rfl
          have ha1:=hac (by omega) (by omega)
          obtain⟨e0,he0⟩: ∃e,D[i]? =some e:=⟨_,List.getElem?_eq_getElem (by rw [<-XhnD.out];exact hlt)⟩
          obtain⟨K0,N0,hKN⟩: ∃K0 N0:Int,(K0,N0)=(possD (R:Int) (trD D i) (lkD (looksD G st D) i) (s:Int)).headD (0,0):=⟨_,_,rfl⟩
          have hda:(K0=1↔0<=gg)/\(0<=gg->N0=gg):=by
           have he1:(stD L Tt)[i]? =some e0:=by rw [<-XhDL.out];exact he0
           have:=tab_act Xhb.out (own:=(R:Int)) (Lk0:=lkD (looksD G st D) i) he1 (s:=(s:Int)) (by omega)
           rw [<-XhDL.out,<-hgg]at this
           rw [trD_get he0]at hKN
           rw [<-hKN]at this
           exact this
          rw [<-hKN]at ha1
          rw [hn1]at cN
          clear hnon hgt hac hn1 hKN he0
          obtain⟨Xle7,Xcg,XcN,Xt7,Xha1,Xhgg⟩:=HqZ6 le7 cg cN t7 ha1 hgg;clear le7 cg cN t7 ha1 hgg
          go_wp2_with fail
          refine Xcg.out.mono ?_
          rintro e wg ⟨rfl,rfl⟩
          go_wp2_with fail
          refine XcN.out.mono ?_
          rintro e w8 ⟨rfl,b8⟩
          have le8:=Xle7.out.trans (b8.mono Xle7.out.size)
          have t8:=Xt7.out.below b8
          have cA:Calls Tryz.prog 26 #[TV (.slice B1 (R+1) d1) (T:Int) (N:Int) (.slice B2 nb d2) (.slice B3 nb d3),.int .i64 (i:Int),.int .i64 (s:Int)] w8 (Quiet w8 (.agg #[.int .i64 K0,.int .i64 N0])):=by
           have:=acts_Act t8.tab (i:Int) (s:Int)
           rw [XebT.out,XebN.out,Xha1.out]at this
           exact this
          clear u0 u1 u2 u3 u4 q0 q1 q2 q3
          obtain⟨u0,u1,u2,u3,u4⟩:=t8.cells
          clear b8 t8 Xcg XcN Xt7 Xle7
          by_cases hg0:0<=gg
          ·have hK1:=hda.1.2 hg0
           have hN1:=hda.2 hg0
           subst hK1 hN1
           have hgg2:(N0 !=N0)=false:=by simp
           clear hda
           obtain⟨Xle8,XcA⟩:=HqZ2 le8 cA;clear le8 cA
           go_wp2_with fail
           refine XcA.out.mono ?_
           rintro e w9 ⟨rfl,b9⟩
           have le9:=(Xle8.out.trans (b9.mono Xle8.out.size))
           have le10:=le9.alloc le9.size (.cells #[.int .i64 1,.int .i64 N0] 46)
           clear u0 u1 u2 u3 u4 XcA Xle8 b9 le9
           have Xle10:=hide le10;clear le10
           go_wp2_with fail
           go_roundw
           case rel=>exact⟨s+1,by omega,by omega,by go_num,Xle10.out⟩
           case measure=>simp [intOf];omega
          ·have hK1:(K0==1)=false:=by
            have: ¬K0=1:=fun h=>hg0 (hda.1.1 h)
            simpa using this
           clear hda
           obtain⟨Xle8,XcA⟩:=HqZ2 le8 cA;clear le8 cA
           go_wp2_with fail
           refine XcA.out.mono ?_
           rintro e w9 ⟨rfl,b9⟩
           have le9:=(Xle8.out.trans (b9.mono Xle8.out.size))
           have le10:=le9.alloc le9.size (.cells #[.int .i64 K0,.int .i64 N0] 46)
           clear u0 u1 u2 u3 u4 XcA Xle8 b9 le9
           have Xle10:=hide le10;clear le10
           go_wp2_with fail
           go_roundw
           case rel=>exact⟨s+1,by omega,by omega,by go_num,Xle10.out⟩
           case measure=>simp [intOf];omega
        ·have hst': ¬(s:Int)<=(tp:Int):=by omega
         have Xle7:=hide le7;clear le7
         go_wp2_with fail
         go_roundw
         case rel=>exact⟨i+1,by omega,by go_num,Xle7.out⟩
         case measure=>simp [intOf];omega
      ·have hlt': ¬(i:Int)<(nb:Int):=by omega
       have bb9:=Xbb6.out.trans (le.mono Xbb6.out.size)
       clear le
       have Xbb9:=hide bb9;clear bb9
       go_wp2_with fail
       refine(law15_awake _).mono ?_
       rintro e wz ⟨rfl,bz⟩
       have bbz:=Xbb9.out.trans (bz.mono Xbb9.out.size)
       clear bz
       have Xbbz:=hide bbz;clear bbz
       go_wp2_with fail
       go_ret
       exact⟨rfl,Xbbz.out⟩
   ·have hcl':(0:Int)<(ncl:Int):=by omega
    rcases hp with⟨ev',he,⟨h1,-⟩|⟨-,h1,h12⟩⟩|⟨-,h1,-⟩
    ·exact absurd rfl h1
    ·subst h12
     subst he
     have bb4a:=bb4.alloc bb4.size (.cells #[.slice none 0 0,.int .i64 0,.int .i64 0,.slice none 0 0,.slice none 0 0] 35)
     obtain⟨Xg4,Xbb4,Xbb4a⟩:=HqZ3 g4 bb4 bb4a;clear g4 bb4 bb4a
     go_wp2_with fail
     refine(law15_awake _).mono ?_
     rintro e wz ⟨rfl,bz⟩
     have bbz:=Xbb4a.out.trans (bz.mono Xbb4a.out.size)
     clear bz
     have Xbbz:=hide bbz;clear bbz
     go_wp2_with fail
     go_ret
     exact⟨rfl,Xbbz.out⟩
    ·exact absurd (by rw [Xhncl.out,h1];rfl) hcl
  ·have hcl0:ncl=0:=by rw [Xhncl.out];unfold clsOf;rw [if_neg hev];rfl
   subst hcl0
   have hev':(ev !=0)=true:=by simpa using hev
   have hee:(ev==ev)=true:=by simp
   rcases hp with⟨ev',he,⟨-,h1⟩|⟨h1,-⟩⟩|⟨h1,-⟩
   ·subst h1
    subst he
    have bb4a:=bb4.alloc bb4.size (.cells #[.slice none 0 0,.int .i64 0,.int .i64 0,.slice none 0 0,.slice none 0 0] 35)
    obtain⟨Xg4,Xbb4,Xbb4a,Xhev⟩:=HqZ4 g4 bb4 bb4a hev;clear g4 bb4 bb4a hev
    go_wp2_with fail
    refine(law15_awake _).mono ?_
    rintro e wz ⟨rfl,bz⟩
    have bbz:=Xbb4a.out.trans (bz.mono Xbb4a.out.size)
    clear bz
    have Xbbz:=hide bbz;clear bbz
    go_wp2_with fail
    go_ret
    exact⟨rfl,Xbbz.out⟩
   ·exact absurd h1 hev
   ·exact absurd h1 hev
end Go.Proofs.YthlbjgabhpdbfaaGreat

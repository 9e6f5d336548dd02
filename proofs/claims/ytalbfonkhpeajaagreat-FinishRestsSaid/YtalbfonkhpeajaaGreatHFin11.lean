/- The least end: Rest. -/
import Derived.Test.YtalbfonkhpeajaaGreatHRoute1
import Derived.Test.YtalbfonkhpeajaaGreatHFin7
import Derived.Shelf.Abstract
import Derived.TacticsInMore
namespace Go.Proofs.YtalbfonkhpeajaaGreat
set_option linter.unusedVariables false
set_option linter.unusedSimpArgs false
open Go.RowKit Go.Shelf
attribute [local go_sem] Oper.semAt_some
attribute [local irreducible] wpStill wpOne wpPh
def StB (w:World) (b:Nat):Prop:= ∃cs,Blk w b 71 cs
theorem StB.lt {w:World} {b:Nat} (h:StB w b):b<w.heap.size:=let⟨_,k⟩:=h;k.lt
theorem StB.of_own {w:World} {base n:Nat} {v:Value} {xs:List Value} (h:w.ownsRow base 71 6 v n xs):Rd w (StB w) v 6 xs:=(Rd.of_own h).mono fun b e=>by
 rcases h.2 with⟨rfl,-⟩|⟨g,cap,cur,rfl,hb,hh,-⟩
 ·cases e
 ·simp only [Value.ownBlock,Option.some.injEq]at e
  subst e
  exact⟨cur,hh⟩
theorem mem_bwdF {xs:List StV} {x:Int×StV} (h:x∈bwdF xs):x.2∈xs:=by
 have:x.2∈(bwdF xs).map Prod.snd:=List.mem_map.2 ⟨x,h,rfl⟩
 rw [bwdF_snd]at this
 exact List.mem_reverse.1 this
structure RsM (w wr:World) (gr:List Pl) (fb bq bb mb:Nat) (vz:Value) (Z:List StV) (f:Pl) (B:Pl→Option Wd):Prop where
 le:Below w.heap.size w wr
 kf:Blk wr fb 60 #[.int .i64 (f.1:Int),.int .i64 (f.2:Int)]
 kq:Blk wr bq 63 #[.pointer (some ⟨bb,0,none⟩)]
 z:Rd wr (StB wr) vz 6 (spCells Z)
 ok:SpOk wr Z
 best:BestIs wr gr bb mb B
 lo:w.heap.size≤mb
section
variable {w wr wq : World} {gr : List Pl} {fb bq bb mb : Nat} {vz : Value} {Z : List StV} {f : Pl} {B B' : Pl → Option Wd}
theorem RsM.touch {S:Nat→Prop} (h:RsM w wr gr fb bq bb mb vz Z f B) (t:Touch S wr wq) (hlo: ∀b,S b→w.heap.size≤b) (hS: ∀b,S b→ ∀t cs,Blk wr b t cs→t=4) (hm: ¬S mb):RsM w wq gr fb bq bb mb vz Z f B:=by
 have no: ∀{b t cs},Blk wr b t cs→t≠4→ ¬S b:=fun k ht hs=>ht (hS _ hs _ _ k)
 have hi: ∀b,IntB wr b→ ¬S b:=fun b ⟨cs,k⟩=>no k (by decide)
 refine⟨t.toBelow hlo h.le h.le.size,h.kf.touch t (no h.kf (by decide)),h.kq.touch t (no h.kq (by decide)),?_,h.ok.touch t hi,h.best.touch t hi (no h.best.blk (by decide)) hm,h.lo⟩
 exact(h.z.touch t (fun b ⟨cs,k⟩=>no k (by decide))).mono fun b ⟨cs,k⟩=>⟨cs,k.touch t (no k (by decide))⟩
theorem RsM.below (h:RsM w wr gr fb bq bb mb vz Z f B) (b:Below wr.heap.size wr wq):RsM w wq gr fb bq bb mb vz Z f B:=h.touch (Touch.of_size b (fun _=>False)) (fun _ e=>e.elim) (fun _ e=>e.elim) (fun e=>e)
theorem RsM.put (h:RsM w wr gr fb bq bb mb vz Z f B) (b:BestIs wq gr bb mb B') (t:Touch (fun b=>b=mb) wr wq):RsM w wq gr fb bq bb mb vz Z f B':=by
 have hi:=h.best.nint
 obtain⟨D,m1,-⟩:=h.best.map
 have no: ∀{b t cs},Blk wr b t cs→ ¬b=mb:=fun k e=>k.ne_map m1 e.symm
 refine⟨t.toBelow (fun k e=>by rw [e];exact h.lo) h.le h.le.size,h.kf.touch t (no h.kf),h.kq.touch t (no h.kq),?_,h.ok.touch t hi,b,h.lo⟩
 exact(h.z.touch t (fun b ⟨cs,k⟩=>no k)).mono fun b ⟨cs,k⟩=>⟨cs,k.touch t (no k)⟩
end
theorem betF_eq {F:Pl→Option Wd} {p:Pl} {x:StpF} {v:Wd} (h:candF F x=some v):betF F p x=if betterP F p v=true then some v else none:=by
 unfold betF betterP
 rw [h]
 simp only
 cases F p with
 |none=>simp
 |some w=>rfl
theorem betF_no {F:Pl→Option Wd} {p:Pl} {x:StpF} (h:candF F x=none):betF F p x=none:=by
 unfold betF;rw [h]
def RestO (w:World) (T:Nat) (S:Pl→List StpF) (f:Pl) (e:Ending) (w':World):Prop:= ∃(o:Option Wd) (A:Option Addr) (n c:Nat),e= .returned (.tuple #[.slice A n c,.bool o.isSome])∧RdI w' (fun b=>b<w'.heap.size) (.slice A n c) (o.getD [])∧Below w.heap.size w w'∧LeastF T S f o
set_option maxRecDepth 100000 in
set_option maxHeartbeats 8000000 in
theorem fin_Rest {w:World} {E:Nat} {T:Nat} {S:Pl→List StpF} {Ap:Pl→Prop} {gr:List Pl} {Fs:Nat→Prop} {As:Option Addr} {m1 cs q:Nat} {s:List Nat}
  (hc:Calls Tryz.prog 19 #[.pointer (some ⟨E,0,none⟩),.slice As (m1+1) cs] w (Quiet w (.bool true)))
  (hs:RdI w Fs (.slice As (m1+1) cs) (NatL s)) (hFs: ∀b,Fs b→b<w.heap.size) (hq:s[m1]? =some q) (hm1:m1≤100000)
  (call: ∀wr,Below w.heap.size w wr→Calls Tryz.prog 20 #[.pointer (some ⟨E,0,none⟩),.slice As (m1+1) cs,PlV (m1,q)] wr (AllP wr S Ap (m1,q)))
  (hS:OkS T S) (hneed: ∀p,∀x∈S p,x.1.length≤4096) (hgr: ∀p,Ap p→p∈gr) (hgl:gr.length≤100000) (hwf: ∀p∈gr,WfP p):
  Calls Tryz.prog 8 #[.pointer (some ⟨E,0,none⟩),.slice As (m1+1) cs] w (RestO w T S (m1,q)):=by
 have rss: ∀wr,Below w.heap.size w wr→RdI wr Fs (.slice As (m1+1) cs) (NatL s):=fun wr hb=>Rd.below hs hb hFs
 obtain⟨hms,hmc,hcm,hcell⟩:=RdI.at_ hs
 unfold maxLen at hcm
 obtain⟨bs,os,rfl,-,-⟩:=hcell (by omega)
 have hwr1:IntKind.i64.wrap ((m1:Int)+1 - 1)=(m1:Int):=by rw [IntKind.wrap_i64];omega
 have hwr2:IntKind.i64.wrap (m1:Int)=(m1:Int):=by rw [IntKind.wrap_i64];omega
 have hm2:(m1:Int)<(m1:Int)+1:=by omega
 have hm0:(0:Int)≤(m1:Int):=by omega
 have hmm:= @run_makeMap Tryz.prog
 clear hcell hs hms
 have Xhc:=hide hc;have XhFs:=hide hFs;have Xhq:=hide hq;have Xcall:=hide call;have XhS:=hide hS;have Xhneed:=hide hneed;have Xhgr:=hide hgr;have Xhwf:=hide hwf;have Xrss:=hide rss;clear hc hFs hq call hS hneed hgr hwf rss
 refine(callsIn_wide (n:=7)).1 ?_
 refine callsIn_of_wp_marks Tryz.func8 rfl trivial ?_ rfl
 simp only [Tryz.ntmps8,List.size_toArray,List.length_cons,List.length_nil,Nat.reduceAdd,Nat.reduceSub,Array.replicate_succ,Array.replicate_zero,List.push_toArray,List.append_toArray,List.nil_append,List.cons_append]
 gi_wp2_with fail
 refine⟨trivial,(callsIn_wide.2 Xhc.out).mono ?_⟩
 rintro e w1 ⟨rfl,b1⟩
 obtain⟨-,-,-,hcell⟩:=RdI.at_ (Xrss.out w1 b1)
 obtain⟨b9,o9,e9,-,hcc⟩:=hcell (by omega)
 injection e9 with e9
 injection e9 with e9 e8 _
 subst e9 e8
 have qs:=hcc m1 _ (natL_get Xhq.out)
 obtain⟨w2,hw2⟩: ∃x,x=w1.alloc (.cells #[.int .i64 (m1:Int),.int .i64 (q:Int)] 60):=⟨_,rfl⟩
 have b2:Below w1.heap.size w1 w2:=by rw [hw2];exact(Below.refl _ _).alloc (Nat.le_refl _) _
 have k2:Blk w2 w1.heap.size 60 #[.int .i64 (m1:Int),.int .i64 (q:Int)]:=by rw [hw2];exact Blk.new _ _ _
 have bw2:=b1.trans (b2.mono b1.size)
 have cal:=Xcall.out w2 bw2
 have q0:=(k2.cell 0).trans rfl
 have q1:=(k2.cell 1).trans rfl
 rw [hw2]at q0 q1 cal
 clear Xhc hcell hcc b1 b2
 have Xk2:=hide k2;have Xbw2:=hide bw2;have Xcal:=hide cal;have Xhw2:=hide hw2;clear k2 bw2 cal hw2
 gi_wp2_with fail
 refine⟨trivial,(callsIn_wide.2 Xcal.out).mono ?_⟩
 rintro e w3 ⟨done,Az,cz,Z,rfl,sp,b3,hfd,hst,hAp,hXl⟩
 rw [←Xhw2.out]at b3 sp
 have bw3:=Xbw2.out.trans (b3.mono Xbw2.out.size)
 have hZX:Z.map Prod.fst=allF S done:=sp.eq
 have hZl:(allF S done).length=Z.length:=by rw [←hZX,List.length_map]
 have z3:=StB.of_own sp.own
 have ok3:=sp.ok
 have k3:=Xk2.out.below b3 Xk2.out.lt
 rw [hZl]at z3
 rw [hZl]
 have hfb:=Xk2.out.lt
 clear q0 q1 qs Xcal b3 sp Xk2 Xhw2
 have Xbw3:=hide bw3;have XhZX:=hide hZX;have XhZl:=hide hZl;have Xz3:=hide z3;have Xok3:=hide ok3;have Xk3:=hide k3;have Xhfd:=hide hfd;have Xhst:=hide hst;have XhAp:=hide hAp;have XhXl:=hide hXl;clear bw3 hZX hZl z3 ok3 k3 hfd hst hAp hXl
 gi_wp2_with fail
 obtain⟨w4,hw4⟩: ∃x,x=(((w3.alloc (.map #[] 0)).alloc (.cells #[.map (some w3.heap.size),.func (.func 21) #[] #[]] 66)).alloc (.cells #[.pointer (some ⟨w3.heap.size+1,0,none⟩)] 63)).alloc (.cells #[.bool true] 4):=⟨_,rfl⟩
 rw [←hw4]
 have hz3:=Xbw3.out.size
 have rs4:RsM w w4 gr w1.heap.size (w3.heap.size+1+1) (w3.heap.size+1) w3.heap.size (.slice Az Z.length cz) Z (m1,q) (fun _=>none)∧Blk w4 (w3.heap.size+1+1+1) 4 #[.bool true]:=by
  obtain⟨wa,hwa⟩: ∃x,x=w3.alloc (.map #[] 0):=⟨_,rfl⟩
  obtain⟨wb,hwb⟩: ∃x,x=wa.alloc (.cells #[.map (some w3.heap.size),.func (.func 21) #[] #[]] 66):=⟨_,rfl⟩
  obtain⟨wc,hwc⟩: ∃x,x=wb.alloc (.cells #[.pointer (some ⟨w3.heap.size+1,0,none⟩)] 63):=⟨_,rfl⟩
  have za:wa.heap.size=w3.heap.size+1:=by rw [hwa];simp
  have zb:wb.heap.size=w3.heap.size+1+1:=by rw [hwb];simp [za]
  have zc:wc.heap.size=w3.heap.size+1+1+1:=by rw [hwc];simp [zb]
  have hw5:w4=wc.alloc (.cells #[.bool true] 4):=by rw [hw4,hwc,hwb,hwa]
  have ba:Below w3.heap.size w3 wa:=by rw [hwa];exact(Below.refl _ _).alloc (Nat.le_refl _) _
  have bb:Below wa.heap.size wa wb:=by rw [hwb];exact(Below.refl _ _).alloc (Nat.le_refl _) _
  have bc:Below wb.heap.size wb wc:=by rw [hwc];exact(Below.refl _ _).alloc (Nat.le_refl _) _
  have bd:Below wc.heap.size wc w4:=by rw [hw5];exact(Below.refl _ _).alloc (Nat.le_refl _) _
  have b34:Below w3.heap.size w3 w4:=((ba.trans (bb.mono ba.size)).trans (bc.mono (by omega))).trans (bd.mono (by omega))
  have ma:wa.ownsMap Tryz.prog 60 heldV w3.heap.size 0 (.map []):=by rw [hwa];exact World.ownsMap_made w3 _ _ _
  have kb:Blk wb (w3.heap.size+1) 66 #[.map (some w3.heap.size),.func (.func 21) #[] #[]]:=by rw [hwb,←za];exact Blk.new _ _ _
  have kc:Blk wc (w3.heap.size+1+1) 63 #[.pointer (some ⟨w3.heap.size+1,0,none⟩)]:=by rw [hwc,←zb];exact Blk.new _ _ _
  have kd:Blk w4 (w3.heap.size+1+1+1) 4 #[.bool true]:=by rw [hw5,←zc];exact Blk.new _ _ _
  have t34:=Touch.of_size b34 (fun _=>False)
  have ba4:Below wa.heap.size wa w4:=(bb.trans (bc.mono (by omega))).trans (bd.mono (by omega))
  have bb4:Below wb.heap.size wb w4:=bc.trans (bd.mono (by omega))
  refine⟨⟨Xbw3.out.trans (b34.mono hz3),Xk3.out.below b34 Xk3.out.lt,kc.below bd kc.lt,(Xz3.out.touch t34 (fun _ _ e=>e)).mono fun b ⟨cs,k⟩=>⟨cs,k.touch t34 (fun e=>e)⟩,Xok3.out.touch t34 (fun _ _ e=>e),⟨kb.below bb4 kb.lt,⟨_,ownsMap_exact ((Touch.of_size ba4 (fun _=>False)).ownsMap ma (fun e=>e)),BestMap.empty w4⟩,fun q h=>(by cases h)⟩,hz3⟩,kd⟩
 have hlo4:w.heap.size≤w3.heap.size+1+1+1:=by omega
 clear Xbw3 Xz3 Xok3 Xk3 hw4
 generalize w3.heap.size+1+1+1=M0 at *
 generalize w3.heap.size+1+1=bq at *
 generalize w3.heap.size+1=bb at *
 generalize w3.heap.size=mb at *
 generalize w1.heap.size=fb at *
 have Xrs4:=hide rs4;have Xhlo4:=hide hlo4;have Xhfb:=hide hfb;clear rs4 hlo4 hfb
 refine loop_rest (fun v9 ds κ wr=> ∃(Mb:Nat) (m:Bool) (B:Pl→Option Wd),v9= .pointer (some ⟨Mb,0,none⟩)∧Blk wr Mb 4 #[.bool m]∧w.heap.size≤Mb∧RsM w wr gr fb bq bb mb (.slice Az Z.length cz) Z (m1,q) B∧SoundF S B∧(m=false→ ∀x∈allF S done,betF B x.1 x.2=none)∧(m=true→totF T B gr+1≤κ)∧Mk w.heap.size ds wr) (totF T (fun _=>none) gr+1) ?h0 ?round
 case h0=>exact⟨M0,true,fun _=>none,rfl,Xrs4.out.2,Xhlo4.out,Xrs4.out.1,fun p w h=>(by cases h),fun e=>(by cases e),fun _=>Nat.le_refl _,Mk.nil _ _⟩
 case round=>
  clear Xrs4 Xhlo4
  rintro y42 y43 y44 y84 uv ds κ wr ⟨Mb,m,B,rfl,kM,hMlo,rs,hso,hno,hyes,mk⟩ K hK
  have cM:=(kM.cell 0).trans rfl
  have fM:=kM.frozen 0
  cases m with
  |false=>
   have hcl:=hno rfl
   have hwff:=Xhwf.out _ (Xhgr.out _ (XhAp.out _ Xhfd.out))
   obtain⟨D,mm1,mm2⟩:=rs.best.map
   have tD:Touch (fun _=>False) wr wr.drew:=(Touch.refl _ wr).drew
   obtain⟨Al,nl,cl,hlk,hrl⟩:=(mm2.touch tD (fun _ _ e=>e)).look mm1.drew hwff
   have c0:=(rs.kq.cell 0).trans rfl
   have c1:=(rs.best.blk.cell 0).trans rfl
   have c2:=(rs.kf.cell 0).trans rfl
   have c3:=(rs.kf.cell 1).trans rfl
   have mkd:=Mk.touch mk tD (fun _ _ e=>e)
   have bwr:=rs.le.drew
   have hle:LeastF T S (m1,q) (B (m1,q)):=closed_least XhS.out Xhst.out hso (closed_of fun p hp x hx=>hcl (p,x) (mem_allF.2 ⟨hp,hx⟩)) Xhfd.out
   clear hyes hno mm1 mm2 tD hwff rs
   have XkM:=hide kM;have Xhso:=hide hso;have Xhcl:=hide hcl;have Xmk:=hide mk;have XhK:=hide hK;have Xhrl:=hide hrl;have Xmkd:=hide mkd;have Xbwr:=hide bwr;have Xhle:=hide hle;clear kM hso hcl mk hK hrl mkd bwr hle
   gi_wp2_with fail
   refine wpIn_wide.2 ?_
   refine region_reads (by kernel_rfl) (by kernel_rfl) ?_
   repeat still_step
   refine wpStill_nil ?_
   gi_wp2_with fail
   refine Xmkd.out.leaves fun w' hcw hb=> ?_
   refine⟨.tuple #[.slice Al nl cl,.bool (B (m1,q)).isSome],by simp [results,Tryz.results8,go_sem],B (m1,q),Al,nl,cl,rfl,(Rd.cw Xhrl.out hcw).mono (fun b hb2=>Nat.lt_of_lt_of_le hb2.lt hb.size),Xbwr.out.trans hb,Xhle.out⟩
  |true=>
   have hM1: ∀D,wr.heap[D]? =some (.deferred (some []))→ ¬D=Mb:=fun D h e=>by
    subst e
    unfold Blk at kM
    rw [h]at kM
    cases kM
   obtain⟨wa,hwa⟩: ∃x,x=wr.setCell ⟨Mb,0,none⟩ (.bool false):=⟨_,rfl⟩
   have ta:Touch (fun b=>b=Mb) wr wa:=by rw [hwa];exact(Touch.refl (fun b=>b=Mb) _).setCell (p:=⟨Mb,0,none⟩) (fun _=>rfl) _
   have ka:Blk wa Mb 4 #[.bool false]:=by rw [hwa];exact kM.put 0 (.bool false)
   have hmM: ¬mb=Mb:=fun e=>by
    obtain⟨D,mm1,-⟩:=rs.best.map
    exact kM.ne_map mm1 e
   have rsa:RsM w wa gr fb bq bb mb (.slice Az Z.length cz) Z (m1,q) B:=rs.touch ta (fun b e=>by rw [e];exact hMlo) (fun b e t cs k=>by
    subst e
    unfold Blk at k kM
    rw [k]at kM
    injection kM with kM
    injection kM with _ kM) hmM
   have mka:=Mk.touch mk ta hM1
   have hyes:=hyes rfl
   clear hno kM rs mk hM1
   have Xrsa:=hide rsa;have Xka:=hide ka;have Xmka:=hide mka;have XhK:=hide hK;have Xhso:=hide hso;have Xhyes:=hide hyes;have XhmM:=hide hmM;have Xhwa:=hide hwa;clear rsa ka mka hK hso hyes hmM hwa
   gi_wp2_with fail
   rw [←Xhwa.out]
   refine⟨trivial,(callsIn_wide.2 (fin_Backward _ _ _ _)).mono ?_⟩
   rintro e w' ⟨rfl,rfl⟩
   obtain⟨w2,hw2⟩: ∃x,x=wa.alloc (.cells #[.slice Az Z.length cz] 61):=⟨_,rfl⟩
   rw [←hw2]
   have b2:Below wa.heap.size wa w2:=by rw [hw2];exact(Below.refl _ _).alloc (Nat.le_refl _) _
   have kb2:Blk w2 wa.heap.size 61 #[.slice Az Z.length cz]:=by rw [hw2];exact Blk.new _ _ _
   have rs2:=Xrsa.out.below b2
   have k2:=Xka.out.below b2 Xka.out.lt
   have mk2:=Mk.touch Xmka.out (Touch.of_size b2 (fun _=>False)) (fun _ _ e=>e)
   clear Xrsa Xka Xmka b2 hw2 Xhwa cM fM ta
   have hbx:=kb2.lt
   generalize wa.heap.size=bx at *
   have cB:=back_N (R:=fun b=>StB w2 b∨b=bx) kb2 (rs2.z.mono (fun b h=> .inl h)) (.inr rfl) (fun b hb=>by rcases hb with h|h;exact h.lt;rw [h];exact hbx) 6 (by omega)
   have hRm: ¬(StB w2 mb∨mb=bx):=fun h=>by
    obtain⟨D,mm1,-⟩:=rs2.best.map
    rcases h with⟨cs',k⟩|h
    ·exact k.ne_map mm1 rfl
    ·exact kb2.ne_map mm1 h
   have hRM: ¬(StB w2 Mb∨Mb=bx):=fun h=>by
    rcases h with⟨cs',k⟩|h
    ·exact k.ne k2 (by decide) rfl
    ·exact k2.ne kb2 (by decide) h
   have Xkb2:=hide kb2;have Xrs2:=hide rs2;have Xk2:=hide k2;have Xmk2:=hide mk2;have XcB:=hide cB;have Xhbx:=hide hbx;have XhRm:=hide hRm;have XhRM:=hide hRM;clear kb2 rs2 k2 mk2 cB hbx hRm hRM
   gi_wp2_with fail
   obtain⟨z2,hz2⟩: ∃z,z=w2.heap.size:=⟨_,rfl⟩
   refine wpIn_rangeFunc_N rfl (by omega) (gf:=54) (lb:= #[.pointer (some ⟨bx,0,none⟩)]) rfl trivial (enters_of Tryz.func54 (by kernel_rfl) rfl) XcB.out (fun b hb=>by rcases hb with h|h;exact h.lt;rw [h];exact Xhbx.out) (Below.refl _ _) (fun _=>rfl)
    (fun pre Wx=> ∃(B1:Pl→Option Wd) (mo:Bool),RunSt T S gr B (pre.map fun x=>x.2.1) (B1,mo)∧RsM w Wx gr fb bq bb mb (.slice Az Z.length cz) Z (m1,q) B1∧Blk Wx Mb 4 #[.bool mo]∧Touch (fun b=>b=mb∨b=Mb) w2 Wx)
    (fun _ _ _=>False) ?hI ?hIl (fun _ _ _ _ h _ _=>h) ?h0
    (fun x a V=> ∃(xb:Nat) (w45 w46:Value),w2.heap.size+2≤xb∧Blk V xb 71 #[.int .i64 (x.2.1.1.1:Int),.int .i64 (x.2.1.1.2:Int),x.2.2,.int .i64 ((toP x.2.1.2).1:Int),.int .i64 ((toP x.2.1.2).2:Int),.bool x.2.1.2.2.isNone]∧a={tmps:= #[.pointer (some ⟨E,0,none⟩),.slice (some ⟨bs,os,none⟩) (m1+1) cs,undef,undef,.slice none 0 0,.bool false,.pointer (some ⟨fb,0,none⟩),.slice Az Z.length cz,.pointer (some ⟨bq,0,none⟩),.pointer (some ⟨Mb,0,none⟩),undef,.pointer (some ⟨xb,0,none⟩),undef,undef,undef,undef,undef,.pointer (some ⟨E,0,none⟩),.bool false,.bool false,.pointer (some ⟨E,0,none⟩),.slice (some ⟨bs,os,none⟩) (m1+1) cs,.bool true,.bool false,.bool false,.slice (some ⟨bs,os,none⟩) (m1+1) cs,.int .i64 ((m1:Int)+1),.int .i64 (m1:Int),.slice (some ⟨bs,os,none⟩) (m1+1) cs,.slice (some ⟨bs,os,none⟩) (m1+1) cs,.int .i64 ((m1:Int)+1),.int .i64 (m1:Int),.pointer (some ⟨bs,os+m1,none⟩),.int .i64 (q:Int),.agg #[.int .i64 (m1:Int),.int .i64 (q:Int)],.pointer (some ⟨E,0,none⟩),.slice (some ⟨bs,os,none⟩) (m1+1) cs,.agg #[.int .i64 (m1:Int),.int .i64 (q:Int)],.slice Az Z.length cz,.map (some mb),.agg #[.map (some mb),.func (.func 21) #[] #[]],.pointer (some ⟨bb,0,none⟩),.bool true,.slice Az Z.length cz,.func (.func 54) #[] #[.pointer (some ⟨bx,0,none⟩)],w45,w46,undef,undef,undef,undef,undef,undef,undef,undef,undef,undef,undef,undef,undef,undef,undef,undef,undef,undef,undef,undef,undef,undef,undef,undef,undef,undef,undef,undef,undef,undef,undef,undef,undef,undef,undef,undef,undef,y84,undef,undef,undef,undef,undef,undef,undef,undef,undef,undef,undef],defers:=[]})
    ?hA1 ?assign ?body ?done ?stop
   case hI=>
    rintro pre A V ⟨B1,mo,rst,rsx,kMx,tx⟩ b
    exact⟨B1,mo,rst,rsx.below b,kMx.below b kMx.lt,tx.trans' (Touch.of_size b _)⟩
   case hIl=>
    rintro pre A V ⟨B1,mo,rst,rsx,kMx,tx⟩ t hno
    have hmb:=Xrs2.out.best.lt.2.1
    have hMb:=Xk2.out.lt
    have hwz:=Xrs2.out.le.size
    exact⟨B1,mo,rst,rsx.touch t (fun b e=>by omega) (fun b e t' cs' k=>by subst e;exact absurd k (hno _ _)) (by omega),kMx.touch t (by omega),tx.trans t (fun i hi e=>by omega)⟩
   case h0=>exact⟨B,false,RunSt.start Xhso.out,Xrs2.out,Xk2.out,Touch.refl _ _⟩
   case hA1=>
    rintro x a A V ⟨xb,w45,w46,h1,h2,h3⟩ t
    exact⟨xb,w45,w46,h1,h2.touch t (fun e=>by omega),h3⟩
   case assign=>
    rintro l pre ⟨xi,⟨⟨p,y⟩,vv⟩⟩ W K ⟨B1,mo,rst,rsx,-,-⟩ hz hSp hK2
    have hmem:=mem_bwdF (hSp.subset (List.mem_append_right pre (List.mem_singleton.2 rfl)))
    obtain⟨Bn,mn,dn,hvv,-⟩:=id (rsx.ok _ hmem)
    simp only at hvv
    subst hvv
    unfold spV
    clear rst rsx hSp hmem
    have XhK2:=hide hK2;clear hK2
    gi_wp2_with fail
    refine XhK2.out _ _ ((Below.refl _ _).alloc (Nat.le_refl _) _) ⟨W.heap.size,_,_,hz,Blk.new _ _ _,rfl⟩
   case body=>
    rintro l2 pre ⟨xi,⟨⟨p,y⟩,vv⟩⟩ a1 Wx ⟨B1,mo,rst,rsx,kMx,tx⟩ hz hSp ⟨xb,w45,w46,hxb,kx,rfl⟩
    have hmem:=mem_bwdF (hSp.subset (List.mem_append_right pre (List.mem_singleton.2 rfl)))
    obtain⟨Bn,mn,dn,hvv,-⟩:=id (rsx.ok _ hmem)
    have rvv:=rsx.ok _ hmem
    simp only at hvv rvv
    subst hvv
    have hxy:(p,y)∈allF S done:=by rw [←XhZX.out];exact List.mem_map.2 ⟨_,hmem,rfl⟩
    obtain⟨hpd,hyS⟩:=mem_allF.1 hxy
    simp only at hpd hyS
    have hpg:=Xhgr.out _ (XhAp.out _ hpd)
    have hwp:=Xhwf.out _ hpg
    obtain⟨tp,htp⟩: ∃z,z=toP y:=⟨_,rfl⟩
    obtain⟨ov,hov⟩: ∃z,z=y.2.isNone:=⟨_,rfl⟩
    simp only at kx
    rw [←htp,←hov]at kx
    have hwt:WfP tp:=by
     cases e:y.2 with
     |none=>rw [htp];unfold toP;rw [e];exact⟨by simp,by simp⟩
     |some r=>
      have:=Xhwf.out _ (Xhgr.out _ (XhAp.out _ (Xhst.out p hpd y.1 r (by rw [←e];exact hyS))))
      rw [htp];unfold toP;rw [e];exact this
    obtain⟨D,mm1,mm2⟩:=rsx.best.map
    have tD:Touch (fun _=>False) Wx Wx.drew:=(Touch.refl _ Wx).drew
    obtain⟨Ar,nr,cr,hlk,hrr⟩:=(mm2.touch tD (fun _ _ e=>e)).look mm1.drew hwt
    have c0:=(rsx.kq.cell 0).trans rfl
    have c1:=(rsx.best.blk.cell 0).trans rfl
    have x0:=(kx.cell 0).trans rfl
    have x1:=(kx.cell 1).trans rfl
    have x2:=(kx.cell 2).trans rfl
    have x3:=(kx.cell 3).trans rfl
    have x4:=(kx.cell 4).trans rfl
    have x5:=(kx.cell 5).trans rfl
    have rsd:=rsx.below ((Below.refl _ Wx).drew)
    have kMd:=kMx.below ((Below.refl _ Wx).drew) kMx.lt
    have kxd:=kx.below ((Below.refl _ Wx).drew) kx.lt
    have txd:=tx.drew
    have rvd:=RdI.intBelow rvv ((Below.refl _ Wx).drew)
    obtain⟨iso,hiso⟩: ∃z,z=(B1 tp).isSome:=⟨_,rfl⟩
    rw [←hiso]at hlk
    clear mm1 mm2 rsx kMx kx tx rvv hSp hmem tD
    have Xrst:=hide rst;have Xrsd:=hide rsd;have XkMd:=hide kMd;have Xkxd:=hide kxd;have Xtxd:=hide txd;have Xrvd:=hide rvd;have Xhxy:=hide hxy;have Xhpd:=hide hpd;have XhyS:=hide hyS;have Xhpg:=hide hpg;have Xhwp:=hide hwp;have Xhtp:=hide htp;have Xhwt:=hide hwt;have Xhrr:=hide hrr;have Xhov:=hide hov;have Xhiso:=hide hiso;clear rst rsd kMd kxd txd rvd hxy hpd hyS hpg hwp htp hwt hrr hov hiso
    gi_wp2_with fail
    refine region_reads_round (by kernel_rfl) (by kernel_rfl) (by kernel_rfl) (by rintro⟨_,_,h⟩;exact h) ?_
    repeat still_step
    refine wpStill_nil ?_
    have tFin: ∀V,Touch (fun b=>b=mb∨b=Mb) Wx V→Touch (fun b=> ¬(StB w2 b∨b=bx)∧b≠w2.heap.size∧b≠w2.heap.size+1) Wx V:=fun V t=>t.mono fun b _ e=>by
     have hmb:=Xrs2.out.best.lt.2.1
     have hMb:=Xk2.out.lt
     rcases e with e|e
     ·subst e
      exact⟨XhRm.out,by omega,by omega⟩
     ·subst e
      exact⟨XhRM.out,by omega,by omega⟩
    have tx:Touch (fun b=>b=mb∨b=Mb) w2 Wx:=⟨Xtxd.out.os,Xtxd.out.tape,Xtxd.out.output,Xtxd.out.size,Xtxd.out.block⟩
    have tWd:Touch (fun b=>b=mb∨b=Mb) Wx Wx.drew:=(Touch.refl _ _).drew
    clear c0 c1 x0 x1 x2 x3 x4 x5 hlk
    have x1:=(Xkxd.out.cell 2).trans rfl
    have x2:=(Xkxd.out.cell 5).trans rfl
    have XtFin:=hide tFin;have Xtx:=hide tx;have XtWd:=hide tWd;clear tFin tx tWd
    cases hy2:y.2 with
    |none=>
     have hov2:ov=true:=by rw [Xhov.out,hy2];rfl
     have hcand:candF B1 y=if y.1.length≤4096 then some y.1 else none:=by unfold candF;rw [hy2]
     subst hov2
     have rl:=Xrvd.out
     have rs5:=Xrsd.out
     have kM5:=XkMd.out
     have kx5:=Xkxd.out
     have tW5:=XtWd.out
     obtain⟨v,hv⟩: ∃z,z=y.1:=⟨_,rfl⟩
     rw [←hv]at rl hcand
     obtain⟨nl,hnl0⟩: ∃z,z=mn:=⟨_,rfl⟩
     rw [←hnl0]at rl x1
     clear Xrvd Xrsd XkMd Xkxd XtWd
     have Xhcand:=hide hcand;have Xhy2:=hide hy2;have Xhv:=hide hv;have Xhnl0:=hide hnl0;clear hcand hy2 hv hnl0
     cases iso with
     |true=>
      obtain⟨hnl,-,-,-⟩:=RdI.at_ rl
      have hgl2:gr.length≤1000000:=by omega
      have cp:=fin_put rs5.best hgl2 Xhwp.out Xhpg.out rl
      by_cases h4:nl≤4096
      ·have h4':(nl:Int)≤4096:=by omega
       have hc2:=Xhcand.out
       rw [if_pos (by rw [←hnl];exact h4)]at hc2
       have hbe:=betF_eq (p:=p) hc2
       have x0:=(kx5.cell 0).trans rfl
       have x1:=(kx5.cell 1).trans rfl
       have cq:=(rs5.kq.cell 0).trans rfl
       obtain⟨bt,hbt⟩: ∃z,z=betterP B1 p v:=⟨_,rfl⟩
       rw [←hbt]at cp hbe
       cases bt with
       |true=>
        rw [if_pos rfl]at cp hbe
        have Xrl:=hide rl;have Xhnl:=hide hnl;have Xcp:=hide cp;have Xhbe:=hide hbe;have Xrs5:=hide rs5;have XkM5:=hide kM5;have Xkx5:=hide kx5;have XtW5:=hide tW5;have Xhbt:=hide hbt;have Xhc2:=hide hc2;clear rl hnl cp hbe rs5 kM5 kx5 tW5 hbt hc2
        gi_wp2_with fail
        refine⟨trivial,(callsIn_wide.2 Xcp.out).mono ?_⟩
        rintro e W6 ⟨rfl,bs6,t6⟩
        have hMm: ¬Mb=mb:=fun e=>XhmM.out e.symm
        have rs6:=Xrs5.out.put bs6 t6
        have kM6:=XkM5.out.touch t6 hMm
        have cM:=(kM6.cell 0).trans rfl
        have fM:=kM6.frozen 0
        have t7:Touch (fun b=>b=Mb) W6 (W6.setCell ⟨Mb,0,none⟩ (.bool true)):=(Touch.refl (fun b=>b=Mb) _).setCell (p:=⟨Mb,0,none⟩) (fun _=>rfl) _
        have kM7:=kM6.put 0 (.bool true)
        have rs7:=rs6.touch t7 (fun b e=>by rw [e];exact hMlo) (fun b e t cs k=>by
         subst e
         unfold Blk at k kM6
         rw [k]at kM6
         injection kM6 with kM6
         injection kM6 with _ kM6) XhmM.out
        have tW7:Touch (fun b=>b=mb∨b=Mb) Wx (W6.setCell ⟨Mb,0,none⟩ (.bool true)):=(XtW5.out.trans' (t6.mono fun b _ e=> .inl e)).trans' (t7.mono fun b _ e=> .inr e)
        have hst2:stepRun (B1,mo) (p,y)=(putF B1 p v,true):=by unfold stepRun;simp only;rw [Xhbe.out]
        have rn:=Xrst.out.next XhS.out (x:=(p,y)) XhyS.out Xhpg.out
        rw [hst2]at rn
        clear bs6 t6 rs6 kM6 t7 x0 x1 cq Xcp Xrs5 XkM5 XtW5 hst2
        have Xrn:=hide rn;have Xrs7:=hide rs7;have XkM7:=hide kM7;have XtW7:=hide tW7;clear rn rs7 kM7 tW7
        gi_wp2_with fail
        exact⟨XtFin.out _ XtW7.out,putF B1 p v,true,by rw [List.map_append];exact Xrn.out,Xrs7.out,XkM7.out,Xtx.out.trans' XtW7.out⟩
       |false=>
        rw [if_neg (by decide)]at cp hbe
        have hbn:betF B1 p y=none:=hbe
        have Xrl:=hide rl;have Xhnl:=hide hnl;have Xcp:=hide cp;have Xrs5:=hide rs5;have XkM5:=hide kM5;have Xkx5:=hide kx5;have XtW5:=hide tW5;have Xhbt:=hide hbt;have Xhc2:=hide hc2;have Xhbn:=hide hbn;clear rl hnl cp rs5 kM5 kx5 tW5 hbt hc2 hbn;clear hbe
        gi_wp2_with fail
        refine⟨trivial,(callsIn_wide.2 Xcp.out).mono ?_⟩
        rintro e W6 ⟨rfl,bs6,t6⟩
        have hMm: ¬Mb=mb:=fun e=>XhmM.out e.symm
        have rs6:=Xrs5.out.put bs6 t6
        have kM6:=XkM5.out.touch t6 hMm
        have tW6:Touch (fun b=>b=mb∨b=Mb) Wx W6:=XtW5.out.trans' (t6.mono fun b _ e=> .inl e)
        clear bs6 t6 x0 x1 cq Xcp Xrs5 XkM5 XtW5
        have Xrs6:=hide rs6;have XkM6:=hide kM6;have XtW6:=hide tW6;clear rs6 kM6 tW6
        have hst2:stepRun (B1,mo) (p,y)=(B1,mo):=by unfold stepRun;simp only;rw [Xhbn.out]
        have rn:=Xrst.out.next XhS.out (x:=(p,y)) XhyS.out Xhpg.out
        rw [hst2]at rn
        gi_wp2_with fail
        (try(refine⟨trivial,?_⟩;gi_wp2_with fail))
        exact⟨XtFin.out _ XtW6.out,B1,mo,by rw [List.map_append];exact rn,Xrs6.out,XkM6.out,Xtx.out.trans' XtW6.out⟩
      ·have h4': ¬(nl:Int)≤4096:=by omega
       have h4d:decide ((nl:Int)≤4096)=false:=decide_eq_false h4'
       have h4e:decide (nl≤4096)=false:=decide_eq_false h4
       have hc2:=Xhcand.out
       rw [if_neg (by rw [←hnl];exact h4)]at hc2
       have hbn:=betF_no (p:=p) hc2
       clear cp hc2
       have Xrl:=hide rl;have Xhnl:=hide hnl;have Xrs5:=hide rs5;have XkM5:=hide kM5;have Xkx5:=hide kx5;have XtW5:=hide tW5;have Xhbn:=hide hbn;clear rl hnl rs5 kM5 kx5 tW5 hbn
       have hst2:stepRun (B1,mo) (p,y)=(B1,mo):=by unfold stepRun;simp only;rw [Xhbn.out]
       have rn:=Xrst.out.next XhS.out (x:=(p,y)) XhyS.out Xhpg.out
       rw [hst2]at rn
       gi_wp2_with fail
       (try(refine⟨trivial,?_⟩;gi_wp2_with fail))
       exact⟨XtFin.out _ XtW5.out,B1,mo,by rw [List.map_append];exact rn,Xrs5.out,XkM5.out,Xtx.out.trans' XtW5.out⟩
     |false=>
      obtain⟨hnl,-,-,-⟩:=RdI.at_ rl
      have hgl2:gr.length≤1000000:=by omega
      have cp:=fin_put rs5.best hgl2 Xhwp.out Xhpg.out rl
      by_cases h4:nl≤4096
      ·have h4':(nl:Int)≤4096:=by omega
       have hc2:=Xhcand.out
       rw [if_pos (by rw [←hnl];exact h4)]at hc2
       have hbe:=betF_eq (p:=p) hc2
       have x0:=(kx5.cell 0).trans rfl
       have x1:=(kx5.cell 1).trans rfl
       have cq:=(rs5.kq.cell 0).trans rfl
       obtain⟨bt,hbt⟩: ∃z,z=betterP B1 p v:=⟨_,rfl⟩
       rw [←hbt]at cp hbe
       cases bt with
       |true=>
        rw [if_pos rfl]at cp hbe
        have Xrl:=hide rl;have Xhnl:=hide hnl;have Xcp:=hide cp;have Xhbe:=hide hbe;have Xrs5:=hide rs5;have XkM5:=hide kM5;have Xkx5:=hide kx5;have XtW5:=hide tW5;have Xhbt:=hide hbt;have Xhc2:=hide hc2;clear rl hnl cp hbe rs5 kM5 kx5 tW5 hbt hc2
        gi_wp2_with fail
        refine⟨trivial,(callsIn_wide.2 Xcp.out).mono ?_⟩
        rintro e W6 ⟨rfl,bs6,t6⟩
        have hMm: ¬Mb=mb:=fun e=>XhmM.out e.symm
        have rs6:=Xrs5.out.put bs6 t6
        have kM6:=XkM5.out.touch t6 hMm
        have cM:=(kM6.cell 0).trans rfl
        have fM:=kM6.frozen 0
        have t7:Touch (fun b=>b=Mb) W6 (W6.setCell ⟨Mb,0,none⟩ (.bool true)):=(Touch.refl (fun b=>b=Mb) _).setCell (p:=⟨Mb,0,none⟩) (fun _=>rfl) _
        have kM7:=kM6.put 0 (.bool true)
        have rs7:=rs6.touch t7 (fun b e=>by rw [e];exact hMlo) (fun b e t cs k=>by
         subst e
         unfold Blk at k kM6
         rw [k]at kM6
         injection kM6 with kM6
         injection kM6 with _ kM6) XhmM.out
        have tW7:Touch (fun b=>b=mb∨b=Mb) Wx (W6.setCell ⟨Mb,0,none⟩ (.bool true)):=(XtW5.out.trans' (t6.mono fun b _ e=> .inl e)).trans' (t7.mono fun b _ e=> .inr e)
        have hst2:stepRun (B1,mo) (p,y)=(putF B1 p v,true):=by unfold stepRun;simp only;rw [Xhbe.out]
        have rn:=Xrst.out.next XhS.out (x:=(p,y)) XhyS.out Xhpg.out
        rw [hst2]at rn
        clear bs6 t6 rs6 kM6 t7 x0 x1 cq Xcp Xrs5 XkM5 XtW5 hst2
        have Xrn:=hide rn;have Xrs7:=hide rs7;have XkM7:=hide kM7;have XtW7:=hide tW7;clear rn rs7 kM7 tW7
        gi_wp2_with fail
        exact⟨XtFin.out _ XtW7.out,putF B1 p v,true,by rw [List.map_append];exact Xrn.out,Xrs7.out,XkM7.out,Xtx.out.trans' XtW7.out⟩
       |false=>
        rw [if_neg (by decide)]at cp hbe
        have hbn:betF B1 p y=none:=hbe
        have Xrl:=hide rl;have Xhnl:=hide hnl;have Xcp:=hide cp;have Xrs5:=hide rs5;have XkM5:=hide kM5;have Xkx5:=hide kx5;have XtW5:=hide tW5;have Xhbt:=hide hbt;have Xhc2:=hide hc2;have Xhbn:=hide hbn;clear rl hnl cp rs5 kM5 kx5 tW5 hbt hc2 hbn;clear hbe
        gi_wp2_with fail
        refine⟨trivial,(callsIn_wide.2 Xcp.out).mono ?_⟩
        rintro e W6 ⟨rfl,bs6,t6⟩
        have hMm: ¬Mb=mb:=fun e=>XhmM.out e.symm
        have rs6:=Xrs5.out.put bs6 t6
        have kM6:=XkM5.out.touch t6 hMm
        have tW6:Touch (fun b=>b=mb∨b=Mb) Wx W6:=XtW5.out.trans' (t6.mono fun b _ e=> .inl e)
        clear bs6 t6 x0 x1 cq Xcp Xrs5 XkM5 XtW5
        have Xrs6:=hide rs6;have XkM6:=hide kM6;have XtW6:=hide tW6;clear rs6 kM6 tW6
        have hst2:stepRun (B1,mo) (p,y)=(B1,mo):=by unfold stepRun;simp only;rw [Xhbn.out]
        have rn:=Xrst.out.next XhS.out (x:=(p,y)) XhyS.out Xhpg.out
        rw [hst2]at rn
        gi_wp2_with fail
        (try(refine⟨trivial,?_⟩;gi_wp2_with fail))
        exact⟨XtFin.out _ XtW6.out,B1,mo,by rw [List.map_append];exact rn,Xrs6.out,XkM6.out,Xtx.out.trans' XtW6.out⟩
      ·have h4': ¬(nl:Int)≤4096:=by omega
       have h4d:decide ((nl:Int)≤4096)=false:=decide_eq_false h4'
       have h4e:decide (nl≤4096)=false:=decide_eq_false h4
       have hc2:=Xhcand.out
       rw [if_neg (by rw [←hnl];exact h4)]at hc2
       have hbn:=betF_no (p:=p) hc2
       clear cp hc2
       have Xrl:=hide rl;have Xhnl:=hide hnl;have Xrs5:=hide rs5;have XkM5:=hide kM5;have Xkx5:=hide kx5;have XtW5:=hide tW5;have Xhbn:=hide hbn;clear rl hnl rs5 kM5 kx5 tW5 hbn
       have hst2:stepRun (B1,mo) (p,y)=(B1,mo):=by unfold stepRun;simp only;rw [Xhbn.out]
       have rn:=Xrst.out.next XhS.out (x:=(p,y)) XhyS.out Xhpg.out
       rw [hst2]at rn
       gi_wp2_with fail
       (try(refine⟨trivial,?_⟩;gi_wp2_with fail))
       exact⟨XtFin.out _ XtW5.out,B1,mo,by rw [List.map_append];exact rn,Xrs5.out,XkM5.out,Xtx.out.trans' XtW5.out⟩
    |some r=>
     have hov2:ov=false:=by rw [Xhov.out,hy2];rfl
     have htr:tp=r:=by rw [Xhtp.out];unfold toP;rw [hy2];rfl
     subst hov2
     cases iso with
     |false=>
      have hbn:betF B1 p y=none:=betF_no (by
       unfold candF
       rw [hy2,←htr]
       have:=Xhiso.out.symm
       cases e:B1 tp with
       |none=>simp only [e]
       |some z=>rw [e]at this;cases this)
      have Xhbn:=hide hbn;have Xhy2:=hide hy2;have Xhtr:=hide htr;clear hbn hy2 htr
      have hst2:stepRun (B1,mo) (p,y)=(B1,mo):=by unfold stepRun;simp only;rw [Xhbn.out]
      have rn:=Xrst.out.next XhS.out (x:=(p,y)) XhyS.out Xhpg.out
      rw [hst2]at rn
      gi_wp2_with fail
      (try(refine⟨trivial,?_⟩;gi_wp2_with fail))
      exact⟨XtFin.out _ XtWd.out,B1,mo,by rw [List.map_append];exact rn,Xrsd.out,XkMd.out,Xtx.out.trans' XtWd.out⟩
     |true=>
      obtain⟨u,hu⟩: ∃u,B1 tp=some u:=by
       have:=Xhiso.out.symm
       cases e:B1 tp with
       |none=>rw [e]at this;cases this
       |some z=>exact⟨z,rfl⟩
      have hrr:=Xhrr.out
      rw [hu,Option.getD_some]at hrr
      have hul:=(Dv.ok XhS.out (Xrst.out.sound tp u hu)).2
      have hyl:=Xhneed.out p y XhyS.out
      have hcand:candF B1 y=if(y.1++u).length≤4096 then some (y.1++u)else none:=by unfold candF;rw [hy2,←htr];simp only [hu]
      obtain⟨v,hv⟩: ∃z,z=y.1++u:=⟨_,rfl⟩
      obtain⟨nl,hnl0⟩: ∃z,z=y.1.length+u.length:=⟨_,rfl⟩
      obtain⟨Wy,hWy⟩: ∃z,z=(Wx.alloc (.cells #[.slice Bn mn dn,.slice Ar nr cr] 26)).drew:=⟨_,rfl⟩
      have bWy:Below Wx.heap.size Wx Wy:=by rw [hWy];exact((Below.refl _ Wx).alloc (Nat.le_refl _) _).drew
      have bWd:Below Wx.drew.heap.size Wx.drew Wy:=by rw [hWy];exact((Below.refl _ Wx.drew).alloc (Nat.le_refl _) _)
      have kWy:Blk Wy Wx.heap.size 26 #[.slice Bn mn dn,.slice Ar nr cr]:=by rw [hWy];exact(Blk.new _ _ _).drew
      have cc:=concat_ints (RdI.intBelow Xrvd.out bWd) (RdI.intBelow hrr bWd) (fun b hb=>hb.lt) kWy (by omega)
      rw [←hv,←hnl0]at cc
      rw [←hv]at hcand
      have rsy:=Xrsd.out.below bWd
      have kMy:=XkMd.out.below bWd XkMd.out.lt
      have kxy:=Xkxd.out.below bWd Xkxd.out.lt
      have tWy:Touch (fun b=>b=mb∨b=Mb) Wx Wy:=Touch.of_size bWy _
      rw [hWy]at cc
      clear hrr bWy bWd kWy Xrvd Xrsd XkMd Xkxd XtWd
      have Xhcand:=hide hcand;have Xhy2:=hide hy2;have Xhv:=hide hv;have Xhnl0:=hide hnl0;have Xhtr:=hide htr;have Xhu:=hide hu;have Xhul:=hide hul;have Xhyl:=hide hyl;have Xcc:=hide cc;have Xrsy:=hide rsy;have XkMy:=hide kMy;have Xkxy:=hide kxy;have XtWy:=hide tWy;have XhWy:=hide hWy;clear hcand hy2 hv hnl0 htr hu hul hyl cc rsy kMy kxy tWy hWy
      gi_wp2_with fail
      refine⟨trivial,(callsIn_wide.2 Xcc.out).mono ?_⟩
      rintro e W5 ⟨Al,cl,rfl,own5,b5⟩
      rw [←XhWy.out]at b5
      have rl:=IntB.of_own own5
      have rs5:=Xrsy.out.below b5
      have kM5:=XkMy.out.below b5 XkMy.out.lt
      have kx5:=Xkxy.out.below b5 Xkxy.out.lt
      have tW5:=XtWy.out.trans' (Touch.of_size b5 _)
      clear x1 x2 own5 b5 Xcc Xrsy XkMy Xkxy XtWy
      obtain⟨hnl,-,-,-⟩:=RdI.at_ rl
      have hgl2:gr.length≤1000000:=by omega
      have cp:=fin_put rs5.best hgl2 Xhwp.out Xhpg.out rl
      by_cases h4:nl≤4096
      ·have h4':(nl:Int)≤4096:=by omega
       have hc2:=Xhcand.out
       rw [if_pos (by rw [←hnl];exact h4)]at hc2
       have hbe:=betF_eq (p:=p) hc2
       have x0:=(kx5.cell 0).trans rfl
       have x1:=(kx5.cell 1).trans rfl
       have cq:=(rs5.kq.cell 0).trans rfl
       obtain⟨bt,hbt⟩: ∃z,z=betterP B1 p v:=⟨_,rfl⟩
       rw [←hbt]at cp hbe
       cases bt with
       |true=>
        rw [if_pos rfl]at cp hbe
        have Xrl:=hide rl;have Xhnl:=hide hnl;have Xcp:=hide cp;have Xhbe:=hide hbe;have Xrs5:=hide rs5;have XkM5:=hide kM5;have Xkx5:=hide kx5;have XtW5:=hide tW5;have Xhbt:=hide hbt;have Xhc2:=hide hc2;clear rl hnl cp hbe rs5 kM5 kx5 tW5 hbt hc2
        gi_wp2_with fail
        refine⟨trivial,(callsIn_wide.2 Xcp.out).mono ?_⟩
        rintro e W6 ⟨rfl,bs6,t6⟩
        have hMm: ¬Mb=mb:=fun e=>XhmM.out e.symm
        have rs6:=Xrs5.out.put bs6 t6
        have kM6:=XkM5.out.touch t6 hMm
        have cM:=(kM6.cell 0).trans rfl
        have fM:=kM6.frozen 0
        have t7:Touch (fun b=>b=Mb) W6 (W6.setCell ⟨Mb,0,none⟩ (.bool true)):=(Touch.refl (fun b=>b=Mb) _).setCell (p:=⟨Mb,0,none⟩) (fun _=>rfl) _
        have kM7:=kM6.put 0 (.bool true)
        have rs7:=rs6.touch t7 (fun b e=>by rw [e];exact hMlo) (fun b e t cs k=>by
         subst e
         unfold Blk at k kM6
         rw [k]at kM6
         injection kM6 with kM6
         injection kM6 with _ kM6) XhmM.out
        have tW7:Touch (fun b=>b=mb∨b=Mb) Wx (W6.setCell ⟨Mb,0,none⟩ (.bool true)):=(XtW5.out.trans' (t6.mono fun b _ e=> .inl e)).trans' (t7.mono fun b _ e=> .inr e)
        have hst2:stepRun (B1,mo) (p,y)=(putF B1 p v,true):=by unfold stepRun;simp only;rw [Xhbe.out]
        have rn:=Xrst.out.next XhS.out (x:=(p,y)) XhyS.out Xhpg.out
        rw [hst2]at rn
        clear bs6 t6 rs6 kM6 t7 x0 x1 cq Xcp Xrs5 XkM5 XtW5 hst2
        have Xrn:=hide rn;have Xrs7:=hide rs7;have XkM7:=hide kM7;have XtW7:=hide tW7;clear rn rs7 kM7 tW7
        gi_wp2_with fail
        exact⟨XtFin.out _ XtW7.out,putF B1 p v,true,by rw [List.map_append];exact Xrn.out,Xrs7.out,XkM7.out,Xtx.out.trans' XtW7.out⟩
       |false=>
        rw [if_neg (by decide)]at cp hbe
        have hbn:betF B1 p y=none:=hbe
        have Xrl:=hide rl;have Xhnl:=hide hnl;have Xcp:=hide cp;have Xrs5:=hide rs5;have XkM5:=hide kM5;have Xkx5:=hide kx5;have XtW5:=hide tW5;have Xhbt:=hide hbt;have Xhc2:=hide hc2;have Xhbn:=hide hbn;clear rl hnl cp rs5 kM5 kx5 tW5 hbt hc2 hbn;clear hbe
        gi_wp2_with fail
        refine⟨trivial,(callsIn_wide.2 Xcp.out).mono ?_⟩
        rintro e W6 ⟨rfl,bs6,t6⟩
        have hMm: ¬Mb=mb:=fun e=>XhmM.out e.symm
        have rs6:=Xrs5.out.put bs6 t6
        have kM6:=XkM5.out.touch t6 hMm
        have tW6:Touch (fun b=>b=mb∨b=Mb) Wx W6:=XtW5.out.trans' (t6.mono fun b _ e=> .inl e)
        clear bs6 t6 x0 x1 cq Xcp Xrs5 XkM5 XtW5
        have Xrs6:=hide rs6;have XkM6:=hide kM6;have XtW6:=hide tW6;clear rs6 kM6 tW6
        have hst2:stepRun (B1,mo) (p,y)=(B1,mo):=by unfold stepRun;simp only;rw [Xhbn.out]
        have rn:=Xrst.out.next XhS.out (x:=(p,y)) XhyS.out Xhpg.out
        rw [hst2]at rn
        gi_wp2_with fail
        (try(refine⟨trivial,?_⟩;gi_wp2_with fail))
        exact⟨XtFin.out _ XtW6.out,B1,mo,by rw [List.map_append];exact rn,Xrs6.out,XkM6.out,Xtx.out.trans' XtW6.out⟩
      ·have h4': ¬(nl:Int)≤4096:=by omega
       have h4d:decide ((nl:Int)≤4096)=false:=decide_eq_false h4'
       have h4e:decide (nl≤4096)=false:=decide_eq_false h4
       have hc2:=Xhcand.out
       rw [if_neg (by rw [←hnl];exact h4)]at hc2
       have hbn:=betF_no (p:=p) hc2
       clear cp hc2
       have Xrl:=hide rl;have Xhnl:=hide hnl;have Xrs5:=hide rs5;have XkM5:=hide kM5;have Xkx5:=hide kx5;have XtW5:=hide tW5;have Xhbn:=hide hbn;clear rl hnl rs5 kM5 kx5 tW5 hbn
       have hst2:stepRun (B1,mo) (p,y)=(B1,mo):=by unfold stepRun;simp only;rw [Xhbn.out]
       have rn:=Xrst.out.next XhS.out (x:=(p,y)) XhyS.out Xhpg.out
       rw [hst2]at rn
       gi_wp2_with fail
       (try(refine⟨trivial,?_⟩;gi_wp2_with fail))
       exact⟨XtFin.out _ XtW5.out,B1,mo,by rw [List.map_append];exact rn,Xrs5.out,XkM5.out,Xtx.out.trans' XtW5.out⟩
   case done=>
    rintro D xs W hD rfl ⟨B1,mo,rst,rsx,kMx,tx⟩ hDm
    have nd: ∀D',w2.heap[D']? =some (.deferred (some []))→ ¬(D'=mb∨D'=Mb):=fun D' h e=>by
     rcases e with e|e
     ·subst e
      obtain⟨Dm,mm1,-⟩:=Xrs2.out.best.map
      obtain⟨es,clock,hb,-⟩:=mm1
      rw [hb]at h
      cases h
     ·subst e
      have k:=Xk2.out
      unfold Blk at k
      rw [h]at k
      cases k
    have mkW:=Mk.cons Xmk2.out (Mk.touch Xmk2.out tx nd) Xrs2.out.le.size hD hDm
    have hlist: ∀x∈allF S done,x∈(bwdF Z).map fun x=>x.2.1:=fun x hx=>by
     rw [←XhZX.out]at hx
     obtain⟨z,hz,rfl⟩:=List.mem_map.1 hx
     have h9:z∈(bwdF Z).map Prod.snd:=by rw [bwdF_snd];exact List.mem_reverse.2 hz
     obtain⟨y,hy,rfl⟩:=List.mem_map.1 h9
     exact List.mem_map.2 ⟨y,hy,rfl⟩
    have b8:Below W.heap.size W (W.alloc (.cells #[.bool mo] 4)):=(Below.refl _ _).alloc (Nat.le_refl _) _
    have rs8:=rsx.below b8
    have k8:Blk (W.alloc (.cells #[.bool mo] 4)) W.heap.size 4 #[.bool mo]:=Blk.new _ _ _
    have mk8:=Mk.touch mkW (Touch.of_size b8 (fun _=>False)) (fun _ _ e=>e)
    have hlo8:=rsx.le.size
    have cM:=(kMx.cell 0).trans rfl
    have hso8:=rst.sound
    have hno8:mo=false→ ∀x∈allF S done,betF B1 x.1 x.2=none:=fun e x hx=>by
     obtain⟨h1,h2⟩:=rst.no e
     simp only at h1
     rw [h1]
     exact h2 x (hlist x hx)
    have hyes8:mo=true→totF T B1 gr+1≤κ - 1:=fun e=>by
     have h1:=rst.yes e
     have h2:=Xhyes.out
     simp only at h1
     omega
    have hκ:κ - 1<κ:=by have:=Xhyes.out;omega
    clear rst rsx kMx tx hDm nd mkW hlist b8
    have Xrs8:=hide rs8;have Xk8:=hide k8;have Xmk8:=hide mk8;have Xhlo8:=hide hlo8;have Xhso8:=hide hso8;have Xhno8:=hide hno8;have Xhyes8:=hide hyes8;have Xhκ:=hide hκ;clear rs8 k8 mk8 hlo8 hso8 hno8 hyes8 hκ
    gi_wp2_with fail
    exact XhK.out _ _ (HandE.mk ⟨_,_,_,_,_,_,κ - 1,⟨W.heap.size,mo,B1,rfl,Xk8.out,Xhlo8.out,Xrs8.out,Xhso8.out,Xhno8.out,Xhyes8.out,Xmk8.out⟩,Xhκ.out,rfl⟩)
   case stop=>rintro D c pre W hD hSp h;exact h.elim
end Go.Proofs.YtalbfonkhpeajaaGreat
namespace Go.Proofs.YtalbfonkhpeajaaGreat
set_option linter.unusedVariables false
set_option linter.unusedSimpArgs false
open Go.RowKit Go.Shelf
attribute [local go_sem] Oper.semAt_some
attribute [local irreducible] wpStill wpOne wpPh
set_option maxRecDepth 100000 in
set_option maxHeartbeats 8000000 in
theorem fin_Rest_nil (As:Option Addr) (ms cs:Nat) (w:World):
  Calls Tryz.prog 8 #[.pointer none,.slice As ms cs] w (fun e w'=>e= .returned (.tuple #[.slice none 0 0,.bool false])∧Below w.heap.size w w'):=by
 have mk:=Mk.nil w.heap.size w
 refine(callsIn_wide (n:=7)).1 ?_
 refine callsIn_of_wp_marks Tryz.func8 rfl trivial ?_ rfl
 simp only [Tryz.ntmps8,List.size_toArray,List.length_cons,List.length_nil,Nat.reduceAdd,Nat.reduceSub,Array.replicate_succ,Array.replicate_zero,List.push_toArray,List.append_toArray,List.nil_append,List.cons_append]
 have Xmk:=hide mk;clear mk
 gi_wp2_with fail
 refine⟨trivial,?_⟩
 gi_wp2_with fail
 refine Xmk.out.leaves fun w' hcw hb=> ?_
 exact⟨.tuple #[.slice none 0 0,.bool false],by simp [results,Tryz.results8,go_sem],rfl,hb⟩
set_option maxRecDepth 100000 in
set_option maxHeartbeats 8000000 in
theorem fin_Rest_no {w:World} {E:Nat} {As:Option Addr} {ms cs:Nat}
  (hc:Calls Tryz.prog 19 #[.pointer (some ⟨E,0,none⟩),.slice As ms cs] w (Quiet w (.bool false))):
  Calls Tryz.prog 8 #[.pointer (some ⟨E,0,none⟩),.slice As ms cs] w (fun e w'=>e= .returned (.tuple #[.slice none 0 0,.bool false])∧Below w.heap.size w w'):=by
 have Xhc:=hide hc;clear hc
 refine(callsIn_wide (n:=7)).1 ?_
 refine callsIn_of_wp_marks Tryz.func8 rfl trivial ?_ rfl
 simp only [Tryz.ntmps8,List.size_toArray,List.length_cons,List.length_nil,Nat.reduceAdd,Nat.reduceSub,Array.replicate_succ,Array.replicate_zero,List.push_toArray,List.append_toArray,List.nil_append,List.cons_append]
 gi_wp2_with fail
 refine⟨trivial,(callsIn_wide.2 Xhc.out).mono ?_⟩
 rintro e w1 ⟨rfl,b1⟩
 have mk:=Mk.nil w.heap.size w1
 have Xmk:=hide mk;have Xb1:=hide b1;clear mk b1
 gi_wp2_with fail
 refine Xmk.out.leaves fun w' hcw hb=> ?_
 exact⟨.tuple #[.slice none 0 0,.bool false],by simp [results,Tryz.results8,go_sem],rfl,Xb1.out.trans hb⟩
end Go.Proofs.YtalbfonkhpeajaaGreat

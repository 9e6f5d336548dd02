/- Tables as bytes, the reference: Of. -/
import Derived.Test.YtlpipniclimgeaaGreatDRp4
import Derived.Deep.CutBlock
namespace Go.Proofs.YtlpipniclimgeaaGreat
set_option linter.unusedVariables false
set_option linter.unusedSimpArgs false
open Go.RowKit
attribute [local irreducible] wpStill wpOne wpPh
structure OfT (w wr:World) (B C:Nat) (F:Nat->Prop) (s:Rds) (cs:Array Value):Prop where
 rdr:Rdr 77 wr B F s
 kC:Blk wr C 26 cs
 kR:Blk wr w.heap.size 26 zeroP
 bel:Below w.heap.size w wr
 lB:w.heap.size<B
 lC:B<C
 sz:C+1<=wr.heap.size
section
variable {w wr w' : World} {B C : Nat} {F : Nat -> Prop} {s s' : Rds} {cs : Array Value}
theorem OfT.read (h:OfT w wr B C F s cs) (r:Rdr 77 w' B F s') (t:Touch (fun b=>b=B) wr w'):OfT w w' B C F s' cs:=
 ⟨r,h.kC.touch t (by have:=h.lC;omega),h.kR.touch t (by have:=h.lB;omega),t.toBelow (fun k e=>by have:=h.lB;omega) h.bel h.bel.size,h.lB,h.lC,Nat.le_trans h.sz t.size⟩
theorem OfT.below (h:OfT w wr B C F s cs) (b:Below wr.heap.size wr w'):OfT w w' B C F s cs:=
 ⟨h.rdr.below b,h.kC.below b h.kC.lt,h.kR.below b h.kR.lt,h.bel.trans (b.mono h.bel.size),h.lB,h.lC,Nat.le_trans h.sz b.size⟩
theorem OfT.far (h:OfT w wr B C F s cs) (hF: ∀k,F k->k<w.heap.size) {S:Nat->Prop} (t:Touch S wr w') (hS: ∀k,S k->C<k):OfT w w' B C F s cs:=
 ⟨h.rdr.touch t (fun b hb q=>by
  have:=hS b q
  have:=h.lB
  have:=h.lC
  rcases hb with hb|hb
  ·have:=hF b hb;omega
  ·omega),h.kC.touch t (fun q=>by have:=hS _ q;omega),h.kR.touch t (fun q=>by have:=hS _ q;have:=h.lB;have:=h.lC;omega),t.toBelow (fun k e=>by have:=hS k e;have:=h.lB;have:=h.lC;omega) h.bel h.bel.size,h.lB,h.lC,Nat.le_trans h.sz t.size⟩
theorem OfT.put (h:OfT w wr B C F s cs) (hF: ∀k,F k->k<w.heap.size) (i:Nat) (v:Value):OfT w (wr.setCell ⟨C,i,none⟩ v) B C F s (cs.setIfInBounds i v)/\Touch (fun b=>b=C) wr (wr.setCell ⟨C,i,none⟩ v):=by
 have t:=touch_setT wr C i v
 have h1:=h.lB
 have h2:=h.lC
 refine⟨⟨h.rdr.touch t fun b hb=> ?_,h.kC.put i v,h.kR.touch t (by omega),t.toBelow (fun k e=>by omega) h.bel h.bel.size,h1,h2,Nat.le_trans h.sz t.size⟩,t⟩
 rcases hb with hb|hb
 ·have:=hF b hb;omega
 ·omega
end
abbrev DatC (C:Nat) (wr:World) (v1 v2 v3 v4 v5:Value) (p:PackD):Prop:=IsPack wr (fun b=>C+1<=b/\b<wr.heap.size) v1 v2 v3 v4 v5 p
theorem DatC.touch {C:Nat} {wr w':World} {v1 v2 v3 v4 v5:Value} {p:PackD} {S:Nat->Prop} (h:DatC C wr v1 v2 v3 v4 v5 p) (t:Touch S wr w') (hS: ∀b,S b->b<C+1):DatC C w' v1 v2 v3 v4 v5 p:=
 (IsPack.touch h t fun b hb q=>by have:=hS b q;have:=hb.1;omega).mono (fun b hb=>⟨hb.1,Nat.lt_of_lt_of_le hb.2 t.size⟩) fun b hb=>hb.2
theorem datc_rules {C:Nat} {wr:World} {v:Value} {rs:List (Int×List Int)} {z:Nat} (hz:C+1<=z) (h:RdRules wr (fun b=>z<=b/\b<wr.heap.size) v rs):RdL wr (fun b=>C+1<=b/\b<wr.heap.size) 2 (ERule wr (fun b=>C+1<=b/\b<wr.heap.size)) v rs:=
 RdL.mono h (fun b hb=>⟨by omega,hb.2⟩) fun cs x e=>by
  obtain⟨v,e1,e2⟩:=e
  exact⟨v,e1,Rd.mono e2 fun b hb=>⟨by have:=hb.1;omega,hb.2⟩⟩
theorem datc_row {C:Nat} {wr:World} {v:Value} {l:List Int} {z:Nat} (hz:C+1<=z) (h:RdC (Value.int .i64) wr (fun b=>z<=b/\b<wr.heap.size) v l):RdI wr (fun b=>C+1<=b/\b<wr.heap.size) v l:=
 Rd.mono h fun b hb=>⟨by have:=hb.1;omega,hb.2⟩
theorem datc_rows {C:Nat} {wr:World} {v:Value} {l:List (List Int)} {z:Nat} (hz:C+1<=z) (h:RdUs wr (fun b=>z<=b/\b<wr.heap.size) v l):RdUs wr (fun b=>C+1<=b/\b<wr.heap.size) v l:=
 h.mono fun b hb=>⟨by have:=hb.1;omega,hb.2⟩
theorem RM.cap {X:Type} {e:TypeId} {size:Nat} {pre:X->List Value} {E:World->(Nat->Prop)->Value->X->Prop} {lo:Nat->Prop} {base n c:Nat} {w:World} {A:Option Addr} {L:List X} (hE:Hands E) (h:RM e size pre E lo base w A n c L):RM e size pre E (fun b=>lo b/\b<w.heap.size) base w A n c L:=by
 obtain⟨Z,h1,h2,h3⟩:=h.ex
 exact⟨⟨Z,h1,h2,fun j z x hz hx=>hE.mono (h3 j z x hz hx) fun b hb=>⟨⟨hb.1,hb.2.1⟩,hb.2⟩⟩,h.hn⟩
theorem take_len {b:List Int} {k:Nat} (h:b.length=k) (hk:k<=3):b.take 3=b.take k:=by rw [List.take_of_length_le (by omega),List.take_of_length_le (by omega)]
set_option maxRecDepth 100000 in
set_option maxHeartbeats 16000000 in
theorem ref18_Of {w:World} {F:Nat->Prop} {bv:Value} {b:List Int} (h:RdY w F bv b) (hb:Bytes b) (hF: ∀k,F k->k<w.heap.size):
  Calls Tryz.prog 12 #[bv] w (OfBP w b):=by
 obtain⟨A,n,c,rfl,-⟩:=id h
 obtain⟨hn,hnc,hcm,-⟩:=RdY.at_ h
 unfold maxLen at hcm
 obtain⟨w1,hw1⟩: ∃q,q=w.alloc (.cells zeroP 26):=⟨_,rfl⟩
 have b1:Below w.heap.size w w1:=by rw [hw1];exact(Below.refl _ w).alloc (Nat.le_refl _) _
 have k1:Blk w1 w.heap.size 26 zeroP:=by rw [hw1];exact Blk.new _ _ _
 unfold zeroP at k1
 have h1:=Rd.below h b1 hF
 have z1:w1.heap.size=w.heap.size+1:=by rw [hw1];simp
 have ew1:=hw1.symm
 unfold zeroP at ew1
 have hF1: ∀k,F k->k<w1.heap.size:=fun k hk=>by have:=hF k hk;omega
 clear hw1 h
 obtain⟨Xh1,Xb1,Xk1,Xhb,XhF,Xz1,Xhn,XhF1⟩:=HqZ8 h1 b1 k1 hb hF z1 hn hF1;clear h1 b1 k1 hb hF z1 hn hF1
 go_enter Tryz.func12,Tryz.ntmps12
 go_wp2_with fail
 go_loopw [5] (fun iv wr=> ∃k:Nat,k<=3/\k<=n/\iv= .int .i64 (k:Int)/\Below w1.heap.size w1 wr/\wr.heap.size=w1.heap.size/\b.take k=headB.take k) (fun iv _=>3 - (intOf iv).toNat)
 case atStart=>exact⟨0,Nat.zero_le _,Nat.zero_le _,rfl,Below.refl _ _,rfl,rfl⟩
 case round=>
  obtain⟨k,hk,hkn,rfl,bb,hz,hp⟩:=hrel
  obtain⟨wo,hwo⟩: ∃q,q=wr:=⟨_,rfl⟩
  subst hwo
  have k1:=Xk1.out.below bb Xk1.out.lt
  have b1:=Xb1.out.trans (bb.mono Xb1.out.size)
  clear ew1
  by_cases hlt:k<3
  ·have hlt1:(k:Int)<3:=by omega
   by_cases hl:n<=k
   ·have hl1:(n:Int)<=(k:Int):=by omega
    have ho:ofD b=(noPack,4):=by
     have hbl:b.length=k:=by have:=Xhn.out;omega
     unfold ofD
     rw [if_pos (by rw [take_len hbl (by omega),hbl];exact hp),if_pos (by omega)]
    clear hp
    have a0:=(k1.cell 0).trans rfl
    have a1:=(k1.cell 1).trans rfl
    have a2:=(k1.cell 2).trans rfl
    have a3:=(k1.cell 3).trans rfl
    have a4:=(k1.cell 4).trans rfl
    have a5:=(k1.cell 5).trans rfl
    have a6:=(k1.cell 6).trans rfl
    have f0:=k1.frozen 0
    have f1:=k1.frozen 1
    have f2:=k1.frozen 2
    have f3:=k1.frozen 3
    have f4:=k1.frozen 4
    have f5:=k1.frozen 5
    have f6:=k1.frozen 6
    obtain⟨Xk1,Xb1,Xho,Xbb,Xhz⟩:=HqZ5 k1 b1 ho bb hz;clear k1 b1 ho bb hz
    go_wp2_with fail
    have k2:=((((((Xk1.out.put 0 (.slice none 0 0)).put 1 (.int .i64 0)).put 2 (.int .i64 0)).put 3 (.slice none 0 0)).put 4 (.slice none 0 0)).put 5 (.slice none 0 0)).put 6 (.slice none 0 0)
    have e0:=(k2.cell 0).trans rfl
    have e1:=(k2.cell 1).trans rfl
    have e2:=(k2.cell 2).trans rfl
    have e3:=(k2.cell 3).trans rfl
    have e4:=(k2.cell 4).trans rfl
    have e5:=(k2.cell 5).trans rfl
    have e6:=(k2.cell 6).trans rfl
    have bx:=(touch7p wo w.heap.size (.slice none 0 0) (.int .i64 0) (.int .i64 0) (.slice none 0 0) (.slice none 0 0) (.slice none 0 0) (.slice none 0 0)).toBelow (fun k e=>by omega) Xb1.out Xb1.out.size
    refine bodyPost_ret (v:= .tuple #[PV (.slice none 0 0) 0 0 (.slice none 0 0) (.slice none 0 0) (.slice none 0 0) (.slice none 0 0),.int .i64 4]) (by simp [results,Tryz.results12,go_sem,e0,e1,e2,e3,e4,e5,e6,PV]) rfl ?_
    exact OfBP.none (by first|exact bx|exact bx.drew) Xho.out
   ·have hl1: ¬(n:Int)<=(k:Int):=by omega
    have hl2:(k:Int)<(n:Int):=by omega
    have hl3:k<n:=by omega
    obtain⟨-,-,-,hcell⟩:=RdY.at_ (Rd.below Xh1.out bb XhF1.out)
    obtain⟨bb0,off,rfl,-,hcc⟩:=hcell (by omega)
    obtain⟨x,hxk⟩: ∃x,b[k]? =some x:=⟨_,List.getElem?_eq_getElem (by rw [<-Xhn.out];exact hl3)⟩
    have p0:=hcc k x hxk
    clear hcell
    obtain rfl|rfl|rfl:k=0\/k=1\/k=2:=by omega
    ·skip
     have j1: ¬(n:Int)<=0:=by omega
     have j2: ¬n<=0:=by omega
     have j3:(0:Int)<(n:Int):=by omega
     have j4:0<n:=by omega
     have j5: ¬n=0:=by omega
     try rw [Nat.add_zero]at p0
     clear hl1 hl2 hl3 hl hlt hlt1
     by_cases hx:x=76
     ·subst hx
      have hp2:b.take (0+1)=headB.take (0+1):=by rw [take_next hxk,hp];rfl
      clear hp hcc hxk
      obtain⟨Xk1,Xb1,Xbb,Xhz,Xhp2⟩:=HqZ5 k1 b1 bb hz hp2;clear k1 b1 bb hz hp2
      go_wp2_with fail
      refine region_reads (by kernel_rfl) (by kernel_rfl) ?_
      repeat still_step
      refine wpStill_nil ?_
      go_wp2_with fail
      go_roundw
      case rel=>exact⟨0+1,by omega,by omega,by go_num,Xbb.out.drew,Xhz.out,Xhp2.out⟩
      case measure=>simp [intOf]
     ·have ho:ofD b=(noPack,10):=by
       unfold ofD
       rw [if_neg (fun e=>hx ?_)]
       have e:=congrArg (fun l:List Int=>l[0]?) e
       simp only [List.getElem?_take]at e
       rw [hxk,if_pos (by omega)]at e
       have hb0:0<b.length:=by have:=Xhn.out;omega
       rw [if_pos hb0]at e
       simpa [headB]using e
      have hxx:(x !=((({data:= #[76,84,49]}:ByteArray)[0]).toNat:Int))=true:=bne_iff_ne.2 hx
      clear hp hcc hxk
      have k1:=k1.drew
      have b1:=b1.drew
      obtain⟨Xk1,Xb1,Xho,Xbb,Xhz⟩:=HqZ5 k1 b1 ho bb hz;clear k1 b1 ho bb hz
      go_wp2_with fail
      refine region_reads (by kernel_rfl) (by kernel_rfl) ?_
      repeat still_step
      refine wpStill_nil ?_
      generalize wo.drew=wq at *
      have k1:=Xk1.out
      have a0:=(k1.cell 0).trans rfl
      have a1:=(k1.cell 1).trans rfl
      have a2:=(k1.cell 2).trans rfl
      have a3:=(k1.cell 3).trans rfl
      have a4:=(k1.cell 4).trans rfl
      have a5:=(k1.cell 5).trans rfl
      have a6:=(k1.cell 6).trans rfl
      have f0:=k1.frozen 0
      have f1:=k1.frozen 1
      have f2:=k1.frozen 2
      have f3:=k1.frozen 3
      have f4:=k1.frozen 4
      have f5:=k1.frozen 5
      have f6:=k1.frozen 6
      clear k1
      go_wp2_with fail
      have k2:=((((((Xk1.out.put 0 (.slice none 0 0)).put 1 (.int .i64 0)).put 2 (.int .i64 0)).put 3 (.slice none 0 0)).put 4 (.slice none 0 0)).put 5 (.slice none 0 0)).put 6 (.slice none 0 0)
      have e0:=(k2.cell 0).trans rfl
      have e1:=(k2.cell 1).trans rfl
      have e2:=(k2.cell 2).trans rfl
      have e3:=(k2.cell 3).trans rfl
      have e4:=(k2.cell 4).trans rfl
      have e5:=(k2.cell 5).trans rfl
      have e6:=(k2.cell 6).trans rfl
      have bx:=(touch7p wq w.heap.size (.slice none 0 0) (.int .i64 0) (.int .i64 0) (.slice none 0 0) (.slice none 0 0) (.slice none 0 0) (.slice none 0 0)).toBelow (fun k e=>by omega) Xb1.out Xb1.out.size
      refine bodyPost_ret (v:= .tuple #[PV (.slice none 0 0) 0 0 (.slice none 0 0) (.slice none 0 0) (.slice none 0 0) (.slice none 0 0),.int .i64 10]) (by simp [results,Tryz.results12,go_sem,e0,e1,e2,e3,e4,e5,e6,PV]) rfl ?_
      exact OfBP.none (by first|exact bx|exact bx.drew) Xho.out
    ·skip
     have j1: ¬(n:Int)<=1:=by omega
     have j2: ¬n<=1:=by omega
     have j3:(1:Int)<(n:Int):=by omega
     have j4:1<n:=by omega
     have j5: ¬n=0:=by omega
     try rw [Nat.add_zero]at p0
     clear hl1 hl2 hl3 hl hlt hlt1
     by_cases hx:x=84
     ·subst hx
      have hp2:b.take (1+1)=headB.take (1+1):=by rw [take_next hxk,hp];rfl
      clear hp hcc hxk
      obtain⟨Xk1,Xb1,Xbb,Xhz,Xhp2⟩:=HqZ5 k1 b1 bb hz hp2;clear k1 b1 bb hz hp2
      go_wp2_with fail
      refine region_reads (by kernel_rfl) (by kernel_rfl) ?_
      repeat still_step
      refine wpStill_nil ?_
      go_wp2_with fail
      go_roundw
      case rel=>exact⟨1+1,by omega,by omega,by go_num,Xbb.out.drew,Xhz.out,Xhp2.out⟩
      case measure=>simp [intOf]
     ·have ho:ofD b=(noPack,10):=by
       unfold ofD
       rw [if_neg (fun e=>hx ?_)]
       have e:=congrArg (fun l:List Int=>l[1]?) e
       simp only [List.getElem?_take]at e
       rw [hxk,if_pos (by omega)]at e
       have hb0:1<b.length:=by have:=Xhn.out;omega
       rw [if_pos hb0]at e
       simpa [headB]using e
      have hxx:(x !=((({data:= #[76,84,49]}:ByteArray)[1]).toNat:Int))=true:=bne_iff_ne.2 hx
      clear hp hcc hxk
      have k1:=k1.drew
      have b1:=b1.drew
      obtain⟨Xk1,Xb1,Xho,Xbb,Xhz⟩:=HqZ5 k1 b1 ho bb hz;clear k1 b1 ho bb hz
      go_wp2_with fail
      refine region_reads (by kernel_rfl) (by kernel_rfl) ?_
      repeat still_step
      refine wpStill_nil ?_
      generalize wo.drew=wq at *
      have k1:=Xk1.out
      have a0:=(k1.cell 0).trans rfl
      have a1:=(k1.cell 1).trans rfl
      have a2:=(k1.cell 2).trans rfl
      have a3:=(k1.cell 3).trans rfl
      have a4:=(k1.cell 4).trans rfl
      have a5:=(k1.cell 5).trans rfl
      have a6:=(k1.cell 6).trans rfl
      have f0:=k1.frozen 0
      have f1:=k1.frozen 1
      have f2:=k1.frozen 2
      have f3:=k1.frozen 3
      have f4:=k1.frozen 4
      have f5:=k1.frozen 5
      have f6:=k1.frozen 6
      clear k1
      go_wp2_with fail
      have k2:=((((((Xk1.out.put 0 (.slice none 0 0)).put 1 (.int .i64 0)).put 2 (.int .i64 0)).put 3 (.slice none 0 0)).put 4 (.slice none 0 0)).put 5 (.slice none 0 0)).put 6 (.slice none 0 0)
      have e0:=(k2.cell 0).trans rfl
      have e1:=(k2.cell 1).trans rfl
      have e2:=(k2.cell 2).trans rfl
      have e3:=(k2.cell 3).trans rfl
      have e4:=(k2.cell 4).trans rfl
      have e5:=(k2.cell 5).trans rfl
      have e6:=(k2.cell 6).trans rfl
      have bx:=(touch7p wq w.heap.size (.slice none 0 0) (.int .i64 0) (.int .i64 0) (.slice none 0 0) (.slice none 0 0) (.slice none 0 0) (.slice none 0 0)).toBelow (fun k e=>by omega) Xb1.out Xb1.out.size
      refine bodyPost_ret (v:= .tuple #[PV (.slice none 0 0) 0 0 (.slice none 0 0) (.slice none 0 0) (.slice none 0 0) (.slice none 0 0),.int .i64 10]) (by simp [results,Tryz.results12,go_sem,e0,e1,e2,e3,e4,e5,e6,PV]) rfl ?_
      exact OfBP.none (by first|exact bx|exact bx.drew) Xho.out
    ·skip
     have j1: ¬(n:Int)<=2:=by omega
     have j2: ¬n<=2:=by omega
     have j3:(2:Int)<(n:Int):=by omega
     have j4:2<n:=by omega
     have j5: ¬n=0:=by omega
     try rw [Nat.add_zero]at p0
     clear hl1 hl2 hl3 hl hlt hlt1
     by_cases hx:x=49
     ·subst hx
      have hp2:b.take (2+1)=headB.take (2+1):=by rw [take_next hxk,hp];rfl
      clear hp hcc hxk
      obtain⟨Xk1,Xb1,Xbb,Xhz,Xhp2⟩:=HqZ5 k1 b1 bb hz hp2;clear k1 b1 bb hz hp2
      go_wp2_with fail
      refine region_reads (by kernel_rfl) (by kernel_rfl) ?_
      repeat still_step
      refine wpStill_nil ?_
      go_wp2_with fail
      go_roundw
      case rel=>exact⟨2+1,by omega,by omega,by go_num,Xbb.out.drew,Xhz.out,Xhp2.out⟩
      case measure=>simp [intOf]
     ·have ho:ofD b=(noPack,10):=by
       unfold ofD
       rw [if_neg (fun e=>hx ?_)]
       have e:=congrArg (fun l:List Int=>l[2]?) e
       simp only [List.getElem?_take]at e
       rw [hxk,if_pos (by omega)]at e
       have hb0:2<b.length:=by have:=Xhn.out;omega
       rw [if_pos hb0]at e
       simpa [headB]using e
      have hxx:(x !=((({data:= #[76,84,49]}:ByteArray)[2]).toNat:Int))=true:=bne_iff_ne.2 hx
      clear hp hcc hxk
      have k1:=k1.drew
      have b1:=b1.drew
      obtain⟨Xk1,Xb1,Xho,Xbb,Xhz⟩:=HqZ5 k1 b1 ho bb hz;clear k1 b1 ho bb hz
      go_wp2_with fail
      refine region_reads (by kernel_rfl) (by kernel_rfl) ?_
      repeat still_step
      refine wpStill_nil ?_
      generalize wo.drew=wq at *
      have k1:=Xk1.out
      have a0:=(k1.cell 0).trans rfl
      have a1:=(k1.cell 1).trans rfl
      have a2:=(k1.cell 2).trans rfl
      have a3:=(k1.cell 3).trans rfl
      have a4:=(k1.cell 4).trans rfl
      have a5:=(k1.cell 5).trans rfl
      have a6:=(k1.cell 6).trans rfl
      have f0:=k1.frozen 0
      have f1:=k1.frozen 1
      have f2:=k1.frozen 2
      have f3:=k1.frozen 3
      have f4:=k1.frozen 4
      have f5:=k1.frozen 5
      have f6:=k1.frozen 6
      clear k1
      go_wp2_with fail
      have k2:=((((((Xk1.out.put 0 (.slice none 0 0)).put 1 (.int .i64 0)).put 2 (.int .i64 0)).put 3 (.slice none 0 0)).put 4 (.slice none 0 0)).put 5 (.slice none 0 0)).put 6 (.slice none 0 0)
      have e0:=(k2.cell 0).trans rfl
      have e1:=(k2.cell 1).trans rfl
      have e2:=(k2.cell 2).trans rfl
      have e3:=(k2.cell 3).trans rfl
      have e4:=(k2.cell 4).trans rfl
      have e5:=(k2.cell 5).trans rfl
      have e6:=(k2.cell 6).trans rfl
      have bx:=(touch7p wq w.heap.size (.slice none 0 0) (.int .i64 0) (.int .i64 0) (.slice none 0 0) (.slice none 0 0) (.slice none 0 0) (.slice none 0 0)).toBelow (fun k e=>by omega) Xb1.out Xb1.out.size
      refine bodyPost_ret (v:= .tuple #[PV (.slice none 0 0) 0 0 (.slice none 0 0) (.slice none 0 0) (.slice none 0 0) (.slice none 0 0),.int .i64 10]) (by simp [results,Tryz.results12,go_sem,e0,e1,e2,e3,e4,e5,e6,PV]) rfl ?_
      exact OfBP.none (by first|exact bx|exact bx.drew) Xho.out
  ·have hlt1: ¬(k:Int)<3:=by omega
   obtain rfl:k=3:=by omega
   have hl4:3<=n:=hkn
   have hl3:(3:Int)<=(n:Int):=by omega
   have hl5:(3:Int)<=(c:Int):=by omega
   have hl6:3<=c:=by omega
   have t3:(3:Int).toNat=3:=rfl
   have h3:=Rd.below Xh1.out bb XhF1.out
   obtain⟨-,-,-,hcell⟩:=RdY.at_ h3
   obtain⟨bb0,off,rfl,hbb,-⟩:=hcell (by omega)
   clear hcell
   have hp3:b.take 3=headB:=hp
   obtain⟨A3,hA3⟩: ∃A3,(if c=3 then some (⟨bb0,off,none⟩:Addr)else some ⟨bb0,off+3,none⟩)=A3:=⟨_,rfl⟩
   have tl:=RdY.tail h3 (k:=3) hl4
   rw [hA3]at tl
   have hbd:ofD b=(if(bodyD (b.drop 3,false)).2.2=true then(noPack,4)else if(decide ((bodyD (b.drop 3,false)).2.1=[])&&rightP (bodyD (b.drop 3,false)).1)=true then((bodyD (b.drop 3,false)).1,0)else(noPack,10)):=by
    unfold ofD
    have hnb:=Xhn.out
    have hpt:headB.take b.length=headB:=List.take_of_length_le (by show 3<=_;omega)
    rw [if_pos (by rw [hpt];exact hp3),if_neg (by omega)]
   obtain⟨s0,hs0⟩: ∃q,q=(b.drop 3,false):=⟨_,rfl⟩
   rw [<-hs0]at hbd
   obtain⟨B,hB⟩: ∃q,q=wo.heap.size:=⟨_,rfl⟩
   obtain⟨w3,hw3⟩: ∃q,q=wo.alloc (.cells #[.slice A3 (n - 3) (c - 3),.bool false] 77):=⟨_,rfl⟩
   have b3:Below wo.heap.size wo w3:=by rw [hw3];exact(Below.refl _ wo).alloc (Nat.le_refl _) _
   have z3:w3.heap.size=w.heap.size+2:=by rw [hw3,World.size_alloc,hz,Xz1.out]
   have hB1:w.heap.size<B:=by rw [hB,hz,Xz1.out];omega
   have kr:Blk w3 B 77 #[.slice A3 (n - 3) (c - 3),.bool false]:=by rw [hw3,hB];exact Blk.new _ _ _
   have hFo: ∀k,F k->k<wo.heap.size:=fun k hk=>by rw [hz];exact XhF1.out k hk
   have R3:Rdr 77 w3 B F s0:=by
    refine⟨.slice A3 (n - 3) (c - 3),?_,?_,fun k hk=>⟨Nat.lt_of_lt_of_le (hFo k hk) b3.size,by have:=XhF.out k hk;omega⟩,?_⟩
    ·rw [hs0];exact kr
    ·rw [hs0];exact Rd.below tl b3 hFo
    ·rw [hs0];exact fun x hx=>Xhb.out x (List.mem_of_mem_drop hx)
   have kR3:=k1.below b3 k1.lt
   have bel3:=b1.trans (b3.mono b1.size)
   have e3:=hw3.symm
   have eB:=hB.symm
   clear h3 tl hbb hp hp3 hw3 hB hs0 kr bb hz k1 b1 hFo b3
   obtain⟨XR3,XkR3,Xbel3,Xhbd,Xz3,XhB1⟩:=HqZ6 R3 kR3 bel3 hbd z3 hB1;clear R3 kR3 bel3 hbd z3 hB1
   go_wp2_with fail
   have c1:=ref18_num XR3.out
   have rg:=num_range (XR3.out).bytes
   unfold NumP at c1
   obtain⟨⟨x,s1⟩,e1⟩: ∃q,q=numD s0:=⟨_,rfl⟩
   rw [<-e1]at c1 rg
   simp only at c1 rg
   obtain⟨T,rfl⟩:=Int.eq_ofNat_of_zero_le rg.1
   have hT:T<=65535:=by omega
   refine c1.mono ?_
   rintro e w5 ⟨rfl,r5,t5⟩
   clear c1 rg
   have kR5:=XkR3.out.touch t5 (by have:=XhB1.out;omega)
   have bel5:=t5.toBelow (fun k e=>by have:=XhB1.out;omega) Xbel3.out Xbel3.out.size
   have z5:w.heap.size+2<=w5.heap.size:=by have:=t5.size;have:=Xz3.out;omega
   clear t5 XR3 XkR3 Xbel3 Xz3 eB e3
   obtain⟨Xr5,XkR5,Xbel5,Xz5,Xe1⟩:=HqZ5 r5 kR5 bel5 z5 e1;clear r5 kR5 bel5 z5 e1
   go_wp2_with fail
   have c1:=ref18_num Xr5.out
   have rg:=num_range (Xr5.out).bytes
   unfold NumP at c1
   obtain⟨⟨x,s2⟩,e2⟩: ∃q,q=numD s1:=⟨_,rfl⟩
   rw [<-e2]at c1 rg
   simp only at c1 rg
   obtain⟨N,rfl⟩:=Int.eq_ofNat_of_zero_le rg.1
   have hN:N<=65535:=by omega
   refine c1.mono ?_
   rintro e w6 ⟨rfl,r5,t5⟩
   clear c1 rg
   have kR6:=XkR5.out.touch t5 (by have:=XhB1.out;omega)
   have bel6:=t5.toBelow (fun k e=>by have:=XhB1.out;omega) Xbel5.out Xbel5.out.size
   obtain⟨C,hC⟩: ∃q,q=w6.heap.size:=⟨_,rfl⟩
   obtain⟨w8,hw8⟩: ∃q,q=w6.alloc (.cells #[.slice none 0 0,.int .i64 (T:Int),.int .i64 (N:Int),.slice none 0 0,.slice none 0 0,.slice none 0 0,.slice none 0 0] 26):=⟨_,rfl⟩
   have b8:Below w6.heap.size w6 w8:=by rw [hw8];exact(Below.refl _ w6).alloc (Nat.le_refl _) _
   have hBC:B<C:=by
    have h6:=t5.size
    have h5:=Xz5.out
    have h4:=r5.lt
    rw [hC]
    omega
   have S8:OfT w w8 B C F s2 #[.slice none 0 0,.int .i64 (T:Int),.int .i64 (N:Int),.slice none 0 0,.slice none 0 0,.slice none 0 0,.slice none 0 0]:=by
    refine⟨r5.below b8,?_,kR6.below b8 kR6.lt,bel6.trans (b8.mono bel6.size),XhB1.out,hBC,?_⟩
    ·rw [hw8,hC];exact Blk.new _ _ _
    ·rw [hw8,hC];simp
   have D8:DatC C w8 (.slice none 0 0) (.slice none 0 0) (.slice none 0 0) (.slice none 0 0) (.slice none 0 0) noPack:=IsPack.none w8 _ fun k hk=>hk.2
   clear b8 t5 r5 kR6 bel6 Xr5 XkR5 Xbel5 Xz5 hBC
   obtain⟨XS8,Xe2,XD8,Xhw8,XhC⟩:=HqZ5 S8 e2 D8 hw8 hC;clear S8 e2 D8 hw8 hC
   go_wp2_with fail
   rw [<-Xhw8.out,<-XhC.out]
   have c1:=ref18_num XS8.out.rdr
   have rg:=num_range XS8.out.rdr.bytes
   unfold NumP at c1
   obtain⟨⟨x,s3⟩,e3⟩: ∃q,q=numD s2:=⟨_,rfl⟩
   rw [<-e3]at c1 rg
   simp only at c1 rg
   obtain⟨K,rfl⟩:=Int.eq_ofNat_of_zero_le rg.1
   have hK:K<=65535:=by omega
   refine c1.mono ?_
   rintro e w9 ⟨rfl,r5,t5⟩
   have S9:=XS8.out.read r5 t5
   clear c1 rg r5
   have D9:=XD8.out.touch t5 fun b hb=>by have:=XS8.out.lC;omega
   clear t5 XS8 XD8 Xhw8 XhC
   obtain⟨⟨rs,s4⟩,e4⟩: ∃q,q=lineD ruleD K s3:=⟨_,rfl⟩
   have q1:=(lineD_all (Q:=fun r:Int×List Int=>N16 r.1) ruleD_all K s3 S9.rdr.bytes).1
   rw [<-e4]at q1
   obtain⟨D,hD⟩: ∃q,q=w9.heap.size:=⟨_,rfl⟩
   have hCD:C+1<=D:=by rw [hD];exact S9.sz
   have hDw:D<=w9.heap.size:=by rw [hD];exact Nat.le_refl _
   have hBC:=S9.lC
   have hwB:=S9.lB
   clear hD
   obtain⟨XS9,Xe3,XD9,Xe4,Xq1,XhCD,XhDw,XhBC,XhwB⟩:=HqZ9 S9 e3 D9 e4 q1 hCD hDw hBC hwB;clear S9 e3 D9 e4 q1 hCD hDw hBC hwB
   go_upto_block 2 with fail
   go_cut [9,10]from 40 to 65 (fun v v2 wx=> ∃(A:Option Addr) (c:Nat),OfT w wx B C F s4 #[.slice A rs.length c,.int .i64 (T:Int),.int .i64 (N:Int),.slice none 0 0,.slice none 0 0,.slice none 0 0,.slice none 0 0]/\DatC C wx (.slice A rs.length c) (.slice none 0 0) (.slice none 0 0) (.slice none 0 0) (.slice none 0 0) ⟨rs,0,0,[],[],[],[]⟩)
   case first=>
    go_wp2_with fail
    go_loopw [9] (fun iv wr=> ∃(acc:List (Int×List Int)) (t:Rds) (A:Option Addr) (k c:Nat),k=acc.length/\k<=K/\iv= .int .i64 (k:Int)/\RM 53 2 preRule ruleE (fun b=>D<=b) D wr A k c acc/\OfT w wr B C F t #[.slice A k c,.int .i64 (T:Int),.int .i64 (N:Int),.slice none 0 0,.slice none 0 0,.slice none 0 0,.slice none 0 0]/\D<=wr.heap.size/\(rs,s4)=(acc++(lineD ruleD (K - k) t).1,(lineD ruleD (K - k) t).2)) (fun iv _=>K - (intOf iv).toNat)
    case atStart=>exact⟨[],s3,none,0,0,rfl,Nat.zero_le _,rfl,RM.nil _ _ _,XS9.out,XhDw.out,Xe4.out⟩
    case round=>
     clear XS9 XD9 Xe4 XhDw
     obtain⟨acc,t,A,k,c,hk,hkK,rfl,own,S,hDr,hE⟩:=hrel
     obtain⟨wv,hwv⟩: ∃q,q=wr:=⟨_,rfl⟩
     subst hwv
     have p1:=S.rdr.bit
     by_cases hgo:k<K/\t.2=false
     ·obtain⟨l,tb⟩:=t
      obtain⟨hlt,hb0⟩:=hgo
      have hb0:tb=false:=hb0
      subst hb0
      have hlt1:(k:Int)<(K:Int):=by omega
      have cN:=ref18_num S.rdr
      have hb1:=numD_all _ S.rdr.bytes
      unfold NumP at cN
      have hr:ruleD (l,false)=(((numD (l,false)).1,(lineD numD (numD (numD (l,false)).2).1.toNat (numD (numD (l,false)).2).2).1),(lineD numD (numD (numD (l,false)).2).1.toNat (numD (numD (l,false)).2).2).2):=rfl
      have hE2:(rs,s4)=((acc++[(ruleD (l,false)).1])++(lineD ruleD (K - (k+1)) (ruleD (l,false)).2).1,(lineD ruleD (K - (k+1)) (ruleD (l,false)).2).2):=by
       rw [hE,show K - k=(K - (k+1))+1 by omega,line_go,List.append_assoc];rfl
      rw [hr]at hE2
      obtain⟨⟨a,t1⟩,hq1⟩: ∃q,q=numD (l,false):=⟨_,rfl⟩
      rw [<-hq1]at hE2 cN hb1
      simp only at hE2 cN hb1
      have hb2:=numD_all _ hb1.2
      obtain⟨⟨nn,t2⟩,hq2⟩: ∃q,q=numD t1:=⟨_,rfl⟩
      rw [<-hq2]at hE2 hb2
      simp only at hE2 hb2
      obtain⟨M,rfl⟩:=Int.eq_ofNat_of_zero_le hb2.1.1
      have hM:M<=65535:=by have:=hb2.1.2;omega
      rw [Int.toNat_natCast]at hE2
      obtain⟨⟨xs,t3⟩,hq3⟩: ∃q,q=lineD numD M t2:=⟨_,rfl⟩
      rw [<-hq3]at hE2
      simp only at hE2
      clear hE hr hb1 hb2 hq1
      obtain⟨Xhk,Xown,XS,XhDr,XhE2,XcN,Xhq2,Xhq3⟩:=HqZ8 hk own S hDr hE2 cN hq2 hq3;clear hk own S hDr hE2 cN hq2 hq3
      go_wp2_with fail
      refine XcN.out.mono ?_
      rintro e w5 ⟨rfl,r5,t5⟩
      have S5:=XS.out.read r5 t5
      have own5:=Xown.out.touch hands_rule t5 (fun q e=>by have:=(Xown.out.block q e).1;have:=XhCD.out;have:=XhBC.out;omega) (fun q e _=>by have e:D<=q:=e;have:=XhCD.out;have:=XhBC.out;omega)
      have hD5:=Nat.le_trans XhDr.out t5.size
      obtain⟨X,hX⟩: ∃q,q=w5.heap.size:=⟨_,rfl⟩
      obtain⟨w6,hw6⟩: ∃q,q=w5.alloc (.cells #[.int .i64 a,.slice none 0 0] 53):=⟨_,rfl⟩
      have b6:Below w5.heap.size w5 w6:=by rw [hw6];exact(Below.refl _ w5).alloc (Nat.le_refl _) _
      have kX:Blk w6 X 53 #[.int .i64 a,.slice none 0 0]:=by rw [hw6,hX];exact Blk.new _ _ _
      have hDX:D<=X:=by rw [hX];exact hD5
      have S6:=S5.below b6
      have hne6: ∀q,(Value.slice A k c).ownBlock=some q->q<X:=fun q e=>by rw [hX];exact(own5.block q e).2
      have own6:=(own5.cap hands_rule).below hands_rule b6
      rw [<-hX]at own6
      have cN:=ref18_num S6.rdr
      unfold NumP at cN
      rw [<-Xhq2.out]at cN
      simp only at cN
      clear XcN XS Xown XhDr r5 t5 S5 own5 hD5 b6 p1 Xhq2
      obtain⟨XhX,Xhw6,XkX,XhDX,XS6,Xown6,Xhne6,XcN⟩:=HqZ8 hX hw6 kX hDX S6 own6 hne6 cN;clear hX hw6 kX hDX S6 own6 hne6 cN
      go_wp2_with fail
      rw [<-Xhw6.out,<-XhX.out]
      refine XcN.out.mono ?_
      rintro e w7 ⟨rfl,r7,t7⟩
      have S7:=XS6.out.read r7 t7
      have own7:=Xown6.out.touch hands_rule t7 (fun q e=>by have:=(Xown6.out.block q e).1;have:=XhCD.out;have:=XhBC.out;omega) (fun q e _=>by have:=e.1;have:=XhCD.out;have:=XhBC.out;omega)
      have kX7:=XkX.out.touch t7 (by have:=XhDX.out;have:=XhCD.out;have:=XhBC.out;omega)
      have cL:=ref18_rline r7 M (by omega)
      rw [<-Xhq3.out]at cL
      unfold LnP at cL
      simp only at cL
      have hX7:X<w7.heap.size:=kX7.lt
      clear XcN XS6 Xown6 XkX Xhw6 XhX r7 t7 Xhq3
      obtain⟨XS7,Xown7,XkX7,XcL,XhX7⟩:=HqZ5 S7 own7 kX7 cL hX7;clear S7 own7 kX7 cL hX7
      go_wp2_with fail
      refine XcL.out.mono ?_
      rintro e w8 ⟨Ax,cx,rfl,d8,r8,t8⟩
      have S8:=XS7.out.read r8 t8
      have own8:=Xown7.out.touch hands_rule t8 (fun q e=>by have:=(Xown7.out.block q e).1;have:=XhCD.out;have:=XhBC.out;omega) (fun q e _=>by have:=e.1;have:=XhCD.out;have:=XhBC.out;omega)
      have kX8:=XkX7.out.touch t8 (by have:=XhDX.out;have:=XhCD.out;have:=XhBC.out;omega)
      have p1:=(kX8.cell 1).trans rfl
      have f1:=kX8.frozen 1
      obtain⟨wa,hwa⟩: ∃q,q=w8.setCell ⟨X,1,none⟩ (.slice Ax xs.length cx):=⟨_,rfl⟩
      have ta:Touch (fun q=>q=X) w8 wa:=by rw [hwa];exact touch_setT _ _ _ _
      have kXa:Blk wa X 53 #[.int .i64 a,.slice Ax xs.length cx]:=by rw [hwa];exact kX8.put 1 _
      have Sa:=S8.far XhF.out ta (fun q e=>by have:=XhDX.out;have:=XhCD.out;omega)
      have owna:=(own8.touch hands_rule ta (fun q e e'=>by have:=Xhne6.out q e;omega) (fun q e _ e'=>by have:=e.2;omega)).lo hands_rule (lo':=fun b=>D<=b) fun b e=>e.1
      have hX8:X<w8.heap.size:=kX8.lt
      have rz:ruleE wa (fun b=>w7.heap.size<=b/\b<w8.heap.size) (.slice Ax xs.length cx) (a,xs):=Rd.touch d8 ta fun b hb e=>by have:=hb.1;have:=XhX7.out;omega
      have hza:=ta.size
      have hDa:D<=wa.heap.size:=by have:=XhDX.out;omega
      have hzz:ruleE wa (fun b=>D<=b/\b<wa.heap.size/\(Value.slice A k c).ownBlock≠some b) (.slice Ax xs.length cx) (a,xs):=hands_rule.mono rz fun b hb=>⟨by have:=hb.1;have:=XhX7.out;have:=XhDX.out;omega,by omega,fun e=>by have:=Xhne6.out b e;have:=hb.1;have:=XhX7.out;omega⟩
      have al:Below wa.heap.size wa (wa.alloc (.cells #[.int .i64 a,.slice Ax xs.length cx] 53)):=(Below.refl _ _).alloc (Nat.le_refl _) _
      have rone:Rd (wa.alloc (.cells #[.int .i64 a,.slice Ax xs.length cx] 53)) (fun x=>x=wa.heap.size) (.slice (some ⟨wa.heap.size,0,none⟩) 1 1) 2 [.int .i64 a,.slice Ax xs.length cx]:=Rd.one' (w:=wa) (e:=53) [.int .i64 a,.slice Ax xs.length cx] 2 rfl
      obtain⟨Z,g1,g2,g3⟩:=owna.ex
      have own7:=own_below' g2 al
      have hz:D<=(wa.alloc (.cells #[.int .i64 a,.slice Ax xs.length cx] 53)).heap.size:=Nat.le_trans hDa al.size
      obtain⟨us,hus⟩: ∃q,q=rmCells preRule acc Z:=⟨_,rfl⟩
      have own7':=own7
      rw [<-hus]at own7'
      have y0:=(kXa.cell 0).trans rfl
      have y1:=(kXa.cell 1).trans rfl
      have yc:=(Sa.kC.cell 0).trans rfl
      have ewa:=hwa.symm
      clear XcL XS7 Xown7 XkX7 d8 r8 t8 S8 own8 kX8 hwa ta kXa owna rz own7 hza
      obtain⟨XSa,XhDa,Xhzz,Xal,Xrone,Xg1,Xg2,Xg3,Xown7',Xhz,Xhus⟩:=HqZ11 Sa hDa hzz al rone g1 g2 g3 own7' hz hus;clear Sa hDa hzz al rone g1 g2 g3 own7' hz hus
      go_wp2_with (at_builtin;refine wp_append _ rfl (.tmp 61) (.tmp 63) _ rfl Tryz.elemRule D (.slice A k c) k _ rfl Xown7'.out _ _ [.int .i64 a,.slice Ax xs.length cx] 1 rfl rfl Xrone.out (by simp [Value.oneCell']) (by unfold maxLen;omega) (by omega) Xhz.out ?_)
      intro A8 c8 wb own8 g8 hb8
      have own9:=own8
      rw [Xhus.out]at own9
      obtain⟨P1,P2,P3⟩:=RM.push hands_rule (z:= .slice Ax xs.length cx) (x:=(a,xs)) Xhk.out Xg1.out Xg2.out Xg3.out XhDa.out Xhzz.out (Below.refl _ _) Xal.out own9 g8 (by rw [World.size_alloc];exact hb8)
      have Sb:=(XSa.out.below Xal.out).far XhF.out P3 (fun q e=>by have:=(Xown7'.out.lt q e).1;have:=XhCD.out;omega)
      have hDb:=Nat.le_trans Xhz.out P3.size
      have pc:=(Sb.kC.cell 0).trans rfl
      have fc:=Sb.kC.frozen 0
      obtain⟨wc,hwc⟩: ∃q,q=wb.setCell ⟨C,0,none⟩ (.slice A8 (k+1) c8):=⟨_,rfl⟩
      have Sc:OfT w wc B C F t3 #[.slice A8 (k+1) c8,.int .i64 (T:Int),.int .i64 (N:Int),.slice none 0 0,.slice none 0 0,.slice none 0 0,.slice none 0 0]/\Touch (fun b=>b=C) wb wc:=by rw [hwc];exact Sb.put XhF.out 0 _
      obtain⟨Sc,tc⟩:=Sc
      have ownc:=P1.touch hands_rule tc (fun q e e'=>by have:=(P1.block q e).1;have:=XhCD.out;omega) (fun q e _ e'=>by have e:D<=q:=e;have:=XhCD.out;omega)
      have hDc:=Nat.le_trans hDb tc.size
      have ewc:=hwc.symm
      clear own8 own9 g8 hb8 P1 P2 P3 Sb hDb hwc tc XSa XhDa Xhzz Xal Xrone Xg1 Xg2 Xg3 Xown7' Xhz Xhus y0 y1 yc ewa
      obtain⟨XSc,Xownc,XhDc⟩:=HqZ3 Sc ownc hDc;clear Sc ownc hDc
      go_wp2_with fail
      go_roundw
      case rel=>exact⟨acc++[(a,xs)],t3,A8,k+1,c8,by rw [List.length_append,<-Xhk.out];rfl,by omega,by go_num,Xownc.out,XSc.out,XhDc.out,XhE2.out⟩
      case measure=>simp [intOf];omega
     ·have hE3:(rs,s4)=(acc,t):=by
       obtain⟨l,tb⟩:=t
       cases tb with
       |true=>rw [hE,line_stop,List.append_nil]
       |false=>
        rw [hE,show K - k=0 by(have: ¬k<K:=fun h=>hgo ⟨h,rfl⟩);omega];show(acc++[],(l,false))=_;rw [List.append_nil]
      injection hE3 with e1 e2
      subst e1 e2
      have P: ∃(A:Option Addr) (c:Nat),OfT w wv B C F s4 #[.slice A rs.length c,.int .i64 (T:Int),.int .i64 (N:Int),.slice none 0 0,.slice none 0 0,.slice none 0 0,.slice none 0 0]/\DatC C wv (.slice A rs.length c) (.slice none 0 0) (.slice none 0 0) (.slice none 0 0) (.slice none 0 0) ⟨rs,0,0,[],[],[],[]⟩:=by
       refine⟨A,c,by rw [<-hk];exact S,?_⟩
       have dd:DatC C wv (.slice none 0 0) (.slice none 0 0) (.slice none 0 0) (.slice none 0 0) (.slice none 0 0) noPack:=IsPack.none wv _ fun k hk=>hk.2
       have d:=own.rdl hands_rule (fun _=>rfl)
       rw [hk]at d
       exact⟨datc_rules XhCD.out d,dd.row,dd.rows,dd.gow,dd.gows,dd.lt,dd.tn,fun r hr=>n16_w64 (Xq1.out r hr),dd.wrow,dd.wgow,dd.u1,dd.u2⟩
      clear own S hDr hE
      by_cases hlt:k<K
      ·have hlt1:(k:Int)<(K:Int):=by omega
       have e3:s4.2=true:=by
        cases hh:s4.2 with
        |true=>rfl
        |false=>exact absurd ⟨hlt,hh⟩ hgo
       rw [e3]at p1
       clear e3
       obtain⟨Xhk,XP,Xhgo⟩:=HqZ3 hk P hgo;clear hk P hgo
       go_wp2_with fail
       go_meet
       exact XP.out
      ·have hlt1: ¬(k:Int)<(K:Int):=by omega
       obtain⟨Xhk,XP,Xhgo⟩:=HqZ3 hk P hgo;clear hk P hgo
       go_wp2_with fail
       go_meet
       exact XP.out
   case rest=>
    obtain⟨A1,y1,S11,D11⟩:=hcut
    have hF:=XhF.out
    have hBC:=XhBC.out
    have hwB:=XhwB.out
    clear XS9 XD9
    obtain⟨XS11,XD11⟩:=HqZ2 S11 D11;clear S11 D11
    go_wp2_with fail
    have c1:=ref18_num XS11.out.rdr
    have rg:=num_range XS11.out.rdr.bytes
    unfold NumP at c1
    obtain⟨⟨x,s5⟩,e5⟩: ∃q,q=numD s4:=⟨_,rfl⟩
    rw [<-e5]at c1 rg
    simp only at c1 rg
    obtain⟨M,rfl⟩:=Int.eq_ofNat_of_zero_le rg.1
    have hM:M<=65535:=by omega
    refine c1.mono ?_
    rintro e w12 ⟨rfl,r5,t5⟩
    have S12:=XS11.out.read r5 t5
    clear c1 rg r5
    have D12:=XD11.out.touch t5 fun b hb=>by omega
    clear t5 XS11 XD11
    have c1:=ref18_rline S12.rdr M (by omega)
    have q1:=(rowD_all M s5 S12.rdr.bytes).1
    obtain⟨⟨row,s6⟩,e6⟩: ∃q,q=lineD numD M s5:=⟨_,rfl⟩
    rw [<-e6]at c1 q1
    obtain⟨XS12,Xe5,XD12,Xc1,Xe6,Xq1⟩:=HqZ6 S12 e5 D12 c1 e6 q1;clear S12 e5 D12 c1 e6 q1
    go_wp2_with fail
    refine Xc1.out.mono ?_
    rintro e w13 ⟨A2,y2,rfl,d,r,t⟩
    have S13:=XS12.out.read r t
    have dd:=XD12.out.touch t fun b hb=>by omega
    have D13:DatC C w13 (.slice A1 rs.length y1) (.slice A2 row.length y2) (.slice none 0 0) (.slice none 0 0) (.slice none 0 0) ⟨rs,0,0,row,[],[],[]⟩:=⟨dd.rules,datc_row XS12.out.sz d,dd.rows,dd.gow,dd.gows,dd.lt,dd.tn,dd.wr,fun x hx=>n16_w64 (Xq1.out.1 x hx),dd.wgow,dd.u1,dd.u2⟩
    clear Xc1 d r t dd
    have l2:=Xq1.out.2
    obtain⟨w14,hw⟩: ∃q,q=w13.setCell ⟨C,3,none⟩ (.slice A2 row.length y2):=⟨_,rfl⟩
    have p3:=(S13.kC.cell 3).trans rfl
    have q3:=S13.kC.frozen 3
    have P:OfT w w14 B C F s6 #[.slice A1 rs.length y1,.int .i64 (T:Int),.int .i64 (N:Int),.slice A2 row.length y2,.slice none 0 0,.slice none 0 0,.slice none 0 0]/\Touch (fun b=>b=C) w13 w14:=by rw [hw];exact S13.put hF 3 _
    have ew3:=hw.symm
    obtain⟨S14,t14⟩:=P
    clear hw
    have D14:=D13.touch t14 fun b hb=>by omega
    clear t14 S13 D13 XS12 XD12 Xq1
    have g1:=(S14.kC.cell 1).trans rfl
    have hT1:IntKind.i64.wrap ((T:Int)+1)=(T:Int)+1:=by rw [IntKind.wrap_i64];omega
    have c1:=ref18_rrows S14.rdr (T+1) (by omega)
    have q1:=rowsD_all (T+1) s6 S14.rdr.bytes
    obtain⟨⟨rows,s7⟩,e7⟩: ∃q,q=rowsD (T+1) s6:=⟨_,rfl⟩
    rw [<-e7]at c1 q1
    obtain⟨XS14,XD14,Xc1,Xe7,Xq1,Xl2⟩:=HqZ6 S14 D14 c1 e7 q1 l2;clear S14 D14 c1 e7 q1 l2
    go_wp2_with fail
    clear p3 q3 ew3 g1 hT1
    refine Xc1.out.mono ?_
    rintro e w15 ⟨A3r,y3,rfl,d,r,t⟩
    have S15:=XS14.out.read r t
    have dd:=XD14.out.touch t fun b hb=>by omega
    have D15:DatC C w15 (.slice A1 rs.length y1) (.slice A2 row.length y2) (.slice A3r rows.length y3) (.slice none 0 0) (.slice none 0 0) ⟨rs,0,0,row,rows,[],[]⟩:=⟨dd.rules,dd.row,datc_rows XS14.out.sz d,dd.gow,dd.gows,dd.lt,dd.tn,dd.wr,dd.wrow,dd.wgow,fun r hr=>n16_u16 (Xq1.out r hr).1,dd.u2⟩
    clear Xc1 d r t dd
    have l3: ∀r∈rows,r.length<=70000:=fun r hr=>by have:=(Xq1.out r hr).2;omega
    obtain⟨w16,hw⟩: ∃q,q=w15.setCell ⟨C,4,none⟩ (.slice A3r rows.length y3):=⟨_,rfl⟩
    have p4:=(S15.kC.cell 4).trans rfl
    have q4:=S15.kC.frozen 4
    have P:OfT w w16 B C F s7 #[.slice A1 rs.length y1,.int .i64 (T:Int),.int .i64 (N:Int),.slice A2 row.length y2,.slice A3r rows.length y3,.slice none 0 0,.slice none 0 0]/\Touch (fun b=>b=C) w15 w16:=by rw [hw];exact S15.put hF 4 _
    have ew4:=hw.symm
    obtain⟨S16,t16⟩:=P
    clear hw
    have D16:=D15.touch t16 fun b hb=>by omega
    clear t16 S15 D15 XS14 XD14 Xq1
    have c1:=ref18_rline S16.rdr M (by omega)
    have q1:=(rowD_all M s7 S16.rdr.bytes).1
    obtain⟨⟨gow,s8⟩,e8⟩: ∃q,q=lineD numD M s7:=⟨_,rfl⟩
    rw [<-e8]at c1 q1
    obtain⟨XS16,XD16,Xc1,Xe8,Xq1,Xl3⟩:=HqZ6 S16 D16 c1 e8 q1 l3;clear S16 D16 c1 e8 q1 l3
    go_wp2_with fail
    clear p4 q4 ew4
    refine Xc1.out.mono ?_
    rintro e w17 ⟨A4,y4,rfl,d,r,t⟩
    have S17:=XS16.out.read r t
    have dd:=XD16.out.touch t fun b hb=>by omega
    have D17:DatC C w17 (.slice A1 rs.length y1) (.slice A2 row.length y2) (.slice A3r rows.length y3) (.slice A4 gow.length y4) (.slice none 0 0) ⟨rs,0,0,row,rows,gow,[]⟩:=⟨dd.rules,dd.row,dd.rows,datc_row XS16.out.sz d,dd.gows,dd.lt,dd.tn,dd.wr,dd.wrow,fun x hx=>n16_w64 (Xq1.out.1 x hx),dd.u1,dd.u2⟩
    clear Xc1 d r t dd
    obtain⟨w18,hw⟩: ∃q,q=w17.setCell ⟨C,5,none⟩ (.slice A4 gow.length y4):=⟨_,rfl⟩
    have p5:=(S17.kC.cell 5).trans rfl
    have q5:=S17.kC.frozen 5
    have P:OfT w w18 B C F s8 #[.slice A1 rs.length y1,.int .i64 (T:Int),.int .i64 (N:Int),.slice A2 row.length y2,.slice A3r rows.length y3,.slice A4 gow.length y4,.slice none 0 0]/\Touch (fun b=>b=C) w17 w18:=by rw [hw];exact S17.put hF 5 _
    have ew5:=hw.symm
    obtain⟨S18,t18⟩:=P
    clear hw
    have D18:=D17.touch t18 fun b hb=>by omega
    clear t18 S17 D17 XS16 XD16 Xq1
    have g1:=(S18.kC.cell 2).trans rfl
    have c1:=ref18_rrows S18.rdr (N) (by omega)
    have q1:=rowsD_all (N) s8 S18.rdr.bytes
    obtain⟨⟨gows,s9⟩,e9⟩: ∃q,q=rowsD (N) s8:=⟨_,rfl⟩
    rw [<-e9]at c1 q1
    obtain⟨XS18,XD18,Xc1,Xe9,Xq1⟩:=HqZ5 S18 D18 c1 e9 q1;clear S18 D18 c1 e9 q1
    go_wp2_with fail
    clear p5 q5 ew5 g1
    have hTN:W64 (T:Int)/\W64 (N:Int):=⟨n16_w64 ⟨by omega,by omega⟩,n16_w64 ⟨by omega,by omega⟩⟩
    refine Xc1.out.mono ?_
    rintro e w19 ⟨A5,y5,rfl,d,r,t⟩
    have S19:=XS18.out.read r t
    have dd:=XD18.out.touch t fun b hb=>by omega
    have D19:DatC C w19 (.slice A1 rs.length y1) (.slice A2 row.length y2) (.slice A3r rows.length y3) (.slice A4 gow.length y4) (.slice A5 gows.length y5) ⟨rs,(T:Int),(N:Int),row,rows,gow,gows⟩:=⟨dd.rules,dd.row,dd.rows,dd.gow,datc_rows XS18.out.sz d,dd.lt,hTN,dd.wr,dd.wrow,dd.wgow,dd.u1,fun r hr=>n16_u16 (Xq1.out r hr).1⟩
    clear Xc1 d r t dd
    have l4: ∀r∈gows,r.length<=70000:=fun r hr=>by have:=(Xq1.out r hr).2;omega
    obtain⟨w20,hw⟩: ∃q,q=w19.setCell ⟨C,6,none⟩ (.slice A5 gows.length y5):=⟨_,rfl⟩
    have p6:=(S19.kC.cell 6).trans rfl
    have q6:=S19.kC.frozen 6
    have P:OfT w w20 B C F s9 #[.slice A1 rs.length y1,.int .i64 (T:Int),.int .i64 (N:Int),.slice A2 row.length y2,.slice A3r rows.length y3,.slice A4 gow.length y4,.slice A5 gows.length y5]/\Touch (fun b=>b=C) w19 w20:=by rw [hw];exact S19.put hF 6 _
    have ew6:=hw.symm
    obtain⟨S20,t20⟩:=P
    clear hw
    have D20:=D19.touch t20 fun b hb=>by omega
    clear t20 S19 D19 XS18 XD18 Xq1
    have hlp:LenP ⟨rs,(T:Int),(N:Int),row,rows,gow,gows⟩:=⟨Nat.le_trans Xl2.out (by omega),Xl3.out,l4⟩
    clear l4
    have hbody:bodyD s0=(⟨rs,(T:Int),(N:Int),row,rows,gow,gows⟩,s9):=by
     unfold bodyD
     simp only [<-Xe1.out,<-Xe2.out,<-Xe3.out,<-Xe4.out,<-Xe5.out,<-Xe6.out,<-Xe8.out,Int.toNat_natCast]
     rw [show((T:Int)+1).toNat=T+1 by omega,<-Xe7.out]
     simp only
     rw [<-Xe8.out]
     simp only
     rw [<-Xe9.out]
    have hbd:=Xhbd.out
    rw [hbody]at hbd
    simp only at hbd
    clear Xhbd hbody
    have kR:=S20.kR
    unfold zeroP at kR
    obtain⟨vr,hr⟩:=S20.rdr
    obtain⟨l9,t9⟩:=s9
    obtain⟨A9,n9,c9,rfl,-⟩:=id hr.rd
    obtain⟨hn9,-,-,-⟩:=RdY.at_ hr.rd
    have r0:=(hr.box.cell 0).trans rfl
    have r1:=(hr.box.cell 1).trans rfl
    simp only at hn9 r1 hbd
    have aa0:=(kR.cell 0).trans rfl
    have aa1:=(kR.cell 1).trans rfl
    have aa2:=(kR.cell 2).trans rfl
    have aa3:=(kR.cell 3).trans rfl
    have aa4:=(kR.cell 4).trans rfl
    have aa5:=(kR.cell 5).trans rfl
    have aa6:=(kR.cell 6).trans rfl
    have ff0:=kR.frozen 0
    have ff1:=kR.frozen 1
    have ff2:=kR.frozen 2
    have ff3:=kR.frozen 3
    have ff4:=kR.frozen 4
    have ff5:=kR.frozen 5
    have ff6:=kR.frozen 6
    have b20:=S20.bel
    have hsz:=S20.sz
    clear hr Xk1 Xb1
    have k1:=kR
    have b1:=b20
    clear kR b20
    cases t9 with
    |true=>
     have ho:ofD b=(noPack,4):=by rw [hbd];rfl
     clear hbd hn9 S20 D20 hlp
     obtain⟨Xk1,Xb1,Xho⟩:=HqZ3 k1 b1 ho;clear k1 b1 ho
     go_wp2_with fail
     have k2:=((((((Xk1.out.put 0 (.slice none 0 0)).put 1 (.int .i64 0)).put 2 (.int .i64 0)).put 3 (.slice none 0 0)).put 4 (.slice none 0 0)).put 5 (.slice none 0 0)).put 6 (.slice none 0 0)
     have e0:=(k2.cell 0).trans rfl
     have e1:=(k2.cell 1).trans rfl
     have e2:=(k2.cell 2).trans rfl
     have e3:=(k2.cell 3).trans rfl
     have e4:=(k2.cell 4).trans rfl
     have e5:=(k2.cell 5).trans rfl
     have e6:=(k2.cell 6).trans rfl
     have bx:=(touch7p w20 w.heap.size (.slice none 0 0) (.int .i64 0) (.int .i64 0) (.slice none 0 0) (.slice none 0 0) (.slice none 0 0) (.slice none 0 0)).toBelow (fun k e=>by omega) Xb1.out Xb1.out.size
     refine bodyPost_ret (v:= .tuple #[PV (.slice none 0 0) 0 0 (.slice none 0 0) (.slice none 0 0) (.slice none 0 0) (.slice none 0 0),.int .i64 4]) (by simp [results,Tryz.results12,go_sem,e0,e1,e2,e3,e4,e5,e6,PV]) rfl ?_
     exact OfBP.none (by first|exact bx|exact bx.drew) Xho.out
    |false=>
     rw [if_neg (by decide)]at hbd
     by_cases hl9:l9=[]
     ·have hn90:n9=0:=by rw [hn9,hl9];rfl
      subst hn90
      have cR:=ref17_Right D20 hlp
      obtain⟨r,hr⟩: ∃q,q=rightP ⟨rs,(T:Int),(N:Int),row,rows,gow,gows⟩:=⟨_,rfl⟩
      rw [decide_eq_true hl9,Bool.true_and,<-hr]at hbd
      rw [<-hr]at cR
      simp only at cR
      have d0:=(S20.kC.cell 0).trans rfl
      have d1:=(S20.kC.cell 1).trans rfl
      have d2:=(S20.kC.cell 2).trans rfl
      have d3:=(S20.kC.cell 3).trans rfl
      have d4:=(S20.kC.cell 4).trans rfl
      have d5:=(S20.kC.cell 5).trans rfl
      have d6:=(S20.kC.cell 6).trans rfl
      have hz0: ¬(0:Int)<((0:Nat):Int):=by omega
      clear hr hl9 hn9 hlp
      obtain⟨Xk1,Xb1,Xhbd,XcR,XS20,XD20⟩:=HqZ6 k1 b1 hbd cR S20 D20;clear k1 b1 hbd cR S20 D20
      go_wp2_with fail
      refine XcR.out.mono ?_
      rintro e w21 ⟨rfl,b21⟩
      have kC21:=XS20.out.kC.below b21 XS20.out.kC.lt
      have k1:=Xk1.out.below b21 Xk1.out.lt
      have hsz1:=b21.size
      have D21:=IsPack.below XD20.out b21
      have b1:=Xb1.out.trans (b21.mono Xb1.out.size)
      clear XcR XS20 XD20 Xk1 Xb1 b21 aa0 ff0 d0 aa1 ff1 d1 aa2 ff2 d2 aa3 ff3 d3 aa4 ff4 d4 aa5 ff5 d5 aa6 ff6 d6 r0 r1
      have aa0:=(k1.cell 0).trans rfl
      have ff0:=k1.frozen 0
      have d0:=(kC21.cell 0).trans rfl
      have aa1:=(k1.cell 1).trans rfl
      have ff1:=k1.frozen 1
      have d1:=(kC21.cell 1).trans rfl
      have aa2:=(k1.cell 2).trans rfl
      have ff2:=k1.frozen 2
      have d2:=(kC21.cell 2).trans rfl
      have aa3:=(k1.cell 3).trans rfl
      have ff3:=k1.frozen 3
      have d3:=(kC21.cell 3).trans rfl
      have aa4:=(k1.cell 4).trans rfl
      have ff4:=k1.frozen 4
      have d4:=(kC21.cell 4).trans rfl
      have aa5:=(k1.cell 5).trans rfl
      have ff5:=k1.frozen 5
      have d5:=(kC21.cell 5).trans rfl
      have aa6:=(k1.cell 6).trans rfl
      have ff6:=k1.frozen 6
      have d6:=(kC21.cell 6).trans rfl
      have hbd:=Xhbd.out
      clear kC21 Xhbd
      cases r with
      |false=>
       have ho:ofD b=(noPack,10):=by rw [hbd];rfl
       clear hbd D21
       obtain⟨Xk1,Xb1,Xho⟩:=HqZ3 k1 b1 ho;clear k1 b1 ho
       go_wp2_with fail
       have k2:=((((((Xk1.out.put 0 (.slice none 0 0)).put 1 (.int .i64 0)).put 2 (.int .i64 0)).put 3 (.slice none 0 0)).put 4 (.slice none 0 0)).put 5 (.slice none 0 0)).put 6 (.slice none 0 0)
       have e0:=(k2.cell 0).trans rfl
       have e1:=(k2.cell 1).trans rfl
       have e2:=(k2.cell 2).trans rfl
       have e3:=(k2.cell 3).trans rfl
       have e4:=(k2.cell 4).trans rfl
       have e5:=(k2.cell 5).trans rfl
       have e6:=(k2.cell 6).trans rfl
       have bx:=(touch7p w21 w.heap.size (.slice none 0 0) (.int .i64 0) (.int .i64 0) (.slice none 0 0) (.slice none 0 0) (.slice none 0 0) (.slice none 0 0)).toBelow (fun k e=>by omega) Xb1.out Xb1.out.size
       refine bodyPost_ret (v:= .tuple #[PV (.slice none 0 0) 0 0 (.slice none 0 0) (.slice none 0 0) (.slice none 0 0) (.slice none 0 0),.int .i64 10]) (by simp [results,Tryz.results12,go_sem,e0,e1,e2,e3,e4,e5,e6,PV]) rfl ?_
       exact OfBP.none (by first|exact bx|exact bx.drew) Xho.out
      |true=>
       rw [if_pos rfl]at hbd
       obtain⟨Xk1,Xb1,Xhbd,XD21⟩:=HqZ4 k1 b1 hbd D21;clear k1 b1 hbd D21
       go_wp2_with fail
       have k2:=(((((((Xk1.out.put 0 (.slice A1 rs.length y1)).put 1 (.int .i64 (T:Int))).put 2 (.int .i64 (N:Int))).put 3 (.slice A2 row.length y2)).put 4 (.slice A3r rows.length y3)).put 5 (.slice A4 gow.length y4)).put 6 (.slice A5 gows.length y5))
       have e0:=(k2.cell 0).trans rfl
       have e1:=(k2.cell 1).trans rfl
       have e2:=(k2.cell 2).trans rfl
       have e3:=(k2.cell 3).trans rfl
       have e4:=(k2.cell 4).trans rfl
       have e5:=(k2.cell 5).trans rfl
       have e6:=(k2.cell 6).trans rfl
       have t7:=touch7p w21 w.heap.size (.slice A1 rs.length y1) (.int .i64 (T:Int)) (.int .i64 (N:Int)) (.slice A2 row.length y2) (.slice A3r rows.length y3) (.slice A4 gow.length y4) (.slice A5 gows.length y5)
       have bx:=t7.toBelow (fun k e=>by omega) Xb1.out Xb1.out.size
       have hD:=(IsPack.touch XD21.out t7 fun k hk e=>by have:=hk.1;omega).mono (F':=fun k=>w.heap.size<=k/\k<w21.heap.size) (fun k hk=>⟨by have:=hk.1;omega,by have:=hk.2;omega⟩) (fun k hk=>Nat.lt_of_lt_of_le hk.2 t7.size)
       refine bodyPost_ret (v:= .tuple #[PV (.slice A1 rs.length y1) (T:Int) (N:Int) (.slice A2 row.length y2) (.slice A3r rows.length y3) (.slice A4 gow.length y4) (.slice A5 gows.length y5),.int .i64 0]) (by simp [results,Tryz.results12,go_sem,e0,e1,e2,e3,e4,e5,e6,PV]) rfl ?_
       unfold OfBP
       rw [Xhbd.out]
       refine⟨by first|exact bx|exact bx.drew,_,_,_,_,_,rfl,?_⟩
       refine IsPack.mono hD (fun k hk=>⟨hk.1,Nat.lt_of_lt_of_le hk.2 t7.size⟩) fun k hk=>hk.2
     ·have hn90:(0:Int)<(n9:Int):=by
       have:l9.length≠0:=fun h=>hl9 (List.length_eq_zero_iff.1 h)
       omega
      have hn91:0<n9:=by omega
      have ho:ofD b=(noPack,10):=by rw [hbd,decide_eq_false hl9];rfl
      clear hbd hn9 S20 D20 hlp hl9
      obtain⟨Xk1,Xb1,Xho⟩:=HqZ3 k1 b1 ho;clear k1 b1 ho
      go_wp2_with fail
      have k2:=((((((Xk1.out.put 0 (.slice none 0 0)).put 1 (.int .i64 0)).put 2 (.int .i64 0)).put 3 (.slice none 0 0)).put 4 (.slice none 0 0)).put 5 (.slice none 0 0)).put 6 (.slice none 0 0)
      have e0:=(k2.cell 0).trans rfl
      have e1:=(k2.cell 1).trans rfl
      have e2:=(k2.cell 2).trans rfl
      have e3:=(k2.cell 3).trans rfl
      have e4:=(k2.cell 4).trans rfl
      have e5:=(k2.cell 5).trans rfl
      have e6:=(k2.cell 6).trans rfl
      have bx:=(touch7p w20 w.heap.size (.slice none 0 0) (.int .i64 0) (.int .i64 0) (.slice none 0 0) (.slice none 0 0) (.slice none 0 0) (.slice none 0 0)).toBelow (fun k e=>by omega) Xb1.out Xb1.out.size
      refine bodyPost_ret (v:= .tuple #[PV (.slice none 0 0) 0 0 (.slice none 0 0) (.slice none 0 0) (.slice none 0 0) (.slice none 0 0),.int .i64 10]) (by simp [results,Tryz.results12,go_sem,e0,e1,e2,e3,e4,e5,e6,PV]) rfl ?_
      exact OfBP.none (by first|exact bx|exact bx.drew) Xho.out
end Go.Proofs.YtlpipniclimgeaaGreat

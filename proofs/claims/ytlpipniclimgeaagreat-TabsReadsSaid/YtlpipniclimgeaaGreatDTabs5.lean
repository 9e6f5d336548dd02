/- Tables as bytes: Bytes. -/
import Derived.Test.YtlpipniclimgeaaGreatDPack8
import Derived.Lib.SlBytesConst
import Derived.Lib.Strings
import Derived.Lib.Slices
import Derived.Lib.Walk
import Derived.Laws.Strings3
import Derived.Laws.IdiomStrings
import Derived.Test.YtlpipniclimgeaaGreatDRs1
namespace Go.Proofs.YtlpipniclimgeaaGreat
set_option linter.unusedVariables false
set_option linter.unusedSimpArgs false
open Go.RowKit
attribute [local irreducible] wpStill wpOne wpPh
theorem badL_ok (ns:List Int):badL ns= !okN ns:=by
 unfold badL okN
 rw [List.any_eq_not_all_not]
 congr 2
 funext n
 unfold badN
 by_cases h1:n<0<;>by_cases h2:65535<n<;>simp [h1,h2]<;>omega
def WrD (D:Nat) (w:World) (B:Nat) (ns:List Int):Prop:=Wr w B (fun b=>D<=b/\b<w.heap.size) (headB++encB ns) (badL ns)
theorem WrD.step {D:Nat} {a b c:World} {B:Nat} {ns xs:List Int} {e:Ending} (hD:D<=a.heap.size) (hab:a.heap.size<=b.heap.size) (p:WrPost b B (fun b=>D<=b/\b<a.heap.size) (headB++encB ns++encB xs) (badL ns||badL xs) e c):WrD D c B (ns++xs)/\Below D b c:=by
 obtain⟨-,h,t⟩:=p
 have:=t.size
 refine⟨?_,t.toBelow (fun k e=>e.1) (Below.refl _ b) (by omega)⟩
 unfold WrD
 rw [encB_app,badL_app,<-List.append_assoc]
 refine h.mono (fun k hk=> ?_) fun k hk=>hk.2
 rcases hk with q|q
 ·exact⟨q.1,by omega⟩
 ·exact⟨by omega,q.2⟩
theorem WrD.post {D:Nat} {a b c:World} {B:Nat} {ns:List Int} {x:Int} {e:Ending} (p:e= .returned (.tuple #[])/\Wr c B (New (fun b=>D<=b/\b<a.heap.size) b c) (headB++encB ns++twoB x) (badL ns||badN x)/\Touch (fun b=>D<=b/\b<a.heap.size) b c):WrPost b B (fun b=>D<=b/\b<a.heap.size) (headB++encB ns++encB [x]) (badL ns||badL [x]) e c:=by
 rw [badL_one]
 exact p
theorem take_flat {X:Type} (f:X->List Int) (l:List X) (k:Nat):((l.take k).flatMap f).length<=(l.flatMap f).length:=by
 conv=>rhs;rw [<-List.take_append_drop k l,List.flatMap_append,List.length_append]
 omega
theorem hb_len (ns:List Int):(headB++encB ns).length=3+2 * ns.length:=by rw [List.length_append,encB_len];rfl
def StepP (D:Nat) (w:World) (B:Nat) (ns:List Int) (e:Ending) (w':World):Prop:=e= .returned (.tuple #[])/\WrD D w' B ns/\Below D w w'
theorem line_step {D B:Nat} {w:World} {F:Nat->Prop} {ns xs:List Int} {v:Value} (hW:WrD D w B ns) (hx:RdI w F v xs) (hF: ∀b,F b->b<D) (hD:D<=w.heap.size) (hl:ns.length+xs.length<=40000000):
  Calls Tryz.prog 18 #[.pointer (some ⟨B,0,none⟩),v] w (StepP D w B (ns++xs)):=
 (writer_line hW hx (fun b hb=>⟨Nat.lt_of_lt_of_le (hF b hb) hD,fun q=>absurd (hF b hb) (by have:=q.1;omega)⟩) (by rw [hb_len];omega)).mono fun e w' h=>⟨h.1,WrD.step hD (Nat.le_refl _) h⟩
theorem num_step {D B:Nat} {w:World} {ns:List Int} (hW:WrD D w B ns) (hD:D<=w.heap.size) (hl:ns.length<=40000000) (n:Int):
  Calls Tryz.prog 19 #[.pointer (some ⟨B,0,none⟩),.int .i64 n] w (StepP D w B (ns++[n])):=
 (writer_num hW (by rw [hb_len];omega) n).mono fun e w' h=>⟨h.1,WrD.step hD (Nat.le_refl _) (WrD.post h)⟩
theorem rows_step {D B:Nat} {w:World} {F:Nat->Prop} {ns:List Int} {xs:List (List Int)} {v:Value} (hW:WrD D w B ns) (hx:RdUs w F v xs) (hu: ∀r∈xs,U16 r) (hF: ∀b,F b->b<D) (hD:D<=w.heap.size) (hl:ns.length+(rowsN xs).length<=40000000):
  Calls Tryz.prog 20 #[.pointer (some ⟨B,0,none⟩),v] w (StepP D w B (ns++rowsN xs)):=
 (writer_rows hW hx hu (fun b hb=>⟨Nat.lt_of_lt_of_le (hF b hb) hD,fun q=>absurd (hF b hb) (by have:=q.1;omega)⟩) (by rw [hb_len];omega)).mono fun e w' h=>⟨h.1,WrD.step hD (Nat.le_refl _) h⟩
def BytesP (w:World) (p:PackD) (e:Ending) (w':World):Prop:=Below w.heap.size w w'/\ ∃A c,e= .returned (.slice A (bytesP p).length c)/\RdY w' (fun b=>w.heap.size<=b/\b<w'.heap.size) (.slice A (bytesP p).length c) (bytesP p)
theorem BytesP.none {w w':World} {p:PackD} {e:Ending} (he:e= .returned (.slice Option.none 0 0)) (hb:Below w.heap.size w w') (h:(rightP p&&okN (numsP p))=false):BytesP w p e w':=by
 have e1:bytesP p=[]:=by unfold bytesP;rw [h];rfl
 unfold BytesP
 rw [e1]
 exact⟨hb,Option.none,0,he,Rd.nil _ _ _⟩
set_option maxRecDepth 100000 in
set_option maxHeartbeats 8000000 in
theorem tabs_Bytes {w:World} {F:Nat->Prop} {v1 v2 v3 v4 v5:Value} {p:PackD} (h:IsPack w F v1 v2 v3 v4 v5 p) (hl:LenP p) (hs:(numsP p).length<=40000000):
  Calls Tryz.prog 8 #[PV v1 p.terms p.nons v2 v3 v4 v5] w (BytesP w p):=by
 obtain⟨A1,c1,A2,c2,A3,c3,A4,c4,A5,c5,rfl,rfl,rfl,rfl,rfl,⟨i1,j1⟩,-⟩:=h.slices
 have u1:=Nat.le_trans i1 j1
 clear i1 j1
 obtain⟨w1,hw1⟩: ∃q',q'=w.alloc (.cells #[.slice A1 p.rules.length c1,.int .i64 p.terms,.int .i64 p.nons,.slice A2 p.row.length c2,.slice A3 p.rows.length c3,.slice A4 p.gow.length c4,.slice A5 p.gows.length c5] 26):=⟨_,rfl⟩
 have g1:=PBox.new h p.terms p.nons
 have b1:Below w.heap.size w w1:=by rw [hw1];exact(Below.refl _ w).alloc (Nat.le_refl _) _
 rw [<-hw1]at g1
 have cR:=pack_Right g1.pk hl
 have hF: ∀b,F b->b<w.heap.size:=h.lt
 have hlen:(numsP p).length=3+((p.rules.flatMap ruleN).length+(1+(p.row.length+((rowsN p.rows).length+(p.gow.length+(rowsN p.gows).length))))):=by
  unfold numsP;simp only [List.length_cons,List.length_append];omega
 rw [hlen]at hs
 obtain⟨T,gT⟩: ∃x,x=p.terms:=⟨_,rfl⟩
 obtain⟨N,gN⟩: ∃x,x=p.nons:=⟨_,rfl⟩
 obtain⟨n1,k1⟩: ∃x,x=p.rules.length:=⟨_,rfl⟩
 obtain⟨n2,k2⟩: ∃x,x=p.row.length:=⟨_,rfl⟩
 obtain⟨n3,k3⟩: ∃x,x=p.rows.length:=⟨_,rfl⟩
 obtain⟨n4,k4⟩: ∃x,x=p.gow.length:=⟨_,rfl⟩
 obtain⟨n5,k5⟩: ∃x,x=p.gows.length:=⟨_,rfl⟩
 rw [<-gT,<-gN,<-k1,<-k2,<-k3,<-k4,<-k5]at g1 hw1 cR
 rw [<-gT,<-gN,<-k1,<-k2,<-k3,<-k4,<-k5]
 rw [<-k1]at u1
 obtain⟨a0,a1,a2,a3,a4,a5,a6⟩:=g1.cells
 rw [hw1]at a0 a1 a2 a3 a4 a5 a6 cR
 clear h hlen
 obtain⟨r,hr⟩: ∃r,r=rightP p:=⟨_,rfl⟩
 rw [<-hr]at cR
 obtain⟨Xg1,Xb1,XcR,XhF,Xhs,XgT,XgN,Xk1,Xk2,Xk3,Xk4,Xk5,Xhr,Xhl⟩:=HqZ14 g1 b1 cR hF hs gT gN k1 k2 k3 k4 k5 hr hl;clear g1 b1 cR hF hs gT gN k1 k2 k3 k4 k5 hr hl
 go_enter Tryz.func8,Tryz.ntmps8
 go_wp2_with fail
 refine XcR.out.mono ?_
 rintro e w2 ⟨rfl,b2⟩
 rw [<-hw1]at b2
 have g2:=Xg1.out.below b2
 have bb2:=Xb1.out.trans (b2.mono Xb1.out.size)
 have z2:w.heap.size+1<=w2.heap.size:=by have:=b2.size;rw [hw1]at this;simpa using this
 clear XcR b2 Xg1 Xb1 hw1 a0 a1 a2 a3 a4 a5 a6
 cases r with
 |false=>
  have Xbb2:=hide bb2;clear bb2
  go_wp2_with fail
  go_ret
  exact BytesP.none rfl Xbb2.out (by rw [<-Xhr.out];rfl)
 |true=>
  obtain⟨w3,hw3⟩: ∃q,q=w2.alloc (.cells #[.int .u8 76,.int .u8 84,.int .u8 49] 5 (3,4)):=⟨_,rfl⟩
  obtain⟨w4,hw4⟩: ∃q,q=w3.alloc (.cells #[.slice (some ⟨w2.heap.size,0,none⟩) 3 3,.bool false] 56):=⟨_,rfl⟩
  have z3:w3.heap.size=w2.heap.size+1:=by rw [hw3];simp
  have b23:Below w2.heap.size w2 w3:=by rw [hw3];exact(Below.refl _ w2).alloc (Nat.le_refl _) _
  have b34:Below w3.heap.size w3 w4:=by rw [hw4];exact(Below.refl _ w3).alloc (Nat.le_refl _) _
  have b24:Below w2.heap.size w2 w4:=b23.trans (b34.mono (by omega))
  have z4:w4.heap.size=w2.heap.size+2:=by rw [hw4];simp [z3]
  have kB:Blk w4 (w2.heap.size+1) 56 #[.slice (some ⟨w2.heap.size,0,none⟩) 3 3,.bool false]:=by
   rw [hw4,<-z3];exact Blk.new _ _ _
  have hb3:w3.heap[w2.heap.size]? =some (.cells #[.int .u8 76,.int .u8 84,.int .u8 49] 5 (3,4)):=by rw [hw3];show(w2.heap.push _)[w2.heap.size]? =_;simp
  have hb4:w4.heap[w2.heap.size]? =some (.cells #[.int .u8 76,.int .u8 84,.int .u8 49] 5 (3,4)):=(b34.block _ (by omega)).trans hb3
  have W4:WrD w2.heap.size w4 (w2.heap.size+1) []:=by
   refine⟨.slice (some ⟨w2.heap.size,0,none⟩) 3 3,kB,.inr ⟨w2.heap.size,rfl,by decide,rfl,by omega,fun j u hu=> ?_⟩,⟨by omega,by omega⟩,fun k e=> ?_,fun b hb=>hb.2⟩
   ·have:=World.news_of_block hb4 j u (by
     show [Value.int .u8 76,.int .u8 84,.int .u8 49][j]? =some u
     exact hu)
    rw [add_none,Nat.zero_add]at this
    exact this
   ·have e:some w2.heap.size=some k:=e
    injection e with e
    exact⟨⟨by omega,by omega⟩,by omega⟩
  clear hb3 hb4 kB
  have kc:=fun(w:World) (C:Array Value) (n c:Nat)=>Lib.run_convert_bytes_const (P:=Tryz.prog) w 29 5 C n c Tryz.underlying29 Tryz.underlying5
  obtain⟨w5,hw5⟩: ∃q,q=w4.alloc (.cells #[.int .i64 T,.int .i64 N,.int .i64 n1] 3):=⟨_,rfl⟩
  have b45:Below w4.heap.size w4 w5:=by rw [hw5];exact(Below.refl _ w4).alloc (Nat.le_refl _) _
  have rl:RdI w5 (fun b=>b=w2.heap.size+2) (.slice (some ⟨w2.heap.size+2,0,none⟩) 3 3) [T,N,(n1:Int)]:=by
   rw [hw5,<-z4];exact Rd.of_blk (F:=fun b=>b=w4.heap.size) (us:=[.int .i64 T,.int .i64 N,.int .i64 (n1:Int)]) (n:=3) (Blk.new _ _ _) rfl rfl (by decide)
  have c1:=writer_line (Wr.below W4 b45) rl (fun b e=>⟨by have:=b45.size;rw [e,hw5];simp [z4],fun q=>by have:=q.2;omega⟩) (by show 3+0+2 * 3<=100000000;omega)
  have b25:=b24.trans (b45.mono b24.size)
  obtain⟨a0,a1,a2,a3,a4,a5,a6⟩:=(g2.below b24).cells
  have e3:=hw3.symm
  have e4:=hw4.symm
  have e5:=hw5.symm
  have hD:w2.heap.size<=w4.heap.size:=by omega
  have hD5:w4.heap.size<=w5.heap.size:=b45.size
  clear hw3 hw4 hw5 b23 b34 b24 b45 rl W4
  obtain⟨Xg2,Xbb2,Xc1,XhD,XhD5,Xb25,Xz2⟩:=HqZ7 g2 bb2 c1 hD hD5 b25 z2;clear g2 bb2 c1 hD hD5 b25 z2
  go_wp2_with fail
  refine Xc1.out.mono ?_
  rintro e w6 P6
  obtain⟨W6,b56⟩:=WrD.step XhD.out XhD5.out P6
  obtain⟨rfl,-⟩:=P6
  have bw:=Xb25.out.trans b56
  clear Xc1 XhD XhD5 Xb25 b56 e5 e4 e3 z3 z4 kc a0 a1 a2 a3 a4 a5 a6
  obtain⟨a0,a1,a2,a3,a4,a5,a6⟩:=(Xg2.out.below bw).cells
  obtain⟨XW6,Xbw⟩:=HqZ2 W6 bw;clear W6 bw
  go_wp2_with fail
  go_loopw [26] (fun i wr=> ∃k:Nat,k<=n1/\i= .int .i64 k/\WrD w2.heap.size wr (w2.heap.size+1) ([T,N,(n1:Int)]++(p.rules.take k).flatMap ruleN)/\Below w2.heap.size w2 wr) (fun i _=>n1 - (intOf i).toNat)
  case atStart=>exact⟨0,Nat.zero_le _,rfl,XW6.out,Xbw.out⟩
  case round=>
   clear XW6 Xbw a0 a1 a2 a3 a4 a5 a6
   obtain⟨k,hk,rfl,hW,bb⟩:=hrel
   have hg:=Xg2.out.below bb
   by_cases hlt:k<n1
   ·have hlt1:(k:Int)<(n1:Int):=by omega
    obtain⟨bk,off,l,x,vx,hx,rfl,y0,y1,rx⟩:=rule_get hg.pk.rules (i:=k) (by rw [<-Xk1.out];exact hlt)
    obtain⟨A',m,c',rfl,-⟩:=id rx
    obtain⟨hm,hmc,hcm,-⟩:=RdI.at_ rx
    unfold maxLen at hcm
    have bbz:=bb.size
    obtain⟨ns,hns⟩: ∃q,q=[T,N,(n1:Int)]++(p.rules.take k).flatMap ruleN:=⟨_,rfl⟩
    have e1:[T,N,(n1:Int)]++(p.rules.take (k+1)).flatMap ruleN=ns++[l,(m:Int)]++x:=by
     rw [takeT_snoc hx,List.flatMap_append,hns,List.append_assoc,List.append_assoc,hm];simp [ruleN]
    have hl1:(ns++[l,(m:Int)]++x).length<=40000000:=by
     rw [<-e1,List.length_append]
     have:=take_flat ruleN p.rules (k+1)
     have:=Xhs.out
     show 3+_<=_
     omega
    rw [List.length_append,List.length_append]at hl1
    have hl1:ns.length+2+x.length<=40000000:=hl1
    rw [<-hns]at hW
    clear hns
    obtain⟨wa,hwa⟩: ∃q,q=wr.alloc (.cells #[.int .i64 l,.slice A' m c'] 53):=⟨_,rfl⟩
    obtain⟨wb,hwb⟩: ∃q,q=wa.alloc (.cells #[.int .i64 l,.int .i64 m] 3):=⟨_,rfl⟩
    have ba:Below wr.heap.size wr wa:=by rw [hwa];exact(Below.refl _ wr).alloc (Nat.le_refl _) _
    have bx:Below wa.heap.size wa wb:=by rw [hwb];exact(Below.refl _ wa).alloc (Nat.le_refl _) _
    have za:wa.heap.size=wr.heap.size+1:=by rw [hwa];simp
    have zb:wb.heap.size=wr.heap.size+2:=by rw [hwb];simp [za]
    have k0:Blk wa wr.heap.size 53 #[.int .i64 l,.slice A' m c']:=by rw [hwa];exact Blk.new _ _ _
    have kb:=k0.below bx k0.lt
    have f0:=(k0.cell 0).trans rfl
    have f1:=(k0.cell 1).trans rfl
    have bab:Below wr.heap.size wr wb:=ba.trans (bx.mono (by omega))
    have rl:RdI wb (fun b=>b=wr.heap.size+1) (.slice (some ⟨wr.heap.size+1,0,none⟩) 2 2) [l,(m:Int)]:=by
     rw [hwb,<-za];exact Rd.of_blk (F:=fun b=>b=wa.heap.size) (us:=[.int .i64 l,.int .i64 (m:Int)]) (n:=2) (Blk.new _ _ _) rfl rfl (by decide)
    have c1:=writer_line (Wr.below hW bab) rl (fun b e=>⟨by omega,fun q=>by have:=q.2;omega⟩) (by rw [hb_len];show 3+2 * ns.length+2 * 2<=_;omega)
    have ea:=hwa.symm
    have eb:=hwb.symm
    have hzz:wr.heap.size<=wb.heap.size:=by omega
    have bbw:=bb.trans (bab.mono bbz)
    have rx:=Rd.below rx (bab.mono bbz) fun b hb=>by have:=XhF.out b hb;have:=Xz2.out;omega
    clear hwa hwb ba bx bab rl hW hg zb k0
    obtain⟨Xbb,Xrx,Xhm,Xbbz,Xkb,Xc1,Xhzz,Xbbw,Xe1,Xhl1,Xhx⟩:=HqZ11 bb rx hm bbz kb c1 hzz bbw e1 hl1 hx;clear bb rx hm bbz kb c1 hzz bbw e1 hl1 hx
    go_wp2_with fail
    refine Xc1.out.mono ?_
    rintro e wc P
    obtain⟨hW,bc⟩:=WrD.step Xbbz.out Xhzz.out P
    obtain⟨rfl,-,tc⟩:=P
    clear f0 f1 za
    have kc2:=Xkb.out.touch tc (fun q=>by have:=q.2;omega)
    have f0:=(kc2.cell 0).trans rfl
    have f1:=(kc2.cell 1).trans rfl
    have bbc:=Xbbw.out.trans bc
    have hFD: ∀b,F b->b<w2.heap.size:=fun b hb=>by have:=XhF.out b hb;have:=Xz2.out;omega
    have c2:=line_step hW (Rd.below Xrx.out bc hFD) hFD bbc.size (by rw [List.length_append];exact Xhl1.out)
    rw [<-Xe1.out]at c2
    clear Xc1 tc kc2 Xkb bc hW Xbbw Xhzz ea eb y0 y1
    obtain⟨Xbbc,Xc2,XhFD⟩:=HqZ3 bbc c2 hFD;clear bbc c2 hFD
    go_wp2_with fail
    refine Xc2.out.mono ?_
    rintro e wd ⟨rfl,hWd,bd⟩
    have bbd:=Xbbc.out.trans bd
    clear Xc2 f0 f1 bd Xbbc
    obtain⟨XhWd,Xbbd⟩:=HqZ2 hWd bbd;clear hWd bbd
    go_wp2_with fail
    go_roundw
    case rel=>exact⟨k+1,by omega,by go_num,XhWd.out,Xbbd.out⟩
    case measure=>simp [intOf];omega
   ·have e0:p.rules.take k=p.rules:=List.take_of_length_le (by have:=Xk1.out;omega)
    rw [e0]at hW
    obtain⟨fl,hfl⟩: ∃q,q=p.rules.flatMap ruleN:=⟨_,rfl⟩
    rw [<-hfl]at hW
    have hs:=Xhs.out
    rw [<-hfl]at hs
    have hFD: ∀b,F b->b<w2.heap.size:=fun b hb=>by have:=XhF.out b hb;have:=Xz2.out;omega
    clear e0 hg Xhs
    obtain⟨Xhs,Xhfl,XhFD⟩:=HqZ3 hs hfl hFD;clear hs hfl hFD
    have c1:=num_step hW bb.size (by have:=Xhs.out;have:=Xk2.out;simp only [List.length_append,List.length_cons,List.length_nil];omega) (n2:Int)
    obtain⟨a0,a1,a2,a3,a4,a5,a6⟩:=(Xg2.out.below bb).cells
    have hD:=bb.size
    obtain⟨Xc1,Xbb,XhD⟩:=HqZ3 c1 bb hD;clear c1 bb hD;clear hW
    go_wp2_with fail
    refine Xc1.out.mono ?_
    rintro e wn ⟨rfl,hW,b2⟩
    have bb:=Xbb.out.trans b2
    clear b2 Xbb Xc1 XhD a0 a1 a2 a3 a4 a5 a6
    have c1:=line_step hW (Xg2.out.below bb).pk.row XhFD.out bb.size (by have:=Xhs.out;have:=Xk2.out;simp only [List.length_append,List.length_cons,List.length_nil];omega)
    obtain⟨a0,a1,a2,a3,a4,a5,a6⟩:=(Xg2.out.below bb).cells
    have hD:=bb.size
    obtain⟨Xc1,Xbb,XhD⟩:=HqZ3 c1 bb hD;clear c1 bb hD;clear hW
    go_wp2_with fail
    refine Xc1.out.mono ?_
    rintro e wn ⟨rfl,hW,b2⟩
    have bb:=Xbb.out.trans b2
    clear b2 Xbb Xc1 XhD a0 a1 a2 a3 a4 a5 a6
    have c1:=rows_step hW (Xg2.out.below bb).pk.rows Xg2.out.pk.u1 XhFD.out bb.size (by have:=Xhs.out;have:=Xk2.out;simp only [List.length_append,List.length_cons,List.length_nil];omega)
    obtain⟨a0,a1,a2,a3,a4,a5,a6⟩:=(Xg2.out.below bb).cells
    have hD:=bb.size
    obtain⟨Xc1,Xbb,XhD⟩:=HqZ3 c1 bb hD;clear c1 bb hD;clear hW
    go_wp2_with fail
    refine Xc1.out.mono ?_
    rintro e wn ⟨rfl,hW,b2⟩
    have bb:=Xbb.out.trans b2
    clear b2 Xbb Xc1 XhD a0 a1 a2 a3 a4 a5 a6
    have c1:=line_step hW (Xg2.out.below bb).pk.gow XhFD.out bb.size (by have:=Xhs.out;have:=Xk2.out;simp only [List.length_append,List.length_cons,List.length_nil];omega)
    obtain⟨a0,a1,a2,a3,a4,a5,a6⟩:=(Xg2.out.below bb).cells
    have hD:=bb.size
    obtain⟨Xc1,Xbb,XhD⟩:=HqZ3 c1 bb hD;clear c1 bb hD;clear hW
    go_wp2_with fail
    refine Xc1.out.mono ?_
    rintro e wn ⟨rfl,hW,b2⟩
    have bb:=Xbb.out.trans b2
    clear b2 Xbb Xc1 XhD a0 a1 a2 a3 a4 a5 a6
    have c1:=rows_step hW (Xg2.out.below bb).pk.gows Xg2.out.pk.u2 XhFD.out bb.size (by have:=Xhs.out;have:=Xk2.out;simp only [List.length_append,List.length_cons,List.length_nil];omega)
    obtain⟨a0,a1,a2,a3,a4,a5,a6⟩:=(Xg2.out.below bb).cells
    have hD:=bb.size
    obtain⟨Xc1,Xbb,XhD⟩:=HqZ3 c1 bb hD;clear c1 bb hD;clear hW
    go_wp2_with fail
    refine Xc1.out.mono ?_
    rintro e wn ⟨rfl,hW,b2⟩
    have bb:=Xbb.out.trans b2
    clear b2 Xbb Xc1 XhD a0 a1 a2 a3 a4 a5 a6
    obtain⟨NS,hNS⟩: ∃q,q=[T,N,(n1:Int)]++fl++[(n2:Int)]++p.row++rowsN p.rows++p.gow++rowsN p.gows:=⟨_,rfl⟩
    rw [<-hNS]at hW
    have hn:numsP p=NS:=by
     rw [hNS,Xhfl.out,XgT.out,XgN.out,Xk1.out,Xk2.out];unfold numsP;simp
    clear hNS
    obtain⟨v,hM⟩:=hW
    obtain⟨A,c,rfl,hc1,hc2⟩:=hM.shape
    have hsv:=hM.sv
    have hrd:=hM.own.rd
    have hlt:=hM.lt
    have f0:=(hM.box.cell 0).trans rfl
    have f1:=(hM.box.cell 1).trans rfl
    have bbw:=Xbb2.out.trans (bb.mono Xbb2.out.size)
    have hbl:=hb_len NS
    clear hM
    cases hbad:badL NS with
    |true=>
     rw [hbad]at f1
     have ho:(rightP p&&okN (numsP p))=false:=by
      rw [<-Xhr.out,hn,Bool.true_and]
      rw [badL_ok]at hbad
      simpa using hbad
     clear hsv hrd hlt hc1 hc2 hbl hn bb hbad
     obtain⟨Xbbw,Xho⟩:=HqZ2 bbw ho;clear bbw ho
     go_wp2_with fail
     go_ret
     exact BytesP.none rfl Xbbw.out Xho.out
    |false=>
     rw [hbad]at f1
     have ho:bytesP p=headB++encB NS:=by
      unfold bytesP
      rw [<-Xhr.out,hn,Bool.true_and]
      rw [badL_ok]at hbad
      rw [if_pos (by simpa using hbad)]
     have hrd:=Rd.mono hrd fun b hb=>(⟨by have:=(hsv b hb).1.1;have:=Xz2.out;omega,(hsv b hb).1.2⟩:w.heap.size<=b/\b<wn.heap.size)
     clear hsv hlt hc1 hc2 hbl hn bb hbad
     obtain⟨L,hL⟩: ∃q,q=headB++encB NS:=⟨_,rfl⟩
     rw [<-hL]at f0 hrd ho
     clear hL
     obtain⟨Xbbw,Xho,Xhrd⟩:=HqZ3 bbw ho hrd;clear bbw ho hrd
     go_wp2_with fail
     go_ret
     unfold BytesP
     rw [Xho.out]
     exact⟨Xbbw.out,_,_,rfl,Xhrd.out⟩
def u8x (x:Int):UInt8:=UInt8.ofNat x.toNat
def u8s (l:List Int):ByteArray:=⟨(l.map u8x).toArray⟩
theorem u8x_inj {x y:Int} (hx:0<=x/\x<256) (hy:0<=y/\y<256) (h:u8x x=u8x y):x=y:=by
 unfold u8x at h
 have h:=congrArg UInt8.toNat h
 rw [UInt8.toNat_ofNat',UInt8.toNat_ofNat',Nat.mod_eq_of_lt (by omega),Nat.mod_eq_of_lt (by omega)]at h
 omega
theorem u8map_inj: ∀{a b:List Int},Bytes a->Bytes b->a.map u8x=b.map u8x->a=b
 |[],[],_,_,_=>rfl
 |[],_::_,_,_,h=>by cases h
 |_::_,[],_,_,h=>by cases h
 |x::a,y::b,ha,hb,h=>by
  injection h with h1 h2
  rw [u8x_inj (ha x (by simp)) (hb y (by simp)) h1,u8map_inj (fun z hz=>ha z (by simp [hz])) (fun z hz=>hb z (by simp [hz])) h2]
theorem bytes_headB:Bytes headB:=by intro x hx;simp [headB]at hx;omega
theorem bytes_take {a:List Int} (h:Bytes a) (n:Nat):Bytes (a.take n):=fun x hx=>h x (List.mem_of_mem_take hx)
theorem prefix_head {b:List Int} (hb:Bytes b) (hl:b.length<3):Lib.hasPrefix (u8s headB).data.toList (u8s b).data.toList=decide (b.take 3=headB.take b.length):=by
 rw [<-Lib.hasPrefix_of_take,List.take_of_length_le (show b.length<=3 by omega)]
 show(decide ((b.map u8x).length<=3)&&((headB.map u8x).take (b.map u8x).length==b.map u8x))=_
 rw [List.length_map,<-List.map_take,decide_eq_true (by omega:b.length<=3),Bool.true_and]
 by_cases e:b=headB.take b.length
 ·rw [decide_eq_true e,<-e];simp
 ·rw [decide_eq_false e]
  apply beq_eq_false_iff_ne.2
  exact fun h=>e (u8map_inj hb (bytes_take bytes_headB _) h.symm)
theorem byte_i8 {x:Int} (hx:0<=x/\x<256):((u8x x).toNat:Int)=x:=by
 unfold u8x
 rw [UInt8.toNat_ofNat',Nat.mod_eq_of_lt (by omega)]
 omega
theorem bytes_back {P:Program} {w:World} {F:Nat->Prop} {A:Option Addr} {n c:Nat} {l:List Int} (h:RdY w F (.slice A n c) l) (hb:Bytes l) (src dst e:TypeId) (hs:P.underlying src=some (.slice e)) (he:P.underlying e=some (.int .u8)) (hd:P.underlying dst=some .string):
  (convert src dst (.slice A n c)).run P w= .ok (.string (u8s l)) w:=by
 obtain⟨hn,hnc,hcm,hcell⟩:=RdY.at_ h
 cases l with
 |nil=>
  have hn:n=0:=hn
  subst hn
  rw [run_convert_bytes_string w src dst e A 0 c hs he hd]
  cases A with
  |none=>rfl
  |some a=>exact run_bytesToString w a 0 c [] rfl
 |cons x l=>
  obtain⟨b,off,rfl,-,hc⟩:=hcell (by rw [hn];simp)
  have:=run_convert_bytes_back (P:=P) w src dst e ⟨b,off,none⟩ c ((x::l).map u8x) hs he hd fun j hj=>by
   rw [add_none]
   rw [List.length_map]at hj
   rw [hc j _ (List.getElem?_eq_getElem hj),List.getElem_map,byte_i8 (hb _ (List.getElem_mem hj))]
  rw [List.length_map,<-hn]at this
  exact this
set_option maxHeartbeats 1000000 in
theorem lite_HasPrefix (s p:ByteArray) (w:World):
  Calls Tryz.prog 50 #[.string s,.string p] w fun e w'=>e= .returned (.bool (Lib.hasPrefix s.data.toList p.data.toList))/\w'=w:=by
 rw [<-Lib.hasPrefix_of_take,<-Lib.size_eq,<-Lib.size_eq]
 go_enter Tryz.func50,Tryz.ntmps50
 go_wp2
 ·rename_i h
  go_ret
  refine⟨?_,rfl⟩
  show Ending.returned (Value.bool ((s.extract 0 p.size).toList==p.toList))=_
  rw [Lib.extract_toList,Lib.toList_data]
  simp [h]
 ·rename_i h
  go_ret
  refine⟨?_,rfl⟩
  show Ending.returned (Value.bool false)=_
  simp [h]
theorem str_HasPrefix (s p:ByteArray) (w:World):
  Calls Tryz.prog 26 #[.string s,.string p] w fun e w'=>e= .returned (.bool (Lib.hasPrefix s.data.toList p.data.toList))/\w'=w:=by
 have c:=lite_HasPrefix s p w
 have Xc:=hide c;clear c
 go_enter Tryz.func26,Tryz.ntmps26
 go_wp2_with fail
 refine Xc.out.mono ?_
 rintro e w' ⟨rfl,rfl⟩
 go_wp2_with fail
 go_ret
 exact⟨rfl,rfl⟩
theorem touch7p (w:World) (B:Nat) (a b c d e f g:Value):Touch (fun k=>k=B) w (((((((w.setCell ⟨B,0,none⟩ a).setCell ⟨B,1,none⟩ b).setCell ⟨B,2,none⟩ c).setCell ⟨B,3,none⟩ d).setCell ⟨B,4,none⟩ e).setCell ⟨B,5,none⟩ f).setCell ⟨B,6,none⟩ g):=
 ((((((touch_setT w B 0 a).trans' (touch_setT _ B 1 b)).trans' (touch_setT _ B 2 c)).trans' (touch_setT _ B 3 d)).trans' (touch_setT _ B 4 e)).trans' (touch_setT _ B 5 f)).trans' (touch_setT _ B 6 g)
def zeroP:Array Value:= #[.slice none 0 0,.int .i64 0,.int .i64 0,.slice none 0 0,.slice none 0 0,.slice none 0 0,.slice none 0 0]
def OfBP (w:World) (b:List Int) (e:Ending) (w':World):Prop:=Below w.heap.size w w'/\ ∃v1 v2 v3 v4 v5,e= .returned (.tuple #[PV v1 (ofD b).1.terms (ofD b).1.nons v2 v3 v4 v5,.int .i64 (ofD b).2])/\IsPack w' (fun k=>w.heap.size<=k/\k<w'.heap.size) v1 v2 v3 v4 v5 (ofD b).1
theorem OfBP.none {w w':World} {b:List Int} {x:Int} (hb:Below w.heap.size w w') (h:ofD b=(noPack,x)):OfBP w b (.returned (.tuple #[PV (.slice Option.none 0 0) 0 0 (.slice Option.none 0 0) (.slice Option.none 0 0) (.slice Option.none 0 0) (.slice Option.none 0 0),.int .i64 x])) w':=by
 unfold OfBP
 rw [h]
 exact⟨hb,_,_,_,_,_,rfl,IsPack.none w' _ fun k hk=>hk.2⟩
theorem RdY.head {w:World} {F:Nat->Prop} {bb off n c:Nat} {xs:List Int} (h:RdY w F (.slice (some ⟨bb,off,none⟩) n c) xs) {k:Nat} (hk:k<=n):RdY w F (.slice (some ⟨bb,off,none⟩) k c) (xs.take k):=by
 obtain⟨hn,hnc,hcm,hcell⟩:=RdY.at_ h
 refine⟨_,_,_,rfl,by omega,by omega,by simp;omega,fun hn0=> ?_⟩
 obtain⟨b,o,e,hF,hc⟩:=hcell (by omega)
 refine⟨b,o,e,hF,fun j u hu=> ?_⟩
 rw [List.getElem?_map]at hu
 obtain⟨x,hx,rfl⟩:=Option.map_eq_some_iff.1 hu
 rw [List.getElem?_take]at hx
 split at hx
 ·exact hc _ x hx
 ·cases hx
theorem lineD_all {X:Type} {f:Rds->X×Rds} {Q:X->Prop} (hf: ∀s,Bytes s.1->Q (f s).1/\Bytes (f s).2.1): ∀(N:Nat) (s:Rds),Bytes s.1->(∀x∈(lineD f N s).1,Q x)/\Bytes (lineD f N s).2.1
 |0,s,h=>⟨fun x hx=>absurd hx (by simp [lineD]),h⟩
 |N+1,s,h=>by
  unfold lineD
  by_cases hs:s.2=true
  ·rw [if_pos hs];exact⟨fun x hx=>absurd hx (by simp),h⟩
  ·rw [if_neg hs]
   have h1:=hf s h
   have h2:=lineD_all hf N (f s).2 h1.2
   refine⟨fun x hx=> ?_,h2.2⟩
   rcases List.mem_cons.1 hx with e|e
   ·rw [e];exact h1.1
   ·exact h2.1 x e
theorem lineD_len {X:Type} {f:Rds->X×Rds}: ∀(N:Nat) (s:Rds),(lineD f N s).1.length<=N
 |0,s=>Nat.le_refl _
 |N+1,s=>by
  unfold lineD
  by_cases hs:s.2=true
  ·rw [if_pos hs];exact Nat.zero_le _
  ·rw [if_neg hs]
   have:=lineD_len (f:=f) N (f s).2
   exact Nat.succ_le_succ this
def N16 (x:Int):Prop:=0<=x/\x<=65535
theorem numD_all (s:Rds) (h:Bytes s.1):N16 (numD s).1/\Bytes (numD s).2.1:=by
 refine⟨num_range h,?_⟩
 obtain⟨l,t⟩:=s
 rcases l with _|⟨x,_|⟨y,r⟩⟩
 ·exact h
 ·exact h
 ·exact fun z hz=>h z (by simp [show z∈r from hz])
theorem ruleD_all (s:Rds) (h:Bytes s.1):N16 (ruleD s).1.1/\Bytes (ruleD s).2.1:=by
 have h1:=numD_all s h
 have h2:=numD_all _ h1.2
 exact⟨h1.1,(lineD_all numD_all _ _ h2.2).2⟩
theorem rowD_all (W:Nat) (s:Rds) (h:Bytes s.1):((∀x∈(lineD numD W s).1,N16 x)/\(lineD numD W s).1.length<=W)/\Bytes (lineD numD W s).2.1:=
 ⟨⟨(lineD_all numD_all W s h).1,lineD_len W s⟩,(lineD_all numD_all W s h).2⟩
theorem rowsD_all (W:Nat) (s:Rds) (h:Bytes s.1): ∀r∈(rowsD W s).1,(∀x∈r,N16 x)/\r.length<=W:=
 (lineD_all (rowD_all W) _ _ (numD_all s h).2).1
theorem n16_w64 {x:Int} (h:N16 x):W64 x:=by unfold N16 at h;unfold W64;omega
theorem n16_u16 {l:List Int} (h: ∀x∈l,N16 x):U16 l:=fun x hx=>by have:=h x hx;unfold N16 at this;omega
structure OfS (w wr:World) (F:Nat->Prop) (s:Rds) (cs:Array Value):Prop where
 rdr:Rdr 66 wr (w.heap.size+1) F s
 kC:Blk wr (w.heap.size+2) 26 cs
 kR:Blk wr w.heap.size 26 zeroP
 bel:Below w.heap.size w wr
 sz:w.heap.size+3<=wr.heap.size
section
variable {w wr w' : World} {F : Nat -> Prop} {s s' : Rds} {cs : Array Value}
theorem OfS.read (h:OfS w wr F s cs) (r:Rdr 66 w' (w.heap.size+1) F s') (t:Touch (fun b=>b=w.heap.size+1) wr w'):OfS w w' F s' cs:=
 ⟨r,h.kC.touch t (by omega),h.kR.touch t (by omega),t.toBelow (fun k e=>by omega) h.bel h.bel.size,Nat.le_trans h.sz t.size⟩
theorem OfS.put (h:OfS w wr F s cs) (hF: ∀k,F k->k<w.heap.size) (i:Nat) (v:Value):OfS w (wr.setCell ⟨w.heap.size+2,i,none⟩ v) F s (cs.setIfInBounds i v)/\Touch (fun b=>b=w.heap.size+2) wr (wr.setCell ⟨w.heap.size+2,i,none⟩ v):=by
 have t:=touch_setT wr (w.heap.size+2) i v
 refine⟨⟨h.rdr.touch t fun b hb=> ?_,h.kC.put i v,h.kR.touch t (by omega),t.toBelow (fun k e=>by omega) h.bel h.bel.size,Nat.le_trans h.sz t.size⟩,t⟩
 rcases hb with hb|hb
 ·have:=hF b hb;omega
 ·omega
end
abbrev Dat (w wr:World) (v1 v2 v3 v4 v5:Value) (p:PackD):Prop:=IsPack wr (fun b=>w.heap.size+3<=b/\b<wr.heap.size) v1 v2 v3 v4 v5 p
theorem Dat.touch {w wr w':World} {v1 v2 v3 v4 v5:Value} {p:PackD} {S:Nat->Prop} (h:Dat w wr v1 v2 v3 v4 v5 p) (t:Touch S wr w') (hS: ∀b,S b->b<w.heap.size+3):Dat w w' v1 v2 v3 v4 v5 p:=
 (IsPack.touch h t fun b hb q=>by have:=hS b q;have:=hb.1;omega).mono (fun b hb=>⟨hb.1,Nat.lt_of_lt_of_le hb.2 t.size⟩) fun b hb=>hb.2
theorem dat_rules {w wr:World} {v:Value} {rs:List (Int×List Int)} {z:Nat} (hz:w.heap.size+3<=z) (h:RdRules wr (fun b=>z<=b/\b<wr.heap.size) v rs):RdL wr (fun b=>w.heap.size+3<=b/\b<wr.heap.size) 2 (ERule wr (fun b=>w.heap.size+3<=b/\b<wr.heap.size)) v rs:=
 RdL.mono h (fun b hb=>⟨by omega,hb.2⟩) fun cs x e=>by
  obtain⟨v,e1,e2⟩:=e
  exact⟨v,e1,Rd.mono e2 fun b hb=>⟨by have:=hb.1;omega,hb.2⟩⟩
theorem dat_row {w wr:World} {v:Value} {l:List Int} {z:Nat} (hz:w.heap.size+3<=z) (h:RdC (Value.int .i64) wr (fun b=>z<=b/\b<wr.heap.size) v l):RdI wr (fun b=>w.heap.size+3<=b/\b<wr.heap.size) v l:=
 Rd.mono h fun b hb=>⟨by have:=hb.1;omega,hb.2⟩
theorem dat_rows {w wr:World} {v:Value} {l:List (List Int)} {z:Nat} (hz:w.heap.size+3<=z) (h:RdUs wr (fun b=>z<=b/\b<wr.heap.size) v l):RdUs wr (fun b=>w.heap.size+3<=b/\b<wr.heap.size) v l:=
 h.mono fun b hb=>⟨by have:=hb.1;omega,hb.2⟩
set_option maxRecDepth 100000 in
set_option maxHeartbeats 8000000 in
theorem tabs_Of {w:World} {F:Nat->Prop} {bv:Value} {b:List Int} (h:RdY w F bv b) (hb:Bytes b) (hF: ∀k,F k->k<w.heap.size):
  Calls Tryz.prog 10 #[bv] w (OfBP w b):=by
 obtain⟨A,n,c,rfl,-⟩:=id h
 obtain⟨hn,hnc,hcm,hcell⟩:=RdY.at_ h
 unfold maxLen at hcm
 obtain⟨w1,hw1⟩: ∃q,q=w.alloc (.cells zeroP 26):=⟨_,rfl⟩
 have b1:Below w.heap.size w w1:=by rw [hw1];exact(Below.refl _ w).alloc (Nat.le_refl _) _
 have k1:Blk w1 w.heap.size 26 zeroP:=by rw [hw1];exact Blk.new _ _ _
 unfold zeroP at k1
 have h1:=Rd.below h b1 hF
 have f0:=k1.frozen 0
 have f1:=k1.frozen 1
 have f2:=k1.frozen 2
 have f3:=k1.frozen 3
 have f4:=k1.frozen 4
 have f5:=k1.frozen 5
 have f6:=k1.frozen 6
 have a0:=(k1.cell 0).trans rfl
 have a1:=(k1.cell 1).trans rfl
 have a2:=(k1.cell 2).trans rfl
 have a3:=(k1.cell 3).trans rfl
 have a4:=(k1.cell 4).trans rfl
 have a5:=(k1.cell 5).trans rfl
 have a6:=(k1.cell 6).trans rfl
 have z1:w1.heap.size=w.heap.size+1:=by rw [hw1];simp
 have ew1:=hw1.symm
 unfold zeroP at ew1
 clear hw1
 by_cases hl:n<3
 ·have hl':(n:Int)<3:=by omega
  have cv:=bytes_back (P:=Tryz.prog) h1 hb 29 9 5 Tryz.underlying29 Tryz.underlying5 Tryz.underlying9
  have cH:=str_HasPrefix (u8s headB) (u8s b) w1
  rw [prefix_head hb (by omega)]at cH
  have eH:u8s headB=⟨#[76,84,49]⟩:=rfl
  rw [eH]at cH
  clear eH
  by_cases hp:b.take 3=headB.take b.length
  ·have ho:ofD b=(noPack,4):=by unfold ofD;rw [if_pos hp,if_pos (by omega)]
   rw [decide_eq_true hp]at cH
   clear h h1 hcell hb hp hn
   obtain⟨XcH,Xho,Xb1,Xk1⟩:=HqZ4 cH ho b1 k1;clear cH ho b1 k1
   go_enter Tryz.func10,Tryz.ntmps10
   go_wp2_with fail
   refine XcH.out.mono ?_
   rintro e w' ⟨rfl,rfl⟩
   go_wp2_with fail
   have k2:=((((((Xk1.out.put 0 (.slice none 0 0)).put 1 (.int .i64 0)).put 2 (.int .i64 0)).put 3 (.slice none 0 0)).put 4 (.slice none 0 0)).put 5 (.slice none 0 0)).put 6 (.slice none 0 0)
   have e0:=(k2.cell 0).trans rfl
   have e1:=(k2.cell 1).trans rfl
   have e2:=(k2.cell 2).trans rfl
   have e3:=(k2.cell 3).trans rfl
   have e4:=(k2.cell 4).trans rfl
   have e5:=(k2.cell 5).trans rfl
   have e6:=(k2.cell 6).trans rfl
   have bx:=(touch7p w' w.heap.size (.slice none 0 0) (.int .i64 0) (.int .i64 0) (.slice none 0 0) (.slice none 0 0) (.slice none 0 0) (.slice none 0 0)).toBelow (fun k e=>by omega) Xb1.out Xb1.out.size
   refine bodyPost_ret (v:= .tuple #[PV (.slice none 0 0) 0 0 (.slice none 0 0) (.slice none 0 0) (.slice none 0 0) (.slice none 0 0),.int .i64 4]) (by simp [results,Tryz.results10,go_sem,e0,e1,e2,e3,e4,e5,e6,PV]) rfl ?_
   exact OfBP.none (by first|exact bx|exact bx.drew) Xho.out
  ·have ho:ofD b=(noPack,10):=by unfold ofD;rw [if_neg hp]
   rw [decide_eq_false hp]at cH
   clear h h1 hcell hb hp hn
   obtain⟨XcH,Xho,Xb1,Xk1⟩:=HqZ4 cH ho b1 k1;clear cH ho b1 k1
   go_enter Tryz.func10,Tryz.ntmps10
   go_wp2_with fail
   refine XcH.out.mono ?_
   rintro e w' ⟨rfl,rfl⟩
   go_wp2_with fail
   have k2:=((((((Xk1.out.put 0 (.slice none 0 0)).put 1 (.int .i64 0)).put 2 (.int .i64 0)).put 3 (.slice none 0 0)).put 4 (.slice none 0 0)).put 5 (.slice none 0 0)).put 6 (.slice none 0 0)
   have e0:=(k2.cell 0).trans rfl
   have e1:=(k2.cell 1).trans rfl
   have e2:=(k2.cell 2).trans rfl
   have e3:=(k2.cell 3).trans rfl
   have e4:=(k2.cell 4).trans rfl
   have e5:=(k2.cell 5).trans rfl
   have e6:=(k2.cell 6).trans rfl
   have bx:=(touch7p w' w.heap.size (.slice none 0 0) (.int .i64 0) (.int .i64 0) (.slice none 0 0) (.slice none 0 0) (.slice none 0 0) (.slice none 0 0)).toBelow (fun k e=>by omega) Xb1.out Xb1.out.size
   refine bodyPost_ret (v:= .tuple #[PV (.slice none 0 0) 0 0 (.slice none 0 0) (.slice none 0 0) (.slice none 0 0) (.slice none 0 0),.int .i64 10]) (by simp [results,Tryz.results10,go_sem,e0,e1,e2,e3,e4,e5,e6,PV]) rfl ?_
   exact OfBP.none (by first|exact bx|exact bx.drew) Xho.out
 ·have hl': ¬(n:Int)<3:=by omega
  have hl3:(3:Int)<=(n:Int):=by omega
  have hl4:3<=n:=by omega
  have hl5:(3:Int)<=(c:Int):=by omega
  have hl6:3<=c:=by omega
  have t3:(3:Int).toNat=3:=rfl
  obtain⟨bb,off,rfl,hbb,-⟩:=hcell (by omega)
  have hh:=RdY.head h1 (k:=3) hl4
  have cv:=bytes_back (P:=Tryz.prog) hh (bytes_take hb 3) 29 9 5 Tryz.underlying29 Tryz.underlying5 Tryz.underlying9
  have eH:u8s headB=⟨#[76,84,49]⟩:=rfl
  have hpt:headB.take b.length=headB:=List.take_of_length_le (by show 3<=_;omega)
  clear hcell
  have hel: ∀l,(u8s l).toList=l.map u8x:=fun l=>by rw [Lib.toList_data];rfl
  obtain⟨A3,hA3⟩: ∃A3,(if c=3 then some (⟨bb,off,none⟩:Addr)else some ⟨bb,off+3,none⟩)=A3:=⟨_,rfl⟩
  have tl:=RdY.tail h1 (k:=3) hl4
  rw [hA3]at tl
  by_cases hp:b.take 3=headB
  ·have es:((u8s (b.take 3)).toList==[76,84,49])=true:=by rw [hel,hp];rfl
   have hbd:ofD b=(if(bodyD (b.drop 3,false)).2.2=true then(noPack,4)else if(decide ((bodyD (b.drop 3,false)).2.1=[])&&rightP (bodyD (b.drop 3,false)).1)=true then((bodyD (b.drop 3,false)).1,0)else(noPack,10)):=by
    unfold ofD
    rw [if_pos (by rw [hpt];exact hp),if_neg (by omega)]
   obtain⟨s0,hs0⟩: ∃q,q=(b.drop 3,false):=⟨_,rfl⟩
   rw [<-hs0]at hbd
   obtain⟨w3,hw3⟩: ∃q,q=w1.alloc (.cells #[.slice A3 (n - 3) (c - 3),.bool false] 66):=⟨_,rfl⟩
   obtain⟨w4,hw4⟩: ∃q,q=w3.alloc (.cells #[.slice none 0 0,.int .i64 0,.int .i64 0,.slice none 0 0,.slice none 0 0,.slice none 0 0,.slice none 0 0] 26):=⟨_,rfl⟩
   have z3:w3.heap.size=w.heap.size+2:=by rw [hw3];simp [z1]
   have z4:w4.heap.size=w.heap.size+3:=by rw [hw4];simp [z3]
   have b3:Below w1.heap.size w1 w3:=by rw [hw3];exact(Below.refl _ w1).alloc (Nat.le_refl _) _
   have b4:Below w3.heap.size w3 w4:=by rw [hw4];exact(Below.refl _ w3).alloc (Nat.le_refl _) _
   have S4:OfS w w4 F s0 #[.slice none 0 0,.int .i64 0,.int .i64 0,.slice none 0 0,.slice none 0 0,.slice none 0 0,.slice none 0 0]:=by
    have kr:Blk w3 (w.heap.size+1) 66 #[.slice A3 (n - 3) (c - 3),.bool false]:=by rw [hw3,<-z1];exact Blk.new _ _ _
    refine⟨⟨.slice A3 (n - 3) (c - 3),?_,?_,fun k hk=>⟨by have:=hF k hk;omega,by have:=hF k hk;omega⟩,?_⟩,?_,(k1.below b3 k1.lt).below b4 (by have:=(k1.below b3 k1.lt).lt;exact this),?_,by omega⟩
    ·rw [hs0];exact kr.below b4 kr.lt
    ·rw [hs0]
     have hF1: ∀k,F k->k<w1.heap.size:=fun k hk=>by have:=hF k hk;omega
     exact(Rd.below tl b3 hF1).below b4 fun k hk=>by have:=hF1 k hk;omega
    ·rw [hs0];exact fun x hx=>hb x (List.mem_of_mem_drop hx)
    ·rw [hw4,<-z3];exact Blk.new _ _ _
    ·exact(b1.trans (b3.mono b1.size)).trans (b4.mono (by omega))
   have e3:=hw3.symm
   have e4:=hw4.symm
   clear h h1 hb hp hn hh eH hpt hel tl hw3 hw4 b3 b4 hs0
   obtain⟨XS4,Xhbd,Xb1,Xk1⟩:=HqZ4 S4 hbd b1 k1;clear S4 hbd b1 k1
   go_enter Tryz.func10,Tryz.ntmps10
   go_wp2_with fail
   have c1:=reader_num XS4.out.rdr
   have rg:=num_range XS4.out.rdr.bytes
   unfold NumP at c1
   obtain⟨⟨x,s1⟩,e1⟩: ∃q,q=numD s0:=⟨_,rfl⟩
   rw [<-e1]at c1 rg
   simp only at c1 rg
   obtain⟨T,rfl⟩:=Int.eq_ofNat_of_zero_le rg.1
   have hT:T<=65535:=by omega
   refine c1.mono ?_
   rintro e w5 ⟨rfl,r5,t5⟩
   have S5:=XS4.out.read r5 t5
   clear c1 rg r5
   clear t5 XS4
   obtain⟨XS5,Xe1⟩:=HqZ2 S5 e1;clear S5 e1
   go_wp2_with fail
   have c1:=reader_num XS5.out.rdr
   have rg:=num_range XS5.out.rdr.bytes
   unfold NumP at c1
   obtain⟨⟨x,s2⟩,e2⟩: ∃q,q=numD s1:=⟨_,rfl⟩
   rw [<-e2]at c1 rg
   simp only at c1 rg
   obtain⟨N,rfl⟩:=Int.eq_ofNat_of_zero_le rg.1
   have hN:N<=65535:=by omega
   refine c1.mono ?_
   rintro e w6 ⟨rfl,r5,t5⟩
   have S6:=XS5.out.read r5 t5
   clear c1 rg r5
   clear t5 XS5
   obtain⟨w7,hw⟩: ∃q,q=w6.setCell ⟨w.heap.size+2,1,none⟩ (.int .i64 (T:Int)):=⟨_,rfl⟩
   have p1:=(S6.kC.cell 1).trans rfl
   have q1:=S6.kC.frozen 1
   have P:OfS w w7 F s2 #[.slice none 0 0,.int .i64 (T:Int),.int .i64 0,.slice none 0 0,.slice none 0 0,.slice none 0 0,.slice none 0 0]/\Touch (fun b=>b=w.heap.size+2) w6 w7:=by rw [hw];exact S6.put hF 1 _
   have ew1:=hw.symm
   obtain⟨S7,t7⟩:=P
   clear hw
   obtain⟨w8,hw⟩: ∃q,q=w7.setCell ⟨w.heap.size+2,2,none⟩ (.int .i64 (N:Int)):=⟨_,rfl⟩
   have p2:=(S7.kC.cell 2).trans rfl
   have q2:=S7.kC.frozen 2
   have P:OfS w w8 F s2 #[.slice none 0 0,.int .i64 (T:Int),.int .i64 (N:Int),.slice none 0 0,.slice none 0 0,.slice none 0 0,.slice none 0 0]/\Touch (fun b=>b=w.heap.size+2) w7 w8:=by rw [hw];exact S7.put hF 2 _
   have ew2:=hw.symm
   obtain⟨S8,t8⟩:=P
   clear hw
   have D8:Dat w w8 (.slice none 0 0) (.slice none 0 0) (.slice none 0 0) (.slice none 0 0) (.slice none 0 0) noPack:=IsPack.none w8 _ fun k hk=>hk.2
   clear t7 t8 S6 S7
   obtain⟨XS8,Xe2,XD8⟩:=HqZ3 S8 e2 D8;clear S8 e2 D8
   go_wp2_with fail
   clear p1 p2 q1 q2 ew1 ew2
   have c1:=reader_num XS8.out.rdr
   have rg:=num_range XS8.out.rdr.bytes
   unfold NumP at c1
   obtain⟨⟨x,s3⟩,e3⟩: ∃q,q=numD s2:=⟨_,rfl⟩
   rw [<-e3]at c1 rg
   simp only at c1 rg
   obtain⟨K,rfl⟩:=Int.eq_ofNat_of_zero_le rg.1
   have hK:K<=65535:=by omega
   refine c1.mono ?_
   rintro e w9 ⟨rfl,r5,t5⟩
   have S9:=XS8.out.read r5 t5
   clear c1 rg r5
   have D9:=XD8.out.touch t5 fun b hb=>by omega
   clear t5 XS8 XD8
   have c1:=line_rule S9.rdr K (by omega)
   obtain⟨⟨rs,s4⟩,e4⟩: ∃q,q=lineD ruleD K s3:=⟨_,rfl⟩
   have q1:=(lineD_all (Q:=fun r:Int×List Int=>N16 r.1) ruleD_all K s3 S9.rdr.bytes).1
   rw [<-e4]at c1 q1
   obtain⟨XS9,Xe3,XD9,Xc1,Xe4,Xq1⟩:=HqZ6 S9 e3 D9 c1 e4 q1;clear S9 e3 D9 c1 e4 q1
   go_wp2_with fail
   refine Xc1.out.mono ?_
   rintro e w10 ⟨A1,y1,rfl,d,r,t⟩
   have S10:=XS9.out.read r t
   have dd:=XD9.out.touch t fun b hb=>by omega
   have D10:Dat w w10 (.slice A1 rs.length y1) (.slice none 0 0) (.slice none 0 0) (.slice none 0 0) (.slice none 0 0) ⟨rs,0,0,[],[],[],[]⟩:=⟨dat_rules XS9.out.sz d,dd.row,dd.rows,dd.gow,dd.gows,dd.lt,dd.tn,fun r hr=>n16_w64 (Xq1.out r hr),dd.wrow,dd.wgow,dd.u1,dd.u2⟩
   clear Xc1 d r t dd
   obtain⟨w11,hw⟩: ∃q,q=w10.setCell ⟨w.heap.size+2,0,none⟩ (.slice A1 rs.length y1):=⟨_,rfl⟩
   have p0:=(S10.kC.cell 0).trans rfl
   have q0:=S10.kC.frozen 0
   have P:OfS w w11 F s4 #[.slice A1 rs.length y1,.int .i64 (T:Int),.int .i64 (N:Int),.slice none 0 0,.slice none 0 0,.slice none 0 0,.slice none 0 0]/\Touch (fun b=>b=w.heap.size+2) w10 w11:=by rw [hw];exact S10.put hF 0 _
   have ew0:=hw.symm
   obtain⟨S11,t11⟩:=P
   clear hw
   have D11:=D10.touch t11 fun b hb=>by omega
   clear t11 S10 D10 XS9 XD9 Xq1
   obtain⟨XS11,XD11⟩:=HqZ2 S11 D11;clear S11 D11
   go_wp2_with fail
   clear p0 q0 ew0
   have c1:=reader_num XS11.out.rdr
   have rg:=num_range XS11.out.rdr.bytes
   unfold NumP at c1
   obtain⟨⟨x,s5⟩,e5⟩: ∃q,q=numD s4:=⟨_,rfl⟩
   rw [<-e5]at c1 rg
   simp only at c1 rg
   obtain⟨M,rfl⟩:=Int.eq_ofNat_of_zero_le rg.1
   have hM:M<=65535:=by omega
   refine c1.mono ?_
   rintro e w12 ⟨rfl,r5,t5⟩
   have S12:=XS11.out.read r5 t5
   clear c1 rg r5
   have D12:=XD11.out.touch t5 fun b hb=>by omega
   clear t5 XS11 XD11
   have c1:=line_int S12.rdr M (by omega)
   have q1:=(rowD_all M s5 S12.rdr.bytes).1
   obtain⟨⟨row,s6⟩,e6⟩: ∃q,q=lineD numD M s5:=⟨_,rfl⟩
   rw [<-e6]at c1 q1
   obtain⟨XS12,Xe5,XD12,Xc1,Xe6,Xq1⟩:=HqZ6 S12 e5 D12 c1 e6 q1;clear S12 e5 D12 c1 e6 q1
   go_wp2_with fail
   refine Xc1.out.mono ?_
   rintro e w13 ⟨A2,y2,rfl,d,r,t⟩
   have S13:=XS12.out.read r t
   have dd:=XD12.out.touch t fun b hb=>by omega
   have D13:Dat w w13 (.slice A1 rs.length y1) (.slice A2 row.length y2) (.slice none 0 0) (.slice none 0 0) (.slice none 0 0) ⟨rs,0,0,row,[],[],[]⟩:=⟨dd.rules,dat_row XS12.out.sz d,dd.rows,dd.gow,dd.gows,dd.lt,dd.tn,dd.wr,fun x hx=>n16_w64 (Xq1.out.1 x hx),dd.wgow,dd.u1,dd.u2⟩
   clear Xc1 d r t dd
   have l2:=Xq1.out.2
   obtain⟨w14,hw⟩: ∃q,q=w13.setCell ⟨w.heap.size+2,3,none⟩ (.slice A2 row.length y2):=⟨_,rfl⟩
   have p3:=(S13.kC.cell 3).trans rfl
   have q3:=S13.kC.frozen 3
   have P:OfS w w14 F s6 #[.slice A1 rs.length y1,.int .i64 (T:Int),.int .i64 (N:Int),.slice A2 row.length y2,.slice none 0 0,.slice none 0 0,.slice none 0 0]/\Touch (fun b=>b=w.heap.size+2) w13 w14:=by rw [hw];exact S13.put hF 3 _
   have ew3:=hw.symm
   obtain⟨S14,t14⟩:=P
   clear hw
   have D14:=D13.touch t14 fun b hb=>by omega
   clear t14 S13 D13 XS12 XD12 Xq1
   have g1:=(S14.kC.cell 1).trans rfl
   have hT1:IntKind.i64.wrap ((T:Int)+1)=(T:Int)+1:=by rw [IntKind.wrap_i64];omega
   have c1:=reader_rows S14.rdr (T+1) (by omega)
   have q1:=rowsD_all (T+1) s6 S14.rdr.bytes
   obtain⟨⟨rows,s7⟩,e7⟩: ∃q,q=rowsD (T+1) s6:=⟨_,rfl⟩
   rw [<-e7]at c1 q1
   obtain⟨XS14,XD14,Xc1,Xe7,Xq1,Xl2⟩:=HqZ6 S14 D14 c1 e7 q1 l2;clear S14 D14 c1 e7 q1 l2
   go_wp2_with fail
   clear p3 q3 ew3 g1 hT1
   refine Xc1.out.mono ?_
   rintro e w15 ⟨A3r,y3,rfl,d,r,t⟩
   have S15:=XS14.out.read r t
   have dd:=XD14.out.touch t fun b hb=>by omega
   have D15:Dat w w15 (.slice A1 rs.length y1) (.slice A2 row.length y2) (.slice A3r rows.length y3) (.slice none 0 0) (.slice none 0 0) ⟨rs,0,0,row,rows,[],[]⟩:=⟨dd.rules,dd.row,dat_rows XS14.out.sz d,dd.gow,dd.gows,dd.lt,dd.tn,dd.wr,dd.wrow,dd.wgow,fun r hr=>n16_u16 (Xq1.out r hr).1,dd.u2⟩
   clear Xc1 d r t dd
   have l3: ∀r∈rows,r.length<=70000:=fun r hr=>by have:=(Xq1.out r hr).2;omega
   obtain⟨w16,hw⟩: ∃q,q=w15.setCell ⟨w.heap.size+2,4,none⟩ (.slice A3r rows.length y3):=⟨_,rfl⟩
   have p4:=(S15.kC.cell 4).trans rfl
   have q4:=S15.kC.frozen 4
   have P:OfS w w16 F s7 #[.slice A1 rs.length y1,.int .i64 (T:Int),.int .i64 (N:Int),.slice A2 row.length y2,.slice A3r rows.length y3,.slice none 0 0,.slice none 0 0]/\Touch (fun b=>b=w.heap.size+2) w15 w16:=by rw [hw];exact S15.put hF 4 _
   have ew4:=hw.symm
   obtain⟨S16,t16⟩:=P
   clear hw
   have D16:=D15.touch t16 fun b hb=>by omega
   clear t16 S15 D15 XS14 XD14 Xq1
   have c1:=line_int S16.rdr M (by omega)
   have q1:=(rowD_all M s7 S16.rdr.bytes).1
   obtain⟨⟨gow,s8⟩,e8⟩: ∃q,q=lineD numD M s7:=⟨_,rfl⟩
   rw [<-e8]at c1 q1
   obtain⟨XS16,XD16,Xc1,Xe8,Xq1,Xl3⟩:=HqZ6 S16 D16 c1 e8 q1 l3;clear S16 D16 c1 e8 q1 l3
   go_wp2_with fail
   clear p4 q4 ew4
   refine Xc1.out.mono ?_
   rintro e w17 ⟨A4,y4,rfl,d,r,t⟩
   have S17:=XS16.out.read r t
   have dd:=XD16.out.touch t fun b hb=>by omega
   have D17:Dat w w17 (.slice A1 rs.length y1) (.slice A2 row.length y2) (.slice A3r rows.length y3) (.slice A4 gow.length y4) (.slice none 0 0) ⟨rs,0,0,row,rows,gow,[]⟩:=⟨dd.rules,dd.row,dd.rows,dat_row XS16.out.sz d,dd.gows,dd.lt,dd.tn,dd.wr,dd.wrow,fun x hx=>n16_w64 (Xq1.out.1 x hx),dd.u1,dd.u2⟩
   clear Xc1 d r t dd
   obtain⟨w18,hw⟩: ∃q,q=w17.setCell ⟨w.heap.size+2,5,none⟩ (.slice A4 gow.length y4):=⟨_,rfl⟩
   have p5:=(S17.kC.cell 5).trans rfl
   have q5:=S17.kC.frozen 5
   have P:OfS w w18 F s8 #[.slice A1 rs.length y1,.int .i64 (T:Int),.int .i64 (N:Int),.slice A2 row.length y2,.slice A3r rows.length y3,.slice A4 gow.length y4,.slice none 0 0]/\Touch (fun b=>b=w.heap.size+2) w17 w18:=by rw [hw];exact S17.put hF 5 _
   have ew5:=hw.symm
   obtain⟨S18,t18⟩:=P
   clear hw
   have D18:=D17.touch t18 fun b hb=>by omega
   clear t18 S17 D17 XS16 XD16 Xq1
   have g1:=(S18.kC.cell 2).trans rfl
   have c1:=reader_rows S18.rdr (N) (by omega)
   have q1:=rowsD_all (N) s8 S18.rdr.bytes
   obtain⟨⟨gows,s9⟩,e9⟩: ∃q,q=rowsD (N) s8:=⟨_,rfl⟩
   rw [<-e9]at c1 q1
   obtain⟨XS18,XD18,Xc1,Xe9,Xq1⟩:=HqZ5 S18 D18 c1 e9 q1;clear S18 D18 c1 e9 q1
   go_wp2_with fail
   clear p5 q5 ew5 g1
   have hTN:W64 (T:Int)/\W64 (N:Int):=⟨n16_w64 ⟨by omega,by omega⟩,n16_w64 ⟨by omega,by omega⟩⟩
   refine Xc1.out.mono ?_
   rintro e w19 ⟨A5,y5,rfl,d,r,t⟩
   have S19:=XS18.out.read r t
   have dd:=XD18.out.touch t fun b hb=>by omega
   have D19:Dat w w19 (.slice A1 rs.length y1) (.slice A2 row.length y2) (.slice A3r rows.length y3) (.slice A4 gow.length y4) (.slice A5 gows.length y5) ⟨rs,(T:Int),(N:Int),row,rows,gow,gows⟩:=⟨dd.rules,dd.row,dd.rows,dd.gow,dat_rows XS18.out.sz d,dd.lt,hTN,dd.wr,dd.wrow,dd.wgow,dd.u1,fun r hr=>n16_u16 (Xq1.out r hr).1⟩
   clear Xc1 d r t dd
   have l4: ∀r∈gows,r.length<=70000:=fun r hr=>by have:=(Xq1.out r hr).2;omega
   obtain⟨w20,hw⟩: ∃q,q=w19.setCell ⟨w.heap.size+2,6,none⟩ (.slice A5 gows.length y5):=⟨_,rfl⟩
   have p6:=(S19.kC.cell 6).trans rfl
   have q6:=S19.kC.frozen 6
   have P:OfS w w20 F s9 #[.slice A1 rs.length y1,.int .i64 (T:Int),.int .i64 (N:Int),.slice A2 row.length y2,.slice A3r rows.length y3,.slice A4 gow.length y4,.slice A5 gows.length y5]/\Touch (fun b=>b=w.heap.size+2) w19 w20:=by rw [hw];exact S19.put hF 6 _
   have ew6:=hw.symm
   obtain⟨S20,t20⟩:=P
   clear hw
   have D20:=D19.touch t20 fun b hb=>by omega
   clear t20 S19 D19 XS18 XD18 Xq1
   have hlp:LenP ⟨rs,(T:Int),(N:Int),row,rows,gow,gows⟩:=⟨Nat.le_trans Xl2.out (by omega),Xl3.out,l4⟩
   clear l4
   have hbody:bodyD s0=(⟨rs,(T:Int),(N:Int),row,rows,gow,gows⟩,s9):=by
    unfold bodyD
    simp only [<-Xe1.out,<-Xe2.out,<-Xe3.out,<-Xe4.out,<-Xe5.out,<-Xe6.out,<-Xe8.out,Int.toNat_natCast]
    rw [show((T:Int)+1).toNat=T+1 by omega,<-Xe7.out]
    simp only
    rw [<-Xe8.out]
    simp only
    rw [<-Xe9.out]
   have hbd:=Xhbd.out
   rw [hbody]at hbd
   simp only at hbd
   clear Xhbd hbody
   have kR:=S20.kR
   unfold zeroP at kR
   obtain⟨vr,hr⟩:=S20.rdr
   obtain⟨l9,t9⟩:=s9
   obtain⟨A9,n9,c9,rfl,-⟩:=id hr.rd
   obtain⟨hn9,-,-,-⟩:=RdY.at_ hr.rd
   have r0:=(hr.box.cell 0).trans rfl
   have r1:=(hr.box.cell 1).trans rfl
   simp only at hn9 r1 hbd
   have aa0:=(kR.cell 0).trans rfl
   have aa1:=(kR.cell 1).trans rfl
   have aa2:=(kR.cell 2).trans rfl
   have aa3:=(kR.cell 3).trans rfl
   have aa4:=(kR.cell 4).trans rfl
   have aa5:=(kR.cell 5).trans rfl
   have aa6:=(kR.cell 6).trans rfl
   have ff0:=kR.frozen 0
   have ff1:=kR.frozen 1
   have ff2:=kR.frozen 2
   have ff3:=kR.frozen 3
   have ff4:=kR.frozen 4
   have ff5:=kR.frozen 5
   have ff6:=kR.frozen 6
   have b20:=S20.bel
   have hsz:=S20.sz
   clear hr Xk1 Xb1
   have k1:=kR
   have b1:=b20
   clear kR b20
   cases t9 with
   |true=>
    have ho:ofD b=(noPack,4):=by rw [hbd];rfl
    clear hbd hn9 S20 D20 hlp
    obtain⟨Xk1,Xb1,Xho⟩:=HqZ3 k1 b1 ho;clear k1 b1 ho
    go_wp2_with fail
    have k2:=((((((Xk1.out.put 0 (.slice none 0 0)).put 1 (.int .i64 0)).put 2 (.int .i64 0)).put 3 (.slice none 0 0)).put 4 (.slice none 0 0)).put 5 (.slice none 0 0)).put 6 (.slice none 0 0)
    have e0:=(k2.cell 0).trans rfl
    have e1:=(k2.cell 1).trans rfl
    have e2:=(k2.cell 2).trans rfl
    have e3:=(k2.cell 3).trans rfl
    have e4:=(k2.cell 4).trans rfl
    have e5:=(k2.cell 5).trans rfl
    have e6:=(k2.cell 6).trans rfl
    have bx:=(touch7p w20 w.heap.size (.slice none 0 0) (.int .i64 0) (.int .i64 0) (.slice none 0 0) (.slice none 0 0) (.slice none 0 0) (.slice none 0 0)).toBelow (fun k e=>by omega) Xb1.out Xb1.out.size
    refine bodyPost_ret (v:= .tuple #[PV (.slice none 0 0) 0 0 (.slice none 0 0) (.slice none 0 0) (.slice none 0 0) (.slice none 0 0),.int .i64 4]) (by simp [results,Tryz.results10,go_sem,e0,e1,e2,e3,e4,e5,e6,PV]) rfl ?_
    exact OfBP.none (by first|exact bx|exact bx.drew) Xho.out
   |false=>
    rw [if_neg (by decide)]at hbd
    by_cases hl9:l9=[]
    ·have hn90:n9=0:=by rw [hn9,hl9];rfl
     subst hn90
     have cR:=pack_Right D20 hlp
     obtain⟨r,hr⟩: ∃q,q=rightP ⟨rs,(T:Int),(N:Int),row,rows,gow,gows⟩:=⟨_,rfl⟩
     rw [decide_eq_true hl9,Bool.true_and,<-hr]at hbd
     rw [<-hr]at cR
     simp only at cR
     have d0:=(S20.kC.cell 0).trans rfl
     have d1:=(S20.kC.cell 1).trans rfl
     have d2:=(S20.kC.cell 2).trans rfl
     have d3:=(S20.kC.cell 3).trans rfl
     have d4:=(S20.kC.cell 4).trans rfl
     have d5:=(S20.kC.cell 5).trans rfl
     have d6:=(S20.kC.cell 6).trans rfl
     have hz0: ¬(0:Int)<((0:Nat):Int):=by omega
     clear hr hl9 hn9 hlp
     obtain⟨Xk1,Xb1,Xhbd,XcR,XS20,XD20⟩:=HqZ6 k1 b1 hbd cR S20 D20;clear k1 b1 hbd cR S20 D20
     go_wp2_with fail
     refine XcR.out.mono ?_
     rintro e w21 ⟨rfl,b21⟩
     have kC21:=XS20.out.kC.below b21 XS20.out.kC.lt
     have k1:=Xk1.out.below b21 Xk1.out.lt
     have hsz1:=b21.size
     have D21:=IsPack.below XD20.out b21
     have b1:=Xb1.out.trans (b21.mono Xb1.out.size)
     clear XcR XS20 XD20 Xk1 Xb1 b21 aa0 ff0 d0 aa1 ff1 d1 aa2 ff2 d2 aa3 ff3 d3 aa4 ff4 d4 aa5 ff5 d5 aa6 ff6 d6 r0 r1
     have aa0:=(k1.cell 0).trans rfl
     have ff0:=k1.frozen 0
     have d0:=(kC21.cell 0).trans rfl
     have aa1:=(k1.cell 1).trans rfl
     have ff1:=k1.frozen 1
     have d1:=(kC21.cell 1).trans rfl
     have aa2:=(k1.cell 2).trans rfl
     have ff2:=k1.frozen 2
     have d2:=(kC21.cell 2).trans rfl
     have aa3:=(k1.cell 3).trans rfl
     have ff3:=k1.frozen 3
     have d3:=(kC21.cell 3).trans rfl
     have aa4:=(k1.cell 4).trans rfl
     have ff4:=k1.frozen 4
     have d4:=(kC21.cell 4).trans rfl
     have aa5:=(k1.cell 5).trans rfl
     have ff5:=k1.frozen 5
     have d5:=(kC21.cell 5).trans rfl
     have aa6:=(k1.cell 6).trans rfl
     have ff6:=k1.frozen 6
     have d6:=(kC21.cell 6).trans rfl
     have hbd:=Xhbd.out
     clear kC21 Xhbd
     cases r with
     |false=>
      have ho:ofD b=(noPack,10):=by rw [hbd];rfl
      clear hbd D21
      obtain⟨Xk1,Xb1,Xho⟩:=HqZ3 k1 b1 ho;clear k1 b1 ho
      go_wp2_with fail
      have k2:=((((((Xk1.out.put 0 (.slice none 0 0)).put 1 (.int .i64 0)).put 2 (.int .i64 0)).put 3 (.slice none 0 0)).put 4 (.slice none 0 0)).put 5 (.slice none 0 0)).put 6 (.slice none 0 0)
      have e0:=(k2.cell 0).trans rfl
      have e1:=(k2.cell 1).trans rfl
      have e2:=(k2.cell 2).trans rfl
      have e3:=(k2.cell 3).trans rfl
      have e4:=(k2.cell 4).trans rfl
      have e5:=(k2.cell 5).trans rfl
      have e6:=(k2.cell 6).trans rfl
      have bx:=(touch7p w21 w.heap.size (.slice none 0 0) (.int .i64 0) (.int .i64 0) (.slice none 0 0) (.slice none 0 0) (.slice none 0 0) (.slice none 0 0)).toBelow (fun k e=>by omega) Xb1.out Xb1.out.size
      refine bodyPost_ret (v:= .tuple #[PV (.slice none 0 0) 0 0 (.slice none 0 0) (.slice none 0 0) (.slice none 0 0) (.slice none 0 0),.int .i64 10]) (by simp [results,Tryz.results10,go_sem,e0,e1,e2,e3,e4,e5,e6,PV]) rfl ?_
      exact OfBP.none (by first|exact bx|exact bx.drew) Xho.out
     |true=>
      rw [if_pos rfl]at hbd
      obtain⟨Xk1,Xb1,Xhbd,XD21⟩:=HqZ4 k1 b1 hbd D21;clear k1 b1 hbd D21
      go_wp2_with fail
      have k2:=(((((((Xk1.out.put 0 (.slice A1 rs.length y1)).put 1 (.int .i64 (T:Int))).put 2 (.int .i64 (N:Int))).put 3 (.slice A2 row.length y2)).put 4 (.slice A3r rows.length y3)).put 5 (.slice A4 gow.length y4)).put 6 (.slice A5 gows.length y5))
      have e0:=(k2.cell 0).trans rfl
      have e1:=(k2.cell 1).trans rfl
      have e2:=(k2.cell 2).trans rfl
      have e3:=(k2.cell 3).trans rfl
      have e4:=(k2.cell 4).trans rfl
      have e5:=(k2.cell 5).trans rfl
      have e6:=(k2.cell 6).trans rfl
      have t7:=touch7p w21 w.heap.size (.slice A1 rs.length y1) (.int .i64 (T:Int)) (.int .i64 (N:Int)) (.slice A2 row.length y2) (.slice A3r rows.length y3) (.slice A4 gow.length y4) (.slice A5 gows.length y5)
      have bx:=t7.toBelow (fun k e=>by omega) Xb1.out Xb1.out.size
      have hD:=(IsPack.touch XD21.out t7 fun k hk e=>by have:=hk.1;omega).mono (F':=fun k=>w.heap.size<=k/\k<w21.heap.size) (fun k hk=>⟨by have:=hk.1;omega,by have:=hk.2;omega⟩) (fun k hk=>Nat.lt_of_lt_of_le hk.2 t7.size)
      refine bodyPost_ret (v:= .tuple #[PV (.slice A1 rs.length y1) (T:Int) (N:Int) (.slice A2 row.length y2) (.slice A3r rows.length y3) (.slice A4 gow.length y4) (.slice A5 gows.length y5),.int .i64 0]) (by simp [results,Tryz.results10,go_sem,e0,e1,e2,e3,e4,e5,e6,PV]) rfl ?_
      unfold OfBP
      rw [Xhbd.out]
      refine⟨by first|exact bx|exact bx.drew,_,_,_,_,_,rfl,?_⟩
      refine IsPack.mono hD (fun k hk=>⟨hk.1,Nat.lt_of_lt_of_le hk.2 t7.size⟩) fun k hk=>hk.2
    ·have hn90:(0:Int)<(n9:Int):=by
      have:l9.length≠0:=fun h=>hl9 (List.length_eq_zero_iff.1 h)
      omega
     have hn91:0<n9:=by omega
     have ho:ofD b=(noPack,10):=by rw [hbd,decide_eq_false hl9];rfl
     clear hbd hn9 S20 D20 hlp hl9
     obtain⟨Xk1,Xb1,Xho⟩:=HqZ3 k1 b1 ho;clear k1 b1 ho
     go_wp2_with fail
     have k2:=((((((Xk1.out.put 0 (.slice none 0 0)).put 1 (.int .i64 0)).put 2 (.int .i64 0)).put 3 (.slice none 0 0)).put 4 (.slice none 0 0)).put 5 (.slice none 0 0)).put 6 (.slice none 0 0)
     have e0:=(k2.cell 0).trans rfl
     have e1:=(k2.cell 1).trans rfl
     have e2:=(k2.cell 2).trans rfl
     have e3:=(k2.cell 3).trans rfl
     have e4:=(k2.cell 4).trans rfl
     have e5:=(k2.cell 5).trans rfl
     have e6:=(k2.cell 6).trans rfl
     have bx:=(touch7p w20 w.heap.size (.slice none 0 0) (.int .i64 0) (.int .i64 0) (.slice none 0 0) (.slice none 0 0) (.slice none 0 0) (.slice none 0 0)).toBelow (fun k e=>by omega) Xb1.out Xb1.out.size
     refine bodyPost_ret (v:= .tuple #[PV (.slice none 0 0) 0 0 (.slice none 0 0) (.slice none 0 0) (.slice none 0 0) (.slice none 0 0),.int .i64 10]) (by simp [results,Tryz.results10,go_sem,e0,e1,e2,e3,e4,e5,e6,PV]) rfl ?_
     exact OfBP.none (by first|exact bx|exact bx.drew) Xho.out
  ·have ho:ofD b=(noPack,10):=by unfold ofD;rw [if_neg (by rw [hpt];exact hp)]
   have es:((u8s (b.take 3)).toList==[76,84,49])=false:=by
    rw [hel]
    exact beq_eq_false_iff_ne.2 fun e=>hp (u8map_inj (bytes_take hb 3) bytes_headB e)
   clear h h1 hb hp hn hh eH hpt hel tl
   obtain⟨Xho,Xb1,Xk1⟩:=HqZ3 ho b1 k1;clear ho b1 k1
   go_enter Tryz.func10,Tryz.ntmps10
   go_wp2_with fail
   have k2:=((((((Xk1.out.put 0 (.slice none 0 0)).put 1 (.int .i64 0)).put 2 (.int .i64 0)).put 3 (.slice none 0 0)).put 4 (.slice none 0 0)).put 5 (.slice none 0 0)).put 6 (.slice none 0 0)
   have e0:=(k2.cell 0).trans rfl
   have e1:=(k2.cell 1).trans rfl
   have e2:=(k2.cell 2).trans rfl
   have e3:=(k2.cell 3).trans rfl
   have e4:=(k2.cell 4).trans rfl
   have e5:=(k2.cell 5).trans rfl
   have e6:=(k2.cell 6).trans rfl
   have bx:=(touch7p w1 w.heap.size (.slice none 0 0) (.int .i64 0) (.int .i64 0) (.slice none 0 0) (.slice none 0 0) (.slice none 0 0) (.slice none 0 0)).toBelow (fun k e=>by omega) Xb1.out Xb1.out.size
   refine bodyPost_ret (v:= .tuple #[PV (.slice none 0 0) 0 0 (.slice none 0 0) (.slice none 0 0) (.slice none 0 0) (.slice none 0 0),.int .i64 10]) (by simp [results,Tryz.results10,go_sem,e0,e1,e2,e3,e4,e5,e6,PV]) rfl ?_
   exact OfBP.none (by first|exact bx|exact bx.drew) Xho.out
end Go.Proofs.YtlpipniclimgeaaGreat

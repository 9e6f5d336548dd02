/- Tables as bytes: the reader. -/
import Derived.Test.YtlpipniclimgeaaGreatDPack2
import Derived.Test.YtlpipniclimgeaaGreatDBase
namespace Go.Proofs.YtlpipniclimgeaaGreat
set_option linter.unusedVariables false
set_option linter.unusedSimpArgs false
open Go.RowKit
attribute [local irreducible] wpStill wpOne wpPh
theorem RdY.tail {w:World} {F:Nat->Prop} {bb off n c:Nat} {xs:List Int} (h:RdY w F (.slice (some ⟨bb,off,none⟩) n c) xs) {k:Nat} (hk:k<=n):RdY w F (.slice (if c=k then some ⟨bb,off,none⟩else some ⟨bb,off+k,none⟩) (n - k) (c - k)) (xs.drop k):=by
 obtain⟨hn,hnc,hcm,hcell⟩:=RdY.at_ h
 refine⟨_,_,_,rfl,by omega,by omega,by simp;omega,fun hn0=> ?_⟩
 obtain⟨b,o,e,hF,hc⟩:=hcell (by omega)
 injection e with e
 injection e with e1 e2 _
 subst e1 e2
 rw [if_neg (by omega)]
 refine⟨_,_,rfl,hF,fun j u hu=> ?_⟩
 rw [List.getElem?_map,List.getElem?_drop]at hu
 obtain⟨x,hx,rfl⟩:=Option.map_eq_some_iff.1 hu
 rw [Nat.add_assoc]
 exact hc _ x hx
theorem ofInt_rd {a:Nat} (ha:a<65536):(BitVec.ofInt 64 (a:Int)).toNat=a:=by
 rw [BitVec.ofInt_natCast,BitVec.toNat_ofNat];exact Nat.mod_eq_of_lt (by omega)
theorem i64_or {a b:Int} (ha:0<=a/\a<256) (hb:0<=b/\b<256):bits .or .i64 (a * 256) b=256 * a+b:=by
 obtain⟨a,rfl⟩:=Int.eq_ofNat_of_zero_le ha.1
 obtain⟨b,rfl⟩:=Int.eq_ofNat_of_zero_le hb.1
 show IntKind.i64.wrap ((BitVec.ofInt 64 ((a:Int) * 256)|||BitVec.ofInt 64 (b:Int)).toNat:Int)=_
 rw [show((a:Int) * 256)=(((a * 256:Nat)):Int) by omega]
 rw [BitVec.toNat_or,ofInt_rd (by omega),ofInt_rd (by omega)]
 have:=Nat.two_pow_add_eq_or_of_lt (i:=8) (b:=b) (by omega) a
 rw [show a * 256=2^8 * a by omega,<-this,IntKind.wrap_i64]
 omega
theorem num_short {l:List Int} {t:Bool} (h:l.length<2):numD (l,t)=(0,(l,true)):=by
 match l,h with
 |[],_=>rfl
 |[a],_=>rfl
structure RdrM (T:TypeId) (w:World) (B:Nat) (F:Nat->Prop) (v:Value) (s:Rds):Prop where
 box:Blk w B T #[v,.bool s.2]
 rd:RdY w F v s.1
 far: ∀b,F b->b<w.heap.size/\b≠B
 byte:Bytes s.1
def Rdr (T:TypeId) (w:World) (B:Nat) (F:Nat->Prop) (s:Rds):Prop:= ∃v,RdrM T w B F v s
theorem Rdr.below {T:TypeId} {w w':World} {B:Nat} {F:Nat->Prop} {s:Rds} (h:Rdr T w B F s) (b:Below w.heap.size w w'):Rdr T w' B F s:=by
 obtain⟨v,h⟩:=h
 exact⟨v,h.box.below b h.box.lt,Rd.below h.rd b fun k hk=>(h.far k hk).1,fun k hk=>⟨Nat.lt_of_lt_of_le (h.far k hk).1 b.size,(h.far k hk).2⟩,h.byte⟩
theorem Rdr.lt {T:TypeId} {w:World} {B:Nat} {F:Nat->Prop} {s:Rds} (h:Rdr T w B F s):B<w.heap.size:=by
 obtain⟨v,h⟩:=h
 exact h.box.lt
theorem Rdr.touch {T:TypeId} {w w':World} {B:Nat} {F S:Nat->Prop} {s:Rds} (h:Rdr T w B F s) (t:Touch S w w') (hS: ∀b,F b\/b=B-> ¬S b):Rdr T w' B F s:=by
 obtain⟨v,h⟩:=h
 exact⟨v,h.box.touch t (hS B (.inr rfl)),Rd.touch h.rd t fun b hb=>hS b (.inl hb),fun k hk=>⟨Nat.lt_of_lt_of_le (h.far k hk).1 t.size,(h.far k hk).2⟩,h.byte⟩
def NumP (T:TypeId) (w:World) (B:Nat) (F:Nat->Prop) (s:Rds) (e:Ending) (w':World):Prop:=e= .returned (.int .i64 (numD s).1)/\Rdr T w' B F (numD s).2/\Touch (fun b=>b=B) w w'
set_option maxRecDepth 100000 in
theorem reader_num {w:World} {B:Nat} {F:Nat->Prop} {s:Rds} (h:Rdr 66 w B F s):
  Calls Tryz.prog 27 #[.pointer (some ⟨B,0,none⟩)] w (NumP 66 w B F s):=by
 obtain⟨v,h⟩:=h
 obtain⟨A,n,c,rfl,-⟩:=id h.rd
 obtain⟨hn,hnc,hcm,hcell⟩:=RdY.at_ h.rd
 unfold maxLen at hcm
 obtain⟨l,t⟩:=s
 simp only at hn hcell
 have p0:=(h.box.cell 0).trans rfl
 have p1:=(h.box.cell 1).trans rfl
 have f1:=h.box.frozen 1
 have f0:=h.box.frozen 0
 simp only at p1
 by_cases h2:n<2
 ·have h2':(n:Int)<2:=by omega
  have T:Touch (fun b=>b=B) w (w.setCell ⟨B,1,none⟩ (.bool true)):=touch_setT _ _ _ _
  have hd:numD (l,t)=(0,(l,true)):=num_short (by omega)
  have R:Rdr 66 (w.setCell ⟨B,1,none⟩ (.bool true)) B F (l,true):=⟨_,h.box.put 1 _,Rd.touch h.rd T fun b hb=>(h.far b hb).2,fun b hb=>⟨Nat.lt_of_lt_of_le (h.far b hb).1 T.size,(h.far b hb).2⟩,h.byte⟩
  clear h hcell
  obtain⟨XR,XT,Xhd,Xhn⟩:=HqZ4 R T hd hn;clear R T hd hn
  go_enter Tryz.func27,Tryz.ntmps27
  go_wp2_with fail
  go_ret
  unfold NumP
  rw [Xhd.out]
  exact⟨rfl,XR.out,XT.out⟩
 ·have h2': ¬(n:Int)<2:=by omega
  rcases l with _|⟨x,_|⟨y,r⟩⟩
  ·simp at hn;omega
  ·simp at hn;omega
  ·have hn2:n=r.length+2:=hn
   clear hn
   obtain⟨b,off,rfl,hb,hc⟩:=hcell (by omega)
   have q0:=hc 0 x rfl
   have q1:=hc 1 y rfl
   rw [Nat.add_zero]at q0
   have hx:=h.byte x (by simp)
   have hy:=h.byte y (by simp)
   have ho:=i64_or hx hy
   have w1:IntKind.i64.wrap x=x:=by rw [IntKind.wrap_i64];omega
   have w2:IntKind.i64.wrap y=y:=by rw [IntKind.wrap_i64];omega
   have w3:IntKind.i64.wrap (x * 256)=x * 256:=by rw [IntKind.wrap_i64];omega
   have w4:IntKind.i64.wrap (256 * x)=256 * x:=by rw [IntKind.wrap_i64];omega
   have w5:IntKind.i64.wrap (256 * x+y)=256 * x+y:=by rw [IntKind.wrap_i64];omega
   have hz0:(0:Int)<(n:Int):=by omega
   have hz1:(1:Int)<(n:Int):=by omega
   have hz2:0<n:=by omega
   have hz3:1<n:=by omega
   have hz4: ¬n<=0:=by omega
   have hz5: ¬n<=1:=by omega
   have hz6:(2:Int)<=(n:Int):=by omega
   have hz7:2<=n:=by omega
   obtain⟨A2,hA2⟩: ∃A2,(if c=2 then some (⟨b,off,none⟩:Addr)else some ⟨b,off+2,none⟩)=A2:=⟨_,rfl⟩
   have k2:(2:Int).toNat=2:=rfl
   have tl:=RdY.tail h.rd (k:=2) (by omega)
   rw [hA2]at tl
   have T:Touch (fun b=>b=B) w (w.setCell ⟨B,0,none⟩ (.slice A2 (n - 2) (c - 2))):=touch_setT _ _ _ _
   have Td:Touch (fun b=>b=B) w (w.drew.setCell ⟨B,0,none⟩ (.slice A2 (n - 2) (c - 2))):=(Touch.refl _ w).drew.trans' (touch_setT _ _ _ _)
   have R:Rdr 66 (w.drew.setCell ⟨B,0,none⟩ (.slice A2 (n - 2) (c - 2))) B F (r,t):=⟨_,(h.box.drew).put 0 _,Rd.touch tl Td fun b hb=>(h.far b hb).2,fun b hb=>⟨Nat.lt_of_lt_of_le (h.far b hb).1 Td.size,(h.far b hb).2⟩,fun z hz=>h.byte z (by simp [hz])⟩
   have hN:numD (x::y::r,t)=(256 * x+y,(r,t)):=rfl
   clear h hcell hc tl T hb
   obtain⟨XR,XTd,XhN,Xhn2,Xhx,Xhy⟩:=HqZ6 R Td hN hn2 hx hy;clear R Td hN hn2 hx hy
   go_enter Tryz.func27,Tryz.ntmps27
   go_wp2_with fail
   refine region_reads (by kernel_rfl) (by kernel_rfl) ?_
   repeat still_step
   refine wpStill_nil ?_
   go_wp2_with fail
   go_ret
   unfold NumP
   rw [XhN.out]
   exact⟨rfl,XR.out,XTd.out⟩
set_option maxRecDepth 100000 in
theorem ref18_num {w:World} {B:Nat} {F:Nat->Prop} {s:Rds} (h:Rdr 77 w B F s):
  Calls Tryz.prog 35 #[.pointer (some ⟨B,0,none⟩)] w (NumP 77 w B F s):=by
 obtain⟨v,h⟩:=h
 obtain⟨A,n,c,rfl,-⟩:=id h.rd
 obtain⟨hn,hnc,hcm,hcell⟩:=RdY.at_ h.rd
 unfold maxLen at hcm
 obtain⟨l,t⟩:=s
 simp only at hn hcell
 have p0:=(h.box.cell 0).trans rfl
 have p1:=(h.box.cell 1).trans rfl
 have f1:=h.box.frozen 1
 have f0:=h.box.frozen 0
 simp only at p1
 by_cases h2:n<2
 ·have h2':(n:Int)<2:=by omega
  have T:Touch (fun b=>b=B) w (w.setCell ⟨B,1,none⟩ (.bool true)):=touch_setT _ _ _ _
  have hd:numD (l,t)=(0,(l,true)):=num_short (by omega)
  have R:Rdr 77 (w.setCell ⟨B,1,none⟩ (.bool true)) B F (l,true):=⟨_,h.box.put 1 _,Rd.touch h.rd T fun b hb=>(h.far b hb).2,fun b hb=>⟨Nat.lt_of_lt_of_le (h.far b hb).1 T.size,(h.far b hb).2⟩,h.byte⟩
  clear h hcell
  obtain⟨XR,XT,Xhd,Xhn⟩:=HqZ4 R T hd hn;clear R T hd hn
  go_enter Tryz.func35,Tryz.ntmps35
  go_wp2_with fail
  go_ret
  unfold NumP
  rw [Xhd.out]
  exact⟨rfl,XR.out,XT.out⟩
 ·have h2': ¬(n:Int)<2:=by omega
  rcases l with _|⟨x,_|⟨y,r⟩⟩
  ·simp at hn;omega
  ·simp at hn;omega
  ·have hn2:n=r.length+2:=hn
   clear hn
   obtain⟨b,off,rfl,hb,hc⟩:=hcell (by omega)
   have q0:=hc 0 x rfl
   have q1:=hc 1 y rfl
   rw [Nat.add_zero]at q0
   have hx:=h.byte x (by simp)
   have hy:=h.byte y (by simp)
   have ho:=i64_or hx hy
   have w1:IntKind.i64.wrap x=x:=by rw [IntKind.wrap_i64];omega
   have w2:IntKind.i64.wrap y=y:=by rw [IntKind.wrap_i64];omega
   have w3:IntKind.i64.wrap (x * 256)=x * 256:=by rw [IntKind.wrap_i64];omega
   have w4:IntKind.i64.wrap (256 * x)=256 * x:=by rw [IntKind.wrap_i64];omega
   have w5:IntKind.i64.wrap (256 * x+y)=256 * x+y:=by rw [IntKind.wrap_i64];omega
   have hz0:(0:Int)<(n:Int):=by omega
   have hz1:(1:Int)<(n:Int):=by omega
   have hz2:0<n:=by omega
   have hz3:1<n:=by omega
   have hz4: ¬n<=0:=by omega
   have hz5: ¬n<=1:=by omega
   have hz6:(2:Int)<=(n:Int):=by omega
   have hz7:2<=n:=by omega
   obtain⟨A2,hA2⟩: ∃A2,(if c=2 then some (⟨b,off,none⟩:Addr)else some ⟨b,off+2,none⟩)=A2:=⟨_,rfl⟩
   have k2:(2:Int).toNat=2:=rfl
   have tl:=RdY.tail h.rd (k:=2) (by omega)
   rw [hA2]at tl
   have T:Touch (fun b=>b=B) w (w.setCell ⟨B,0,none⟩ (.slice A2 (n - 2) (c - 2))):=touch_setT _ _ _ _
   have Td:Touch (fun b=>b=B) w (w.drew.setCell ⟨B,0,none⟩ (.slice A2 (n - 2) (c - 2))):=(Touch.refl _ w).drew.trans' (touch_setT _ _ _ _)
   have R:Rdr 77 (w.drew.setCell ⟨B,0,none⟩ (.slice A2 (n - 2) (c - 2))) B F (r,t):=⟨_,(h.box.drew).put 0 _,Rd.touch tl Td fun b hb=>(h.far b hb).2,fun b hb=>⟨Nat.lt_of_lt_of_le (h.far b hb).1 Td.size,(h.far b hb).2⟩,fun z hz=>h.byte z (by simp [hz])⟩
   have hN:numD (x::y::r,t)=(256 * x+y,(r,t)):=rfl
   clear h hcell hc tl T hb
   obtain⟨XR,XTd,XhN,Xhn2,Xhx,Xhy⟩:=HqZ6 R Td hN hn2 hx hy;clear R Td hN hn2 hx hy
   go_enter Tryz.func35,Tryz.ntmps35
   go_wp2_with fail
   refine region_reads (by kernel_rfl) (by kernel_rfl) ?_
   repeat still_step
   refine wpStill_nil ?_
   go_wp2_with fail
   go_ret
   unfold NumP
   rw [XhN.out]
   exact⟨rfl,XR.out,XTd.out⟩
theorem num_range {s:Rds} (h:Bytes s.1):0<=(numD s).1/\(numD s).1<=65535:=by
 obtain⟨l,t⟩:=s
 rcases l with _|⟨x,_|⟨y,r⟩⟩
 ·show(0:Int)<=0/\(0:Int)<=65535;decide
 ·show(0:Int)<=0/\(0:Int)<=65535;decide
 ·have hx:=h x (by simp)
  have hy:=h y (by simp)
  show 0<=256 * x+y/\256 * x+y<=65535
  omega
theorem Rdr.bytes {T:TypeId} {w:World} {B:Nat} {F:Nat->Prop} {s:Rds} (h:Rdr T w B F s):Bytes s.1:=by
 obtain⟨v,h⟩:=h
 exact h.byte
theorem Rdr.bit {T:TypeId} {w:World} {B:Nat} {F:Nat->Prop} {s:Rds} (h:Rdr T w B F s):w.cell? ⟨B,1,none⟩=some (.bool s.2):=by
 obtain⟨v,h⟩:=h
 exact(h.box.cell 1).trans rfl
theorem Rdr.data {T:TypeId} {w:World} {B:Nat} {F:Nat->Prop} {s:Rds} (h:Rdr T w B F s): ∀b,F b->b<w.heap.size:=by
 obtain⟨v,h⟩:=h
 exact fun b hb=>(h.far b hb).1
def CodeP (w:World) (B:Nat) (F:Nat->Prop) (s:Rds) (e:Ending) (w':World):Prop:=e= .returned (.int .u16 (numD s).1)/\Rdr 66 w' B F (numD s).2/\Touch (fun b=>b=B) w w'
theorem reader_code {w:World} {B:Nat} {F:Nat->Prop} {s:Rds} (h:Rdr 66 w B F s):
  Calls Tryz.prog 54 #[.pointer (some ⟨B,0,none⟩)] w (CodeP w B F s):=by
 have cN:=reader_num h
 have hr:=num_range h.bytes
 unfold NumP at cN
 unfold CodeP
 generalize numD s=q at *
 obtain⟨x,s'⟩:=q
 simp only at cN hr⊢
 have hw:IntKind.u16.wrap x=x:=wrap_u16 hr.1 (by omega)
 clear h
 obtain⟨XcN,Xhr⟩:=HqZ2 cN hr;clear cN hr
 go_enter Tryz.func54,Tryz.ntmps54
 go_wp2_with fail
 refine XcN.out.mono ?_
 rintro e w1 ⟨rfl,h1,t1⟩
 obtain⟨Xh1,Xt1⟩:=HqZ2 h1 t1;clear h1 t1
 go_wp2_with fail
 go_ret
 exact⟨rfl,Xh1.out,Xt1.out⟩
def LnP {X:Type} (Q:World->(Nat->Prop)->Value->List X->Prop) (T:TypeId) (w:World) (B:Nat) (F:Nat->Prop) (q:List X×Rds) (e:Ending) (w':World):Prop:=
 ∃A c,e= .returned (.slice A q.1.length c)/\Q w' (fun b=>w.heap.size<=b/\b<w'.heap.size) (.slice A q.1.length c) q.1/\Rdr T w' B F q.2/\Touch (fun b=>b=B) w w'
def RdC (C:Int->Value) (w:World) (F:Nat->Prop) (v:Value) (l:List Int):Prop:=Rd w F v 1 (l.map C)
theorem LnP.mk1 {C:Int->Value} {T E:TypeId} {w w':World} {B:Nat} {F:Nat->Prop} {acc:List Int} {s:Rds} {q:List Int×Rds} {A:Option Addr} {k c:Nat} (hq:q=(acc,s)) (hk:k=acc.length) (own:w'.ownsRow w.heap.size E 1 (.slice A k c) k (acc.map C)) (hr:Rdr T w' B F s) (t:Touch (fun b=>b=B) w w'):
  LnP (RdC C) T w B F q (.returned (.slice A k c)) w':=by
 subst hq hk
 exact⟨A,c,rfl,(Rd.of_own own).mono fun b e=>own.lt b e,hr,t⟩
set_option maxRecDepth 100000 in
set_option maxHeartbeats 2000000 in
theorem line_int {w:World} {B:Nat} {F:Nat->Prop} {s:Rds} (h:Rdr 66 w B F s) (N:Nat) (hN:N<=70000):
  Calls Tryz.prog 30 #[.pointer (some ⟨B,0,none⟩),.int .i64 (N:Int),.func (.func 27) #[.pointer (some ⟨B,0,none⟩)] #[]] w (LnP (RdC (Value.int .i64)) 66 w B F (lineD numD N s)):=by
 have hB:=h.lt
 have hF:=h.data
 obtain⟨R,hR⟩: ∃R,R=lineD numD N s:=⟨_,rfl⟩
 rw [<-hR]
 have h0:w.ownsRow w.heap.size 3 1 (.slice none 0 0) 0 (([]:List Int).map (Value.int .i64)):=World.ownsRow_nil _ _ _ _
 obtain⟨Xh,XhR,Xh0,XhB,XhF⟩:=HqZ5 h hR h0 hB hF;clear h hR h0 hB hF
 go_enter Tryz.func30,Tryz.ntmps30
 go_wp2_with fail
 go_loopw [7,9] (fun ov iv wr=> ∃(acc:List Int) (t:Rds) (A:Option Addr) (k c:Nat),k=acc.length/\k<=N/\ov= .slice A k c/\iv= .int .i64 (k:Int)/\wr.ownsRow w.heap.size 3 1 (.slice A k c) k (acc.map (Value.int .i64))/\Rdr 66 wr B F t/\Touch (fun b=>b=B) w wr/\R=(acc++(lineD numD (N - k) t).1,(lineD numD (N - k) t).2)) (fun _ iv _=>N - (intOf iv).toNat)
 case atStart=>exact⟨[],s,none,0,0,rfl,Nat.zero_le _,rfl,rfl,Xh0.out,Xh.out,Touch.refl _ _,XhR.out⟩
 case round=>
  clear Xh0 Xh XhR
  obtain⟨acc,⟨l,t⟩,A,k,c,hk,hkN,rfl,rfl,own,hr,hT,hE⟩:=hrel
  by_cases hlt:k<N
  ·have hlt1:(k:Int)<(N:Int):=by omega
   have p1:=hr.bit
   cases t with
   |true=>
    have hE2:R=(acc,(l,true)):=by rw [hE,line_stop,List.append_nil]
    clear hE
    obtain⟨Xhk,Xown,Xhr,XhT,XhE2⟩:=HqZ5 hk own hr hT hE2;clear hk own hr hT hE2
    go_wp2_with fail
    go_ret
    exact LnP.mk1 XhE2.out Xhk.out Xown.out Xhr.out XhT.out
   |false=>
    have cN:=reader_num hr
    unfold NumP at cN
    have hE2:R=((acc++[(numD (l,false)).1])++(lineD numD (N - (k+1)) (numD (l,false)).2).1,(lineD numD (N - (k+1)) (numD (l,false)).2).2):=by
     rw [hE,show N - k=(N - (k+1))+1 by omega,line_go,List.append_assoc];rfl
    generalize numD (l,false)=y at *
    obtain⟨x,t⟩:=y
    simp only at cN hE2
    clear hE hr
    obtain⟨Xhk,Xown,XhT,XhE2,XcN⟩:=HqZ5 hk own hT hE2 cN;clear hk own hT hE2 cN
    go_wp2_with fail
    refine XcN.out.mono ?_
    rintro e w6 ⟨rfl,hr6,t6⟩
    have own6:=t6.own Xown.out fun q e=>(by have:=(Xown.out.lt q e).1;have:=XhB.out;omega)
    have T6:=XhT.out.trans' t6
    have al:Below w6.heap.size w6 (w6.alloc (.cells #[(Value.int .i64) x] 3)):=(Below.refl _ _).alloc (Nat.le_refl _) _
    have own7:=own_below' own6 al
    have hr7:=hr6.below al
    have T7:=T6.trans' (Touch.of_size al _)
    have rone:Rd (w6.alloc (.cells #[(Value.int .i64) x] 3)) (fun x=>x=w6.heap.size) (.slice (some ⟨w6.heap.size,0,none⟩) 1 1) 1 [(Value.int .i64) x]:=Rd.one' (w:=w6) (e:=3) [(Value.int .i64) x] 1 rfl
    have hnx:acc.map (Value.int .i64)++[(Value.int .i64) x]=(acc++[x]).map (Value.int .i64):=by rw [List.map_append];rfl
    have hz:w.heap.size<=(w6.alloc (.cells #[(Value.int .i64) x] 3)).heap.size:=T7.size
    obtain⟨us,hus⟩: ∃q,q=acc.map (Value.int .i64):=⟨_,rfl⟩
    rw [<-hus]at own7 hnx
    clear hus own6 T6 al hr6 t6 XhT Xown XcN
    obtain⟨Xown7,Xhr7,XT7,Xrone,Xhnx,Xhz⟩:=HqZ6 own7 hr7 T7 rone hnx hz;clear own7 hr7 T7 rone hnx hz
    go_wp2_with (at_builtin;refine wp_append _ rfl (.tmp 15) (.tmp 18) _ rfl Tryz.elemInt w.heap.size (.slice A k c) k _ rfl Xown7.out _ _ [(Value.int .i64) x] 1 rfl rfl Xrone.out (by simp [Value.oneCell']) (by unfold maxLen;omega) (by omega) Xhz.out ?_)
    intro A8 c8 w8 own8 g8 hb8
    rw [Xhnx.out]at own8
    have t8:=(Touch.refl (fun j=>(Value.slice A k c).ownBlock=some j) _).grown g8 (fun q e _=>e)
    have T8:Touch (fun b=>b=B) w w8:=XT7.out.trans (t8) fun q hq e=>(by have:=(Xown7.out.lt q e).1;omega)
    have hr8:=Xhr7.out.touch t8 fun q hq e=>(by
     have:=(Xown7.out.lt q e).1
     rcases hq with hq|hq
     ·have:=XhF.out q hq;omega
     ·have:=XhB.out;omega)
    clear g8 hb8 t8 Xown7 XT7 Xrone Xhnx Xhr7 Xhz
    obtain⟨Xown8,Xhr8,XT8⟩:=HqZ3 own8 hr8 T8;clear own8 hr8 T8
    go_wp2_with fail
    go_roundw
    case rel=>exact⟨acc++[x],t,A8,k+1,c8,by rw [List.length_append,<-Xhk.out];rfl,by omega,rfl,by go_num,Xown8.out,Xhr8.out,XT8.out,XhE2.out⟩
    case measure=>simp [intOf];omega
  ·have hlt1: ¬(k:Int)<(N:Int):=by omega
   have hE2:R=(acc,(l,t)):=by rw [hE,show N - k=0 by omega];show(acc++[],(l,t))=_;rw [List.append_nil]
   clear hE
   obtain⟨Xhk,Xown,Xhr,XhT,XhE2⟩:=HqZ5 hk own hr hT hE2;clear hk own hr hT hE2
   go_wp2_with fail
   go_ret
   exact LnP.mk1 XhE2.out Xhk.out Xown.out Xhr.out XhT.out
set_option maxRecDepth 100000 in
set_option maxHeartbeats 2000000 in
theorem line_u16 {w:World} {B:Nat} {F:Nat->Prop} {s:Rds} (h:Rdr 66 w B F s) (N:Nat) (hN:N<=70000):
  Calls Tryz.prog 53 #[.pointer (some ⟨B,0,none⟩),.int .i64 (N:Int),.func (.func 54) #[.pointer (some ⟨B,0,none⟩)] #[]] w (LnP (RdC I16) 66 w B F (lineD numD N s)):=by
 have hB:=h.lt
 have hF:=h.data
 obtain⟨R,hR⟩: ∃R,R=lineD numD N s:=⟨_,rfl⟩
 rw [<-hR]
 have h0:w.ownsRow w.heap.size 39 1 (.slice none 0 0) 0 (([]:List Int).map I16):=World.ownsRow_nil _ _ _ _
 obtain⟨Xh,XhR,Xh0,XhB,XhF⟩:=HqZ5 h hR h0 hB hF;clear h hR h0 hB hF
 go_enter Tryz.func53,Tryz.ntmps53
 go_wp2_with fail
 go_loopw [7,9] (fun ov iv wr=> ∃(acc:List Int) (t:Rds) (A:Option Addr) (k c:Nat),k=acc.length/\k<=N/\ov= .slice A k c/\iv= .int .i64 (k:Int)/\wr.ownsRow w.heap.size 39 1 (.slice A k c) k (acc.map I16)/\Rdr 66 wr B F t/\Touch (fun b=>b=B) w wr/\R=(acc++(lineD numD (N - k) t).1,(lineD numD (N - k) t).2)) (fun _ iv _=>N - (intOf iv).toNat)
 case atStart=>exact⟨[],s,none,0,0,rfl,Nat.zero_le _,rfl,rfl,Xh0.out,Xh.out,Touch.refl _ _,XhR.out⟩
 case round=>
  clear Xh0 Xh XhR
  obtain⟨acc,⟨l,t⟩,A,k,c,hk,hkN,rfl,rfl,own,hr,hT,hE⟩:=hrel
  by_cases hlt:k<N
  ·have hlt1:(k:Int)<(N:Int):=by omega
   have p1:=hr.bit
   cases t with
   |true=>
    have hE2:R=(acc,(l,true)):=by rw [hE,line_stop,List.append_nil]
    clear hE
    obtain⟨Xhk,Xown,Xhr,XhT,XhE2⟩:=HqZ5 hk own hr hT hE2;clear hk own hr hT hE2
    go_wp2_with fail
    go_ret
    exact LnP.mk1 XhE2.out Xhk.out Xown.out Xhr.out XhT.out
   |false=>
    have cN:=reader_code hr
    unfold CodeP at cN
    have hE2:R=((acc++[(numD (l,false)).1])++(lineD numD (N - (k+1)) (numD (l,false)).2).1,(lineD numD (N - (k+1)) (numD (l,false)).2).2):=by
     rw [hE,show N - k=(N - (k+1))+1 by omega,line_go,List.append_assoc];rfl
    generalize numD (l,false)=y at *
    obtain⟨x,t⟩:=y
    simp only at cN hE2
    clear hE hr
    obtain⟨Xhk,Xown,XhT,XhE2,XcN⟩:=HqZ5 hk own hT hE2 cN;clear hk own hT hE2 cN
    go_wp2_with fail
    refine XcN.out.mono ?_
    rintro e w6 ⟨rfl,hr6,t6⟩
    have own6:=t6.own Xown.out fun q e=>(by have:=(Xown.out.lt q e).1;have:=XhB.out;omega)
    have T6:=XhT.out.trans' t6
    have al:Below w6.heap.size w6 (w6.alloc (.cells #[I16 x] 39)):=(Below.refl _ _).alloc (Nat.le_refl _) _
    have own7:=own_below' own6 al
    have hr7:=hr6.below al
    have T7:=T6.trans' (Touch.of_size al _)
    have rone:Rd (w6.alloc (.cells #[I16 x] 39)) (fun x=>x=w6.heap.size) (.slice (some ⟨w6.heap.size,0,none⟩) 1 1) 1 [I16 x]:=Rd.one' (w:=w6) (e:=39) [I16 x] 1 rfl
    have hnx:acc.map I16++[I16 x]=(acc++[x]).map I16:=by rw [List.map_append];rfl
    have hz:w.heap.size<=(w6.alloc (.cells #[I16 x] 39)).heap.size:=T7.size
    obtain⟨us,hus⟩: ∃q,q=acc.map I16:=⟨_,rfl⟩
    rw [<-hus]at own7 hnx
    clear hus own6 T6 al hr6 t6 XhT Xown XcN
    obtain⟨Xown7,Xhr7,XT7,Xrone,Xhnx,Xhz⟩:=HqZ6 own7 hr7 T7 rone hnx hz;clear own7 hr7 T7 rone hnx hz
    go_wp2_with (at_builtin;refine wp_append _ rfl (.tmp 15) (.tmp 18) _ rfl Tryz.elemU16 w.heap.size (.slice A k c) k _ rfl Xown7.out _ _ [I16 x] 1 rfl rfl Xrone.out (by simp [Value.oneCell']) (by unfold maxLen;omega) (by omega) Xhz.out ?_)
    intro A8 c8 w8 own8 g8 hb8
    rw [Xhnx.out]at own8
    have t8:=(Touch.refl (fun j=>(Value.slice A k c).ownBlock=some j) _).grown g8 (fun q e _=>e)
    have T8:Touch (fun b=>b=B) w w8:=XT7.out.trans (t8) fun q hq e=>(by have:=(Xown7.out.lt q e).1;omega)
    have hr8:=Xhr7.out.touch t8 fun q hq e=>(by
     have:=(Xown7.out.lt q e).1
     rcases hq with hq|hq
     ·have:=XhF.out q hq;omega
     ·have:=XhB.out;omega)
    clear g8 hb8 t8 Xown7 XT7 Xrone Xhnx Xhr7 Xhz
    obtain⟨Xown8,Xhr8,XT8⟩:=HqZ3 own8 hr8 T8;clear own8 hr8 T8
    go_wp2_with fail
    go_roundw
    case rel=>exact⟨acc++[x],t,A8,k+1,c8,by rw [List.length_append,<-Xhk.out];rfl,by omega,rfl,by go_num,Xown8.out,Xhr8.out,XT8.out,XhE2.out⟩
    case measure=>simp [intOf];omega
  ·have hlt1: ¬(k:Int)<(N:Int):=by omega
   have hE2:R=(acc,(l,t)):=by rw [hE,show N - k=0 by omega];show(acc++[],(l,t))=_;rw [List.append_nil]
   clear hE
   obtain⟨Xhk,Xown,Xhr,XhT,XhE2⟩:=HqZ5 hk own hr hT hE2;clear hk own hr hT hE2
   go_wp2_with fail
   go_ret
   exact LnP.mk1 XhE2.out Xhk.out Xown.out Xhr.out XhT.out
end Go.Proofs.YtlpipniclimgeaaGreat
namespace Go.Proofs.YtlpipniclimgeaaGreat
set_option linter.unusedVariables false
open Go.RowKit
structure Hands {X:Type} (E:World->(Nat->Prop)->Value->X->Prop):Prop where
 mono: ∀{w:World} {F F':Nat->Prop} {z:Value} {x:X},E w F z x->(∀b,F b->F' b)->E w F' z x
 touch: ∀{w w':World} {F S:Nat->Prop} {z:Value} {x:X},E w F z x->Touch S w w'->(∀b,F b-> ¬S b)->E w' F z x
def rmCells {X:Type} (pre:X->List Value) (L:List X) (Z:List Value):List Value:=(List.zip L Z).flatMap fun p=>pre p.1++[p.2]
theorem rmCells_app {X:Type} {pre:X->List Value} {L:List X} {Z:List Value} (h:Z.length=L.length) (x:X) (z:Value):rmCells pre (L++[x]) (Z++[z])=rmCells pre L Z++(pre x++[z]):=by
 unfold rmCells
 rw [List.zip_append h.symm,List.flatMap_append]
 simp
structure RM {X:Type} (e:TypeId) (size:Nat) (pre:X->List Value) (E:World->(Nat->Prop)->Value->X->Prop) (lo:Nat->Prop) (base:Nat) (w:World) (A:Option Addr) (n c:Nat) (L:List X):Prop where
 ex: ∃Z:List Value,Z.length=L.length/\w.ownsRow base e size (.slice A n c) n (rmCells pre L Z)/\ ∀(j:Nat) z x,Z[j]? =some z->L[j]? =some x->E w (fun b=>lo b/\b<w.heap.size/\(Value.slice A n c).ownBlock≠some b) z x
 hn:n=L.length
section
variable {X : Type} {e : TypeId} {size : Nat} {pre : X -> List Value} {E : World -> (Nat -> Prop) -> Value -> X -> Prop} {lo : Nat -> Prop} {base n : Nat} {w w1 w2 w3 : World} {A A' : Option Addr} {c c' : Nat} {L : List X} {Z : List Value}
theorem RM.nil (lo:Nat->Prop) (base:Nat) (w:World):RM e size pre E lo base w none 0 0 []:=⟨⟨[],rfl,World.ownsRow_nil _ _ _ _,fun j p x h=>by simp at h⟩,rfl⟩
theorem RM.touch (hE:Hands E) (h:RM e size pre E lo base w A n c L) {S:Nat->Prop} (t:Touch S w w1) (h1: ∀b,(Value.slice A n c).ownBlock=some b-> ¬S b) (h2: ∀b,lo b->b<w.heap.size-> ¬S b):RM e size pre E lo base w1 A n c L:=by
 obtain⟨Ps,g1,g2,g3⟩:=h.ex
 exact⟨⟨Ps,g1,t.own g2 h1,fun j p x hp hx=>hE.mono (hE.touch (g3 j p x hp hx) t fun b hb=>h2 b hb.1 hb.2.1) fun k hk=>⟨hk.1,Nat.lt_of_lt_of_le hk.2.1 t.size,hk.2.2⟩⟩,h.hn⟩
theorem RM.below (hE:Hands E) (h:RM e size pre E lo base w A n c L) (b:Below w.heap.size w w1):RM e size pre E lo base w1 A n c L:=by
 obtain⟨Ps,h1,h2,h3⟩:=h.ex
 exact⟨⟨Ps,h1,own_below' h2 b,fun j p x hp hx=>hE.mono (hE.touch (h3 j p x hp hx) (Touch.of_size b (fun _=>False)) (fun _ _ e=>e)) fun k hk=>⟨hk.1,Nat.lt_of_lt_of_le hk.2.1 b.size,hk.2.2⟩⟩,h.hn⟩
theorem RM.block (h:RM e size pre E lo base w A n c L): ∀b,(Value.slice A n c).ownBlock=some b->base<=b/\b<w.heap.size:=by
 obtain⟨Z,-,h2,-⟩:=h.ex
 exact h2.lt
theorem RM.push (hE:Hands E) {z:Value} {x:X} (hn:n=L.length) (h1:Z.length=L.length) (h2:w.ownsRow base e size (.slice A n c) n (rmCells pre L Z)) (h3: ∀(j:Nat) z x,Z[j]? =some z->L[j]? =some x->E w (fun b=>lo b/\b<w.heap.size/\(Value.slice A n c).ownBlock≠some b) z x) (hbase:base<=w.heap.size)
  (hs:E w1 (fun b=>lo b/\b<w1.heap.size/\(Value.slice A n c).ownBlock≠some b) z x) (b1:Below w.heap.size w w1) (b2:Below w1.heap.size w1 w2)
  (own:w3.ownsRow base e size (.slice A' (n+1) c') (n+1) (rmCells pre L Z++(pre x++[z]))) (g:w2.grownBy w3 (Value.slice A n c).ownBlock) (ho:(Value.slice A' (n+1) c').ownBlock=(Value.slice A n c).ownBlock\/(Value.slice A' (n+1) c').ownBlock=some w2.heap.size):
  RM e size pre E lo base w3 A' (n+1) c' (L++[x])/\Below base w w3/\Touch (fun k=>(Value.slice A n c).ownBlock=some k) w2 w3:=by
 have t:Touch (fun k=>(Value.slice A n c).ownBlock=some k) w2 w3:=(Touch.refl _ _).grown g (fun k e _=>e)
 have b12:=b1.trans (b2.mono b1.size)
 have hvl: ∀k,(Value.slice A n c).ownBlock=some k->base<=k/\k<w.heap.size:=fun k e=>h2.lt k e
 have hnew: ∀k,(Value.slice A' (n+1) c').ownBlock=some k->(Value.slice A n c).ownBlock=some k\/k=w2.heap.size:=fun k hk=>by
  rcases ho with ho|ho
  ·exact .inl (ho▸hk)
  ·rw [ho]at hk;injection hk with hk;exact .inr hk.symm
 have s1:=b1.size
 have s2:=b2.size
 have s3:=t.size
 refine⟨⟨⟨Z++[z],by simp [h1],by rw [rmCells_app h1];exact own,fun j p y hp hx=> ?_⟩,by rw [List.length_append,<-hn];rfl⟩,t.toBelow (fun k e=>(hvl k e).1) (b12.mono hbase) (Nat.le_trans hbase b12.size),t⟩
 by_cases hj:j<Z.length
 ·rw [List.getElem?_append_left hj]at hp
  rw [List.getElem?_append_left (by omega)]at hx
  refine hE.mono (hE.touch (hE.touch (h3 j p y hp hx) (Touch.of_size b12 (fun _=>False)) (fun _ _ e=>e)) t (fun k hk=>hk.2.2)) fun k hk=>⟨hk.1,by omega,fun e=> ?_⟩
  rcases hnew k e with e|e
  ·exact hk.2.2 e
  ·omega
 ·have hj':j=Z.length:=by have:=(List.getElem?_eq_some_iff.1 hp).1;simp at this;omega
  subst hj'
  rw [List.getElem?_append_right (Nat.le_refl _),Nat.sub_self]at hp
  rw [List.getElem?_append_right (by omega),h1,Nat.sub_self]at hx
  injection hp with hp
  injection hx with hx
  subst hp hx
  refine hE.mono (hE.touch (hE.touch hs (Touch.of_size b2 (fun _=>False)) (fun _ _ e=>e)) t (fun k hk=>hk.2.2)) fun k hk=>⟨hk.1,by omega,fun e=> ?_⟩
  rcases hnew k e with e|e
  ·exact hk.2.2 e
  ·omega
end
end Go.Proofs.YtlpipniclimgeaaGreat
namespace Go.Proofs.YtlpipniclimgeaaGreat
set_option linter.unusedVariables false
set_option linter.unusedSimpArgs false
open Go.RowKit Go.Maps
attribute [local irreducible] wpStill wpOne wpPh
abbrev PV (vr:Value) (T N:Int) (vrow vrows vgow vgows:Value):Value:= .agg #[vr,.int .i64 T,.int .i64 N,vrow,vrows,vgow,vgows]
structure IsPack (w:World) (F:Nat->Prop) (vr vrow vrows vgow vgows:Value) (p:PackD):Prop where
 rules:RdL w F 2 (ERule w F) vr p.rules
 row:RdI w F vrow p.row
 rows:RdUs w F vrows p.rows
 gow:RdI w F vgow p.gow
 gows:RdUs w F vgows p.gows
 lt: ∀b,F b->b<w.heap.size
 tn:W64 p.terms/\W64 p.nons
 wr: ∀r∈p.rules,W64 r.1
 wrow: ∀x∈p.row,W64 x
 wgow: ∀x∈p.gow,W64 x
 u1: ∀r∈p.rows,U16 r
 u2: ∀r∈p.gows,U16 r
theorem IsPack.below {w w':World} {F:Nat->Prop} {vr vrow vrows vgow vgows:Value} {p:PackD} (h:IsPack w F vr vrow vrows vgow vgows p) (b:Below w.heap.size w w'):IsPack w' F vr vrow vrows vgow vgows p:=
 ⟨h.rules.below b h.lt fun cs x _ e=>e.below b h.lt,Rd.below h.row b h.lt,h.rows.below b h.lt,Rd.below h.gow b h.lt,h.gows.below b h.lt,fun k hk=>Nat.lt_of_lt_of_le (h.lt k hk) b.size,h.tn,h.wr,h.wrow,h.wgow,h.u1,h.u2⟩
theorem IsPack.touch {w w':World} {F S:Nat->Prop} {vr vrow vrows vgow vgows:Value} {p:PackD} (h:IsPack w F vr vrow vrows vgow vgows p) (t:Touch S w w') (hS: ∀b,F b-> ¬S b):IsPack w' F vr vrow vrows vgow vgows p:=
 ⟨h.rules.touch t hS fun cs x _ e=>by
  obtain⟨v,e1,e2⟩:=e
  exact⟨v,e1,Rd.touch e2 t hS⟩,Rd.touch h.row t hS,h.rows.touch t hS,Rd.touch h.gow t hS,h.gows.touch t hS,fun k hk=>Nat.lt_of_lt_of_le (h.lt k hk) t.size,h.tn,h.wr,h.wrow,h.wgow,h.u1,h.u2⟩
theorem RdL.mono {X:Type} {w:World} {F F':Nat->Prop} {k:Nat} {E E':List Value->X->Prop} {v:Value} {xs:List X} (h:RdL w F k E v xs) (hF: ∀b,F b->F' b) (hE: ∀cs x,E cs x->E' cs x):RdL w F' k E' v xs:=by
 obtain⟨A,c,hv,h1,h2,hr⟩:=h
 refine⟨A,c,hv,h1,h2,fun hn=> ?_⟩
 obtain⟨b,off,hA,hb,hcell⟩:=hr hn
 refine⟨b,off,hA,hF b hb,fun i x hx=> ?_⟩
 obtain⟨cs,e1,e2,e3⟩:=hcell i x hx
 exact⟨cs,e1,hE cs x e2,e3⟩
theorem IsPack.mono {w:World} {F F':Nat->Prop} {vr vrow vrows vgow vgows:Value} {p:PackD} (h:IsPack w F vr vrow vrows vgow vgows p) (hF: ∀b,F b->F' b) (hl: ∀b,F' b->b<w.heap.size):IsPack w F' vr vrow vrows vgow vgows p:=
 ⟨h.rules.mono hF fun cs x e=>by
  obtain⟨v,e1,e2⟩:=e
  exact⟨v,e1,Rd.mono e2 hF⟩,Rd.mono h.row hF,h.rows.mono hF,Rd.mono h.gow hF,h.gows.mono hF,hl,h.tn,h.wr,h.wrow,h.wgow,h.u1,h.u2⟩
theorem rdl_nil {X:Type} (w:World) (F:Nat->Prop) (k:Nat) (E:List Value->X->Prop):RdL w F k E (.slice none 0 0) []:=⟨none,0,rfl,Nat.le_refl _,by unfold maxLen;omega,fun h=>absurd h (by simp)⟩
theorem rdrw_nil {X:Type} (E:Value->X->Prop) (w:World) (F:Nat->Prop):RdRw E w F (.slice none 0 0) []:=⟨[],rfl,Rd.nil _ _ _,fun j z x h=>by simp at h⟩
theorem IsPack.none (w:World) (F:Nat->Prop) (hl: ∀b,F b->b<w.heap.size):IsPack w F (.slice none 0 0) (.slice none 0 0) (.slice none 0 0) (.slice none 0 0) (.slice none 0 0) noPack:=
 ⟨rdl_nil _ _ _ _,Rd.nil _ _ _,rdrw_nil _ _ _,Rd.nil _ _ _,rdrw_nil _ _ _,hl,by unfold W64 noPack;decide,fun r h=>(by cases h),fun r h=>(by cases h),fun r h=>(by cases h),fun r h=>(by cases h),fun r h=>(by cases h)⟩
theorem IsPack.slices {w:World} {F:Nat->Prop} {vr vrow vrows vgow vgows:Value} {p:PackD} (h:IsPack w F vr vrow vrows vgow vgows p): ∃A1 c1 A2 c2 A3 c3 A4 c4 A5 c5,vr= .slice A1 p.rules.length c1/\vrow= .slice A2 p.row.length c2/\vrows= .slice A3 p.rows.length c3/\vgow= .slice A4 p.gow.length c4/\vgows= .slice A5 p.gows.length c5/\
  (p.rules.length<=c1/\c1<=9223372036854775807)/\(p.row.length<=c2/\c2<=9223372036854775807)/\(p.rows.length<=c3/\c3<=9223372036854775807)/\(p.gow.length<=c4/\c4<=9223372036854775807)/\(p.gows.length<=c5/\c5<=9223372036854775807):=by
 obtain⟨A1,c1,e1,h1,m1,-⟩:=h.rules
 obtain⟨A2,n2,c2,e2,h2,m2,l2,-⟩:=h.row
 obtain⟨A3,c3,e3,h3,m3⟩:=RdRw.shape h.rows
 obtain⟨A4,n4,c4,e4,h4,m4,l4,-⟩:=h.gow
 obtain⟨A5,c5,e5,h5,m5⟩:=RdRw.shape h.gows
 rw [List.length_map,Nat.mul_one]at l2 l4
 subst l2 l4
 unfold maxLen at m1 m2 m3 m4 m5
 exact⟨A1,c1,A2,c2,A3,c3,A4,c4,A5,c5,e1,e2,e3,e4,e5,⟨h1,by omega⟩,⟨h2,by omega⟩,⟨h3,by omega⟩,⟨h4,by omega⟩,⟨h5,by omega⟩⟩
def LenT (t:TabD):Prop:=(∀r∈t.acts,r.length<=70000)/\ ∀r∈t.goto,r.length<=70000
def packO (t:TabD):PackD:=if fitT t=true then packT t else noPack
theorem nums_u16A {t:TabD} (h:fitT t=true): ∀r∈numsA t,U16 r:=fun r hr n hn=>by
 obtain⟨x,hx,rfl⟩:=List.mem_map.1 hr
 obtain⟨a,ha,rfl⟩:=List.mem_map.1 hn
 obtain⟨i,hi,e⟩:=List.getElem_of_mem hx
 have:=fit_act h (i:=i) (x:=x) (by rw [List.getElem?_eq_getElem hi,e]) ha
 unfold codeA
 omega
theorem nums_u16G {t:TabD} (h:fitT t=true): ∀r∈numsG t,U16 r:=fun r hr n hn=>by
 obtain⟨x,hx,rfl⟩:=List.mem_map.1 hr
 obtain⟨a,ha,rfl⟩:=List.mem_map.1 hn
 obtain⟨i,hi,e⟩:=List.getElem_of_mem hx
 have:=fit_way h (i:=i) (y:=x) (by rw [List.getElem?_eq_getElem hi,e]) ha
 omega
theorem packU_next {rs:List (List Int)} {j:Nat} {x:List Int} (h:rs[j]? =some x):packU (rs.take (j+1))=(putR (packU (rs.take j)).1 x,(packU (rs.take j)).2++[((plR (packU (rs.take j)).1 x:Nat):Int)]):=by rw [take_next h,packU_snoc];rfl
structure PkS (V0:World) (ow0:Nat->Nat) (V:World) (ow:Nat->Nat) (P Ba Ma Bg Mg:Nat) (A1:Option Addr) (R c1:Nat) (T N:Int) (Ar:Option Addr) (cr:Nat) (Ao:Option Addr) (co:Nat) (Aa:Option Addr) (na ca:Nat) (Ag:Option Addr) (ng cg j i:Nat) (t:TabD):Prop where
 st:StL (fun k=>k≠0) V0 ow0 V ow
 oP:ow P=1
 kP:Blk V P 26 #[.slice A1 R c1,.int .i64 T,.int .i64 N,.slice Ar j cr,.slice none 0 0,.slice Ao i co,.slice none 0 0]
 ra:RowsT V ow 2 3 4 5 Ba Ma Aa na ca (packU ((numsA t).take j)).1
 rg:RowsT V ow 6 7 8 9 Bg Mg Ag ng cg (packU ((numsG t).take i)).1
 rr:Row V ow 10 3 1 Ar j cr ((packU ((numsA t).take j)).2.map (Value.int .i64))
 ro:Row V ow 11 3 1 Ao i co ((packU ((numsG t).take i)).2.map (Value.int .i64))
section
variable {V0 V V' V6 V7 V8 V9 : World} {ow0 ow ow' ow6 ow7 ow8 : Nat -> Nat} {P Ba Ma Bg Mg : Nat} {A1 : Option Addr} {R c1 : Nat} {T N : Int} {Ar : Option Addr} {cr : Nat} {Ao : Option Addr} {co : Nat} {Aa : Option Addr} {na ca : Nat} {Ag : Option Addr} {ng cg j i : Nat} {t : TabD} {J : Nat -> Prop}
theorem PkS.step (h:PkS V0 ow0 V ow P Ba Ma Bg Mg A1 R c1 T N Ar cr Ao co Aa na ca Ag ng cg j i t) (s:StL (fun _=>False) V ow V' ow'):PkS V0 ow0 V' ow' P Ba Ma Bg Mg A1 R c1 T N Ar cr Ao co Aa na ca Ag ng cg j i t:=
 ⟨h.st.trans (s.mono fun _ e=>e.elim),(s.eq P h.kP.lt).trans h.oP,h.kP.touch s.t id,h.ra.step s id id id id,h.rg.step s id id id id,h.rr.step s id,h.ro.step s id⟩
theorem PkS.pushA {Aa':Option Addr} {na' ca':Nat} {x:List Int} {A9:Option Addr} {c9:Nat} (h:PkS V0 ow0 V6 ow6 P Ba Ma Bg Mg A1 R c1 T N Ar cr Ao co Aa na ca Ag ng cg j i t) (hx:(numsA t)[j]? =some x)
  (s7:StL (fun k=>k=2\/k=3\/k=4) V6 ow6 V7 ow7) (ra:RowsT V7 ow7 2 3 4 5 Ba Ma Aa' na' ca' (putR (packU ((numsA t).take j)).1 x)) (s8:StL (fun _=>False) V7 ow7 V8 ow8)
  (own:V9.ownsRow 0 3 1 (.slice A9 (j+1) c9) (j+1) ((packU ((numsA t).take j)).2.map (Value.int .i64)++[.int .i64 ((plR (packU ((numsA t).take j)).1 x:Nat):Int)])) (g:V8.grownBy V9 (Value.slice Ar j cr).ownBlock) (hb:(Value.slice A9 (j+1) c9).ownBlock=(Value.slice Ar j cr).ownBlock\/(Value.slice A9 (j+1) c9).ownBlock=some V8.heap.size):
  ∃ow9,PkS V0 ow0 (V9.setCell ⟨P,3,none⟩ (.slice A9 (j+1) c9)) ow9 P Ba Ma Bg Mg A1 R c1 T N A9 c9 Ao co Aa' na' ca' Ag ng cg (j+1) i t/\Blk V9 P 26 #[.slice A1 R c1,.int .i64 T,.int .i64 N,.slice Ar j cr,.slice none 0 0,.slice Ao i co,.slice none 0 0]:=by
 have rr8:=(h.rr.step s7 (by omega)).step s8 id
 obtain⟨rr9,s9⟩:=rr8.app own g hb
 have oP7:=(s7.eq P h.kP.lt).trans h.oP
 have kP7:=h.kP.touch s7.t (by rw [h.oP];omega)
 have oP8:=(s8.eq P kP7.lt).trans oP7
 have kP8:=kP7.touch s8.t id
 have oP9:=(s9.eq P kP8.lt).trans oP8
 have kP9:=kP8.touch s9.t (by rw [oP8];omega)
 obtain⟨ow9,how9⟩: ∃q,q=ext V8 ow8 10:=⟨_,rfl⟩
 rw [<-how9]at rr9 s9 oP9
 have s10:StL (fun k=>k=1) V9 ow9 (V9.setCell ⟨P,3,none⟩ (.slice A9 (j+1) c9)) ow9:=⟨(Touch.refl _ _).setCell (p:=⟨P,3,none⟩) (fun _=>oP9) _,fun _ _=>rfl⟩
 have hn:=packU_next hx
 refine⟨ow9,⟨((((h.st.trans (s7.mono fun k e=>by omega)).trans (s8.mono fun _ e=>e.elim)).trans (s9.mono fun k e=>by omega)).trans (s10.mono fun k e=>by omega)),oP9,kP9.put 3 _,?_,?_,?_,?_⟩,kP9⟩
 ·rw [hn]
  exact((ra.step s8 id id id id).step s9 (by omega) (by omega) (by omega) (by omega)).step s10 (by omega) (by omega) (by omega) (by omega)
 ·exact(((h.rg.step s7 (by omega) (by omega) (by omega) (by omega)).step s8 id id id id).step s9 (by omega) (by omega) (by omega) (by omega)).step s10 (by omega) (by omega) (by omega) (by omega)
 ·rw [hn,List.map_append]
  exact rr9.step s10 (by omega)
 ·exact(((h.ro.step s7 (by omega)).step s8 id).step s9 (by omega)).step s10 (by omega)
theorem PkS.pushG {Ag':Option Addr} {ng' cg':Nat} {x:List Int} {A9:Option Addr} {c9:Nat} (h:PkS V0 ow0 V6 ow6 P Ba Ma Bg Mg A1 R c1 T N Ar cr Ao co Aa na ca Ag ng cg j i t) (hx:(numsG t)[i]? =some x)
  (s7:StL (fun k=>k=6\/k=7\/k=8) V6 ow6 V7 ow7) (rg:RowsT V7 ow7 6 7 8 9 Bg Mg Ag' ng' cg' (putR (packU ((numsG t).take i)).1 x)) (s8:StL (fun _=>False) V7 ow7 V8 ow8)
  (own:V9.ownsRow 0 3 1 (.slice A9 (i+1) c9) (i+1) ((packU ((numsG t).take i)).2.map (Value.int .i64)++[.int .i64 ((plR (packU ((numsG t).take i)).1 x:Nat):Int)])) (g:V8.grownBy V9 (Value.slice Ao i co).ownBlock) (hb:(Value.slice A9 (i+1) c9).ownBlock=(Value.slice Ao i co).ownBlock\/(Value.slice A9 (i+1) c9).ownBlock=some V8.heap.size):
  ∃ow9,PkS V0 ow0 (V9.setCell ⟨P,5,none⟩ (.slice A9 (i+1) c9)) ow9 P Ba Ma Bg Mg A1 R c1 T N Ar cr A9 c9 Aa na ca Ag' ng' cg' j (i+1) t/\Blk V9 P 26 #[.slice A1 R c1,.int .i64 T,.int .i64 N,.slice Ar j cr,.slice none 0 0,.slice Ao i co,.slice none 0 0]:=by
 have ro8:=(h.ro.step s7 (by omega)).step s8 id
 obtain⟨ro9,s9⟩:=ro8.app own g hb
 have oP7:=(s7.eq P h.kP.lt).trans h.oP
 have kP7:=h.kP.touch s7.t (by rw [h.oP];omega)
 have oP8:=(s8.eq P kP7.lt).trans oP7
 have kP8:=kP7.touch s8.t id
 have oP9:=(s9.eq P kP8.lt).trans oP8
 have kP9:=kP8.touch s9.t (by rw [oP8];omega)
 obtain⟨ow9,how9⟩: ∃q,q=ext V8 ow8 11:=⟨_,rfl⟩
 rw [<-how9]at ro9 s9 oP9
 have s10:StL (fun k=>k=1) V9 ow9 (V9.setCell ⟨P,5,none⟩ (.slice A9 (i+1) c9)) ow9:=⟨(Touch.refl _ _).setCell (p:=⟨P,5,none⟩) (fun _=>oP9) _,fun _ _=>rfl⟩
 have hn:=packU_next hx
 refine⟨ow9,⟨((((h.st.trans (s7.mono fun k e=>by omega)).trans (s8.mono fun _ e=>e.elim)).trans (s9.mono fun k e=>by omega)).trans (s10.mono fun k e=>by omega)),oP9,kP9.put 5 _,?_,?_,?_,?_⟩,kP9⟩
 ·exact(((h.ra.step s7 (by omega) (by omega) (by omega) (by omega)).step s8 id id id id).step s9 (by omega) (by omega) (by omega) (by omega)).step s10 (by omega) (by omega) (by omega) (by omega)
 ·rw [hn]
  exact((rg.step s8 id id id id).step s9 (by omega) (by omega) (by omega) (by omega)).step s10 (by omega) (by omega) (by omega) (by omega)
 ·exact(((h.rr.step s7 (by omega)).step s8 id).step s9 (by omega)).step s10 (by omega)
 ·rw [hn,List.map_append]
  exact ro9.step s10 (by omega)
end
end Go.Proofs.YtlpipniclimgeaaGreat

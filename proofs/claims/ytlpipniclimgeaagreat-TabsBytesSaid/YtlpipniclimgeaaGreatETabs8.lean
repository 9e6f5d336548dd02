/- Tables as bytes, the reference: two, line. -/
import Derived.Test.YtlpipniclimgeaaGreatETabs5
import Derived.Test.YtlpipniclimgeaaGreatERs1
import Derived.Test.YtlpipniclimgeaaGreatEPack8
namespace Go.Proofs.YtlpipniclimgeaaGreat
set_option linter.unusedVariables false
set_option linter.unusedSimpArgs false
open Go.RowKit
attribute [local irreducible] wpStill wpOne wpPh
def TwoP (w:World) (n:Int) (e:Ending) (w':World):Prop:=e= .returned (.slice (some ⟨w.heap.size,0,none⟩) 2 2)/\w'=w.alloc (.cells #[.int .u8 (n/256%256),.int .u8 (n%256)] 5)
theorem ref18_two (w:World) {n:Int} (h:N16 n):Calls Tryz.prog 24 #[.int .i64 n] w (TwoP w n):=by
 have hh:=byte_hi n
 have hlo:=byte_lo n
 have ht:n.tdiv 256=n/256:=Int.tdiv_eq_ediv_of_nonneg h.1
 have hw:IntKind.i64.wrap (n/256)=n/256:=by have:=h.1;have:=h.2;rw [IntKind.wrap_i64];omega
 have hw2:wrap64 (n/256)=n/256:=by have:=h.1;have:=h.2;unfold wrap64;omega
 have Xh:=hide h;clear h
 go_enter Tryz.func24,Tryz.ntmps24
 go_wp2_with fail
 go_ret
 exact⟨rfl,rfl⟩
def OwnP (w:World) (L:List Int) (e:Ending) (w':World):Prop:=Below w.heap.size w w'/\ ∃A c,e= .returned (.slice A L.length c)/\w'.ownsRow w.heap.size 5 1 (.slice A L.length c) L.length (L.map I8)
set_option maxRecDepth 100000 in
theorem ref18_line {w:World} {F:Nat->Prop} {v:Value} {xs:List Int} (hx:RdI w F v xs) (hF: ∀b,F b->b<w.heap.size) (hl:xs.length<=40000000) (h0: ∀x∈xs,N16 x):
  Calls Tryz.prog 23 #[v] w (OwnP w (encB xs)):=by
 obtain⟨A,n,c,rfl,-⟩:=id hx
 obtain⟨hn,hnc,hcm,-⟩:=RdI.at_ hx
 unfold maxLen at hcm
 have own0:w.ownsRow w.heap.size 5 1 (.slice none 0 0) 0 (([]:List Int).map I8):=World.ownsRow_nil _ _ _ _
 obtain⟨Xhx,XhF,Xhn,Xown0,Xhl,Xh0⟩:=HqZ6 hx hF hn own0 hl h0;clear hx hF hn own0 hl h0
 go_enter Tryz.func23,Tryz.ntmps23
 go_wp2_with fail
 go_loopw [3,4] (fun o i wr=> ∃(k m:Nat) (B:Option Addr) (d:Nat),k<=n/\i= .int .i64 k/\m=2 * k/\o= .slice B m d/\wr.ownsRow w.heap.size 5 1 (.slice B m d) m ((encB (xs.take k)).map I8)/\Below w.heap.size w wr) (fun o i _=>n - (intOf i).toNat)
 case atStart=>exact⟨0,0,none,0,Nat.zero_le _,rfl,rfl,rfl,Xown0.out,Below.refl _ _⟩
 case round=>
  obtain⟨k,m,B,d,hk,rfl,hm,rfl,own,bb⟩:=hrel
  by_cases hlt:k<n
  ·have hlt1:(k:Int)<(n:Int):=by omega
   obtain⟨x,hxk⟩: ∃x,xs[k]? =some x:=⟨_,List.getElem?_eq_getElem (by rw [<-Xhn.out];exact hlt)⟩
   have hr:=Rd.below Xhx.out bb XhF.out
   obtain⟨-,-,-,hcell⟩:=RdI.at_ hr
   obtain⟨bk,off,rfl,-,hc⟩:=hcell (by omega)
   have p0:=hc k x hxk
   have cT:=ref18_two wr (Xh0.out x (List.mem_of_getElem? hxk))
   have hbz:=bb.size
   have al:Below wr.heap.size wr (wr.alloc (.cells #[.int .u8 (x/256%256),.int .u8 (x%256)] 5)):=(Below.refl _ _).alloc (Nat.le_refl _) _
   have own2:=(Touch.of_size al (fun _=>False)).own own fun _ _ c=>c
   have rtwo:Rd (wr.alloc (.cells #[.int .u8 (x/256%256),.int .u8 (x%256)] 5)) (fun b=>b=wr.heap.size) (.slice (some ⟨wr.heap.size,0,none⟩) 2 2) 1 [.int .u8 (x/256%256),.int .u8 (x%256)]:=Rd.of_blk (F:=fun b=>b=wr.heap.size) (us:=[.int .u8 (x/256%256),.int .u8 (x%256)]) (n:=2) (Blk.new _ _ _) rfl rfl (by decide)
   have two:(encB (xs.take k)).map I8++[.int .u8 (x/256%256),.int .u8 (x%256)]=(encB (xs.take (k+1))).map I8:=by rw [takeT_snoc hxk,encB_app,List.map_append];rfl
   have hml:m+2<=100000000:=by have:=Xhl.out;have:=Xhn.out;omega
   obtain⟨us,hus⟩: ∃q,q=(encB (xs.take k)).map I8:=⟨_,rfl⟩
   rw [<-hus]at own2 two
   have bbA:=bb.trans (al.mono hbz)
   clear hr hcell hc hxk own hus bb
   obtain⟨XcT,Xown2,Xrtwo,Xtwo,Xhm,Xhml,Xal,XbbA,Xhbz⟩:=HqZ9 cT own2 rtwo two hm hml al bbA hbz;clear cT own2 rtwo two hm hml al bbA hbz
   go_wp2_with fail
   refine XcT.out.mono ?_
   rintro e w5 ⟨rfl,rfl⟩
   go_wp2_with (at_builtin;refine wp_append2 _ rfl (.tmp 11) (.tmp 16) _ rfl Tryz.elemU8 w.heap.size (.slice B m d) m _ rfl (.inl Xown2.out) _ _ [.int .u8 (x/256%256),.int .u8 (x%256)] 2 rfl rfl (by decide) Xrtwo.out (by simp [Value.oneCell']) (by have:=Xhml.out;unfold maxLen;omega) (by have:=Xhml.out;omega) (by have:=Xal.out.size;have:=Xhbz.out;omega) ?_)
   intro A4 c4 w4 own4 g4 ho4
   have b4:Below w.heap.size w w4:=by
    have t4:Touch (fun k=>(Value.slice B m d).ownBlock=some k) _ w4:=(Touch.refl _ _).grown g4 (fun k e _=>e)
    exact t4.toBelow (fun k e=>(Xown2.out.lt k e).1) XbbA.out XbbA.out.size
   rw [Xtwo.out]at own4
   clear g4 ho4
   obtain⟨Xown4,Xb4⟩:=HqZ2 own4 b4;clear own4 b4
   go_wp2_with fail
   go_roundw
   case rel=>exact⟨k+1,m+2,A4,c4,by omega,by go_num,by have:=Xhm.out;omega,rfl,Xown4.out,Xb4.out⟩
   case measure=>simp [intOf];omega
  ·have hlt1: ¬(k:Int)<(n:Int):=by omega
   have e0:xs.take k=xs:=List.take_of_length_le (by have:=Xhn.out;omega)
   rw [e0]at own
   have hm2:m=(encB xs).length:=by rw [encB_len];have:=Xhn.out;omega
   clear e0
   obtain⟨Xown,Xbb,Xhm,Xhm2⟩:=HqZ4 own bb hm hm2;clear own bb hm hm2
   go_wp2_with fail
   go_ret
   unfold OwnP
   rw [<-Xhm2.out]
   exact⟨Xbb.out,B,d,rfl,Xown.out⟩
def OwnB (base:Nat) (w:World) (v:Value) (m:Nat) (L:List Int):Prop:=OwnF w base 5 1 v m (L.map I8)/\ ∀k,v.ownBlock=some k->base<=k
def OwnQ (w:World) (L:List Int) (e:Ending) (w':World):Prop:=Below w.heap.size w w'/\ ∃A c,e= .returned (.slice A L.length c)/\OwnB w.heap.size w' (.slice A L.length c) L.length L
set_option maxRecDepth 100000 in
set_option maxHeartbeats 2000000 in
theorem ref18_rows {w:World} {F:Nat->Prop} {v:Value} {R:List (List Int)} (hx:RdUs w F v R) (hu: ∀r∈R,U16 r) (hF: ∀b,F b->b<w.heap.size) (hl:R.flatten.length<=40000000) (h0:R.length<=65535):
  Calls Tryz.prog 25 #[v] w (OwnQ w (encB (rowsN R))):=by
 obtain⟨A,c,rfl,hnc,hcm⟩:=RdRw.shape hx
 unfold maxLen at hcm
 obtain⟨n,hn⟩: ∃q,q=R.length:=⟨_,rfl⟩
 rw [<-hn]at hx hnc h0⊢
 have cT0:=ref18_two w (n:=(n:Int)) ⟨by omega,by omega⟩
 have e1:encB (rowsN R)=twoB (n:Int)++encB R.flatten:=by
  have hd:rowsN R=[(n:Int)]++R.flatten:=by rw [hn];rfl
  rw [hd,encB_app];rfl
 rw [e1]
 obtain⟨T0,hT0⟩: ∃q,q=twoB (n:Int):=⟨_,rfl⟩
 have hT2:T0.length=2:=by rw [hT0];rfl
 obtain⟨w1,hw1⟩: ∃q,q=w.alloc (.cells #[.int .u8 ((n:Int)/256%256),.int .u8 ((n:Int)%256)] 5):=⟨_,rfl⟩
 have b1:Below w.heap.size w w1:=by rw [hw1];exact(Below.refl _ w).alloc (Nat.le_refl _) _
 have own1:OwnB w.heap.size w1 (.slice (some ⟨w.heap.size,0,none⟩) 2 2) 2 (T0++encB ([]:List Int)):=by
  have k:Blk w1 w.heap.size 5 #[.int .u8 ((n:Int)/256%256),.int .u8 ((n:Int)%256)]:=by rw [hw1];exact Blk.new _ _ _
  refine⟨.inr ⟨w.heap.size,rfl,by decide,by rw [List.length_map,List.length_append,hT2];rfl,k.lt,fun j u hu=> ?_⟩,fun k e=>by have e:some w.heap.size=some k:=e;injection e with e;omega⟩
  rw [hT0,show encB []=[]from rfl,List.append_nil,show(twoB (n:Int)).map I8=[.int .u8 ((n:Int)/256%256),.int .u8 ((n:Int)%256)]from rfl]at hu
  have:=k.cell j
  rw [this]
  simpa using hu
 unfold TwoP at cT0
 rw [<-hw1]at cT0
 rw [<-hT0]
 clear e1 hT0 hw1
 obtain⟨Xhx,XhF,Xhn,Xhl,Xhu,XcT0,Xb1,Xown1,XhT2⟩:=HqZ9 hx hF hn hl hu cT0 b1 own1 hT2;clear hx hF hn hl hu cT0 b1 own1 hT2
 go_enter Tryz.func25,Tryz.ntmps25
 go_wp2_with fail
 refine XcT0.out.mono ?_
 rintro e w' ⟨rfl,rfl⟩
 clear XcT0
 go_wp2_with fail
 go_loopw [3,4] (fun o i wr=> ∃(k m:Nat) (B:Option Addr) (d:Nat),k<=n/\i= .int .i64 k/\m=2+2 * (R.take k).flatten.length/\o= .slice B m d/\OwnB w.heap.size wr (.slice B m d) m (T0++encB (R.take k).flatten)/\Below w.heap.size w wr) (fun o i _=>n - (intOf i).toNat)
 case atStart=>exact⟨0,2,_,2,Nat.zero_le _,rfl,rfl,rfl,Xown1.out,Xb1.out⟩
 case round=>
  obtain⟨k,m,B,d,hk,rfl,hm,rfl,own,bb⟩:=hrel
  by_cases hlt:k<n
  ·have hlt1:(k:Int)<(n:Int):=by omega
   obtain⟨x,hxk⟩: ∃x,R[k]? =some x:=⟨_,List.getElem?_eq_getElem (by rw [<-Xhn.out];exact hlt)⟩
   obtain⟨b0,o0,A',c',rfl,hb0,p0,rx,hxc,hxm⟩:=RdUs.row Xhx.out hxk
   unfold maxLen at hxm
   have hfl:(R.take (k+1)).flatten=(R.take k).flatten++x:=by rw [takeT_snoc hxk,List.flatten_append];simp
   have hle:(R.take k).flatten.length+x.length<=R.flatten.length:=by
    have e:R.flatten=(R.take (k+1)).flatten++(R.drop (k+1)).flatten:=by rw [<-List.flatten_append,List.take_append_drop]
    rw [e,hfl,List.length_append,List.length_append]
    omega
   obtain⟨q,hq⟩: ∃q,q=x.length:=⟨_,rfl⟩
   rw [<-hq]at p0 rx hxc hle
   have hux:=Xhu.out x (List.mem_of_getElem? hxk)
   have hmq:m+2 * q<=80000002:=by have:=Xhl.out;omega
   obtain⟨L1,hL1⟩: ∃L,L=T0++encB (R.take k).flatten:=⟨_,rfl⟩
   have eL:T0++encB (R.take (k+1)).flatten=L1++encB x:=by rw [hfl,hL1,encB_app,List.append_assoc]
   have em:2+2 * (R.take (k+1)).flatten.length=m+2 * q:=by rw [hfl,List.length_append,<-hq];omega
   rw [<-hL1]at own
   clear hfl hle hL1 hm
   obtain⟨Xown,Xbb,Xhq,Xhux,Xhmq,XeL,Xem,Xrx,Xhxk⟩:=HqZ9 own bb hq hux hmq eL em rx hxk;clear own bb hq hux hmq eL em rx hxk
   go_wp2_with fail
   go_loopw [3,5] (fun o j wj=> ∃(i m2:Nat) (B:Option Addr) (d:Nat),i<=q/\j= .int .i64 i/\m2=m+2 * i/\o= .slice B m2 d/\OwnB w.heap.size wj (.slice B m2 d) m2 (L1++encB (x.take i))/\Below w.heap.size w wj) (fun o j _=>q - (intOf j).toNat)
   case atStart=>exact⟨0,m,B,d,Nat.zero_le _,rfl,rfl,rfl,by rw [List.take_zero];show OwnB _ _ _ _ (L1++[]);rw [List.append_nil];exact Xown.out,Xbb.out⟩
   case round=>
    clear Xown Xbb
    obtain⟨i,m2,B2,d2,hi,rfl,hm2,rfl,own,bb⟩:=hrel
    by_cases hli:i<q
    ·have hli1:(i:Int)<(q:Int):=by omega
     obtain⟨y,hy⟩: ∃y,x[i]? =some y:=⟨_,List.getElem?_eq_getElem (by rw [<-Xhq.out];exact hli)⟩
     have hr:=Rd.below Xrx.out bb XhF.out
     obtain⟨-,-,-,hcell⟩:=RdU.at_ hr
     obtain⟨bk,off,rfl,-,hc⟩:=hcell (by omega)
     have p1:=hc i y hy
     have p0:=(bb.cell (p:=⟨b0,o0+k,none⟩) (XhF.out b0 hb0)).trans p0
     have hy2:=Xhux.out y (List.mem_of_getElem? hy)
     have hwy:IntKind.i64.wrap y=y:=by rw [IntKind.wrap_i64];omega
     have cT:=ref18_two wr (n:=y) ⟨hy2.1,by omega⟩
     have hbz:=bb.size
     have al:Below wr.heap.size wr (wr.alloc (.cells #[.int .u8 (y/256%256),.int .u8 (y%256)] 5)):=(Below.refl _ _).alloc (Nat.le_refl _) _
     have own2:=own.1.touch (Touch.of_size al (fun _=>False)) fun _ _ c=>c
     have ownb:=own.2
     have rtwo:Rd (wr.alloc (.cells #[.int .u8 (y/256%256),.int .u8 (y%256)] 5)) (fun b=>b=wr.heap.size) (.slice (some ⟨wr.heap.size,0,none⟩) 2 2) 1 [.int .u8 (y/256%256),.int .u8 (y%256)]:=Rd.of_blk (F:=fun b=>b=wr.heap.size) (us:=[.int .u8 (y/256%256),.int .u8 (y%256)]) (n:=2) (Blk.new _ _ _) rfl rfl (by decide)
     have two:(L1++encB (x.take i)).map I8++[.int .u8 (y/256%256),.int .u8 (y%256)]=(L1++encB (x.take (i+1))).map I8:=by rw [takeT_snoc hy,encB_app,<-List.append_assoc,List.map_append (l₁:=L1++encB (x.take i))];rfl
     have hml:m2+2<=100000000:=by have:=Xhmq.out;omega
     obtain⟨us,hus⟩: ∃q,q=(L1++encB (x.take i)).map I8:=⟨_,rfl⟩
     rw [<-hus]at own2 two
     have bbA:=bb.trans (al.mono hbz)
     clear hr hcell hc hy own hus bb hy2
     obtain⟨XcT,Xown2,Xrtwo,Xtwo,Xhm2,Xhml,Xal,XbbA,Xhbz,Xownb⟩:=HqZ10 cT own2 rtwo two hm2 hml al bbA hbz ownb;clear cT own2 rtwo two hm2 hml al bbA hbz ownb
     go_wp2_with fail
     refine XcT.out.mono ?_
     rintro e w5 ⟨rfl,rfl⟩
     go_wp2_with (at_builtin;refine wp_append2 _ rfl (.tmp 24) (.tmp 33) _ rfl Tryz.elemU8 w.heap.size (.slice B2 m2 d2) m2 _ rfl Xown2.out _ _ [.int .u8 (y/256%256),.int .u8 (y%256)] 2 rfl rfl (by decide) Xrtwo.out (by simp [Value.oneCell']) (by have:=Xhml.out;unfold maxLen;omega) (by have:=Xhml.out;omega) (by have:=Xal.out.size;have:=Xhbz.out;omega) ?_)
     intro A4 c4 w4 own4 g4 ho4
     have b4:Below w.heap.size w w4:=by
      have t4:Touch (fun k=>(Value.slice B2 m2 d2).ownBlock=some k) _ w4:=(Touch.refl _ _).grown g4 (fun k e _=>e)
      exact t4.toBelow (fun k e=>Xownb.out k e) XbbA.out XbbA.out.size
     rw [Xtwo.out]at own4
     have own5:OwnB w.heap.size w4 (.slice A4 (m2+2) c4) (m2+2) (L1++encB (x.take (i+1))):=⟨.inl own4,fun k e=>(own4.lt k e).1⟩
     clear g4 ho4 own4
     obtain⟨Xown5,Xb4⟩:=HqZ2 own5 b4;clear own5 b4
     go_wp2_with fail
     go_roundw
     case rel=>exact⟨i+1,m2+2,A4,c4,by omega,by go_num,by have:=Xhm2.out;omega,rfl,Xown5.out,Xb4.out⟩
     case measure=>simp [intOf];omega
    ·have hli1: ¬(i:Int)<(q:Int):=by omega
     have p0:=(bb.cell (p:=⟨b0,o0+k,none⟩) (XhF.out b0 hb0)).trans p0
     have e0:x.take i=x:=List.take_of_length_le (by have:=Xhq.out;omega)
     rw [e0,<-XeL.out]at own
     have hm3:m2=2+2 * (R.take (k+1)).flatten.length:=by rw [Xem.out];omega
     clear e0 hm2
     obtain⟨Xown,Xbb,Xhm3⟩:=HqZ3 own bb hm3;clear own bb hm3
     go_wp2_with fail
     go_roundw
     case rel=>exact⟨k+1,m2,B2,d2,by omega,by go_num,Xhm3.out,rfl,Xown.out,Xbb.out⟩
     case measure=>simp [intOf];omega
  ·have hlt1: ¬(k:Int)<(n:Int):=by omega
   have e0:R.take k=R:=List.take_of_length_le (by have:=Xhn.out;omega)
   rw [e0]at own hm
   have hm2:m=(T0++encB R.flatten).length:=by rw [List.length_append,encB_len,XhT2.out];omega
   clear e0 hm
   obtain⟨Xown,Xbb,Xhm2⟩:=HqZ3 own bb hm2;clear own bb hm2
   go_wp2_with fail
   go_ret
   unfold OwnQ
   rw [<-Xhm2.out]
   exact⟨Xbb.out,B,d,rfl,Xown.out⟩
def SmR (r:Int×List Int):Prop:=N16 r.1/\r.2.length<=65535/\ ∀x∈r.2,N16 x
def SmP (p:PackD):Prop:=p.terms<=65535/\p.nons<=65535/\p.rules.length<=65535/\p.row.length<=65535/\ ∀r∈p.rules,SmR r
set_option maxRecDepth 100000 in
set_option maxHeartbeats 4000000 in
theorem ref18_small {w:World} {F:Nat->Prop} {v1 v2 v3 v4 v5:Value} {p:PackD} (h:IsPack w F v1 v2 v3 v4 v5 p) {r:Bool} (hr:r=true↔SmP p):
  Calls Tryz.prog 22 #[PV v1 p.terms p.nons v2 v3 v4 v5] w (Quiet w (.bool r)):=by
 obtain⟨A1,c1,A2,c2,A3,c3,A4,c4,A5,c5,rfl,rfl,rfl,rfl,rfl,⟨i1,j1⟩,-⟩:=h.slices
 have u1:=Nat.le_trans i1 j1
 clear i1 j1
 obtain⟨w1,hw1⟩: ∃q',q'=w.alloc (.cells #[.slice A1 p.rules.length c1,.int .i64 p.terms,.int .i64 p.nons,.slice A2 p.row.length c2,.slice A3 p.rows.length c3,.slice A4 p.gow.length c4,.slice A5 p.gows.length c5] 26):=⟨_,rfl⟩
 have g1:=PBox.new h p.terms p.nons
 have b1:Below w.heap.size w w1:=by rw [hw1];exact(Below.refl _ w).alloc (Nat.le_refl _) _
 rw [<-hw1]at g1
 unfold SmP at hr
 obtain⟨T,gT⟩: ∃x,x=p.terms:=⟨_,rfl⟩
 obtain⟨N,gN⟩: ∃x,x=p.nons:=⟨_,rfl⟩
 obtain⟨n1,k1⟩: ∃x,x=p.rules.length:=⟨_,rfl⟩
 obtain⟨n2,k2⟩: ∃x,x=p.row.length:=⟨_,rfl⟩
 obtain⟨n3,k3⟩: ∃x,x=p.rows.length:=⟨_,rfl⟩
 obtain⟨n4,k4⟩: ∃x,x=p.gow.length:=⟨_,rfl⟩
 obtain⟨n5,k5⟩: ∃x,x=p.gows.length:=⟨_,rfl⟩
 rw [<-gT,<-gN,<-k1,<-k2,<-k3,<-k4,<-k5]at g1 hw1
 rw [<-gT,<-gN]
 rw [<-gT,<-gN,<-k1,<-k2]at hr
 rw [<-k1,<-k2,<-k3,<-k4,<-k5]
 rw [<-k1]at u1
 obtain⟨a0,a1,a2,a3,a4,a5,a6⟩:=g1.cells
 have ew:=hw1.symm
 clear h hw1
 obtain⟨Xg1,Xb1,XgT,XgN,Xk1,Xk2,Xk3,Xk4,Xk5,Xhr⟩:=HqZ10 g1 b1 gT gN k1 k2 k3 k4 k5 hr;clear g1 b1 gT gN k1 k2 k3 k4 k5 hr
 by_cases t1:65535<T
 ·go_enter Tryz.func22,Tryz.ntmps22
  have er:r=false:=by
   cases r with
   |false=>rfl
   |true=>exact absurd (Xhr.out.1 rfl) (fun z=>by have:=z.1;omega)
  subst er
  go_wp2_with fail
  go_ret
  exact⟨rfl,by first|exact Xb1.out|exact Xb1.out.drew⟩
 ·by_cases t2:65535<N
  ·go_enter Tryz.func22,Tryz.ntmps22
   have er:r=false:=by
    cases r with
    |false=>rfl
    |true=>exact absurd (Xhr.out.1 rfl) (fun z=>by have:=z.2.1;omega)
   subst er
   go_wp2_with fail
   go_ret
   exact⟨rfl,by first|exact Xb1.out|exact Xb1.out.drew⟩
  ·by_cases t3':65535<n1
   ·have t3:(65535:Int)<(n1:Int):=by omega
    go_enter Tryz.func22,Tryz.ntmps22
    have er:r=false:=by
     cases r with
     |false=>rfl
     |true=>exact absurd (Xhr.out.1 rfl) (fun z=>by have:=z.2.2.1;omega)
    subst er
    go_wp2_with fail
    go_ret
    exact⟨rfl,by first|exact Xb1.out|exact Xb1.out.drew⟩
   ·have t3: ¬(65535:Int)<(n1:Int):=by omega
    by_cases t4':65535<n2
    ·have t4:(65535:Int)<(n2:Int):=by omega
     go_enter Tryz.func22,Tryz.ntmps22
     have er:r=false:=by
      cases r with
      |false=>rfl
      |true=>exact absurd (Xhr.out.1 rfl) (fun z=>by have:=z.2.2.2.1;omega)
     subst er
     go_wp2_with fail
     go_ret
     exact⟨rfl,by first|exact Xb1.out|exact Xb1.out.drew⟩
    ·have t4: ¬(65535:Int)<(n2:Int):=by omega
     go_enter Tryz.func22,Tryz.ntmps22
     go_wp2_with fail
     go_loopw [3] (fun i wr=> ∃k:Nat,k<=n1/\i= .int .i64 k/\wr=w1/\ ∀x∈p.rules.take k,SmR x) (fun i _=>n1 - (intOf i).toNat)
     case atStart=>exact⟨0,Nat.zero_le _,rfl,by first|rfl|trivial,fun x hx=>absurd hx (by simp)⟩
     case round=>
      obtain⟨k,hk,rfl,rfl,hS⟩:=hrel
      by_cases hlt:k<n1
      ·have hlt1:(k:Int)<(n1:Int):=by omega
       obtain⟨bk,off,l,x,vx,hx,rfl,y0,y1,rx⟩:=rule_get Xg1.out.pk.rules (i:=k) (by rw [<-Xk1.out];exact hlt)
       obtain⟨A',m,c',rfl,-⟩:=id rx
       obtain⟨hm,hmc,hcm,hcell⟩:=RdI.at_ rx
       unfold maxLen at hcm
       have hin:=List.mem_of_getElem? hx
       by_cases l1:l<0
       ·clear hcell rx
        obtain⟨XhS,Xhx,Xhin,Xhm⟩:=HqZ4 hS hx hin hm;clear hS hx hin hm
        have er:r=false:=by
         cases r with
         |false=>rfl
         |true=>exact absurd (Xhr.out.1 rfl) (fun z=>by have:=(z.2.2.2.2 _ Xhin.out).1.1;have this:0<=l:=this;omega)
        subst er
        go_wp2_with fail
        go_ret
        exact⟨rfl,by first|exact Xb1.out|exact Xb1.out.drew⟩
       ·by_cases l2:65535<l
        ·clear hcell rx
         obtain⟨XhS,Xhx,Xhin,Xhm⟩:=HqZ4 hS hx hin hm;clear hS hx hin hm
         have er:r=false:=by
          cases r with
          |false=>rfl
          |true=>exact absurd (Xhr.out.1 rfl) (fun z=>by have:=(z.2.2.2.2 _ Xhin.out).1.2;have this:l<=65535:=this;omega)
         subst er
         go_wp2_with fail
         go_ret
         exact⟨rfl,by first|exact Xb1.out|exact Xb1.out.drew⟩
        ·by_cases l3':65535<m
         ·have l3:(65535:Int)<(m:Int):=by omega
          clear hcell rx
          obtain⟨XhS,Xhx,Xhin,Xhm⟩:=HqZ4 hS hx hin hm;clear hS hx hin hm
          have er:r=false:=by
           cases r with
           |false=>rfl
           |true=>exact absurd (Xhr.out.1 rfl) (fun z=>by have:=(z.2.2.2.2 _ Xhin.out).2.1;have this:x.length<=65535:=this;have:=Xhm.out;omega)
          subst er
          go_wp2_with fail
          go_ret
          exact⟨rfl,by first|exact Xb1.out|exact Xb1.out.drew⟩
         ·have l3: ¬(65535:Int)<(m:Int):=by omega
          obtain⟨XhS,Xhx,Xhin,Xhm,Xrx⟩:=HqZ5 hS hx hin hm rx;clear hS hx hin hm rx;clear hcell
          go_wp2_with fail
          go_loopw [4] (fun j wj=> ∃i:Nat,i<=m/\j= .int .i64 i/\wj=wr/\ ∀y∈x.take i,N16 y) (fun j _=>m - (intOf j).toNat)
          case atStart=>exact⟨0,Nat.zero_le _,rfl,by first|rfl|trivial,fun x hx=>absurd hx (by simp)⟩
          case round=>
           obtain⟨i,hi,rfl,rfl,hQ⟩:=hrel
           by_cases hli:i<m
           ·have hli1:(i:Int)<(m:Int):=by omega
            obtain⟨y,hy⟩: ∃y,x[i]? =some y:=⟨_,List.getElem?_eq_getElem (by rw [<-Xhm.out];exact hli)⟩
            obtain⟨-,-,-,hcell⟩:=RdI.at_ Xrx.out
            obtain⟨bq,oq,rfl,-,hc⟩:=hcell (by omega)
            have p1:=hc i y hy
            have hyi:=List.mem_of_getElem? hy
            by_cases m1:y<0
            ·clear hcell hc
             obtain⟨XhQ,Xhy,Xhyi⟩:=HqZ3 hQ hy hyi;clear hQ hy hyi
             have er:r=false:=by
              cases r with
              |false=>rfl
              |true=>exact absurd (Xhr.out.1 rfl) (fun z=>by have:=((z.2.2.2.2 _ Xhin.out).2.2 y Xhyi.out).1;omega)
             subst er
             go_wp2_with fail
             go_ret
             exact⟨rfl,by first|exact Xb1.out|exact Xb1.out.drew⟩
            ·by_cases m2:65535<y
             ·clear hcell hc
              obtain⟨XhQ,Xhy,Xhyi⟩:=HqZ3 hQ hy hyi;clear hQ hy hyi
              have er:r=false:=by
               cases r with
               |false=>rfl
               |true=>exact absurd (Xhr.out.1 rfl) (fun z=>by have:=((z.2.2.2.2 _ Xhin.out).2.2 y Xhyi.out).2;omega)
              subst er
              go_wp2_with fail
              go_ret
              exact⟨rfl,by first|exact Xb1.out|exact Xb1.out.drew⟩
             ·clear hcell hc
              obtain⟨XhQ,Xhy,Xhyi⟩:=HqZ3 hQ hy hyi;clear hQ hy hyi
              go_wp2_with fail
              go_roundw
              case rel=>
               refine⟨i+1,by omega,by go_num,by first|rfl|trivial,fun z hz=> ?_⟩
               rw [takeT_snoc Xhy.out]at hz
               rcases List.mem_append.1 hz with q|q
               ·exact XhQ.out z q
               ·rw [List.mem_singleton.1 q];exact⟨by omega,by omega⟩
              case measure=>simp [intOf];omega
           ·have hli1: ¬(i:Int)<(m:Int):=by omega
            have e0:x.take i=x:=List.take_of_length_le (by have:=Xhm.out;omega)
            rw [e0]at hQ
            clear e0
            have XhQ:=hide hQ;clear hQ
            go_wp2_with fail
            go_roundw
            case rel=>
             refine⟨k+1,by omega,by go_num,by first|rfl|trivial,fun z hz=> ?_⟩
             rw [takeT_snoc Xhx.out]at hz
             rcases List.mem_append.1 hz with q|q
             ·exact XhS.out z q
             ·rw [List.mem_singleton.1 q];exact⟨⟨by show 0<=l;omega,by show l<=65535;omega⟩,by show x.length<=_;have:=Xhm.out;omega,XhQ.out⟩
            case measure=>simp [intOf];omega
      ·have hlt1: ¬(k:Int)<(n1:Int):=by omega
       have e0:p.rules.take k=p.rules:=List.take_of_length_le (by have:=Xk1.out;omega)
       rw [e0]at hS
       have er:r=true:=Xhr.out.2 ⟨by omega,by omega,by omega,by omega,hS⟩
       subst er
       clear e0 hS
       go_wp2_with fail
       go_ret
       exact⟨rfl,by first|exact Xb1.out|exact Xb1.out.drew⟩
def Sm60 (p:PackD):Prop:=p.row.length<=60/\p.gow.length<=60/\p.rows.length<=60/\p.gows.length<=60/\p.rules.length<=60/\(∀r∈p.rows,r.length<=60)/\(∀r∈p.gows,r.length<=60)/\ ∀r∈p.rules,r.2.length<=60
set_option maxRecDepth 100000 in
set_option maxHeartbeats 4000000 in
theorem law18_small {w:World} {F:Nat->Prop} {v1 v2 v3 v4 v5:Value} {p:PackD} (h:IsPack w F v1 v2 v3 v4 v5 p) {r:Bool} (hr:r=true↔Sm60 p):
  Calls Tryz.prog 6 #[PV v1 p.terms p.nons v2 v3 v4 v5] w (Quiet w (.bool r)):=by
 obtain⟨A1,c1,A2,c2,A3,c3,A4,c4,A5,c5,rfl,rfl,rfl,rfl,rfl,⟨i1,j1⟩,-⟩:=h.slices
 have u1:=Nat.le_trans i1 j1
 clear i1 j1
 obtain⟨w1,hw1⟩: ∃q',q'=w.alloc (.cells #[.slice A1 p.rules.length c1,.int .i64 p.terms,.int .i64 p.nons,.slice A2 p.row.length c2,.slice A3 p.rows.length c3,.slice A4 p.gow.length c4,.slice A5 p.gows.length c5] 26):=⟨_,rfl⟩
 have g1:=PBox.new h p.terms p.nons
 have b1:Below w.heap.size w w1:=by rw [hw1];exact(Below.refl _ w).alloc (Nat.le_refl _) _
 rw [<-hw1]at g1
 unfold Sm60 at hr
 obtain⟨T,gT⟩: ∃x,x=p.terms:=⟨_,rfl⟩
 obtain⟨N,gN⟩: ∃x,x=p.nons:=⟨_,rfl⟩
 obtain⟨n1,k1⟩: ∃x,x=p.rules.length:=⟨_,rfl⟩
 obtain⟨n2,k2⟩: ∃x,x=p.row.length:=⟨_,rfl⟩
 obtain⟨n3,k3⟩: ∃x,x=p.rows.length:=⟨_,rfl⟩
 obtain⟨n4,k4⟩: ∃x,x=p.gow.length:=⟨_,rfl⟩
 obtain⟨n5,k5⟩: ∃x,x=p.gows.length:=⟨_,rfl⟩
 rw [<-gT,<-gN,<-k1,<-k2,<-k3,<-k4,<-k5]at g1 hw1
 rw [<-gT,<-gN]
 rw [<-k1,<-k2,<-k3,<-k4,<-k5]at hr
 rw [<-k1,<-k2,<-k3,<-k4,<-k5]
 rw [<-k1]at u1
 obtain⟨a0,a1,a2,a3,a4,a5,a6⟩:=g1.cells
 have ew:=hw1.symm
 clear h hw1
 obtain⟨Xg1,Xb1,XgT,XgN,Xk1,Xk2,Xk3,Xk4,Xk5,Xhr⟩:=HqZ10 g1 b1 gT gN k1 k2 k3 k4 k5 hr;clear g1 b1 gT gN k1 k2 k3 k4 k5 hr
 by_cases t0':60<n2
 ·have t0:(60:Int)<(n2:Int):=by omega
  go_enter Tryz.func6,Tryz.ntmps6
  have er:r=false:=by
   cases r with
   |false=>rfl
   |true=>exact absurd (Xhr.out.1 rfl) (fun z=>by have:=z.1;omega)
  subst er
  go_wp2_with fail
  go_ret
  exact⟨rfl,by first|exact Xb1.out|exact Xb1.out.drew⟩
 ·have t0: ¬(60:Int)<(n2:Int):=by omega
  by_cases t1':60<n4
  ·have t1:(60:Int)<(n4:Int):=by omega
   go_enter Tryz.func6,Tryz.ntmps6
   have er:r=false:=by
    cases r with
    |false=>rfl
    |true=>exact absurd (Xhr.out.1 rfl) (fun z=>by have:=z.2.1;omega)
   subst er
   go_wp2_with fail
   go_ret
   exact⟨rfl,by first|exact Xb1.out|exact Xb1.out.drew⟩
  ·have t1: ¬(60:Int)<(n4:Int):=by omega
   by_cases t2':60<n3
   ·have t2:(60:Int)<(n3:Int):=by omega
    go_enter Tryz.func6,Tryz.ntmps6
    have er:r=false:=by
     cases r with
     |false=>rfl
     |true=>exact absurd (Xhr.out.1 rfl) (fun z=>by have:=z.2.2.1;omega)
    subst er
    go_wp2_with fail
    go_ret
    exact⟨rfl,by first|exact Xb1.out|exact Xb1.out.drew⟩
   ·have t2: ¬(60:Int)<(n3:Int):=by omega
    by_cases t3':60<n5
    ·have t3:(60:Int)<(n5:Int):=by omega
     go_enter Tryz.func6,Tryz.ntmps6
     have er:r=false:=by
      cases r with
      |false=>rfl
      |true=>exact absurd (Xhr.out.1 rfl) (fun z=>by have:=z.2.2.2.1;omega)
     subst er
     go_wp2_with fail
     go_ret
     exact⟨rfl,by first|exact Xb1.out|exact Xb1.out.drew⟩
    ·have t3: ¬(60:Int)<(n5:Int):=by omega
     by_cases t4':60<n1
     ·have t4:(60:Int)<(n1:Int):=by omega
      go_enter Tryz.func6,Tryz.ntmps6
      have er:r=false:=by
       cases r with
       |false=>rfl
       |true=>exact absurd (Xhr.out.1 rfl) (fun z=>by have:=z.2.2.2.2.1;omega)
      subst er
      go_wp2_with fail
      go_ret
      exact⟨rfl,by first|exact Xb1.out|exact Xb1.out.drew⟩
     ·have t4: ¬(60:Int)<(n1:Int):=by omega
      go_enter Tryz.func6,Tryz.ntmps6
      go_wp2_with fail
      go_loopw [3] (fun i wr=> ∃k:Nat,k<=n3/\i= .int .i64 k/\wr=w1/\ ∀x∈p.rows.take k,x.length<=60) (fun i _=>n3 - (intOf i).toNat)
      case atStart=>exact⟨0,Nat.zero_le _,rfl,by first|rfl|trivial,fun x hx=>absurd hx (by simp)⟩
      case round=>
       obtain⟨k,hk,rfl,e1,hS⟩:=hrel
       have e1:=e1.symm
       subst e1
       by_cases hlt:k<n3
       ·have hlt1:(k:Int)<(n3:Int):=by omega
        obtain⟨x,hx⟩: ∃x,p.rows[k]? =some x:=⟨_,List.getElem?_eq_getElem (by rw [<-Xk3.out];exact hlt)⟩
        obtain⟨b0,o0,A',c',rfl,-,p0,-,hxc,-⟩:=RdUs.row Xg1.out.pk.rows hx
        have hin:=List.mem_of_getElem? hx
        obtain⟨m,hm⟩: ∃q,q=x.length:=⟨_,rfl⟩
        rw [<-hm]at p0 hxc
        by_cases l1':60<m
        ·have l1:(60:Int)<(m:Int):=by omega
         obtain⟨XhS,Xhx,Xhin,Xhm⟩:=HqZ4 hS hx hin hm;clear hS hx hin hm
         have er:r=false:=by
          cases r with
          |false=>rfl
          |true=>exact absurd (Xhr.out.1 rfl) (fun z=>by have:=z.2.2.2.2.2.1 x Xhin.out;have:=Xhm.out;omega)
         subst er
         go_wp2_with fail
         go_ret
         exact⟨rfl,by first|exact Xb1.out|exact Xb1.out.drew⟩
        ·have l1: ¬(60:Int)<(m:Int):=by omega
         obtain⟨XhS,Xhx,Xhin,Xhm⟩:=HqZ4 hS hx hin hm;clear hS hx hin hm
         go_wp2_with fail
         go_roundw
         case rel=>
          refine⟨k+1,by omega,by go_num,by first|rfl|trivial,fun z hz=> ?_⟩
          rw [takeT_snoc Xhx.out]at hz
          rcases List.mem_append.1 hz with q|q
          ·exact XhS.out z q
          ·rw [List.mem_singleton.1 q];have:=Xhm.out;omega
         case measure=>simp [intOf];omega
       ·have hlt1: ¬(k:Int)<(n3:Int):=by omega
        have e0:p.rows.take k=p.rows:=List.take_of_length_le (by have:=Xk3.out;omega)
        rw [e0]at hS
        have hA:=hS
        clear e0 hS
        have XhA:=hide hA;clear hA
        go_wp2_with fail
        go_loopw [4] (fun i wr=> ∃k:Nat,k<=n5/\i= .int .i64 k/\wr=w1/\ ∀x∈p.gows.take k,x.length<=60) (fun i _=>n5 - (intOf i).toNat)
        case atStart=>exact⟨0,Nat.zero_le _,rfl,by first|rfl|trivial,fun x hx=>absurd hx (by simp)⟩
        case round=>
         obtain⟨k,hk,rfl,e1,hS⟩:=hrel
         have e1:=e1.symm
         subst e1
         by_cases hlt:k<n5
         ·have hlt1:(k:Int)<(n5:Int):=by omega
          obtain⟨x,hx⟩: ∃x,p.gows[k]? =some x:=⟨_,List.getElem?_eq_getElem (by rw [<-Xk5.out];exact hlt)⟩
          obtain⟨b0,o0,A',c',rfl,-,p0,-,hxc,-⟩:=RdUs.row Xg1.out.pk.gows hx
          have hin:=List.mem_of_getElem? hx
          obtain⟨m,hm⟩: ∃q,q=x.length:=⟨_,rfl⟩
          rw [<-hm]at p0 hxc
          by_cases l1':60<m
          ·have l1:(60:Int)<(m:Int):=by omega
           obtain⟨XhS,Xhx,Xhin,Xhm⟩:=HqZ4 hS hx hin hm;clear hS hx hin hm
           have er:r=false:=by
            cases r with
            |false=>rfl
            |true=>exact absurd (Xhr.out.1 rfl) (fun z=>by have:=z.2.2.2.2.2.2.1 x Xhin.out;have:=Xhm.out;omega)
           subst er
           go_wp2_with fail
           go_ret
           exact⟨rfl,by first|exact Xb1.out|exact Xb1.out.drew⟩
          ·have l1: ¬(60:Int)<(m:Int):=by omega
           obtain⟨XhS,Xhx,Xhin,Xhm⟩:=HqZ4 hS hx hin hm;clear hS hx hin hm
           go_wp2_with fail
           go_roundw
           case rel=>
            refine⟨k+1,by omega,by go_num,by first|rfl|trivial,fun z hz=> ?_⟩
            rw [takeT_snoc Xhx.out]at hz
            rcases List.mem_append.1 hz with q|q
            ·exact XhS.out z q
            ·rw [List.mem_singleton.1 q];have:=Xhm.out;omega
           case measure=>simp [intOf];omega
         ·have hlt1: ¬(k:Int)<(n5:Int):=by omega
          have e0:p.gows.take k=p.gows:=List.take_of_length_le (by have:=Xk5.out;omega)
          rw [e0]at hS
          have hB:=hS
          clear e0 hS
          have XhB:=hide hB;clear hB
          go_wp2_with fail
          go_loopw [5] (fun i wr=> ∃k:Nat,k<=n1/\i= .int .i64 k/\wr=w1/\ ∀x∈p.rules.take k,x.2.length<=60) (fun i _=>n1 - (intOf i).toNat)
          case atStart=>exact⟨0,Nat.zero_le _,rfl,by first|rfl|trivial,fun x hx=>absurd hx (by simp)⟩
          case round=>
           obtain⟨k,hk,rfl,e1,hS⟩:=hrel
           have e1:=e1.symm
           subst e1
           by_cases hlt:k<n1
           ·have hlt1:(k:Int)<(n1:Int):=by omega
            obtain⟨bk,off,l,x,vx,hx,rfl,y0,y1,rx⟩:=rule_get Xg1.out.pk.rules (i:=k) (by rw [<-Xk1.out];exact hlt)
            obtain⟨A',m,c',rfl,-⟩:=id rx
            obtain⟨hm,hmc,hcm,hcell⟩:=RdI.at_ rx
            unfold maxLen at hcm
            have hin:=List.mem_of_getElem? hx
            clear hcell rx
            by_cases l1':60<m
            ·have l1:(60:Int)<(m:Int):=by omega
             obtain⟨XhS,Xhx,Xhin,Xhm⟩:=HqZ4 hS hx hin hm;clear hS hx hin hm
             have er:r=false:=by
              cases r with
              |false=>rfl
              |true=>exact absurd (Xhr.out.1 rfl) (fun z=>by have:=z.2.2.2.2.2.2.2 _ Xhin.out;have this:x.length<=60:=this;have:=Xhm.out;omega)
             subst er
             go_wp2_with fail
             go_ret
             exact⟨rfl,by first|exact Xb1.out|exact Xb1.out.drew⟩
            ·have l1: ¬(60:Int)<(m:Int):=by omega
             obtain⟨XhS,Xhx,Xhin,Xhm⟩:=HqZ4 hS hx hin hm;clear hS hx hin hm
             go_wp2_with fail
             go_roundw
             case rel=>
              refine⟨k+1,by omega,by go_num,by first|rfl|trivial,fun z hz=> ?_⟩
              rw [takeT_snoc Xhx.out]at hz
              rcases List.mem_append.1 hz with q|q
              ·exact XhS.out z q
              ·rw [List.mem_singleton.1 q];show x.length<=60;have:=Xhm.out;omega
             case measure=>simp [intOf];omega
           ·have hlt1: ¬(k:Int)<(n1:Int):=by omega
            have e0:p.rules.take k=p.rules:=List.take_of_length_le (by have:=Xk1.out;omega)
            rw [e0]at hS
            have er:r=true:=Xhr.out.2 ⟨by omega,by omega,by omega,by omega,by omega,XhA.out,XhB.out,hS⟩
            subst er
            clear e0 hS
            go_wp2_with fail
            go_ret
            exact⟨rfl,by first|exact Xb1.out|exact Xb1.out.drew⟩
section
open Go.ChangeShapes Go.WideShapes Go.ChangeAt Go.RowKit Go.Deep
variable {H : Type} {enc : TypeId × Value -> H} {w : World} {sp : Nat -> Bool}
theorem opens_u16Z:OpensZ enc Tryz.prog w sp 39 (fun cs (n:Int)=>cs=[.int .u16 n]/\(Lit.int .u16 n).wf=true):=OpensZ.of (opens_int Tryz.underlying39)
theorem opens_u16sZ:OpensZ enc Tryz.prog w sp 51 (fun cs (xs:List Int)=> ∃v,cs=[v]/\RdL w (· <w.heap.size) 1 (fun cs n=>cs=[.int .u16 n]/\(Lit.int .u16 n).wf=true) v xs/\xs.length * 2<=140737488351232):=
 opens_listZ Tryz.underlying51 (by kernel_rfl) (by decide) (by kernel_rfl) opens_u16Z
theorem opens_u16ssZ:OpensZ enc Tryz.prog w sp 24 (fun cs (xs:List (List Int))=> ∃v,cs=[v]/\RdL w (· <w.heap.size) 1 (fun cs xs=> ∃v,cs=[v]/\RdL w (· <w.heap.size) 1 (fun cs n=>cs=[.int .u16 n]/\(Lit.int .u16 n).wf=true) v xs/\xs.length * 2<=140737488351232) v xs/\xs.length * 24<=140737488351232):=
 opens_listZ Tryz.underlying24 (by kernel_rfl) (by decide) (by kernel_rfl) opens_u16sZ
theorem wf_u16 {n:Int} (h:(Lit.int .u16 n).wf=true):0<=n/\n<65536:=by
 simp [Lit.wf,IntKind.min,IntKind.max,IntKind.signed,IntKind.bits]at h
 omega
theorem rdl_u16s {v:Value} {xs:List Int} (h:RdL w (· <w.heap.size) 1 (fun cs n=>cs=[.int .u16 n]/\(Lit.int .u16 n).wf=true) v xs):RdU w (· <w.heap.size) v xs/\U16 xs:=by
 obtain⟨h1,h2⟩:=RdL.parts (E:=fun cs (n:Int)=>cs=[.int .u16 n]) (p:=fun n=>(Lit.int .u16 n).wf=true) h
 exact⟨RdL.rd (f:=I16) h1,fun x hx=>wf_u16 (h2 x hx)⟩
theorem rdl_u16ss {v:Value} {xs:List (List Int)} (h:RdL w (· <w.heap.size) 1 (fun cs xs=> ∃v,cs=[v]/\RdL w (· <w.heap.size) 1 (fun cs n=>cs=[.int .u16 n]/\(Lit.int .u16 n).wf=true) v xs/\xs.length * 2<=140737488351232) v xs):
  RdUs w (· <w.heap.size) v xs/\ ∀r∈xs,U16 r:=by
 obtain⟨h1,h2⟩:=RdL.parts (RdL.also (E':=fun cs (r:List Int)=> ∃u,cs=[u]/\RdU w (· <w.heap.size) u r) (p:=U16) h (fun cs x he=>by
  obtain⟨v,e1,e2,-⟩:=he
  obtain⟨q1,q2⟩:=rdl_u16s e2
  exact⟨⟨v,e1,q1⟩,q2⟩))
 exact⟨rdl_rows h1,h2⟩
def PackCells (w:World) (cs:List Value) (p:PackD):Prop:= ∃v1 v2 v3 v4 v5,cs=[v1,.int .i64 p.terms,.int .i64 p.nons,v2,v3,v4,v5]/\IsPack w (· <w.heap.size) v1 v2 v3 v4 v5 p
theorem opens_packZ:OpensZ enc Tryz.prog w sp 26 (PackCells w):=by
 intro fuel cs y h hr
 have ht:=Tryz.underlying26
 have hone:oneCellFields Tryz.prog (Tryz.prog.fieldsOf 26)=true:=by kernel_rfl
 have hl:cs.length=7:=(struct_len ht h).trans (by kernel_rfl)
 simp only [Program.fieldsOf,ht]at hone
 match cs,hl with
 |[c0,c1,c2,c3,c4,c5,c6],_=>
  obtain⟨r,v0,e0,h0,-⟩:=field_open ht hone h hr 0 _ rfl (by simp) opens_rulesZ
  obtain⟨T,e1,w1⟩:=field_open ht hone h hr 1 _ rfl (by simp) (OpensZ.of (opens_int Tryz.underlying3))
  obtain⟨N,e2,w2⟩:=field_open ht hone h hr 2 _ rfl (by simp) (OpensZ.of (opens_int Tryz.underlying3))
  obtain⟨ro,v3,e3,h3,-⟩:=field_open ht hone h hr 3 _ rfl (by simp) opens_intsZ
  obtain⟨rs,v4,e4,h4,-⟩:=field_open ht hone h hr 4 _ rfl (by simp) opens_u16ssZ
  obtain⟨go,v5,e5,h5,-⟩:=field_open ht hone h hr 5 _ rfl (by simp) opens_intsZ
  obtain⟨gs,v6,e6,h6,-⟩:=field_open ht hone h hr 6 _ rfl (by simp) opens_u16ssZ
  simp only [List.getElem_cons_zero,List.getElem_cons_succ]at e0 e1 e2 e3 e4 e5 e6
  injection e0 with e0
  injection e1 with e1
  injection e2 with e2
  injection e3 with e3
  injection e4 with e4
  injection e5 with e5
  injection e6 with e6
  subst e0 e1 e2 e3 e4 e5 e6
  obtain⟨q1,q2⟩:=rdl_rules h0
  obtain⟨a1,a2⟩:=rdl_ints h3
  obtain⟨b1,b2⟩:=rdl_u16ss h4
  obtain⟨d1,d2⟩:=rdl_ints h5
  obtain⟨f1,f2⟩:=rdl_u16ss h6
  exact⟨⟨r,T,N,ro,rs,go,gs⟩,c0,c3,c4,c5,c6,rfl,q1,a1,b1,d1,f1,fun b hb=>hb,⟨wf_i64_iff w1,wf_i64_iff w2⟩,q2,fun x hx=>wf_i64_iff (a2 x hx),fun x hx=>wf_i64_iff (d2 x hx),b2,f2⟩
end
end Go.Proofs.YtlpipniclimgeaaGreat
namespace Go.Proofs.YtlpipniclimgeaaGreat
set_option linter.unusedVariables false
set_option linter.unusedSimpArgs false
theorem small_ok {p:PackD} (h:rightP p=true) (u1: ∀r∈p.rows,U16 r) (u2: ∀r∈p.gows,U16 r):SmP p↔okN (numsP p)=true:=by
 have h0:=h
 unfold rightP at h
 simp only [Bool.and_eq_true]at h
 obtain⟨h1,h2,h3⟩:=h
 unfold rowsP at h1
 unfold sameP at h3
 simp only [Bool.and_eq_true,decide_eq_true_eq,List.all_eq_true]at h1 h3
 obtain⟨l1,r1,g1⟩:=h1
 obtain⟨-,-,e1,e2⟩:=h3
 obtain⟨hr,ha,hn,-⟩:=fit_parts h2
 obtain⟨hlen,t0,n0⟩:=right_len hr
 have la:(openT p).acts.length=p.row.length:=by unfold openT;simp
 have lr:(openT p).rules.length=p.rules.length:=rfl
 have k1:p.rows.length<=16383:=by
  rw [e1]
  have:=(packU_ok (numsA (openT p))).le
  unfold numsA at this
  rw [List.length_map]at this
  show(packU (numsA (openT p))).1.length<=_
  unfold numsA
  omega
 have k2:p.gows.length<=16383:=by
  rw [e2]
  have:=(packU_ok (numsG (openT p))).le
  unfold numsG at this
  rw [List.length_map]at this
  show(packU (numsG (openT p))).1.length<=_
  unfold numsG
  omega
 have t0:0<=p.terms:=t0
 have n0:0<=p.nons:=n0
 have r2: ∀x∈p.row,0<=x/\x<=65535:=fun x hx=>by
  have:=r1 x hx
  unfold inR at this
  simp only [Bool.and_eq_true,decide_eq_true_eq]at this
  omega
 have g2: ∀x∈p.gow,0<=x/\x<=65535:=fun x hx=>by
  have:=g1 x hx
  unfold inR at this
  simp only [Bool.and_eq_true,decide_eq_true_eq]at this
  omega
 rw [okN_iff]
 unfold SmP numsP rowsN
 constructor
 ·rintro⟨s1,s2,s3,s4,s5⟩ n hn
  simp only [List.mem_cons,List.mem_append,List.mem_flatMap,List.mem_flatten]at hn
  rcases hn with rfl|rfl|rfl|⟨r,hr,hx⟩|rfl|hx|(rfl|⟨r,hr,hx⟩)|hx|rfl|⟨r,hr,hx⟩
  ·omega
  ·omega
  ·omega
  ·obtain⟨q1,q2,q3⟩:=s5 r hr
   unfold ruleN at hx
   simp only [List.mem_cons]at hx
   rcases hx with rfl|rfl|hx
   ·exact q1
   ·omega
   ·exact q3 n hx
  ·omega
  ·exact r2 n hx
  ·omega
  ·have:=u1 r hr n hx;omega
  ·exact g2 n hx
  ·omega
  ·have:=u2 r hr n hx;omega
 ·intro q
  refine⟨(q p.terms (by simp)).2,(q p.nons (by simp)).2,by omega,by omega,fun r hr=> ?_⟩
  have hm: ∀n∈ruleN r,0<=n/\n<=65535:=fun n hn=>q n (by simp only [List.mem_cons,List.mem_append,List.mem_flatMap];exact .inr (.inr (.inr (.inl ⟨r,hr,hn⟩))))
  refine⟨hm r.1 (by simp [ruleN]),by have:=(hm r.2.length (by simp [ruleN])).2;omega,fun x hx=>hm x (by simp [ruleN,hx])⟩
end Go.Proofs.YtlpipniclimgeaaGreat

/- Contracts of package bits, part 3: Or, Meet. -/
import Derived.Test.YthlbjgabhpdbfaaGreatABase
import Derived.Test.YthlbjgabhpdbfaaGreatProg
import Derived.Shelf.Abstract
namespace Go.Proofs.YthlbjgabhpdbfaaGreat
set_option linter.unusedVariables false
open Go.RowKit
theorem getD_get {ws:List (BitVec 64)} {i:Nat} {x:BitVec 64} (h:ws[i]? =some x):ws.getD i 0#64=x:=by simp [List.getD,h]
def Joined (ws vs us:List (BitVec 64)) (k:Nat):Prop:=us.length=ws.length/\ ∀i,us.getD i 0#64=if i<k then ws.getD i 0#64|||vs.getD i 0#64 else ws.getD i 0#64
theorem Joined.zero (ws vs:List (BitVec 64)):Joined ws vs ws 0:=⟨rfl,fun i=>by simp⟩
theorem or_of_andNot {x y:BitVec 64} (h:x&&& ~~~y=0#64):y|||x=y:=by
 apply BitVec.eq_of_getLsbD_eq
 intro i hi
 have:=congrArg (fun z=>z.getLsbD i) h
 simp only [BitVec.getLsbD_and,BitVec.getLsbD_not,hi,decide_true,Bool.true_and,BitVec.getLsbD_zero]at this
 rw [BitVec.getLsbD_or]
 cases hy:y.getLsbD i
 ·rw [hy]at this;simpa using this
 ·simp
theorem Joined.stay {ws vs us:List (BitVec 64)} {k:Nat} (h:Joined ws vs us k) (h0:vs.getD k 0#64&&& ~~~ws.getD k 0#64=0#64):Joined ws vs us (k+1):=by
 refine⟨h.1,fun i=> ?_⟩
 rw [h.2]
 by_cases e:i=k
 ·subst e;rw [if_neg (by omega),if_pos (by omega),or_of_andNot h0]
 ·by_cases hi:i<k
  ·rw [if_pos hi,if_pos (by omega)]
  ·rw [if_neg hi,if_neg (by omega)]
theorem Joined.step {ws vs us:List (BitVec 64)} {k:Nat} (h:Joined ws vs us k) (hk:k<ws.length):Joined ws vs (us.set k (ws.getD k 0#64|||vs.getD k 0#64)) (k+1):=by
 refine⟨by simpa using h.1,fun i=> ?_⟩
 by_cases e:i=k
 ·subst e;rw [if_pos (by omega)];simp [List.getD,h.1,hk]
 ·have:(us.set k (ws.getD k 0#64|||vs.getD k 0#64)).getD i 0#64=us.getD i 0#64:=by simp [List.getD,List.getElem?_set_ne (Ne.symm e)]
  rw [this,h.2]
  by_cases hi:i<k
  ·rw [if_pos hi,if_pos (by omega)]
  ·rw [if_neg hi,if_neg (by omega)]
theorem Joined.bits {ws vs us:List (BitVec 64)} {k:Nat} (h:Joined ws vs us k) (j:Nat):bitOf us j=(bitOf ws j||(decide (j/64<k)&&bitOf vs j)):=by
 unfold bitOf
 rw [h.2]
 by_cases hj:j/64<k
 ·rw [if_pos hj,BitVec.getLsbD_or];simp [hj]
 ·rw [if_neg hj];simp [hj]
def brings (ws vs:List (BitVec 64)) (i:Nat):Bool:=decide (vs.getD i 0#64&&& ~~~ws.getD i 0#64≠0#64)
theorem brings_iff (ws vs:List (BitVec 64)) (i:Nat):brings ws vs i=true↔ ∃j,j/64=i/\bitOf vs j=true/\bitOf ws j=false:=by
 unfold brings
 rw [decide_eq_true_eq]
 constructor
 ·intro h
  have: ∃k,k<64/\(vs.getD i 0#64&&& ~~~ws.getD i 0#64).getLsbD k=true:=by
   apply Classical.byContradiction
   intro hn
   apply h
   apply BitVec.eq_of_getLsbD_eq
   intro k hk
   cases hb:(vs.getD i 0#64&&& ~~~ws.getD i 0#64).getLsbD k
   ·simp
   ·exact absurd ⟨k,hk,hb⟩ hn
  obtain⟨k,hk,hb⟩:=this
  rw [BitVec.getLsbD_and,BitVec.getLsbD_not,decide_eq_true hk,Bool.true_and,Bool.and_eq_true,Bool.not_eq_true']at hb
  refine⟨i * 64+k,by omega,?_,?_⟩
  ·unfold bitOf;rw [show(i * 64+k)/64=i by omega,show(i * 64+k)%64=k by omega];exact hb.1
  ·unfold bitOf;rw [show(i * 64+k)/64=i by omega,show(i * 64+k)%64=k by omega];exact hb.2
 ·rintro⟨j,rfl,hv,hw⟩ h0
  have:=congrArg (fun z=>z.getLsbD (j%64)) h0
  unfold bitOf at hv hw
  have hlt:j%64<64:=Nat.mod_lt _ (by decide)
  simp only [BitVec.getLsbD_and,BitVec.getLsbD_not,hv,hw,hlt]at this
  simp at this
def orAns (k:Nat) (f g:Nat->Bool):Bool:=(List.range k).any fun j=>g j&& !f j
def orSet (k:Nat) (f g:Nat->Bool) (j:Nat):Bool:=f j||(g j&&decide (j<k))
theorem any_brings {ws vs:List (BitVec 64)} {f g:Nat->Bool} {k:Nat} (hf: ∀j,bitOf ws j=f j) (hg: ∀j,bitOf vs j=(g j&&decide (j<k))) (L:Nat) (hL:L=(k+63)/64):(List.range L).any (brings ws vs)=orAns k f g:=by
 rw [Bool.eq_iff_iff,orAns,List.any_eq_true,List.any_eq_true]
 constructor
 ·rintro⟨i,hi,hb⟩
  obtain⟨j,rfl,hv,hw⟩:=(brings_iff ws vs i).1 hb
  rw [hg]at hv
  rw [hf]at hw
  simp at hv
  exact⟨j,List.mem_range.2 hv.2,by simp [hv.1,hw]⟩
 ·rintro⟨j,hj,hb⟩
  have hj:=List.mem_range.1 hj
  simp at hb
  exact⟨j/64,List.mem_range.2 (by omega),(brings_iff ws vs _).2 ⟨j,rfl,by rw [hg];simp [hb.1,hj],by rw [hf];exact hb.2⟩⟩
def OrPost (w:World) (b:Nat) (S:Nat->Prop) (n:Nat) (f:Nat->Bool) (r:Bool) (e:Ending) (w':World):Prop:=e= .returned (.bool r)/\IsSet w' b S n f/\Touch S w w'
theorem or_nil_right {w:World} {b n:Nat} {f:Nat->Bool} {S:Nat->Prop} (h:IsSet w b S n f):
  Calls Tryz.prog 232 #[.pointer (some ⟨b,0,none⟩),.pointer none] w fun e w'=>e= .returned (.bool false)/\w=w':=by
 go_enter Tryz.func232,Tryz.ntmps232
 go_wp2_with (first
  |(go_at_call 255;refine(set_room h).mono ?_;rintro e w' ⟨rfl,rfl⟩)
  |(go_at_call 257;refine(words_nil _ _).mono ?_;rintro e w' ⟨rfl,rfl⟩))
 go_loop [5,13] (fun ch i=>ch= .bool false/\i= .int .i64 0) (fun _ _=>0)
 case atStart=>exact⟨rfl,rfl⟩
 case round=>
  obtain⟨rfl,rfl⟩:=hrel
  go_wp2
  go_ret
  exact⟨rfl,rfl⟩
set_option maxRecDepth 100000 in
set_option maxHeartbeats 1000000 in
theorem set_or {w:World} {b n b2 n2:Nat} {f g:Nat->Bool} {S S2:Nat->Prop} (h:IsSet w b S n f) (h2:IsSet w b2 S2 n2 g):
  Calls Tryz.prog 232 #[.pointer (some ⟨b,0,none⟩),.pointer (some ⟨b2,0,none⟩)] w (OrPost w b S n (orSet (min n n2) f g) (orAns (min n n2) f g)):=by
 have hn:=h.room
 have H:=hide h
 have H2:=hide h2
 clear h h2
 go_enter Tryz.func232,Tryz.ntmps232
 go_wp2_with fail
 refine(set_room H.out).mono ?_
 rintro e w' ⟨rfl,rfl⟩
 go_wp2_with fail
 refine(set_words H2.out n hn).mono ?_
 rintro e w1 ⟨A,c,vs,rfl,hown,hbel,hvl,hvb⟩
 obtain⟨⟨r,ws,hi,hr,hf⟩,hb,hlt⟩:=H.out
 obtain⟨L,hL⟩: ∃L,L=vs.length:=⟨_,rfl⟩
 have hLk:L=(min n n2+63)/64:=by omega
 have hlen:=hi.len
 have hLw:L<=ws.length:=by omega
 have h1:SetAt w1 b r n ws:=hi.touch (Touch.of_size hbel (fun _=>False)) (fun hf=>hf) (fun hf=>hf)
 have hne:b≠r:=by obtain⟨c,hbk,_⟩:=hi.blk;exact hbk.ne hi.words (by decide)
 have hrlt:=hlt r hr
 rw [<-hL]at hown⊢
 have HV:=hide hvb
 have HL:=hide hL
 have HK:=hide hLk
 have HF:=hide hf
 have hrd:=Rd.of_own hown
 have hbase: ∀k,(Value.slice A L c).ownBlock=some k->w.heap.size<=k:=fun k hk=>(hown.lt k hk).1
 obtain⟨A',n',c',hv',hnc,hcm,_,hcell⟩:=hrd
 injection hv' with e1 e2 e3
 subst e1 e2 e3
 unfold maxLen at hcm
 have hn0:=hi.high
 have HN:=hide hn0
 clear hvb hL hLk hf hvl hi hn0 hown
 go_wp2_with fail
 go_loopw [5,13] (fun ch i wr=> ∃(k:Nat) (us:List (BitVec 64)),k<=L/\i= .int .i64 k/\ch= .bool ((List.range k).any (brings ws vs))/\SetAt wr b r n us/\Joined ws vs us k/\Touch (fun j=>j=r) w1 wr) (fun _ i _=>L - (intOf i).toNat)
 case atStart=>exact⟨0,ws,Nat.zero_le _,rfl,rfl,h1,Joined.zero _ _,Touch.refl _ _⟩
 case round=>
  clear h1
  obtain⟨k,us,hk,rfl,rfl,hs,hj,ht⟩:=hrel
  have HJ:=hide hj
  have HS:=hide hs
  obtain⟨c',hbk,hlc,hcm'⟩:=hs.blk
  have c1:=hbk.cell 1
  simp at c1
  unfold maxLen at hcm'
  have hul:=hj.1
  by_cases hkl:k<L
  ·obtain⟨b',off,rfl,hob,hcl⟩:=hcell (by omega)
   have hob':=hbase b' hob
   obtain⟨x,hx⟩: ∃x,vs[k]? =some x:=⟨_,List.getElem?_eq_getElem (by have:=HL.out;omega)⟩
   obtain⟨y,hy⟩: ∃y,us[k]? =some y:=⟨_,List.getElem?_eq_getElem (by omega)⟩
   have hyw:ws.getD k 0#64=y:=by
    have:=hj.2 k
    rw [if_neg (by omega),getD_get hy]at this
    exact this.symm
   have hcx:=ht.cell (hcl k (U64 x) (by simp [hx])) (by simp;omega)
   have hcy:wr.cell? ⟨r,k,none⟩=some (U64 y):=by rw [hs.words.cell];simp [hy]
   have hfr:=hs.words.frozen k
   have hand:=u64_andNot_bv x y
   have hor:=u64_or_bv y x
   have hkn:(k:Int)<us.length:=by omega
   have hkL:(k:Int)<L:=by omega
   have hbr:brings ws vs k=decide (x&&& ~~~y≠0#64):=by unfold brings;rw [hyw,getD_get hx]
   have hrange:(List.range (k+1)).any (brings ws vs)=((List.range k).any (brings ws vs)||brings ws vs k):=by rw [List.range_succ,List.any_append];simp
   have HX:=hide hx
   have HY:=hide hy
   have HYW:=hide hyw
   have HBR:=hide hbr
   have HRG:=hide hrange
   have HT:=hide ht
   have HUL:=hide hul
   generalize hz:x&&& ~~~y=z at *
   generalize ho:y|||x=o at *
   have HO:=hide ho
   have HZ:=hide hz
   clear hx hy hyw hbr hrange ht hj hs hbk hcl hcell hul ho hz
   by_cases hz0:z=0#64
   ·have hzt:((z.toNat:Int)==0)=true:=by rw [zero_iff];exact decide_eq_true hz0
    have hzn:z.toNat=0:=by rw [hz0];rfl
    have HZ0:=hide hz0
    clear hz0
    go_wp2
    go_roundw
    case rel=>
     refine⟨k+1,us,by omega,by go_num,?_,HS.out,HJ.out.stay ?_,HT.out⟩
     ·rw [HRG.out,HBR.out,HZ0.out];simp
     ·rw [HYW.out,getD_get HX.out,HZ.out,HZ0.out]
    case measure=>simp [intOf];omega
   ·have hzt:((z.toNat:Int)==0)=false:=by rw [zero_iff];exact decide_eq_false hz0
    have hzn: ¬z.toNat=0:=fun e=>hz0 (BitVec.eq_of_toNat_eq (by simpa using e))
    have HZ0:=hide hz0
    clear hz0
    go_wp2
    go_roundw
    case rel=>
     have hj':=HJ.out.step (k:=k) (by have:=HUL.out;omega)
     rw [HYW.out,getD_get HX.out,HO.out]at hj'
     have hs':=HS.out.stored' (i:=k) o hne (fun j hjn=>by
      rw [hj'.bits,HV.out]
      have:=HN.out j hjn
      rw [this]
      have: ¬j<min n n2:=by omega
      simp [this])
     refine⟨k+1,us.set k o,by omega,by go_num,?_,hs',hj',HT.out.setCell (fun _=>rfl) _⟩
     rw [HRG.out,HBR.out]
     simp [HZ0.out]
    case measure=>simp [intOf];omega
  ·have hkL: ¬(k:Int)<L:=by omega
   have hkE:k=L:=by omega
   have HKE:=hide hkE
   have HT:=hide ht
   clear hkE hj hs hbk hcell ht
   go_wp2
   go_ret
   have hT:Touch S w wr:=(Touch.of_size hbel S).trans HT.out (fun j hj e=>by subst e;exact hr)
   refine⟨ret_bool ?_,⟨⟨r,us,HS.out,hr,fun j=> ?_⟩,hb,fun j hj=>Nat.lt_of_lt_of_le (hlt j hj) hT.size⟩,hT⟩
   ·rw [HKE.out];exact any_brings HF.out HV.out L HK.out
   ·rw [HJ.out.bits,HF.out,HV.out]
    unfold orSet
    by_cases hj:j<min n n2
    ·have:j/64<k:=by have:=HK.out;have:=HKE.out;omega
     simp [this,hj]
    ·simp [hj]
def nextOf (f:Nat->Bool) (n k:Nat):Int:=match(List.range n).find? (fun j=>decide (k<=j)&&f j)with|some j=>(j:Int)|none=> -1
theorem nextOf_some {f:Nat->Bool} {n k j:Nat} (hf:f j=true) (hk:k<=j) (hn:j<n) (hb: ∀i,k<=i->i<j->f i=false):nextOf f n k=j:=by
 have:(List.range n).find? (fun j=>decide (k<=j)&&f j)=some j:=by
  rw [List.find?_range_eq_some]
  refine⟨by simp [hk,hf],List.mem_range.2 hn,fun i hi=> ?_⟩
  by_cases h:k<=i
  ·simp [hb i h hi]
  ·simp [h]
 simp [nextOf,this]
theorem nextOf_none {f:Nat->Bool} {n k:Nat} (hb: ∀i,k<=i->i<n->f i=false):nextOf f n k= -1:=by
 have:(List.range n).find? (fun j=>decide (k<=j)&&f j)=none:=by
  rw [List.find?_eq_none]
  intro i hi
  by_cases h:k<=i
  ·simp [hb i h (List.mem_range.1 hi)]
  ·simp [h]
 simp [nextOf,this]
theorem bit_div (x:BitVec 64) (m:Nat):x.getLsbD m=decide ((x.toNat/2^m)%2=1):=by
 show x.toNat.testBit m=_
 rw [Nat.testBit_eq_decide_div_mod_eq]
theorem bit_zero {x:BitVec 64} {m j:Nat} (h:x.toNat/2^m=0) (hj:m<=j):x.getLsbD j=false:=by
 have hp:0<2^m:=Nat.pow_pos (by decide)
 have hx:x.toNat<2^m:=by
  rcases Nat.lt_or_ge x.toNat (2^m)with h'|h'
  ·exact h'
  ·have:=Nat.div_pos h' hp;omega
 have hx':x.toNat<2^j:=Nat.lt_of_lt_of_le hx (Nat.pow_le_pow_right (by decide) hj)
 rw [bit_div,Nat.div_eq_of_lt hx'];rfl
theorem u64_and_1 (y:Nat) (hy:y<18446744073709551616):bits .and .u64 (y:Int) 1=((y%2:Nat):Int):=by
 have:=u64_and_nat y 1 hy (by decide)
 rw [show((1:Nat):Int)=1 from rfl]at this
 rw [this,Nat.and_one_is_mod]
set_option maxHeartbeats 1000000 in
theorem set_next {w:World} {b n:Nat} {f:Nat->Bool} {S:Nat->Prop} (h:IsSet w b S n f) (i:Int) (hi:(Lit.int .i64 i).wf=true):
  Calls Tryz.prog 230 #[.pointer (some ⟨b,0,none⟩),.int .i64 i] w fun e w'=>e= .returned (.int .i64 (nextOf f n i.toNat))/\w=w':=by
 obtain⟨⟨r,ws,hi',hr,hf⟩,hb',hlt⟩:=id h
 obtain⟨c,h1,hc,hcm⟩:=hi'.blk
 have c1:=h1.cell 1
 simp at c1
 unfold maxLen at hcm
 have hlen:=hi'.len
 have hroom:=hi'.room
 have hhigh:=h.high
 have H:=hide h
 have HI:=hide hi'
 have HF:=hide hf
 have HH:=hide hhigh
 have HL:=hide hlen
 clear h hi' hf hhigh hlen h1 hlt
 go_enter Tryz.func230,Tryz.ntmps230
 go_wp2
 all_goals
  go_loop [5,6] (fun v _=> ∃k:Nat,v= .int .i64 k/\i.toNat<=k/\ ∀j,i.toNat<=j->j<k->f j=false) (fun v _=>n+64 - (intOf v).toNat)
  case atStart=>exact⟨i.toNat,by first|rw [show((i.toNat:Nat):Int)=i by omega]|rw [show i.toNat=0 by omega];rfl,Nat.le_refl _,fun j h1 h2=>absurd h2 (by omega)⟩
  case round=>
   obtain⟨k,rfl,hik,hno⟩:=hrel
   have HNO:=hide hno
   clear hno
   by_cases hkn:k<n
   ·obtain⟨x,hx,hcx,hlx⟩:=HI.out.word hkn
    have h63:=i64_and_63 k (by omega)
    obtain⟨m,hm⟩: ∃m,m=k%64:=⟨_,rfl⟩
    have hm64:m<64:=by omega
    obtain⟨q,hq⟩: ∃q,q=k/64:=⟨_,rfl⟩
    rw [<-hm]at h63
    have hq6:(k:Int)/64=(q:Int):=by omega
    rw [<-hq]at hcx hlx
    have hqi:(q:Int)<ws.length:=by omega
    have HM:=hide hm
    have HQ:=hide hq
    have HX:=hide hx
    have hkni:(k:Int)<n:=by omega
    clear hm hq hx
    obtain⟨y,hy⟩: ∃y,y=x.toNat/2^m:=⟨_,rfl⟩
    have hyi:(x.toNat:Int)/2^m=(y:Int):=by rw [hy];norm_cast
    have hylt:y<18446744073709551616:=by
     have:=x.isLt
     have h':x.toNat/2^m<=x.toNat:=Nat.div_le_self _ _
     omega
    have hor:=i64_or_63 k (by omega)
    have hor2:k/64 * 64+63=q * 64+63:=by rw [<-HQ.out]
    rw [hor2]at hor
    have HY:=hide hy
    have HYL:=hide hylt
    have hq64:q * 64+63<=4159:=by have:=HQ.out;omega
    clear hy hor2 hylt
    by_cases hy0:y=0
    ·have hy0i:((y:Int)==0)=true:=by rw [hy0];rfl
     have HY0:=hide hy0
     clear hy0
     go_wp2_with (go_at_call 255;refine(set_room H.out).mono ?_;rintro e w' ⟨rfl,rfl⟩)
     go_round
     case rel=>
      refine⟨q * 64+64,int_eq (by omega),by have:=HQ.out;omega,fun j h1 h2=> ?_⟩
      by_cases hjk:j<k
      ·exact HNO.out j h1 hjk
      ·have e1:j/64=k/64:=by have:=HQ.out;omega
       rw [<-HF.out,bitOf_get (x:=x) (by rw [e1];exact HX.out)]
       refine bit_zero (m:=m) (by rw [<-HY.out,HY0.out]) ?_
       have:=HM.out;have:=HQ.out;omega
     case measure=>have:=HQ.out;simp [intOf];omega
    ·have hy0i:((y:Int)==0)=false:=by simpa using(by omega: ¬y=0)
     have HY0:=hide hy0
     go_wp2_with (go_at_call 255;refine(set_room H.out).mono ?_;rintro e w' ⟨rfl,rfl⟩)
     go_loop [5,6] (fun v u=> ∃k' y':Nat,v= .int .i64 k'/\u= .int .u64 y'/\k<=k'/\k'/64=q/\Hid (y'=x.toNat/2^(k'%64))/\ ¬y'=0/\Hid (∀j,k<=j->j<k'->f j=false)) (fun v _=>q * 64+64 - (intOf v).toNat)
     case atStart=>exact⟨k,y,rfl,rfl,Nat.le_refl _,HQ.out.symm,by rw [<-HM.out];exact HY.out,hy0,fun j h1 h2=>absurd h2 (by omega)⟩
     case round=>
      obtain⟨k',y',rfl,rfl,hkk,hkq,HY',hy',HNO'⟩:=hrel
      have hy'lt:y'<18446744073709551616:=by
       have h1:=x.isLt
       have h':x.toNat/2^(k'%64)<=x.toNat:=Nat.div_le_self _ _
       rw [<-HY'.out]at h'
       omega
      have hand:=u64_and_1 y' hy'lt
      have HKQ:=hide hkq
      have hk'b:k'<=4159:=by omega
      have HYN:=hide hy'
      clear hy'lt hkq hy' HYL
      have hbit:x.getLsbD (k'%64)=decide (y'%2=1):=by rw [bit_div,<-HY'.out]
      have HB:=hide hbit
      clear hbit
      by_cases hp:y'%2=0
      ·rw [hp,Int.natCast_zero]at hand
       have HP:=hide hp
       clear hp
       go_wp2
       go_round
       case rel=>
        have hy2:x.toNat/2^(k'%64+1)=y'/2:=by rw [Nat.pow_succ,<-Nat.div_div_eq_div_mul,<-HY'.out]
        have hne: ¬y'/2=0:=by have:=HP.out;have:=HYN.out;omega
        have h63:k'%64<63:=by
         have h1:=x.isLt
         rcases Nat.lt_or_ge (k'%64) 63 with h|h
         ·exact h
         ·exfalso
          have h64:k'%64+1=64:=by omega
          rw [h64,Nat.div_eq_of_lt h1]at hy2
          exact hne hy2.symm
        have hq':=HKQ.out
        have e1:(k'+1)%64=k'%64+1:=by omega
        refine⟨k'+1,y'/2,by go_num,int_eq (by omega),by omega,by omega,by rw [e1];exact hy2.symm,hne,fun j h1 h2=> ?_⟩
        by_cases hjk:j=k'
        ·subst hjk
         rw [<-HF.out,bitOf_get (x:=x) (by rw [hq',HQ.out];exact HX.out),HB.out]
         have:=HP.out
         simp [this]
        ·exact HNO'.out j h1 (by omega)
       case measure=>have:=HKQ.out;simp [intOf];omega
      ·have hp1:y'%2=1:=by omega
       rw [hp1]at hand
       have hand':bits .and .u64 (y':Int) 1=1:=hand
       have HP:=hide hp1
       clear hp hp1 hand
       go_wp2
       go_ret
       have hfk:f k'=true:=by
        rw [<-HF.out,bitOf_get (x:=x) (by rw [HKQ.out,HQ.out];exact HX.out),HB.out]
        have:=HP.out
        simp [this]
       have hkn':k'<n:=by
        rcases Nat.lt_or_ge k' n with h|h
        ·exact h
        ·rw [HH.out k' h]at hfk;cases hfk
       refine⟨ret_int (nextOf_some hfk (by omega) hkn' fun j h1 h2=> ?_).symm,rfl⟩
       by_cases hjk:j<k
       ·exact HNO.out j h1 hjk
       ·exact HNO'.out j (by omega) h2
   ·have hkni: ¬(k:Int)<n:=by omega
    go_wp2_with (go_at_call 255;refine(set_room H.out).mono ?_;rintro e w' ⟨rfl,rfl⟩)
    go_ret
    exact⟨ret_int (nextOf_none fun j h1 h2=>HNO.out j h1 (by omega)).symm,rfl⟩
end Go.Proofs.YthlbjgabhpdbfaaGreat
namespace Go.Proofs.YthlbjgabhpdbfaaGreat
set_option linter.unusedVariables false
section
section
open Go.RowKit
structure GramD where
 terms:List ByteArray
 nons:List ByteArray
 rules:List (Int×List Int)
 start:Int
abbrev RdS (w:World) (F:Nat->Prop) (v:Value) (xs:List ByteArray):Prop:=Rd w F v 1 (xs.map Value.string)
abbrev RdI (w:World) (F:Nat->Prop) (v:Value) (xs:List Int):Prop:=Rd w F v 1 (xs.map (Value.int .i64))
def ERule (w:World) (F:Nat->Prop) (cs:List Value) (r:Int×List Int):Prop:= ∃v,cs=[.int .i64 r.1,v]/\RdI w F v r.2
theorem ERule.below {w w':World} {F:Nat->Prop} {B:Nat} {cs:List Value} {r:Int×List Int} (h:ERule w F cs r) (hb:Below B w w') (hF: ∀b,F b->b<B):ERule w' F cs r:=by
 obtain⟨v,e,hv⟩:=h
 exact⟨v,e,hv.below hb hF⟩
structure IsGram (w:World) (F:Nat->Prop) (vt vn vr:Value) (G:GramD):Prop where
 terms:RdS w F vt G.terms
 nons:RdS w F vn G.nons
 rules:RdL w F 2 (ERule w F) vr G.rules
 lt: ∀b,F b->b<w.heap.size
 small:G.terms.length<=8796093022207/\G.nons.length<=8796093022207/\G.rules.length<=4398046511103
 sizes:(∀s∈G.terms,s.size<=maxLen)/\(∀s∈G.nons,s.size<=maxLen)
 reach:(∀s∈G.terms,s.size<=140737488351232)/\(∀s∈G.nons,s.size<=140737488351232)
 wfs: ∀r∈G.rules,(-9223372036854775808<=r.1/\r.1<=9223372036854775807)/\r.2.length<=17592186044416/\ ∀x∈r.2,-9223372036854775808<=x/\x<=9223372036854775807
theorem IsGram.below {w w':World} {F:Nat->Prop} {vt vn vr:Value} {G:GramD} (h:IsGram w F vt vn vr G) (hb:Below w.heap.size w w'):IsGram w' F vt vn vr G:=
 ⟨h.terms.below hb h.lt,h.nons.below hb h.lt,h.rules.below hb h.lt fun cs x _ e=>e.below hb h.lt,fun b hF=>Nat.lt_of_lt_of_le (h.lt b hF) hb.size,h.small,h.sizes,h.reach,h.wfs⟩
abbrev GV (vt vn vr:Value) (st:Int):Value:= .agg #[vt,vn,vr,.int .i64 st]
theorem IsGram.slices {w:World} {F:Nat->Prop} {vt vn vr:Value} {G:GramD} (h:IsGram w F vt vn vr G): ∃A1 c1 A2 c2 A3 c3,vt= .slice A1 G.terms.length c1/\vn= .slice A2 G.nons.length c2/\vr= .slice A3 G.rules.length c3/\G.terms.length<=c1/\G.nons.length<=c2/\G.rules.length<=c3/\c1<=9223372036854775807/\c2<=9223372036854775807/\c3<=9223372036854775807:=by
 obtain⟨A1,n1,c1,e1,h1,m1,l1,_⟩:=h.terms
 obtain⟨A2,n2,c2,e2,h2,m2,l2,_⟩:=h.nons
 obtain⟨A3,c3,e3,h3,m3,_⟩:=h.rules
 have l1':n1=G.terms.length:=by simpa using l1.symm
 have l2':n2=G.nons.length:=by simpa using l2.symm
 subst l1' l2'
 unfold maxLen at m1 m2 m3
 exact⟨A1,c1,A2,c2,A3,c3,e1,e2,e3,h1,h2,h3,by omega,by omega,by omega⟩
def topOf (G:GramD):Nat:=G.terms.length+G.nons.length
def isTerm (G:GramD) (s:Int):Bool:=decide (1<=s)&&decide (s<=G.terms.length)
def isNon (G:GramD) (s:Int):Bool:=decide (G.terms.length<s)&&decide (s<=topOf G)
def Quiet (w:World) (r:Value) (e:Ending) (w':World):Prop:=e= .returned r/\Below w.heap.size w w'
theorem gram_top {w:World} {F:Nat->Prop} {vt vn vr:Value} {G:GramD} (h:IsGram w F vt vn vr G) (st:Int):
  Calls Tryz.prog 80 #[GV vt vn vr st] w (Quiet w (.int .i64 (topOf G))):=by
 obtain⟨A1,c1,A2,c2,A3,c3,rfl,rfl,rfl,_⟩:=h.slices
 have hs:=h.small
 obtain⟨T,hT⟩: ∃T,T=G.terms.length:=⟨_,rfl⟩
 obtain⟨N,hN⟩: ∃N,N=G.nons.length:=⟨_,rfl⟩
 rw [<-hT,<-hN]at hs⊢
 have H1:=hide hT
 have H2:=hide hN
 obtain⟨s1,s2,s3⟩:=hs
 clear hT hN h
 go_enter Tryz.func80,Tryz.ntmps80
 go_wp2
 go_ret
 exact⟨ret_int (by unfold topOf;rw [<-H1.out,<-H2.out];omega),(Below.refl _ _).alloc (Nat.le_refl _) _⟩
theorem gram_term {w:World} {F:Nat->Prop} {vt vn vr:Value} {G:GramD} (h:IsGram w F vt vn vr G) (st s:Int):
  Calls Tryz.prog 177 #[GV vt vn vr st,.int .i64 s] w (Quiet w (.bool (isTerm G s))):=by
 obtain⟨A1,c1,A2,c2,A3,c3,rfl,rfl,rfl,_⟩:=h.slices
 have hs:=h.small
 have hsp:isTerm G s=(decide (1<=s)&&decide (s<=(G.terms.length:Int))):=rfl
 obtain⟨T,hT⟩: ∃T,T=G.terms.length:=⟨_,rfl⟩
 rw [<-hT]at hs hsp⊢
 have HS:=hide hsp
 obtain⟨s1,s2,s3⟩:=hs
 clear hT h hsp
 by_cases h1:1<=s
 ·go_enter Tryz.func177,Tryz.ntmps177
  go_wp2
  go_ret
  exact⟨ret_bool (by rw [HS.out,decide_eq_true h1];rfl),(Below.refl _ _).alloc (Nat.le_refl _) _⟩
 ·go_enter Tryz.func177,Tryz.ntmps177
  go_wp2
  go_ret
  exact⟨ret_bool (by rw [HS.out,decide_eq_false (by omega)];rfl),(Below.refl _ _).alloc (Nat.le_refl _) _⟩
theorem gram_non {w:World} {F:Nat->Prop} {vt vn vr:Value} {G:GramD} (h:IsGram w F vt vn vr G) (st s:Int):
  Calls Tryz.prog 148 #[GV vt vn vr st,.int .i64 s] w (Quiet w (.bool (isNon G s))):=by
 have hs:=h.small
 have hsp:isNon G s=(decide ((G.terms.length:Int)<s)&&decide (s<=(topOf G:Int))):=rfl
 have H:=hide h
 obtain⟨A1,c1,A2,c2,A3,c3,e1,e2,e3,_⟩:=h.slices
 have h4:=h.below ((Below.refl _ w).alloc (Nat.le_refl _) (.cells #[vt,vn,vr,.int .i64 st] 25))
 subst e1 e2 e3
 obtain⟨T,hT⟩: ∃T,T=G.terms.length:=⟨_,rfl⟩
 have H4:=hide h4
 rw [<-hT]at hs hsp H4⊢
 have HS:=hide hsp
 obtain⟨s1,s2,s3⟩:=hs
 clear hT h hsp h4 H
 by_cases h1:(T:Int)<s
 ·go_enter Tryz.func148,Tryz.ntmps148
  go_wp2_with fail
  refine(gram_top H4.out _).mono ?_
  rintro e w1 ⟨rfl,b1⟩
  go_wp2_with fail
  go_ret
  exact⟨ret_bool (by rw [HS.out,decide_eq_true h1];rfl),((Below.refl _ _).alloc (Nat.le_refl _) _).trans (b1.mono (by simp))⟩
 ·go_enter Tryz.func148,Tryz.ntmps148
  go_wp2_with fail
  go_ret
  exact⟨ret_bool (by rw [HS.out,decide_eq_false (by omega)];rfl),(Below.refl _ _).alloc (Nat.le_refl _) _⟩
theorem ref_top {w:World} {F:Nat->Prop} {vt vn vr:Value} {G:GramD} (h:IsGram w F vt vn vr G) (st:Int):
  Calls Tryz.prog 22 #[GV vt vn vr st] w (Quiet w (.int .i64 (topOf G))):=by
 obtain⟨A1,c1,A2,c2,A3,c3,rfl,rfl,rfl,_⟩:=h.slices
 have hs:=h.small
 obtain⟨T,hT⟩: ∃T,T=G.terms.length:=⟨_,rfl⟩
 obtain⟨N,hN⟩: ∃N,N=G.nons.length:=⟨_,rfl⟩
 rw [<-hT,<-hN]at hs⊢
 have H1:=hide hT
 have H2:=hide hN
 obtain⟨s1,s2,s3⟩:=hs
 clear hT hN h
 go_enter Tryz.func22,Tryz.ntmps22
 go_wp2
 go_ret
 exact⟨ret_int (by unfold topOf;rw [<-H1.out,<-H2.out];omega),(Below.refl _ _).alloc (Nat.le_refl _) _⟩
theorem ref_non {w:World} {F:Nat->Prop} {vt vn vr:Value} {G:GramD} (h:IsGram w F vt vn vr G) (st s:Int):
  Calls Tryz.prog 24 #[GV vt vn vr st,.int .i64 s] w (Quiet w (.bool (isNon G s))):=by
 have hs:=h.small
 have hsp:isNon G s=(decide ((G.terms.length:Int)<s)&&decide (s<=(topOf G:Int))):=rfl
 have H:=hide h
 obtain⟨A1,c1,A2,c2,A3,c3,e1,e2,e3,_⟩:=h.slices
 have h4:=h.below ((Below.refl _ w).alloc (Nat.le_refl _) (.cells #[vt,vn,vr,.int .i64 st] 25))
 subst e1 e2 e3
 obtain⟨T,hT⟩: ∃T,T=G.terms.length:=⟨_,rfl⟩
 have H4:=hide h4
 rw [<-hT]at hs hsp H4⊢
 have HS:=hide hsp
 obtain⟨s1,s2,s3⟩:=hs
 clear hT h hsp h4 H
 by_cases h1:(T:Int)<s
 ·go_enter Tryz.func24,Tryz.ntmps24
  go_wp2_with fail
  refine(ref_top H4.out _).mono ?_
  rintro e w1 ⟨rfl,b1⟩
  go_wp2_with fail
  go_ret
  exact⟨ret_bool (by rw [HS.out,decide_eq_true h1];rfl),((Below.refl _ _).alloc (Nat.le_refl _) _).trans (b1.mono (by simp))⟩
 ·go_enter Tryz.func24,Tryz.ntmps24
  go_wp2_with fail
  go_ret
  exact⟨ret_bool (by rw [HS.out,decide_eq_false (by omega)];rfl),(Below.refl _ _).alloc (Nat.le_refl _) _⟩
end
section
open Go.RowKit
theorem Tryz.infoStr:(Tryz.prog.info? 9).map (fun i=>(i.zero,i.size,i.bytes))=some (some (.string ByteArray.empty),1,16):=by kernel_rfl
theorem Tryz.elemStr:Elem Tryz.prog 22 9 (.string ByteArray.empty) 1 16:=⟨Tryz.underlying22,Tryz.infoStr,rfl,by decide⟩
theorem Tryz.infoInt:(Tryz.prog.info? 3).map (fun i=>(i.zero,i.size,i.bytes))=some (some (.int .i64 0),1,8):=by kernel_rfl
theorem Tryz.elemInt:Elem Tryz.prog 49 3 (.int .i64 0) 1 8:=⟨Tryz.underlying49,Tryz.infoInt,rfl,by decide⟩
theorem RdS.at_ {w:World} {F:Nat->Prop} {A:Option Addr} {n c:Nat} {xs:List ByteArray} (h:RdS w F (.slice A n c) xs):n=xs.length/\n<=c/\c<=maxLen/\(0<n-> ∃b off,A=some ⟨b,off,none⟩/\F b/\ ∀k x,xs[k]? =some x->w.cell? ⟨b,off+k,none⟩=some (.string x)):=by
 obtain⟨A',n',c',hv,h1,h2,hl,hr⟩:=h
 injection hv with e1 e2 e3
 subst e1 e2 e3
 refine⟨by simpa using hl.symm,h1,h2,fun hn=> ?_⟩
 obtain⟨b,off,hA,hF,hc⟩:=hr hn
 exact⟨b,off,hA,hF,fun k x hx=>hc k _ (by simp [hx])⟩
theorem RdI.at_ {w:World} {F:Nat->Prop} {A:Option Addr} {n c:Nat} {xs:List Int} (h:RdI w F (.slice A n c) xs):n=xs.length/\n<=c/\c<=maxLen/\(0<n-> ∃b off,A=some ⟨b,off,none⟩/\F b/\ ∀k x,xs[k]? =some x->w.cell? ⟨b,off+k,none⟩=some (.int .i64 x)):=by
 obtain⟨A',n',c',hv,h1,h2,hl,hr⟩:=h
 injection hv with e1 e2 e3
 subst e1 e2 e3
 refine⟨by simpa using hl.symm,h1,h2,fun hn=> ?_⟩
 obtain⟨b,off,hA,hF,hc⟩:=hr hn
 exact⟨b,off,hA,hF,fun k x hx=>hc k _ (by simp [hx])⟩
theorem ERule.at_ {w:World} {F:Nat->Prop} {A:Option Addr} {n c:Nat} {rs:List (Int×List Int)} (h:RdL w F 2 (ERule w F) (.slice A n c) rs):n=rs.length/\n<=c/\c<=maxLen/\(0<n-> ∃b off,A=some ⟨b,off,none⟩/\F b/\ ∀(k:Nat) (r:Int×List Int),rs[k]? =some r-> ∃v,w.cell? ⟨b,off+k * 2,none⟩=some (.int .i64 r.1)/\w.cell? ⟨b,off+k * 2+1,none⟩=some v/\RdI w F v r.2):=by
 obtain⟨A',c',hv,h1,h2,hr⟩:=h
 injection hv with e1 e2 e3
 subst e1 e2 e3
 refine⟨rfl,h1,h2,fun hn=> ?_⟩
 obtain⟨b,off,hA,hF,hc⟩:=hr hn
 refine⟨b,off,hA,hF,fun k r hk=> ?_⟩
 obtain⟨cs,_,⟨v,rfl,hv⟩,hcell⟩:=hc k r hk
 exact⟨v,hcell 0 _ rfl,hcell 1 _ rfl,hv⟩
end
section
open Go.RowKit
def OwnPost (w:World) (e:TypeId) (xs:List Value) (n:Nat) (en:Ending) (w':World):Prop:=
 ∃A c,en= .returned (.slice A n c)/\w'.ownsRow w.heap.size e 1 (.slice A n c) n xs/\Below w.heap.size w w'
theorem rds_ones {xs:List ByteArray}: ∀u∈xs.map Value.string,u.oneCell'=true:=by
 intro u hu;obtain⟨x,_,rfl⟩:=List.mem_map.1 hu;rfl
end
section
open Go.RowKit
theorem equal_ints {w:World} {F G:Nat->Prop} {v u:Value} {xs ys:List Int} (h:RdI w F v xs) (g:RdI w G u ys):
  Calls Tryz.prog 164 #[v,u] w (Quiet w (.bool (decide (xs=ys)))):=by
 obtain⟨A,n,c,rfl,_⟩:=id h
 obtain⟨B,m,d,rfl,_⟩:=id g
 obtain⟨hn,hnc,hcm,hcell⟩:=h.at_
 obtain⟨hm,hmd,hdm,hcell'⟩:=g.at_
 unfold maxLen at hcm hdm
 by_cases hnm:n=m
 ·subst hnm
  have HN:=hide hn
  have HM:=hide hm
  clear hn hm
  go_enter Tryz.func164,Tryz.ntmps164
  go_wp2
  go_loopw [13] (fun i wr=> ∃k q:Nat,k<=n/\i= .int .i64 k/\wr=w.drewN q/\ ∀j:Nat,j<k->xs[j]? =ys[j]?) (fun i _=>n - (intOf i).toNat)
  case atStart=>exact⟨0,0,Nat.zero_le _,rfl,rfl,fun j hj=>absurd hj (by omega)⟩
  case round=>
   obtain⟨k,q,hk,rfl,rfl,hbefore⟩:=hrel
   have HB:=hide hbefore
   clear hbefore
   by_cases hlt:k<n
   ·obtain⟨b,off,rfl,_,hc⟩:=hcell (by omega)
    obtain⟨b',off',rfl,_,hc'⟩:=hcell' (by omega)
    obtain⟨x,hx⟩: ∃x,xs[k]? =some x:=⟨_,List.getElem?_eq_getElem (by rw [<-HN.out];omega)⟩
    obtain⟨y,hy⟩: ∃y,ys[k]? =some y:=⟨_,List.getElem?_eq_getElem (by rw [<-HM.out];omega)⟩
    have hcx:=hc k x hx
    have hcy:=hc' k y hy
    have HX:=hide hx
    have HY:=hide hy
    clear hcell hc hx hcell' hc' hy
    by_cases he:x=y
    ·have HE:=hide he
     have he':(x==y)=true:=by subst he;simp
     clear he
     go_wp2_with fail
     go_quiet (fail)
     go_wp2
     go_roundw
     case rel=>
      refine⟨k+1,q+nq,by omega,by go_num,rfl,fun j hj=> ?_⟩
      by_cases hjk:j=k
      ·subst hjk;rw [HX.out,HY.out,HE.out]
      ·exact HB.out j (by omega)
     case measure=>simp [intOf];omega
    ·have HE:=hide he
     have he':(x==y)=false:=by simpa using he
     clear he
     go_wp2_with fail
     go_quiet (fail)
     go_wp2
     go_ret
     refine⟨ret_bool ?_,⟨rfl,rfl,rfl,Nat.le_refl _,fun _ _=>rfl⟩⟩
     symm
     rw [decide_eq_false_iff_not]
     rintro rfl
     rw [HX.out]at HY
     have:=HY.out
     injection this with this
     exact HE.out this
   ·go_wp2
    go_ret
    refine⟨ret_bool ?_,⟨rfl,rfl,rfl,Nat.le_refl _,fun _ _=>rfl⟩⟩
    symm
    rw [decide_eq_true_eq]
    apply List.ext_getElem?
    intro j
    by_cases hj:j<n
    ·exact HB.out j (by omega)
    ·rw [List.getElem?_eq_none (by rw [<-HN.out];omega),List.getElem?_eq_none (by rw [<-HM.out];omega)]
 ·have hne:((n:Int)==(m:Int))=false:=by simpa using(by omega: ¬(n:Int)=(m:Int))
  have HN:=hide hn
  have HM:=hide hm
  clear hn hm
  go_enter Tryz.func164,Tryz.ntmps164
  go_wp2
  go_ret
  refine⟨ret_bool ?_,⟨rfl,rfl,rfl,Nat.le_refl _,fun _ _=>rfl⟩⟩
  symm
  rw [decide_eq_false_iff_not]
  rintro rfl
  exact hnm (by rw [HN.out,HM.out])
end
section
open Go.RowKit
theorem same_rule {w:World} {F G:Nat->Prop} {l m:Int} {v u:Value} {xs ys:List Int} (h:RdI w F v xs) (g:RdI w G u ys) (hF: ∀b,F b->b<w.heap.size) (hG: ∀b,G b->b<w.heap.size):
  Calls Tryz.prog 152 #[.agg #[.int .i64 l,v],.agg #[.int .i64 m,u]] w (Quiet w (.bool (decide ((l,xs)=(m,ys))))):=by
 have b2:=((Below.refl _ w).alloc (Nat.le_refl _) (.cells #[.int .i64 l,v] 98)).alloc (by simp) (.cells #[.int .i64 m,u] 98)
 have he:=equal_ints (h.below b2 hF) (g.below b2 hG)
 obtain⟨A,n,c,rfl,_⟩:=id h
 obtain⟨B,n',d,rfl,_⟩:=id g
 have B2:=hide b2
 have HE:=hide he
 clear h g he b2
 by_cases hlm:l=m
 ·have hb:(l==m)=true:=by simpa using hlm
  have HL:=hide hlm
  clear hlm
  go_enter Tryz.func152,Tryz.ntmps152
  go_wp2_with fail
  refine HE.out.mono ?_
  rintro e w1 ⟨rfl,b1⟩
  go_wp2_with fail
  go_ret
  exact⟨ret_bool (by have e:=HL.out;subst e;simp),B2.out.trans (b1.mono (by simp;omega))⟩
 ·have hb:(l==m)=false:=by simpa using hlm
  have HL:=hide hlm
  clear hlm
  go_enter Tryz.func152,Tryz.ntmps152
  go_wp2_with fail
  go_ret
  exact⟨ret_bool (by simp;intro e;exact absurd e HL.out),B2.out⟩
end
section
open Go.RowKit
theorem Tryz.enters_same: ∀args w,(callFunc 152 args).run Tryz.prog w= .ok (.enter 152 args) w:=enters_of Tryz.func152 (by kernel_rfl) rfl
abbrev RdR (w:World) (F:Nat->Prop) (v:Value) (rs:List (Int×List Int)):Prop:=RdL w F 2 (ERule w F) v rs
theorem RdR.below {w w':World} {F:Nat->Prop} {v:Value} {rs:List (Int×List Int)} (h:RdR w F v rs) (hb:Below w.heap.size w w') (hF: ∀b,F b->b<w.heap.size):RdR w' F v rs:=
 RdL.below h hb hF fun cs x _ e=>e.below hb hF
theorem RdR.get {w wr:World} {F:Nat->Prop} {b off n:Nat} {rs:List (Int×List Int)} (hF: ∀b,F b->b<w.heap.size) (hb:F b) (hw:Below w.heap.size w wr)
  (hc: ∀(k:Nat) (r:Int×List Int),rs[k]? =some r-> ∃v,w.cell? ⟨b,off+k * 2,none⟩=some (.int .i64 r.1)/\w.cell? ⟨b,off+k * 2+1,none⟩=some v/\RdI w F v r.2) {k:Nat} (hk:k<rs.length):
  ∃l xs v,rs[k]? =some (l,xs)/\wr.cell? ⟨b,off+k * 2,none⟩=some (.int .i64 l)/\wr.cell? ⟨b,off+k * 2+1,none⟩=some v/\RdI wr F v xs:=by
 obtain⟨v,h1,h2,h3⟩:=hc k _ (List.getElem?_eq_getElem hk)
 refine⟨_,_,v,List.getElem?_eq_getElem hk,?_,?_,h3.below hw hF⟩
 ·rw [hw.cell (p:=⟨b,_,none⟩) (hF b hb)];exact h1
 ·rw [hw.cell (p:=⟨b,_,none⟩) (hF b hb)];exact h2
end
section
open Go.RowKit
theorem IsGram.blk {w:World} {F:Nat->Prop} {vt vn vr:Value} {G:GramD} (h:IsGram w F vt vn vr G) (o:Obj):IsGram (w.alloc o) F vt vn vr G:=h.below ((Below.refl _ w).alloc (Nat.le_refl _) o)
end
end
section
section
open Go.RowKit
theorem below_drewN {B:Nat} {a b:World} (h:Below B a b) (n:Nat):Below B a (b.drewN n):=⟨h.os,h.tape,h.output,h.size,h.block⟩
end
section
open Go.RowKit
theorem isNon_iff {G:GramD} {s:Int}:isNon G s=true↔(G.terms.length:Int)<s/\s<=(G.terms.length:Int)+G.nons.length:=by
 unfold isNon
 rw [Bool.and_eq_true,decide_eq_true_eq,decide_eq_true_eq]
 unfold topOf
 omega
theorem isTerm_iff {G:GramD} {s:Int}:isTerm G s=true↔1<=s/\s<=(G.terms.length:Int):=by
 unfold isTerm
 rw [Bool.and_eq_true,decide_eq_true_eq,decide_eq_true_eq]
end
section
open Go.RowKit
def ofUpto (rs:List (Int×List Int)) (s:Int) (k:Nat):List Int:=((List.range k).filter (fun(i:Nat)=>decide ((rs[i]?).map (·.1)=some s))).map (fun(i:Nat)=>(i:Int))
def ofOf (G:GramD) (s:Int):List Int:=ofUpto G.rules s G.rules.length
theorem ofUpto_yes {rs:List (Int×List Int)} {s:Int} {k:Nat} {x:List Int} (h:rs[k]? =some (s,x)):ofUpto rs s (k+1)=ofUpto rs s k++[(k:Int)]:=by
 unfold ofUpto
 rw [List.range_succ,List.filter_append,List.map_append]
 simp [h]
theorem ofUpto_no {rs:List (Int×List Int)} {s l:Int} {k:Nat} {x:List Int} (h:rs[k]? =some (l,x)) (hne:l≠s):ofUpto rs s (k+1)=ofUpto rs s k:=by
 unfold ofUpto
 rw [List.range_succ,List.filter_append,List.map_append]
 simp [h,hne]
theorem ofUpto_len {rs:List (Int×List Int)} {s:Int} {k:Nat}:(ofUpto rs s k).length<=k:=by
 unfold ofUpto
 rw [List.length_map]
 exact Nat.le_trans (List.length_filter_le _ _) (by simp)
abbrev I64 (x:Int):Value:= .int .i64 x
set_option maxRecDepth 100000 in
set_option maxHeartbeats 2000000 in
theorem gram_of {w:World} {F:Nat->Prop} {vt vn vr:Value} {G:GramD} (h:IsGram w F vt vn vr G) (st s:Int):
  Calls Tryz.prog 153 #[GV vt vn vr st,.int .i64 s] w (OwnPost w 3 ((ofOf G s).map I64) (ofOf G s).length):=by
 have h1:=h.blk (.cells #[vt,vn,vr,.int .i64 st] 25)
 have B1:Below w.heap.size w (w.alloc (.cells #[vt,vn,vr,.int .i64 st] 25)):=(Below.refl _ w).alloc (Nat.le_refl _) _
 have hF:=h.lt
 have hsm:=h.small
 obtain⟨A1,c1,A2,c2,A3,c3,rfl,rfl,rfl,l1,l2,l3,m1,m2,m3⟩:=h.slices
 obtain⟨-,-,-,hcell⟩:=ERule.at_ h.rules
 have hend:ofUpto G.rules s G.rules.length=ofOf G s:=rfl
 obtain⟨n,en⟩: ∃n,n=G.rules.length:=⟨_,rfl⟩
 rw [<-en]at hsm hcell B1 l3 hend⊢
 obtain⟨s1,s2,s3⟩:=hsm
 have HN:=hide en
 have HC:=hide hcell
 have HF:=hide hF
 have HB:=hide B1
 have HE:=hide hend
 clear en hcell hF B1 h1 h hend
 go_enter Tryz.func153,Tryz.ntmps153
 go_wp2
 go_loopw [5,11] (fun o i wr=> ∃(k:Nat) (A:Option Addr) (c:Nat),k<=n/\i= .int .i64 k/\o= .slice A (ofUpto G.rules s k).length c/\wr.ownsRow w.heap.size 3 1 (.slice A (ofUpto G.rules s k).length c) (ofUpto G.rules s k).length ((ofUpto G.rules s k).map I64)/\Below w.heap.size w wr) (fun _ i _=>n - (intOf i).toNat)
 case atStart=>exact⟨0,none,0,Nat.zero_le _,rfl,rfl,World.ownsRow_nil _ _ _ _,HB.out⟩
 case round=>
  obtain⟨k,A,c,hk,rfl,rfl,hown,hw⟩:=hrel
  have hlk:=ofUpto_len (rs:=G.rules) (s:=s) (k:=k)
  have HW:=hide hw
  have hwz:=hw.size
  by_cases hlt:k<n
  ·obtain⟨b,off,rfl,hb,hc⟩:=HC.out (by omega)
   obtain⟨l0,x,vx,hx,hx0,hx1,hxr⟩:=RdR.get (n:=n) HF.out hb hw hc (k:=k) (by rw [<-HN.out];omega)
   obtain⟨A5,n5,c5,rfl,_⟩:=id hxr
   have HX:=hide hx
   clear hc hx hxr hw
   by_cases he:l0=s
   ·subst he
    have hnx:=ofUpto_yes HX.out
    obtain⟨l,hl⟩: ∃l,l=ofUpto G.rules l0 k:=⟨_,rfl⟩
    rw [<-hl]at hnx hown hlk⊢
    have HNX:=hide hnx
    have HO:=hide hown
    clear hl hnx
    obtain⟨w1,hw1⟩: ∃w1,w1=wr.alloc (.cells #[.int .i64 l0,.slice A5 n5 c5] 98):=⟨_,rfl⟩
    have ho1:w1.ownsRow w.heap.size 3 1 (.slice A l.length c) l.length (l.map I64):=by rw [hw1];exact hown.alloc _
    have HB1:Below w.heap.size w w1:=by rw [hw1];exact HW.out.alloc hwz _
    have hz1:=HB1.size
    have HH:=hide HB1
    rw [hw1]at ho1 HH hz1
    clear hown HB1 hw1 w1
    have r1:Rd ((wr.alloc (.cells #[.int .i64 l0,.slice A5 n5 c5] 98)).alloc (.cells #[I64 k] 3)) (fun _=>True) (.slice (some ⟨wr.heap.size+1,0,none⟩) 1 1) 1 [I64 k]:=by
     have:=Rd.one (w:=wr.alloc (.cells #[.int .i64 l0,.slice A5 n5 c5] 98)) (e:=3) [I64 k] 1 rfl
     simpa using this
    go_wp2_with (at_builtin;refine wp_append _ rfl (.tmp 20) (.tmp 22) _ rfl Tryz.elemInt w.heap.size _ l.length (l.map I64) rfl (ho1.alloc _) _ _ [I64 k] 1 rfl rfl r1 (by simp [Value.oneCell']) (by unfold maxLen;omega) (by omega) (by simp;omega) ?_)
    intro A' c' w2 hown2 hg2 _
    have ho2:w2.ownsRow w.heap.size 3 1 (.slice A' (l.length+1) c') (l.length+1) (l.map I64++[I64 k]):=hown2
    clear hown2
    go_wp2
    go_roundw
    case rel=>
     refine⟨k+1,A',c',by omega,by go_num,?_,?_,?_⟩
     ·rw [HNX.out];simp
     ·rw [HNX.out];simpa using ho2
     ·exact((HH.out.alloc hz1 _).grown hg2 (by simp;omega) (fun q hq=>(ho1.lt q hq).1))
    case measure=>simp [intOf];omega
   ·have hb':(l0==s)=false:=by simpa using he
    have hnx:=ofUpto_no HX.out he
    have HNX:=hide hnx
    clear he hnx
    go_wp2
    go_roundw
    case rel=>exact⟨k+1,A,c,by omega,by go_num,by rw [HNX.out],by rw [HNX.out];exact hown.alloc _,HW.out.alloc hwz _⟩
    case measure=>simp [intOf];omega
  ·have hkn:k=n:=by omega
   subst hkn
   rw [HE.out]at hown
   have hlen:=HE
   rw [HE.out]
   clear hlk
   go_wp2
   go_ret
   exact⟨A,c,rfl,hown,HW.out⟩
end
section
open Go.RowKit
end
section
open Go.RowKit
theorem Rd.one' {w:World} {e:TypeId} (us:List Value) (size:Nat) (hl:us.length=size):Rd (w.alloc (.cells us.toArray e)) (fun b=>b=w.heap.size) (.slice (some ⟨w.heap.size,0,none⟩) 1 1) size us:=
 ⟨_,1,1,rfl,Nat.le_refl _,by decide,by simpa using hl,fun _=>⟨_,0,rfl,rfl,fun j u hu=>by
  rw [(Blk.new w e us.toArray).cell];simpa using hu⟩⟩
def ruleOf (G:GramD) (st i:Int):(Int×List Int)×Bool:=if i<0\/(G.rules.length:Int)<i then((0,[]),false)else if i=(G.rules.length:Int)then((0,[st]),true)else((G.rules[i.toNat]?).getD (0,[]),true)
end
end
section
section
open Go.RowKit
def firstBy {X:Type} (p:X->Bool) (xs:List X):Int:=match xs.findIdx? p with|some i=>(i:Int)|none=> -1
theorem firstBy_hit {X:Type} {p:X->Bool} {xs:List X} {i:Nat} {x:X} (h:xs[i]? =some x) (hp:p x=true) (hf: ∀(j:Nat) (y:X),j<i->xs[j]? =some y->p y=false):firstBy p xs=i:=by
 obtain⟨hlt,rfl⟩:=List.getElem?_eq_some_iff.1 h
 have:xs.findIdx? p=some i:=by
  rw [List.findIdx?_eq_some_iff_getElem]
  exact⟨hlt,hp,fun j hj=>by
   have:=hf j _ hj (List.getElem?_eq_getElem (by omega))
   simp [this]⟩
 unfold firstBy
 rw [this]
theorem firstBy_miss {X:Type} {p:X->Bool} {xs:List X} (hf: ∀(j:Nat) (y:X),xs[j]? =some y->p y=false):firstBy p xs= -1:=by
 have:xs.findIdx? p=none:=by
  rw [List.findIdx?_eq_none_iff]
  intro x hx
  obtain⟨j,hj,e⟩:=List.getElem_of_mem hx
  exact hf j x (by rw [List.getElem?_eq_getElem hj,e])
 unfold firstBy
 rw [this]
theorem firstBy_any {X:Type} {p:X->Bool} {xs:List X}:decide (0<=firstBy p xs)=xs.any p:=by
 unfold firstBy
 rcases h:xs.findIdx? p with _|i
 ·rw [List.findIdx?_eq_none_iff]at h
  have:xs.any p=false:=by
   rw [List.any_eq_false]
   intro x hx
   simp [h x hx]
  rw [this];rfl
 ·rw [List.findIdx?_eq_some_iff_getElem]at h
  obtain⟨hi,hp,_⟩:=h
  have:xs.any p=true:=List.any_eq_true.2 ⟨_,List.getElem_mem hi,hp⟩
  rw [this]
  simp
def PredR (w:World) (F:Nat->Prop) (g:Nat) (lb:Array Value) (p:Int×List Int->Bool):Prop:=
 ∀(W:World) (v:Value) (r:Int×List Int),Below w.heap.size w W->RdI W F v r.2->Calls Tryz.prog g (#[.agg #[.int .i64 r.1,v]]++lb) W (Quiet W (.bool (p r)))
set_option maxHeartbeats 2000000 in
theorem index_rules {w:World} {F:Nat->Prop} {v:Value} {rs:List (Int×List Int)} {g:Nat} {lb:Array Value} {p:Int×List Int->Bool} (h:RdR w F v rs) (hF: ∀b,F b->b<w.heap.size) (eg:Enters Tryz.prog g) (hp:PredR w F g lb p):
  Calls Tryz.prog 235 #[v,.func (.func g) #[] lb] w (Quiet w (.int .i64 (firstBy p rs))):=by
 obtain⟨A,c,rfl,_⟩:=id h
 obtain⟨-,hnc,hcm,hcell⟩:=ERule.at_ h
 obtain⟨n,en⟩: ∃n,n=rs.length:=⟨_,rfl⟩
 rw [<-en]at hnc hcell⊢
 unfold maxLen at hcm
 have HN:=hide en
 have HC:=hide hcell
 have HF:=hide hF
 have HP:=hide hp
 have eg': ∀args w,(callFunc g args).run Tryz.prog w= .ok (.enter g args) w:=eg
 clear h en hcell hF hp
 go_enter Tryz.func235,Tryz.ntmps235
 go_wp2
 go_loopw [8] (fun i wr=> ∃k:Nat,k<=n/\i= .int .i64 k/\Below w.heap.size w wr/\ ∀(j:Nat) (y:Int×List Int),j<k->rs[j]? =some y->p y=false) (fun i _=>n - (intOf i).toNat)
 case atStart=>exact⟨0,Nat.zero_le _,rfl,Below.refl _ _,fun j y hj=>absurd hj (by omega)⟩
 case round=>
  obtain⟨k,hk,rfl,hw,hbefore⟩:=hrel
  have HB:=hide hbefore
  have HW:=hide hw
  clear hbefore
  by_cases hlt:k<n
  ·obtain⟨b,off,rfl,hb,hc⟩:=HC.out (by omega)
   obtain⟨l,x,vx,hx,hx0,hx1,hxr⟩:=RdR.get (n:=n) HF.out hb hw hc (k:=k) (by rw [<-HN.out];omega)
   have hs:=HP.out wr vx (l,x) hw hxr
   have HX:=hide hx
   cases hq:p (l,x)with
   |true=>
    rw [hq]at hs
    have HS:=hide hs
    have HQ:=hide hq
    clear hs hc hx hxr hw hq
    go_wp2_with (go_at_fn g;refine HS.out.mono ?_;rintro e w1 ⟨rfl,b1⟩)
    go_ret
    exact⟨ret_int (firstBy_hit HX.out HQ.out HB.out).symm,HW.out.trans (b1.mono HW.out.size)⟩
   |false=>
    rw [hq]at hs
    have HS:=hide hs
    have HQ:=hide hq
    clear hs hc hx hxr hw hq
    go_wp2_with (go_at_fn g;refine HS.out.mono ?_;rintro e w1 ⟨rfl,b1⟩)
    go_roundw
    case rel=>
     refine⟨k+1,by omega,by go_num,HW.out.trans (b1.mono HW.out.size),fun j y hj hy=> ?_⟩
     by_cases hjk:j=k
     ·subst hjk;rw [HX.out]at hy;injection hy with hy;rw [<-hy];exact HQ.out
     ·exact HB.out j y (by omega) hy
    case measure=>simp [intOf];omega
  ·clear hw
   go_wp2
   go_ret
   exact⟨ret_int (firstBy_miss fun j y hy=>HB.out j y (by have:=(List.getElem?_eq_some_iff.1 hy).1;have:=HN.out;omega) hy).symm,HW.out⟩
end
section
open Go.RowKit
def PredV {X:Type} (w:World) (g:Nat) (lb:Array Value) (enc:X->Value) (p:X->Bool):Prop:=
 ∀(W:World) (x:X),Below w.heap.size w W->Calls Tryz.prog g (#[enc x]++lb) W (Quiet W (.bool (p x)))
def PredS (w:World) (g:Nat) (lb:Array Value) (p:ByteArray->Bool):Prop:=
 ∀(W:World) (x:ByteArray),x.size<=maxLen->Below w.heap.size w W->Calls Tryz.prog g (#[.string x]++lb) W (Quiet W (.bool (p x)))
theorem all_any {X:Type} (p:X->Bool) (xs:List X):(!(decide (0<=firstBy (fun x=> !p x) xs)))=xs.all p:=by
 rw [firstBy_any]
 induction xs with
 |nil=>rfl
 |cons a r ih=>simp only [List.any_cons,List.all_cons,<-ih];cases p a<;>simp
set_option maxHeartbeats 2000000 in
theorem idxf_strs {w:World} {F:Nat->Prop} {v:Value} {rs:List ByteArray} {g:Nat} {lb:Array Value} {p:ByteArray->Bool} (h:RdS w F v rs) (hF: ∀b,F b->b<w.heap.size) (eg:Enters Tryz.prog g) (hp:PredS w g lb p) (hz: ∀x∈rs,x.size<=maxLen):
  Calls Tryz.prog 236 #[v,.func (.func g) #[] lb] w (Quiet w (.int .i64 (firstBy p rs))):=by
 obtain⟨A,n,c,rfl,_⟩:=id h
 obtain⟨en,hnc,hcm,hcell⟩:=h.at_
 unfold maxLen at hcm
 have HN:=hide en
 have HC:=hide hcell
 have HF:=hide hF
 have HP:=hide hp
 have eg': ∀args w,(callFunc g args).run Tryz.prog w= .ok (.enter g args) w:=eg
 clear h en hcell hF hp
 go_enter Tryz.func236,Tryz.ntmps236
 go_wp2
 go_loopw [8] (fun i wr=> ∃k:Nat,k<=n/\i= .int .i64 k/\Below w.heap.size w wr/\ ∀(j:Nat) (y:ByteArray),j<k->rs[j]? =some y->p y=false) (fun i _=>n - (intOf i).toNat)
 case atStart=>exact⟨0,Nat.zero_le _,rfl,Below.refl _ _,fun j y hj=>absurd hj (by omega)⟩
 case round=>
  obtain⟨k,hk,rfl,hw,hbefore⟩:=hrel
  have HB:=hide hbefore
  have HW:=hide hw
  clear hbefore
  by_cases hlt:k<n
  ·obtain⟨b,off,rfl,hb,hc⟩:=HC.out (by omega)
   obtain⟨x,hx⟩: ∃x,rs[k]? =some x:=⟨_,List.getElem?_eq_getElem (by rw [<-HN.out];omega)⟩
   have hx0:=(hw.cell (p:=⟨b,off+k,none⟩) (HF.out b hb)).trans (hc k x hx)
   have hs:=HP.out wr x (hz x (List.mem_of_getElem? hx)) hw
   have HX:=hide hx
   cases hq:p x with
   |true=>
    rw [hq]at hs
    have HS:=hide hs
    have HQ:=hide hq
    clear hs hc hx hw hq
    go_wp2_with (go_at_fn g;refine HS.out.mono ?_;rintro e w1 ⟨rfl,b1⟩)
    go_ret
    exact⟨ret_int (firstBy_hit HX.out HQ.out HB.out).symm,HW.out.trans (b1.mono HW.out.size)⟩
   |false=>
    rw [hq]at hs
    have HS:=hide hs
    have HQ:=hide hq
    clear hs hc hx hw hq
    go_wp2_with (go_at_fn g;refine HS.out.mono ?_;rintro e w1 ⟨rfl,b1⟩)
    go_roundw
    case rel=>
     refine⟨k+1,by omega,by go_num,HW.out.trans (b1.mono HW.out.size),fun j y hj hy=> ?_⟩
     by_cases hjk:j=k
     ·subst hjk;rw [HX.out]at hy;injection hy with hy;rw [<-hy];exact HQ.out
     ·exact HB.out j y (by omega) hy
    case measure=>simp [intOf];omega
  ·clear hw
   go_wp2
   go_ret
   exact⟨ret_int (firstBy_miss fun j y hy=>HB.out j y (by have:=(List.getElem?_eq_some_iff.1 hy).1;have:=HN.out;omega) hy).symm,HW.out⟩
theorem contains_strs {w:World} {F:Nat->Prop} {v:Value} {rs:List ByteArray} {g:Nat} {lb:Array Value} {p:ByteArray->Bool} (h:RdS w F v rs) (hF: ∀b,F b->b<w.heap.size) (eg:Enters Tryz.prog g) (hp:PredS w g lb p) (hz: ∀x∈rs,x.size<=maxLen):
  Calls Tryz.prog 204 #[v,.func (.func g) #[] lb] w (Quiet w (.bool (rs.any p))):=by
 have hi:=idxf_strs h hF eg hp hz
 have ha:=firstBy_any (p:=p) (xs:=rs)
 obtain⟨q,hq⟩: ∃q,q=firstBy p rs:=⟨_,rfl⟩
 rw [<-hq]at hi ha
 have HI:=hide hi
 have HA:=hide ha
 obtain⟨A,c,n,rfl⟩: ∃A c n,v= .slice A n c:=by obtain⟨A,n,c,e,_⟩:=id h;exact⟨A,c,n,e⟩
 clear h hi ha hq hp
 go_enter Tryz.func204,Tryz.ntmps204
 go_wp2_with fail
 refine HI.out.mono ?_
 rintro e w1 ⟨rfl,b1⟩
 go_wp2_with fail
 go_ret
 exact⟨ret_bool HA.out,b1⟩
theorem Tryz.enters_all_strs:Enters Tryz.prog 205:=enters_of Tryz.func205 (by kernel_rfl) rfl
theorem all_clo_strs {w w1:World} {g:Nat} {lb:Array Value} {p:ByteArray->Bool} {B:Nat} (k1:Blk w1 B 219 #[.func (.func g) #[] lb]) (eg:Enters Tryz.prog g) (b1:Below w.heap.size w w1) (hp:PredS w g lb p):
  PredS w1 205 #[.pointer (some ⟨B,0,none⟩)] (fun x=> !p x):=by
 intro W x hx hW
 have hcell:W.cell? ⟨B,0,none⟩=some (.func (.func g) #[] lb):=((k1.below hW k1.lt).cell 0).trans rfl
 have hs:=hp W x hx (b1.trans (hW.mono b1.size))
 have eg': ∀args w,(callFunc g args).run Tryz.prog w= .ok (.enter g args) w:=eg
 obtain⟨q,hq⟩: ∃q,q=p x:=⟨_,rfl⟩
 rw [<-hq]at hs
 have HS:=hide hs
 have HQ:=hide hq
 show Calls Tryz.prog 205 #[.string x,.pointer (some ⟨B,0,none⟩)] W _
 clear hs hq hp k1 hW
 go_enter Tryz.func205,Tryz.ntmps205
 go_wp2_with (go_at_fn g;refine HS.out.mono ?_;rintro e w2 ⟨rfl,b2⟩)
 go_ret
 exact⟨ret_bool (show(!q)= !p x by rw [HQ.out]),b2⟩
theorem all_strs {w:World} {F:Nat->Prop} {v:Value} {rs:List ByteArray} {g:Nat} {lb:Array Value} {p:ByteArray->Bool} (h:RdS w F v rs) (hF: ∀b,F b->b<w.heap.size) (eg:Enters Tryz.prog g) (hp:PredS w g lb p) (hz: ∀x∈rs,x.size<=maxLen):
  Calls Tryz.prog 143 #[v,.func (.func g) #[] lb] w (Quiet w (.bool (rs.all p))):=by
 obtain⟨o,ho⟩: ∃o,o=Obj.cells #[.func (.func g) #[] lb] 219:=⟨_,rfl⟩
 have b1:Below w.heap.size w (w.alloc o):=(Below.refl _ w).alloc (Nat.le_refl _) _
 have h1:=h.below b1 hF
 have k1:Blk (w.alloc o) w.heap.size 219 #[.func (.func g) #[] lb]:=by rw [ho];exact Blk.new w _ _
 have hc:=contains_strs (p:=fun x=> !p x) (lb:= #[.pointer (some ⟨w.heap.size,0,none⟩)]) h1 (fun b e=>Nat.lt_of_lt_of_le (hF b e) b1.size) Tryz.enters_all_strs (all_clo_strs k1 eg b1 hp) hz
 have ha:=all_any p rs
 rw [firstBy_any]at ha
 obtain⟨q,hq⟩: ∃q,q=rs.any (fun x=> !p x):=⟨_,rfl⟩
 rw [<-hq]at hc ha
 have HI:=hide hc
 have HA:=hide ha
 have HB:=hide b1
 rw [ho]at HI HB
 obtain⟨A,c,n,rfl⟩: ∃A c n,v= .slice A n c:=by obtain⟨A,n,c,e,_⟩:=id h;exact⟨A,c,n,e⟩
 clear h hc ha hq hp h1 k1 b1 ho
 have hmf: ∀(fn:Fn) (first cap:Array Value) (w:World),(Instr.makeFunc fn first cap).run Tryz.prog w= .ok (.func fn first cap) w:=fun _ _ _ _=>rfl
 go_enter Tryz.func143,Tryz.ntmps143
 go_wp2_with fail
 refine HI.out.mono ?_
 rintro e w1 ⟨rfl,b1⟩
 go_wp2_with fail
 go_ret
 exact⟨ret_bool HA.out,HB.out.trans (b1.mono HB.out.size)⟩
set_option maxHeartbeats 2000000 in
theorem idxf_ints {w:World} {F:Nat->Prop} {v:Value} {rs:List Int} {g:Nat} {lb:Array Value} {p:Int->Bool} (h:RdI w F v rs) (hF: ∀b,F b->b<w.heap.size) (eg:Enters Tryz.prog g) (hp:PredV w g lb (Value.int .i64) p):
  Calls Tryz.prog 259 #[v,.func (.func g) #[] lb] w (Quiet w (.int .i64 (firstBy p rs))):=by
 obtain⟨A,n,c,rfl,_⟩:=id h
 obtain⟨en,hnc,hcm,hcell⟩:=h.at_
 unfold maxLen at hcm
 have HN:=hide en
 have HC:=hide hcell
 have HF:=hide hF
 have HP:=hide hp
 have eg': ∀args w,(callFunc g args).run Tryz.prog w= .ok (.enter g args) w:=eg
 clear h en hcell hF hp
 go_enter Tryz.func259,Tryz.ntmps259
 go_wp2
 go_loopw [8] (fun i wr=> ∃k:Nat,k<=n/\i= .int .i64 k/\Below w.heap.size w wr/\ ∀(j:Nat) (y:Int),j<k->rs[j]? =some y->p y=false) (fun i _=>n - (intOf i).toNat)
 case atStart=>exact⟨0,Nat.zero_le _,rfl,Below.refl _ _,fun j y hj=>absurd hj (by omega)⟩
 case round=>
  obtain⟨k,hk,rfl,hw,hbefore⟩:=hrel
  have HB:=hide hbefore
  have HW:=hide hw
  clear hbefore
  by_cases hlt:k<n
  ·obtain⟨b,off,rfl,hb,hc⟩:=HC.out (by omega)
   obtain⟨x,hx⟩: ∃x,rs[k]? =some x:=⟨_,List.getElem?_eq_getElem (by rw [<-HN.out];omega)⟩
   have hx0:=(hw.cell (p:=⟨b,off+k,none⟩) (HF.out b hb)).trans (hc k x hx)
   have hs:=HP.out wr x hw
   have HX:=hide hx
   cases hq:p x with
   |true=>
    rw [hq]at hs
    have HS:=hide hs
    have HQ:=hide hq
    clear hs hc hx hw hq
    go_wp2_with (go_at_fn g;refine HS.out.mono ?_;rintro e w1 ⟨rfl,b1⟩)
    go_ret
    exact⟨ret_int (firstBy_hit HX.out HQ.out HB.out).symm,HW.out.trans (b1.mono HW.out.size)⟩
   |false=>
    rw [hq]at hs
    have HS:=hide hs
    have HQ:=hide hq
    clear hs hc hx hw hq
    go_wp2_with (go_at_fn g;refine HS.out.mono ?_;rintro e w1 ⟨rfl,b1⟩)
    go_roundw
    case rel=>
     refine⟨k+1,by omega,by go_num,HW.out.trans (b1.mono HW.out.size),fun j y hj hy=> ?_⟩
     by_cases hjk:j=k
     ·subst hjk;rw [HX.out]at hy;injection hy with hy;rw [<-hy];exact HQ.out
     ·exact HB.out j y (by omega) hy
    case measure=>simp [intOf];omega
  ·clear hw
   go_wp2
   go_ret
   exact⟨ret_int (firstBy_miss fun j y hy=>HB.out j y (by have:=(List.getElem?_eq_some_iff.1 hy).1;have:=HN.out;omega) hy).symm,HW.out⟩
theorem contains_ints {w:World} {F:Nat->Prop} {v:Value} {rs:List Int} {g:Nat} {lb:Array Value} {p:Int->Bool} (h:RdI w F v rs) (hF: ∀b,F b->b<w.heap.size) (eg:Enters Tryz.prog g) (hp:PredV w g lb (Value.int .i64) p):
  Calls Tryz.prog 245 #[v,.func (.func g) #[] lb] w (Quiet w (.bool (rs.any p))):=by
 have hi:=idxf_ints h hF eg hp
 have ha:=firstBy_any (p:=p) (xs:=rs)
 obtain⟨q,hq⟩: ∃q,q=firstBy p rs:=⟨_,rfl⟩
 rw [<-hq]at hi ha
 have HI:=hide hi
 have HA:=hide ha
 obtain⟨A,c,n,rfl⟩: ∃A c n,v= .slice A n c:=by obtain⟨A,n,c,e,_⟩:=id h;exact⟨A,c,n,e⟩
 clear h hi ha hq hp
 go_enter Tryz.func245,Tryz.ntmps245
 go_wp2_with fail
 refine HI.out.mono ?_
 rintro e w1 ⟨rfl,b1⟩
 go_wp2_with fail
 go_ret
 exact⟨ret_bool HA.out,b1⟩
theorem Tryz.enters_all_ints:Enters Tryz.prog 246:=enters_of Tryz.func246 (by kernel_rfl) rfl
theorem all_clo_ints {w w1:World} {g:Nat} {lb:Array Value} {p:Int->Bool} {B:Nat} (k1:Blk w1 B 70 #[.func (.func g) #[] lb]) (eg:Enters Tryz.prog g) (b1:Below w.heap.size w w1) (hp:PredV w g lb (Value.int .i64) p):
  PredV w1 246 #[.pointer (some ⟨B,0,none⟩)] (Value.int .i64) (fun x=> !p x):=by
 intro W x hW
 have hcell:W.cell? ⟨B,0,none⟩=some (.func (.func g) #[] lb):=((k1.below hW k1.lt).cell 0).trans rfl
 have hs:=hp W x (b1.trans (hW.mono b1.size))
 have eg': ∀args w,(callFunc g args).run Tryz.prog w= .ok (.enter g args) w:=eg
 obtain⟨q,hq⟩: ∃q,q=p x:=⟨_,rfl⟩
 rw [<-hq]at hs
 have HS:=hide hs
 have HQ:=hide hq
 show Calls Tryz.prog 246 #[.int .i64 x,.pointer (some ⟨B,0,none⟩)] W _
 clear hs hq hp k1 hW
 go_enter Tryz.func246,Tryz.ntmps246
 go_wp2_with (go_at_fn g;refine HS.out.mono ?_;rintro e w2 ⟨rfl,b2⟩)
 go_ret
 exact⟨ret_bool (show(!q)= !p x by rw [HQ.out]),b2⟩
theorem all_ints {w:World} {F:Nat->Prop} {v:Value} {rs:List Int} {g:Nat} {lb:Array Value} {p:Int->Bool} (h:RdI w F v rs) (hF: ∀b,F b->b<w.heap.size) (eg:Enters Tryz.prog g) (hp:PredV w g lb (Value.int .i64) p):
  Calls Tryz.prog 209 #[v,.func (.func g) #[] lb] w (Quiet w (.bool (rs.all p))):=by
 obtain⟨o,ho⟩: ∃o,o=Obj.cells #[.func (.func g) #[] lb] 70:=⟨_,rfl⟩
 have b1:Below w.heap.size w (w.alloc o):=(Below.refl _ w).alloc (Nat.le_refl _) _
 have h1:=h.below b1 hF
 have k1:Blk (w.alloc o) w.heap.size 70 #[.func (.func g) #[] lb]:=by rw [ho];exact Blk.new w _ _
 have hc:=contains_ints (p:=fun x=> !p x) (lb:= #[.pointer (some ⟨w.heap.size,0,none⟩)]) h1 (fun b e=>Nat.lt_of_lt_of_le (hF b e) b1.size) Tryz.enters_all_ints (all_clo_ints k1 eg b1 hp)
 have ha:=all_any p rs
 rw [firstBy_any]at ha
 obtain⟨q,hq⟩: ∃q,q=rs.any (fun x=> !p x):=⟨_,rfl⟩
 rw [<-hq]at hc ha
 have HI:=hide hc
 have HA:=hide ha
 have HB:=hide b1
 rw [ho]at HI HB
 obtain⟨A,c,n,rfl⟩: ∃A c n,v= .slice A n c:=by obtain⟨A,n,c,e,_⟩:=id h;exact⟨A,c,n,e⟩
 clear h hc ha hq hp h1 k1 b1 ho
 have hmf: ∀(fn:Fn) (first cap:Array Value) (w:World),(Instr.makeFunc fn first cap).run Tryz.prog w= .ok (.func fn first cap) w:=fun _ _ _ _=>rfl
 go_enter Tryz.func209,Tryz.ntmps209
 go_wp2_with fail
 refine HI.out.mono ?_
 rintro e w1 ⟨rfl,b1⟩
 go_wp2_with fail
 go_ret
 exact⟨ret_bool HA.out,HB.out.trans (b1.mono HB.out.size)⟩
theorem contains_rules {w:World} {F:Nat->Prop} {v:Value} {rs:List (Int×List Int)} {g:Nat} {lb:Array Value} {p:(Int×List Int)->Bool} (h:RdR w F v rs) (hF: ∀b,F b->b<w.heap.size) (eg:Enters Tryz.prog g) (hp:PredR w F g lb p):
  Calls Tryz.prog 202 #[v,.func (.func g) #[] lb] w (Quiet w (.bool (rs.any p))):=by
 have hi:=index_rules h hF eg hp
 have ha:=firstBy_any (p:=p) (xs:=rs)
 obtain⟨q,hq⟩: ∃q,q=firstBy p rs:=⟨_,rfl⟩
 rw [<-hq]at hi ha
 have HI:=hide hi
 have HA:=hide ha
 obtain⟨A,c,n,rfl⟩: ∃A c n,v= .slice A n c:=by obtain⟨A,c,e,_⟩:=id h;exact⟨A,c,_,e⟩
 clear h hi ha hq hp
 go_enter Tryz.func202,Tryz.ntmps202
 go_wp2_with fail
 refine HI.out.mono ?_
 rintro e w1 ⟨rfl,b1⟩
 go_wp2_with fail
 go_ret
 exact⟨ret_bool HA.out,b1⟩
theorem Tryz.enters_all_rules:Enters Tryz.prog 203:=enters_of Tryz.func203 (by kernel_rfl) rfl
theorem all_clo_rules {w w1:World} {F:Nat->Prop} {g:Nat} {lb:Array Value} {p:Int×List Int->Bool} {B:Nat} (k1:Blk w1 B 216 #[.func (.func g) #[] lb]) (eg:Enters Tryz.prog g) (b1:Below w.heap.size w w1) (hp:PredR w F g lb p) (hF: ∀b,F b->b<w.heap.size):
  PredR w1 F 203 #[.pointer (some ⟨B,0,none⟩)] (fun x=> !p x):=by
 intro W v r hW hr
 have hbw:=b1.trans (hW.mono b1.size)
 have hB:B<W.heap.size:=Nat.lt_of_lt_of_le k1.lt hW.size
 have b2:Below W.heap.size W (W.alloc (.cells #[.int .i64 r.1,v] 98)):=(Below.refl _ W).alloc (Nat.le_refl _) _
 have hcell:W.cell? ⟨B,0,none⟩=some (.func (.func g) #[] lb):=((k1.below hW k1.lt).cell 0).trans rfl
 have hcell':=fun o=>cell_a hcell o
 have hs:=hp (W.alloc (.cells #[.int .i64 r.1,v] 98)) v r (hbw.trans (b2.mono hbw.size)) (hr.below b2 (fun b e=>Nat.lt_of_lt_of_le (hF b e) hbw.size))
 have eg': ∀args w,(callFunc g args).run Tryz.prog w= .ok (.enter g args) w:=eg
 obtain⟨A,n,c,rfl,_⟩:=id hr
 obtain⟨q,hq⟩: ∃q,q=p r:=⟨_,rfl⟩
 rw [<-hq]at hs
 have HS:=hide hs
 have HQ:=hide hq
 have HB:=hide b2
 show Calls Tryz.prog 203 #[.agg #[.int .i64 r.1,.slice A n c],.pointer (some ⟨B,0,none⟩)] W _
 clear hs hq hp k1 hW b2 hr
 go_enter Tryz.func203,Tryz.ntmps203
 go_wp2_with (go_at_fn g;refine HS.out.mono ?_;rintro e w2 ⟨rfl,b2⟩)
 go_ret
 exact⟨ret_bool (show(!q)= !p r by rw [HQ.out]),HB.out.trans (b2.mono HB.out.size)⟩
theorem all_rules {w:World} {F:Nat->Prop} {v:Value} {rs:List (Int×List Int)} {g:Nat} {lb:Array Value} {p:(Int×List Int)->Bool} (h:RdR w F v rs) (hF: ∀b,F b->b<w.heap.size) (eg:Enters Tryz.prog g) (hp:PredR w F g lb p):
  Calls Tryz.prog 142 #[v,.func (.func g) #[] lb] w (Quiet w (.bool (rs.all p))):=by
 obtain⟨o,ho⟩: ∃o,o=Obj.cells #[.func (.func g) #[] lb] 216:=⟨_,rfl⟩
 have b1:Below w.heap.size w (w.alloc o):=(Below.refl _ w).alloc (Nat.le_refl _) _
 have h1:=h.below b1 hF
 have k1:Blk (w.alloc o) w.heap.size 216 #[.func (.func g) #[] lb]:=by rw [ho];exact Blk.new w _ _
 have hc:=contains_rules (p:=fun x=> !p x) (lb:= #[.pointer (some ⟨w.heap.size,0,none⟩)]) h1 (fun b e=>Nat.lt_of_lt_of_le (hF b e) b1.size) Tryz.enters_all_rules (all_clo_rules k1 eg b1 hp hF)
 have ha:=all_any p rs
 rw [firstBy_any]at ha
 obtain⟨q,hq⟩: ∃q,q=rs.any (fun x=> !p x):=⟨_,rfl⟩
 rw [<-hq]at hc ha
 have HI:=hide hc
 have HA:=hide ha
 have HB:=hide b1
 rw [ho]at HI HB
 obtain⟨A,c,n,rfl⟩: ∃A c n,v= .slice A n c:=by obtain⟨A,c,e,_⟩:=id h;exact⟨A,c,_,e⟩
 clear h hc ha hq hp h1 k1 b1 ho
 have hmf: ∀(fn:Fn) (first cap:Array Value) (w:World),(Instr.makeFunc fn first cap).run Tryz.prog w= .ok (.func fn first cap) w:=fun _ _ _ _=>rfl
 go_enter Tryz.func142,Tryz.ntmps142
 go_wp2_with fail
 refine HI.out.mono ?_
 rintro e w1 ⟨rfl,b1⟩
 go_wp2_with fail
 go_ret
 exact⟨ret_bool HA.out,HB.out.trans (b1.mono HB.out.size)⟩
end
section
open Go.RowKit
end
end
section
theorem of_mem {G:GramD} {s i:Int}:i∈ofOf G s↔ ∃(n:Nat) (x:List Int),i=n/\G.rules[n]? =some (s,x):=by
 unfold ofOf ofUpto
 rw [List.mem_map]
 constructor
 ·rintro⟨n,hn,rfl⟩
  rw [List.mem_filter,decide_eq_true_eq]at hn
  obtain⟨⟨l,x⟩,hx,hl⟩:=Option.map_eq_some_iff.1 hn.2
  simp only at hl
  subst hl
  exact⟨n,x,rfl,hx⟩
 ·rintro⟨n,x,rfl,hx⟩
  refine⟨n,?_,rfl⟩
  rw [List.mem_filter,decide_eq_true_eq,hx]
  exact⟨List.mem_range.2 (List.getElem?_eq_some_iff.1 hx).1,rfl⟩
end
end Go.Proofs.YthlbjgabhpdbfaaGreat

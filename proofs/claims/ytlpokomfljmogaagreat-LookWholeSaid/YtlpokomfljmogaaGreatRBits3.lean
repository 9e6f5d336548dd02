/- Contracts of package bits, part 3: Or, Meet. -/
import Derived.Test.YtlpokomfljmogaaGreatRBase
namespace Go.Proofs.YtlpokomfljmogaaGreat
set_option linter.unusedVariables false
open Go.RowKit
theorem getD_get {ws:List (BitVec 64)} {i:Nat} {x:BitVec 64} (h:ws[i]? =some x):ws.getD i 0#64=x:=by simp [List.getD,h]
def Joined (ws vs us:List (BitVec 64)) (k:Nat):Prop:=us.length=ws.length∧ ∀i,us.getD i 0#64=if i<k then ws.getD i 0#64|||vs.getD i 0#64 else ws.getD i 0#64
theorem Joined.zero (ws vs:List (BitVec 64)):Joined ws vs ws 0:=⟨rfl,fun i=>by simp⟩
theorem or_of_andNot {x y:BitVec 64} (h:x&&& ~~~y=0#64):y|||x=y:=by
 apply BitVec.eq_of_getLsbD_eq
 intro i hi
 have:=congrArg (fun z=>z.getLsbD i) h
 simp only [BitVec.getLsbD_and,BitVec.getLsbD_not,hi,decide_true,Bool.true_and,BitVec.getLsbD_zero]at this
 rw [BitVec.getLsbD_or]
 cases hy:y.getLsbD i
 ·rw [hy]at this;simpa using this
 ·simp
theorem Joined.stay {ws vs us:List (BitVec 64)} {k:Nat} (h:Joined ws vs us k) (h0:vs.getD k 0#64&&& ~~~ws.getD k 0#64=0#64):Joined ws vs us (k+1):=by
 refine⟨h.1,fun i=> ?_⟩
 rw [h.2]
 by_cases e:i=k
 ·subst e;rw [if_neg (by omega),if_pos (by omega),or_of_andNot h0]
 ·by_cases hi:i<k
  ·rw [if_pos hi,if_pos (by omega)]
  ·rw [if_neg hi,if_neg (by omega)]
theorem Joined.step {ws vs us:List (BitVec 64)} {k:Nat} (h:Joined ws vs us k) (hk:k<ws.length):Joined ws vs (us.set k (ws.getD k 0#64|||vs.getD k 0#64)) (k+1):=by
 refine⟨by simpa using h.1,fun i=> ?_⟩
 by_cases e:i=k
 ·subst e;rw [if_pos (by omega)];simp [List.getD,h.1,hk]
 ·have:(us.set k (ws.getD k 0#64|||vs.getD k 0#64)).getD i 0#64=us.getD i 0#64:=by simp [List.getD,List.getElem?_set_ne (Ne.symm e)]
  rw [this,h.2]
  by_cases hi:i<k
  ·rw [if_pos hi,if_pos (by omega)]
  ·rw [if_neg hi,if_neg (by omega)]
theorem Joined.bits {ws vs us:List (BitVec 64)} {k:Nat} (h:Joined ws vs us k) (j:Nat):bitOf us j=(bitOf ws j||(decide (j/64<k)&&bitOf vs j)):=by
 unfold bitOf
 rw [h.2]
 by_cases hj:j/64<k
 ·rw [if_pos hj,BitVec.getLsbD_or];simp [hj]
 ·rw [if_neg hj];simp [hj]
def brings (ws vs:List (BitVec 64)) (i:Nat):Bool:=decide (vs.getD i 0#64&&& ~~~ws.getD i 0#64≠0#64)
theorem brings_iff (ws vs:List (BitVec 64)) (i:Nat):brings ws vs i=true↔ ∃j,j/64=i∧bitOf vs j=true∧bitOf ws j=false:=by
 unfold brings
 rw [decide_eq_true_eq]
 constructor
 ·intro h
  have: ∃k,k<64∧(vs.getD i 0#64&&& ~~~ws.getD i 0#64).getLsbD k=true:=by
   apply Classical.byContradiction
   intro hn
   apply h
   apply BitVec.eq_of_getLsbD_eq
   intro k hk
   cases hb:(vs.getD i 0#64&&& ~~~ws.getD i 0#64).getLsbD k
   ·simp
   ·exact absurd ⟨k,hk,hb⟩ hn
  obtain⟨k,hk,hb⟩:=this
  rw [BitVec.getLsbD_and,BitVec.getLsbD_not,decide_eq_true hk,Bool.true_and,Bool.and_eq_true,Bool.not_eq_true']at hb
  refine⟨i * 64+k,by omega,?_,?_⟩
  ·unfold bitOf;rw [show(i * 64+k)/64=i by omega,show(i * 64+k)%64=k by omega];exact hb.1
  ·unfold bitOf;rw [show(i * 64+k)/64=i by omega,show(i * 64+k)%64=k by omega];exact hb.2
 ·rintro⟨j,rfl,hv,hw⟩ h0
  have:=congrArg (fun z=>z.getLsbD (j%64)) h0
  unfold bitOf at hv hw
  have hlt:j%64<64:=Nat.mod_lt _ (by decide)
  simp only [BitVec.getLsbD_and,BitVec.getLsbD_not,hv,hw,hlt]at this
  simp at this
def orAns (k:Nat) (f g:Nat→Bool):Bool:=(List.range k).any fun j=>g j&& !f j
def orSet (k:Nat) (f g:Nat→Bool) (j:Nat):Bool:=f j||(g j&&decide (j<k))
theorem any_brings {ws vs:List (BitVec 64)} {f g:Nat→Bool} {k:Nat} (hf: ∀j,bitOf ws j=f j) (hg: ∀j,bitOf vs j=(g j&&decide (j<k))) (L:Nat) (hL:L=(k+63)/64):(List.range L).any (brings ws vs)=orAns k f g:=by
 rw [Bool.eq_iff_iff,orAns,List.any_eq_true,List.any_eq_true]
 constructor
 ·rintro⟨i,hi,hb⟩
  obtain⟨j,rfl,hv,hw⟩:=(brings_iff ws vs i).1 hb
  rw [hg]at hv
  rw [hf]at hw
  simp at hv
  exact⟨j,List.mem_range.2 hv.2,by simp [hv.1,hw]⟩
 ·rintro⟨j,hj,hb⟩
  have hj:=List.mem_range.1 hj
  simp at hb
  exact⟨j/64,List.mem_range.2 (by omega),(brings_iff ws vs _).2 ⟨j,rfl,by rw [hg];simp [hb.1,hj],by rw [hf];exact hb.2⟩⟩
def OrPost (w:World) (b:Nat) (S:Nat→Prop) (n:Nat) (f:Nat→Bool) (r:Bool) (e:Ending) (w':World):Prop:=e= .returned (.bool r)∧IsSet w' b S n f∧Touch S w w'
theorem or_nil_right {w:World} {b n:Nat} {f:Nat→Bool} {S:Nat→Prop} (h:IsSet w b S n f):
  Calls Tryz.prog 148 #[.pointer (some ⟨b,0,none⟩),.pointer none] w fun e w'=>e= .returned (.bool false)∧w=w':=by
 go_enter Tryz.func148,Tryz.ntmps148
 go_wp2_with (first
  |(go_at_call 186;refine(set_room h).mono ?_;rintro e w' ⟨rfl,rfl⟩)
  |(go_at_call 188;refine(words_nil _ _).mono ?_;rintro e w' ⟨rfl,rfl⟩))
 go_loop [5,13] (fun ch i=>ch= .bool false∧i= .int .i64 0) (fun _ _=>0)
 case atStart=>exact⟨rfl,rfl⟩
 case round=>
  obtain⟨rfl,rfl⟩:=hrel
  go_wp2
  go_ret
  exact⟨rfl,rfl⟩
set_option maxRecDepth 100000 in
set_option maxHeartbeats 1000000 in
theorem set_or {w:World} {b n b2 n2:Nat} {f g:Nat→Bool} {S S2:Nat→Prop} (h:IsSet w b S n f) (h2:IsSet w b2 S2 n2 g):
  Calls Tryz.prog 148 #[.pointer (some ⟨b,0,none⟩),.pointer (some ⟨b2,0,none⟩)] w (OrPost w b S n (orSet (min n n2) f g) (orAns (min n n2) f g)):=by
 have hn:=h.room
 have H:=hide h
 have H2:=hide h2
 clear h h2
 go_enter Tryz.func148,Tryz.ntmps148
 go_wp2_with fail
 refine(set_room H.out).mono ?_
 rintro e w' ⟨rfl,rfl⟩
 go_wp2_with fail
 refine(set_words H2.out n hn).mono ?_
 rintro e w1 ⟨A,c,vs,rfl,hown,hbel,hvl,hvb⟩
 obtain⟨⟨r,ws,hi,hr,hf⟩,hb,hlt⟩:=H.out
 obtain⟨L,hL⟩: ∃L,L=vs.length:=⟨_,rfl⟩
 have hLk:L=(min n n2+63)/64:=by omega
 have hlen:=hi.len
 have hLw:L≤ws.length:=by omega
 have h1:SetAt w1 b r n ws:=hi.touch (Touch.of_size hbel (fun _=>False)) (fun hf=>hf) (fun hf=>hf)
 have hne:b≠r:=by obtain⟨c,hbk,_⟩:=hi.blk;exact hbk.ne hi.words (by decide)
 have hrlt:=hlt r hr
 rw [←hL]at hown⊢
 have HV:=hide hvb
 have HL:=hide hL
 have HK:=hide hLk
 have HF:=hide hf
 have hrd:=Rd.of_own hown
 have hbase: ∀k,(Value.slice A L c).ownBlock=some k→w.heap.size≤k:=fun k hk=>(hown.lt k hk).1
 obtain⟨A',n',c',hv',hnc,hcm,_,hcell⟩:=hrd
 injection hv' with e1 e2 e3
 subst e1 e2 e3
 unfold maxLen at hcm
 have hn0:=hi.high
 have HN:=hide hn0
 clear hvb hL hLk hf hvl hi hn0 hown
 go_wp2_with fail
 go_loopw [5,13] (fun ch i wr=> ∃(k:Nat) (us:List (BitVec 64)),k≤L∧i= .int .i64 k∧ch= .bool ((List.range k).any (brings ws vs))∧SetAt wr b r n us∧Joined ws vs us k∧Touch (fun j=>j=r) w1 wr) (fun _ i _=>L - (intOf i).toNat)
 case atStart=>exact⟨0,ws,Nat.zero_le _,rfl,rfl,h1,Joined.zero _ _,Touch.refl _ _⟩
 case round=>
  clear h1
  obtain⟨k,us,hk,rfl,rfl,hs,hj,ht⟩:=hrel
  have HJ:=hide hj
  have HS:=hide hs
  obtain⟨c',hbk,hlc,hcm'⟩:=hs.blk
  have c1:=hbk.cell 1
  simp at c1
  unfold maxLen at hcm'
  have hul:=hj.1
  by_cases hkl:k<L
  ·obtain⟨b',off,rfl,hob,hcl⟩:=hcell (by omega)
   have hob':=hbase b' hob
   obtain⟨x,hx⟩: ∃x,vs[k]? =some x:=⟨_,List.getElem?_eq_getElem (by have:=HL.out;omega)⟩
   obtain⟨y,hy⟩: ∃y,us[k]? =some y:=⟨_,List.getElem?_eq_getElem (by omega)⟩
   have hyw:ws.getD k 0#64=y:=by
    have:=hj.2 k
    rw [if_neg (by omega),getD_get hy]at this
    exact this.symm
   have hcx:=ht.cell (hcl k (U64 x) (by simp [hx])) (by simp;omega)
   have hcy:wr.cell? ⟨r,k,none⟩=some (U64 y):=by rw [hs.words.cell];simp [hy]
   have hfr:=hs.words.frozen k
   have hand:=u64_andNot_bv x y
   have hor:=u64_or_bv y x
   have hkn:(k:Int)<us.length:=by omega
   have hkL:(k:Int)<L:=by omega
   have hbr:brings ws vs k=decide (x&&& ~~~y≠0#64):=by unfold brings;rw [hyw,getD_get hx]
   have hrange:(List.range (k+1)).any (brings ws vs)=((List.range k).any (brings ws vs)||brings ws vs k):=by rw [List.range_succ,List.any_append];simp
   have HX:=hide hx
   have HY:=hide hy
   have HYW:=hide hyw
   have HBR:=hide hbr
   have HRG:=hide hrange
   have HT:=hide ht
   have HUL:=hide hul
   generalize hz:x&&& ~~~y=z at *
   generalize ho:y|||x=o at *
   have HO:=hide ho
   have HZ:=hide hz
   clear hx hy hyw hbr hrange ht hj hs hbk hcl hcell hul ho hz
   by_cases hz0:z=0#64
   ·have hzt:((z.toNat:Int)==0)=true:=by rw [zero_iff];exact decide_eq_true hz0
    have hzn:z.toNat=0:=by rw [hz0];rfl
    have HZ0:=hide hz0
    clear hz0
    go_wp2
    go_roundw
    case rel=>
     refine⟨k+1,us,by omega,by go_num,?_,HS.out,HJ.out.stay ?_,HT.out⟩
     ·rw [HRG.out,HBR.out,HZ0.out];simp
     ·rw [HYW.out,getD_get HX.out,HZ.out,HZ0.out]
    case measure=>simp [intOf];omega
   ·have hzt:((z.toNat:Int)==0)=false:=by rw [zero_iff];exact decide_eq_false hz0
    have hzn: ¬z.toNat=0:=fun e=>hz0 (BitVec.eq_of_toNat_eq (by simpa using e))
    have HZ0:=hide hz0
    clear hz0
    go_wp2
    go_roundw
    case rel=>
     have hj':=HJ.out.step (k:=k) (by have:=HUL.out;omega)
     rw [HYW.out,getD_get HX.out,HO.out]at hj'
     have hs':=HS.out.stored' (i:=k) o hne (fun j hjn=>by
      rw [hj'.bits,HV.out]
      have:=HN.out j hjn
      rw [this]
      have: ¬j<min n n2:=by omega
      simp [this])
     refine⟨k+1,us.set k o,by omega,by go_num,?_,hs',hj',HT.out.setCell (fun _=>rfl) _⟩
     rw [HRG.out,HBR.out]
     simp [HZ0.out]
    case measure=>simp [intOf];omega
  ·have hkL: ¬(k:Int)<L:=by omega
   have hkE:k=L:=by omega
   have HKE:=hide hkE
   have HT:=hide ht
   clear hkE hj hs hbk hcell ht
   go_wp2
   go_ret
   have hT:Touch S w wr:=(Touch.of_size hbel S).trans HT.out (fun j hj e=>by subst e;exact hr)
   refine⟨ret_bool ?_,⟨⟨r,us,HS.out,hr,fun j=> ?_⟩,hb,fun j hj=>Nat.lt_of_lt_of_le (hlt j hj) hT.size⟩,hT⟩
   ·rw [HKE.out];exact any_brings HF.out HV.out L HK.out
   ·rw [HJ.out.bits,HF.out,HV.out]
    unfold orSet
    by_cases hj:j<min n n2
    ·have:j/64<k:=by have:=HK.out;have:=HKE.out;omega
     simp [this,hj]
    ·simp [hj]
end Go.Proofs.YtlpokomfljmogaaGreat
namespace Go.Proofs.YtlpokomfljmogaaGreat
set_option linter.unusedVariables false
open Go.RowKit
def nextOf (f:Nat→Bool) (n k:Nat):Int:=match(List.range n).find? (fun j=>decide (k≤j)&&f j)with|some j=>(j:Int)|none=> -1
theorem nextOf_some {f:Nat→Bool} {n k j:Nat} (hf:f j=true) (hk:k≤j) (hn:j<n) (hb: ∀i,k≤i→i<j→f i=false):nextOf f n k=j:=by
 have:(List.range n).find? (fun j=>decide (k≤j)&&f j)=some j:=by
  rw [List.find?_range_eq_some]
  refine⟨by simp [hk,hf],List.mem_range.2 hn,fun i hi=> ?_⟩
  by_cases h:k≤i
  ·simp [hb i h hi]
  ·simp [h]
 simp [nextOf,this]
theorem nextOf_none {f:Nat→Bool} {n k:Nat} (hb: ∀i,k≤i→i<n→f i=false):nextOf f n k= -1:=by
 have:(List.range n).find? (fun j=>decide (k≤j)&&f j)=none:=by
  rw [List.find?_eq_none]
  intro i hi
  by_cases h:k≤i
  ·simp [hb i h (List.mem_range.1 hi)]
  ·simp [h]
 simp [nextOf,this]
theorem bit_div (x:BitVec 64) (m:Nat):x.getLsbD m=decide ((x.toNat/2^m)%2=1):=by
 show x.toNat.testBit m=_
 rw [Nat.testBit_eq_decide_div_mod_eq]
theorem bit_zero {x:BitVec 64} {m j:Nat} (h:x.toNat/2^m=0) (hj:m≤j):x.getLsbD j=false:=by
 have hp:0<2^m:=Nat.pow_pos (by decide)
 have hx:x.toNat<2^m:=by
  rcases Nat.lt_or_ge x.toNat (2^m)with h'|h'
  ·exact h'
  ·have:=Nat.div_pos h' hp;omega
 have hx':x.toNat<2^j:=Nat.lt_of_lt_of_le hx (Nat.pow_le_pow_right (by decide) hj)
 rw [bit_div,Nat.div_eq_of_lt hx'];rfl
theorem u64_and_1 (y:Nat) (hy:y<18446744073709551616):bits .and .u64 (y:Int) 1=((y%2:Nat):Int):=by
 have:=u64_and_nat y 1 hy (by decide)
 rw [show((1:Nat):Int)=1 from rfl]at this
 rw [this,Nat.and_one_is_mod]
set_option maxHeartbeats 1000000 in
theorem set_next {w:World} {b n:Nat} {f:Nat→Bool} {S:Nat→Prop} (h:IsSet w b S n f) (i:Int) (hi:(Lit.int .i64 i).wf=true):
  Calls Tryz.prog 146 #[.pointer (some ⟨b,0,none⟩),.int .i64 i] w fun e w'=>e= .returned (.int .i64 (nextOf f n i.toNat))∧w=w':=by
 obtain⟨⟨r,ws,hi',hr,hf⟩,hb',hlt⟩:=id h
 obtain⟨c,h1,hc,hcm⟩:=hi'.blk
 have c1:=h1.cell 1
 simp at c1
 unfold maxLen at hcm
 have hlen:=hi'.len
 have hroom:=hi'.room
 have hhigh:=h.high
 have H:=hide h
 have HI:=hide hi'
 have HF:=hide hf
 have HH:=hide hhigh
 have HL:=hide hlen
 clear h hi' hf hhigh hlen h1 hlt
 go_enter Tryz.func146,Tryz.ntmps146
 go_wp2
 all_goals
  go_loop [5,6] (fun v _=> ∃k:Nat,v= .int .i64 k∧i.toNat≤k∧ ∀j,i.toNat≤j→j<k→f j=false) (fun v _=>n+64 - (intOf v).toNat)
  case atStart=>exact⟨i.toNat,by first|rw [show((i.toNat:Nat):Int)=i by omega]|rw [show i.toNat=0 by omega];rfl,Nat.le_refl _,fun j h1 h2=>absurd h2 (by omega)⟩
  case round=>
   obtain⟨k,rfl,hik,hno⟩:=hrel
   have HNO:=hide hno
   clear hno
   by_cases hkn:k<n
   ·obtain⟨x,hx,hcx,hlx⟩:=HI.out.word hkn
    have h63:=i64_and_63 k (by omega)
    obtain⟨m,hm⟩: ∃m,m=k%64:=⟨_,rfl⟩
    have hm64:m<64:=by omega
    obtain⟨q,hq⟩: ∃q,q=k/64:=⟨_,rfl⟩
    rw [←hm]at h63
    have hq6:(k:Int)/64=(q:Int):=by omega
    rw [←hq]at hcx hlx
    have hqi:(q:Int)<ws.length:=by omega
    have HM:=hide hm
    have HQ:=hide hq
    have HX:=hide hx
    have hkni:(k:Int)<n:=by omega
    clear hm hq hx
    obtain⟨y,hy⟩: ∃y,y=x.toNat/2^m:=⟨_,rfl⟩
    have hyi:(x.toNat:Int)/2^m=(y:Int):=by rw [hy];norm_cast
    have hylt:y<18446744073709551616:=by
     have:=x.isLt
     have h':x.toNat/2^m≤x.toNat:=Nat.div_le_self _ _
     omega
    have hor:=i64_or_63 k (by omega)
    have hor2:k/64 * 64+63=q * 64+63:=by rw [←HQ.out]
    rw [hor2]at hor
    have HY:=hide hy
    have HYL:=hide hylt
    have hq64:q * 64+63≤4159:=by have:=HQ.out;omega
    clear hy hor2 hylt
    by_cases hy0:y=0
    ·have hy0i:((y:Int)==0)=true:=by rw [hy0];rfl
     have HY0:=hide hy0
     clear hy0
     go_wp2_with (go_at_call 186;refine(set_room H.out).mono ?_;rintro e w' ⟨rfl,rfl⟩)
     go_round
     case rel=>
      refine⟨q * 64+64,int_eq (by omega),by have:=HQ.out;omega,fun j h1 h2=> ?_⟩
      by_cases hjk:j<k
      ·exact HNO.out j h1 hjk
      ·have e1:j/64=k/64:=by have:=HQ.out;omega
       rw [←HF.out,bitOf_get (x:=x) (by rw [e1];exact HX.out)]
       refine bit_zero (m:=m) (by rw [←HY.out,HY0.out]) ?_
       have:=HM.out;have:=HQ.out;omega
     case measure=>have:=HQ.out;simp [intOf];omega
    ·have hy0i:((y:Int)==0)=false:=by simpa using(by omega: ¬y=0)
     have HY0:=hide hy0
     go_wp2_with (go_at_call 186;refine(set_room H.out).mono ?_;rintro e w' ⟨rfl,rfl⟩)
     go_loop [5,6] (fun v u=> ∃k' y':Nat,v= .int .i64 k'∧u= .int .u64 y'∧k≤k'∧k'/64=q∧Hid (y'=x.toNat/2^(k'%64))∧ ¬y'=0∧Hid (∀j,k≤j→j<k'→f j=false)) (fun v _=>q * 64+64 - (intOf v).toNat)
     case atStart=>exact⟨k,y,rfl,rfl,Nat.le_refl _,HQ.out.symm,by rw [←HM.out];exact HY.out,hy0,fun j h1 h2=>absurd h2 (by omega)⟩
     case round=>
      obtain⟨k',y',rfl,rfl,hkk,hkq,HY',hy',HNO'⟩:=hrel
      have hy'lt:y'<18446744073709551616:=by
       have h1:=x.isLt
       have h':x.toNat/2^(k'%64)≤x.toNat:=Nat.div_le_self _ _
       rw [←HY'.out]at h'
       omega
      have hand:=u64_and_1 y' hy'lt
      have HKQ:=hide hkq
      have hk'b:k'≤4159:=by omega
      have HYN:=hide hy'
      clear hy'lt hkq hy' HYL
      have hbit:x.getLsbD (k'%64)=decide (y'%2=1):=by rw [bit_div,←HY'.out]
      have HB:=hide hbit
      clear hbit
      by_cases hp:y'%2=0
      ·rw [hp,Int.natCast_zero]at hand
       have HP:=hide hp
       clear hp
       go_wp2
       go_round
       case rel=>
        have hy2:x.toNat/2^(k'%64+1)=y'/2:=by rw [Nat.pow_succ,←Nat.div_div_eq_div_mul,←HY'.out]
        have hne: ¬y'/2=0:=by have:=HP.out;have:=HYN.out;omega
        have h63:k'%64<63:=by
         have h1:=x.isLt
         rcases Nat.lt_or_ge (k'%64) 63 with h|h
         ·exact h
         ·exfalso
          have h64:k'%64+1=64:=by omega
          rw [h64,Nat.div_eq_of_lt h1]at hy2
          exact hne hy2.symm
        have hq':=HKQ.out
        have e1:(k'+1)%64=k'%64+1:=by omega
        refine⟨k'+1,y'/2,by go_num,int_eq (by omega),by omega,by omega,by rw [e1];exact hy2.symm,hne,fun j h1 h2=> ?_⟩
        by_cases hjk:j=k'
        ·subst hjk
         rw [←HF.out,bitOf_get (x:=x) (by rw [hq',HQ.out];exact HX.out),HB.out]
         have:=HP.out
         simp [this]
        ·exact HNO'.out j h1 (by omega)
       case measure=>have:=HKQ.out;simp [intOf];omega
      ·have hp1:y'%2=1:=by omega
       rw [hp1]at hand
       have hand':bits .and .u64 (y':Int) 1=1:=hand
       have HP:=hide hp1
       clear hp hp1 hand
       go_wp2
       go_ret
       have hfk:f k'=true:=by
        rw [←HF.out,bitOf_get (x:=x) (by rw [HKQ.out,HQ.out];exact HX.out),HB.out]
        have:=HP.out
        simp [this]
       have hkn':k'<n:=by
        rcases Nat.lt_or_ge k' n with h|h
        ·exact h
        ·rw [HH.out k' h]at hfk;cases hfk
       refine⟨ret_int (nextOf_some hfk (by omega) hkn' fun j h1 h2=> ?_).symm,rfl⟩
       by_cases hjk:j<k
       ·exact HNO.out j h1 hjk
       ·exact HNO'.out j (by omega) h2
   ·have hkni: ¬(k:Int)<n:=by omega
    go_wp2_with (go_at_call 186;refine(set_room H.out).mono ?_;rintro e w' ⟨rfl,rfl⟩)
    go_ret
    exact⟨ret_int (nextOf_none fun j h1 h2=>HNO.out j h1 (by omega)).symm,rfl⟩
end Go.Proofs.YtlpokomfljmogaaGreat

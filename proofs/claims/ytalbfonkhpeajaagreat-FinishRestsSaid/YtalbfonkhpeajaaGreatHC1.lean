/- Bytes. -/
import Derived.Test.YtalbfonkhpeajaaGreatHChar
import Derived.Shelf.Abstract
import Derived.Laws.RangeString
import Derived.WalkSmall
import Derived.WideLaws
namespace Go.Proofs.YtalbfonkhpeajaaGreat
set_option linter.unusedVariables false
section
section
open Go.RowKit
theorem or32_all: ∀c:Fin 256,bits BinOp.or IntKind.u8 (c.val:Int) 32=if(c.val:Int)/32%2=1 then(c.val:Int)else c.val+32:=by decide+kernel
theorem or32 (c:Int) (h0:0≤c) (h1:c<256):bits BinOp.or IntKind.u8 c 32=if c/32%2=1 then c else c+32:=by
 have:=or32_all ⟨c.toNat,by omega⟩
 simp only [Int.toNat_of_nonneg h0]at this
 exact this
def letterOf (c:Int):Int:=if 48≤c∧c≤57 then 3 else if(97≤c∧c≤122)∨(65≤c∧c≤90)∨c=95 then 4 else 8
set_option maxRecDepth 100000 in
set_option maxHeartbeats 4000000 in
theorem char_letter (c:Int) (h0:0≤c) (h1:c<256) (w:World):Calls Tryz.prog 133 #[.int .u8 c] w fun e w'=>e= .returned (.int .i64 (letterOf c))∧w=w':=by
 have hor:=or32 c h0 h1
 obtain⟨v,hv⟩: ∃v,v=bits BinOp.or IntKind.u8 c 32:=⟨_,rfl⟩
 rw [←hv]at hor
 have hvv:(c/32%2=1∧v=c)∨(¬c/32%2=1∧v=c+32):=by
  by_cases e:c/32%2=1
  ·rw [if_pos e]at hor;exact .inl ⟨e,hor⟩
  ·rw [if_neg e]at hor;exact .inr ⟨e,hor⟩
 clear hor
 by_cases q47:c≤47
 ·have XHC:Hid (letterOf c=8):=hide (by unfold letterOf;repeat (first|rw [if_pos (by omega)]|rw [if_neg (by omega)]))
  have e95:((c:Int)==95)=false:=by rw [beq_eq_false_iff_ne];omega
  have g48:decide ((48:Int)≤c)=false:=by rw [decide_eq_false_iff_not];omega
  have l57:decide (c≤(57:Int))=true:=by rw [decide_eq_true_eq];omega
  have g97:decide ((97:Int)≤v)=false:=by rw [decide_eq_false_iff_not];omega
  rw [hv]at g97
  clear h0 h1 hv hvv q47
  go_enter Tryz.func133,Tryz.ntmps133
  go_wp2
  go_ret
  exact⟨ret_int XHC.out.symm,rfl⟩
 by_cases q57:c≤57
 ·have XHC:Hid (letterOf c=3):=hide (by unfold letterOf;repeat (first|rw [if_pos (by omega)]|rw [if_neg (by omega)]))
  have e95:((c:Int)==95)=false:=by rw [beq_eq_false_iff_ne];omega
  have g48:decide ((48:Int)≤c)=true:=by rw [decide_eq_true_eq];omega
  have l57:decide (c≤(57:Int))=true:=by rw [decide_eq_true_eq];omega
  have g97:decide ((97:Int)≤v)=false:=by rw [decide_eq_false_iff_not];omega
  rw [hv]at g97
  clear h0 h1 hv hvv q47 q57
  go_enter Tryz.func133,Tryz.ntmps133
  go_wp2
  go_ret
  exact⟨ret_int XHC.out.symm,rfl⟩
 by_cases q64:c≤64
 ·have XHC:Hid (letterOf c=8):=hide (by unfold letterOf;repeat (first|rw [if_pos (by omega)]|rw [if_neg (by omega)]))
  have e95:((c:Int)==95)=false:=by rw [beq_eq_false_iff_ne];omega
  have g48:decide ((48:Int)≤c)=true:=by rw [decide_eq_true_eq];omega
  have l57:decide (c≤(57:Int))=false:=by rw [decide_eq_false_iff_not];omega
  have g97:decide ((97:Int)≤v)=false:=by rw [decide_eq_false_iff_not];omega
  rw [hv]at g97
  clear h0 h1 hv hvv q47 q57 q64
  go_enter Tryz.func133,Tryz.ntmps133
  go_wp2
  go_ret
  exact⟨ret_int XHC.out.symm,rfl⟩
 by_cases q90:c≤90
 ·have XHC:Hid (letterOf c=4):=hide (by unfold letterOf;repeat (first|rw [if_pos (by omega)]|rw [if_neg (by omega)]))
  have e95:((c:Int)==95)=false:=by rw [beq_eq_false_iff_ne];omega
  have g48:decide ((48:Int)≤c)=true:=by rw [decide_eq_true_eq];omega
  have l57:decide (c≤(57:Int))=false:=by rw [decide_eq_false_iff_not];omega
  have g97:decide ((97:Int)≤v)=true:=by rw [decide_eq_true_eq];omega
  have l122:decide (v≤(122:Int))=true:=by rw [decide_eq_true_eq];omega
  rw [hv]at g97 l122
  clear h0 h1 hv hvv q47 q57 q64 q90
  go_enter Tryz.func133,Tryz.ntmps133
  go_wp2
  go_ret
  exact⟨ret_int XHC.out.symm,rfl⟩
 by_cases q94:c≤94
 ·have XHC:Hid (letterOf c=8):=hide (by unfold letterOf;repeat (first|rw [if_pos (by omega)]|rw [if_neg (by omega)]))
  have e95:((c:Int)==95)=false:=by rw [beq_eq_false_iff_ne];omega
  have g48:decide ((48:Int)≤c)=true:=by rw [decide_eq_true_eq];omega
  have l57:decide (c≤(57:Int))=false:=by rw [decide_eq_false_iff_not];omega
  have g97:decide ((97:Int)≤v)=true:=by rw [decide_eq_true_eq];omega
  have l122:decide (v≤(122:Int))=false:=by rw [decide_eq_false_iff_not];omega
  rw [hv]at g97 l122
  clear h0 h1 hv hvv q47 q57 q64 q90 q94
  go_enter Tryz.func133,Tryz.ntmps133
  go_wp2
  go_ret
  exact⟨ret_int XHC.out.symm,rfl⟩
 by_cases q95:c≤95
 ·have XHC:Hid (letterOf c=4):=hide (by unfold letterOf;repeat (first|rw [if_pos (by omega)]|rw [if_neg (by omega)]))
  have g48:decide ((48:Int)≤c)=true:=by rw [decide_eq_true_eq];omega
  have l57:decide (c≤(57:Int))=false:=by rw [decide_eq_false_iff_not];omega
  have e95:((c:Int)==95)=true:=by rw [beq_iff_eq];omega
  have g97:decide ((97:Int)≤v)=true:=by rw [decide_eq_true_eq];omega
  have l122:decide (v≤(122:Int))=false:=by rw [decide_eq_false_iff_not];omega
  rw [hv]at g97 l122
  clear h0 h1 hv hvv q47 q57 q64 q90 q94 q95
  go_enter Tryz.func133,Tryz.ntmps133
  go_wp2
  go_ret
  exact⟨ret_int XHC.out.symm,rfl⟩
 by_cases q96:c≤96
 ·have XHC:Hid (letterOf c=8):=hide (by unfold letterOf;repeat (first|rw [if_pos (by omega)]|rw [if_neg (by omega)]))
  have e95:((c:Int)==95)=false:=by rw [beq_eq_false_iff_ne];omega
  have g48:decide ((48:Int)≤c)=true:=by rw [decide_eq_true_eq];omega
  have l57:decide (c≤(57:Int))=false:=by rw [decide_eq_false_iff_not];omega
  have g97:decide ((97:Int)≤v)=false:=by rw [decide_eq_false_iff_not];omega
  rw [hv]at g97
  clear h0 h1 hv hvv q47 q57 q64 q90 q94 q95 q96
  go_enter Tryz.func133,Tryz.ntmps133
  go_wp2
  go_ret
  exact⟨ret_int XHC.out.symm,rfl⟩
 by_cases q122:c≤122
 ·have XHC:Hid (letterOf c=4):=hide (by unfold letterOf;repeat (first|rw [if_pos (by omega)]|rw [if_neg (by omega)]))
  have e95:((c:Int)==95)=false:=by rw [beq_eq_false_iff_ne];omega
  have g48:decide ((48:Int)≤c)=true:=by rw [decide_eq_true_eq];omega
  have l57:decide (c≤(57:Int))=false:=by rw [decide_eq_false_iff_not];omega
  have g97:decide ((97:Int)≤v)=true:=by rw [decide_eq_true_eq];omega
  have l122:decide (v≤(122:Int))=true:=by rw [decide_eq_true_eq];omega
  rw [hv]at g97 l122
  clear h0 h1 hv hvv q47 q57 q64 q90 q94 q95 q96 q122
  go_enter Tryz.func133,Tryz.ntmps133
  go_wp2
  go_ret
  exact⟨ret_int XHC.out.symm,rfl⟩
 by_cases q255:c≤255
 ·have XHC:Hid (letterOf c=8):=hide (by unfold letterOf;repeat (first|rw [if_pos (by omega)]|rw [if_neg (by omega)]))
  have e95:((c:Int)==95)=false:=by rw [beq_eq_false_iff_ne];omega
  have g48:decide ((48:Int)≤c)=true:=by rw [decide_eq_true_eq];omega
  have l57:decide (c≤(57:Int))=false:=by rw [decide_eq_false_iff_not];omega
  have g97:decide ((97:Int)≤v)=true:=by rw [decide_eq_true_eq];omega
  have l122:decide (v≤(122:Int))=false:=by rw [decide_eq_false_iff_not];omega
  rw [hv]at g97 l122
  clear h0 h1 hv hvv q47 q57 q64 q90 q94 q95 q96 q122 q255
  go_enter Tryz.func133,Tryz.ntmps133
  go_wp2
  go_ret
  exact⟨ret_int XHC.out.symm,rfl⟩
 ·omega
set_option maxRecDepth 100000 in
set_option maxHeartbeats 4000000 in
theorem char_class (c:Int) (h0:0≤c) (h1:c<256) (w:World):Calls Tryz.prog 123 #[.int .u8 c] w fun e w'=>e= .returned (.int .i64 (classOf c))∧w=w':=by
 by_cases s0:c=0
 ·subst s0
  have XHC:Hid (classOf 0=0):=hide (by decide)
  clear h0 h1
  go_enter Tryz.func123,Tryz.ntmps123
  go_wp2
  go_ret
  exact⟨ret_int XHC.out.symm,rfl⟩
 by_cases s9:c=9
 ·subst s9
  have XHC:Hid (classOf 9=1):=hide (by decide)
  clear h0 h1 s0
  go_enter Tryz.func123,Tryz.ntmps123
  go_wp2
  go_ret
  exact⟨ret_int XHC.out.symm,rfl⟩
 by_cases s10:c=10
 ·subst s10
  have XHC:Hid (classOf 10=2):=hide (by decide)
  clear h0 h1 s0 s9
  go_enter Tryz.func123,Tryz.ntmps123
  go_wp2
  go_ret
  exact⟨ret_int XHC.out.symm,rfl⟩
 by_cases s32:c=32
 ·subst s32
  have XHC:Hid (classOf 32=1):=hide (by decide)
  clear h0 h1 s0 s9 s10
  go_enter Tryz.func123,Tryz.ntmps123
  go_wp2
  go_ret
  exact⟨ret_int XHC.out.symm,rfl⟩
 by_cases s34:c=34
 ·subst s34
  have XHC:Hid (classOf 34=6):=hide (by decide)
  clear h0 h1 s0 s9 s10 s32
  go_enter Tryz.func123,Tryz.ntmps123
  go_wp2
  go_ret
  exact⟨ret_int XHC.out.symm,rfl⟩
 by_cases s36:c=36
 ·subst s36
  have XHC:Hid (classOf 36=7):=hide (by decide)
  clear h0 h1 s0 s9 s10 s32 s34
  go_enter Tryz.func123,Tryz.ntmps123
  go_wp2
  go_ret
  exact⟨ret_int XHC.out.symm,rfl⟩
 by_cases s38:c=38
 ·subst s38
  have XHC:Hid (classOf 38=5):=hide (by decide)
  clear h0 h1 s0 s9 s10 s32 s34 s36
  go_enter Tryz.func123,Tryz.ntmps123
  go_wp2
  go_ret
  exact⟨ret_int XHC.out.symm,rfl⟩
 by_cases s39:c=39
 ·subst s39
  have XHC:Hid (classOf 39=6):=hide (by decide)
  clear h0 h1 s0 s9 s10 s32 s34 s36 s38
  go_enter Tryz.func123,Tryz.ntmps123
  go_wp2
  go_ret
  exact⟨ret_int XHC.out.symm,rfl⟩
 by_cases s40:c=40
 ·subst s40
  have XHC:Hid (classOf 40=5):=hide (by decide)
  clear h0 h1 s0 s9 s10 s32 s34 s36 s38 s39
  go_enter Tryz.func123,Tryz.ntmps123
  go_wp2
  go_ret
  exact⟨ret_int XHC.out.symm,rfl⟩
 by_cases s41:c=41
 ·subst s41
  have XHC:Hid (classOf 41=5):=hide (by decide)
  clear h0 h1 s0 s9 s10 s32 s34 s36 s38 s39 s40
  go_enter Tryz.func123,Tryz.ntmps123
  go_wp2
  go_ret
  exact⟨ret_int XHC.out.symm,rfl⟩
 by_cases s59:c=59
 ·subst s59
  have XHC:Hid (classOf 59=5):=hide (by decide)
  clear h0 h1 s0 s9 s10 s32 s34 s36 s38 s39 s40 s41
  go_enter Tryz.func123,Tryz.ntmps123
  go_wp2
  go_ret
  exact⟨ret_int XHC.out.symm,rfl⟩
 by_cases s60:c=60
 ·subst s60
  have XHC:Hid (classOf 60=5):=hide (by decide)
  clear h0 h1 s0 s9 s10 s32 s34 s36 s38 s39 s40 s41 s59
  go_enter Tryz.func123,Tryz.ntmps123
  go_wp2
  go_ret
  exact⟨ret_int XHC.out.symm,rfl⟩
 by_cases s62:c=62
 ·subst s62
  have XHC:Hid (classOf 62=5):=hide (by decide)
  clear h0 h1 s0 s9 s10 s32 s34 s36 s38 s39 s40 s41 s59 s60
  go_enter Tryz.func123,Tryz.ntmps123
  go_wp2
  go_ret
  exact⟨ret_int XHC.out.symm,rfl⟩
 by_cases s92:c=92
 ·subst s92
  have XHC:Hid (classOf 92=6):=hide (by decide)
  clear h0 h1 s0 s9 s10 s32 s34 s36 s38 s39 s40 s41 s59 s60 s62
  go_enter Tryz.func123,Tryz.ntmps123
  go_wp2
  go_ret
  exact⟨ret_int XHC.out.symm,rfl⟩
 by_cases s95:c=95
 ·subst s95
  have XHC:Hid (classOf 95=4):=hide (by decide)
  clear h0 h1 s0 s9 s10 s32 s34 s36 s38 s39 s40 s41 s59 s60 s62 s92
  go_enter Tryz.func123,Tryz.ntmps123
  go_wp2
  go_ret
  exact⟨ret_int XHC.out.symm,rfl⟩
 by_cases s96:c=96
 ·subst s96
  have XHC:Hid (classOf 96=6):=hide (by decide)
  clear h0 h1 s0 s9 s10 s32 s34 s36 s38 s39 s40 s41 s59 s60 s62 s92 s95
  go_enter Tryz.func123,Tryz.ntmps123
  go_wp2
  go_ret
  exact⟨ret_int XHC.out.symm,rfl⟩
 by_cases s124:c=124
 ·subst s124
  have XHC:Hid (classOf 124=5):=hide (by decide)
  clear h0 h1 s0 s9 s10 s32 s34 s36 s38 s39 s40 s41 s59 s60 s62 s92 s95 s96
  go_enter Tryz.func123,Tryz.ntmps123
  go_wp2
  go_ret
  exact⟨ret_int XHC.out.symm,rfl⟩
 have XHC:Hid (classOf c=letterOf c):=hide (by
  unfold classOf letterOf
  rw [if_neg (by omega),if_neg (by omega),if_neg (by omega)]
  by_cases a:48≤c∧c≤57
  ·rw [if_pos a,if_pos a]
  ·rw [if_neg a,if_neg a]
   by_cases b:(97≤c∧c≤122)∨(65≤c∧c≤90)∨c=95
   ·rw [if_pos b,if_pos b]
   ·rw [if_neg b,if_neg b,if_neg (by omega),if_neg (by omega),if_neg (by omega)])
 have XL:Hid _:=hide (char_letter c h0 h1 w)
 have e0:((c:Int)==0)=false:=by rw [beq_eq_false_iff_ne];exact s0
 have e9:((c:Int)==9)=false:=by rw [beq_eq_false_iff_ne];exact s9
 have e10:((c:Int)==10)=false:=by rw [beq_eq_false_iff_ne];exact s10
 have e32:((c:Int)==32)=false:=by rw [beq_eq_false_iff_ne];exact s32
 have e34:((c:Int)==34)=false:=by rw [beq_eq_false_iff_ne];exact s34
 have e36:((c:Int)==36)=false:=by rw [beq_eq_false_iff_ne];exact s36
 have e38:((c:Int)==38)=false:=by rw [beq_eq_false_iff_ne];exact s38
 have e39:((c:Int)==39)=false:=by rw [beq_eq_false_iff_ne];exact s39
 have e40:((c:Int)==40)=false:=by rw [beq_eq_false_iff_ne];exact s40
 have e41:((c:Int)==41)=false:=by rw [beq_eq_false_iff_ne];exact s41
 have e59:((c:Int)==59)=false:=by rw [beq_eq_false_iff_ne];exact s59
 have e60:((c:Int)==60)=false:=by rw [beq_eq_false_iff_ne];exact s60
 have e62:((c:Int)==62)=false:=by rw [beq_eq_false_iff_ne];exact s62
 have e92:((c:Int)==92)=false:=by rw [beq_eq_false_iff_ne];exact s92
 have e95:((c:Int)==95)=false:=by rw [beq_eq_false_iff_ne];exact s95
 have e96:((c:Int)==96)=false:=by rw [beq_eq_false_iff_ne];exact s96
 have e124:((c:Int)==124)=false:=by rw [beq_eq_false_iff_ne];exact s124
 clear h0 h1 s0 s9 s10 s32 s34 s36 s38 s39 s40 s41 s59 s60 s62 s92 s95 s96 s124
 go_enter Tryz.func123,Tryz.ntmps123
 go_wp2_with fail
 refine XL.out.mono ?_
 rintro e w' ⟨rfl,rfl⟩
 go_wp2_with fail
 go_ret
 exact⟨ret_int XHC.out.symm,rfl⟩
end
section
open Go.RowKit
def Quiet0 (w:World) (r:Value) (e:Ending) (w':World):Prop:=e= .returned r∧Below w.heap.size w w'
def byteAt (s:ByteArray) (k:Nat):Int:=if h:k<s.size then(s[k].toNat:Int)else 0
theorem byteAt_eq {s:ByteArray} {k:Nat} (h:k<s.size):byteAt s k=(s[k].toNat:Int):=by unfold byteAt;rw [dif_pos h]
theorem byteAt_lt (s:ByteArray) (k:Nat):0≤byteAt s k∧byteAt s k<256:=by
 unfold byteAt
 split
 ·rename_i h;have:=s[k].toNat_lt;omega
 ·omega
def goodAt (s:ByteArray) (k:Nat):Bool:=decide (classOf (byteAt s k)=4)||(decide (classOf (byteAt s k)=3)&&decide (0<k))
def goodUpto (s:ByteArray) (k:Nat):Bool:=(List.range k).all (goodAt s)
def nameB (s:ByteArray):Bool:=decide (0<s.size)&&goodUpto s s.size
theorem goodUpto_succ (s:ByteArray) (k:Nat):goodUpto s (k+1)=(goodUpto s k&&goodAt s k):=by unfold goodUpto;rw [List.range_succ,List.all_append];simp
theorem goodUpto_no {s:ByteArray} {k:Nat} (hk:k<s.size) (h:goodAt s k=false):nameB s=false:=by
 unfold nameB goodUpto
 have:(List.range s.size).all (goodAt s)=false:=by
  rw [List.all_eq_false]
  exact⟨k,List.mem_range.2 hk,by simp [h]⟩
 rw [this];simp
set_option maxRecDepth 100000 in
set_option maxHeartbeats 1000000 in
theorem ref_isname (s:ByteArray) (hs:s.size≤maxLen) (w:World):Calls Tryz.prog 96 #[.string s] w fun e w'=>e= .returned (.bool (nameB s))∧w=w':=by
 unfold maxLen at hs
 have hsucc:=goodUpto_succ s
 have hno: ∀k,k<s.size→goodAt s k=false→nameB s=false:=fun k=>goodUpto_no
 have hend:nameB s=(decide (0<s.size)&&goodUpto s s.size):=rfl
 have hat: ∀k,goodAt s k=(decide (classOf (byteAt s k)=4)||(decide (classOf (byteAt s k)=3)&&decide (0<k))):=fun k=>rfl
 have Xhsucc:=hide hsucc;have Xhno:=hide hno;have Xhend:=hide hend;have Xhat:=hide hat;clear hsucc hno hend hat
 go_enter Tryz.func96,Tryz.ntmps96
 go_wp2
 go_loopw [3] (fun i wr=> ∃k:Nat,k≤s.size∧i= .int .i64 k∧goodUpto s k=true∧w=wr) (fun i _=>s.size - (intOf i).toNat)
 case atStart=>exact⟨0,Nat.zero_le _,rfl,rfl,rfl⟩
 case round=>
  obtain⟨k,hk,rfl,hg,rfl⟩:=hrel
  have hsk:=Xhsucc.out k
  rw [hg,Bool.true_and,Xhat.out k]at hsk
  have hnk:=Xhno.out k
  rw [Xhat.out k]at hnk
  have Xhg:=hide hg;clear hg
  by_cases hlt:k<s.size
  ·have hb:=byteAt_lt s k
   have hcl:=ref_class (byteAt s k) hb.1 hb.2 w
   obtain⟨v,hv⟩: ∃v,v=classOf (byteAt s k):=⟨_,rfl⟩
   rw [←hv]at hcl hsk hnk
   rw [byteAt_eq hlt]at hcl
   have hnk':=hnk hlt
   clear hb hv hnk
   by_cases c4:v=4
   ·have hc:(v !=4)=false:=by simp [c4]
    rw [decide_eq_true c4]at hsk
    have Xhcl:=hide hcl;have Xhsk:=hide hsk;have Xhnk':=hide hnk';have Xc4:=hide c4;clear hcl hsk hnk' c4
    go_wp2_with fail
    refine Xhcl.out.mono ?_
    rintro e w' ⟨rfl,rfl⟩
    go_wp2_with fail
    go_roundw
    case rel=>exact⟨k+1,by omega,by go_num,by rw [Xhsk.out];rfl,by first|rfl|trivial⟩
    case measure=>simp [intOf];omega
   ·have hc:(v !=4)=true:=by simpa using c4
    rw [decide_eq_false c4]at hsk hnk'
    by_cases c3:v=3
    ·have hc3:(v !=3)=false:=by simp [c3]
     rw [decide_eq_true c3]at hsk hnk'
     by_cases k0:k=0
     ·subst k0
      have Xhcl:=hide hcl;have Xhsk:=hide hsk;have Xhnk':=hide hnk';have Xc4:=hide c4;have Xc3:=hide c3;clear hcl hsk hnk' c4 c3
      go_wp2_with fail
      refine Xhcl.out.mono ?_
      rintro e w' ⟨rfl,rfl⟩
      go_wp2_with fail
      go_ret
      exact⟨ret_bool (Xhnk'.out (by first|rfl|trivial)).symm,by first|rfl|trivial⟩
     ·have hk0:((k:Int)==0)=false:=by simpa using k0
      rw [decide_eq_true (show 0<k by omega)]at hsk
      have Xhcl:=hide hcl;have Xhsk:=hide hsk;have Xhnk':=hide hnk';have Xc4:=hide c4;have Xc3:=hide c3;have Xk0:=hide k0;clear hcl hsk hnk' c4 c3 k0
      go_wp2_with fail
      refine Xhcl.out.mono ?_
      rintro e w' ⟨rfl,rfl⟩
      go_wp2_with fail
      go_roundw
      case rel=>exact⟨k+1,by omega,by go_num,by rw [Xhsk.out];rfl,by first|rfl|trivial⟩
      case measure=>simp [intOf];omega
    ·have hc3:(v !=3)=true:=by simpa using c3
     rw [decide_eq_false c3]at hnk'
     have Xhcl:=hide hcl;have Xhsk:=hide hsk;have Xhnk':=hide hnk';have Xc4:=hide c4;have Xc3:=hide c3;clear hcl hsk hnk' c4 c3
     go_wp2_with fail
     refine Xhcl.out.mono ?_
     rintro e w' ⟨rfl,rfl⟩
     go_wp2_with fail
     go_ret
     exact⟨ret_bool (Xhnk'.out (by first|rfl|trivial)).symm,by first|rfl|trivial⟩
  ·have hks:k=s.size:=by omega
   clear hsk hnk
   go_wp2_with fail
   go_ret
   refine⟨ret_bool ?_,rfl⟩
   rw [Xhend.out,←hks,Xhg.out,Bool.and_true]
def asciiB (s:ByteArray):Bool:=(List.range s.size).all (fun k=>decide (byteAt s k<128))
set_option maxRecDepth 100000 in
set_option maxHeartbeats 1000000 in
theorem char_ascii (s:ByteArray) (hs:s.size≤maxLen) (w:World):Calls Tryz.prog 120 #[.string s] w fun e w'=>e= .returned (.bool (asciiB s))∧w=w':=by
 unfold maxLen at hs
 have hyes:(∀j:Nat,j<s.size→byteAt s j<128)→asciiB s=true:=fun h=>by
  unfold asciiB;rw [List.all_eq_true];intro j hj;simpa using h j (List.mem_range.1 hj)
 have hno: ∀j:Nat,j<s.size→ ¬byteAt s j<128→asciiB s=false:=fun j hj h=>by
  unfold asciiB;rw [List.all_eq_false];exact⟨j,List.mem_range.2 hj,by simpa using h⟩
 have Xhyes:=hide hyes;have Xhno:=hide hno;clear hyes hno
 go_enter Tryz.func120,Tryz.ntmps120
 go_wp2
 go_loop [6] (fun i=> ∃k:Nat,k≤s.size∧i= .int .i64 k∧ ∀j:Nat,j<k→byteAt s j<128) (fun i=>s.size - (intOf i).toNat)
 case atStart=>exact⟨0,Nat.zero_le _,rfl,fun j hj=>absurd hj (by omega)⟩
 case round=>
  obtain⟨k,hk,rfl,hg⟩:=hrel
  have Xhg:=hide hg;clear hg
  by_cases hlt:k<s.size
  ·have hbe:=byteAt_eq hlt
   by_cases hb:byteAt s k<128
   ·have hb':=hb
    rw [hbe]at hb
    have Xhbe:=hide hbe;have Xhb':=hide hb';clear hbe hb'
    go_wp2_with fail
    go_round
    case rel=>exact⟨k+1,by omega,by go_num,fun j hj=>by
     by_cases e:j=k
     ·subst e;exact Xhb'.out
     ·exact Xhg.out j (by omega)⟩
    case measure=>simp [intOf];omega
   ·have hb':=Xhno.out k hlt (by omega)
    rw [hbe]at hb
    have hb:(128:Int)≤(s[k].toNat:Int):=by omega
    have Xhbe:=hide hbe;have Xhb':=hide hb';clear hbe hb'
    go_wp2_with fail
    go_ret
    exact⟨ret_bool Xhb'.out.symm,by first|rfl|trivial⟩
  ·go_wp2_with fail
   go_ret
   exact⟨ret_bool (Xhyes.out fun j hj=>Xhg.out j (by omega)).symm,rfl⟩
theorem Tryz.enters_name1:Enters Tryz.prog 122:=enters_of Tryz.func122 (by kernel_rfl) rfl
theorem name_clo (k:Nat) (c:Int) (h0:0≤c) (h1:c<256) (hk:k≤9223372036854775807) (w:World):Calls Tryz.prog 122 #[.int .i64 k,.int .u8 c] w fun e w'=>e= .returned (.bool (decide (classOf c=4)||(decide (classOf c=3)&&decide (0<k))))∧w=w':=by
 have hcl:=char_class c h0 h1 w
 obtain⟨v,hv⟩: ∃v,v=classOf c:=⟨_,rfl⟩
 rw [←hv]at hcl⊢
 clear hv
 by_cases c4:v=4
 ·have hc:(v==4)=true:=by simp [c4]
  rw [decide_eq_true c4]
  have Xhcl:=hide hcl;have Xc4:=hide c4;clear hcl c4
  go_enter Tryz.func122,Tryz.ntmps122
  go_wp2_with fail
  refine Xhcl.out.mono ?_
  rintro e w' ⟨rfl,rfl⟩
  go_wp2_with fail
  go_ret
  exact⟨ret_bool (by simp),rfl⟩
 ·have hc:(v==4)=false:=by simpa using c4
  rw [decide_eq_false c4]
  by_cases c3:v=3
  ·have hc3:(v==3)=true:=by simp [c3]
   rw [decide_eq_true c3]
   have Xhcl:=hide hcl;have Xc4:=hide c4;have Xc3:=hide c3;clear hcl c4 c3
   go_enter Tryz.func122,Tryz.ntmps122
   go_wp2_with fail
   refine Xhcl.out.mono ?_
   rintro e w' ⟨rfl,rfl⟩
   go_wp2_with fail
   go_ret
   exact⟨ret_bool (by first|rfl|simp),rfl⟩
  ·have hc3:(v==3)=false:=by simpa using c3
   rw [decide_eq_false c3]
   have Xhcl:=hide hcl;have Xc4:=hide c4;have Xc3:=hide c3;clear hcl c4 c3
   go_enter Tryz.func122,Tryz.ntmps122
   go_wp2_with fail
   refine Xhcl.out.mono ?_
   rintro e w' ⟨rfl,rfl⟩
   go_wp2_with fail
   go_ret
   exact⟨ret_bool (by first|rfl|simp),rfl⟩
end
section
open Go.RowKit
set_option maxRecDepth 100000 in
set_option maxHeartbeats 1000000 in
theorem char_each (s:ByteArray) (hs:s.size≤maxLen) (ha: ∀j:Nat,j<s.size→byteAt s j<128) (w:World):Calls Tryz.prog 121 #[.string s,.func (.func 122) #[] #[]] w fun e w'=>e= .returned (.bool (nameB s))∧Below w.heap.size w w':=by
 unfold maxLen at hs
 have hsucc:=goodUpto_succ s
 have hno: ∀k,k<s.size→goodAt s k=false→nameB s=false:=fun k=>goodUpto_no
 have hend:nameB s=(decide (0<s.size)&&goodUpto s s.size):=rfl
 have hat: ∀k,goodAt s k=(decide (classOf (byteAt s k)=4)||(decide (classOf (byteAt s k)=3)&&decide (0<k))):=fun k=>rfl
 have eg:=Tryz.enters_name1
 have eg': ∀args w,(callFunc 122 args).run Tryz.prog w= .ok (.enter 122 args) w:=eg
 have B0: ∀k:Nat,Below w.heap.size w (w.iter s k):=fun k=>(Below.refl _ w).alloc (Nat.le_refl _) _
 have hemp:(s.toList.isEmpty)=decide (s.size=0):=isEmpty_size s
 have Xhsucc:=hide hsucc;have Xhno:=hide hno;have Xhend:=hide hend;have Xhat:=hide hat;have Xha:=hide ha;have XB0:=hide B0;clear hsucc hno hend hat ha B0;clear eg
 go_enter Tryz.func121,Tryz.ntmps121
 go_wp2
 go_loopw [5] (fun i wr=> ∃k:Nat,k≤s.size∧goodUpto s k=true∧wr=w.iter s k) (fun _ wr=>s.size - wr.iterPos w.heap.size)
 case atStart=>exact⟨0,Nat.zero_le _,rfl,rfl⟩
 case round=>
  obtain⟨k,hk,hg,rfl⟩:=hrel
  have hsk:=Xhsucc.out k
  rw [hg,Bool.true_and]at hsk
  have hnk:=Xhno.out k
  have Xhg:=hide hg;clear hg
  by_cases hlt:k<s.size
  ·have hba:=Xha.out k hlt
   have hnx:=fun ty=>run_next_ascii (P:=Tryz.prog) w s k ty hlt (by rw [byteAt_eq hlt]at hba;omega)
   have hb:=byteAt_lt s k
   have hcl:=name_clo k (byteAt s k) hb.1 hb.2 (by omega) (w.iter s (k+1))
   rw [←Xhat.out k]at hcl
   rw [byteAt_eq hlt]at hcl
   clear hba hb
   cases hq:goodAt s k with
   |true=>
    rw [hq]at hcl hsk
    have Xhcl:=hide hcl;have Xhsk:=hide hsk;have Xhnk:=hide hnk;have Xhq:=hide hq;clear hcl hsk hnk hq
    go_wp2_with (go_at_fn 122;refine Xhcl.out.mono ?_;rintro e w' ⟨rfl,rfl⟩)
    go_roundw
    case rel=>exact⟨k+1,by omega,Xhsk.out,rfl⟩
    case measure=>
     rw [World.iterPos_iter,World.iterPos_iter]
     omega
   |false=>
    rw [hq]at hcl hsk
    have hf:=hnk hlt hq
    have Xhcl:=hide hcl;have Xhsk:=hide hsk;have Xhnk:=hide hnk;have Xhq:=hide hq;have Xhf:=hide hf;clear hcl hsk hnk hq hf
    go_wp2_with (go_at_fn 122;refine Xhcl.out.mono ?_;rintro e w' ⟨rfl,rfl⟩)
    go_ret
    exact⟨ret_bool Xhf.out.symm,XB0.out _⟩
  ·have hnx:=fun ty=>run_next_end (P:=Tryz.prog) w s k ty hlt
   have hks:k=s.size:=by omega
   subst hks
   clear hsk hnk
   by_cases hz:s.size=0
   ·rw [decide_eq_true hz]at hemp
    have Xhz:=hide hz;clear hz
    go_wp2_with fail
    go_ret
    exact⟨ret_bool (by rw [Xhend.out,Xhz.out];simp),XB0.out _⟩
   ·rw [decide_eq_false hz]at hemp
    have Xhz:=hide hz;clear hz
    go_wp2_with fail
    go_ret
    exact⟨ret_bool (by rw [Xhend.out,Xhg.out,decide_eq_true (show 0<s.size by have:=Xhz.out;omega)];simp),XB0.out _⟩
end
section
open Go.RowKit
theorem classOf_high {c:Int} (h: ¬c<128):classOf c=8:=by
 unfold classOf
 rw [if_neg (by omega),if_neg (by omega),if_neg (by omega),if_neg (by omega),if_neg (by omega),if_neg (by omega),if_neg (by omega),if_neg (by omega)]
theorem nameB_ascii {s:ByteArray} (h:asciiB s=false):nameB s=false:=by
 unfold asciiB at h
 rw [List.all_eq_false]at h
 obtain⟨k,hk,hb⟩:=h
 refine goodUpto_no (List.mem_range.1 hk) ?_
 have hb': ¬byteAt s k<128:=by simpa using hb
 unfold goodAt
 rw [classOf_high hb']
 rfl
theorem ascii_at {s:ByteArray} (h:asciiB s=true): ∀j:Nat,j<s.size→byteAt s j<128:=by
 intro j hj
 unfold asciiB at h
 rw [List.all_eq_true]at h
 simpa using h j (List.mem_range.2 hj)
theorem char_name (s:ByteArray) (hs:s.size≤maxLen) (w:World):Calls Tryz.prog 103 #[.string s] w (Quiet0 w (.bool (nameB s))):=by
 have ha:=char_ascii s hs w
 cases hq:asciiB s with
 |true=>
  have he:=char_each s hs (ascii_at hq) w
  rw [hq]at ha
  have Xha:=hide ha;have Xhe:=hide he;have Xhq:=hide hq;clear ha he hq;clear hs
  go_enter Tryz.func103,Tryz.ntmps103
  go_wp2_with fail
  refine Xha.out.mono ?_
  rintro e w' ⟨rfl,rfl⟩
  go_wp2_with fail
  refine Xhe.out.mono ?_
  rintro e w' ⟨rfl,hb⟩
  go_wp2_with fail
  go_ret
  exact⟨rfl,hb⟩
 |false=>
  have hn:=nameB_ascii hq
  rw [hq]at ha
  have Xha:=hide ha;have Xhq:=hide hq;have Xhn:=hide hn;clear ha hq hn;clear hs
  go_enter Tryz.func103,Tryz.ntmps103
  go_wp2_with fail
  refine Xha.out.mono ?_
  rintro e w' ⟨rfl,rfl⟩
  go_wp2_with fail
  go_ret
  exact⟨ret_bool Xhn.out.symm,Below.refl _ _⟩
def plainB (s:ByteArray):Bool:=decide (s.size≤24)&&nameB s
theorem gram_plain (s:ByteArray) (hs:s.size≤maxLen) (w:World):Calls Tryz.prog 73 #[.string s] w (Quiet0 w (.bool (plainB s))):=by
 have hn:=char_name s hs w
 have hp:plainB s=(decide (s.size≤24)&&nameB s):=rfl
 unfold maxLen at hs
 generalize nameB s=q at hn hp
 by_cases h:s.size≤24
 ·rw [decide_eq_true h]at hp
  have h':(s.size:Int)≤24:=by omega
  have Xhn:=hide hn;have Xhp:=hide hp;clear hn hp
  go_enter Tryz.func73,Tryz.ntmps73
  go_wp2_with fail
  refine Xhn.out.mono ?_
  rintro e w' ⟨rfl,hb⟩
  go_wp2_with fail
  go_ret
  exact⟨ret_bool (by rw [Xhp.out];cases q<;>rfl),hb⟩
 ·rw [decide_eq_false h]at hp
  have h': ¬(s.size:Int)≤24:=by omega
  have Xhn:=hide hn;have Xhp:=hide hp;clear hn hp
  go_enter Tryz.func73,Tryz.ntmps73
  go_wp2_with fail
  go_ret
  exact⟨ret_bool (by rw [Xhp.out];rfl),Below.refl _ _⟩
theorem ref_plain (s:ByteArray) (hs:s.size≤maxLen) (w:World):Calls Tryz.prog 62 #[.string s] w (Quiet0 w (.bool (plainB s))):=by
 have hn:=ref_isname s hs w
 have hp:plainB s=(decide (s.size≤24)&&nameB s):=rfl
 unfold maxLen at hs
 generalize nameB s=q at hn hp
 cases q with
 |true=>
  by_cases h:s.size≤24
  ·rw [decide_eq_true h]at hp
   have h':(s.size:Int)≤24:=by omega
   have Xhn:=hide hn;have Xhp:=hide hp;clear hn hp
   go_enter Tryz.func62,Tryz.ntmps62
   go_wp2_with fail
   refine Xhn.out.mono ?_
   rintro e w' ⟨rfl,rfl⟩
   go_wp2_with fail
   go_ret
   exact⟨ret_bool (by rw [Xhp.out];rfl),Below.refl _ _⟩
  ·rw [decide_eq_false h]at hp
   have h': ¬(s.size:Int)≤24:=by omega
   have Xhn:=hide hn;have Xhp:=hide hp;clear hn hp
   go_enter Tryz.func62,Tryz.ntmps62
   go_wp2_with fail
   refine Xhn.out.mono ?_
   rintro e w' ⟨rfl,rfl⟩
   go_wp2_with fail
   go_ret
   exact⟨ret_bool (by rw [Xhp.out];first|rfl|exact decide_eq_false (by omega)),Below.refl _ _⟩
 |false=>
  rw [Bool.and_false]at hp
  have Xhn:=hide hn;have Xhp:=hide hp;clear hn hp
  go_enter Tryz.func62,Tryz.ntmps62
  go_wp2_with fail
  refine Xhn.out.mono ?_
  rintro e w' ⟨rfl,rfl⟩
  go_wp2_with fail
  go_ret
  exact⟨ret_bool (by rw [Xhp.out]),Below.refl _ _⟩
end
end
section
section
open Go.RowKit
def insideB (c:Int):Bool:=decide (33≤c)&&(decide (c≤126)&&decide (c≠39))
theorem ref_inside (c:Int) (w:World):Calls Tryz.prog 117 #[.int .u8 c] w fun e w'=>e= .returned (.bool (insideB c))∧w=w':=by
 have hp:insideB c=(decide (33≤c)&&(decide (c≤126)&&decide (c≠39))):=rfl
 by_cases h1:33≤c
 ·rw [decide_eq_true h1]at hp
  by_cases h2:c≤126
  ·rw [decide_eq_true h2]at hp
   by_cases h3:c=39
   ·have h3':(c !=39)=false:=by simp [h3]
    rw [decide_eq_false (by simpa using h3)]at hp
    have Xhp:=hide hp;have Xh3:=hide h3;clear hp h3
    go_enter Tryz.func117,Tryz.ntmps117
    go_wp2_with fail
    go_ret
    exact⟨ret_bool (by rw [Xhp.out];rfl),by first|rfl|trivial⟩
   ·have h3':(c !=39)=true:=by simpa using h3
    rw [decide_eq_true (by simpa using h3)]at hp
    have Xhp:=hide hp;have Xh3:=hide h3;clear hp h3
    go_enter Tryz.func117,Tryz.ntmps117
    go_wp2_with fail
    go_ret
    exact⟨ret_bool (by rw [Xhp.out];rfl),by first|rfl|trivial⟩
  ·rw [decide_eq_false h2]at hp
   have Xhp:=hide hp;clear hp
   go_enter Tryz.func117,Tryz.ntmps117
   go_wp2_with fail
   go_ret
   exact⟨ret_bool (by rw [Xhp.out];rfl),by first|rfl|trivial⟩
 ·rw [decide_eq_false h1]at hp
  have Xhp:=hide hp;clear hp
  go_enter Tryz.func117,Tryz.ntmps117
  go_wp2_with fail
  go_ret
  exact⟨ret_bool (by rw [Xhp.out];rfl),by first|rfl|trivial⟩
theorem gtok_inside (c:Int) (w:World):Calls Tryz.prog 125 #[.int .u8 c] w fun e w'=>e= .returned (.bool (insideB c))∧w=w':=by
 have hp:insideB c=(decide (33≤c)&&(decide (c≤126)&&decide (c≠39))):=rfl
 by_cases h1:33≤c
 ·rw [decide_eq_true h1]at hp
  have h1':(32:Int)<c:=by omega
  by_cases h2:c≤126
  ·rw [decide_eq_true h2]at hp
   by_cases h3:c=39
   ·have h3':(c !=39)=false:=by simp [h3]
    rw [decide_eq_false (by simpa using h3)]at hp
    have Xhp:=hide hp;have Xh3:=hide h3;clear hp h3
    go_enter Tryz.func125,Tryz.ntmps125
    go_wp2_with fail
    go_ret
    exact⟨ret_bool (by rw [Xhp.out];rfl),by first|rfl|trivial⟩
   ·have h3':(c !=39)=true:=by simpa using h3
    rw [decide_eq_true (by simpa using h3)]at hp
    have Xhp:=hide hp;have Xh3:=hide h3;clear hp h3
    go_enter Tryz.func125,Tryz.ntmps125
    go_wp2_with fail
    go_ret
    exact⟨ret_bool (by rw [Xhp.out];rfl),by first|rfl|trivial⟩
  ·rw [decide_eq_false h2]at hp
   have Xhp:=hide hp;clear hp
   go_enter Tryz.func125,Tryz.ntmps125
   go_wp2_with fail
   go_ret
   exact⟨ret_bool (by rw [Xhp.out];rfl),by first|rfl|trivial⟩
 ·rw [decide_eq_false h1]at hp
  have h1': ¬(32:Int)<c:=by omega
  have Xhp:=hide hp;clear hp
  go_enter Tryz.func125,Tryz.ntmps125
  go_wp2_with fail
  go_ret
  exact⟨ret_bool (by rw [Xhp.out];rfl),by first|rfl|trivial⟩
def insAt (s:ByteArray) (j:Nat):Bool:=insideB (byteAt s j)
def quotEnd (s:ByteArray):Nat:=1+((List.range (s.size - 1)).map (· +1)).findIdx (fun j=> !insAt s j)
theorem quotEnd_eq {s:ByteArray} {n:Nat} (h1:1≤n) (hn:n≤s.size) (hb: ∀j:Nat,1≤j→j<n→insAt s j=true) (he:n=s.size∨insAt s n=false):quotEnd s=n:=by
 unfold quotEnd
 rcases he with rfl|he
 ·have:((List.range (s.size - 1)).map (· +1)).findIdx (fun j=> !insAt s j)=((List.range (s.size - 1)).map (· +1)).length:=by
   rw [List.findIdx_eq_length]
   intro x hx
   obtain⟨y,hy,rfl⟩:=List.mem_map.1 hx
   have:=List.mem_range.1 hy
   simp [hb (y+1) (by omega) (by omega)]
  rw [this]
  simp;omega
 ·by_cases hlt:n<s.size
  ·have:((List.range (s.size - 1)).map (· +1)).findIdx (fun j=> !insAt s j)=n - 1:=by
    rw [List.findIdx_eq (by simp;omega)]
    refine⟨by simp [show n - 1+1=n by omega,he],fun j hj=> ?_⟩
    simp [hb (j+1) (by omega) (by omega)]
   rw [this];omega
  ·have:n=s.size:=by omega
   subst this
   have:((List.range (s.size - 1)).map (· +1)).findIdx (fun j=> !insAt s j)=((List.range (s.size - 1)).map (· +1)).length:=by
    rw [List.findIdx_eq_length]
    intro x hx
    obtain⟨y,hy,rfl⟩:=List.mem_map.1 hx
    have:=List.mem_range.1 hy
    simp [hb (y+1) (by omega) (by omega)]
   rw [this]
   simp;omega
def quotOk (s:ByteArray) (n:Nat):Bool:=decide (n<s.size)&&(decide (byteAt s n=39)&&(decide (n≠1)&&decide (n<24)))
def quotedB (s:ByteArray):Bool:=decide (0<s.size)&&(decide (byteAt s 0=39)&&(quotOk s (quotEnd s)&&decide (quotEnd s+1=s.size)))
theorem Tryz.enters_inside:Enters Tryz.prog 125:=enters_of Tryz.func125 (by kernel_rfl) rfl
set_option maxRecDepth 100000 in
set_option maxHeartbeats 1000000 in
theorem gtok_span (s:ByteArray) (hs:s.size≤maxLen) (h0:0<s.size) (w:World):Calls Tryz.prog 124 #[.string s,.int .i64 1,.func (.func 125) #[] #[]] w fun e w'=>(∃m:Nat,e= .returned (.int .i64 m)∧quotEnd s=m+1∧m+1≤s.size)∧w=w':=by
 unfold maxLen at hs
 have hend: ∀n:Nat,1≤n→n≤s.size→(∀j:Nat,1≤j→j<n→insAt s j=true)→(n=s.size∨insAt s n=false)→quotEnd s=n:=fun n=>quotEnd_eq
 have hat: ∀j,insAt s j=insideB (byteAt s j):=fun _=>rfl
 have eg:=Tryz.enters_inside
 have eg': ∀args w,(callFunc 125 args).run Tryz.prog w= .ok (.enter 125 args) w:=eg
 have Xhend:=hide hend;have Xhat:=hide hat;clear hend hat;clear eg
 go_enter Tryz.func124,Tryz.ntmps124
 go_wp2_with fail
 go_loopw [7] (fun i wr=> ∃k:Nat,k+1≤s.size∧i= .int .i64 k∧(∀j:Nat,1≤j→j<k+1→insAt s j=true)∧w=wr) (fun i _=>s.size - (intOf i).toNat)
 case atStart=>exact⟨0,by omega,rfl,fun j h1 h2=>absurd h2 (by omega),rfl⟩
 case round=>
  obtain⟨k,hk,rfl,hb,rfl⟩:=hrel
  have Xhb:=hide hb;clear hb
  by_cases hlt:k+1<s.size
  ·have hlt':(1:Int)+(k:Int)<(s.size:Int):=by omega
   have hin:=gtok_inside (byteAt s (1+k)) w
   rw [←Xhat.out]at hin
   rw [byteAt_eq (show 1+k<s.size by omega)]at hin
   cases hq:insAt s (1+k)with
   |true=>
    rw [hq]at hin
    have Xhin:=hide hin;have Xhq:=hide hq;clear hin hq
    go_wp2_with (go_at_fn 125;refine Xhin.out.mono ?_;rintro e w' ⟨rfl,rfl⟩)
    go_roundw
    case rel=>exact⟨k+1,by omega,by go_num,fun j h1 h2=>by
     by_cases e:j=k+1
     ·subst e;rw [Nat.add_comm k 1];exact Xhq.out
     ·exact Xhb.out j h1 (by omega),by first|rfl|trivial⟩
    case measure=>simp [intOf];omega
   |false=>
    rw [hq]at hin
    have Xhin:=hide hin;have Xhq:=hide hq;clear hin hq
    go_wp2_with (go_at_fn 125;refine Xhin.out.mono ?_;rintro e w' ⟨rfl,rfl⟩)
    go_ret
    exact⟨⟨k,rfl,Xhend.out _ (by omega) (by omega) Xhb.out (.inr (by rw [Nat.add_comm k 1];exact Xhq.out)),by omega⟩,by first|rfl|trivial⟩
  ·have hlt': ¬(1:Int)+(k:Int)<(s.size:Int):=by omega
   go_wp2_with fail
   go_ret
   exact⟨⟨k,rfl,Xhend.out _ (by omega) (by omega) Xhb.out (.inl (by omega)),by omega⟩,by first|rfl|trivial⟩
end
section
open Go.RowKit
theorem fault_new (e at_:Int) (he:e≠0) (w:World):Calls Tryz.prog 126 #[.int .i64 e,.int .i64 at_] w (Quiet0 w (.iface 183 (.pointer (some ⟨w.heap.size,0,none⟩)))):=by
 have h:((e:Int)==0)=false:=by simpa using he
 clear he
 go_enter Tryz.func126,Tryz.ntmps126
 go_wp2_with fail
 go_ret
 exact⟨rfl,(Below.refl _ w).alloc (Nat.le_refl _) _⟩
def QuotPost (s:ByteArray) (w:World) (e:Ending) (w':World):Prop:=
 Below w.heap.size w w'∧((quotOk s (quotEnd s)=true∧e= .returned (.tuple #[.int .i64 ((quotEnd s:Int)+1),.nilIface]))∨(quotOk s (quotEnd s)=false∧ ∃p,e= .returned (.tuple #[.int .i64 0,.iface 183 (.pointer (some p))])))
theorem QuotPost.no {s:ByteArray} {w w':World} {p:Addr} (hb:Below w.heap.size w w') (h:quotOk s (quotEnd s)=false):QuotPost s w (.returned (.tuple #[.int .i64 0,.iface 183 (.pointer (some p))])) w':=⟨hb,.inr ⟨h,p,rfl⟩⟩
theorem QuotPost.yes {s:ByteArray} {w w':World} {n:Int} (hb:Below w.heap.size w w') (h:quotOk s (quotEnd s)=true) (hn:n=(quotEnd s:Int)+1):QuotPost s w (.returned (.tuple #[.int .i64 n,.nilIface])) w':=⟨hb,.inl ⟨h,by rw [hn]⟩⟩
set_option maxRecDepth 100000 in
set_option maxHeartbeats 1000000 in
theorem gtok_quoted (s:ByteArray) (hs:s.size≤maxLen) (h0:0<s.size) (w:World):Calls Tryz.prog 104 #[.string s,.int .i64 0] w (QuotPost s w):=by
 have hsp:=gtok_span s hs h0 w
 unfold maxLen at hs
 have hok:quotOk s (quotEnd s)=(decide (quotEnd s<s.size)&&(decide (byteAt s (quotEnd s)=39)&&(decide (quotEnd s≠1)&&decide (quotEnd s<24)))):=rfl
 have hne: ∀(at_:Int),Calls Tryz.prog 126 #[.int .i64 4,.int .i64 at_] w (Quiet0 w (.iface 183 (.pointer (some ⟨w.heap.size,0,none⟩)))):=fun a=>fault_new 4 a (by decide) w
 have hn2: ∀(at_:Int),Calls Tryz.prog 126 #[.int .i64 2,.int .i64 at_] w (Quiet0 w (.iface 183 (.pointer (some ⟨w.heap.size,0,none⟩)))):=fun a=>fault_new 2 a (by decide) w
 have hn5: ∀(at_:Int),Calls Tryz.prog 126 #[.int .i64 5,.int .i64 at_] w (Quiet0 w (.iface 183 (.pointer (some ⟨w.heap.size,0,none⟩)))):=fun a=>fault_new 5 a (by decide) w
 obtain⟨n,hn⟩: ∃n,n=quotEnd s:=⟨_,rfl⟩
 rw [←hn]at hok
 have Xhsp:=hide hsp;have Xhne:=hide hne;have Xhn2:=hide hn2;have Xhn5:=hide hn5;clear hsp hne hn2 hn5
 go_enter Tryz.func104,Tryz.ntmps104
 go_wp2_with fail
 refine Xhsp.out.mono ?_
 rintro e w' ⟨⟨m,rfl,hm,hms⟩,rfl⟩
 have hnm:n=m+1:=by omega
 have hm0:m<9223372036854775807:=by omega
 subst hnm
 by_cases h1:m+1<s.size
 ·rw [decide_eq_true h1,Bool.true_and]at hok
  have hbe:=byteAt_eq (show 1+m<s.size by omega)
  rw [Nat.add_comm m 1]at hok
  by_cases h2:byteAt s (1+m)=39
  ·rw [decide_eq_true h2,Bool.true_and]at hok
   have e2:((s[1+m].toNat:Int) !=39)=false:=by rw [←hbe];simp [h2]
   by_cases h3:m=0
   ·subst h3
    have Xhok:=hide hok;have Xhm:=hide hm;have Xhbe:=hide hbe;have Xh2:=hide h2;have Xhn:=hide hn;clear hok hm hbe h2 hn
    go_wp2_with fail
    refine(Xhn2.out _).mono ?_
    rintro e w' ⟨rfl,hb⟩
    go_wp2_with fail
    go_ret2
    exact QuotPost.no hb (by rw [←Xhn.out];exact Xhok.out.trans rfl)
   ·have e3:(1+(m:Int)==1)=false:=by simpa using(by omega: ¬(1+(m:Int))=1)
    rw [decide_eq_true (show 1+m≠1 by omega),Bool.true_and]at hok
    by_cases h4:1+m<24
    ·rw [decide_eq_true h4]at hok
     have h4': ¬(24:Int)≤1+(m:Int):=by omega
     have Xhok:=hide hok;have Xhm:=hide hm;have Xhbe:=hide hbe;have Xh2:=hide h2;have Xhn:=hide hn;have Xh3:=hide h3;clear hok hm hbe h2 hn h3
     go_wp2_with fail
     go_ret2
     exact QuotPost.yes (Below.refl _ _) (by rw [←Xhn.out,Nat.add_comm m 1];exact Xhok.out) (by rw [←Xhn.out];omega)
    ·rw [decide_eq_false h4]at hok
     have h4':(24:Int)≤1+(m:Int):=by omega
     have Xhok:=hide hok;have Xhm:=hide hm;have Xhbe:=hide hbe;have Xh2:=hide h2;have Xhn:=hide hn;have Xh3:=hide h3;clear hok hm hbe h2 hn h3
     go_wp2_with fail
     refine(Xhn5.out _).mono ?_
     rintro e w' ⟨rfl,hb⟩
     go_wp2_with fail
     go_ret2
     exact QuotPost.no hb (by rw [←Xhn.out,Nat.add_comm m 1];exact Xhok.out)
  ·rw [decide_eq_false h2,Bool.false_and]at hok
   have e2:((s[1+m].toNat:Int) !=39)=true:=by rw [←hbe];simpa using h2
   have Xhok:=hide hok;have Xhm:=hide hm;have Xhbe:=hide hbe;have Xh2:=hide h2;have Xhn:=hide hn;clear hok hm hbe h2 hn
   go_wp2_with fail
   refine(Xhn2.out _).mono ?_
   rintro e w' ⟨rfl,hb⟩
   go_wp2_with fail
   go_ret2
   exact QuotPost.no hb (by rw [←Xhn.out,Nat.add_comm m 1];exact Xhok.out)
 ·rw [decide_eq_false h1,Bool.false_and]at hok
  have h1':(s.size:Int)≤1+(m:Int):=by omega
  have Xhok:=hide hok;have Xhm:=hide hm;have Xhn:=hide hn;clear hok hm hn
  go_wp2_with fail
  refine(Xhne.out _).mono ?_
  rintro e w' ⟨rfl,hb⟩
  go_wp2_with fail
  go_ret2
  exact QuotPost.no hb (by rw [←Xhn.out];exact Xhok.out)
set_option maxRecDepth 100000 in
set_option maxHeartbeats 1000000 in
theorem gtok_isquoted (s:ByteArray) (hs:s.size≤maxLen) (w:World):Calls Tryz.prog 74 #[.string s] w (Quiet0 w (.bool (quotedB s))):=by
 have hq:quotedB s=(decide (0<s.size)&&(decide (byteAt s 0=39)&&(quotOk s (quotEnd s)&&decide (quotEnd s+1=s.size)))):=rfl
 have hemp:(s.toList.isEmpty)=decide (s.size=0):=isEmpty_size s
 have hnil:=toList_nil s
 by_cases h0:0<s.size
 ·have hgq:=gtok_quoted s hs h0 w
  unfold maxLen at hs
  rw [decide_eq_true h0,Bool.true_and]at hq
  rw [decide_eq_false (by omega)]at hemp
  have hnn: ¬s.toList=[]:=fun e=>by have:=hnil.1 e;omega
  have hbe:=byteAt_eq h0
  clear hnil
  by_cases h1:byteAt s 0=39
  ·rw [decide_eq_true h1,Bool.true_and]at hq
   have e1:((s[0].toNat:Int) !=39)=false:=by rw [←hbe];simp [h1]
   have hi:=fun p=>run_eql_held_nil (P:=Tryz.prog) w 155 183 (.pointer (some p)) Tryz.underlying155
   have hi2:=run_eql_nil_nil (P:=Tryz.prog) w 155 Tryz.underlying155
   obtain⟨n,hn⟩: ∃n,n=quotEnd s:=⟨_,rfl⟩
   have Xhgq:=hide hgq;have Xhbe:=hide hbe;have Xh1:=hide h1;clear hgq hbe h1
   go_enter Tryz.func74,Tryz.ntmps74
   go_wp2_with fail
   refine Xhgq.out.mono ?_
   rintro e w' ⟨hb,⟨hok,rfl⟩|⟨hok,p,rfl⟩⟩
   ·rw [hok,Bool.true_and]at hq
    rw [←hn]at hq⊢
    by_cases he:n+1=s.size
    ·have he':((n:Int)+1==(s.size:Int))=true:=by rw [beq_iff_eq];omega
     rw [decide_eq_true he]at hq
     have Xhq:=hide hq;have Xhok:=hide hok;have Xhn:=hide hn;have Xhe:=hide he;clear hq hok hn he
     go_wp2_with fail
     go_ret
     exact⟨ret_bool Xhq.out.symm,hb⟩
    ·have he':((n:Int)+1==(s.size:Int))=false:=by rw [beq_eq_false_iff_ne];omega
     rw [decide_eq_false he]at hq
     have Xhq:=hide hq;have Xhok:=hide hok;have Xhn:=hide hn;have Xhe:=hide he;clear hq hok hn he
     go_wp2_with fail
     go_ret
     exact⟨ret_bool Xhq.out.symm,hb⟩
   ·rw [hok,Bool.false_and]at hq
    have Xhq:=hide hq;have Xhok:=hide hok;have Xhn:=hide hn;clear hq hok hn
    go_wp2_with fail
    go_ret
    exact⟨ret_bool Xhq.out.symm,hb⟩
  ·rw [decide_eq_false h1,Bool.false_and]at hq
   have e1:((s[0].toNat:Int) !=39)=true:=by rw [←hbe];simpa using h1
   have Xhgq:=hide hgq;have Xhbe:=hide hbe;have Xh1:=hide h1;have Xhq:=hide hq;clear hgq hbe h1 hq
   go_enter Tryz.func74,Tryz.ntmps74
   go_wp2_with fail
   go_ret
   exact⟨ret_bool Xhq.out.symm,Below.refl _ _⟩
 ·rw [decide_eq_false h0,Bool.false_and]at hq
  rw [decide_eq_true (by omega)]at hemp
  have hnn:s.toList=[]:=hnil.2 (by omega)
  have Xhq:=hide hq;clear hq;clear hs hnil
  go_enter Tryz.func74,Tryz.ntmps74
  go_wp2_with fail
  go_ret
  exact⟨ret_bool Xhq.out.symm,Below.refl _ _⟩
end
section
open Go.RowKit
def RQuotPost (s:ByteArray) (w:World) (e:Ending) (w':World):Prop:=
 Below w.heap.size w w'∧((quotOk s (quotEnd s)=true∧e= .returned (.tuple #[.int .i64 ((quotEnd s:Int)+1),.agg #[.int .i64 0,.int .i64 0]]))∨(quotOk s (quotEnd s)=false∧ ∃k a:Int,k≠0∧e= .returned (.tuple #[.int .i64 0,.agg #[.int .i64 k,.int .i64 a]])))
theorem RQuotPost.no {s:ByteArray} {w w':World} {k a:Int} (hb:Below w.heap.size w w') (h:quotOk s (quotEnd s)=false) (hk:k≠0):RQuotPost s w (.returned (.tuple #[.int .i64 0,.agg #[.int .i64 k,.int .i64 a]])) w':=⟨hb,.inr ⟨h,k,a,hk,rfl⟩⟩
theorem RQuotPost.yes {s:ByteArray} {w w':World} {n:Int} (hb:Below w.heap.size w w') (h:quotOk s (quotEnd s)=true) (hn:n=(quotEnd s:Int)+1):RQuotPost s w (.returned (.tuple #[.int .i64 n,.agg #[.int .i64 0,.int .i64 0]])) w':=⟨hb,.inl ⟨h,by rw [hn]⟩⟩
set_option maxRecDepth 100000 in
set_option maxHeartbeats 1000000 in
theorem ref_quoted (s:ByteArray) (hs:s.size≤maxLen) (h0:0<s.size) (w:World):Calls Tryz.prog 97 #[.string s,.int .i64 0] w (RQuotPost s w):=by
 unfold maxLen at hs
 have hend: ∀n:Nat,1≤n→n≤s.size→(∀j:Nat,1≤j→j<n→insAt s j=true)→(n=s.size∨insAt s n=false)→quotEnd s=n:=fun n=>quotEnd_eq
 have hat: ∀j,insAt s j=insideB (byteAt s j):=fun _=>rfl
 have hok: ∀n,quotOk s n=(decide (n<s.size)&&(decide (byteAt s n=39)&&(decide (n≠1)&&decide (n<24)))):=fun _=>rfl
 have Xhend:=hide hend;have Xhat:=hide hat;have Xhok:=hide hok;clear hend hat hok
 go_enter Tryz.func97,Tryz.ntmps97
 go_wp2_with fail
 go_loopw [6] (fun i wr=> ∃k:Nat,1≤k∧k≤s.size∧i= .int .i64 k∧(∀j:Nat,1≤j→j<k→insAt s j=true)∧wr=w.alloc (.cells #[.int .i64 0,.int .i64 0] 151)) (fun i _=>s.size - (intOf i).toNat)
 case atStart=>exact⟨1,by omega,by omega,rfl,fun j h1 h2=>absurd h2 (by omega),rfl⟩
 case round=>
  obtain⟨k,hk1,hk,rfl,hb,rfl⟩:=hrel
  have Xhb:=hide hb;clear hb
  by_cases hlt:k<s.size
  ·have hin:=ref_inside (byteAt s k) (w.alloc (.cells #[.int .i64 0,.int .i64 0] 151))
   rw [←Xhat.out]at hin
   have hbe:=byteAt_eq hlt
   rw [hbe]at hin
   cases hq:insAt s k with
   |true=>
    rw [hq]at hin
    have Xhin:=hide hin;have Xhq:=hide hq;have Xhbe:=hide hbe;clear hin hq hbe
    go_wp2_with fail
    refine Xhin.out.mono ?_
    rintro e w' ⟨rfl,rfl⟩
    go_wp2_with fail
    go_roundw
    case rel=>exact⟨k+1,by omega,by omega,by go_num,fun j h1 h2=>by
     by_cases e:j=k
     ·subst e;exact Xhq.out
     ·exact Xhb.out j h1 (by omega),by first|rfl|trivial⟩
    case measure=>simp [intOf];omega
   |false=>
    rw [hq]at hin
    have hqe:=Xhend.out k hk1 hk Xhb.out (.inr hq)
    have hko:=Xhok.out k
    rw [decide_eq_true hlt,Bool.true_and]at hko
    by_cases h2:byteAt s k=39
    ·rw [decide_eq_true h2,Bool.true_and]at hko
     have e2:((s[k].toNat:Int) !=39)=false:=by rw [←hbe];simp [h2]
     by_cases h3:k=1
     ·have h3':((k:Int)==1)=true:=by rw [beq_iff_eq];omega
      rw [decide_eq_false (by omega: ¬k≠1),Bool.false_and]at hko
      have Xhin:=hide hin;have Xhq:=hide hq;have Xhbe:=hide hbe;have Xhqe:=hide hqe;have Xhko:=hide hko;have Xh2:=hide h2;have Xh3:=hide h3;clear hin hq hbe hqe hko h2 h3
      go_wp2_with fail
      refine Xhin.out.mono ?_
      rintro e w' ⟨rfl,rfl⟩
      go_wp2_with fail
      refine bodyPost_ret (v:= .tuple #[.int .i64 0,.agg #[.int .i64 2,.int .i64 k]]) (by simp [results,Tryz.results97,go_sem]) rfl ?_
      exact RQuotPost.no ((Below.refl _ w).alloc (Nat.le_refl _) _) (by rw [Xhqe.out];exact Xhko.out) (by decide)
     ·have h3':((k:Int)==1)=false:=by rw [beq_eq_false_iff_ne];omega
      rw [decide_eq_true (by omega:k≠1),Bool.true_and]at hko
      by_cases h4:k<24
      ·rw [decide_eq_true h4]at hko
       have h4': ¬(24:Int)<(k:Int)+1:=by omega
       have Xhin:=hide hin;have Xhq:=hide hq;have Xhbe:=hide hbe;have Xhqe:=hide hqe;have Xhko:=hide hko;have Xh2:=hide h2;have Xh3:=hide h3;clear hin hq hbe hqe hko h2 h3
       go_wp2_with fail
       refine Xhin.out.mono ?_
       rintro e w' ⟨rfl,rfl⟩
       go_wp2_with fail
       refine bodyPost_ret (v:= .tuple #[.int .i64 (k+1),.agg #[.int .i64 0,.int .i64 0]]) (by simp [results,Tryz.results97,go_sem]) rfl ?_
       exact RQuotPost.yes ((Below.refl _ w).alloc (Nat.le_refl _) _) (by rw [Xhqe.out];exact Xhko.out) (by rw [Xhqe.out])
      ·rw [decide_eq_false h4]at hko
       have h4':(24:Int)<(k:Int)+1:=by omega
       have Xhin:=hide hin;have Xhq:=hide hq;have Xhbe:=hide hbe;have Xhqe:=hide hqe;have Xhko:=hide hko;have Xh2:=hide h2;have Xh3:=hide h3;clear hin hq hbe hqe hko h2 h3
       go_wp2_with fail
       refine Xhin.out.mono ?_
       rintro e w' ⟨rfl,rfl⟩
       go_wp2_with fail
       refine bodyPost_ret (v:= .tuple #[.int .i64 0,.agg #[.int .i64 5,.int .i64 0]]) (by simp [results,Tryz.results97,go_sem]) rfl ?_
       exact RQuotPost.no ((Below.refl _ w).alloc (Nat.le_refl _) _) (by rw [Xhqe.out];exact Xhko.out) (by decide)
    ·rw [decide_eq_false h2,Bool.false_and]at hko
     have e2:((s[k].toNat:Int) !=39)=true:=by rw [←hbe];simpa using h2
     have Xhin:=hide hin;have Xhq:=hide hq;have Xhbe:=hide hbe;have Xhqe:=hide hqe;have Xhko:=hide hko;have Xh2:=hide h2;clear hin hq hbe hqe hko h2
     go_wp2_with fail
     refine Xhin.out.mono ?_
     rintro e w' ⟨rfl,rfl⟩
     go_wp2_with fail
     refine bodyPost_ret (v:= .tuple #[.int .i64 0,.agg #[.int .i64 2,.int .i64 k]]) (by simp [results,Tryz.results97,go_sem]) rfl ?_
     exact RQuotPost.no ((Below.refl _ w).alloc (Nat.le_refl _) _) (by rw [Xhqe.out];exact Xhko.out) (by decide)
  ·have hks:k=s.size:=by omega
   have hqe:=Xhend.out k hk1 hk Xhb.out (.inl hks)
   have hko:=Xhok.out k
   rw [decide_eq_false hlt,Bool.false_and]at hko
   have Xhqe:=hide hqe;have Xhko:=hide hko;have Xhks:=hide hks;clear hqe hko hks
   go_wp2_with fail
   refine bodyPost_ret (v:= .tuple #[.int .i64 0,.agg #[.int .i64 4,.int .i64 s.size]]) (by simp [results,Tryz.results97,go_sem]) rfl ?_
   exact RQuotPost.no ((Below.refl _ w).alloc (Nat.le_refl _) _) (by rw [Xhqe.out];exact Xhko.out) (by decide)
set_option maxRecDepth 100000 in
set_option maxHeartbeats 1000000 in
theorem ref_isquoted (s:ByteArray) (hs:s.size≤maxLen) (w:World):Calls Tryz.prog 63 #[.string s] w (Quiet0 w (.bool (quotedB s))):=by
 have hq:quotedB s=(decide (0<s.size)&&(decide (byteAt s 0=39)&&(quotOk s (quotEnd s)&&decide (quotEnd s+1=s.size)))):=rfl
 have hemp:(s.toList.isEmpty)=decide (s.size=0):=isEmpty_size s
 have hnil:=toList_nil s
 by_cases h0:0<s.size
 ·have hgq:=ref_quoted s hs h0 w
  unfold maxLen at hs
  rw [decide_eq_true h0,Bool.true_and]at hq
  rw [decide_eq_false (by omega)]at hemp
  have hnn: ¬s.toList=[]:=fun e=>by have:=hnil.1 e;omega
  have hbe:=byteAt_eq h0
  clear hnil
  by_cases h1:byteAt s 0=39
  ·rw [decide_eq_true h1,Bool.true_and]at hq
   have e1:((s[0].toNat:Int) !=39)=false:=by rw [←hbe];simp [h1]
   obtain⟨n,hn⟩: ∃n,n=quotEnd s:=⟨_,rfl⟩
   have Xhgq:=hide hgq;have Xhbe:=hide hbe;have Xh1:=hide h1;clear hgq hbe h1
   go_enter Tryz.func63,Tryz.ntmps63
   go_wp2_with fail
   refine Xhgq.out.mono ?_
   rintro e w' ⟨hb,⟨hok,rfl⟩|⟨hok,k,a,hk,rfl⟩⟩
   ·rw [hok,Bool.true_and]at hq
    rw [←hn]at hq⊢
    by_cases he:n+1=s.size
    ·have he':((n:Int)+1==(s.size:Int))=true:=by rw [beq_iff_eq];omega
     rw [decide_eq_true he]at hq
     have Xhq:=hide hq;have Xhok:=hide hok;have Xhn:=hide hn;have Xhe:=hide he;clear hq hok hn he
     go_wp2_with fail
     go_ret
     exact⟨ret_bool Xhq.out.symm,hb.alloc hb.size _⟩
    ·have he':((n:Int)+1==(s.size:Int))=false:=by rw [beq_eq_false_iff_ne];omega
     rw [decide_eq_false he]at hq
     have Xhq:=hide hq;have Xhok:=hide hok;have Xhn:=hide hn;have Xhe:=hide he;clear hq hok hn he
     go_wp2_with fail
     go_ret
     exact⟨ret_bool Xhq.out.symm,hb.alloc hb.size _⟩
   ·rw [hok,Bool.false_and]at hq
    have hk':((k:Int)==0)=false:=by simpa using hk
    have Xhq:=hide hq;have Xhok:=hide hok;have Xhn:=hide hn;have Xhk:=hide hk;clear hq hok hn hk
    go_wp2_with fail
    go_ret
    exact⟨ret_bool Xhq.out.symm,hb.alloc hb.size _⟩
  ·rw [decide_eq_false h1,Bool.false_and]at hq
   have e1:((s[0].toNat:Int) !=39)=true:=by rw [←hbe];simpa using h1
   have Xhgq:=hide hgq;have Xhbe:=hide hbe;have Xh1:=hide h1;have Xhq:=hide hq;clear hgq hbe h1 hq
   go_enter Tryz.func63,Tryz.ntmps63
   go_wp2_with fail
   go_ret
   exact⟨ret_bool Xhq.out.symm,Below.refl _ _⟩
 ·rw [decide_eq_false h0,Bool.false_and]at hq
  rw [decide_eq_true (by omega)]at hemp
  have hnn:s.toList=[]:=hnil.2 (by omega)
  have Xhq:=hide hq;clear hq;clear hs hnil
  go_enter Tryz.func63,Tryz.ntmps63
  go_wp2_with fail
  go_ret
  exact⟨ret_bool Xhq.out.symm,Below.refl _ _⟩
end
end
end Go.Proofs.YtalbfonkhpeajaaGreat

/- The classes of bytes: the reference's. -/
import Derived.Test.YtalbfonkhpeajaaGreatHBase
import Derived.Test.YtalbfonkhpeajaaGreatProg
namespace Go.Proofs.YtalbfonkhpeajaaGreat
set_option linter.unusedVariables false
open Go.RowKit
def classOf (c:Int):Int:=if c=0 then 0 else if c=32∨c=9 then 1 else if c=10 then 2 else if 48≤c∧c≤57 then 3 else if(97≤c∧c≤122)∨(65≤c∧c≤90)∨c=95 then 4 else if c=38∨c=124∨c=59∨c=60∨c=62∨c=40∨c=41 then 5 else if c=39∨c=34∨c=92∨c=96 then 6 else if c=36 then 7 else 8
set_option maxRecDepth 100000 in
set_option maxHeartbeats 4000000 in
theorem ref_class (c:Int) (h0:0≤c) (h1:c<256) (w:World):Calls Tryz.prog 116 #[.int .u8 c] w fun e w'=>e= .returned (.int .i64 (classOf c))∧w=w':=by
 by_cases q0:c≤0
 ·have XHC:Hid (classOf c=0):=hide (by unfold classOf;repeat (first|rw [if_pos (by omega)]|rw [if_neg (by omega)]))
  obtain rfl:c=0:=by omega
  clear h0 h1 q0
  go_enter Tryz.func116,Tryz.ntmps116
  go_wp2
  go_ret
  exact⟨ret_int XHC.out.symm,rfl⟩
 by_cases q8:c≤8
 ·have XHC:Hid (classOf c=8):=hide (by unfold classOf;repeat (first|rw [if_pos (by omega)]|rw [if_neg (by omega)]))
  have e0:((c:Int)==0)=false:=by rw [beq_eq_false_iff_ne];omega
  have e9:((c:Int)==9)=false:=by rw [beq_eq_false_iff_ne];omega
  have e10:((c:Int)==10)=false:=by rw [beq_eq_false_iff_ne];omega
  have e32:((c:Int)==32)=false:=by rw [beq_eq_false_iff_ne];omega
  have e34:((c:Int)==34)=false:=by rw [beq_eq_false_iff_ne];omega
  have e36:((c:Int)==36)=false:=by rw [beq_eq_false_iff_ne];omega
  have e38:((c:Int)==38)=false:=by rw [beq_eq_false_iff_ne];omega
  have e39:((c:Int)==39)=false:=by rw [beq_eq_false_iff_ne];omega
  have e40:((c:Int)==40)=false:=by rw [beq_eq_false_iff_ne];omega
  have e41:((c:Int)==41)=false:=by rw [beq_eq_false_iff_ne];omega
  have e59:((c:Int)==59)=false:=by rw [beq_eq_false_iff_ne];omega
  have e60:((c:Int)==60)=false:=by rw [beq_eq_false_iff_ne];omega
  have e62:((c:Int)==62)=false:=by rw [beq_eq_false_iff_ne];omega
  have e92:((c:Int)==92)=false:=by rw [beq_eq_false_iff_ne];omega
  have e95:((c:Int)==95)=false:=by rw [beq_eq_false_iff_ne];omega
  have e96:((c:Int)==96)=false:=by rw [beq_eq_false_iff_ne];omega
  have e124:((c:Int)==124)=false:=by rw [beq_eq_false_iff_ne];omega
  have g48:decide ((48:Int)≤c)=false:=by rw [decide_eq_false_iff_not];omega
  have g97:decide ((97:Int)≤c)=false:=by rw [decide_eq_false_iff_not];omega
  have g65:decide ((65:Int)≤c)=false:=by rw [decide_eq_false_iff_not];omega
  have l57:decide (c≤(57:Int))=true:=by rw [decide_eq_true_eq];omega
  have l122:decide (c≤(122:Int))=true:=by rw [decide_eq_true_eq];omega
  have l90:decide (c≤(90:Int))=true:=by rw [decide_eq_true_eq];omega
  clear h0 h1 q0 q8
  go_enter Tryz.func116,Tryz.ntmps116
  go_wp2
  go_ret
  exact⟨ret_int XHC.out.symm,rfl⟩
 by_cases q9:c≤9
 ·have XHC:Hid (classOf c=1):=hide (by unfold classOf;repeat (first|rw [if_pos (by omega)]|rw [if_neg (by omega)]))
  obtain rfl:c=9:=by omega
  clear h0 h1 q0 q8 q9
  go_enter Tryz.func116,Tryz.ntmps116
  go_wp2
  go_ret
  exact⟨ret_int XHC.out.symm,rfl⟩
 by_cases q10:c≤10
 ·have XHC:Hid (classOf c=2):=hide (by unfold classOf;repeat (first|rw [if_pos (by omega)]|rw [if_neg (by omega)]))
  obtain rfl:c=10:=by omega
  clear h0 h1 q0 q8 q9 q10
  go_enter Tryz.func116,Tryz.ntmps116
  go_wp2
  go_ret
  exact⟨ret_int XHC.out.symm,rfl⟩
 by_cases q31:c≤31
 ·have XHC:Hid (classOf c=8):=hide (by unfold classOf;repeat (first|rw [if_pos (by omega)]|rw [if_neg (by omega)]))
  have e0:((c:Int)==0)=false:=by rw [beq_eq_false_iff_ne];omega
  have e9:((c:Int)==9)=false:=by rw [beq_eq_false_iff_ne];omega
  have e10:((c:Int)==10)=false:=by rw [beq_eq_false_iff_ne];omega
  have e32:((c:Int)==32)=false:=by rw [beq_eq_false_iff_ne];omega
  have e34:((c:Int)==34)=false:=by rw [beq_eq_false_iff_ne];omega
  have e36:((c:Int)==36)=false:=by rw [beq_eq_false_iff_ne];omega
  have e38:((c:Int)==38)=false:=by rw [beq_eq_false_iff_ne];omega
  have e39:((c:Int)==39)=false:=by rw [beq_eq_false_iff_ne];omega
  have e40:((c:Int)==40)=false:=by rw [beq_eq_false_iff_ne];omega
  have e41:((c:Int)==41)=false:=by rw [beq_eq_false_iff_ne];omega
  have e59:((c:Int)==59)=false:=by rw [beq_eq_false_iff_ne];omega
  have e60:((c:Int)==60)=false:=by rw [beq_eq_false_iff_ne];omega
  have e62:((c:Int)==62)=false:=by rw [beq_eq_false_iff_ne];omega
  have e92:((c:Int)==92)=false:=by rw [beq_eq_false_iff_ne];omega
  have e95:((c:Int)==95)=false:=by rw [beq_eq_false_iff_ne];omega
  have e96:((c:Int)==96)=false:=by rw [beq_eq_false_iff_ne];omega
  have e124:((c:Int)==124)=false:=by rw [beq_eq_false_iff_ne];omega
  have g48:decide ((48:Int)≤c)=false:=by rw [decide_eq_false_iff_not];omega
  have g97:decide ((97:Int)≤c)=false:=by rw [decide_eq_false_iff_not];omega
  have g65:decide ((65:Int)≤c)=false:=by rw [decide_eq_false_iff_not];omega
  have l57:decide (c≤(57:Int))=true:=by rw [decide_eq_true_eq];omega
  have l122:decide (c≤(122:Int))=true:=by rw [decide_eq_true_eq];omega
  have l90:decide (c≤(90:Int))=true:=by rw [decide_eq_true_eq];omega
  clear h0 h1 q0 q8 q9 q10 q31
  go_enter Tryz.func116,Tryz.ntmps116
  go_wp2
  go_ret
  exact⟨ret_int XHC.out.symm,rfl⟩
 by_cases q32:c≤32
 ·have XHC:Hid (classOf c=1):=hide (by unfold classOf;repeat (first|rw [if_pos (by omega)]|rw [if_neg (by omega)]))
  obtain rfl:c=32:=by omega
  clear h0 h1 q0 q8 q9 q10 q31 q32
  go_enter Tryz.func116,Tryz.ntmps116
  go_wp2
  go_ret
  exact⟨ret_int XHC.out.symm,rfl⟩
 by_cases q33:c≤33
 ·have XHC:Hid (classOf c=8):=hide (by unfold classOf;repeat (first|rw [if_pos (by omega)]|rw [if_neg (by omega)]))
  obtain rfl:c=33:=by omega
  clear h0 h1 q0 q8 q9 q10 q31 q32 q33
  go_enter Tryz.func116,Tryz.ntmps116
  go_wp2
  go_ret
  exact⟨ret_int XHC.out.symm,rfl⟩
 by_cases q34:c≤34
 ·have XHC:Hid (classOf c=6):=hide (by unfold classOf;repeat (first|rw [if_pos (by omega)]|rw [if_neg (by omega)]))
  obtain rfl:c=34:=by omega
  clear h0 h1 q0 q8 q9 q10 q31 q32 q33 q34
  go_enter Tryz.func116,Tryz.ntmps116
  go_wp2
  go_ret
  exact⟨ret_int XHC.out.symm,rfl⟩
 by_cases q35:c≤35
 ·have XHC:Hid (classOf c=8):=hide (by unfold classOf;repeat (first|rw [if_pos (by omega)]|rw [if_neg (by omega)]))
  obtain rfl:c=35:=by omega
  clear h0 h1 q0 q8 q9 q10 q31 q32 q33 q34 q35
  go_enter Tryz.func116,Tryz.ntmps116
  go_wp2
  go_ret
  exact⟨ret_int XHC.out.symm,rfl⟩
 by_cases q36:c≤36
 ·have XHC:Hid (classOf c=7):=hide (by unfold classOf;repeat (first|rw [if_pos (by omega)]|rw [if_neg (by omega)]))
  obtain rfl:c=36:=by omega
  clear h0 h1 q0 q8 q9 q10 q31 q32 q33 q34 q35 q36
  go_enter Tryz.func116,Tryz.ntmps116
  go_wp2
  go_ret
  exact⟨ret_int XHC.out.symm,rfl⟩
 by_cases q37:c≤37
 ·have XHC:Hid (classOf c=8):=hide (by unfold classOf;repeat (first|rw [if_pos (by omega)]|rw [if_neg (by omega)]))
  obtain rfl:c=37:=by omega
  clear h0 h1 q0 q8 q9 q10 q31 q32 q33 q34 q35 q36 q37
  go_enter Tryz.func116,Tryz.ntmps116
  go_wp2
  go_ret
  exact⟨ret_int XHC.out.symm,rfl⟩
 by_cases q38:c≤38
 ·have XHC:Hid (classOf c=5):=hide (by unfold classOf;repeat (first|rw [if_pos (by omega)]|rw [if_neg (by omega)]))
  obtain rfl:c=38:=by omega
  clear h0 h1 q0 q8 q9 q10 q31 q32 q33 q34 q35 q36 q37 q38
  go_enter Tryz.func116,Tryz.ntmps116
  go_wp2
  go_ret
  exact⟨ret_int XHC.out.symm,rfl⟩
 by_cases q39:c≤39
 ·have XHC:Hid (classOf c=6):=hide (by unfold classOf;repeat (first|rw [if_pos (by omega)]|rw [if_neg (by omega)]))
  obtain rfl:c=39:=by omega
  clear h0 h1 q0 q8 q9 q10 q31 q32 q33 q34 q35 q36 q37 q38 q39
  go_enter Tryz.func116,Tryz.ntmps116
  go_wp2
  go_ret
  exact⟨ret_int XHC.out.symm,rfl⟩
 by_cases q40:c≤40
 ·have XHC:Hid (classOf c=5):=hide (by unfold classOf;repeat (first|rw [if_pos (by omega)]|rw [if_neg (by omega)]))
  obtain rfl:c=40:=by omega
  clear h0 h1 q0 q8 q9 q10 q31 q32 q33 q34 q35 q36 q37 q38 q39 q40
  go_enter Tryz.func116,Tryz.ntmps116
  go_wp2
  go_ret
  exact⟨ret_int XHC.out.symm,rfl⟩
 by_cases q41:c≤41
 ·have XHC:Hid (classOf c=5):=hide (by unfold classOf;repeat (first|rw [if_pos (by omega)]|rw [if_neg (by omega)]))
  obtain rfl:c=41:=by omega
  clear h0 h1 q0 q8 q9 q10 q31 q32 q33 q34 q35 q36 q37 q38 q39 q40 q41
  go_enter Tryz.func116,Tryz.ntmps116
  go_wp2
  go_ret
  exact⟨ret_int XHC.out.symm,rfl⟩
 by_cases q47:c≤47
 ·have XHC:Hid (classOf c=8):=hide (by unfold classOf;repeat (first|rw [if_pos (by omega)]|rw [if_neg (by omega)]))
  have e0:((c:Int)==0)=false:=by rw [beq_eq_false_iff_ne];omega
  have e9:((c:Int)==9)=false:=by rw [beq_eq_false_iff_ne];omega
  have e10:((c:Int)==10)=false:=by rw [beq_eq_false_iff_ne];omega
  have e32:((c:Int)==32)=false:=by rw [beq_eq_false_iff_ne];omega
  have e34:((c:Int)==34)=false:=by rw [beq_eq_false_iff_ne];omega
  have e36:((c:Int)==36)=false:=by rw [beq_eq_false_iff_ne];omega
  have e38:((c:Int)==38)=false:=by rw [beq_eq_false_iff_ne];omega
  have e39:((c:Int)==39)=false:=by rw [beq_eq_false_iff_ne];omega
  have e40:((c:Int)==40)=false:=by rw [beq_eq_false_iff_ne];omega
  have e41:((c:Int)==41)=false:=by rw [beq_eq_false_iff_ne];omega
  have e59:((c:Int)==59)=false:=by rw [beq_eq_false_iff_ne];omega
  have e60:((c:Int)==60)=false:=by rw [beq_eq_false_iff_ne];omega
  have e62:((c:Int)==62)=false:=by rw [beq_eq_false_iff_ne];omega
  have e92:((c:Int)==92)=false:=by rw [beq_eq_false_iff_ne];omega
  have e95:((c:Int)==95)=false:=by rw [beq_eq_false_iff_ne];omega
  have e96:((c:Int)==96)=false:=by rw [beq_eq_false_iff_ne];omega
  have e124:((c:Int)==124)=false:=by rw [beq_eq_false_iff_ne];omega
  have g48:decide ((48:Int)≤c)=false:=by rw [decide_eq_false_iff_not];omega
  have g97:decide ((97:Int)≤c)=false:=by rw [decide_eq_false_iff_not];omega
  have g65:decide ((65:Int)≤c)=false:=by rw [decide_eq_false_iff_not];omega
  have l57:decide (c≤(57:Int))=true:=by rw [decide_eq_true_eq];omega
  have l122:decide (c≤(122:Int))=true:=by rw [decide_eq_true_eq];omega
  have l90:decide (c≤(90:Int))=true:=by rw [decide_eq_true_eq];omega
  clear h0 h1 q0 q8 q9 q10 q31 q32 q33 q34 q35 q36 q37 q38 q39 q40 q41 q47
  go_enter Tryz.func116,Tryz.ntmps116
  go_wp2
  go_ret
  exact⟨ret_int XHC.out.symm,rfl⟩
 by_cases q57:c≤57
 ·have XHC:Hid (classOf c=3):=hide (by unfold classOf;repeat (first|rw [if_pos (by omega)]|rw [if_neg (by omega)]))
  have e0:((c:Int)==0)=false:=by rw [beq_eq_false_iff_ne];omega
  have e9:((c:Int)==9)=false:=by rw [beq_eq_false_iff_ne];omega
  have e10:((c:Int)==10)=false:=by rw [beq_eq_false_iff_ne];omega
  have e32:((c:Int)==32)=false:=by rw [beq_eq_false_iff_ne];omega
  have e34:((c:Int)==34)=false:=by rw [beq_eq_false_iff_ne];omega
  have e36:((c:Int)==36)=false:=by rw [beq_eq_false_iff_ne];omega
  have e38:((c:Int)==38)=false:=by rw [beq_eq_false_iff_ne];omega
  have e39:((c:Int)==39)=false:=by rw [beq_eq_false_iff_ne];omega
  have e40:((c:Int)==40)=false:=by rw [beq_eq_false_iff_ne];omega
  have e41:((c:Int)==41)=false:=by rw [beq_eq_false_iff_ne];omega
  have e59:((c:Int)==59)=false:=by rw [beq_eq_false_iff_ne];omega
  have e60:((c:Int)==60)=false:=by rw [beq_eq_false_iff_ne];omega
  have e62:((c:Int)==62)=false:=by rw [beq_eq_false_iff_ne];omega
  have e92:((c:Int)==92)=false:=by rw [beq_eq_false_iff_ne];omega
  have e95:((c:Int)==95)=false:=by rw [beq_eq_false_iff_ne];omega
  have e96:((c:Int)==96)=false:=by rw [beq_eq_false_iff_ne];omega
  have e124:((c:Int)==124)=false:=by rw [beq_eq_false_iff_ne];omega
  have g48:decide ((48:Int)≤c)=true:=by rw [decide_eq_true_eq];omega
  have g97:decide ((97:Int)≤c)=false:=by rw [decide_eq_false_iff_not];omega
  have g65:decide ((65:Int)≤c)=false:=by rw [decide_eq_false_iff_not];omega
  have l57:decide (c≤(57:Int))=true:=by rw [decide_eq_true_eq];omega
  have l122:decide (c≤(122:Int))=true:=by rw [decide_eq_true_eq];omega
  have l90:decide (c≤(90:Int))=true:=by rw [decide_eq_true_eq];omega
  clear h0 h1 q0 q8 q9 q10 q31 q32 q33 q34 q35 q36 q37 q38 q39 q40 q41 q47 q57
  go_enter Tryz.func116,Tryz.ntmps116
  go_wp2
  go_ret
  exact⟨ret_int XHC.out.symm,rfl⟩
 by_cases q58:c≤58
 ·have XHC:Hid (classOf c=8):=hide (by unfold classOf;repeat (first|rw [if_pos (by omega)]|rw [if_neg (by omega)]))
  obtain rfl:c=58:=by omega
  clear h0 h1 q0 q8 q9 q10 q31 q32 q33 q34 q35 q36 q37 q38 q39 q40 q41 q47 q57 q58
  go_enter Tryz.func116,Tryz.ntmps116
  go_wp2
  go_ret
  exact⟨ret_int XHC.out.symm,rfl⟩
 by_cases q59:c≤59
 ·have XHC:Hid (classOf c=5):=hide (by unfold classOf;repeat (first|rw [if_pos (by omega)]|rw [if_neg (by omega)]))
  obtain rfl:c=59:=by omega
  clear h0 h1 q0 q8 q9 q10 q31 q32 q33 q34 q35 q36 q37 q38 q39 q40 q41 q47 q57 q58 q59
  go_enter Tryz.func116,Tryz.ntmps116
  go_wp2
  go_ret
  exact⟨ret_int XHC.out.symm,rfl⟩
 by_cases q60:c≤60
 ·have XHC:Hid (classOf c=5):=hide (by unfold classOf;repeat (first|rw [if_pos (by omega)]|rw [if_neg (by omega)]))
  obtain rfl:c=60:=by omega
  clear h0 h1 q0 q8 q9 q10 q31 q32 q33 q34 q35 q36 q37 q38 q39 q40 q41 q47 q57 q58 q59 q60
  go_enter Tryz.func116,Tryz.ntmps116
  go_wp2
  go_ret
  exact⟨ret_int XHC.out.symm,rfl⟩
 by_cases q61:c≤61
 ·have XHC:Hid (classOf c=8):=hide (by unfold classOf;repeat (first|rw [if_pos (by omega)]|rw [if_neg (by omega)]))
  obtain rfl:c=61:=by omega
  clear h0 h1 q0 q8 q9 q10 q31 q32 q33 q34 q35 q36 q37 q38 q39 q40 q41 q47 q57 q58 q59 q60 q61
  go_enter Tryz.func116,Tryz.ntmps116
  go_wp2
  go_ret
  exact⟨ret_int XHC.out.symm,rfl⟩
 by_cases q62:c≤62
 ·have XHC:Hid (classOf c=5):=hide (by unfold classOf;repeat (first|rw [if_pos (by omega)]|rw [if_neg (by omega)]))
  obtain rfl:c=62:=by omega
  clear h0 h1 q0 q8 q9 q10 q31 q32 q33 q34 q35 q36 q37 q38 q39 q40 q41 q47 q57 q58 q59 q60 q61 q62
  go_enter Tryz.func116,Tryz.ntmps116
  go_wp2
  go_ret
  exact⟨ret_int XHC.out.symm,rfl⟩
 by_cases q64:c≤64
 ·have XHC:Hid (classOf c=8):=hide (by unfold classOf;repeat (first|rw [if_pos (by omega)]|rw [if_neg (by omega)]))
  have e0:((c:Int)==0)=false:=by rw [beq_eq_false_iff_ne];omega
  have e9:((c:Int)==9)=false:=by rw [beq_eq_false_iff_ne];omega
  have e10:((c:Int)==10)=false:=by rw [beq_eq_false_iff_ne];omega
  have e32:((c:Int)==32)=false:=by rw [beq_eq_false_iff_ne];omega
  have e34:((c:Int)==34)=false:=by rw [beq_eq_false_iff_ne];omega
  have e36:((c:Int)==36)=false:=by rw [beq_eq_false_iff_ne];omega
  have e38:((c:Int)==38)=false:=by rw [beq_eq_false_iff_ne];omega
  have e39:((c:Int)==39)=false:=by rw [beq_eq_false_iff_ne];omega
  have e40:((c:Int)==40)=false:=by rw [beq_eq_false_iff_ne];omega
  have e41:((c:Int)==41)=false:=by rw [beq_eq_false_iff_ne];omega
  have e59:((c:Int)==59)=false:=by rw [beq_eq_false_iff_ne];omega
  have e60:((c:Int)==60)=false:=by rw [beq_eq_false_iff_ne];omega
  have e62:((c:Int)==62)=false:=by rw [beq_eq_false_iff_ne];omega
  have e92:((c:Int)==92)=false:=by rw [beq_eq_false_iff_ne];omega
  have e95:((c:Int)==95)=false:=by rw [beq_eq_false_iff_ne];omega
  have e96:((c:Int)==96)=false:=by rw [beq_eq_false_iff_ne];omega
  have e124:((c:Int)==124)=false:=by rw [beq_eq_false_iff_ne];omega
  have g48:decide ((48:Int)≤c)=true:=by rw [decide_eq_true_eq];omega
  have g97:decide ((97:Int)≤c)=false:=by rw [decide_eq_false_iff_not];omega
  have g65:decide ((65:Int)≤c)=false:=by rw [decide_eq_false_iff_not];omega
  have l57:decide (c≤(57:Int))=false:=by rw [decide_eq_false_iff_not];omega
  have l122:decide (c≤(122:Int))=true:=by rw [decide_eq_true_eq];omega
  have l90:decide (c≤(90:Int))=true:=by rw [decide_eq_true_eq];omega
  clear h0 h1 q0 q8 q9 q10 q31 q32 q33 q34 q35 q36 q37 q38 q39 q40 q41 q47 q57 q58 q59 q60 q61 q62 q64
  go_enter Tryz.func116,Tryz.ntmps116
  go_wp2
  go_ret
  exact⟨ret_int XHC.out.symm,rfl⟩
 by_cases q90:c≤90
 ·have XHC:Hid (classOf c=4):=hide (by unfold classOf;repeat (first|rw [if_pos (by omega)]|rw [if_neg (by omega)]))
  have e0:((c:Int)==0)=false:=by rw [beq_eq_false_iff_ne];omega
  have e9:((c:Int)==9)=false:=by rw [beq_eq_false_iff_ne];omega
  have e10:((c:Int)==10)=false:=by rw [beq_eq_false_iff_ne];omega
  have e32:((c:Int)==32)=false:=by rw [beq_eq_false_iff_ne];omega
  have e34:((c:Int)==34)=false:=by rw [beq_eq_false_iff_ne];omega
  have e36:((c:Int)==36)=false:=by rw [beq_eq_false_iff_ne];omega
  have e38:((c:Int)==38)=false:=by rw [beq_eq_false_iff_ne];omega
  have e39:((c:Int)==39)=false:=by rw [beq_eq_false_iff_ne];omega
  have e40:((c:Int)==40)=false:=by rw [beq_eq_false_iff_ne];omega
  have e41:((c:Int)==41)=false:=by rw [beq_eq_false_iff_ne];omega
  have e59:((c:Int)==59)=false:=by rw [beq_eq_false_iff_ne];omega
  have e60:((c:Int)==60)=false:=by rw [beq_eq_false_iff_ne];omega
  have e62:((c:Int)==62)=false:=by rw [beq_eq_false_iff_ne];omega
  have e92:((c:Int)==92)=false:=by rw [beq_eq_false_iff_ne];omega
  have e95:((c:Int)==95)=false:=by rw [beq_eq_false_iff_ne];omega
  have e96:((c:Int)==96)=false:=by rw [beq_eq_false_iff_ne];omega
  have e124:((c:Int)==124)=false:=by rw [beq_eq_false_iff_ne];omega
  have g48:decide ((48:Int)≤c)=true:=by rw [decide_eq_true_eq];omega
  have g97:decide ((97:Int)≤c)=false:=by rw [decide_eq_false_iff_not];omega
  have g65:decide ((65:Int)≤c)=true:=by rw [decide_eq_true_eq];omega
  have l57:decide (c≤(57:Int))=false:=by rw [decide_eq_false_iff_not];omega
  have l122:decide (c≤(122:Int))=true:=by rw [decide_eq_true_eq];omega
  have l90:decide (c≤(90:Int))=true:=by rw [decide_eq_true_eq];omega
  clear h0 h1 q0 q8 q9 q10 q31 q32 q33 q34 q35 q36 q37 q38 q39 q40 q41 q47 q57 q58 q59 q60 q61 q62 q64 q90
  go_enter Tryz.func116,Tryz.ntmps116
  go_wp2
  go_ret
  exact⟨ret_int XHC.out.symm,rfl⟩
 by_cases q91:c≤91
 ·have XHC:Hid (classOf c=8):=hide (by unfold classOf;repeat (first|rw [if_pos (by omega)]|rw [if_neg (by omega)]))
  obtain rfl:c=91:=by omega
  clear h0 h1 q0 q8 q9 q10 q31 q32 q33 q34 q35 q36 q37 q38 q39 q40 q41 q47 q57 q58 q59 q60 q61 q62 q64 q90 q91
  go_enter Tryz.func116,Tryz.ntmps116
  go_wp2
  go_ret
  exact⟨ret_int XHC.out.symm,rfl⟩
 by_cases q92:c≤92
 ·have XHC:Hid (classOf c=6):=hide (by unfold classOf;repeat (first|rw [if_pos (by omega)]|rw [if_neg (by omega)]))
  obtain rfl:c=92:=by omega
  clear h0 h1 q0 q8 q9 q10 q31 q32 q33 q34 q35 q36 q37 q38 q39 q40 q41 q47 q57 q58 q59 q60 q61 q62 q64 q90 q91 q92
  go_enter Tryz.func116,Tryz.ntmps116
  go_wp2
  go_ret
  exact⟨ret_int XHC.out.symm,rfl⟩
 by_cases q94:c≤94
 ·have XHC:Hid (classOf c=8):=hide (by unfold classOf;repeat (first|rw [if_pos (by omega)]|rw [if_neg (by omega)]))
  have e0:((c:Int)==0)=false:=by rw [beq_eq_false_iff_ne];omega
  have e9:((c:Int)==9)=false:=by rw [beq_eq_false_iff_ne];omega
  have e10:((c:Int)==10)=false:=by rw [beq_eq_false_iff_ne];omega
  have e32:((c:Int)==32)=false:=by rw [beq_eq_false_iff_ne];omega
  have e34:((c:Int)==34)=false:=by rw [beq_eq_false_iff_ne];omega
  have e36:((c:Int)==36)=false:=by rw [beq_eq_false_iff_ne];omega
  have e38:((c:Int)==38)=false:=by rw [beq_eq_false_iff_ne];omega
  have e39:((c:Int)==39)=false:=by rw [beq_eq_false_iff_ne];omega
  have e40:((c:Int)==40)=false:=by rw [beq_eq_false_iff_ne];omega
  have e41:((c:Int)==41)=false:=by rw [beq_eq_false_iff_ne];omega
  have e59:((c:Int)==59)=false:=by rw [beq_eq_false_iff_ne];omega
  have e60:((c:Int)==60)=false:=by rw [beq_eq_false_iff_ne];omega
  have e62:((c:Int)==62)=false:=by rw [beq_eq_false_iff_ne];omega
  have e92:((c:Int)==92)=false:=by rw [beq_eq_false_iff_ne];omega
  have e95:((c:Int)==95)=false:=by rw [beq_eq_false_iff_ne];omega
  have e96:((c:Int)==96)=false:=by rw [beq_eq_false_iff_ne];omega
  have e124:((c:Int)==124)=false:=by rw [beq_eq_false_iff_ne];omega
  have g48:decide ((48:Int)≤c)=true:=by rw [decide_eq_true_eq];omega
  have g97:decide ((97:Int)≤c)=false:=by rw [decide_eq_false_iff_not];omega
  have g65:decide ((65:Int)≤c)=true:=by rw [decide_eq_true_eq];omega
  have l57:decide (c≤(57:Int))=false:=by rw [decide_eq_false_iff_not];omega
  have l122:decide (c≤(122:Int))=true:=by rw [decide_eq_true_eq];omega
  have l90:decide (c≤(90:Int))=false:=by rw [decide_eq_false_iff_not];omega
  clear h0 h1 q0 q8 q9 q10 q31 q32 q33 q34 q35 q36 q37 q38 q39 q40 q41 q47 q57 q58 q59 q60 q61 q62 q64 q90 q91 q92 q94
  go_enter Tryz.func116,Tryz.ntmps116
  go_wp2
  go_ret
  exact⟨ret_int XHC.out.symm,rfl⟩
 by_cases q95:c≤95
 ·have XHC:Hid (classOf c=4):=hide (by unfold classOf;repeat (first|rw [if_pos (by omega)]|rw [if_neg (by omega)]))
  obtain rfl:c=95:=by omega
  clear h0 h1 q0 q8 q9 q10 q31 q32 q33 q34 q35 q36 q37 q38 q39 q40 q41 q47 q57 q58 q59 q60 q61 q62 q64 q90 q91 q92 q94 q95
  go_enter Tryz.func116,Tryz.ntmps116
  go_wp2
  go_ret
  exact⟨ret_int XHC.out.symm,rfl⟩
 by_cases q96:c≤96
 ·have XHC:Hid (classOf c=6):=hide (by unfold classOf;repeat (first|rw [if_pos (by omega)]|rw [if_neg (by omega)]))
  obtain rfl:c=96:=by omega
  clear h0 h1 q0 q8 q9 q10 q31 q32 q33 q34 q35 q36 q37 q38 q39 q40 q41 q47 q57 q58 q59 q60 q61 q62 q64 q90 q91 q92 q94 q95 q96
  go_enter Tryz.func116,Tryz.ntmps116
  go_wp2
  go_ret
  exact⟨ret_int XHC.out.symm,rfl⟩
 by_cases q122:c≤122
 ·have XHC:Hid (classOf c=4):=hide (by unfold classOf;repeat (first|rw [if_pos (by omega)]|rw [if_neg (by omega)]))
  have e0:((c:Int)==0)=false:=by rw [beq_eq_false_iff_ne];omega
  have e9:((c:Int)==9)=false:=by rw [beq_eq_false_iff_ne];omega
  have e10:((c:Int)==10)=false:=by rw [beq_eq_false_iff_ne];omega
  have e32:((c:Int)==32)=false:=by rw [beq_eq_false_iff_ne];omega
  have e34:((c:Int)==34)=false:=by rw [beq_eq_false_iff_ne];omega
  have e36:((c:Int)==36)=false:=by rw [beq_eq_false_iff_ne];omega
  have e38:((c:Int)==38)=false:=by rw [beq_eq_false_iff_ne];omega
  have e39:((c:Int)==39)=false:=by rw [beq_eq_false_iff_ne];omega
  have e40:((c:Int)==40)=false:=by rw [beq_eq_false_iff_ne];omega
  have e41:((c:Int)==41)=false:=by rw [beq_eq_false_iff_ne];omega
  have e59:((c:Int)==59)=false:=by rw [beq_eq_false_iff_ne];omega
  have e60:((c:Int)==60)=false:=by rw [beq_eq_false_iff_ne];omega
  have e62:((c:Int)==62)=false:=by rw [beq_eq_false_iff_ne];omega
  have e92:((c:Int)==92)=false:=by rw [beq_eq_false_iff_ne];omega
  have e95:((c:Int)==95)=false:=by rw [beq_eq_false_iff_ne];omega
  have e96:((c:Int)==96)=false:=by rw [beq_eq_false_iff_ne];omega
  have e124:((c:Int)==124)=false:=by rw [beq_eq_false_iff_ne];omega
  have g48:decide ((48:Int)≤c)=true:=by rw [decide_eq_true_eq];omega
  have g97:decide ((97:Int)≤c)=true:=by rw [decide_eq_true_eq];omega
  have g65:decide ((65:Int)≤c)=true:=by rw [decide_eq_true_eq];omega
  have l57:decide (c≤(57:Int))=false:=by rw [decide_eq_false_iff_not];omega
  have l122:decide (c≤(122:Int))=true:=by rw [decide_eq_true_eq];omega
  have l90:decide (c≤(90:Int))=false:=by rw [decide_eq_false_iff_not];omega
  clear h0 h1 q0 q8 q9 q10 q31 q32 q33 q34 q35 q36 q37 q38 q39 q40 q41 q47 q57 q58 q59 q60 q61 q62 q64 q90 q91 q92 q94 q95 q96 q122
  go_enter Tryz.func116,Tryz.ntmps116
  go_wp2
  go_ret
  exact⟨ret_int XHC.out.symm,rfl⟩
 by_cases q123:c≤123
 ·have XHC:Hid (classOf c=8):=hide (by unfold classOf;repeat (first|rw [if_pos (by omega)]|rw [if_neg (by omega)]))
  obtain rfl:c=123:=by omega
  clear h0 h1 q0 q8 q9 q10 q31 q32 q33 q34 q35 q36 q37 q38 q39 q40 q41 q47 q57 q58 q59 q60 q61 q62 q64 q90 q91 q92 q94 q95 q96 q122 q123
  go_enter Tryz.func116,Tryz.ntmps116
  go_wp2
  go_ret
  exact⟨ret_int XHC.out.symm,rfl⟩
 by_cases q124:c≤124
 ·have XHC:Hid (classOf c=5):=hide (by unfold classOf;repeat (first|rw [if_pos (by omega)]|rw [if_neg (by omega)]))
  obtain rfl:c=124:=by omega
  clear h0 h1 q0 q8 q9 q10 q31 q32 q33 q34 q35 q36 q37 q38 q39 q40 q41 q47 q57 q58 q59 q60 q61 q62 q64 q90 q91 q92 q94 q95 q96 q122 q123 q124
  go_enter Tryz.func116,Tryz.ntmps116
  go_wp2
  go_ret
  exact⟨ret_int XHC.out.symm,rfl⟩
 by_cases q255:c≤255
 ·have XHC:Hid (classOf c=8):=hide (by unfold classOf;repeat (first|rw [if_pos (by omega)]|rw [if_neg (by omega)]))
  have e0:((c:Int)==0)=false:=by rw [beq_eq_false_iff_ne];omega
  have e9:((c:Int)==9)=false:=by rw [beq_eq_false_iff_ne];omega
  have e10:((c:Int)==10)=false:=by rw [beq_eq_false_iff_ne];omega
  have e32:((c:Int)==32)=false:=by rw [beq_eq_false_iff_ne];omega
  have e34:((c:Int)==34)=false:=by rw [beq_eq_false_iff_ne];omega
  have e36:((c:Int)==36)=false:=by rw [beq_eq_false_iff_ne];omega
  have e38:((c:Int)==38)=false:=by rw [beq_eq_false_iff_ne];omega
  have e39:((c:Int)==39)=false:=by rw [beq_eq_false_iff_ne];omega
  have e40:((c:Int)==40)=false:=by rw [beq_eq_false_iff_ne];omega
  have e41:((c:Int)==41)=false:=by rw [beq_eq_false_iff_ne];omega
  have e59:((c:Int)==59)=false:=by rw [beq_eq_false_iff_ne];omega
  have e60:((c:Int)==60)=false:=by rw [beq_eq_false_iff_ne];omega
  have e62:((c:Int)==62)=false:=by rw [beq_eq_false_iff_ne];omega
  have e92:((c:Int)==92)=false:=by rw [beq_eq_false_iff_ne];omega
  have e95:((c:Int)==95)=false:=by rw [beq_eq_false_iff_ne];omega
  have e96:((c:Int)==96)=false:=by rw [beq_eq_false_iff_ne];omega
  have e124:((c:Int)==124)=false:=by rw [beq_eq_false_iff_ne];omega
  have g48:decide ((48:Int)≤c)=true:=by rw [decide_eq_true_eq];omega
  have g97:decide ((97:Int)≤c)=true:=by rw [decide_eq_true_eq];omega
  have g65:decide ((65:Int)≤c)=true:=by rw [decide_eq_true_eq];omega
  have l57:decide (c≤(57:Int))=false:=by rw [decide_eq_false_iff_not];omega
  have l122:decide (c≤(122:Int))=false:=by rw [decide_eq_false_iff_not];omega
  have l90:decide (c≤(90:Int))=false:=by rw [decide_eq_false_iff_not];omega
  clear h0 h1 q0 q8 q9 q10 q31 q32 q33 q34 q35 q36 q37 q38 q39 q40 q41 q47 q57 q58 q59 q60 q61 q62 q64 q90 q91 q92 q94 q95 q96 q122 q123 q124 q255
  go_enter Tryz.func116,Tryz.ntmps116
  go_wp2
  go_ret
  exact⟨ret_int XHC.out.symm,rfl⟩
 ·omega
end Go.Proofs.YtalbfonkhpeajaaGreat

/- Items: how two are compared; the library's sort of them. -/
import Derived.Test.YtlpipniclimgeaaGreatDBase
import Derived.Shelf.SlSortCmp.NoneTotal
import Derived.Shelf.SlicesG.Cmp
import Derived.Test.YtlpipniclimgeaaGreatProg
import Derived.Shelf.Strings.Builder1
import Derived.DeepKeys4
import Derived.Maps.OwnOps
import Derived.Deep.Cut
import Derived.Deep.OwnRows
import Derived.Scope
import Derived.WalkMore
import Derived.ScopeJumps
import Derived.Deep.CutRange
import Derived.WalkKit
import Derived.Laws.EntriesVeiled
import Derived.Laws.MakeOwn
namespace Go.Proofs.YtlpipniclimgeaaGreat
set_option linter.unusedVariables false
section
set_option linter.unusedSimpArgs false
open Go.RowKit Go.Shelf Go.Lib Go.Sort
attribute [local irreducible] wpStill wpOne wpPh
end
section
set_option linter.unusedSimpArgs false
open Go.RowKit Go.Shelf Go.Lib Go.Sort
attribute [local irreducible] wpStill wpOne wpPh
end
section
set_option linter.unusedSimpArgs false
open Go.RowKit Go.Shelf Go.Lib Go.Sort
attribute [local irreducible] wpStill wpOne wpPh
end
section
set_option linter.unusedSimpArgs false
open Go.RowKit
attribute [local irreducible] wpStill wpOne wpPh
section
variable {w wr wr' : World} {F : Nat -> Prop} {A1 : Option Addr} {c1 : Nat} {A2 : Option Addr} {c2 : Nat} {A3 : Option Addr} {c3 T N R : Nat} {st : Int} {G : GramD} {vl : Value} {l : List It} {vo : Value} {o : List It}
end
end
section
set_option linter.unusedSimpArgs false
open Go.RowKit Go.Maps
theorem wf_i64_mk {n:Int} (h: -9223372036854775808<=n/\n<=9223372036854775807):(Lit.int .i64 n).wf=true:=by
 simp [Lit.wf,IntKind.min,IntKind.max,IntKind.signed,IntKind.bits]
 omega
noncomputable def ikey (x:It):Lit:=(keyOf Tryz.prog 155 (ItV x)).getD (.bool false)
attribute [irreducible] ikey
end
section
set_option linter.unusedSimpArgs false
open Go.RowKit Go.Maps
attribute [local irreducible] wpStill wpOne wpPh
section
variable {w wr wr' : World} {F : Nat -> Prop} {A1 : Option Addr} {c1 : Nat} {A2 : Option Addr} {c2 : Nat} {A3 : Option Addr} {c3 T N R : Nat} {st : Int} {G : GramD} {vl : Value} {l : List It} {s : Nat} {vo : Value} {o : List It}
end
end
section
set_option linter.unusedSimpArgs false
open Go.RowKit Go.Maps
attribute [local irreducible] wpStill wpOne wpPh
section
variable {w : World} {F : Nat -> Prop} {A1 : Option Addr} {c1 : Nat} {A2 : Option Addr} {c2 : Nat} {A3 : Option Addr} {c3 T N R : Nat} {st : Int} {G : GramD} {vl : Value} {l : List It}
end
end
section
inductive Bg (G:GramD) (st:Int) (s:Int):Int->Prop
 |base:Bg G st s s
 |next (n k m:Int):Bg G st s n->k∈ofOf G n->behindI G st (k,0)=(m,true)->isNon G m=true->Bg G st s m
section
variable {G : GramD} {st s : Int} {done todo : List Int} {all : List It} {n0 : Int} {j : Nat}
end
end
section
section
variable {G : GramD} {st : Int} {kern : List It} {L : List (List It)} {m : Nat}
end
end
section
end
def rgt (G:GramD) (st k:Int):List Int:=(ruleOf G st k).1.2
noncomputable def lnB (G:GramD) (l:List Int) (t:Nat):Bool:=lineB (hasI (topN G) (empB G)) (famI (topN G) (begB G)) l t
noncomputable def emB (G:GramD) (l:List Int):Bool:=l.all (hasI (topN G) (empB G))
structure Co where
 s:Int
 f:Nat->Bool
 self:Bool
section
variable {G : GramD} {st s : Int} {out : List Co} {todo : List Nat} {i0 j : Nat} {x : Int} {xs : Bool}
end
open Go.RowKit
attribute [local irreducible] wpStill wpOne wpPh
end Go.Proofs.YtlpipniclimgeaaGreat
namespace Go.Proofs.YtlpipniclimgeaaGreat
set_option linter.unusedVariables false
section
open Go.RowKit
attribute [local irreducible] wpStill wpOne wpPh
section
variable {w w' : World} {g n m : Nat} {ps : Nat -> Nat} {foot : Nat -> Nat -> Prop} {F : Nat -> Nat -> Bool} {S : Nat -> Prop}
end
end
section
open Go.RowKit
attribute [local irreducible] wpStill wpOne wpPh
end
section
set_option linter.unusedSimpArgs false
open Go.RowKit
attribute [local irreducible] wpStill wpOne wpPh
abbrev PtB (b:Nat):Value:= .pointer (some ⟨b,0,none⟩)
theorem touch_two (W:World) (z:Nat) (u v:Value):Touch (fun k=>k=z) W ((W.setCell ⟨z,0,none⟩ u).setCell ⟨z,1,none⟩ v):=
 ((Touch.refl (fun k=>k=z) W).setCell (p:=⟨z,0,none⟩) (fun _=>rfl) u).setCell (p:=⟨z,1,none⟩) (fun _=>rfl) v
section
variable {w w' : World} {F : Nat -> Prop} {B : Nat} {A1 : Option Addr} {c1 : Nat} {A2 : Option Addr} {c2 : Nat} {A3 : Option Addr} {c3 T N R : Nat} {st : Int} {G : GramD} {vb vs : Value} {m1 m2 : Nat}
end
end
section
set_option linter.unusedSimpArgs false
open Go.RowKit
attribute [local irreducible] wpStill wpOne wpPh
end
section
set_option linter.unusedSimpArgs false
open Go.RowKit Go.Maps
section
variable {w w' : World} {lo g off n c : Nat} {l : List Int}
end
end
section
set_option linter.unusedSimpArgs false
open Go.RowKit Go.Maps
attribute [local irreducible] wpStill wpOne wpPh
section
variable {w w' : World} {lo P n : Nat} {vs : Nat -> Value} {L : Nat -> List It}
end
section
variable {w wr wr' : World} {M g off n c : Nat} {todo : List Int} {va : Value} {all : List It} {met : List Int}
end
end
section
set_option linter.unusedSimpArgs false
open Go.RowKit Go.Maps
attribute [local irreducible] wpStill wpOne wpPh
end
section
set_option linter.unusedSimpArgs false
open Go.RowKit Go.Sort
attribute [local irreducible] wpStill wpOne wpPh
def SmI (x:It):Prop:=(0<=x.1/\x.1<=1000000)/\0<=x.2/\x.2<=1000000
abbrev ItS:={x:It//SmI x}
instance:Inhabited ItS:=⟨⟨(0,0),⟨by simp,by simp⟩,by simp,by simp⟩⟩
end
section
set_option linter.unusedSimpArgs false
open Go.RowKit
attribute [local irreducible] wpStill wpOne wpPh
end
section
set_option linter.unusedSimpArgs false
open Go.RowKit Go.Maps
attribute [local irreducible] wpStill wpOne wpPh
section
variable {w w' : World} {lo P n : Nat} {vs : Nat -> Value} {L : Nat -> List It}
end
end
section
set_option linter.unusedSimpArgs false
open Go.RowKit Go.Maps
section
variable {G : GramD} {st : Int} {l : List It} {k : Nat} {Pl : List It} {met : List Int}
end
section
variable {w w' : World} {lo P n k : Nat} {vs : Nat -> Value} {L : Nat -> List It}
end
end
section
set_option linter.unusedSimpArgs false
open Go.RowKit Go.Maps
attribute [local irreducible] wpStill wpOne wpPh
section
variable {w wr wr' : World} {B P n : Nat} {G : GramD} {st : Int} {Pl : List It} {met : List Int}
end
end
section
set_option linter.unusedSimpArgs false
open Go.RowKit Go.Maps
theorem Tryz.strKeyd:Keyed Tryz.prog 9:=Maps.string_keyed Tryz.underlying9
abbrev PaV (i s:Int):Value:= .agg #[.int .i64 i,.int .i64 s]
noncomputable def pkey (i s:Int):Lit:=(keyOf Tryz.prog 143 (PaV i s)).getD (.bool false)
attribute [irreducible] pkey
end
section
set_option linter.unusedSimpArgs false
open Go.RowKit Go.Maps
section
variable {w w' : World} {lo : Nat} {X : Nat -> Prop} {v : Value} {Z : List (Value × Value)} {D : List (List It × List It)}
end
end
section
set_option linter.unusedSimpArgs false
open Go.RowKit Go.Maps
attribute [local irreducible] wpStill wpOne wpPh
section
variable {w0 w w' : World} {F : Nat -> Prop} {B : Nat} {A1 : Option Addr} {c1 : Nat} {A2 : Option Addr} {c2 : Nat} {A3 : Option Addr} {c3 T N R : Nat} {st : Int} {G : GramD} {vb vs : Value} {m1 m2 : Nat} {Z : List (Value × Value)} {L Tm : List (List It)}
end
end
section
set_option linter.unusedSimpArgs false
open Go.RowKit Go.Maps
section
variable {w w' : World} {F F' : Nat -> Prop} {v : Value} {D : List (List It × List It)}
end
section
variable {w0 w w' : World} {F : Nat -> Prop} {B : Nat} {A1 : Option Addr} {c1 : Nat} {A2 : Option Addr} {c2 : Nat} {A3 : Option Addr} {c3 T N R : Nat} {st : Int} {G : GramD} {vb vs : Value} {m1 m2 : Nat} {Z : List (Value × Value)} {L Tm Tm' : List (List It)}
end
end
set_option linter.unusedSimpArgs false
section
open Go.RowKit
attribute [local irreducible] wpStill wpOne wpPh
structure StL (J:Nat->Prop) (V:World) (ow:Nat->Nat) (V':World) (ow':Nat->Nat):Prop where
 t:Touch (fun b=>J (ow b)) V V'
 eq: ∀b,b<V.heap.size->ow' b=ow b
def ext (V:World) (ow:Nat->Nat) (i:Nat):Nat->Nat:=fun b=>if b<V.heap.size then ow b else i
theorem ext_old {V:World} {ow:Nat->Nat} {i b:Nat} (h:b<V.heap.size):ext V ow i b=ow b:=if_pos h
theorem ext_new {V:World} {ow:Nat->Nat} {i b:Nat} (h:V.heap.size<=b):ext V ow i b=i:=if_neg (by omega)
section
variable {J J' : Nat -> Prop} {V V' V'' : World} {ow ow' ow'' : Nat -> Nat} {i : Nat}
theorem StL.refl (J:Nat->Prop) (V:World) (ow:Nat->Nat):StL J V ow V ow:=⟨Touch.refl _ _,fun _ _=>rfl⟩
theorem StL.trans (h:StL J V ow V' ow') (g:StL J V' ow' V'' ow''):StL J V ow V'' ow'':=
 ⟨h.t.trans g.t (fun b hb hj=>by rw [h.eq b hb]at hj;exact hj),fun b hb=>(g.eq b (Nat.lt_of_lt_of_le hb h.t.size)).trans (h.eq b hb)⟩
theorem StL.mono (h:StL J V ow V' ow') (hJ: ∀i,J i->J' i):StL J' V ow V' ow':=⟨h.t.mono fun b _ hb=>hJ _ hb,h.eq⟩
theorem StL.new (J:Nat->Prop) (b:Below V.heap.size V V') (ow:Nat->Nat) (i:Nat):StL J V ow V' (ext V ow i):=⟨Touch.of_size b _,fun b hb=>ext_old hb⟩
theorem StL.ext (t:Touch (fun b=>J (ow b)) V V') (i:Nat):StL J V ow V' (ext V ow i):=⟨t,fun b hb=>ext_old hb⟩
theorem StL.size (h:StL J V ow V' ow'):V.heap.size<=V'.heap.size:=h.t.size
def TF (V:World) (ow:Nat->Nat) (I:Nat->Prop) (b:Nat):Prop:=b<V.heap.size/\I (ow b)
theorem TF.step {I:Nat->Prop} (s:StL J V ow V' ow') {b:Nat} (h:TF V ow I b):TF V' ow' I b:=⟨Nat.lt_of_lt_of_le h.1 s.size,by rw [s.eq b h.1];exact h.2⟩
theorem TF.out {I:Nat->Prop} (hI: ∀i,I i-> ¬J i) {b:Nat} (h:TF V ow I b): ¬J (ow b):=hI _ h.2
theorem Rd.step {I:Nat->Prop} {v:Value} {size:Nat} {xs:List Value} (h:Rd V (TF V ow I) v size xs) (s:StL J V ow V' ow') (hI: ∀i,I i-> ¬J i):Rd V' (TF V' ow' I) v size xs:=
 (h.touch s.t (fun b hb=>hb.out hI)).mono (fun b hb=>hb.step s)
end
structure Row (V:World) (ow:Nat->Nat) (i:Nat) (e:TypeId) (size:Nat) (A:Option Addr) (n c:Nat) (xs:List Value):Prop where
 own:V.ownsRow 0 e size (.slice A n c) n xs
 tag: ∀g,(Value.slice A n c).ownBlock=some g->ow g=i
section
variable {J : Nat -> Prop} {V V' : World} {ow ow' : Nat -> Nat} {i : Nat} {e : TypeId} {size : Nat} {A : Option Addr} {n c : Nat} {xs : List Value}
theorem Row.nil (V:World) (ow:Nat->Nat) (i:Nat) (e:TypeId) (size:Nat):Row V ow i e size none 0 0 []:=⟨World.ownsRow_nil _ _ _ _,fun g h=>by simp [Value.ownBlock]at h⟩
theorem Row.step (h:Row V ow i e size A n c xs) (s:StL J V ow V' ow') (hi: ¬J i):Row V' ow' i e size A n c xs:=
 ⟨s.t.own h.own (fun g hg=>by rw [h.tag g hg];exact hi),fun g hg=>(s.eq g (h.own.lt g hg).2).trans (h.tag g hg)⟩
theorem Row.rd (h:Row V ow i e size A n c xs):Rd V (TF V ow (fun j=>j=i)) (.slice A n c) size xs:=(Rd.of_own h.own).mono fun g hg=>⟨(h.own.lt g hg).2,h.tag g hg⟩
theorem Row.app {m c':Nat} {A':Option Addr} {news:List Value} (h:Row V ow i e size A n c xs) (own:V'.ownsRow 0 e size (.slice A' (n+m) c') (n+m) (xs++news)) (g:V.grownBy V' (Value.slice A n c).ownBlock) (hb:(Value.slice A' (n+m) c').ownBlock=(Value.slice A n c).ownBlock\/(Value.slice A' (n+m) c').ownBlock=some V.heap.size):
  Row V' (ext V ow i) i e size A' (n+m) c' (xs++news)/\StL (fun j=>j=i) V ow V' (ext V ow i):=by
 refine⟨⟨own,fun k hk=> ?_⟩,StL.ext ((Touch.refl _ _).grown g (fun k hk _=>h.tag k hk)) i⟩
 rcases hb with hb|hb
 ·rw [hb]at hk
  rw [ext_old (h.own.lt k hk).2]
  exact h.tag k hk
 ·rw [hb]at hk
  injection hk with hk
  exact ext_new (Nat.le_of_eq hk)
end
structure Rows (V:World) (ow:Nat->Nat) (i:Nat) (e:TypeId) (size P n:Nat) (vs:Nat->Value) (xs:Nat->List Value):Prop where
 cell: ∀k,k<n->V.cell? ⟨P,k,none⟩=some (vs k)
 frz: ∀k,k<n->V.frozen? ⟨P,k,none⟩=false
 own: ∀k,k<n-> ∃m,V.ownsRow 0 e size (vs k) m (xs k)
 apart: ∀k l b,k<n->l<n->(vs k).ownBlock=some b->(vs l).ownBlock=some b->k=l
 tag: ∀k b,k<n->(vs k).ownBlock=some b->ow b=i/\b≠P
 hP:P<V.heap.size/\ow P=i
section
variable {J : Nat -> Prop} {V V' : World} {ow ow' : Nat -> Nat} {i : Nat} {e : TypeId} {size P n : Nat} {vs : Nat -> Value} {xs : Nat -> List Value}
end
section
variable {J : Nat -> Prop} {V V' : World} {ow ow' : Nat -> Nat} {F F' : Nat -> Prop} {m : Nat} {p : Value} {f : Nat -> Bool}
end
structure Tl where
 f:Nat->Bool
 em:Bool
structure Ed where
 tq9:Int
 at_:Nat
 f:Nat->Bool
 self:Bool
section
variable {J I : Nat -> Prop} {V V' : World} {ow ow' : Nat -> Nat} {m : Nat} {z : Value}
end
end
section
open Go.RowKit
attribute [local irreducible] wpStill wpOne wpPh
section
variable {J : Nat -> Prop} {V V' : World} {ow ow' : Nat -> Nat} {A : Option Addr} {c m n : Nat}
end
structure LQ:Type where
 M:Nat
 ow:Nat->Nat
 Fg:Nat->Prop
 A1:Option Addr
 c1:Nat
 A2:Option Addr
 c2:Nat
 A3:Option Addr
 c3:Nat
 Al:Option Addr
 cl:Nat
 Ar:Option Addr
 cr:Nat
 At:Option Addr
 ct:Nat
 vu:Value
 vc:Value
 Ab:Option Addr
 cb:Nat
 Aa:Option Addr
 ca:Nat
 ps:Nat->Nat
 foot:Nat->Nat->Prop
 Ae:Option Addr
 ce:Nat
 Pf:Nat
structure LD:Type where
 G:GramD
 st:Int
 D:List (List It×List It)
 rs:List (List Int)
 tl:List (List Tl)
 nu:Nat
 ru:Nat->List Int
 nc:Nat
 cm:Nat->List Co
 ba:List Int
structure Dy:Type where
 na:Nat
 F:Nat->Nat->Bool
 ed:List Ed
 fi:Nat->List (Int×Nat)
section
variable {J : Nat -> Prop} {V V' : World} {q : LQ} {d : LD} {y : Dy} {ow' : Nat -> Nat}
end
end
end Go.Proofs.YtlpipniclimgeaaGreat
namespace Go.Proofs.YtlpipniclimgeaaGreat
set_option linter.unusedVariables false
section
set_option linter.unusedSimpArgs false
open Go.RowKit
attribute [local irreducible] wpStill wpOne wpPh
end
section
set_option linter.unusedSimpArgs false
open Go.RowKit
attribute [local irreducible] wpStill wpOne wpPh
end
section
set_option linter.unusedSimpArgs false
open Go.RowKit
attribute [local irreducible] wpStill wpOne wpPh
def wayTo (t:List It) (s:Int):Int:=match t.find? (fun x=>decide (x.1=s))with|some x=>x.2|none=> -1
def gotoD (D:List (List It×List It)) (i s:Int):Int:=if i<0\/(D.length:Int)<=i then -1 else match D[i.toNat]? with|some d=>wayTo d.2 s|none=> -1
end
section
set_option linter.unusedSimpArgs false
open Go.RowKit
attribute [local irreducible] wpStill wpOne wpPh
end
section
set_option linter.unusedSimpArgs false
open Go.RowKit
attribute [local irreducible] wpStill wpOne wpPh
end
set_option linter.unusedSimpArgs false
open Go.RowKit
attribute [local irreducible] wpStill wpOne wpPh
section
variable {V : World} {q : LQ} {d : LD} {y : Dy}
end
section
variable {V : World} {q : LQ} {d : LD} {y : Dy}
end
section
variable {V : World}
end
open Classical in
section
variable {V : World} {q : LQ} {d : LD} {y : Dy}
end
end Go.Proofs.YtlpipniclimgeaaGreat
namespace Go.Proofs.YtlpipniclimgeaaGreat
set_option linter.unusedVariables false
set_option linter.unusedSimpArgs false
open Go.RowKit Go.Maps
attribute [local irreducible] wpStill wpOne wpPh
theorem up_cell {V W:World} (b:Below V.heap.size V W) {a:Addr} {v:Value} (h:V.cell? a=some v):W.cell? a=some v:=(b.cell (World.block_lt_of_cell? _ _ h)).trans h
end Go.Proofs.YtlpipniclimgeaaGreat
namespace Go.Proofs.YtlpipniclimgeaaGreat
set_option linter.unusedVariables false
open Go.RowKit
attribute [local irreducible] wpStill wpOne wpPh
structure FD:Type where
 (s T p n pe:Nat)
 Se:Nat->Prop
 (gb cb:Nat)
 psb:Nat->Nat
 fb:Nat->Nat->Prop
 (gh ch:Nat)
 psh:Nat->Nat
 fh:Nat->Nat->Prop
 (z0 z1 z2 z3:Nat)
section
variable {w w' : World} {q : FD} {e e' : Nat -> Bool} {bg bh : Nat -> Nat -> Bool} {S : Nat -> Prop}
end
section
variable {w wr wr' : World} {F : Nat -> Prop} {A1 : Option Addr} {c1 : Nat} {A2 : Option Addr} {c2 : Nat} {A3 : Option Addr} {c3 T N R : Nat} {st : Int} {G : GramD} {q : FD} {e e' : Nat -> Bool} {bg bh bg' bh' : Nat -> Nat -> Bool} {S : Nat -> Prop}
end
section
variable {w wr wr' W : World} {F : Nat -> Prop} {A1 : Option Addr} {c1 : Nat} {A2 : Option Addr} {c2 : Nat} {A3 : Option Addr} {c3 T N R : Nat} {st : Int} {G : GramD} {b : Nat} {S : Nat -> Prop} {n z : Nat} {f f' : Nat -> Bool} {A : Option Addr} {m c : Nat} {td : List Int} {y y' : Nat} {vl : Value} {ls : List Int}
end
set_option linter.unusedSimpArgs false
section
variable {V V' : World} {ow : Nat -> Nat} {A A' : Option Addr} {c c' m : Nat}
end
section
variable {V V' w1 : World} {q : LQ} {d : LD} {y : Dy} {J : Nat -> Prop}
end
end Go.Proofs.YtlpipniclimgeaaGreat
namespace Go.Proofs.YtlpipniclimgeaaGreat
set_option linter.unusedVariables false
set_option linter.unusedSimpArgs false
abbrev Sts0:=List (List It×List It)
def restI (G:GramD) (st:Int) (x:It):List Int:=(rgt G st x.1).drop (x.2.toNat+1)
inductive LA (G:GramD) (st:Int) (D:Sts0):Nat->It->Nat->Prop
 |start:LA G st D 0 ((G.rules.length:Int),0) 0
 |step (i j:Nat) (x:It) (s:Int) (t:Nat):LA G st D i x t->behindI G st x=(s,true)->gotoD D i s=(j:Int)->LA G st D j (x.1,x.2+1) t
 |close (i:Nat) (x:It) (s k:Int) (t u:Nat):LA G st D i x t->behindI G st x=(s,true)->isNon G s=true->k∈ofOf G s->lnB G (restI G st x) u=true->LA G st D i (k,0) u
 |pass (i:Nat) (x:It) (s k:Int) (t:Nat):LA G st D i x t->behindI G st x=(s,true)->isNon G s=true->k∈ofOf G s->emB G (restI G st x)=true->LA G st D i (k,0) t
section
variable {G : GramD} {st : Int} {D : Sts0} {i : Nat} {x : It} {s : Int} {u0 : Nat}
end
def preD (D:Sts0) (i:Nat):Nat:=((D.take i).map fun e=>e.1.length).sum
def KP (D:Sts0) (p i:Nat) (x:It):Prop:= ∃(e:List It×List It) (m:Nat),D[i]? =some e/\e.1[m]? =some x/\p=preD D i+m
abbrev Fin0:=Nat->List (Int×Nat)
def Pl (D:Sts0) (fi:Fin0) (p i:Nat) (x:It):Prop:=KP D p i x\/ ∃k,x=(k,0)/\(k,p)∈fi i
section
variable {G : GramD} {st : Int} {D : Sts0} {fi fi' : Fin0} {na : Nat} {ed ed' : List Ed} {cm : Nat -> List Co}
def EA (D:Sts0) (e:Ed) (i:Nat) (x:It) (s:Int):Prop:=e.f=noBits/\e.self=true/\ ∃j p:Nat,gotoD D i s=(j:Int)/\e.tq9=(p:Int)/\KP D p j (x.1,x.2+1)
end
end Go.Proofs.YtlpipniclimgeaaGreat
namespace Go.Proofs.YtlpipniclimgeaaGreat
set_option linter.unusedVariables false
attribute [local irreducible] wpStill
section
variable {P : Program} {ops : Array Oper} {md : Region.Mode} {S : World -> Prop} {Q : Exit -> Act -> World -> Prop}
def pickO (l:List Oper):List Nat->List Oper
 |[]=>[]
 |i::t=>match l[i]? with|some o=>o::pickO l t|none=>pickO l t
def setL:List Nat->Array Bool->Array Bool
 |[],listed=>listed
 |k::t,listed=>setL t (listed.setIfInBounds k true)
def rdLB (md:Region.Mode) (ops:Array Oper):List Nat->Array Bool->Bool
 |[],_=>true
 |k::t,listed=>(Region.ready md ops listed).contains k&&Region.free md ops listed k&&rdLB md ops t (listed.setIfInBounds k true)
def alLB (md:Region.Mode) (ops:Array Oper):List Nat->Array Bool->Bool
 |[],_=>true
 |k::t,listed=>decide (Region.ready md ops listed=[k])&&alLB md ops t (listed.setIfInBounds k true)
def late2B (ops:Array Oper) (rs ms:List Nat) (m:Nat):Bool:=
 Region.noSelect ops&&decide (m<ops.size)&&decide (rs.length+ms.length=m)&&rs.all (fun i=>decide (i<m))&&ms.all (fun i=>decide (i<m))&&sinkS .any ops 0 m&&depB .any ops m&&rdLB .any ops rs (Array.replicate ops.size false)&&alLB .any ops ms (setL rs (Array.replicate ops.size false))&&
  decide (Region.ready .any ops (setL ms (setL rs (Array.replicate ops.size false)))=[m])&&Region.seqB .any ops (ops.size - m) m (setL ms (setL rs (Array.replicate ops.size false)))
theorem wpHd_midL {m:Nat} {rest l0:List Oper} {l2:Array Bool} (hm:m<=l0.length): ∀(ms:List Nat) (listed:Array Bool) (a:Act) (w:World),ms.all (fun i=>decide (i<m))=true->setL ms listed=l2->alLB md l0.toArray ms listed=true->
  wpMid P l0.toArray Q S rest (pickO l0 ms) a w->wpHd P md l0.toArray Q S m (fun listed' a' w'=>listed'=l2/\wpList P l0.toArray Q rest a' w') ms.length listed a w
 |[],listed,a,w,_,he,_,h=>⟨he,h⟩
 |k::t,listed,a,w,hk,he,hB,h=>by
  simp only [List.all_cons,Bool.and_eq_true,decide_eq_true_eq]at hk
  simp only [alLB,Bool.and_eq_true,decide_eq_true_eq]at hB
  have h0:l0[k]? =some l0[k]:=List.getElem?_eq_getElem (by omega)
  have hp:pickO l0 (k::t)=l0[k]::pickO l0 t:=by
   show(match l0[k]? with|some o=>o::pickO l0 t|none=>pickO l0 t)=_
   rw [h0]
  rw [hp]at h
  refine⟨fun e=>(by rw [hB.1]at e;cases e),fun j hj=> ?_⟩
  rw [hB.1]at hj
  have:j=k:=by simpa using hj
  subst this
  refine⟨hk.1,wpOp_of_one (by simp) (fun a2 w2 h2=>⟨h2.1,?_⟩) h⟩
  exact wpHd_midL hm t _ a2 w2 hk.2 he hB.2 h2.2
theorem wpHd_heldL {m r:Nat} {l0:List Oper} {L:Array Bool->Act->World->Prop} {w:World} (hsel:Region.noSelect l0.toArray=true) (hQ: ∀c a a' w,Q (.panic c) a w->Q (.panic c) a' w) (hs:sinkS md l0.toArray 0 m=true) (hc:depB md l0.toArray m=true) (hm:m<l0.toArray.size)
  (hdone: ∀listed a w,L listed a w-> ∀j∈Region.ready md l0.toArray listed,m<=j) (hS:S w) {l2:Array Bool}:
  ∀(rs:List Nat) (listed:Array Bool) (a:Act),rs.all (fun i=>decide (i<m))=true->HeadInv md l0.toArray m listed->setL rs listed=l2->rdLB md l0.toArray rs listed=true->
   wpHeld P l0.toArray S (fun a'=>wpHd P md l0.toArray Q S m L r l2 a' w) (pickO l0 rs) a->wpHd P md l0.toArray Q S m L (rs.length+r) listed a w
 |[],listed,a,_,_,he,_,h=>by
  have he':listed=l2:=he
  subst he'
  rw [List.length_nil,Nat.zero_add]
  exact h
 |k::t,listed,a,hk,inv,he,hB,h=>by
  simp only [List.all_cons,Bool.and_eq_true,decide_eq_true_eq]at hk
  simp only [rdLB,Bool.and_eq_true]at hB
  have hkl:k<l0.length:=by have:m<l0.length:=(by simpa using hm);omega
  have h0:l0[k]? =some l0[k]:=List.getElem?_eq_getElem hkl
  have hp:pickO l0 (k::t)=l0[k]::pickO l0 t:=by
   show(match l0[k]? with|some o=>o::pickO l0 t|none=>pickO l0 t)=_
   rw [h0]
  rw [hp]at h
  obtain⟨⟨hr,hf⟩,hB'⟩:=hB
  obtain⟨v,hy,hK⟩:=h
  have h0':l0.toArray[k]? =some l0[k]:=by simp
  have hr':k∈Region.ready md l0.toArray listed:=by simpa using hr
  rw [List.length_cons,show t.length+1+r=(t.length+r)+1 by omega]
  refine wpHd_first h0' (Region.noSelect_spec hsel) (fun c a w h=>hQ c _ _ w h) hs hc hm hk.1 hdone _ listed a w inv (Region.free_spec h0' hf) hr' hy hS ?_
  exact wpHd_heldL hsel hQ hs hc hm hdone hS t _ _ hk.2 (inv.set hr' hk.1) he hB' hK
end
theorem wpHeld_off {P:Program} {ops:Array Oper} {S:World->Prop} {K:Act->Prop} {a:Act} {o:Oper} {t:List Oper} (hw:Region.wanted o (yielded ops a.tmps)=false) (h:wpHeld P ops S K t (a.put o.dst undef)):wpHeld P ops S K (o::t) a:=⟨undef,.inr ⟨hw,rfl⟩,h⟩
theorem region_late2 {P:Program} {id:Nat} {Q:Exit->Act->World->Prop} {a:Act} {w:World} {l:List Oper} (S:World->Prop) (rs ms:List Nat) (m:Nat) (hm:P.follows .mixedOrders=true) (hB:late2B l.toArray rs ms m=true) (hS:S w.drew)
  (h:wpHeld P l.toArray S (fun a'=>wpMid P l.toArray (NoPanic Q) S (l.drop m) (pickO l ms) a' w.drew) (pickO l rs) a):(Code.region id l.toArray true).wp P Q a w:=by
 refine wp_region_noPanic ?_
 simp only [late2B,Bool.and_eq_true,decide_eq_true_eq]at hB
 obtain⟨⟨⟨⟨⟨⟨⟨⟨⟨⟨hsel,hms⟩,hlen⟩,hr1⟩,hm1⟩,hsk⟩,hdp⟩,hrd⟩,hal⟩,hrl⟩,hsq⟩:=hB
 have hms':m<l.length:=by simpa using hms
 refine wp_region_any hm ?_
 have inv0:HeadInv .any l.toArray m (Array.replicate l.toArray.size false):=
  ⟨by simp,fun j oj _ hl=>(by rw [getD_replicate_false]at hl;cases hl),fun t _ ht=>getD_in (by simpa using ht) (getD_replicate_false _ _)⟩
 have hL: ∀(listed:Array Bool) (a:Act) (w:World),(listed=setL ms (setL rs (Array.replicate l.toArray.size false))/\wpList P l.toArray (NoPanic Q) (l.drop m) a w)->wpAny P .any l.toArray (NoPanic Q) (l.drop m).length listed a w:=fun listed a w h=>by
  obtain⟨rfl,h⟩:=h
  refine wpAny_of_seq (l.drop m) m _ a w (fun j=>by rw [List.getElem?_drop];simp) ?_ h
  rw [show(l.drop m).length=l.toArray.size - m by simp]
  exact hsq
 have H:=wpHd_heldL (md:= .any) (P:=P) (Q:=NoPanic Q) (S:=S) (w:=w.drew) (m:=m) (r:=ms.length) (L:=fun listed a w=>listed=setL ms (setL rs (Array.replicate l.toArray.size false))/\wpList P l.toArray (NoPanic Q) (l.drop m) a w) hsel (fun c a a' w h=>h) hsk hdp hms
  (fun listed a w hl j hj=>by rw [hl.1,hrl]at hj;have:j=m:=(by simpa using hj);omega) hS rs (Array.replicate l.toArray.size false) a hr1 inv0 rfl hrd (by
   have mono: ∀(l':List Oper) (a:Act) (K K':Act->Prop),(∀a,K a->K' a)->wpHeld P l.toArray S K l' a->wpHeld P l.toArray S K' l' a:=by
    intro l'
    induction l' with
    |nil=>intro a K K' hk h;exact hk a h
    |cons o t ih=>intro a K K' hk h;obtain⟨v,h1,h2⟩:=h;exact⟨v,h1,ih _ K K' hk h2⟩
   refine mono _ _ _ _ (fun a' h'=> ?_) h
   exact wpHd_midL (md:= .any) (l2:=setL ms (setL rs (Array.replicate l.toArray.size false))) (by omega) ms (setL rs (Array.replicate l.toArray.size false)) a' w.drew hm1 rfl hal h')
 have:=wpAny_of_hd hL _ _ _ _ H
 rw [hlen,show m+(l.drop m).length=l.toArray.size by simp;omega]at this
 exact this
end Go.Proofs.YtlpipniclimgeaaGreat
namespace Go.Proofs.YtlpipniclimgeaaGreat
set_option linter.unusedVariables false
set_option linter.unusedSimpArgs false
open Go.RowKit Go.Maps
attribute [local irreducible] wpStill wpOne wpPh
section
variable {V : World} {ow : Nat -> Nat} {M : Nat} {L : List (Nat × TypeId × Array Value)} {Sx : List (Value × (Nat -> Bool))} {d : LD} {w w' : World} {q q' : LQ} {y y' : Dy} {J : Nat -> Prop}
end
abbrev Lk:=Int×List Int
section
variable {V V' : World} {F F' S : Nat -> Prop} {v : Value} {L : List Lk}
end
section
variable {base n b : Nat} {w w1 w2 w3 : World} {A A' : Option Addr} {c c' : Nat} {L : List Lk} {Z : List Value}
end
section
variable {D : Sts0} {fi : Fin0} {i : Nat} {ln : Int -> Int} {its : List It} {j j' : Nat} {f : Int -> Option Int}
end
end Go.Proofs.YtlpipniclimgeaaGreat
namespace Go.Proofs.YtlpipniclimgeaaGreat
set_option linter.unusedVariables false
section
set_option linter.unusedSimpArgs false
open Go.RowKit
attribute [local irreducible] wpStill wpOne wpPh
end
section
set_option linter.unusedSimpArgs false
open Go.RowKit
attribute [local irreducible] wpStill wpOne wpPh
end
set_option linter.unusedSimpArgs false
open Go.RowKit Go.Maps
attribute [local irreducible] wpStill wpOne wpPh
def d0 (G:GramD) (st:Int) (D:Sts0):LD:=⟨G,st,D,[],[],0,fun _=>[],0,fun _=>[],[]⟩
def y0 (n:Nat):Dy:=⟨n,fun _=>noBits,[],fun _=>[]⟩
section
variable {V V' : World} {F F' S : Nat -> Prop} {v : Value} {LL : List (List Lk)}
end
section
variable {base n b : Nat} {w w1 w2 w3 : World} {A A' : Option Addr} {c c' : Nat} {LL : List (List Lk)} {Z : List Value}
end
end Go.Proofs.YtlpipniclimgeaaGreat
namespace Go.Proofs.YtlpipniclimgeaaGreat
set_option linter.unusedVariables false
set_option linter.unusedSimpArgs false
open Go.RowKit
theorem three {P:Nat->Prop} (h0:P 0) (h1:P 1) (h2:P 2): ∀k:Nat,k<3->P k:=fun k hk=>by
 rcases k with _|_|_|k
 ·exact h0
 ·exact h1
 ·exact h2
 ·omega
end Go.Proofs.YtlpipniclimgeaaGreat
namespace Go.Proofs.YtlpipniclimgeaaGreat
set_option linter.unusedVariables false
structure FoundD where
 is:Bool
 long:Bool
 l:List Int
open Go.RowKit
attribute [local irreducible] wpStill wpOne wpPh
end Go.Proofs.YtlpipniclimgeaaGreat
namespace Go.Proofs.YtlpipniclimgeaaGreat
set_option linter.unusedVariables false
section
open Go.RowKit
attribute [local irreducible] wpStill wpOne wpPh
section
variable {w w' : World} {F : Nat -> Prop} {b g : Nat} {S : List FoundD}
end
end
section
open Go.RowKit
attribute [local irreducible] wpStill wpOne wpPh
end
section
open Go.RowKit
end
section
open Go.RowKit
attribute [local irreducible] wpStill wpOne wpPh
section
variable {w wr wr' : World} {F : Nat -> Prop} {A1 : Option Addr} {c1 : Nat} {A2 : Option Addr} {c2 : Nat} {A3 : Option Addr} {c3 T N R : Nat} {st : Int} {G : GramD} {gz zo : Nat} {S : List FoundD}
end
end
section
open Go.RowKit
attribute [local irreducible] wpStill wpOne wpPh
section
variable {w w' : World} {F : Nat -> Prop} {b gl gi gm : Nat} {S : List FoundD}
end
end
section
open Go.RowKit
attribute [local irreducible] wpStill wpOne wpPh
end
section
open Go.RowKit
attribute [local irreducible] wpStill wpOne wpPh
section
variable {w : World} {F : Nat -> Prop} {b gl gi gm : Nat} {S : List FoundD} {k : Nat} {x : FoundD}
end
end
section
open Go.RowKit
attribute [local irreducible] wpStill wpOne wpPh
section
variable {w w' : World} {b m : Nat} {f g : Nat -> Bool} {S : Nat -> Prop}
end
section
variable {w w' : World} {g n m : Nat} {ps : Nat -> Nat} {F F' : Nat -> Nat -> Bool} {S : Nat -> Prop}
end
end
section
open Go.RowKit
attribute [local irreducible] wpStill wpOne wpPh
structure RD:Type where
 (s gi gb cb gh ch n m z:Nat)
 psb:Nat->Nat
 psh:Nat->Nat
 A1:Option Addr
 (T c1:Nat)
 A2:Option Addr
 (N c2:Nat)
 A3:Option Addr
 (R c3:Nat)
 st:Int
 F:Nat->Prop
section
variable {w w' : World} {q : RD} {G : GramD} {e e' : Nat -> Bool} {bg bh : Nat -> Nat -> Bool} {S : Nat -> Prop}
end
end
open Go.RowKit
attribute [local irreducible] wpStill wpOne wpPh
section
variable {w wr wr' : World} {F : Nat -> Prop} {A1 : Option Addr} {c1 : Nat} {A2 : Option Addr} {c2 : Nat} {A3 : Option Addr} {c3 T N R : Nat} {st : Int} {G : GramD} {q : RD} {e e' : Nat -> Bool} {bg bh bg' bh' : Nat -> Nat -> Bool} {S : Nat -> Prop}
end
def eT (j:Nat):Bool:=decide (j=4)
def bT (i t:Nat):Bool:=decide (t=i/\i<=2)||decide (i=3/\(t=1\/t=2))||decide (i=4/\t=2)
def hT (i t:Nat):Bool:=decide (i=3/\t=0)||decide (i=4/\t=1)
set_option linter.unusedSimpArgs false
end Go.Proofs.YtlpipniclimgeaaGreat
namespace Go.Proofs.YtlpipniclimgeaaGreat
set_option linter.unusedVariables false
set_option linter.unusedSimpArgs false
abbrev Ac:=Int×Int
structure TabD where
 rules:List (Int×List Int)
 terms:Int
 nons:Int
 acts:List (List Ac)
 goto:List (List Int)
def noTab:TabD:=⟨[],0,0,[],[]⟩
def mayA (n r:Nat) (a:Ac):Bool:=if a.1=0\/a.1=3 then decide (a.2=0)else if a.1=1 then decide (0<=a.2)&&decide (a.2<n)else decide (a.1=2)&&(decide (0<=a.2)&&decide (a.2<(r:Int) - 1))
def wayA (n:Nat) (x:Int):Bool:=decide (-1<=x)&&decide (x<n)
def rowT (T N:Int) (n r:Nat) (x:List Ac×List Int):Bool:=(!decide (x.1.length=0)&&(decide (((x.1.length:Int)) - 1=T)&&decide ((x.2.length:Int)=N)))&&(x.1.all (mayA n r)&&x.2.all (wayA n))
def leftT (T N:Int) (x:Int×List Int):Bool:=decide (T<x.1)&&decide (x.1 - T<=N)
def headT (t:TabD):Bool:= !decide (t.rules.length=0)&&(!decide (t.acts.length=0)&&(decide (t.acts.length=t.goto.length)&&(decide (0<=t.terms)&&decide (0<=t.nons))))
def rightT (t:TabD):Bool:=headT t&&((t.rules.take (t.rules.length - 1)).all (leftT t.terms t.nons)&&(List.zip t.acts t.goto).all (rowT t.terms t.nons t.acts.length t.rules.length))
section
variable {G : GramD} {st : Int} {L T : List (List It)}
end
structure PackD where
 rules:List (Int×List Int)
 terms:Int
 nons:Int
 row:List Int
 rows:List (List Int)
 gow:List Int
 gows:List (List Int)
def noPack:PackD:=⟨[],0,0,[],[],[],[]⟩
def codeA (a:Ac):Int:=a.1 * 16384+a.2
def actC (n:Int):Ac:=(n/16384,n%16384)
def plR:List (List Int)->List Int->Nat
 |[],_=>0
 |x::l,r=>if x=r then 0 else plR l r+1
theorem plR_le: ∀(R:List (List Int)) (r:List Int),plR R r<=R.length
 |[],r=>Nat.le_refl _
 |x::l,r=>by
  unfold plR
  split
  ·omega
  ·have:=plR_le l r;simp;omega
theorem plR_yes: ∀{R:List (List Int)} {r:List Int},r∈R->R[plR R r]? =some r
 |[],r,h=>by cases h
 |x::l,r,h=>by
  unfold plR
  split
  ·rename_i e;subst e;rfl
  ·rename_i e
   rcases List.mem_cons.1 h with h|h
   ·exact absurd h.symm e
   ·rw [List.getElem?_cons_succ];exact plR_yes h
theorem plR_no: ∀{R:List (List Int)} {r:List Int},r∉R->plR R r=R.length
 |[],r,h=>rfl
 |x::l,r,h=>by
  unfold plR
  have hne: ¬x=r:=fun e=>h (by rw [e];exact List.mem_cons_self ..)
  rw [if_neg hne,plR_no (fun c=>h (List.mem_cons_of_mem _ c))];rfl
theorem plR_lt {R:List (List Int)} {r:List Int}:plR R r<R.length↔r∈R:=by
 constructor
 ·intro h
  by_cases hm:r∈R
  ·exact hm
  ·rw [plR_no hm]at h;omega
 ·intro h
  exact(List.getElem?_eq_some_iff.1 (plR_yes h)).1
theorem plR_first: ∀{R:List (List Int)} {r:List Int} {i:Nat},R[i]? =some r->(∀j,j<i->R[j]? ≠some r)->plR R r=i
 |[],r,i,h,_=>by simp at h
 |x::l,r,0,h,_=>by
  injection h with h
  unfold plR
  rw [if_pos h]
 |x::l,r,i+1,h,hj=>by
  unfold plR
  rw [if_neg (fun e=>hj 0 (by omega) (by rw [e];rfl)),plR_first (R:=l) (i:=i) (by simpa using h) (fun j hlt=>by
   have:=hj (j+1) (by omega)
   simpa using this)]
def putR (R:List (List Int)) (r:List Int):List (List Int):=if r∈R then R else R++[r]
theorem putR_yes {R:List (List Int)} {r:List Int} (h:r∈R):putR R r=R:=if_pos h
theorem putR_no {R:List (List Int)} {r:List Int} (h:r∉R):putR R r=R++[r]:=if_neg h
theorem putR_get {R:List (List Int)} (r:List Int):(putR R r)[plR R r]? =some r:=by
 by_cases h:r∈R
 ·rw [putR_yes h];exact plR_yes h
 ·rw [putR_no h,plR_no h,List.getElem?_append_right (Nat.le_refl _),Nat.sub_self];rfl
theorem putR_keep {R:List (List Int)} (r:List Int) {i:Nat} {x:List Int} (h:R[i]? =some x):(putR R r)[i]? =some x:=by
 by_cases hr:r∈R
 ·rw [putR_yes hr];exact h
 ·rw [putR_no hr,List.getElem?_append_left (List.getElem?_eq_some_iff.1 h).1];exact h
theorem putR_len (R:List (List Int)) (r:List Int):(putR R r).length<=R.length+1:=by unfold putR;split<;>simp
theorem putR_nodup {R:List (List Int)} {r:List Int} (h:R.Nodup):(putR R r).Nodup:=by
 unfold putR
 split
 ·exact h
 ·rename_i hn
  rw [List.nodup_append]
  exact⟨h,by simp,fun a ha b hb=>by rw [List.mem_singleton]at hb;subst hb;exact fun e=>hn (e▸ha)⟩
theorem putR_mem {R:List (List Int)} {r x:List Int} (h:x∈putR R r):x∈R\/x=r:=by
 unfold putR at h
 split at h
 ·exact .inl h
 ·rw [List.mem_append,List.mem_singleton]at h;exact h
def packF (s:List (List Int)×List Int) (r:List Int):List (List Int)×List Int:=(putR s.1 r,s.2++[((plR s.1 r:Nat):Int)])
def packU (rs:List (List Int)):List (List Int)×List Int:=rs.foldl packF ([],[])
theorem packU_snoc (rs:List (List Int)) (r:List Int):packU (rs++[r])=packF (packU rs) r:=by unfold packU;rw [List.foldl_append];rfl
structure PkOk (rs R:List (List Int)) (I:List Int):Prop where
 len:I.length=rs.length
 le:R.length<=rs.length
 mem: ∀r,r∈R->r∈rs
 at_: ∀(j:Nat) r,rs[j]? =some r-> ∃k:Nat,I[j]? =some (k:Int)/\R[k]? =some r
 nodup:R.Nodup
theorem PkOk.step {rs R:List (List Int)} {I:List Int} (h:PkOk rs R I) (r:List Int):PkOk (rs++[r]) (putR R r) (I++[((plR R r:Nat):Int)]):=by
 refine⟨by simp [h.len],?_,fun x hx=> ?_,fun j x hx=> ?_,putR_nodup h.nodup⟩
 ·have:=putR_len R r
  have:=h.le
  simp;omega
 ·rcases putR_mem hx with e|e
  ·exact List.mem_append_left _ (h.mem x e)
  ·subst e;simp
 ·by_cases hj:j<rs.length
  ·rw [List.getElem?_append_left hj]at hx
   obtain⟨k,h1,h2⟩:=h.at_ j x hx
   exact⟨k,by rw [List.getElem?_append_left (by rw [h.len];exact hj)];exact h1,putR_keep r h2⟩
  ·have hj':j=rs.length:=by have:=(List.getElem?_eq_some_iff.1 hx).1;simp at this;omega
   subst hj'
   rw [List.getElem?_append_right (Nat.le_refl _),Nat.sub_self]at hx
   injection hx with hx
   subst hx
   exact⟨plR R r,by rw [<-h.len,List.getElem?_append_right (Nat.le_refl _),Nat.sub_self];rfl,putR_get r⟩
theorem packU_from: ∀(rs rs0:List (List Int)) (s:List (List Int)×List Int),PkOk rs0 s.1 s.2->PkOk (rs0++rs) (rs.foldl packF s).1 (rs.foldl packF s).2
 |[],rs0,s,h=>by rw [List.append_nil];exact h
 |r::rs,rs0,s,h=>by
  have:=packU_from rs (rs0++[r]) (packF s r) (h.step r)
  rw [List.append_assoc]at this
  exact this
theorem packU_ok (rs:List (List Int)):PkOk rs (packU rs).1 (packU rs).2:=by
 have:=packU_from rs [] ([],[]) ⟨rfl,Nat.le_refl _,fun r h=>(by cases h),fun j r h=>(by simp at h),List.nodup_nil⟩
 rwa [List.nil_append]at this
def numsA (t:TabD):List (List Int):=t.acts.map fun r=>r.map codeA
def numsG (t:TabD):List (List Int):=t.goto.map fun r=>r.map fun x=>x+1
def fitT (t:TabD):Bool:=rightT t&&(decide (t.acts.length<=16383)&&decide (t.rules.length<=16383))
def packT (t:TabD):PackD:=⟨t.rules,t.terms,t.nons,(packU (numsA t)).2,(packU (numsA t)).1,(packU (numsG t)).2,(packU (numsG t)).1⟩
def inR (n:Nat) (x:Int):Bool:=decide (0<=x)&&decide (x<n)
def rowsP (p:PackD):Bool:=decide (p.row.length=p.gow.length)&&(p.row.all (inR p.rows.length)&&p.gow.all (inR p.gows.length))
def openT (p:PackD):TabD:=⟨p.rules,p.terms,p.nons,p.row.map fun x=>(p.rows.getD x.toNat []).map actC,p.gow.map fun x=>(p.gows.getD x.toNat []).map fun n=>n - 1⟩
def sameP (p q:PackD):Bool:=decide (p.row=q.row)&&(decide (p.gow=q.gow)&&(decide (p.rows=q.rows)&&decide (p.gows=q.gows)))
def rightP (p:PackD):Bool:=rowsP p&&(fitT (openT p)&&sameP p (packT (openT p)))
def unpackP (p:PackD):TabD:=if rightP p=true then openT p else noTab
theorem all_acts {t:TabD} (h:rightT t=true) {i:Nat} {x:List Ac} (hx:t.acts[i]? =some x): ∃y,t.goto[i]? =some y/\rowT t.terms t.nons t.acts.length t.rules.length (x,y)=true:=by
 unfold rightT headT at h
 simp only [Bool.and_eq_true,decide_eq_true_eq]at h
 have hl:t.acts.length=t.goto.length:=h.1.2.2.1
 have hi:=(List.getElem?_eq_some_iff.1 hx).1
 obtain⟨y,hy⟩: ∃y,t.goto[i]? =some y:=⟨_,List.getElem?_eq_getElem (by omega)⟩
 have hz:(List.zip t.acts t.goto)[i]? =some (x,y):=by rw [List.getElem?_zip_eq_some];exact⟨hx,hy⟩
 exact⟨y,hy,(List.all_eq_true.1 h.2.2) _ (List.mem_of_getElem? hz)⟩
theorem all_goto {t:TabD} (h:rightT t=true) {i:Nat} {y:List Int} (hy:t.goto[i]? =some y): ∃x,t.acts[i]? =some x/\rowT t.terms t.nons t.acts.length t.rules.length (x,y)=true:=by
 have h':=h
 unfold rightT headT at h'
 simp only [Bool.and_eq_true,decide_eq_true_eq]at h'
 have hl:t.acts.length=t.goto.length:=h'.1.2.2.1
 have hi:=(List.getElem?_eq_some_iff.1 hy).1
 obtain⟨x,hx⟩: ∃x,t.acts[i]? =some x:=⟨_,List.getElem?_eq_getElem (by omega)⟩
 obtain⟨y',hy',hr⟩:=all_acts h hx
 rw [hy]at hy'
 injection hy' with hy'
 exact⟨x,hx,hy'▸hr⟩
theorem row_parts {T N:Int} {n r:Nat} {x:List Ac} {y:List Int} (h:rowT T N n r (x,y)=true):x.length≠0/\((x.length:Int)) - 1=T/\(y.length:Int)=N/\(∀a∈x,mayA n r a=true)/\ ∀z∈y,-1<=z/\z<n:=by
 unfold rowT at h
 simp only [Bool.and_eq_true,decide_eq_true_eq,Bool.not_eq_true',decide_eq_false_iff_not,List.all_eq_true]at h
 refine⟨h.1.1,h.1.2.1,h.1.2.2,h.2.1,fun z hz=> ?_⟩
 have:=h.2.2 z hz
 unfold wayA at this
 simpa using this
theorem may_parts {n r:Nat} {a:Ac} (h:mayA n r a=true):(0<=a.1/\a.1<=3)/\0<=a.2/\(a.2<n\/a.2<(r:Int) - 1\/a.2=0):=by
 unfold mayA at h
 split at h
 ·simp only [decide_eq_true_eq]at h;omega
 ·split at h
  ·simp only [Bool.and_eq_true,decide_eq_true_eq]at h;omega
  ·simp only [Bool.and_eq_true,decide_eq_true_eq]at h;omega
theorem fit_parts {t:TabD} (h:fitT t=true):rightT t=true/\t.acts.length<=16383/\t.rules.length<=16383/\0<t.acts.length:=by
 unfold fitT at h
 simp only [Bool.and_eq_true,decide_eq_true_eq]at h
 have h1:=h.1
 unfold rightT headT at h1
 simp only [Bool.and_eq_true,decide_eq_true_eq,Bool.not_eq_true',decide_eq_false_iff_not]at h1
 exact⟨h.1,h.2.1,h.2.2,by omega⟩
theorem right_len {t:TabD} (h:rightT t=true):t.acts.length=t.goto.length/\0<=t.terms/\0<=t.nons:=by
 unfold rightT headT at h
 simp only [Bool.and_eq_true,decide_eq_true_eq]at h
 exact⟨h.1.2.2.1,h.1.2.2.2⟩
theorem fit_act {t:TabD} (h:fitT t=true) {i:Nat} {x:List Ac} (hx:t.acts[i]? =some x) {a:Ac} (ha:a∈x):(0<=a.1/\a.1<=3)/\0<=a.2/\a.2<16384:=by
 obtain⟨h1,h2,h3,-⟩:=fit_parts h
 obtain⟨y,-,hr⟩:=all_acts h1 hx
 have:=may_parts ((row_parts hr).2.2.2.1 a ha)
 omega
theorem fit_way {t:TabD} (h:fitT t=true) {i:Nat} {y:List Int} (hy:t.goto[i]? =some y) {z:Int} (hz:z∈y): -1<=z/\z<16383:=by
 obtain⟨h1,h2,h3,-⟩:=fit_parts h
 obtain⟨x,-,hr⟩:=all_goto h1 hy
 have:=(row_parts hr).2.2.2.2 z hz
 omega
theorem in_rows {rs:List (List Int)}:(packU rs).2.all (inR (packU rs).1.length)=true:=by
 have hp:=packU_ok rs
 rw [List.all_eq_true]
 intro x hx
 obtain⟨j,hj,e⟩:=List.getElem_of_mem hx
 obtain⟨r,hr⟩: ∃r,rs[j]? =some r:=⟨_,List.getElem?_eq_getElem (by rw [hp.len]at hj;exact hj)⟩
 obtain⟨k,h1,h2⟩:=hp.at_ j r hr
 have e1:x=(k:Int):=by
  rw [List.getElem?_eq_getElem hj]at h1
  injection h1 with h1
  rw [<-e,h1]
 subst e1
 have:=(List.getElem?_eq_some_iff.1 h2).1
 unfold inR
 simp only [Bool.and_eq_true,decide_eq_true_eq]
 omega
end Go.Proofs.YtlpipniclimgeaaGreat

/- Rows of rows: a new block of one row, in a drawn region. -/
import Derived.Test.YthlbjgabhpdbfaaGreatCRs1
import Derived.Test.YthlbjgabhpdbfaaGreatCTab
import Derived.Shelf.Abstract
namespace Go.Proofs.YthlbjgabhpdbfaaGreat
set_option linter.unusedVariables false
open Go.RowKit
theorem Tryz.step_RA {ops:Array Oper} {o:Oper} {a:Act} {w:World} {K:Act->World->Prop} {Q:Exit->Act->World->Prop} {E':Prop} (hgd:o.guard=none) (x:Operand) (ho:o.op= .buildSlice 32 1 #[(0,x)]) (v:Value) (hx:a.eval x=v) {A:Option Addr} {n c:Nat} (hv:v= .slice A n c)
  (h:K (a.put o.dst (.slice (some ⟨w.heap.size,0,none⟩) 1 1)) (w.alloc (.cells #[v] 113))):if Region.wanted o (yielded ops a.tmps)=true then Oper.wp Tryz.prog o a w K Q else E':=by
 have hw:Region.wanted o (yielded ops a.tmps)=true:=by simp [Region.wanted,hgd]
 rw [if_pos hw]
 subst hv
 unfold Oper.wp execOp
 simp only [ho,List.map_toArray,List.map_cons,List.map_nil,hx]
 go_simp
 exact h
theorem Tryz.step_RI {ops:Array Oper} {o:Oper} {a:Act} {w:World} {K:Act->World->Prop} {Q:Exit->Act->World->Prop} {E':Prop} (hgd:o.guard=none) (x:Operand) (ho:o.op= .buildSlice 33 1 #[(0,x)]) (v:Value) (hx:a.eval x=v) {A:Option Addr} {n c:Nat} (hv:v= .slice A n c)
  (h:K (a.put o.dst (.slice (some ⟨w.heap.size,0,none⟩) 1 1)) (w.alloc (.cells #[v] 49))):if Region.wanted o (yielded ops a.tmps)=true then Oper.wp Tryz.prog o a w K Q else E':=by
 have hw:Region.wanted o (yielded ops a.tmps)=true:=by simp [Region.wanted,hgd]
 rw [if_pos hw]
 subst hv
 unfold Oper.wp execOp
 simp only [ho,List.map_toArray,List.map_cons,List.map_nil,hx]
 go_simp
 exact h
end Go.Proofs.YthlbjgabhpdbfaaGreat
namespace Go.Proofs.YthlbjgabhpdbfaaGreat
set_option linter.unusedVariables false
set_option linter.unusedSimpArgs false
open Go.RowKit Go.Shelf
attribute [local irreducible] wpStill wpOne wpPh
attribute [local go_sem] Oper.semAt_some
theorem touch_five (W:World) (z:Nat) (u v x y q:Value):Touch (fun k=>k=z) W (((((W.setCell ⟨z,0,none⟩ u).setCell ⟨z,1,none⟩ v).setCell ⟨z,2,none⟩ x).setCell ⟨z,3,none⟩ y).setCell ⟨z,4,none⟩ q):=
 Touch.setCell (Touch.setCell (touch_three W z u v x) (p:=⟨z,3,none⟩) (fun _=>rfl) y) (p:=⟨z,4,none⟩) (fun _=>rfl) q
theorem markPost.panic {P:Program} {fn:Func} {R:Ending->World->Prop} {c:List PanicEntry} {a:Act} {w:World} (h:markPost P fn R (.panic c) a w):False:=by
 unfold markPost at h
 rcases h.1 with e|e<;>cases e
theorem Tryz.infoRA:(Tryz.prog.info? 113).map (fun i=>(i.zero,i.size,i.bytes))=some (some (.slice none 0 0),1,24):=by kernel_rfl
theorem Tryz.elemRA:Elem Tryz.prog 32 113 (.slice none 0 0) 1 24:=⟨Tryz.underlying32,Tryz.infoRA,rfl,by decide⟩
theorem Tryz.infoRI:(Tryz.prog.info? 49).map (fun i=>(i.zero,i.size,i.bytes))=some (some (.slice none 0 0),1,24):=by kernel_rfl
theorem Tryz.elemRI:Elem Tryz.prog 33 49 (.slice none 0 0) 1 24:=⟨Tryz.underlying33,Tryz.infoRI,rfl,by decide⟩
theorem rmCells_nil {X:Type}: ∀{L:List X} {Z:List Value},Z.length=L.length->rmCells (fun _:X=>[]) L Z=Z
 |[],[],_=>rfl
 |[],_::_,h=>by simp at h
 |_::_,[],h=>by simp at h
 |x::L,z::Z,h=>by
  have ih:=rmCells_nil (L:=L) (Z:=Z) (by simpa using h)
  unfold rmCells at ih⊢
  rw [List.zip_cons_cons,List.flatMap_cons,ih];rfl
theorem RM.rw {X:Type} {e:TypeId} {E:World->(Nat->Prop)->Value->X->Prop} (hE:Hands E) {lo F:Nat->Prop} {base n c:Nat} {w:World} {A:Option Addr} {L:List X} (h:RM e 1 (fun _=>[]) E lo base w A n c L) (hF: ∀b,base<=b->b<w.heap.size->F b) (hlo: ∀b,lo b->b<w.heap.size->F b):RdRw (fun z x=>E w F z x) w F (.slice A n c) L:=by
 obtain⟨Z,h1,h2,h3⟩:=h.ex
 have:=Rd.of_own h2
 rw [rmCells_nil h1]at this
 exact⟨Z,h1,this.mono fun b hb=>hF b (h2.lt b hb).1 (h2.lt b hb).2,fun j z x hz hx=>hE.mono (h3 j z x hz hx) fun b hb=>hlo b hb.1 hb.2.1⟩
theorem RdL.cw {X:Type} {w w':World} {F F':Nat->Prop} {k:Nat} {E E':List Value->X->Prop} {v:Value} {xs:List X} (h:RdL w F k E v xs) (hc:CW w w') (hF: ∀b,F b->F' b) (hE: ∀cs x,E cs x->E' cs x):RdL w' F' k E' v xs:=by
 obtain⟨A,c,hv,h1,h2,hr⟩:=h
 refine⟨A,c,hv,h1,h2,fun hn=> ?_⟩
 obtain⟨b,off,hA,hb,hcell⟩:=hr hn
 refine⟨b,off,hA,hF b hb,fun i x hx=> ?_⟩
 obtain⟨cs,e1,e2,e3⟩:=hcell i x hx
 exact⟨cs,e1,hE cs x e2,fun j u hu=>hc _ _ (e3 j u hu)⟩
theorem tab_cw {w W w':World} {F F' S:Nat->Prop} {vr va vg:Value} {t:TabD} (hr:RdL w F 2 (ERule w F) vr t.rules) (ha:RdAs w F va t.acts) (hg:RdIs w F vg t.goto) (tt:Touch S w W) (hS: ∀b,F b-> ¬S b) (k:CW W w') (hF: ∀b,F b->F' b) (hl: ∀b,F' b->b<w'.heap.size)
  (tn:W64 t.terms/\W64 t.nons) (wr: ∀r∈t.rules,W64 r.1):IsTab w' F' vr va vg t:=by
 refine⟨(hr.touch tt hS (E':=ERule W F) fun cs x _ e=> ?_).cw k hF fun cs x e=> ?_,RdRw.mono' ha (fun Z r=>((r.touch tt hS).cw k).mono hF) (fun z x r=>((Rd.touch r tt hS).cw k).mono hF),RdRw.mono' hg (fun Z r=>((r.touch tt hS).cw k).mono hF) (fun z x r=>((Rd.touch r tt hS).cw k).mono hF),hl,tn,wr⟩
 ·obtain⟨v,e1,e2⟩:=e
  exact⟨v,e1,Rd.touch e2 tt hS⟩
 ·obtain⟨v,e1,e2⟩:=e
  exact⟨v,e1,(Rd.cw e2 k).mono hF⟩
end Go.Proofs.YthlbjgabhpdbfaaGreat

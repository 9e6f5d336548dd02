/- The statement 'PackSame': for every input the law returns true, and each argument reads as it did. No condition. -/
import Derived.Test.YthlbjgabhpdbfaaGreatRows
import Derived.Test.YthlbjgabhpdbfaaGreatBBase
import Derived.Test.YthlbjgabhpdbfaaGreatBPackSame
set_option linter.unusedVariables false
set_option maxRecDepth 100000
namespace Go.Proofs.YthlbjgabhpdbfaaGreat.packSame
open Go.Proofs.Tryz
open Go.ChangeShapes Go.WideShapes Go.ChangeAt Go.RowKit
open Go.ChangeMaps (open_string shut_string)
theorem own:ownKnob prog.godebug=none:=by kernel_rfl
theorem EK:laidOutB prog=true:=by kernel_rfl
theorem Fk (m:Os) (E:m.Started) (H:Type) (enc:TypeId×Value->H):
  ReturnsInHanded {} checked m 5 .any (Rows.packSameSpec.pre6 enc prog Tryz.f5 Rows.packSameRow.domain false) (Rows.packSameSpec.post enc prog Tryz.f5 false true false false):=by
 refine returnsInHanded_of_change_sized (C:=checked) own E (by kernel_rfl) func5
  (ChangeSpec.witness6 (enc:=enc) (C:=checked) false ⟨#[], #[.agg #[.slice none 0 0,.slice none 0 0,.slice none 0 0,.int .i64 0]],[]⟩ 8 (by kernel_rfl) (by kernel_rfl) (by kernel_rfl) (by kernel_rfl)) ?_
 intro b s a c gs G z i K y _;have k: ∀(l:Nat) n o,Tryz.f5.params[l]? =some n->a[l]? =some o->Value.okWide prog b .any s n o:=z;have v:=i;obtain⟨C,P,t,u,rfl,L,M⟩:=i;have g:DataW.TrodAll enc prog b 0 (λ_=>true) true Tryz.f5.params.toList a.toList c C:=t;obtain⟨rfl,rfl⟩:=trodVars_none u;have j:(DataW.weightsEach prog Tryz.f5.params.toList c).all (· <=reachBytes)=true:=by
  have h:(DataW.weightsEach prog (Tryz.f5.params.toList++[]) (c++[])).all (· <=reachBytes)=true:=y;rw [List.append_nil,List.append_nil]at h;exact h
 rw [params5]at g k j;obtain⟨p,R,d0,I,O,Q,J,rfl,rfl,f,D⟩:=trodAll_cons g;obtain⟨rfl,rfl,rfl⟩:=trodAll_nil D;obtain rfl:a= #[p]:=by cases a;simp_all
 have A:=f;obtain⟨q,rfl,N⟩:=okWide_struct underlying25 (k 0 25 p rfl rfl);obtain⟨B,x⟩:=f;obtain⟨r,w0⟩:=yh B _ _ x (zS j (j:=0) rfl rfl);refine(vD q r b w0).mono λe F ⟨w,d⟩=> ?_
 subst w;exact⟨_,rfl,_,_,_,[],_,[],v,trodAll_mk1 (shut_bool underlying4 _),(trodAll_cons_mk (Bv EK (by kernel_rfl) (of_decide_eq_true (by kernel_rfl)) A d) trodAll_mk0),rfl,d.frame _,λh=>by cases h⟩
theorem FK:(Rows.packSameRow.inPlace==Tryz.pinned.checked.prog.inPlace 5)=true:=by kernel_rfl
theorem FJ:(Rows.packSameRow.unfollowed==Tryz.pinned.checked.prog.unfollowed 5)=true:=by kernel_rfl
theorem FI:(Rows.packSameRow.recurses==Tryz.pinned.checked.prog.recurses 5)=true:=by kernel_rfl
theorem FH:(Rows.packSameRow.named==Tryz.pinned.checked.prog.varsNamed 5)=true:=by kernel_rfl
theorem FG:laidOutB Tryz.pinned.checked.prog=true:=by kernel_rfl
theorem FF:mapsRowed Tryz.pinned.checked.prog=true:=by kernel_rfl
theorem FE:(Rows.packSameRow.plainKeys==Tryz.pinned.checked.prog.plainKeys)=true:=by kernel_rfl
theorem Fp:joinedFacts Tryz.pinned.checked.prog 5 Tryz.f5 Rows.packSameSpec Rows.packSameRow=true:=by
 unfold joinedFacts;rw [FK,FJ,FI,FH,FG,FF,FE]
 kernel_rfl
theorem FM:Tryz.pinned.checked.prog.funcNamed Rows.packSameRow.func=some 5:=by kernel_rfl
theorem G2:Tryz.f5.isInstance Tryz.pinned.checked.prog Rows.packSameRow.origin Rows.packSameRow.targs:=of_decide_eq_true (by kernel_rfl)
theorem FS:Tryz.f5.isWrapper Tryz.pinned.checked.prog Rows.packSameRow.wrapper Rows.packSameRow.mainSum:=by unfold Func.isWrapper;first|(rw [if_pos (by decide+kernel)];kernel_rfl)|(rw [if_neg (by decide+kernel)];exact⟨rfl,rfl⟩)
theorem FV:Rows.packSameRow.holds Tryz.pinned (OpenSpec.ofChange Rows.packSameSpec):=
 OpenClaim.holds_of_wide 5 Tryz.f5 rfl rfl rfl rfl rfl rfl rfl ⟨rfl,rfl,rfl,rfl,rfl⟩ rfl rfl rfl rfl rfl FM func5 Fp G2 FS
  (λc d a b _=>Fk c d a b)
theorem proved:Rows.PackSameSaid:=FV
#print axioms proved
end Go.Proofs.YthlbjgabhpdbfaaGreat.packSame

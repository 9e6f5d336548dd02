/- The statement 'LookWhole': for every input the law returns true, and each argument reads as it did. No condition. -/
import Derived.Test.YtlpokomfljmogaaGreatRows
import Derived.Test.YtlpokomfljmogaaGreatRBase
import Derived.Test.YtlpokomfljmogaaGreatRLookWhole
namespace Go.Proofs.YtlpokomfljmogaaGreat.lookWhole
open Go.ChangeShapes Go.WideShapes Go.ChangeAt Go.RowKit
open Go.ChangeMaps (open_string shut_string)
set_option linter.unusedVariables false
theorem own:ownKnob Tryz.prog.godebug=none:=by kernel_rfl
theorem laidOut:laidOutB Tryz.prog=true:=by kernel_rfl
set_option maxRecDepth 100000 in
theorem lifted (os:Os) (started:os.Started) (H:Type) (enc:TypeId×Value→H):
  ReturnsInHanded {} Tryz.checked os 11 .any (Rows.lookWholeSpec.pre6 enc Tryz.prog Tryz.f11 Rows.lookWholeRow.domain false) (Rows.lookWholeSpec.post enc Tryz.prog Tryz.f11 false true false false):=by
 refine returnsInHanded_of_change_sized (C:=Tryz.checked) own started (by kernel_rfl) Tryz.func11
  (ChangeSpec.witness6 (enc:=enc) (C:=Tryz.checked) false ⟨#[], #[.agg #[.slice none 0 0,.slice none 0 0,.slice none 0 0,.int .i64 0]],[]⟩ 8 (by kernel_rfl) (by kernel_rfl) (by kernel_rfl) (by kernel_rfl)) ?_
 intro W base args ds gs before hval0 hW hcnd hsz0 _
 have hval: ∀(j:Nat) t v,Tryz.f11.params[j]? =some t→args[j]? =some v→Value.okWide Tryz.prog W .any base t v:=hval0
 have hW':=hW
 obtain⟨p,q,hA0,hV,rfl,hfz,hnd⟩:=hW
 have hA:DataW.TrodAll enc Tryz.prog W 0 (fun _=>true) true Tryz.f11.params.toList args.toList ds p:=hA0
 obtain⟨rfl,rfl⟩:=trodVars_none hV
 have hsz1:(DataW.weightsEach Tryz.prog Tryz.f11.params.toList ds).all (· ≤reachBytes)=true:=by
  have h:(DataW.weightsEach Tryz.prog (Tryz.f11.params.toList++[]) (ds++[])).all (· ≤reachBytes)=true:=hsz0
  rw [List.append_nil,List.append_nil]at h
  exact h
 rw [Tryz.params11]at hA hval hsz1
 obtain⟨v0,vs0,d0,ds0,p0,q0,hargs,rfl,rfl,h0,r0⟩:=trodAll_cons hA
 obtain⟨rfl,rfl,rfl⟩:=trodAll_nil r0
 obtain rfl:args= #[v0]:=by cases args;simp_all
 have k0:=h0
 obtain⟨C0,rfl,hs0⟩:=okWide_struct Tryz.underlying25 (hval 0 25 v0 rfl rfl)
 obtain⟨n0,hn0⟩:=h0
 obtain⟨a0,w0⟩:=opens_gramZ n0 _ _ hn0 (reached_of hsz1 (j:=0) rfl rfl)
 refine(walk_LookWhole C0 a0 W w0).mono fun e W' ⟨he,bel⟩=> ?_
 subst he
 exact⟨_,rfl,_,_,_,[],_,[],hW',trodAll_mk1 (shut_bool Tryz.underlying4 _),(trodAll_cons_mk (trod_back laidOut (by kernel_rfl) (of_decide_eq_true (by kernel_rfl)) k0 bel) trodAll_mk0),rfl,bel.frame _,fun h=>by cases h⟩
theorem over:Rows.lookWholeRow.holds Tryz.pinned (OpenSpec.ofChange Rows.lookWholeSpec):=
 OpenClaim.holds_of_wide 11 Tryz.f11 rfl rfl rfl rfl rfl rfl rfl ⟨rfl,rfl,rfl,rfl,rfl⟩ rfl rfl rfl rfl rfl (by kernel_rfl) Tryz.func11 (by kernel_rfl)
  (of_decide_eq_true (by kernel_rfl)) (by unfold Func.isWrapper;first|(rw [if_pos (by decide+kernel)];kernel_rfl)|(rw [if_neg (by decide+kernel)];exact⟨rfl,rfl⟩))
  (fun os started H enc _=>lifted os started H enc)
theorem proved:Rows.LookWholeSaid:=over
#print axioms proved
end Go.Proofs.YtlpokomfljmogaaGreat.lookWhole

/- The statement 'TabsReads': for every input the law returns true, and each argument reads as it did. No condition. -/
import Derived.Test.YtlpipniclimgeaaGreatRows
import Derived.Test.YtlpipniclimgeaaGreatDBase
import Derived.Test.YtlpipniclimgeaaGreatDEvW
namespace Go.Proofs.YtlpipniclimgeaaGreat.tabsReads
open Go.ChangeShapes Go.WideShapes Go.ChangeAt Go.RowKit
open Go.ChangeMaps (open_string shut_string)
set_option linter.unusedVariables false
theorem own:ownKnob Tryz.prog.godebug=none:=by kernel_rfl
theorem laidOut:laidOutB Tryz.prog=true:=by kernel_rfl
set_option maxRecDepth 100000 in
theorem lifted (os:Os) (started:os.Started) (H:Type) (enc:TypeId×Value->H):
  ReturnsInHanded {} Tryz.checked os 4 .any (Rows.tabsReadsSpec.pre6 enc Tryz.prog Tryz.f4 Rows.tabsReadsRow.domain false) (Rows.tabsReadsSpec.post enc Tryz.prog Tryz.f4 false true false false):=by
 refine returnsInHanded_of_change_sized (C:=Tryz.checked) own started (by kernel_rfl) Tryz.func4
  (ChangeSpec.witness6 (enc:=enc) (C:=Tryz.checked) false ⟨#[], #[.slice none 0 0],[]⟩ 8 (by kernel_rfl) (by kernel_rfl) (by kernel_rfl) (by kernel_rfl)) ?_
 intro W base args ds gs before hval0 hW hcnd hsz0 _
 have hval: ∀(j:Nat) t v,Tryz.f4.params[j]? =some t->args[j]? =some v->Value.okWide Tryz.prog W .any base t v:=hval0
 have hW':=hW
 obtain⟨p,q,hA0,hV,rfl,hfz,hnd⟩:=hW
 have hA:DataW.TrodAll enc Tryz.prog W 0 (fun _=>true) true Tryz.f4.params.toList args.toList ds p:=hA0
 obtain⟨rfl,rfl⟩:=trodVars_none hV
 have hsz1:(DataW.weightsEach Tryz.prog Tryz.f4.params.toList ds).all (· <=reachBytes)=true:=by
  have h:(DataW.weightsEach Tryz.prog (Tryz.f4.params.toList++[]) (ds++[])).all (· <=reachBytes)=true:=hsz0
  rw [List.append_nil,List.append_nil]at h
  exact h
 rw [Tryz.params4]at hA hval hsz1
 obtain⟨v0,vs0,d0,ds0,p0,q0,hargs,rfl,rfl,h0,r0⟩:=trodAll_cons hA
 obtain⟨rfl,rfl,rfl⟩:=trodAll_nil r0
 obtain rfl:args= #[v0]:=by cases args;simp_all
 have k0:=h0
 obtain⟨A0,l0,c0,rfl⟩:=okWide_slice Tryz.underlying29 (hval 0 29 v0 rfl rfl)
 obtain⟨n0,hn0⟩:=h0
 obtain⟨a0,u0,hu0,w0⟩:=opens_bytesZ n0 _ _ hn0 (reached_of hsz1 (j:=0) rfl rfl)
 obtain rfl:u0= .slice A0 l0 c0:=by simpa [Value.cells]using hu0.symm
 refine(walk_TabsReads (.slice A0 l0 c0) a0 W w0).mono fun e W' ⟨he,bel⟩=> ?_
 subst he
 exact⟨_,rfl,_,_,_,[],_,[],hW',trodAll_mk1 (shut_bool Tryz.underlying4 _),(trodAll_cons_mk (trod_back laidOut (by kernel_rfl) (of_decide_eq_true (by kernel_rfl)) k0 bel) trodAll_mk0),rfl,bel.frame _,fun h=>by cases h⟩
theorem part1:(Rows.tabsReadsRow.inPlace==Tryz.pinned.checked.prog.inPlace 4)=true:=by kernel_rfl
theorem part2:(Rows.tabsReadsRow.unfollowed==Tryz.pinned.checked.prog.unfollowed 4)=true:=by kernel_rfl
theorem part3:(Rows.tabsReadsRow.recurses==Tryz.pinned.checked.prog.recurses 4)=true:=by kernel_rfl
theorem part4:(Rows.tabsReadsRow.named==Tryz.pinned.checked.prog.varsNamed 4)=true:=by kernel_rfl
theorem part5:laidOutB Tryz.pinned.checked.prog=true:=by kernel_rfl
theorem part6:mapsRowed Tryz.pinned.checked.prog=true:=by kernel_rfl
theorem part7:(Rows.tabsReadsRow.plainKeys==Tryz.pinned.checked.prog.plainKeys)=true:=by kernel_rfl
theorem joined:joinedFacts Tryz.pinned.checked.prog 4 Tryz.f4 Rows.tabsReadsSpec Rows.tabsReadsRow=true:=by
 unfold joinedFacts
 rw [part1,part2,part3,part4,part5,part6,part7]
 kernel_rfl
theorem named:Tryz.pinned.checked.prog.funcNamed Rows.tabsReadsRow.func=some 4:=by kernel_rfl
theorem inst:Tryz.f4.isInstance Tryz.pinned.checked.prog Rows.tabsReadsRow.origin Rows.tabsReadsRow.targs:=of_decide_eq_true (by kernel_rfl)
theorem wrap:Tryz.f4.isWrapper Tryz.pinned.checked.prog Rows.tabsReadsRow.wrapper Rows.tabsReadsRow.mainSum:=by unfold Func.isWrapper;first|(rw [if_pos (by decide+kernel)];kernel_rfl)|(rw [if_neg (by decide+kernel)];exact⟨rfl,rfl⟩)
theorem over:Rows.tabsReadsRow.holds Tryz.pinned (OpenSpec.ofChange Rows.tabsReadsSpec):=
 OpenClaim.holds_of_wide 4 Tryz.f4 rfl rfl rfl rfl rfl rfl rfl ⟨rfl,rfl,rfl,rfl,rfl⟩ rfl rfl rfl rfl rfl named Tryz.func4 joined inst wrap
  (fun os started H enc _=>lifted os started H enc)
theorem proved:Rows.TabsReadsSaid:=over
#print axioms proved
end Go.Proofs.YtlpipniclimgeaaGreat.tabsReads

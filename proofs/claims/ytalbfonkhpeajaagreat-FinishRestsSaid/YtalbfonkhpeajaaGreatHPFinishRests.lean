/- The statement 'FinishRests': for every input the law returns true, and each argument reads as it did. No condition. -/
import Derived.Test.YtalbfonkhpeajaaGreatRows
import Derived.Test.YtalbfonkhpeajaaGreatHBase
import Derived.Test.YtalbfonkhpeajaaGreatHFinR5
namespace Go.Proofs.YtalbfonkhpeajaaGreat.finishRests
open Go.ChangeShapes Go.WideShapes Go.ChangeAt Go.RowKit
open Go.ChangeMaps (open_string shut_string)
set_option linter.unusedVariables false
theorem own:ownKnob Tryz.prog.godebug=none:=by kernel_rfl
theorem laidOut:laidOutB Tryz.prog=true:=by kernel_rfl
set_option maxRecDepth 100000 in
theorem lifted (os:Os) (started:os.Started) (H:Type) (enc:TypeId×Value→H):
  ReturnsInHanded {} Tryz.checked os 3 .any (Rows.finishRestsSpec.pre6 enc Tryz.prog Tryz.f3 Rows.finishRestsRow.domain false) (Rows.finishRestsSpec.post enc Tryz.prog Tryz.f3 false true false false):=by
 refine returnsInHanded_of_change_sized (C:=Tryz.checked) own started (by kernel_rfl) Tryz.func3
  (ChangeSpec.witness6 (enc:=enc) (C:=Tryz.checked) false ⟨#[], #[.agg #[.slice none 0 0,.slice none 0 0,.slice none 0 0,.int .i64 0],.slice none 0 0],[]⟩ 8 (by kernel_rfl) (by kernel_rfl) (by kernel_rfl) (by kernel_rfl)) ?_
 intro W base args ds gs before hval0 hW hcnd hsz0 _
 have hval: ∀(j:Nat) t v,Tryz.f3.params[j]? =some t→args[j]? =some v→Value.okWide Tryz.prog W .any base t v:=hval0
 have hW':=hW
 obtain⟨p,q,hA0,hV,rfl,hfz,hnd⟩:=hW
 have hA:DataW.TrodAll enc Tryz.prog W 0 (fun _=>true) true Tryz.f3.params.toList args.toList ds p:=hA0
 obtain⟨rfl,rfl⟩:=trodVars_none hV
 have hsz1:(DataW.weightsEach Tryz.prog Tryz.f3.params.toList ds).all (· ≤reachBytes)=true:=by
  have h:(DataW.weightsEach Tryz.prog (Tryz.f3.params.toList++[]) (ds++[])).all (· ≤reachBytes)=true:=hsz0
  rw [List.append_nil,List.append_nil]at h
  exact h
 rw [Tryz.params3]at hA hval hsz1
 obtain⟨v0,vs0,d0,ds0,p0,q0,hargs,rfl,rfl,h0,r0⟩:=trodAll_cons hA
 obtain⟨v1,vs1,d1,ds1,p1,q1,rfl,rfl,rfl,h1,r1⟩:=trodAll_cons r0
 obtain⟨rfl,rfl,rfl⟩:=trodAll_nil r1
 obtain rfl:args= #[v0,v1]:=by cases args;simp_all
 have k0:=h0
 have k1:=h1
 obtain⟨C0,rfl,hs0⟩:=okWide_struct Tryz.underlying25 (hval 0 25 v0 rfl rfl)
 obtain⟨n0,hn0⟩:=h0
 obtain⟨a0,w0⟩:=opens_gramZ n0 _ _ hn0 (reached_of hsz1 (j:=0) rfl rfl)
 obtain⟨A1,l1,c1,rfl⟩:=okWide_slice Tryz.underlying26 (hval 1 26 v1 rfl rfl)
 obtain⟨n1,hn1⟩:=h1
 obtain⟨a1,u1,hu1,w1⟩:=opens_intsZ n1 _ _ hn1 (reached_of hsz1 (j:=1) rfl rfl)
 obtain rfl:u1= .slice A1 l1 c1:=by simpa [Value.cells]using hu1.symm
 refine(walk_FinishRests C0 a0 (.slice A1 l1 c1) a1 W w0 w1).mono fun e W' ⟨he,bel⟩=> ?_
 subst he
 exact⟨_,rfl,_,_,_,[],_,[],hW',trodAll_mk1 (shut_bool Tryz.underlying4 _),(trodAll_cons_mk (trod_back laidOut (by kernel_rfl) (of_decide_eq_true (by kernel_rfl)) k0 bel) (trodAll_cons_mk (trod_back laidOut (by kernel_rfl) (of_decide_eq_true (by kernel_rfl)) k1 bel) trodAll_mk0)),rfl,bel.frame _,fun h=>by cases h⟩
theorem part1:(Rows.finishRestsRow.inPlace==Tryz.pinned.checked.prog.inPlace 3)=true:=by kernel_rfl
theorem part2:(Rows.finishRestsRow.unfollowed==Tryz.pinned.checked.prog.unfollowed 3)=true:=by kernel_rfl
theorem part3:(Rows.finishRestsRow.recurses==Tryz.pinned.checked.prog.recurses 3)=true:=by kernel_rfl
theorem part4:(Rows.finishRestsRow.named==Tryz.pinned.checked.prog.varsNamed 3)=true:=by kernel_rfl
theorem part5:laidOutB Tryz.pinned.checked.prog=true:=by kernel_rfl
theorem part6:mapsRowed Tryz.pinned.checked.prog=true:=by kernel_rfl
theorem part7:(Rows.finishRestsRow.plainKeys==Tryz.pinned.checked.prog.plainKeys)=true:=by kernel_rfl
theorem joined:joinedFacts Tryz.pinned.checked.prog 3 Tryz.f3 Rows.finishRestsSpec Rows.finishRestsRow=true:=by
 unfold joinedFacts
 rw [part1,part2,part3,part4,part5,part6,part7]
 kernel_rfl
theorem named:Tryz.pinned.checked.prog.funcNamed Rows.finishRestsRow.func=some 3:=by kernel_rfl
theorem inst:Tryz.f3.isInstance Tryz.pinned.checked.prog Rows.finishRestsRow.origin Rows.finishRestsRow.targs:=of_decide_eq_true (by kernel_rfl)
theorem wrap:Tryz.f3.isWrapper Tryz.pinned.checked.prog Rows.finishRestsRow.wrapper Rows.finishRestsRow.mainSum:=by unfold Func.isWrapper;first|(rw [if_pos (by decide+kernel)];kernel_rfl)|(rw [if_neg (by decide+kernel)];exact⟨rfl,rfl⟩)
theorem over:Rows.finishRestsRow.holds Tryz.pinned (OpenSpec.ofChange Rows.finishRestsSpec):=
 OpenClaim.holds_of_wide 3 Tryz.f3 rfl rfl rfl rfl rfl rfl rfl ⟨rfl,rfl,rfl,rfl,rfl⟩ rfl rfl rfl rfl rfl named Tryz.func3 joined inst wrap
  (fun os started H enc _=>lifted os started H enc)
theorem proved:Rows.FinishRestsSaid:=over
#print axioms proved
end Go.Proofs.YtalbfonkhpeajaaGreat.finishRests

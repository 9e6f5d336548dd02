/-
  No cell of these rows narrows 'for every input' (looked for: loops, veiled, ifaces, maps, wideKeys, modest, calm, conditions, laid).
  DERIVED. THE GIVEN ROWS OF THIS SEAT. 3 by the template 'for every input the law returns true; each argument reads behind the call as it read before'; 0 by the template 'total and deterministic' (their statements: YtlpipniclimgeaaGreatTotals.lean).
  GIVEN WITH THE SEED: the statements are not yours to turn. If you find one false, say at which input.
  Laid BY PROGRAM, IN A SANDBOX (cutbox-rows.mjs): the forced cells as the released guide's own fill.sh prints them over the translation 5fb1067cf90462d4… (all of the seat's roots in one cut). By AI agents, Wed Nov 11 2026. No macro, syntax, notation, axiom, sorry.
-/
import Derived.Test.YtlpipniclimgeaaGreatChecked
import GoSem.Claim
import GoSem.ClaimJoined
import GoSem.ClaimMapViews
import Derived.JoinedTies
import Derived.KernelRfl
namespace Go.Proofs.YtlpipniclimgeaaGreat
/- THE CELL 'sum', in the pinned program and in every row, IS THE sha256 OF THE DUMP (.gsa) THAT YtlpipniclimgeaaGreatProg.lean LOADS. Nothing in Lean hashes anything: it is a label: what it is worth is what the hold of that sum in a sandbox is worth. -/
noncomputable def Tryz.pinned : Pinned := { name := "ytlpipniclimgeaagreat", sum := "5fb1067cf90462d42c7008af9b39d1f96118876e2ed839e1290514eb2ed16175", checked := Tryz.checked }
namespace Rows
def none {H : Type} : Left H := { results := [], args := [] }

/-- 'conchlaw18.TabsBytes': WHATEVER THE INPUT: true; the input reads as it did. -/
def tabsBytesSpec : ChangeSpec := { name := "tabsBytes", fn := fun _ => fun
  | [d] => { results := [.lit (.bool true)], args := [d] }
  | _ => none }
def tabsBytesRow : OpenClaim := { program := "ytlpipniclimgeaagreat", sum := "5fb1067cf90462d42c7008af9b39d1f96118876e2ed839e1290514eb2ed16175", func := "conch/conchlaw18.TabsBytes", spec := "tabsBytes", inPlace := ["internal/abi.NoEscape"], unfollowed := true, recurses := true, plainKeys := false, apart := false }
def TabsBytesSaid : Prop := tabsBytesRow.holds Tryz.pinned (OpenSpec.ofChange tabsBytesSpec)

/-- ITS FALSE NEIGHBOUR: 'it returns false'. Refute it at one input. -/
def tabsBytesWrong : ChangeSpec := { name := "tabsBytes", fn := fun _ => fun
  | [d] => { results := [.lit (.bool false)], args := [d] }
  | _ => none }
def TabsBytesWrongFalsely : Prop := tabsBytesRow.holds Tryz.pinned (OpenSpec.ofChange tabsBytesWrong)

/-- 'conchlaw18.TabsReads': WHATEVER THE INPUT: true; the input reads as it did. -/
def tabsReadsSpec : ChangeSpec := { name := "tabsReads", fn := fun _ => fun
  | [d] => { results := [.lit (.bool true)], args := [d] }
  | _ => none }
def tabsReadsRow : OpenClaim := { program := "ytlpipniclimgeaagreat", sum := "5fb1067cf90462d42c7008af9b39d1f96118876e2ed839e1290514eb2ed16175", func := "conch/conchlaw18.TabsReads", spec := "tabsReads", inPlace := ["internal/abi.NoEscape"], unfollowed := true, recurses := true, plainKeys := false, apart := false }
def TabsReadsSaid : Prop := tabsReadsRow.holds Tryz.pinned (OpenSpec.ofChange tabsReadsSpec)

/-- ITS FALSE NEIGHBOUR: 'it returns false'. Refute it at one input. -/
def tabsReadsWrong : ChangeSpec := { name := "tabsReads", fn := fun _ => fun
  | [d] => { results := [.lit (.bool false)], args := [d] }
  | _ => none }
def TabsReadsWrongFalsely : Prop := tabsReadsRow.holds Tryz.pinned (OpenSpec.ofChange tabsReadsWrong)

/-- 'conchlaw18.TabsCut': WHATEVER THE INPUT: true; the input reads as it did. -/
def tabsCutSpec : ChangeSpec := { name := "tabsCut", fn := fun _ => fun
  | [d1, d2, d3] => { results := [.lit (.bool true)], args := [d1, d2, d3] }
  | _ => none }
def tabsCutRow : OpenClaim := { program := "ytlpipniclimgeaagreat", sum := "5fb1067cf90462d42c7008af9b39d1f96118876e2ed839e1290514eb2ed16175", func := "conch/conchlaw18.TabsCut", spec := "tabsCut", inPlace := ["internal/abi.NoEscape"], unfollowed := true, recurses := true, plainKeys := false, apart := false }
def TabsCutSaid : Prop := tabsCutRow.holds Tryz.pinned (OpenSpec.ofChange tabsCutSpec)

/-- ITS FALSE NEIGHBOUR: 'it returns false'. Refute it at one input. -/
def tabsCutWrong : ChangeSpec := { name := "tabsCut", fn := fun _ => fun
  | [d1, d2, d3] => { results := [.lit (.bool false)], args := [d1, d2, d3] }
  | _ => none }
def TabsCutWrongFalsely : Prop := tabsCutRow.holds Tryz.pinned (OpenSpec.ofChange tabsCutWrong)

/- THE SECOND FORM. 'bulk': how many values and letters a reading holds, each counted each time it is reached (what is shared counts as often as it is met; a slice's spare places count too). A statement '..UptoSaid' is the law's where the arguments, and the package variables that the reading takes, are together of bulk at most 1048576: NARROWER than '..Said'. Prove '..Said' where nothing that the law and all that it calls make is longer than what came in: it says more and counts as full. Else prove '..UptoSaid'. A law counts once. -/
mutual
def uptoBulk {H : Type} : DataW H → Nat
  | .lit (.string bytes) => bytes.length + 1
  | .lit _ => 1
  | .nil => 1
  | .ptr d => uptoBulk d + 1
  | .slice elems spare => uptoBulkAll elems + uptoBulkAll spare + 1
  | .agg parts => uptoBulkAll parts + 1
  | .iface _ d => uptoBulk d + 1
  | .map entries => uptoBulkEntries entries + 1
  | .held _ => 1
def uptoBulkAll {H : Type} : List (DataW H) → Nat
  | [] => 0
  | d :: r => uptoBulk d + uptoBulkAll r
def uptoBulkEntries {H : Type} : List (Lit × DataW H) → Nat
  | [] => 0
  | x :: r => uptoBulkEntry x + uptoBulkEntries r
def uptoBulkEntry {H : Type} : Lit × DataW H → Nat
  | (.string bytes, d) => bytes.length + uptoBulk d + 1
  | (_, d) => uptoBulk d + 1
 end
def uptoSmall : (H : Type) → List (DataW H) → Bool := fun _ ds => decide (uptoBulkAll ds ≤ 1048576)
def OpenSpec.upto (s : _root_.Go.ChangeSpec) : _root_.Go.OpenSpec := { _root_.Go.OpenSpec.ofChange s with cond := some uptoSmall }

/-- 'conchlaw18.TabsBytes', WHERE WHAT IT READS IS OF BULK AT MOST 1048576: true; the input reads as it did. -/
def tabsBytesUptoRow : OpenClaim := { program := "ytlpipniclimgeaagreat", sum := "5fb1067cf90462d42c7008af9b39d1f96118876e2ed839e1290514eb2ed16175", func := "conch/conchlaw18.TabsBytes", spec := "tabsBytes", inPlace := ["internal/abi.NoEscape"], unfollowed := true, recurses := true, plainKeys := false, apart := false, narrowed := true }
def TabsBytesUptoSaid : Prop := tabsBytesUptoRow.holds Tryz.pinned (OpenSpec.upto tabsBytesSpec)

/-- 'conchlaw18.TabsReads', WHERE WHAT IT READS IS OF BULK AT MOST 1048576: true; the input reads as it did. -/
def tabsReadsUptoRow : OpenClaim := { program := "ytlpipniclimgeaagreat", sum := "5fb1067cf90462d42c7008af9b39d1f96118876e2ed839e1290514eb2ed16175", func := "conch/conchlaw18.TabsReads", spec := "tabsReads", inPlace := ["internal/abi.NoEscape"], unfollowed := true, recurses := true, plainKeys := false, apart := false, narrowed := true }
def TabsReadsUptoSaid : Prop := tabsReadsUptoRow.holds Tryz.pinned (OpenSpec.upto tabsReadsSpec)

/-- 'conchlaw18.TabsCut', WHERE WHAT IT READS IS OF BULK AT MOST 1048576: true; the input reads as it did. -/
def tabsCutUptoRow : OpenClaim := { program := "ytlpipniclimgeaagreat", sum := "5fb1067cf90462d42c7008af9b39d1f96118876e2ed839e1290514eb2ed16175", func := "conch/conchlaw18.TabsCut", spec := "tabsCut", inPlace := ["internal/abi.NoEscape"], unfollowed := true, recurses := true, plainKeys := false, apart := false, narrowed := true }
def TabsCutUptoSaid : Prop := tabsCutUptoRow.holds Tryz.pinned (OpenSpec.upto tabsCutSpec)

end Rows
end Go.Proofs.YtlpipniclimgeaaGreat
